/- Contracts: Value of the references. -/
import Derived.Test.YtechkkgmdjgddaaGreatRfA
import Derived.Test.YtechkkgmdjgddaaGreatLwA
set_option linter.all false
namespace Go.Proofs.YtechkkgmdjgddaaGreat
open Go Go.RowKit Go.Proofs
set_option maxRecDepth 100000
set_option maxHeartbeats 4000000

theorem rf_Value_c (x y v : Value) (T : Tbl) (px py : Int) (w : World) (hT : TblAt w x y v T) (ht : tblB T = true) (hO : OnT T px py) :
   Calls Tryz.prog 99 #[.agg #[x, y, v], .int .i64 px, .int .i64 py] w fun e w' =>
     e = .returned (.tuple #[.int .i64 (num T (cellP T.X (px + 1)) (cellP T.Y (py + 1)) px py), .int .i64 (den T (cellP T.X (px + 1)) (cellP T.Y (py + 1)) px py)]) ∧ Below w.heap.size w w' := by
  have hX := tblB_X ht
  have hY := tblB_Y ht
  obtain ⟨⟨ii, pi1, pi2⟩, ⟨kk, pk1, pk2⟩⟩ := flo_ref hX hY hO
  have lX := axisB_len hX
  have lY := axisB_len hY
  have lV := tblB_len ht
  have hTx := hT.x
  have hTy := hT.y
  obtain ⟨Ax, cx, rfl, cx1, cx2, _, hAx⟩ := id hT.x
  obtain ⟨Ay, cy, rfl, cy1, cy2, _, hAy⟩ := id hT.y
  obtain ⟨Av, cv, vs, rfl, cv1, cv2, hAv, hrows⟩ := hT.v
  obtain ⟨bx, ox, rfl, _, hcx⟩ := hAx (by omega)
  obtain ⟨by_, oy, rfl, _, hcy⟩ := hAy (by omega)
  obtain ⟨bv, ov, rfl, _, hcv⟩ := hAv (by omega)
  have si := axisB_step hX ii
  have sk := axisB_step hY kk
  have ri := axisB_range hX ii
  have rk := axisB_range hY kk
  have HP := Lib.hid (fun w1 hv => rf_part_c (.slice (some ⟨bx, ox, none⟩) T.X.length cx) T.X px w1 hv (by omega))
  have HQ := Lib.hid (fun w1 hv => rf_part_c (.slice (some ⟨by_, oy, none⟩) T.Y.length cy) T.Y py w1 hv (by omega))
  rw [den_eq]
  generalize hi : cellP T.X (px + 1) = i at *
  generalize hk : cellP T.Y (py + 1) = k at *
  obtain ⟨l0, v0⟩ := tblB_row ht (show i < T.V.length by omega)
  obtain ⟨l1, v1⟩ := tblB_row ht (show i + 1 < T.V.length by omega)
  obtain ⟨A0, c0, hv0, c01, c02, _, hA0⟩ := hrows i (by omega)
  obtain ⟨A1, c1, hv1, c11, c12, _, hA1⟩ := hrows (i + 1) (by omega)
  obtain ⟨b0, o0, rfl, _, hc0⟩ := hA0 (by omega)
  obtain ⟨b1, o1, rfl, _, hc1⟩ := hA1 (by omega)
  have f1 := hcx i (by omega)
  have f2 := hcx (i + 1) (by omega)
  have f3 := hcy k (by omega)
  have f4 := hcy (k + 1) (by omega)
  have f5 := hcv i (by omega)
  have f6 := hcv (i + 1) (by omega)
  rw [hv0] at f5
  rw [hv1] at f6
  have f7 := hc0 k (by omega)
  have f8 := hc0 (k + 1) (by omega)
  have f9 := hc1 k (by omega)
  have f10 := hc1 (k + 1) (by omega)
  have u1 := v0 k (by omega)
  have u2 := v0 (k + 1) (by omega)
  have u3 := v1 k (by omega)
  have u4 := v1 (k + 1) (by omega)
  clear hcx hcy hcv hc0 hc1 hrows hAv hAx hAy hA0 hA1 hv0 hv1 v0 v1 hT
  rw [l0] at f5
  rw [l1] at f6
  simp only [num]
  clear l0 l1 ht
  have t1 : ((i : Int) + 1).toNat = i + 1 := by omega
  have t2 : ((k : Int) + 1).toNat = k + 1 := by omega
  have n1 : (0 : Int) ≤ (i : Int) + 1 := by omega
  have n2 : (0 : Int) ≤ (k : Int) + 1 := by omega
  have m1 : (i : Int) + 1 < (T.X.length : Int) := by omega
  have m2 : (k : Int) + 1 < (T.Y.length : Int) := by omega
  have m3 : (i : Int) < (T.X.length : Int) := by omega
  have m4 : (k : Int) < (T.Y.length : Int) := by omega
  have m5 : (i : Int) < (T.V.length : Int) := by omega
  have m6 : (i : Int) + 1 < (T.V.length : Int) := by omega
  clear hO
  go_enter Tryz.func99, Tryz.ntmps99
  go_wp2
  go_quiet (first | (go_at_call 107; (with_reducible refine qsame (HP.out _ (hTx.below (by repeat' (first | exact Below.refl _ _ | assumption | refine Below.drew ?_ | refine bdn ?_ _ | refine bal ?_ _ | refine Below.setCell ?_ (by first | (simp; done) | omega | (simp; omega)) _)))))) | (go_at_call 107; (with_reducible refine qsame (HQ.out _ (hTy.below (by repeat' (first | exact Below.refl _ _ | assumption | refine Below.drew ?_ | refine bdn ?_ _ | refine bal ?_ _ | refine Below.setCell ?_ (by first | (simp; done) | omega | (simp; omega)) _)))))))
  go_wp2
  go_quiet (fail)
  go_wp2
  go_quiet (fail)
  go_wp2
  refine wp_region_quiet_lit (by kernel_rfl) (by kernel_rfl) ?_
  simp only [List.append_eq, List.cons_append, List.nil_append]
  iterate 78 go_big_quiet_step (fail)
  refine wpQuiet_nil ?_
  rintro _ ⟨nq, rfl⟩
  have HBD := Lib.hid (And.intro si (And.intro sk (And.intro pi1 (And.intro pi2 (And.intro pk1 (And.intro pk2 (And.intro u1 (And.intro u2 (And.intro u3 u4)))))))))
  clear lX lY lV cx1 cx2 cy1 cy2 cv1 cv2 ii kk pi1 pi2 pk1 pk2 si sk ri rk c01 c02 c11 c12 u1 u2 u3 u4 t1 t2 n1 n2 m1 m2 m3 m4 m5 m6 f1 f2 f3 f4 f5 f6 f7 f8 f9 f10 hi hk
  go_wp2
  obtain ⟨si, sk, pi1, pi2, pk1, pk2, u1, u2, u3, u4⟩ := HBD.out
  have EN := (wnum_eq (A := nth T.X (i + 1) - px) (B := px - nth T.X i) (C := nth T.Y (k + 1) - py) (D := py - nth T.Y k) (by omega) (by omega) (by omega) (by omega) (by omega) (by omega) (by omega) (by omega) u1 u2 u3 u4).1
  have EM := mul_bd (a := nth T.X (i + 1) - nth T.X i) (b := nth T.Y (k + 1) - nth T.Y k) (A := 10000) (B := 10000) (by omega) (by omega) (by omega) (by omega)
  have ED : wrap64 ((nth T.X (i + 1) - nth T.X i) * (nth T.Y (k + 1) - nth T.Y k)) = (nth T.X (i + 1) - nth T.X i) * (nth T.Y (k + 1) - nth T.Y k) := wrap64_in (by omega) (by omega)
  clear si sk pi1 pi2 pk1 pk2 u1 u2 u3 u4 EM
  rw [EN, ED]
  clear EN ED HBD
  generalize (nth T.X (i + 1) - px) * (nth T.Y (k + 1) - py) * nth (nthR T.V i) k + (px - nth T.X i) * (nth T.Y (k + 1) - py) * nth (nthR T.V (i + 1)) k + (nth T.X (i + 1) - px) * (py - nth T.Y k) * nth (nthR T.V i) (k + 1) + (px - nth T.X i) * (py - nth T.Y k) * nth (nthR T.V (i + 1)) (k + 1) = NN
  generalize (nth T.X (i + 1) - nth T.X i) * (nth T.Y (k + 1) - nth T.Y k) = DD
  exact bodyPost_ret (v := .tuple #[.int .i64 NN, .int .i64 DD]) (by first | (simp (maxDischargeDepth := 9) [results, Tryz.results99, go_sem, hc1, hd1]; done) | (simp (maxDischargeDepth := 9) [results, Tryz.results99, go_sem, hc1]; done) | (simp [results, Tryz.results99, go_sem]; done)) rfl (⟨rfl, (by repeat' (first | exact Below.refl _ _ | assumption | refine Below.drew ?_ | refine bdn ?_ _ | refine bal ?_ _ | refine Below.setCell ?_ (by first | (simp; done) | omega | (simp; omega)) _))⟩)
end Go.Proofs.YtechkkgmdjgddaaGreat
