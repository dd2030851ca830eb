/- Contracts: cell, at of package spans. -/
import Derived.Test.YtechkkgmdjgddaaGreatSpB
import Derived.Test.YtechkkgmdjgddaaGreatBas
set_option linter.all false
namespace Go.Proofs.YtechkkgmdjgddaaGreat
open Go Go.RowKit Go.Proofs

theorem axisB_all {l : List Int} (h : axisB l = true) {k : Nat} (hk : k < l.length) : okKnot l k = true := by
  unfold axisB at h; simp only [Bool.and_eq_true, List.all_eq_true] at h; exact h.2 k (List.mem_range.2 hk)
theorem axisB_range {l : List Int} (h : axisB l = true) {k : Nat} (hk : k < l.length) : -1000000 ≤ nth l k ∧ nth l k ≤ 1000000 := okKnot_range (axisB_all h hk)
theorem axisB_step {l : List Int} (h : axisB l = true) {k : Nat} (hk : k + 1 < l.length) : nth l k + 1 ≤ nth l (k + 1) ∧ nth l (k + 1) ≤ nth l k + 10000 := by
  have := axisB_all h hk
  unfold okKnot at this
  simp only [Bool.and_eq_true, Bool.or_eq_true] at this
  rcases this.2 with h2 | h2
  · simp at h2
  · have := inB_iff.1 h2; simp at this; omega
theorem axisB_lt {l : List Int} (h : axisB l = true) {i j : Nat} (hij : i < j) (hj : j < l.length) : nth l i < nth l j := by
  induction j with
  | zero => omega
  | succ j ih =>
    have hs := axisB_step h hj
    by_cases e : i = j
    · subst e; omega
    · have := ih (by omega) (by omega); omega
theorem axisB_le {l : List Int} (h : axisB l = true) {i j : Nat} (hij : i ≤ j) (hj : j < l.length) : nth l i ≤ nth l j := by
  by_cases e : i = j
  · subst e; omega
  · have := axisB_lt h (show i < j by omega) hj; omega

/-- Which part of an axis a number is on, as the program finds it. -/
def cellP (l : List Int) (x : Int) : Nat := lowIx (fun k => nth l (k + 1)) (l.length - 1 - 1) x
theorem lowIx_spec (f : Nat → Int) (n : Nat) (t : Int) : lowIx f n t ≤ n ∧ (∀ j, j < lowIx f n t → f j < t) ∧ (lowIx f n t < n → t ≤ f (lowIx f n t)) := by
  unfold lowIx
  cases h : (List.range n).find? fun j => decide (t ≤ f j) with
  | none =>
    rw [List.find?_eq_none] at h
    refine ⟨by simp, fun j hj => ?_, fun hj => by simp at hj⟩
    have := h j (List.mem_range.2 (by simpa using hj)); simp at this; omega
  | some r =>
    rw [List.find?_range_eq_some] at h
    obtain ⟨h1, h2, h3⟩ := h
    have := List.mem_range.1 h2
    refine ⟨by simp; omega, fun j hj => ?_, fun _ => by simpa using h1⟩
    have := h3 j (by simpa using hj); simp at this; omega
theorem cellP_lt {l : List Int} (h : axisB l = true) (x : Int) : cellP l x + 1 < l.length := by
  have := (lowIx_spec (fun k => nth l (k + 1)) (l.length - 1 - 1) x).1
  have := axisB_len h
  unfold cellP; omega
theorem cellP_in {l : List Int} {x : Int} (h : axisB l = true) (h0 : nth l 0 ≤ x) (h1 : x ≤ nth l (l.length - 1)) : nth l (cellP l x) ≤ x ∧ x ≤ nth l (cellP l x + 1) := by
  have hl := axisB_len h
  obtain ⟨a, b, c⟩ := lowIx_spec (fun k => nth l (k + 1)) (l.length - 1 - 1) x
  unfold cellP
  generalize lowIx (fun k => nth l (k + 1)) (l.length - 1 - 1) x = r at *
  constructor
  · by_cases e : r = 0
    · subst e; exact h0
    · have := b (r - 1) (by omega)
      have e2 : r - 1 + 1 = r := by omega
      rw [e2] at this; omega
  · by_cases e : r < l.length - 1 - 1
    · exact c e
    · have e2 : r + 1 = l.length - 1 := by omega
      rw [e2]; exact h1

theorem cell_c (v : Value) (xs : List Int) (x : Int) (w : World) (hv : Ints w v xs) (ha : axisB xs = true) :
   Calls Tryz.prog 106 #[v, .int .i64 x] w fun e w' => e = .returned (.int .i64 (cellP xs x)) ∧ w = w' := by
  have hl := axisB_len ha
  have HA := Lib.hid ha
  clear ha
  obtain ⟨A, c, rfl, hc1, hc2, _, hA⟩ := hv
  obtain ⟨b, off, rfl, hb, hc⟩ := hA (by omega)
  have hs : CellsAt w (some ⟨b, off + 1, none⟩) (xs.length - 1 - 1) (fun k => .int .i64 (nth xs (k + 1))) := fun h0 => ⟨b, off + 1, rfl, hb, fun k hk => by
    have := hc (k + 1) (by omega)
    rw [show off + 1 + k = off + (k + 1) by omega]; exact this⟩
  have HS := Lib.hid hs
  clear hs hc hA
  have i1 : (2:Int) ≤ (xs.length : Int) := by omega
  have i2 : (xs.length : Int) ≤ 12 := by omega
  go_enter Tryz.func106, Tryz.ntmps106
  go_wp2_with (go_at_call 108; refine (bs_c _ _ _ (fun k => nth xs (k + 1)) _ _ (by omega) HS.out (fun i j hij hj => axisB_le HA.out (by omega) (by omega))).mono ?_; rintro e w1 ⟨bb, rfl, rfl⟩)
  go_ret
  exact ⟨rfl, rfl⟩

/-- The fraction of a table at a point, in the part of the axes that i and k name. -/
def num (T : Tbl) (i k : Nat) (x y : Int) : Int :=
  (nth T.X (i + 1) - x) * (nth T.Y (k + 1) - y) * nth (nthR T.V i) k + (x - nth T.X i) * (nth T.Y (k + 1) - y) * nth (nthR T.V (i + 1)) k
    + (nth T.X (i + 1) - x) * (y - nth T.Y k) * nth (nthR T.V i) (k + 1) + (x - nth T.X i) * (y - nth T.Y k) * nth (nthR T.V (i + 1)) (k + 1)
def den (T : Tbl) (i k : Nat) (x y : Int) : Int :=
  (nth T.X (i + 1) - x + (x - nth T.X i)) * (nth T.Y (k + 1) - y + (y - nth T.Y k))

theorem tblB_len {T : Tbl} (h : tblB T = true) : T.V.length = T.X.length := by
  unfold tblB at h; simp only [Bool.and_eq_true] at h
  have := h.1.2; simp at this; omega
theorem tblB_row {T : Tbl} (h : tblB T = true) {i : Nat} (hi : i < T.V.length) : (nthR T.V i).length = T.Y.length ∧ ∀ k, k < T.Y.length → -1000000 ≤ nth (nthR T.V i) k ∧ nth (nthR T.V i) k ≤ 1000000 := by
  unfold tblB at h; simp only [Bool.and_eq_true] at h
  have h1 : anyRowBad T.Y.length T.V = false := by simpa using h.2
  unfold anyRowBad at h1
  rw [List.any_eq_false] at h1
  have h2 := h1 i (List.mem_range.2 hi)
  simp only [rowBad, Bool.or_eq_true, not_or, Bool.not_eq_true] at h2
  have hl : (nthR T.V i).length = T.Y.length := by have := h2.1; simp at this; omega
  refine ⟨hl, fun k hk => ?_⟩
  have h3 := h2.2
  unfold anyOut at h3
  rw [List.any_eq_false] at h3
  have := h3 k (List.mem_range.2 (by omega))
  exact inB_iff.1 (by simpa using this)

set_option maxHeartbeats 2000000 in
theorem at_c (x y v : Value) (T : Tbl) (px py : Int) (w : World) (hT : TblAt w x y v T) (ht : tblB T = true)
    (hx0 : nth T.X 0 ≤ px) (hx1 : px ≤ nth T.X (T.X.length - 1)) (hy0 : nth T.Y 0 ≤ py) (hy1 : py ≤ nth T.Y (T.Y.length - 1)) :
   Calls Tryz.prog 94 #[.agg #[x, y, v], .int .i64 px, .int .i64 py] w fun e w' =>
     e = .returned (.agg #[.int .i64 (num T (cellP T.X px) (cellP T.Y py) px py), .int .i64 (den T (cellP T.X px) (cellP T.Y py) px py)]) ∧ Below w.heap.size w w' := by
  have hX := tblB_X ht
  have hY := tblB_Y ht
  have lX := axisB_len hX
  have lY := axisB_len hY
  have lV := tblB_len ht
  have hTx := hT.x
  have hTy := hT.y
  obtain ⟨Ax, cx, rfl, cx1, cx2, _, hAx⟩ := id hT.x
  obtain ⟨Ay, cy, rfl, cy1, cy2, _, hAy⟩ := id hT.y
  obtain ⟨Av, cv, vs, rfl, cv1, cv2, hAv, hrows⟩ := hT.v
  obtain ⟨bx, ox, rfl, _, hcx⟩ := hAx (by omega)
  obtain ⟨by_, oy, rfl, _, hcy⟩ := hAy (by omega)
  obtain ⟨bv, ov, rfl, _, hcv⟩ := hAv (by omega)
  have ii := cellP_lt hX px
  have kk := cellP_lt hY py
  have pi := cellP_in hX hx0 hx1
  have pk := cellP_in hY hy0 hy1
  have si := axisB_step hX ii
  have sk := axisB_step hY kk
  have ri := axisB_range hX ii
  have rk := axisB_range hY kk
  generalize hi : cellP T.X px = i at *
  generalize hk : cellP T.Y py = k at *
  obtain ⟨l0, v0⟩ := tblB_row ht (show i < T.V.length by omega)
  obtain ⟨l1, v1⟩ := tblB_row ht (show i + 1 < T.V.length by omega)
  obtain ⟨A0, c0, hv0, c01, c02, _, hA0⟩ := hrows i (by omega)
  obtain ⟨A1, c1, hv1, c11, c12, _, hA1⟩ := hrows (i + 1) (by omega)
  obtain ⟨b0, o0, rfl, _, hc0⟩ := hA0 (by omega)
  obtain ⟨b1, o1, rfl, _, hc1⟩ := hA1 (by omega)
  have f1 := hcx i (by omega)
  have f2 := hcx (i + 1) (by omega)
  have f3 := hcy k (by omega)
  have f4 := hcy (k + 1) (by omega)
  have f5 := hcv i (by omega)
  have f6 := hcv (i + 1) (by omega)
  rw [hv0] at f5
  rw [hv1] at f6
  have f7 := hc0 k (by omega)
  have f8 := hc0 (k + 1) (by omega)
  have f9 := hc1 k (by omega)
  have f10 := hc1 (k + 1) (by omega)
  have u1 := v0 k (by omega)
  have u2 := v0 (k + 1) (by omega)
  have u3 := v1 k (by omega)
  have u4 := v1 (k + 1) (by omega)
  clear hcx hcy hcv hc0 hc1 hrows hAv hAx hAy hA0 hA1 hv0 hv1 v0 v1 hT
  rw [l0] at f5
  rw [l1] at f6
  simp only [num, den]
  clear l0 l1 ht
  have t1 : ((i : Int) + 1).toNat = i + 1 := by omega
  have t2 : ((k : Int) + 1).toNat = k + 1 := by omega
  have n1 : (0 : Int) ≤ (i : Int) + 1 := by omega
  have n2 : (0 : Int) ≤ (k : Int) + 1 := by omega
  have m1 : (i : Int) + 1 < (T.X.length : Int) := by omega
  have m2 : (k : Int) + 1 < (T.Y.length : Int) := by omega
  have m3 : (i : Int) < (T.X.length : Int) := by omega
  have m4 : (k : Int) < (T.Y.length : Int) := by omega
  have m5 : (i : Int) < (T.V.length : Int) := by omega
  have m6 : (i : Int) + 1 < (T.V.length : Int) := by omega
  go_enter Tryz.func94, Tryz.ntmps94
  go_wp2
  go_quiet (first | (go_at_call 106; (with_reducible refine qsame (cell_c _ T.X _ _ (hTx.below (by repeat' (first | exact Below.refl _ _ | assumption | refine Below.drew ?_ | refine bdn ?_ _ | refine bal ?_ _ | refine Below.setCell ?_ (by first | (simp; done) | omega | (simp; omega)) _))) hX))) | (go_at_call 106; (with_reducible refine qsame (cell_c _ T.Y _ _ (hTy.below (by repeat' (first | exact Below.refl _ _ | assumption | refine Below.drew ?_ | refine bdn ?_ _ | refine bal ?_ _ | refine Below.setCell ?_ (by first | (simp; done) | omega | (simp; omega)) _))) hY))))
  go_wp2
  go_quiet (fail)
  go_wp2
  go_quiet (fail)
  go_wp2
  refine wp_region_drawnt 59 (by kernel_rfl) (by kernel_rfl) ?_
  simp only [List.take_succ_cons, List.take_zero, List.drop_succ_cons, List.drop_zero]
  iterate 59 go_big_quiet_step (fail)
  refine wpQuiet_nil ?_
  rintro _ ⟨nq, rfl⟩
  have HBD := Lib.hid (And.intro si (And.intro sk (And.intro pi (And.intro pk (And.intro u1 (And.intro u2 (And.intro u3 u4)))))))
  clear hx0 hx1 hy0 hy1 lX lY lV cx1 cx2 cy1 cy2 cv1 cv2 ii kk pi pk si sk ri rk c01 c02 c11 c12 u1 u2 u3 u4 t1 t2 n1 n2 m1 m2 m3 m4 m5 m6 f1 f2 f3 f4 f5 f6 f7 f8 f9 f10 hi hk
  go_wp2
  obtain ⟨si, sk, pi, pk, u1, u2, u3, u4⟩ := HBD.out
  have EN := (wnum_eq (A := nth T.X (i + 1) - px) (B := px - nth T.X i) (C := nth T.Y (k + 1) - py) (D := py - nth T.Y k) (by omega) (by omega) (by omega) (by omega) (by omega) (by omega) (by omega) (by omega) u1 u2 u3 u4).1
  have ED := wden_eq (A := nth T.X (i + 1) - px) (B := px - nth T.X i) (C := nth T.Y (k + 1) - py) (D := py - nth T.Y k) (by omega) (by omega) (by omega) (by omega) (by omega) (by omega) (by omega) (by omega)
  clear si sk pi pk u1 u2 u3 u4
  rw [EN, ED]
  generalize (nth T.X (i + 1) - px) * (nth T.Y (k + 1) - py) * nth (nthR T.V i) k + (px - nth T.X i) * (nth T.Y (k + 1) - py) * nth (nthR T.V (i + 1)) k + (nth T.X (i + 1) - px) * (py - nth T.Y k) * nth (nthR T.V i) (k + 1) + (px - nth T.X i) * (py - nth T.Y k) * nth (nthR T.V (i + 1)) (k + 1) = NN
  generalize (nth T.X (i + 1) - px + (px - nth T.X i)) * (nth T.Y (k + 1) - py + (py - nth T.Y k)) = DD
  exact bodyPost_ret (v := .agg #[.int .i64 NN, .int .i64 DD]) (by simp [results, Tryz.results94, go_sem]) rfl ⟨rfl, (by repeat' (first | exact Below.refl _ _ | assumption | refine Below.drew ?_ | refine bdn ?_ _ | refine bal ?_ _ | refine Below.setCell ?_ (by first | (simp; done) | omega | (simp; omega)) _))⟩
end Go.Proofs.YtechkkgmdjgddaaGreat
