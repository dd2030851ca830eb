/- Texts joined: JAB. -/
import Derived.Test.YtlambeiafdpkgaaGreatSpB
import Derived.Test.YtlambeiafdpkgaaGreatBas
set_option linter.all false
namespace Go.Proofs.YtlambeiafdpkgaaGreat
open Go Go.RowKit Go.Proofs
theorem axisB_all {l : List Int} (h : axisB l = true) {k : Nat} (hk : k < l.length) : okKnot l k = true := by
 unfold axisB at h; simp only [Bool.and_eq_true, List.all_eq_true] at h; exact h.2 k (List.mem_range.2 hk)
theorem axisB_range {l : List Int} (h : axisB l = true) {k : Nat} (hk : k < l.length) : -1000000 ≤ nth l k ∧ nth l k ≤ 1000000 := okKnot_range (axisB_all h hk)
theorem axisB_step {l : List Int} (h : axisB l = true) {k : Nat} (hk : k + 1 < l.length) : nth l k + 1 ≤ nth l (k + 1) ∧ nth l (k + 1) ≤ nth l k + 10000 := by
 have := axisB_all h hk
 unfold okKnot at this
 simp only [Bool.and_eq_true, Bool.or_eq_true] at this
 rcases this.2 with h2 | h2
 ·simp at h2
 ·have := inB_iff.1 h2; simp at this; omega
theorem axisB_lt {l : List Int} (h : axisB l = true) {i j : Nat} (hij : i < j) (hj : j < l.length) : nth l i < nth l j := by
 induction j with
 | zero => omega
 | succ j ih =>
  have hs := axisB_step h hj
  by_cases e : i = j
  ·subst e; omega
  ·have := ih (by omega) (by omega); omega
theorem axisB_le {l : List Int} (h : axisB l = true) {i j : Nat} (hij : i ≤ j) (hj : j < l.length) : nth l i ≤ nth l j := by
 by_cases e : i = j
 ·subst e; omega
 ·have := axisB_lt h (show i < j by omega) hj; omega
def cellP (l : List Int) (x : Int) : Nat := lowIx (fun k => nth l (k + 1)) (l.length - 1 - 1) x
theorem lowIx_spec (f : Nat → Int) (n : Nat) (t : Int) : lowIx f n t ≤ n ∧ (∀ j, j < lowIx f n t → f j < t) ∧ (lowIx f n t < n → t ≤ f (lowIx f n t)) := by
 unfold lowIx
 cases h : (List.range n).find? fun j => decide (t ≤ f j) with
 | none =>
  rw [List.find?_eq_none] at h
  refine ⟨by simp, fun j hj => ?_, fun hj => by simp at hj⟩
  have := h j (List.mem_range.2 (by simpa using hj)); simp at this; omega
 | some r =>
  rw [List.find?_range_eq_some] at h
  obtain ⟨h1, h2, h3⟩ := h
  have := List.mem_range.1 h2
  refine ⟨by simp; omega, fun j hj => ?_, fun _ => by simpa using h1⟩
  have := h3 j (by simpa using hj); simp at this; omega
theorem cellP_lt {l : List Int} (h : axisB l = true) (x : Int) : cellP l x + 1 < l.length := by
 have := (lowIx_spec (fun k => nth l (k + 1)) (l.length - 1 - 1) x).1
 have := axisB_len h
 unfold cellP; omega
theorem cellP_in {l : List Int} {x : Int} (h : axisB l = true) (h0 : nth l 0 ≤ x) (h1 : x ≤ nth l (l.length - 1)) : nth l (cellP l x) ≤ x ∧ x ≤ nth l (cellP l x + 1) := by
 have hl := axisB_len h
 obtain ⟨a, b, c⟩ := lowIx_spec (fun k => nth l (k + 1)) (l.length - 1 - 1) x
 unfold cellP
 generalize lowIx (fun k => nth l (k + 1)) (l.length - 1 - 1) x = r at *
 constructor
 ·by_cases e : r = 0
  ·subst e; exact h0
  ·have := b (r - 1) (by omega)
   have e2 : r - 1 + 1 = r := by omega
   rw [e2] at this; omega
 ·by_cases e : r < l.length - 1 - 1
  ·exact c e
  ·have e2 : r + 1 = l.length - 1 := by omega
   rw [e2]; exact h1
theorem cell_c (v : Value) (xs : List Int) (x : Int) (w : World) (hv : Ints w v xs) (ha : axisB xs = true) :
  Calls Tryz.prog 175 #[v, .int .i64 x] w fun e w' => e = .returned (.int .i64 (cellP xs x)) ∧ w = w' := by
 have hl := axisB_len ha
 have HA := hI9 ha
 clear ha
 obtain ⟨A, c, rfl, hc1, hc2, _, hA⟩ := hv
 obtain ⟨b, off, rfl, hb, hc⟩ := hA (by omega)
 have hs : CellsAt w (some ⟨b, off + 1, none⟩) (xs.length - 1 - 1) (fun k => .int .i64 (nth xs (k + 1))) := fun h0 => ⟨b, off + 1, rfl, hb, fun k hk => by
  have := hc (k + 1) (by omega)
  rw [show off + 1 + k = off + (k + 1) by omega]; exact this⟩
 have HS := hI9 hs
 clear hs hc hA
 have i1 : (2:Int) ≤ (xs.length : Int) := by omega
 have i2 : (xs.length : Int) ≤ 12 := by omega
 go_enter Tryz.func175, Tryz.ntmps175
 go_wp2_with (go_at_call 192; refine (bs_c _ _ _ (fun k => nth xs (k + 1)) _ _ (by omega) HS.out (fun i j hij hj => axisB_le HA.out (by omega) (by omega))).mono ?_; rintro e w1 ⟨bb, rfl, rfl⟩)
 go_ret
 exact ⟨rfl, rfl⟩
def num (T : Tbl) (i k : Nat) (x y : Int) : Int :=
 (nth T.X (i + 1) - x) * (nth T.Y (k + 1) - y) * nth (nthR T.V i) k + (x - nth T.X i) * (nth T.Y (k + 1) - y) * nth (nthR T.V (i + 1)) k
  + (nth T.X (i + 1) - x) * (y - nth T.Y k) * nth (nthR T.V i) (k + 1) + (x - nth T.X i) * (y - nth T.Y k) * nth (nthR T.V (i + 1)) (k + 1)
def den (T : Tbl) (i k : Nat) (x y : Int) : Int :=
 (nth T.X (i + 1) - x + (x - nth T.X i)) * (nth T.Y (k + 1) - y + (y - nth T.Y k))
theorem tblB_len {T : Tbl} (h : tblB T = true) : T.V.length = T.X.length := by
 unfold tblB at h; simp only [Bool.and_eq_true] at h
 have := h.1.2; simp at this; omega
theorem tblB_row {T : Tbl} (h : tblB T = true) {i : Nat} (hi : i < T.V.length) : (nthR T.V i).length = T.Y.length ∧ ∀ k, k < T.Y.length → -1000000 ≤ nth (nthR T.V i) k ∧ nth (nthR T.V i) k ≤ 1000000 := by
 unfold tblB at h; simp only [Bool.and_eq_true] at h
 have h1 : anyRowBad T.Y.length T.V = false := by simpa using h.2
 unfold anyRowBad at h1
 rw [List.any_eq_false] at h1
 have h2 := h1 i (List.mem_range.2 hi)
 simp only [rowBad, Bool.or_eq_true, not_or, Bool.not_eq_true] at h2
 have hl : (nthR T.V i).length = T.Y.length := by have := h2.1; simp at this; omega
 refine ⟨hl, fun k hk => ?_⟩
 have h3 := h2.2
 unfold anyOut at h3
 rw [List.any_eq_false] at h3
 have := h3 k (List.mem_range.2 (by omega))
 exact inB_iff.1 (by simpa using this)
set_option maxHeartbeats 2000000 in
theorem at_c (x y v : Value) (T : Tbl) (px py : Int) (w : World) (hT : TblAt w x y v T) (ht : tblB T = true)
  (hx0 : nth T.X 0 ≤ px) (hx1 : px ≤ nth T.X (T.X.length - 1)) (hy0 : nth T.Y 0 ≤ py) (hy1 : py ≤ nth T.Y (T.Y.length - 1)) :
  Calls Tryz.prog 157 #[.agg #[x, y, v], .int .i64 px, .int .i64 py] w fun e w' =>
   e = .returned (.agg #[.int .i64 (num T (cellP T.X px) (cellP T.Y py) px py), .int .i64 (den T (cellP T.X px) (cellP T.Y py) px py)]) ∧ Below w.heap.size w w' := by
 have hX := tblB_X ht
 have hY := tblB_Y ht
 have lX := axisB_len hX
 have lY := axisB_len hY
 have lV := tblB_len ht
 have hTx := hT.x
 have hTy := hT.y
 obtain ⟨Ax, cx, rfl, cx1, cx2, _, hAx⟩ := id hT.x
 obtain ⟨Ay, cy, rfl, cy1, cy2, _, hAy⟩ := id hT.y
 obtain ⟨Av, cv, vs, rfl, cv1, cv2, hAv, hrows⟩ := hT.v
 obtain ⟨bx, ox, rfl, _, hcx⟩ := hAx (by omega)
 obtain ⟨by_, oy, rfl, _, hcy⟩ := hAy (by omega)
 obtain ⟨bv, ov, rfl, _, hcv⟩ := hAv (by omega)
 have ii := cellP_lt hX px
 have kk := cellP_lt hY py
 have pi := cellP_in hX hx0 hx1
 have pk := cellP_in hY hy0 hy1
 have si := axisB_step hX ii
 have sk := axisB_step hY kk
 have ri := axisB_range hX ii
 have rk := axisB_range hY kk
 generalize hi : cellP T.X px = i at *
 generalize hk : cellP T.Y py = k at *
 obtain ⟨l0, v0⟩ := tblB_row ht (show i < T.V.length by omega)
 obtain ⟨l1, v1⟩ := tblB_row ht (show i + 1 < T.V.length by omega)
 obtain ⟨A0, c0, hv0, c01, c02, _, hA0⟩ := hrows i (by omega)
 obtain ⟨A1, c1, hv1, c11, c12, _, hA1⟩ := hrows (i + 1) (by omega)
 obtain ⟨b0, o0, rfl, _, hc0⟩ := hA0 (by omega)
 obtain ⟨b1, o1, rfl, _, hc1⟩ := hA1 (by omega)
 have f1 := hcx i (by omega)
 have f2 := hcx (i + 1) (by omega)
 have f3 := hcy k (by omega)
 have f4 := hcy (k + 1) (by omega)
 have f5 := hcv i (by omega)
 have f6 := hcv (i + 1) (by omega)
 rw [hv0] at f5
 rw [hv1] at f6
 have f7 := hc0 k (by omega)
 have f8 := hc0 (k + 1) (by omega)
 have f9 := hc1 k (by omega)
 have f10 := hc1 (k + 1) (by omega)
 have u1 := v0 k (by omega)
 have u2 := v0 (k + 1) (by omega)
 have u3 := v1 k (by omega)
 have u4 := v1 (k + 1) (by omega)
 clear hcx hcy hcv hc0 hc1 hrows hAv hAx hAy hA0 hA1 hv0 hv1 v0 v1 hT
 rw [l0] at f5
 rw [l1] at f6
 simp only [num, den]
 clear l0 l1 ht
 have t1 : ((i : Int) + 1).toNat = i + 1 := by omega
 have t2 : ((k : Int) + 1).toNat = k + 1 := by omega
 have n1 : (0 : Int) ≤ (i : Int) + 1 := by omega
 have n2 : (0 : Int) ≤ (k : Int) + 1 := by omega
 have m1 : (i : Int) + 1 < (T.X.length : Int) := by omega
 have m2 : (k : Int) + 1 < (T.Y.length : Int) := by omega
 have m3 : (i : Int) < (T.X.length : Int) := by omega
 have m4 : (k : Int) < (T.Y.length : Int) := by omega
 have m5 : (i : Int) < (T.V.length : Int) := by omega
 have m6 : (i : Int) + 1 < (T.V.length : Int) := by omega
 go_enter Tryz.func157, Tryz.ntmps157
 go_wp2
 go_quiet (first | (go_at_call 175; (with_reducible refine qsame (cell_c _ T.X _ _ (hTx.below (by repeat' (first | exact Below.refl _ _ | assumption | refine Below.drew ?_ | refine bdn ?_ _ | refine bal ?_ _ | refine Below.setCell ?_ (by first | (simp; done) | omega | (simp; omega)) _))) hX))) | (go_at_call 175; (with_reducible refine qsame (cell_c _ T.Y _ _ (hTy.below (by repeat' (first | exact Below.refl _ _ | assumption | refine Below.drew ?_ | refine bdn ?_ _ | refine bal ?_ _ | refine Below.setCell ?_ (by first | (simp; done) | omega | (simp; omega)) _))) hY))))
 go_wp2
 go_quiet (fail)
 go_wp2
 go_quiet (fail)
 go_wp2
 refine wp_region_drawnt 59 (by kernel_rfl) (by kernel_rfl) ?_
 simp only [List.take_succ_cons, List.take_zero, List.drop_succ_cons, List.drop_zero]
 iterate 59 go_big_quiet_step (fail)
 refine wpQuiet_nil ?_
 rintro _ ⟨nq, rfl⟩
 have HBD := hI9 (And.intro si (And.intro sk (And.intro pi (And.intro pk (And.intro u1 (And.intro u2 (And.intro u3 u4)))))))
 clear hx0 hx1 hy0 hy1 lX lY lV cx1 cx2 cy1 cy2 cv1 cv2 ii kk pi pk si sk ri rk c01 c02 c11 c12 u1 u2 u3 u4 t1 t2 n1 n2 m1 m2 m3 m4 m5 m6 f1 f2 f3 f4 f5 f6 f7 f8 f9 f10 hi hk
 go_wp2
 obtain ⟨si, sk, pi, pk, u1, u2, u3, u4⟩ := HBD.out
 have EN := (wnum_eq (A := nth T.X (i + 1) - px) (B := px - nth T.X i) (C := nth T.Y (k + 1) - py) (D := py - nth T.Y k) (by omega) (by omega) (by omega) (by omega) (by omega) (by omega) (by omega) (by omega) u1 u2 u3 u4).1
 have ED := wden_eq (A := nth T.X (i + 1) - px) (B := px - nth T.X i) (C := nth T.Y (k + 1) - py) (D := py - nth T.Y k) (by omega) (by omega) (by omega) (by omega) (by omega) (by omega) (by omega) (by omega)
 clear si sk pi pk u1 u2 u3 u4
 rw [EN, ED]
 generalize (nth T.X (i + 1) - px) * (nth T.Y (k + 1) - py) * nth (nthR T.V i) k + (px - nth T.X i) * (nth T.Y (k + 1) - py) * nth (nthR T.V (i + 1)) k + (nth T.X (i + 1) - px) * (py - nth T.Y k) * nth (nthR T.V i) (k + 1) + (px - nth T.X i) * (py - nth T.Y k) * nth (nthR T.V (i + 1)) (k + 1) = NN
 generalize (nth T.X (i + 1) - px + (px - nth T.X i)) * (nth T.Y (k + 1) - py + (py - nth T.Y k)) = DD
 exact bodyPost_ret (v := .agg #[.int .i64 NN, .int .i64 DD]) (by simp [results, Tryz.results157, go_sem]) rfl ⟨rfl, (by repeat' (first | exact Below.refl _ _ | assumption | refine Below.drew ?_ | refine bdn ?_ _ | refine bal ?_ _ | refine Below.setCell ?_ (by first | (simp; done) | omega | (simp; omega)) _))⟩
end Go.Proofs.YtlambeiafdpkgaaGreat

namespace Go.Proofs.YtlambeiafdpkgaaGreat
open Go Go.RowKit Go.Proofs
set_option maxHeartbeats 800000 in
theorem or2_c (b c : Nat) (x y : Int) (w : World) (h0 : w.cell? ⟨b, 0, none⟩ = some (.int .i64 x)) (h1 : w.cell? ⟨b, 1, none⟩ = some (.int .i64 y)) :
  Calls Tryz.prog 158 #[.slice (some ⟨b, 0, none⟩) 2 c] w fun e w' => e = .returned (.int .i64 (orV x y)) ∧ w = w' := by
 go_enter Tryz.func158, Tryz.ntmps158
 go_wp2
 go_loop [5, 8] (fun _ s => ∃ k : Nat, k ≤ 2 ∧ s = .int .i64 k ∧ (0 < k → x = 0) ∧ (1 < k → y = 0)) (fun _ i => 2 - (intOf i).toNat)
 case atStart => exact ⟨0, by omega, rfl, fun h => absurd h (by omega), fun h => absurd h (by omega)⟩
 case round =>
  obtain ⟨k, hk, rfl, hx, hy⟩ := hrel
  rcases (show k = 0 ∨ k = 1 ∨ k = 2 by omega) with rfl | rfl | rfl
  ·clear hx hy
   by_cases hz : x = 0
   ·have hz2 : (x != 0) = false := by simp [hz]
    have HZ := hI9 hz
    clear hz
    go_wp2
    go_round
    case rel => exact ⟨1, by omega, by go_num, fun _ => HZ.out, fun h => absurd h (by omega)⟩
    case measure => simp [intOf]
   ·have hz2 : (x != 0) = true := by simp [hz]
    have HZ := hI9 hz
    clear hz
    go_wp2
    go_ret
    exact ⟨ret_int (orV_ne HZ.out).symm, rfl⟩
  ·have HX := hI9 (hx (by omega))
   clear hx hy
   by_cases hz : y = 0
   ·have hz2 : (y != 0) = false := by simp [hz]
    have HZ := hI9 hz
    clear hz
    go_wp2
    go_round
    case rel => exact ⟨2, by omega, by go_num, fun _ => HX.out, fun _ => HZ.out⟩
    case measure => simp [intOf]
   ·have hz2 : (y != 0) = true := by simp [hz]
    have HZ := hI9 hz
    clear hz
    go_wp2
    go_ret
    exact ⟨ret_int (by rw [HX.out, orV_zero]), rfl⟩
  ·have HX := hI9 (hx (by omega))
   have HY := hI9 (hy (by omega))
   clear hx hy
   go_wp2
   go_ret
   exact ⟨ret_int (by rw [HX.out, HY.out, orV_zero]), rfl⟩
theorem up_c (n d : Int) (w : World) (h0 : -4000000000000000000 ≤ n) (h1 : n ≤ 4000000000000000000) (h2 : 1 ≤ d) (h3 : d ≤ 4000000000000000000) :
  Calls Tryz.prog 56 #[.agg #[.int .i64 n, .int .i64 d]] w fun e w' => e = .returned (.int .i64 (cdiv n d)) ∧ Below w.heap.size w w' := by
 go_enter Tryz.func56, Tryz.ntmps56
 go_wp2_with (first | (go_at_call 107; (with_reducible refine (ceil_c _ _ _ h0 h1 h2 h3).mono ?_); rintro e w1 ⟨rfl, rfl⟩))
 go_ret
 exact ⟨rfl, (by repeat' (first | exact Below.refl _ _ | assumption | refine Below.drew ?_ | refine bdn ?_ _ | refine bal ?_ _ | refine Below.setCell ?_ (by first | (simp; done) | omega | (simp; omega)) _))⟩
theorem sub_div {n d : Int} (hd : 1 ≤ d) : 0 ≤ n - n / d * d ∧ n - n / d * d < d := by
 have h1 := Int.emod_nonneg n (show d ≠ 0 by omega)
 have h2 := Int.emod_lt_of_pos n (show 0 < d by omega)
 have h3 := Int.emod_add_mul_ediv n d
 rw [Int.mul_comm] at h3
 omega
set_option maxHeartbeats 1600000 in
theorem compare_c (n1 d1 n2 d2 : Int) (w : World) (h1 : -400000000000000 ≤ n1 ∧ n1 ≤ 400000000000000) (h2 : 1 ≤ d1 ∧ d1 ≤ 400000000) (h3 : -400000000000000 ≤ n2 ∧ n2 ≤ 400000000000000) (h4 : 1 ≤ d2 ∧ d2 ≤ 400000000) :
  Calls Tryz.prog 106 #[.agg #[.int .i64 n1, .int .i64 d1], .agg #[.int .i64 n2, .int .i64 d2]] w fun e w' => e = .returned (.int .i64 (cmpV n1 d1 n2 d2)) ∧ Below w.heap.size w w' := by
 have b1 := ediv_bound (a := n1) (b := d1) (m := 400000000000000) h2.1 (by omega) h1.1 h1.2
 have b2 := ediv_bound (a := n2) (b := d2) (m := 400000000000000) h4.1 (by omega) h3.1 h3.2
 have s1 := sub_div (n := n1) h2.1
 have s2 := sub_div (n := n2) h4.1
 have f1 := fun w => floor_c n1 d1 w (by omega) (by omega) h2.1 (by omega)
 have f2 := fun w => floor_c n2 d2 w (by omega) (by omega) h4.1 (by omega)
 unfold cmpV
 generalize n1 / d1 = a at *
 generalize n2 / d2 = b at *
 have e1 := mul_bd (a := n1 - a * d1) (b := d2) (A := 400000000) (B := 400000000) (by omega) (by omega) (by omega) (by omega)
 have e2 := mul_bd (a := n2 - b * d2) (b := d1) (A := 400000000) (B := 400000000) (by omega) (by omega) (by omega) (by omega)
 have F1 := hI9 f1
 have F2 := hI9 f2
 clear f1 f2
 go_enter Tryz.func106, Tryz.ntmps106
 go_wp2
 go_quiet (first | (go_at_call 55; (with_reducible refine qsame (F1.out _))) | (go_at_call 55; (with_reducible refine qsame (F2.out _))))
 go_wp2_with (first | (go_at_call 158; go_loud (refine (or2_c _ _ (a - b) ((n1 - a * d1) * d2 - (n2 - b * d2) * d1) _ (by first | (simp; done) | (rw [cell_new_at _ _ _ _ _ (by simp)]; first | rfl | (simp; done))) (by first | (simp; done) | (rw [cell_new_at _ _ _ _ _ (by simp)]; first | rfl | (simp; done)))).mono ?_); rintro e w1 ⟨rfl, rfl⟩))
 go_ret
 exact ⟨rfl, (by repeat' (first | exact Below.refl _ _ | assumption | refine Below.drew ?_ | refine bdn ?_ _ | refine bal ?_ _ | refine Below.setCell ?_ (by first | (simp; done) | omega | (simp; omega)) _))⟩
def stopsF (xs : List Int) (lo hi : Int) (k : Nat) : List Int := lo :: (xs.take k).filter fun x => decide (lo < x) && decide (x < hi)
def stopsL (xs : List Int) (lo hi : Int) : List Int := stopsF xs lo hi xs.length ++ if lo < hi then [hi] else []
theorem stopsF_zero (xs : List Int) (lo hi : Int) : stopsF xs lo hi 0 = [lo] := by simp [stopsF]
theorem take_snoc (xs : List Int) (k : Nat) (h : k < xs.length) : xs.take (k + 1) = xs.take k ++ [nth xs k] := by
 rw [List.take_succ_eq_append_getElem h, nth_getElem xs k h]
theorem stopsF_keep (xs : List Int) (lo hi : Int) (k : Nat) (hk : k < xs.length) (h : (decide (lo < nth xs k) && decide (nth xs k < hi)) = true) : stopsF xs lo hi (k + 1) = stopsF xs lo hi k ++ [nth xs k] := by
 unfold stopsF; rw [take_snoc xs k hk, List.filter_append]; simp only [List.filter_cons, h]; simp
theorem stopsF_drop (xs : List Int) (lo hi : Int) (k : Nat) (hk : k < xs.length) (h : (decide (lo < nth xs k) && decide (nth xs k < hi)) = false) : stopsF xs lo hi (k + 1) = stopsF xs lo hi k := by
 unfold stopsF; rw [take_snoc xs k hk, List.filter_append]; simp only [List.filter_cons, h]; simp
theorem stopsF_len (xs : List Int) (lo hi : Int) (k : Nat) : (stopsF xs lo hi k).length ≤ k + 1 := by
 unfold stopsF
 have h1 := List.length_filter_le (fun x => decide (lo < x) && decide (x < hi)) (xs.take k)
 have h2 := List.length_take_le k xs
 simp only [List.length_cons]; omega
theorem one_new (w : World) (u : Value) (t : TypeId) : ∀ j x, [u][j]? = some x → (w.alloc (.cells #[u] t)).cell? ((⟨w.heap.size, 0, none⟩ : Addr).add j) = some x := by
 intro j x h
 match j, h with
 | 0, h => simp at h; subst h; simp [Addr.add]
theorem Tryz.infoInt : (Tryz.prog.info? 3).map (fun i => (i.zero, i.size, i.bytes)) = some (some (.int .i64 0), 1, 8) := by kernel_rfl
theorem Tryz.undInts : Tryz.prog.underlying 35 = some (.slice 3) := by kernel_rfl
set_option maxRecDepth 100000 in
set_option maxHeartbeats 1600000 in
theorem stops_c (v : Value) (xs : List Int) (lo hi : Int) (w : World) (hv : Ints w v xs) (hn : xs.length ≤ 1000) :
  Calls Tryz.prog 156 #[v, .agg #[.int .i64 lo, .int .i64 hi]] w fun e w' =>
   ∃ r, e = .returned r ∧ w'.ownsRow (w.heap.size + 1) 3 1 r (stopsL xs lo hi).length ((stopsL xs lo hi).map (Value.int .i64)) ∧ Below w.heap.size w w' := by
 obtain ⟨A, c, rfl, hc1, hc2, _, hA⟩ := hv
 obtain ⟨i0, hi0, hz0, hz1, hz2⟩ := info_parts Tryz.infoInt
 generalize hL : xs.length = n at *
 have HL := hI9 hL
 clear hL
 go_enter Tryz.func156, Tryz.ntmps156
 go_wp2
 go_loopw [5, 7, 13] (fun s5 _ s13 wr => ∃ k : Nat, k ≤ n ∧ s13 = .int .i64 k ∧ wr.ownsRow (w.heap.size + 1) 3 1 s5 (stopsF xs lo hi k).length ((stopsF xs lo hi k).map (Value.int .i64)) ∧ Hid (Below w.heap.size w wr)
   ∧ wr.cell? ⟨w.heap.size, 0, none⟩ = some (.int .i64 lo) ∧ wr.cell? ⟨w.heap.size, 1, none⟩ = some (.int .i64 hi)) (fun _ _ i _ => n - (intOf i).toNat)
 case atStart =>
  refine ⟨0, by omega, rfl, ?_, ?_, ?_, ?_⟩
  ·rw [stopsF_zero]
   have h := World.ownsRow_lit (base := w.heap.size + 1) (e := 3) (size := 1) (w.alloc (.cells #[.int .i64 lo, .int .i64 hi] 28)) #[.int .i64 lo] 1 (by simp) (by decide) (by simp)
   simpa using h
  ·exact (by repeat' (first | exact Below.refl _ _ | assumption | refine Below.drew ?_ | refine bdn ?_ _ | refine bal ?_ _ | refine Below.setCell ?_ (by first | (simp; done) | omega | (simp; omega)) _))
  ·simp
  ·simp
 case round =>
  obtain ⟨k, hk, rfl, hown, hB, hl, hh⟩ := hrel
  have hsz := hB.out.size
  by_cases hlt : k < n
  ·obtain ⟨b, off, rfl, hb, hc⟩ := hA (by omega)
   have hck := (hB.out.cell (p := ⟨b, off + k, none⟩) hb).trans (hc k hlt)
   clear hc hA
   have hll := stopsF_len xs lo hi k
   cases h1 : decide (lo < nth xs k)
   ·have hd : Hid (stopsF xs lo hi (k + 1) = stopsF xs lo hi k) := stopsF_drop xs lo hi k (by rw [HL.out]; exact hlt) (by simp [h1])
    go_wp2
    go_roundw
    case rel => exact ⟨k + 1, by omega, by go_num, by rw [hd.out]; exact hown, hB, hl, hh⟩
    case measure => simp [intOf]; omega
   ·cases h2 : decide (nth xs k < hi)
    ·have hd : Hid (stopsF xs lo hi (k + 1) = stopsF xs lo hi k) := stopsF_drop xs lo hi k (by rw [HL.out]; exact hlt) (by simp [h2])
     go_wp2
     go_roundw
     case rel => exact ⟨k + 1, by omega, by go_num, by rw [hd.out]; exact hown, hB, hl, hh⟩
     case measure => simp [intOf]; omega
    ·have hd : Hid (stopsF xs lo hi (k + 1) = stopsF xs lo hi k ++ [nth xs k]) := stopsF_keep xs lo hi k (by rw [HL.out]; exact hlt) (by simp [h1, h2])
     go_wp2_with (at_builtin; go_loud (refine wpList_append_own _ rfl _ _ 35 rfl (w.heap.size + 1) 3 i0 (.int .i64 0) 1 8 Tryz.undInts hi0 hz0 hz1 hz2 rfl (by decide) _ _ _ rfl (hown.alloc _) ⟨wr.heap.size, 0, none⟩ 1 1 [.int .i64 (nth xs k)] rfl rfl ?c1 ?c2 ?c3 ?c4 ?c5 ?_))
     case c2 => rfl
     case c3 => unfold maxLen; omega
     case c4 => omega
     ·intro v' w1 hown' hgrow _
      have hlt' := hown.lt
      have hB1 : Hid (Below w.heap.size w w1) := ((bal hB.out _).grown hgrow (by simp; omega) (fun g hg => by have := (hown.lt g hg).1; omega))
      have hl1 : w1.cell? ⟨w.heap.size, 0, none⟩ = some (.int .i64 lo) := hgrow.cell (by rw [World.cell?_alloc_lt _ _ _ (blk_lt hl)]; exact hl) (fun e => by have h9 := (hown.lt _ e.symm).1; dsimp only at h9; omega)
      have hh1 : w1.cell? ⟨w.heap.size, 1, none⟩ = some (.int .i64 hi) := hgrow.cell (by rw [World.cell?_alloc_lt _ _ _ (blk_lt hh)]; exact hh) (fun e => by have h9 := (hown.lt _ e.symm).1; dsimp only at h9; omega)
      clear hl hh hown hlt'
      go_wp2
      go_roundw
      case rel => exact ⟨k + 1, by omega, by go_num, by rw [hd.out]; simpa using hown', hB1, hl1, hh1⟩
      case measure => simp [intOf]; omega
  ·obtain rfl : k = n := by omega
   clear hA
   have hll := stopsF_len xs lo hi k
   have hf : Hid (stopsL xs lo hi = stopsF xs lo hi k ++ if lo < hi then [hi] else []) := by show stopsL xs lo hi = _; unfold stopsL; rw [HL.out]
   by_cases hlh : lo < hi
   ·go_wp2_with (at_builtin; go_loud (refine wpList_append_own _ rfl _ _ 35 rfl (w.heap.size + 1) 3 i0 (.int .i64 0) 1 8 Tryz.undInts hi0 hz0 hz1 hz2 rfl (by decide) _ _ _ rfl (hown.alloc _) ⟨wr.heap.size, 0, none⟩ 1 1 [.int .i64 hi] rfl rfl ?d1 ?d2 ?d3 ?d4 ?d5 ?_))
    case d1 => exact one_new _ _ _
    case d2 => intro u hu; simp at hu; subst hu; rfl
    case d3 => unfold maxLen; omega
    case d4 => omega
    case d5 => simp; omega
    ·intro v' w1 hown' hgrow _
     have hB1 : Hid (Below w.heap.size w w1) := ((bal hB.out _).grown hgrow (by simp; omega) (fun g hg => by have := (hown.lt g hg).1; omega))
     clear hl hh hown
     go_wp2
     go_ret
     refine ⟨_, rfl, ?_, hB1.out⟩
     rw [hf.out, if_pos hlh]; simpa using hown'
   ·have HLH := hI9 hlh
    go_wp2
    go_ret
    refine ⟨_, rfl, ?_, hB.out⟩
    rw [hf.out, if_neg (by have := HLH.out; omega)]; simpa using hown
end Go.Proofs.YtlambeiafdpkgaaGreat
