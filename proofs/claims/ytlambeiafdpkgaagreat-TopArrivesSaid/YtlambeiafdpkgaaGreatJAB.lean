/- Texts joined: JAB. -/
import Derived.Test.YtlambeiafdpkgaaGreatSpB
import Derived.Test.YtlambeiafdpkgaaGreatBas
import Derived.Deep.Slices
import Derived.ChangeArms
import Derived.ChangeSlices
import Derived.WideShapes
set_option linter.all false
namespace Go.Proofs.YtlambeiafdpkgaaGreat
open Go Go.RowKit Go.Proofs
theorem axisB_all {l : List Int} (h : axisB l = true) {k : Nat} (hk : k < l.length) : okKnot l k = true := by
 unfold axisB at h; simp only [Bool.and_eq_true, List.all_eq_true] at h; exact h.2 k (List.mem_range.2 hk)
theorem axisB_range {l : List Int} (h : axisB l = true) {k : Nat} (hk : k < l.length) : -1000000 ≤ nth l k ∧ nth l k ≤ 1000000 := okKnot_range (axisB_all h hk)
theorem axisB_step {l : List Int} (h : axisB l = true) {k : Nat} (hk : k + 1 < l.length) : nth l k + 1 ≤ nth l (k + 1) ∧ nth l (k + 1) ≤ nth l k + 10000 := by
 have := axisB_all h hk
 unfold okKnot at this
 simp only [Bool.and_eq_true, Bool.or_eq_true] at this
 rcases this.2 with h2 | h2
 ·simp at h2
 ·have := inB_iff.1 h2; simp at this; omega
theorem axisB_lt {l : List Int} (h : axisB l = true) {i j : Nat} (hij : i < j) (hj : j < l.length) : nth l i < nth l j := by
 induction j with
 | zero => omega
 | succ j ih =>
  have hs := axisB_step h hj
  by_cases e : i = j
  ·subst e; omega
  ·have := ih (by omega) (by omega); omega
theorem axisB_le {l : List Int} (h : axisB l = true) {i j : Nat} (hij : i ≤ j) (hj : j < l.length) : nth l i ≤ nth l j := by
 by_cases e : i = j
 ·subst e; omega
 ·have := axisB_lt h (show i < j by omega) hj; omega
def cellP (l : List Int) (x : Int) : Nat := lowIx (fun k => nth l (k + 1)) (l.length - 1 - 1) x
theorem lowIx_spec (f : Nat → Int) (n : Nat) (t : Int) : lowIx f n t ≤ n ∧ (∀ j, j < lowIx f n t → f j < t) ∧ (lowIx f n t < n → t ≤ f (lowIx f n t)) := by
 unfold lowIx
 cases h : (List.range n).find? fun j => decide (t ≤ f j) with
 | none =>
  rw [List.find?_eq_none] at h
  refine ⟨by simp, fun j hj => ?_, fun hj => by simp at hj⟩
  have := h j (List.mem_range.2 (by simpa using hj)); simp at this; omega
 | some r =>
  rw [List.find?_range_eq_some] at h
  obtain ⟨h1, h2, h3⟩ := h
  have := List.mem_range.1 h2
  refine ⟨by simp; omega, fun j hj => ?_, fun _ => by simpa using h1⟩
  have := h3 j (by simpa using hj); simp at this; omega
theorem cellP_lt {l : List Int} (h : axisB l = true) (x : Int) : cellP l x + 1 < l.length := by
 have := (lowIx_spec (fun k => nth l (k + 1)) (l.length - 1 - 1) x).1
 have := axisB_len h
 unfold cellP; omega
theorem cellP_in {l : List Int} {x : Int} (h : axisB l = true) (h0 : nth l 0 ≤ x) (h1 : x ≤ nth l (l.length - 1)) : nth l (cellP l x) ≤ x ∧ x ≤ nth l (cellP l x + 1) := by
 have hl := axisB_len h
 obtain ⟨a, b, c⟩ := lowIx_spec (fun k => nth l (k + 1)) (l.length - 1 - 1) x
 unfold cellP
 generalize lowIx (fun k => nth l (k + 1)) (l.length - 1 - 1) x = r at *
 constructor
 ·by_cases e : r = 0
  ·subst e; exact h0
  ·have := b (r - 1) (by omega)
   have e2 : r - 1 + 1 = r := by omega
   rw [e2] at this; omega
 ·by_cases e : r < l.length - 1 - 1
  ·exact c e
  ·have e2 : r + 1 = l.length - 1 := by omega
   rw [e2]; exact h1
theorem cell_c (v : Value) (xs : List Int) (x : Int) (w : World) (hv : Ints w v xs) (ha : axisB xs = true) :
  Calls Tryz.prog 175 #[v, .int .i64 x] w fun e w' => e = .returned (.int .i64 (cellP xs x)) ∧ w = w' := by
 have hl := axisB_len ha
 have HA := hI9 ha
 clear ha
 obtain ⟨A, c, rfl, hc1, hc2, _, hA⟩ := hv
 obtain ⟨b, off, rfl, hb, hc⟩ := hA (by omega)
 have hs : CellsAt w (some ⟨b, off + 1, none⟩) (xs.length - 1 - 1) (fun k => .int .i64 (nth xs (k + 1))) := fun h0 => ⟨b, off + 1, rfl, hb, fun k hk => by
  have := hc (k + 1) (by omega)
  rw [show off + 1 + k = off + (k + 1) by omega]; exact this⟩
 have HS := hI9 hs
 clear hs hc hA
 have i1 : (2:Int) ≤ (xs.length : Int) := by omega
 have i2 : (xs.length : Int) ≤ 12 := by omega
 go_enter Tryz.func175, Tryz.ntmps175
 go_wp2_with (go_at_call 192; refine (bs_c _ _ _ (fun k => nth xs (k + 1)) _ _ (by omega) HS.out (fun i j hij hj => axisB_le HA.out (by omega) (by omega))).mono ?_; rintro e w1 ⟨bb, rfl, rfl⟩)
 go_ret
 exact ⟨rfl, rfl⟩
def num (T : Tbl) (i k : Nat) (x y : Int) : Int :=
 (nth T.X (i + 1) - x) * (nth T.Y (k + 1) - y) * nth (nthR T.V i) k + (x - nth T.X i) * (nth T.Y (k + 1) - y) * nth (nthR T.V (i + 1)) k
  + (nth T.X (i + 1) - x) * (y - nth T.Y k) * nth (nthR T.V i) (k + 1) + (x - nth T.X i) * (y - nth T.Y k) * nth (nthR T.V (i + 1)) (k + 1)
def den (T : Tbl) (i k : Nat) (x y : Int) : Int :=
 (nth T.X (i + 1) - x + (x - nth T.X i)) * (nth T.Y (k + 1) - y + (y - nth T.Y k))
theorem tblB_len {T : Tbl} (h : tblB T = true) : T.V.length = T.X.length := by
 unfold tblB at h; simp only [Bool.and_eq_true] at h
 have := h.1.2; simp at this; omega
theorem tblB_row {T : Tbl} (h : tblB T = true) {i : Nat} (hi : i < T.V.length) : (nthR T.V i).length = T.Y.length ∧ ∀ k, k < T.Y.length → -1000000 ≤ nth (nthR T.V i) k ∧ nth (nthR T.V i) k ≤ 1000000 := by
 unfold tblB at h; simp only [Bool.and_eq_true] at h
 have h1 : anyRowBad T.Y.length T.V = false := by simpa using h.2
 unfold anyRowBad at h1
 rw [List.any_eq_false] at h1
 have h2 := h1 i (List.mem_range.2 hi)
 simp only [rowBad, Bool.or_eq_true, not_or, Bool.not_eq_true] at h2
 have hl : (nthR T.V i).length = T.Y.length := by have := h2.1; simp at this; omega
 refine ⟨hl, fun k hk => ?_⟩
 have h3 := h2.2
 unfold anyOut at h3
 rw [List.any_eq_false] at h3
 have := h3 k (List.mem_range.2 (by omega))
 exact inB_iff.1 (by simpa using this)
set_option maxHeartbeats 2000000 in
theorem at_c (x y v : Value) (T : Tbl) (px py : Int) (w : World) (hT : TblAt w x y v T) (ht : tblB T = true)
  (hx0 : nth T.X 0 ≤ px) (hx1 : px ≤ nth T.X (T.X.length - 1)) (hy0 : nth T.Y 0 ≤ py) (hy1 : py ≤ nth T.Y (T.Y.length - 1)) :
  Calls Tryz.prog 157 #[.agg #[x, y, v], .int .i64 px, .int .i64 py] w fun e w' =>
   e = .returned (.agg #[.int .i64 (num T (cellP T.X px) (cellP T.Y py) px py), .int .i64 (den T (cellP T.X px) (cellP T.Y py) px py)]) ∧ Below w.heap.size w w' := by
 have hX := tblB_X ht
 have hY := tblB_Y ht
 have lX := axisB_len hX
 have lY := axisB_len hY
 have lV := tblB_len ht
 have hTx := hT.x
 have hTy := hT.y
 obtain ⟨Ax, cx, rfl, cx1, cx2, _, hAx⟩ := id hT.x
 obtain ⟨Ay, cy, rfl, cy1, cy2, _, hAy⟩ := id hT.y
 obtain ⟨Av, cv, vs, rfl, cv1, cv2, hAv, hrows⟩ := hT.v
 obtain ⟨bx, ox, rfl, _, hcx⟩ := hAx (by omega)
 obtain ⟨by_, oy, rfl, _, hcy⟩ := hAy (by omega)
 obtain ⟨bv, ov, rfl, _, hcv⟩ := hAv (by omega)
 have ii := cellP_lt hX px
 have kk := cellP_lt hY py
 have pi := cellP_in hX hx0 hx1
 have pk := cellP_in hY hy0 hy1
 have si := axisB_step hX ii
 have sk := axisB_step hY kk
 have ri := axisB_range hX ii
 have rk := axisB_range hY kk
 generalize hi : cellP T.X px = i at *
 generalize hk : cellP T.Y py = k at *
 obtain ⟨l0, v0⟩ := tblB_row ht (show i < T.V.length by omega)
 obtain ⟨l1, v1⟩ := tblB_row ht (show i + 1 < T.V.length by omega)
 obtain ⟨A0, c0, hv0, c01, c02, _, hA0⟩ := hrows i (by omega)
 obtain ⟨A1, c1, hv1, c11, c12, _, hA1⟩ := hrows (i + 1) (by omega)
 obtain ⟨b0, o0, rfl, _, hc0⟩ := hA0 (by omega)
 obtain ⟨b1, o1, rfl, _, hc1⟩ := hA1 (by omega)
 have f1 := hcx i (by omega)
 have f2 := hcx (i + 1) (by omega)
 have f3 := hcy k (by omega)
 have f4 := hcy (k + 1) (by omega)
 have f5 := hcv i (by omega)
 have f6 := hcv (i + 1) (by omega)
 rw [hv0] at f5
 rw [hv1] at f6
 have f7 := hc0 k (by omega)
 have f8 := hc0 (k + 1) (by omega)
 have f9 := hc1 k (by omega)
 have f10 := hc1 (k + 1) (by omega)
 have u1 := v0 k (by omega)
 have u2 := v0 (k + 1) (by omega)
 have u3 := v1 k (by omega)
 have u4 := v1 (k + 1) (by omega)
 clear hcx hcy hcv hc0 hc1 hrows hAv hAx hAy hA0 hA1 hv0 hv1 v0 v1 hT
 rw [l0] at f5
 rw [l1] at f6
 simp only [num, den]
 clear l0 l1 ht
 have t1 : ((i : Int) + 1).toNat = i + 1 := by omega
 have t2 : ((k : Int) + 1).toNat = k + 1 := by omega
 have n1 : (0 : Int) ≤ (i : Int) + 1 := by omega
 have n2 : (0 : Int) ≤ (k : Int) + 1 := by omega
 have m1 : (i : Int) + 1 < (T.X.length : Int) := by omega
 have m2 : (k : Int) + 1 < (T.Y.length : Int) := by omega
 have m3 : (i : Int) < (T.X.length : Int) := by omega
 have m4 : (k : Int) < (T.Y.length : Int) := by omega
 have m5 : (i : Int) < (T.V.length : Int) := by omega
 have m6 : (i : Int) + 1 < (T.V.length : Int) := by omega
 go_enter Tryz.func157, Tryz.ntmps157
 go_wp2
 go_quiet (first | (go_at_call 175; (with_reducible refine qsame (cell_c _ T.X _ _ (hTx.below (by repeat' (first | exact Below.refl _ _ | assumption | refine Below.drew ?_ | refine bdn ?_ _ | refine bal ?_ _ | refine Below.setCell ?_ (by first | (simp; done) | omega | (simp; omega)) _))) hX))) | (go_at_call 175; (with_reducible refine qsame (cell_c _ T.Y _ _ (hTy.below (by repeat' (first | exact Below.refl _ _ | assumption | refine Below.drew ?_ | refine bdn ?_ _ | refine bal ?_ _ | refine Below.setCell ?_ (by first | (simp; done) | omega | (simp; omega)) _))) hY))))
 go_wp2
 go_quiet (fail)
 go_wp2
 go_quiet (fail)
 go_wp2
 refine wp_region_drawnt 59 (by kernel_rfl) (by kernel_rfl) ?_
 simp only [List.take_succ_cons, List.take_zero, List.drop_succ_cons, List.drop_zero]
 iterate 59 go_big_quiet_step (fail)
 refine wpQuiet_nil ?_
 rintro _ ⟨nq, rfl⟩
 have HBD := hI9 (And.intro si (And.intro sk (And.intro pi (And.intro pk (And.intro u1 (And.intro u2 (And.intro u3 u4)))))))
 clear hx0 hx1 hy0 hy1 lX lY lV cx1 cx2 cy1 cy2 cv1 cv2 ii kk pi pk si sk ri rk c01 c02 c11 c12 u1 u2 u3 u4 t1 t2 n1 n2 m1 m2 m3 m4 m5 m6 f1 f2 f3 f4 f5 f6 f7 f8 f9 f10 hi hk
 go_wp2
 obtain ⟨si, sk, pi, pk, u1, u2, u3, u4⟩ := HBD.out
 have EN := (wnum_eq (A := nth T.X (i + 1) - px) (B := px - nth T.X i) (C := nth T.Y (k + 1) - py) (D := py - nth T.Y k) (by omega) (by omega) (by omega) (by omega) (by omega) (by omega) (by omega) (by omega) u1 u2 u3 u4).1
 have ED := wden_eq (A := nth T.X (i + 1) - px) (B := px - nth T.X i) (C := nth T.Y (k + 1) - py) (D := py - nth T.Y k) (by omega) (by omega) (by omega) (by omega) (by omega) (by omega) (by omega) (by omega)
 clear si sk pi pk u1 u2 u3 u4
 rw [EN, ED]
 generalize (nth T.X (i + 1) - px) * (nth T.Y (k + 1) - py) * nth (nthR T.V i) k + (px - nth T.X i) * (nth T.Y (k + 1) - py) * nth (nthR T.V (i + 1)) k + (nth T.X (i + 1) - px) * (py - nth T.Y k) * nth (nthR T.V i) (k + 1) + (px - nth T.X i) * (py - nth T.Y k) * nth (nthR T.V (i + 1)) (k + 1) = NN
 generalize (nth T.X (i + 1) - px + (px - nth T.X i)) * (nth T.Y (k + 1) - py + (py - nth T.Y k)) = DD
 exact bodyPost_ret (v := .agg #[.int .i64 NN, .int .i64 DD]) (by simp [results, Tryz.results157, go_sem]) rfl ⟨rfl, (by repeat' (first | exact Below.refl _ _ | assumption | refine Below.drew ?_ | refine bdn ?_ _ | refine bal ?_ _ | refine Below.setCell ?_ (by first | (simp; done) | omega | (simp; omega)) _))⟩
end Go.Proofs.YtlambeiafdpkgaaGreat

namespace Go.Proofs.YtlambeiafdpkgaaGreat
open Go Go.RowKit Go.Proofs
set_option maxHeartbeats 800000 in
theorem or2_c (b c : Nat) (x y : Int) (w : World) (h0 : w.cell? ⟨b, 0, none⟩ = some (.int .i64 x)) (h1 : w.cell? ⟨b, 1, none⟩ = some (.int .i64 y)) :
  Calls Tryz.prog 158 #[.slice (some ⟨b, 0, none⟩) 2 c] w fun e w' => e = .returned (.int .i64 (orV x y)) ∧ w = w' := by
 go_enter Tryz.func158, Tryz.ntmps158
 go_wp2
 go_loop [5, 8] (fun _ s => ∃ k : Nat, k ≤ 2 ∧ s = .int .i64 k ∧ (0 < k → x = 0) ∧ (1 < k → y = 0)) (fun _ i => 2 - (intOf i).toNat)
 case atStart => exact ⟨0, by omega, rfl, fun h => absurd h (by omega), fun h => absurd h (by omega)⟩
 case round =>
  obtain ⟨k, hk, rfl, hx, hy⟩ := hrel
  rcases (show k = 0 ∨ k = 1 ∨ k = 2 by omega) with rfl | rfl | rfl
  ·clear hx hy
   by_cases hz : x = 0
   ·have hz2 : (x != 0) = false := by simp [hz]
    have HZ := hI9 hz
    clear hz
    go_wp2
    go_round
    case rel => exact ⟨1, by omega, by go_num, fun _ => HZ.out, fun h => absurd h (by omega)⟩
    case measure => simp [intOf]
   ·have hz2 : (x != 0) = true := by simp [hz]
    have HZ := hI9 hz
    clear hz
    go_wp2
    go_ret
    exact ⟨ret_int (orV_ne HZ.out).symm, rfl⟩
  ·have HX := hI9 (hx (by omega))
   clear hx hy
   by_cases hz : y = 0
   ·have hz2 : (y != 0) = false := by simp [hz]
    have HZ := hI9 hz
    clear hz
    go_wp2
    go_round
    case rel => exact ⟨2, by omega, by go_num, fun _ => HX.out, fun _ => HZ.out⟩
    case measure => simp [intOf]
   ·have hz2 : (y != 0) = true := by simp [hz]
    have HZ := hI9 hz
    clear hz
    go_wp2
    go_ret
    exact ⟨ret_int (by rw [HX.out, orV_zero]), rfl⟩
  ·have HX := hI9 (hx (by omega))
   have HY := hI9 (hy (by omega))
   clear hx hy
   go_wp2
   go_ret
   exact ⟨ret_int (by rw [HX.out, HY.out, orV_zero]), rfl⟩
theorem up_c (n d : Int) (w : World) (h0 : -4000000000000000000 ≤ n) (h1 : n ≤ 4000000000000000000) (h2 : 1 ≤ d) (h3 : d ≤ 4000000000000000000) :
  Calls Tryz.prog 56 #[.agg #[.int .i64 n, .int .i64 d]] w fun e w' => e = .returned (.int .i64 (cdiv n d)) ∧ Below w.heap.size w w' := by
 go_enter Tryz.func56, Tryz.ntmps56
 go_wp2_with (first | (go_at_call 107; (with_reducible refine (ceil_c _ _ _ h0 h1 h2 h3).mono ?_); rintro e w1 ⟨rfl, rfl⟩))
 go_ret
 exact ⟨rfl, (by repeat' (first | exact Below.refl _ _ | assumption | refine Below.drew ?_ | refine bdn ?_ _ | refine bal ?_ _ | refine Below.setCell ?_ (by first | (simp; done) | omega | (simp; omega)) _))⟩
theorem sub_div {n d : Int} (hd : 1 ≤ d) : 0 ≤ n - n / d * d ∧ n - n / d * d < d := by
 have h1 := Int.emod_nonneg n (show d ≠ 0 by omega)
 have h2 := Int.emod_lt_of_pos n (show 0 < d by omega)
 have h3 := Int.emod_add_mul_ediv n d
 rw [Int.mul_comm] at h3
 omega
set_option maxHeartbeats 1600000 in
theorem compare_c (n1 d1 n2 d2 : Int) (w : World) (h1 : -400000000000000 ≤ n1 ∧ n1 ≤ 400000000000000) (h2 : 1 ≤ d1 ∧ d1 ≤ 400000000) (h3 : -400000000000000 ≤ n2 ∧ n2 ≤ 400000000000000) (h4 : 1 ≤ d2 ∧ d2 ≤ 400000000) :
  Calls Tryz.prog 106 #[.agg #[.int .i64 n1, .int .i64 d1], .agg #[.int .i64 n2, .int .i64 d2]] w fun e w' => e = .returned (.int .i64 (cmpV n1 d1 n2 d2)) ∧ Below w.heap.size w w' := by
 have b1 := ediv_bound (a := n1) (b := d1) (m := 400000000000000) h2.1 (by omega) h1.1 h1.2
 have b2 := ediv_bound (a := n2) (b := d2) (m := 400000000000000) h4.1 (by omega) h3.1 h3.2
 have s1 := sub_div (n := n1) h2.1
 have s2 := sub_div (n := n2) h4.1
 have f1 := fun w => floor_c n1 d1 w (by omega) (by omega) h2.1 (by omega)
 have f2 := fun w => floor_c n2 d2 w (by omega) (by omega) h4.1 (by omega)
 unfold cmpV
 generalize n1 / d1 = a at *
 generalize n2 / d2 = b at *
 have e1 := mul_bd (a := n1 - a * d1) (b := d2) (A := 400000000) (B := 400000000) (by omega) (by omega) (by omega) (by omega)
 have e2 := mul_bd (a := n2 - b * d2) (b := d1) (A := 400000000) (B := 400000000) (by omega) (by omega) (by omega) (by omega)
 have F1 := hI9 f1
 have F2 := hI9 f2
 clear f1 f2
 go_enter Tryz.func106, Tryz.ntmps106
 go_wp2
 go_quiet (first | (go_at_call 55; (with_reducible refine qsame (F1.out _))) | (go_at_call 55; (with_reducible refine qsame (F2.out _))))
 go_wp2_with (first | (go_at_call 158; go_loud (refine (or2_c _ _ (a - b) ((n1 - a * d1) * d2 - (n2 - b * d2) * d1) _ (by first | (simp; done) | (rw [cell_new_at _ _ _ _ _ (by simp)]; first | rfl | (simp; done))) (by first | (simp; done) | (rw [cell_new_at _ _ _ _ _ (by simp)]; first | rfl | (simp; done)))).mono ?_); rintro e w1 ⟨rfl, rfl⟩))
 go_ret
 exact ⟨rfl, (by repeat' (first | exact Below.refl _ _ | assumption | refine Below.drew ?_ | refine bdn ?_ _ | refine bal ?_ _ | refine Below.setCell ?_ (by first | (simp; done) | omega | (simp; omega)) _))⟩
def stopsF (xs : List Int) (lo hi : Int) (k : Nat) : List Int := lo :: (xs.take k).filter fun x => decide (lo < x) && decide (x < hi)
def stopsL (xs : List Int) (lo hi : Int) : List Int := stopsF xs lo hi xs.length ++ if lo < hi then [hi] else []
theorem stopsF_zero (xs : List Int) (lo hi : Int) : stopsF xs lo hi 0 = [lo] := by simp [stopsF]
theorem take_snoc (xs : List Int) (k : Nat) (h : k < xs.length) : xs.take (k + 1) = xs.take k ++ [nth xs k] := by
 rw [List.take_succ_eq_append_getElem h, nth_getElem xs k h]
theorem stopsF_keep (xs : List Int) (lo hi : Int) (k : Nat) (hk : k < xs.length) (h : (decide (lo < nth xs k) && decide (nth xs k < hi)) = true) : stopsF xs lo hi (k + 1) = stopsF xs lo hi k ++ [nth xs k] := by
 unfold stopsF; rw [take_snoc xs k hk, List.filter_append]; simp only [List.filter_cons, h]; simp
theorem stopsF_drop (xs : List Int) (lo hi : Int) (k : Nat) (hk : k < xs.length) (h : (decide (lo < nth xs k) && decide (nth xs k < hi)) = false) : stopsF xs lo hi (k + 1) = stopsF xs lo hi k := by
 unfold stopsF; rw [take_snoc xs k hk, List.filter_append]; simp only [List.filter_cons, h]; simp
theorem stopsF_len (xs : List Int) (lo hi : Int) (k : Nat) : (stopsF xs lo hi k).length ≤ k + 1 := by
 unfold stopsF
 have h1 := List.length_filter_le (fun x => decide (lo < x) && decide (x < hi)) (xs.take k)
 have h2 := List.length_take_le k xs
 simp only [List.length_cons]; omega
theorem one_new (w : World) (u : Value) (t : TypeId) : ∀ j x, [u][j]? = some x → (w.alloc (.cells #[u] t)).cell? ((⟨w.heap.size, 0, none⟩ : Addr).add j) = some x := by
 intro j x h
 match j, h with
 | 0, h => simp at h; subst h; simp [Addr.add]
theorem Tryz.infoInt : (Tryz.prog.info? 3).map (fun i => (i.zero, i.size, i.bytes)) = some (some (.int .i64 0), 1, 8) := by kernel_rfl
theorem Tryz.undInts : Tryz.prog.underlying 35 = some (.slice 3) := by kernel_rfl
set_option maxRecDepth 100000 in
set_option maxHeartbeats 1600000 in
theorem stops_c (v : Value) (xs : List Int) (lo hi : Int) (w : World) (hv : Ints w v xs) (hn : xs.length ≤ 1000) :
  Calls Tryz.prog 156 #[v, .agg #[.int .i64 lo, .int .i64 hi]] w fun e w' =>
   ∃ r, e = .returned r ∧ w'.ownsRow (w.heap.size + 1) 3 1 r (stopsL xs lo hi).length ((stopsL xs lo hi).map (Value.int .i64)) ∧ Below w.heap.size w w' := by
 obtain ⟨A, c, rfl, hc1, hc2, _, hA⟩ := hv
 obtain ⟨i0, hi0, hz0, hz1, hz2⟩ := info_parts Tryz.infoInt
 generalize hL : xs.length = n at *
 have HL := hI9 hL
 clear hL
 go_enter Tryz.func156, Tryz.ntmps156
 go_wp2
 go_loopw [5, 7, 13] (fun s5 _ s13 wr => ∃ k : Nat, k ≤ n ∧ s13 = .int .i64 k ∧ wr.ownsRow (w.heap.size + 1) 3 1 s5 (stopsF xs lo hi k).length ((stopsF xs lo hi k).map (Value.int .i64)) ∧ Hid (Below w.heap.size w wr)
   ∧ wr.cell? ⟨w.heap.size, 0, none⟩ = some (.int .i64 lo) ∧ wr.cell? ⟨w.heap.size, 1, none⟩ = some (.int .i64 hi)) (fun _ _ i _ => n - (intOf i).toNat)
 case atStart =>
  refine ⟨0, by omega, rfl, ?_, ?_, ?_, ?_⟩
  ·rw [stopsF_zero]
   have h := World.ownsRow_lit (base := w.heap.size + 1) (e := 3) (size := 1) (w.alloc (.cells #[.int .i64 lo, .int .i64 hi] 28)) #[.int .i64 lo] 1 (by simp) (by decide) (by simp)
   simpa using h
  ·exact (by repeat' (first | exact Below.refl _ _ | assumption | refine Below.drew ?_ | refine bdn ?_ _ | refine bal ?_ _ | refine Below.setCell ?_ (by first | (simp; done) | omega | (simp; omega)) _))
  ·simp
  ·simp
 case round =>
  obtain ⟨k, hk, rfl, hown, hB, hl, hh⟩ := hrel
  have hsz := hB.out.size
  by_cases hlt : k < n
  ·obtain ⟨b, off, rfl, hb, hc⟩ := hA (by omega)
   have hck := (hB.out.cell (p := ⟨b, off + k, none⟩) hb).trans (hc k hlt)
   clear hc hA
   have hll := stopsF_len xs lo hi k
   cases h1 : decide (lo < nth xs k)
   ·have hd : Hid (stopsF xs lo hi (k + 1) = stopsF xs lo hi k) := stopsF_drop xs lo hi k (by rw [HL.out]; exact hlt) (by simp [h1])
    go_wp2
    go_roundw
    case rel => exact ⟨k + 1, by omega, by go_num, by rw [hd.out]; exact hown, hB, hl, hh⟩
    case measure => simp [intOf]; omega
   ·cases h2 : decide (nth xs k < hi)
    ·have hd : Hid (stopsF xs lo hi (k + 1) = stopsF xs lo hi k) := stopsF_drop xs lo hi k (by rw [HL.out]; exact hlt) (by simp [h2])
     go_wp2
     go_roundw
     case rel => exact ⟨k + 1, by omega, by go_num, by rw [hd.out]; exact hown, hB, hl, hh⟩
     case measure => simp [intOf]; omega
    ·have hd : Hid (stopsF xs lo hi (k + 1) = stopsF xs lo hi k ++ [nth xs k]) := stopsF_keep xs lo hi k (by rw [HL.out]; exact hlt) (by simp [h1, h2])
     go_wp2_with (at_builtin; go_loud (refine wpList_append_own _ rfl _ _ 35 rfl (w.heap.size + 1) 3 i0 (.int .i64 0) 1 8 Tryz.undInts hi0 hz0 hz1 hz2 rfl (by decide) _ _ _ rfl (hown.alloc _) ⟨wr.heap.size, 0, none⟩ 1 1 [.int .i64 (nth xs k)] rfl rfl ?c1 ?c2 ?c3 ?c4 ?c5 ?_))
     case c2 => rfl
     case c3 => unfold maxLen; omega
     case c4 => omega
     ·intro v' w1 hown' hgrow _
      have hlt' := hown.lt
      have hB1 : Hid (Below w.heap.size w w1) := ((bal hB.out _).grown hgrow (by simp; omega) (fun g hg => by have := (hown.lt g hg).1; omega))
      have hl1 : w1.cell? ⟨w.heap.size, 0, none⟩ = some (.int .i64 lo) := hgrow.cell (by rw [World.cell?_alloc_lt _ _ _ (blk_lt hl)]; exact hl) (fun e => by have h9 := (hown.lt _ e.symm).1; dsimp only at h9; omega)
      have hh1 : w1.cell? ⟨w.heap.size, 1, none⟩ = some (.int .i64 hi) := hgrow.cell (by rw [World.cell?_alloc_lt _ _ _ (blk_lt hh)]; exact hh) (fun e => by have h9 := (hown.lt _ e.symm).1; dsimp only at h9; omega)
      clear hl hh hown hlt'
      go_wp2
      go_roundw
      case rel => exact ⟨k + 1, by omega, by go_num, by rw [hd.out]; simpa using hown', hB1, hl1, hh1⟩
      case measure => simp [intOf]; omega
  ·obtain rfl : k = n := by omega
   clear hA
   have hll := stopsF_len xs lo hi k
   have hf : Hid (stopsL xs lo hi = stopsF xs lo hi k ++ if lo < hi then [hi] else []) := by show stopsL xs lo hi = _; unfold stopsL; rw [HL.out]
   by_cases hlh : lo < hi
   ·go_wp2_with (at_builtin; go_loud (refine wpList_append_own _ rfl _ _ 35 rfl (w.heap.size + 1) 3 i0 (.int .i64 0) 1 8 Tryz.undInts hi0 hz0 hz1 hz2 rfl (by decide) _ _ _ rfl (hown.alloc _) ⟨wr.heap.size, 0, none⟩ 1 1 [.int .i64 hi] rfl rfl ?d1 ?d2 ?d3 ?d4 ?d5 ?_))
    case d1 => exact one_new _ _ _
    case d2 => intro u hu; simp at hu; subst hu; rfl
    case d3 => unfold maxLen; omega
    case d4 => omega
    case d5 => simp; omega
    ·intro v' w1 hown' hgrow _
     have hB1 : Hid (Below w.heap.size w w1) := ((bal hB.out _).grown hgrow (by simp; omega) (fun g hg => by have := (hown.lt g hg).1; omega))
     clear hl hh hown
     go_wp2
     go_ret
     refine ⟨_, rfl, ?_, hB1.out⟩
     rw [hf.out, if_pos hlh]; simpa using hown'
   ·have HLH := hI9 hlh
    go_wp2
    go_ret
    refine ⟨_, rfl, ?_, hB.out⟩
    rw [hf.out, if_neg (by have := HLH.out; omega)]; simpa using hown
end Go.Proofs.YtlambeiafdpkgaaGreat

namespace Go.Proofs.YtlambeiafdpkgaaGreat
open Go Go.RowKit Go.Proofs Go.ChangeShapes Go.WideShapes Go.Deep
def RecsAt (w : World) (A : Option Addr) (n k : Nat) (V : Nat → Nat → Value) : Prop :=
 0 < n → ∃ b off, A = some ⟨b, off, none⟩ ∧ b < w.heap.size ∧ ∀ i, i < n → ∀ j, j < k → w.cell? ⟨b, off + i * k + j, none⟩ = some (V i j)
theorem RecsAt.below {w w' : World} {A : Option Addr} {n k : Nat} {V : Nat → Nat → Value} (h : RecsAt w A n k V) (hb : Below w.heap.size w w') : RecsAt w' A n k V := by
 intro hn
 obtain ⟨b, off, hA, hlt, hc⟩ := h hn
 exact ⟨b, off, hA, Nat.lt_of_lt_of_le hlt hb.size, fun i hi j hj => (hb.cell (p := ⟨b, off + i * k + j, none⟩) hlt).trans (hc i hi j hj)⟩
theorem RecsAt.cells {w : World} {A : Option Addr} {n k : Nat} {V : Nat → Nat → Value} (h : RecsAt w A n k V) : CellsAt w A (n * k) (fun q => V (q / k) (q % k)) := by
 intro hn
 have hn0 : 0 < n := Nat.pos_of_ne_zero fun h => by simp [h] at hn
 have hk0 : 0 < k := Nat.pos_of_ne_zero fun h => by simp [h] at hn
 obtain ⟨b, off, hA, hlt, hc⟩ := h hn0
 refine ⟨b, off, hA, hlt, fun q hq => ?_⟩
 have := hc (q / k) (Nat.div_lt_of_lt_mul (by rw [Nat.mul_comm]; exact hq)) (q % k) (Nat.mod_lt _ hk0)
 rw [show off + q / k * k + q % k = off + q by have := Nat.div_add_mod q k; rw [Nat.mul_comm] at this; omega] at this
 exact this
theorem RecsAt.of_owns {w : World} {base : Nat} {e : TypeId} {v : Value} {n k : Nat} {V : Nat → Nat → Value} (hk : 0 < k) (h : w.ownsRow base e k v n ((List.range (n * k)).map fun q => V (q / k) (q % k))) :
  ∃ A c, v = .slice A n c ∧ n ≤ c ∧ c ≤ 9223372036854775807 ∧ RecsAt w A n k V := by
 rcases h.2 with ⟨rfl, hz⟩ | ⟨g, cap, cur, rfl, h1, h2, h3, h4, h5, h6⟩
 ·exact ⟨none, 0, by rw [hz], by omega, by omega, fun hp => by omega⟩
 ·refine ⟨some ⟨g, 0, none⟩, cap, rfl, h3, by unfold maxLen at h4; omega, fun hp => ⟨g, 0, rfl, (Array.getElem?_eq_some_iff.1 h2).1, fun i hi j hj => ?_⟩⟩
  have hlt : i * k + j < n * k := by
   have : (i + 1) * k ≤ n * k := Nat.mul_le_mul_right k hi
   rw [Nat.add_mul] at this; omega
  have := h.cellAt (g := g) (i * k + j) hlt
  rw [Nat.zero_add, this]
  simp only [List.getElem?_map, List.getElem?_range hlt, Option.map_some]
  rw [Nat.mul_comm i k, Nat.mul_add_div hk, Nat.mul_add_mod, Nat.div_eq_of_lt hj, Nat.mod_eq_of_lt hj, Nat.add_zero]
theorem wpl_append_newk {P : Program} {w : World} {ops : Array Oper} {rest : List Oper} {o : Oper} {a : Act} {Q : Exit → Act → World → Prop}
  (hg : o.guard = none) (s x : Operand) (t : TypeId) (hop : o.op = Op.call { callee := Callee.builtin Builtin.append, args := #[s, x], argTypes := #[t, t] })
  (e : TypeId) (i : TypeInfo) (z : Value) (sz bytes : Nat) (h1 : P.underlying t = some (.slice e)) (h2 : P.info? e = some i) (h3 : i.zero = some z) (h4 : i.size = sz) (h5 : i.bytes = bytes) (h6 : z.cells.size = sz) (h7 : 0 < sz)
  (g : Nat) (hs : a.eval s = .slice (some ⟨g, 0, none⟩) 0 0) (hgb : w.heap[g]? = some (.cells #[] e (0, 0))) (base : Nat) (hbg : base ≤ g)
  (A : Option Addr) (m c : Nat) (hx : a.eval x = .slice A m c) (f : Nat → Value) (hA : CellsAt w A (m * sz) f) (hone : ∀ k, k < m * sz → (f k).oneCell' = true)
  (b1 : m ≤ maxLen) (b2 : m * bytes ≤ 140737488355328)
  (K : ∀ v' w', w'.ownsRow base e sz v' m ((List.range (m * sz)).map f) → Below w.heap.size w w' → wpList P ops Q rest (a.put o.dst v') w') :
  wpList P ops Q (o :: rest) a w := by
 by_cases hm : m = 0
 ·subst hm
  refine wpList_plain hg fun K' hK' => ?_
  have hrun : (Builtin.append_ #[t, t] o.type #[.slice (some ⟨g, 0, none⟩) 0 0, .slice A 0 c]).run P w = .ok (.slice (some ⟨g, 0, none⟩) 0 0) w := by
   cases A with
   | none => simp [Builtin.append_, run_underlying h1, sizeOf, typeInfo, h2, Builtin.lenOf, Builtin.firstCells, storeCells]
   | some ad => simp [Builtin.append_, run_underlying h1, sizeOf, typeInfo, h2, Builtin.lenOf, Builtin.firstCells, storeCells, loadCells, loadCellsFrom]
  unfold Oper.wp
  simp [execOp, hop, resolve, invoke, builtin, hs, hx, hrun, Result.andThen]
  exact hK' _ _ (K _ w ⟨by simp, .inr ⟨g, 0, #[], rfl, hbg, hgb, Nat.le_refl _, Nat.zero_le _, by simp, by simp⟩⟩ (Below.refl _ _))
 ·obtain ⟨b, off, rfl, hlt, hc⟩ := hA (Nat.mul_pos (by omega) h7)
  refine wpList_append_grows w hg s x t hop e i z sz bytes h1 h2 h3 h4 h5 h6 h7 (some ⟨g, 0, none⟩) 0 0 [] hs (fun h => by cases h) (by simp) (fun _ _ j u h => by simp at h)
   ⟨b, off, none⟩ m c ((List.range (m * sz)).map f) hx (by simp) (fun j u h => ?_) (fun u hu => ?_) (by omega) (by omega) (by simpa using b2) (fun v' w' ho hgr => ?_)
  ·have hj : j < m * sz := by
    have := (List.getElem?_eq_some_iff.1 h).1; simpa using this
   have : u = f j := by simp [hj] at h; exact h.symm
   subst this
   have hadd : (⟨b, off, none⟩ : Addr).add j = ⟨b, off + j, none⟩ := by unfold Addr.add; split <;> simp_all
   rw [hadd]; exact hc j hj
  ·obtain ⟨k, hk, rfl⟩ := List.mem_map.1 hu
   exact hone k (List.mem_range.1 hk)
  ·rw [Nat.zero_add, List.nil_append] at ho
   exact K v' w' (ownsRow_base ho (by have := (Array.getElem?_eq_some_iff.1 hgb).1; omega)) (below_of_none hgr)
section
variable {H : Type} {enc : TypeId × Value → H} {P : Program} {w : World} {base : Nat} {sp : Nat → Bool} {held : Bool}
theorem recs_trod {t e : TypeId} {k fuel : Nat} {c : Value} {x : DataW H × List MemPlace} (ht : P.underlying t = some (.slice e)) (hk : P.cellsOf e = k) (hk0 : 0 < k) (h : DataW.trod enc P w base sp held fuel t [c] = some x) :
  ∃ A n cp V, c = .slice A n cp ∧ n ≤ cp ∧ cp ≤ 9223372036854775807 ∧ (A = none → cp = 0) ∧ RecsAt w A n k V ∧ ∀ i, i < n → ∃ m y, DataW.trod enc P w base sp held m e ((List.range k).map (V i)) = some y := by
 rcases open_slice ht h with ⟨e, -⟩ | ⟨a, len, cap, m, n, D, Pl, e, -, h1, h2, h3, -, h4⟩
 ·obtain rfl : c = .slice none 0 0 := by simpa using e
  exact ⟨none, 0, 0, fun _ _ => undef, rfl, Nat.le_refl _, by omega, fun _ => rfl, fun hp => by omega, fun i hi => by omega⟩
 ·obtain rfl : c = .slice (some a) len cap := by simpa using e
  have hm : len ≤ m := by rw [h3]; split <;> omega
  rw [hk] at h4
  have hv : ∀ i, i < len → ∃ cs, w.cells? base (a.add (i * k)) k = some cs ∧ DataW.trod enc P w base sp held n _ cs = some (D i, Pl i) := fun i hi => h4 i (by omega)
  obtain ⟨Z, hZ⟩ := choose_lt (α := List Value) (p := fun i cs => w.cells? base (a.add (i * k)) k = some cs ∧ DataW.trod enc P w base sp held n _ cs = some (D i, Pl i)) hv
  have hc : ∀ i, i < len → (Z i).length = k ∧ ∀ j, j < k → w.cell? (a.add (i * k + j)) = some ((Z i).getD j undef) := by
   intro i hi
   obtain ⟨-, hl, hcell⟩ := World.cells?_some (hZ i hi).1
   refine ⟨hl, fun j hj => ?_⟩
   have := hcell j hj
   rw [Go.Deep.add_add] at this
   rw [this, List.getD, List.getElem?_eq_getElem (by omega)]
   rfl
  refine ⟨some a, len, cap, fun i j => (Z i).getD j undef, rfl, by omega, by unfold maxLen at h2; omega, (fun h => by cases h), fun hp => ?_, fun i hi => ⟨n, (D i, Pl i), ?_⟩⟩
  ·obtain ⟨b, off, spot⟩ := a
   have h00 := (hc 0 hp).2 0 hk0
   have hspot : spot = none := by simpa [Addr.add] using World.cell?_spot h00
   subst hspot
   refine ⟨b, off, rfl, ?_, fun i hi j hj => ?_⟩
   ·have := World.block_lt_of_cell? w _ h00; simpa [Addr.add] using this
   ·have := (hc i hi).2 j hj
    have hadd : (⟨b, off, none⟩ : Addr).add (i * k + j) = ⟨b, off + i * k + j, none⟩ := by unfold Addr.add; split <;> simp_all [Nat.add_assoc] <;> omega
    rwa [hadd] at this
  ·have : (List.range k).map (fun j => (Z i).getD j undef) = Z i := by
    apply List.ext_getElem?
    intro j
    have hl := (hc i hi).1
    by_cases hj : j < k
    ·simp [hj, List.getD, List.getElem?_eq_getElem (show j < (Z i).length by omega)]
    ·simp [hj, List.getElem?_eq_none (show (Z i).length ≤ j by omega)]
   rw [this]; exact (hZ i hi).2
end
end Go.Proofs.YtlambeiafdpkgaaGreat
