/- Contracts: the leaves of the references. -/
import Derived.Test.YtfcjblnebaemgaaGreatKR
set_option linter.all false
namespace Go.Proofs.YtfcjblnebaemgaaGreat
open Go Go.RowKit Go.Proofs

theorem up_eq {a d : Int} (hd : 1 ≤ d) : (a + d - 1) / d = cdiv a d := by
  unfold cdiv
  have h1 := Int.emod_nonneg (-a) (show d ≠ 0 by omega)
  have h2 := Int.emod_lt_of_pos (-a) (show 0 < d by omega)
  have h3 := Int.emod_add_mul_ediv (-a) d
  generalize (-a) / d = q at *
  generalize (-a) % d = r at *
  have e : a + d - 1 = (d - 1 - r) + d * (-q) := by rw [Int.mul_neg]; omega
  rw [e, Int.add_mul_ediv_left _ _ (by omega), Int.ediv_eq_zero_of_lt (by omega) (by omega)]
  omega
theorem cdiv_neg {a d : Int} : -cdiv (-a) d = a / d := by unfold cdiv; simp only [Int.neg_neg]
theorem neg_floor {a d : Int} : -((-a) / d) = cdiv a d := rfl

theorem rf_From_c (n lo hi : Int) (w : World) : Calls Tryz.prog 117 #[.int .i64 n, .int .i64 lo, .int .i64 hi] w fun e w' => e = .returned (.bool (inB n lo hi)) ∧ w = w' := by
  unfold inB
  by_cases h1 : lo ≤ n <;> by_cases h2 : n ≤ hi
  all_goals
    go_enter Tryz.func117, Tryz.ntmps117
    go_wp2
    go_ret
    exact ⟨by simp [h1, h2], rfl⟩
theorem vspan_two {lo hi : Int} : (inB lo (-1000000) 1000000 && inB hi lo 1000000) = vspan lo hi := by
  rw [Bool.eq_iff_iff]; unfold vspan inB; simp only [Bool.and_eq_true, decide_eq_true_eq]; omega

theorem rf_Valid_c (lo hi : Int) (w : World) : Calls Tryz.prog 111 #[.agg #[.int .i64 lo, .int .i64 hi]] w fun e w' => e = .returned (.bool (vspan lo hi)) ∧ Below w.heap.size w w' := by
  rw [← vspan_two]
  cases h1 : inB lo (-1000000) 1000000
  all_goals
    go_enter Tryz.func111, Tryz.ntmps111
    go_wp2_with (first | (go_at_call 117; (with_reducible refine (rf_From_c _ _ _ _).mono ?_); rintro e w1 ⟨rfl, rfl⟩))
    go_ret
    exact ⟨by simp, (by repeat' (first | exact Below.refl _ _ | assumption | refine Below.drew ?_ | refine bdn ?_ _ | refine bal ?_ _ | refine Below.setCell ?_ (by first | (simp; done) | omega | (simp; omega)) _))⟩

theorem rf_two_c (al ah bl bh : Int) (w : World) : Calls Tryz.prog 99 #[.agg #[.int .i64 al, .int .i64 ah], .agg #[.int .i64 bl, .int .i64 bh]] w fun e w' => e = .returned (.int .i64 (spanE (!vspan al ah || !vspan bl bh))) ∧ Below w.heap.size w w' := by
  cases h1 : vspan al ah <;> cases h2 : vspan bl bh
  all_goals
    go_enter Tryz.func99, Tryz.ntmps99
    go_wp2_with (first | (go_at_call 111; (with_reducible refine (rf_Valid_c _ _ _).mono ?_); rintro e w1 ⟨rfl, hb1⟩; have hB1 := bthen (show Below w.heap.size w _ from (by repeat' (first | exact Below.refl _ _ | assumption | refine Below.drew ?_ | refine bdn ?_ _ | refine bal ?_ _ | refine Below.setCell ?_ (by first | (simp; done) | omega | (simp; omega)) _))) hb1; have hz1 := hb1.size; (try simp at hz1); obtain ⟨hc1, hf1⟩ := bcell hb1; first | (have hE1 := bthen2 hE (by repeat' (first | exact Below.refl _ _ | refine Below.drew ?_ | refine bdn ?_ _ | refine bal ?_ _ | refine Below.setCell ?_ (by first | (simp; done) | omega | (simp; omega)) _)) hb1; clear hE; have hE := hE1; clear hE1; obtain ⟨hd1, hg1⟩ := bcell hE) | (have hE := hb1)))
    go_ret
    exact ⟨rfl, (by repeat' (first | exact Below.refl _ _ | assumption | refine Below.drew ?_ | refine bdn ?_ _ | refine bal ?_ _ | refine Below.setCell ?_ (by first | (simp; done) | omega | (simp; omega)) _))⟩

end Go.Proofs.YtfcjblnebaemgaaGreat

/- Contracts: knots, CheckTable, filled of the references. -/
namespace Go.Proofs.YtfcjblnebaemgaaGreat
open Go Go.RowKit Go.Proofs
set_option maxRecDepth 100000
set_option maxHeartbeats 4000000

theorem tblB_row_no {T : Tbl} {i : Nat} (hi : i < T.V.length) (h : rowBad T.Y.length (nthR T.V i) = true) : tblB T = false := by
  have : anyRowBad T.Y.length T.V = true := by unfold anyRowBad; rw [List.any_eq_true]; exact ⟨i, List.mem_range.2 hi, h⟩
  simp [tblB, this]
theorem rowBad_len {ny : Nat} {r : List Int} (h : ((r.length : Int) != (ny : Int)) = true) : rowBad ny r = true := by simp [rowBad, h]
theorem rowBad_out {ny : Nat} {r : List Int} {k : Nat} (hk : k < r.length) (h : inB (nth r k) (-1000000) 1000000 = false) : rowBad ny r = true := by
  have : anyOut r = true := by unfold anyOut; rw [List.any_eq_true]; exact ⟨k, List.mem_range.2 hk, by simp [h]⟩
  simp [rowBad, this]
theorem rowBad_ok {ny : Nat} {r : List Int} (h : ((r.length : Int) != (ny : Int)) = false) (h2 : ∀ k, k < r.length → inB (nth r k) (-1000000) 1000000 = true) : rowBad ny r = false := by
  have : anyOut r = false := by unfold anyOut; rw [List.any_eq_false]; intro k hk; simp [h2 k (List.mem_range.1 hk)]
  unfold rowBad; rw [h, this]; rfl
theorem tblB_yes {T : Tbl} (h1 : axisB T.X = true) (h2 : axisB T.Y = true) (h3 : ((T.V.length : Int) != (T.X.length : Int)) = false) (h4 : ∀ i, i < T.V.length → rowBad T.Y.length (nthR T.V i) = false) : tblB T = true := by
  have : anyRowBad T.Y.length T.V = false := by unfold anyRowBad; rw [List.any_eq_false]; intro k hk; simp [h4 k (List.mem_range.1 hk)]
  unfold tblB; rw [h1, h2, h3, this]; rfl

end Go.Proofs.YtfcjblnebaemgaaGreat

/- Contracts: filled of the reference. -/
namespace Go.Proofs.YtfcjblnebaemgaaGreat
open Go Go.RowKit Go.Proofs
set_option maxRecDepth 100000
set_option maxHeartbeats 4000000

theorem right_off {T : Tbl} {lo hi : Int} (ht : tblB T = true) {i k : Nat} (hi' : i < T.X.length) (hk : k < T.Y.length) (h : inB (nth (nthR T.V i) k) lo hi = false) : rightB T lo hi = false := by
  have lV := tblB_len ht
  have lr := (tblB_row ht (show i < T.V.length by omega)).1
  have : offB lo hi T.V = true := by
    unfold offB; rw [List.any_eq_true]; refine ⟨i, List.mem_range.2 (by omega), ?_⟩
    unfold rowOff; rw [List.any_eq_true]; exact ⟨k, List.mem_range.2 (by omega), by simp [h]⟩
  simp [rightB, this]
theorem right_yes {T : Tbl} {lo hi : Int} (ht : tblB T = true) (h : ∀ i, i < T.X.length → ∀ k, k < T.Y.length → inB (nth (nthR T.V i) k) lo hi = true) : rightB T lo hi = true := by
  have lV := tblB_len ht
  have : offB lo hi T.V = false := by
    unfold offB; rw [List.any_eq_false]; intro i hi'
    have hi' := List.mem_range.1 hi'
    have lr := (tblB_row ht hi').1
    simp only [Bool.not_eq_true]
    unfold rowOff; rw [List.any_eq_false]; intro k hk
    have hk := List.mem_range.1 hk
    simp [h i (by omega) k (by omega)]
  unfold rightB; rw [ht, this]; rfl

end Go.Proofs.YtfcjblnebaemgaaGreat

/- Contracts: part of the references. -/
namespace Go.Proofs.YtfcjblnebaemgaaGreat
open Go Go.RowKit Go.Proofs
set_option maxRecDepth 100000
set_option maxHeartbeats 4000000

end Go.Proofs.YtfcjblnebaemgaaGreat
