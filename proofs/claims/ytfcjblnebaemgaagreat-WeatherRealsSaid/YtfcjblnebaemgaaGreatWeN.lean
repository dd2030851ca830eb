/- Contract of weather.Check. -/
import Derived.Test.YtfcjblnebaemgaaGreatWeM
set_option linter.all false
namespace Go.Proofs.YtfcjblnebaemgaaGreat
open Go Go.RowKit Go.Proofs
set_option maxRecDepth 100000
set_option maxHeartbeats 4000000

def MetD.fcB (M : MetD) (i : Nat) : Bool := fcBad M.places (M.D i 0) (M.D i 1) (M.D i 2) (M.D i 3) (M.fc i)
def MetD.siB (M : MetD) (i : Nat) : Bool := siBad M.places (M.E i 0) (M.E i 1) (M.E i 2) (M.E i 3) (M.E i 4)
def rngB (a b c : Int) : Bool := !inB a 0 20000 || (!inB b 0 20000 || !inB c 0 20000)
def MetD.bad (M : MetD) : Bool := !inB M.places 1 8 || (!M.any.inr || (rngB M.mw M.ms M.mc || (decide (40 < M.n) || ((List.range M.n).any M.fcB || (decide (20 < M.m) || (List.range M.m).any M.siB)))))
def MetD.err (M : MetD) : Int := if M.bad then 40 else 0

theorem cfb_c (b c : Nat) (m1 m2 m3 : Int) (w : World) (h0 : w.cell? ⟨b, 0, none⟩ = some (.int .i64 m1)) (h1 : w.cell? ⟨b, 1, none⟩ = some (.int .i64 m2)) (h2 : w.cell? ⟨b, 2, none⟩ = some (.int .i64 m3)) :
    Calls Tryz.prog 67 #[.slice (some ⟨b, 0, none⟩) 3 c, .func (.func 79) #[] #[]] w fun e w' => e = .returned (.bool (rngB m1 m2 m3)) ∧ Below w.heap.size w w' := by
  have h := cfInt_c (some ⟨b, 0, none⟩) 3 c (fun k => if k = 0 then m1 else if k = 1 then m2 else m3) 79 #[] (fun k => !inB (if k = 0 then m1 else if k = 1 then m2 else m3) 0 20000) w (by omega) Tryz.entB
    (fun _ => ⟨b, 0, rfl, blk_lt h0, fun k hk => by
      rcases (show k = 0 ∨ k = 1 ∨ k = 2 by omega) with rfl | rfl | rfl
      · simpa using h0
      · simpa using h1
      · simpa using h2⟩)
    (fun w1 k hk hb => by
      refine (beyond_c _ w1).mono ?_
      rintro _ _ ⟨rfl, rfl⟩
      exact ⟨rfl, Below.refl _ _⟩)
  have e : (List.range 3).any (fun k => !inB (if k = 0 then m1 else if k = 1 then m2 else m3) 0 20000) = rngB m1 m2 m3 := by simp [List.range_succ, rngB]
  rw [e] at h
  exact h

/-- An accepted met. -/
theorem MetD.ok_of {M : MetD} (h : M.bad = false) : M.Ok := by
  unfold MetD.bad rngB at h
  simp only [Bool.or_eq_false_iff, Bool.not_eq_false', decide_eq_false_iff_not, inB_iff, List.any_eq_false] at h
  obtain ⟨h1, h2, ⟨h3, h4, h5⟩, h6, h7, h8, h9⟩ := h
  have F : ∀ i, i < M.n → fcBad M.places (M.D i 0) (M.D i 1) (M.D i 2) (M.D i 3) (M.fc i) = false := fun i hi => by
    have := h7 i (List.mem_range.2 hi)
    unfold MetD.fcB at this
    simpa using this
  have G : ∀ i, i < M.m → siBad M.places (M.E i 0) (M.E i 1) (M.E i 2) (M.E i 3) (M.E i 4) = false := fun i hi => by
    have := h9 i (List.mem_range.2 hi)
    unfold MetD.siB at this
    simpa using this
  have F2 : ∀ i, i < M.n → (0 ≤ M.D i 0 ∧ M.D i 0 ≤ M.places - 1) ∧ (0 ≤ M.D i 1 ∧ M.D i 1 ≤ 2000) ∧ (0 ≤ M.D i 2 ∧ M.D i 2 ≤ 2000) ∧ ¬ M.D i 2 ≤ M.D i 1 ∧ (0 ≤ M.D i 3 ∧ M.D i 3 ≤ 2000) ∧ (M.fc i).inr = true := fun i hi => by
    have := F i hi
    unfold fcBad at this
    simpa only [Bool.or_eq_false_iff, Bool.not_eq_false', decide_eq_false_iff_not, inB_iff] using this
  have G2 : ∀ i, i < M.m → (0 ≤ M.E i 0 ∧ M.E i 0 ≤ M.places - 1) ∧ (0 ≤ M.E i 1 ∧ M.E i 1 ≤ 2000) ∧ (Sk.mk (M.E i 2) (M.E i 2) (M.E i 3) (M.E i 3) (M.E i 4) (M.E i 4) false false).inr = true := fun i hi => by
    have := G i hi
    unfold siBad at this
    simpa only [Bool.or_eq_false_iff, Bool.not_eq_false', decide_eq_false_iff_not, inB_iff] using this
  have G3 : ∀ i, i < M.m → (0 ≤ M.E i 2 ∧ M.E i 2 ≤ 300) ∧ (0 ≤ M.E i 3 ∧ M.E i 3 ≤ 20000) ∧ (0 ≤ M.E i 4 ∧ M.E i 4 ≤ 20000) := fun i hi => by
    have := (G2 i hi).2.2
    unfold Sk.inr at this
    simp only [Bool.and_eq_true, insB_iff] at this
    omega
  exact ⟨h1, h2, h3, h4, h5, by omega, by omega, fun i hi => (F2 i hi).1, fun i hi => (F2 i hi).2.1, fun i hi => (F2 i hi).2.2.1, fun i hi => (F2 i hi).2.2.2.2.1, fun i hi => by have := (F2 i hi).2.2.2.1; omega, fun i hi => (F2 i hi).2.2.2.2.2,
    fun i hi => (G2 i hi).1, fun i hi => (G2 i hi).2.1, fun i hi => (G3 i hi).1, fun i hi => (G3 i hi).2.1, fun i hi => (G3 i hi).2.2⟩
end Go.Proofs.YtfcjblnebaemgaaGreat
