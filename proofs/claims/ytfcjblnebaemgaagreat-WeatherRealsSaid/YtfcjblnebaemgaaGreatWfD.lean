/- The law WeatherWeaker: with weaker minima what was open is open. -/
import Derived.Test.YtfcjblnebaemgaaGreatWfB
set_option linter.all false
namespace Go.Proofs.YtfcjblnebaemgaaGreat
open Go Go.RowKit Go.Proofs
set_option maxRecDepth 100000
set_option maxHeartbeats 8000000

theorem minE_ok {M : MetD} {lw ls lc : Int} (h : minE M lw ls lc = 0) : M.bad = false ∧ (0 ≤ lw ∧ lw ≤ 300) ∧ (0 ≤ ls ∧ ls ≤ 20000) ∧ 0 ≤ lc ∧ lc ≤ 20000 := by
  have hb := minE_bad h
  unfold minE at h
  rw [hb, if_neg (by decide)] at h
  cases h1 : inB lw 0 300
  · rw [h1] at h; cases h
  · cases h2 : inB ls 0 20000
    · rw [h1, h2] at h; cases h
    · cases h3 : inB lc 0 20000
      · rw [h1, h2, h3] at h; cases h
      · exact ⟨hb, inB_iff.1 h1, inB_iff.1 h2, inB_iff.1 h3⟩
theorem minE_mk {M : MetD} {lw ls lc : Int} (hb : M.bad = false) (h1 : 0 ≤ lw ∧ lw ≤ 300) (h2 : 0 ≤ ls ∧ ls ≤ 20000) (h3 : 0 ≤ lc ∧ lc ≤ 20000) : minE M lw ls lc = 0 := by
  unfold minE
  rw [hb, inB_iff.2 h1, inB_iff.2 h2, inB_iff.2 h3]
  rfl
theorem opE_split {M : MetD} {lw ls lc p t : Int} (h : opE M lw ls lc p t = 0) : minE M lw ls lc = 0 ∧ atE M p t = 0 := by
  unfold opE at h
  by_cases he : minE M lw ls lc = 0
  · rw [if_pos he] at h; exact ⟨he, h⟩
  · rw [if_neg he] at h; exact absurd h he
theorem opE_mk {M : MetD} {lw ls lc p t : Int} (h1 : minE M lw ls lc = 0) (h2 : atE M p t = 0) : opE M lw ls lc p t = 0 := by
  unfold opE; rw [if_pos h1, h2]
theorem flyB_iff {we se ce : Int} {ic st : Bool} {lw ls lc : Int} {li lt : Bool} : flyB we se ce ic st lw ls lc li lt = true ↔ we ≤ lw ∧ ls ≤ se ∧ lc ≤ ce ∧ (ic = true → li = true) ∧ (st = true → lt = true) := by
  unfold flyB
  cases ic <;> cases st <;> cases li <;> cases lt <;> simp
theorem weaker_law {M : MetD} {lw ls lc : Int} {li lt : Bool} {p t a b c : Int} {i s : Bool} (h : opE M lw ls lc p t = 0) (h1 : 0 ≤ a) (h2 : a ≤ 300) (h3 : 0 ≤ b) (h4 : b ≤ 20000) (h5 : 0 ≤ c) (h6 : c ≤ 20000) :
    ((0 ≤ lw ∧ lw ≤ 300) ∧ (0 ≤ ls ∧ ls ≤ 20000) ∧ 0 ≤ lc ∧ lc ≤ 20000) ∧ opE M (min 300 (lw + a)) (max 0 (ls - b)) (max 0 (lc - c)) p t = 0 ∧ (openV M lw ls lc li lt p t = true → openV M (min 300 (lw + a)) (max 0 (ls - b)) (max 0 (lc - c)) (li || i) (lt || s) p t = true) := by
  obtain ⟨k1, k2⟩ := opE_split h
  obtain ⟨hb, q1, q2, q3⟩ := minE_ok k1
  have e : opE M (min 300 (lw + a)) (max 0 (ls - b)) (max 0 (lc - c)) p t = 0 := opE_mk (minE_mk hb (by omega) (by omega) (by omega)) k2
  refine ⟨⟨q1, q2, q3⟩, e, fun hv => ?_⟩
  unfold openV at *
  rw [h] at hv
  rw [e]
  have hv' : openB (M.may p t) lw ls lc li lt = true := by simpa using hv
  unfold openB at *
  rw [flyB_iff] at hv'
  obtain ⟨v1, v2, v3, v4, v5⟩ := hv'
  have : flyB (M.may p t).a1 (M.may p t).a2 (M.may p t).a4 (M.may p t).i (M.may p t).s (min 300 (lw + a)) (max 0 (ls - b)) (max 0 (lc - c)) (li || i) (lt || s) = true :=
    flyB_iff.2 ⟨by omega, by omega, by omega, fun h => by rw [v4 h]; rfl, fun h => by rw [v5 h]; rfl⟩
  rw [this]; rfl
theorem MetAt.alloc {w : World} {vF vS : Value} {M : MetD} (h : MetAt w vF vS M) (o : Obj) : MetAt (w.alloc o) vF vS M := h.below (bal (Below.refl _ _) _)
theorem wown2_c (M : MetD) (vF vS : Value) (w : World) (hA : MetAt w vF vS M) (hn : M.far = false) :
   Calls Tryz.prog 7 #[.agg #[.int .i64 M.places, .int .i64 M.any.a0, .int .i64 M.any.a1, .int .i64 M.any.a2, .int .i64 M.any.a3, .int .i64 M.any.a4, .int .i64 M.any.a5, .bool M.any.i, .bool M.any.s, .int .i64 M.mw, .int .i64 M.ms, .int .i64 M.mc, vF, vS]] w fun e w' => ∃ A cF A2 cS, e = .returned (.agg #[.int .i64 M.places, .int .i64 M.any.a0, .int .i64 M.any.a1, .int .i64 M.any.a2, .int .i64 M.any.a3, .int .i64 M.any.a4, .int .i64 M.any.a5, .bool M.any.i, .bool M.any.s, .int .i64 M.mw, .int .i64 M.ms, .int .i64 M.mc, .slice A M.n cF, .slice A2 M.m cS]) ∧ Below w.heap.size w w' ∧ MetAt w' (.slice A M.n cF) (.slice A2 M.m cS) M := by
  refine (wown_c M vF vS w hA hn).mono ?_
  rintro e w' ⟨vF', vS', rfl, hb, hA'⟩
  obtain ⟨⟨A, cF, rfl, h1, h2, h3⟩, ⟨A2, cS, rfl, k1, k2, k3⟩⟩ := hA'
  exact ⟨A, cF, A2, cS, rfl, hb, ⟨A, cF, rfl, h1, h2, h3⟩, ⟨A2, cS, rfl, k1, k2, k3⟩⟩
-- done
end Go.Proofs.YtfcjblnebaemgaaGreat
