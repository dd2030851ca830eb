/- Contracts: the small functions of the laws of weather. -/
import Derived.Test.YtfcjblnebaemgaaGreatWeV
set_option linter.all false
namespace Go.Proofs.YtfcjblnebaemgaaGreat
open Go Go.RowKit Go.Proofs
set_option maxRecDepth 100000
set_option maxHeartbeats 4000000

def nearB (a b n d : Int) : Bool := decide (n - d ≤ a) && decide (b ≤ n + d)
def insP (a b c d : Int) : Bool := decide (c ≤ a) && decide (b ≤ d)
theorem rflyable_c (we se ce : Int) (ic st : Bool) (lw ls lc : Int) (li lt : Bool) (w : World) : Calls Tryz.prog 26 #[.agg #[.int .i64 we, .int .i64 se, .int .i64 ce, .bool ic, .bool st], .agg #[.int .i64 lw, .int .i64 ls, .int .i64 lc, .bool li, .bool lt]] w
    fun e w' => e = .returned (.bool (flyB we se ce ic st lw ls lc li lt)) ∧ Below w.heap.size w w' := by
  unfold flyB
  by_cases h1 : we ≤ lw
  · by_cases h2 : ls ≤ se
    · by_cases h3 : lc ≤ ce
      · cases ic <;> cases st <;> cases li <;> cases lt
        all_goals
          go_enter Tryz.func26, Tryz.ntmps26
          go_wp2
          go_ret
          exact ⟨ret_bool (by simp [h1, h2, h3]), (by repeat' (first | exact Below.refl _ _ | assumption | refine Below.drew ?_ | refine bdn ?_ _ | refine bal ?_ _ | refine Below.setCell ?_ (by first | (simp; done) | omega | (simp; omega)) _))⟩
      · have h3' : ce < lc := by omega
        go_enter Tryz.func26, Tryz.ntmps26
        go_wp2
        go_ret
        exact ⟨ret_bool (by rw [show decide (lc ≤ ce) = false from decide_eq_false (by omega)]; simp), (by repeat' (first | exact Below.refl _ _ | assumption | refine Below.drew ?_ | refine bdn ?_ _ | refine bal ?_ _ | refine Below.setCell ?_ (by first | (simp; done) | omega | (simp; omega)) _))⟩
    · have h2' : se < ls := by omega
      go_enter Tryz.func26, Tryz.ntmps26
      go_wp2
      go_ret
      exact ⟨ret_bool (by rw [show decide (ls ≤ se) = false from decide_eq_false (by omega)]; simp), (by repeat' (first | exact Below.refl _ _ | assumption | refine Below.drew ?_ | refine bdn ?_ _ | refine bal ?_ _ | refine Below.setCell ?_ (by first | (simp; done) | omega | (simp; omega)) _))⟩
  · have h1' : lw < we := by omega
    go_enter Tryz.func26, Tryz.ntmps26
    go_wp2
    go_ret
    exact ⟨ret_bool (by rw [show decide (we ≤ lw) = false from decide_eq_false (by omega)]; simp), (by repeat' (first | exact Below.refl _ _ | assumption | refine Below.drew ?_ | refine bdn ?_ _ | refine bal ?_ _ | refine Below.setCell ?_ (by first | (simp; done) | omega | (simp; omega)) _))⟩
end Go.Proofs.YtfcjblnebaemgaaGreat
