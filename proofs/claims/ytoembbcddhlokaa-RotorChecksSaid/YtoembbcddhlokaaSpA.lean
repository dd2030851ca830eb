/- Contracts of the small functions of package spans. -/
import Derived.Test.YtoembbcddhlokaaProg
import Derived.Test.YtoembbcddhlokaaBase
set_option linter.all false
namespace Go.Proofs.Ytoembbcddhlokaa
open Go Go.RowKit Go.Proofs

def inB (n lo hi : Int) : Bool := decide (lo ≤ n) && decide (n ≤ hi)

theorem within_c (n lo hi : Int) (w : World) :
   Calls Try.prog 101 #[.int .i64 n, .int .i64 lo, .int .i64 hi] w fun e w' => e = .returned (.bool (inB n lo hi)) ∧ w = w' := by
  by_cases h : lo ≤ n
  · go_enter Try.func101, Try.ntmps101
    go_wp2
    go_ret
    simp [inB, h]
  · have h2 : decide (lo ≤ n) = false := by simpa using h
    go_enter Try.func101, Try.ntmps101
    go_wp2
    go_ret
    simp [inB, h2]

def vspan (lo hi : Int) : Bool := inB lo (-1000000) hi && decide (hi ≤ 1000000)

theorem valid_c (lo hi : Int) (w : World) :
   Calls Try.prog 128 #[.agg #[.int .i64 lo, .int .i64 hi]] w fun e w' => e = .returned (.bool (vspan lo hi)) ∧ Below w.heap.size w w' := by
  cases h : inB lo (-1000000) hi
  all_goals
    go_enter Try.func128, Try.ntmps128
    go_wp2_with (go_at_call 101; refine (within_c _ _ _ _).mono ?_; rintro e w1 ⟨rfl, rfl⟩)
    go_ret
    exact ⟨by simp [vspan, h], (Below.refl _ _).alloc (Nat.le_refl _) _⟩

theorem floor_c (num den : Int) (w : World) (h0 : -4000000000000000000 ≤ num) (h1 : num ≤ 4000000000000000000) (h2 : 1 ≤ den) (h3 : den ≤ 4000000000000000000) :
   Calls Try.prog 64 #[.int .i64 num, .int .i64 den] w fun e w' => e = .returned (.int .i64 (num / den)) ∧ w = w' := by
  have hb := ediv_bound h2 (show (0:Int) ≤ 4000000000000000000 by omega) h0 h1
  have HB := Lib.hid hb
  clear hb
  go_enter Try.func64, Try.ntmps64
  go_wp2
  · have hm : num.tmod den < 0 := by assumption
    have e := fdiv_neg h2 hm
    have hb := HB.out
    rw [wrap64_in (by omega) (by omega), e]
    go_ret
    exact ⟨rfl, rfl⟩
  · have hm : 0 ≤ num.tmod den := by assumption
    have e := fdiv_pos h2 hm
    rw [e]
    go_ret
    exact ⟨rfl, rfl⟩

theorem ceil_c (num den : Int) (w : World) (h0 : -4000000000000000000 ≤ num) (h1 : num ≤ 4000000000000000000) (h2 : 1 ≤ den) (h3 : den ≤ 4000000000000000000) :
   Calls Try.prog 65 #[.int .i64 num, .int .i64 den] w fun e w' => e = .returned (.int .i64 (cdiv num den)) ∧ w = w' := by
  have hb := ediv_bound (a := -num) h2 (show (0:Int) ≤ 4000000000000000000 by omega) (by omega) (by omega)
  go_enter Try.func65, Try.ntmps65
  go_wp2_with (go_at_call 64; refine (floor_c _ _ _ (by omega) (by omega) h2 h3).mono ?_; rintro e w1 ⟨rfl, rfl⟩)
  go_ret
  exact ⟨rfl, rfl⟩
end Go.Proofs.Ytoembbcddhlokaa
