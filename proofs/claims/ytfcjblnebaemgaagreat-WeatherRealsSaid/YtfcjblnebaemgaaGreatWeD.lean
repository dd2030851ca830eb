/- The sorts of package weather: its comparisons, and forecasts and sights put in order. -/
import Derived.Test.YtfcjblnebaemgaaGreatWeC
import Derived.Test.YtfcjblnebaemgaaGreatSyF
import Derived.Test.YtfcjblnebaemgaaGreatStr
set_option linter.all false
namespace Go.Proofs.YtfcjblnebaemgaaGreat
open Go Go.Shelf Go.RowKit Go.Lib Go.Sort Go.Proofs
set_option maxRecDepth 100000
set_option maxHeartbeats 4000000

def cmpI (x y : Int) : Int := if x < y then -1 else if y < x then 1 else 0
theorem cnan_c (n : Int) (w : World) : Calls Tryz.prog 70 #[.int .i64 n] w fun e w' => e = .returned (.bool false) ∧ w = w' := by
  go_enter Tryz.func70, Tryz.ntmps70
  go_wp2
  go_ret
  exact ⟨by simp, rfl⟩
theorem cmpc_c (x y : Int) (w : World) : Calls Tryz.prog 48 #[.int .i64 x, .int .i64 y] w fun e w' => e = .returned (.int .i64 (cmpI x y)) ∧ w = w' := by
  unfold cmpI
  by_cases h : x < y
  · rw [if_pos h]
    go_enter Tryz.func48, Tryz.ntmps48
    go_wp2_with (first | (go_at_call 70; (with_reducible refine (cnan_c _ _).mono ?_); rintro e w1 ⟨rfl, rfl⟩))
    go_ret
    exact ⟨rfl, rfl⟩
  · rw [if_neg h]
    by_cases h2 : y < x
    · rw [if_pos h2]
      go_enter Tryz.func48, Tryz.ntmps48
      go_wp2_with (first | (go_at_call 70; (with_reducible refine (cnan_c _ _).mono ?_); rintro e w1 ⟨rfl, rfl⟩))
      go_ret
      exact ⟨rfl, rfl⟩
    · rw [if_neg h2]
      go_enter Tryz.func48, Tryz.ntmps48
      go_wp2_with (first | (go_at_call 70; (with_reducible refine (cnan_c _ _).mono ?_); rintro e w1 ⟨rfl, rfl⟩))
      go_ret
      exact ⟨rfl, rfl⟩

theorem may1_c (gm bf off n c x y : Nat) (kx ky : Int) (w : World) (hs : w.cell? ⟨gm, 12, none⟩ = some (.slice (some ⟨bf, off, none⟩) n c)) (hx : x < n) (hy : y < n) (hn : n ≤ 40)
    (h0 : w.cell? ⟨bf, off + x * 12 + 3, none⟩ = some (.int .i64 kx)) (h1 : w.cell? ⟨bf, off + y * 12 + 3, none⟩ = some (.int .i64 ky)) :
   Calls Tryz.prog 47 #[.int .i64 x, .int .i64 y, .pointer (some ⟨gm, 0, none⟩)] w fun e w' => e = .returned (.int .i64 (cmpI kx ky)) ∧ ∃ q, w' = w.drewN q := by
  have d0 : ∀ q, (w.drewN q).cell? ⟨gm, 12, none⟩ = some (.slice (some ⟨bf, off, none⟩) n c) := fun _ => hs
  have d1 : ∀ q, (w.drewN q).cell? ⟨bf, off + x * 12 + 3, none⟩ = some (.int .i64 kx) := fun _ => h0
  have d2 : ∀ q, (w.drewN q).cell? ⟨bf, off + y * 12 + 3, none⟩ = some (.int .i64 ky) := fun _ => h1
  have x1 : (x : Int) < (n : Int) := by omega
  have y1 : (y : Int) < (n : Int) := by omega
  clear hs h0 h1
  go_enter Tryz.func47, Tryz.ntmps47
  go_wp2_with (fail)
  (refine wp_region_drawnt 13 (by kernel_rfl) (by kernel_rfl) ?_; simp only [List.take_succ_cons, List.take_zero, List.drop_succ_cons, List.drop_zero]; (repeat (go_big_quiet_step ( (go_at_call 48; (with_reducible refine qsame (cmpc_c _ _ _)))))); refine wpQuiet_nil ?_; rintro _ ⟨nq, rfl⟩)
  go_wp2
  go_ret
  exact ⟨rfl, _, rfl⟩
theorem may2_c (gm bf off n c x y : Nat) (kx ky : Int) (w : World) (hs : w.cell? ⟨gm, 13, none⟩ = some (.slice (some ⟨bf, off, none⟩) n c)) (hx : x < n) (hy : y < n) (hn : n ≤ 40)
    (h0 : w.cell? ⟨bf, off + x * 7 + 1, none⟩ = some (.int .i64 kx)) (h1 : w.cell? ⟨bf, off + y * 7 + 1, none⟩ = some (.int .i64 ky)) :
   Calls Tryz.prog 50 #[.int .i64 x, .int .i64 y, .pointer (some ⟨gm, 0, none⟩)] w fun e w' => e = .returned (.int .i64 (cmpI kx ky)) ∧ ∃ q, w' = w.drewN q := by
  have d0 : ∀ q, (w.drewN q).cell? ⟨gm, 13, none⟩ = some (.slice (some ⟨bf, off, none⟩) n c) := fun _ => hs
  have d1 : ∀ q, (w.drewN q).cell? ⟨bf, off + x * 7 + 1, none⟩ = some (.int .i64 kx) := fun _ => h0
  have d2 : ∀ q, (w.drewN q).cell? ⟨bf, off + y * 7 + 1, none⟩ = some (.int .i64 ky) := fun _ => h1
  have x1 : (x : Int) < (n : Int) := by omega
  have y1 : (y : Int) < (n : Int) := by omega
  clear hs h0 h1
  go_enter Tryz.func50, Tryz.ntmps50
  go_wp2_with (fail)
  (refine wp_region_drawnt 13 (by kernel_rfl) (by kernel_rfl) ?_; simp only [List.take_succ_cons, List.take_zero, List.drop_succ_cons, List.drop_zero]; (repeat (go_big_quiet_step ( (go_at_call 48; (with_reducible refine qsame (cmpc_c _ _ _)))))); refine wpQuiet_nil ?_; rintro _ ⟨nq, rfl⟩)
  go_wp2
  go_ret
  exact ⟨rfl, _, rfl⟩
end Go.Proofs.YtfcjblnebaemgaaGreat
