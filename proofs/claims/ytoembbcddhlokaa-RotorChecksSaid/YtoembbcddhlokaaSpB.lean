/- Contracts: spanned, Check of a box, axis, CheckTable of package spans. -/
import Derived.Test.YtoembbcddhlokaaSpA
import Derived.Test.YtoembbcddhlokaaIx
set_option linter.all false
namespace Go.Proofs.Ytoembbcddhlokaa
open Go Go.RowKit Go.Proofs

theorem spanned1_c (lo hi : Int) (w : World) :
   Calls Try.prog 127 #[.agg #[.int .i64 lo, .int .i64 hi]] w fun e w' => e = .returned (.bool (!vspan lo hi)) ∧ Below w.heap.size w w' := by
  go_enter Try.func127, Try.ntmps127
  go_wp2_with (go_at_call 128; refine (valid_c _ _ _).mono ?_; rintro e w1 ⟨rfl, hb1⟩)
  go_ret
  exact ⟨rfl, ((Below.refl _ _).alloc (Nat.le_refl _) _).trans (hb1.mono (by simp))⟩

def anyBad (n : Nat) (lo hi : Nat → Int) : Bool := (List.range n).any fun i => !vspan (lo i) (hi i)

def spanE (bad : Bool) : Int := if bad then 10 else 0
theorem spanE_t : spanE true = 10 := rfl
theorem spanE_f : spanE false = 0 := rfl

theorem spanned_c (A : Option Addr) (n c : Nat) (lo hi : Nat → Int) (w : World) (hn : n ≤ 9223372036854775807) (hA : SpansAt w A n lo hi) :
   Calls Try.prog 100 #[.slice A n c] w fun e w' => e = .returned (.int .i64 (spanE (anyBad n lo hi))) ∧ Below w.heap.size w w' := by
  have hcf := cfSpan_c A n c lo hi 127 #[] (fun i => !vspan (lo i) (hi i)) w hn (enters_of Try.func127 (by kernel_rfl) rfl) hA
    (fun W i _ hb => by simpa using spanned1_c (lo i) (hi i) W)
  have hcf' : Calls Try.prog 114 #[.slice A n c, .func (.func 127) #[] #[]] w fun e w' => e = .returned (.bool (anyBad n lo hi)) ∧ Below w.heap.size w w' := hcf
  have HC := Lib.hid hcf'
  clear hcf hcf'
  cases h : anyBad n lo hi
  all_goals
    rw [h] at HC
    have HH := Lib.hid h
    clear h
    go_enter Try.func100, Try.ntmps100
    go_wp2_with (go_at_call 114; refine HC.out.mono ?_; rintro e w1 ⟨rfl, hb1⟩)
    go_ret
    exact ⟨rfl, hb1⟩

/-- spans.Check of a box. -/
theorem spCheck_c (A : Option Addr) (n c : Nat) (lo hi : Nat → Int) (w : World) (hn : n ≤ 9223372036854775807) (hA : SpansAt w A n lo hi) :
   Calls Try.prog 121 #[.slice A n c] w fun e w' => e = .returned (.int .i64 (spanE (!inB n 1 3 || anyBad n lo hi))) ∧ Below w.heap.size w w' := by
  have hs := spanned_c A n c lo hi w hn hA
  have HC := Lib.hid hs
  clear hs
  cases h : inB n 1 3
  · go_enter Try.func121, Try.ntmps121
    go_wp2_with (go_at_call 101; refine (within_c _ _ _ _).mono ?_; rintro e w1 ⟨rfl, rfl⟩)
    go_ret
    exact ⟨rfl, Below.refl _ _⟩
  · go_enter Try.func121, Try.ntmps121
    go_wp2_with (first | (go_at_call 101; refine (within_c _ _ _ _).mono ?_; rintro e w1 ⟨rfl, rfl⟩) | (go_at_call 100; refine HC.out.mono ?_; rintro e w1 ⟨rfl, hb1⟩))
    go_ret
    exact ⟨rfl, hb1⟩

def okKnot (l : List Int) (i : Nat) : Bool := inB (nth l i) (-1000000) 1000000 && (i == 0 || inB (nth l i - nth l (i - 1)) 1 10000)
def axisB (l : List Int) : Bool := inB l.length 2 12 && (List.range l.length).all (okKnot l)

theorem inB_iff {n lo hi : Int} : inB n lo hi = true ↔ lo ≤ n ∧ n ≤ hi := by simp [inB]
theorem okKnot_range {l : List Int} {i : Nat} (h : okKnot l i = true) : -1000000 ≤ nth l i ∧ nth l i ≤ 1000000 := by
  unfold okKnot at h; simp only [Bool.and_eq_true] at h; exact inB_iff.1 h.1
theorem okKnot_zero {l : List Int} (h : inB (nth l 0) (-1000000) 1000000 = true) : okKnot l 0 = true := by simp [okKnot, h]
theorem okKnot_succ {l : List Int} {i : Nat} (h : inB (nth l i) (-1000000) 1000000 = true) (h2 : inB (nth l i - nth l (i - 1)) 1 10000 = true) : okKnot l i = true := by simp [okKnot, h, h2]
theorem axisB_no {l : List Int} {k : Nat} (hk : k < l.length) (h : okKnot l k = false) : axisB l = false := by
  unfold axisB; rw [Bool.and_eq_false_iff]; right
  rw [List.all_eq_false]; exact ⟨k, by simpa using hk, by simp [h]⟩
theorem axisB_yes {l : List Int} (h0 : inB l.length 2 12 = true) (h : ∀ k, k < l.length → okKnot l k = true) : axisB l = true := by
  unfold axisB; rw [h0, Bool.true_and, List.all_eq_true]; intro k hk; exact h k (by simpa using hk)

set_option maxHeartbeats 800000 in
theorem axis_c (v : Value) (xs : List Int) (w : World) (hv : Ints w v xs) :
   Calls Try.prog 112 #[v] w fun e w' => e = .returned (.bool (axisB xs)) ∧ w = w' := by
  obtain ⟨A, c, rfl, hc1, hc2, _, hA⟩ := hv
  have hc3 : xs.length ≤ 9223372036854775807 := by omega
  generalize hL : xs.length = n at *
  have HL := Lib.hid hL
  clear hL
  cases h0 : inB n 2 12
  · go_enter Try.func112, Try.ntmps112
    go_wp2_with (go_at_call 101; refine (within_c _ _ _ _).mono ?_; rintro e w1 ⟨rfl, rfl⟩)
    go_ret
    exact ⟨ret_bool (by unfold axisB; rw [HL.out, h0]; rfl), rfl⟩
  · go_enter Try.func112, Try.ntmps112
    go_wp2_with (go_at_call 101; refine (within_c _ _ _ _).mono ?_; rintro e w1 ⟨rfl, rfl⟩)
    have H0 := Lib.hid h0
    clear h0
    go_loop [3, 4, 11] (fun _ _ s => ∃ k : Nat, k ≤ n ∧ s = .int .i64 k ∧ Hid (∀ j, j < k → okKnot xs j = true)) (fun _ _ i => n - (intOf i).toNat)
    case atStart => exact ⟨0, by omega, rfl, fun j hj => absurd hj (by omega)⟩
    case round =>
      obtain ⟨k, hk, rfl, hF⟩ := hrel
      by_cases hlt : k < n
      · obtain ⟨b, off, rfl, hb, hc⟩ := hA (by omega)
        have hck := hc k hlt
        cases h1 : inB (nth xs k) (-1000000) 1000000
        · clear hc hA
          go_wp2_with (go_at_call 101; refine (within_c _ _ _ _).mono ?_; rintro e w1 ⟨rfl, rfl⟩)
          go_ret
          exact ⟨ret_bool (axisB_no (by rw [HL.out]; exact hlt) (show okKnot xs k = false by simp [okKnot, h1])).symm, rfl⟩
        · have hr := inB_iff.1 h1
          by_cases hk0 : k = 0
          · subst hk0
            simp only [Nat.add_zero] at hck
            clear hc hA
            go_wp2_with (go_at_call 101; refine (within_c _ _ _ _).mono ?_; rintro e w1 ⟨rfl, rfl⟩)
            go_round
            case rel => exact ⟨0 + 1, by omega, by go_num, fun j hj => by
              obtain rfl : j = 0 := by omega
              exact okKnot_zero h1⟩
            case measure => simp [intOf]; omega
          · have hkp : 0 < k := by omega
            have hcp := hc (k - 1) (by omega)
            have hrp := okKnot_range (hF.out (k - 1) (by omega))
            clear hc hA
            cases h2 : inB (nth xs k - nth xs (k - 1)) 1 10000
            · go_wp2_with (go_at_call 101; refine (within_c _ _ _ _).mono ?_; rintro e w1 ⟨rfl, rfl⟩)
              go_ret
              exact ⟨ret_bool (axisB_no (by rw [HL.out]; exact hlt) (show okKnot xs k = false by simp [okKnot, h1, h2, hk0])).symm, rfl⟩
            · go_wp2_with (go_at_call 101; refine (within_c _ _ _ _).mono ?_; rintro e w1 ⟨rfl, rfl⟩)
              go_round
              case rel => exact ⟨k + 1, by omega, by go_num, fun j hj => by
                by_cases e : j = k
                · subst e; exact okKnot_succ h1 h2
                · exact hF.out j (by omega)⟩
              case measure => simp [intOf]; omega
      · obtain rfl : k = n := by omega
        clear hA
        go_wp2
        go_ret
        exact ⟨ret_bool (axisB_yes (by rw [HL.out]; exact H0.out) (by rw [HL.out]; exact hF.out)).symm, rfl⟩
end Go.Proofs.Ytoembbcddhlokaa
