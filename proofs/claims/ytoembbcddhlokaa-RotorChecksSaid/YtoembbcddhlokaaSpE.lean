/- Contracts: cmp.Less, slices.BinarySearch, cell of package spans. -/
import Derived.Test.YtoembbcddhlokaaSpD
set_option linter.all false
namespace Go.Proofs.Ytoembbcddhlokaa
open Go Go.RowKit Go.Proofs

theorem nan1_c (n : Int) (w : World) : Calls Try.prog 141 #[.int .i64 n] w fun e w' => e = .returned (.bool false) ∧ w = w' := by
  have h : (n != n) = false := by simp
  go_enter Try.func141, Try.ntmps141
  go_wp2
  go_ret
  exact ⟨rfl, rfl⟩
theorem nan2_c (n : Int) (w : World) : Calls Try.prog 145 #[.int .i64 n] w fun e w' => e = .returned (.bool false) ∧ w = w' := by
  have h : (n != n) = false := by simp
  go_enter Try.func145, Try.ntmps145
  go_wp2
  go_ret
  exact ⟨rfl, rfl⟩
theorem less_c (a b : Int) (w : World) : Calls Try.prog 140 #[.int .i64 a, .int .i64 b] w fun e w' => e = .returned (.bool (decide (a < b))) ∧ w = w' := by
  go_enter Try.func140, Try.ntmps140
  go_wp2_with (first | (go_at_call 145; (with_reducible refine (nan2_c _ _).mono ?_); rintro e w1 ⟨rfl, rfl⟩))
  go_ret
  exact ⟨rfl, rfl⟩

def lowIx (f : Nat → Int) (n : Nat) (t : Int) : Nat := ((List.range n).find? fun j => decide (t ≤ f j)).getD n
theorem lowIx_eq {f : Nat → Int} {n r : Nat} {t : Int} (hr : r ≤ n) (h1 : ∀ j, j < r → f j < t) (h2 : r < n → t ≤ f r) : lowIx f n t = r := by
  unfold lowIx
  by_cases h : r < n
  · have : (List.range n).find? (fun j => decide (t ≤ f j)) = some r := by
      rw [List.find?_range_eq_some]
      exact ⟨by simpa using h2 h, List.mem_range.2 h, fun j hj => by have := h1 j hj; simp; omega⟩
    rw [this]; rfl
  · have : (List.range n).find? (fun j => decide (t ≤ f j)) = none := by
      rw [List.find?_eq_none]
      intro j hj
      have := h1 j (by have := List.mem_range.1 hj; omega)
      simp; omega
    rw [this]; simp; omega

def SomeB (r : Int) (w : World) (e : Ending) (w' : World) : Prop := ∃ b, e = .returned (.tuple #[.int .i64 r, .bool b]) ∧ w = w'

set_option maxHeartbeats 1600000 in
theorem bs_c (A : Option Addr) (n c : Nat) (f : Nat → Int) (t : Int) (w : World) (hn : n ≤ 1000000)
    (hA : CellsAt w A n (fun k => .int .i64 (f k))) (hf : ∀ i j, i ≤ j → j < n → f i ≤ f j) :
   Calls Try.prog 132 #[.slice A n c, .int .i64 t] w (SomeB (lowIx f n t) w) := by
  have HF := Lib.hid hf
  clear hf
  go_enter Try.func132, Try.ntmps132
  go_wp2
  go_loop [7, 8, 9] (fun s7 s8 _ => ∃ i j : Nat, s7 = .int .i64 i ∧ s8 = .int .i64 j ∧ i ≤ j ∧ j ≤ n ∧ Hid (∀ a, a < i → f a < t) ∧ Hid (∀ a, j ≤ a → a < n → t ≤ f a)) (fun s7 s8 _ => (intOf s8).toNat - (intOf s7).toNat)
  case atStart => exact ⟨0, n, rfl, rfl, by omega, by omega, fun a ha => absurd ha (by omega), fun a h1 h2 => absurd h1 (by omega)⟩
  case round =>
    obtain ⟨i, j, rfl, rfl, hij, hj, h1, h2⟩ := hrel
    by_cases hlt : i < j
    · have hm1 : (i + j) / 2 < j := by omega
      have hm2 : i ≤ (i + j) / 2 := by omega
      obtain ⟨b, off, rfl, hb, hc⟩ := hA (by omega)
      have hcm := hc ((i + j) / 2) (by omega)
      clear hc hA
      by_cases hl : f ((i + j) / 2) < t
      · go_wp2_with (first | (go_at_call 140; (with_reducible refine (less_c _ _ _).mono ?_); rintro e w1 ⟨rfl, rfl⟩))
        go_round
        case rel => exact ⟨(i + j) / 2 + 1, j, by go_num, rfl, by omega, by omega, fun a ha => by
          have := HF.out a ((i + j) / 2) (by omega) (by omega); omega, h2⟩
        case measure => simp [intOf]; omega
      · go_wp2_with (first | (go_at_call 140; (with_reducible refine (less_c _ _ _).mono ?_); rintro e w1 ⟨rfl, rfl⟩))
        go_round
        case rel => exact ⟨i, (i + j) / 2, rfl, by go_num, by omega, by omega, h1, fun a ha1 ha2 => by
          have := HF.out ((i + j) / 2) a ha1 (by omega); omega⟩
        case measure => simp [intOf]; omega
    · obtain rfl : i = j := by omega
      have hr := lowIx_eq (f := f) (n := n) (r := i) (t := t) hj h1.out (fun h => h2.out i (by omega) h)
      have HR := Lib.hid hr
      clear hr
      by_cases hi : i < n
      · obtain ⟨b, off, rfl, hb, hc⟩ := hA (by omega)
        have hcm := hc i hi
        clear hc hA
        cases he : (f i == t)
        · go_wp2_with (first | (go_at_call 141; (with_reducible refine (nan1_c _ _).mono ?_); rintro e w1 ⟨rfl, rfl⟩))
          go_ret2
          exact ⟨_, by rw [HR.out]; rfl, rfl⟩
        · go_wp2_with (first | (go_at_call 141; (with_reducible refine (nan1_c _ _).mono ?_); rintro e w1 ⟨rfl, rfl⟩))
          go_ret2
          exact ⟨_, by rw [HR.out]; rfl, rfl⟩
      · clear hA
        go_wp2
        go_ret2
        exact ⟨_, by rw [HR.out]; rfl, rfl⟩
end Go.Proofs.Ytoembbcddhlokaa
