/- Contracts: slices.Equal, package rotor's Check. -/
import Derived.Test.YtoembbcddhlokaaRoE
set_option linter.all false
namespace Go.Proofs.Ytoembbcddhlokaa
open Go Go.RowKit Go.Proofs
set_option maxRecDepth 100000
set_option maxHeartbeats 4000000

theorem ext_nth {xs ys : List Int} (h : xs.length = ys.length) (hk : ∀ j, j < xs.length → nth xs j = nth ys j) : xs = ys := by
  apply List.ext_getElem h
  intro i h1 h2
  have := hk i h1
  rwa [nth_getElem xs i h1, nth_getElem ys i h2] at this

theorem equal_c (v u : Value) (xs ys : List Int) (w : World) (hv : Ints w v xs) (hu : Ints w u ys) :
   Calls Try.prog 52 #[v, u] w fun e w' => e = .returned (.bool (decide (xs = ys))) ∧ Below w.heap.size w w' := by
  obtain ⟨A, c, rfl, hc1, hc2, _, hA⟩ := hv
  obtain ⟨A', c', rfl, hc1', hc2', _, hA'⟩ := hu
  by_cases hl : xs.length = ys.length
  · have hb : ((xs.length : Int) != (ys.length : Int)) = false := by simp [hl]
    have HL := Lib.hid hl
    rw [← hl] at hc1' hA' ⊢
    clear hl hb
    generalize hn : xs.length = n at *
    have HN := Lib.hid hn
    clear hn
    have hn9 : (n : Int) ≤ 9223372036854775807 := by omega
    have hb2 : ((n : Int) != (n : Int)) = false := by simp
    go_enter Try.func52, Try.ntmps52
    go_wp2
    go_loopw [5, 13] (fun _ s wr => ∃ k : Nat, k ≤ n ∧ s = .int .i64 k ∧ Hid (Below w.heap.size w wr) ∧ Hid (∀ j, j < k → nth xs j = nth ys j)) (fun _ i _ => n - (intOf i).toNat)
    case atStart => exact ⟨0, by omega, rfl, Below.refl _ _, fun j hj => absurd hj (by omega)⟩
    case round =>
      obtain ⟨k, hk, rfl, hB, hF⟩ := hrel
      by_cases hlt : k < n
      · obtain ⟨b, off, rfl, hb1, hc⟩ := hA (by omega)
        obtain ⟨b', off', rfl, hb1', hc'⟩ := hA' (by omega)
        have hck := (hB.out.cell (p := ⟨b, off + k, none⟩) hb1).trans (hc k hlt)
        have hck' := (hB.out.cell (p := ⟨b', off' + k, none⟩) hb1').trans (hc' k hlt)
        clear hc hA hc' hA'
        by_cases he : nth xs k = nth ys k
        · have hne : (nth xs k != nth ys k) = false := by simp [he]
          go_wp2
          go_quiet (fail)
          go_wp2
          go_roundw
          case rel => exact ⟨k + 1, by omega, by go_num, bdn hB.out _, fun j hj => by
            by_cases e : j = k
            · subst e; exact he
            · exact hF.out j (by omega)⟩
          case measure => simp [intOf]; omega
        · have hne : (nth xs k != nth ys k) = true := by simp [he]
          go_wp2
          go_quiet (fail)
          go_wp2
          go_ret
          exact ⟨ret_bool (by simp only [Bool.false_eq, decide_eq_false_iff_not]; intro e; exact he (by rw [e])), bdn hB.out _⟩
      · obtain rfl : k = n := by omega
        clear hA hA'
        go_wp2
        go_ret
        exact ⟨ret_bool (by simp only [Bool.true_eq, decide_eq_true_eq]; exact ext_nth (HN.out.trans HL.out) (fun j hj => hF.out j (by rw [← HN.out]; exact hj))), hB.out⟩
  · have hb : ((xs.length : Int) != (ys.length : Int)) = true := by simp; omega
    have hne : ¬ xs = ys := fun e => hl (by rw [e])
    go_enter Try.func52, Try.ntmps52
    go_wp2
    go_ret
    exact ⟨ret_bool (by simp [hne]), Below.refl _ _⟩
end Go.Proofs.Ytoembbcddhlokaa
