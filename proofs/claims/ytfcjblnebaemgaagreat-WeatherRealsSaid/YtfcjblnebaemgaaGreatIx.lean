/- slices.IndexFunc and ContainsFunc, at each type of elements: printed by gen_ix.py. -/
import Derived.Test.YtfcjblnebaemgaaGreatProg
import Derived.Test.YtfcjblnebaemgaaGreatBas
set_option linter.all false
namespace Go.Proofs.YtfcjblnebaemgaaGreat
open Go Go.RowKit Go.Proofs

def SpansAt (w : World) (A : Option Addr) (n : Nat) (lo hi : Nat → Int) : Prop :=
  0 < n → ∃ b off, A = some ⟨b, off, none⟩ ∧ b < w.heap.size ∧ ∀ k, k < n → w.cell? ⟨b, off + k * 2, none⟩ = some (.int .i64 (lo k)) ∧ w.cell? ⟨b, off + k * 2 + 1, none⟩ = some (.int .i64 (hi k))

set_option maxHeartbeats 400000 in
theorem ixSpan_c (A : Option Addr) (n c : Nat) (lo hi : Nat → Int) (g : Nat) (lb : Array Value) (p : Nat → Bool) (w : World) (hn : n ≤ 9223372036854775807)
    (eg : ∀ args w, (callFunc g args).run Tryz.prog w = .ok (.enter g args) w)
    (hA : SpansAt w A n lo hi) (hp : PredB Tryz.prog g lb n (fun i => .agg #[.int .i64 (lo i), .int .i64 (hi i)]) p w) :
   Calls Tryz.prog 118 #[.slice A n c, .func (.func g) #[] lb] w fun e w' => e = .returned (.int .i64 (firstIx p n)) ∧ Below w.heap.size w w' := by
  go_enter Tryz.func118, Tryz.ntmps118
  go_wp2
  go_loopw [5, 8] (fun _ s8 wr => ∃ k : Nat, k ≤ n ∧ s8 = .int .i64 k ∧ Hid (Below w.heap.size w wr) ∧ Hid (∀ j, j < k → p j = false)) (fun _ i _ => n - (intOf i).toNat)
  case atStart => exact ⟨0, by omega, rfl, Below.refl _ _, fun j hj => absurd hj (by omega)⟩
  case round =>
    obtain ⟨k, hk, rfl, hB, hF⟩ := hrel
    by_cases hlt : k < n
    · obtain ⟨b, off, rfl, hb, hc⟩ := hA (by omega)
      have h0 := (hB.out.cell (p := ⟨b, off + k * 2, none⟩) hb).trans (hc k hlt).1
      have h1 := (hB.out.cell (p := ⟨b, off + k * 2 + 1, none⟩) hb).trans (hc k hlt).2
      have hcall := hp wr k hlt hB.out
      clear hc hA hp
      cases hq : p k with
      | true =>
        rw [hq] at hcall
        have HQ := Lib.hid hq
        clear hq
        go_wp2_with (go_at_fn g; refine hcall.mono ?_; rintro e w1 ⟨rfl, hb1⟩)
        go_ret
        exact ⟨ret_int (firstIx_hit p n k hlt HQ.out hF.out).symm, hB.out.trans (hb1.mono hB.out.size)⟩
      | false =>
        rw [hq] at hcall
        have HQ := Lib.hid hq
        clear hq
        go_wp2_with (go_at_fn g; refine hcall.mono ?_; rintro e w1 ⟨rfl, hb1⟩)
        go_roundw
        case rel => exact ⟨k + 1, by omega, by go_num, hB.out.trans (hb1.mono hB.out.size), fun j hj => by
          by_cases e : j = k
          · subst e; exact HQ.out
          · exact hF.out j (by omega)⟩
        case measure => simp [intOf]; omega
    · obtain rfl : k = n := by omega
      clear hA hp
      go_wp2
      go_ret
      exact ⟨ret_int (firstIx_miss p k hF.out).symm, hB.out⟩

theorem cfSpan_c (A : Option Addr) (n c : Nat) (lo hi : Nat → Int) (g : Nat) (lb : Array Value) (p : Nat → Bool) (w : World) (hn : n ≤ 9223372036854775807)
    (eg : ∀ args w, (callFunc g args).run Tryz.prog w = .ok (.enter g args) w)
    (hA : SpansAt w A n lo hi) (hp : PredB Tryz.prog g lb n (fun i => .agg #[.int .i64 (lo i), .int .i64 (hi i)]) p w) :
   Calls Tryz.prog 112 #[.slice A n c, .func (.func g) #[] lb] w fun e w' => e = .returned (.bool ((List.range n).any p)) ∧ Below w.heap.size w w' := by
  rw [← firstIx_nonneg p n]
  go_enter Tryz.func112, Tryz.ntmps112
  go_wp2_with (go_at_call 118; refine (ixSpan_c _ _ _ _ _ _ _ _ _ hn eg hA hp).mono ?_; rintro e w1 ⟨rfl, hb1⟩)
  go_ret
  exact ⟨rfl, hb1⟩

def IntsAt (w : World) (A : Option Addr) (n : Nat) (xs : Nat → Int) : Prop :=
  0 < n → ∃ b off, A = some ⟨b, off, none⟩ ∧ b < w.heap.size ∧ ∀ k, k < n → w.cell? ⟨b, off + k, none⟩ = some (.int .i64 (xs k))

set_option maxHeartbeats 400000 in
theorem ixInt_c (A : Option Addr) (n c : Nat) (xs : Nat → Int) (g : Nat) (lb : Array Value) (p : Nat → Bool) (w : World) (hn : n ≤ 9223372036854775807)
    (eg : ∀ args w, (callFunc g args).run Tryz.prog w = .ok (.enter g args) w)
    (hA : IntsAt w A n xs) (hp : PredB Tryz.prog g lb n (fun i => .int .i64 (xs i)) p w) :
   Calls Tryz.prog 84 #[.slice A n c, .func (.func g) #[] lb] w fun e w' => e = .returned (.int .i64 (firstIx p n)) ∧ Below w.heap.size w w' := by
  go_enter Tryz.func84, Tryz.ntmps84
  go_wp2
  go_loopw [5, 8] (fun _ s8 wr => ∃ k : Nat, k ≤ n ∧ s8 = .int .i64 k ∧ Hid (Below w.heap.size w wr) ∧ Hid (∀ j, j < k → p j = false)) (fun _ i _ => n - (intOf i).toNat)
  case atStart => exact ⟨0, by omega, rfl, Below.refl _ _, fun j hj => absurd hj (by omega)⟩
  case round =>
    obtain ⟨k, hk, rfl, hB, hF⟩ := hrel
    by_cases hlt : k < n
    · obtain ⟨b, off, rfl, hb, hc⟩ := hA (by omega)
      have h0 := (hB.out.cell (p := ⟨b, off + k, none⟩) hb).trans (hc k hlt)
      have hcall := hp wr k hlt hB.out
      clear hc hA hp
      cases hq : p k with
      | true =>
        rw [hq] at hcall
        have HQ := Lib.hid hq
        clear hq
        go_wp2_with (go_at_fn g; refine hcall.mono ?_; rintro e w1 ⟨rfl, hb1⟩)
        go_ret
        exact ⟨ret_int (firstIx_hit p n k hlt HQ.out hF.out).symm, hB.out.trans (hb1.mono hB.out.size)⟩
      | false =>
        rw [hq] at hcall
        have HQ := Lib.hid hq
        clear hq
        go_wp2_with (go_at_fn g; refine hcall.mono ?_; rintro e w1 ⟨rfl, hb1⟩)
        go_roundw
        case rel => exact ⟨k + 1, by omega, by go_num, hB.out.trans (hb1.mono hB.out.size), fun j hj => by
          by_cases e : j = k
          · subst e; exact HQ.out
          · exact hF.out j (by omega)⟩
        case measure => simp [intOf]; omega
    · obtain rfl : k = n := by omega
      clear hA hp
      go_wp2
      go_ret
      exact ⟨ret_int (firstIx_miss p k hF.out).symm, hB.out⟩

theorem cfInt_c (A : Option Addr) (n c : Nat) (xs : Nat → Int) (g : Nat) (lb : Array Value) (p : Nat → Bool) (w : World) (hn : n ≤ 9223372036854775807)
    (eg : ∀ args w, (callFunc g args).run Tryz.prog w = .ok (.enter g args) w)
    (hA : IntsAt w A n xs) (hp : PredB Tryz.prog g lb n (fun i => .int .i64 (xs i)) p w) :
   Calls Tryz.prog 67 #[.slice A n c, .func (.func g) #[] lb] w fun e w' => e = .returned (.bool ((List.range n).any p)) ∧ Below w.heap.size w w' := by
  rw [← firstIx_nonneg p n]
  go_enter Tryz.func67, Tryz.ntmps67
  go_wp2_with (go_at_call 84; refine (ixInt_c _ _ _ _ _ _ _ _ hn eg hA hp).mono ?_; rintro e w1 ⟨rfl, hb1⟩)
  go_ret
  exact ⟨rfl, hb1⟩

def RowsAt (w : World) (A : Option Addr) (n : Nat) (vs : Nat → Value) : Prop :=
  0 < n → ∃ b off, A = some ⟨b, off, none⟩ ∧ b < w.heap.size ∧ ∀ k, k < n → w.cell? ⟨b, off + k, none⟩ = some (vs k)

def LookedsAt (w : World) (A : Option Addr) (n : Nat) (x y v : Nat → Value) (xl xh yl yh : Nat → Int) : Prop :=
  0 < n → ∃ b off, A = some ⟨b, off, none⟩ ∧ b < w.heap.size ∧ ∀ k, k < n → w.cell? ⟨b, off + k * 7, none⟩ = some (x k) ∧ w.cell? ⟨b, off + k * 7 + 1, none⟩ = some (y k) ∧ w.cell? ⟨b, off + k * 7 + 2, none⟩ = some (v k) ∧ w.cell? ⟨b, off + k * 7 + 3, none⟩ = some (.int .i64 (xl k)) ∧ w.cell? ⟨b, off + k * 7 + 4, none⟩ = some (.int .i64 (xh k)) ∧ w.cell? ⟨b, off + k * 7 + 5, none⟩ = some (.int .i64 (yl k)) ∧ w.cell? ⟨b, off + k * 7 + 6, none⟩ = some (.int .i64 (yh k))

end Go.Proofs.YtfcjblnebaemgaaGreat
