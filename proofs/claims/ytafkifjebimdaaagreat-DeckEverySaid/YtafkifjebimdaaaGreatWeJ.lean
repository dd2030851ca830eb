/- slices.IndexFunc and ContainsFunc at forecasts, sights and weathers: printed by gen_wx.py. -/
import Derived.Test.YtafkifjebimdaaaGreatJAF
set_option linter.all false
namespace Go.Proofs.YtafkifjebimdaaaGreat
open Go Go.RowKit Go.Proofs
set_option maxRecDepth 100000

def FcsAt (w : World) (A : Option Addr) (n : Nat) (D : Nat → Nat → Int) (B : Nat → Nat → Bool) : Prop :=
  0 < n → ∃ b off, A = some ⟨b, off, none⟩ ∧ b < w.heap.size ∧ ∀ k, k < n → w.cell? ⟨b, off + k * 12, none⟩ = some (.int .i64 (D k 0)) ∧ w.cell? ⟨b, off + k * 12 + 1, none⟩ = some (.int .i64 (D k 1)) ∧ w.cell? ⟨b, off + k * 12 + 2, none⟩ = some (.int .i64 (D k 2)) ∧ w.cell? ⟨b, off + k * 12 + 3, none⟩ = some (.int .i64 (D k 3)) ∧ w.cell? ⟨b, off + k * 12 + 4, none⟩ = some (.int .i64 (D k 4)) ∧ w.cell? ⟨b, off + k * 12 + 5, none⟩ = some (.int .i64 (D k 5)) ∧ w.cell? ⟨b, off + k * 12 + 6, none⟩ = some (.int .i64 (D k 6)) ∧ w.cell? ⟨b, off + k * 12 + 7, none⟩ = some (.int .i64 (D k 7)) ∧ w.cell? ⟨b, off + k * 12 + 8, none⟩ = some (.int .i64 (D k 8)) ∧ w.cell? ⟨b, off + k * 12 + 9, none⟩ = some (.int .i64 (D k 9)) ∧ w.cell? ⟨b, off + k * 12 + 10, none⟩ = some (.bool (B k 10)) ∧ w.cell? ⟨b, off + k * 12 + 11, none⟩ = some (.bool (B k 11))

set_option maxHeartbeats 400000 in
theorem ixFc_c (A : Option Addr) (n c : Nat) (D : Nat → Nat → Int) (B : Nat → Nat → Bool) (g : Nat) (lb : Array Value) (p : Nat → Bool) (w : World) (hn : n ≤ 9223372036854775807)
    (eg : ∀ args w, (callFunc g args).run Tryz.prog w = .ok (.enter g args) w)
    (hA : FcsAt w A n D B) (hp : PredB Tryz.prog g lb n (fun i => .agg #[.int .i64 (D i 0), .int .i64 (D i 1), .int .i64 (D i 2), .int .i64 (D i 3), .int .i64 (D i 4), .int .i64 (D i 5), .int .i64 (D i 6), .int .i64 (D i 7), .int .i64 (D i 8), .int .i64 (D i 9), .bool (B i 10), .bool (B i 11)]) p w) :
   Calls Tryz.prog 129 #[.slice A n c, .func (.func g) #[] lb] w fun e w' => e = .returned (.int .i64 (firstIx p n)) ∧ Below w.heap.size w w' := by
  go_enter Tryz.func129, Tryz.ntmps129
  go_wp2
  go_loopw [5, 8] (fun _ s8 wr => ∃ k : Nat, k ≤ n ∧ s8 = .int .i64 k ∧ Hid (Below w.heap.size w wr) ∧ Hid (∀ j, j < k → p j = false)) (fun _ i _ => n - (intOf i).toNat)
  case atStart => exact ⟨0, by omega, rfl, Below.refl _ _, fun j hj => absurd hj (by omega)⟩
  case round =>
    obtain ⟨k, hk, rfl, hB, hF⟩ := hrel
    by_cases hlt : k < n
    · obtain ⟨b, off, rfl, hb, hc⟩ := hA (by omega)
      have h0 := (hB.out.cell (p := ⟨b, off + k * 12, none⟩) hb).trans (hc k hlt).1
      have h1 := (hB.out.cell (p := ⟨b, off + k * 12 + 1, none⟩) hb).trans (hc k hlt).2.1
      have h2 := (hB.out.cell (p := ⟨b, off + k * 12 + 2, none⟩) hb).trans (hc k hlt).2.2.1
      have h3 := (hB.out.cell (p := ⟨b, off + k * 12 + 3, none⟩) hb).trans (hc k hlt).2.2.2.1
      have h4 := (hB.out.cell (p := ⟨b, off + k * 12 + 4, none⟩) hb).trans (hc k hlt).2.2.2.2.1
      have h5 := (hB.out.cell (p := ⟨b, off + k * 12 + 5, none⟩) hb).trans (hc k hlt).2.2.2.2.2.1
      have h6 := (hB.out.cell (p := ⟨b, off + k * 12 + 6, none⟩) hb).trans (hc k hlt).2.2.2.2.2.2.1
      have h7 := (hB.out.cell (p := ⟨b, off + k * 12 + 7, none⟩) hb).trans (hc k hlt).2.2.2.2.2.2.2.1
      have h8 := (hB.out.cell (p := ⟨b, off + k * 12 + 8, none⟩) hb).trans (hc k hlt).2.2.2.2.2.2.2.2.1
      have h9 := (hB.out.cell (p := ⟨b, off + k * 12 + 9, none⟩) hb).trans (hc k hlt).2.2.2.2.2.2.2.2.2.1
      have h10 := (hB.out.cell (p := ⟨b, off + k * 12 + 10, none⟩) hb).trans (hc k hlt).2.2.2.2.2.2.2.2.2.2.1
      have h11 := (hB.out.cell (p := ⟨b, off + k * 12 + 11, none⟩) hb).trans (hc k hlt).2.2.2.2.2.2.2.2.2.2.2
      have hcall := hp wr k hlt hB.out
      clear hc hA hp
      cases hq : p k with
      | true =>
        rw [hq] at hcall
        have HQ := Lib.hid hq
        clear hq
        go_wp2_with (go_at_fn g; refine hcall.mono ?_; rintro e w1 ⟨rfl, hb1⟩)
        go_ret
        exact ⟨ret_int (firstIx_hit p n k hlt HQ.out hF.out).symm, hB.out.trans (hb1.mono hB.out.size)⟩
      | false =>
        rw [hq] at hcall
        have HQ := Lib.hid hq
        clear hq
        go_wp2_with (go_at_fn g; refine hcall.mono ?_; rintro e w1 ⟨rfl, hb1⟩)
        go_roundw
        case rel => exact ⟨k + 1, by omega, by go_num, hB.out.trans (hb1.mono hB.out.size), fun j hj => by
          by_cases e : j = k
          · subst e; exact HQ.out
          · exact hF.out j (by omega)⟩
        case measure => simp [intOf]; omega
    · obtain rfl : k = n := by omega
      clear hA hp
      go_wp2
      go_ret
      exact ⟨ret_int (firstIx_miss p k hF.out).symm, hB.out⟩

theorem cfFc_c (A : Option Addr) (n c : Nat) (D : Nat → Nat → Int) (B : Nat → Nat → Bool) (g : Nat) (lb : Array Value) (p : Nat → Bool) (w : World) (hn : n ≤ 9223372036854775807)
    (eg : ∀ args w, (callFunc g args).run Tryz.prog w = .ok (.enter g args) w)
    (hA : FcsAt w A n D B) (hp : PredB Tryz.prog g lb n (fun i => .agg #[.int .i64 (D i 0), .int .i64 (D i 1), .int .i64 (D i 2), .int .i64 (D i 3), .int .i64 (D i 4), .int .i64 (D i 5), .int .i64 (D i 6), .int .i64 (D i 7), .int .i64 (D i 8), .int .i64 (D i 9), .bool (B i 10), .bool (B i 11)]) p w) :
   Calls Tryz.prog 120 #[.slice A n c, .func (.func g) #[] lb] w fun e w' => e = .returned (.bool ((List.range n).any p)) ∧ Below w.heap.size w w' := by
  rw [← firstIx_nonneg p n]
  go_enter Tryz.func120, Tryz.ntmps120
  go_wp2_with (go_at_call 129; refine (ixFc_c _ _ _ _ _ _ _ _ _ hn eg hA hp).mono ?_; rintro e w1 ⟨rfl, hb1⟩)
  go_ret
  exact ⟨rfl, hb1⟩

def SisAt (w : World) (A : Option Addr) (n : Nat) (E : Nat → Nat → Int) (C : Nat → Nat → Bool) : Prop :=
  0 < n → ∃ b off, A = some ⟨b, off, none⟩ ∧ b < w.heap.size ∧ ∀ k, k < n → w.cell? ⟨b, off + k * 7, none⟩ = some (.int .i64 (E k 0)) ∧ w.cell? ⟨b, off + k * 7 + 1, none⟩ = some (.int .i64 (E k 1)) ∧ w.cell? ⟨b, off + k * 7 + 2, none⟩ = some (.int .i64 (E k 2)) ∧ w.cell? ⟨b, off + k * 7 + 3, none⟩ = some (.int .i64 (E k 3)) ∧ w.cell? ⟨b, off + k * 7 + 4, none⟩ = some (.int .i64 (E k 4)) ∧ w.cell? ⟨b, off + k * 7 + 5, none⟩ = some (.bool (C k 5)) ∧ w.cell? ⟨b, off + k * 7 + 6, none⟩ = some (.bool (C k 6))

set_option maxHeartbeats 400000 in
theorem ixSi_c (A : Option Addr) (n c : Nat) (E : Nat → Nat → Int) (C : Nat → Nat → Bool) (g : Nat) (lb : Array Value) (p : Nat → Bool) (w : World) (hn : n ≤ 9223372036854775807)
    (eg : ∀ args w, (callFunc g args).run Tryz.prog w = .ok (.enter g args) w)
    (hA : SisAt w A n E C) (hp : PredB Tryz.prog g lb n (fun i => .agg #[.int .i64 (E i 0), .int .i64 (E i 1), .int .i64 (E i 2), .int .i64 (E i 3), .int .i64 (E i 4), .bool (C i 5), .bool (C i 6)]) p w) :
   Calls Tryz.prog 130 #[.slice A n c, .func (.func g) #[] lb] w fun e w' => e = .returned (.int .i64 (firstIx p n)) ∧ Below w.heap.size w w' := by
  go_enter Tryz.func130, Tryz.ntmps130
  go_wp2
  go_loopw [5, 8] (fun _ s8 wr => ∃ k : Nat, k ≤ n ∧ s8 = .int .i64 k ∧ Hid (Below w.heap.size w wr) ∧ Hid (∀ j, j < k → p j = false)) (fun _ i _ => n - (intOf i).toNat)
  case atStart => exact ⟨0, by omega, rfl, Below.refl _ _, fun j hj => absurd hj (by omega)⟩
  case round =>
    obtain ⟨k, hk, rfl, hB, hF⟩ := hrel
    by_cases hlt : k < n
    · obtain ⟨b, off, rfl, hb, hc⟩ := hA (by omega)
      have h0 := (hB.out.cell (p := ⟨b, off + k * 7, none⟩) hb).trans (hc k hlt).1
      have h1 := (hB.out.cell (p := ⟨b, off + k * 7 + 1, none⟩) hb).trans (hc k hlt).2.1
      have h2 := (hB.out.cell (p := ⟨b, off + k * 7 + 2, none⟩) hb).trans (hc k hlt).2.2.1
      have h3 := (hB.out.cell (p := ⟨b, off + k * 7 + 3, none⟩) hb).trans (hc k hlt).2.2.2.1
      have h4 := (hB.out.cell (p := ⟨b, off + k * 7 + 4, none⟩) hb).trans (hc k hlt).2.2.2.2.1
      have h5 := (hB.out.cell (p := ⟨b, off + k * 7 + 5, none⟩) hb).trans (hc k hlt).2.2.2.2.2.1
      have h6 := (hB.out.cell (p := ⟨b, off + k * 7 + 6, none⟩) hb).trans (hc k hlt).2.2.2.2.2.2
      have hcall := hp wr k hlt hB.out
      clear hc hA hp
      cases hq : p k with
      | true =>
        rw [hq] at hcall
        have HQ := Lib.hid hq
        clear hq
        go_wp2_with (go_at_fn g; refine hcall.mono ?_; rintro e w1 ⟨rfl, hb1⟩)
        go_ret
        exact ⟨ret_int (firstIx_hit p n k hlt HQ.out hF.out).symm, hB.out.trans (hb1.mono hB.out.size)⟩
      | false =>
        rw [hq] at hcall
        have HQ := Lib.hid hq
        clear hq
        go_wp2_with (go_at_fn g; refine hcall.mono ?_; rintro e w1 ⟨rfl, hb1⟩)
        go_roundw
        case rel => exact ⟨k + 1, by omega, by go_num, hB.out.trans (hb1.mono hB.out.size), fun j hj => by
          by_cases e : j = k
          · subst e; exact HQ.out
          · exact hF.out j (by omega)⟩
        case measure => simp [intOf]; omega
    · obtain rfl : k = n := by omega
      clear hA hp
      go_wp2
      go_ret
      exact ⟨ret_int (firstIx_miss p k hF.out).symm, hB.out⟩

theorem cfSi_c (A : Option Addr) (n c : Nat) (E : Nat → Nat → Int) (C : Nat → Nat → Bool) (g : Nat) (lb : Array Value) (p : Nat → Bool) (w : World) (hn : n ≤ 9223372036854775807)
    (eg : ∀ args w, (callFunc g args).run Tryz.prog w = .ok (.enter g args) w)
    (hA : SisAt w A n E C) (hp : PredB Tryz.prog g lb n (fun i => .agg #[.int .i64 (E i 0), .int .i64 (E i 1), .int .i64 (E i 2), .int .i64 (E i 3), .int .i64 (E i 4), .bool (C i 5), .bool (C i 6)]) p w) :
   Calls Tryz.prog 121 #[.slice A n c, .func (.func g) #[] lb] w fun e w' => e = .returned (.bool ((List.range n).any p)) ∧ Below w.heap.size w w' := by
  rw [← firstIx_nonneg p n]
  go_enter Tryz.func121, Tryz.ntmps121
  go_wp2_with (go_at_call 130; refine (ixSi_c _ _ _ _ _ _ _ _ _ hn eg hA hp).mono ?_; rintro e w1 ⟨rfl, hb1⟩)
  go_ret
  exact ⟨rfl, hb1⟩

def WesAt (w : World) (A : Option Addr) (n : Nat) (G : Nat → Nat → Int) (H : Nat → Nat → Bool) : Prop :=
  0 < n → ∃ b off, A = some ⟨b, off, none⟩ ∧ b < w.heap.size ∧ ∀ k, k < n → w.cell? ⟨b, off + k * 5, none⟩ = some (.int .i64 (G k 0)) ∧ w.cell? ⟨b, off + k * 5 + 1, none⟩ = some (.int .i64 (G k 1)) ∧ w.cell? ⟨b, off + k * 5 + 2, none⟩ = some (.int .i64 (G k 2)) ∧ w.cell? ⟨b, off + k * 5 + 3, none⟩ = some (.bool (H k 3)) ∧ w.cell? ⟨b, off + k * 5 + 4, none⟩ = some (.bool (H k 4))

set_option maxHeartbeats 400000 in
theorem ixWe_c (A : Option Addr) (n c : Nat) (G : Nat → Nat → Int) (H : Nat → Nat → Bool) (g : Nat) (lb : Array Value) (p : Nat → Bool) (w : World) (hn : n ≤ 9223372036854775807)
    (eg : ∀ args w, (callFunc g args).run Tryz.prog w = .ok (.enter g args) w)
    (hA : WesAt w A n G H) (hp : PredB Tryz.prog g lb n (fun i => .agg #[.int .i64 (G i 0), .int .i64 (G i 1), .int .i64 (G i 2), .bool (H i 3), .bool (H i 4)]) p w) :
   Calls Tryz.prog 90 #[.slice A n c, .func (.func g) #[] lb] w fun e w' => e = .returned (.int .i64 (firstIx p n)) ∧ Below w.heap.size w w' := by
  go_enter Tryz.func90, Tryz.ntmps90
  go_wp2
  go_loopw [5, 8] (fun _ s8 wr => ∃ k : Nat, k ≤ n ∧ s8 = .int .i64 k ∧ Hid (Below w.heap.size w wr) ∧ Hid (∀ j, j < k → p j = false)) (fun _ i _ => n - (intOf i).toNat)
  case atStart => exact ⟨0, by omega, rfl, Below.refl _ _, fun j hj => absurd hj (by omega)⟩
  case round =>
    obtain ⟨k, hk, rfl, hB, hF⟩ := hrel
    by_cases hlt : k < n
    · obtain ⟨b, off, rfl, hb, hc⟩ := hA (by omega)
      have h0 := (hB.out.cell (p := ⟨b, off + k * 5, none⟩) hb).trans (hc k hlt).1
      have h1 := (hB.out.cell (p := ⟨b, off + k * 5 + 1, none⟩) hb).trans (hc k hlt).2.1
      have h2 := (hB.out.cell (p := ⟨b, off + k * 5 + 2, none⟩) hb).trans (hc k hlt).2.2.1
      have h3 := (hB.out.cell (p := ⟨b, off + k * 5 + 3, none⟩) hb).trans (hc k hlt).2.2.2.1
      have h4 := (hB.out.cell (p := ⟨b, off + k * 5 + 4, none⟩) hb).trans (hc k hlt).2.2.2.2
      have hcall := hp wr k hlt hB.out
      clear hc hA hp
      cases hq : p k with
      | true =>
        rw [hq] at hcall
        have HQ := Lib.hid hq
        clear hq
        go_wp2_with (go_at_fn g; refine hcall.mono ?_; rintro e w1 ⟨rfl, hb1⟩)
        go_ret
        exact ⟨ret_int (firstIx_hit p n k hlt HQ.out hF.out).symm, hB.out.trans (hb1.mono hB.out.size)⟩
      | false =>
        rw [hq] at hcall
        have HQ := Lib.hid hq
        clear hq
        go_wp2_with (go_at_fn g; refine hcall.mono ?_; rintro e w1 ⟨rfl, hb1⟩)
        go_roundw
        case rel => exact ⟨k + 1, by omega, by go_num, hB.out.trans (hb1.mono hB.out.size), fun j hj => by
          by_cases e : j = k
          · subst e; exact HQ.out
          · exact hF.out j (by omega)⟩
        case measure => simp [intOf]; omega
    · obtain rfl : k = n := by omega
      clear hA hp
      go_wp2
      go_ret
      exact ⟨ret_int (firstIx_miss p k hF.out).symm, hB.out⟩

theorem cfWe_c (A : Option Addr) (n c : Nat) (G : Nat → Nat → Int) (H : Nat → Nat → Bool) (g : Nat) (lb : Array Value) (p : Nat → Bool) (w : World) (hn : n ≤ 9223372036854775807)
    (eg : ∀ args w, (callFunc g args).run Tryz.prog w = .ok (.enter g args) w)
    (hA : WesAt w A n G H) (hp : PredB Tryz.prog g lb n (fun i => .agg #[.int .i64 (G i 0), .int .i64 (G i 1), .int .i64 (G i 2), .bool (H i 3), .bool (H i 4)]) p w) :
   Calls Tryz.prog 54 #[.slice A n c, .func (.func g) #[] lb] w fun e w' => e = .returned (.bool ((List.range n).any p)) ∧ Below w.heap.size w w' := by
  rw [← firstIx_nonneg p n]
  go_enter Tryz.func54, Tryz.ntmps54
  go_wp2_with (go_at_call 90; refine (ixWe_c _ _ _ _ _ _ _ _ _ hn eg hA hp).mono ?_; rintro e w1 ⟨rfl, hb1⟩)
  go_ret
  exact ⟨rfl, hb1⟩

theorem FcsAt.of {w : World} {A : Option Addr} {n : Nat} {D : Nat → Nat → Int} {B : Nat → Nat → Bool} (h : RecsAt w A n 12 (fcV D B)) : FcsAt w A n D B := by
  intro hn
  obtain ⟨b, off, hA, hb, hc⟩ := h hn
  exact ⟨b, off, hA, hb, fun k hk => ⟨hc k hk 0 (by omega), hc k hk 1 (by omega), hc k hk 2 (by omega), hc k hk 3 (by omega), hc k hk 4 (by omega), hc k hk 5 (by omega), hc k hk 6 (by omega), hc k hk 7 (by omega), hc k hk 8 (by omega), hc k hk 9 (by omega), hc k hk 10 (by omega), hc k hk 11 (by omega)⟩⟩
theorem SisAt.of {w : World} {A : Option Addr} {n : Nat} {E : Nat → Nat → Int} {C : Nat → Nat → Bool} (h : RecsAt w A n 7 (siV E C)) : SisAt w A n E C := by
  intro hn
  obtain ⟨b, off, hA, hb, hc⟩ := h hn
  exact ⟨b, off, hA, hb, fun k hk => ⟨hc k hk 0 (by omega), hc k hk 1 (by omega), hc k hk 2 (by omega), hc k hk 3 (by omega), hc k hk 4 (by omega), hc k hk 5 (by omega), hc k hk 6 (by omega)⟩⟩
end Go.Proofs.YtafkifjebimdaaaGreat
