/- Texts joined: JAK. -/
import Derived.Test.YtonfnhonbnfdoaaGreatJAH
set_option linter.all false
namespace Go.Proofs.YtonfnhonbnfdoaaGreat
open Go Go.RowKit Go.Proofs
set_option maxRecDepth 100000

def FcsAt (w : World) (A : Option Addr) (n : Nat) (D : Nat → Nat → Int) (B : Nat → Nat → Bool) : Prop :=
  0 < n → ∃ b off, A = some ⟨b, off, none⟩ ∧ b < w.heap.size ∧ ∀ k, k < n → w.cell? ⟨b, off + k * 12, none⟩ = some (.int .i64 (D k 0)) ∧ w.cell? ⟨b, off + k * 12 + 1, none⟩ = some (.int .i64 (D k 1)) ∧ w.cell? ⟨b, off + k * 12 + 2, none⟩ = some (.int .i64 (D k 2)) ∧ w.cell? ⟨b, off + k * 12 + 3, none⟩ = some (.int .i64 (D k 3)) ∧ w.cell? ⟨b, off + k * 12 + 4, none⟩ = some (.int .i64 (D k 4)) ∧ w.cell? ⟨b, off + k * 12 + 5, none⟩ = some (.int .i64 (D k 5)) ∧ w.cell? ⟨b, off + k * 12 + 6, none⟩ = some (.int .i64 (D k 6)) ∧ w.cell? ⟨b, off + k * 12 + 7, none⟩ = some (.int .i64 (D k 7)) ∧ w.cell? ⟨b, off + k * 12 + 8, none⟩ = some (.int .i64 (D k 8)) ∧ w.cell? ⟨b, off + k * 12 + 9, none⟩ = some (.int .i64 (D k 9)) ∧ w.cell? ⟨b, off + k * 12 + 10, none⟩ = some (.bool (B k 10)) ∧ w.cell? ⟨b, off + k * 12 + 11, none⟩ = some (.bool (B k 11))

set_option maxHeartbeats 400000 in
theorem ixFc_c (A : Option Addr) (n c : Nat) (D : Nat → Nat → Int) (B : Nat → Nat → Bool) (g : Nat) (lb : Array Value) (p : Nat → Bool) (w : World) (hn : n ≤ 9223372036854775807)
    (eg : ∀ args w, (callFunc g args).run Tryz.prog w = .ok (.enter g args) w)
    (hA : FcsAt w A n D B) (hp : PredB Tryz.prog g lb n (fun i => .agg #[.int .i64 (D i 0), .int .i64 (D i 1), .int .i64 (D i 2), .int .i64 (D i 3), .int .i64 (D i 4), .int .i64 (D i 5), .int .i64 (D i 6), .int .i64 (D i 7), .int .i64 (D i 8), .int .i64 (D i 9), .bool (B i 10), .bool (B i 11)]) p w) :
   Calls Tryz.prog 152 #[.slice A n c, .func (.func g) #[] lb] w fun e w' => e = .returned (.int .i64 (firstIx p n)) ∧ Below w.heap.size w w' := by
  go_enter Tryz.func152, Tryz.ntmps152
  go_wp2
  go_loopw [5, 8] (fun _ s8 wr => ∃ k : Nat, k ≤ n ∧ s8 = .int .i64 k ∧ Hid (Below w.heap.size w wr) ∧ Hid (∀ j, j < k → p j = false)) (fun _ i _ => n - (intOf i).toNat)
  case atStart => exact ⟨0, by omega, rfl, Below.refl _ _, fun j hj => absurd hj (by omega)⟩
  case round =>
    obtain ⟨k, hk, rfl, hB, hF⟩ := hrel
    by_cases hlt : k < n
    · obtain ⟨b, off, rfl, hb, hc⟩ := hA (by omega)
      have h0 := (hB.out.cell (p := ⟨b, off + k * 12, none⟩) hb).trans (hc k hlt).1
      have h1 := (hB.out.cell (p := ⟨b, off + k * 12 + 1, none⟩) hb).trans (hc k hlt).2.1
      have h2 := (hB.out.cell (p := ⟨b, off + k * 12 + 2, none⟩) hb).trans (hc k hlt).2.2.1
      have h3 := (hB.out.cell (p := ⟨b, off + k * 12 + 3, none⟩) hb).trans (hc k hlt).2.2.2.1
      have h4 := (hB.out.cell (p := ⟨b, off + k * 12 + 4, none⟩) hb).trans (hc k hlt).2.2.2.2.1
      have h5 := (hB.out.cell (p := ⟨b, off + k * 12 + 5, none⟩) hb).trans (hc k hlt).2.2.2.2.2.1
      have h6 := (hB.out.cell (p := ⟨b, off + k * 12 + 6, none⟩) hb).trans (hc k hlt).2.2.2.2.2.2.1
      have h7 := (hB.out.cell (p := ⟨b, off + k * 12 + 7, none⟩) hb).trans (hc k hlt).2.2.2.2.2.2.2.1
      have h8 := (hB.out.cell (p := ⟨b, off + k * 12 + 8, none⟩) hb).trans (hc k hlt).2.2.2.2.2.2.2.2.1
      have h9 := (hB.out.cell (p := ⟨b, off + k * 12 + 9, none⟩) hb).trans (hc k hlt).2.2.2.2.2.2.2.2.2.1
      have h10 := (hB.out.cell (p := ⟨b, off + k * 12 + 10, none⟩) hb).trans (hc k hlt).2.2.2.2.2.2.2.2.2.2.1
      have h11 := (hB.out.cell (p := ⟨b, off + k * 12 + 11, none⟩) hb).trans (hc k hlt).2.2.2.2.2.2.2.2.2.2.2
      have hcall := hp wr k hlt hB.out
      clear hc hA hp
      cases hq : p k with
      | true =>
        rw [hq] at hcall
        have HQ := Lib.hid hq
        clear hq
        go_wp2_with (go_at_fn g; refine hcall.mono ?_; rintro e w1 ⟨rfl, hb1⟩)
        go_ret
        exact ⟨ret_int (firstIx_hit p n k hlt HQ.out hF.out).symm, hB.out.trans (hb1.mono hB.out.size)⟩
      | false =>
        rw [hq] at hcall
        have HQ := Lib.hid hq
        clear hq
        go_wp2_with (go_at_fn g; refine hcall.mono ?_; rintro e w1 ⟨rfl, hb1⟩)
        go_roundw
        case rel => exact ⟨k + 1, by omega, by go_num, hB.out.trans (hb1.mono hB.out.size), fun j hj => by
          by_cases e : j = k
          · subst e; exact HQ.out
          · exact hF.out j (by omega)⟩
        case measure => simp [intOf]; omega
    · obtain rfl : k = n := by omega
      clear hA hp
      go_wp2
      go_ret
      exact ⟨ret_int (firstIx_miss p k hF.out).symm, hB.out⟩

theorem cfFc_c (A : Option Addr) (n c : Nat) (D : Nat → Nat → Int) (B : Nat → Nat → Bool) (g : Nat) (lb : Array Value) (p : Nat → Bool) (w : World) (hn : n ≤ 9223372036854775807)
    (eg : ∀ args w, (callFunc g args).run Tryz.prog w = .ok (.enter g args) w)
    (hA : FcsAt w A n D B) (hp : PredB Tryz.prog g lb n (fun i => .agg #[.int .i64 (D i 0), .int .i64 (D i 1), .int .i64 (D i 2), .int .i64 (D i 3), .int .i64 (D i 4), .int .i64 (D i 5), .int .i64 (D i 6), .int .i64 (D i 7), .int .i64 (D i 8), .int .i64 (D i 9), .bool (B i 10), .bool (B i 11)]) p w) :
   Calls Tryz.prog 125 #[.slice A n c, .func (.func g) #[] lb] w fun e w' => e = .returned (.bool ((List.range n).any p)) ∧ Below w.heap.size w w' := by
  rw [← firstIx_nonneg p n]
  go_enter Tryz.func125, Tryz.ntmps125
  go_wp2_with (go_at_call 152; refine (ixFc_c _ _ _ _ _ _ _ _ _ hn eg hA hp).mono ?_; rintro e w1 ⟨rfl, hb1⟩)
  go_ret
  exact ⟨rfl, hb1⟩

def SisAt (w : World) (A : Option Addr) (n : Nat) (E : Nat → Nat → Int) (C : Nat → Nat → Bool) : Prop :=
  0 < n → ∃ b off, A = some ⟨b, off, none⟩ ∧ b < w.heap.size ∧ ∀ k, k < n → w.cell? ⟨b, off + k * 7, none⟩ = some (.int .i64 (E k 0)) ∧ w.cell? ⟨b, off + k * 7 + 1, none⟩ = some (.int .i64 (E k 1)) ∧ w.cell? ⟨b, off + k * 7 + 2, none⟩ = some (.int .i64 (E k 2)) ∧ w.cell? ⟨b, off + k * 7 + 3, none⟩ = some (.int .i64 (E k 3)) ∧ w.cell? ⟨b, off + k * 7 + 4, none⟩ = some (.int .i64 (E k 4)) ∧ w.cell? ⟨b, off + k * 7 + 5, none⟩ = some (.bool (C k 5)) ∧ w.cell? ⟨b, off + k * 7 + 6, none⟩ = some (.bool (C k 6))

set_option maxHeartbeats 400000 in
theorem ixSi_c (A : Option Addr) (n c : Nat) (E : Nat → Nat → Int) (C : Nat → Nat → Bool) (g : Nat) (lb : Array Value) (p : Nat → Bool) (w : World) (hn : n ≤ 9223372036854775807)
    (eg : ∀ args w, (callFunc g args).run Tryz.prog w = .ok (.enter g args) w)
    (hA : SisAt w A n E C) (hp : PredB Tryz.prog g lb n (fun i => .agg #[.int .i64 (E i 0), .int .i64 (E i 1), .int .i64 (E i 2), .int .i64 (E i 3), .int .i64 (E i 4), .bool (C i 5), .bool (C i 6)]) p w) :
   Calls Tryz.prog 153 #[.slice A n c, .func (.func g) #[] lb] w fun e w' => e = .returned (.int .i64 (firstIx p n)) ∧ Below w.heap.size w w' := by
  go_enter Tryz.func153, Tryz.ntmps153
  go_wp2
  go_loopw [5, 8] (fun _ s8 wr => ∃ k : Nat, k ≤ n ∧ s8 = .int .i64 k ∧ Hid (Below w.heap.size w wr) ∧ Hid (∀ j, j < k → p j = false)) (fun _ i _ => n - (intOf i).toNat)
  case atStart => exact ⟨0, by omega, rfl, Below.refl _ _, fun j hj => absurd hj (by omega)⟩
  case round =>
    obtain ⟨k, hk, rfl, hB, hF⟩ := hrel
    by_cases hlt : k < n
    · obtain ⟨b, off, rfl, hb, hc⟩ := hA (by omega)
      have h0 := (hB.out.cell (p := ⟨b, off + k * 7, none⟩) hb).trans (hc k hlt).1
      have h1 := (hB.out.cell (p := ⟨b, off + k * 7 + 1, none⟩) hb).trans (hc k hlt).2.1
      have h2 := (hB.out.cell (p := ⟨b, off + k * 7 + 2, none⟩) hb).trans (hc k hlt).2.2.1
      have h3 := (hB.out.cell (p := ⟨b, off + k * 7 + 3, none⟩) hb).trans (hc k hlt).2.2.2.1
      have h4 := (hB.out.cell (p := ⟨b, off + k * 7 + 4, none⟩) hb).trans (hc k hlt).2.2.2.2.1
      have h5 := (hB.out.cell (p := ⟨b, off + k * 7 + 5, none⟩) hb).trans (hc k hlt).2.2.2.2.2.1
      have h6 := (hB.out.cell (p := ⟨b, off + k * 7 + 6, none⟩) hb).trans (hc k hlt).2.2.2.2.2.2
      have hcall := hp wr k hlt hB.out
      clear hc hA hp
      cases hq : p k with
      | true =>
        rw [hq] at hcall
        have HQ := Lib.hid hq
        clear hq
        go_wp2_with (go_at_fn g; refine hcall.mono ?_; rintro e w1 ⟨rfl, hb1⟩)
        go_ret
        exact ⟨ret_int (firstIx_hit p n k hlt HQ.out hF.out).symm, hB.out.trans (hb1.mono hB.out.size)⟩
      | false =>
        rw [hq] at hcall
        have HQ := Lib.hid hq
        clear hq
        go_wp2_with (go_at_fn g; refine hcall.mono ?_; rintro e w1 ⟨rfl, hb1⟩)
        go_roundw
        case rel => exact ⟨k + 1, by omega, by go_num, hB.out.trans (hb1.mono hB.out.size), fun j hj => by
          by_cases e : j = k
          · subst e; exact HQ.out
          · exact hF.out j (by omega)⟩
        case measure => simp [intOf]; omega
    · obtain rfl : k = n := by omega
      clear hA hp
      go_wp2
      go_ret
      exact ⟨ret_int (firstIx_miss p k hF.out).symm, hB.out⟩

theorem cfSi_c (A : Option Addr) (n c : Nat) (E : Nat → Nat → Int) (C : Nat → Nat → Bool) (g : Nat) (lb : Array Value) (p : Nat → Bool) (w : World) (hn : n ≤ 9223372036854775807)
    (eg : ∀ args w, (callFunc g args).run Tryz.prog w = .ok (.enter g args) w)
    (hA : SisAt w A n E C) (hp : PredB Tryz.prog g lb n (fun i => .agg #[.int .i64 (E i 0), .int .i64 (E i 1), .int .i64 (E i 2), .int .i64 (E i 3), .int .i64 (E i 4), .bool (C i 5), .bool (C i 6)]) p w) :
   Calls Tryz.prog 126 #[.slice A n c, .func (.func g) #[] lb] w fun e w' => e = .returned (.bool ((List.range n).any p)) ∧ Below w.heap.size w w' := by
  rw [← firstIx_nonneg p n]
  go_enter Tryz.func126, Tryz.ntmps126
  go_wp2_with (go_at_call 153; refine (ixSi_c _ _ _ _ _ _ _ _ _ hn eg hA hp).mono ?_; rintro e w1 ⟨rfl, hb1⟩)
  go_ret
  exact ⟨rfl, hb1⟩

def WesAt (w : World) (A : Option Addr) (n : Nat) (G : Nat → Nat → Int) (H : Nat → Nat → Bool) : Prop :=
  0 < n → ∃ b off, A = some ⟨b, off, none⟩ ∧ b < w.heap.size ∧ ∀ k, k < n → w.cell? ⟨b, off + k * 5, none⟩ = some (.int .i64 (G k 0)) ∧ w.cell? ⟨b, off + k * 5 + 1, none⟩ = some (.int .i64 (G k 1)) ∧ w.cell? ⟨b, off + k * 5 + 2, none⟩ = some (.int .i64 (G k 2)) ∧ w.cell? ⟨b, off + k * 5 + 3, none⟩ = some (.bool (H k 3)) ∧ w.cell? ⟨b, off + k * 5 + 4, none⟩ = some (.bool (H k 4))

set_option maxHeartbeats 400000 in
theorem ixWe_c (A : Option Addr) (n c : Nat) (G : Nat → Nat → Int) (H : Nat → Nat → Bool) (g : Nat) (lb : Array Value) (p : Nat → Bool) (w : World) (hn : n ≤ 9223372036854775807)
    (eg : ∀ args w, (callFunc g args).run Tryz.prog w = .ok (.enter g args) w)
    (hA : WesAt w A n G H) (hp : PredB Tryz.prog g lb n (fun i => .agg #[.int .i64 (G i 0), .int .i64 (G i 1), .int .i64 (G i 2), .bool (H i 3), .bool (H i 4)]) p w) :
   Calls Tryz.prog 86 #[.slice A n c, .func (.func g) #[] lb] w fun e w' => e = .returned (.int .i64 (firstIx p n)) ∧ Below w.heap.size w w' := by
  go_enter Tryz.func86, Tryz.ntmps86
  go_wp2
  go_loopw [5, 8] (fun _ s8 wr => ∃ k : Nat, k ≤ n ∧ s8 = .int .i64 k ∧ Hid (Below w.heap.size w wr) ∧ Hid (∀ j, j < k → p j = false)) (fun _ i _ => n - (intOf i).toNat)
  case atStart => exact ⟨0, by omega, rfl, Below.refl _ _, fun j hj => absurd hj (by omega)⟩
  case round =>
    obtain ⟨k, hk, rfl, hB, hF⟩ := hrel
    by_cases hlt : k < n
    · obtain ⟨b, off, rfl, hb, hc⟩ := hA (by omega)
      have h0 := (hB.out.cell (p := ⟨b, off + k * 5, none⟩) hb).trans (hc k hlt).1
      have h1 := (hB.out.cell (p := ⟨b, off + k * 5 + 1, none⟩) hb).trans (hc k hlt).2.1
      have h2 := (hB.out.cell (p := ⟨b, off + k * 5 + 2, none⟩) hb).trans (hc k hlt).2.2.1
      have h3 := (hB.out.cell (p := ⟨b, off + k * 5 + 3, none⟩) hb).trans (hc k hlt).2.2.2.1
      have h4 := (hB.out.cell (p := ⟨b, off + k * 5 + 4, none⟩) hb).trans (hc k hlt).2.2.2.2
      have hcall := hp wr k hlt hB.out
      clear hc hA hp
      cases hq : p k with
      | true =>
        rw [hq] at hcall
        have HQ := Lib.hid hq
        clear hq
        go_wp2_with (go_at_fn g; refine hcall.mono ?_; rintro e w1 ⟨rfl, hb1⟩)
        go_ret
        exact ⟨ret_int (firstIx_hit p n k hlt HQ.out hF.out).symm, hB.out.trans (hb1.mono hB.out.size)⟩
      | false =>
        rw [hq] at hcall
        have HQ := Lib.hid hq
        clear hq
        go_wp2_with (go_at_fn g; refine hcall.mono ?_; rintro e w1 ⟨rfl, hb1⟩)
        go_roundw
        case rel => exact ⟨k + 1, by omega, by go_num, hB.out.trans (hb1.mono hB.out.size), fun j hj => by
          by_cases e : j = k
          · subst e; exact HQ.out
          · exact hF.out j (by omega)⟩
        case measure => simp [intOf]; omega
    · obtain rfl : k = n := by omega
      clear hA hp
      go_wp2
      go_ret
      exact ⟨ret_int (firstIx_miss p k hF.out).symm, hB.out⟩

theorem cfWe_c (A : Option Addr) (n c : Nat) (G : Nat → Nat → Int) (H : Nat → Nat → Bool) (g : Nat) (lb : Array Value) (p : Nat → Bool) (w : World) (hn : n ≤ 9223372036854775807)
    (eg : ∀ args w, (callFunc g args).run Tryz.prog w = .ok (.enter g args) w)
    (hA : WesAt w A n G H) (hp : PredB Tryz.prog g lb n (fun i => .agg #[.int .i64 (G i 0), .int .i64 (G i 1), .int .i64 (G i 2), .bool (H i 3), .bool (H i 4)]) p w) :
   Calls Tryz.prog 42 #[.slice A n c, .func (.func g) #[] lb] w fun e w' => e = .returned (.bool ((List.range n).any p)) ∧ Below w.heap.size w w' := by
  rw [← firstIx_nonneg p n]
  go_enter Tryz.func42, Tryz.ntmps42
  go_wp2_with (go_at_call 86; refine (ixWe_c _ _ _ _ _ _ _ _ _ hn eg hA hp).mono ?_; rintro e w1 ⟨rfl, hb1⟩)
  go_ret
  exact ⟨rfl, hb1⟩

theorem FcsAt.of {w : World} {A : Option Addr} {n : Nat} {D : Nat → Nat → Int} {B : Nat → Nat → Bool} (h : RecsAt w A n 12 (fcV D B)) : FcsAt w A n D B := by
  intro hn
  obtain ⟨b, off, hA, hb, hc⟩ := h hn
  exact ⟨b, off, hA, hb, fun k hk => ⟨hc k hk 0 (by omega), hc k hk 1 (by omega), hc k hk 2 (by omega), hc k hk 3 (by omega), hc k hk 4 (by omega), hc k hk 5 (by omega), hc k hk 6 (by omega), hc k hk 7 (by omega), hc k hk 8 (by omega), hc k hk 9 (by omega), hc k hk 10 (by omega), hc k hk 11 (by omega)⟩⟩
theorem SisAt.of {w : World} {A : Option Addr} {n : Nat} {E : Nat → Nat → Int} {C : Nat → Nat → Bool} (h : RecsAt w A n 7 (siV E C)) : SisAt w A n E C := by
  intro hn
  obtain ⟨b, off, hA, hb, hc⟩ := h hn
  exact ⟨b, off, hA, hb, fun k hk => ⟨hc k hk 0 (by omega), hc k hk 1 (by omega), hc k hk 2 (by omega), hc k hk 3 (by omega), hc k hk 4 (by omega), hc k hk 5 (by omega), hc k hk 6 (by omega)⟩⟩
end Go.Proofs.YtonfnhonbnfdoaaGreat

namespace Go.Proofs.YtonfnhonbnfdoaaGreat
open Go Go.RowKit Go.Proofs
set_option maxRecDepth 100000
set_option maxHeartbeats 4000000

theorem Tryz.entP : ∀ args w, (callFunc 120 args).run Tryz.prog w = .ok (.enter 120 args) w := enters_of Tryz.func120 (by kernel_rfl) rfl
theorem Tryz.entT : ∀ args w, (callFunc 121 args).run Tryz.prog w = .ok (.enter 121 args) w := enters_of Tryz.func121 (by kernel_rfl) rfl
theorem Tryz.entF : ∀ args w, (callFunc 122 args).run Tryz.prog w = .ok (.enter 122 args) w := enters_of Tryz.func122 (by kernel_rfl) rfl
theorem Tryz.entS : ∀ args w, (callFunc 123 args).run Tryz.prog w = .ok (.enter 123 args) w := enters_of Tryz.func123 (by kernel_rfl) rfl
theorem Tryz.entB : ∀ args w, (callFunc 124 args).run Tryz.prog w = .ok (.enter 124 args) w := enters_of Tryz.func124 (by kernel_rfl) rfl
theorem Tryz.entO : ∀ args w, (callFunc 88 args).run Tryz.prog w = .ok (.enter 88 args) w := enters_of Tryz.func88 (by kernel_rfl) rfl

theorem place_c (gm : Nat) (n pl : Int) (w : World) (h : w.cell? ⟨gm, 0, none⟩ = some (.int .i64 pl)) (h1 : 1 ≤ pl) (h2 : pl ≤ 8) :
   Calls Tryz.prog 120 #[.int .i64 n, .pointer (some ⟨gm, 0, none⟩)] w fun e w' => e = .returned (.bool (inB n 0 (pl - 1))) ∧ w = w' := by
  go_enter Tryz.func120, Tryz.ntmps120
  go_wp2_with (first | (go_at_call 82; (with_reducible refine (wwithin_c _ _ _ _).mono ?_); rintro e w1 ⟨rfl, rfl⟩))
  go_ret
  exact ⟨rfl, rfl⟩
theorem time_c (n : Int) (w : World) :
   Calls Tryz.prog 121 #[.int .i64 n] w fun e w' => e = .returned (.bool (inB n 0 2000)) ∧ w = w' := by
  go_enter Tryz.func121, Tryz.ntmps121
  go_wp2_with (first | (go_at_call 82; (with_reducible refine (wwithin_c _ _ _ _).mono ?_); rintro e w1 ⟨rfl, rfl⟩))
  go_ret
  exact ⟨rfl, rfl⟩
theorem beyond_c (n : Int) (w : World) :
   Calls Tryz.prog 124 #[.int .i64 n] w fun e w' => e = .returned (.bool (!inB n 0 20000)) ∧ w = w' := by
  go_enter Tryz.func124, Tryz.ntmps124
  go_wp2_with (first | (go_at_call 82; (with_reducible refine (wwithin_c _ _ _ _).mono ?_); rintro e w1 ⟨rfl, rfl⟩))
  go_ret
  exact ⟨rfl, rfl⟩

/-- A forecast that Check refuses. -/
def fcBad (pl d0 d1 d2 d3 : Int) (x : Sk) : Bool := !inB d0 0 (pl - 1) || (!inB d1 0 2000 || (!inB d2 0 2000 || (decide (d2 ≤ d1) || (!inB d3 0 2000 || !x.inr))))
theorem fcast_c (c1 c2 gc : Nat) (pl d0 d1 d2 d3 : Int) (x : Sk) (w : World) (h0 : w.cell? ⟨c1, 0, none⟩ = some (.func (.func 120) #[] #[.pointer (some ⟨gc, 0, none⟩)])) (h1 : w.cell? ⟨c2, 0, none⟩ = some (.func (.func 121) #[] #[]))
    (h2 : w.cell? ⟨gc, 0, none⟩ = some (.int .i64 pl)) (hp1 : 1 ≤ pl) (hp2 : pl ≤ 8) :
   Calls Tryz.prog 122 #[.agg #[.int .i64 d0, .int .i64 d1, .int .i64 d2, .int .i64 d3, .int .i64 x.a0, .int .i64 x.a1, .int .i64 x.a2, .int .i64 x.a3, .int .i64 x.a4, .int .i64 x.a5, .bool x.i, .bool x.s], .pointer (some ⟨c1, 0, none⟩), .pointer (some ⟨c2, 0, none⟩)] w
    fun e w' => e = .returned (.bool (fcBad pl d0 d1 d2 d3 x)) ∧ Below w.heap.size w w' := by
  have HC := Lib.hid (And.intro (fun w1 (h : Below w.heap.size w w1) => (h.cell (p := ⟨c1, 0, none⟩) (blk_lt h0)).trans h0) (And.intro (fun w1 (h : Below w.heap.size w w1) => (h.cell (p := ⟨c2, 0, none⟩) (blk_lt h1)).trans h1) (fun w1 (h : Below w.heap.size w w1) => (h.cell (p := ⟨gc, 0, none⟩) (blk_lt h2)).trans h2)))
  have eP := Tryz.entP
  have eT := Tryz.entT
  clear h0 h1 h2
  unfold fcBad
  cases b0 : inB d0 0 (pl - 1)
  · skip
    have k0 := HC.out.1 (w.alloc (.cells #[.int .i64 d0, .int .i64 d1, .int .i64 d2, .int .i64 d3, .int .i64 x.a0, .int .i64 x.a1, .int .i64 x.a2, .int .i64 x.a3, .int .i64 x.a4, .int .i64 x.a5, .bool x.i, .bool x.s] 68)) (bal (Below.refl _ _) _)
    have k1 := HC.out.2.1 (w.alloc (.cells #[.int .i64 d0, .int .i64 d1, .int .i64 d2, .int .i64 d3, .int .i64 x.a0, .int .i64 x.a1, .int .i64 x.a2, .int .i64 x.a3, .int .i64 x.a4, .int .i64 x.a5, .bool x.i, .bool x.s] 68)) (bal (Below.refl _ _) _)
    have k2 := HC.out.2.2 (w.alloc (.cells #[.int .i64 d0, .int .i64 d1, .int .i64 d2, .int .i64 d3, .int .i64 x.a0, .int .i64 x.a1, .int .i64 x.a2, .int .i64 x.a3, .int .i64 x.a4, .int .i64 x.a5, .bool x.i, .bool x.s] 68)) (bal (Below.refl _ _) _)
    go_enter Tryz.func122, Tryz.ntmps122
    go_wp2_with (first | (go_at_fn 120; refine (place_c gc _ pl _ k2 hp1 hp2).mono ?_; rintro e w' ⟨rfl, rfl⟩) | (go_at_fn 121; refine (time_c _ _).mono ?_; rintro e w' ⟨rfl, rfl⟩) | (go_at_call 44; (with_reducible refine (sky_c x _).mono ?_); rintro e w1 ⟨rfl, hb1⟩; have hB1 := bthen (show Below w.heap.size w _ from (by repeat' (first | exact Below.refl _ _ | assumption | refine Below.drew ?_ | refine bdn ?_ _ | refine bal ?_ _ | refine Below.setCell ?_ (by first | (simp; done) | omega | (simp; omega)) _))) hb1; have hz1 := hb1.size; (try simp at hz1); obtain ⟨hc1, hf1⟩ := bcell hb1; first | (have hE1 := bthen2 hE (by repeat' (first | exact Below.refl _ _ | refine Below.drew ?_ | refine bdn ?_ _ | refine bal ?_ _ | refine Below.setCell ?_ (by first | (simp; done) | omega | (simp; omega)) _)) hb1; clear hE; have hE := hE1; clear hE1; obtain ⟨hd1, hg1⟩ := bcell hE) | (have hE := hb1)))
    go_ret
    exact ⟨ret_bool (by simp [b0]), (by repeat' (first | exact Below.refl _ _ | assumption | refine Below.drew ?_ | refine bdn ?_ _ | refine bal ?_ _ | refine Below.setCell ?_ (by first | (simp; done) | omega | (simp; omega)) _))⟩
  · skip
    cases b1 : inB d1 0 2000
    · skip
      have k0 := HC.out.1 (w.alloc (.cells #[.int .i64 d0, .int .i64 d1, .int .i64 d2, .int .i64 d3, .int .i64 x.a0, .int .i64 x.a1, .int .i64 x.a2, .int .i64 x.a3, .int .i64 x.a4, .int .i64 x.a5, .bool x.i, .bool x.s] 68)) (bal (Below.refl _ _) _)
      have k1 := HC.out.2.1 (w.alloc (.cells #[.int .i64 d0, .int .i64 d1, .int .i64 d2, .int .i64 d3, .int .i64 x.a0, .int .i64 x.a1, .int .i64 x.a2, .int .i64 x.a3, .int .i64 x.a4, .int .i64 x.a5, .bool x.i, .bool x.s] 68)) (bal (Below.refl _ _) _)
      have k2 := HC.out.2.2 (w.alloc (.cells #[.int .i64 d0, .int .i64 d1, .int .i64 d2, .int .i64 d3, .int .i64 x.a0, .int .i64 x.a1, .int .i64 x.a2, .int .i64 x.a3, .int .i64 x.a4, .int .i64 x.a5, .bool x.i, .bool x.s] 68)) (bal (Below.refl _ _) _)
      go_enter Tryz.func122, Tryz.ntmps122
      go_wp2_with (first | (go_at_fn 120; refine (place_c gc _ pl _ k2 hp1 hp2).mono ?_; rintro e w' ⟨rfl, rfl⟩) | (go_at_fn 121; refine (time_c _ _).mono ?_; rintro e w' ⟨rfl, rfl⟩) | (go_at_call 44; (with_reducible refine (sky_c x _).mono ?_); rintro e w1 ⟨rfl, hb1⟩; have hB1 := bthen (show Below w.heap.size w _ from (by repeat' (first | exact Below.refl _ _ | assumption | refine Below.drew ?_ | refine bdn ?_ _ | refine bal ?_ _ | refine Below.setCell ?_ (by first | (simp; done) | omega | (simp; omega)) _))) hb1; have hz1 := hb1.size; (try simp at hz1); obtain ⟨hc1, hf1⟩ := bcell hb1; first | (have hE1 := bthen2 hE (by repeat' (first | exact Below.refl _ _ | refine Below.drew ?_ | refine bdn ?_ _ | refine bal ?_ _ | refine Below.setCell ?_ (by first | (simp; done) | omega | (simp; omega)) _)) hb1; clear hE; have hE := hE1; clear hE1; obtain ⟨hd1, hg1⟩ := bcell hE) | (have hE := hb1)))
      go_ret
      exact ⟨ret_bool (by simp [b0, b1]), (by repeat' (first | exact Below.refl _ _ | assumption | refine Below.drew ?_ | refine bdn ?_ _ | refine bal ?_ _ | refine Below.setCell ?_ (by first | (simp; done) | omega | (simp; omega)) _))⟩
    · skip
      cases b2 : inB d2 0 2000
      · skip
        have k0 := HC.out.1 (w.alloc (.cells #[.int .i64 d0, .int .i64 d1, .int .i64 d2, .int .i64 d3, .int .i64 x.a0, .int .i64 x.a1, .int .i64 x.a2, .int .i64 x.a3, .int .i64 x.a4, .int .i64 x.a5, .bool x.i, .bool x.s] 68)) (bal (Below.refl _ _) _)
        have k1 := HC.out.2.1 (w.alloc (.cells #[.int .i64 d0, .int .i64 d1, .int .i64 d2, .int .i64 d3, .int .i64 x.a0, .int .i64 x.a1, .int .i64 x.a2, .int .i64 x.a3, .int .i64 x.a4, .int .i64 x.a5, .bool x.i, .bool x.s] 68)) (bal (Below.refl _ _) _)
        have k2 := HC.out.2.2 (w.alloc (.cells #[.int .i64 d0, .int .i64 d1, .int .i64 d2, .int .i64 d3, .int .i64 x.a0, .int .i64 x.a1, .int .i64 x.a2, .int .i64 x.a3, .int .i64 x.a4, .int .i64 x.a5, .bool x.i, .bool x.s] 68)) (bal (Below.refl _ _) _)
        go_enter Tryz.func122, Tryz.ntmps122
        go_wp2_with (first | (go_at_fn 120; refine (place_c gc _ pl _ k2 hp1 hp2).mono ?_; rintro e w' ⟨rfl, rfl⟩) | (go_at_fn 121; refine (time_c _ _).mono ?_; rintro e w' ⟨rfl, rfl⟩) | (go_at_call 44; (with_reducible refine (sky_c x _).mono ?_); rintro e w1 ⟨rfl, hb1⟩; have hB1 := bthen (show Below w.heap.size w _ from (by repeat' (first | exact Below.refl _ _ | assumption | refine Below.drew ?_ | refine bdn ?_ _ | refine bal ?_ _ | refine Below.setCell ?_ (by first | (simp; done) | omega | (simp; omega)) _))) hb1; have hz1 := hb1.size; (try simp at hz1); obtain ⟨hc1, hf1⟩ := bcell hb1; first | (have hE1 := bthen2 hE (by repeat' (first | exact Below.refl _ _ | refine Below.drew ?_ | refine bdn ?_ _ | refine bal ?_ _ | refine Below.setCell ?_ (by first | (simp; done) | omega | (simp; omega)) _)) hb1; clear hE; have hE := hE1; clear hE1; obtain ⟨hd1, hg1⟩ := bcell hE) | (have hE := hb1)))
        go_ret
        exact ⟨ret_bool (by simp [b0, b1, b2]), (by repeat' (first | exact Below.refl _ _ | assumption | refine Below.drew ?_ | refine bdn ?_ _ | refine bal ?_ _ | refine Below.setCell ?_ (by first | (simp; done) | omega | (simp; omega)) _))⟩
      · skip
        by_cases b3 : d2 ≤ d1
        · have b3d : decide (d2 ≤ d1) = true := decide_eq_true b3
          have k0 := HC.out.1 (w.alloc (.cells #[.int .i64 d0, .int .i64 d1, .int .i64 d2, .int .i64 d3, .int .i64 x.a0, .int .i64 x.a1, .int .i64 x.a2, .int .i64 x.a3, .int .i64 x.a4, .int .i64 x.a5, .bool x.i, .bool x.s] 68)) (bal (Below.refl _ _) _)
          have k1 := HC.out.2.1 (w.alloc (.cells #[.int .i64 d0, .int .i64 d1, .int .i64 d2, .int .i64 d3, .int .i64 x.a0, .int .i64 x.a1, .int .i64 x.a2, .int .i64 x.a3, .int .i64 x.a4, .int .i64 x.a5, .bool x.i, .bool x.s] 68)) (bal (Below.refl _ _) _)
          have k2 := HC.out.2.2 (w.alloc (.cells #[.int .i64 d0, .int .i64 d1, .int .i64 d2, .int .i64 d3, .int .i64 x.a0, .int .i64 x.a1, .int .i64 x.a2, .int .i64 x.a3, .int .i64 x.a4, .int .i64 x.a5, .bool x.i, .bool x.s] 68)) (bal (Below.refl _ _) _)
          go_enter Tryz.func122, Tryz.ntmps122
          go_wp2_with (first | (go_at_fn 120; refine (place_c gc _ pl _ k2 hp1 hp2).mono ?_; rintro e w' ⟨rfl, rfl⟩) | (go_at_fn 121; refine (time_c _ _).mono ?_; rintro e w' ⟨rfl, rfl⟩) | (go_at_call 44; (with_reducible refine (sky_c x _).mono ?_); rintro e w1 ⟨rfl, hb1⟩; have hB1 := bthen (show Below w.heap.size w _ from (by repeat' (first | exact Below.refl _ _ | assumption | refine Below.drew ?_ | refine bdn ?_ _ | refine bal ?_ _ | refine Below.setCell ?_ (by first | (simp; done) | omega | (simp; omega)) _))) hb1; have hz1 := hb1.size; (try simp at hz1); obtain ⟨hc1, hf1⟩ := bcell hb1; first | (have hE1 := bthen2 hE (by repeat' (first | exact Below.refl _ _ | refine Below.drew ?_ | refine bdn ?_ _ | refine bal ?_ _ | refine Below.setCell ?_ (by first | (simp; done) | omega | (simp; omega)) _)) hb1; clear hE; have hE := hE1; clear hE1; obtain ⟨hd1, hg1⟩ := bcell hE) | (have hE := hb1)))
          go_ret
          exact ⟨ret_bool (by simp [b0, b1, b2, b3d]), (by repeat' (first | exact Below.refl _ _ | assumption | refine Below.drew ?_ | refine bdn ?_ _ | refine bal ?_ _ | refine Below.setCell ?_ (by first | (simp; done) | omega | (simp; omega)) _))⟩
        · have b3d : decide (d2 ≤ d1) = false := decide_eq_false b3
          have b3n : d1 < d2 := by omega
          cases b4 : inB d3 0 2000
          · skip
            have k0 := HC.out.1 (w.alloc (.cells #[.int .i64 d0, .int .i64 d1, .int .i64 d2, .int .i64 d3, .int .i64 x.a0, .int .i64 x.a1, .int .i64 x.a2, .int .i64 x.a3, .int .i64 x.a4, .int .i64 x.a5, .bool x.i, .bool x.s] 68)) (bal (Below.refl _ _) _)
            have k1 := HC.out.2.1 (w.alloc (.cells #[.int .i64 d0, .int .i64 d1, .int .i64 d2, .int .i64 d3, .int .i64 x.a0, .int .i64 x.a1, .int .i64 x.a2, .int .i64 x.a3, .int .i64 x.a4, .int .i64 x.a5, .bool x.i, .bool x.s] 68)) (bal (Below.refl _ _) _)
            have k2 := HC.out.2.2 (w.alloc (.cells #[.int .i64 d0, .int .i64 d1, .int .i64 d2, .int .i64 d3, .int .i64 x.a0, .int .i64 x.a1, .int .i64 x.a2, .int .i64 x.a3, .int .i64 x.a4, .int .i64 x.a5, .bool x.i, .bool x.s] 68)) (bal (Below.refl _ _) _)
            go_enter Tryz.func122, Tryz.ntmps122
            go_wp2_with (first | (go_at_fn 120; refine (place_c gc _ pl _ k2 hp1 hp2).mono ?_; rintro e w' ⟨rfl, rfl⟩) | (go_at_fn 121; refine (time_c _ _).mono ?_; rintro e w' ⟨rfl, rfl⟩) | (go_at_call 44; (with_reducible refine (sky_c x _).mono ?_); rintro e w1 ⟨rfl, hb1⟩; have hB1 := bthen (show Below w.heap.size w _ from (by repeat' (first | exact Below.refl _ _ | assumption | refine Below.drew ?_ | refine bdn ?_ _ | refine bal ?_ _ | refine Below.setCell ?_ (by first | (simp; done) | omega | (simp; omega)) _))) hb1; have hz1 := hb1.size; (try simp at hz1); obtain ⟨hc1, hf1⟩ := bcell hb1; first | (have hE1 := bthen2 hE (by repeat' (first | exact Below.refl _ _ | refine Below.drew ?_ | refine bdn ?_ _ | refine bal ?_ _ | refine Below.setCell ?_ (by first | (simp; done) | omega | (simp; omega)) _)) hb1; clear hE; have hE := hE1; clear hE1; obtain ⟨hd1, hg1⟩ := bcell hE) | (have hE := hb1)))
            go_ret
            exact ⟨ret_bool (by simp [b0, b1, b2, b3d, b4]), (by repeat' (first | exact Below.refl _ _ | assumption | refine Below.drew ?_ | refine bdn ?_ _ | refine bal ?_ _ | refine Below.setCell ?_ (by first | (simp; done) | omega | (simp; omega)) _))⟩
          · skip
            cases b5 : x.inr
            · skip
              have k0 := HC.out.1 (w.alloc (.cells #[.int .i64 d0, .int .i64 d1, .int .i64 d2, .int .i64 d3, .int .i64 x.a0, .int .i64 x.a1, .int .i64 x.a2, .int .i64 x.a3, .int .i64 x.a4, .int .i64 x.a5, .bool x.i, .bool x.s] 68)) (bal (Below.refl _ _) _)
              have k1 := HC.out.2.1 (w.alloc (.cells #[.int .i64 d0, .int .i64 d1, .int .i64 d2, .int .i64 d3, .int .i64 x.a0, .int .i64 x.a1, .int .i64 x.a2, .int .i64 x.a3, .int .i64 x.a4, .int .i64 x.a5, .bool x.i, .bool x.s] 68)) (bal (Below.refl _ _) _)
              have k2 := HC.out.2.2 (w.alloc (.cells #[.int .i64 d0, .int .i64 d1, .int .i64 d2, .int .i64 d3, .int .i64 x.a0, .int .i64 x.a1, .int .i64 x.a2, .int .i64 x.a3, .int .i64 x.a4, .int .i64 x.a5, .bool x.i, .bool x.s] 68)) (bal (Below.refl _ _) _)
              go_enter Tryz.func122, Tryz.ntmps122
              go_wp2_with (first | (go_at_fn 120; refine (place_c gc _ pl _ k2 hp1 hp2).mono ?_; rintro e w' ⟨rfl, rfl⟩) | (go_at_fn 121; refine (time_c _ _).mono ?_; rintro e w' ⟨rfl, rfl⟩) | (go_at_call 44; (with_reducible refine (sky_c x _).mono ?_); rintro e w1 ⟨rfl, hb1⟩; have hB1 := bthen (show Below w.heap.size w _ from (by repeat' (first | exact Below.refl _ _ | assumption | refine Below.drew ?_ | refine bdn ?_ _ | refine bal ?_ _ | refine Below.setCell ?_ (by first | (simp; done) | omega | (simp; omega)) _))) hb1; have hz1 := hb1.size; (try simp at hz1); obtain ⟨hc1, hf1⟩ := bcell hb1; first | (have hE1 := bthen2 hE (by repeat' (first | exact Below.refl _ _ | refine Below.drew ?_ | refine bdn ?_ _ | refine bal ?_ _ | refine Below.setCell ?_ (by first | (simp; done) | omega | (simp; omega)) _)) hb1; clear hE; have hE := hE1; clear hE1; obtain ⟨hd1, hg1⟩ := bcell hE) | (have hE := hb1)))
              go_ret
              exact ⟨ret_bool (by simp [b0, b1, b2, b3d, b4, b5]), (by repeat' (first | exact Below.refl _ _ | assumption | refine Below.drew ?_ | refine bdn ?_ _ | refine bal ?_ _ | refine Below.setCell ?_ (by first | (simp; done) | omega | (simp; omega)) _))⟩
            · skip
              have k0 := HC.out.1 (w.alloc (.cells #[.int .i64 d0, .int .i64 d1, .int .i64 d2, .int .i64 d3, .int .i64 x.a0, .int .i64 x.a1, .int .i64 x.a2, .int .i64 x.a3, .int .i64 x.a4, .int .i64 x.a5, .bool x.i, .bool x.s] 68)) (bal (Below.refl _ _) _)
              have k1 := HC.out.2.1 (w.alloc (.cells #[.int .i64 d0, .int .i64 d1, .int .i64 d2, .int .i64 d3, .int .i64 x.a0, .int .i64 x.a1, .int .i64 x.a2, .int .i64 x.a3, .int .i64 x.a4, .int .i64 x.a5, .bool x.i, .bool x.s] 68)) (bal (Below.refl _ _) _)
              have k2 := HC.out.2.2 (w.alloc (.cells #[.int .i64 d0, .int .i64 d1, .int .i64 d2, .int .i64 d3, .int .i64 x.a0, .int .i64 x.a1, .int .i64 x.a2, .int .i64 x.a3, .int .i64 x.a4, .int .i64 x.a5, .bool x.i, .bool x.s] 68)) (bal (Below.refl _ _) _)
              go_enter Tryz.func122, Tryz.ntmps122
              go_wp2_with (first | (go_at_fn 120; refine (place_c gc _ pl _ k2 hp1 hp2).mono ?_; rintro e w' ⟨rfl, rfl⟩) | (go_at_fn 121; refine (time_c _ _).mono ?_; rintro e w' ⟨rfl, rfl⟩) | (go_at_call 44; (with_reducible refine (sky_c x _).mono ?_); rintro e w1 ⟨rfl, hb1⟩; have hB1 := bthen (show Below w.heap.size w _ from (by repeat' (first | exact Below.refl _ _ | assumption | refine Below.drew ?_ | refine bdn ?_ _ | refine bal ?_ _ | refine Below.setCell ?_ (by first | (simp; done) | omega | (simp; omega)) _))) hb1; have hz1 := hb1.size; (try simp at hz1); obtain ⟨hc1, hf1⟩ := bcell hb1; first | (have hE1 := bthen2 hE (by repeat' (first | exact Below.refl _ _ | refine Below.drew ?_ | refine bdn ?_ _ | refine bal ?_ _ | refine Below.setCell ?_ (by first | (simp; done) | omega | (simp; omega)) _)) hb1; clear hE; have hE := hE1; clear hE1; obtain ⟨hd1, hg1⟩ := bcell hE) | (have hE := hb1)))
              go_ret
              exact ⟨ret_bool (by simp [b0, b1, b2, b3d, b4, b5]), (by repeat' (first | exact Below.refl _ _ | assumption | refine Below.drew ?_ | refine bdn ?_ _ | refine bal ?_ _ | refine Below.setCell ?_ (by first | (simp; done) | omega | (simp; omega)) _))⟩
end Go.Proofs.YtonfnhonbnfdoaaGreat
