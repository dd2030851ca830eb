/- Contracts: booked and sameInts of the laws of decks. -/
import Derived.Test.YtafkifjebimdaaaGreatDnB
set_option linter.all false
namespace Go.Proofs.YtafkifjebimdaaaGreat
open Go Go.RowKit Go.Proofs
set_option maxRecDepth 100000
set_option maxHeartbeats 8000000
/-- A tick belongs to one of the first i bookings that start at P and last S. -/
def bkdT (P S : Nat → Int) (t : Int) (j : Nat) : Bool := decide (0 ≤ P j) && (decide (P j ≤ t) && decide (t < P j + S j))
def bkdB (P S : Nat → Int) (t : Int) (i : Nat) : Bool := (List.range i).any (bkdT P S t)
theorem bkdB_true {P S : Nat → Int} {t : Int} {i k : Nat} (h : k < i) (ht : bkdT P S t k = true) : bkdB P S t i = true :=
  List.any_eq_true.2 ⟨k, List.mem_range.2 h, ht⟩
theorem bkdB_false {P S : Nat → Int} {t : Int} {i : Nat} (h : ∀ j, j < i → bkdT P S t j = false) : bkdB P S t i = false := by
  cases e : bkdB P S t i
  · rfl
  · obtain ⟨k, hk, hk2⟩ := List.any_eq_true.1 e
    rw [h k (List.mem_range.1 hk)] at hk2
    cases hk2
theorem bkdB_bkL (D : DekD) (M : MetD) (Mo : MovD) (T : Nat → Nat → Int) (B : Nat → Nat → Bool) (t : Int) (k : Nat) : tkB (bkL D M Mo T B k) t = bkdB (bkO D M Mo T B) (fun j => T j 1) t k := tkB_bkL D M Mo T B t k
theorem wrap_id {x : Int} (h1 : -9223372036854775808 ≤ x) (h2 : x ≤ 9223372036854775807) : IntKind.i64.wrap x = x := by
  rw [IntKind.wrap_i64]; omega
theorem dbooked_c (A : Option Addr) (n c : Nat) (T : Nat → Nat → Int) (B : Nat → Nat → Bool) (vO : Value) (P : Nat → Int) (i : Nat) (t : Int) (w : World) (hL : RecsAt w A n 12 (bkC T B)) (hO : SlAt w vO n 1 (lV P)) (hc1 : n ≤ c) (hc2 : c ≤ 9223372036854775807)
    (hi : i ≤ n) (hp : ∀ j, j < n → (-1 ≤ P j ∧ P j ≤ 2001) ∧ 1 ≤ T j 1 ∧ T j 1 ≤ 100) :
   Calls Tryz.prog 25 #[.slice A n c, vO, .int .i64 i, .int .i64 t] w fun e w' => e = .returned (.bool (bkdB P (fun j => T j 1) t i)) ∧ Below w.heap.size w w' := by
  obtain ⟨A2, c2, rfl, o1, o2, hr⟩ := hO.e
  have HL := Lib.hid hL
  have HO := Lib.hid hr
  have HP := Lib.hid hp
  clear hL hO hr hp
  obtain ⟨R, hR⟩ : ∃ q, q = bkdB P (fun j => T j 1) t i := ⟨_, rfl⟩
  rw [← hR]
  have HR := Lib.hid hR
  clear hR
  go_enter Tryz.func25, Tryz.ntmps25
  go_wp2_with (fail)
  go_loopg [9] i (fun gx v wr => ∃ k : Nat, v = .int .i64 k ∧ k ≤ i ∧ i - k ≤ gx ∧ Hid (Below w.heap.size w wr) ∧ Hid (∀ j, j < k → bkdT P (fun j => T j 1) t j = false))
  case atStart => exact ⟨0, rfl, Nat.zero_le _, Nat.le_refl _, Lib.hid (Below.refl _ _), Lib.hid (fun j h => absurd h (Nat.not_lt_zero _))⟩
  case round =>
    obtain ⟨k, rfl, hk, hgx, HB, HE⟩ := hrel
    by_cases hlt : k < i
    · have hltz : (k : Int) < (i : Int) := by omega
      have hln : k < n := by omega
      have hlnz : (k : Int) < (n : Int) := by omega
      obtain ⟨bs, off, rfl, hbs, hcell⟩ := HL.out (by omega)
      obtain ⟨bo, oo, rfl, hbo, hcello⟩ := HO.out (by omega)
      have c0 : wr.cell? ⟨bo, oo + k, none⟩ = some (.int .i64 (P k)) := (HB.out.cell (p := ⟨bo, oo + k, none⟩) hbo).trans (by have := hcello k hln 0 (by omega); rw [Nat.mul_one, Nat.add_zero] at this; exact this)
      have c1 : wr.cell? ⟨bs, off + k * 12 + 1, none⟩ = some (.int .i64 (T k 1)) := (HB.out.cell (p := ⟨bs, off + k * 12 + 1, none⟩) hbs).trans (hcell k hln 1 (by omega))
      obtain ⟨⟨b1, b2⟩, b3, b4⟩ := HP.out k hln
      have hE : bkdT P (fun j => T j 1) t k = (decide (0 ≤ P k) && (decide (P k ≤ t) && decide (t < P k + T k 1))) := rfl
      clear hcell hcello
      generalize P k = p at *
      generalize T k 1 = s at *
      have hw : IntKind.i64.wrap (p + s) = p + s := wrap_id (by omega) (by omega)
      skip
      by_cases h1 : 0 ≤ p
      case neg =>
        have z1 : decide (0 ≤ p) = false := decide_eq_false h1
        rw [z1, Bool.false_and] at hE
        have hE2 := Lib.hid hE
        clear hE
        go_wp2
        go_quiet (fail)
        have HB2 := Lib.hid (bdn HB.out nq)
        clear HB c0 c1
        generalize wr.drewN nq = wq at *
        go_wp2
        go_roundg (i - (k + 1))
        case measure => omega
        case rel => exact ⟨k + 1, by first | rfl | go_num | (congr 1; omega), by omega, Nat.le_refl _, HB2, Lib.hid (fun j hj => by
          by_cases e : j = k
          · subst e; exact hE2.out
          · exact HE.out j (by omega))⟩
      by_cases h2 : p ≤ t
      case neg =>
        have z2 : decide (p ≤ t) = false := decide_eq_false h2
        rw [z2, Bool.false_and, Bool.and_false] at hE
        have hE2 := Lib.hid hE
        clear hE
        go_wp2
        go_quiet (fail)
        have HB2 := Lib.hid (bdn HB.out nq)
        clear HB c0 c1
        generalize wr.drewN nq = wq at *
        go_wp2
        go_roundg (i - (k + 1))
        case measure => omega
        case rel => exact ⟨k + 1, by first | rfl | go_num | (congr 1; omega), by omega, Nat.le_refl _, HB2, Lib.hid (fun j hj => by
          by_cases e : j = k
          · subst e; exact hE2.out
          · exact HE.out j (by omega))⟩
      by_cases h3 : t < p + s
      case neg =>
        have z3 : decide (t < p + s) = false := decide_eq_false h3
        rw [z3, Bool.and_false, Bool.and_false] at hE
        have hE2 := Lib.hid hE
        clear hE
        go_wp2
        go_quiet (fail)
        have HB2 := Lib.hid (bdn HB.out nq)
        clear HB c0 c1
        generalize wr.drewN nq = wq at *
        go_wp2
        go_roundg (i - (k + 1))
        case measure => omega
        case rel => exact ⟨k + 1, by first | rfl | go_num | (congr 1; omega), by omega, Nat.le_refl _, HB2, Lib.hid (fun j hj => by
          by_cases e : j = k
          · subst e; exact hE2.out
          · exact HE.out j (by omega))⟩
      rw [decide_eq_true h1, decide_eq_true h2, decide_eq_true h3] at hE
      have hRt := HR.out.trans (bkdB_true hlt hE)
      subst hRt
      clear hE
      go_wp2
      go_quiet (fail)
      have HB2 := Lib.hid (bdn HB.out nq)
      clear HB c0 c1
      generalize wr.drewN nq = wq at *
      go_wp2
      go_ret
      exact ⟨rfl, HB2.out⟩
    · obtain rfl : k = i := by omega
      have hRt := HR.out.trans (bkdB_false HE.out)
      subst hRt
      go_wp2
      go_ret
      exact ⟨rfl, HB.out⟩
theorem dsame_c (v1 v2 : Value) (n : Nat) (P Q : Nat → Int) (w : World) (h1 : SlAt w v1 n 1 (lV P)) (h2 : SlAt w v2 n 1 (lV Q)) (hn : n ≤ 2000) (hpq : ∀ j, j < n → P j = Q j) :
   Calls Tryz.prog 24 #[v1, v2] w fun e w' => e = .returned (.bool true) ∧ Below w.heap.size w w' := by
  obtain ⟨A1, c1, rfl, o1, o2, hr1⟩ := h1.e
  obtain ⟨A2, c2, rfl, o3, o4, hr2⟩ := h2.e
  have H1 := Lib.hid hr1
  have H2 := Lib.hid hr2
  have HP := Lib.hid hpq
  clear h1 h2 hr1 hr2 hpq
  go_enter Tryz.func24, Tryz.ntmps24
  go_wp2_with (fail)
  go_loopg [5] n (fun gx v wr => ∃ k : Nat, v = .int .i64 k ∧ k ≤ n ∧ n - k ≤ gx ∧ Hid (Below w.heap.size w wr))
  case atStart => exact ⟨0, rfl, Nat.zero_le _, Nat.le_refl _, Lib.hid (Below.refl _ _)⟩
  case round =>
    obtain ⟨k, rfl, hk, hgx, HB⟩ := hrel
    by_cases hlt : k < n
    · have hltz : (k : Int) < (n : Int) := by omega
      obtain ⟨b1, o1', rfl, hb1, hc1⟩ := H1.out (by omega)
      obtain ⟨b2, o2', rfl, hb2, hc2⟩ := H2.out (by omega)
      have d1 : wr.cell? ⟨b1, o1' + k, none⟩ = some (.int .i64 (P k)) := (HB.out.cell (p := ⟨b1, o1' + k, none⟩) hb1).trans (by have := hc1 k hlt 0 (by omega); rw [Nat.mul_one, Nat.add_zero] at this; exact this)
      have d2 : wr.cell? ⟨b2, o2' + k, none⟩ = some (.int .i64 (P k)) := (HB.out.cell (p := ⟨b2, o2' + k, none⟩) hb2).trans (by have := hc2 k hlt 0 (by omega); rw [Nat.mul_one, Nat.add_zero] at this; rw [HP.out k hlt]; exact this)
      clear hc1 hc2
      generalize P k = p at *
      go_wp2
      go_quiet (fail)
      have HB2 := Lib.hid (bdn HB.out nq)
      clear HB d1 d2
      generalize wr.drewN nq = wq at *
      go_wp2
      go_roundg (n - (k + 1))
      case measure => omega
      case rel => exact ⟨k + 1, by first | rfl | go_num | (congr 1; omega), by omega, Nat.le_refl _, HB2⟩
    · obtain rfl : k = n := by omega
      go_wp2
      go_ret
      exact ⟨rfl, HB.out⟩
end Go.Proofs.YtafkifjebimdaaaGreat
