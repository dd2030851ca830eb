import Derived.Test.YtlambeiafdpkgaaGreatJAQ
import Derived.Test.YtlambeiafdpkgaaGreatJAX
set_option linter.all false
namespace Go.Proofs.YtlambeiafdpkgaaGreat
open Go Go.RowKit Go.Proofs
set_option maxRecDepth 100000
set_option maxHeartbeats 8000000
theorem tsame_c (v1 v2 : Value) (n : Nat) (P Q : Nat → Int) (w : World) (h1 : SlAt w v1 n 1 (lV P)) (h2 : SlAt w v2 n 1 (lV Q)) (hn : n ≤ 2000) (hpq : ∀ j, j < n → P j = Q j) :
  Calls Tryz.prog 22 #[v1, v2] w fun e w' => e = .returned (.bool true) ∧ RowKit.Below w.heap.size w w' := by
 obtain ⟨A1, c1, rfl, o1, o2, hr1⟩ := h1.e
 obtain ⟨A2, c2, rfl, o3, o4, hr2⟩ := h2.e
 have H1 := hI9 hr1
 have H2 := hI9 hr2
 have HP := hI9 hpq
 clear h1 h2 hr1 hr2 hpq
 go_enter Tryz.func22, Tryz.ntmps22
 go_wp2_with (fail)
 go_loopg [5] n (fun gx v wr => ∃ k : Nat, v = .int .i64 k ∧ k ≤ n ∧ n - k ≤ gx ∧ Hid (RowKit.Below w.heap.size w wr))
 case atStart => exact ⟨0, rfl, Nat.zero_le _, Nat.le_refl _, hI9 (RowKit.Below.refl _ _)⟩
 case round =>
  obtain ⟨k, rfl, hk, hgx, HB⟩ := hrel
  by_cases hlt : k < n
  ·have hltz : (k : Int) < (n : Int) := by omega
   obtain ⟨b1, o1', rfl, hb1, hc1⟩ := H1.out (by omega)
   obtain ⟨b2, o2', rfl, hb2, hc2⟩ := H2.out (by omega)
   have d1 : wr.cell? ⟨b1, o1' + k, none⟩ = some (.int .i64 (P k)) := (HB.out.cell (p := ⟨b1, o1' + k, none⟩) hb1).trans (by have := hc1 k hlt 0 (by omega); rw [Nat.mul_one, Nat.add_zero] at this; exact this)
   have d2 : wr.cell? ⟨b2, o2' + k, none⟩ = some (.int .i64 (P k)) := (HB.out.cell (p := ⟨b2, o2' + k, none⟩) hb2).trans (by have := hc2 k hlt 0 (by omega); rw [Nat.mul_one, Nat.add_zero] at this; rw [HP.out k hlt]; exact this)
   clear hc1 hc2
   generalize P k = p at *
   go_wp2
   go_quiet (fail)
   have HB2 := hI9 (bdn HB.out nq)
   clear HB d1 d2
   generalize wr.drewN nq = wq at *
   go_wp2
   go_roundg (n - (k + 1))
   case measure => omega
   case rel => exact ⟨k + 1, by first | rfl | go_num | (congr 1; omega), by omega, Nat.le_refl _, HB2⟩
  ·obtain rfl : k = n := by omega
   go_wp2
   go_ret
   exact ⟨rfl, HB.out⟩
end Go.Proofs.YtlambeiafdpkgaaGreat
