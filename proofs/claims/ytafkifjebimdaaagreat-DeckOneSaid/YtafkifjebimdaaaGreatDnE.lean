/- What bookings read as among the arguments. -/
import Derived.Test.YtafkifjebimdaaaGreatDnD
import Derived.Test.YtafkifjebimdaaaGreatJAQ
set_option linter.all false
namespace Go.Proofs.YtafkifjebimdaaaGreat
open Go Go.RowKit Go.Proofs Go.ChangeShapes Go.WideShapes Go.ChangeAt Go.Deep
set_option maxRecDepth 100000
set_option maxHeartbeats 4000000
section
variable {H : Type} {enc : TypeId × Value → H} {W : World} {sp : Nat → Bool} {held : Bool}
theorem books_trod {r : Reach} {b0 : Nat} {v : Value} {d : DataW H} {ps : List MemPlace} (hval : Value.okWide Tryz.prog W r b0 81 v) (hd : DataW.Trod enc Tryz.prog W 0 sp held 81 v d ps) :
    ∃ (A : Option Addr) (n c : Nat) (T : Nat → Nat → Int) (B : Nat → Nat → Bool), v = .slice A n c ∧ n ≤ c ∧ c ≤ 9223372036854775807 ∧ RecsAt W A n 12 (bkC T B) := by
  obtain ⟨fuel, x, h⟩ := slice_trod Tryz.bkU hval hd
  obtain ⟨A, n, cp, D, B, rfl, h1, h2, h3, h4, -⟩ := slice_kinds (e := 83) (n := 12) (fun j => !decide (j = 7 ∨ j = 8)) (by kernel_rfl) (by kernel_rfl) (Nat.succ_pos _) h (by kernel_rfl)
  refine ⟨A, n, cp, D, B, rfl, h1, h2, ?_⟩
  have e : bkC D B = fun i j => if (fun j => !decide (j = 7 ∨ j = 8)) j = true then .int .i64 (D i j) else .bool (B i j) := by
    funext i j; unfold bkC; by_cases h : j = 7 ∨ j = 8 <;> simp [h]
  rw [e]; exact h4
end
end Go.Proofs.YtafkifjebimdaaaGreat
