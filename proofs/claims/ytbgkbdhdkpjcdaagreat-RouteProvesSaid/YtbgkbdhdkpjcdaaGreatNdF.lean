/- What a list of havens reads as among the arguments. -/
import Derived.Test.YtbgkbdhdkpjcdaaGreatJAS
import Derived.Test.YtbgkbdhdkpjcdaaGreatJDA
import Derived.Test.YtbgkbdhdkpjcdaaGreatArI
set_option linter.all false
namespace Go.Proofs.YtbgkbdhdkpjcdaaGreat
open Go Go.RowKit Go.Proofs Go.ChangeShapes Go.WideShapes Go.ChangeAt Go.Deep
set_option maxRecDepth 100000
set_option maxHeartbeats 4000000
section
variable {H : Type} {enc : TypeId × Value → H} {W : World} {sp : Nat → Bool} {held : Bool}
theorem havs_trod {r : Reach} {b0 : Nat} {v : Value} {d : DataW H} {ps : List MemPlace} (hval : Value.okWide Tryz.prog W r b0 59 v) (hd : DataW.Trod enc Tryz.prog W 0 sp held 59 v d ps) :
    ∃ (A : Option Addr) (n c : Nat) (pf : Nat → HvI), v = .slice A n c ∧ n ≤ c ∧ c ≤ 9223372036854775807 ∧ RecsAt W A n 3 (nHi pf) := by
  obtain ⟨fuel, x, h⟩ := slice_trod_one Tryz.hvU hval hd
  obtain ⟨A, n, cp, D, B, rfl, h1, h2, -, h4, -⟩ := slice_kinds (e := 47) (n := 3) (fun j => decide (j < 2)) (by kernel_rfl) (by kernel_rfl) (Nat.succ_pos _) h (by kernel_rfl)
  refine ⟨A, n, cp, fun i => ⟨D i 0, D i 1, B i 2⟩, rfl, h1, h2, fun hp => ?_⟩
  obtain ⟨b, off, e1, e2, e3⟩ := h4 hp
  refine ⟨b, off, e1, e2, fun i hi j hj => ?_⟩
  rw [e3 i hi j hj]
  match j, hj with
  | 0, _ => rfl
  | 1, _ => rfl
  | 2, _ => rfl
end
end Go.Proofs.YtbgkbdhdkpjcdaaGreat
