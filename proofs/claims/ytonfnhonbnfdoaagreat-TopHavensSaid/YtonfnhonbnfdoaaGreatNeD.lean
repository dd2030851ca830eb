/- What a tick and weathers read as among the arguments. -/
import Derived.Test.YtonfnhonbnfdoaaGreatJAY
set_option linter.all false
namespace Go.Proofs.YtonfnhonbnfdoaaGreat
open Go Go.RowKit Go.Proofs Go.ChangeShapes Go.WideShapes Go.ChangeAt Go.Deep
set_option maxRecDepth 100000
set_option maxHeartbeats 4000000
section
variable {H : Type} {enc : TypeId × Value → H} {W : World} {sp : Nat → Bool} {held : Bool}
theorem weathered_trod {r : Reach} {b0 : Nat} {v : Value} {d : DataW H} {ps : List MemPlace} (hval : Value.okWide Tryz.prog W r b0 40 v) (hd : DataW.Trod enc Tryz.prog W 0 sp held 40 v d ps) :
    ∃ (p : Int) (A : Option Addr) (n c : Nat) (D : Nat → Nat → Int) (B : Nat → Nat → Bool), v = .agg #[.int .i64 p, .slice A n c] ∧ n ≤ c ∧ c ≤ 9223372036854775807 ∧ RecsAt W A n 5 (weV D B) := by
  obtain ⟨cs, rfl, hl, fuel, x, ht⟩ := struct_trod (q := (3, 0)) (n := 2) (by kernel_rfl) (by kernel_rfl) hval hd
  have hl' : cs.length = Tryz.prog.cellsOf 40 := hl.trans (by kernel_rfl)
  obtain ⟨n0, e0, -⟩ := leaf_int hl' ht 0 (by kernel_rfl)
  obtain ⟨m, y, hw⟩ := trod_leaf (t := 38) 9 _ 1 fuel cs x (by kernel_rfl) hl' ht
  obtain ⟨A, n, cp, D, B, e2, h1, h2, h3⟩ := wes_trod hw
  refine ⟨n0, A, n, cp, D, B, ?_, h1, h2, h3⟩
  rw [list_cells hl]
  simp only [show List.range 2 = [0, 1] from rfl, List.map_cons, List.map_nil, e0, e2]
end
end Go.Proofs.YtonfnhonbnfdoaaGreat
