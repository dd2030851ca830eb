/- What weathers, and a history of them, read as among the arguments. -/
import Derived.Test.YtfcjblnebaemgaaWhC
import Derived.Test.YtfcjblnebaemgaaWfC
set_option linter.all false
namespace Go.Proofs.Ytfcjblnebaemgaa
open Go Go.RowKit Go.Proofs Go.ChangeShapes Go.WideShapes Go.ChangeAt Go.Deep
set_option maxRecDepth 100000
set_option maxHeartbeats 4000000
section
variable {H : Type} {enc : TypeId × Value → H} {W : World} {sp : Nat → Bool} {held : Bool}
theorem weathers_trod {r : Reach} {b0 : Nat} {v : Value} {d : DataW H} {ps : List MemPlace} (hval : Value.okWide Try.prog W r b0 64 v) (hd : DataW.Trod enc Try.prog W 0 sp held 64 v d ps) :
    ∃ (A : Option Addr) (n c : Nat) (D : Nat → Nat → Int) (B : Nat → Nat → Bool), v = .slice A n c ∧ n ≤ c ∧ c ≤ 9223372036854775807 ∧ RecsAt W A n 5 (weV D B) := by
  obtain ⟨fuel, x, h⟩ := slice_trod Try.weU hval hd
  exact wes_trod h
theorem history_trod {r : Reach} {b0 : Nat} {v : Value} {d : DataW H} {ps : List MemPlace} (hval : Value.okWide Try.prog W r b0 66 v) (hd : DataW.Trod enc Try.prog W 0 sp held 66 v d ps) :
    ∃ (p f : Int) (A : Option Addr) (n c : Nat) (D : Nat → Nat → Int) (B : Nat → Nat → Bool), v = .agg #[.int .i64 p, .int .i64 f, .slice A n c] ∧ n ≤ c ∧ c ≤ 9223372036854775807 ∧ RecsAt W A n 5 (weV D B) := by
  obtain ⟨cs, rfl, hl, fuel, x, ht⟩ := struct_trod (q := (46, 0)) (n := 3) (by kernel_rfl) (by kernel_rfl) hval hd
  have hl' : cs.length = Try.prog.cellsOf 66 := hl.trans (by kernel_rfl)
  obtain ⟨n0, e0, -⟩ := leaf_int hl' ht 0 (by kernel_rfl)
  obtain ⟨n1, e1, -⟩ := leaf_int hl' ht 1 (by kernel_rfl)
  obtain ⟨m, y, hw⟩ := trod_leaf (t := 64) 9 _ 2 fuel cs x (by kernel_rfl) hl' ht
  obtain ⟨A, n, cp, D, B, e2, h1, h2, h3⟩ := wes_trod hw
  refine ⟨n0, n1, A, n, cp, D, B, ?_, h1, h2, h3⟩
  rw [list_cells hl]
  simp only [show List.range 3 = [0, 1, 2] from rfl, List.map_cons, List.map_nil, e0, e1, e2]
end
end Go.Proofs.Ytfcjblnebaemgaa
