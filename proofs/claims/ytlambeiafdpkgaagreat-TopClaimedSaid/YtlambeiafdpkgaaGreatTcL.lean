import Derived.Test.YtlambeiafdpkgaaGreatJAL
set_option linter.all false
namespace Go.Proofs.YtlambeiafdpkgaaGreat
open Go Go.RowKit Go.Proofs Go.ChangeShapes Go.WideShapes Go.ChangeAt Go.Deep
set_option maxRecDepth 100000
set_option maxHeartbeats 4000000
section
variable {H : Type} {enc : TypeId × Value → H} {W : World} {sp : Nat → Bool} {held : Bool}
theorem alt_trod {r : Reach} {b0 : Nat} {v : Value} {d : DataW H} {ps : List MemPlace} (hval : Value.okWide Tryz.prog W r b0 45 v) (hd : DataW.Trod enc Tryz.prog W 0 sp held 45 v d ps) :
  ∃ n0 n1 n2, v = .agg #[.int .i64 n0, .int .i64 n1, .int .i64 n2] ∧ I64 n0 ∧ I64 n1 ∧ I64 n2 := by
 obtain ⟨cs, rfl, hl, fuel, x, ht⟩ := struct_trod (q := (3, 0)) (n := 3) (by kernel_rfl) (by kernel_rfl) hval hd
 have hl' : cs.length = Tryz.prog.cellsOf 45 := hl.trans (by kernel_rfl)
 obtain ⟨n0, e0, w0⟩ := leaf_int hl' ht 0 (by kernel_rfl)
 obtain ⟨n1, e1, w1⟩ := leaf_int hl' ht 1 (by kernel_rfl)
 obtain ⟨n2, e2, w2⟩ := leaf_int hl' ht 2 (by kernel_rfl)
 refine ⟨n0, n1, n2, ?_, w0, w1, w2⟩
 rw [list_cells hl]
 simp only [show List.range 3 = [0, 1, 2] from rfl, List.map_cons, List.map_nil, e0, e1, e2]
end
end Go.Proofs.YtlambeiafdpkgaaGreat
