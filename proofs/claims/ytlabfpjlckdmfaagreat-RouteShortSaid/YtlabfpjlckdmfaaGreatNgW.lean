import Derived.Test.YtlabfpjlckdmfaaGreatJAO
set_option linter.all false
namespace Go.Proofs.YtlabfpjlckdmfaaGreat
open Go Go.RowKit Go.Proofs
set_option maxRecDepth 100000
set_option maxHeartbeats 8000000
section
variable {H : Type} {enc : TypeId × Value → H} {W : World} {sp : Nat → Bool} {held : Bool}
theorem way_trod {r : Reach} {b0 : Nat} {v : Value} {d : DataW H} {ps : List MemPlace} (hval : Value.okWide Tryz.prog W r b0 55 v) (hd : DataW.Trod enc Tryz.prog W 0 sp held 55 v d ps) :
  ∃ (tg : Int) (vR : Value) (m : Nat) (R : Nat → Int), v = .agg #[.int .i64 tg, vR] ∧ SlI W vR m R ∧ I64 tg := by
 obtain ⟨cs, rfl, hl, fuel, x, ht⟩ := struct_trod (q := (3, 0)) (n := 2) (by kernel_rfl) (by kernel_rfl) hval hd
 have hl' : cs.length = Tryz.prog.cellsOf 55 := hl.trans (by kernel_rfl)
 obtain ⟨m0, y0, h0⟩ := trod_leaf (t := 35) 9 _ 1 fuel cs x (by kernel_rfl) hl' ht
 obtain ⟨l0, X0, hR⟩ := route_trod h0
 obtain ⟨n1, e1, w1⟩ := leaf_int hl' ht 0 (by kernel_rfl)
 refine ⟨n1, cs.getD 1 undef, l0, X0, ?_, hR, w1⟩
 conv => lhs; rw [list_cells hl]
 simp only [show List.range 2 = [0, 1] from rfl, List.map_cons, List.map_nil, e1]
end
end Go.Proofs.YtlabfpjlckdmfaaGreat
