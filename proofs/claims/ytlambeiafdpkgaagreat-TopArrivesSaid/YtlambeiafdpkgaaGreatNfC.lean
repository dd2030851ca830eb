import Derived.Test.YtlambeiafdpkgaaGreatJAT
set_option linter.all false
namespace Go.Proofs.YtlambeiafdpkgaaGreat
open Go Go.RowKit Go.Proofs Go.ChangeShapes Go.WideShapes Go.ChangeAt Go.Deep
set_option maxRecDepth 100000
set_option maxHeartbeats 4000000
section
variable {H : Type} {enc : TypeId × Value → H} {W : World} {sp : Nat → Bool} {held : Bool}
theorem landing_trod {r : Reach} {b0 : Nat} {v : Value} {d : DataW H} {ps : List MemPlace} (hval : Value.okWide Tryz.prog W r b0 72 v) (hd : DataW.Trod enc Tryz.prog W 0 sp held 72 v d ps) :
  ∃ (D : DekD) (vA vB vC : Value) (Mo : MovD) (vP vR vV : Value) (a : AppD), v = .agg #[.int .i64 D.size, .int .i64 D.load, .int .i64 D.wind, vA, .int .i64 D.pitch, .int .i64 D.roll, .int .i64 D.heave, .int .i64 D.fire, vB, vC, vP, vR, vV, .int .i64 a.size, .int .i64 a.weight, .int .i64 a.lw, .int .i64 a.ls, .int .i64 a.lc, .bool a.li, .bool a.lt, .int .i64 a.place, .int .i64 a.lo, .int .i64 a.hi] ∧ DekAt W vA vB vC D ∧ MovAt W vP vR vV Mo := by
 obtain ⟨cs, rfl, hl, fuel, x, ht⟩ := struct_trod (q := (26, 0)) (n := 23) (by kernel_rfl) (by kernel_rfl) hval hd
 have hl' : cs.length = Tryz.prog.cellsOf 72 := hl.trans (by kernel_rfl)
 obtain ⟨n0, e0, -⟩ := leaf_int hl' ht 0 (by kernel_rfl)
 obtain ⟨n1, e1, -⟩ := leaf_int hl' ht 1 (by kernel_rfl)
 obtain ⟨n2, e2, -⟩ := leaf_int hl' ht 2 (by kernel_rfl)
 obtain ⟨n4, e4, -⟩ := leaf_int hl' ht 4 (by kernel_rfl)
 obtain ⟨n5, e5, -⟩ := leaf_int hl' ht 5 (by kernel_rfl)
 obtain ⟨n6, e6, -⟩ := leaf_int hl' ht 6 (by kernel_rfl)
 obtain ⟨n7, e7, -⟩ := leaf_int hl' ht 7 (by kernel_rfl)
 obtain ⟨n13, e13, -⟩ := leaf_int hl' ht 13 (by kernel_rfl)
 obtain ⟨n14, e14, -⟩ := leaf_int hl' ht 14 (by kernel_rfl)
 obtain ⟨n15, e15, -⟩ := leaf_int hl' ht 15 (by kernel_rfl)
 obtain ⟨n16, e16, -⟩ := leaf_int hl' ht 16 (by kernel_rfl)
 obtain ⟨n17, e17, -⟩ := leaf_int hl' ht 17 (by kernel_rfl)
 obtain ⟨n20, e20, -⟩ := leaf_int hl' ht 20 (by kernel_rfl)
 obtain ⟨n21, e21, -⟩ := leaf_int hl' ht 21 (by kernel_rfl)
 obtain ⟨n22, e22, -⟩ := leaf_int hl' ht 22 (by kernel_rfl)
 obtain ⟨b18, e18⟩ := leaf_bool hl' ht 18 (by kernel_rfl)
 obtain ⟨b19, e19⟩ := leaf_bool hl' ht 19 (by kernel_rfl)
 obtain ⟨m3, y3, h3⟩ := trod_leaf (t := 22) 9 _ 3 fuel cs x (by kernel_rfl) hl' ht
 obtain ⟨A3, l3, c3, X3, e3, p3, q3, r3⟩ := secs_trod h3
 obtain ⟨m8, y8, h8⟩ := trod_leaf (t := 23) 9 _ 8 fuel cs x (by kernel_rfl) hl' ht
 obtain ⟨A8, l8, c8, X8, e8, p8, q8, r8⟩ := shifts_trod h8
 obtain ⟨m9, y9, h9⟩ := trod_leaf (t := 24) 9 _ 9 fuel cs x (by kernel_rfl) hl' ht
 obtain ⟨A9, l9, c9, X9, e9, p9, q9, r9⟩ := shuts_trod h9
 obtain ⟨m10, y10, h10⟩ := trod_leaf (t := 35) 9 _ 10 fuel cs x (by kernel_rfl) hl' ht
 obtain ⟨A10, l10, c10, X10, e10, p10, q10, r10⟩ := nums_trod h10
 obtain ⟨m11, y11, h11⟩ := trod_leaf (t := 35) 9 _ 11 fuel cs x (by kernel_rfl) hl' ht
 obtain ⟨A11, l11, c11, X11, e11, p11, q11, r11⟩ := nums_trod h11
 obtain ⟨m12, y12, h12⟩ := trod_leaf (t := 35) 9 _ 12 fuel cs x (by kernel_rfl) hl' ht
 obtain ⟨A12, l12, c12, X12, e12, p12, q12, r12⟩ := nums_trod h12
 refine ⟨⟨n0, n1, n2, n4, n5, n6, n7, l3, X3, l8, X8, l9, X9⟩, .slice A3 l3 c3, .slice A8 l8 c8, .slice A9 l9 c9, ⟨l10, X10, l11, X11, l12, X12⟩, .slice A10 l10 c10, .slice A11 l11 c11, .slice A12 l12 c12, ⟨n13, n14, n15, n16, n17, b18, b19, n20, n21, n22⟩, ?_, ⟨⟨⟨_, _, rfl, p3, q3, r3⟩⟩, ⟨⟨_, _, rfl, p8, q8, r8⟩⟩, ⟨⟨_, _, rfl, p9, q9, r9⟩⟩⟩, ⟨⟨⟨_, _, rfl, p10, q10, r10⟩⟩, ⟨⟨_, _, rfl, p11, q11, r11⟩⟩, ⟨⟨_, _, rfl, p12, q12, r12⟩⟩⟩⟩
 rw [list_cells hl]
 simp only [show List.range 23 = [0, 1, 2, 3, 4, 5, 6, 7, 8, 9, 10, 11, 12, 13, 14, 15, 16, 17, 18, 19, 20, 21, 22] from rfl, List.map_cons, List.map_nil, e0, e1, e2, e3, e4, e5, e6, e7, e8, e9, e10, e11, e12, e13, e14, e15, e16, e17, e18, e19, e20, e21, e22]
end
end Go.Proofs.YtlambeiafdpkgaaGreat
