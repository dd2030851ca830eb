/- What a place (a deck, its met, its motion), an approach, directions, ticks read as among the arguments. -/
import Derived.OpenShut
import Derived.Test.YtafkifjebimdaaaGreatJAJ
import Derived.Test.YtafkifjebimdaaaGreatJAQ
set_option linter.all false
namespace Go.Proofs.YtafkifjebimdaaaGreat
open Go Go.RowKit Go.Proofs Go.ChangeShapes Go.WideShapes Go.ChangeAt Go.Deep
set_option maxRecDepth 100000
set_option maxHeartbeats 4000000
section
variable {H : Type} {enc : TypeId × Value → H} {W : World} {sp : Nat → Bool} {held : Bool}

theorem secs_trod {fuel : Nat} {c : Value} {x : DataW H × List MemPlace} (ht : DataW.trod enc Tryz.prog W 0 sp held fuel 22 [c] = some x) :
    ∃ (A : Option Addr) (n cp : Nat) (S : Nat → Nat → Int), c = .slice A n cp ∧ n ≤ cp ∧ cp ≤ 9223372036854775807 ∧ RecsAt W A n 3 (iV S) := by
  obtain ⟨A, n, cp, D, B, rfl, h1, h2, h3, h4, -⟩ := slice_kinds (e := 79) (n := 3) (fun _ => true) (by kernel_rfl) (by kernel_rfl) (Nat.succ_pos _) ht (by kernel_rfl)
  exact ⟨A, n, cp, D, rfl, h1, h2, h4⟩

theorem shifts_trod {fuel : Nat} {c : Value} {x : DataW H × List MemPlace} (ht : DataW.trod enc Tryz.prog W 0 sp held fuel 23 [c] = some x) :
    ∃ (A : Option Addr) (n cp : Nat) (S : Nat → Nat → Int), c = .slice A n cp ∧ n ≤ cp ∧ cp ≤ 9223372036854775807 ∧ RecsAt W A n 3 (iV S) := by
  obtain ⟨A, n, cp, D, B, rfl, h1, h2, h3, h4, -⟩ := slice_kinds (e := 131) (n := 3) (fun _ => true) (by kernel_rfl) (by kernel_rfl) (Nat.succ_pos _) ht (by kernel_rfl)
  exact ⟨A, n, cp, D, rfl, h1, h2, h4⟩

theorem shuts_trod {fuel : Nat} {c : Value} {x : DataW H × List MemPlace} (ht : DataW.trod enc Tryz.prog W 0 sp held fuel 24 [c] = some x) :
    ∃ (A : Option Addr) (n cp : Nat) (S : Nat → Nat → Int), c = .slice A n cp ∧ n ≤ cp ∧ cp ≤ 9223372036854775807 ∧ RecsAt W A n 2 (iV S) := by
  obtain ⟨A, n, cp, D, B, rfl, h1, h2, h3, h4, -⟩ := slice_kinds (e := 28) (n := 2) (fun _ => true) (by kernel_rfl) (by kernel_rfl) (Nat.succ_pos _) ht (by kernel_rfl)
  exact ⟨A, n, cp, D, rfl, h1, h2, h4⟩

theorem nums_trod {fuel : Nat} {c : Value} {x : DataW H × List MemPlace} (ht : DataW.trod enc Tryz.prog W 0 sp held fuel 35 [c] = some x) :
    ∃ (A : Option Addr) (n cp : Nat) (P : Nat → Int), c = .slice A n cp ∧ n ≤ cp ∧ cp ≤ 9223372036854775807 ∧ RecsAt W A n 1 (lV P) := by
  obtain ⟨A, n, cp, D, B, rfl, h1, h2, h3, h4, -⟩ := slice_kinds (e := 3) (n := 1) (fun _ => true) (by kernel_rfl) (by kernel_rfl) (Nat.succ_pos _) ht (by kernel_rfl)
  refine ⟨A, n, cp, fun i => D i 0, rfl, h1, h2, fun hp => ?_⟩
  obtain ⟨b, off, e1, e2, e3⟩ := h4 hp
  refine ⟨b, off, e1, e2, fun i hi j hj => ?_⟩
  rw [e3 i hi j hj]
  obtain rfl : j = 0 := by omega
  rfl

theorem place_trod {r : Reach} {b0 : Nat} {v : Value} {d : DataW H} {ps : List MemPlace} (hval : Value.okWide Tryz.prog W r b0 39 v) (hd : DataW.Trod enc Tryz.prog W 0 sp held 39 v d ps) :
    ∃ (D : DekD) (vA vB vC : Value) (M : MetD) (vF vS : Value) (Mo : MovD) (vP vR vV : Value), v = .agg #[.int .i64 D.size, .int .i64 D.load, .int .i64 D.wind, vA, .int .i64 D.pitch, .int .i64 D.roll, .int .i64 D.heave, .int .i64 D.fire, vB, vC, .int .i64 M.places, .int .i64 M.any.a0, .int .i64 M.any.a1, .int .i64 M.any.a2, .int .i64 M.any.a3, .int .i64 M.any.a4, .int .i64 M.any.a5, .bool M.any.i, .bool M.any.s, .int .i64 M.mw, .int .i64 M.ms, .int .i64 M.mc, vF, vS, vP, vR, vV] ∧ DekAt W vA vB vC D ∧ MetAt W vF vS M ∧ MovAt W vP vR vV Mo := by
  obtain ⟨cs, rfl, hl, fuel, x, ht⟩ := struct_trod (q := (26, 0)) (n := 27) (by kernel_rfl) (by kernel_rfl) hval hd
  have hl' : cs.length = Tryz.prog.cellsOf 39 := hl.trans (by kernel_rfl)
  obtain ⟨n0, e0, -⟩ := leaf_int hl' ht 0 (by kernel_rfl)
  obtain ⟨n1, e1, -⟩ := leaf_int hl' ht 1 (by kernel_rfl)
  obtain ⟨n2, e2, -⟩ := leaf_int hl' ht 2 (by kernel_rfl)
  obtain ⟨n4, e4, -⟩ := leaf_int hl' ht 4 (by kernel_rfl)
  obtain ⟨n5, e5, -⟩ := leaf_int hl' ht 5 (by kernel_rfl)
  obtain ⟨n6, e6, -⟩ := leaf_int hl' ht 6 (by kernel_rfl)
  obtain ⟨n7, e7, -⟩ := leaf_int hl' ht 7 (by kernel_rfl)
  obtain ⟨n10, e10, -⟩ := leaf_int hl' ht 10 (by kernel_rfl)
  obtain ⟨n11, e11, -⟩ := leaf_int hl' ht 11 (by kernel_rfl)
  obtain ⟨n12, e12, -⟩ := leaf_int hl' ht 12 (by kernel_rfl)
  obtain ⟨n13, e13, -⟩ := leaf_int hl' ht 13 (by kernel_rfl)
  obtain ⟨n14, e14, -⟩ := leaf_int hl' ht 14 (by kernel_rfl)
  obtain ⟨n15, e15, -⟩ := leaf_int hl' ht 15 (by kernel_rfl)
  obtain ⟨n16, e16, -⟩ := leaf_int hl' ht 16 (by kernel_rfl)
  obtain ⟨n19, e19, -⟩ := leaf_int hl' ht 19 (by kernel_rfl)
  obtain ⟨n20, e20, -⟩ := leaf_int hl' ht 20 (by kernel_rfl)
  obtain ⟨n21, e21, -⟩ := leaf_int hl' ht 21 (by kernel_rfl)
  obtain ⟨b17, e17⟩ := leaf_bool hl' ht 17 (by kernel_rfl)
  obtain ⟨b18, e18⟩ := leaf_bool hl' ht 18 (by kernel_rfl)
  obtain ⟨m3, y3, h3⟩ := trod_leaf (t := 22) 9 _ 3 fuel cs x (by kernel_rfl) hl' ht
  obtain ⟨A3, l3, c3, X3, e3, p3, q3, r3⟩ := secs_trod h3
  obtain ⟨m8, y8, h8⟩ := trod_leaf (t := 23) 9 _ 8 fuel cs x (by kernel_rfl) hl' ht
  obtain ⟨A8, l8, c8, X8, e8, p8, q8, r8⟩ := shifts_trod h8
  obtain ⟨m9, y9, h9⟩ := trod_leaf (t := 24) 9 _ 9 fuel cs x (by kernel_rfl) hl' ht
  obtain ⟨A9, l9, c9, X9, e9, p9, q9, r9⟩ := shuts_trod h9
  obtain ⟨m22, y22, h22⟩ := trod_leaf (t := 31) 9 _ 22 fuel cs x (by kernel_rfl) hl' ht
  obtain ⟨A22, l22, c22, X22, B22, e22, p22, q22, r22⟩ := fcs_trod h22
  obtain ⟨m23, y23, h23⟩ := trod_leaf (t := 32) 9 _ 23 fuel cs x (by kernel_rfl) hl' ht
  obtain ⟨A23, l23, c23, X23, B23, e23, p23, q23, r23⟩ := sis_trod h23
  obtain ⟨m24, y24, h24⟩ := trod_leaf (t := 35) 9 _ 24 fuel cs x (by kernel_rfl) hl' ht
  obtain ⟨A24, l24, c24, X24, e24, p24, q24, r24⟩ := nums_trod h24
  obtain ⟨m25, y25, h25⟩ := trod_leaf (t := 35) 9 _ 25 fuel cs x (by kernel_rfl) hl' ht
  obtain ⟨A25, l25, c25, X25, e25, p25, q25, r25⟩ := nums_trod h25
  obtain ⟨m26, y26, h26⟩ := trod_leaf (t := 35) 9 _ 26 fuel cs x (by kernel_rfl) hl' ht
  obtain ⟨A26, l26, c26, X26, e26, p26, q26, r26⟩ := nums_trod h26
  refine ⟨⟨n0, n1, n2, n4, n5, n6, n7, l3, X3, l8, X8, l9, X9⟩, .slice A3 l3 c3, .slice A8 l8 c8, .slice A9 l9 c9, ⟨n10, ⟨n11, n12, n13, n14, n15, n16, b17, b18⟩, n19, n20, n21, l22, X22, B22, l23, X23, B23⟩, .slice A22 l22 c22, .slice A23 l23 c23, ⟨l24, X24, l25, X25, l26, X26⟩, .slice A24 l24 c24, .slice A25 l25 c25, .slice A26 l26 c26, ?_, ⟨⟨⟨_, _, rfl, p3, q3, r3⟩⟩, ⟨⟨_, _, rfl, p8, q8, r8⟩⟩, ⟨⟨_, _, rfl, p9, q9, r9⟩⟩⟩, ⟨⟨_, _, rfl, p22, q22, r22⟩, ⟨_, _, rfl, p23, q23, r23⟩⟩, ⟨⟨⟨_, _, rfl, p24, q24, r24⟩⟩, ⟨⟨_, _, rfl, p25, q25, r25⟩⟩, ⟨⟨_, _, rfl, p26, q26, r26⟩⟩⟩⟩
  rw [list_cells hl]
  simp only [show List.range 27 = [0, 1, 2, 3, 4, 5, 6, 7, 8, 9, 10, 11, 12, 13, 14, 15, 16, 17, 18, 19, 20, 21, 22, 23, 24, 25, 26] from rfl, List.map_cons, List.map_nil, e0, e1, e2, e3, e4, e5, e6, e7, e8, e9, e10, e11, e12, e13, e14, e15, e16, e17, e18, e19, e20, e21, e22, e23, e24, e25, e26]
end
end Go.Proofs.YtafkifjebimdaaaGreat
