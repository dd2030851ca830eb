/- What a met, minima, and what the laws of package weather take, read as among the arguments. -/
import Derived.Test.YtfcjblnebaemgaaGreatArg
import Derived.Test.YtfcjblnebaemgaaGreatWeG
set_option linter.all false
namespace Go.Proofs.YtfcjblnebaemgaaGreat
open Go Go.RowKit Go.Proofs Go.ChangeShapes Go.WideShapes Go.ChangeAt Go.Deep
set_option maxRecDepth 100000
set_option maxHeartbeats 4000000

section
variable {H : Type} {enc : TypeId × Value → H} {W : World} {sp : Nat → Bool} {held : Bool}
theorem fcs_trod {fuel : Nat} {c : Value} {x : DataW H × List MemPlace} (ht : DataW.trod enc Tryz.prog W 0 sp held fuel 26 [c] = some x) :
    ∃ (A : Option Addr) (n cp : Nat) (D : Nat → Nat → Int) (B : Nat → Nat → Bool), c = .slice A n cp ∧ n ≤ cp ∧ cp ≤ 9223372036854775807 ∧ RecsAt W A n 12 (fcV D B) := by
  obtain ⟨A, n, cp, D, B, rfl, h1, h2, h3, h4, -⟩ := slice_kinds (e := 78) (n := 12) (fun j => decide (j < 10)) (by kernel_rfl) (by kernel_rfl) (Nat.succ_pos _) ht (by kernel_rfl)
  refine ⟨A, n, cp, D, B, rfl, h1, h2, ?_⟩
  have e : fcV D B = fun i j => if (fun j => decide (j < 10)) j = true then .int .i64 (D i j) else .bool (B i j) := by
    funext i j; unfold fcV; by_cases h : j < 10 <;> simp [h]
  rw [e]; exact h4
theorem sis_trod {fuel : Nat} {c : Value} {x : DataW H × List MemPlace} (ht : DataW.trod enc Tryz.prog W 0 sp held fuel 27 [c] = some x) :
    ∃ (A : Option Addr) (n cp : Nat) (D : Nat → Nat → Int) (B : Nat → Nat → Bool), c = .slice A n cp ∧ n ≤ cp ∧ cp ≤ 9223372036854775807 ∧ RecsAt W A n 7 (siV D B) := by
  obtain ⟨A, n, cp, D, B, rfl, h1, h2, h3, h4, -⟩ := slice_kinds (e := 80) (n := 7) (fun j => decide (j < 5)) (by kernel_rfl) (by kernel_rfl) (Nat.succ_pos _) ht (by kernel_rfl)
  refine ⟨A, n, cp, D, B, rfl, h1, h2, ?_⟩
  have e : siV D B = fun i j => if (fun j => decide (j < 5)) j = true then .int .i64 (D i j) else .bool (B i j) := by
    funext i j; unfold siV; by_cases h : j < 5 <;> simp [h]
  rw [e]; exact h4
/-- A weather: wind, see, ceiling; ice, storm. -/
def weV (D : Nat → Nat → Int) (B : Nat → Nat → Bool) (i j : Nat) : Value := if j < 3 then .int .i64 (D i j) else .bool (B i j)
theorem wes_trod {fuel : Nat} {c : Value} {x : DataW H × List MemPlace} (ht : DataW.trod enc Tryz.prog W 0 sp held fuel 41 [c] = some x) :
    ∃ (A : Option Addr) (n cp : Nat) (D : Nat → Nat → Int) (B : Nat → Nat → Bool), c = .slice A n cp ∧ n ≤ cp ∧ cp ≤ 9223372036854775807 ∧ RecsAt W A n 5 (weV D B) := by
  obtain ⟨A, n, cp, D, B, rfl, h1, h2, h3, h4, -⟩ := slice_kinds (e := 60) (n := 5) (fun j => decide (j < 3)) (by kernel_rfl) (by kernel_rfl) (Nat.succ_pos _) ht (by kernel_rfl)
  refine ⟨A, n, cp, D, B, rfl, h1, h2, ?_⟩
  have e : weV D B = fun i j => if (fun j => decide (j < 3)) j = true then .int .i64 (D i j) else .bool (B i j) := by
    funext i j; unfold weV; by_cases h : j < 3 <;> simp [h]
  rw [e]; exact h4
theorem met_trod {r : Reach} {b0 : Nat} {v : Value} {d : DataW H} {ps : List MemPlace} (hval : Value.okWide Tryz.prog W r b0 29 v) (hd : DataW.Trod enc Tryz.prog W 0 sp held 29 v d ps) :
    ∃ (M : MetD) (vF vS : Value), v = .agg #[.int .i64 M.places, .int .i64 M.any.a0, .int .i64 M.any.a1, .int .i64 M.any.a2, .int .i64 M.any.a3, .int .i64 M.any.a4, .int .i64 M.any.a5, .bool M.any.i, .bool M.any.s, .int .i64 M.mw, .int .i64 M.ms, .int .i64 M.mc, vF, vS] ∧ MetAt W vF vS M := by
  obtain ⟨cs, rfl, hl, fuel, x, ht⟩ := struct_trod (q := (3, 0)) (n := 14) (by kernel_rfl) (by kernel_rfl) hval hd
  have hl' : cs.length = Tryz.prog.cellsOf 29 := hl.trans (by kernel_rfl)
  obtain ⟨n0, e0, -⟩ := leaf_int hl' ht 0 (by kernel_rfl)
  obtain ⟨n1, e1, -⟩ := leaf_int hl' ht 1 (by kernel_rfl)
  obtain ⟨n2', e2, -⟩ := leaf_int hl' ht 2 (by kernel_rfl)
  obtain ⟨n3, e3, -⟩ := leaf_int hl' ht 3 (by kernel_rfl)
  obtain ⟨n4, e4, -⟩ := leaf_int hl' ht 4 (by kernel_rfl)
  obtain ⟨n5, e5, -⟩ := leaf_int hl' ht 5 (by kernel_rfl)
  obtain ⟨n6, e6, -⟩ := leaf_int hl' ht 6 (by kernel_rfl)
  obtain ⟨n9, e9, -⟩ := leaf_int hl' ht 9 (by kernel_rfl)
  obtain ⟨n10, e10, -⟩ := leaf_int hl' ht 10 (by kernel_rfl)
  obtain ⟨n11, e11, -⟩ := leaf_int hl' ht 11 (by kernel_rfl)
  obtain ⟨b7, e7⟩ := leaf_bool hl' ht 7 (by kernel_rfl)
  obtain ⟨b8, e8⟩ := leaf_bool hl' ht 8 (by kernel_rfl)
  obtain ⟨m1, y1, hF⟩ := trod_leaf (t := 26) 9 _ 12 fuel cs x (by kernel_rfl) hl' ht
  obtain ⟨m2, y2, hS⟩ := trod_leaf (t := 27) 9 _ 13 fuel cs x (by kernel_rfl) hl' ht
  obtain ⟨A, n, cp, D, B, e12, h1, h2, h3⟩ := fcs_trod hF
  obtain ⟨A2, n2, cp2, E, C, e13, k1, k2, k3⟩ := sis_trod hS
  refine ⟨⟨n0, ⟨n1, n2', n3, n4, n5, n6, b7, b8⟩, n9, n10, n11, n, D, B, n2, E, C⟩, .slice A n cp, .slice A2 n2 cp2, ?_, ⟨⟨_, _, rfl, h1, h2, h3⟩, ⟨_, _, rfl, k1, k2, k3⟩⟩⟩
  rw [list_cells hl]
  simp only [show List.range 14 = [0, 1, 2, 3, 4, 5, 6, 7, 8, 9, 10, 11, 12, 13] from rfl, List.map_cons, List.map_nil, e0, e1, e2, e3, e4, e5, e6, e7, e8, e9, e10, e11, e12, e13]
theorem min_trod {r : Reach} {b0 : Nat} {v : Value} {d : DataW H} {ps : List MemPlace} (hval : Value.okWide Tryz.prog W r b0 31 v) (hd : DataW.Trod enc Tryz.prog W 0 sp held 31 v d ps) :
    ∃ n0 n1 n2 b3 b4, v = .agg #[.int .i64 n0, .int .i64 n1, .int .i64 n2, .bool b3, .bool b4] ∧ I64 n0 ∧ I64 n1 ∧ I64 n2 := by
  obtain ⟨cs, rfl, hl, fuel, x, ht⟩ := struct_trod (q := (3, 0)) (n := 5) (by kernel_rfl) (by kernel_rfl) hval hd
  have hl' : cs.length = Tryz.prog.cellsOf 31 := hl.trans (by kernel_rfl)
  obtain ⟨n0, e0, w0⟩ := leaf_int hl' ht 0 (by kernel_rfl)
  obtain ⟨n1, e1, w1⟩ := leaf_int hl' ht 1 (by kernel_rfl)
  obtain ⟨n2, e2, w2⟩ := leaf_int hl' ht 2 (by kernel_rfl)
  obtain ⟨b3, e3⟩ := leaf_bool hl' ht 3 (by kernel_rfl)
  obtain ⟨b4, e4⟩ := leaf_bool hl' ht 4 (by kernel_rfl)
  refine ⟨n0, n1, n2, b3, b4, ?_, w0, w1, w2⟩
  rw [list_cells hl]
  simp only [show List.range 5 = [0, 1, 2, 3, 4] from rfl, List.map_cons, List.map_nil, e0, e1, e2, e3, e4]
theorem spot_trod {r : Reach} {b0 : Nat} {v : Value} {d : DataW H} {ps : List MemPlace} (hval : Value.okWide Tryz.prog W r b0 33 v) (hd : DataW.Trod enc Tryz.prog W 0 sp held 33 v d ps) :
    ∃ n0 n1, v = .agg #[.int .i64 n0, .int .i64 n1] ∧ I64 n0 ∧ I64 n1 := by
  obtain ⟨cs, rfl, hl, fuel, x, ht⟩ := struct_trod (q := (3, 0)) (n := 2) (by kernel_rfl) (by kernel_rfl) hval hd
  have hl' : cs.length = Tryz.prog.cellsOf 33 := hl.trans (by kernel_rfl)
  obtain ⟨n0, e0, w0⟩ := leaf_int hl' ht 0 (by kernel_rfl)
  obtain ⟨n1, e1, w1⟩ := leaf_int hl' ht 1 (by kernel_rfl)
  refine ⟨n0, n1, ?_, w0, w1⟩
  rw [list_cells hl]
  simp only [show List.range 2 = [0, 1] from rfl, List.map_cons, List.map_nil, e0, e1]
theorem fcast_trod {r : Reach} {b0 : Nat} {v : Value} {d : DataW H} {ps : List MemPlace} (hval : Value.okWide Tryz.prog W r b0 78 v) (hd : DataW.Trod enc Tryz.prog W 0 sp held 78 v d ps) :
    ∃ n0 n1 n2 n3 n4 n5 n6 n7 n8 n9 b10 b11, v = .agg #[.int .i64 n0, .int .i64 n1, .int .i64 n2, .int .i64 n3, .int .i64 n4, .int .i64 n5, .int .i64 n6, .int .i64 n7, .int .i64 n8, .int .i64 n9, .bool b10, .bool b11] ∧ I64 n0 ∧ I64 n1 ∧ I64 n2 ∧ I64 n3 ∧ I64 n4 ∧ I64 n5 ∧ I64 n6 ∧ I64 n7 ∧ I64 n8 ∧ I64 n9 := by
  obtain ⟨cs, rfl, hl, fuel, x, ht⟩ := struct_trod (q := (3, 0)) (n := 12) (by kernel_rfl) (by kernel_rfl) hval hd
  have hl' : cs.length = Tryz.prog.cellsOf 78 := hl.trans (by kernel_rfl)
  obtain ⟨n0, e0, w0⟩ := leaf_int hl' ht 0 (by kernel_rfl)
  obtain ⟨n1, e1, w1⟩ := leaf_int hl' ht 1 (by kernel_rfl)
  obtain ⟨n2, e2, w2⟩ := leaf_int hl' ht 2 (by kernel_rfl)
  obtain ⟨n3, e3, w3⟩ := leaf_int hl' ht 3 (by kernel_rfl)
  obtain ⟨n4, e4, w4⟩ := leaf_int hl' ht 4 (by kernel_rfl)
  obtain ⟨n5, e5, w5⟩ := leaf_int hl' ht 5 (by kernel_rfl)
  obtain ⟨n6, e6, w6⟩ := leaf_int hl' ht 6 (by kernel_rfl)
  obtain ⟨n7, e7, w7⟩ := leaf_int hl' ht 7 (by kernel_rfl)
  obtain ⟨n8, e8, w8⟩ := leaf_int hl' ht 8 (by kernel_rfl)
  obtain ⟨n9, e9, w9⟩ := leaf_int hl' ht 9 (by kernel_rfl)
  obtain ⟨b10, e10⟩ := leaf_bool hl' ht 10 (by kernel_rfl)
  obtain ⟨b11, e11⟩ := leaf_bool hl' ht 11 (by kernel_rfl)
  refine ⟨n0, n1, n2, n3, n4, n5, n6, n7, n8, n9, b10, b11, ?_, w0, w1, w2, w3, w4, w5, w6, w7, w8, w9⟩
  rw [list_cells hl]
  simp only [show List.range 12 = [0, 1, 2, 3, 4, 5, 6, 7, 8, 9, 10, 11] from rfl, List.map_cons, List.map_nil, e0, e1, e2, e3, e4, e5, e6, e7, e8, e9, e10, e11]
end
end Go.Proofs.YtfcjblnebaemgaaGreat
