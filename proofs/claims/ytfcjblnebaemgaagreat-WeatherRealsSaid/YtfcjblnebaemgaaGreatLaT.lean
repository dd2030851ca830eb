/- What an air, a span and other structs of numbers among the arguments read as. -/
import Derived.Test.YtfcjblnebaemgaaGreatLaO
set_option linter.all false
namespace Go.Proofs.YtfcjblnebaemgaaGreat
open Go Go.RowKit Go.Proofs Go.ChangeShapes Go.WideShapes Go.ChangeAt Go.Deep
set_option maxRecDepth 100000
set_option maxHeartbeats 4000000

section
variable {H : Type} {enc : TypeId × Value → H} {W : World} {sp : Nat → Bool} {held : Bool}

theorem int_trod {fuel : Nat} {c : Value} {x : DataW H × List MemPlace} (h : DataW.trod enc Tryz.prog W 0 sp held fuel 3 [c] = some x) : ∃ n, c = .int .i64 n ∧ I64 n := by
  obtain ⟨n, e, -, w⟩ := DataW.trod_int Tryz.undInt h
  exact ⟨n, by simpa using e, wf_I64 w⟩
theorem span_trod' {fuel : Nat} {a b : Value} {x : DataW H × List MemPlace} (h : DataW.trod enc Tryz.prog W 0 sp held fuel 23 [a, b] = some x) : ∃ lo hi, a = .int .i64 lo ∧ b = .int .i64 hi ∧ I64 lo ∧ I64 hi := by
  obtain ⟨m0, y0, h0⟩ := trod_field (i := 0) (t := 3) (o := 0) (k := 1) (by kernel_rfl) (by kernel_rfl) h
  obtain ⟨m1, y1, h1⟩ := trod_field (i := 1) (t := 3) (o := 1) (k := 1) (by kernel_rfl) (by kernel_rfl) h
  obtain ⟨lo, e0, w0⟩ := int_trod h0
  obtain ⟨hi, e1, w1⟩ := int_trod h1
  exact ⟨lo, hi, e0, e1, w0, w1⟩
theorem cells2 {l : List Value} (h : l.length = 2) : ∃ a b, l = [a, b] := by
  obtain ⟨a, l1, rfl, h1⟩ := take1 h
  obtain ⟨b, l2, rfl, h2⟩ := take1 h1
  obtain rfl := List.eq_nil_of_length_eq_zero h2
  exact ⟨_, _, rfl⟩
theorem cells4 {l : List Value} (h : l.length = 4) : ∃ a b c d, l = [a, b, c, d] := by
  obtain ⟨a, l1, rfl, h1⟩ := take1 h
  obtain ⟨b, l2, rfl, h2⟩ := take1 h1
  obtain ⟨c, d, rfl⟩ := cells2 h2
  exact ⟨_, _, _, _, rfl⟩
theorem cells8 {l : List Value} (h : l.length = 8) : ∃ a b c d e f g i, l = [a, b, c, d, e, f, g, i] := by
  obtain ⟨a, l1, rfl, h1⟩ := take1 h
  obtain ⟨b, l2, rfl, h2⟩ := take1 h1
  obtain ⟨c, l3, rfl, h3⟩ := take1 h2
  obtain ⟨d, l4, rfl, h4⟩ := take1 h3
  obtain ⟨e, f, g, i, rfl⟩ := cells4 h4
  exact ⟨_, _, _, _, _, _, _, _, rfl⟩

theorem span_trod {r : Reach} {b0 : Nat} {v : Value} {d : DataW H} {ps : List MemPlace} (hval : Value.okWide Tryz.prog W r b0 23 v) (hd : DataW.Trod enc Tryz.prog W 0 sp held 23 v d ps) :
    ∃ lo hi, v = .agg #[.int .i64 lo, .int .i64 hi] ∧ I64 lo ∧ I64 hi := by
  obtain ⟨fs, hu⟩ := fieldAt_struct (P := Tryz.prog) (T := 23) (i := 0) (r := (3, 0)) (by kernel_rfl)
  obtain ⟨cs, rfl, hs⟩ := okWide_struct hu hval
  rw [show Tryz.prog.cellsOf 23 = 2 by kernel_rfl] at hs
  obtain ⟨fuel, h⟩ := hd
  simp only [Value.cells] at h
  obtain ⟨a, b, e⟩ := cells2 (l := cs.toList) (by simpa using hs)
  rw [e] at h
  obtain ⟨lo, hi, rfl, rfl, w0, w1⟩ := span_trod' h
  exact ⟨lo, hi, by congr 1; exact Array.toList_inj.1 e, w0, w1⟩

theorem int_trod_arg {r : Reach} {b0 : Nat} {v : Value} {d : DataW H} {ps : List MemPlace} (hval : Value.okWide Tryz.prog W r b0 3 v) (hd : DataW.Trod enc Tryz.prog W 0 sp held 3 v d ps) :
    ∃ n, v = .int .i64 n ∧ I64 n := by
  obtain ⟨n, rfl⟩ := okWide_int Tryz.undInt hval
  obtain ⟨fuel, h⟩ := hd
  obtain ⟨m, e, hm⟩ := int_trod (show DataW.trod enc Tryz.prog W 0 sp held fuel 3 [.int .i64 n] = some _ from h)
  exact ⟨m, e, hm⟩
end
end Go.Proofs.YtfcjblnebaemgaaGreat
