/- What a slice of drops among the arguments reads as. -/
import Derived.Test.YtoembbcddhlokaaLaT
import Derived.Test.YtoembbcddhlokaaStr
import Derived.Test.YtoembbcddhlokaaRoV
set_option linter.all false
namespace Go.Proofs.Ytoembbcddhlokaa
open Go Go.RowKit Go.Proofs Go.ChangeShapes Go.WideShapes Go.ChangeAt Go.Deep
set_option maxRecDepth 100000
set_option maxHeartbeats 4000000

section
variable {H : Type} {enc : TypeId × Value → H} {W : World} {sp : Nat → Bool} {held : Bool}
theorem five_trod {fuel : Nat} {a b c d e : Value} {x : DataW H × List MemPlace} (h : DataW.trod enc Try.prog W 0 sp held fuel 74 [a, b, c, d, e] = some x) : ∃ f : Nat → Int, ∀ j, j < 5 → [a, b, c, d, e].getD j undef = .int .i64 (f j) := by
  obtain ⟨m0, y0, h0⟩ := trod_field (i := 0) (t := 34) (o := 0) (k := 2) (by kernel_rfl) (by kernel_rfl) h
  obtain ⟨m1, y1, h1⟩ := trod_field (i := 1) (t := 34) (o := 2) (k := 2) (by kernel_rfl) (by kernel_rfl) h
  obtain ⟨m2, y2, h2⟩ := trod_field (i := 2) (t := 3) (o := 4) (k := 1) (by kernel_rfl) (by kernel_rfl) h
  obtain ⟨a0, a1, rfl, rfl, -⟩ := span_trod' h0
  obtain ⟨a2, a3, rfl, rfl, -⟩ := span_trod' h1
  obtain ⟨a4, rfl, -⟩ := int_trod h2
  exact ⟨fun j => [a0, a1, a2, a3, a4].getD j 0, fun j hj => match j, hj with | 0, _ => rfl | 1, _ => rfl | 2, _ => rfl | 3, _ => rfl | 4, _ => rfl⟩
theorem drops_trod {r : Reach} {b0 : Nat} {v : Value} {d : DataW H} {ps : List MemPlace} (hval : Value.okWide Try.prog W r b0 68 v) (hd : DataW.Trod enc Try.prog W 0 sp held 68 v d ps) :
    ∃ A n c D, v = .slice A n c ∧ n ≤ c ∧ c ≤ 9223372036854775807 ∧ (A = none → c = 0) ∧ DropsAt W A n D := by
  have hu : Try.prog.underlying 68 = some (.slice 74) := by kernel_rfl
  obtain ⟨a, len, cap, rfl⟩ := okWide_slice hu hval
  obtain ⟨fuel, h⟩ := hd
  obtain ⟨A, n, cp, V, e, h1, h2, h0, h3, h4⟩ := recs_trod (k := 5) hu (by kernel_rfl) (by omega) (show DataW.trod enc Try.prog W 0 sp held fuel 68 [.slice a len cap] = some _ from h)
  obtain ⟨rfl, rfl, rfl⟩ : a = A ∧ len = n ∧ cap = cp := by injection e with e1 e2 e3; exact ⟨e1, e2, e3⟩
  have hf : ∀ i, i < len → ∃ f : Nat → Int, ∀ j, j < 5 → V i j = .int .i64 (f j) := fun i hi => by
    obtain ⟨m, y, hm⟩ := h4 i hi
    obtain ⟨f, hf⟩ := five_trod (show DataW.trod enc Try.prog W 0 sp held m 74 [V i 0, V i 1, V i 2, V i 3, V i 4] = some y from hm)
    exact ⟨f, fun j hj => by rw [← hf j hj]; match j, hj with | 0, _ => rfl | 1, _ => rfl | 2, _ => rfl | 3, _ => rfl | 4, _ => rfl⟩
  obtain ⟨D, hD⟩ := choose_lt hf
  refine ⟨a, len, cap, D, rfl, h1, h2, h0, fun hp => ?_⟩
  obtain ⟨b, off, hA, hlt, hc⟩ := h3 hp
  exact ⟨b, off, hA, hlt, fun k hk j hj => by rw [hc k hk j hj, hD k hk j hj]⟩
end
end Go.Proofs.Ytoembbcddhlokaa
