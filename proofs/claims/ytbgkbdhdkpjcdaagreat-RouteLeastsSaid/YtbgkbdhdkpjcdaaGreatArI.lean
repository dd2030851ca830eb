/- What a number, or a slice, alone reads as among the arguments. -/
import Derived.Test.YtbgkbdhdkpjcdaaGreatJAS
set_option linter.all false
namespace Go.Proofs.YtbgkbdhdkpjcdaaGreat
set_option maxRecDepth 100000
open Go Go.RowKit Go.Proofs Go.ChangeShapes Go.WideShapes Go.ChangeAt Go.Deep
section
variable {H : Type} {enc : TypeId × Value → H} {W : World} {sp : Nat → Bool} {held : Bool}
theorem int_trod_one {r : Reach} {b0 : Nat} {v : Value} {d : DataW H} {ps : List MemPlace} (hval : Value.okWide Tryz.prog W r b0 3 v) (hd : DataW.Trod enc Tryz.prog W 0 sp held 3 v d ps) :
    ∃ n, v = .int .i64 n ∧ I64 n := by
  obtain ⟨n, rfl⟩ := okWide_int Tryz.undInt hval
  obtain ⟨fuel, h⟩ := hd
  obtain ⟨m, e, hm⟩ := int_trod (show DataW.trod enc Tryz.prog W 0 sp held fuel 3 [.int .i64 n] = some _ from h)
  exact ⟨m, e, hm⟩
theorem slice_trod_one {t e : TypeId} {r : Reach} {b0 : Nat} {v : Value} {d : DataW H} {ps : List MemPlace} (hu : Tryz.prog.underlying t = some (.slice e)) (hval : Value.okWide Tryz.prog W r b0 t v) (hd : DataW.Trod enc Tryz.prog W 0 sp held t v d ps) :
    ∃ fuel x, DataW.trod enc Tryz.prog W 0 sp held fuel t [v] = some x := by
  obtain ⟨a, len, cap, rfl⟩ := okWide_slice hu hval
  obtain ⟨fuel, h⟩ := hd
  exact ⟨fuel, _, h⟩
end
end Go.Proofs.YtbgkbdhdkpjcdaaGreat
