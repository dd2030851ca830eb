/- The cells of structs among the arguments, by the kind of each. -/
import Derived.Test.YtfcjblnebaemgaaGreatLaT
import Derived.Test.YtfcjblnebaemgaaGreatStr
set_option linter.all false
namespace Go.Proofs.YtfcjblnebaemgaaGreat
open Go Go.RowKit Go.Proofs Go.ChangeShapes Go.WideShapes Go.ChangeAt Go.Deep
set_option maxRecDepth 100000
set_option maxHeartbeats 4000000

/-- The type of a struct's cell, through the structs that lie in it. -/
def leafOf (P : Program) : Nat → TypeId → Nat → Option TypeId
  | 0, _, _ => none
  | f + 1, T, i => match P.underlying T with
    | some (.struct fs) => (List.range fs.size).findSome? fun j => match fieldAt (P.underlying T) j with
      | some (t, o) => if o ≤ i ∧ i < o + P.cellsOf t ∧ o + P.cellsOf t ≤ P.cellsOf T then leafOf P f t (i - o) else none
      | none => none
    | _ => if i = 0 ∧ P.cellsOf T = 1 then some T else none

section
variable {H : Type} {enc : TypeId × Value → H} {W : World} {sp : Nat → Bool} {held : Bool}
theorem one_cell {cs : List Value} (h : cs.length = 1) : cs = [cs.getD 0 undef] := by
  obtain ⟨c, l, rfl, hl⟩ := take1 h
  obtain rfl := List.eq_nil_of_length_eq_zero hl
  rfl
theorem trod_leaf {P : Program} {t : TypeId} : ∀ (f : Nat) (T : TypeId) (i fuel : Nat) (cs : List Value) (x : DataW H × List MemPlace), leafOf P f T i = some t → cs.length = P.cellsOf T →
    DataW.trod enc P W 0 sp held fuel T cs = some x → ∃ m y, DataW.trod enc P W 0 sp held m t [cs.getD i undef] = some y
  | 0, T, i, fuel, cs, x, h, _, _ => by cases h
  | f + 1, T, i, fuel, cs, x, h, hl, ht => by
    unfold leafOf at h
    split at h
    · rename_i fs hu
      obtain ⟨j, -, hj⟩ := List.exists_of_findSome?_eq_some h
      split at hj
      · rename_i t' o hf
        split at hj
        · rename_i hb
          obtain ⟨m, y, hm⟩ := trod_field hf rfl ht
          have hlen : ((cs.drop o).take (P.cellsOf t')).length = P.cellsOf t' := by
            rw [List.length_take, List.length_drop, hl]; omega
          obtain ⟨m2, y2, hm2⟩ := trod_leaf f t' (i - o) m _ y hj hlen hm
          refine ⟨m2, y2, ?_⟩
          have e : ((cs.drop o).take (P.cellsOf t')).getD (i - o) undef = cs.getD i undef := by
            unfold List.getD
            rw [List.getElem?_take_of_lt (by omega), List.getElem?_drop, show o + (i - o) = i by omega]
          rw [← e]; exact hm2
        · cases hj
      · cases hj
    · split at h
      · rename_i hc
        obtain ⟨rfl, h1⟩ := hc
        obtain rfl : T = t := by simpa using h
        rw [h1] at hl
        exact ⟨fuel, x, by rw [← one_cell hl]; exact ht⟩
      · cases h
theorem leaf_int {cs : List Value} {T : TypeId} {fuel : Nat} {x : DataW H × List MemPlace} (hl : cs.length = Tryz.prog.cellsOf T) (ht : DataW.trod enc Tryz.prog W 0 sp held fuel T cs = some x) (i : Nat) (h : leafOf Tryz.prog 9 T i = some 3) :
    ∃ n, cs.getD i undef = .int .i64 n ∧ I64 n := by
  obtain ⟨m, y, hm⟩ := trod_leaf 9 T i fuel cs x h hl ht
  exact int_trod hm
theorem Tryz.undBool : Tryz.prog.underlying 4 = some .bool := by kernel_rfl
theorem leaf_bool {cs : List Value} {T : TypeId} {fuel : Nat} {x : DataW H × List MemPlace} (hl : cs.length = Tryz.prog.cellsOf T) (ht : DataW.trod enc Tryz.prog W 0 sp held fuel T cs = some x) (i : Nat) (h : leafOf Tryz.prog 9 T i = some 4) :
    ∃ b, cs.getD i undef = .bool b := by
  obtain ⟨m, y, hm⟩ := trod_leaf 9 T i fuel cs x h hl ht
  obtain ⟨b, e, -⟩ := DataW.trod_bool Tryz.undBool hm
  exact ⟨b, by simpa using e⟩
theorem list_cells {cs : List Value} {n : Nat} (h : cs.length = n) : cs = (List.range n).map fun i => cs.getD i undef := by
  subst h
  apply List.ext_getElem
  · simp
  · intro i h1 h2
    simp [List.getD, List.getElem?_eq_getElem h1]
/-- A struct of numbers and truths: a number at each place that num says, else a truth. -/
theorem kinds {cs : List Value} {T : TypeId} {fuel n : Nat} {x : DataW H × List MemPlace} (num : Nat → Bool) (hn : Tryz.prog.cellsOf T = n) (hl : cs.length = n) (ht : DataW.trod enc Tryz.prog W 0 sp held fuel T cs = some x)
    (hk : (List.range n).all (fun i => leafOf Tryz.prog 9 T i == some (if num i then 3 else 4)) = true) :
    ∃ (f : Nat → Int) (b : Nat → Bool), (∀ i, i < n → cs.getD i undef = if num i then .int .i64 (f i) else .bool (b i)) ∧ ∀ i, i < n → num i = true → I64 (f i) := by
  have hk' : ∀ i, i < n → leafOf Tryz.prog 9 T i = some (if num i then 3 else 4) := fun i hi => by
    have := List.all_eq_true.1 hk i (List.mem_range.2 hi)
    simpa using this
  have hf : ∀ i, ∃ z : Int, i < n → num i = true → cs.getD i undef = .int .i64 z ∧ I64 z := fun i => by
    by_cases hi : i < n ∧ num i = true
    · have h1 := hk' i hi.1
      rw [hi.2, if_pos rfl] at h1
      obtain ⟨z, e, w⟩ := leaf_int (by rw [hl, hn]) ht i h1
      exact ⟨z, fun _ _ => ⟨e, w⟩⟩
    · exact ⟨0, fun a b => absurd ⟨a, b⟩ hi⟩
  have hb : ∀ i, ∃ z : Bool, i < n → num i = false → cs.getD i undef = .bool z := fun i => by
    by_cases hi : i < n ∧ num i = false
    · have h1 := hk' i hi.1
      rw [hi.2, if_neg (by decide)] at h1
      obtain ⟨z, e⟩ := leaf_bool (by rw [hl, hn]) ht i h1
      exact ⟨z, fun _ _ => e⟩
    · exact ⟨false, fun a b => absurd ⟨a, b⟩ hi⟩
  refine ⟨fun i => (hf i).choose, fun i => (hb i).choose, fun i hi => ?_, fun i hi hn => ((hf i).choose_spec hi hn).2⟩
  cases hn : num i
  · simpa using (hb i).choose_spec hi hn
  · simpa using ((hf i).choose_spec hi hn).1
theorem struct_trod {r : Reach} {b0 n : Nat} {T : TypeId} {v : Value} {d : DataW H} {ps : List MemPlace} {q : TypeId × Nat} (hf : fieldAt (Tryz.prog.underlying T) 0 = some q) (hn : Tryz.prog.cellsOf T = n)
    (hval : Value.okWide Tryz.prog W r b0 T v) (hd : DataW.Trod enc Tryz.prog W 0 sp held T v d ps) :
    ∃ cs : List Value, v = .agg cs.toArray ∧ cs.length = n ∧ ∃ fuel x, DataW.trod enc Tryz.prog W 0 sp held fuel T cs = some x := by
  obtain ⟨fs, hu⟩ := fieldAt_struct hf
  obtain ⟨cs, rfl, hs⟩ := okWide_struct hu hval
  rw [hn] at hs
  obtain ⟨fuel, h⟩ := hd
  exact ⟨cs.toList, by simp, by simpa using hs, fuel, _, h⟩
/-- A slice of structs of numbers and truths. -/
theorem slice_kinds {t e : TypeId} {fuel n : Nat} {c : Value} {x : DataW H × List MemPlace} (num : Nat → Bool) (hu : Tryz.prog.underlying t = some (.slice e)) (hn : Tryz.prog.cellsOf e = n) (h0 : 0 < n)
    (ht : DataW.trod enc Tryz.prog W 0 sp held fuel t [c] = some x) (hk : (List.range n).all (fun i => leafOf Tryz.prog 9 e i == some (if num i then 3 else 4)) = true) :
    ∃ (A : Option Addr) (len cp : Nat) (D : Nat → Nat → Int) (B : Nat → Nat → Bool), c = .slice A len cp ∧ len ≤ cp ∧ cp ≤ 9223372036854775807 ∧ (A = none → cp = 0) ∧ RecsAt W A len n (fun i j => if num j then .int .i64 (D i j) else .bool (B i j)) ∧ ∀ i, i < len → ∀ j, j < n → num j = true → I64 (D i j) := by
  obtain ⟨A, len, cp, V, rfl, h1, h2, h3, h4, h5⟩ := recs_trod hu hn h0 ht
  have hf : ∀ i, i < len → ∃ z : (Nat → Int) × (Nat → Bool), (∀ j, j < n → V i j = if num j then .int .i64 (z.1 j) else .bool (z.2 j)) ∧ ∀ j, j < n → num j = true → I64 (z.1 j) := fun i hi => by
    obtain ⟨m, y, hm⟩ := h5 i hi
    obtain ⟨f, b, hfb, hi64⟩ := kinds num hn (by simp) hm hk
    refine ⟨(f, b), fun j hj => ?_, hi64⟩
    rw [← hfb j hj]
    simp [List.getD, hj]
  obtain ⟨Z, hZ⟩ := choose_lt hf
  refine ⟨A, len, cp, fun i => (Z i).1, fun i => (Z i).2, rfl, h1, h2, h3, fun hp => ?_, fun i hi j hj hn => (hZ i hi).2 j hj hn⟩
  obtain ⟨b, off, hA, hlt, hc⟩ := h4 hp
  exact ⟨b, off, hA, hlt, fun k hk j hj => by rw [hc k hk j hj, (hZ k hk).1 j hj]⟩
theorem slice_trod {t e : TypeId} {r : Reach} {b0 : Nat} {v : Value} {d : DataW H} {ps : List MemPlace} (hu : Tryz.prog.underlying t = some (.slice e)) (hval : Value.okWide Tryz.prog W r b0 t v) (hd : DataW.Trod enc Tryz.prog W 0 sp held t v d ps) :
    ∃ fuel x, DataW.trod enc Tryz.prog W 0 sp held fuel t [v] = some x := by
  obtain ⟨a, len, cap, rfl⟩ := okWide_slice hu hval
  obtain ⟨fuel, h⟩ := hd
  exact ⟨fuel, _, h⟩
end
end Go.Proofs.YtfcjblnebaemgaaGreat
