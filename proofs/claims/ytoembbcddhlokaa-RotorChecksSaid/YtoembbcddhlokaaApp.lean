/- Appending to an empty slice of the call's own. No program is imported here. -/
import Derived.Test.YtoembbcddhlokaaSpec
import Derived.Laws.AppendOwn
import Derived.ArgAppend
import Derived.OwnWalk
set_option linter.all false
namespace Go.Proofs.Ytoembbcddhlokaa
open Go Go.RowKit Go.Proofs

theorem below_of_none {w w' : World} (h : w.grownBy w' none) : Below w.heap.size w w' := (Below.refl _ _).grown h (Nat.le_refl _) (fun g hg => by cases hg)
theorem ownsRow_below {w w' : World} {base : Nat} {e : TypeId} {size : Nat} {v : Value} {n : Nat} {xs : List Value} (h : w.ownsRow base e size v n xs) (hb : Below w.heap.size w w') : w'.ownsRow base e size v n xs := by
  refine ⟨h.1, ?_⟩
  rcases h.2 with h2 | ⟨g, cap, cur, r1, r2, r3, r4⟩
  · exact .inl h2
  · exact .inr ⟨g, cap, cur, r1, r2, (hb.block g (Array.getElem?_eq_some_iff.1 r3).1).trans r3, r4⟩
theorem ownsRow_base {w : World} {base b2 : Nat} {e : TypeId} {size : Nat} {v : Value} {n : Nat} {xs : List Value} (h : w.ownsRow base e size v n xs) (hb : b2 ≤ base) : w.ownsRow b2 e size v n xs := by
  refine ⟨h.1, ?_⟩
  rcases h.2 with h2 | ⟨g, cap, cur, r1, r2, r3⟩
  · exact .inl h2
  · exact .inr ⟨g, cap, cur, r1, Nat.le_trans hb r2, r3⟩

theorem wpl_append_new {P : Program} {w : World} {ops : Array Oper} {rest : List Oper} {o : Oper} {a : Act} {Q : Exit → Act → World → Prop}
    (hg : o.guard = none) (s x : Operand) (t : TypeId) (hop : o.op = Op.call { callee := Callee.builtin Builtin.append, args := #[s, x], argTypes := #[t, t] })
    (e : TypeId) (i : TypeInfo) (z : Value) (bytes : Nat) (h1 : P.underlying t = some (.slice e)) (h2 : P.info? e = some i) (h3 : i.zero = some z) (h4 : i.size = 1) (h5 : i.bytes = bytes) (h6 : z.cells.size = 1)
    (g : Nat) (hs : a.eval s = .slice (some ⟨g, 0, none⟩) 0 0) (hgb : w.heap[g]? = some (.cells #[] e (0, 0))) (base : Nat) (hbg : base ≤ g)
    (A : Option Addr) (m c : Nat) (hx : a.eval x = .slice A m c) (f : Nat → Value) (hA : CellsAt w A m f) (hone : ∀ k, k < m → (f k).oneCell' = true)
    (b1 : m ≤ maxLen) (b2 : m * bytes ≤ 140737488355328)
    (K : ∀ v' w', w'.ownsRow base e 1 v' m ((List.range m).map f) → Below w.heap.size w w' → wpList P ops Q rest (a.put o.dst v') w') :
    wpList P ops Q (o :: rest) a w := by
  by_cases hm : m = 0
  · subst hm
    refine wpList_plain hg fun K' hK' => ?_
    have hrun : (Builtin.append_ #[t, t] o.type #[.slice (some ⟨g, 0, none⟩) 0 0, .slice A 0 c]).run P w = .ok (.slice (some ⟨g, 0, none⟩) 0 0) w := by
      cases A with
      | none => simp [Builtin.append_, run_underlying h1, sizeOf, typeInfo, h2, Builtin.lenOf, Builtin.firstCells, storeCells]
      | some ad => simp [Builtin.append_, run_underlying h1, sizeOf, typeInfo, h2, Builtin.lenOf, Builtin.firstCells, storeCells, loadCells, loadCellsFrom]
    unfold Oper.wp
    simp [execOp, hop, resolve, invoke, builtin, hs, hx, hrun, Result.andThen]
    exact hK' _ _ (K _ w ⟨by simp, .inr ⟨g, 0, #[], rfl, hbg, hgb, Nat.le_refl _, Nat.zero_le _, by simp, by simp⟩⟩ (Below.refl _ _))
  · obtain ⟨b, off, rfl, hlt, hc⟩ := hA (by omega)
    refine wpList_append_grows w hg s x t hop e i z 1 bytes h1 h2 h3 h4 h5 h6 (by omega) (some ⟨g, 0, none⟩) 0 0 [] hs (fun h => by cases h) (by simp) (fun _ _ j u h => by simp at h)
      ⟨b, off, none⟩ m c ((List.range m).map f) hx (by simp) (fun j u h => ?_) (fun u hu => ?_) (by omega) (by omega) (by simpa using b2) (fun v' w' ho hgr => ?_)
    · have hj : j < m := by
        have := (List.getElem?_eq_some_iff.1 h).1; simpa using this
      have : u = f j := by simp [hj] at h; exact h.symm
      subst this
      have hadd : (⟨b, off, none⟩ : Addr).add j = ⟨b, off + j, none⟩ := by unfold Addr.add; split <;> simp_all
      rw [hadd]; exact hc j hj
    · obtain ⟨k, hk, rfl⟩ := List.mem_map.1 hu
      exact hone k (List.mem_range.1 hk)
    · rw [Nat.zero_add, List.nil_append] at ho
      exact K v' w' (ownsRow_base ho (by have := (Array.getElem?_eq_some_iff.1 hgb).1; omega)) (below_of_none hgr)

theorem Ints.of_owns {w : World} {base : Nat} {e : TypeId} {v : Value} {xs : List Int} (h : w.ownsRow base e 1 v xs.length ((List.range xs.length).map fun k => .int .i64 (nth xs k))) (h64 : ∀ x ∈ xs, I64 x) : Ints w v xs := by
  rcases h.2 with ⟨rfl, hz⟩ | ⟨g, cap, cur, rfl, h1, h2, h3, h4, h5, h6⟩
  · exact ⟨none, 0, by rw [hz], by omega, by omega, h64, fun hp => by omega⟩
  · refine ⟨some ⟨g, 0, none⟩, cap, rfl, h3, by unfold maxLen at h4; omega, h64, fun hp => ⟨g, 0, rfl, (Array.getElem?_eq_some_iff.1 h2).1, fun k hk => ?_⟩⟩
    have := h.cellAt (g := g) k (by omega)
    rw [Nat.zero_add, this]
    simp [hk]

theorem own_ne {w : World} {b1 b2 : Nat} {e1 e2 : TypeId} {s1 s2 n1 n2 : Nat} {v1 v2 : Value} {x1 x2 : List Value} (h1 : w.ownsRow b1 e1 s1 v1 n1 x1) (h2 : w.ownsRow b2 e2 s2 v2 n2 x2) (he : e1 ≠ e2) : v1.ownBlock = none ∨ v1.ownBlock ≠ v2.ownBlock := by
  rcases h1.2 with ⟨rfl, -⟩ | ⟨g, cap, cur, rfl, -, r3, -⟩
  · exact .inl rfl
  · refine .inr fun h => ?_
    rcases h2.2 with ⟨rfl, -⟩ | ⟨g', cap', cur', rfl, -, r3', -⟩
    · cases h
    · simp only [Value.ownBlock, Option.some.injEq] at h
      subst h
      rw [r3] at r3'; injection r3' with r; injection r with _ r; exact he r
theorem own_far {w : World} {b1 : Nat} {e1 : TypeId} {s1 n1 : Nat} {v1 : Value} {x1 : List Value} (h1 : w.ownsRow b1 e1 s1 v1 n1 x1) {g : Nat} {c : Array Value} {t : TypeId} (hg : w.heap[g]? = some (.cells c t (0, 0))) (he : e1 ≠ t) : v1.ownBlock ≠ some g := by
  rcases h1.2 with ⟨rfl, -⟩ | ⟨g', cap, cur, rfl, -, r3, -⟩
  · intro h; cases h
  · intro h
    simp only [Value.ownBlock, Option.some.injEq] at h
    subst h
    rw [r3] at hg; injection hg with r; injection r with _ r; exact he r
theorem own_set {w : World} {b1 : Nat} {e1 : TypeId} {s1 n1 : Nat} {v1 : Value} {x1 : List Value} (h1 : w.ownsRow b1 e1 s1 v1 n1 x1) {g k : Nat} (hne : v1.ownBlock ≠ some g) (u : Value) : (w.setCell ⟨g, k, none⟩ u).ownsRow b1 e1 s1 v1 n1 x1 := by
  refine ⟨h1.1, ?_⟩
  rcases h1.2 with ⟨rfl, h⟩ | ⟨g', cap, cur, rfl, r1, r3, r4⟩
  · exact .inl ⟨rfl, h⟩
  · refine .inr ⟨g', cap, cur, rfl, r1, ?_, r4⟩
    rw [Below.heap_setCell _ _ _ _ (fun h => hne (by simp [Value.ownBlock, h]))]; exact r3
theorem grown_of_below {w w' : World} (row : Option Nat) (h : Below w.heap.size w w') : w.grownBy w' row := ⟨h.os, h.tape, h.output, h.size, fun k hk _ => h.block k hk⟩
theorem grown_trans {a b c : World} {row : Option Nat} (h1 : a.grownBy b row) (h2 : b.grownBy c row) : a.grownBy c row :=
  ⟨h2.os.trans h1.os, h2.tape.trans h1.tape, h2.output.trans h1.output, Nat.le_trans h1.size h2.size, fun k hk hne => (h2.block k (Nat.lt_of_lt_of_le hk h1.size) hne).trans (h1.block k hk hne)⟩
theorem Rows.of_owns {w : World} {base : Nat} {e : TypeId} {v : Value} {us : List Value} {V : List (List Int)} (h : w.ownsRow base e 1 v V.length us) (hr : ∀ j, j < V.length → Ints w (us.getD j undef) (nthR V j)) : Rows w v V := by
  rcases h.2 with ⟨rfl, hz⟩ | ⟨g, cap, cur, rfl, h1, h2, h3, h4, h5, h6⟩
  · exact ⟨none, 0, fun _ => undef, by rw [hz], by omega, by omega, fun hp => by omega, fun k hk => by omega⟩
  · refine ⟨some ⟨g, 0, none⟩, cap, fun k => us.getD k undef, rfl, h3, by unfold maxLen at h4; omega, fun hp => ⟨g, 0, rfl, (Array.getElem?_eq_some_iff.1 h2).1, fun k hk => ?_⟩, hr⟩
    have := h.cellAt (g := g) k (by omega)
    rw [Nat.zero_add, this]
    have hl := h.1
    rw [List.getElem?_eq_getElem (by omega)]
    simp [List.getD, List.getElem?_eq_getElem (show k < us.length by omega)]
end Go.Proofs.Ytoembbcddhlokaa
