/- Laws of the walk: slices of structs built, structs built, results of two structs. -/
import Derived.Great.CaseRows
import Derived.Deep.WholeRow
import Derived.Test.YtonfnhonbnfdoaaGreatNbC
set_option linter.all false
namespace Go.Proofs.YtonfnhonbnfdoaaGreat
open Go Go.RowKit Go.Proofs
set_option maxRecDepth 100000
set_option maxHeartbeats 8000000
theorem wpl_recr {P : Program} {ops : Array Oper} {rest : List Oper} {o : Oper} {a : Act} {w : World} {Q : Exit → Act → World → Prop} (hg : o.guard = none) (t e : TypeId) (len : Nat) (parts : Array (Nat × Operand)) (s : Nat) (vs : List Value) (V : Nat → Nat → Value)
    (ho : o.op = .buildSlice t len parts) (hu : P.underlying t = some (.slice e)) (hsz : (P.info? e).map (·.size) = some s) (hz : ((P.info? e).bind (·.zero)).isSome = true)
    (hlen : len = vs.length) (hs : 0 < s) (hpos : 0 < len) (hsmall : len * s ≤ 2 ^ 24) (h1 : ∀ v ∈ vs, v.cells.size = s)
    (hparts : (parts.toList.map fun (i, x) => (i, a.eval x)) = (vs.zipIdx 0).map fun x => (x.2, x.1))
    (hV : (vs.flatMap fun v => v.cells.toList) = (List.range (len * s)).map fun q => V (q / s) (q % s))
    (h : ∀ g w', Below w.heap.size w w' → w.heap.size ≤ g → RecsAt w' (some ⟨g, 0, none⟩) len s V → wpList P ops Q rest (a.put o.dst (.slice (some ⟨g, 0, none⟩) len len)) w') : wpList P ops Q (o :: rest) a w := by
  cases hie : P.info? e with
  | none => simp [hie] at hsz
  | some ie =>
    simp only [hie, Option.map_some, Option.some.injEq, Option.bind_some] at hsz hz
    obtain ⟨z, hzz⟩ := Option.isSome_iff_exists.1 hz
    have hp := Nat.mul_pos hpos hs
    refine wpList_buildSlice hg t e len parts ho (vs.flatMap fun v => v.cells.toList).toArray ie z hu hie hzz (by rw [hsz]; omega) (by rw [hsz]; omega) ?_ ?_
    · rw [Array.toList_map, hparts, hsz]
      exact Great.fill_whole hs vs _ h1 (by simp [hlen])
    · refine h w.heap.size _ (bal (Below.refl _ _) _) (Nat.le_refl _) ?_
      rw [hV]
      intro _
      refine ⟨w.heap.size, 0, rfl, by simp, fun i hi j hj => ?_⟩
      have hlt : i * s + j < len * s := by
        have : (i + 1) * s ≤ len * s := Nat.mul_le_mul_right s hi
        rw [Nat.add_mul] at this; omega
      rw [Nat.zero_add, cell_of_row _ w.heap.size (i * s + j) _ e (0, 0) (World.alloc_heap_new w _)]
      simp only [List.getElem?_toArray, List.getElem?_map, List.getElem?_range hlt, Option.map_some]
      rw [Nat.mul_comm i s, Nat.mul_add_div hs, Nat.mul_add_mod, Nat.div_eq_of_lt hj, Nat.mod_eq_of_lt hj, Nat.add_zero]
theorem wpl_buildr {P : Program} {ops : Array Oper} {rest : List Oper} {o : Oper} {a : Act} {w : World} {Q : Exit → Act → World → Prop} (hg : o.guard = none) (t : TypeId) (parts : Array (Nat × Operand)) (ho : o.op = .build t parts)
    (cs : Array Value) (hf : P.built t (parts.toList.map fun (i, x) => (i, a.eval x)) = some cs)
    (h : wpList P ops Q rest (a.put o.dst (.agg cs)) w) : wpList P ops Q (o :: rest) a w :=
  wpList_build hg t parts ho (by rw [Array.toList_map, hf]; rfl) (by rw [Array.toList_map, hf]; exact h)
theorem wpl_store_newR {P : Program} {ops : Array Oper} {rest : List Oper} {o : Oper} {a : Act} {w : World} {Q : Exit → Act → World → Prop} (hgd : o.guard = none) (ty : TypeId) (x y : Operand) (ho : o.op = .store ty x y)
    (cells old : Array Value) (g : Nat) (hx : a.eval x = .pointer (some ⟨g, 0, none⟩)) (hg : g = w.heap.size) (hy : a.eval y = .agg cells) (hi : (P.info? ty).map (·.size) = some cells.size)
    (hold : old.size = cells.size) (h1 : cells.all (·.oneCell') = true)
    (h : wpList P ops Q rest (a.put o.dst undef) (w.alloc (.cells cells ty))) : wpList P ops Q (o :: rest) a (w.alloc (.cells old ty)) := by
  subst hg
  refine wpList_store_row hgd ty x y ho w.heap.size cells hx hy ty old (World.alloc_heap_new w _) hi hold h1 ?_
  rw [World.setRow_alloc_new]; exact h
theorem res_cc2r {P : Program} {w : World} {fn : Func} {p q : Tmp} {ty ty' : TypeId} (h : fn.results = #[.cell p ty, .cell q ty']) (tmps : Array Value) (g g' : Nat) (cs cs' : Array Value) (n n' : Nat) (hp : tmps.getD p undef = .pointer (some ⟨g, 0, none⟩)) (hq : tmps.getD q undef = .pointer (some ⟨g', 0, none⟩))
    (hB : w.heap[g]? = some (.cells cs ty (0, 0))) (hr : RowTy P ty n) (hn : cs.size = n) (hB' : w.heap[g']? = some (.cells cs' ty' (0, 0))) (hr' : RowTy P ty' n') (hn' : cs'.size = n') : (results fn tmps).run P w = .ok (.tuple #[.agg cs, .agg cs']) w := by
  have hp' : tmps[p]?.getD undef = .pointer (some ⟨g, 0, none⟩) := by simpa using hp
  have hq' : tmps[q]?.getD undef = .pointer (some ⟨g', 0, none⟩) := by simpa using hq
  simp [results, h, hp', hq', asAddr, run_row hB hr hn, run_row hB' hr' hn']
theorem Tryz.fcSr : (Tryz.prog.info? 68).map (·.size) = some 12 := by kernel_rfl
theorem Tryz.fcZr : ((Tryz.prog.info? 68).bind (·.zero)).isSome = true := by kernel_rfl
end Go.Proofs.YtonfnhonbnfdoaaGreat
