/- A struct that lies inside a greater block, loaded whole. No program is imported here. -/
import Derived.Test.YtoembbcddhlokaaRow
set_option linter.all false
namespace Go.Proofs.Ytoembbcddhlokaa
open Go Go.RowKit Go.Proofs

section
variable {P : Program} {ops : Array Oper} {rest : List Oper} {o : Oper} {a : Act} {w : World}
theorem run_mid {g off : Nat} {ty tb : TypeId} {big cs : Array Value} {n : Nat} (hB : w.heap[g]? = some (.cells big tb (0, 0))) (hr : RowTy P ty n) (pre post : List Value) (hpre : pre.length = off) (hcs : big.toList = pre ++ (cs.toList ++ post)) (hn : cs.size = n) :
    (loadVar ty ⟨g, off, none⟩).run P w = .ok (.agg cs) w := by
  obtain ⟨hu, hi⟩ := hr
  have hl : (loadCells ⟨g, off, none⟩ cs.toList.length).run P w = .ok cs.toList.toArray w :=
    run_loadCells_list (P := P) w ⟨g, off, none⟩ cs.toList (fun j v hv => by
      have hadd : (⟨g, off, none⟩ : Addr).add j = ⟨g, off + j, none⟩ := by unfold Addr.add; split <;> simp_all
      rw [hadd, cell_of_row w g (off + j) big tb (0, 0) hB]
      have hv' : cs[j]? = some v := by simpa using hv
      have hj : j < n := by rw [← hn]; exact (Array.getElem?_eq_some_iff.1 hv').1
      have hl : (big.toList)[off + j]? = some v := by
        rw [hcs, List.getElem?_append_right (by omega), show off + j - pre.length = j by omega, List.getElem?_append_left (by simp; omega)]
        exact hv
      simpa using hl)
  cases hd : P.underlying ty with
  | none => rw [hd] at hu; cases hu
  | some d =>
    rw [hd] at hu
    cases hq : P.info? ty with
    | none => simp [hq] at hi
    | some i =>
      have hs : i.size = cs.size := by rw [hn]; simpa [hq] using hi
      have hagg : (isAgg ty).run P w = .ok true w := by
        unfold isAgg
        rw [Sem.run_bind, run_underlying hd w]
        cases d <;> simp_all
      simp only [Array.length_toList, Array.toArray_toList] at hl
      simp [loadVar, Sem.run_bind, hagg, sizeOf, typeInfo, hq, hs, hl]
theorem wpl_mid {Q : Exit → Act → World → Prop} (hgd : o.guard = none) (ty : TypeId) (x : Operand) (ho : o.op = .load ty x)
    (g off : Nat) (hx : a.eval x = .pointer (some ⟨g, off, none⟩)) (tb : TypeId) (big cs : Array Value) (n : Nat) (hB : w.heap[g]? = some (.cells big tb (0, 0)))
    (hr : RowTy P ty n) (pre post : List Value) (hpre : pre.length = off) (hcs : big.toList = pre ++ (cs.toList ++ post)) (hn : cs.size = n)
    (h : wpList P ops Q rest (a.put o.dst (.agg cs)) w) : wpList P ops Q (o :: rest) a w := by
  refine wpList_plain hgd fun _ hK => ?_
  unfold Oper.wp execOp
  simp only [ho, hx, Instr.loadAt, Instr.sureAddr, Sem.run_bind, Sem.run_pure, Result.andThen_ok, run_mid hB hr pre post hpre hcs hn]
  exact hK _ _ h
theorem wpq_mid {C : World → Prop} {Q : Act → Prop} (hgd : o.guard = none) (ty : TypeId) (x : Operand) (ho : o.op = .load ty x)
    (g off : Nat) (hx : a.eval x = .pointer (some ⟨g, off, none⟩)) (tb : TypeId) (big cs : Array Value) (n : Nat) (hB : ∀ w, C w → w.heap[g]? = some (.cells big tb (0, 0)))
    (hr : RowTy P ty n) (pre post : List Value) (hpre : pre.length = off) (hcs : big.toList = pre ++ (cs.toList ++ post)) (hn : cs.size = n)
    (h : wpQuiet P ops C Q rest (a.put o.dst (.agg cs))) : wpQuiet P ops C Q (o :: rest) a := by
  refine wpQuiet_step fun K hK => ?_
  simp only [Region.wanted, hgd, if_true]
  refine ⟨.agg cs, fun w' hw' => ?_, hK _ h⟩
  unfold Oper.quietAt execOp
  simp only [ho, hx, Instr.loadAt, Instr.sureAddr, Sem.run_bind, Sem.run_pure, Result.andThen_ok, run_mid (hB w' hw') hr pre post hpre hcs hn]
  exact ⟨rfl, rfl⟩
end
end Go.Proofs.Ytoembbcddhlokaa
