/- A struct of many cells, loaded whole by a guarded operation. No program is imported here. -/
import Derived.Test.YtfcjblnebaemgaaBas
set_option linter.all false
namespace Go.Proofs.Ytfcjblnebaemgaa
open Go Go.RowKit Go.Proofs

section
variable {P : Program} {ops : Array Oper} {rest : List Oper} {o : Oper} {a : Act} {w : World}
theorem wpl_row_g {Q : Exit → Act → World → Prop} (hgd : Region.wanted o (yielded ops a.tmps) = true) (ty : TypeId) (x : Operand) (ho : o.op = .load ty x)
    (g : Nat) (hx : a.eval x = .pointer (some ⟨g, 0, none⟩)) (cs : Array Value) (n : Nat) (hB : w.heap[g]? = some (.cells cs ty (0, 0)))
    (hr : RowTy P ty n) (hn : cs.size = n)
    (h : wpList P ops Q rest (a.put o.dst (.agg cs)) w) : wpList P ops Q (o :: rest) a w := by
  obtain ⟨hu, hi⟩ := hr
  cases hd : P.underlying ty with
  | none => rw [hd] at hu; cases hu
  | some d =>
    rw [hd] at hu
    refine wpList_step fun K hK => ?_
    simp only [hgd, if_true]
    unfold Oper.wp execOp
    simp only [ho, hx, Instr.loadAt, Instr.sureAddr, Sem.run_bind, Sem.run_pure, Result.andThen_ok, run_loadVar_row w g ty ty cs (0, 0) d hB hd (by cases d <;> first | rfl | (simp at hu)) (by rw [hi, hn]), Oper.upon]
    exact hK _ _ h
end
end Go.Proofs.Ytfcjblnebaemgaa
