import Derived.Test.YtlabfpjlckdmfaaGreatRows
import Derived.ProofKit
set_option linter.all false
namespace Go.Proofs.YtlabfpjlckdmfaaGreat.routeTriangles
open Go Go.RowKit Go.Proofs Go.Proofs.YtlabfpjlckdmfaaGreat Go.ChangeShapes Go.WideShapes Go.ChangeAt
set_option maxRecDepth 100000
set_option maxHeartbeats 80000000
theorem jn : Tryz.pinned.checked.prog.funcNamed Rows.routeTrianglesRow.func = some 3 := by kernel_rfl
theorem jf : joinedFacts Tryz.pinned.checked.prog 3 Tryz.f3 Rows.routeTrianglesSpec Rows.routeTrianglesRow = true := by
 unfold joinedFacts
 simp only [Bool.and_eq_true]
 repeat' apply And.intro
 all_goals (as_aux_lemma => kernel_rfl)
theorem ji : Tryz.f3.isInstance Tryz.pinned.checked.prog Rows.routeTrianglesRow.origin Rows.routeTrianglesRow.targs := of_decide_eq_true (by kernel_rfl)
theorem jw : Tryz.f3.isWrapper Tryz.pinned.checked.prog Rows.routeTrianglesRow.wrapper Rows.routeTrianglesRow.mainSum := by unfold Func.isWrapper; first | (rw [if_pos (by decide +kernel)]; kernel_rfl) | (rw [if_neg (by decide +kernel)]; exact ⟨rfl, rfl⟩)
end Go.Proofs.YtlabfpjlckdmfaaGreat.routeTriangles
