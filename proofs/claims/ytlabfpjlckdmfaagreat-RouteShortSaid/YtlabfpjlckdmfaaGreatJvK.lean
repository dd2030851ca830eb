import Derived.Test.YtlabfpjlckdmfaaGreatRows
import Derived.ProofKit
set_option linter.all false
namespace Go.Proofs.YtlabfpjlckdmfaaGreat.routeShort
open Go Go.RowKit Go.Proofs Go.Proofs.YtlabfpjlckdmfaaGreat Go.ChangeShapes Go.WideShapes Go.ChangeAt
set_option maxRecDepth 100000
set_option maxHeartbeats 80000000
theorem jn : Tryz.pinned.checked.prog.funcNamed Rows.routeShortRow.func = some 5 := by kernel_rfl
theorem jf : joinedFacts Tryz.pinned.checked.prog 5 Tryz.f5 Rows.routeShortSpec Rows.routeShortRow = true := by
 unfold joinedFacts
 simp only [Bool.and_eq_true]
 repeat' apply And.intro
 all_goals (as_aux_lemma => kernel_rfl)
theorem ji : Tryz.f5.isInstance Tryz.pinned.checked.prog Rows.routeShortRow.origin Rows.routeShortRow.targs := of_decide_eq_true (by kernel_rfl)
theorem jw : Tryz.f5.isWrapper Tryz.pinned.checked.prog Rows.routeShortRow.wrapper Rows.routeShortRow.mainSum := by unfold Func.isWrapper; first | (rw [if_pos (by decide +kernel)]; kernel_rfl) | (rw [if_neg (by decide +kernel)]; exact ⟨rfl, rfl⟩)
end Go.Proofs.YtlabfpjlckdmfaaGreat.routeShort
