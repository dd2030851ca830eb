import Derived.Test.YtlabfpjlckdmfaaGreatRows
import Derived.ProofKit
set_option linter.all false
namespace Go.Proofs.YtlabfpjlckdmfaaGreat.routeRoutes
open Go Go.RowKit Go.Proofs Go.Proofs.YtlabfpjlckdmfaaGreat Go.ChangeShapes Go.WideShapes Go.ChangeAt
set_option maxRecDepth 100000
set_option maxHeartbeats 80000000
theorem jn : Tryz.pinned.checked.prog.funcNamed Rows.routeRoutesRow.func = some 4 := by kernel_rfl
theorem jf : joinedFacts Tryz.pinned.checked.prog 4 Tryz.f4 Rows.routeRoutesSpec Rows.routeRoutesRow = true := by
 unfold joinedFacts
 simp only [Bool.and_eq_true]
 repeat' apply And.intro
 all_goals (as_aux_lemma => kernel_rfl)
theorem ji : Tryz.f4.isInstance Tryz.pinned.checked.prog Rows.routeRoutesRow.origin Rows.routeRoutesRow.targs := of_decide_eq_true (by kernel_rfl)
theorem jw : Tryz.f4.isWrapper Tryz.pinned.checked.prog Rows.routeRoutesRow.wrapper Rows.routeRoutesRow.mainSum := by unfold Func.isWrapper; first | (rw [if_pos (by decide +kernel)]; kernel_rfl) | (rw [if_neg (by decide +kernel)]; exact ⟨rfl, rfl⟩)
end Go.Proofs.YtlabfpjlckdmfaaGreat.routeRoutes
