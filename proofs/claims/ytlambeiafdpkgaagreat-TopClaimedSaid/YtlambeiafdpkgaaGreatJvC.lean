import Derived.Test.YtlambeiafdpkgaaGreatRows
import Derived.ProofKit
set_option linter.all false
namespace Go.Proofs.YtlambeiafdpkgaaGreat.topClaimed
open Go Go.RowKit Go.Proofs Go.Proofs.YtlambeiafdpkgaaGreat Go.ChangeShapes Go.WideShapes Go.ChangeAt
set_option maxRecDepth 100000
set_option maxHeartbeats 80000000
theorem jn : Tryz.pinned.checked.prog.funcNamed Rows.topClaimedRow.func = some 3 := by kernel_rfl
theorem jf : joinedFacts Tryz.pinned.checked.prog 3 Tryz.f3 Rows.topClaimedSpec Rows.topClaimedRow = true := by
 unfold joinedFacts
 simp only [Bool.and_eq_true]
 repeat' apply And.intro
 all_goals (as_aux_lemma => kernel_rfl)
theorem ji : Tryz.f3.isInstance Tryz.pinned.checked.prog Rows.topClaimedRow.origin Rows.topClaimedRow.targs := of_decide_eq_true (by kernel_rfl)
theorem jw : Tryz.f3.isWrapper Tryz.pinned.checked.prog Rows.topClaimedRow.wrapper Rows.topClaimedRow.mainSum := by unfold Func.isWrapper; first | (rw [if_pos (by decide +kernel)]; kernel_rfl) | (rw [if_neg (by decide +kernel)]; exact ⟨rfl, rfl⟩)
end Go.Proofs.YtlambeiafdpkgaaGreat.topClaimed
