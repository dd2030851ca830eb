/- The closed facts of the row TopHavensSaid. -/
import Derived.Test.YtonfnhonbnfdoaaGreatRows
import Derived.ProofKit
set_option linter.all false
namespace Go.Proofs.YtonfnhonbnfdoaaGreat.topHavens
open Go Go.RowKit Go.Proofs Go.Proofs.YtonfnhonbnfdoaaGreat Go.ChangeShapes Go.WideShapes Go.ChangeAt
set_option maxRecDepth 100000
set_option maxHeartbeats 80000000
theorem jn : Tryz.pinned.checked.prog.funcNamed Rows.topHavensRow.func = some 3 := by kernel_rfl
theorem jf : joinedFacts Tryz.pinned.checked.prog 3 Tryz.f3 Rows.topHavensSpec Rows.topHavensRow = true := by
  unfold joinedFacts
  simp only [Bool.and_eq_true]
  repeat' apply And.intro
  all_goals (as_aux_lemma => kernel_rfl)
theorem ji : Tryz.f3.isInstance Tryz.pinned.checked.prog Rows.topHavensRow.origin Rows.topHavensRow.targs := of_decide_eq_true (by kernel_rfl)
theorem jw : Tryz.f3.isWrapper Tryz.pinned.checked.prog Rows.topHavensRow.wrapper Rows.topHavensRow.mainSum := by unfold Func.isWrapper; first | (rw [if_pos (by decide +kernel)]; kernel_rfl) | (rw [if_neg (by decide +kernel)]; exact ⟨rfl, rfl⟩)
end Go.Proofs.YtonfnhonbnfdoaaGreat.topHavens
