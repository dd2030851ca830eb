/- The closed facts of the row RouteLeastSaid. -/
import Derived.Test.YtbgkbdhdkpjcdaaGreatRows
import Derived.ProofKit
set_option linter.all false
namespace Go.Proofs.YtbgkbdhdkpjcdaaGreat.routeLeast
open Go Go.RowKit Go.Proofs Go.Proofs.YtbgkbdhdkpjcdaaGreat Go.ChangeShapes Go.WideShapes Go.ChangeAt
set_option maxRecDepth 100000
set_option maxHeartbeats 80000000
theorem jn : Tryz.pinned.checked.prog.funcNamed Rows.routeLeastRow.func = some 7 := by kernel_rfl
theorem jf : joinedFacts Tryz.pinned.checked.prog 7 Tryz.f7 Rows.routeLeastSpec Rows.routeLeastRow = true := by
  unfold joinedFacts
  simp only [Bool.and_eq_true]
  repeat' apply And.intro
  all_goals (as_aux_lemma => kernel_rfl)
theorem ji : Tryz.f7.isInstance Tryz.pinned.checked.prog Rows.routeLeastRow.origin Rows.routeLeastRow.targs := of_decide_eq_true (by kernel_rfl)
theorem jw : Tryz.f7.isWrapper Tryz.pinned.checked.prog Rows.routeLeastRow.wrapper Rows.routeLeastRow.mainSum := by unfold Func.isWrapper; first | (rw [if_pos (by decide +kernel)]; kernel_rfl) | (rw [if_neg (by decide +kernel)]; exact ⟨rfl, rfl⟩)
end Go.Proofs.YtbgkbdhdkpjcdaaGreat.routeLeast
