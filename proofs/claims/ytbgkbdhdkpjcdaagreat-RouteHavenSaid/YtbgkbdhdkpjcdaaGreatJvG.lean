/- The closed facts of the row RouteHavenSaid. -/
import Derived.Test.YtbgkbdhdkpjcdaaGreatRows
import Derived.ProofKit
set_option linter.all false
namespace Go.Proofs.YtbgkbdhdkpjcdaaGreat.routeHaven
open Go Go.RowKit Go.Proofs Go.Proofs.YtbgkbdhdkpjcdaaGreat Go.ChangeShapes Go.WideShapes Go.ChangeAt
set_option maxRecDepth 100000
set_option maxHeartbeats 80000000
theorem jn : Tryz.pinned.checked.prog.funcNamed Rows.routeHavenRow.func = some 13 := by kernel_rfl
theorem jf : joinedFacts Tryz.pinned.checked.prog 13 Tryz.f13 Rows.routeHavenSpec Rows.routeHavenRow = true := by
  unfold joinedFacts
  simp only [Bool.and_eq_true]
  repeat' apply And.intro
  all_goals (as_aux_lemma => kernel_rfl)
theorem ji : Tryz.f13.isInstance Tryz.pinned.checked.prog Rows.routeHavenRow.origin Rows.routeHavenRow.targs := of_decide_eq_true (by kernel_rfl)
theorem jw : Tryz.f13.isWrapper Tryz.pinned.checked.prog Rows.routeHavenRow.wrapper Rows.routeHavenRow.mainSum := by unfold Func.isWrapper; first | (rw [if_pos (by decide +kernel)]; kernel_rfl) | (rw [if_neg (by decide +kernel)]; exact ⟨rfl, rfl⟩)
end Go.Proofs.YtbgkbdhdkpjcdaaGreat.routeHaven
