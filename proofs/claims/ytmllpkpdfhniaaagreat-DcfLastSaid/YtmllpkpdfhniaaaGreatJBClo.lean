/- The closed facts that the row of DcfLast asks of the program. -/
import Derived.Test.YtmllpkpdfhniaaaGreatRows
import Derived.JoinedOf
import Derived.WalkKit
set_option linter.unusedVariables false
set_option linter.unusedSimpArgs false
namespace Go.Proofs.YtmllpkpdfhniaaaGreat
set_option maxHeartbeats 4000000 in
theorem lastClosed : joinedFacts Tryz.checked.prog 3 Tryz.f3 Rows.dcfLastSpec Rows.dcfLastRow = true := by
  unfold joinedFacts
  simp only [Bool.and_eq_true]
  repeat' apply And.intro
  all_goals as_aux_lemma => kernel_rfl
theorem lastNamed : Tryz.checked.prog.funcNamed Rows.dcfLastRow.func = some 3 := by kernel_rfl
theorem lastWrap : Tryz.f3.isWrapper Tryz.checked.prog Rows.dcfLastRow.wrapper Rows.dcfLastRow.mainSum := (by unfold Func.isWrapper; first | (rw [if_pos (by decide +kernel)]; kernel_rfl) | (rw [if_neg (by decide +kernel)]; exact ⟨rfl, rfl⟩))
theorem lastInst : Tryz.f3.isInstance Tryz.checked.prog Rows.dcfLastRow.origin Rows.dcfLastRow.targs := of_decide_eq_true (by kernel_rfl)
end Go.Proofs.YtmllpkpdfhniaaaGreat
