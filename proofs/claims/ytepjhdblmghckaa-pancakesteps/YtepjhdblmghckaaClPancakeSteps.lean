/- PancakeSteps: the closed facts of its row. -/
import Derived.Test.YtepjhdblmghckaaRows
import Derived.WalkKit
import Derived.ProofKit
namespace Go.Proofs.Ytepjhdblmghckaa.pancakeSteps
open Go.ChangeShapes Go.WideShapes Go.ChangeAt Go.RowKit
theorem and_t {a b : Bool} (h : a = true) (k : b = true) : (a && b) = true := by rw [h, k]; rfl
set_option maxHeartbeats 20000000 in
theorem closed : joinedFacts Try.pinned.checked.prog 11 Try.f11 Rows.pancakeStepsSpec Rows.pancakeStepsRow = true := by
  unfold joinedFacts
  repeat' (first | with_reducible refine and_t ?_ ?_ | as_aux_lemma => kernel_rfl)
theorem cName : Try.pinned.checked.prog.funcNamed Rows.pancakeStepsRow.func = some 11 := by kernel_rfl
end Go.Proofs.Ytepjhdblmghckaa.pancakeSteps
