/- PancakeOrderTurns: the closed facts of its row. -/
import Derived.Test.YtepjhdblmghckaaRows
import Derived.WalkKit
import Derived.ProofKit
namespace Go.Proofs.Ytepjhdblmghckaa.pancakeOrderTurns
open Go.ChangeShapes Go.WideShapes Go.ChangeAt Go.RowKit
theorem and_t {a b : Bool} (h : a = true) (k : b = true) : (a && b) = true := by rw [h, k]; rfl
set_option maxHeartbeats 20000000 in
theorem closed : joinedFacts Try.pinned.checked.prog 14 Try.f14 Rows.pancakeOrderTurnsSpec Rows.pancakeOrderTurnsRow = true := by
  unfold joinedFacts
  repeat' (first | with_reducible refine and_t ?_ ?_ | as_aux_lemma => kernel_rfl)
theorem cName : Try.pinned.checked.prog.funcNamed Rows.pancakeOrderTurnsRow.func = some 14 := by kernel_rfl
end Go.Proofs.Ytepjhdblmghckaa.pancakeOrderTurns
