/- TopTowers: the closed facts of its row and its card. -/
import Derived.Test.YtbadfjogakhhbaaDoorCards
import Derived.WalkKit
import Derived.ProofKit
import Derived.SevenTiedAt
import Derived.Stop.Joined
namespace Go.Proofs.YtbadfjogakhhbaaDoor.topTowers
theorem and_t {a b : Bool} (h : a = true) (k : b = true) : (a && b) = true := by rw [h, k]; rfl
set_option maxHeartbeats 20000000 in
theorem closed : joinedFacts Tryd.pinned.checked.prog 3 Tryd.f3 Rows.topTowersSpec Rows.topTowersRow = true := by
  unfold joinedFacts
  repeat' (first | with_reducible refine and_t ?_ ?_ | as_aux_lemma => kernel_rfl)
theorem cName : Tryd.pinned.checked.prog.funcNamed Rows.topTowersRow.func = some 3 := by kernel_rfl
theorem cWf : Rows.topTowersRow.wfByText (OpenSpec.ofChange Rows.topTowersSpec) = true := by kernel_rfl
theorem cMain : Tryd.pinned.checked.prog.mainIs = some ((true, "048e0f6cb7eab0441e063d06811842b16294de3c252ae3aa35d793dd4bbfeadb").1, (true, "048e0f6cb7eab0441e063d06811842b16294de3c252ae3aa35d793dd4bbfeadb").2.toList) := by kernel_rfl
theorem cLooks : false = Tryd.pinned.checked.prog.looks [] := by kernel_rfl
theorem cGoes : false = Rows.topTowersRow.goesBy Tryd.pinned.checked.prog := by kernel_rfl
theorem cAll : ([22, 23].all fun u => !Tryd.pinned.checked.prog.wantsStandIn u) = true := by kernel_rfl
end Go.Proofs.YtbadfjogakhhbaaDoor.topTowers
