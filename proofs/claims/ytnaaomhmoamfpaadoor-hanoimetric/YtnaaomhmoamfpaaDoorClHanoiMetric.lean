/- HanoiMetric: the closed facts of its row and its card. -/
import Derived.Test.YtnaaomhmoamfpaaDoorCards
import Derived.WalkKit
import Derived.ProofKit
import Derived.SevenTiedAt
import Derived.Stop.Joined
namespace Go.Proofs.YtnaaomhmoamfpaaDoor.hanoiMetric
theorem and_t {a b : Bool} (h : a = true) (k : b = true) : (a && b) = true := by rw [h, k]; rfl
set_option maxHeartbeats 20000000 in
theorem closed : joinedFacts Tryd.pinned.checked.prog 18 Tryd.f18 Rows.hanoiMetricSpec Rows.hanoiMetricRow = true := by
  unfold joinedFacts
  repeat' (first | with_reducible refine and_t ?_ ?_ | as_aux_lemma => kernel_rfl)
theorem cName : Tryd.pinned.checked.prog.funcNamed Rows.hanoiMetricRow.func = some 18 := by kernel_rfl
theorem cWf : Rows.hanoiMetricRow.wfByText (OpenSpec.ofChange Rows.hanoiMetricSpec) = true := by kernel_rfl
theorem cMain : Tryd.pinned.checked.prog.mainIs = some ((true, "0b7658f01de11f64729abe891a45aecbcd4033d7a27c0b02aab61465db0a64af").1, (true, "0b7658f01de11f64729abe891a45aecbcd4033d7a27c0b02aab61465db0a64af").2.toList) := by kernel_rfl
theorem cLooks : false = Tryd.pinned.checked.prog.looks [] := by kernel_rfl
theorem cGoes : false = Rows.hanoiMetricRow.goesBy Tryd.pinned.checked.prog := by kernel_rfl
theorem cAll : ([3, 59, 3].all fun u => !Tryd.pinned.checked.prog.wantsStandIn u) = true := by kernel_rfl
end Go.Proofs.YtnaaomhmoamfpaaDoor.hanoiMetric
