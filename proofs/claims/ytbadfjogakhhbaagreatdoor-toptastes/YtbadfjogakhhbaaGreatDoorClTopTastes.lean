/- TopTastes: the closed facts of its row and its card. -/
import Derived.Test.YtbadfjogakhhbaaGreatDoorCards
import Derived.WalkKit
import Derived.ProofKit
import Derived.SevenTiedAt
import Derived.Stop.Joined
namespace Go.Proofs.YtbadfjogakhhbaaGreatDoor.topTastes
theorem and_t {a b : Bool} (h : a = true) (k : b = true) : (a && b) = true := by rw [h, k]; rfl
set_option maxHeartbeats 20000000 in
theorem closed : joinedFacts Tryz.pinned.checked.prog 3 Tryz.f3 Rows.topTastesSpec Rows.topTastesRow = true := by
  unfold joinedFacts
  repeat' (first | with_reducible refine and_t ?_ ?_ | as_aux_lemma => kernel_rfl)
theorem cName : Tryz.pinned.checked.prog.funcNamed Rows.topTastesRow.func = some 3 := by kernel_rfl
theorem cWf : Rows.topTastesRow.wfByText (OpenSpec.ofChange Rows.topTastesSpec) = true := by kernel_rfl
theorem cMain : Tryz.pinned.checked.prog.mainIs = some ((true, "c51cf9616c895de041ef5aa51cee2da50cfcf707751b80e5883434578698372b").1, (true, "c51cf9616c895de041ef5aa51cee2da50cfcf707751b80e5883434578698372b").2.toList) := by kernel_rfl
theorem cLooks : false = Tryz.pinned.checked.prog.looks [] := by kernel_rfl
theorem cGoes : false = Rows.topTastesRow.goesBy Tryz.pinned.checked.prog := by kernel_rfl
theorem cAll : ([22].all fun u => !Tryz.pinned.checked.prog.wantsStandIn u) = true := by kernel_rfl
end Go.Proofs.YtbadfjogakhhbaaGreatDoor.topTastes
