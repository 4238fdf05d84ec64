/- Seat ZD: less of two shares; lowest of two small numbers. -/
import Derived.Test.YtbadfjogakhhbaaGreatDoorF23
import Derived.Laws.StructEq
import Derived.Tactics
namespace Go.Proofs.YtbadfjogakhhbaaGreatDoor.Re
open Go Go.RowKit
set_option linter.unusedVariables false
set_option linter.unusedSimpArgs false
set_option linter.unusedSectionVars false
set_option maxHeartbeats 8000000 in
set_option maxRecDepth 100000 in
theorem less_calls (a b c d : Int) (w : World) :
    Calls Tryz.prog 19 #[.agg #[.int .i64 a, .int .i64 b], .agg #[.int .i64 c, .int .i64 d]] w fun e w' => e = .returned (.bool (decide (wrap64 (a * d) < wrap64 (c * b)))) ∧ Below w.heap.size w w' := by
  have hb : ∀ o o', Below w.heap.size w ((w.alloc o).alloc o') := fun o o' => ((Below.refl w.heap.size w).alloc (Nat.le_refl _) _).alloc (by simp) _
  go_enter Tryz.func19, Tryz.ntmps19
  go_wp2
  · rename_i h1 h2
    subst h1 h2
    go_ret
    exact ⟨by simp, hb _ _⟩
  · rename_i h1 h2
    subst h1
    go_ret
    exact ⟨rfl, hb _ _⟩
  · go_ret
    exact ⟨rfl, hb _ _⟩
variable [Sig]
/-- less of shares that are told by unknown or known numbers. -/
theorem less_fact {v1 v2 v3 v4 : V} {a b c d : Int} (h1 : cI Sig.σ v1 = some a) (h2 : cI Sig.σ v2 = some b) (h3 : cI Sig.σ v3 = some c) (h4 : cI Sig.σ v4 = some d) (r : Bool) (hr : r = true ↔ a * d < c * b) (hb : -1000000 ≤ a * d ∧ a * d ≤ 1000000 ∧ -1000000 ≤ c * b ∧ c * b ≤ 1000000) : FOK ⟨19, [.agg [v1, v2], .agg [v3, v4]], .raw (.bool r), []⟩ := by
  refine fact_of_calls (by kernel_rfl) fun E w us hG hv => ?_
  obtain ⟨u, s, rfl, ⟨us1, rfl, p1, q1, e1, g1, p2, q2, e2, g2, e3⟩, u2, s2, rfl, ⟨us2, rfl, p3, q3, e4, g3, p4, q4, e5, g4, e6⟩, h0⟩ := hv
  have h0 : s2 = [] := h0
  have e3 : q2 = [] := e3
  have e6 : q4 = [] := e6
  subst h0 e3 e6
  have g1 := cI_ok h1 g1
  have g2 := cI_ok h2 g2
  have g3 := cI_ok h3 g3
  have g4 := cI_ok h4 g4
  subst g1 g2 g3 g4
  have e1 : us1 = #[.int .i64 a, .int .i64 b] := by apply Array.ext'; rw [e1, e2]
  have e4 : us2 = #[.int .i64 c, .int .i64 d] := by apply Array.ext'; rw [e4, e5]
  subst e1 e4
  refine (less_calls a b c d w).mono ?_
  rintro _ w' ⟨rfl, hbb⟩
  have x1 : wrap64 (a * d) = a * d := by unfold wrap64; omega
  have x2 : wrap64 (c * b) = c * b := by unfold wrap64; omega
  refine ⟨⟨_, rfl, fun E' => ?_⟩, hbb⟩
  show _ = _
  rw [x1, x2]
  cases r <;> simp_all
end Go.Proofs.YtbadfjogakhhbaaGreatDoor.Re
