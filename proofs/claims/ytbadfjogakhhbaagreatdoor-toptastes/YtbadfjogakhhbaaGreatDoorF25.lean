/- Seat ZD: lowest of two numbers from 1 to 20. -/
import Derived.Test.YtbadfjogakhhbaaGreatDoorF24
namespace Go.Proofs.YtbadfjogakhhbaaGreatDoor.Re
open Go Go.RowKit
set_option linter.unusedVariables false
set_option linter.unusedSimpArgs false
set_option linter.unusedSectionVars false
variable [Sig]
noncomputable def lowOK (a b : Nat) : Bool := match runV Tryz.prog GT noK 4000 18 [.agg [I a, I b]] with
  | some (.agg [.raw (.int .i64 (.ofNat x)), .raw (.int .i64 (.ofNat y))], ⟨.leaf, 0⟩) => Nat.beq x (a / Nat.gcd a b) && Nat.beq y (b / Nat.gcd a b)
  | _ => false
noncomputable def lowAll (a n : Nat) : Bool := (List.range n).all fun i => (List.range 20).all fun b => lowOK (a + i) (b + 1)
theorem low1 : lowAll 1 5 = true := by kernel_rfl
theorem low2 : lowAll 6 5 = true := by kernel_rfl
theorem low3 : lowAll 11 5 = true := by kernel_rfl
theorem low4 : lowAll 16 5 = true := by kernel_rfl
theorem lowAll_ok {a n : Nat} (h : lowAll a n = true) {x b : Nat} (h1 : a ≤ x) (h2 : x < a + n) (h3 : 1 ≤ b) (h4 : b ≤ 20) : lowOK x b = true := by
  unfold lowAll at h
  have h := List.all_eq_true.1 h (x - a) (List.mem_range.2 (by omega))
  have h := List.all_eq_true.1 h (b - 1) (List.mem_range.2 (by omega))
  rw [show a + (x - a) = x by omega, show b - 1 + 1 = b by omega] at h
  exact h
theorem low_all {a b : Nat} (h1 : 1 ≤ a) (h2 : a ≤ 20) (h3 : 1 ≤ b) (h4 : b ≤ 20) : lowOK a b = true := by
  by_cases k1 : a < 6
  · exact lowAll_ok low1 h1 (by omega) h3 h4
  by_cases k2 : a < 11
  · exact lowAll_ok low2 (by omega) (by omega) h3 h4
  by_cases k3 : a < 16
  · exact lowAll_ok low3 (by omega) (by omega) h3 h4
  · exact lowAll_ok low4 (by omega) (by omega) h3 h4
theorem cI_VR {E : Env} {v : V} {a : Int} (h : cI Sig.σ v = some a) : VR E v (.int .i64 a) := by
  unfold cI at h
  split at h
  · injection h with h; subst h; rfl
  · injection h with h; subst h; rfl
  · cases h
theorem lowest_fact {v1 v2 r1 r2 : V} {a b : Nat} (k1 : 1 ≤ a) (k2 : a ≤ 20) (k3 : 1 ≤ b) (k4 : b ≤ 20) (h1 : cI Sig.σ v1 = some (a : Int)) (h2 : cI Sig.σ v2 = some (b : Int)) (h3 : cI Sig.σ r1 = some ((a / Nat.gcd a b : Nat) : Int)) (h4 : cI Sig.σ r2 = some ((b / Nat.gcd a b : Nat) : Int)) : FOK ⟨18, [.agg [v1, v2]], .agg [r1, r2], []⟩ := by
  have h := low_all k1 k2 k3 k4
  unfold lowOK at h
  split at h
  · rename_i x y hr
    simp only [Bool.and_eq_true] at h
    have e1 := Nat.eq_of_beq_eq_true h.1
    have e2 := Nat.eq_of_beq_eq_true h.2
    subst e1 e2
    have hf : FOK ⟨18, [.agg [I a, I b]], .agg [I (a / Nat.gcd a b), I (b / Nat.gcd a b)], []⟩ := fact_of_run mixed (fun _ => noK_ok) _ rfl hr rfl
    refine hf.words rfl rfl (fun E us hus => ?_) (fun E x hx => ?_)
    · obtain ⟨u, s, rfl, ⟨us1, rfl, p1, q1, e1, g1, p2, q2, e2, g2, e3⟩, h0⟩ := hus
      have g1 := cI_ok h1 g1
      have g2 := cI_ok h2 g2
      subst g1 g2
      exact ⟨_, s, rfl, ⟨us1, rfl, _, q1, e1, rfl, _, q2, e2, rfl, e3⟩, h0⟩
    · obtain ⟨us1, rfl, p1, q1, e1, g1, p2, q2, e2, g2, e3⟩ := hx
      have g1 : p1 = .int .i64 (Int.ofNat _) := g1
      have g2 : p2 = .int .i64 (Int.ofNat _) := g2
      subst g1 g2
      exact ⟨us1, rfl, _, q1, e1, cI_VR h3, _, q2, e2, cI_VR h4, e3⟩
  · cases h
end Go.Proofs.YtbadfjogakhhbaaGreatDoor.Re
