/- TopKnights: the boards put together. -/
import Derived.Test.YtbadfjogakhhbaaDoorE23
import Derived.Laws.Bits64
namespace Go.Proofs.YtbadfjogakhhbaaDoor.Re
open Go Go.RowKit
set_option linter.unusedVariables false
set_option linter.unusedSectionVars false
theorem smallI_cases (x : Int) (m : Nat) (hm : m < 1000) : ∃ v : Nat, v ≤ m ∧ smallI x (.ofNat m) = .ofNat v := by
  have e1 : wrap64 (Int.ofNat m + 1) = (m : Int) + 1 := by unfold wrap64; simp only [Int.ofNat_eq_natCast]; omega
  have e2 : IntKind.u64.wrap ((m : Int) + 1) = (m : Int) + 1 := by rw [IntKind.wrap_u64]; omega
  have e3 : 0 ≤ IntKind.u64.wrap x := by rw [IntKind.wrap_u64]; omega
  unfold smallI
  rw [e1, e2, Int.tmod_eq_emod_of_nonneg e3]
  have h1 := Int.emod_nonneg (IntKind.u64.wrap x) (show (m : Int) + 1 ≠ 0 by omega)
  have h2 := Int.emod_lt_of_pos (IntKind.u64.wrap x) (show (0 : Int) < (m : Int) + 1 by omega)
  generalize IntKind.u64.wrap x % ((m : Int) + 1) = y at *
  refine ⟨y.toNat, by omega, ?_⟩
  unfold wrap64
  simp only [Int.ofNat_eq_natCast]
  omega
end Go.Proofs.YtbadfjogakhhbaaDoor.Re
