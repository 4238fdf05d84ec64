/- The seventh stage's constant test: what it returns. -/
import Derived.Test.YtbadfjogakhhbaaDoorF14
import Derived.Test.YtbadfjogakhhbaaDoorProg
import Derived.KernelRfl
namespace Go.Proofs.YtbadfjogakhhbaaDoor.Re
open Go Go.RowKit
set_option linter.unusedVariables false
set_option linter.unusedSectionVars false
variable [Sig]
def GT : Nat → Option Obj := fun g => match g with
  | 1 => some (.cells #[.int .u8 0, .int .u8 1, .int .u8 56, .int .u8 2, .int .u8 57, .int .u8 49, .int .u8 28, .int .u8 3, .int .u8 61, .int .u8 58, .int .u8 42, .int .u8 50, .int .u8 38, .int .u8 29, .int .u8 17, .int .u8 4, .int .u8 62, .int .u8 47, .int .u8 59, .int .u8 36, .int .u8 45, .int .u8 43, .int .u8 51, .int .u8 22, .int .u8 53, .int .u8 39, .int .u8 33, .int .u8 30, .int .u8 24, .int .u8 18, .int .u8 12, .int .u8 5, .int .u8 63, .int .u8 55, .int .u8 48, .int .u8 27, .int .u8 60, .int .u8 41, .int .u8 37, .int .u8 16, .int .u8 46, .int .u8 35, .int .u8 44, .int .u8 21, .int .u8 52, .int .u8 32, .int .u8 23, .int .u8 11, .int .u8 54, .int .u8 26, .int .u8 40, .int .u8 15, .int .u8 34, .int .u8 20, .int .u8 31, .int .u8 10, .int .u8 25, .int .u8 14, .int .u8 19, .int .u8 9, .int .u8 13, .int .u8 8, .int .u8 7, .int .u8 6] Sig.gt (0, 0))
  | _ => none
def isT : Option (V × St) → Bool
  | some (.raw (.bool true), _) => true
  | _ => false
theorem isT_ok {r : Option (V × St)} (h : isT r = true) : ∃ st, r = some (.raw (.bool true), st) := by
  unfold isT at h
  split at h
  · exact ⟨_, rfl⟩
  · cases h
theorem seven_run : isT (runFn Tryd.prog GT (code Tryd.prog GT noK 400) 10 [] ⟨.leaf, 0⟩) = true := by kernel_rfl
/-- What must be known of the world: the table of bits.TrailingZeros64. -/
def Laid (w : World) : Prop := ∀ g o, (GT g = some o ∨ Sig.gf g = some o) → g < w.heap.size ∧ w.heap[g]? = some o
theorem seven_calls (w : World) (hG : Laid w) : Calls Tryd.prog 10 #[] w fun e w' => e = .returned (.bool true) ∧ Below w.heap.size w w' := by
  obtain ⟨st, h⟩ := isT_ok seven_run
  refine (closed (P := Tryd.prog) (G := GT) (n := 0) (by kernel_rfl) (args := []) h w hG (fun _ => noK_ok)).mono ?_
  rintro _ w' ⟨x, E', rfl, h1, h2, h3⟩
  exact ⟨by rw [show x = .bool true from h2], h3⟩
end Go.Proofs.YtbadfjogakhhbaaDoor.Re
