/- TopKnights: whatever the board and the square are. -/
import Derived.Test.YtbadfjogakhhbaaDoorE24
import Derived.Test.YtbadfjogakhhbaaDoorK11
import Derived.Test.YtbadfjogakhhbaaDoorK12
import Derived.Test.YtbadfjogakhhbaaDoorK13
import Derived.Test.YtbadfjogakhhbaaDoorK14
import Derived.Test.YtbadfjogakhhbaaDoorK21
import Derived.Test.YtbadfjogakhhbaaDoorK22
import Derived.Test.YtbadfjogakhhbaaDoorK23
import Derived.Test.YtbadfjogakhhbaaDoorK24
import Derived.Test.YtbadfjogakhhbaaDoorK31
import Derived.Test.YtbadfjogakhhbaaDoorK32
import Derived.Test.YtbadfjogakhhbaaDoorK33
import Derived.Test.YtbadfjogakhhbaaDoorK34
import Derived.Test.YtbadfjogakhhbaaDoorK41
import Derived.Test.YtbadfjogakhhbaaDoorK42
import Derived.Test.YtbadfjogakhhbaaDoorK43
import Derived.Test.YtbadfjogakhhbaaDoorK44
namespace Go.Proofs.YtbadfjogakhhbaaDoor.Re
open Go Go.RowKit
set_option linter.unusedVariables false
set_option linter.unusedSectionVars false
section
variable [Sig]
theorem bd_1_1 (h0 : smallI (Sig.σ 0) (.ofNat 3) = .ofNat 0) (h1 : smallI (Sig.σ 1) (.ofNat 3) = .ofNat 0) : SFactOK Tryd.prog GT tK := lw_1_1_a h0 h1 (lw_1_1_b (by
  obtain ⟨v, hv, h⟩ := smallI_cases (Sig.σ 2) 0 (by decide)
  match v, hv, h with
  | 0, _, h => exact lw_1_1_0 h
  | k + 1, hv, _ => exact absurd hv (by omega)))
theorem bd_1_2 (h0 : smallI (Sig.σ 0) (.ofNat 3) = .ofNat 0) (h1 : smallI (Sig.σ 1) (.ofNat 3) = .ofNat 1) : SFactOK Tryd.prog GT tK := lw_1_2_a h0 h1 (lw_1_2_b (by
  obtain ⟨v, hv, h⟩ := smallI_cases (Sig.σ 2) 1 (by decide)
  match v, hv, h with
  | 0, _, h => exact lw_1_2_0 h
  | 1, _, h => exact lw_1_2_1 h
  | k + 2, hv, _ => exact absurd hv (by omega)))
theorem bd_1_3 (h0 : smallI (Sig.σ 0) (.ofNat 3) = .ofNat 0) (h1 : smallI (Sig.σ 1) (.ofNat 3) = .ofNat 2) : SFactOK Tryd.prog GT tK := lw_1_3_a h0 h1 (lw_1_3_b (by
  obtain ⟨v, hv, h⟩ := smallI_cases (Sig.σ 2) 2 (by decide)
  match v, hv, h with
  | 0, _, h => exact lw_1_3_0 h
  | 1, _, h => exact lw_1_3_1 h
  | 2, _, h => exact lw_1_3_2 h
  | k + 3, hv, _ => exact absurd hv (by omega)))
theorem bd_1_4 (h0 : smallI (Sig.σ 0) (.ofNat 3) = .ofNat 0) (h1 : smallI (Sig.σ 1) (.ofNat 3) = .ofNat 3) : SFactOK Tryd.prog GT tK := lw_1_4_a h0 h1 (lw_1_4_b (by
  obtain ⟨v, hv, h⟩ := smallI_cases (Sig.σ 2) 3 (by decide)
  match v, hv, h with
  | 0, _, h => exact lw_1_4_0 h
  | 1, _, h => exact lw_1_4_1 h
  | 2, _, h => exact lw_1_4_2 h
  | 3, _, h => exact lw_1_4_3 h
  | k + 4, hv, _ => exact absurd hv (by omega)))
theorem bd_2_1 (h0 : smallI (Sig.σ 0) (.ofNat 3) = .ofNat 1) (h1 : smallI (Sig.σ 1) (.ofNat 3) = .ofNat 0) : SFactOK Tryd.prog GT tK := lw_2_1_a h0 h1 (lw_2_1_b (by
  obtain ⟨v, hv, h⟩ := smallI_cases (Sig.σ 2) 1 (by decide)
  match v, hv, h with
  | 0, _, h => exact lw_2_1_0 h
  | 1, _, h => exact lw_2_1_1 h
  | k + 2, hv, _ => exact absurd hv (by omega)))
theorem bd_2_2 (h0 : smallI (Sig.σ 0) (.ofNat 3) = .ofNat 1) (h1 : smallI (Sig.σ 1) (.ofNat 3) = .ofNat 1) : SFactOK Tryd.prog GT tK := lw_2_2_a h0 h1 (lw_2_2_b (by
  obtain ⟨v, hv, h⟩ := smallI_cases (Sig.σ 2) 3 (by decide)
  match v, hv, h with
  | 0, _, h => exact lw_2_2_0 h
  | 1, _, h => exact lw_2_2_1 h
  | 2, _, h => exact lw_2_2_2 h
  | 3, _, h => exact lw_2_2_3 h
  | k + 4, hv, _ => exact absurd hv (by omega)))
theorem bd_2_3 (h0 : smallI (Sig.σ 0) (.ofNat 3) = .ofNat 1) (h1 : smallI (Sig.σ 1) (.ofNat 3) = .ofNat 2) : SFactOK Tryd.prog GT tK := lw_2_3_a h0 h1 (lw_2_3_b (by
  obtain ⟨v, hv, h⟩ := smallI_cases (Sig.σ 2) 5 (by decide)
  match v, hv, h with
  | 0, _, h => exact lw_2_3_0 h
  | 1, _, h => exact lw_2_3_1 h
  | 2, _, h => exact lw_2_3_2 h
  | 3, _, h => exact lw_2_3_3 h
  | 4, _, h => exact lw_2_3_4 h
  | 5, _, h => exact lw_2_3_5 h
  | k + 6, hv, _ => exact absurd hv (by omega)))
theorem bd_2_4 (h0 : smallI (Sig.σ 0) (.ofNat 3) = .ofNat 1) (h1 : smallI (Sig.σ 1) (.ofNat 3) = .ofNat 3) : SFactOK Tryd.prog GT tK := lw_2_4_a h0 h1 (lw_2_4_b (by
  obtain ⟨v, hv, h⟩ := smallI_cases (Sig.σ 2) 7 (by decide)
  match v, hv, h with
  | 0, _, h => exact lw_2_4_0 h
  | 1, _, h => exact lw_2_4_1 h
  | 2, _, h => exact lw_2_4_2 h
  | 3, _, h => exact lw_2_4_3 h
  | 4, _, h => exact lw_2_4_4 h
  | 5, _, h => exact lw_2_4_5 h
  | 6, _, h => exact lw_2_4_6 h
  | 7, _, h => exact lw_2_4_7 h
  | k + 8, hv, _ => exact absurd hv (by omega)))
theorem bd_3_1 (h0 : smallI (Sig.σ 0) (.ofNat 3) = .ofNat 2) (h1 : smallI (Sig.σ 1) (.ofNat 3) = .ofNat 0) : SFactOK Tryd.prog GT tK := lw_3_1_a h0 h1 (lw_3_1_b (by
  obtain ⟨v, hv, h⟩ := smallI_cases (Sig.σ 2) 2 (by decide)
  match v, hv, h with
  | 0, _, h => exact lw_3_1_0 h
  | 1, _, h => exact lw_3_1_1 h
  | 2, _, h => exact lw_3_1_2 h
  | k + 3, hv, _ => exact absurd hv (by omega)))
theorem bd_3_2 (h0 : smallI (Sig.σ 0) (.ofNat 3) = .ofNat 2) (h1 : smallI (Sig.σ 1) (.ofNat 3) = .ofNat 1) : SFactOK Tryd.prog GT tK := lw_3_2_a h0 h1 (lw_3_2_b (by
  obtain ⟨v, hv, h⟩ := smallI_cases (Sig.σ 2) 5 (by decide)
  match v, hv, h with
  | 0, _, h => exact lw_3_2_0 h
  | 1, _, h => exact lw_3_2_1 h
  | 2, _, h => exact lw_3_2_2 h
  | 3, _, h => exact lw_3_2_3 h
  | 4, _, h => exact lw_3_2_4 h
  | 5, _, h => exact lw_3_2_5 h
  | k + 6, hv, _ => exact absurd hv (by omega)))
theorem bd_3_3 (h0 : smallI (Sig.σ 0) (.ofNat 3) = .ofNat 2) (h1 : smallI (Sig.σ 1) (.ofNat 3) = .ofNat 2) : SFactOK Tryd.prog GT tK := lw_3_3_a h0 h1 (lw_3_3_b (by
  obtain ⟨v, hv, h⟩ := smallI_cases (Sig.σ 2) 8 (by decide)
  match v, hv, h with
  | 0, _, h => exact lw_3_3_0 h
  | 1, _, h => exact lw_3_3_1 h
  | 2, _, h => exact lw_3_3_2 h
  | 3, _, h => exact lw_3_3_3 h
  | 4, _, h => exact lw_3_3_4 h
  | 5, _, h => exact lw_3_3_5 h
  | 6, _, h => exact lw_3_3_6 h
  | 7, _, h => exact lw_3_3_7 h
  | 8, _, h => exact lw_3_3_8 h
  | k + 9, hv, _ => exact absurd hv (by omega)))
theorem bd_3_4 (h0 : smallI (Sig.σ 0) (.ofNat 3) = .ofNat 2) (h1 : smallI (Sig.σ 1) (.ofNat 3) = .ofNat 3) : SFactOK Tryd.prog GT tK := lw_3_4_a h0 h1 (lw_3_4_b (by
  obtain ⟨v, hv, h⟩ := smallI_cases (Sig.σ 2) 11 (by decide)
  match v, hv, h with
  | 0, _, h => exact lw_3_4_0 h
  | 1, _, h => exact lw_3_4_1 h
  | 2, _, h => exact lw_3_4_2 h
  | 3, _, h => exact lw_3_4_3 h
  | 4, _, h => exact lw_3_4_4 h
  | 5, _, h => exact lw_3_4_5 h
  | 6, _, h => exact lw_3_4_6 h
  | 7, _, h => exact lw_3_4_7 h
  | 8, _, h => exact lw_3_4_8 h
  | 9, _, h => exact lw_3_4_9 h
  | 10, _, h => exact lw_3_4_10 h
  | 11, _, h => exact lw_3_4_11 h
  | k + 12, hv, _ => exact absurd hv (by omega)))
theorem bd_4_1 (h0 : smallI (Sig.σ 0) (.ofNat 3) = .ofNat 3) (h1 : smallI (Sig.σ 1) (.ofNat 3) = .ofNat 0) : SFactOK Tryd.prog GT tK := lw_4_1_a h0 h1 (lw_4_1_b (by
  obtain ⟨v, hv, h⟩ := smallI_cases (Sig.σ 2) 3 (by decide)
  match v, hv, h with
  | 0, _, h => exact lw_4_1_0 h
  | 1, _, h => exact lw_4_1_1 h
  | 2, _, h => exact lw_4_1_2 h
  | 3, _, h => exact lw_4_1_3 h
  | k + 4, hv, _ => exact absurd hv (by omega)))
theorem bd_4_2 (h0 : smallI (Sig.σ 0) (.ofNat 3) = .ofNat 3) (h1 : smallI (Sig.σ 1) (.ofNat 3) = .ofNat 1) : SFactOK Tryd.prog GT tK := lw_4_2_a h0 h1 (lw_4_2_b (by
  obtain ⟨v, hv, h⟩ := smallI_cases (Sig.σ 2) 7 (by decide)
  match v, hv, h with
  | 0, _, h => exact lw_4_2_0 h
  | 1, _, h => exact lw_4_2_1 h
  | 2, _, h => exact lw_4_2_2 h
  | 3, _, h => exact lw_4_2_3 h
  | 4, _, h => exact lw_4_2_4 h
  | 5, _, h => exact lw_4_2_5 h
  | 6, _, h => exact lw_4_2_6 h
  | 7, _, h => exact lw_4_2_7 h
  | k + 8, hv, _ => exact absurd hv (by omega)))
theorem bd_4_3 (h0 : smallI (Sig.σ 0) (.ofNat 3) = .ofNat 3) (h1 : smallI (Sig.σ 1) (.ofNat 3) = .ofNat 2) : SFactOK Tryd.prog GT tK := lw_4_3_a h0 h1 (lw_4_3_b (by
  obtain ⟨v, hv, h⟩ := smallI_cases (Sig.σ 2) 11 (by decide)
  match v, hv, h with
  | 0, _, h => exact lw_4_3_0 h
  | 1, _, h => exact lw_4_3_1 h
  | 2, _, h => exact lw_4_3_2 h
  | 3, _, h => exact lw_4_3_3 h
  | 4, _, h => exact lw_4_3_4 h
  | 5, _, h => exact lw_4_3_5 h
  | 6, _, h => exact lw_4_3_6 h
  | 7, _, h => exact lw_4_3_7 h
  | 8, _, h => exact lw_4_3_8 h
  | 9, _, h => exact lw_4_3_9 h
  | 10, _, h => exact lw_4_3_10 h
  | 11, _, h => exact lw_4_3_11 h
  | k + 12, hv, _ => exact absurd hv (by omega)))
theorem bd_4_4 (h0 : smallI (Sig.σ 0) (.ofNat 3) = .ofNat 3) (h1 : smallI (Sig.σ 1) (.ofNat 3) = .ofNat 3) : SFactOK Tryd.prog GT tK := lw_4_4_a h0 h1 (lw_4_4_b (by
  obtain ⟨v, hv, h⟩ := smallI_cases (Sig.σ 2) 15 (by decide)
  match v, hv, h with
  | 0, _, h => exact lw_4_4_0 h
  | 1, _, h => exact lw_4_4_1 h
  | 2, _, h => exact lw_4_4_2 h
  | 3, _, h => exact lw_4_4_3 h
  | 4, _, h => exact lw_4_4_4 h
  | 5, _, h => exact lw_4_4_5 h
  | 6, _, h => exact lw_4_4_6 h
  | 7, _, h => exact lw_4_4_7 h
  | 8, _, h => exact lw_4_4_8 h
  | 9, _, h => exact lw_4_4_9 h
  | 10, _, h => exact lw_4_4_10 h
  | 11, _, h => exact lw_4_4_11 h
  | 12, _, h => exact lw_4_4_12 h
  | 13, _, h => exact lw_4_4_13 h
  | 14, _, h => exact lw_4_4_14 h
  | 15, _, h => exact lw_4_4_15 h
  | k + 16, hv, _ => exact absurd hv (by omega)))
theorem knights : SFactOK Tryd.prog GT tK := by
  obtain ⟨r, hr, h0⟩ := smallI_cases (Sig.σ 0) 3 (by decide)
  obtain ⟨c, hc, h1⟩ := smallI_cases (Sig.σ 1) 3 (by decide)
  match r, c, hr, hc, h0, h1 with
  | 0, 0, _, _, h0, h1 => exact bd_1_1 h0 h1
  | 0, 1, _, _, h0, h1 => exact bd_1_2 h0 h1
  | 0, 2, _, _, h0, h1 => exact bd_1_3 h0 h1
  | 0, 3, _, _, h0, h1 => exact bd_1_4 h0 h1
  | 1, 0, _, _, h0, h1 => exact bd_2_1 h0 h1
  | 1, 1, _, _, h0, h1 => exact bd_2_2 h0 h1
  | 1, 2, _, _, h0, h1 => exact bd_2_3 h0 h1
  | 1, 3, _, _, h0, h1 => exact bd_2_4 h0 h1
  | 2, 0, _, _, h0, h1 => exact bd_3_1 h0 h1
  | 2, 1, _, _, h0, h1 => exact bd_3_2 h0 h1
  | 2, 2, _, _, h0, h1 => exact bd_3_3 h0 h1
  | 2, 3, _, _, h0, h1 => exact bd_3_4 h0 h1
  | 3, 0, _, _, h0, h1 => exact bd_4_1 h0 h1
  | 3, 1, _, _, h0, h1 => exact bd_4_2 h0 h1
  | 3, 2, _, _, h0, h1 => exact bd_4_3 h0 h1
  | 3, 3, _, _, h0, h1 => exact bd_4_4 h0 h1
  | k + 4, _, hr, _, _, _ => exact absurd hr (by omega)
  | _, k + 4, _, hc, _, _ => exact absurd hc (by omega)
end
theorem knights_calls (r c s : Int) (w : World) (h : laidMetH Tryd.prog laidL w) : Calls Tryd.prog 4 #[.int .i64 r, .int .i64 c, .int .i64 s] w fun e w' => e = .returned (.bool true) ∧ Below w.heap.size w w' := by
  obtain ⟨ty, hL⟩ := laid_of h
  letI : Sig := ⟨fun i => match i with | 0 => r | 1 => c | _ => s, ty⟩
  have hw : WR GT (fun k => k < w.heap.size) ⟨0, fun _ => 0, fun _ => 0⟩ ⟨.leaf, 0⟩ w := ⟨rfl, fun b o hb => by simp [T.get] at hb, fun b b' o o' hb => by simp [T.get] at hb, fun b o hb => by simp [T.get] at hb, fun k hk => hk, hL _⟩
  have hk := knights.2 (fun k => k < w.heap.size) ⟨0, fun _ => 0, fun _ => 0⟩ w [.int .i64 r, .int .i64 c, .int .i64 s] ⟨.leaf, 0⟩ rfl hw ⟨_, _, rfl, rfl, _, _, rfl, rfl, _, _, rfl, rfl, rfl⟩
  refine callsIn_wide.1 (CallsIn.mono hk ?_)
  rintro _ w' ⟨x, E', st1, h1, rfl, h2, h3, h4, h5⟩
  exact ⟨by rw [show x = .bool true from h4], h5.below⟩
end Go.Proofs.YtbadfjogakhhbaaDoor.Re
