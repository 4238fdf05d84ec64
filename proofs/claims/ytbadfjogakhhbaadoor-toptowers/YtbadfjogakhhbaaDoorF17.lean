/- Contracts of small and seven as facts. -/
import Derived.Test.YtbadfjogakhhbaaDoorF16
import Derived.Test.YtbadfjogakhhbaaDoorFS
import Derived.Tactics
namespace Go.Proofs.YtbadfjogakhhbaaDoor.Re
open Go Go.RowKit
set_option linter.unusedVariables false
set_option linter.unusedSimpArgs false
set_option linter.unusedSectionVars false
theorem ci_of {P : Program} {f : FuncId} (h : (callInfo P f).isSome = true) : ∃ fn c, callInfo P f = some (fn, c) := by
  obtain ⟨⟨fn, c⟩, hx⟩ := Option.isSome_iff_exists.1 h
  exact ⟨fn, c, hx⟩
theorem mixed : Tryd.prog.follows .mixedOrders = true := by kernel_rfl
/-- small(x, most). -/
def smallI (x m : Int) : Int := wrap64 (Int.tmod (IntKind.u64.wrap x) (IntKind.u64.wrap (wrap64 (m + 1))))
set_option maxHeartbeats 8000000 in
set_option maxRecDepth 100000 in
theorem small_calls (x m : Int) (w : World) (hm : IntKind.u64.wrap (wrap64 (m + 1)) ≠ 0) :
    Calls Tryd.prog 5 #[.int .i64 x, .int .i64 m] w fun e w' => e = .returned (.int .i64 (smallI x m)) ∧ Below w.heap.size w w' := by
  have c3b0 : ((IntKind.u64.wrap (wrap64 (m + 1))) == 0) = false := beq_eq_false_iff_ne.mpr hm
  have c3b1 : ((IntKind.u64.wrap (wrap64 (m + 1))) != 0) = true := bne_iff_ne.mpr hm
  go_enter Tryd.func5, Tryd.ntmps5
  go_wp2
  go_ret
  exact ⟨by first | rfl | (simp [smallI]; done) | (simp [smallI, *]; done), by first | exact Below.refl _ _ | exact (Below.refl _ _).drew⟩
theorem small_fact [Sig] (i : Nat) (m v : Int) (hm : IntKind.u64.wrap (wrap64 (m + 1)) ≠ 0) (h : smallI (Sig.σ i) m = v) : FactOK Tryd.prog GT ⟨5, [.sym i, .raw (.int .i64 m)], .raw (.int .i64 v), []⟩ := by
  refine ⟨ci_of (by kernel_rfl), fun w E us hG hv => ?_⟩
  obtain ⟨u, r, rfl, h1, u2, r2, rfl, h2, h3⟩ := hv
  have h1 : u = .int .i64 (Sig.σ i) := h1
  have h2 : u2 = .int .i64 m := h2
  have h3 : r2 = [] := h3
  subst h1 h2 h3
  refine CallsIn.mono (callsIn_wide.2 (small_calls (Sig.σ i) m w hm)) ?_
  rintro _ w' ⟨rfl, hb⟩
  exact ⟨_, ⟨0, fun _ => 0, fun _ => 0⟩, ⟨.leaf, 0⟩, rfl, rfl, hb.size, ⟨rfl, fun b o hb => by simp [T.get] at hb, fun b b' o o' hb => by simp [T.get] at hb, fun b o hb => by simp [T.get] at hb, fun k hk => Nat.lt_of_lt_of_le hk hb.size, fun g o hg => ⟨(hG g o hg).1, by rw [hb.block g (hG g o hg).1]; exact (hG g o hg).2⟩⟩, by show _ = _; rw [h], ⟨hb.os, hb.tape, hb.output, hb.size, hb.block⟩⟩
theorem seven_fact [Sig] : FactOK Tryd.prog GT ⟨10, [], .raw (.bool true), []⟩ := by
  refine ⟨ci_of (by kernel_rfl), fun w E us hG hv => ?_⟩
  have hv : us = [] := hv
  subst hv
  refine CallsIn.mono (callsIn_wide.2 (seven_calls w hG)) ?_
  rintro _ w' ⟨rfl, hb⟩
  exact ⟨_, ⟨0, fun _ => 0, fun _ => 0⟩, ⟨.leaf, 0⟩, rfl, rfl, hb.size, ⟨rfl, fun b o hb => by simp [T.get] at hb, fun b b' o o' hb => by simp [T.get] at hb, fun b o hb => by simp [T.get] at hb, fun k hk => Nat.lt_of_lt_of_le hk hb.size, fun g o hg => ⟨(hG g o hg).1, by rw [hb.block g (hG g o hg).1]; exact (hG g o hg).2⟩⟩, rfl, ⟨hb.os, hb.tape, hb.output, hb.size, hb.block⟩⟩
theorem fact2 [Sig] {K : Orc} (hK : ∀ B, OrcOK Tryd.prog GT B K) (k : Nat) (t : Fact) (hp : mapVs (fun _ => none) t.args = some t.args) (hs : (stBl t.bl).isSome = true) (h : runV Tryd.prog GT K k t.f t.args = match stBl t.bl with | some s => some (t.v, s) | none => none) : FactOK Tryd.prog GT t := by
  obtain ⟨s, hs⟩ := Option.isSome_iff_exists.1 hs
  rw [hs] at h
  exact fact_of_run mixed hK t hp h hs
/-- A whole number. -/
def I (n : Nat) : V := .raw (.int .i64 (.ofNat n))
def U (n : Nat) : V := .raw (.int .u64 (.ofNat n))
end Go.Proofs.YtbadfjogakhhbaaDoor.Re
