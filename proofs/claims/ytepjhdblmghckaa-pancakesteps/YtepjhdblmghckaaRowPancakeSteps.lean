/- PancakeSteps: without the reference: a turn changes the distance by at most 1, the number of circles by at most 1, and turned again it is what it was; the circles have all grey lines. Proved for every input. -/
import Derived.WalkKit
import Derived.ProofKit
import Derived.OpenShut
import Derived.ShutString
import Derived.ChangeOld
import Derived.Below
import Derived.Laws.IdiomArrays
import Derived.SizedLaws
import Derived.Test.YtepjhdblmghckaaRows
import Derived.Test.YtepjhdblmghckaaClPancakeSteps
import Derived.Test.YtepjhdblmghckaaUt
import Derived.Test.YtepjhdblmghckaaEt1
import Derived.Test.YtepjhdblmghckaaEt2
import Derived.Test.YtepjhdblmghckaaEt3
import Derived.Test.YtepjhdblmghckaaEt4
namespace Go.Proofs.Ytepjhdblmghckaa.pancakeSteps
open Go.ChangeShapes Go.WideShapes Go.ChangeAt Go.RowKit Go.Proofs.Ytepjhdblmghckaa.K Go.Proofs.YtepjhdblmghckaaW.PrintWords Go.Proofs.YtepjhdblmghckaaW.PrintLast Go.Proofs.YtepjhdblmghckaaW.PrintMore
open Go.ChangeMaps (open_string shut_string)
set_option linter.unusedVariables false
theorem own : ownKnob Try.prog.godebug = none := by kernel_rfl
theorem laidOut : laidOutB Try.prog = true := by kernel_rfl
def IsRow (k : IntKind) (w : World) (a : Option Addr) (len cap : Nat) (zs : List Int) : Prop :=
  (a = none ∧ len = 0 ∧ cap = 0 ∧ zs = []) ∨
  ∃ x, a = some x ∧ len ≤ cap ∧ cap ≤ maxLen ∧ zs.length = cap ∧ (∀ i, i < zs.length → w.cell? (x.add i) = some (.int k (zs.getD i 0))) ∧ ∀ n ∈ zs, (Lit.int k n).wf = true
theorem uArr2 : Try.prog.underlying 57 = some (.array 2 3) := by kernel_rfl
theorem okWide_cell {Q : Program} {w : World} {r : Reach} {base : Nat} {t : TypeId} {k : IntKind} {v : Value} (hu : Q.underlying t = some (.int k)) (h : Cell.okWide Q w r base t v) : Value.okWide Q w r base t v := by
  unfold Value.okWide
  rw [hu]
  exact h
theorem cells2 : Try.prog.cellsOf 57 = 2 := by kernel_rfl
set_option maxRecDepth 100000 in
theorem arr2_of {w : World} {r : Reach} {base : Nat} {v : Value} (h : Value.okWide Try.prog w r base 57 v) : ∃ a b, v = .agg #[.int .i64 a, .int .i64 b] := by
  simp only [Value.okWide, uArr2] at h
  obtain ⟨cs, rfl, hs, ts, hts, _, hc⟩ := h
  have e1 : Try.prog.cellTypes Try.prog.depth 57 = some [3, 3] := by kernel_rfl
  rw [e1] at hts
  obtain rfl := Option.some.inj hts
  have hs2 : cs.size = 2 := hs.trans cells2
  have h0 := hc 0 cs[0] (Array.getElem?_eq_getElem _)
  have h1 := hc 1 cs[1] (Array.getElem?_eq_getElem _)
  obtain ⟨u0, e0, k0⟩ := h0
  obtain ⟨u1, e1, k1⟩ := h1
  obtain rfl : u0 = 3 := (Option.some.inj e0).symm
  obtain rfl : u1 = 3 := (Option.some.inj e1).symm
  have c0 := okWide_cell Try.underlying3 k0
  have c1 := okWide_cell Try.underlying3 k1
  obtain ⟨a, ha⟩ := okWide_int Try.underlying3 c0
  obtain ⟨b, hb⟩ := okWide_int Try.underlying3 c1
  refine ⟨a, b, ?_⟩
  congr 1
  apply Array.ext
  · simp [hs2]
  · intro i h1 h2
    match i, h2 with
    | 0, _ => exact ha
    | 1, _ => exact hb
set_option maxRecDepth 100000 in
theorem lifted (os : Os) (started : os.Started) (H : Type) (enc : TypeId × Value → H) :
    ReturnsInHanded {} Try.checked os 11 .any (Rows.pancakeStepsSpec.pre6 enc Try.prog Try.f11 Rows.pancakeStepsRow.domain false) (Rows.pancakeStepsSpec.post enc Try.prog Try.f11 false true false false) := by
  refine returnsInHanded_of_change_sized (C := Try.checked) own started (by kernel_rfl) Try.func11
    (ChangeSpec.witness6 (enc := enc) (C := Try.checked) false ⟨#[], #[.int .i64 0, .slice none 0 0, .agg #[.int .i64 0, .int .i64 0]], []⟩ 8 (by kernel_rfl) (by kernel_rfl) (by kernel_rfl) (by kernel_rfl)) ?_
  intro W base args ds gs before hval0 hW hcnd hsz0 _
  have hsz : (DataW.weightsEach Try.prog (Try.f11.params.toList ++ Rows.pancakeStepsSpec.plain.varTypes Try.prog) (ds ++ gs)).all (· ≤ reachBytes) = true := hsz0
  have hval : ∀ (j : Nat) t v, Try.f11.params[j]? = some t → args[j]? = some v → Value.okWide Try.prog W .any base t v := hval0
  have hW' := hW
  obtain ⟨p, q, hA0, hV, rfl, hfz, hnd⟩ := hW
  have hA : DataW.TrodAll enc Try.prog W 0 (fun _ => true) true Try.f11.params.toList args.toList ds p := hA0
  rw [Try.params11] at hA hval hsz
  obtain ⟨v0, vs0, d0, ds0, p0, q0, hargs, rfl, rfl, h0, r0⟩ := trodAll_cons hA
  obtain ⟨v1, vs1, d1, ds1, p1, q1, rfl, rfl, rfl, h1, r1⟩ := trodAll_cons r0
  obtain ⟨v2, vs2, d2, ds2, p2, q2, rfl, rfl, rfl, h2, r2⟩ := trodAll_cons r1
  obtain ⟨rfl, rfl, rfl⟩ := trodAll_nil r2
  obtain rfl : args = #[v0, v1, v2] := by cases args; simp_all
  obtain ⟨rfl, rfl⟩ := trodVars_none hV
  obtain ⟨a0, rfl, rfl, rfl, w0⟩ := open_int Try.underlying3 (hval 0 3 v0 rfl rfl) h0
  obtain ⟨a1, len1, cap1, rfl⟩ := okWide_slice Try.underlying22 (hval 1 22 v1 rfl rfl)
  have k1 := h1
  have lt1 : ∀ x ∈ p1, x.block < W.heap.size := by obtain ⟨m, hm⟩ := k1; exact DataW.trod_lt m _ _ _ hm
  obtain ⟨z1, w1⟩ : ∃ zs, IsRow .i64 W a1 len1 cap1 zs := by
    obtain ⟨fuel, hf⟩ := h1
    rcases open_ints Try.underlying22 Try.underlying3 (by kernel_rfl) hf with ⟨hcs, _⟩ | ⟨x, l, c, zs, hcs, _, hl, hm, hz, _, hcell, hwz⟩
    · simp [Value.cells] at hcs
      obtain ⟨rfl, rfl, rfl⟩ := hcs
      exact ⟨[], .inl ⟨rfl, rfl, rfl, rfl⟩⟩
    · simp [Value.cells] at hcs
      obtain ⟨rfl, rfl, rfl⟩ := hcs
      exact ⟨zs, .inr ⟨_, rfl, hl, hm, by simpa using hz, hcell, hwz⟩⟩
  have k2 := h2
  have lt2 : ∀ x ∈ p2, x.block < W.heap.size := by obtain ⟨m, hm⟩ := k2; exact DataW.trod_lt m _ _ _ hm
  obtain ⟨a2_0, a2_1, rfl⟩ := arr2_of (hval 2 57 v2 rfl rfl)
  clear hA0 hval0 hsz0 hsz
  obtain ⟨l1, rfl, hr1, hm1, hw1, hc1⟩ := ReadsInt.ofRowC w1
  obtain ⟨k, h⟩ := Pure.PancakeSteps_f a0 l1 a2_0 a2_1
  refine (Q.bibelotlaw07_PancakeSteps.calls k a0 _ _ l1 a2_0 a2_1 true W (Kd.C_of_reads (d := (0 : Int)) (h1 := fun _ => rfl) hr1) hc1 h).mono fun e W' ⟨he, bel⟩ => ?_
  subst he
  exact ⟨_, rfl, _, _, _, [], _, [], hW', trodAll_mk1 (shut_bool Try.underlying4 _), (trodAll_cons_mk (shut_int Try.underlying3 w0) (trodAll_cons_mk (Below.trod laidOut (by kernel_rfl) (of_decide_eq_true (by kernel_rfl)) k1 bel lt1) (trodAll_cons_mk (Below.trod laidOut (by kernel_rfl) (of_decide_eq_true (by kernel_rfl)) k2 bel lt2) trodAll_mk0))), rfl, bel.frame _, fun h => by cases h⟩
theorem over : Rows.pancakeStepsRow.holds Try.pinned (OpenSpec.ofChange Rows.pancakeStepsSpec) :=
  OpenClaim.holds_of_wide 11 Try.f11 rfl rfl rfl rfl rfl rfl rfl ⟨rfl, rfl, rfl, rfl, rfl⟩ rfl rfl rfl rfl rfl cName Try.func11 closed
    (of_decide_eq_true (by kernel_rfl)) (by unfold Func.isWrapper; first | (rw [if_pos (by decide +kernel)]; kernel_rfl) | (rw [if_neg (by decide +kernel)]; exact ⟨rfl, rfl⟩))
    (fun os started H enc _ => lifted os started H enc)
theorem proved : Rows.PancakeStepsSaid := over
#print axioms proved
end Go.Proofs.Ytepjhdblmghckaa.pancakeSteps
namespace Go.Proofs.Ytepjhdblmghckaa
/-- The row, under a short name, for the claim. -/
theorem pancakeSteps_holds : Rows.PancakeStepsSaid := pancakeSteps.proved
end Go.Proofs.Ytepjhdblmghckaa
