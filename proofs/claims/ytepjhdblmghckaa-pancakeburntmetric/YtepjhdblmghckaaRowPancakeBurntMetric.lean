/- PancakeBurntMetric: without the reference: the same for burnt stacks, whose signs are changed in both, too; without the signs no more flips are needed than with them, but for one number. Proved for every input. -/
import Derived.Test.YtepjhdblmghckaaRows
import Derived.Test.YtepjhdblmghckaaLPancakeBurntMetric
import Derived.Test.YtepjhdblmghckaaMPancakeBurntMetric
import Derived.WalkKit
import Derived.ProofKit
import Derived.OpenShut
import Derived.ShutString
import Derived.ChangeOld
import Derived.Below
import Derived.Laws.IdiomArrays
import Derived.SizedLaws
import Derived.Test.YtepjhdblmghckaaClPancakeBurntMetric
import Derived.Test.YtepjhdblmghckaaUb
namespace Go.Proofs.Ytepjhdblmghckaa.pancakeBurntMetric
set_option linter.unusedVariables false
set_option linter.unusedSimpArgs false
set_option linter.unusedSectionVars false
open Go.ChangeShapes Go.WideShapes Go.ChangeAt Go.RowKit Go.Proofs.Ytepjhdblmghckaa.K Go.Proofs.YtepjhdblmghckaaW.PrintWords Go.Proofs.YtepjhdblmghckaaW.PrintLast Go.Proofs.YtepjhdblmghckaaW.PrintMore
open Go.ChangeMaps (open_string shut_string)
theorem own : ownKnob Try.prog.godebug = none := by kernel_rfl
theorem laidOut : laidOutB Try.prog = true := by kernel_rfl
def IsRow (k : IntKind) (w : World) (a : Option Addr) (len cap : Nat) (zs : List Int) : Prop :=
 (a = none ∧ len = 0 ∧ cap = 0 ∧ zs = []) ∨
 ∃ x, a = some x ∧ len ≤ cap ∧ cap ≤ maxLen ∧ zs.length = cap ∧ (∀ i, i < zs.length → w.cell? (x.add i) = some (.int k (zs.getD i 0))) ∧ ∀ n ∈ zs, (Lit.int k n).wf = true
theorem uArr3 : Try.prog.underlying 36 = some (.array 3 22) := by kernel_rfl
theorem arr3 {cs : Array Value} (h : cs.size = 3) : ∃ b0 b1 b2, Value.agg cs = .agg #[b0, b1, b2] := by
 refine ⟨cs[0], cs[1], cs[2], ?_⟩
 congr 1
 apply Array.ext
 ·simp [h]
 ·intro i h1 h2
  match i, h2 with
  | 0, _ | 1, _ | 2, _ => rfl
theorem row_of_trod {H : Type} {enc : TypeId × Value → H} {W : World} {n : Nat} {c : Value} {y : DataW H × List MemPlace} (hf : DataW.trod enc Try.prog W 0 (fun _ => true) true n 22 [c] = some y) : ∃ a len cap zs, c = .slice a len cap ∧ IsRow .i64 W a len cap zs := by
 rcases open_ints Try.underlying22 Try.underlying3 (by kernel_rfl) hf with ⟨hcs, _⟩ | ⟨x, l, c, zs, hcs, _, hl, hm, hz, _, hcell, hwz⟩
 ·simp at hcs
  subst hcs
  exact ⟨none, 0, 0, [], rfl, .inl ⟨rfl, rfl, rfl, rfl⟩⟩
 ·simp at hcs
  subst hcs
  exact ⟨some x, l, c, zs, rfl, .inr ⟨_, rfl, hl, hm, by simpa using hz, hcell, hwz⟩⟩
set_option maxRecDepth 100000 in
theorem lifted (os : Os) (started : os.Started) (H : Type) (enc : TypeId × Value → H) :
  ReturnsInHanded {} Try.checked os 8 .any (Rows.pancakeBurntMetricSpec.pre6 enc Try.prog Try.f8 Rows.pancakeBurntMetricRow.domain false) (Rows.pancakeBurntMetricSpec.post enc Try.prog Try.f8 false true false false) := by
 refine returnsInHanded_of_change_sized (C := Try.checked) own started (by kernel_rfl) Try.func8
  (ChangeSpec.witness6 (enc := enc) (C := Try.checked) false ⟨#[], #[.int .i64 0, .agg #[.slice none 0 0, .slice none 0 0, .slice none 0 0], .int .i64 0], []⟩ 8 (by kernel_rfl) (by kernel_rfl) (by kernel_rfl) (by kernel_rfl)) ?_
 intro W base args ds gs before hval0 hW hcnd hsz0 _
 have hsz : (DataW.weightsEach Try.prog (Try.f8.params.toList ++ Rows.pancakeBurntMetricSpec.plain.varTypes Try.prog) (ds ++ gs)).all (· ≤ reachBytes) = true := hsz0
 have hval : ∀ (j : Nat) t v, Try.f8.params[j]? = some t → args[j]? = some v → Value.okWide Try.prog W .any base t v := hval0
 have hW' := hW
 obtain ⟨p, q, hA0, hV, rfl, hfz, hnd⟩ := hW
 have hA : DataW.TrodAll enc Try.prog W 0 (fun _ => true) true Try.f8.params.toList args.toList ds p := hA0
 rw [Try.params8] at hA hval hsz
 obtain ⟨v0, vs0, d0, ds0, p0, q0, hargs, rfl, rfl, h0, r0⟩ := trodAll_cons hA
 obtain ⟨v1, vs1, d1, ds1, p1, q1, rfl, rfl, rfl, h1, r1⟩ := trodAll_cons r0
 obtain ⟨v2, vs2, d2, ds2, p2, q2, rfl, rfl, rfl, h2, r2⟩ := trodAll_cons r1
 obtain ⟨rfl, rfl, rfl⟩ := trodAll_nil r2
 obtain rfl : args = #[v0, v1, v2] := by cases args; simp_all
 obtain ⟨rfl, rfl⟩ := trodVars_none hV
 obtain ⟨a0, rfl, rfl, rfl, w0⟩ := open_int Try.underlying3 (hval 0 3 v0 rfl rfl) h0
 have k1 := h1
 have lt1 : ∀ x ∈ p1, x.block < W.heap.size := by obtain ⟨m, hm⟩ := k1; exact DataW.trod_lt m _ _ _ hm
 obtain ⟨b0, b1, b2, rfl⟩ : ∃ b0 b1 b2, v1 = .agg #[b0, b1, b2] := by
  have hv := hval 1 36 v1 rfl rfl
  simp only [Value.okWide, uArr3] at hv
  obtain ⟨cs, hc1, hc2, _⟩ := hv
  subst hc1
  exact arr3 (hc2.trans (by kernel_rfl))
 obtain ⟨A0, c0, m0, A1, c1, m1, A2, c2, m2, z0, z1, z2, rfl, rfl, rfl, y0, y1, y2⟩ : ∃ A0 c0 m0 A1 c1 m1 A2 c2 m2 z0 z1 z2, b0 = .slice A0 m0 c0 ∧ b1 = .slice A1 m1 c1 ∧ b2 = .slice A2 m2 c2 ∧ IsRow .i64 W A0 m0 c0 z0 ∧ IsRow .i64 W A1 m1 c1 z1 ∧ IsRow .i64 W A2 m2 c2 z2 := by
  obtain ⟨fuel, hf⟩ := h1
  obtain ⟨y0, y1, y2, n, _, g0, g1, g2⟩ := trod_array3 uArr3 (by kernel_rfl) (show DataW.trod enc Try.prog W 0 (fun _ => true) true fuel 36 [b0, b1, b2] = some _ from hf)
  obtain ⟨A0, m0, c0, z0, e0, r0⟩ := row_of_trod g0
  obtain ⟨A1, m1, c1, z1, e1, r1⟩ := row_of_trod g1
  obtain ⟨A2, m2, c2, z2, e2, r2⟩ := row_of_trod g2
  exact ⟨A0, c0, m0, A1, c1, m1, A2, c2, m2, z0, z1, z2, e0, e1, e2, r0, r1, r2⟩
 obtain ⟨a2, rfl, rfl, rfl, w2⟩ := open_int Try.underlying3 (hval 2 3 v2 rfl rfl) h2
 clear hA0 hval0 hsz0 hsz
 obtain ⟨l1_0, rfl, hr1_0, _, _, hc1_0⟩ := ReadsInt.ofRowC y0
 obtain ⟨l1_1, rfl, hr1_1, _, _, hc1_1⟩ := ReadsInt.ofRowC y1
 obtain ⟨l1_2, rfl, hr1_2, _, _, hc1_2⟩ := ReadsInt.ofRowC y2
 obtain ⟨k, h⟩ := Pure.PancakeBurntMetric_f a0 l1_0 l1_1 l1_2 a2
 refine (Q.bibelotlaw07_PancakeBurntMetric.calls k a0 _ _ l1_0 _ _ l1_1 _ _ l1_2 a2 true W (Kd.C_of_reads (d := (0 : Int)) (h1 := fun _ => rfl) hr1_0) hc1_0 (Kd.C_of_reads (d := (0 : Int)) (h1 := fun _ => rfl) hr1_1) hc1_1 (Kd.C_of_reads (d := (0 : Int)) (h1 := fun _ => rfl) hr1_2) hc1_2 h).mono fun e W' ⟨he, bel⟩ => ?_
 subst he
 exact ⟨_, rfl, _, _, _, [], _, [], hW', trodAll_mk1 (shut_bool Try.underlying4 _), (trodAll_cons_mk (shut_int Try.underlying3 w0) (trodAll_cons_mk (Below.trod laidOut (by kernel_rfl) (of_decide_eq_true (by kernel_rfl)) k1 bel lt1) (trodAll_cons_mk (shut_int Try.underlying3 w2) trodAll_mk0))), rfl, bel.frame _, fun h => by cases h⟩
theorem over : Rows.pancakeBurntMetricRow.holds Try.pinned (OpenSpec.ofChange Rows.pancakeBurntMetricSpec) :=
 OpenClaim.holds_of_wide 8 Try.f8 rfl rfl rfl rfl rfl rfl rfl ⟨rfl, rfl, rfl, rfl, rfl⟩ rfl rfl rfl rfl rfl cName Try.func8 closed
  (of_decide_eq_true (by kernel_rfl)) (by unfold Func.isWrapper; first | (rw [if_pos (by decide +kernel)]; kernel_rfl) | (rw [if_neg (by decide +kernel)]; exact ⟨rfl, rfl⟩))
  (fun os started H enc _ => lifted os started H enc)
theorem proved : Rows.PancakeBurntMetricSaid := over
#print axioms proved
end Go.Proofs.Ytepjhdblmghckaa.pancakeBurntMetric
namespace Go.Proofs.Ytepjhdblmghckaa
set_option linter.unusedVariables false
set_option linter.unusedSimpArgs false
set_option linter.unusedSectionVars false
/-- The row, under a short name, for the claim. -/
theorem pancakeBurntMetric_holds : Rows.PancakeBurntMetricSaid := pancakeBurntMetric.proved
end Go.Proofs.Ytepjhdblmghckaa
