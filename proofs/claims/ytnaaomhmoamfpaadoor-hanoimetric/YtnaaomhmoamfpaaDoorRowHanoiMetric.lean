/- HanoiMetric: without the reference: distances obey the laws of a metric, are 0 just for the same discs, and do not change if pegs are renamed in both; a move changes one by at most 1. Proved for every input, at the variables that the row lists as the program lays them; the row and its tied card. -/
import Derived.Test.YtnaaomhmoamfpaaDoorRows
import Derived.Test.YtnaaomhmoamfpaaDoorMHanoiMetric
import Derived.WalkKit
import Derived.ProofKit
import Derived.OpenShut
import Derived.ShutString
import Derived.ChangeOld
import Derived.Below
import Derived.Laws.IdiomArrays
import Derived.SizedLaws
import Derived.Test.YtnaaomhmoamfpaaDoorTie
import Derived.Test.YtnaaomhmoamfpaaDoorCards
import Derived.Test.YtnaaomhmoamfpaaDoorClHanoiMetric
import Derived.LaidMore
import Derived.Lay
import Derived.SevenTiedAt
import Derived.Stop.Joined
import Derived.Test.YtnaaomhmoamfpaaDoorV
/- HanoiMetric: the row and its tied card. -/
namespace Go.Proofs.YtnaaomhmoamfpaaDoor.hanoiMetric
set_option linter.unusedVariables false
set_option linter.unusedSimpArgs false
set_option linter.unusedSectionVars false
open Go.ChangeShapes Go.WideShapes Go.ChangeAt Go.RowKit
open Go.ChangeMaps (open_string shut_string)
theorem own : ownKnob Tryd.prog.godebug = none := by kernel_rfl
theorem laidOut : laidOutB Tryd.prog = true := by kernel_rfl
def IsRow (k : IntKind) (w : World) (a : Option Addr) (len cap : Nat) (zs : List Int) : Prop :=
  (a = none ∧ len = 0 ∧ cap = 0 ∧ zs = []) ∨
  ∃ x, a = some x ∧ len ≤ cap ∧ cap ≤ maxLen ∧ zs.length = cap ∧ (∀ i, i < zs.length → w.cell? (x.add i) = some (.int k (zs.getD i 0))) ∧ ∀ n ∈ zs, (Lit.int k n).wf = true
theorem u59 : Tryd.prog.underlying 59 = some (.array 3 46) := by kernel_rfl
theorem arr3 {cs : Array Value} (h : cs.size = 3) : ∃ b0 b1 b2, Value.agg cs = .agg #[b0, b1, b2] := by
  refine ⟨cs[0], cs[1], cs[2], ?_⟩
  congr 1
  apply Array.ext
  · simp [h]
  · intro i h1 h2
    match i, h2 with
    | 0, _ | 1, _ | 2, _ => rfl
theorem row_of_trod {H : Type} {enc : TypeId × Value → H} {W : World} {n : Nat} {c : Value} {y : DataW H × List MemPlace} (hf : DataW.trod enc Tryd.prog W 0 (fun _ => true) true n 46 [c] = some y) : ∃ a len cap zs, c = .slice a len cap ∧ IsRow .i64 W a len cap zs := by
  rcases open_ints Tryd.underlying46 Tryd.underlying3 (by kernel_rfl) hf with ⟨hcs, _⟩ | ⟨x, l, c, zs, hcs, _, hl, hm, hz, _, hcell, hwz⟩
  · simp at hcs
    subst hcs
    exact ⟨none, 0, 0, [], rfl, .inl ⟨rfl, rfl, rfl, rfl⟩⟩
  · simp at hcs
    subst hcs
    exact ⟨some x, l, c, zs, rfl, .inr ⟨_, rfl, hl, hm, by simpa using hz, hcell, hwz⟩⟩
set_option maxRecDepth 100000 in
theorem lifted (os : Os) (started : os.Started) (H : Type) (enc : TypeId × Value → H) :
    ReturnsInHanded {} Tryd.checked os 18 .any (fun w args => (Rows.hanoiMetricSpec.pre enc Tryd.prog Tryd.f18 Rows.hanoiMetricRow.domain false w args ∧ laidMetH Tryd.prog [("unicode/utf8.acceptRanges", Rows.laid_unicode_utf8_acceptRanges), ("unicode/utf8.first", Rows.laid_unicode_utf8_first)] w) ∧ sizedMet enc Tryd.prog Tryd.f18 (OpenSpec.ofChange Rows.hanoiMetricSpec) false w args) (Rows.hanoiMetricSpec.post enc Tryd.prog Tryd.f18 false true false false) := by
  refine returnsInHanded_of_change_and (C := Tryd.checked) (X := fun w _ => laidMetH Tryd.prog [("unicode/utf8.acceptRanges", Rows.laid_unicode_utf8_acceptRanges), ("unicode/utf8.first", Rows.laid_unicode_utf8_first)] w) (fun _ _ _ hh h => h.of_heap hh) own started (by kernel_rfl) Tryd.func18
    (ChangeSpec.witness_shaped (enc := enc) (C := Tryd.checked) (os := os) (X := fun w _ => laidMetH Tryd.prog [("unicode/utf8.acceptRanges", Rows.laid_unicode_utf8_acceptRanges), ("unicode/utf8.first", Rows.laid_unicode_utf8_first)] w) false (World.laidAll Tryd.prog os [("unicode/utf8.acceptRanges", Rows.laid_unicode_utf8_acceptRanges), ("unicode/utf8.first", Rows.laid_unicode_utf8_first)]) #[.int .i64 0, .agg #[.slice none 0 0, .slice none 0 0, .slice none 0 0], .int .i64 0] 8 (World.laidAll_os _ _ _)
      (World.shaped_of_ZipB (by kernel_rfl) (by kernel_rfl)) (by kernel_rfl) (by kernel_rfl) (by kernel_rfl)
      (by rw [MakeChecks.laidMetH_plain _ _ _ (by kernel_rfl)]; exact laidMet_laidAll _ (by kernel_rfl) (by kernel_rfl))) ?_
  intro W base args ds gs before hval0 hW hcnd hsz0 _ _
  have hsz : (DataW.weightsEach Tryd.prog (Tryd.f18.params.toList ++ Rows.hanoiMetricSpec.plain.varTypes Tryd.prog) (ds ++ gs)).all (· ≤ reachBytes) = true := hsz0
  have hval : ∀ (j : Nat) t v, Tryd.f18.params[j]? = some t → args[j]? = some v → Value.okWide Tryd.prog W .any base t v := hval0
  have hW' := hW
  obtain ⟨p, q, hA0, hV, rfl, hfz, hnd⟩ := hW
  have hA : DataW.TrodAll enc Tryd.prog W 0 (fun _ => true) true Tryd.f18.params.toList args.toList ds p := hA0
  rw [Tryd.params18] at hA hval hsz
  obtain ⟨v0, vs0, d0, ds0, p0, q0, hargs, rfl, rfl, h0, r0⟩ := trodAll_cons hA
  obtain ⟨v1, vs1, d1, ds1, p1, q1, rfl, rfl, rfl, h1, r1⟩ := trodAll_cons r0
  obtain ⟨v2, vs2, d2, ds2, p2, q2, rfl, rfl, rfl, h2, r2⟩ := trodAll_cons r1
  obtain ⟨rfl, rfl, rfl⟩ := trodAll_nil r2
  obtain rfl : args = #[v0, v1, v2] := by cases args; simp_all
  obtain ⟨rfl, rfl⟩ := trodVars_none hV
  obtain ⟨a0, rfl, rfl, rfl, w0⟩ := open_int Tryd.underlying3 (hval 0 3 v0 rfl rfl) h0
  obtain ⟨b0, b1, b2, rfl⟩ : ∃ b0 b1 b2, v1 = .agg #[b0, b1, b2] := by
    have hv := hval 1 59 v1 rfl rfl
    simp only [Value.okWide, u59] at hv
    obtain ⟨cs, hc1, hc2, _⟩ := hv
    subst hc1
    exact arr3 (hc2.trans (by kernel_rfl))
  have k1 := h1
  have lt1 : ∀ x ∈ p1, x.block < W.heap.size := by obtain ⟨m, hm⟩ := k1; exact DataW.trod_lt m _ _ _ hm
  obtain ⟨A0, c0, m0, A1, c1, m1, A2, c2, m2, z0, z1, z2, rfl, rfl, rfl, y0, y1, y2⟩ : ∃ A0 c0 m0 A1 c1 m1 A2 c2 m2 z0 z1 z2, b0 = .slice A0 m0 c0 ∧ b1 = .slice A1 m1 c1 ∧ b2 = .slice A2 m2 c2 ∧ IsRow .i64 W A0 m0 c0 z0 ∧ IsRow .i64 W A1 m1 c1 z1 ∧ IsRow .i64 W A2 m2 c2 z2 := by
    obtain ⟨fuel, hf⟩ := h1
    obtain ⟨y0, y1, y2, n, _, g0, g1, g2⟩ := trod_array3 u59 (by kernel_rfl) (show DataW.trod enc Tryd.prog W 0 (fun _ => true) true fuel 59 [b0, b1, b2] = some _ from hf)
    obtain ⟨A0, m0, c0, z0, e0, r0⟩ := row_of_trod g0
    obtain ⟨A1, m1, c1, z1, e1, r1⟩ := row_of_trod g1
    obtain ⟨A2, m2, c2, z2, e2, r2⟩ := row_of_trod g2
    exact ⟨A0, c0, m0, A1, c1, m1, A2, c2, m2, z0, z1, z2, e0, e1, e2, r0, r1, r2⟩
  obtain ⟨a2, rfl, rfl, rfl, w2⟩ := open_int Tryd.underlying3 (hval 2 3 v2 rfl rfl) h2
  clear hA0 hval0 hsz0 hsz
  refine (Pure.HanoiMetric a0 A0 m0 c0 z0 A1 m1 c1 z1 A2 m2 c2 z2 a2 W y0 y1 y2).mono fun e W' ⟨he, bel⟩ => ?_
  subst he
  exact ⟨_, rfl, _, _, _, [], _, [], hW', trodAll_mk1 (shut_bool Tryd.underlying4 _), (trodAll_cons_mk (shut_int Tryd.underlying3 w0) (trodAll_cons_mk (Below.trod laidOut (by kernel_rfl) (of_decide_eq_true (by kernel_rfl)) k1 bel lt1) (trodAll_cons_mk (shut_int Tryd.underlying3 w2) trodAll_mk0))), rfl, bel.frame _, fun h => by cases h⟩
theorem over : Rows.hanoiMetricRow.holds Tryd.pinned (OpenSpec.ofChange Rows.hanoiMetricSpec) :=
  OpenClaim.holds_of_wide 18 Tryd.f18 rfl rfl rfl rfl rfl rfl rfl ⟨rfl, rfl, rfl, rfl, rfl⟩ rfl rfl rfl rfl rfl cName Tryd.func18 closed
    (of_decide_eq_true (by kernel_rfl)) (by unfold Func.isWrapper; first | (rw [if_pos (by decide +kernel)]; kernel_rfl) | (rw [if_neg (by decide +kernel)]; exact ⟨rfl, rfl⟩))
    (fun os started H enc _ => lifted os started H enc)
theorem proved : Rows.HanoiMetricSaid := over
theorem card : Rows.HanoiMetricCardSaid :=
  Claim7.holds_tied_plain_at .later [] [.data, .pinned] true (true, "0b7658f01de11f64729abe891a45aecbcd4033d7a27c0b02aab61465db0a64af") false proved (fun _ h => by cases h) cWf (fun _ h => by cases h) hanoiMetric_row_tie rfl ⟨rfl, rfl⟩ cMain rfl
    (fun f fn hf hfn => by
      obtain rfl : f = 18 := Option.some.inj (cName.symm.trans hf) |>.symm
      obtain rfl : fn = Tryd.f18 := (Option.some.inj (Tryd.func18.symm.trans hfn)).symm
      exact ⟨cLooks, fun j t ht => by
        rw [Tryd.params18] at ht
        have hm : t ∈ [3, 59, 3] := by simpa using Array.mem_of_getElem? ht
        simpa using List.all_eq_true.1 cAll t hm⟩)
    cGoes
end Go.Proofs.YtnaaomhmoamfpaaDoor.hanoiMetric
namespace Go.Proofs.YtnaaomhmoamfpaaDoor
set_option linter.unusedVariables false
set_option linter.unusedSimpArgs false
set_option linter.unusedSectionVars false
theorem hanoiMetric_card : Rows.HanoiMetricCardSaid := hanoiMetric.card
#print axioms hanoiMetric_card
end Go.Proofs.YtnaaomhmoamfpaaDoor
