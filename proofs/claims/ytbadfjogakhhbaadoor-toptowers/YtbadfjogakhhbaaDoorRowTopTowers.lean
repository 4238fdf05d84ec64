/- TopTowers: a tower of pancakes that is a stack with larger ones below it, in their order, needs no more flips than the stack, and the stack no more than the worst; discs that stay at their place change no distance. Proved for every input, at the variables that the row lists as the program lays them; the row and its tied card. -/
import Derived.Test.YtbadfjogakhhbaaDoorT6
import Derived.WalkKit
import Derived.ProofKit
import Derived.OpenShut
import Derived.ShutString
import Derived.ChangeOld
import Derived.Below
import Derived.SizedLaws
import Derived.Test.YtbadfjogakhhbaaDoorTie
import Derived.Test.YtbadfjogakhhbaaDoorCards
import Derived.Test.YtbadfjogakhhbaaDoorClTopTowers
import Derived.LaidMore
import Derived.Lay
import Derived.SevenTiedAt
import Derived.Stop.Joined
import Derived.Carry
namespace Go.Proofs.YtbadfjogakhhbaaDoor.topTowers
set_option linter.unusedVariables false
set_option linter.unusedSimpArgs false
set_option linter.unusedSectionVars false
open Go.ChangeShapes Go.WideShapes Go.ChangeAt Go.RowKit
open Go.ChangeMaps (open_string shut_string)
theorem own : ownKnob Tryd.prog.godebug = none := by kernel_rfl
theorem laidOut : laidOutB Tryd.prog = true := by kernel_rfl
theorem okWide_cell {Q : Program} {w : World} {r : Reach} {base : Nat} {t : TypeId} {k : IntKind} {v : Value} (hu : Q.underlying t = some (.int k)) (h : Cell.okWide Q w r base t v) : Value.okWide Q w r base t v := by
  unfold Value.okWide
  rw [hu]
  exact h
set_option maxRecDepth 100000 in
theorem arrOf2 {w : World} {r : Reach} {base : Nat} {v : Value} (h : Value.okWide Tryd.prog w r base 23 v) : ∃ x0 x1, v = .agg #[.int .i64 x0, .int .i64 x1] := by
  have uA : Tryd.prog.underlying 23 = some (.array 2 3) := by kernel_rfl
  have cA : Tryd.prog.cellsOf 23 = 2 := by kernel_rfl
  simp only [Value.okWide, uA] at h
  obtain ⟨cs, rfl, hs, ts, hts, _, hc⟩ := h
  have e1 : Tryd.prog.cellTypes Tryd.prog.depth 23 = some [3, 3] := by kernel_rfl
  rw [e1] at hts
  obtain rfl := Option.some.inj hts
  have hs2 : cs.size = 2 := hs.trans cA
  obtain ⟨u0, f0, k0⟩ := hc 0 cs[0] (Array.getElem?_eq_getElem _)
  obtain rfl : u0 = 3 := (Option.some.inj f0).symm
  obtain ⟨x0, hx0⟩ := okWide_int Tryd.underlying3 (okWide_cell Tryd.underlying3 k0)
  obtain ⟨u1, f1, k1⟩ := hc 1 cs[1] (Array.getElem?_eq_getElem _)
  obtain rfl : u1 = 3 := (Option.some.inj f1).symm
  obtain ⟨x1, hx1⟩ := okWide_int Tryd.underlying3 (okWide_cell Tryd.underlying3 k1)
  refine ⟨x0, x1, ?_⟩
  congr 1
  apply Array.ext
  · simp [hs2]
  · intro i h1 h2
    match i, h2 with
    | 0, _ => exact hx0
    | 1, _ => exact hx1
set_option maxRecDepth 100000 in
theorem lifted (os : Os) (started : os.Started) (H : Type) (enc : TypeId × Value → H) :
    ReturnsInHanded {} Tryd.checked os 3 .any (fun w args => (Rows.topTowersSpec.pre enc Tryd.prog Tryd.f3 Rows.topTowersRow.domain false w args ∧ laidMetH Tryd.prog [("math/bits.deBruijn32tab", Rows.laid_math_bits_deBruijn32tab), ("math/bits.deBruijn64tab", Rows.laid_math_bits_deBruijn64tab), ("bibelot/magic.six", Rows.laid_bibelot_magic_six)] w) ∧ sizedMet enc Tryd.prog Tryd.f3 (OpenSpec.ofChange Rows.topTowersSpec) false w args) (Rows.topTowersSpec.post enc Tryd.prog Tryd.f3 false true false false) := by
  refine returnsInHanded_of_change_and (C := Tryd.checked) (X := fun w _ => laidMetH Tryd.prog [("math/bits.deBruijn32tab", Rows.laid_math_bits_deBruijn32tab), ("math/bits.deBruijn64tab", Rows.laid_math_bits_deBruijn64tab), ("bibelot/magic.six", Rows.laid_bibelot_magic_six)] w) (fun _ _ _ hh h => h.of_heap hh) own started (by kernel_rfl) Tryd.func3
    (ChangeSpec.witness_shaped (enc := enc) (C := Tryd.checked) (os := os) (X := fun w _ => laidMetH Tryd.prog [("math/bits.deBruijn32tab", Rows.laid_math_bits_deBruijn32tab), ("math/bits.deBruijn64tab", Rows.laid_math_bits_deBruijn64tab), ("bibelot/magic.six", Rows.laid_bibelot_magic_six)] w) false (World.laidAll Tryd.prog os [("math/bits.deBruijn32tab", Rows.laid_math_bits_deBruijn32tab), ("math/bits.deBruijn64tab", Rows.laid_math_bits_deBruijn64tab), ("bibelot/magic.six", Rows.laid_bibelot_magic_six)]) #[.slice none 0 0, .agg #[.int .i64 0, .int .i64 0]] 8 (World.laidAll_os _ _ _)
      (World.shaped_of_ZipB (by kernel_rfl) (by kernel_rfl)) (by kernel_rfl) (by kernel_rfl) (by kernel_rfl)
      (by rw [MakeChecks.laidMetH_plain _ _ _ (by kernel_rfl)]; exact laidMet_laidAll _ (by kernel_rfl) (by kernel_rfl))) ?_
  intro W base args ds gs before hval0 hW hcnd hsz0 hlaid _
  have hsz : (DataW.weightsEach Tryd.prog (Tryd.f3.params.toList ++ Rows.topTowersSpec.plain.varTypes Tryd.prog) (ds ++ gs)).all (· ≤ reachBytes) = true := hsz0
  have hval : ∀ (j : Nat) t v, Tryd.f3.params[j]? = some t → args[j]? = some v → Value.okWide Tryd.prog W .any base t v := hval0
  have hW' := hW
  obtain ⟨p, q, hA0, hV, rfl, hfz, hnd⟩ := hW
  have hA : DataW.TrodAll enc Tryd.prog W 0 (fun _ => true) true Tryd.f3.params.toList args.toList ds p := hA0
  rw [Tryd.params3] at hA hval hsz
  obtain ⟨v0, vs0, d0, ds0, p0, q0, hargs, rfl, rfl, h0, r0⟩ := trodAll_cons hA
  obtain ⟨v1, vs1, d1, ds1, p1, q1, rfl, rfl, rfl, h1, r1⟩ := trodAll_cons r0
  obtain ⟨rfl, rfl, rfl⟩ := trodAll_nil r1
  obtain rfl : args = #[v0, v1] := by cases args; simp_all
  obtain ⟨rfl, rfl⟩ := trodVars_none hV
  have k0 := h0
  have lt0 : ∀ x ∈ p0, x.block < W.heap.size := by obtain ⟨m, hm⟩ := k0; exact DataW.trod_lt m _ _ _ hm
  obtain ⟨a0, len0, cap0, rfl⟩ := okWide_slice Tryd.underlying22 (hval 0 22 v0 rfl rfl)
  have k1 := h1
  have lt1 : ∀ x ∈ p1, x.block < W.heap.size := by obtain ⟨m, hm⟩ := k1; exact DataW.trod_lt m _ _ _ hm
  obtain ⟨a1_0, a1_1, rfl⟩ := arrOf2 (hval 1 23 v1 rfl rfl)
  clear hA0 hval0 hsz0 hsz
  refine (Re.towers_calls a0 len0 cap0 a1_0 a1_1 W hlaid k0).mono fun e W' ⟨he, bel⟩ => ?_
  subst he
  exact ⟨_, rfl, _, _, _, [], _, [], hW', trodAll_mk1 (shut_bool Tryd.underlying4 _), (trodAll_cons_mk (Below.trod laidOut (by kernel_rfl) (of_decide_eq_true (by kernel_rfl)) k0 bel lt0) (trodAll_cons_mk (Below.trod laidOut (by kernel_rfl) (of_decide_eq_true (by kernel_rfl)) k1 bel lt1) trodAll_mk0)), rfl, bel.frame _, fun h => by cases h⟩
theorem over : Rows.topTowersRow.holds Tryd.pinned (OpenSpec.ofChange Rows.topTowersSpec) :=
  OpenClaim.holds_of_wide 3 Tryd.f3 rfl rfl rfl rfl rfl rfl rfl ⟨rfl, rfl, rfl, rfl, rfl⟩ rfl rfl rfl rfl rfl cName Tryd.func3 closed
    (of_decide_eq_true (by kernel_rfl)) (by unfold Func.isWrapper; first | (rw [if_pos (by decide +kernel)]; kernel_rfl) | (rw [if_neg (by decide +kernel)]; exact ⟨rfl, rfl⟩))
    (fun os started H enc _ => lifted os started H enc)
theorem proved : Rows.TopTowersSaid := over
theorem card : Rows.TopTowersCardSaid :=
  Claim7.holds_tied_plain_at .later [] [.data, .data, .data] true (true, "048e0f6cb7eab0441e063d06811842b16294de3c252ae3aa35d793dd4bbfeadb") false proved (fun _ h => by cases h) cWf (fun _ h => by cases h) topTowers_row_tie rfl ⟨rfl, rfl⟩ cMain rfl
    (fun f fn hf hfn => by
      obtain rfl : f = 3 := Option.some.inj (cName.symm.trans hf) |>.symm
      obtain rfl : fn = Tryd.f3 := (Option.some.inj (Tryd.func3.symm.trans hfn)).symm
      exact ⟨cLooks, fun j t ht => by
        rw [Tryd.params3] at ht
        have hm : t ∈ [22, 23] := by simpa using Array.mem_of_getElem? ht
        simpa using List.all_eq_true.1 cAll t hm⟩)
    cGoes
end Go.Proofs.YtbadfjogakhhbaaDoor.topTowers
namespace Go.Proofs.YtbadfjogakhhbaaDoor
theorem topTowers_card : Rows.TopTowersCardSaid := topTowers.card
#print axioms topTowers_card
end Go.Proofs.YtbadfjogakhhbaaDoor
