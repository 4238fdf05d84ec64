/- TopRings: what was bought when each buys all it has of a good that is cheap to another one: two dice of two faces as prices have a ring just if each is dearer, for the own good, than the other one by more than the prices tell. Proved for every input, at the variables that the row lists as the program lays them; the row and its tied card. -/
import Derived.Test.YtbadfjogakhhbaaGreatDoorE31
import Derived.WalkKit
import Derived.ProofKit
import Derived.OpenShut
import Derived.ShutString
import Derived.ChangeOld
import Derived.Below
import Derived.SizedLaws
import Derived.Test.YtbadfjogakhhbaaGreatDoorTie
import Derived.Test.YtbadfjogakhhbaaGreatDoorCards
import Derived.Test.YtbadfjogakhhbaaGreatDoorClTopRings
import Derived.LaidMore
import Derived.Lay
import Derived.SevenTiedAt
import Derived.Stop.Joined
import Derived.Carry
namespace Go.Proofs.YtbadfjogakhhbaaGreatDoor.topRings
set_option linter.unusedVariables false
set_option linter.unusedSimpArgs false
set_option linter.unusedSectionVars false
open Go.ChangeShapes Go.WideShapes Go.ChangeAt Go.RowKit
open Go.ChangeMaps (open_string shut_string)
theorem own : ownKnob Tryz.prog.godebug = none := by kernel_rfl
theorem laidOut : laidOutB Tryz.prog = true := by kernel_rfl
theorem okWide_cell {Q : Program} {w : World} {r : Reach} {base : Nat} {t : TypeId} {k : IntKind} {v : Value} (hu : Q.underlying t = some (.int k)) (h : Cell.okWide Q w r base t v) : Value.okWide Q w r base t v := by
  unfold Value.okWide
  rw [hu]
  exact h
set_option maxRecDepth 100000 in
theorem arrOf4 {w : World} {r : Reach} {base : Nat} {v : Value} (h : Value.okWide Tryz.prog w r base 39 v) : ∃ x0 x1 x2 x3, v = .agg #[.int .i64 x0, .int .i64 x1, .int .i64 x2, .int .i64 x3] := by
  have uA : Tryz.prog.underlying 39 = some (.array 4 3) := by kernel_rfl
  have cA : Tryz.prog.cellsOf 39 = 4 := by kernel_rfl
  simp only [Value.okWide, uA] at h
  obtain ⟨cs, rfl, hs, ts, hts, _, hc⟩ := h
  have e1 : Tryz.prog.cellTypes Tryz.prog.depth 39 = some [3, 3, 3, 3] := by kernel_rfl
  rw [e1] at hts
  obtain rfl := Option.some.inj hts
  have hs2 : cs.size = 4 := hs.trans cA
  obtain ⟨u0, f0, k0⟩ := hc 0 cs[0] (Array.getElem?_eq_getElem _)
  obtain rfl : u0 = 3 := (Option.some.inj f0).symm
  obtain ⟨x0, hx0⟩ := okWide_int Tryz.underlying3 (okWide_cell Tryz.underlying3 k0)
  obtain ⟨u1, f1, k1⟩ := hc 1 cs[1] (Array.getElem?_eq_getElem _)
  obtain rfl : u1 = 3 := (Option.some.inj f1).symm
  obtain ⟨x1, hx1⟩ := okWide_int Tryz.underlying3 (okWide_cell Tryz.underlying3 k1)
  obtain ⟨u2, f2, k2⟩ := hc 2 cs[2] (Array.getElem?_eq_getElem _)
  obtain rfl : u2 = 3 := (Option.some.inj f2).symm
  obtain ⟨x2, hx2⟩ := okWide_int Tryz.underlying3 (okWide_cell Tryz.underlying3 k2)
  obtain ⟨u3, f3, k3⟩ := hc 3 cs[3] (Array.getElem?_eq_getElem _)
  obtain rfl : u3 = 3 := (Option.some.inj f3).symm
  obtain ⟨x3, hx3⟩ := okWide_int Tryz.underlying3 (okWide_cell Tryz.underlying3 k3)
  refine ⟨x0, x1, x2, x3, ?_⟩
  congr 1
  apply Array.ext
  · simp [hs2]
  · intro i h1 h2
    match i, h2 with
    | 0, _ => exact hx0
    | 1, _ => exact hx1
    | 2, _ => exact hx2
    | 3, _ => exact hx3
set_option maxRecDepth 100000 in
theorem lifted (os : Os) (started : os.Started) (H : Type) (enc : TypeId × Value → H) :
    ReturnsInHanded {} Tryz.checked os 4 .any (fun w args => (Rows.topRingsSpec.pre enc Tryz.prog Tryz.f4 Rows.topRingsRow.domain false w args ∧ laidMetH Tryz.prog [("math/bits.deBruijn32tab", Rows.laid_math_bits_deBruijn32tab), ("math/bits.deBruijn64tab", Rows.laid_math_bits_deBruijn64tab), ("bibelot/magic.six", Rows.laid_bibelot_magic_six), ("bibelot/price.whole", Rows.laid_bibelot_price_whole)] w) ∧ sizedMet enc Tryz.prog Tryz.f4 (OpenSpec.ofChange Rows.topRingsSpec) false w args) (Rows.topRingsSpec.post enc Tryz.prog Tryz.f4 false true false false) := by
  refine returnsInHanded_of_change_and (C := Tryz.checked) (X := fun w _ => laidMetH Tryz.prog [("math/bits.deBruijn32tab", Rows.laid_math_bits_deBruijn32tab), ("math/bits.deBruijn64tab", Rows.laid_math_bits_deBruijn64tab), ("bibelot/magic.six", Rows.laid_bibelot_magic_six), ("bibelot/price.whole", Rows.laid_bibelot_price_whole)] w) (fun _ _ _ hh h => h.of_heap hh) own started (by kernel_rfl) Tryz.func4
    (ChangeSpec.witness_shaped (enc := enc) (C := Tryz.checked) (os := os) (X := fun w _ => laidMetH Tryz.prog [("math/bits.deBruijn32tab", Rows.laid_math_bits_deBruijn32tab), ("math/bits.deBruijn64tab", Rows.laid_math_bits_deBruijn64tab), ("bibelot/magic.six", Rows.laid_bibelot_magic_six), ("bibelot/price.whole", Rows.laid_bibelot_price_whole)] w) false (World.laidAll Tryz.prog os [("math/bits.deBruijn32tab", Rows.laid_math_bits_deBruijn32tab), ("math/bits.deBruijn64tab", Rows.laid_math_bits_deBruijn64tab), ("bibelot/magic.six", Rows.laid_bibelot_magic_six), ("bibelot/price.whole", Rows.laid_bibelot_price_whole)]) #[.agg #[.int .i64 0, .int .i64 0, .int .i64 0, .int .i64 0]] 8 (World.laidAll_os _ _ _)
      (World.shaped_of_ZipB (by kernel_rfl) (by kernel_rfl)) (by kernel_rfl) (by kernel_rfl) (by kernel_rfl)
      (by rw [MakeChecks.laidMetH_plain _ _ _ (by kernel_rfl)]; exact laidMet_laidAll _ (by kernel_rfl) (by kernel_rfl))) ?_
  intro W base args ds gs before hval0 hW hcnd hsz0 hlaid _
  have hsz : (DataW.weightsEach Tryz.prog (Tryz.f4.params.toList ++ Rows.topRingsSpec.plain.varTypes Tryz.prog) (ds ++ gs)).all (· ≤ reachBytes) = true := hsz0
  have hval : ∀ (j : Nat) t v, Tryz.f4.params[j]? = some t → args[j]? = some v → Value.okWide Tryz.prog W .any base t v := hval0
  have hW' := hW
  obtain ⟨p, q, hA0, hV, rfl, hfz, hnd⟩ := hW
  have hA : DataW.TrodAll enc Tryz.prog W 0 (fun _ => true) true Tryz.f4.params.toList args.toList ds p := hA0
  rw [Tryz.params4] at hA hval hsz
  obtain ⟨v0, vs0, d0, ds0, p0, q0, hargs, rfl, rfl, h0, r0⟩ := trodAll_cons hA
  obtain ⟨rfl, rfl, rfl⟩ := trodAll_nil r0
  obtain rfl : args = #[v0] := by cases args; simp_all
  obtain ⟨rfl, rfl⟩ := trodVars_none hV
  have k0 := h0
  have lt0 : ∀ x ∈ p0, x.block < W.heap.size := by obtain ⟨m, hm⟩ := k0; exact DataW.trod_lt m _ _ _ hm
  obtain ⟨a0_0, a0_1, a0_2, a0_3, rfl⟩ := arrOf4 (hval 0 39 v0 rfl rfl)
  clear hA0 hval0 hsz0 hsz
  refine (Re.rings_calls a0_0 a0_1 a0_2 a0_3 W hlaid).mono fun e W' ⟨he, bel⟩ => ?_
  subst he
  exact ⟨_, rfl, _, _, _, [], _, [], hW', trodAll_mk1 (shut_bool Tryz.underlying4 _), (trodAll_cons_mk (Below.trod laidOut (by kernel_rfl) (of_decide_eq_true (by kernel_rfl)) k0 bel lt0) trodAll_mk0), rfl, bel.frame _, fun h => by cases h⟩
theorem over : Rows.topRingsRow.holds Tryz.pinned (OpenSpec.ofChange Rows.topRingsSpec) :=
  OpenClaim.holds_of_wide 4 Tryz.f4 rfl rfl rfl rfl rfl rfl rfl ⟨rfl, rfl, rfl, rfl, rfl⟩ rfl rfl rfl rfl rfl cName Tryz.func4 closed
    (of_decide_eq_true (by kernel_rfl)) (by unfold Func.isWrapper; first | (rw [if_pos (by decide +kernel)]; kernel_rfl) | (rw [if_neg (by decide +kernel)]; exact ⟨rfl, rfl⟩))
    (fun os started H enc _ => lifted os started H enc)
theorem proved : Rows.TopRingsSaid := over
theorem card : Rows.TopRingsCardSaid :=
  Claim7.holds_tied_plain_at .later [] [.data, .data, .data, .data] true (true, "c51cf9616c895de041ef5aa51cee2da50cfcf707751b80e5883434578698372b") false proved (fun _ h => by cases h) cWf (fun _ h => by cases h) topRings_row_tie rfl ⟨rfl, rfl⟩ cMain rfl
    (fun f fn hf hfn => by
      obtain rfl : f = 4 := Option.some.inj (cName.symm.trans hf) |>.symm
      obtain rfl : fn = Tryz.f4 := (Option.some.inj (Tryz.func4.symm.trans hfn)).symm
      exact ⟨cLooks, fun j t ht => by
        rw [Tryz.params4] at ht
        have hm : t ∈ [39] := by simpa using Array.mem_of_getElem? ht
        simpa using List.all_eq_true.1 cAll t hm⟩)
    cGoes
end Go.Proofs.YtbadfjogakhhbaaGreatDoor.topRings
namespace Go.Proofs.YtbadfjogakhhbaaGreatDoor
theorem topRings_card : Rows.TopRingsCardSaid := topRings.card
#print axioms topRings_card
end Go.Proofs.YtbadfjogakhhbaaGreatDoor
