/- PancakeFlips: the stack, and the burnt stack, after any flip, or ErrArg, and the gaps: the walk and the plain law, for every input. -/
import Derived.Test.YtepjhdblmghckaaA1
import Derived.Test.YtepjhdblmghckaaA2
import Derived.Test.YtepjhdblmghckaaA3
import Derived.Test.YtepjhdblmghckaaA4
namespace Go.Proofs.Ytepjhdblmghckaa.G
end Go.Proofs.Ytepjhdblmghckaa.G
namespace Go.Proofs.Ytepjhdblmghckaa.Q
set_option linter.unusedVariables false
set_option linter.unusedSimpArgs false
set_option linter.unusedSectionVars false
open Go.Proofs.Ytepjhdblmghckaa.G
open Go.RowKit Go.Proofs.YtepjhdblmghckaaW.PrintWords Go.Proofs.YtepjhdblmghckaaW.PrintLast Go.Proofs.YtepjhdblmghckaaW.PrintMore
attribute [local go_sem] max2_int min2_int max_two min_two max_three min_three max_four min_four   -- for this text's walks alone

/-! ### bibelotlaw07_PancakeFlips: function 5 -/
mutual
def bibelotlaw07_PancakeFlips.j0 : Nat → Int → List Int → List Int → Bool → Option (Bool)
  | 0, _, _, _, _ => none
  | k + 1, x2, x7, x8, x36 => if x36 = true then (some false) else (bibelotlaw07_PancakeFlips.l0 k x2 x7 x8 0)
def bibelotlaw07_PancakeFlips.l0 : Nat → Int → List Int → List Int → Int → Option (Bool)
  | 0, _, _, _, _ => none
  | k + 1, x2, x7, x8, x11 => if x11 < 2 then ((pancake_Flip.f k x7 x2).bind fun bt276 => ((pancake_FlipBurnt.f k x8 x2).bind fun bt280 => (if x2 < 1 then (bibelotlaw07_PancakeFlips.j2 k x2 x7 x8 x11 bt276.1 bt276.2 bt280.1 bt280.2 true) else (bibelotlaw07_PancakeFlips.j2 k x2 x7 x8 x11 bt276.1 bt276.2 bt280.1 bt280.2 (decide (x2 > (x7.length : Int))))))) else ((bibelotlaw07_awake.f).bind fun t275 => (some t275))
def bibelotlaw07_PancakeFlips.j2 : Nat → Int → List Int → List Int → Int → List Int → Int → List Int → Int → Bool → Option (Bool)
  | 0, _, _, _, _, _, _, _, _, _ => none
  | k + 1, x2, x7, x8, x11, x12, x13, x14, x15, x60 => if x60 = true then (if x13 = 1 then (if (x12.length : Int) = 0 then (bibelotlaw07_PancakeFlips.j3 k x2 x7 x8 x11 x14 x15) else (some false)) else (some false)) else (if x13 = 0 then ((bibelotref07_Flip.f k x7 x2 false).bind fun t284 => ((bibelotlaw07_ints.f k x12 t284).bind fun t287 => (if t287 = true then (bibelotlaw07_PancakeFlips.j3 k x2 x7 x8 x11 x14 x15) else (some false)))) else (some false))
def bibelotlaw07_PancakeFlips.j3 : Nat → Int → List Int → List Int → Int → List Int → Int → Option (Bool)
  | 0, _, _, _, _, _, _ => none
  | k + 1, x2, x7, x8, x11, x14, x15 => if x2 < 1 then (bibelotlaw07_PancakeFlips.j4 k x2 x7 x8 x11 x14 x15 true) else (bibelotlaw07_PancakeFlips.j4 k x2 x7 x8 x11 x14 x15 (decide (x2 > (x8.length : Int))))
def bibelotlaw07_PancakeFlips.j4 : Nat → Int → List Int → List Int → Int → List Int → Int → Bool → Option (Bool)
  | 0, _, _, _, _, _, _, _ => none
  | k + 1, x2, x7, x8, x11, x14, x15, x85 => if x85 = true then (if x15 = 1 then (if (x14.length : Int) = 0 then ((bibelotlaw07_many.f x2 (x8.length : Int)).bind fun t288 => (bibelotlaw07_PancakeFlips.l0 k t288 x7 x8 (wrap64 (x11 + 1)))) else (some false)) else (some false)) else (if x15 = 0 then ((bibelotref07_Flip.f k x8 x2 true).bind fun t289 => ((bibelotlaw07_ints.f k x14 t289).bind fun t292 => (if t292 = true then ((bibelotlaw07_many.f x2 (x8.length : Int)).bind fun t293 => (bibelotlaw07_PancakeFlips.l0 k t293 x7 x8 (wrap64 (x11 + 1)))) else (some false)))) else (some false))
end
def bibelotlaw07_PancakeFlips.f (k : Nat) (a0 : Int) (l1 : List Int) (a2 : Int) : Option (Bool) := (bibelotlaw07_many.f a0 7).bind fun t264 => ((bibelotlaw07_row.f l1 t264 false).bind fun t265 => ((bibelotlaw07_many.f a0 6).bind fun t268 => ((bibelotlaw07_row.f l1 t268 true).bind fun t269 => ((pancake_Gaps.f k t265).bind fun bt272 => (if bt272.2 = 0 then ((bibelotref07_Gaps.f k t265).bind fun t274 => (bibelotlaw07_PancakeFlips.j0 k a2 t265 t269 (bt272.1 != t274))) else (bibelotlaw07_PancakeFlips.j0 k a2 t265 t269 true))))))
theorem bibelotlaw07_PancakeFlips.mono_l : ∀ k, (∀ y0 y1 y2 y3, LeO (bibelotlaw07_PancakeFlips.j0 k y0 y1 y2 y3) (bibelotlaw07_PancakeFlips.j0 (k + 1) y0 y1 y2 y3)) ∧ (∀ y0 y1 y2 y3, LeO (bibelotlaw07_PancakeFlips.l0 k y0 y1 y2 y3) (bibelotlaw07_PancakeFlips.l0 (k + 1) y0 y1 y2 y3)) ∧ (∀ y0 y1 y2 y3 y4 y5 y6 y7 y8, LeO (bibelotlaw07_PancakeFlips.j2 k y0 y1 y2 y3 y4 y5 y6 y7 y8) (bibelotlaw07_PancakeFlips.j2 (k + 1) y0 y1 y2 y3 y4 y5 y6 y7 y8)) ∧ (∀ y0 y1 y2 y3 y4 y5, LeO (bibelotlaw07_PancakeFlips.j3 k y0 y1 y2 y3 y4 y5) (bibelotlaw07_PancakeFlips.j3 (k + 1) y0 y1 y2 y3 y4 y5)) ∧ (∀ y0 y1 y2 y3 y4 y5 y6, LeO (bibelotlaw07_PancakeFlips.j4 k y0 y1 y2 y3 y4 y5 y6) (bibelotlaw07_PancakeFlips.j4 (k + 1) y0 y1 y2 y3 y4 y5 y6))
  | 0 => ⟨fun _ _ _ _ r h => by simp [bibelotlaw07_PancakeFlips.j0] at h, fun _ _ _ _ r h => by simp [bibelotlaw07_PancakeFlips.l0] at h, fun _ _ _ _ _ _ _ _ _ r h => by simp [bibelotlaw07_PancakeFlips.j2] at h, fun _ _ _ _ _ _ r h => by simp [bibelotlaw07_PancakeFlips.j3] at h, fun _ _ _ _ _ _ _ r h => by simp [bibelotlaw07_PancakeFlips.j4] at h⟩
  | k + 1 => by
    obtain ⟨ih0, ih1, ih2, ih3, ih4⟩ := bibelotlaw07_PancakeFlips.mono_l k
    refine ⟨?_, ?_, ?_, ?_, ?_⟩
    · intro y0 y1 y2 y3
      unfold bibelotlaw07_PancakeFlips.j0
      repeat' first
      | (with_reducible exact ih0 _ _ _ _)
      | (with_reducible exact ih1 _ _ _ _)
      | (with_reducible exact ih2 _ _ _ _ _ _ _ _ _)
      | (with_reducible exact ih3 _ _ _ _ _ _)
      | (with_reducible exact ih4 _ _ _ _ _ _ _)
      | (with_reducible exact bibelotlaw07_ints.mono _ _ _)
      | (with_reducible exact bibelotref07_Flip.mono _ _ _ _)
      | (with_reducible exact bibelotref07_Gaps.mono _ _)
      | (with_reducible exact pancake_Flip.mono _ _ _)
      | (with_reducible exact pancake_FlipBurnt.mono _ _ _)
      | (with_reducible exact pancake_Gaps.mono _ _)
      | (with_reducible exact LeO.refl _)
      | (with_reducible exact LeO.none _)
      | (with_reducible refine LeO.ite ?_ ?_)
      | (with_reducible refine LeO.bind ?_ (fun _ => ?_))
      | exact ih0 _ _ _ _
      | exact ih1 _ _ _ _
      | exact ih2 _ _ _ _ _ _ _ _ _
      | exact ih3 _ _ _ _ _ _
      | exact ih4 _ _ _ _ _ _ _
      | exact bibelotlaw07_ints.mono _ _ _
      | exact bibelotref07_Flip.mono _ _ _ _
      | exact bibelotref07_Gaps.mono _ _
      | exact pancake_Flip.mono _ _ _
      | exact pancake_FlipBurnt.mono _ _ _
      | exact pancake_Gaps.mono _ _
      | exact LeO.none _
      | refine LeO.ite ?_ ?_
      | refine LeO.bind ?_ (fun _ => ?_)
    · intro y0 y1 y2 y3
      unfold bibelotlaw07_PancakeFlips.l0
      repeat' first
      | (with_reducible exact ih0 _ _ _ _)
      | (with_reducible exact ih1 _ _ _ _)
      | (with_reducible exact ih2 _ _ _ _ _ _ _ _ _)
      | (with_reducible exact ih3 _ _ _ _ _ _)
      | (with_reducible exact ih4 _ _ _ _ _ _ _)
      | (with_reducible exact bibelotlaw07_ints.mono _ _ _)
      | (with_reducible exact bibelotref07_Flip.mono _ _ _ _)
      | (with_reducible exact bibelotref07_Gaps.mono _ _)
      | (with_reducible exact pancake_Flip.mono _ _ _)
      | (with_reducible exact pancake_FlipBurnt.mono _ _ _)
      | (with_reducible exact pancake_Gaps.mono _ _)
      | (with_reducible exact LeO.refl _)
      | (with_reducible exact LeO.none _)
      | (with_reducible refine LeO.ite ?_ ?_)
      | (with_reducible refine LeO.bind ?_ (fun _ => ?_))
      | exact ih0 _ _ _ _
      | exact ih1 _ _ _ _
      | exact ih2 _ _ _ _ _ _ _ _ _
      | exact ih3 _ _ _ _ _ _
      | exact ih4 _ _ _ _ _ _ _
      | exact bibelotlaw07_ints.mono _ _ _
      | exact bibelotref07_Flip.mono _ _ _ _
      | exact bibelotref07_Gaps.mono _ _
      | exact pancake_Flip.mono _ _ _
      | exact pancake_FlipBurnt.mono _ _ _
      | exact pancake_Gaps.mono _ _
      | exact LeO.none _
      | refine LeO.ite ?_ ?_
      | refine LeO.bind ?_ (fun _ => ?_)
    · intro y0 y1 y2 y3 y4 y5 y6 y7 y8
      unfold bibelotlaw07_PancakeFlips.j2
      repeat' first
      | (with_reducible exact ih0 _ _ _ _)
      | (with_reducible exact ih1 _ _ _ _)
      | (with_reducible exact ih2 _ _ _ _ _ _ _ _ _)
      | (with_reducible exact ih3 _ _ _ _ _ _)
      | (with_reducible exact ih4 _ _ _ _ _ _ _)
      | (with_reducible exact bibelotlaw07_ints.mono _ _ _)
      | (with_reducible exact bibelotref07_Flip.mono _ _ _ _)
      | (with_reducible exact bibelotref07_Gaps.mono _ _)
      | (with_reducible exact pancake_Flip.mono _ _ _)
      | (with_reducible exact pancake_FlipBurnt.mono _ _ _)
      | (with_reducible exact pancake_Gaps.mono _ _)
      | (with_reducible exact LeO.refl _)
      | (with_reducible exact LeO.none _)
      | (with_reducible refine LeO.ite ?_ ?_)
      | (with_reducible refine LeO.bind ?_ (fun _ => ?_))
      | exact ih0 _ _ _ _
      | exact ih1 _ _ _ _
      | exact ih2 _ _ _ _ _ _ _ _ _
      | exact ih3 _ _ _ _ _ _
      | exact ih4 _ _ _ _ _ _ _
      | exact bibelotlaw07_ints.mono _ _ _
      | exact bibelotref07_Flip.mono _ _ _ _
      | exact bibelotref07_Gaps.mono _ _
      | exact pancake_Flip.mono _ _ _
      | exact pancake_FlipBurnt.mono _ _ _
      | exact pancake_Gaps.mono _ _
      | exact LeO.none _
      | refine LeO.ite ?_ ?_
      | refine LeO.bind ?_ (fun _ => ?_)
    · intro y0 y1 y2 y3 y4 y5
      unfold bibelotlaw07_PancakeFlips.j3
      repeat' first
      | (with_reducible exact ih0 _ _ _ _)
      | (with_reducible exact ih1 _ _ _ _)
      | (with_reducible exact ih2 _ _ _ _ _ _ _ _ _)
      | (with_reducible exact ih3 _ _ _ _ _ _)
      | (with_reducible exact ih4 _ _ _ _ _ _ _)
      | (with_reducible exact bibelotlaw07_ints.mono _ _ _)
      | (with_reducible exact bibelotref07_Flip.mono _ _ _ _)
      | (with_reducible exact bibelotref07_Gaps.mono _ _)
      | (with_reducible exact pancake_Flip.mono _ _ _)
      | (with_reducible exact pancake_FlipBurnt.mono _ _ _)
      | (with_reducible exact pancake_Gaps.mono _ _)
      | (with_reducible exact LeO.refl _)
      | (with_reducible exact LeO.none _)
      | (with_reducible refine LeO.ite ?_ ?_)
      | (with_reducible refine LeO.bind ?_ (fun _ => ?_))
      | exact ih0 _ _ _ _
      | exact ih1 _ _ _ _
      | exact ih2 _ _ _ _ _ _ _ _ _
      | exact ih3 _ _ _ _ _ _
      | exact ih4 _ _ _ _ _ _ _
      | exact bibelotlaw07_ints.mono _ _ _
      | exact bibelotref07_Flip.mono _ _ _ _
      | exact bibelotref07_Gaps.mono _ _
      | exact pancake_Flip.mono _ _ _
      | exact pancake_FlipBurnt.mono _ _ _
      | exact pancake_Gaps.mono _ _
      | exact LeO.none _
      | refine LeO.ite ?_ ?_
      | refine LeO.bind ?_ (fun _ => ?_)
    · intro y0 y1 y2 y3 y4 y5 y6
      unfold bibelotlaw07_PancakeFlips.j4
      repeat' first
      | (with_reducible exact ih0 _ _ _ _)
      | (with_reducible exact ih1 _ _ _ _)
      | (with_reducible exact ih2 _ _ _ _ _ _ _ _ _)
      | (with_reducible exact ih3 _ _ _ _ _ _)
      | (with_reducible exact ih4 _ _ _ _ _ _ _)
      | (with_reducible exact bibelotlaw07_ints.mono _ _ _)
      | (with_reducible exact bibelotref07_Flip.mono _ _ _ _)
      | (with_reducible exact bibelotref07_Gaps.mono _ _)
      | (with_reducible exact pancake_Flip.mono _ _ _)
      | (with_reducible exact pancake_FlipBurnt.mono _ _ _)
      | (with_reducible exact pancake_Gaps.mono _ _)
      | (with_reducible exact LeO.refl _)
      | (with_reducible exact LeO.none _)
      | (with_reducible refine LeO.ite ?_ ?_)
      | (with_reducible refine LeO.bind ?_ (fun _ => ?_))
      | exact ih0 _ _ _ _
      | exact ih1 _ _ _ _
      | exact ih2 _ _ _ _ _ _ _ _ _
      | exact ih3 _ _ _ _ _ _
      | exact ih4 _ _ _ _ _ _ _
      | exact bibelotlaw07_ints.mono _ _ _
      | exact bibelotref07_Flip.mono _ _ _ _
      | exact bibelotref07_Gaps.mono _ _
      | exact pancake_Flip.mono _ _ _
      | exact pancake_FlipBurnt.mono _ _ _
      | exact pancake_Gaps.mono _ _
      | exact LeO.none _
      | refine LeO.ite ?_ ?_
      | refine LeO.bind ?_ (fun _ => ?_)
theorem bibelotlaw07_PancakeFlips.mono : ∀ a0 a1 a2 k, LeO (bibelotlaw07_PancakeFlips.f k a0 a1 a2) (bibelotlaw07_PancakeFlips.f (k + 1) a0 a1 a2) := by
  intro a0 a1 a2 k
  obtain ⟨ih0, ih1, ih2, ih3, ih4⟩ := bibelotlaw07_PancakeFlips.mono_l k
  unfold bibelotlaw07_PancakeFlips.f
  repeat' first
      | (with_reducible exact ih0 _ _ _ _)
      | (with_reducible exact ih1 _ _ _ _)
      | (with_reducible exact ih2 _ _ _ _ _ _ _ _ _)
      | (with_reducible exact ih3 _ _ _ _ _ _)
      | (with_reducible exact ih4 _ _ _ _ _ _ _)
      | (with_reducible exact bibelotlaw07_ints.mono _ _ _)
      | (with_reducible exact bibelotref07_Flip.mono _ _ _ _)
      | (with_reducible exact bibelotref07_Gaps.mono _ _)
      | (with_reducible exact pancake_Flip.mono _ _ _)
      | (with_reducible exact pancake_FlipBurnt.mono _ _ _)
      | (with_reducible exact pancake_Gaps.mono _ _)
      | (with_reducible exact LeO.refl _)
      | (with_reducible exact LeO.none _)
      | (with_reducible refine LeO.ite ?_ ?_)
      | (with_reducible refine LeO.bind ?_ (fun _ => ?_))
      | exact ih0 _ _ _ _
      | exact ih1 _ _ _ _
      | exact ih2 _ _ _ _ _ _ _ _ _
      | exact ih3 _ _ _ _ _ _
      | exact ih4 _ _ _ _ _ _ _
      | exact bibelotlaw07_ints.mono _ _ _
      | exact bibelotref07_Flip.mono _ _ _ _
      | exact bibelotref07_Gaps.mono _ _
      | exact pancake_Flip.mono _ _ _
      | exact pancake_FlipBurnt.mono _ _ _
      | exact pancake_Gaps.mono _ _
      | exact LeO.none _
      | refine LeO.ite ?_ ?_
      | refine LeO.bind ?_ (fun _ => ?_)
set_option maxHeartbeats 8000000 in
set_option maxRecDepth 100000 in
theorem bibelotlaw07_PancakeFlips.calls (k : Nat) (a0 : Int) (A1 : Option Addr) (c1 : Nat) (l1 : List Int) (a2 : Int) (r : Bool) (w : World) (hr1 : Kd.C (Kd.int .i64) w A1 l1.length l1) (hc1 : l1.length ≤ c1) (h : bibelotlaw07_PancakeFlips.f k a0 l1 a2 = some r) :
    Calls Try.prog 5 #[.int .i64 a0, .slice A1 l1.length c1, .int .i64 a2] w fun e w' => e = .returned (.bool r) ∧ Below w.heap.size w w' := by
  have HR1 := Aside0.mk hr1
  have HC1 := Aside0.mk hc1
  clear hr1 hc1
  have HB := Aside0.mk (Below.refl w.heap.size w)
  have H : ((bibelotlaw07_many.f a0 7).bind fun t264 => ((bibelotlaw07_row.f l1 t264 false).bind fun t265 => ((bibelotlaw07_many.f a0 6).bind fun t268 => ((bibelotlaw07_row.f l1 t268 true).bind fun t269 => ((pancake_Gaps.f k t265).bind fun bt272 => (if bt272.2 = 0 then ((bibelotref07_Gaps.f k t265).bind fun t274 => (bibelotlaw07_PancakeFlips.j0 k a2 t265 t269 (bt272.1 != t274))) else (bibelotlaw07_PancakeFlips.j0 k a2 t265 t269 true))))))) = some r := h
  clear h
  replace H := Option.bind_eq_some_iff.mp H
  obtain ⟨t264, A40, H⟩ := H
  replace H : ((bibelotlaw07_row.f l1 t264 false).bind fun t265 => ((bibelotlaw07_many.f a0 6).bind fun t268 => ((bibelotlaw07_row.f l1 t268 true).bind fun t269 => ((pancake_Gaps.f k t265).bind fun bt272 => (if bt272.2 = 0 then ((bibelotref07_Gaps.f k t265).bind fun t274 => (bibelotlaw07_PancakeFlips.j0 k a2 t265 t269 (bt272.1 != t274))) else (bibelotlaw07_PancakeFlips.j0 k a2 t265 t269 true)))))) = some r := H
  have A4 := Aside0.mk A40
  clear A40
  replace H := Option.bind_eq_some_iff.mp H
  obtain ⟨t265, A50, H⟩ := H
  replace H : ((bibelotlaw07_many.f a0 6).bind fun t268 => ((bibelotlaw07_row.f l1 t268 true).bind fun t269 => ((pancake_Gaps.f k t265).bind fun bt272 => (if bt272.2 = 0 then ((bibelotref07_Gaps.f k t265).bind fun t274 => (bibelotlaw07_PancakeFlips.j0 k a2 t265 t269 (bt272.1 != t274))) else (bibelotlaw07_PancakeFlips.j0 k a2 t265 t269 true))))) = some r := H
  have A5 := Aside0.mk A50
  clear A50
  replace H := Option.bind_eq_some_iff.mp H
  obtain ⟨t268, A60, H⟩ := H
  replace H : ((bibelotlaw07_row.f l1 t268 true).bind fun t269 => ((pancake_Gaps.f k t265).bind fun bt272 => (if bt272.2 = 0 then ((bibelotref07_Gaps.f k t265).bind fun t274 => (bibelotlaw07_PancakeFlips.j0 k a2 t265 t269 (bt272.1 != t274))) else (bibelotlaw07_PancakeFlips.j0 k a2 t265 t269 true)))) = some r := H
  have A6 := Aside0.mk A60
  clear A60
  replace H := Option.bind_eq_some_iff.mp H
  obtain ⟨t269, A70, H⟩ := H
  replace H : ((pancake_Gaps.f k t265).bind fun bt272 => (if bt272.2 = 0 then ((bibelotref07_Gaps.f k t265).bind fun t274 => (bibelotlaw07_PancakeFlips.j0 k a2 t265 t269 (bt272.1 != t274))) else (bibelotlaw07_PancakeFlips.j0 k a2 t265 t269 true))) = some r := H
  have A7 := Aside0.mk A70
  clear A70
  replace H := Option.bind_eq_some_iff.mp H
  obtain ⟨⟨t272, t273⟩, A80, H⟩ := H
  replace H : (if t273 = 0 then ((bibelotref07_Gaps.f k t265).bind fun t274 => (bibelotlaw07_PancakeFlips.j0 k a2 t265 t269 (t272 != t274))) else (bibelotlaw07_PancakeFlips.j0 k a2 t265 t269 true)) = some r := H
  have A8 := Aside0.mk A80
  clear A80
  have HC9 := Aside0.mk H
  clear H
  go_enter Try.func5, Try.ntmps5
  go_upto_region 3 with (first | ((with_reducible refine gate_callee (f := 21) rfl ?_); refine goesL_ (some 18) rfl rfl Try.func21 (by kernel_rfl) rfl #[.int .i64 a0, .int .i64 7] rfl (by (try simp only [List.map_toArray, List.map_cons, List.map_nil]); first | done | rfl | (simp only [List.length_drop, List.length_take]; rfl)) ?_; (with_reducible refine (bibelotlaw07_many.calls a0 7 t264 _ A4.out).mono ?_); rintro e w' ⟨rfl, ⟨nd, rfl⟩⟩; refine ⟨_, rfl, ?_⟩) | ((with_reducible refine gate_callee (f := 27) rfl ?_); refine goesL_ (some 19) rfl rfl Try.func27 (by kernel_rfl) rfl #[.slice A1 l1.length c1, .int .i64 t264, .bool false] rfl (by (try simp only [List.map_toArray, List.map_cons, List.map_nil]); first | done | rfl | (simp only [List.length_drop, List.length_take]; rfl)) ?_; (with_reducible refine (bibelotlaw07_row.calls _ _ l1 t264 false t265 _ ?side1 ?side2 A5.out).mono ?_); (case side1 => repeat (first | exact HR1.out | (with_reducible refine Kd.C_alloc ?_ _) | (with_reducible refine Kd.C_drewN ?_ _) | (with_reducible refine Kd.C_drew ?_))); (case side2 => exact HC1.out); rintro e w10 ⟨v266, rfl, ho0, hb⟩; refine ⟨_, rfl, ?_⟩; have n0_ := Aside0.mk (Kd.R_lower ho0 (below_size (by repeat (first | (with_reducible first | exact HB.out | apply below_alloc | apply pw_below_drewN | apply below_drew1) | exact HB.out)))); have n1_ := Aside0.mk (below_step (by repeat (first | (with_reducible first | exact HB.out | apply below_alloc | apply pw_below_drewN | apply below_drew1) | exact HB.out)) hb); clear HB; have HO267 := n0_; have HB := n1_; clear n0_ n1_; (try clear hb); (try clear hb2); (try clear hk); (try clear hi); (try clear ho0)) | ((with_reducible refine gate_callee (f := 21) rfl ?_); refine goesL_ (some 22) rfl rfl Try.func21 (by kernel_rfl) rfl #[.int .i64 a0, .int .i64 6] rfl (by (try simp only [List.map_toArray, List.map_cons, List.map_nil]); first | done | rfl | (simp only [List.length_drop, List.length_take]; rfl)) ?_; (with_reducible refine (bibelotlaw07_many.calls a0 6 t268 _ A6.out).mono ?_); rintro e w' ⟨rfl, ⟨nd, rfl⟩⟩; refine ⟨_, rfl, ?_⟩) | ((with_reducible refine gate_callee (f := 27) rfl ?_); refine goesL_ (some 23) rfl rfl Try.func27 (by kernel_rfl) rfl #[.slice A1 l1.length c1, .int .i64 t268, .bool true] rfl (by (try simp only [List.map_toArray, List.map_cons, List.map_nil]); first | done | rfl | (simp only [List.length_drop, List.length_take]; rfl)) ?_; (with_reducible refine (bibelotlaw07_row.calls _ _ l1 t268 true t269 _ ?side1 ?side2 A7.out).mono ?_); (case side1 => repeat (first | exact (Kd.C_below HR1.out (by repeat (first | (with_reducible first | exact HB.out | apply below_alloc | apply pw_below_drewN | apply below_drew1) | exact HB.out))) | (with_reducible refine Kd.C_alloc ?_ _) | (with_reducible refine Kd.C_drewN ?_ _) | (with_reducible refine Kd.C_drew ?_))); (case side2 => exact HC1.out); rintro e w11 ⟨v270, rfl, ho0, hb⟩; refine ⟨_, rfl, ?_⟩; have n0_ := Aside0.mk (Kd.R_elder' (by (with_reducible repeat (first | apply Kd.R_alloc | apply Kd.R_drewN | apply Kd.R_drew)); exact HO267.out) (Kd.R_base ho0) hb); have n1_ := Aside0.mk (Kd.R_lower (Kd.R_new' ho0 (Kd.R_lt (by (with_reducible repeat (first | apply Kd.R_alloc | apply Kd.R_drewN | apply Kd.R_drew)); exact HO267.out))) (below_size (by repeat (first | (with_reducible first | exact HB.out | apply below_alloc | apply pw_below_drewN | apply below_drew1) | exact HB.out)))); have n2_ := Aside0.mk (below_step (by repeat (first | (with_reducible first | exact HB.out | apply below_alloc | apply pw_below_drewN | apply below_drew1) | exact HB.out)) hb); clear HO267; clear HB; have HO267 := n0_; have HO271 := n1_; have HB := n2_; clear n0_ n1_ n2_; (try clear hb); (try clear hb2); (try clear hk); (try clear hi); (try clear ho0); obtain ⟨Ao12, co12, eo12⟩ := Kd.R_slice HO267.out; subst eo12) | ((with_reducible refine gate_callee (f := 30) rfl ?_); refine goesL_ (some 26) rfl rfl Try.func30 (by kernel_rfl) rfl #[.slice Ao12 t265.length co12] rfl (by (try simp only [List.map_toArray, List.map_cons, List.map_nil]); first | done | rfl | (simp only [List.length_drop, List.length_take]; rfl)) ?_; (with_reducible refine (pancake_Gaps.calls k _ _ t265 t272 t273 _ ?side1 ?side2 A8.out).mono ?_); (case side1 => repeat (first | exact (Kd.R_reads' HO267.out).2.2 | (with_reducible refine Kd.C_alloc ?_ _) | (with_reducible refine Kd.C_drewN ?_ _) | (with_reducible refine Kd.C_drew ?_))); (case side2 => exact (Kd.R_reads' HO267.out).2.1); rintro e w13 ⟨rfl, hb⟩; refine ⟨_, rfl, ?_⟩; have n0_ := Aside0.mk (Kd.R_below (by (with_reducible repeat (first | apply Kd.R_alloc | apply Kd.R_drewN | apply Kd.R_drew)); exact HO267.out) hb); have n1_ := Aside0.mk (Kd.R_below (by (with_reducible repeat (first | apply Kd.R_alloc | apply Kd.R_drewN | apply Kd.R_drew)); exact HO271.out) hb); have n2_ := Aside0.mk (below_step (by repeat (first | (with_reducible first | exact HB.out | apply below_alloc | apply pw_below_drewN | apply below_drew1) | exact HB.out)) hb); clear HO267; clear HO271; clear HB; have HO267 := n0_; have HO271 := n1_; have HB := n2_; clear n0_ n1_ n2_; (try clear hb); (try clear hb2); (try clear hk); (try clear hi)))
  (try simp only [Act.put, List.setIfInBounds_toArray, List.set_cons_zero, List.set_cons_succ])
  go_cut [36] (fun v36 wc => ∃ (kq : Nat) (x36_8 : Bool), v36 = .bool x36_8 ∧ Aside0 (bibelotlaw07_PancakeFlips.j0 kq a2 t265 t269 x36_8 = some r) ∧ Aside0 (kq ≤ k) ∧ Aside0 (Kd.R (Kd.int .i64) 3 wc w.heap.size (fun k_ => some k_ ≠ (v270 : Value).ownBlock) (.slice Ao12 t265.length co12) t265) ∧ Aside0 (Kd.R (Kd.int .i64) 3 wc w.heap.size (fun k_ => some k_ ≠ ((.slice Ao12 t265.length co12) : Value).ownBlock) v270 t269) ∧ Aside0 (Below w.heap.size w wc))
  case first =>
    have H := HC9.out
    clear HC9
    by_cases c14 : t273 = 0
    · rw [if_pos c14] at H
      have c14b0 : (t273 == 0) = true := beq_iff_eq.mpr c14
      have c14b1 : (t273 != 0) = false := bne_eq_false_iff_eq.mpr c14
      clear c14
      (first | rw [c14b0] | (simp only [i64_w, i32_w]; rw [c14b0]) | skip)
      replace H := Option.bind_eq_some_iff.mp H
      obtain ⟨t274, A150, H⟩ := H
      replace H : (bibelotlaw07_PancakeFlips.j0 k a2 t265 t269 (t272 != t274)) = some r := H
      have A15 := Aside0.mk A150
      clear A150
      have H' := Aside0.mk H
      clear H
      go_wp2_with (first | (go_at_call 31; (with_reducible refine (bibelotref07_Gaps.calls k _ _ t265 t274 _ ?side1 ?side2 A15.out).mono ?_); (case side1 => repeat (first | exact (Kd.R_reads' HO267.out).2.2 | (with_reducible refine Kd.C_alloc ?_ _) | (with_reducible refine Kd.C_drewN ?_ _) | (with_reducible refine Kd.C_drew ?_))); (case side2 => exact (Kd.R_reads' HO267.out).2.1); rintro e w16 ⟨rfl, hb⟩; have n0_ := Aside0.mk (Kd.R_below (by (with_reducible repeat (first | apply Kd.R_alloc | apply Kd.R_drewN | apply Kd.R_drew)); exact HO267.out) hb); have n1_ := Aside0.mk (Kd.R_below (by (with_reducible repeat (first | apply Kd.R_alloc | apply Kd.R_drewN | apply Kd.R_drew)); exact HO271.out) hb); have n2_ := Aside0.mk (below_step (by repeat (first | (with_reducible first | exact HB.out | apply below_alloc | apply pw_below_drewN | apply below_drew1) | exact HB.out)) hb); clear HO267; clear HO271; clear HB; have HO267 := n0_; have HO271 := n1_; have HB := n2_; clear n0_ n1_ n2_; (try clear hb); (try clear hb2); (try clear hk); (try clear hi)))
      go_meet
      case rel => exact ⟨_, ((t272 != t274)), (by first | rfl | (simp; done) | (simp [*]; done)), H', ⟨by first | omega | exact Nat.le_refl _⟩, ⟨by (with_reducible repeat (first | apply Kd.R_alloc | apply Kd.R_drewN | apply Kd.R_drew)); exact Kd.R_mono HO267.out (fun _ hk => hk.2)⟩, ⟨by (with_reducible repeat (first | apply Kd.R_alloc | apply Kd.R_drewN | apply Kd.R_drew)); exact Kd.R_mono HO271.out (fun _ hk => hk.2)⟩, ⟨by repeat (first | (with_reducible first | exact HB.out | apply below_alloc | apply pw_below_drewN | apply below_drew1) | exact HB.out)⟩⟩
    · rw [if_neg c14] at H
      have c14b0 : (t273 == 0) = false := beq_eq_false_iff_ne.mpr c14
      have c14b1 : (t273 != 0) = true := bne_iff_ne.mpr c14
      (first | rw [c14b0] | (simp only [i64_w, i32_w]; rw [c14b0]) | skip)
      have H' := Aside0.mk H
      clear H
      go_wp2
      go_meet
      case rel => exact ⟨_, (true), (by first | rfl | (simp; done) | (simp [*]; done)), H', ⟨by first | omega | exact Nat.le_refl _⟩, ⟨by (with_reducible repeat (first | apply Kd.R_alloc | apply Kd.R_drewN | apply Kd.R_drew)); exact Kd.R_mono HO267.out (fun _ hk => hk.2)⟩, ⟨by (with_reducible repeat (first | apply Kd.R_alloc | apply Kd.R_drewN | apply Kd.R_drew)); exact Kd.R_mono HO271.out (fun _ hk => hk.2)⟩, ⟨by repeat (first | (with_reducible first | exact HB.out | apply below_alloc | apply pw_below_drewN | apply below_drew1) | exact HB.out)⟩⟩
  case rest =>
    clear HC9
    try clear c1
    try clear c2
    try clear p2
    try clear c3
    try clear c5
    try clear c14
    try clear c14b0
    try clear c14b1
    obtain ⟨kq, x36_8, rfl, HA, HJ8, HO_7, HO_8, HB⟩ := hcut
    cases kq with
    | zero => exact absurd HA.out (by simp [bibelotlaw07_PancakeFlips.j0])
    | succ kj8 =>
      have H := HA.out
      clear HA
      simp only [bibelotlaw07_PancakeFlips.j0] at H
      by_cases c17 : x36_8 = true
      · subst c17
        have H1 : (some false) = some r := by rw [if_pos rfl] at H; exact H
        clear H
        have H := H1
        clear H1
        obtain rfl := Option.some.inj H
        go_wp2
        go_ret
        exact ⟨by first | rfl | (simp [errW_none, errW_some] <;> rfl) | (simp [*, errW_none, errW_some] <;> rfl), by repeat (first | (with_reducible first | exact HB.out | apply below_alloc | apply pw_below_drewN | apply below_drew1) | exact HB.out)⟩
      · replace c17 := Bool.eq_false_iff.mpr c17
        subst c17
        have H1 : (bibelotlaw07_PancakeFlips.l0 kj8 a2 t265 t269 0) = some r := by rw [if_neg (show ¬ (false = true) by decide)] at H; exact H
        clear H
        have H := H1
        clear H1
        have H' := Aside0.mk H
        clear H
        go_wp2
        go_loopg [2, 11] kj8 (fun kq v2 v11 w' => ∃ (x2_2 : Int) (x11_2 : Int), v2 = .int .i64 x2_2 ∧ v11 = .int .i64 x11_2 ∧ Aside0 (bibelotlaw07_PancakeFlips.l0 kq x2_2 t265 t269 x11_2 = some r) ∧ Aside0 (kq ≤ kj8) ∧ Aside0 (Kd.R (Kd.int .i64) 3 w' w.heap.size (fun k_ => some k_ ≠ (v270 : Value).ownBlock) (.slice Ao12 t265.length co12) t265) ∧ Aside0 (Kd.R (Kd.int .i64) 3 w' w.heap.size (fun k_ => some k_ ≠ ((.slice Ao12 t265.length co12) : Value).ownBlock) v270 t269) ∧ Aside0 (Below w.heap.size w w'))
        case atStart => exact ⟨(a2), (0), (by first | rfl | (simp; done) | (simp [*]; done)), (by first | rfl | (simp; done) | (simp [*]; done)), H', ⟨Nat.le_refl _⟩, ⟨by (with_reducible repeat (first | apply Kd.R_alloc | apply Kd.R_drewN | apply Kd.R_drew)); exact HO_7.out⟩, ⟨by (with_reducible repeat (first | apply Kd.R_alloc | apply Kd.R_drewN | apply Kd.R_drew)); exact HO_8.out⟩, ⟨by repeat (first | (with_reducible first | exact HB.out | apply below_alloc | apply pw_below_drewN | apply below_drew1) | exact HB.out)⟩⟩
        case round =>
          clear H'
          try clear c1
          try clear c2
          try clear p2
          try clear c3
          try clear c5
          try clear c14
          try clear c14b0
          try clear c14b1
          try clear c17
          try clear p2
          obtain ⟨x2_2, x11_2, rfl, rfl, HA, HK2, HO_7, HO_8, HB⟩ := hrel
          cases gk with
          | zero => exact absurd HA.out (by simp [bibelotlaw07_PancakeFlips.l0])
          | succ k2 =>
            have H := HA.out
            clear HA
            simp only [bibelotlaw07_PancakeFlips.l0] at H
            by_cases c18 : x11_2 < 2
            · rw [if_pos c18] at H
              have c18b0 : decide (x11_2 < 2) = true := decide_eq_true c18
              clear c18
              replace H := Option.bind_eq_some_iff.mp H
              obtain ⟨⟨t276, t277⟩, A190, H⟩ := H
              replace H : ((pancake_FlipBurnt.f k2 t269 x2_2).bind fun bt280 => (if x2_2 < 1 then (bibelotlaw07_PancakeFlips.j2 k2 x2_2 t265 t269 x11_2 t276 t277 bt280.1 bt280.2 true) else (bibelotlaw07_PancakeFlips.j2 k2 x2_2 t265 t269 x11_2 t276 t277 bt280.1 bt280.2 (decide (x2_2 > (t265.length : Int)))))) = some r := H
              have A19 := Aside0.mk A190
              clear A190
              replace H := Option.bind_eq_some_iff.mp H
              obtain ⟨⟨t280, t281⟩, A200, H⟩ := H
              replace H : (if x2_2 < 1 then (bibelotlaw07_PancakeFlips.j2 k2 x2_2 t265 t269 x11_2 t276 t277 t280 t281 true) else (bibelotlaw07_PancakeFlips.j2 k2 x2_2 t265 t269 x11_2 t276 t277 t280 t281 (decide (x2_2 > (t265.length : Int))))) = some r := H
              have A20 := Aside0.mk A200
              clear A200
              have HC21 := Aside0.mk H
              clear H
              go_upto_region 10 with (first | ((with_reducible refine gate_callee (f := 32) rfl ?_); refine goesL_ (some 44) rfl rfl Try.func32 (by kernel_rfl) rfl #[.slice Ao12 t265.length co12, .int .i64 x2_2] rfl (by (try simp only [List.map_toArray, List.map_cons, List.map_nil]); first | done | rfl | (simp only [List.length_drop, List.length_take]; rfl)) ?_; (with_reducible refine (pancake_Flip.calls k2 _ _ t265 x2_2 t276 t277 _ ?side1 ?side2 A19.out).mono ?_); (case side1 => repeat (first | exact (Kd.R_reads' HO_7.out).2.2 | (with_reducible refine Kd.C_alloc ?_ _) | (with_reducible refine Kd.C_drewN ?_ _) | (with_reducible refine Kd.C_drew ?_))); (case side2 => exact (Kd.R_reads' HO_7.out).2.1); rintro e w22 ⟨v278, rfl, ho0, hb⟩; refine ⟨_, rfl, ?_⟩; have n0_ := Aside0.mk (Kd.R_elder' (by (with_reducible repeat (first | apply Kd.R_alloc | apply Kd.R_drewN | apply Kd.R_drew)); exact HO_7.out) (Kd.R_base ho0) hb); have n1_ := Aside0.mk (Kd.R_elder' (by (with_reducible repeat (first | apply Kd.R_alloc | apply Kd.R_drewN | apply Kd.R_drew)); exact HO_8.out) (Kd.R_base ho0) hb); have n2_ := Aside0.mk (Kd.R_lower (Kd.R_new' (Kd.R_new' ho0 (Kd.R_lt (by (with_reducible repeat (first | apply Kd.R_alloc | apply Kd.R_drewN | apply Kd.R_drew)); exact HO_7.out))) (Kd.R_lt (by (with_reducible repeat (first | apply Kd.R_alloc | apply Kd.R_drewN | apply Kd.R_drew)); exact HO_8.out))) (below_size (by repeat (first | (with_reducible first | exact HB.out | apply below_alloc | apply pw_below_drewN | apply below_drew1) | exact HB.out)))); have n3_ := Aside0.mk (below_step (by repeat (first | (with_reducible first | exact HB.out | apply below_alloc | apply pw_below_drewN | apply below_drew1) | exact HB.out)) hb); clear HO_7; clear HO_8; clear HB; have HO_7 := n0_; have HO_8 := n1_; have HO279 := n2_; have HB := n3_; clear n0_ n1_ n2_ n3_; (try clear hb); (try clear hb2); (try clear hk); (try clear hi); (try clear ho0); obtain ⟨Ao23, co23, eo23⟩ := Kd.R_slice HO_8.out; subst eo23) | ((with_reducible refine gate_callee (f := 33) rfl ?_); refine goesL_ (some 50) rfl rfl Try.func33 (by kernel_rfl) rfl #[.slice Ao23 t269.length co23, .int .i64 x2_2] rfl (by (try simp only [List.map_toArray, List.map_cons, List.map_nil]); first | done | rfl | (simp only [List.length_drop, List.length_take]; rfl)) ?_; (with_reducible refine (pancake_FlipBurnt.calls k2 _ _ t269 x2_2 t280 t281 _ ?side1 ?side2 A20.out).mono ?_); (case side1 => repeat (first | exact (Kd.R_reads' HO_8.out).2.2 | (with_reducible refine Kd.C_alloc ?_ _) | (with_reducible refine Kd.C_drewN ?_ _) | (with_reducible refine Kd.C_drew ?_))); (case side2 => exact (Kd.R_reads' HO_8.out).2.1); rintro e w24 ⟨v282, rfl, ho0, hb⟩; refine ⟨_, rfl, ?_⟩; have n0_ := Aside0.mk (Kd.R_elder' (by (with_reducible repeat (first | apply Kd.R_alloc | apply Kd.R_drewN | apply Kd.R_drew)); exact HO_7.out) (Kd.R_base ho0) hb); have n1_ := Aside0.mk (Kd.R_elder' (by (with_reducible repeat (first | apply Kd.R_alloc | apply Kd.R_drewN | apply Kd.R_drew)); exact HO_8.out) (Kd.R_base ho0) hb); have n2_ := Aside0.mk (Kd.R_elder' (by (with_reducible repeat (first | apply Kd.R_alloc | apply Kd.R_drewN | apply Kd.R_drew)); exact HO279.out) (Kd.R_base ho0) hb); have n3_ := Aside0.mk (Kd.R_lower (Kd.R_new' (Kd.R_new' (Kd.R_new' ho0 (Kd.R_lt (by (with_reducible repeat (first | apply Kd.R_alloc | apply Kd.R_drewN | apply Kd.R_drew)); exact HO_7.out))) (Kd.R_lt (by (with_reducible repeat (first | apply Kd.R_alloc | apply Kd.R_drewN | apply Kd.R_drew)); exact HO_8.out))) (Kd.R_lt (by (with_reducible repeat (first | apply Kd.R_alloc | apply Kd.R_drewN | apply Kd.R_drew)); exact HO279.out))) (below_size (by repeat (first | (with_reducible first | exact HB.out | apply below_alloc | apply pw_below_drewN | apply below_drew1) | exact HB.out)))); have n4_ := Aside0.mk (below_step (by repeat (first | (with_reducible first | exact HB.out | apply below_alloc | apply pw_below_drewN | apply below_drew1) | exact HB.out)) hb); clear HO_7; clear HO_8; clear HO279; clear HB; have HO_7 := n0_; have HO_8 := n1_; have HO279 := n2_; have HO283 := n3_; have HB := n4_; clear n0_ n1_ n2_ n3_ n4_; (try clear hb); (try clear hb2); (try clear hk); (try clear hi); (try clear ho0)))
              (try simp only [Act.put, List.setIfInBounds_toArray, List.set_cons_zero, List.set_cons_succ])
              go_cut [60] (fun v60 wc => ∃ (kq : Nat) (x60_20 : Bool), v60 = .bool x60_20 ∧ Aside0 (bibelotlaw07_PancakeFlips.j2 kq x2_2 t265 t269 x11_2 t276 t277 t280 t281 x60_20 = some r) ∧ Aside0 (kq ≤ k2) ∧ Aside0 (Kd.R (Kd.int .i64) 3 wc w.heap.size (fun k_ => some k_ ≠ ((.slice Ao23 t269.length co23) : Value).ownBlock ∧ some k_ ≠ (v278 : Value).ownBlock ∧ some k_ ≠ (v282 : Value).ownBlock) (.slice Ao12 t265.length co12) t265) ∧ Aside0 (Kd.R (Kd.int .i64) 3 wc w.heap.size (fun k_ => some k_ ≠ ((.slice Ao12 t265.length co12) : Value).ownBlock ∧ some k_ ≠ (v278 : Value).ownBlock ∧ some k_ ≠ (v282 : Value).ownBlock) (.slice Ao23 t269.length co23) t269) ∧ Aside0 (Kd.R (Kd.int .i64) 3 wc w.heap.size (fun k_ => some k_ ≠ ((.slice Ao12 t265.length co12) : Value).ownBlock ∧ some k_ ≠ ((.slice Ao23 t269.length co23) : Value).ownBlock ∧ some k_ ≠ (v282 : Value).ownBlock) v278 t276) ∧ Aside0 (Kd.R (Kd.int .i64) 3 wc w.heap.size (fun k_ => some k_ ≠ ((.slice Ao12 t265.length co12) : Value).ownBlock ∧ some k_ ≠ ((.slice Ao23 t269.length co23) : Value).ownBlock ∧ some k_ ≠ (v278 : Value).ownBlock) v282 t280) ∧ Aside0 (Below w.heap.size w wc))
              case first =>
                have H := HC21.out
                clear HC21
                by_cases c25 : x2_2 < 1
                · rw [if_pos c25] at H
                  have c25b0 : decide (x2_2 < 1) = true := decide_eq_true c25
                  clear c25
                  (first | rw [c25b0] | (simp only [i64_w, i32_w]; rw [c25b0]) | skip)
                  have H' := Aside0.mk H
                  clear H
                  go_wp2
                  go_meet
                  case rel => exact ⟨_, (true), (by first | rfl | (simp; done) | (simp [*]; done)), H', ⟨by have := HJ8.out; have := HK2.out; first | omega | exact Nat.le_refl _⟩, ⟨by (with_reducible repeat (first | apply Kd.R_alloc | apply Kd.R_drewN | apply Kd.R_drew)); exact Kd.R_mono HO_7.out (fun _ hk => ⟨hk.1.1, ⟨hk.1.2, hk.2⟩⟩)⟩, ⟨by (with_reducible repeat (first | apply Kd.R_alloc | apply Kd.R_drewN | apply Kd.R_drew)); exact Kd.R_mono HO_8.out (fun _ hk => ⟨hk.1.1, ⟨hk.1.2, hk.2⟩⟩)⟩, ⟨by (with_reducible repeat (first | apply Kd.R_alloc | apply Kd.R_drewN | apply Kd.R_drew)); exact Kd.R_mono HO279.out (fun _ hk => ⟨hk.1.1.2, ⟨hk.1.2, hk.2⟩⟩)⟩, ⟨by (with_reducible repeat (first | apply Kd.R_alloc | apply Kd.R_drewN | apply Kd.R_drew)); exact Kd.R_mono HO283.out (fun _ hk => ⟨hk.1.1.2, ⟨hk.1.2, hk.2⟩⟩)⟩, ⟨by repeat (first | (with_reducible first | exact HB.out | apply below_alloc | apply pw_below_drewN | apply below_drew1) | exact HB.out)⟩⟩
                · rw [if_neg c25] at H
                  have c25b0 : decide (x2_2 < 1) = false := decide_eq_false c25
                  clear c25
                  (first | rw [c25b0] | (simp only [i64_w, i32_w]; rw [c25b0]) | skip)
                  have H' := Aside0.mk H
                  clear H
                  go_wp2
                  go_meet
                  case rel => exact ⟨_, (decide (x2_2 > (t265.length : Int))), (by first | rfl | (simp; done) | (simp [*]; done)), H', ⟨by have := HJ8.out; have := HK2.out; first | omega | exact Nat.le_refl _⟩, ⟨by (with_reducible repeat (first | apply Kd.R_alloc | apply Kd.R_drewN | apply Kd.R_drew)); exact Kd.R_mono HO_7.out (fun _ hk => ⟨hk.1.1, ⟨hk.1.2, hk.2⟩⟩)⟩, ⟨by (with_reducible repeat (first | apply Kd.R_alloc | apply Kd.R_drewN | apply Kd.R_drew)); exact Kd.R_mono HO_8.out (fun _ hk => ⟨hk.1.1, ⟨hk.1.2, hk.2⟩⟩)⟩, ⟨by (with_reducible repeat (first | apply Kd.R_alloc | apply Kd.R_drewN | apply Kd.R_drew)); exact Kd.R_mono HO279.out (fun _ hk => ⟨hk.1.1.2, ⟨hk.1.2, hk.2⟩⟩)⟩, ⟨by (with_reducible repeat (first | apply Kd.R_alloc | apply Kd.R_drewN | apply Kd.R_drew)); exact Kd.R_mono HO283.out (fun _ hk => ⟨hk.1.1.2, ⟨hk.1.2, hk.2⟩⟩)⟩, ⟨by repeat (first | (with_reducible first | exact HB.out | apply below_alloc | apply pw_below_drewN | apply below_drew1) | exact HB.out)⟩⟩
              case rest =>
                clear HC21
                try clear c1
                try clear c2
                try clear p2
                try clear c3
                try clear c5
                try clear c14
                try clear c14b0
                try clear c14b1
                try clear c17
                try clear c18
                try clear c18b0
                try clear c21
                try clear c25
                try clear c25b0
                try clear p2
                obtain ⟨kq, x60_20, rfl, HA, HJ20, HO_7, HO_8, HO_12, HO_14, HB⟩ := hcut
                cases kq with
                | zero => exact absurd HA.out (by simp [bibelotlaw07_PancakeFlips.j2])
                | succ kj20 =>
                  have H := HA.out
                  clear HA
                  simp only [bibelotlaw07_PancakeFlips.j2] at H
                  have HC26 := Aside0.mk H
                  clear H
                  go_upto_if 60 with (fail)
                  go_cut [] (fun wc => ∃ (kq : Nat), Aside0 (bibelotlaw07_PancakeFlips.j3 kq x2_2 t265 t269 x11_2 t280 t281 = some r) ∧ Aside0 (kq ≤ kj20) ∧ Aside0 (Kd.R (Kd.int .i64) 3 wc w.heap.size (fun k_ => some k_ ≠ ((.slice Ao23 t269.length co23) : Value).ownBlock ∧ some k_ ≠ (v282 : Value).ownBlock) (.slice Ao12 t265.length co12) t265) ∧ Aside0 (Kd.R (Kd.int .i64) 3 wc w.heap.size (fun k_ => some k_ ≠ ((.slice Ao12 t265.length co12) : Value).ownBlock ∧ some k_ ≠ (v282 : Value).ownBlock) (.slice Ao23 t269.length co23) t269) ∧ Aside0 (Kd.R (Kd.int .i64) 3 wc w.heap.size (fun k_ => some k_ ≠ ((.slice Ao12 t265.length co12) : Value).ownBlock ∧ some k_ ≠ ((.slice Ao23 t269.length co23) : Value).ownBlock) v282 t280) ∧ Aside0 (Below w.heap.size w wc))
                  case first =>
                    have H := HC26.out
                    clear HC26
                    by_cases c27 : x60_20 = true
                    · subst c27
                      have H1 : (if t277 = 1 then (if (t276.length : Int) = 0 then (bibelotlaw07_PancakeFlips.j3 kj20 x2_2 t265 t269 x11_2 t280 t281) else (some false)) else (some false)) = some r := by rw [if_pos rfl] at H; exact H
                      clear H
                      have H := H1
                      clear H1
                      by_cases c28 : t277 = 1
                      · rw [if_pos c28] at H
                        have c28b0 : (t277 == 1) = true := beq_iff_eq.mpr c28
                        have c28b1 : (t277 != 1) = false := bne_eq_false_iff_eq.mpr c28
                        clear c28
                        (first | rw [c28b0] | (simp only [i64_w, i32_w]; rw [c28b0]) | skip)
                        by_cases c29 : (t276.length : Int) = 0
                        · rw [if_pos c29] at H
                          have c29b0 : ((t276.length : Int) == 0) = true := beq_iff_eq.mpr c29
                          have c29b1 : ((t276.length : Int) != 0) = false := bne_eq_false_iff_eq.mpr c29
                          clear c29
                          have H' := Aside0.mk H
                          clear H
                          obtain ⟨Ao30, co30, eo30⟩ := Kd.R_slice HO_12.out
                          subst eo30
                          go_wp2
                          go_meet
                          case rel => exact ⟨_, H', ⟨by have := HJ8.out; have := HK2.out; have := HJ20.out; first | omega | exact Nat.le_refl _⟩, ⟨by (with_reducible repeat (first | apply Kd.R_alloc | apply Kd.R_drewN | apply Kd.R_drew)); exact Kd.R_mono HO_7.out (fun _ hk => ⟨hk.1, hk.2.2⟩)⟩, ⟨by (with_reducible repeat (first | apply Kd.R_alloc | apply Kd.R_drewN | apply Kd.R_drew)); exact Kd.R_mono HO_8.out (fun _ hk => ⟨hk.1, hk.2.2⟩)⟩, ⟨by (with_reducible repeat (first | apply Kd.R_alloc | apply Kd.R_drewN | apply Kd.R_drew)); exact Kd.R_mono HO_14.out (fun _ hk => ⟨hk.1, hk.2.1⟩)⟩, ⟨by repeat (first | (with_reducible first | exact HB.out | apply below_alloc | apply pw_below_drewN | apply below_drew1) | exact HB.out)⟩⟩
                        · rw [if_neg c29] at H
                          have c29b0 : ((t276.length : Int) == 0) = false := beq_eq_false_iff_ne.mpr c29
                          have c29b1 : ((t276.length : Int) != 0) = true := bne_iff_ne.mpr c29
                          have c29b2 : ¬ (t276 = []) := fun h_ => c29 (by rw [h_]; rfl)
                          obtain rfl := Option.some.inj H
                          obtain ⟨Ao31, co31, eo31⟩ := Kd.R_slice HO_12.out
                          subst eo31
                          go_wp2
                          go_ret
                          exact ⟨by first | rfl | (simp [errW_none, errW_some] <;> rfl) | (simp [*, errW_none, errW_some] <;> rfl), by repeat (first | (with_reducible first | exact HB.out | apply below_alloc | apply pw_below_drewN | apply below_drew1) | exact HB.out)⟩
                      · rw [if_neg c28] at H
                        have c28b0 : (t277 == 1) = false := beq_eq_false_iff_ne.mpr c28
                        have c28b1 : (t277 != 1) = true := bne_iff_ne.mpr c28
                        (first | rw [c28b0] | (simp only [i64_w, i32_w]; rw [c28b0]) | skip)
                        obtain rfl := Option.some.inj H
                        go_wp2
                        go_ret
                        exact ⟨by first | rfl | (simp [errW_none, errW_some] <;> rfl) | (simp [*, errW_none, errW_some] <;> rfl), by repeat (first | (with_reducible first | exact HB.out | apply below_alloc | apply pw_below_drewN | apply below_drew1) | exact HB.out)⟩
                    · replace c27 := Bool.eq_false_iff.mpr c27
                      subst c27
                      have H1 : (if t277 = 0 then ((bibelotref07_Flip.f kj20 t265 x2_2 false).bind fun t284 => ((bibelotlaw07_ints.f kj20 t276 t284).bind fun t287 => (if t287 = true then (bibelotlaw07_PancakeFlips.j3 kj20 x2_2 t265 t269 x11_2 t280 t281) else (some false)))) else (some false)) = some r := by rw [if_neg (show ¬ (false = true) by decide)] at H; exact H
                      clear H
                      have H := H1
                      clear H1
                      by_cases c32 : t277 = 0
                      · rw [if_pos c32] at H
                        have c32b0 : (t277 == 0) = true := beq_iff_eq.mpr c32
                        have c32b1 : (t277 != 0) = false := bne_eq_false_iff_eq.mpr c32
                        clear c32
                        replace H := Option.bind_eq_some_iff.mp H
                        obtain ⟨t284, A330, H⟩ := H
                        replace H : ((bibelotlaw07_ints.f kj20 t276 t284).bind fun t287 => (if t287 = true then (bibelotlaw07_PancakeFlips.j3 kj20 x2_2 t265 t269 x11_2 t280 t281) else (some false))) = some r := H
                        have A33 := Aside0.mk A330
                        clear A330
                        replace H := Option.bind_eq_some_iff.mp H
                        obtain ⟨t287, A340, H⟩ := H
                        replace H : (if t287 = true then (bibelotlaw07_PancakeFlips.j3 kj20 x2_2 t265 t269 x11_2 t280 t281) else (some false)) = some r := H
                        have A34 := Aside0.mk A340
                        clear A340
                        by_cases c35 : t287 = true
                        · subst c35
                          have H1 : (bibelotlaw07_PancakeFlips.j3 kj20 x2_2 t265 t269 x11_2 t280 t281) = some r := by rw [if_pos rfl] at H; exact H
                          clear H
                          have H := H1
                          clear H1
                          have H' := Aside0.mk H
                          clear H
                          go_wp2_with (first | (go_at_call 34; (with_reducible refine (bibelotref07_Flip.calls kj20 _ _ t265 x2_2 false t284 _ ?side1 ?side2 A33.out).mono ?_); (case side1 => repeat (first | exact (Kd.R_reads' HO_7.out).2.2 | (with_reducible refine Kd.C_alloc ?_ _) | (with_reducible refine Kd.C_drewN ?_ _) | (with_reducible refine Kd.C_drew ?_))); (case side2 => exact (Kd.R_reads' HO_7.out).2.1); rintro e w36 ⟨v285, rfl, ho0, hb⟩; have n0_ := Aside0.mk (Kd.R_elder' (by (with_reducible repeat (first | apply Kd.R_alloc | apply Kd.R_drewN | apply Kd.R_drew)); exact HO_7.out) (Kd.R_base ho0) hb); have n1_ := Aside0.mk (Kd.R_elder' (by (with_reducible repeat (first | apply Kd.R_alloc | apply Kd.R_drewN | apply Kd.R_drew)); exact HO_8.out) (Kd.R_base ho0) hb); have n2_ := Aside0.mk (Kd.R_elder' (by (with_reducible repeat (first | apply Kd.R_alloc | apply Kd.R_drewN | apply Kd.R_drew)); exact HO_12.out) (Kd.R_base ho0) hb); have n3_ := Aside0.mk (Kd.R_elder' (by (with_reducible repeat (first | apply Kd.R_alloc | apply Kd.R_drewN | apply Kd.R_drew)); exact HO_14.out) (Kd.R_base ho0) hb); have n4_ := Aside0.mk (Kd.R_lower (Kd.R_new' (Kd.R_new' (Kd.R_new' (Kd.R_new' ho0 (Kd.R_lt (by (with_reducible repeat (first | apply Kd.R_alloc | apply Kd.R_drewN | apply Kd.R_drew)); exact HO_7.out))) (Kd.R_lt (by (with_reducible repeat (first | apply Kd.R_alloc | apply Kd.R_drewN | apply Kd.R_drew)); exact HO_8.out))) (Kd.R_lt (by (with_reducible repeat (first | apply Kd.R_alloc | apply Kd.R_drewN | apply Kd.R_drew)); exact HO_12.out))) (Kd.R_lt (by (with_reducible repeat (first | apply Kd.R_alloc | apply Kd.R_drewN | apply Kd.R_drew)); exact HO_14.out))) (below_size (by repeat (first | (with_reducible first | exact HB.out | apply below_alloc | apply pw_below_drewN | apply below_drew1) | exact HB.out)))); have n5_ := Aside0.mk (below_step (by repeat (first | (with_reducible first | exact HB.out | apply below_alloc | apply pw_below_drewN | apply below_drew1) | exact HB.out)) hb); clear HO_7; clear HO_8; clear HO_12; clear HO_14; clear HB; have HO_7 := n0_; have HO_8 := n1_; have HO_12 := n2_; have HO_14 := n3_; have HO286 := n4_; have HB := n5_; clear n0_ n1_ n2_ n3_ n4_ n5_; (try clear hb); (try clear hb2); (try clear hk); (try clear hi); (try clear ho0); obtain ⟨Ao37, co37, eo37⟩ := Kd.R_slice HO_12.out; subst eo37; obtain ⟨Ao38, co38, eo38⟩ := Kd.R_slice HO286.out; subst eo38) | (go_at_call 29; (with_reducible refine (bibelotlaw07_ints.calls kj20 _ _ t276 _ _ t284 true _ ?side1 ?side2 ?side3 ?side4 A34.out).mono ?_); (case side1 => repeat (first | exact (Kd.R_reads' HO_12.out).2.2 | (with_reducible refine Kd.C_alloc ?_ _) | (with_reducible refine Kd.C_drewN ?_ _) | (with_reducible refine Kd.C_drew ?_))); (case side2 => exact (Kd.R_reads' HO_12.out).2.1); (case side3 => repeat (first | exact (Kd.R_reads' HO286.out).2.2 | (with_reducible refine Kd.C_alloc ?_ _) | (with_reducible refine Kd.C_drewN ?_ _) | (with_reducible refine Kd.C_drew ?_))); (case side4 => exact (Kd.R_reads' HO286.out).2.1); rintro e w' ⟨rfl, ⟨nd, rfl⟩⟩))
                          go_meet
                          case rel => exact ⟨_, H', ⟨by have := HJ8.out; have := HK2.out; have := HJ20.out; first | omega | exact Nat.le_refl _⟩, ⟨by (with_reducible repeat (first | apply Kd.R_alloc | apply Kd.R_drewN | apply Kd.R_drew)); exact Kd.R_mono HO_7.out (fun _ hk => ⟨hk.1.1, hk.1.2.2⟩)⟩, ⟨by (with_reducible repeat (first | apply Kd.R_alloc | apply Kd.R_drewN | apply Kd.R_drew)); exact Kd.R_mono HO_8.out (fun _ hk => ⟨hk.1.1, hk.1.2.2⟩)⟩, ⟨by (with_reducible repeat (first | apply Kd.R_alloc | apply Kd.R_drewN | apply Kd.R_drew)); exact Kd.R_mono HO_14.out (fun _ hk => ⟨hk.1.1, hk.1.2.1⟩)⟩, ⟨by repeat (first | (with_reducible first | exact HB.out | apply below_alloc | apply pw_below_drewN | apply below_drew1) | exact HB.out)⟩⟩
                        · replace c35 := Bool.eq_false_iff.mpr c35
                          subst c35
                          have H1 : (some false) = some r := by rw [if_neg (show ¬ (false = true) by decide)] at H; exact H
                          clear H
                          have H := H1
                          clear H1
                          obtain rfl := Option.some.inj H
                          go_wp2_with (first | (go_at_call 34; (with_reducible refine (bibelotref07_Flip.calls kj20 _ _ t265 x2_2 false t284 _ ?side1 ?side2 A33.out).mono ?_); (case side1 => repeat (first | exact (Kd.R_reads' HO_7.out).2.2 | (with_reducible refine Kd.C_alloc ?_ _) | (with_reducible refine Kd.C_drewN ?_ _) | (with_reducible refine Kd.C_drew ?_))); (case side2 => exact (Kd.R_reads' HO_7.out).2.1); rintro e w39 ⟨v285, rfl, ho0, hb⟩; have n0_ := Aside0.mk (Kd.R_elder' (by (with_reducible repeat (first | apply Kd.R_alloc | apply Kd.R_drewN | apply Kd.R_drew)); exact HO_7.out) (Kd.R_base ho0) hb); have n1_ := Aside0.mk (Kd.R_elder' (by (with_reducible repeat (first | apply Kd.R_alloc | apply Kd.R_drewN | apply Kd.R_drew)); exact HO_8.out) (Kd.R_base ho0) hb); have n2_ := Aside0.mk (Kd.R_elder' (by (with_reducible repeat (first | apply Kd.R_alloc | apply Kd.R_drewN | apply Kd.R_drew)); exact HO_12.out) (Kd.R_base ho0) hb); have n3_ := Aside0.mk (Kd.R_elder' (by (with_reducible repeat (first | apply Kd.R_alloc | apply Kd.R_drewN | apply Kd.R_drew)); exact HO_14.out) (Kd.R_base ho0) hb); have n4_ := Aside0.mk (Kd.R_lower (Kd.R_new' (Kd.R_new' (Kd.R_new' (Kd.R_new' ho0 (Kd.R_lt (by (with_reducible repeat (first | apply Kd.R_alloc | apply Kd.R_drewN | apply Kd.R_drew)); exact HO_7.out))) (Kd.R_lt (by (with_reducible repeat (first | apply Kd.R_alloc | apply Kd.R_drewN | apply Kd.R_drew)); exact HO_8.out))) (Kd.R_lt (by (with_reducible repeat (first | apply Kd.R_alloc | apply Kd.R_drewN | apply Kd.R_drew)); exact HO_12.out))) (Kd.R_lt (by (with_reducible repeat (first | apply Kd.R_alloc | apply Kd.R_drewN | apply Kd.R_drew)); exact HO_14.out))) (below_size (by repeat (first | (with_reducible first | exact HB.out | apply below_alloc | apply pw_below_drewN | apply below_drew1) | exact HB.out)))); have n5_ := Aside0.mk (below_step (by repeat (first | (with_reducible first | exact HB.out | apply below_alloc | apply pw_below_drewN | apply below_drew1) | exact HB.out)) hb); clear HO_7; clear HO_8; clear HO_12; clear HO_14; clear HB; have HO_7 := n0_; have HO_8 := n1_; have HO_12 := n2_; have HO_14 := n3_; have HO286 := n4_; have HB := n5_; clear n0_ n1_ n2_ n3_ n4_ n5_; (try clear hb); (try clear hb2); (try clear hk); (try clear hi); (try clear ho0); obtain ⟨Ao40, co40, eo40⟩ := Kd.R_slice HO_12.out; subst eo40; obtain ⟨Ao41, co41, eo41⟩ := Kd.R_slice HO286.out; subst eo41) | (go_at_call 29; (with_reducible refine (bibelotlaw07_ints.calls kj20 _ _ t276 _ _ t284 false _ ?side1 ?side2 ?side3 ?side4 A34.out).mono ?_); (case side1 => repeat (first | exact (Kd.R_reads' HO_12.out).2.2 | (with_reducible refine Kd.C_alloc ?_ _) | (with_reducible refine Kd.C_drewN ?_ _) | (with_reducible refine Kd.C_drew ?_))); (case side2 => exact (Kd.R_reads' HO_12.out).2.1); (case side3 => repeat (first | exact (Kd.R_reads' HO286.out).2.2 | (with_reducible refine Kd.C_alloc ?_ _) | (with_reducible refine Kd.C_drewN ?_ _) | (with_reducible refine Kd.C_drew ?_))); (case side4 => exact (Kd.R_reads' HO286.out).2.1); rintro e w' ⟨rfl, ⟨nd, rfl⟩⟩))
                          go_ret
                          exact ⟨by first | rfl | (simp [errW_none, errW_some] <;> rfl) | (simp [*, errW_none, errW_some] <;> rfl), by repeat (first | (with_reducible first | exact HB.out | apply below_alloc | apply pw_below_drewN | apply below_drew1) | exact HB.out)⟩
                      · rw [if_neg c32] at H
                        have c32b0 : (t277 == 0) = false := beq_eq_false_iff_ne.mpr c32
                        have c32b1 : (t277 != 0) = true := bne_iff_ne.mpr c32
                        obtain rfl := Option.some.inj H
                        go_wp2
                        go_ret
                        exact ⟨by first | rfl | (simp [errW_none, errW_some] <;> rfl) | (simp [*, errW_none, errW_some] <;> rfl), by repeat (first | (with_reducible first | exact HB.out | apply below_alloc | apply pw_below_drewN | apply below_drew1) | exact HB.out)⟩
                  case rest =>
                    clear HC26
                    try clear c1
                    try clear c2
                    try clear p2
                    try clear c3
                    try clear c5
                    try clear c14
                    try clear c14b0
                    try clear c14b1
                    try clear c17
                    try clear c18
                    try clear c18b0
                    try clear c21
                    try clear c25
                    try clear c25b0
                    try clear c27
                    try clear c28
                    try clear c28b0
                    try clear c28b1
                    try clear c29
                    try clear c29b0
                    try clear c29b1
                    try clear c29b2
                    try clear c30
                    try clear c32
                    try clear c32b0
                    try clear c32b1
                    try clear c33
                    try clear c35
                    try clear p2
                    obtain ⟨kq, HA, HJ25, HO_7, HO_8, HO_14, HB⟩ := hcut
                    cases kq with
                    | zero => exact absurd HA.out (by simp [bibelotlaw07_PancakeFlips.j3])
                    | succ kj25 =>
                      have H := HA.out
                      clear HA
                      simp only [bibelotlaw07_PancakeFlips.j3] at H
                      have HC42 := Aside0.mk H
                      clear H
                      go_upto_region 15 with (fail)
                      go_cut [85] (fun v85 wc => ∃ (kq : Nat) (x85_41 : Bool), v85 = .bool x85_41 ∧ Aside0 (bibelotlaw07_PancakeFlips.j4 kq x2_2 t265 t269 x11_2 t280 t281 x85_41 = some r) ∧ Aside0 (kq ≤ kj25) ∧ Aside0 (Kd.R (Kd.int .i64) 3 wc w.heap.size (fun k_ => some k_ ≠ ((.slice Ao23 t269.length co23) : Value).ownBlock ∧ some k_ ≠ (v282 : Value).ownBlock) (.slice Ao12 t265.length co12) t265) ∧ Aside0 (Kd.R (Kd.int .i64) 3 wc w.heap.size (fun k_ => some k_ ≠ ((.slice Ao12 t265.length co12) : Value).ownBlock ∧ some k_ ≠ (v282 : Value).ownBlock) (.slice Ao23 t269.length co23) t269) ∧ Aside0 (Kd.R (Kd.int .i64) 3 wc w.heap.size (fun k_ => some k_ ≠ ((.slice Ao12 t265.length co12) : Value).ownBlock ∧ some k_ ≠ ((.slice Ao23 t269.length co23) : Value).ownBlock) v282 t280) ∧ Aside0 (Below w.heap.size w wc))
                      case first =>
                        have H := HC42.out
                        clear HC42
                        by_cases c43 : x2_2 < 1
                        · rw [if_pos c43] at H
                          have c43b0 : decide (x2_2 < 1) = true := decide_eq_true c43
                          clear c43
                          (first | rw [c43b0] | (simp only [i64_w, i32_w]; rw [c43b0]) | skip)
                          have H' := Aside0.mk H
                          clear H
                          go_wp2
                          go_meet
                          case rel => exact ⟨_, (true), (by first | rfl | (simp; done) | (simp [*]; done)), H', ⟨by have := HJ8.out; have := HK2.out; have := HJ20.out; have := HJ25.out; first | omega | exact Nat.le_refl _⟩, ⟨by (with_reducible repeat (first | apply Kd.R_alloc | apply Kd.R_drewN | apply Kd.R_drew)); exact HO_7.out⟩, ⟨by (with_reducible repeat (first | apply Kd.R_alloc | apply Kd.R_drewN | apply Kd.R_drew)); exact HO_8.out⟩, ⟨by (with_reducible repeat (first | apply Kd.R_alloc | apply Kd.R_drewN | apply Kd.R_drew)); exact HO_14.out⟩, ⟨by repeat (first | (with_reducible first | exact HB.out | apply below_alloc | apply pw_below_drewN | apply below_drew1) | exact HB.out)⟩⟩
                        · rw [if_neg c43] at H
                          have c43b0 : decide (x2_2 < 1) = false := decide_eq_false c43
                          clear c43
                          (first | rw [c43b0] | (simp only [i64_w, i32_w]; rw [c43b0]) | skip)
                          have H' := Aside0.mk H
                          clear H
                          go_wp2
                          go_meet
                          case rel => exact ⟨_, (decide (x2_2 > (t269.length : Int))), (by first | rfl | (simp; done) | (simp [*]; done)), H', ⟨by have := HJ8.out; have := HK2.out; have := HJ20.out; have := HJ25.out; first | omega | exact Nat.le_refl _⟩, ⟨by (with_reducible repeat (first | apply Kd.R_alloc | apply Kd.R_drewN | apply Kd.R_drew)); exact HO_7.out⟩, ⟨by (with_reducible repeat (first | apply Kd.R_alloc | apply Kd.R_drewN | apply Kd.R_drew)); exact HO_8.out⟩, ⟨by (with_reducible repeat (first | apply Kd.R_alloc | apply Kd.R_drewN | apply Kd.R_drew)); exact HO_14.out⟩, ⟨by repeat (first | (with_reducible first | exact HB.out | apply below_alloc | apply pw_below_drewN | apply below_drew1) | exact HB.out)⟩⟩
                      case rest =>
                        clear HC42
                        try clear c1
                        try clear c2
                        try clear p2
                        try clear c3
                        try clear c4
                        try clear c5
                        try clear c14
                        try clear c14b0
                        try clear c14b1
                        try clear c17
                        try clear c18
                        try clear c18b0
                        try clear c21
                        try clear c25
                        try clear c25b0
                        try clear c27
                        try clear c28
                        try clear c28b0
                        try clear c28b1
                        try clear c29
                        try clear c29b0
                        try clear c29b1
                        try clear c29b2
                        try clear c30
                        try clear c32
                        try clear c32b0
                        try clear c32b1
                        try clear c33
                        try clear c35
                        try clear c43
                        try clear c43b0
                        try clear p2
                        obtain ⟨kq, x85_41, rfl, HA, HJ41, HO_7, HO_8, HO_14, HB⟩ := hcut
                        cases kq with
                        | zero => exact absurd HA.out (by simp [bibelotlaw07_PancakeFlips.j4])
                        | succ kj41 =>
                          have H := HA.out
                          clear HA
                          simp only [bibelotlaw07_PancakeFlips.j4] at H
                          by_cases c44 : x85_41 = true
                          · subst c44
                            have H1 : (if t281 = 1 then (if (t280.length : Int) = 0 then ((bibelotlaw07_many.f x2_2 (t269.length : Int)).bind fun t288 => (bibelotlaw07_PancakeFlips.l0 kj41 t288 t265 t269 (wrap64 (x11_2 + 1)))) else (some false)) else (some false)) = some r := by rw [if_pos rfl] at H; exact H
                            clear H
                            have H := H1
                            clear H1
                            by_cases c45 : t281 = 1
                            · rw [if_pos c45] at H
                              have c45b0 : (t281 == 1) = true := beq_iff_eq.mpr c45
                              have c45b1 : (t281 != 1) = false := bne_eq_false_iff_eq.mpr c45
                              clear c45
                              by_cases c46 : (t280.length : Int) = 0
                              · rw [if_pos c46] at H
                                have c46b0 : ((t280.length : Int) == 0) = true := beq_iff_eq.mpr c46
                                have c46b1 : ((t280.length : Int) != 0) = false := bne_eq_false_iff_eq.mpr c46
                                clear c46
                                replace H := Option.bind_eq_some_iff.mp H
                                obtain ⟨t288, A470, H⟩ := H
                                replace H : (bibelotlaw07_PancakeFlips.l0 kj41 t288 t265 t269 (wrap64 (x11_2 + 1))) = some r := H
                                have A47 := Aside0.mk A470
                                clear A470
                                have H' := Aside0.mk H
                                clear H
                                obtain ⟨Ao48, co48, eo48⟩ := Kd.R_slice HO_14.out
                                subst eo48
                                go_wp2_with (first | ((with_reducible refine gate_callee (f := 21) rfl ?_); refine goesL_ (some 106) rfl rfl Try.func21 (by kernel_rfl) rfl #[.int .i64 x2_2, .int .i64 (t269.length : Int)] rfl (by (try simp only [List.map_toArray, List.map_cons, List.map_nil]); first | done | rfl | (simp only [List.length_drop, List.length_take]; rfl)) ?_; (with_reducible refine (bibelotlaw07_many.calls x2_2 (t269.length : Int) t288 _ A47.out).mono ?_); rintro e w' ⟨rfl, ⟨nd, rfl⟩⟩; refine ⟨_, rfl, ?_⟩))
                                go_roundg kj41
                                case measure => have := HJ8.out; have := HK2.out; have := HJ20.out; have := HJ25.out; have := HJ41.out; omega
                                case rel => exact ⟨(t288), (wrap64 (x11_2 + 1)), (by first | rfl | (simp; done) | (simp [*]; done)), (by first | rfl | (simp; done) | (simp [*]; done)), H', ⟨by have := HJ8.out; have := HK2.out; have := HJ20.out; have := HJ25.out; have := HJ41.out; omega⟩, ⟨by (with_reducible repeat (first | apply Kd.R_alloc | apply Kd.R_drewN | apply Kd.R_drew)); exact Kd.R_mono HO_7.out (fun _ hk => hk.1)⟩, ⟨by (with_reducible repeat (first | apply Kd.R_alloc | apply Kd.R_drewN | apply Kd.R_drew)); exact Kd.R_mono HO_8.out (fun _ hk => hk.1)⟩, ⟨by repeat (first | (with_reducible first | exact HB.out | apply below_alloc | apply pw_below_drewN | apply below_drew1) | exact HB.out)⟩⟩
                              · rw [if_neg c46] at H
                                have c46b0 : ((t280.length : Int) == 0) = false := beq_eq_false_iff_ne.mpr c46
                                have c46b1 : ((t280.length : Int) != 0) = true := bne_iff_ne.mpr c46
                                have c46b2 : ¬ (t280 = []) := fun h_ => c46 (by rw [h_]; rfl)
                                obtain rfl := Option.some.inj H
                                obtain ⟨Ao49, co49, eo49⟩ := Kd.R_slice HO_14.out
                                subst eo49
                                go_wp2
                                go_ret
                                exact ⟨by first | rfl | (simp [errW_none, errW_some] <;> rfl) | (simp [*, errW_none, errW_some] <;> rfl), by repeat (first | (with_reducible first | exact HB.out | apply below_alloc | apply pw_below_drewN | apply below_drew1) | exact HB.out)⟩
                            · rw [if_neg c45] at H
                              have c45b0 : (t281 == 1) = false := beq_eq_false_iff_ne.mpr c45
                              have c45b1 : (t281 != 1) = true := bne_iff_ne.mpr c45
                              obtain rfl := Option.some.inj H
                              go_wp2
                              go_ret
                              exact ⟨by first | rfl | (simp [errW_none, errW_some] <;> rfl) | (simp [*, errW_none, errW_some] <;> rfl), by repeat (first | (with_reducible first | exact HB.out | apply below_alloc | apply pw_below_drewN | apply below_drew1) | exact HB.out)⟩
                          · replace c44 := Bool.eq_false_iff.mpr c44
                            subst c44
                            have H1 : (if t281 = 0 then ((bibelotref07_Flip.f kj41 t269 x2_2 true).bind fun t289 => ((bibelotlaw07_ints.f kj41 t280 t289).bind fun t292 => (if t292 = true then ((bibelotlaw07_many.f x2_2 (t269.length : Int)).bind fun t293 => (bibelotlaw07_PancakeFlips.l0 kj41 t293 t265 t269 (wrap64 (x11_2 + 1)))) else (some false)))) else (some false)) = some r := by rw [if_neg (show ¬ (false = true) by decide)] at H; exact H
                            clear H
                            have H := H1
                            clear H1
                            by_cases c50 : t281 = 0
                            · rw [if_pos c50] at H
                              have c50b0 : (t281 == 0) = true := beq_iff_eq.mpr c50
                              have c50b1 : (t281 != 0) = false := bne_eq_false_iff_eq.mpr c50
                              clear c50
                              replace H := Option.bind_eq_some_iff.mp H
                              obtain ⟨t289, A510, H⟩ := H
                              replace H : ((bibelotlaw07_ints.f kj41 t280 t289).bind fun t292 => (if t292 = true then ((bibelotlaw07_many.f x2_2 (t269.length : Int)).bind fun t293 => (bibelotlaw07_PancakeFlips.l0 kj41 t293 t265 t269 (wrap64 (x11_2 + 1)))) else (some false))) = some r := H
                              have A51 := Aside0.mk A510
                              clear A510
                              replace H := Option.bind_eq_some_iff.mp H
                              obtain ⟨t292, A520, H⟩ := H
                              replace H : (if t292 = true then ((bibelotlaw07_many.f x2_2 (t269.length : Int)).bind fun t293 => (bibelotlaw07_PancakeFlips.l0 kj41 t293 t265 t269 (wrap64 (x11_2 + 1)))) else (some false)) = some r := H
                              have A52 := Aside0.mk A520
                              clear A520
                              by_cases c53 : t292 = true
                              · subst c53
                                have H1 : ((bibelotlaw07_many.f x2_2 (t269.length : Int)).bind fun t293 => (bibelotlaw07_PancakeFlips.l0 kj41 t293 t265 t269 (wrap64 (x11_2 + 1)))) = some r := by rw [if_pos rfl] at H; exact H
                                clear H
                                have H := H1
                                clear H1
                                replace H := Option.bind_eq_some_iff.mp H
                                obtain ⟨t293, A540, H⟩ := H
                                replace H : (bibelotlaw07_PancakeFlips.l0 kj41 t293 t265 t269 (wrap64 (x11_2 + 1))) = some r := H
                                have A54 := Aside0.mk A540
                                clear A540
                                have H' := Aside0.mk H
                                clear H
                                go_wp2_with (first | (go_at_call 34; (with_reducible refine (bibelotref07_Flip.calls kj41 _ _ t269 x2_2 true t289 _ ?side1 ?side2 A51.out).mono ?_); (case side1 => repeat (first | exact (Kd.R_reads' HO_8.out).2.2 | (with_reducible refine Kd.C_alloc ?_ _) | (with_reducible refine Kd.C_drewN ?_ _) | (with_reducible refine Kd.C_drew ?_))); (case side2 => exact (Kd.R_reads' HO_8.out).2.1); rintro e w55 ⟨v290, rfl, ho0, hb⟩; have n0_ := Aside0.mk (Kd.R_elder' (by (with_reducible repeat (first | apply Kd.R_alloc | apply Kd.R_drewN | apply Kd.R_drew)); exact HO_7.out) (Kd.R_base ho0) hb); have n1_ := Aside0.mk (Kd.R_elder' (by (with_reducible repeat (first | apply Kd.R_alloc | apply Kd.R_drewN | apply Kd.R_drew)); exact HO_8.out) (Kd.R_base ho0) hb); have n2_ := Aside0.mk (Kd.R_elder' (by (with_reducible repeat (first | apply Kd.R_alloc | apply Kd.R_drewN | apply Kd.R_drew)); exact HO_14.out) (Kd.R_base ho0) hb); have n3_ := Aside0.mk (Kd.R_lower (Kd.R_new' (Kd.R_new' (Kd.R_new' ho0 (Kd.R_lt (by (with_reducible repeat (first | apply Kd.R_alloc | apply Kd.R_drewN | apply Kd.R_drew)); exact HO_7.out))) (Kd.R_lt (by (with_reducible repeat (first | apply Kd.R_alloc | apply Kd.R_drewN | apply Kd.R_drew)); exact HO_8.out))) (Kd.R_lt (by (with_reducible repeat (first | apply Kd.R_alloc | apply Kd.R_drewN | apply Kd.R_drew)); exact HO_14.out))) (below_size (by repeat (first | (with_reducible first | exact HB.out | apply below_alloc | apply pw_below_drewN | apply below_drew1) | exact HB.out)))); have n4_ := Aside0.mk (below_step (by repeat (first | (with_reducible first | exact HB.out | apply below_alloc | apply pw_below_drewN | apply below_drew1) | exact HB.out)) hb); clear HO_7; clear HO_8; clear HO_14; clear HB; have HO_7 := n0_; have HO_8 := n1_; have HO_14 := n2_; have HO291 := n3_; have HB := n4_; clear n0_ n1_ n2_ n3_ n4_; (try clear hb); (try clear hb2); (try clear hk); (try clear hi); (try clear ho0); obtain ⟨Ao56, co56, eo56⟩ := Kd.R_slice HO_14.out; subst eo56; obtain ⟨Ao57, co57, eo57⟩ := Kd.R_slice HO291.out; subst eo57) | (go_at_call 29; (with_reducible refine (bibelotlaw07_ints.calls kj41 _ _ t280 _ _ t289 true _ ?side1 ?side2 ?side3 ?side4 A52.out).mono ?_); (case side1 => repeat (first | exact (Kd.R_reads' HO_14.out).2.2 | (with_reducible refine Kd.C_alloc ?_ _) | (with_reducible refine Kd.C_drewN ?_ _) | (with_reducible refine Kd.C_drew ?_))); (case side2 => exact (Kd.R_reads' HO_14.out).2.1); (case side3 => repeat (first | exact (Kd.R_reads' HO291.out).2.2 | (with_reducible refine Kd.C_alloc ?_ _) | (with_reducible refine Kd.C_drewN ?_ _) | (with_reducible refine Kd.C_drew ?_))); (case side4 => exact (Kd.R_reads' HO291.out).2.1); rintro e w' ⟨rfl, ⟨nd, rfl⟩⟩) | ((with_reducible refine gate_callee (f := 21) rfl ?_); refine goesL_ (some 106) rfl rfl Try.func21 (by kernel_rfl) rfl #[.int .i64 x2_2, .int .i64 (t269.length : Int)] rfl (by (try simp only [List.map_toArray, List.map_cons, List.map_nil]); first | done | rfl | (simp only [List.length_drop, List.length_take]; rfl)) ?_; (with_reducible refine (bibelotlaw07_many.calls x2_2 (t269.length : Int) t293 _ A54.out).mono ?_); rintro e w' ⟨rfl, ⟨nd, rfl⟩⟩; refine ⟨_, rfl, ?_⟩))
                                go_roundg kj41
                                case measure => have := HJ8.out; have := HK2.out; have := HJ20.out; have := HJ25.out; have := HJ41.out; omega
                                case rel => exact ⟨(t293), (wrap64 (x11_2 + 1)), (by first | rfl | (simp; done) | (simp [*]; done)), (by first | rfl | (simp; done) | (simp [*]; done)), H', ⟨by have := HJ8.out; have := HK2.out; have := HJ20.out; have := HJ25.out; have := HJ41.out; omega⟩, ⟨by (with_reducible repeat (first | apply Kd.R_alloc | apply Kd.R_drewN | apply Kd.R_drew)); exact Kd.R_mono HO_7.out (fun _ hk => hk.1.1)⟩, ⟨by (with_reducible repeat (first | apply Kd.R_alloc | apply Kd.R_drewN | apply Kd.R_drew)); exact Kd.R_mono HO_8.out (fun _ hk => hk.1.1)⟩, ⟨by repeat (first | (with_reducible first | exact HB.out | apply below_alloc | apply pw_below_drewN | apply below_drew1) | exact HB.out)⟩⟩
                              · replace c53 := Bool.eq_false_iff.mpr c53
                                subst c53
                                have H1 : (some false) = some r := by rw [if_neg (show ¬ (false = true) by decide)] at H; exact H
                                clear H
                                have H := H1
                                clear H1
                                obtain rfl := Option.some.inj H
                                go_wp2_with (first | (go_at_call 34; (with_reducible refine (bibelotref07_Flip.calls kj41 _ _ t269 x2_2 true t289 _ ?side1 ?side2 A51.out).mono ?_); (case side1 => repeat (first | exact (Kd.R_reads' HO_8.out).2.2 | (with_reducible refine Kd.C_alloc ?_ _) | (with_reducible refine Kd.C_drewN ?_ _) | (with_reducible refine Kd.C_drew ?_))); (case side2 => exact (Kd.R_reads' HO_8.out).2.1); rintro e w58 ⟨v290, rfl, ho0, hb⟩; have n0_ := Aside0.mk (Kd.R_elder' (by (with_reducible repeat (first | apply Kd.R_alloc | apply Kd.R_drewN | apply Kd.R_drew)); exact HO_7.out) (Kd.R_base ho0) hb); have n1_ := Aside0.mk (Kd.R_elder' (by (with_reducible repeat (first | apply Kd.R_alloc | apply Kd.R_drewN | apply Kd.R_drew)); exact HO_8.out) (Kd.R_base ho0) hb); have n2_ := Aside0.mk (Kd.R_elder' (by (with_reducible repeat (first | apply Kd.R_alloc | apply Kd.R_drewN | apply Kd.R_drew)); exact HO_14.out) (Kd.R_base ho0) hb); have n3_ := Aside0.mk (Kd.R_lower (Kd.R_new' (Kd.R_new' (Kd.R_new' ho0 (Kd.R_lt (by (with_reducible repeat (first | apply Kd.R_alloc | apply Kd.R_drewN | apply Kd.R_drew)); exact HO_7.out))) (Kd.R_lt (by (with_reducible repeat (first | apply Kd.R_alloc | apply Kd.R_drewN | apply Kd.R_drew)); exact HO_8.out))) (Kd.R_lt (by (with_reducible repeat (first | apply Kd.R_alloc | apply Kd.R_drewN | apply Kd.R_drew)); exact HO_14.out))) (below_size (by repeat (first | (with_reducible first | exact HB.out | apply below_alloc | apply pw_below_drewN | apply below_drew1) | exact HB.out)))); have n4_ := Aside0.mk (below_step (by repeat (first | (with_reducible first | exact HB.out | apply below_alloc | apply pw_below_drewN | apply below_drew1) | exact HB.out)) hb); clear HO_7; clear HO_8; clear HO_14; clear HB; have HO_7 := n0_; have HO_8 := n1_; have HO_14 := n2_; have HO291 := n3_; have HB := n4_; clear n0_ n1_ n2_ n3_ n4_; (try clear hb); (try clear hb2); (try clear hk); (try clear hi); (try clear ho0); obtain ⟨Ao59, co59, eo59⟩ := Kd.R_slice HO_14.out; subst eo59; obtain ⟨Ao60, co60, eo60⟩ := Kd.R_slice HO291.out; subst eo60) | (go_at_call 29; (with_reducible refine (bibelotlaw07_ints.calls kj41 _ _ t280 _ _ t289 false _ ?side1 ?side2 ?side3 ?side4 A52.out).mono ?_); (case side1 => repeat (first | exact (Kd.R_reads' HO_14.out).2.2 | (with_reducible refine Kd.C_alloc ?_ _) | (with_reducible refine Kd.C_drewN ?_ _) | (with_reducible refine Kd.C_drew ?_))); (case side2 => exact (Kd.R_reads' HO_14.out).2.1); (case side3 => repeat (first | exact (Kd.R_reads' HO291.out).2.2 | (with_reducible refine Kd.C_alloc ?_ _) | (with_reducible refine Kd.C_drewN ?_ _) | (with_reducible refine Kd.C_drew ?_))); (case side4 => exact (Kd.R_reads' HO291.out).2.1); rintro e w' ⟨rfl, ⟨nd, rfl⟩⟩))
                                go_ret
                                exact ⟨by first | rfl | (simp [errW_none, errW_some] <;> rfl) | (simp [*, errW_none, errW_some] <;> rfl), by repeat (first | (with_reducible first | exact HB.out | apply below_alloc | apply pw_below_drewN | apply below_drew1) | exact HB.out)⟩
                            · rw [if_neg c50] at H
                              have c50b0 : (t281 == 0) = false := beq_eq_false_iff_ne.mpr c50
                              have c50b1 : (t281 != 0) = true := bne_iff_ne.mpr c50
                              obtain rfl := Option.some.inj H
                              go_wp2
                              go_ret
                              exact ⟨by first | rfl | (simp [errW_none, errW_some] <;> rfl) | (simp [*, errW_none, errW_some] <;> rfl), by repeat (first | (with_reducible first | exact HB.out | apply below_alloc | apply pw_below_drewN | apply below_drew1) | exact HB.out)⟩
            · rw [if_neg c18] at H
              have c18b0 : decide (x11_2 < 2) = false := decide_eq_false c18
              clear c18
              replace H := Option.bind_eq_some_iff.mp H
              obtain ⟨t275, A610, H⟩ := H
              replace H : (some t275) = some r := H
              have A61 := Aside0.mk A610
              clear A610
              obtain rfl := Option.some.inj H
              go_wp2_with (first | ((with_reducible refine gate_callee (f := 26) rfl ?_); refine goesL_ (some 107) rfl rfl Try.func26 (by kernel_rfl) rfl #[] rfl (by (try simp only [List.map_toArray, List.map_cons, List.map_nil]); first | done | rfl | (simp only [List.length_drop, List.length_take]; rfl)) ?_; (with_reducible refine (bibelotlaw07_awake.calls  t275 _ A61.out).mono ?_); rintro e w62 ⟨rfl, hb⟩; refine ⟨_, rfl, ?_⟩; have n0_ := Aside0.mk (Kd.R_below (by (with_reducible repeat (first | apply Kd.R_alloc | apply Kd.R_drewN | apply Kd.R_drew)); exact HO_7.out) hb); have n1_ := Aside0.mk (Kd.R_below (by (with_reducible repeat (first | apply Kd.R_alloc | apply Kd.R_drewN | apply Kd.R_drew)); exact HO_8.out) hb); have n2_ := Aside0.mk (below_step (by repeat (first | (with_reducible first | exact HB.out | apply below_alloc | apply pw_below_drewN | apply below_drew1) | exact HB.out)) hb); clear HO_7; clear HO_8; clear HB; have HO_7 := n0_; have HO_8 := n1_; have HB := n2_; clear n0_ n1_ n2_; (try clear hb); (try clear hb2); (try clear hk); (try clear hi)))
              go_ret
              exact ⟨by first | rfl | (simp [errW_none, errW_some] <;> rfl) | (simp [*, errW_none, errW_some] <;> rfl), by repeat (first | (with_reducible first | exact HB.out | apply below_alloc | apply pw_below_drewN | apply below_drew1) | exact HB.out)⟩

/-- THE ONE PURE STATEMENT of bibelotlaw07_PancakeFlips: yours. -/
def bibelotlaw07_PancakeFlips.Pure : Prop := ∀ (a0 : Int) (l1 : List Int) (a2 : Int), (Lit.int .i64 a0).wf = true → l1.length ≤ maxLen → l1.length * 8 ≤ 140737488351232 → (∀ x ∈ l1, (Lit.int .i64 x).wf = true) → (Lit.int .i64 a2).wf = true → ∃ k, bibelotlaw07_PancakeFlips.f k a0 l1 a2 = some true
theorem bibelotlaw07_PancakeFlips.walk (P : bibelotlaw07_PancakeFlips.Pure) (a0 : Int) (a1 : Option Addr) (len1 cap1 : Nat) (z1 : List Int) (a2 : Int) (w : World) (w0 : (Lit.int .i64 a0).wf = true) (w1 : (a1 = none ∧ len1 = 0 ∧ cap1 = 0 ∧ z1 = []) ∨ ∃ x, a1 = some x ∧ len1 ≤ cap1 ∧ cap1 ≤ maxLen ∧ z1.length = cap1 ∧ (∀ i, i < z1.length → w.cell? (x.add i) = some (.int .i64 (z1.getD i 0))) ∧ ∀ n ∈ z1, (Lit.int .i64 n).wf = true) (y1 : len1 * 8 ≤ 140737488351232) (w2 : (Lit.int .i64 a2).wf = true) :
    Calls Try.prog 5 #[.int .i64 a0, .slice a1 len1 cap1, .int .i64 a2] w fun e w' => e = .returned (.bool true) ∧ Below w.heap.size w w' := by
  obtain ⟨l1, rfl, hr1, hm1, hw1, hc1⟩ := ReadsInt.ofRowC w1
  obtain ⟨k, h⟩ := P a0 l1 a2 w0 hm1 y1 hw1 w2
  refine (bibelotlaw07_PancakeFlips.calls k a0 _ _ l1 a2 true w (Kd.C_of_reads (d := (0 : Int)) (h1 := fun _ => rfl) hr1) hc1 h).mono ?_
  rintro e w' ⟨rfl, hd⟩
  exact ⟨rfl, hd⟩

end Go.Proofs.Ytepjhdblmghckaa.Q
/- PancakeFlips: the plain law. -/
namespace Go.Proofs.Ytepjhdblmghckaa.Pure
set_option linter.unusedVariables false
set_option linter.unusedSimpArgs false
set_option linter.unusedSectionVars false
open Go.Proofs.Ytepjhdblmghckaa.G Go.Proofs.Ytepjhdblmghckaa.K
open Go.RowKit Go.Proofs.Ytepjhdblmghckaa.Q Go.Proofs.YtepjhdblmghckaaW.PrintWords Go.Proofs.YtepjhdblmghckaaW.PrintLast
theorem flips_end (x y : List Int) (b : Int) : Ev (fun k => bibelotlaw07_PancakeFlips.l0 k b x y 2) true := by
  refine Ev.step (f := fun _ => (bibelotlaw07_awake.f).bind fun t => some t) (fun k => ?_) (Ev.bind awake_ev (Ev.now _))
  rw [bibelotlaw07_PancakeFlips.l0, if_neg (by decide)]
theorem flips_j3 {n m : Nat} {x y : List Int} (hy : Stk true m y) (hm1 : 1 ≤ m) (hm : m ≤ 6) (b : Int) (r : Int) (hr : r = 0 ∨ r = 1)
    (hgo : ∀ t : Int, Ev (fun k => bibelotlaw07_PancakeFlips.l0 k t x y (r + 1)) true) (a : List Int) (e : Int) (he : (a, e) = if b < 1 ∨ (m : Int) < b then ([], 1) else (flL true y 0 (b.toNat - 1), 0)) :
    Ev (fun k => bibelotlaw07_PancakeFlips.j3 k b x y r a e) true := by
  obtain ⟨t, _, _, ht⟩ := many_f b m hm1 (by omega)
  have hj4 : Ev (fun k => bibelotlaw07_PancakeFlips.j4 k b x y r a e (decide (b < 1 ∨ (m : Int) < b))) true := by
    by_cases hc : b < 1 ∨ (m : Int) < b
    · rw [if_pos hc] at he
      injection he with h1 h2
      subst h1
      subst h2
      refine Ev.step (fun k => ?_) (hgo (t : Int))
      rw [bibelotlaw07_PancakeFlips.j4, if_pos (decide_eq_true hc), if_pos rfl, if_pos (by rfl), hy.len, ht, Option.bind_some, w64 (by omega) (by omega)]
    · rw [if_neg hc] at he
      injection he with h1 h2
      subst h1
      subst h2
      obtain ⟨bn, rfl⟩ := Int.eq_ofNat_of_zero_le (show 0 ≤ b by omega)
      have hf := rflip_ev (l := y) (by rw [hy.len]; omega) (hy.small (by omega)) true bn (by omega) (by rw [hy.len]; omega)
      have hi := ints_ev (flL true y 0 (bn - 1)) (flL true y 0 (bn - 1)) (by rw [flL_len, hy.len]; omega)
      rw [decide_eq_true rfl] at hi
      refine Ev.step (f := fun k => (bibelotref07_Flip.f k y (bn : Int) true).bind fun t289 => ((bibelotlaw07_ints.f k (flL true y 0 (bn - 1)) t289).bind fun t292 => (if t292 = true then ((bibelotlaw07_many.f (bn : Int) (y.length : Int)).bind fun t293 => (bibelotlaw07_PancakeFlips.l0 k t293 x y (wrap64 (r + 1)))) else (some false)))) (fun k => ?_) (Ev.bind hf (Ev.bind hi (Ev.congr (fun k => ?_) (hgo (t : Int)))))
      · rw [bibelotlaw07_PancakeFlips.j4, if_neg (by rw [decide_eq_true_eq]; exact hc), if_pos rfl]
        rfl
      · rw [if_pos rfl, hy.len, ht, Option.bind_some, w64 (by omega) (by omega)]
  by_cases h1 : b < 1
  · rw [decide_eq_true (.inl h1)] at hj4
    refine Ev.step (fun k => ?_) hj4
    rw [bibelotlaw07_PancakeFlips.j3, if_pos h1]
  · have : decide (b < 1 ∨ (m : Int) < b) = decide (b > (y.length : Int)) := decide_eq_decide.2 (by rw [hy.len]; omega)
    rw [this] at hj4
    refine Ev.step (fun k => ?_) hj4
    rw [bibelotlaw07_PancakeFlips.j3, if_neg h1]
theorem flips_l0 {n m : Nat} {x y : List Int} (hx : Stk false n x) (hn1 : 1 ≤ n) (hn : n ≤ 7) (hy : Stk true m y) (hm1 : 1 ≤ m) (hm : m ≤ 6) (r : Int) (hr : r = 0 ∨ r = 1) (hgo : ∀ t : Int, Ev (fun k => bibelotlaw07_PancakeFlips.l0 k t x y (r + 1)) true) (b : Int) :
    Ev (fun k => bibelotlaw07_PancakeFlips.l0 k b x y r) true := by
  obtain ⟨P, hP⟩ : ∃ P : List Int × Int, (if b < 1 ∨ (m : Int) < b then ([], 1) else (flL true y 0 (b.toNat - 1), 0)) = P := ⟨_, rfl⟩
  have hpb := pflipB_ev hy hm1 hm b
  rw [hP] at hpb
  have hj3 := flips_j3 (n := n) (x := x) hy hm1 hm b r hr hgo P.1 P.2 hP.symm
  have hpf := pflip_ev hx hn1 hn b
  have hj2 : Ev (fun k => bibelotlaw07_PancakeFlips.j2 k b x y r (if b < 1 ∨ (n : Int) < b then (([] : List Int), (1 : Int)) else (flL false x 0 (b.toNat - 1), 0)).1 (if b < 1 ∨ (n : Int) < b then (([] : List Int), (1 : Int)) else (flL false x 0 (b.toNat - 1), 0)).2 P.1 P.2 (decide (b < 1 ∨ (n : Int) < b))) true := by
    by_cases hc : b < 1 ∨ (n : Int) < b
    · refine Ev.step (fun k => ?_) hj3
      rw [bibelotlaw07_PancakeFlips.j2, if_pos (decide_eq_true hc), if_pos hc, if_pos rfl, if_pos (by rfl)]
    · obtain ⟨bn, rfl⟩ := Int.eq_ofNat_of_zero_le (show 0 ≤ b by omega)
      have hf := rflip_ev (l := x) (by rw [hx.len]; omega) (hx.small (by omega)) false bn (by omega) (by rw [hx.len]; omega)
      have hi := ints_ev (flL false x 0 (bn - 1)) (flL false x 0 (bn - 1)) (by rw [flL_len, hx.len]; omega)
      rw [decide_eq_true rfl] at hi
      refine Ev.step (f := fun k => (bibelotref07_Flip.f k x (bn : Int) false).bind fun t284 => ((bibelotlaw07_ints.f k (flL false x 0 (bn - 1)) t284).bind fun t287 => (if t287 = true then (bibelotlaw07_PancakeFlips.j3 k (bn : Int) x y r P.1 P.2) else (some false)))) (fun k => ?_) (Ev.bind hf (Ev.bind hi (Ev.congr (fun k => ?_) hj3)))
      · rw [bibelotlaw07_PancakeFlips.j2, if_neg (by rw [decide_eq_true_eq]; exact hc), if_neg hc, if_pos rfl]
        rfl
      · rw [if_pos rfl]
  have hlt : r < 2 := by omega
  refine Ev.step (f := fun k => (pancake_Flip.f k x b).bind fun bt276 => ((pancake_FlipBurnt.f k y b).bind fun bt280 => (if b < 1 then (bibelotlaw07_PancakeFlips.j2 k b x y r bt276.1 bt276.2 bt280.1 bt280.2 true) else (bibelotlaw07_PancakeFlips.j2 k b x y r bt276.1 bt276.2 bt280.1 bt280.2 (decide (b > (x.length : Int))))))) (fun k => ?_) (Ev.bind hpf (Ev.bind hpb (Ev.congr (fun k => ?_) hj2)))
  · rw [bibelotlaw07_PancakeFlips.l0, if_pos hlt]
  · by_cases h1 : b < 1
    · rw [if_pos h1, decide_eq_true (show b < 1 ∨ (n : Int) < b from .inl h1)]
    · have : decide (b > (x.length : Int)) = decide (b < 1 ∨ (n : Int) < b) := decide_eq_decide.2 (by rw [hx.len]; omega)
      rw [if_neg h1, this]
theorem PancakeFlips : bibelotlaw07_PancakeFlips.Pure := by
  intro a0 l1 a2 _ _ _ _ _
  obtain ⟨n, hn1, hn, hne⟩ := many_f a0 7 (by decide) (by decide)
  obtain ⟨m, hm1, hm, hme⟩ := many_f a0 6 (by decide) (by decide)
  have hx := rowOf_stk l1 false n
  have hy := rowOf_stk l1 true m
  obtain ⟨x, hxe⟩ : ∃ x, rowOf l1 false n = x := ⟨_, rfl⟩
  obtain ⟨y, hye⟩ : ∃ y, rowOf l1 true m = y := ⟨_, rfl⟩
  rw [hxe] at hx
  rw [hye] at hy
  have hl1 := flips_l0 hx hn1 hn hy hm1 hm 1 (.inr rfl) (fun t => flips_end x y t)
  have hl0 := flips_l0 hx hn1 hn hy hm1 hm 0 (.inl rfl) hl1 a2
  have hj0 : Ev (fun k => bibelotlaw07_PancakeFlips.j0 k a2 x y false) true := by
    refine Ev.step (fun k => ?_) hl0
    rw [bibelotlaw07_PancakeFlips.j0, if_neg (by decide)]
  have hg := pgaps_ev (isSt_stk hx hn1 (by omega))
  have hr := rgaps_ev x (by rw [hx.len]; omega) (hx.small (by omega))
  refine Ev.rounds (g := fun k => bibelotlaw07_PancakeFlips.f k a0 l1 a2) ?_
  refine Ev.congr (f := fun k => (pancake_Gaps.f k x).bind fun bt272 => (if bt272.2 = 0 then ((bibelotref07_Gaps.f k x).bind fun t274 => (bibelotlaw07_PancakeFlips.j0 k a2 x y (bt272.1 != t274))) else (bibelotlaw07_PancakeFlips.j0 k a2 x y true))) (fun k => ?_) ?_
  · have h7 : bibelotlaw07_many.f a0 7 = some (n : Int) := hne
    have h6 : bibelotlaw07_many.f a0 6 = some (m : Int) := hme
    unfold bibelotlaw07_PancakeFlips.f
    rw [h7, Option.bind_some, row_f l1 n false (by omega), Option.bind_some, h6, Option.bind_some, row_f l1 m true (by omega), Option.bind_some, hxe, hye]
  · refine Ev.bind hg (Ev.congr (f := fun k => (bibelotref07_Gaps.f k x).bind fun t274 => (bibelotlaw07_PancakeFlips.j0 k a2 x y (((gapsN x x.length : Nat) : Int) != t274))) (fun k => by rw [if_pos rfl]) (Ev.bind hr (Ev.congr (fun k => ?_) hj0)))
    rw [show ((((gapsN x x.length : Nat) : Int) != ((gapsN x x.length : Nat) : Int)) = false) by simp]
end Go.Proofs.Ytepjhdblmghckaa.Pure
