/- PancakeBurnt: the same for burnt stacks: the walk and the plain law, for every input. -/
import Derived.Test.YtepjhdblmghckaaA1
import Derived.Test.YtepjhdblmghckaaA2
import Derived.Test.YtepjhdblmghckaaB1
import Derived.Test.YtepjhdblmghckaaA4
namespace Go.Proofs.Ytepjhdblmghckaa.G
end Go.Proofs.Ytepjhdblmghckaa.G
namespace Go.Proofs.Ytepjhdblmghckaa.Q
set_option linter.unusedVariables false
set_option linter.unusedSimpArgs false
set_option linter.unusedSectionVars false
open Go.Proofs.Ytepjhdblmghckaa.G
open Go.RowKit Go.Proofs.YtepjhdblmghckaaW.PrintWords Go.Proofs.YtepjhdblmghckaaW.PrintLast Go.Proofs.YtepjhdblmghckaaW.PrintMore
attribute [local go_sem] max2_int min2_int max_two min_two max_three min_three max_four min_four   -- for this text's walks alone

/-! ### bibelotlaw07_PancakeBurnt: function 16 -/
mutual
def bibelotlaw07_PancakeBurnt.j0 : Nat → Int → List Int → List Int → Bool → Option (Bool)
 | 0, _, _, _, _ => none
 | k + 1, x0, x7, x11, x56 => if x56 = true then (some false) else (bibelotlaw07_PancakeBurnt.l0 k x0 x7 x11 0)
def bibelotlaw07_PancakeBurnt.l0 : Nat → Int → List Int → List Int → Int → Option (Bool)
 | 0, _, _, _, _ => none
 | k + 1, x0, x7, x11, x14 => if x14 < (x11.length : Int) then (if 0 ≤ x14 then (if (rd x11 x14) < 1 then (some false) else (if (rd x11 x14) > x0 then (some false) else ((bibelotref07_Flip.f k x7 (rd x11 x14) true).bind fun t646 => (bibelotlaw07_PancakeBurnt.l0 k x0 t646 x11 (wrap64 (x14 + 1)))))) else (none)) else ((bibelotref07_First.f k x0).bind fun t649 => ((bibelotlaw07_ints.f k x7 t649).bind fun t652 => (if t652 = true then ((bibelotlaw07_awake.f).bind fun t653 => (some t653)) else (some false))))
end
def bibelotlaw07_PancakeBurnt.f (k : Nat) (a0 : Int) (l1 : List Int) (l2 : List Int) : Option (Bool) := (bibelotlaw07_many.f a0 6).bind fun t625 => ((bibelotlaw07_row.f l1 t625 true).bind fun t626 => ((bibelotlaw07_row.f l2 t625 true).bind fun t629 => ((pancake_FlipsBurnt.f t626 t629).bind fun bt632 => ((pancake_OrderBurnt.f t626).bind fun bt634 => ((bibelotref07_First.f k t625).bind fun t638 => ((bibelotref07_Flips.f k t626 t638 true).bind fun t641 => (if bt632.2 = 0 then (if bt634.2 = 0 then ((bibelotref07_Flips.f k t626 t629 true).bind fun t642 => (if bt632.1 = t642 then (bibelotlaw07_PancakeBurnt.j0 k t625 t626 bt634.1 ((bt634.1.length : Int) != t641)) else (bibelotlaw07_PancakeBurnt.j0 k t625 t626 bt634.1 true))) else (bibelotlaw07_PancakeBurnt.j0 k t625 t626 bt634.1 true)) else (bibelotlaw07_PancakeBurnt.j0 k t625 t626 bt634.1 true))))))))
theorem bibelotlaw07_PancakeBurnt.mono_l : ∀ k, (∀ y0 y1 y2 y3, LeO (bibelotlaw07_PancakeBurnt.j0 k y0 y1 y2 y3) (bibelotlaw07_PancakeBurnt.j0 (k + 1) y0 y1 y2 y3)) ∧ (∀ y0 y1 y2 y3, LeO (bibelotlaw07_PancakeBurnt.l0 k y0 y1 y2 y3) (bibelotlaw07_PancakeBurnt.l0 (k + 1) y0 y1 y2 y3))
 | 0 => ⟨fun _ _ _ _ r h => by simp [bibelotlaw07_PancakeBurnt.j0] at h, fun _ _ _ _ r h => by simp [bibelotlaw07_PancakeBurnt.l0] at h⟩
 | k + 1 => by
  obtain ⟨ih0, ih1⟩ := bibelotlaw07_PancakeBurnt.mono_l k
  refine ⟨?_, ?_⟩
  ·intro y0 y1 y2 y3
   unfold bibelotlaw07_PancakeBurnt.j0
   repeat' first
   | (with_reducible exact ih0 _ _ _ _)
   | (with_reducible exact ih1 _ _ _ _)
   | (with_reducible exact bibelotlaw07_ints.mono _ _ _)
   | (with_reducible exact bibelotref07_First.mono _ _)
   | (with_reducible exact bibelotref07_Flip.mono _ _ _ _)
   | (with_reducible exact bibelotref07_Flips.mono _ _ _ _)
   | (with_reducible exact LeO.refl _)
   | (with_reducible exact LeO.none _)
   | (with_reducible refine LeO.ite ?_ ?_)
   | (with_reducible refine LeO.bind ?_ (fun _ => ?_))
   | exact ih0 _ _ _ _
   | exact ih1 _ _ _ _
   | exact bibelotlaw07_ints.mono _ _ _
   | exact bibelotref07_First.mono _ _
   | exact bibelotref07_Flip.mono _ _ _ _
   | exact bibelotref07_Flips.mono _ _ _ _
   | exact LeO.none _
   | refine LeO.ite ?_ ?_
   | refine LeO.bind ?_ (fun _ => ?_)
  ·intro y0 y1 y2 y3
   unfold bibelotlaw07_PancakeBurnt.l0
   repeat' first
   | (with_reducible exact ih0 _ _ _ _)
   | (with_reducible exact ih1 _ _ _ _)
   | (with_reducible exact bibelotlaw07_ints.mono _ _ _)
   | (with_reducible exact bibelotref07_First.mono _ _)
   | (with_reducible exact bibelotref07_Flip.mono _ _ _ _)
   | (with_reducible exact bibelotref07_Flips.mono _ _ _ _)
   | (with_reducible exact LeO.refl _)
   | (with_reducible exact LeO.none _)
   | (with_reducible refine LeO.ite ?_ ?_)
   | (with_reducible refine LeO.bind ?_ (fun _ => ?_))
   | exact ih0 _ _ _ _
   | exact ih1 _ _ _ _
   | exact bibelotlaw07_ints.mono _ _ _
   | exact bibelotref07_First.mono _ _
   | exact bibelotref07_Flip.mono _ _ _ _
   | exact bibelotref07_Flips.mono _ _ _ _
   | exact LeO.none _
   | refine LeO.ite ?_ ?_
   | refine LeO.bind ?_ (fun _ => ?_)
theorem bibelotlaw07_PancakeBurnt.mono : ∀ a0 a1 a2 k, LeO (bibelotlaw07_PancakeBurnt.f k a0 a1 a2) (bibelotlaw07_PancakeBurnt.f (k + 1) a0 a1 a2) := by
 intro a0 a1 a2 k
 obtain ⟨ih0, ih1⟩ := bibelotlaw07_PancakeBurnt.mono_l k
 unfold bibelotlaw07_PancakeBurnt.f
 repeat' first
   | (with_reducible exact ih0 _ _ _ _)
   | (with_reducible exact ih1 _ _ _ _)
   | (with_reducible exact bibelotlaw07_ints.mono _ _ _)
   | (with_reducible exact bibelotref07_First.mono _ _)
   | (with_reducible exact bibelotref07_Flip.mono _ _ _ _)
   | (with_reducible exact bibelotref07_Flips.mono _ _ _ _)
   | (with_reducible exact LeO.refl _)
   | (with_reducible exact LeO.none _)
   | (with_reducible refine LeO.ite ?_ ?_)
   | (with_reducible refine LeO.bind ?_ (fun _ => ?_))
   | exact ih0 _ _ _ _
   | exact ih1 _ _ _ _
   | exact bibelotlaw07_ints.mono _ _ _
   | exact bibelotref07_First.mono _ _
   | exact bibelotref07_Flip.mono _ _ _ _
   | exact bibelotref07_Flips.mono _ _ _ _
   | exact LeO.none _
   | refine LeO.ite ?_ ?_
   | refine LeO.bind ?_ (fun _ => ?_)
set_option maxHeartbeats 8000000 in
set_option maxRecDepth 100000 in
theorem bibelotlaw07_PancakeBurnt.calls (k : Nat) (a0 : Int) (A1 : Option Addr) (c1 : Nat) (l1 : List Int) (A2 : Option Addr) (c2 : Nat) (l2 : List Int) (r : Bool) (w : World) (hr1 : Kd.C (Kd.int .i64) w A1 l1.length l1) (hc1 : l1.length ≤ c1) (hr2 : Kd.C (Kd.int .i64) w A2 l2.length l2) (hc2 : l2.length ≤ c2) (h : bibelotlaw07_PancakeBurnt.f k a0 l1 l2 = some r) :
  Calls Try.prog 16 #[.int .i64 a0, .slice A1 l1.length c1, .slice A2 l2.length c2] w fun e w' => e = .returned (.bool r) ∧ Below w.heap.size w w' := by
 have HR1 := Aside0.mk hr1
 have HC1 := Aside0.mk hc1
 clear hr1 hc1
 have HR2 := Aside0.mk hr2
 have HC2 := Aside0.mk hc2
 clear hr2 hc2
 have HB := Aside0.mk (Below.refl w.heap.size w)
 have H : ((bibelotlaw07_many.f a0 6).bind fun t625 => ((bibelotlaw07_row.f l1 t625 true).bind fun t626 => ((bibelotlaw07_row.f l2 t625 true).bind fun t629 => ((pancake_FlipsBurnt.f t626 t629).bind fun bt632 => ((pancake_OrderBurnt.f t626).bind fun bt634 => ((bibelotref07_First.f k t625).bind fun t638 => ((bibelotref07_Flips.f k t626 t638 true).bind fun t641 => (if bt632.2 = 0 then (if bt634.2 = 0 then ((bibelotref07_Flips.f k t626 t629 true).bind fun t642 => (if bt632.1 = t642 then (bibelotlaw07_PancakeBurnt.j0 k t625 t626 bt634.1 ((bt634.1.length : Int) != t641)) else (bibelotlaw07_PancakeBurnt.j0 k t625 t626 bt634.1 true))) else (bibelotlaw07_PancakeBurnt.j0 k t625 t626 bt634.1 true)) else (bibelotlaw07_PancakeBurnt.j0 k t625 t626 bt634.1 true))))))))) = some r := h
 clear h
 replace H := Option.bind_eq_some_iff.mp H
 obtain ⟨t625, A40, H⟩ := H
 replace H : ((bibelotlaw07_row.f l1 t625 true).bind fun t626 => ((bibelotlaw07_row.f l2 t625 true).bind fun t629 => ((pancake_FlipsBurnt.f t626 t629).bind fun bt632 => ((pancake_OrderBurnt.f t626).bind fun bt634 => ((bibelotref07_First.f k t625).bind fun t638 => ((bibelotref07_Flips.f k t626 t638 true).bind fun t641 => (if bt632.2 = 0 then (if bt634.2 = 0 then ((bibelotref07_Flips.f k t626 t629 true).bind fun t642 => (if bt632.1 = t642 then (bibelotlaw07_PancakeBurnt.j0 k t625 t626 bt634.1 ((bt634.1.length : Int) != t641)) else (bibelotlaw07_PancakeBurnt.j0 k t625 t626 bt634.1 true))) else (bibelotlaw07_PancakeBurnt.j0 k t625 t626 bt634.1 true)) else (bibelotlaw07_PancakeBurnt.j0 k t625 t626 bt634.1 true)))))))) = some r := H
 have A4 := Aside0.mk A40
 clear A40
 replace H := Option.bind_eq_some_iff.mp H
 obtain ⟨t626, A50, H⟩ := H
 replace H : ((bibelotlaw07_row.f l2 t625 true).bind fun t629 => ((pancake_FlipsBurnt.f t626 t629).bind fun bt632 => ((pancake_OrderBurnt.f t626).bind fun bt634 => ((bibelotref07_First.f k t625).bind fun t638 => ((bibelotref07_Flips.f k t626 t638 true).bind fun t641 => (if bt632.2 = 0 then (if bt634.2 = 0 then ((bibelotref07_Flips.f k t626 t629 true).bind fun t642 => (if bt632.1 = t642 then (bibelotlaw07_PancakeBurnt.j0 k t625 t626 bt634.1 ((bt634.1.length : Int) != t641)) else (bibelotlaw07_PancakeBurnt.j0 k t625 t626 bt634.1 true))) else (bibelotlaw07_PancakeBurnt.j0 k t625 t626 bt634.1 true)) else (bibelotlaw07_PancakeBurnt.j0 k t625 t626 bt634.1 true))))))) = some r := H
 have A5 := Aside0.mk A50
 clear A50
 replace H := Option.bind_eq_some_iff.mp H
 obtain ⟨t629, A60, H⟩ := H
 replace H : ((pancake_FlipsBurnt.f t626 t629).bind fun bt632 => ((pancake_OrderBurnt.f t626).bind fun bt634 => ((bibelotref07_First.f k t625).bind fun t638 => ((bibelotref07_Flips.f k t626 t638 true).bind fun t641 => (if bt632.2 = 0 then (if bt634.2 = 0 then ((bibelotref07_Flips.f k t626 t629 true).bind fun t642 => (if bt632.1 = t642 then (bibelotlaw07_PancakeBurnt.j0 k t625 t626 bt634.1 ((bt634.1.length : Int) != t641)) else (bibelotlaw07_PancakeBurnt.j0 k t625 t626 bt634.1 true))) else (bibelotlaw07_PancakeBurnt.j0 k t625 t626 bt634.1 true)) else (bibelotlaw07_PancakeBurnt.j0 k t625 t626 bt634.1 true)))))) = some r := H
 have A6 := Aside0.mk A60
 clear A60
 replace H := Option.bind_eq_some_iff.mp H
 obtain ⟨⟨t632, t633⟩, A70, H⟩ := H
 replace H : ((pancake_OrderBurnt.f t626).bind fun bt634 => ((bibelotref07_First.f k t625).bind fun t638 => ((bibelotref07_Flips.f k t626 t638 true).bind fun t641 => (if t633 = 0 then (if bt634.2 = 0 then ((bibelotref07_Flips.f k t626 t629 true).bind fun t642 => (if t632 = t642 then (bibelotlaw07_PancakeBurnt.j0 k t625 t626 bt634.1 ((bt634.1.length : Int) != t641)) else (bibelotlaw07_PancakeBurnt.j0 k t625 t626 bt634.1 true))) else (bibelotlaw07_PancakeBurnt.j0 k t625 t626 bt634.1 true)) else (bibelotlaw07_PancakeBurnt.j0 k t625 t626 bt634.1 true))))) = some r := H
 have A7 := Aside0.mk A70
 clear A70
 replace H := Option.bind_eq_some_iff.mp H
 obtain ⟨⟨t634, t635⟩, A80, H⟩ := H
 replace H : ((bibelotref07_First.f k t625).bind fun t638 => ((bibelotref07_Flips.f k t626 t638 true).bind fun t641 => (if t633 = 0 then (if t635 = 0 then ((bibelotref07_Flips.f k t626 t629 true).bind fun t642 => (if t632 = t642 then (bibelotlaw07_PancakeBurnt.j0 k t625 t626 t634 ((t634.length : Int) != t641)) else (bibelotlaw07_PancakeBurnt.j0 k t625 t626 t634 true))) else (bibelotlaw07_PancakeBurnt.j0 k t625 t626 t634 true)) else (bibelotlaw07_PancakeBurnt.j0 k t625 t626 t634 true)))) = some r := H
 have A8 := Aside0.mk A80
 clear A80
 replace H := Option.bind_eq_some_iff.mp H
 obtain ⟨t638, A90, H⟩ := H
 replace H : ((bibelotref07_Flips.f k t626 t638 true).bind fun t641 => (if t633 = 0 then (if t635 = 0 then ((bibelotref07_Flips.f k t626 t629 true).bind fun t642 => (if t632 = t642 then (bibelotlaw07_PancakeBurnt.j0 k t625 t626 t634 ((t634.length : Int) != t641)) else (bibelotlaw07_PancakeBurnt.j0 k t625 t626 t634 true))) else (bibelotlaw07_PancakeBurnt.j0 k t625 t626 t634 true)) else (bibelotlaw07_PancakeBurnt.j0 k t625 t626 t634 true))) = some r := H
 have A9 := Aside0.mk A90
 clear A90
 replace H := Option.bind_eq_some_iff.mp H
 obtain ⟨t641, A100, H⟩ := H
 replace H : (if t633 = 0 then (if t635 = 0 then ((bibelotref07_Flips.f k t626 t629 true).bind fun t642 => (if t632 = t642 then (bibelotlaw07_PancakeBurnt.j0 k t625 t626 t634 ((t634.length : Int) != t641)) else (bibelotlaw07_PancakeBurnt.j0 k t625 t626 t634 true))) else (bibelotlaw07_PancakeBurnt.j0 k t625 t626 t634 true)) else (bibelotlaw07_PancakeBurnt.j0 k t625 t626 t634 true)) = some r := H
 have A10 := Aside0.mk A100
 clear A100
 have HC11 := Aside0.mk H
 clear H
 go_enter Try.func16, Try.ntmps16
 go_upto_region 6 with (first | ((with_reducible refine gate_callee (f := 21) rfl ?_); refine goesL_ (some 16) rfl rfl Try.func21 (by kernel_rfl) rfl #[.int .i64 a0, .int .i64 6] rfl (by (try simp only [List.map_toArray, List.map_cons, List.map_nil]); first | done | rfl | (simp only [List.length_drop, List.length_take]; rfl)) ?_; (with_reducible refine (bibelotlaw07_many.calls a0 6 t625 _ A4.out).mono ?_); rintro e w' ⟨rfl, ⟨nd, rfl⟩⟩; refine ⟨_, rfl, ?_⟩) | ((with_reducible refine gate_callee (f := 27) rfl ?_); refine goesL_ (some 19) rfl rfl Try.func27 (by kernel_rfl) rfl #[.slice A1 l1.length c1, .int .i64 t625, .bool true] rfl (by (try simp only [List.map_toArray, List.map_cons, List.map_nil]); first | done | rfl | (simp only [List.length_drop, List.length_take]; rfl)) ?_; (with_reducible refine (bibelotlaw07_row.calls _ _ l1 t625 true t626 _ ?side1 ?side2 A5.out).mono ?_); (case side1 => repeat (first | exact HR1.out | (with_reducible refine Kd.C_alloc ?_ _) | (with_reducible refine Kd.C_drewN ?_ _) | (with_reducible refine Kd.C_drew ?_))); (case side2 => exact HC1.out); rintro e w12 ⟨v627, rfl, ho0, hb⟩; refine ⟨_, rfl, ?_⟩; have n0_ := Aside0.mk (Kd.R_lower ho0 (below_size (by repeat (first | (with_reducible first | exact HB.out | apply below_alloc | apply pw_below_drewN | apply below_drew1) | exact HB.out)))); have n1_ := Aside0.mk (below_step (by repeat (first | (with_reducible first | exact HB.out | apply below_alloc | apply pw_below_drewN | apply below_drew1) | exact HB.out)) hb); clear HB; have HO628 := n0_; have HB := n1_; clear n0_ n1_; (try clear hb); (try clear hb2); (try clear hk); (try clear hi); (try clear ho0)) | ((with_reducible refine gate_callee (f := 27) rfl ?_); refine goesL_ (some 22) rfl rfl Try.func27 (by kernel_rfl) rfl #[.slice A2 l2.length c2, .int .i64 t625, .bool true] rfl (by (try simp only [List.map_toArray, List.map_cons, List.map_nil]); first | done | rfl | (simp only [List.length_drop, List.length_take]; rfl)) ?_; (with_reducible refine (bibelotlaw07_row.calls _ _ l2 t625 true t629 _ ?side1 ?side2 A6.out).mono ?_); (case side1 => repeat (first | exact (Kd.C_below HR2.out HB.out) | (with_reducible refine Kd.C_alloc ?_ _) | (with_reducible refine Kd.C_drewN ?_ _) | (with_reducible refine Kd.C_drew ?_))); (case side2 => exact HC2.out); rintro e w13 ⟨v630, rfl, ho0, hb⟩; refine ⟨_, rfl, ?_⟩; have n0_ := Aside0.mk (Kd.R_elder' (by (with_reducible repeat (first | apply Kd.R_alloc | apply Kd.R_drewN | apply Kd.R_drew)); exact HO628.out) (Kd.R_base ho0) hb); have n1_ := Aside0.mk (Kd.R_lower (Kd.R_new' ho0 (Kd.R_lt (by (with_reducible repeat (first | apply Kd.R_alloc | apply Kd.R_drewN | apply Kd.R_drew)); exact HO628.out))) (below_size (by repeat (first | (with_reducible first | exact HB.out | apply below_alloc | apply pw_below_drewN | apply below_drew1) | exact HB.out)))); have n2_ := Aside0.mk (below_step (by repeat (first | (with_reducible first | exact HB.out | apply below_alloc | apply pw_below_drewN | apply below_drew1) | exact HB.out)) hb); clear HO628; clear HB; have HO628 := n0_; have HO631 := n1_; have HB := n2_; clear n0_ n1_ n2_; (try clear hb); (try clear hb2); (try clear hk); (try clear hi); (try clear ho0); obtain ⟨Ao14, co14, eo14⟩ := Kd.R_slice HO628.out; subst eo14; obtain ⟨Ao15, co15, eo15⟩ := Kd.R_slice HO631.out; subst eo15) | ((with_reducible refine gate_callee (f := 41) rfl ?_); refine goesL_ (some 26) rfl rfl Try.func41 (by kernel_rfl) rfl #[.slice Ao14 t626.length co14, .slice Ao15 t629.length co15] rfl (by (try simp only [List.map_toArray, List.map_cons, List.map_nil]); first | done | rfl | (simp only [List.length_drop, List.length_take]; rfl)) ?_; (with_reducible refine (pancake_FlipsBurnt.calls _ _ t626 _ _ t629 t632 t633 _ ?side1 ?side2 ?side3 ?side4 A7.out).mono ?_); (case side1 => repeat (first | exact (Kd.R_reads' HO628.out).2.2 | (with_reducible refine Kd.C_alloc ?_ _) | (with_reducible refine Kd.C_drewN ?_ _) | (with_reducible refine Kd.C_drew ?_))); (case side2 => exact (Kd.R_reads' HO628.out).2.1); (case side3 => repeat (first | exact (Kd.R_reads' HO631.out).2.2 | (with_reducible refine Kd.C_alloc ?_ _) | (with_reducible refine Kd.C_drewN ?_ _) | (with_reducible refine Kd.C_drew ?_))); (case side4 => exact (Kd.R_reads' HO631.out).2.1); rintro e w16 ⟨rfl, hb⟩; refine ⟨_, rfl, ?_⟩; have n0_ := Aside0.mk (Kd.R_below (by (with_reducible repeat (first | apply Kd.R_alloc | apply Kd.R_drewN | apply Kd.R_drew)); exact HO628.out) hb); have n1_ := Aside0.mk (Kd.R_below (by (with_reducible repeat (first | apply Kd.R_alloc | apply Kd.R_drewN | apply Kd.R_drew)); exact HO631.out) hb); have n2_ := Aside0.mk (below_step (by repeat (first | (with_reducible first | exact HB.out | apply below_alloc | apply pw_below_drewN | apply below_drew1) | exact HB.out)) hb); clear HO628; clear HO631; clear HB; have HO628 := n0_; have HO631 := n1_; have HB := n2_; clear n0_ n1_ n2_; (try clear hb); (try clear hb2); (try clear hk); (try clear hi)) | ((with_reducible refine gate_callee (f := 53) rfl ?_); refine goesL_ (some 31) rfl rfl Try.func53 (by kernel_rfl) rfl #[.slice Ao14 t626.length co14] rfl (by (try simp only [List.map_toArray, List.map_cons, List.map_nil]); first | done | rfl | (simp only [List.length_drop, List.length_take]; rfl)) ?_; (with_reducible refine (pancake_OrderBurnt.calls _ _ t626 t634 t635 _ ?side1 ?side2 A8.out).mono ?_); (case side1 => repeat (first | exact (Kd.R_reads' HO628.out).2.2 | (with_reducible refine Kd.C_alloc ?_ _) | (with_reducible refine Kd.C_drewN ?_ _) | (with_reducible refine Kd.C_drew ?_))); (case side2 => exact (Kd.R_reads' HO628.out).2.1); rintro e w17 ⟨v636, rfl, ho0, hb⟩; refine ⟨_, rfl, ?_⟩; have n0_ := Aside0.mk (Kd.R_elder' (by (with_reducible repeat (first | apply Kd.R_alloc | apply Kd.R_drewN | apply Kd.R_drew)); exact HO628.out) (Kd.R_base ho0) hb); have n1_ := Aside0.mk (Kd.R_elder' (by (with_reducible repeat (first | apply Kd.R_alloc | apply Kd.R_drewN | apply Kd.R_drew)); exact HO631.out) (Kd.R_base ho0) hb); have n2_ := Aside0.mk (Kd.R_lower (Kd.R_new' (Kd.R_new' ho0 (Kd.R_lt (by (with_reducible repeat (first | apply Kd.R_alloc | apply Kd.R_drewN | apply Kd.R_drew)); exact HO628.out))) (Kd.R_lt (by (with_reducible repeat (first | apply Kd.R_alloc | apply Kd.R_drewN | apply Kd.R_drew)); exact HO631.out))) (below_size (by repeat (first | (with_reducible first | exact HB.out | apply below_alloc | apply pw_below_drewN | apply below_drew1) | exact HB.out)))); have n3_ := Aside0.mk (below_step (by repeat (first | (with_reducible first | exact HB.out | apply below_alloc | apply pw_below_drewN | apply below_drew1) | exact HB.out)) hb); clear HO628; clear HO631; clear HB; have HO628 := n0_; have HO631 := n1_; have HO637 := n2_; have HB := n3_; clear n0_ n1_ n2_ n3_; (try clear hb); (try clear hb2); (try clear hk); (try clear hi); (try clear ho0)) | ((with_reducible refine gate_callee (f := 49) rfl ?_); refine goesL_ (some 36) rfl rfl Try.func49 (by kernel_rfl) rfl #[.int .i64 t625] rfl (by (try simp only [List.map_toArray, List.map_cons, List.map_nil]); first | done | rfl | (simp only [List.length_drop, List.length_take]; rfl)) ?_; (with_reducible refine (bibelotref07_First.calls k t625 t638 _ A9.out).mono ?_); rintro e w18 ⟨v639, rfl, ho0, hb⟩; refine ⟨_, rfl, ?_⟩; have n0_ := Aside0.mk (Kd.R_elder' (by (with_reducible repeat (first | apply Kd.R_alloc | apply Kd.R_drewN | apply Kd.R_drew)); exact HO628.out) (Kd.R_base ho0) hb); have n1_ := Aside0.mk (Kd.R_elder' (by (with_reducible repeat (first | apply Kd.R_alloc | apply Kd.R_drewN | apply Kd.R_drew)); exact HO631.out) (Kd.R_base ho0) hb); have n2_ := Aside0.mk (Kd.R_elder' (by (with_reducible repeat (first | apply Kd.R_alloc | apply Kd.R_drewN | apply Kd.R_drew)); exact HO637.out) (Kd.R_base ho0) hb); have n3_ := Aside0.mk (Kd.R_lower (Kd.R_new' (Kd.R_new' (Kd.R_new' ho0 (Kd.R_lt (by (with_reducible repeat (first | apply Kd.R_alloc | apply Kd.R_drewN | apply Kd.R_drew)); exact HO628.out))) (Kd.R_lt (by (with_reducible repeat (first | apply Kd.R_alloc | apply Kd.R_drewN | apply Kd.R_drew)); exact HO631.out))) (Kd.R_lt (by (with_reducible repeat (first | apply Kd.R_alloc | apply Kd.R_drewN | apply Kd.R_drew)); exact HO637.out))) (below_size (by repeat (first | (with_reducible first | exact HB.out | apply below_alloc | apply pw_below_drewN | apply below_drew1) | exact HB.out)))); have n4_ := Aside0.mk (below_step (by repeat (first | (with_reducible first | exact HB.out | apply below_alloc | apply pw_below_drewN | apply below_drew1) | exact HB.out)) hb); clear HO628; clear HO631; clear HO637; clear HB; have HO628 := n0_; have HO631 := n1_; have HO637 := n2_; have HO640 := n3_; have HB := n4_; clear n0_ n1_ n2_ n3_ n4_; (try clear hb); (try clear hb2); (try clear hk); (try clear hi); (try clear ho0); obtain ⟨Ao19, co19, eo19⟩ := Kd.R_slice HO640.out; subst eo19) | ((with_reducible refine gate_callee (f := 48) rfl ?_); refine goesL_ (some 37) rfl rfl Try.func48 (by kernel_rfl) rfl #[.slice Ao14 t626.length co14, .slice Ao19 t638.length co19, .bool true] rfl (by (try simp only [List.map_toArray, List.map_cons, List.map_nil]); first | done | rfl | (simp only [List.length_drop, List.length_take]; rfl)) ?_; (with_reducible refine (bibelotref07_Flips.calls k _ _ t626 _ _ t638 true t641 _ ?side1 ?side2 ?side3 ?side4 A10.out).mono ?_); (case side1 => repeat (first | exact (Kd.R_reads' HO628.out).2.2 | (with_reducible refine Kd.C_alloc ?_ _) | (with_reducible refine Kd.C_drewN ?_ _) | (with_reducible refine Kd.C_drew ?_))); (case side2 => exact (Kd.R_reads' HO628.out).2.1); (case side3 => repeat (first | exact (Kd.R_reads' HO640.out).2.2 | (with_reducible refine Kd.C_alloc ?_ _) | (with_reducible refine Kd.C_drewN ?_ _) | (with_reducible refine Kd.C_drew ?_))); (case side4 => exact (Kd.R_reads' HO640.out).2.1); rintro e w20 ⟨rfl, hb⟩; refine ⟨_, rfl, ?_⟩; have n0_ := Aside0.mk (Kd.R_below (by (with_reducible repeat (first | apply Kd.R_alloc | apply Kd.R_drewN | apply Kd.R_drew)); exact HO628.out) hb); have n1_ := Aside0.mk (Kd.R_below (by (with_reducible repeat (first | apply Kd.R_alloc | apply Kd.R_drewN | apply Kd.R_drew)); exact HO631.out) hb); have n2_ := Aside0.mk (Kd.R_below (by (with_reducible repeat (first | apply Kd.R_alloc | apply Kd.R_drewN | apply Kd.R_drew)); exact HO637.out) hb); have n3_ := Aside0.mk (Kd.R_below (by (with_reducible repeat (first | apply Kd.R_alloc | apply Kd.R_drewN | apply Kd.R_drew)); exact HO640.out) hb); have n4_ := Aside0.mk (below_step (by repeat (first | (with_reducible first | exact HB.out | apply below_alloc | apply pw_below_drewN | apply below_drew1) | exact HB.out)) hb); clear HO628; clear HO631; clear HO637; clear HO640; clear HB; have HO628 := n0_; have HO631 := n1_; have HO637 := n2_; have HO640 := n3_; have HB := n4_; clear n0_ n1_ n2_ n3_ n4_; (try clear hb); (try clear hb2); (try clear hk); (try clear hi)))
 (try simp only [Act.put, List.setIfInBounds_toArray, List.set_cons_zero, List.set_cons_succ])
 go_cut [56] (fun v56 wc => ∃ (kq : Nat) (x56_10 : Bool), v56 = .bool x56_10 ∧ Aside0 (bibelotlaw07_PancakeBurnt.j0 kq t625 t626 t634 x56_10 = some r) ∧ Aside0 (kq ≤ k) ∧ Aside0 (Kd.R (Kd.int .i64) 3 wc w.heap.size (fun k_ => some k_ ≠ (v636 : Value).ownBlock) (.slice Ao14 t626.length co14) t626) ∧ Aside0 (Kd.R (Kd.int .i64) 3 wc w.heap.size (fun k_ => some k_ ≠ ((.slice Ao14 t626.length co14) : Value).ownBlock) v636 t634) ∧ Aside0 (Below w.heap.size w wc))
 case first =>
  have H := HC11.out
  clear HC11
  by_cases c21 : t633 = 0
  ·rw [if_pos c21] at H
   have c21b0 : (t633 == 0) = true := beq_iff_eq.mpr c21
   have c21b1 : (t633 != 0) = false := bne_eq_false_iff_eq.mpr c21
   clear c21
   (first | rw [c21b0] | (simp only [i64_w, i32_w]; rw [c21b0]) | skip)
   by_cases c22 : t635 = 0
   ·rw [if_pos c22] at H
    have c22b0 : (t635 == 0) = true := beq_iff_eq.mpr c22
    have c22b1 : (t635 != 0) = false := bne_eq_false_iff_eq.mpr c22
    clear c22
    replace H := Option.bind_eq_some_iff.mp H
    obtain ⟨t642, A230, H⟩ := H
    replace H : (if t632 = t642 then (bibelotlaw07_PancakeBurnt.j0 k t625 t626 t634 ((t634.length : Int) != t641)) else (bibelotlaw07_PancakeBurnt.j0 k t625 t626 t634 true)) = some r := H
    have A23 := Aside0.mk A230
    clear A230
    by_cases c24 : t632 = t642
    ·rw [if_pos c24] at H
     have c24b0 : (t632 == t642) = true := beq_iff_eq.mpr c24
     have c24b1 : (t632 != t642) = false := bne_eq_false_iff_eq.mpr c24
     clear c24
     have H' := Aside0.mk H
     clear H
     go_wp2_with (first | (go_at_call 48; (with_reducible refine (bibelotref07_Flips.calls k _ _ t626 _ _ t629 true t642 _ ?side1 ?side2 ?side3 ?side4 A23.out).mono ?_); (case side1 => repeat (first | exact (Kd.R_reads' HO628.out).2.2 | (with_reducible refine Kd.C_alloc ?_ _) | (with_reducible refine Kd.C_drewN ?_ _) | (with_reducible refine Kd.C_drew ?_))); (case side2 => exact (Kd.R_reads' HO628.out).2.1); (case side3 => repeat (first | exact (Kd.R_reads' HO631.out).2.2 | (with_reducible refine Kd.C_alloc ?_ _) | (with_reducible refine Kd.C_drewN ?_ _) | (with_reducible refine Kd.C_drew ?_))); (case side4 => exact (Kd.R_reads' HO631.out).2.1); rintro e w25 ⟨rfl, hb⟩; have n0_ := Aside0.mk (Kd.R_below (by (with_reducible repeat (first | apply Kd.R_alloc | apply Kd.R_drewN | apply Kd.R_drew)); exact HO628.out) hb); have n1_ := Aside0.mk (Kd.R_below (by (with_reducible repeat (first | apply Kd.R_alloc | apply Kd.R_drewN | apply Kd.R_drew)); exact HO631.out) hb); have n2_ := Aside0.mk (Kd.R_below (by (with_reducible repeat (first | apply Kd.R_alloc | apply Kd.R_drewN | apply Kd.R_drew)); exact HO637.out) hb); have n3_ := Aside0.mk (Kd.R_below (by (with_reducible repeat (first | apply Kd.R_alloc | apply Kd.R_drewN | apply Kd.R_drew)); exact HO640.out) hb); have n4_ := Aside0.mk (below_step (by repeat (first | (with_reducible first | exact HB.out | apply below_alloc | apply pw_below_drewN | apply below_drew1) | exact HB.out)) hb); clear HO628; clear HO631; clear HO637; clear HO640; clear HB; have HO628 := n0_; have HO631 := n1_; have HO637 := n2_; have HO640 := n3_; have HB := n4_; clear n0_ n1_ n2_ n3_ n4_; (try clear hb); (try clear hb2); (try clear hk); (try clear hi); obtain ⟨Ao26, co26, eo26⟩ := Kd.R_slice HO637.out; subst eo26))
     go_meet
     case rel => exact ⟨_, (((t634.length : Int) != t641)), (by first | rfl | (simp; done) | (simp [*]; done)), H', ⟨by first | omega | exact Nat.le_refl _⟩, ⟨by (with_reducible repeat (first | apply Kd.R_alloc | apply Kd.R_drewN | apply Kd.R_drew)); exact Kd.R_mono HO628.out (fun _ hk => hk.1.2)⟩, ⟨by (with_reducible repeat (first | apply Kd.R_alloc | apply Kd.R_drewN | apply Kd.R_drew)); exact Kd.R_mono HO637.out (fun _ hk => hk.1.1.2)⟩, ⟨by repeat (first | (with_reducible first | exact HB.out | apply below_alloc | apply pw_below_drewN | apply below_drew1) | exact HB.out)⟩⟩
    ·rw [if_neg c24] at H
     have c24b0 : (t632 == t642) = false := beq_eq_false_iff_ne.mpr c24
     have c24b1 : (t632 != t642) = true := bne_iff_ne.mpr c24
     have H' := Aside0.mk H
     clear H
     go_wp2_with (first | (go_at_call 48; (with_reducible refine (bibelotref07_Flips.calls k _ _ t626 _ _ t629 true t642 _ ?side1 ?side2 ?side3 ?side4 A23.out).mono ?_); (case side1 => repeat (first | exact (Kd.R_reads' HO628.out).2.2 | (with_reducible refine Kd.C_alloc ?_ _) | (with_reducible refine Kd.C_drewN ?_ _) | (with_reducible refine Kd.C_drew ?_))); (case side2 => exact (Kd.R_reads' HO628.out).2.1); (case side3 => repeat (first | exact (Kd.R_reads' HO631.out).2.2 | (with_reducible refine Kd.C_alloc ?_ _) | (with_reducible refine Kd.C_drewN ?_ _) | (with_reducible refine Kd.C_drew ?_))); (case side4 => exact (Kd.R_reads' HO631.out).2.1); rintro e w27 ⟨rfl, hb⟩; have n0_ := Aside0.mk (Kd.R_below (by (with_reducible repeat (first | apply Kd.R_alloc | apply Kd.R_drewN | apply Kd.R_drew)); exact HO628.out) hb); have n1_ := Aside0.mk (Kd.R_below (by (with_reducible repeat (first | apply Kd.R_alloc | apply Kd.R_drewN | apply Kd.R_drew)); exact HO631.out) hb); have n2_ := Aside0.mk (Kd.R_below (by (with_reducible repeat (first | apply Kd.R_alloc | apply Kd.R_drewN | apply Kd.R_drew)); exact HO637.out) hb); have n3_ := Aside0.mk (Kd.R_below (by (with_reducible repeat (first | apply Kd.R_alloc | apply Kd.R_drewN | apply Kd.R_drew)); exact HO640.out) hb); have n4_ := Aside0.mk (below_step (by repeat (first | (with_reducible first | exact HB.out | apply below_alloc | apply pw_below_drewN | apply below_drew1) | exact HB.out)) hb); clear HO628; clear HO631; clear HO637; clear HO640; clear HB; have HO628 := n0_; have HO631 := n1_; have HO637 := n2_; have HO640 := n3_; have HB := n4_; clear n0_ n1_ n2_ n3_ n4_; (try clear hb); (try clear hb2); (try clear hk); (try clear hi)))
     go_meet
     case rel => exact ⟨_, (true), (by first | rfl | (simp; done) | (simp [*]; done)), H', ⟨by first | omega | exact Nat.le_refl _⟩, ⟨by (with_reducible repeat (first | apply Kd.R_alloc | apply Kd.R_drewN | apply Kd.R_drew)); exact Kd.R_mono HO628.out (fun _ hk => hk.1.2)⟩, ⟨by (with_reducible repeat (first | apply Kd.R_alloc | apply Kd.R_drewN | apply Kd.R_drew)); exact Kd.R_mono HO637.out (fun _ hk => hk.1.1.2)⟩, ⟨by repeat (first | (with_reducible first | exact HB.out | apply below_alloc | apply pw_below_drewN | apply below_drew1) | exact HB.out)⟩⟩
   ·rw [if_neg c22] at H
    have c22b0 : (t635 == 0) = false := beq_eq_false_iff_ne.mpr c22
    have c22b1 : (t635 != 0) = true := bne_iff_ne.mpr c22
    have H' := Aside0.mk H
    clear H
    go_wp2
    go_meet
    case rel => exact ⟨_, (true), (by first | rfl | (simp; done) | (simp [*]; done)), H', ⟨by first | omega | exact Nat.le_refl _⟩, ⟨by (with_reducible repeat (first | apply Kd.R_alloc | apply Kd.R_drewN | apply Kd.R_drew)); exact Kd.R_mono HO628.out (fun _ hk => hk.1.2)⟩, ⟨by (with_reducible repeat (first | apply Kd.R_alloc | apply Kd.R_drewN | apply Kd.R_drew)); exact Kd.R_mono HO637.out (fun _ hk => hk.1.1.2)⟩, ⟨by repeat (first | (with_reducible first | exact HB.out | apply below_alloc | apply pw_below_drewN | apply below_drew1) | exact HB.out)⟩⟩
  ·rw [if_neg c21] at H
   have c21b0 : (t633 == 0) = false := beq_eq_false_iff_ne.mpr c21
   have c21b1 : (t633 != 0) = true := bne_iff_ne.mpr c21
   (first | rw [c21b0] | (simp only [i64_w, i32_w]; rw [c21b0]) | skip)
   have H' := Aside0.mk H
   clear H
   go_wp2
   go_meet
   case rel => exact ⟨_, (true), (by first | rfl | (simp; done) | (simp [*]; done)), H', ⟨by first | omega | exact Nat.le_refl _⟩, ⟨by (with_reducible repeat (first | apply Kd.R_alloc | apply Kd.R_drewN | apply Kd.R_drew)); exact Kd.R_mono HO628.out (fun _ hk => hk.1.2)⟩, ⟨by (with_reducible repeat (first | apply Kd.R_alloc | apply Kd.R_drewN | apply Kd.R_drew)); exact Kd.R_mono HO637.out (fun _ hk => hk.1.1.2)⟩, ⟨by repeat (first | (with_reducible first | exact HB.out | apply below_alloc | apply pw_below_drewN | apply below_drew1) | exact HB.out)⟩⟩
 case rest =>
  clear HC11
  try clear c1
  try clear c2
  try clear p2
  try clear c4
  try clear c5
  try clear c16
  try clear c21
  try clear c21b0
  try clear c21b1
  try clear c22
  try clear c22b0
  try clear c22b1
  try clear c24
  try clear c24b0
  try clear c24b1
  try clear c27
  obtain ⟨kq, x56_10, rfl, HA, HJ10, HO_7, HO_11, HB⟩ := hcut
  cases kq with
  | zero => exact absurd HA.out (by simp [bibelotlaw07_PancakeBurnt.j0])
  | succ kj10 =>
   have H := HA.out
   clear HA
   simp only [bibelotlaw07_PancakeBurnt.j0] at H
   by_cases c28 : x56_10 = true
   ·subst c28
    have H1 : (some false) = some r := by rw [if_pos rfl] at H; exact H
    clear H
    have H := H1
    clear H1
    obtain rfl := Option.some.inj H
    go_wp2
    go_ret
    exact ⟨by first | rfl | (simp [errW_none, errW_some] <;> rfl) | (simp [*, errW_none, errW_some] <;> rfl), by repeat (first | (with_reducible first | exact HB.out | apply below_alloc | apply pw_below_drewN | apply below_drew1) | exact HB.out)⟩
   ·replace c28 := Bool.eq_false_iff.mpr c28
    subst c28
    have H1 : (bibelotlaw07_PancakeBurnt.l0 kj10 t625 t626 t634 0) = some r := by rw [if_neg (show ¬ (false = true) by decide)] at H; exact H
    clear H
    have H := H1
    clear H1
    have H' := Aside0.mk H
    clear H
    go_wp2
    go_loopg [7, 14] kj10 (fun kq v7 v14 w' => ∃ (x7_2 : List Int) (x14_2 : Int), v14 = .int .i64 x14_2 ∧ Aside0 (bibelotlaw07_PancakeBurnt.l0 kq t625 x7_2 t634 x14_2 = some r) ∧ Aside0 (kq ≤ kj10) ∧ Aside0 (Kd.R (Kd.int .i64) 3 w' w.heap.size (fun k_ => some k_ ≠ (v636 : Value).ownBlock) v7 x7_2) ∧ Aside0 (Kd.R (Kd.int .i64) 3 w' w.heap.size (fun k_ => some k_ ≠ (v7 : Value).ownBlock) v636 t634) ∧ Aside0 (Below w.heap.size w w'))
    case atStart => exact ⟨(t626), (0), (by first | rfl | (simp; done) | (simp [*]; done)), H', ⟨Nat.le_refl _⟩, ⟨by (with_reducible repeat (first | apply Kd.R_alloc | apply Kd.R_drewN | apply Kd.R_drew)); exact HO_7.out⟩, ⟨by (with_reducible repeat (first | apply Kd.R_alloc | apply Kd.R_drewN | apply Kd.R_drew)); exact HO_11.out⟩, ⟨by repeat (first | (with_reducible first | exact HB.out | apply below_alloc | apply pw_below_drewN | apply below_drew1) | exact HB.out)⟩⟩
    case round =>
     clear H'
     try clear c1
     try clear c2
     try clear p2
     try clear c4
     try clear c5
     try clear c16
     try clear c21
     try clear c21b0
     try clear c21b1
     try clear c22
     try clear c22b0
     try clear c22b1
     try clear c24
     try clear c24b0
     try clear c24b1
     try clear c27
     try clear c28
     try clear p2
     obtain ⟨x7_2, x14_2, rfl, HA, HK2, HO_7, HO_11, HB⟩ := hrel
     cases gk with
     | zero => exact absurd HA.out (by simp [bibelotlaw07_PancakeBurnt.l0])
     | succ k2 =>
      have H := HA.out
      clear HA
      simp only [bibelotlaw07_PancakeBurnt.l0] at H
      by_cases c29 : x14_2 < (t634.length : Int)
      ·rw [if_pos c29] at H
       have c29b0 : decide (x14_2 < (t634.length : Int)) = true := decide_eq_true c29
       clear c29
       by_cases c30 : 0 ≤ x14_2
       ·rw [if_pos c30] at H
        have c30b0 : decide (0 ≤ x14_2) = true := decide_eq_true c30
        clear c30
        by_cases c31 : (rd t634 x14_2) < 1
        ·rw [if_pos c31] at H
         have c31b0 : decide ((rd t634 x14_2) < 1) = true := decide_eq_true c31
         clear c31
         obtain rfl := Option.some.inj H
         obtain ⟨Ao32, co32, eo32⟩ := Kd.R_slice HO_11.out
         subst eo32
         have p643 : 0 ≤ (x14_2 : Int) := of_decide_eq_true (by first | (with_reducible assumption) | assumption)
         have q643 : x14_2 < (t634.length : Int) := of_decide_eq_true (by first | (with_reducible assumption) | assumption)
         obtain ⟨ad643, e643, hx643_0⟩ := Kd.at_int (Kd.R_reads' HO_11.out).2.2 x14_2 p643 q643
         cases e643
         replace p643 := eq_true p643
         replace q643 := eq_true q643
         go_wp2
         go_ret
         exact ⟨by first | rfl | (simp [errW_none, errW_some] <;> rfl) | (simp [*, errW_none, errW_some] <;> rfl), by repeat (first | (with_reducible first | exact HB.out | apply below_alloc | apply pw_below_drewN | apply below_drew1) | exact HB.out)⟩
        ·rw [if_neg c31] at H
         have c31b0 : decide ((rd t634 x14_2) < 1) = false := decide_eq_false c31
         clear c31
         by_cases c33 : (rd t634 x14_2) > t625
         ·rw [if_pos c33] at H
          have c33b0 : decide (t625 < (rd t634 x14_2)) = true := decide_eq_true c33
          clear c33
          obtain rfl := Option.some.inj H
          obtain ⟨Ao34, co34, eo34⟩ := Kd.R_slice HO_11.out
          subst eo34
          have p643 : 0 ≤ (x14_2 : Int) := of_decide_eq_true (by first | (with_reducible assumption) | assumption)
          have q643 : x14_2 < (t634.length : Int) := of_decide_eq_true (by first | (with_reducible assumption) | assumption)
          obtain ⟨ad643, e643, hx643_0⟩ := Kd.at_int (Kd.R_reads' HO_11.out).2.2 x14_2 p643 q643
          cases e643
          replace p643 := eq_true p643
          replace q643 := eq_true q643
          have p644 : 0 ≤ (x14_2 : Int) := of_decide_eq_true (by first | (with_reducible assumption) | assumption)
          have q644 : x14_2 < (t634.length : Int) := of_decide_eq_true (by first | (with_reducible assumption) | assumption)
          obtain ⟨ad644, e644, hx644_0⟩ := Kd.at_int (Kd.R_reads' HO_11.out).2.2 x14_2 p644 q644
          obtain rfl : ad643 = ad644 := (by injection e644)
          replace p644 := eq_true p644
          replace q644 := eq_true q644
          go_wp2
          go_ret
          exact ⟨by first | rfl | (simp [errW_none, errW_some] <;> rfl) | (simp [*, errW_none, errW_some] <;> rfl), by repeat (first | (with_reducible first | exact HB.out | apply below_alloc | apply pw_below_drewN | apply below_drew1) | exact HB.out)⟩
         ·rw [if_neg c33] at H
          have c33b0 : decide (t625 < (rd t634 x14_2)) = false := decide_eq_false c33
          clear c33
          replace H := Option.bind_eq_some_iff.mp H
          obtain ⟨t646, A350, H⟩ := H
          replace H : (bibelotlaw07_PancakeBurnt.l0 k2 t625 t646 t634 (wrap64 (x14_2 + 1))) = some r := H
          have A35 := Aside0.mk A350
          clear A350
          have H' := Aside0.mk H
          clear H
          obtain ⟨Ao36, co36, eo36⟩ := Kd.R_slice HO_11.out
          subst eo36
          have p643 : 0 ≤ (x14_2 : Int) := of_decide_eq_true (by first | (with_reducible assumption) | assumption)
          have q643 : x14_2 < (t634.length : Int) := of_decide_eq_true (by first | (with_reducible assumption) | assumption)
          obtain ⟨ad643, e643, hx643_0⟩ := Kd.at_int (Kd.R_reads' HO_11.out).2.2 x14_2 p643 q643
          cases e643
          replace p643 := eq_true p643
          replace q643 := eq_true q643
          have p644 : 0 ≤ (x14_2 : Int) := of_decide_eq_true (by first | (with_reducible assumption) | assumption)
          have q644 : x14_2 < (t634.length : Int) := of_decide_eq_true (by first | (with_reducible assumption) | assumption)
          obtain ⟨ad644, e644, hx644_0⟩ := Kd.at_int (Kd.R_reads' HO_11.out).2.2 x14_2 p644 q644
          obtain rfl : ad643 = ad644 := (by injection e644)
          replace p644 := eq_true p644
          replace q644 := eq_true q644
          have p645 : 0 ≤ (x14_2 : Int) := of_decide_eq_true (by first | (with_reducible assumption) | assumption)
          have q645 : x14_2 < (t634.length : Int) := of_decide_eq_true (by first | (with_reducible assumption) | assumption)
          obtain ⟨ad645, e645, hx645_0⟩ := Kd.at_int (Kd.R_reads' HO_11.out).2.2 x14_2 p645 q645
          obtain rfl : ad643 = ad645 := (by injection e645)
          replace p645 := eq_true p645
          replace q645 := eq_true q645
          obtain ⟨Ao37, co37, eo37⟩ := Kd.R_slice HO_7.out
          subst eo37
          go_wp2_with (first | ((with_reducible refine gate_callee (f := 34) rfl ?_); refine goesL_ (some 81) rfl rfl Try.func34 (by kernel_rfl) rfl #[.slice Ao37 x7_2.length co37, .int .i64 (rd t634 x14_2), .bool true] rfl (by (try simp only [List.map_toArray, List.map_cons, List.map_nil]); first | done | rfl | (simp only [List.length_drop, List.length_take]; rfl)) ?_; (with_reducible refine (bibelotref07_Flip.calls k2 _ _ x7_2 (rd t634 x14_2) true t646 _ ?side1 ?side2 A35.out).mono ?_); (case side1 => repeat (first | exact (Kd.R_reads' HO_7.out).2.2 | (with_reducible refine Kd.C_alloc ?_ _) | (with_reducible refine Kd.C_drewN ?_ _) | (with_reducible refine Kd.C_drew ?_))); (case side2 => exact (Kd.R_reads' HO_7.out).2.1); rintro e w38 ⟨v647, rfl, ho0, hb⟩; refine ⟨_, rfl, ?_⟩; have n0_ := Aside0.mk (Kd.R_elder' (by (with_reducible repeat (first | apply Kd.R_alloc | apply Kd.R_drewN | apply Kd.R_drew)); exact HO_7.out) (Kd.R_base ho0) hb); have n1_ := Aside0.mk (Kd.R_elder' (by (with_reducible repeat (first | apply Kd.R_alloc | apply Kd.R_drewN | apply Kd.R_drew)); exact HO_11.out) (Kd.R_base ho0) hb); have n2_ := Aside0.mk (Kd.R_lower (Kd.R_new' (Kd.R_new' ho0 (Kd.R_lt (by (with_reducible repeat (first | apply Kd.R_alloc | apply Kd.R_drewN | apply Kd.R_drew)); exact HO_7.out))) (Kd.R_lt (by (with_reducible repeat (first | apply Kd.R_alloc | apply Kd.R_drewN | apply Kd.R_drew)); exact HO_11.out))) (below_size (by repeat (first | (with_reducible first | exact HB.out | apply below_alloc | apply pw_below_drewN | apply below_drew1) | exact HB.out)))); have n3_ := Aside0.mk (below_step (by repeat (first | (with_reducible first | exact HB.out | apply below_alloc | apply pw_below_drewN | apply below_drew1) | exact HB.out)) hb); clear HO_7; clear HO_11; clear HB; have HO_7 := n0_; have HO_11 := n1_; have HO648 := n2_; have HB := n3_; clear n0_ n1_ n2_ n3_; (try clear hb); (try clear hb2); (try clear hk); (try clear hi); (try clear ho0)))
          go_roundg k2
          case measure => have := HJ10.out; have := HK2.out; omega
          case rel => exact ⟨(t646), (wrap64 (x14_2 + 1)), (by first | rfl | (simp; done) | (simp [*]; done)), H', ⟨by have := HJ10.out; have := HK2.out; omega⟩, ⟨by (with_reducible repeat (first | apply Kd.R_alloc | apply Kd.R_drewN | apply Kd.R_drew)); exact Kd.R_mono HO648.out (fun _ hk => hk.2)⟩, ⟨by (with_reducible repeat (first | apply Kd.R_alloc | apply Kd.R_drewN | apply Kd.R_drew)); exact Kd.R_mono HO_11.out (fun _ hk => hk.2)⟩, ⟨by repeat (first | (with_reducible first | exact HB.out | apply below_alloc | apply pw_below_drewN | apply below_drew1) | exact HB.out)⟩⟩
       ·rw [if_neg c30] at H
        exact absurd H (by simp)
      ·rw [if_neg c29] at H
       have c29b0 : decide (x14_2 < (t634.length : Int)) = false := decide_eq_false c29
       clear c29
       replace H := Option.bind_eq_some_iff.mp H
       obtain ⟨t649, A390, H⟩ := H
       replace H : ((bibelotlaw07_ints.f k2 x7_2 t649).bind fun t652 => (if t652 = true then ((bibelotlaw07_awake.f).bind fun t653 => (some t653)) else (some false))) = some r := H
       have A39 := Aside0.mk A390
       clear A390
       replace H := Option.bind_eq_some_iff.mp H
       obtain ⟨t652, A400, H⟩ := H
       replace H : (if t652 = true then ((bibelotlaw07_awake.f).bind fun t653 => (some t653)) else (some false)) = some r := H
       have A40 := Aside0.mk A400
       clear A400
       by_cases c41 : t652 = true
       ·subst c41
        have H1 : ((bibelotlaw07_awake.f).bind fun t653 => (some t653)) = some r := by rw [if_pos rfl] at H; exact H
        clear H
        have H := H1
        clear H1
        replace H := Option.bind_eq_some_iff.mp H
        obtain ⟨t653, A420, H⟩ := H
        replace H : (some t653) = some r := H
        have A42 := Aside0.mk A420
        clear A420
        obtain rfl := Option.some.inj H
        obtain ⟨Ao43, co43, eo43⟩ := Kd.R_slice HO_11.out
        subst eo43
        go_wp2_with (first | ((with_reducible refine gate_callee (f := 49) rfl ?_); refine goesL_ (some 84) rfl rfl Try.func49 (by kernel_rfl) rfl #[.int .i64 t625] rfl (by (try simp only [List.map_toArray, List.map_cons, List.map_nil]); first | done | rfl | (simp only [List.length_drop, List.length_take]; rfl)) ?_; (with_reducible refine (bibelotref07_First.calls k2 t625 t649 _ A39.out).mono ?_); rintro e w44 ⟨v650, rfl, ho0, hb⟩; refine ⟨_, rfl, ?_⟩; have n0_ := Aside0.mk (Kd.R_elder' (by (with_reducible repeat (first | apply Kd.R_alloc | apply Kd.R_drewN | apply Kd.R_drew)); exact HO_7.out) (Kd.R_base ho0) hb); have n1_ := Aside0.mk (Kd.R_elder' (by (with_reducible repeat (first | apply Kd.R_alloc | apply Kd.R_drewN | apply Kd.R_drew)); exact HO_11.out) (Kd.R_base ho0) hb); have n2_ := Aside0.mk (Kd.R_lower (Kd.R_new' (Kd.R_new' ho0 (Kd.R_lt (by (with_reducible repeat (first | apply Kd.R_alloc | apply Kd.R_drewN | apply Kd.R_drew)); exact HO_7.out))) (Kd.R_lt (by (with_reducible repeat (first | apply Kd.R_alloc | apply Kd.R_drewN | apply Kd.R_drew)); exact HO_11.out))) (below_size (by repeat (first | (with_reducible first | exact HB.out | apply below_alloc | apply pw_below_drewN | apply below_drew1) | exact HB.out)))); have n3_ := Aside0.mk (below_step (by repeat (first | (with_reducible first | exact HB.out | apply below_alloc | apply pw_below_drewN | apply below_drew1) | exact HB.out)) hb); clear HO_7; clear HO_11; clear HB; have HO_7 := n0_; have HO_11 := n1_; have HO651 := n2_; have HB := n3_; clear n0_ n1_ n2_ n3_; (try clear hb); (try clear hb2); (try clear hk); (try clear hi); (try clear ho0); obtain ⟨Ao45, co45, eo45⟩ := Kd.R_slice HO_7.out; subst eo45; obtain ⟨Ao46, co46, eo46⟩ := Kd.R_slice HO651.out; subst eo46) | ((with_reducible refine gate_callee (f := 29) rfl ?_); refine goesL_ (some 85) rfl rfl Try.func29 (by kernel_rfl) rfl #[.slice Ao45 x7_2.length co45, .slice Ao46 t649.length co46] rfl (by (try simp only [List.map_toArray, List.map_cons, List.map_nil]); first | done | rfl | (simp only [List.length_drop, List.length_take]; rfl)) ?_; (with_reducible refine (bibelotlaw07_ints.calls k2 _ _ x7_2 _ _ t649 true _ ?side1 ?side2 ?side3 ?side4 A40.out).mono ?_); (case side1 => repeat (first | exact (Kd.R_reads' HO_7.out).2.2 | (with_reducible refine Kd.C_alloc ?_ _) | (with_reducible refine Kd.C_drewN ?_ _) | (with_reducible refine Kd.C_drew ?_))); (case side2 => exact (Kd.R_reads' HO_7.out).2.1); (case side3 => repeat (first | exact (Kd.R_reads' HO651.out).2.2 | (with_reducible refine Kd.C_alloc ?_ _) | (with_reducible refine Kd.C_drewN ?_ _) | (with_reducible refine Kd.C_drew ?_))); (case side4 => exact (Kd.R_reads' HO651.out).2.1); rintro e w' ⟨rfl, ⟨nd, rfl⟩⟩; refine ⟨_, rfl, ?_⟩) | (go_at_call 26; (with_reducible refine (bibelotlaw07_awake.calls  t653 _ A42.out).mono ?_); rintro e w47 ⟨rfl, hb⟩; have n0_ := Aside0.mk (Kd.R_below (by (with_reducible repeat (first | apply Kd.R_alloc | apply Kd.R_drewN | apply Kd.R_drew)); exact HO_7.out) hb); have n1_ := Aside0.mk (Kd.R_below (by (with_reducible repeat (first | apply Kd.R_alloc | apply Kd.R_drewN | apply Kd.R_drew)); exact HO_11.out) hb); have n2_ := Aside0.mk (Kd.R_below (by (with_reducible repeat (first | apply Kd.R_alloc | apply Kd.R_drewN | apply Kd.R_drew)); exact HO651.out) hb); have n3_ := Aside0.mk (below_step (by repeat (first | (with_reducible first | exact HB.out | apply below_alloc | apply pw_below_drewN | apply below_drew1) | exact HB.out)) hb); clear HO_7; clear HO_11; clear HO651; clear HB; have HO_7 := n0_; have HO_11 := n1_; have HO651 := n2_; have HB := n3_; clear n0_ n1_ n2_ n3_; (try clear hb); (try clear hb2); (try clear hk); (try clear hi)))
        go_ret
        exact ⟨by first | rfl | (simp [errW_none, errW_some] <;> rfl) | (simp [*, errW_none, errW_some] <;> rfl), by repeat (first | (with_reducible first | exact HB.out | apply below_alloc | apply pw_below_drewN | apply below_drew1) | exact HB.out)⟩
       ·replace c41 := Bool.eq_false_iff.mpr c41
        subst c41
        have H1 : (some false) = some r := by rw [if_neg (show ¬ (false = true) by decide)] at H; exact H
        clear H
        have H := H1
        clear H1
        obtain rfl := Option.some.inj H
        obtain ⟨Ao48, co48, eo48⟩ := Kd.R_slice HO_11.out
        subst eo48
        go_wp2_with (first | ((with_reducible refine gate_callee (f := 49) rfl ?_); refine goesL_ (some 84) rfl rfl Try.func49 (by kernel_rfl) rfl #[.int .i64 t625] rfl (by (try simp only [List.map_toArray, List.map_cons, List.map_nil]); first | done | rfl | (simp only [List.length_drop, List.length_take]; rfl)) ?_; (with_reducible refine (bibelotref07_First.calls k2 t625 t649 _ A39.out).mono ?_); rintro e w49 ⟨v650, rfl, ho0, hb⟩; refine ⟨_, rfl, ?_⟩; have n0_ := Aside0.mk (Kd.R_elder' (by (with_reducible repeat (first | apply Kd.R_alloc | apply Kd.R_drewN | apply Kd.R_drew)); exact HO_7.out) (Kd.R_base ho0) hb); have n1_ := Aside0.mk (Kd.R_elder' (by (with_reducible repeat (first | apply Kd.R_alloc | apply Kd.R_drewN | apply Kd.R_drew)); exact HO_11.out) (Kd.R_base ho0) hb); have n2_ := Aside0.mk (Kd.R_lower (Kd.R_new' (Kd.R_new' ho0 (Kd.R_lt (by (with_reducible repeat (first | apply Kd.R_alloc | apply Kd.R_drewN | apply Kd.R_drew)); exact HO_7.out))) (Kd.R_lt (by (with_reducible repeat (first | apply Kd.R_alloc | apply Kd.R_drewN | apply Kd.R_drew)); exact HO_11.out))) (below_size (by repeat (first | (with_reducible first | exact HB.out | apply below_alloc | apply pw_below_drewN | apply below_drew1) | exact HB.out)))); have n3_ := Aside0.mk (below_step (by repeat (first | (with_reducible first | exact HB.out | apply below_alloc | apply pw_below_drewN | apply below_drew1) | exact HB.out)) hb); clear HO_7; clear HO_11; clear HB; have HO_7 := n0_; have HO_11 := n1_; have HO651 := n2_; have HB := n3_; clear n0_ n1_ n2_ n3_; (try clear hb); (try clear hb2); (try clear hk); (try clear hi); (try clear ho0); obtain ⟨Ao50, co50, eo50⟩ := Kd.R_slice HO_7.out; subst eo50; obtain ⟨Ao51, co51, eo51⟩ := Kd.R_slice HO651.out; subst eo51) | ((with_reducible refine gate_callee (f := 29) rfl ?_); refine goesL_ (some 85) rfl rfl Try.func29 (by kernel_rfl) rfl #[.slice Ao50 x7_2.length co50, .slice Ao51 t649.length co51] rfl (by (try simp only [List.map_toArray, List.map_cons, List.map_nil]); first | done | rfl | (simp only [List.length_drop, List.length_take]; rfl)) ?_; (with_reducible refine (bibelotlaw07_ints.calls k2 _ _ x7_2 _ _ t649 false _ ?side1 ?side2 ?side3 ?side4 A40.out).mono ?_); (case side1 => repeat (first | exact (Kd.R_reads' HO_7.out).2.2 | (with_reducible refine Kd.C_alloc ?_ _) | (with_reducible refine Kd.C_drewN ?_ _) | (with_reducible refine Kd.C_drew ?_))); (case side2 => exact (Kd.R_reads' HO_7.out).2.1); (case side3 => repeat (first | exact (Kd.R_reads' HO651.out).2.2 | (with_reducible refine Kd.C_alloc ?_ _) | (with_reducible refine Kd.C_drewN ?_ _) | (with_reducible refine Kd.C_drew ?_))); (case side4 => exact (Kd.R_reads' HO651.out).2.1); rintro e w' ⟨rfl, ⟨nd, rfl⟩⟩; refine ⟨_, rfl, ?_⟩))
        go_ret
        exact ⟨by first | rfl | (simp [errW_none, errW_some] <;> rfl) | (simp [*, errW_none, errW_some] <;> rfl), by repeat (first | (with_reducible first | exact HB.out | apply below_alloc | apply pw_below_drewN | apply below_drew1) | exact HB.out)⟩

/-- THE ONE PURE STATEMENT of bibelotlaw07_PancakeBurnt: yours. -/
def bibelotlaw07_PancakeBurnt.Pure : Prop := ∀ (a0 : Int) (l1 : List Int) (l2 : List Int), (Lit.int .i64 a0).wf = true → l1.length ≤ maxLen → l1.length * 8 ≤ 140737488351232 → (∀ x ∈ l1, (Lit.int .i64 x).wf = true) → l2.length ≤ maxLen → l2.length * 8 ≤ 140737488351232 → (∀ x ∈ l2, (Lit.int .i64 x).wf = true) → ∃ k, bibelotlaw07_PancakeBurnt.f k a0 l1 l2 = some true
theorem bibelotlaw07_PancakeBurnt.walk (P : bibelotlaw07_PancakeBurnt.Pure) (a0 : Int) (a1 : Option Addr) (len1 cap1 : Nat) (z1 : List Int) (a2 : Option Addr) (len2 cap2 : Nat) (z2 : List Int) (w : World) (w0 : (Lit.int .i64 a0).wf = true) (w1 : (a1 = none ∧ len1 = 0 ∧ cap1 = 0 ∧ z1 = []) ∨ ∃ x, a1 = some x ∧ len1 ≤ cap1 ∧ cap1 ≤ maxLen ∧ z1.length = cap1 ∧ (∀ i, i < z1.length → w.cell? (x.add i) = some (.int .i64 (z1.getD i 0))) ∧ ∀ n ∈ z1, (Lit.int .i64 n).wf = true) (y1 : len1 * 8 ≤ 140737488351232) (w2 : (a2 = none ∧ len2 = 0 ∧ cap2 = 0 ∧ z2 = []) ∨ ∃ x, a2 = some x ∧ len2 ≤ cap2 ∧ cap2 ≤ maxLen ∧ z2.length = cap2 ∧ (∀ i, i < z2.length → w.cell? (x.add i) = some (.int .i64 (z2.getD i 0))) ∧ ∀ n ∈ z2, (Lit.int .i64 n).wf = true) (y2 : len2 * 8 ≤ 140737488351232) :
  Calls Try.prog 16 #[.int .i64 a0, .slice a1 len1 cap1, .slice a2 len2 cap2] w fun e w' => e = .returned (.bool true) ∧ Below w.heap.size w w' := by
 obtain ⟨l1, rfl, hr1, hm1, hw1, hc1⟩ := ReadsInt.ofRowC w1
 obtain ⟨l2, rfl, hr2, hm2, hw2, hc2⟩ := ReadsInt.ofRowC w2
 obtain ⟨k, h⟩ := P a0 l1 l2 w0 hm1 y1 hw1 hm2 y2 hw2
 refine (bibelotlaw07_PancakeBurnt.calls k a0 _ _ l1 _ _ l2 true w (Kd.C_of_reads (d := (0 : Int)) (h1 := fun _ => rfl) hr1) hc1 (Kd.C_of_reads (d := (0 : Int)) (h1 := fun _ => rfl) hr2) hc2 h).mono ?_
 rintro e w' ⟨rfl, hd⟩
 exact ⟨rfl, hd⟩

end Go.Proofs.Ytepjhdblmghckaa.Q
/- PancakeBurnt: the plain law. -/
namespace Go.Proofs.Ytepjhdblmghckaa.Pure
set_option linter.unusedVariables false
set_option linter.unusedSimpArgs false
set_option linter.unusedSectionVars false
open Go.Proofs.Ytepjhdblmghckaa.G Go.Proofs.Ytepjhdblmghckaa.K
open Go.RowKit Go.Proofs.Ytepjhdblmghckaa.Q Go.Proofs.YtepjhdblmghckaaW.PrintWords Go.Proofs.YtepjhdblmghckaaW.PrintLast
theorem drop_atB {α : Type} (l : List α) (i : Nat) (h : i < l.length) : l.drop i = l[i] :: l.drop (i + 1) := List.drop_eq_getElem_cons h
theorem burnt_l0 {n : Nat} (hn1 : 1 ≤ n) (hn : n ≤ 6) (ms : List (Nat × Nat)) (hms : ∀ m, m ∈ ms → m ∈ mvL n true false) (hlen : ms.length ≤ 170859375) : ∀ d i : Nat, i + d = ms.length → ∀ x : List Int, Stk true n x → (ms.drop i).foldl (fun t m => flL true t m.1 m.2) x = firstL n → Ev (fun k => bibelotlaw07_PancakeBurnt.l0 k (n : Int) x (ms.map (fun m => ((m.2 : Int) + 1))) (i : Int)) true
 | 0, i, h, x, hx, hf => by
  rw [List.drop_of_length_le (by omega)] at hf
  have hf2 : x = firstL n := hf
  subst hf2
  have hi := ints_ev (firstL n) (firstL n) (by rw [firstL_len]; omega)
  rw [decide_eq_true rfl] at hi
  refine Ev.step (f := fun k => (bibelotref07_First.f k (n : Int)).bind fun t539 => ((bibelotlaw07_ints.f k (firstL n) t539).bind fun t542 => (if t542 = true then ((bibelotlaw07_awake.f).bind fun t543 => (some t543)) else (some false)))) (fun k => ?_) (Ev.bind (rfirst_ev n (by omega)) (Ev.bind hi (Ev.congr (fun k => ?_) (Ev.bind awake_ev (Ev.now true)))))
  ·rw [bibelotlaw07_PancakeBurnt.l0, if_neg (by rw [List.length_map]; omega)]
  ·rw [if_pos rfl]
 | d + 1, i, h, x, hx, hf => by
  have hil : i < ms.length := by omega
  obtain ⟨m, hm⟩ : ∃ m, ms[i] = m := ⟨_, rfl⟩
  rw [drop_atB ms i hil, hm, List.foldl_cons] at hf
  have hmv := mem_mv (hms m (by rw [← hm]; exact List.getElem_mem hil))
  obtain ⟨a, b⟩ := m
  simp only at hmv hf
  have ha : a = 0 := by
   rcases hmv.2.2.2 with h' | h'
   ·cases h'
   ·exact h'
  subst ha
  have hbn := hmv.2.1
  have hrd : rd (ms.map (fun m => ((m.2 : Int) + 1))) (i : Int) = (b : Int) + 1 := by
   rw [rd_nth]; unfold nth
   rw [List.getD_eq_getElem?_getD, List.getElem?_map, List.getElem?_eq_getElem hil, hm]; rfl
  have ih := burnt_l0 hn1 hn ms hms hlen d (i + 1) (by omega) (flL true x 0 b) (stk_flL hx (fun h => h) 0 b (Nat.zero_le _) hbn) hf
  have hfl := rflip_ev (l := x) (by rw [hx.len]; omega) (hx.small (by omega)) true (b + 1) (by omega) (by rw [hx.len]; omega)
  rw [Nat.add_sub_cancel] at hfl
  refine Ev.step (f := fun k => (bibelotref07_Flip.f k x ((b + 1 : Nat) : Int) true).bind fun t536 => (bibelotlaw07_PancakeBurnt.l0 k (n : Int) t536 (ms.map (fun m => ((m.2 : Int) + 1))) (wrap64 ((i : Int) + 1)))) (fun k => ?_) (Ev.bind hfl (Ev.congr (fun k => ?_) ih))
  ·rw [bibelotlaw07_PancakeBurnt.l0, if_pos (by rw [List.length_map]; omega), if_pos (Int.natCast_nonneg _), hrd, if_neg (by omega), if_neg (by omega)]
   rfl
  ·rw [up1 i (by omega)]
theorem PancakeBurnt : bibelotlaw07_PancakeBurnt.Pure := by
 intro a0 l1 l2 _ _ _ _ _ _ _
 obtain ⟨n, hn1, hn, hne⟩ := many_f a0 6 (by decide) (by decide)
 have h7 : bibelotlaw07_many.f a0 6 = some (n : Int) := hne
 have hx := rowOf_stk l1 true n
 have hy := rowOf_stk l2 true n
 obtain ⟨x, hxe⟩ : ∃ x, rowOf l1 true n = x := ⟨_, rfl⟩
 obtain ⟨y, hye⟩ : ∃ y, rowOf l2 true n = y := ⟨_, rfl⟩
 rw [hxe] at hx
 rw [hye] at hy
 obtain ⟨o1, o2, o3, o4⟩ := ord_all (by omega) hx
 obtain ⟨ms, hms⟩ : ∃ ms, ordL n true false x = ms := ⟨_, rfl⟩
 have hor := porderB_ok hn hx hn1
 rw [hms] at o2 o3 o4 hor
 have hgl := gap_lt (n := n) (by omega) true x (firstL n)
 have hl := burnt_l0 hn1 hn ms o3 (by omega) ms.length 0 (by omega) x hx o4
 have hfs := stk_firstL true n
 have hj0 : Ev (fun k => bibelotlaw07_PancakeBurnt.j0 k (n : Int) x (ms.map (fun m => ((m.2 : Int) + 1))) (((ms.map (fun m => ((m.2 : Int) + 1))).length : Int) != ((gap n true x (firstL n) : Nat) : Int))) true := by
  refine Ev.step (fun k => ?_) hl
  rw [List.length_map, o2, bibelotlaw07_PancakeBurnt.j0, if_neg (by simp)]
  rfl
 refine Ev.rounds (g := fun k => bibelotlaw07_PancakeBurnt.f k a0 l1 l2) ?_
 refine Ev.congr (f := fun k => (bibelotref07_First.f k (n : Int)).bind fun t528 => ((bibelotref07_Flips.f k x t528 true).bind fun t531 => (if (0 : Int) = 0 then (if (0 : Int) = 0 then ((bibelotref07_Flips.f k x y true).bind fun t532 => (if ((gap n true x y : Nat) : Int) = t532 then (bibelotlaw07_PancakeBurnt.j0 k (n : Int) x (ms.map (fun m => ((m.2 : Int) + 1))) (((ms.map (fun m => ((m.2 : Int) + 1))).length : Int) != t531)) else (bibelotlaw07_PancakeBurnt.j0 k (n : Int) x (ms.map (fun m => ((m.2 : Int) + 1))) true))) else (bibelotlaw07_PancakeBurnt.j0 k (n : Int) x (ms.map (fun m => ((m.2 : Int) + 1))) true)) else (bibelotlaw07_PancakeBurnt.j0 k (n : Int) x (ms.map (fun m => ((m.2 : Int) + 1))) true)))) (fun k => ?_) ?_
 ·unfold bibelotlaw07_PancakeBurnt.f
  rw [h7, Option.bind_some, row_f l1 n true (by omega), Option.bind_some, row_f l2 n true (by omega), Option.bind_some, hxe, hye, pflipsB_ok hn hx hy hn1, Option.bind_some, hor, Option.bind_some]
 ·refine Ev.bind (rfirst_ev n (by omega)) (Ev.bind (rflips_ev hn1 (by omega) hx hfs) (Ev.congr (fun k => ?_) (Ev.bind (rflips_ev hn1 (by omega) hx hy) (f := fun k t532 => (if ((gap n true x y : Nat) : Int) = t532 then (bibelotlaw07_PancakeBurnt.j0 k (n : Int) x (ms.map (fun m => ((m.2 : Int) + 1))) (((ms.map (fun m => ((m.2 : Int) + 1))).length : Int) != ((gap n true x (firstL n) : Nat) : Int))) else (bibelotlaw07_PancakeBurnt.j0 k (n : Int) x (ms.map (fun m => ((m.2 : Int) + 1))) true))) (Ev.congr (fun k => ?_) hj0))))
  ·rw [if_pos rfl, if_pos rfl]
  ·rw [if_pos rfl]
end Go.Proofs.Ytepjhdblmghckaa.Pure
