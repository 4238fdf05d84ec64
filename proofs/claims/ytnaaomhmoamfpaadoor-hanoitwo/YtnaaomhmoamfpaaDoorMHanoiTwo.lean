/- HanoiTwo: without the reference: the number of great moves of a shortest way is what the kind says, or one or two if there are both: the walk and the plain law, for every input. -/
import Derived.Test.YtnaaomhmoamfpaaDoorA1
import Derived.Test.YtnaaomhmoamfpaaDoorA4
import Derived.Test.YtnaaomhmoamfpaaDoorLHanoiTwo
namespace Go.Proofs.YtnaaomhmoamfpaaDoor.G
end Go.Proofs.YtnaaomhmoamfpaaDoor.G
namespace Go.Proofs.YtnaaomhmoamfpaaDoor.Q
set_option linter.unusedVariables false
set_option linter.unusedSimpArgs false
set_option linter.unusedSectionVars false
open Go.Proofs.YtnaaomhmoamfpaaDoor.G
open Go.RowKit Go.Proofs.YtnaaomhmoamfpaaDoorW.PrintWords Go.Proofs.YtnaaomhmoamfpaaDoorW.PrintLast Go.Proofs.YtnaaomhmoamfpaaDoorW.PrintMore
attribute [local go_sem] max2_int min2_int max_two min_two max_three min_three max_four min_four   -- for this text's walks alone

/-! ### bibelotlaw03_HanoiTwo: function 20 -/
mutual
def bibelotlaw03_HanoiTwo.j1 : Nat → Int → List (S52) → Int → Int → Option (Bool)
  | 0, _, _, _, _ => none
  | k + 1, x9, x11, x12, x13 => bibelotlaw03_HanoiTwo.l1 k x9 x11 x12 x13 0 0
def bibelotlaw03_HanoiTwo.l1 : Nat → Int → List (S52) → Int → Int → Int → Int → Option (Bool)
  | 0, _, _, _, _, _, _ => none
  | k + 1, x9, x11, x12, x13, x14, x15 => if x15 < (x11.length : Int) then (bibelotlaw03_HanoiTwo.j3 k x9 x11 x12 x13 x14 x15 (decide (x15 < 300))) else (bibelotlaw03_HanoiTwo.j3 k x9 x11 x12 x13 x14 x15 false)
def bibelotlaw03_HanoiTwo.j3 : Nat → Int → List (S52) → Int → Int → Int → Int → Bool → Option (Bool)
  | 0, _, _, _, _, _, _, _ => none
  | k + 1, x9, x11, x12, x13, x14, x15, x72 => if x72 = true then (if 0 ≤ x15 then (if x15 < (x11.length : Int) then (if ((rd_T52 x11 x15).f0) = x13 then (if ((rd_T52 x11 x15).f0) > x13 then (some false) else (bibelotlaw03_HanoiTwo.l1 k x9 x11 x12 x13 (wrap64 (x14 + 1)) (wrap64 (x15 + 1)))) else (if ((rd_T52 x11 x15).f0) > x13 then (some false) else (bibelotlaw03_HanoiTwo.l1 k x9 x11 x12 x13 x14 (wrap64 (x15 + 1))))) else (none)) else (none)) else (if x12 = 0 then (if x13 ≥ 0 then (if x9 = 3 then (if x14 = 1 then ((bibelotlaw03_awake.f k).bind fun t509 => (some t509)) else (if x14 = 2 then ((bibelotlaw03_awake.f k).bind fun t510 => (some t510)) else (if x9 = x14 then ((bibelotlaw03_awake.f k).bind fun t511 => (some t511)) else (some false)))) else (if x9 = x14 then ((bibelotlaw03_awake.f k).bind fun t512 => (some t512)) else (some false))) else (some false)) else (some false))
def bibelotlaw03_HanoiTwo.l0 : Nat → List Int → List Int → Int → List (S52) → Int → Int → Option (Bool)
  | 0, _, _, _, _, _, _ => none
  | k + 1, x7, x8, x9, x11, x12, x13 => if x13 ≥ 0 then (if 0 ≤ x13 then (if x13 < (x7.length : Int) then (if x13 < (x8.length : Int) then (if (rd x7 x13) = (rd x8 x13) then (bibelotlaw03_HanoiTwo.l0 k x7 x8 x9 x11 x12 (wrap64 (x13 - 1))) else (bibelotlaw03_HanoiTwo.j1 k x9 x11 x12 x13)) else (none)) else (none)) else (none)) else (bibelotlaw03_HanoiTwo.j1 k x9 x11 x12 x13)
end
def bibelotlaw03_HanoiTwo.f (k : Nat) (a0 : Int) (l1 : List Int) (l2 : List Int) : Option (Bool) := (bibelotlaw03_many.f a0 8).bind fun t492 => ((bibelotlaw03_discs.f k l1 t492).bind fun t493 => ((bibelotlaw03_discs.f k l2 t492).bind fun t496 => ((hanoi_Kind.f k t493 t496).bind fun bt499 => (if bt499.2 = 0 then ((hanoi_Way.f t493 t496).bind fun bt503 => (bibelotlaw03_HanoiTwo.l0 k t493 t496 bt499.1 bt503.1 bt503.2 (wrap64 (t492 - 1)))) else (if bt499.2 = 1 then ((bibelotlaw03_ints.f k t493 t496).bind fun t501 => (if t501 = true then ((bibelotlaw03_awake.f k).bind fun t502 => (some t502)) else (some false))) else (some false))))))
theorem bibelotlaw03_HanoiTwo.mono_l : ∀ k, (∀ y0 y1 y2 y3, LeO (bibelotlaw03_HanoiTwo.j1 k y0 y1 y2 y3) (bibelotlaw03_HanoiTwo.j1 (k + 1) y0 y1 y2 y3)) ∧ (∀ y0 y1 y2 y3 y4 y5, LeO (bibelotlaw03_HanoiTwo.l1 k y0 y1 y2 y3 y4 y5) (bibelotlaw03_HanoiTwo.l1 (k + 1) y0 y1 y2 y3 y4 y5)) ∧ (∀ y0 y1 y2 y3 y4 y5 y6, LeO (bibelotlaw03_HanoiTwo.j3 k y0 y1 y2 y3 y4 y5 y6) (bibelotlaw03_HanoiTwo.j3 (k + 1) y0 y1 y2 y3 y4 y5 y6)) ∧ (∀ y0 y1 y2 y3 y4 y5, LeO (bibelotlaw03_HanoiTwo.l0 k y0 y1 y2 y3 y4 y5) (bibelotlaw03_HanoiTwo.l0 (k + 1) y0 y1 y2 y3 y4 y5))
  | 0 => ⟨fun _ _ _ _ r h => by simp [bibelotlaw03_HanoiTwo.j1] at h, fun _ _ _ _ _ _ r h => by simp [bibelotlaw03_HanoiTwo.l1] at h, fun _ _ _ _ _ _ _ r h => by simp [bibelotlaw03_HanoiTwo.j3] at h, fun _ _ _ _ _ _ r h => by simp [bibelotlaw03_HanoiTwo.l0] at h⟩
  | k + 1 => by
    obtain ⟨ih0, ih1, ih2, ih3⟩ := bibelotlaw03_HanoiTwo.mono_l k
    refine ⟨?_, ?_, ?_, ?_⟩
    · intro y0 y1 y2 y3
      unfold bibelotlaw03_HanoiTwo.j1
      repeat' first
      | (with_reducible exact ih0 _ _ _ _)
      | (with_reducible exact ih1 _ _ _ _ _ _)
      | (with_reducible exact ih2 _ _ _ _ _ _ _)
      | (with_reducible exact ih3 _ _ _ _ _ _)
      | (with_reducible exact bibelotlaw03_awake.mono _)
      | (with_reducible exact bibelotlaw03_discs.mono _ _ _)
      | (with_reducible exact bibelotlaw03_ints.mono _ _ _)
      | (with_reducible exact hanoi_Kind.mono _ _ _)
      | (with_reducible exact LeO.refl _)
      | (with_reducible exact LeO.none _)
      | (with_reducible refine LeO.ite ?_ ?_)
      | (with_reducible refine LeO.bind ?_ (fun _ => ?_))
      | exact ih0 _ _ _ _
      | exact ih1 _ _ _ _ _ _
      | exact ih2 _ _ _ _ _ _ _
      | exact ih3 _ _ _ _ _ _
      | exact bibelotlaw03_awake.mono _
      | exact bibelotlaw03_discs.mono _ _ _
      | exact bibelotlaw03_ints.mono _ _ _
      | exact hanoi_Kind.mono _ _ _
      | exact LeO.none _
      | refine LeO.ite ?_ ?_
      | refine LeO.bind ?_ (fun _ => ?_)
    · intro y0 y1 y2 y3 y4 y5
      unfold bibelotlaw03_HanoiTwo.l1
      repeat' first
      | (with_reducible exact ih0 _ _ _ _)
      | (with_reducible exact ih1 _ _ _ _ _ _)
      | (with_reducible exact ih2 _ _ _ _ _ _ _)
      | (with_reducible exact ih3 _ _ _ _ _ _)
      | (with_reducible exact bibelotlaw03_awake.mono _)
      | (with_reducible exact bibelotlaw03_discs.mono _ _ _)
      | (with_reducible exact bibelotlaw03_ints.mono _ _ _)
      | (with_reducible exact hanoi_Kind.mono _ _ _)
      | (with_reducible exact LeO.refl _)
      | (with_reducible exact LeO.none _)
      | (with_reducible refine LeO.ite ?_ ?_)
      | (with_reducible refine LeO.bind ?_ (fun _ => ?_))
      | exact ih0 _ _ _ _
      | exact ih1 _ _ _ _ _ _
      | exact ih2 _ _ _ _ _ _ _
      | exact ih3 _ _ _ _ _ _
      | exact bibelotlaw03_awake.mono _
      | exact bibelotlaw03_discs.mono _ _ _
      | exact bibelotlaw03_ints.mono _ _ _
      | exact hanoi_Kind.mono _ _ _
      | exact LeO.none _
      | refine LeO.ite ?_ ?_
      | refine LeO.bind ?_ (fun _ => ?_)
    · intro y0 y1 y2 y3 y4 y5 y6
      unfold bibelotlaw03_HanoiTwo.j3
      repeat' first
      | (with_reducible exact ih0 _ _ _ _)
      | (with_reducible exact ih1 _ _ _ _ _ _)
      | (with_reducible exact ih2 _ _ _ _ _ _ _)
      | (with_reducible exact ih3 _ _ _ _ _ _)
      | (with_reducible exact bibelotlaw03_awake.mono _)
      | (with_reducible exact bibelotlaw03_discs.mono _ _ _)
      | (with_reducible exact bibelotlaw03_ints.mono _ _ _)
      | (with_reducible exact hanoi_Kind.mono _ _ _)
      | (with_reducible exact LeO.refl _)
      | (with_reducible exact LeO.none _)
      | (with_reducible refine LeO.ite ?_ ?_)
      | (with_reducible refine LeO.bind ?_ (fun _ => ?_))
      | exact ih0 _ _ _ _
      | exact ih1 _ _ _ _ _ _
      | exact ih2 _ _ _ _ _ _ _
      | exact ih3 _ _ _ _ _ _
      | exact bibelotlaw03_awake.mono _
      | exact bibelotlaw03_discs.mono _ _ _
      | exact bibelotlaw03_ints.mono _ _ _
      | exact hanoi_Kind.mono _ _ _
      | exact LeO.none _
      | refine LeO.ite ?_ ?_
      | refine LeO.bind ?_ (fun _ => ?_)
    · intro y0 y1 y2 y3 y4 y5
      unfold bibelotlaw03_HanoiTwo.l0
      repeat' first
      | (with_reducible exact ih0 _ _ _ _)
      | (with_reducible exact ih1 _ _ _ _ _ _)
      | (with_reducible exact ih2 _ _ _ _ _ _ _)
      | (with_reducible exact ih3 _ _ _ _ _ _)
      | (with_reducible exact bibelotlaw03_awake.mono _)
      | (with_reducible exact bibelotlaw03_discs.mono _ _ _)
      | (with_reducible exact bibelotlaw03_ints.mono _ _ _)
      | (with_reducible exact hanoi_Kind.mono _ _ _)
      | (with_reducible exact LeO.refl _)
      | (with_reducible exact LeO.none _)
      | (with_reducible refine LeO.ite ?_ ?_)
      | (with_reducible refine LeO.bind ?_ (fun _ => ?_))
      | exact ih0 _ _ _ _
      | exact ih1 _ _ _ _ _ _
      | exact ih2 _ _ _ _ _ _ _
      | exact ih3 _ _ _ _ _ _
      | exact bibelotlaw03_awake.mono _
      | exact bibelotlaw03_discs.mono _ _ _
      | exact bibelotlaw03_ints.mono _ _ _
      | exact hanoi_Kind.mono _ _ _
      | exact LeO.none _
      | refine LeO.ite ?_ ?_
      | refine LeO.bind ?_ (fun _ => ?_)
theorem bibelotlaw03_HanoiTwo.mono : ∀ a0 a1 a2 k, LeO (bibelotlaw03_HanoiTwo.f k a0 a1 a2) (bibelotlaw03_HanoiTwo.f (k + 1) a0 a1 a2) := by
  intro a0 a1 a2 k
  obtain ⟨ih0, ih1, ih2, ih3⟩ := bibelotlaw03_HanoiTwo.mono_l k
  unfold bibelotlaw03_HanoiTwo.f
  repeat' first
      | (with_reducible exact ih0 _ _ _ _)
      | (with_reducible exact ih1 _ _ _ _ _ _)
      | (with_reducible exact ih2 _ _ _ _ _ _ _)
      | (with_reducible exact ih3 _ _ _ _ _ _)
      | (with_reducible exact bibelotlaw03_awake.mono _)
      | (with_reducible exact bibelotlaw03_discs.mono _ _ _)
      | (with_reducible exact bibelotlaw03_ints.mono _ _ _)
      | (with_reducible exact hanoi_Kind.mono _ _ _)
      | (with_reducible exact LeO.refl _)
      | (with_reducible exact LeO.none _)
      | (with_reducible refine LeO.ite ?_ ?_)
      | (with_reducible refine LeO.bind ?_ (fun _ => ?_))
      | exact ih0 _ _ _ _
      | exact ih1 _ _ _ _ _ _
      | exact ih2 _ _ _ _ _ _ _
      | exact ih3 _ _ _ _ _ _
      | exact bibelotlaw03_awake.mono _
      | exact bibelotlaw03_discs.mono _ _ _
      | exact bibelotlaw03_ints.mono _ _ _
      | exact hanoi_Kind.mono _ _ _
      | exact LeO.none _
      | refine LeO.ite ?_ ?_
      | refine LeO.bind ?_ (fun _ => ?_)
set_option maxHeartbeats 8000000 in
set_option maxRecDepth 100000 in
theorem bibelotlaw03_HanoiTwo.calls (k : Nat) (a0 : Int) (A1 : Option Addr) (c1 : Nat) (l1 : List Int) (A2 : Option Addr) (c2 : Nat) (l2 : List Int) (r : Bool) (w : World) (hr1 : Kd.C (Kd.int .i64) w A1 l1.length l1) (hc1 : l1.length ≤ c1) (hr2 : Kd.C (Kd.int .i64) w A2 l2.length l2) (hc2 : l2.length ≤ c2) (h : bibelotlaw03_HanoiTwo.f k a0 l1 l2 = some r) :
    Calls Tryd.prog 20 #[.int .i64 a0, .slice A1 l1.length c1, .slice A2 l2.length c2] w fun e w' => e = .returned (.bool r) ∧ Below w.heap.size w w' := by
  have HR1 := Aside0.mk hr1
  have HC1 := Aside0.mk hc1
  clear hr1 hc1
  have HR2 := Aside0.mk hr2
  have HC2 := Aside0.mk hc2
  clear hr2 hc2
  have HB := Aside0.mk (Below.refl w.heap.size w)
  have H : ((bibelotlaw03_many.f a0 8).bind fun t492 => ((bibelotlaw03_discs.f k l1 t492).bind fun t493 => ((bibelotlaw03_discs.f k l2 t492).bind fun t496 => ((hanoi_Kind.f k t493 t496).bind fun bt499 => (if bt499.2 = 0 then ((hanoi_Way.f t493 t496).bind fun bt503 => (bibelotlaw03_HanoiTwo.l0 k t493 t496 bt499.1 bt503.1 bt503.2 (wrap64 (t492 - 1)))) else (if bt499.2 = 1 then ((bibelotlaw03_ints.f k t493 t496).bind fun t501 => (if t501 = true then ((bibelotlaw03_awake.f k).bind fun t502 => (some t502)) else (some false))) else (some false))))))) = some r := h
  clear h
  replace H := Option.bind_eq_some_iff.mp H
  obtain ⟨t492, A40, H⟩ := H
  replace H : ((bibelotlaw03_discs.f k l1 t492).bind fun t493 => ((bibelotlaw03_discs.f k l2 t492).bind fun t496 => ((hanoi_Kind.f k t493 t496).bind fun bt499 => (if bt499.2 = 0 then ((hanoi_Way.f t493 t496).bind fun bt503 => (bibelotlaw03_HanoiTwo.l0 k t493 t496 bt499.1 bt503.1 bt503.2 (wrap64 (t492 - 1)))) else (if bt499.2 = 1 then ((bibelotlaw03_ints.f k t493 t496).bind fun t501 => (if t501 = true then ((bibelotlaw03_awake.f k).bind fun t502 => (some t502)) else (some false))) else (some false)))))) = some r := H
  have A4 := Aside0.mk A40
  clear A40
  replace H := Option.bind_eq_some_iff.mp H
  obtain ⟨t493, A50, H⟩ := H
  replace H : ((bibelotlaw03_discs.f k l2 t492).bind fun t496 => ((hanoi_Kind.f k t493 t496).bind fun bt499 => (if bt499.2 = 0 then ((hanoi_Way.f t493 t496).bind fun bt503 => (bibelotlaw03_HanoiTwo.l0 k t493 t496 bt499.1 bt503.1 bt503.2 (wrap64 (t492 - 1)))) else (if bt499.2 = 1 then ((bibelotlaw03_ints.f k t493 t496).bind fun t501 => (if t501 = true then ((bibelotlaw03_awake.f k).bind fun t502 => (some t502)) else (some false))) else (some false))))) = some r := H
  have A5 := Aside0.mk A50
  clear A50
  replace H := Option.bind_eq_some_iff.mp H
  obtain ⟨t496, A60, H⟩ := H
  replace H : ((hanoi_Kind.f k t493 t496).bind fun bt499 => (if bt499.2 = 0 then ((hanoi_Way.f t493 t496).bind fun bt503 => (bibelotlaw03_HanoiTwo.l0 k t493 t496 bt499.1 bt503.1 bt503.2 (wrap64 (t492 - 1)))) else (if bt499.2 = 1 then ((bibelotlaw03_ints.f k t493 t496).bind fun t501 => (if t501 = true then ((bibelotlaw03_awake.f k).bind fun t502 => (some t502)) else (some false))) else (some false)))) = some r := H
  have A6 := Aside0.mk A60
  clear A60
  replace H := Option.bind_eq_some_iff.mp H
  obtain ⟨⟨t499, t500⟩, A70, H⟩ := H
  replace H : (if t500 = 0 then ((hanoi_Way.f t493 t496).bind fun bt503 => (bibelotlaw03_HanoiTwo.l0 k t493 t496 t499 bt503.1 bt503.2 (wrap64 (t492 - 1)))) else (if t500 = 1 then ((bibelotlaw03_ints.f k t493 t496).bind fun t501 => (if t501 = true then ((bibelotlaw03_awake.f k).bind fun t502 => (some t502)) else (some false))) else (some false))) = some r := H
  have A7 := Aside0.mk A70
  clear A70
  by_cases c8 : t500 = 0
  · rw [if_pos c8] at H
    have c8b0 : (t500 == 0) = true := beq_iff_eq.mpr c8
    have c8b1 : (t500 != 0) = false := bne_eq_false_iff_eq.mpr c8
    clear c8
    replace H := Option.bind_eq_some_iff.mp H
    obtain ⟨⟨t503, t504⟩, A90, H⟩ := H
    replace H : (bibelotlaw03_HanoiTwo.l0 k t493 t496 t499 t503 t504 (wrap64 (t492 - 1))) = some r := H
    have A9 := Aside0.mk A90
    clear A90
    have HC10 := Aside0.mk H
    clear H
    go_enter Tryd.func20, Tryd.ntmps20
    go_upto_block 0 with (first | (go_at_call 25; (with_reducible refine (bibelotlaw03_many.calls a0 8 t492 _ A4.out).mono ?_); rintro e w' ⟨rfl, ⟨nd, rfl⟩⟩; (try first | exact ⟨rfl, _, World.drewN_drewN _ _ _⟩ | exact ⟨rfl, _, Eq.trans (World.drewN_drewN _ _ _) (congrArg (World.drewN _) (Nat.add_assoc _ _ _))⟩)) | (go_at_call 40; (with_reducible refine (bibelotlaw03_discs.calls k _ _ l1 t492 t493 _ ?side1 ?side2 A5.out).mono ?_); (case side1 => repeat (first | exact HR1.out | (with_reducible refine Kd.C_alloc ?_ _) | (with_reducible refine Kd.C_drewN ?_ _) | (with_reducible refine Kd.C_drew ?_))); (case side2 => exact HC1.out); rintro e w11 ⟨v494, rfl, ho0, hb⟩; have n0_ := Aside0.mk (Kd.R_lower ho0 (below_size (by repeat (first | (with_reducible first | exact HB.out | apply below_alloc | apply pw_below_drewN | apply below_drew1) | exact HB.out)))); have n1_ := Aside0.mk (below_step (by repeat (first | (with_reducible first | exact HB.out | apply below_alloc | apply pw_below_drewN | apply below_drew1) | exact HB.out)) hb); clear HB; have HO495 := n0_; have HB := n1_; clear n0_ n1_; (try clear hb); (try clear hb2); (try clear hk); (try clear hi); (try clear ho0)) | (go_at_call 40; (with_reducible refine (bibelotlaw03_discs.calls k _ _ l2 t492 t496 _ ?side1 ?side2 A6.out).mono ?_); (case side1 => repeat (first | exact (Kd.C_below HR2.out HB.out) | (with_reducible refine Kd.C_alloc ?_ _) | (with_reducible refine Kd.C_drewN ?_ _) | (with_reducible refine Kd.C_drew ?_))); (case side2 => exact HC2.out); rintro e w12 ⟨v497, rfl, ho0, hb⟩; have n0_ := Aside0.mk (Kd.R_elder' (by (with_reducible repeat (first | apply Kd.R_alloc | apply Kd.R_drewN | apply Kd.R_drew)); exact HO495.out) (Kd.R_base ho0) hb); have n1_ := Aside0.mk (Kd.R_lower (Kd.R_new' ho0 (Kd.R_lt (by (with_reducible repeat (first | apply Kd.R_alloc | apply Kd.R_drewN | apply Kd.R_drew)); exact HO495.out))) (below_size (by repeat (first | (with_reducible first | exact HB.out | apply below_alloc | apply pw_below_drewN | apply below_drew1) | exact HB.out)))); have n2_ := Aside0.mk (below_step (by repeat (first | (with_reducible first | exact HB.out | apply below_alloc | apply pw_below_drewN | apply below_drew1) | exact HB.out)) hb); clear HO495; clear HB; have HO495 := n0_; have HO498 := n1_; have HB := n2_; clear n0_ n1_ n2_; (try clear hb); (try clear hb2); (try clear hk); (try clear hi); (try clear ho0); obtain ⟨Ao13, co13, eo13⟩ := Kd.R_slice HO495.out; subst eo13; obtain ⟨Ao14, co14, eo14⟩ := Kd.R_slice HO498.out; subst eo14) | (go_at_call 47; (with_reducible refine (hanoi_Kind.calls k (fun k_ => some k_ = (.slice Ao13 t493.length co13 : Value).ownBlock) _ _ t493 (fun k_ => some k_ = (.slice Ao14 t496.length co14 : Value).ownBlock) _ _ t496 t499 t500 _ ?side1 ?side2 A7.out).mono ?_); (case side1 => exact Kd.R_V (Kd.R_tight rfl (HO495.out))); (case side2 => exact Kd.R_V (Kd.R_tight rfl (HO498.out))); rintro e w15 ⟨rfl, hb⟩; have n0_ := Aside0.mk (Kd.R_below (by (with_reducible repeat (first | apply Kd.R_alloc | apply Kd.R_drewN | apply Kd.R_drew)); exact HO495.out) hb); have n1_ := Aside0.mk (Kd.R_below (by (with_reducible repeat (first | apply Kd.R_alloc | apply Kd.R_drewN | apply Kd.R_drew)); exact HO498.out) hb); have n2_ := Aside0.mk (below_step (by repeat (first | (with_reducible first | exact HB.out | apply below_alloc | apply pw_below_drewN | apply below_drew1) | exact HB.out)) hb); clear HO495; clear HO498; clear HB; have HO495 := n0_; have HO498 := n1_; have HB := n2_; clear n0_ n1_ n2_; (try clear hb); (try clear hb2); (try clear hk); (try clear hi)) | (go_at_call 59; (with_reducible refine (hanoi_Way.calls _ _ t493 _ _ t496 t503 t504 _ ?side1 ?side2 ?side3 ?side4 A9.out).mono ?_); (case side1 => repeat (first | exact (Kd.R_reads' HO495.out).2.2 | (with_reducible refine Kd.C_alloc ?_ _) | (with_reducible refine Kd.C_drewN ?_ _) | (with_reducible refine Kd.C_drew ?_))); (case side2 => exact (Kd.R_reads' HO495.out).2.1); (case side3 => repeat (first | exact (Kd.R_reads' HO498.out).2.2 | (with_reducible refine Kd.C_alloc ?_ _) | (with_reducible refine Kd.C_drewN ?_ _) | (with_reducible refine Kd.C_drew ?_))); (case side4 => exact (Kd.R_reads' HO498.out).2.1); rintro e w16 ⟨v505, rfl, ho0, hb⟩; have n0_ := Aside0.mk (Kd.R_below (by (with_reducible repeat (first | apply Kd.R_alloc | apply Kd.R_drewN | apply Kd.R_drew)); exact HO495.out) hb); have n1_ := Aside0.mk (Kd.R_below (by (with_reducible repeat (first | apply Kd.R_alloc | apply Kd.R_drewN | apply Kd.R_drew)); exact HO498.out) hb); have n2_ := Aside0.mk (Kd.R_lower ho0 (below_size (by repeat (first | (with_reducible first | exact HB.out | apply below_alloc | apply pw_below_drewN | apply below_drew1) | exact HB.out)))); have n3_ := Aside0.mk (below_step (by repeat (first | (with_reducible first | exact HB.out | apply below_alloc | apply pw_below_drewN | apply below_drew1) | exact HB.out)) hb); clear HO495; clear HO498; clear HB; have HO495 := n0_; have HO498 := n1_; have HO506 := n2_; have HB := n3_; clear n0_ n1_ n2_ n3_; (try clear hb); (try clear hb2); (try clear hk); (try clear hi); (try clear ho0)))
    repeat (go_quiet (first | (go_at_call 25; (with_reducible refine (bibelotlaw03_many.calls a0 8 t492 _ A4.out).mono ?_); rintro e w' ⟨rfl, ⟨nd, rfl⟩⟩; (try first | exact ⟨rfl, _, World.drewN_drewN _ _ _⟩ | exact ⟨rfl, _, Eq.trans (World.drewN_drewN _ _ _) (congrArg (World.drewN _) (Nat.add_assoc _ _ _))⟩)) | (go_at_call 40; (with_reducible refine (bibelotlaw03_discs.calls k _ _ l1 t492 t493 _ ?side1 ?side2 A5.out).mono ?_); (case side1 => repeat (first | exact HR1.out | (with_reducible refine Kd.C_alloc ?_ _) | (with_reducible refine Kd.C_drewN ?_ _) | (with_reducible refine Kd.C_drew ?_))); (case side2 => exact HC1.out); rintro e w11 ⟨v494, rfl, ho0, hb⟩; have n0_ := Aside0.mk (Kd.R_lower ho0 (below_size (by repeat (first | (with_reducible first | exact HB.out | apply below_alloc | apply pw_below_drewN | apply below_drew1) | exact HB.out)))); have n1_ := Aside0.mk (below_step (by repeat (first | (with_reducible first | exact HB.out | apply below_alloc | apply pw_below_drewN | apply below_drew1) | exact HB.out)) hb); clear HB; have HO495 := n0_; have HB := n1_; clear n0_ n1_; (try clear hb); (try clear hb2); (try clear hk); (try clear hi); (try clear ho0)) | (go_at_call 40; (with_reducible refine (bibelotlaw03_discs.calls k _ _ l2 t492 t496 _ ?side1 ?side2 A6.out).mono ?_); (case side1 => repeat (first | exact (Kd.C_below HR2.out HB.out) | (with_reducible refine Kd.C_alloc ?_ _) | (with_reducible refine Kd.C_drewN ?_ _) | (with_reducible refine Kd.C_drew ?_))); (case side2 => exact HC2.out); rintro e w12 ⟨v497, rfl, ho0, hb⟩; have n0_ := Aside0.mk (Kd.R_elder' (by (with_reducible repeat (first | apply Kd.R_alloc | apply Kd.R_drewN | apply Kd.R_drew)); exact HO495.out) (Kd.R_base ho0) hb); have n1_ := Aside0.mk (Kd.R_lower (Kd.R_new' ho0 (Kd.R_lt (by (with_reducible repeat (first | apply Kd.R_alloc | apply Kd.R_drewN | apply Kd.R_drew)); exact HO495.out))) (below_size (by repeat (first | (with_reducible first | exact HB.out | apply below_alloc | apply pw_below_drewN | apply below_drew1) | exact HB.out)))); have n2_ := Aside0.mk (below_step (by repeat (first | (with_reducible first | exact HB.out | apply below_alloc | apply pw_below_drewN | apply below_drew1) | exact HB.out)) hb); clear HO495; clear HB; have HO495 := n0_; have HO498 := n1_; have HB := n2_; clear n0_ n1_ n2_; (try clear hb); (try clear hb2); (try clear hk); (try clear hi); (try clear ho0); obtain ⟨Ao13, co13, eo13⟩ := Kd.R_slice HO495.out; subst eo13; obtain ⟨Ao14, co14, eo14⟩ := Kd.R_slice HO498.out; subst eo14) | (go_at_call 47; (with_reducible refine (hanoi_Kind.calls k (fun k_ => some k_ = (.slice Ao13 t493.length co13 : Value).ownBlock) _ _ t493 (fun k_ => some k_ = (.slice Ao14 t496.length co14 : Value).ownBlock) _ _ t496 t499 t500 _ ?side1 ?side2 A7.out).mono ?_); (case side1 => exact Kd.R_V (Kd.R_tight rfl (HO495.out))); (case side2 => exact Kd.R_V (Kd.R_tight rfl (HO498.out))); rintro e w15 ⟨rfl, hb⟩; have n0_ := Aside0.mk (Kd.R_below (by (with_reducible repeat (first | apply Kd.R_alloc | apply Kd.R_drewN | apply Kd.R_drew)); exact HO495.out) hb); have n1_ := Aside0.mk (Kd.R_below (by (with_reducible repeat (first | apply Kd.R_alloc | apply Kd.R_drewN | apply Kd.R_drew)); exact HO498.out) hb); have n2_ := Aside0.mk (below_step (by repeat (first | (with_reducible first | exact HB.out | apply below_alloc | apply pw_below_drewN | apply below_drew1) | exact HB.out)) hb); clear HO495; clear HO498; clear HB; have HO495 := n0_; have HO498 := n1_; have HB := n2_; clear n0_ n1_ n2_; (try clear hb); (try clear hb2); (try clear hk); (try clear hi)) | (go_at_call 59; (with_reducible refine (hanoi_Way.calls _ _ t493 _ _ t496 t503 t504 _ ?side1 ?side2 ?side3 ?side4 A9.out).mono ?_); (case side1 => repeat (first | exact (Kd.R_reads' HO495.out).2.2 | (with_reducible refine Kd.C_alloc ?_ _) | (with_reducible refine Kd.C_drewN ?_ _) | (with_reducible refine Kd.C_drew ?_))); (case side2 => exact (Kd.R_reads' HO495.out).2.1); (case side3 => repeat (first | exact (Kd.R_reads' HO498.out).2.2 | (with_reducible refine Kd.C_alloc ?_ _) | (with_reducible refine Kd.C_drewN ?_ _) | (with_reducible refine Kd.C_drew ?_))); (case side4 => exact (Kd.R_reads' HO498.out).2.1); rintro e w16 ⟨v505, rfl, ho0, hb⟩; have n0_ := Aside0.mk (Kd.R_below (by (with_reducible repeat (first | apply Kd.R_alloc | apply Kd.R_drewN | apply Kd.R_drew)); exact HO495.out) hb); have n1_ := Aside0.mk (Kd.R_below (by (with_reducible repeat (first | apply Kd.R_alloc | apply Kd.R_drewN | apply Kd.R_drew)); exact HO498.out) hb); have n2_ := Aside0.mk (Kd.R_lower ho0 (below_size (by repeat (first | (with_reducible first | exact HB.out | apply below_alloc | apply pw_below_drewN | apply below_drew1) | exact HB.out)))); have n3_ := Aside0.mk (below_step (by repeat (first | (with_reducible first | exact HB.out | apply below_alloc | apply pw_below_drewN | apply below_drew1) | exact HB.out)) hb); clear HO495; clear HO498; clear HB; have HO495 := n0_; have HO498 := n1_; have HO506 := n2_; have HB := n3_; clear n0_ n1_ n2_ n3_; (try clear hb); (try clear hb2); (try clear hk); (try clear hi); (try clear ho0))); go_upto_block 0 with (first | (go_at_call 25; (with_reducible refine (bibelotlaw03_many.calls a0 8 t492 _ A4.out).mono ?_); rintro e w' ⟨rfl, ⟨nd, rfl⟩⟩; (try first | exact ⟨rfl, _, World.drewN_drewN _ _ _⟩ | exact ⟨rfl, _, Eq.trans (World.drewN_drewN _ _ _) (congrArg (World.drewN _) (Nat.add_assoc _ _ _))⟩)) | (go_at_call 40; (with_reducible refine (bibelotlaw03_discs.calls k _ _ l1 t492 t493 _ ?side1 ?side2 A5.out).mono ?_); (case side1 => repeat (first | exact HR1.out | (with_reducible refine Kd.C_alloc ?_ _) | (with_reducible refine Kd.C_drewN ?_ _) | (with_reducible refine Kd.C_drew ?_))); (case side2 => exact HC1.out); rintro e w11 ⟨v494, rfl, ho0, hb⟩; have n0_ := Aside0.mk (Kd.R_lower ho0 (below_size (by repeat (first | (with_reducible first | exact HB.out | apply below_alloc | apply pw_below_drewN | apply below_drew1) | exact HB.out)))); have n1_ := Aside0.mk (below_step (by repeat (first | (with_reducible first | exact HB.out | apply below_alloc | apply pw_below_drewN | apply below_drew1) | exact HB.out)) hb); clear HB; have HO495 := n0_; have HB := n1_; clear n0_ n1_; (try clear hb); (try clear hb2); (try clear hk); (try clear hi); (try clear ho0)) | (go_at_call 40; (with_reducible refine (bibelotlaw03_discs.calls k _ _ l2 t492 t496 _ ?side1 ?side2 A6.out).mono ?_); (case side1 => repeat (first | exact (Kd.C_below HR2.out HB.out) | (with_reducible refine Kd.C_alloc ?_ _) | (with_reducible refine Kd.C_drewN ?_ _) | (with_reducible refine Kd.C_drew ?_))); (case side2 => exact HC2.out); rintro e w12 ⟨v497, rfl, ho0, hb⟩; have n0_ := Aside0.mk (Kd.R_elder' (by (with_reducible repeat (first | apply Kd.R_alloc | apply Kd.R_drewN | apply Kd.R_drew)); exact HO495.out) (Kd.R_base ho0) hb); have n1_ := Aside0.mk (Kd.R_lower (Kd.R_new' ho0 (Kd.R_lt (by (with_reducible repeat (first | apply Kd.R_alloc | apply Kd.R_drewN | apply Kd.R_drew)); exact HO495.out))) (below_size (by repeat (first | (with_reducible first | exact HB.out | apply below_alloc | apply pw_below_drewN | apply below_drew1) | exact HB.out)))); have n2_ := Aside0.mk (below_step (by repeat (first | (with_reducible first | exact HB.out | apply below_alloc | apply pw_below_drewN | apply below_drew1) | exact HB.out)) hb); clear HO495; clear HB; have HO495 := n0_; have HO498 := n1_; have HB := n2_; clear n0_ n1_ n2_; (try clear hb); (try clear hb2); (try clear hk); (try clear hi); (try clear ho0); obtain ⟨Ao13, co13, eo13⟩ := Kd.R_slice HO495.out; subst eo13; obtain ⟨Ao14, co14, eo14⟩ := Kd.R_slice HO498.out; subst eo14) | (go_at_call 47; (with_reducible refine (hanoi_Kind.calls k (fun k_ => some k_ = (.slice Ao13 t493.length co13 : Value).ownBlock) _ _ t493 (fun k_ => some k_ = (.slice Ao14 t496.length co14 : Value).ownBlock) _ _ t496 t499 t500 _ ?side1 ?side2 A7.out).mono ?_); (case side1 => exact Kd.R_V (Kd.R_tight rfl (HO495.out))); (case side2 => exact Kd.R_V (Kd.R_tight rfl (HO498.out))); rintro e w15 ⟨rfl, hb⟩; have n0_ := Aside0.mk (Kd.R_below (by (with_reducible repeat (first | apply Kd.R_alloc | apply Kd.R_drewN | apply Kd.R_drew)); exact HO495.out) hb); have n1_ := Aside0.mk (Kd.R_below (by (with_reducible repeat (first | apply Kd.R_alloc | apply Kd.R_drewN | apply Kd.R_drew)); exact HO498.out) hb); have n2_ := Aside0.mk (below_step (by repeat (first | (with_reducible first | exact HB.out | apply below_alloc | apply pw_below_drewN | apply below_drew1) | exact HB.out)) hb); clear HO495; clear HO498; clear HB; have HO495 := n0_; have HO498 := n1_; have HB := n2_; clear n0_ n1_ n2_; (try clear hb); (try clear hb2); (try clear hk); (try clear hi)) | (go_at_call 59; (with_reducible refine (hanoi_Way.calls _ _ t493 _ _ t496 t503 t504 _ ?side1 ?side2 ?side3 ?side4 A9.out).mono ?_); (case side1 => repeat (first | exact (Kd.R_reads' HO495.out).2.2 | (with_reducible refine Kd.C_alloc ?_ _) | (with_reducible refine Kd.C_drewN ?_ _) | (with_reducible refine Kd.C_drew ?_))); (case side2 => exact (Kd.R_reads' HO495.out).2.1); (case side3 => repeat (first | exact (Kd.R_reads' HO498.out).2.2 | (with_reducible refine Kd.C_alloc ?_ _) | (with_reducible refine Kd.C_drewN ?_ _) | (with_reducible refine Kd.C_drew ?_))); (case side4 => exact (Kd.R_reads' HO498.out).2.1); rintro e w16 ⟨v505, rfl, ho0, hb⟩; have n0_ := Aside0.mk (Kd.R_below (by (with_reducible repeat (first | apply Kd.R_alloc | apply Kd.R_drewN | apply Kd.R_drew)); exact HO495.out) hb); have n1_ := Aside0.mk (Kd.R_below (by (with_reducible repeat (first | apply Kd.R_alloc | apply Kd.R_drewN | apply Kd.R_drew)); exact HO498.out) hb); have n2_ := Aside0.mk (Kd.R_lower ho0 (below_size (by repeat (first | (with_reducible first | exact HB.out | apply below_alloc | apply pw_below_drewN | apply below_drew1) | exact HB.out)))); have n3_ := Aside0.mk (below_step (by repeat (first | (with_reducible first | exact HB.out | apply below_alloc | apply pw_below_drewN | apply below_drew1) | exact HB.out)) hb); clear HO495; clear HO498; clear HB; have HO495 := n0_; have HO498 := n1_; have HO506 := n2_; have HB := n3_; clear n0_ n1_ n2_ n3_; (try clear hb); (try clear hb2); (try clear hk); (try clear hi); (try clear ho0))))
    (try simp only [Act.put, List.setIfInBounds_toArray, List.set_cons_zero, List.set_cons_succ])
    go_cut [13] (fun v13 wc => ∃ (kq : Nat) (x13_9 : Int), v13 = .int .i64 x13_9 ∧ Aside0 (bibelotlaw03_HanoiTwo.j1 kq t499 t503 t504 x13_9 = some r) ∧ Aside0 (kq ≤ k) ∧ Aside0 (Kd.R k52 52 wc w.heap.size (fun _ => True) v505 t503) ∧ Aside0 (Below w.heap.size w wc))
    case first =>
      have H := HC10.out
      clear HC10
      have H' := Aside0.mk H
      clear H
      go_wp2
      repeat (go_quiet (fail); try go_wp2)
      go_loopg [13] k (fun kq v13 w' => ∃ (x13_1 : Int), v13 = .int .i64 x13_1 ∧ Aside0 (bibelotlaw03_HanoiTwo.l0 kq t493 t496 t499 t503 t504 x13_1 = some r) ∧ Aside0 (kq ≤ k) ∧ Aside0 (Kd.R (Kd.int .i64) 3 w' w.heap.size (fun k_ => some k_ ≠ ((.slice Ao14 t496.length co14) : Value).ownBlock) (.slice Ao13 t493.length co13) t493) ∧ Aside0 (Kd.R (Kd.int .i64) 3 w' w.heap.size (fun k_ => some k_ ≠ ((.slice Ao13 t493.length co13) : Value).ownBlock) (.slice Ao14 t496.length co14) t496) ∧ Aside0 (Kd.R k52 52 w' w.heap.size (fun _ => True) v505 t503) ∧ Aside0 (Below w.heap.size w w'))
      case atStart => exact ⟨(wrap64 (t492 - 1)), (by first | rfl | (simp; done) | (simp [*]; done)), H', ⟨Nat.le_refl _⟩, ⟨by (with_reducible repeat (first | apply Kd.R_alloc | apply Kd.R_drewN | apply Kd.R_drew)); exact Kd.R_mono HO495.out (fun _ hk => hk.2)⟩, ⟨by (with_reducible repeat (first | apply Kd.R_alloc | apply Kd.R_drewN | apply Kd.R_drew)); exact Kd.R_mono HO498.out (fun _ hk => hk.2)⟩, ⟨by (with_reducible repeat (first | apply Kd.R_alloc | apply Kd.R_drewN | apply Kd.R_drew)); exact HO506.out⟩, ⟨by repeat (first | (with_reducible first | exact HB.out | apply below_alloc | apply pw_below_drewN | apply below_drew1) | exact HB.out)⟩⟩
      case round =>
        clear H'
        try clear c1
        try clear c2
        try clear p2
        try clear p6
        try clear c8
        try clear c8b0
        try clear c8b1
        obtain ⟨x13_1, rfl, HA, HK1, HO_7, HO_8, HO_11, HB⟩ := hrel
        cases gk with
        | zero => exact absurd HA.out (by simp [bibelotlaw03_HanoiTwo.l0])
        | succ k1 =>
          have H := HA.out
          clear HA
          simp only [bibelotlaw03_HanoiTwo.l0] at H
          by_cases c17 : x13_1 ≥ 0
          · rw [if_pos c17] at H
            have c17b0 : decide (0 ≤ x13_1) = true := decide_eq_true c17
            clear c17
            (first | rw [c17b0] | (simp only [i64_w, i32_w]; rw [c17b0]) | skip)
            by_cases c18 : 0 ≤ x13_1
            · rw [if_pos c18] at H
              have c18b0 : decide (0 ≤ x13_1) = true := decide_eq_true c18
              clear c18
              by_cases c19 : x13_1 < (t493.length : Int)
              · rw [if_pos c19] at H
                have c19b0 : decide (x13_1 < (t493.length : Int)) = true := decide_eq_true c19
                clear c19
                by_cases c20 : x13_1 < (t496.length : Int)
                · rw [if_pos c20] at H
                  have c20b0 : decide (x13_1 < (t496.length : Int)) = true := decide_eq_true c20
                  clear c20
                  by_cases c21 : (rd t493 x13_1) = (rd t496 x13_1)
                  · rw [if_pos c21] at H
                    have c21b0 : ((rd t493 x13_1) == (rd t496 x13_1)) = true := beq_iff_eq.mpr c21
                    have c21b1 : ((rd t493 x13_1) != (rd t496 x13_1)) = false := bne_eq_false_iff_eq.mpr c21
                    clear c21
                    have H' := Aside0.mk H
                    clear H
                    have p507 : 0 ≤ (x13_1 : Int) := of_decide_eq_true (by first | (with_reducible assumption) | assumption)
                    have q507 : x13_1 < (t493.length : Int) := of_decide_eq_true (by first | (with_reducible assumption) | assumption)
                    obtain ⟨ad507, e507, hx507_0⟩ := Kd.at_int (Kd.R_reads' HO_7.out).2.2 x13_1 p507 q507
                    cases e507
                    replace p507 := eq_true p507
                    replace q507 := eq_true q507
                    have p508 : 0 ≤ (x13_1 : Int) := of_decide_eq_true (by first | (with_reducible assumption) | assumption)
                    have q508 : x13_1 < (t496.length : Int) := of_decide_eq_true (by first | (with_reducible assumption) | assumption)
                    obtain ⟨ad508, e508, hx508_0⟩ := Kd.at_int (Kd.R_reads' HO_8.out).2.2 x13_1 p508 q508
                    cases e508
                    replace p508 := eq_true p508
                    replace q508 := eq_true q508
                    go_wp2
                    repeat (go_quiet (fail); try go_wp2)
                    go_roundg k1
                    case measure => have := HK1.out; omega
                    case rel => exact ⟨(wrap64 (x13_1 - 1)), (by first | rfl | (simp; done) | (simp [*]; done)), H', ⟨by have := HK1.out; omega⟩, ⟨by (with_reducible repeat (first | apply Kd.R_alloc | apply Kd.R_drewN | apply Kd.R_drew)); exact HO_7.out⟩, ⟨by (with_reducible repeat (first | apply Kd.R_alloc | apply Kd.R_drewN | apply Kd.R_drew)); exact HO_8.out⟩, ⟨by (with_reducible repeat (first | apply Kd.R_alloc | apply Kd.R_drewN | apply Kd.R_drew)); exact HO_11.out⟩, ⟨by repeat (first | (with_reducible first | exact HB.out | apply below_alloc | apply pw_below_drewN | apply below_drew1) | exact HB.out)⟩⟩
                  · rw [if_neg c21] at H
                    have c21b0 : ((rd t493 x13_1) == (rd t496 x13_1)) = false := beq_eq_false_iff_ne.mpr c21
                    have c21b1 : ((rd t493 x13_1) != (rd t496 x13_1)) = true := bne_iff_ne.mpr c21
                    have H' := Aside0.mk H
                    clear H
                    have p507 : 0 ≤ (x13_1 : Int) := of_decide_eq_true (by first | (with_reducible assumption) | assumption)
                    have q507 : x13_1 < (t493.length : Int) := of_decide_eq_true (by first | (with_reducible assumption) | assumption)
                    obtain ⟨ad507, e507, hx507_0⟩ := Kd.at_int (Kd.R_reads' HO_7.out).2.2 x13_1 p507 q507
                    cases e507
                    replace p507 := eq_true p507
                    replace q507 := eq_true q507
                    have p508 : 0 ≤ (x13_1 : Int) := of_decide_eq_true (by first | (with_reducible assumption) | assumption)
                    have q508 : x13_1 < (t496.length : Int) := of_decide_eq_true (by first | (with_reducible assumption) | assumption)
                    obtain ⟨ad508, e508, hx508_0⟩ := Kd.at_int (Kd.R_reads' HO_8.out).2.2 x13_1 p508 q508
                    cases e508
                    replace p508 := eq_true p508
                    replace q508 := eq_true q508
                    go_wp2
                    repeat (go_quiet (fail); try go_wp2)
                    go_meet
                    case rel => exact ⟨_, (x13_1), (by first | rfl | (simp; done) | (simp [*]; done)), H', ⟨by have := HK1.out; first | omega | exact Nat.le_refl _⟩, ⟨by (with_reducible repeat (first | apply Kd.R_alloc | apply Kd.R_drewN | apply Kd.R_drew)); exact HO_11.out⟩, ⟨by repeat (first | (with_reducible first | exact HB.out | apply below_alloc | apply pw_below_drewN | apply below_drew1) | exact HB.out)⟩⟩
                · rw [if_neg c20] at H
                  exact absurd H (by simp)
              · rw [if_neg c19] at H
                exact absurd H (by simp)
            · rw [if_neg c18] at H
              exact absurd H (by simp)
          · rw [if_neg c17] at H
            have c17b0 : decide (0 ≤ x13_1) = false := decide_eq_false c17
            clear c17
            (first | rw [c17b0] | (simp only [i64_w, i32_w]; rw [c17b0]) | skip)
            have H' := Aside0.mk H
            clear H
            go_wp2
            repeat (go_quiet (fail); try go_wp2)
            go_meet
            case rel => exact ⟨_, (x13_1), (by first | rfl | (simp; done) | (simp [*]; done)), H', ⟨by have := HK1.out; first | omega | exact Nat.le_refl _⟩, ⟨by (with_reducible repeat (first | apply Kd.R_alloc | apply Kd.R_drewN | apply Kd.R_drew)); exact HO_11.out⟩, ⟨by repeat (first | (with_reducible first | exact HB.out | apply below_alloc | apply pw_below_drewN | apply below_drew1) | exact HB.out)⟩⟩
    case rest =>
      clear HC10
      try clear c1
      try clear c2
      try clear p2
      try clear p5
      try clear q5
      try clear hx5
      try clear p6
      try clear c8
      try clear c8b0
      try clear c8b1
      try clear c17
      try clear c17b0
      try clear c18
      try clear c18b0
      try clear c19
      try clear c19b0
      try clear c20
      try clear c20b0
      try clear c21
      try clear c21b0
      try clear c21b1
      try clear hx507_0
      try clear hx508_0
      try clear p2
      try clear p507
      try clear p508
      try clear p6
      try clear q507
      try clear q508
      obtain ⟨kq, x13_9, rfl, HA, HJ9, HO_11, HB⟩ := hcut
      cases kq with
      | zero => exact absurd HA.out (by simp [bibelotlaw03_HanoiTwo.j1])
      | succ kj9 =>
        have H := HA.out
        clear HA
        simp only [bibelotlaw03_HanoiTwo.j1] at H
        have H' := Aside0.mk H
        clear H
        go_wp2
        repeat (go_quiet (fail); try go_wp2)
        go_loopg [14, 15] kj9 (fun kq v14 v15 w' => ∃ (x14_2 : Int) (x15_2 : Int), v14 = .int .i64 x14_2 ∧ v15 = .int .i64 x15_2 ∧ Aside0 (bibelotlaw03_HanoiTwo.l1 kq t499 t503 t504 x13_9 x14_2 x15_2 = some r) ∧ Aside0 (kq ≤ kj9) ∧ Aside0 (Kd.R k52 52 w' w.heap.size (fun _ => True) v505 t503) ∧ Aside0 (Below w.heap.size w w'))
        case atStart => exact ⟨(0), (0), (by first | rfl | (simp; done) | (simp [*]; done)), (by first | rfl | (simp; done) | (simp [*]; done)), H', ⟨Nat.le_refl _⟩, ⟨by (with_reducible repeat (first | apply Kd.R_alloc | apply Kd.R_drewN | apply Kd.R_drew)); exact HO_11.out⟩, ⟨by repeat (first | (with_reducible first | exact HB.out | apply below_alloc | apply pw_below_drewN | apply below_drew1) | exact HB.out)⟩⟩
        case round =>
          clear H'
          try clear c1
          try clear c2
          try clear p2
          try clear p5
          try clear q5
          try clear hx5
          try clear p6
          try clear c8
          try clear c8b0
          try clear c8b1
          try clear c17
          try clear c17b0
          try clear c18
          try clear c18b0
          try clear c19
          try clear c19b0
          try clear c20
          try clear c20b0
          try clear c21
          try clear c21b0
          try clear c21b1
          try clear hx507_0
          try clear hx508_0
          try clear p2
          try clear p5
          try clear p507
          try clear p508
          try clear p6
          try clear q5
          try clear q507
          try clear q508
          obtain ⟨x14_2, x15_2, rfl, rfl, HA, HK2, HO_11, HB⟩ := hrel
          cases gk with
          | zero => exact absurd HA.out (by simp [bibelotlaw03_HanoiTwo.l1])
          | succ k2 =>
            have H := HA.out
            clear HA
            simp only [bibelotlaw03_HanoiTwo.l1] at H
            have HC22 := Aside0.mk H
            clear H
            go_upto_region 12 with (fail)
            repeat (go_quiet (fail); go_upto_region 12 with (fail))
            go_cut [72] (fun v72 wc => ∃ (kq : Nat) (x72_21 : Bool), v72 = .bool x72_21 ∧ Aside0 (bibelotlaw03_HanoiTwo.j3 kq t499 t503 t504 x13_9 x14_2 x15_2 x72_21 = some r) ∧ Aside0 (kq ≤ k2) ∧ Aside0 (Kd.R k52 52 wc w.heap.size (fun _ => True) v505 t503) ∧ Aside0 (Below w.heap.size w wc))
            case first =>
              have H := HC22.out
              clear HC22
              by_cases c23 : x15_2 < (t503.length : Int)
              · rw [if_pos c23] at H
                have c23b0 : decide (x15_2 < (t503.length : Int)) = true := decide_eq_true c23
                clear c23
                (first | rw [c23b0] | (simp only [i64_w, i32_w]; rw [c23b0]) | skip)
                have H' := Aside0.mk H
                clear H
                obtain ⟨Ao24, co24, eo24⟩ := Kd.R_slice HO_11.out
                subst eo24
                go_wp2
                repeat (go_quiet (fail); try go_wp2)
                go_meet
                case rel => exact ⟨_, (decide (x15_2 < 300)), (by first | rfl | (simp; done) | (simp [*]; done)), H', ⟨by have := HJ9.out; have := HK2.out; first | omega | exact Nat.le_refl _⟩, ⟨by (with_reducible repeat (first | apply Kd.R_alloc | apply Kd.R_drewN | apply Kd.R_drew)); exact HO_11.out⟩, ⟨by repeat (first | (with_reducible first | exact HB.out | apply below_alloc | apply pw_below_drewN | apply below_drew1) | exact HB.out)⟩⟩
              · rw [if_neg c23] at H
                have c23b0 : decide (x15_2 < (t503.length : Int)) = false := decide_eq_false c23
                clear c23
                (first | rw [c23b0] | (simp only [i64_w, i32_w]; rw [c23b0]) | skip)
                have H' := Aside0.mk H
                clear H
                obtain ⟨Ao25, co25, eo25⟩ := Kd.R_slice HO_11.out
                subst eo25
                go_wp2
                repeat (go_quiet (fail); try go_wp2)
                go_meet
                case rel => exact ⟨_, (false), (by first | rfl | (simp; done) | (simp [*]; done)), H', ⟨by have := HJ9.out; have := HK2.out; first | omega | exact Nat.le_refl _⟩, ⟨by (with_reducible repeat (first | apply Kd.R_alloc | apply Kd.R_drewN | apply Kd.R_drew)); exact HO_11.out⟩, ⟨by repeat (first | (with_reducible first | exact HB.out | apply below_alloc | apply pw_below_drewN | apply below_drew1) | exact HB.out)⟩⟩
            case rest =>
              clear HC22
              try clear c1
              try clear c2
              try clear p2
              try clear p5
              try clear q5
              try clear hx5
              try clear p6
              try clear c8
              try clear c8b0
              try clear c8b1
              try clear c17
              try clear c17b0
              try clear c18
              try clear c18b0
              try clear c19
              try clear c19b0
              try clear c20
              try clear c20b0
              try clear c21
              try clear c21b0
              try clear c21b1
              try clear c23
              try clear c23b0
              try clear hx507_0
              try clear hx508_0
              try clear p2
              try clear p5
              try clear p507
              try clear p508
              try clear p6
              try clear q5
              try clear q507
              try clear q508
              obtain ⟨kq, x72_21, rfl, HA, HJ21, HO_11, HB⟩ := hcut
              cases kq with
              | zero => exact absurd HA.out (by simp [bibelotlaw03_HanoiTwo.j3])
              | succ kj21 =>
                have H := HA.out
                clear HA
                simp only [bibelotlaw03_HanoiTwo.j3] at H
                by_cases c26 : x72_21 = true
                · subst c26
                  have H1 : (if 0 ≤ x15_2 then (if x15_2 < (t503.length : Int) then (if ((rd_T52 t503 x15_2).f0) = x13_9 then (if ((rd_T52 t503 x15_2).f0) > x13_9 then (some false) else (bibelotlaw03_HanoiTwo.l1 kj21 t499 t503 t504 x13_9 (wrap64 (x14_2 + 1)) (wrap64 (x15_2 + 1)))) else (if ((rd_T52 t503 x15_2).f0) > x13_9 then (some false) else (bibelotlaw03_HanoiTwo.l1 kj21 t499 t503 t504 x13_9 x14_2 (wrap64 (x15_2 + 1))))) else (none)) else (none)) = some r := by rw [if_pos rfl] at H; exact H
                  clear H
                  have H := H1
                  clear H1
                  by_cases c27 : 0 ≤ x15_2
                  · rw [if_pos c27] at H
                    have c27b0 : decide (0 ≤ x15_2) = true := decide_eq_true c27
                    clear c27
                    by_cases c28 : x15_2 < (t503.length : Int)
                    · rw [if_pos c28] at H
                      have c28b0 : decide (x15_2 < (t503.length : Int)) = true := decide_eq_true c28
                      clear c28
                      by_cases c29 : ((rd_T52 t503 x15_2).f0) = x13_9
                      · rw [if_pos c29] at H
                        have c29b0 : (((rd_T52 t503 x15_2).f0) == x13_9) = true := beq_iff_eq.mpr c29
                        have c29b1 : (((rd_T52 t503 x15_2).f0) != x13_9) = false := bne_eq_false_iff_eq.mpr c29
                        clear c29
                        by_cases c30 : ((rd_T52 t503 x15_2).f0) > x13_9
                        · rw [if_pos c30] at H
                          have c30b0 : decide (x13_9 < ((rd_T52 t503 x15_2).f0)) = true := decide_eq_true c30
                          clear c30
                          obtain rfl := Option.some.inj H
                          obtain ⟨Ao31, co31, eo31⟩ := Kd.R_slice HO_11.out
                          subst eo31
                          have p513 : 0 ≤ (x15_2 : Int) := of_decide_eq_true (by first | (with_reducible assumption) | assumption)
                          have q513 : x15_2 < (t503.length : Int) := of_decide_eq_true (by first | (with_reducible assumption) | assumption)
                          obtain ⟨ad513, e513, hx513_0, hx513_1⟩ := at_T52 (Kd.R_reads' HO_11.out).2.2 x15_2 p513 q513
                          cases e513
                          replace p513 := eq_true p513
                          replace q513 := eq_true q513
                          have p514 : 0 ≤ (x15_2 : Int) := of_decide_eq_true (by first | (with_reducible assumption) | assumption)
                          have q514 : x15_2 < (t503.length : Int) := of_decide_eq_true (by first | (with_reducible assumption) | assumption)
                          obtain ⟨ad514, e514, hx514_0, hx514_1⟩ := at_T52 (Kd.R_reads' HO_11.out).2.2 x15_2 p514 q514
                          obtain rfl : ad513 = ad514 := (by injection e514)
                          replace p514 := eq_true p514
                          replace q514 := eq_true q514
                          go_wp2
                          repeat (go_quiet (fail); try go_wp2)
                          go_ret
                          exact ⟨by first | rfl | (simp [errW_none, errW_some] <;> rfl) | (simp [*, errW_none, errW_some] <;> rfl), by repeat (first | (with_reducible first | exact HB.out | apply below_alloc | apply pw_below_drewN | apply below_drew1) | exact HB.out)⟩
                        · rw [if_neg c30] at H
                          have c30b0 : decide (x13_9 < ((rd_T52 t503 x15_2).f0)) = false := decide_eq_false c30
                          clear c30
                          have H' := Aside0.mk H
                          clear H
                          obtain ⟨Ao32, co32, eo32⟩ := Kd.R_slice HO_11.out
                          subst eo32
                          have p513 : 0 ≤ (x15_2 : Int) := of_decide_eq_true (by first | (with_reducible assumption) | assumption)
                          have q513 : x15_2 < (t503.length : Int) := of_decide_eq_true (by first | (with_reducible assumption) | assumption)
                          obtain ⟨ad513, e513, hx513_0, hx513_1⟩ := at_T52 (Kd.R_reads' HO_11.out).2.2 x15_2 p513 q513
                          cases e513
                          replace p513 := eq_true p513
                          replace q513 := eq_true q513
                          have p514 : 0 ≤ (x15_2 : Int) := of_decide_eq_true (by first | (with_reducible assumption) | assumption)
                          have q514 : x15_2 < (t503.length : Int) := of_decide_eq_true (by first | (with_reducible assumption) | assumption)
                          obtain ⟨ad514, e514, hx514_0, hx514_1⟩ := at_T52 (Kd.R_reads' HO_11.out).2.2 x15_2 p514 q514
                          obtain rfl : ad513 = ad514 := (by injection e514)
                          replace p514 := eq_true p514
                          replace q514 := eq_true q514
                          go_wp2
                          repeat (go_quiet (fail); try go_wp2)
                          go_roundg kj21
                          case measure => have := HJ9.out; have := HK2.out; have := HJ21.out; omega
                          case rel => exact ⟨(wrap64 (x14_2 + 1)), (wrap64 (x15_2 + 1)), (by first | rfl | (simp; done) | (simp [*]; done)), (by first | rfl | (simp; done) | (simp [*]; done)), H', ⟨by have := HJ9.out; have := HK2.out; have := HJ21.out; omega⟩, ⟨by (with_reducible repeat (first | apply Kd.R_alloc | apply Kd.R_drewN | apply Kd.R_drew)); exact HO_11.out⟩, ⟨by repeat (first | (with_reducible first | exact HB.out | apply below_alloc | apply pw_below_drewN | apply below_drew1) | exact HB.out)⟩⟩
                      · rw [if_neg c29] at H
                        have c29b0 : (((rd_T52 t503 x15_2).f0) == x13_9) = false := beq_eq_false_iff_ne.mpr c29
                        have c29b1 : (((rd_T52 t503 x15_2).f0) != x13_9) = true := bne_iff_ne.mpr c29
                        by_cases c33 : ((rd_T52 t503 x15_2).f0) > x13_9
                        · rw [if_pos c33] at H
                          have c33b0 : decide (x13_9 < ((rd_T52 t503 x15_2).f0)) = true := decide_eq_true c33
                          clear c33
                          obtain rfl := Option.some.inj H
                          obtain ⟨Ao34, co34, eo34⟩ := Kd.R_slice HO_11.out
                          subst eo34
                          have p513 : 0 ≤ (x15_2 : Int) := of_decide_eq_true (by first | (with_reducible assumption) | assumption)
                          have q513 : x15_2 < (t503.length : Int) := of_decide_eq_true (by first | (with_reducible assumption) | assumption)
                          obtain ⟨ad513, e513, hx513_0, hx513_1⟩ := at_T52 (Kd.R_reads' HO_11.out).2.2 x15_2 p513 q513
                          cases e513
                          replace p513 := eq_true p513
                          replace q513 := eq_true q513
                          have p515 : 0 ≤ (x15_2 : Int) := of_decide_eq_true (by first | (with_reducible assumption) | assumption)
                          have q515 : x15_2 < (t503.length : Int) := of_decide_eq_true (by first | (with_reducible assumption) | assumption)
                          obtain ⟨ad515, e515, hx515_0, hx515_1⟩ := at_T52 (Kd.R_reads' HO_11.out).2.2 x15_2 p515 q515
                          obtain rfl : ad513 = ad515 := (by injection e515)
                          replace p515 := eq_true p515
                          replace q515 := eq_true q515
                          go_wp2
                          repeat (go_quiet (fail); try go_wp2)
                          go_ret
                          exact ⟨by first | rfl | (simp [errW_none, errW_some] <;> rfl) | (simp [*, errW_none, errW_some] <;> rfl), by repeat (first | (with_reducible first | exact HB.out | apply below_alloc | apply pw_below_drewN | apply below_drew1) | exact HB.out)⟩
                        · rw [if_neg c33] at H
                          have c33b0 : decide (x13_9 < ((rd_T52 t503 x15_2).f0)) = false := decide_eq_false c33
                          clear c33
                          have H' := Aside0.mk H
                          clear H
                          obtain ⟨Ao35, co35, eo35⟩ := Kd.R_slice HO_11.out
                          subst eo35
                          have p513 : 0 ≤ (x15_2 : Int) := of_decide_eq_true (by first | (with_reducible assumption) | assumption)
                          have q513 : x15_2 < (t503.length : Int) := of_decide_eq_true (by first | (with_reducible assumption) | assumption)
                          obtain ⟨ad513, e513, hx513_0, hx513_1⟩ := at_T52 (Kd.R_reads' HO_11.out).2.2 x15_2 p513 q513
                          cases e513
                          replace p513 := eq_true p513
                          replace q513 := eq_true q513
                          have p515 : 0 ≤ (x15_2 : Int) := of_decide_eq_true (by first | (with_reducible assumption) | assumption)
                          have q515 : x15_2 < (t503.length : Int) := of_decide_eq_true (by first | (with_reducible assumption) | assumption)
                          obtain ⟨ad515, e515, hx515_0, hx515_1⟩ := at_T52 (Kd.R_reads' HO_11.out).2.2 x15_2 p515 q515
                          obtain rfl : ad513 = ad515 := (by injection e515)
                          replace p515 := eq_true p515
                          replace q515 := eq_true q515
                          go_wp2
                          repeat (go_quiet (fail); try go_wp2)
                          go_roundg kj21
                          case measure => have := HJ9.out; have := HK2.out; have := HJ21.out; omega
                          case rel => exact ⟨(x14_2), (wrap64 (x15_2 + 1)), (by first | rfl | (simp; done) | (simp [*]; done)), (by first | rfl | (simp; done) | (simp [*]; done)), H', ⟨by have := HJ9.out; have := HK2.out; have := HJ21.out; omega⟩, ⟨by (with_reducible repeat (first | apply Kd.R_alloc | apply Kd.R_drewN | apply Kd.R_drew)); exact HO_11.out⟩, ⟨by repeat (first | (with_reducible first | exact HB.out | apply below_alloc | apply pw_below_drewN | apply below_drew1) | exact HB.out)⟩⟩
                    · rw [if_neg c28] at H
                      exact absurd H (by simp)
                  · rw [if_neg c27] at H
                    exact absurd H (by simp)
                · replace c26 := Bool.eq_false_iff.mpr c26
                  subst c26
                  have H1 : (if t504 = 0 then (if x13_9 ≥ 0 then (if t499 = 3 then (if x14_2 = 1 then ((bibelotlaw03_awake.f kj21).bind fun t509 => (some t509)) else (if x14_2 = 2 then ((bibelotlaw03_awake.f kj21).bind fun t510 => (some t510)) else (if t499 = x14_2 then ((bibelotlaw03_awake.f kj21).bind fun t511 => (some t511)) else (some false)))) else (if t499 = x14_2 then ((bibelotlaw03_awake.f kj21).bind fun t512 => (some t512)) else (some false))) else (some false)) else (some false)) = some r := by rw [if_neg (show ¬ (false = true) by decide)] at H; exact H
                  clear H
                  have H := H1
                  clear H1
                  by_cases c36 : t504 = 0
                  · rw [if_pos c36] at H
                    have c36b0 : (t504 == 0) = true := beq_iff_eq.mpr c36
                    have c36b1 : (t504 != 0) = false := bne_eq_false_iff_eq.mpr c36
                    clear c36
                    by_cases c37 : x13_9 ≥ 0
                    · rw [if_pos c37] at H
                      have c37b0 : decide (0 ≤ x13_9) = true := decide_eq_true c37
                      clear c37
                      by_cases c38 : t499 = 3
                      · rw [if_pos c38] at H
                        have c38b0 : (t499 == 3) = true := beq_iff_eq.mpr c38
                        have c38b1 : (t499 != 3) = false := bne_eq_false_iff_eq.mpr c38
                        clear c38
                        by_cases c39 : x14_2 = 1
                        · rw [if_pos c39] at H
                          have c39b0 : (x14_2 == 1) = true := beq_iff_eq.mpr c39
                          have c39b1 : (x14_2 != 1) = false := bne_eq_false_iff_eq.mpr c39
                          clear c39
                          replace H := Option.bind_eq_some_iff.mp H
                          obtain ⟨t509, A400, H⟩ := H
                          replace H : (some t509) = some r := H
                          have A40 := Aside0.mk A400
                          clear A400
                          obtain rfl := Option.some.inj H
                          go_wp2_with (first | (go_at_call 26; (with_reducible refine (bibelotlaw03_awake.calls kj21  t509 _ A40.out).mono ?_); rintro e w41 ⟨rfl, hb⟩; have n0_ := Aside0.mk (Kd.R_below (by (with_reducible repeat (first | apply Kd.R_alloc | apply Kd.R_drewN | apply Kd.R_drew)); exact HO_11.out) hb); have n1_ := Aside0.mk (below_step (by repeat (first | (with_reducible first | exact HB.out | apply below_alloc | apply pw_below_drewN | apply below_drew1) | exact HB.out)) hb); clear HO_11; clear HB; have HO_11 := n0_; have HB := n1_; clear n0_ n1_; (try clear hb); (try clear hb2); (try clear hk); (try clear hi)))
                          repeat (go_quiet (first | (go_at_call 26; (with_reducible refine (bibelotlaw03_awake.calls kj21  t509 _ A40.out).mono ?_); rintro e w41 ⟨rfl, hb⟩; have n0_ := Aside0.mk (Kd.R_below (by (with_reducible repeat (first | apply Kd.R_alloc | apply Kd.R_drewN | apply Kd.R_drew)); exact HO_11.out) hb); have n1_ := Aside0.mk (below_step (by repeat (first | (with_reducible first | exact HB.out | apply below_alloc | apply pw_below_drewN | apply below_drew1) | exact HB.out)) hb); clear HO_11; clear HB; have HO_11 := n0_; have HB := n1_; clear n0_ n1_; (try clear hb); (try clear hb2); (try clear hk); (try clear hi))); try go_wp2_with (first | (go_at_call 26; (with_reducible refine (bibelotlaw03_awake.calls kj21  t509 _ A40.out).mono ?_); rintro e w41 ⟨rfl, hb⟩; have n0_ := Aside0.mk (Kd.R_below (by (with_reducible repeat (first | apply Kd.R_alloc | apply Kd.R_drewN | apply Kd.R_drew)); exact HO_11.out) hb); have n1_ := Aside0.mk (below_step (by repeat (first | (with_reducible first | exact HB.out | apply below_alloc | apply pw_below_drewN | apply below_drew1) | exact HB.out)) hb); clear HO_11; clear HB; have HO_11 := n0_; have HB := n1_; clear n0_ n1_; (try clear hb); (try clear hb2); (try clear hk); (try clear hi))))
                          go_ret
                          exact ⟨by first | rfl | (simp [errW_none, errW_some] <;> rfl) | (simp [*, errW_none, errW_some] <;> rfl), by repeat (first | (with_reducible first | exact HB.out | apply below_alloc | apply pw_below_drewN | apply below_drew1) | exact HB.out)⟩
                        · rw [if_neg c39] at H
                          have c39b0 : (x14_2 == 1) = false := beq_eq_false_iff_ne.mpr c39
                          have c39b1 : (x14_2 != 1) = true := bne_iff_ne.mpr c39
                          by_cases c42 : x14_2 = 2
                          · rw [if_pos c42] at H
                            have c42b0 : (x14_2 == 2) = true := beq_iff_eq.mpr c42
                            have c42b1 : (x14_2 != 2) = false := bne_eq_false_iff_eq.mpr c42
                            clear c42
                            replace H := Option.bind_eq_some_iff.mp H
                            obtain ⟨t510, A430, H⟩ := H
                            replace H : (some t510) = some r := H
                            have A43 := Aside0.mk A430
                            clear A430
                            obtain rfl := Option.some.inj H
                            go_wp2_with (first | (go_at_call 26; (with_reducible refine (bibelotlaw03_awake.calls kj21  t510 _ A43.out).mono ?_); rintro e w44 ⟨rfl, hb⟩; have n0_ := Aside0.mk (Kd.R_below (by (with_reducible repeat (first | apply Kd.R_alloc | apply Kd.R_drewN | apply Kd.R_drew)); exact HO_11.out) hb); have n1_ := Aside0.mk (below_step (by repeat (first | (with_reducible first | exact HB.out | apply below_alloc | apply pw_below_drewN | apply below_drew1) | exact HB.out)) hb); clear HO_11; clear HB; have HO_11 := n0_; have HB := n1_; clear n0_ n1_; (try clear hb); (try clear hb2); (try clear hk); (try clear hi)))
                            repeat (go_quiet (first | (go_at_call 26; (with_reducible refine (bibelotlaw03_awake.calls kj21  t510 _ A43.out).mono ?_); rintro e w44 ⟨rfl, hb⟩; have n0_ := Aside0.mk (Kd.R_below (by (with_reducible repeat (first | apply Kd.R_alloc | apply Kd.R_drewN | apply Kd.R_drew)); exact HO_11.out) hb); have n1_ := Aside0.mk (below_step (by repeat (first | (with_reducible first | exact HB.out | apply below_alloc | apply pw_below_drewN | apply below_drew1) | exact HB.out)) hb); clear HO_11; clear HB; have HO_11 := n0_; have HB := n1_; clear n0_ n1_; (try clear hb); (try clear hb2); (try clear hk); (try clear hi))); try go_wp2_with (first | (go_at_call 26; (with_reducible refine (bibelotlaw03_awake.calls kj21  t510 _ A43.out).mono ?_); rintro e w44 ⟨rfl, hb⟩; have n0_ := Aside0.mk (Kd.R_below (by (with_reducible repeat (first | apply Kd.R_alloc | apply Kd.R_drewN | apply Kd.R_drew)); exact HO_11.out) hb); have n1_ := Aside0.mk (below_step (by repeat (first | (with_reducible first | exact HB.out | apply below_alloc | apply pw_below_drewN | apply below_drew1) | exact HB.out)) hb); clear HO_11; clear HB; have HO_11 := n0_; have HB := n1_; clear n0_ n1_; (try clear hb); (try clear hb2); (try clear hk); (try clear hi))))
                            go_ret
                            exact ⟨by first | rfl | (simp [errW_none, errW_some] <;> rfl) | (simp [*, errW_none, errW_some] <;> rfl), by repeat (first | (with_reducible first | exact HB.out | apply below_alloc | apply pw_below_drewN | apply below_drew1) | exact HB.out)⟩
                          · rw [if_neg c42] at H
                            have c42b0 : (x14_2 == 2) = false := beq_eq_false_iff_ne.mpr c42
                            have c42b1 : (x14_2 != 2) = true := bne_iff_ne.mpr c42
                            by_cases c45 : t499 = x14_2
                            · rw [if_pos c45] at H
                              have c45b0 : (t499 == x14_2) = true := beq_iff_eq.mpr c45
                              have c45b1 : (t499 != x14_2) = false := bne_eq_false_iff_eq.mpr c45
                              clear c45
                              replace H := Option.bind_eq_some_iff.mp H
                              obtain ⟨t511, A460, H⟩ := H
                              replace H : (some t511) = some r := H
                              have A46 := Aside0.mk A460
                              clear A460
                              obtain rfl := Option.some.inj H
                              go_wp2_with (first | (go_at_call 26; (with_reducible refine (bibelotlaw03_awake.calls kj21  t511 _ A46.out).mono ?_); rintro e w47 ⟨rfl, hb⟩; have n0_ := Aside0.mk (Kd.R_below (by (with_reducible repeat (first | apply Kd.R_alloc | apply Kd.R_drewN | apply Kd.R_drew)); exact HO_11.out) hb); have n1_ := Aside0.mk (below_step (by repeat (first | (with_reducible first | exact HB.out | apply below_alloc | apply pw_below_drewN | apply below_drew1) | exact HB.out)) hb); clear HO_11; clear HB; have HO_11 := n0_; have HB := n1_; clear n0_ n1_; (try clear hb); (try clear hb2); (try clear hk); (try clear hi)))
                              repeat (go_quiet (first | (go_at_call 26; (with_reducible refine (bibelotlaw03_awake.calls kj21  t511 _ A46.out).mono ?_); rintro e w47 ⟨rfl, hb⟩; have n0_ := Aside0.mk (Kd.R_below (by (with_reducible repeat (first | apply Kd.R_alloc | apply Kd.R_drewN | apply Kd.R_drew)); exact HO_11.out) hb); have n1_ := Aside0.mk (below_step (by repeat (first | (with_reducible first | exact HB.out | apply below_alloc | apply pw_below_drewN | apply below_drew1) | exact HB.out)) hb); clear HO_11; clear HB; have HO_11 := n0_; have HB := n1_; clear n0_ n1_; (try clear hb); (try clear hb2); (try clear hk); (try clear hi))); try go_wp2_with (first | (go_at_call 26; (with_reducible refine (bibelotlaw03_awake.calls kj21  t511 _ A46.out).mono ?_); rintro e w47 ⟨rfl, hb⟩; have n0_ := Aside0.mk (Kd.R_below (by (with_reducible repeat (first | apply Kd.R_alloc | apply Kd.R_drewN | apply Kd.R_drew)); exact HO_11.out) hb); have n1_ := Aside0.mk (below_step (by repeat (first | (with_reducible first | exact HB.out | apply below_alloc | apply pw_below_drewN | apply below_drew1) | exact HB.out)) hb); clear HO_11; clear HB; have HO_11 := n0_; have HB := n1_; clear n0_ n1_; (try clear hb); (try clear hb2); (try clear hk); (try clear hi))))
                              go_ret
                              exact ⟨by first | rfl | (simp [errW_none, errW_some] <;> rfl) | (simp [*, errW_none, errW_some] <;> rfl), by repeat (first | (with_reducible first | exact HB.out | apply below_alloc | apply pw_below_drewN | apply below_drew1) | exact HB.out)⟩
                            · rw [if_neg c45] at H
                              have c45b0 : (t499 == x14_2) = false := beq_eq_false_iff_ne.mpr c45
                              have c45b1 : (t499 != x14_2) = true := bne_iff_ne.mpr c45
                              obtain rfl := Option.some.inj H
                              go_wp2
                              repeat (go_quiet (fail); try go_wp2)
                              go_ret
                              exact ⟨by first | rfl | (simp [errW_none, errW_some] <;> rfl) | (simp [*, errW_none, errW_some] <;> rfl), by repeat (first | (with_reducible first | exact HB.out | apply below_alloc | apply pw_below_drewN | apply below_drew1) | exact HB.out)⟩
                      · rw [if_neg c38] at H
                        have c38b0 : (t499 == 3) = false := beq_eq_false_iff_ne.mpr c38
                        have c38b1 : (t499 != 3) = true := bne_iff_ne.mpr c38
                        by_cases c48 : t499 = x14_2
                        · rw [if_pos c48] at H
                          have c48b0 : (t499 == x14_2) = true := beq_iff_eq.mpr c48
                          have c48b1 : (t499 != x14_2) = false := bne_eq_false_iff_eq.mpr c48
                          clear c48
                          replace H := Option.bind_eq_some_iff.mp H
                          obtain ⟨t512, A490, H⟩ := H
                          replace H : (some t512) = some r := H
                          have A49 := Aside0.mk A490
                          clear A490
                          obtain rfl := Option.some.inj H
                          go_wp2_with (first | (go_at_call 26; (with_reducible refine (bibelotlaw03_awake.calls kj21  t512 _ A49.out).mono ?_); rintro e w50 ⟨rfl, hb⟩; have n0_ := Aside0.mk (Kd.R_below (by (with_reducible repeat (first | apply Kd.R_alloc | apply Kd.R_drewN | apply Kd.R_drew)); exact HO_11.out) hb); have n1_ := Aside0.mk (below_step (by repeat (first | (with_reducible first | exact HB.out | apply below_alloc | apply pw_below_drewN | apply below_drew1) | exact HB.out)) hb); clear HO_11; clear HB; have HO_11 := n0_; have HB := n1_; clear n0_ n1_; (try clear hb); (try clear hb2); (try clear hk); (try clear hi)))
                          repeat (go_quiet (first | (go_at_call 26; (with_reducible refine (bibelotlaw03_awake.calls kj21  t512 _ A49.out).mono ?_); rintro e w50 ⟨rfl, hb⟩; have n0_ := Aside0.mk (Kd.R_below (by (with_reducible repeat (first | apply Kd.R_alloc | apply Kd.R_drewN | apply Kd.R_drew)); exact HO_11.out) hb); have n1_ := Aside0.mk (below_step (by repeat (first | (with_reducible first | exact HB.out | apply below_alloc | apply pw_below_drewN | apply below_drew1) | exact HB.out)) hb); clear HO_11; clear HB; have HO_11 := n0_; have HB := n1_; clear n0_ n1_; (try clear hb); (try clear hb2); (try clear hk); (try clear hi))); try go_wp2_with (first | (go_at_call 26; (with_reducible refine (bibelotlaw03_awake.calls kj21  t512 _ A49.out).mono ?_); rintro e w50 ⟨rfl, hb⟩; have n0_ := Aside0.mk (Kd.R_below (by (with_reducible repeat (first | apply Kd.R_alloc | apply Kd.R_drewN | apply Kd.R_drew)); exact HO_11.out) hb); have n1_ := Aside0.mk (below_step (by repeat (first | (with_reducible first | exact HB.out | apply below_alloc | apply pw_below_drewN | apply below_drew1) | exact HB.out)) hb); clear HO_11; clear HB; have HO_11 := n0_; have HB := n1_; clear n0_ n1_; (try clear hb); (try clear hb2); (try clear hk); (try clear hi))))
                          go_ret
                          exact ⟨by first | rfl | (simp [errW_none, errW_some] <;> rfl) | (simp [*, errW_none, errW_some] <;> rfl), by repeat (first | (with_reducible first | exact HB.out | apply below_alloc | apply pw_below_drewN | apply below_drew1) | exact HB.out)⟩
                        · rw [if_neg c48] at H
                          have c48b0 : (t499 == x14_2) = false := beq_eq_false_iff_ne.mpr c48
                          have c48b1 : (t499 != x14_2) = true := bne_iff_ne.mpr c48
                          obtain rfl := Option.some.inj H
                          go_wp2
                          repeat (go_quiet (fail); try go_wp2)
                          go_ret
                          exact ⟨by first | rfl | (simp [errW_none, errW_some] <;> rfl) | (simp [*, errW_none, errW_some] <;> rfl), by repeat (first | (with_reducible first | exact HB.out | apply below_alloc | apply pw_below_drewN | apply below_drew1) | exact HB.out)⟩
                    · rw [if_neg c37] at H
                      have c37b0 : decide (0 ≤ x13_9) = false := decide_eq_false c37
                      clear c37
                      obtain rfl := Option.some.inj H
                      go_wp2
                      repeat (go_quiet (fail); try go_wp2)
                      go_ret
                      exact ⟨by first | rfl | (simp [errW_none, errW_some] <;> rfl) | (simp [*, errW_none, errW_some] <;> rfl), by repeat (first | (with_reducible first | exact HB.out | apply below_alloc | apply pw_below_drewN | apply below_drew1) | exact HB.out)⟩
                  · rw [if_neg c36] at H
                    have c36b0 : (t504 == 0) = false := beq_eq_false_iff_ne.mpr c36
                    have c36b1 : (t504 != 0) = true := bne_iff_ne.mpr c36
                    obtain rfl := Option.some.inj H
                    go_wp2
                    repeat (go_quiet (fail); try go_wp2)
                    go_ret
                    exact ⟨by first | rfl | (simp [errW_none, errW_some] <;> rfl) | (simp [*, errW_none, errW_some] <;> rfl), by repeat (first | (with_reducible first | exact HB.out | apply below_alloc | apply pw_below_drewN | apply below_drew1) | exact HB.out)⟩
  · rw [if_neg c8] at H
    have c8b0 : (t500 == 0) = false := beq_eq_false_iff_ne.mpr c8
    have c8b1 : (t500 != 0) = true := bne_iff_ne.mpr c8
    by_cases c51 : t500 = 1
    · rw [if_pos c51] at H
      have c51b0 : (t500 == 1) = true := beq_iff_eq.mpr c51
      have c51b1 : (t500 != 1) = false := bne_eq_false_iff_eq.mpr c51
      clear c51
      replace H := Option.bind_eq_some_iff.mp H
      obtain ⟨t501, A520, H⟩ := H
      replace H : (if t501 = true then ((bibelotlaw03_awake.f k).bind fun t502 => (some t502)) else (some false)) = some r := H
      have A52 := Aside0.mk A520
      clear A520
      by_cases c53 : t501 = true
      · subst c53
        have H1 : ((bibelotlaw03_awake.f k).bind fun t502 => (some t502)) = some r := by rw [if_pos rfl] at H; exact H
        clear H
        have H := H1
        clear H1
        replace H := Option.bind_eq_some_iff.mp H
        obtain ⟨t502, A540, H⟩ := H
        replace H : (some t502) = some r := H
        have A54 := Aside0.mk A540
        clear A540
        obtain rfl := Option.some.inj H
        go_enter Tryd.func20, Tryd.ntmps20
        go_wp2_with (first | (go_at_call 25; (with_reducible refine (bibelotlaw03_many.calls a0 8 t492 _ A4.out).mono ?_); rintro e w' ⟨rfl, ⟨nd, rfl⟩⟩; (try first | exact ⟨rfl, _, World.drewN_drewN _ _ _⟩ | exact ⟨rfl, _, Eq.trans (World.drewN_drewN _ _ _) (congrArg (World.drewN _) (Nat.add_assoc _ _ _))⟩)) | (go_at_call 40; (with_reducible refine (bibelotlaw03_discs.calls k _ _ l1 t492 t493 _ ?side1 ?side2 A5.out).mono ?_); (case side1 => repeat (first | exact HR1.out | (with_reducible refine Kd.C_alloc ?_ _) | (with_reducible refine Kd.C_drewN ?_ _) | (with_reducible refine Kd.C_drew ?_))); (case side2 => exact HC1.out); rintro e w55 ⟨v494, rfl, ho0, hb⟩; have n0_ := Aside0.mk (Kd.R_lower ho0 (below_size (by repeat (first | (with_reducible first | exact HB.out | apply below_alloc | apply pw_below_drewN | apply below_drew1) | exact HB.out)))); have n1_ := Aside0.mk (below_step (by repeat (first | (with_reducible first | exact HB.out | apply below_alloc | apply pw_below_drewN | apply below_drew1) | exact HB.out)) hb); clear HB; have HO495 := n0_; have HB := n1_; clear n0_ n1_; (try clear hb); (try clear hb2); (try clear hk); (try clear hi); (try clear ho0)) | (go_at_call 40; (with_reducible refine (bibelotlaw03_discs.calls k _ _ l2 t492 t496 _ ?side1 ?side2 A6.out).mono ?_); (case side1 => repeat (first | exact (Kd.C_below HR2.out HB.out) | (with_reducible refine Kd.C_alloc ?_ _) | (with_reducible refine Kd.C_drewN ?_ _) | (with_reducible refine Kd.C_drew ?_))); (case side2 => exact HC2.out); rintro e w56 ⟨v497, rfl, ho0, hb⟩; have n0_ := Aside0.mk (Kd.R_elder' (by (with_reducible repeat (first | apply Kd.R_alloc | apply Kd.R_drewN | apply Kd.R_drew)); exact HO495.out) (Kd.R_base ho0) hb); have n1_ := Aside0.mk (Kd.R_lower (Kd.R_new' ho0 (Kd.R_lt (by (with_reducible repeat (first | apply Kd.R_alloc | apply Kd.R_drewN | apply Kd.R_drew)); exact HO495.out))) (below_size (by repeat (first | (with_reducible first | exact HB.out | apply below_alloc | apply pw_below_drewN | apply below_drew1) | exact HB.out)))); have n2_ := Aside0.mk (below_step (by repeat (first | (with_reducible first | exact HB.out | apply below_alloc | apply pw_below_drewN | apply below_drew1) | exact HB.out)) hb); clear HO495; clear HB; have HO495 := n0_; have HO498 := n1_; have HB := n2_; clear n0_ n1_ n2_; (try clear hb); (try clear hb2); (try clear hk); (try clear hi); (try clear ho0); obtain ⟨Ao57, co57, eo57⟩ := Kd.R_slice HO495.out; subst eo57; obtain ⟨Ao58, co58, eo58⟩ := Kd.R_slice HO498.out; subst eo58) | (go_at_call 47; (with_reducible refine (hanoi_Kind.calls k (fun k_ => some k_ = (.slice Ao57 t493.length co57 : Value).ownBlock) _ _ t493 (fun k_ => some k_ = (.slice Ao58 t496.length co58 : Value).ownBlock) _ _ t496 t499 t500 _ ?side1 ?side2 A7.out).mono ?_); (case side1 => exact Kd.R_V (Kd.R_tight rfl (HO495.out))); (case side2 => exact Kd.R_V (Kd.R_tight rfl (HO498.out))); rintro e w59 ⟨rfl, hb⟩; have n0_ := Aside0.mk (Kd.R_below (by (with_reducible repeat (first | apply Kd.R_alloc | apply Kd.R_drewN | apply Kd.R_drew)); exact HO495.out) hb); have n1_ := Aside0.mk (Kd.R_below (by (with_reducible repeat (first | apply Kd.R_alloc | apply Kd.R_drewN | apply Kd.R_drew)); exact HO498.out) hb); have n2_ := Aside0.mk (below_step (by repeat (first | (with_reducible first | exact HB.out | apply below_alloc | apply pw_below_drewN | apply below_drew1) | exact HB.out)) hb); clear HO495; clear HO498; clear HB; have HO495 := n0_; have HO498 := n1_; have HB := n2_; clear n0_ n1_ n2_; (try clear hb); (try clear hb2); (try clear hk); (try clear hi)) | (go_at_call 49; (with_reducible refine (bibelotlaw03_ints.calls k _ _ t493 _ _ t496 true _ ?side1 ?side2 ?side3 ?side4 A52.out).mono ?_); (case side1 => repeat (first | exact (Kd.R_reads' HO495.out).2.2 | (with_reducible refine Kd.C_alloc ?_ _) | (with_reducible refine Kd.C_drewN ?_ _) | (with_reducible refine Kd.C_drew ?_))); (case side2 => exact (Kd.R_reads' HO495.out).2.1); (case side3 => repeat (first | exact (Kd.R_reads' HO498.out).2.2 | (with_reducible refine Kd.C_alloc ?_ _) | (with_reducible refine Kd.C_drewN ?_ _) | (with_reducible refine Kd.C_drew ?_))); (case side4 => exact (Kd.R_reads' HO498.out).2.1); rintro e w' ⟨rfl, ⟨nd, rfl⟩⟩; (try first | exact ⟨rfl, _, World.drewN_drewN _ _ _⟩ | exact ⟨rfl, _, Eq.trans (World.drewN_drewN _ _ _) (congrArg (World.drewN _) (Nat.add_assoc _ _ _))⟩)) | (go_at_call 26; (with_reducible refine (bibelotlaw03_awake.calls k  t502 _ A54.out).mono ?_); rintro e w60 ⟨rfl, hb⟩; have n0_ := Aside0.mk (Kd.R_below (by (with_reducible repeat (first | apply Kd.R_alloc | apply Kd.R_drewN | apply Kd.R_drew)); exact HO495.out) hb); have n1_ := Aside0.mk (Kd.R_below (by (with_reducible repeat (first | apply Kd.R_alloc | apply Kd.R_drewN | apply Kd.R_drew)); exact HO498.out) hb); have n2_ := Aside0.mk (below_step (by repeat (first | (with_reducible first | exact HB.out | apply below_alloc | apply pw_below_drewN | apply below_drew1) | exact HB.out)) hb); clear HO495; clear HO498; clear HB; have HO495 := n0_; have HO498 := n1_; have HB := n2_; clear n0_ n1_ n2_; (try clear hb); (try clear hb2); (try clear hk); (try clear hi)))
        repeat (go_quiet (first | (go_at_call 25; (with_reducible refine (bibelotlaw03_many.calls a0 8 t492 _ A4.out).mono ?_); rintro e w' ⟨rfl, ⟨nd, rfl⟩⟩; (try first | exact ⟨rfl, _, World.drewN_drewN _ _ _⟩ | exact ⟨rfl, _, Eq.trans (World.drewN_drewN _ _ _) (congrArg (World.drewN _) (Nat.add_assoc _ _ _))⟩)) | (go_at_call 40; (with_reducible refine (bibelotlaw03_discs.calls k _ _ l1 t492 t493 _ ?side1 ?side2 A5.out).mono ?_); (case side1 => repeat (first | exact HR1.out | (with_reducible refine Kd.C_alloc ?_ _) | (with_reducible refine Kd.C_drewN ?_ _) | (with_reducible refine Kd.C_drew ?_))); (case side2 => exact HC1.out); rintro e w55 ⟨v494, rfl, ho0, hb⟩; have n0_ := Aside0.mk (Kd.R_lower ho0 (below_size (by repeat (first | (with_reducible first | exact HB.out | apply below_alloc | apply pw_below_drewN | apply below_drew1) | exact HB.out)))); have n1_ := Aside0.mk (below_step (by repeat (first | (with_reducible first | exact HB.out | apply below_alloc | apply pw_below_drewN | apply below_drew1) | exact HB.out)) hb); clear HB; have HO495 := n0_; have HB := n1_; clear n0_ n1_; (try clear hb); (try clear hb2); (try clear hk); (try clear hi); (try clear ho0)) | (go_at_call 40; (with_reducible refine (bibelotlaw03_discs.calls k _ _ l2 t492 t496 _ ?side1 ?side2 A6.out).mono ?_); (case side1 => repeat (first | exact (Kd.C_below HR2.out HB.out) | (with_reducible refine Kd.C_alloc ?_ _) | (with_reducible refine Kd.C_drewN ?_ _) | (with_reducible refine Kd.C_drew ?_))); (case side2 => exact HC2.out); rintro e w56 ⟨v497, rfl, ho0, hb⟩; have n0_ := Aside0.mk (Kd.R_elder' (by (with_reducible repeat (first | apply Kd.R_alloc | apply Kd.R_drewN | apply Kd.R_drew)); exact HO495.out) (Kd.R_base ho0) hb); have n1_ := Aside0.mk (Kd.R_lower (Kd.R_new' ho0 (Kd.R_lt (by (with_reducible repeat (first | apply Kd.R_alloc | apply Kd.R_drewN | apply Kd.R_drew)); exact HO495.out))) (below_size (by repeat (first | (with_reducible first | exact HB.out | apply below_alloc | apply pw_below_drewN | apply below_drew1) | exact HB.out)))); have n2_ := Aside0.mk (below_step (by repeat (first | (with_reducible first | exact HB.out | apply below_alloc | apply pw_below_drewN | apply below_drew1) | exact HB.out)) hb); clear HO495; clear HB; have HO495 := n0_; have HO498 := n1_; have HB := n2_; clear n0_ n1_ n2_; (try clear hb); (try clear hb2); (try clear hk); (try clear hi); (try clear ho0); obtain ⟨Ao57, co57, eo57⟩ := Kd.R_slice HO495.out; subst eo57; obtain ⟨Ao58, co58, eo58⟩ := Kd.R_slice HO498.out; subst eo58) | (go_at_call 47; (with_reducible refine (hanoi_Kind.calls k (fun k_ => some k_ = (.slice Ao57 t493.length co57 : Value).ownBlock) _ _ t493 (fun k_ => some k_ = (.slice Ao58 t496.length co58 : Value).ownBlock) _ _ t496 t499 t500 _ ?side1 ?side2 A7.out).mono ?_); (case side1 => exact Kd.R_V (Kd.R_tight rfl (HO495.out))); (case side2 => exact Kd.R_V (Kd.R_tight rfl (HO498.out))); rintro e w59 ⟨rfl, hb⟩; have n0_ := Aside0.mk (Kd.R_below (by (with_reducible repeat (first | apply Kd.R_alloc | apply Kd.R_drewN | apply Kd.R_drew)); exact HO495.out) hb); have n1_ := Aside0.mk (Kd.R_below (by (with_reducible repeat (first | apply Kd.R_alloc | apply Kd.R_drewN | apply Kd.R_drew)); exact HO498.out) hb); have n2_ := Aside0.mk (below_step (by repeat (first | (with_reducible first | exact HB.out | apply below_alloc | apply pw_below_drewN | apply below_drew1) | exact HB.out)) hb); clear HO495; clear HO498; clear HB; have HO495 := n0_; have HO498 := n1_; have HB := n2_; clear n0_ n1_ n2_; (try clear hb); (try clear hb2); (try clear hk); (try clear hi)) | (go_at_call 49; (with_reducible refine (bibelotlaw03_ints.calls k _ _ t493 _ _ t496 true _ ?side1 ?side2 ?side3 ?side4 A52.out).mono ?_); (case side1 => repeat (first | exact (Kd.R_reads' HO495.out).2.2 | (with_reducible refine Kd.C_alloc ?_ _) | (with_reducible refine Kd.C_drewN ?_ _) | (with_reducible refine Kd.C_drew ?_))); (case side2 => exact (Kd.R_reads' HO495.out).2.1); (case side3 => repeat (first | exact (Kd.R_reads' HO498.out).2.2 | (with_reducible refine Kd.C_alloc ?_ _) | (with_reducible refine Kd.C_drewN ?_ _) | (with_reducible refine Kd.C_drew ?_))); (case side4 => exact (Kd.R_reads' HO498.out).2.1); rintro e w' ⟨rfl, ⟨nd, rfl⟩⟩; (try first | exact ⟨rfl, _, World.drewN_drewN _ _ _⟩ | exact ⟨rfl, _, Eq.trans (World.drewN_drewN _ _ _) (congrArg (World.drewN _) (Nat.add_assoc _ _ _))⟩)) | (go_at_call 26; (with_reducible refine (bibelotlaw03_awake.calls k  t502 _ A54.out).mono ?_); rintro e w60 ⟨rfl, hb⟩; have n0_ := Aside0.mk (Kd.R_below (by (with_reducible repeat (first | apply Kd.R_alloc | apply Kd.R_drewN | apply Kd.R_drew)); exact HO495.out) hb); have n1_ := Aside0.mk (Kd.R_below (by (with_reducible repeat (first | apply Kd.R_alloc | apply Kd.R_drewN | apply Kd.R_drew)); exact HO498.out) hb); have n2_ := Aside0.mk (below_step (by repeat (first | (with_reducible first | exact HB.out | apply below_alloc | apply pw_below_drewN | apply below_drew1) | exact HB.out)) hb); clear HO495; clear HO498; clear HB; have HO495 := n0_; have HO498 := n1_; have HB := n2_; clear n0_ n1_ n2_; (try clear hb); (try clear hb2); (try clear hk); (try clear hi))); try go_wp2_with (first | (go_at_call 25; (with_reducible refine (bibelotlaw03_many.calls a0 8 t492 _ A4.out).mono ?_); rintro e w' ⟨rfl, ⟨nd, rfl⟩⟩; (try first | exact ⟨rfl, _, World.drewN_drewN _ _ _⟩ | exact ⟨rfl, _, Eq.trans (World.drewN_drewN _ _ _) (congrArg (World.drewN _) (Nat.add_assoc _ _ _))⟩)) | (go_at_call 40; (with_reducible refine (bibelotlaw03_discs.calls k _ _ l1 t492 t493 _ ?side1 ?side2 A5.out).mono ?_); (case side1 => repeat (first | exact HR1.out | (with_reducible refine Kd.C_alloc ?_ _) | (with_reducible refine Kd.C_drewN ?_ _) | (with_reducible refine Kd.C_drew ?_))); (case side2 => exact HC1.out); rintro e w55 ⟨v494, rfl, ho0, hb⟩; have n0_ := Aside0.mk (Kd.R_lower ho0 (below_size (by repeat (first | (with_reducible first | exact HB.out | apply below_alloc | apply pw_below_drewN | apply below_drew1) | exact HB.out)))); have n1_ := Aside0.mk (below_step (by repeat (first | (with_reducible first | exact HB.out | apply below_alloc | apply pw_below_drewN | apply below_drew1) | exact HB.out)) hb); clear HB; have HO495 := n0_; have HB := n1_; clear n0_ n1_; (try clear hb); (try clear hb2); (try clear hk); (try clear hi); (try clear ho0)) | (go_at_call 40; (with_reducible refine (bibelotlaw03_discs.calls k _ _ l2 t492 t496 _ ?side1 ?side2 A6.out).mono ?_); (case side1 => repeat (first | exact (Kd.C_below HR2.out HB.out) | (with_reducible refine Kd.C_alloc ?_ _) | (with_reducible refine Kd.C_drewN ?_ _) | (with_reducible refine Kd.C_drew ?_))); (case side2 => exact HC2.out); rintro e w56 ⟨v497, rfl, ho0, hb⟩; have n0_ := Aside0.mk (Kd.R_elder' (by (with_reducible repeat (first | apply Kd.R_alloc | apply Kd.R_drewN | apply Kd.R_drew)); exact HO495.out) (Kd.R_base ho0) hb); have n1_ := Aside0.mk (Kd.R_lower (Kd.R_new' ho0 (Kd.R_lt (by (with_reducible repeat (first | apply Kd.R_alloc | apply Kd.R_drewN | apply Kd.R_drew)); exact HO495.out))) (below_size (by repeat (first | (with_reducible first | exact HB.out | apply below_alloc | apply pw_below_drewN | apply below_drew1) | exact HB.out)))); have n2_ := Aside0.mk (below_step (by repeat (first | (with_reducible first | exact HB.out | apply below_alloc | apply pw_below_drewN | apply below_drew1) | exact HB.out)) hb); clear HO495; clear HB; have HO495 := n0_; have HO498 := n1_; have HB := n2_; clear n0_ n1_ n2_; (try clear hb); (try clear hb2); (try clear hk); (try clear hi); (try clear ho0); obtain ⟨Ao57, co57, eo57⟩ := Kd.R_slice HO495.out; subst eo57; obtain ⟨Ao58, co58, eo58⟩ := Kd.R_slice HO498.out; subst eo58) | (go_at_call 47; (with_reducible refine (hanoi_Kind.calls k (fun k_ => some k_ = (.slice Ao57 t493.length co57 : Value).ownBlock) _ _ t493 (fun k_ => some k_ = (.slice Ao58 t496.length co58 : Value).ownBlock) _ _ t496 t499 t500 _ ?side1 ?side2 A7.out).mono ?_); (case side1 => exact Kd.R_V (Kd.R_tight rfl (HO495.out))); (case side2 => exact Kd.R_V (Kd.R_tight rfl (HO498.out))); rintro e w59 ⟨rfl, hb⟩; have n0_ := Aside0.mk (Kd.R_below (by (with_reducible repeat (first | apply Kd.R_alloc | apply Kd.R_drewN | apply Kd.R_drew)); exact HO495.out) hb); have n1_ := Aside0.mk (Kd.R_below (by (with_reducible repeat (first | apply Kd.R_alloc | apply Kd.R_drewN | apply Kd.R_drew)); exact HO498.out) hb); have n2_ := Aside0.mk (below_step (by repeat (first | (with_reducible first | exact HB.out | apply below_alloc | apply pw_below_drewN | apply below_drew1) | exact HB.out)) hb); clear HO495; clear HO498; clear HB; have HO495 := n0_; have HO498 := n1_; have HB := n2_; clear n0_ n1_ n2_; (try clear hb); (try clear hb2); (try clear hk); (try clear hi)) | (go_at_call 49; (with_reducible refine (bibelotlaw03_ints.calls k _ _ t493 _ _ t496 true _ ?side1 ?side2 ?side3 ?side4 A52.out).mono ?_); (case side1 => repeat (first | exact (Kd.R_reads' HO495.out).2.2 | (with_reducible refine Kd.C_alloc ?_ _) | (with_reducible refine Kd.C_drewN ?_ _) | (with_reducible refine Kd.C_drew ?_))); (case side2 => exact (Kd.R_reads' HO495.out).2.1); (case side3 => repeat (first | exact (Kd.R_reads' HO498.out).2.2 | (with_reducible refine Kd.C_alloc ?_ _) | (with_reducible refine Kd.C_drewN ?_ _) | (with_reducible refine Kd.C_drew ?_))); (case side4 => exact (Kd.R_reads' HO498.out).2.1); rintro e w' ⟨rfl, ⟨nd, rfl⟩⟩; (try first | exact ⟨rfl, _, World.drewN_drewN _ _ _⟩ | exact ⟨rfl, _, Eq.trans (World.drewN_drewN _ _ _) (congrArg (World.drewN _) (Nat.add_assoc _ _ _))⟩)) | (go_at_call 26; (with_reducible refine (bibelotlaw03_awake.calls k  t502 _ A54.out).mono ?_); rintro e w60 ⟨rfl, hb⟩; have n0_ := Aside0.mk (Kd.R_below (by (with_reducible repeat (first | apply Kd.R_alloc | apply Kd.R_drewN | apply Kd.R_drew)); exact HO495.out) hb); have n1_ := Aside0.mk (Kd.R_below (by (with_reducible repeat (first | apply Kd.R_alloc | apply Kd.R_drewN | apply Kd.R_drew)); exact HO498.out) hb); have n2_ := Aside0.mk (below_step (by repeat (first | (with_reducible first | exact HB.out | apply below_alloc | apply pw_below_drewN | apply below_drew1) | exact HB.out)) hb); clear HO495; clear HO498; clear HB; have HO495 := n0_; have HO498 := n1_; have HB := n2_; clear n0_ n1_ n2_; (try clear hb); (try clear hb2); (try clear hk); (try clear hi))))
        go_ret
        exact ⟨by first | rfl | (simp [errW_none, errW_some] <;> rfl) | (simp [*, errW_none, errW_some] <;> rfl), by repeat (first | (with_reducible first | exact HB.out | apply below_alloc | apply pw_below_drewN | apply below_drew1) | exact HB.out)⟩
      · replace c53 := Bool.eq_false_iff.mpr c53
        subst c53
        have H1 : (some false) = some r := by rw [if_neg (show ¬ (false = true) by decide)] at H; exact H
        clear H
        have H := H1
        clear H1
        obtain rfl := Option.some.inj H
        go_enter Tryd.func20, Tryd.ntmps20
        go_wp2_with (first | (go_at_call 25; (with_reducible refine (bibelotlaw03_many.calls a0 8 t492 _ A4.out).mono ?_); rintro e w' ⟨rfl, ⟨nd, rfl⟩⟩; (try first | exact ⟨rfl, _, World.drewN_drewN _ _ _⟩ | exact ⟨rfl, _, Eq.trans (World.drewN_drewN _ _ _) (congrArg (World.drewN _) (Nat.add_assoc _ _ _))⟩)) | (go_at_call 40; (with_reducible refine (bibelotlaw03_discs.calls k _ _ l1 t492 t493 _ ?side1 ?side2 A5.out).mono ?_); (case side1 => repeat (first | exact HR1.out | (with_reducible refine Kd.C_alloc ?_ _) | (with_reducible refine Kd.C_drewN ?_ _) | (with_reducible refine Kd.C_drew ?_))); (case side2 => exact HC1.out); rintro e w61 ⟨v494, rfl, ho0, hb⟩; have n0_ := Aside0.mk (Kd.R_lower ho0 (below_size (by repeat (first | (with_reducible first | exact HB.out | apply below_alloc | apply pw_below_drewN | apply below_drew1) | exact HB.out)))); have n1_ := Aside0.mk (below_step (by repeat (first | (with_reducible first | exact HB.out | apply below_alloc | apply pw_below_drewN | apply below_drew1) | exact HB.out)) hb); clear HB; have HO495 := n0_; have HB := n1_; clear n0_ n1_; (try clear hb); (try clear hb2); (try clear hk); (try clear hi); (try clear ho0)) | (go_at_call 40; (with_reducible refine (bibelotlaw03_discs.calls k _ _ l2 t492 t496 _ ?side1 ?side2 A6.out).mono ?_); (case side1 => repeat (first | exact (Kd.C_below HR2.out HB.out) | (with_reducible refine Kd.C_alloc ?_ _) | (with_reducible refine Kd.C_drewN ?_ _) | (with_reducible refine Kd.C_drew ?_))); (case side2 => exact HC2.out); rintro e w62 ⟨v497, rfl, ho0, hb⟩; have n0_ := Aside0.mk (Kd.R_elder' (by (with_reducible repeat (first | apply Kd.R_alloc | apply Kd.R_drewN | apply Kd.R_drew)); exact HO495.out) (Kd.R_base ho0) hb); have n1_ := Aside0.mk (Kd.R_lower (Kd.R_new' ho0 (Kd.R_lt (by (with_reducible repeat (first | apply Kd.R_alloc | apply Kd.R_drewN | apply Kd.R_drew)); exact HO495.out))) (below_size (by repeat (first | (with_reducible first | exact HB.out | apply below_alloc | apply pw_below_drewN | apply below_drew1) | exact HB.out)))); have n2_ := Aside0.mk (below_step (by repeat (first | (with_reducible first | exact HB.out | apply below_alloc | apply pw_below_drewN | apply below_drew1) | exact HB.out)) hb); clear HO495; clear HB; have HO495 := n0_; have HO498 := n1_; have HB := n2_; clear n0_ n1_ n2_; (try clear hb); (try clear hb2); (try clear hk); (try clear hi); (try clear ho0); obtain ⟨Ao63, co63, eo63⟩ := Kd.R_slice HO495.out; subst eo63; obtain ⟨Ao64, co64, eo64⟩ := Kd.R_slice HO498.out; subst eo64) | (go_at_call 47; (with_reducible refine (hanoi_Kind.calls k (fun k_ => some k_ = (.slice Ao63 t493.length co63 : Value).ownBlock) _ _ t493 (fun k_ => some k_ = (.slice Ao64 t496.length co64 : Value).ownBlock) _ _ t496 t499 t500 _ ?side1 ?side2 A7.out).mono ?_); (case side1 => exact Kd.R_V (Kd.R_tight rfl (HO495.out))); (case side2 => exact Kd.R_V (Kd.R_tight rfl (HO498.out))); rintro e w65 ⟨rfl, hb⟩; have n0_ := Aside0.mk (Kd.R_below (by (with_reducible repeat (first | apply Kd.R_alloc | apply Kd.R_drewN | apply Kd.R_drew)); exact HO495.out) hb); have n1_ := Aside0.mk (Kd.R_below (by (with_reducible repeat (first | apply Kd.R_alloc | apply Kd.R_drewN | apply Kd.R_drew)); exact HO498.out) hb); have n2_ := Aside0.mk (below_step (by repeat (first | (with_reducible first | exact HB.out | apply below_alloc | apply pw_below_drewN | apply below_drew1) | exact HB.out)) hb); clear HO495; clear HO498; clear HB; have HO495 := n0_; have HO498 := n1_; have HB := n2_; clear n0_ n1_ n2_; (try clear hb); (try clear hb2); (try clear hk); (try clear hi)) | (go_at_call 49; (with_reducible refine (bibelotlaw03_ints.calls k _ _ t493 _ _ t496 false _ ?side1 ?side2 ?side3 ?side4 A52.out).mono ?_); (case side1 => repeat (first | exact (Kd.R_reads' HO495.out).2.2 | (with_reducible refine Kd.C_alloc ?_ _) | (with_reducible refine Kd.C_drewN ?_ _) | (with_reducible refine Kd.C_drew ?_))); (case side2 => exact (Kd.R_reads' HO495.out).2.1); (case side3 => repeat (first | exact (Kd.R_reads' HO498.out).2.2 | (with_reducible refine Kd.C_alloc ?_ _) | (with_reducible refine Kd.C_drewN ?_ _) | (with_reducible refine Kd.C_drew ?_))); (case side4 => exact (Kd.R_reads' HO498.out).2.1); rintro e w' ⟨rfl, ⟨nd, rfl⟩⟩; (try first | exact ⟨rfl, _, World.drewN_drewN _ _ _⟩ | exact ⟨rfl, _, Eq.trans (World.drewN_drewN _ _ _) (congrArg (World.drewN _) (Nat.add_assoc _ _ _))⟩)))
        repeat (go_quiet (first | (go_at_call 25; (with_reducible refine (bibelotlaw03_many.calls a0 8 t492 _ A4.out).mono ?_); rintro e w' ⟨rfl, ⟨nd, rfl⟩⟩; (try first | exact ⟨rfl, _, World.drewN_drewN _ _ _⟩ | exact ⟨rfl, _, Eq.trans (World.drewN_drewN _ _ _) (congrArg (World.drewN _) (Nat.add_assoc _ _ _))⟩)) | (go_at_call 40; (with_reducible refine (bibelotlaw03_discs.calls k _ _ l1 t492 t493 _ ?side1 ?side2 A5.out).mono ?_); (case side1 => repeat (first | exact HR1.out | (with_reducible refine Kd.C_alloc ?_ _) | (with_reducible refine Kd.C_drewN ?_ _) | (with_reducible refine Kd.C_drew ?_))); (case side2 => exact HC1.out); rintro e w61 ⟨v494, rfl, ho0, hb⟩; have n0_ := Aside0.mk (Kd.R_lower ho0 (below_size (by repeat (first | (with_reducible first | exact HB.out | apply below_alloc | apply pw_below_drewN | apply below_drew1) | exact HB.out)))); have n1_ := Aside0.mk (below_step (by repeat (first | (with_reducible first | exact HB.out | apply below_alloc | apply pw_below_drewN | apply below_drew1) | exact HB.out)) hb); clear HB; have HO495 := n0_; have HB := n1_; clear n0_ n1_; (try clear hb); (try clear hb2); (try clear hk); (try clear hi); (try clear ho0)) | (go_at_call 40; (with_reducible refine (bibelotlaw03_discs.calls k _ _ l2 t492 t496 _ ?side1 ?side2 A6.out).mono ?_); (case side1 => repeat (first | exact (Kd.C_below HR2.out HB.out) | (with_reducible refine Kd.C_alloc ?_ _) | (with_reducible refine Kd.C_drewN ?_ _) | (with_reducible refine Kd.C_drew ?_))); (case side2 => exact HC2.out); rintro e w62 ⟨v497, rfl, ho0, hb⟩; have n0_ := Aside0.mk (Kd.R_elder' (by (with_reducible repeat (first | apply Kd.R_alloc | apply Kd.R_drewN | apply Kd.R_drew)); exact HO495.out) (Kd.R_base ho0) hb); have n1_ := Aside0.mk (Kd.R_lower (Kd.R_new' ho0 (Kd.R_lt (by (with_reducible repeat (first | apply Kd.R_alloc | apply Kd.R_drewN | apply Kd.R_drew)); exact HO495.out))) (below_size (by repeat (first | (with_reducible first | exact HB.out | apply below_alloc | apply pw_below_drewN | apply below_drew1) | exact HB.out)))); have n2_ := Aside0.mk (below_step (by repeat (first | (with_reducible first | exact HB.out | apply below_alloc | apply pw_below_drewN | apply below_drew1) | exact HB.out)) hb); clear HO495; clear HB; have HO495 := n0_; have HO498 := n1_; have HB := n2_; clear n0_ n1_ n2_; (try clear hb); (try clear hb2); (try clear hk); (try clear hi); (try clear ho0); obtain ⟨Ao63, co63, eo63⟩ := Kd.R_slice HO495.out; subst eo63; obtain ⟨Ao64, co64, eo64⟩ := Kd.R_slice HO498.out; subst eo64) | (go_at_call 47; (with_reducible refine (hanoi_Kind.calls k (fun k_ => some k_ = (.slice Ao63 t493.length co63 : Value).ownBlock) _ _ t493 (fun k_ => some k_ = (.slice Ao64 t496.length co64 : Value).ownBlock) _ _ t496 t499 t500 _ ?side1 ?side2 A7.out).mono ?_); (case side1 => exact Kd.R_V (Kd.R_tight rfl (HO495.out))); (case side2 => exact Kd.R_V (Kd.R_tight rfl (HO498.out))); rintro e w65 ⟨rfl, hb⟩; have n0_ := Aside0.mk (Kd.R_below (by (with_reducible repeat (first | apply Kd.R_alloc | apply Kd.R_drewN | apply Kd.R_drew)); exact HO495.out) hb); have n1_ := Aside0.mk (Kd.R_below (by (with_reducible repeat (first | apply Kd.R_alloc | apply Kd.R_drewN | apply Kd.R_drew)); exact HO498.out) hb); have n2_ := Aside0.mk (below_step (by repeat (first | (with_reducible first | exact HB.out | apply below_alloc | apply pw_below_drewN | apply below_drew1) | exact HB.out)) hb); clear HO495; clear HO498; clear HB; have HO495 := n0_; have HO498 := n1_; have HB := n2_; clear n0_ n1_ n2_; (try clear hb); (try clear hb2); (try clear hk); (try clear hi)) | (go_at_call 49; (with_reducible refine (bibelotlaw03_ints.calls k _ _ t493 _ _ t496 false _ ?side1 ?side2 ?side3 ?side4 A52.out).mono ?_); (case side1 => repeat (first | exact (Kd.R_reads' HO495.out).2.2 | (with_reducible refine Kd.C_alloc ?_ _) | (with_reducible refine Kd.C_drewN ?_ _) | (with_reducible refine Kd.C_drew ?_))); (case side2 => exact (Kd.R_reads' HO495.out).2.1); (case side3 => repeat (first | exact (Kd.R_reads' HO498.out).2.2 | (with_reducible refine Kd.C_alloc ?_ _) | (with_reducible refine Kd.C_drewN ?_ _) | (with_reducible refine Kd.C_drew ?_))); (case side4 => exact (Kd.R_reads' HO498.out).2.1); rintro e w' ⟨rfl, ⟨nd, rfl⟩⟩; (try first | exact ⟨rfl, _, World.drewN_drewN _ _ _⟩ | exact ⟨rfl, _, Eq.trans (World.drewN_drewN _ _ _) (congrArg (World.drewN _) (Nat.add_assoc _ _ _))⟩))); try go_wp2_with (first | (go_at_call 25; (with_reducible refine (bibelotlaw03_many.calls a0 8 t492 _ A4.out).mono ?_); rintro e w' ⟨rfl, ⟨nd, rfl⟩⟩; (try first | exact ⟨rfl, _, World.drewN_drewN _ _ _⟩ | exact ⟨rfl, _, Eq.trans (World.drewN_drewN _ _ _) (congrArg (World.drewN _) (Nat.add_assoc _ _ _))⟩)) | (go_at_call 40; (with_reducible refine (bibelotlaw03_discs.calls k _ _ l1 t492 t493 _ ?side1 ?side2 A5.out).mono ?_); (case side1 => repeat (first | exact HR1.out | (with_reducible refine Kd.C_alloc ?_ _) | (with_reducible refine Kd.C_drewN ?_ _) | (with_reducible refine Kd.C_drew ?_))); (case side2 => exact HC1.out); rintro e w61 ⟨v494, rfl, ho0, hb⟩; have n0_ := Aside0.mk (Kd.R_lower ho0 (below_size (by repeat (first | (with_reducible first | exact HB.out | apply below_alloc | apply pw_below_drewN | apply below_drew1) | exact HB.out)))); have n1_ := Aside0.mk (below_step (by repeat (first | (with_reducible first | exact HB.out | apply below_alloc | apply pw_below_drewN | apply below_drew1) | exact HB.out)) hb); clear HB; have HO495 := n0_; have HB := n1_; clear n0_ n1_; (try clear hb); (try clear hb2); (try clear hk); (try clear hi); (try clear ho0)) | (go_at_call 40; (with_reducible refine (bibelotlaw03_discs.calls k _ _ l2 t492 t496 _ ?side1 ?side2 A6.out).mono ?_); (case side1 => repeat (first | exact (Kd.C_below HR2.out HB.out) | (with_reducible refine Kd.C_alloc ?_ _) | (with_reducible refine Kd.C_drewN ?_ _) | (with_reducible refine Kd.C_drew ?_))); (case side2 => exact HC2.out); rintro e w62 ⟨v497, rfl, ho0, hb⟩; have n0_ := Aside0.mk (Kd.R_elder' (by (with_reducible repeat (first | apply Kd.R_alloc | apply Kd.R_drewN | apply Kd.R_drew)); exact HO495.out) (Kd.R_base ho0) hb); have n1_ := Aside0.mk (Kd.R_lower (Kd.R_new' ho0 (Kd.R_lt (by (with_reducible repeat (first | apply Kd.R_alloc | apply Kd.R_drewN | apply Kd.R_drew)); exact HO495.out))) (below_size (by repeat (first | (with_reducible first | exact HB.out | apply below_alloc | apply pw_below_drewN | apply below_drew1) | exact HB.out)))); have n2_ := Aside0.mk (below_step (by repeat (first | (with_reducible first | exact HB.out | apply below_alloc | apply pw_below_drewN | apply below_drew1) | exact HB.out)) hb); clear HO495; clear HB; have HO495 := n0_; have HO498 := n1_; have HB := n2_; clear n0_ n1_ n2_; (try clear hb); (try clear hb2); (try clear hk); (try clear hi); (try clear ho0); obtain ⟨Ao63, co63, eo63⟩ := Kd.R_slice HO495.out; subst eo63; obtain ⟨Ao64, co64, eo64⟩ := Kd.R_slice HO498.out; subst eo64) | (go_at_call 47; (with_reducible refine (hanoi_Kind.calls k (fun k_ => some k_ = (.slice Ao63 t493.length co63 : Value).ownBlock) _ _ t493 (fun k_ => some k_ = (.slice Ao64 t496.length co64 : Value).ownBlock) _ _ t496 t499 t500 _ ?side1 ?side2 A7.out).mono ?_); (case side1 => exact Kd.R_V (Kd.R_tight rfl (HO495.out))); (case side2 => exact Kd.R_V (Kd.R_tight rfl (HO498.out))); rintro e w65 ⟨rfl, hb⟩; have n0_ := Aside0.mk (Kd.R_below (by (with_reducible repeat (first | apply Kd.R_alloc | apply Kd.R_drewN | apply Kd.R_drew)); exact HO495.out) hb); have n1_ := Aside0.mk (Kd.R_below (by (with_reducible repeat (first | apply Kd.R_alloc | apply Kd.R_drewN | apply Kd.R_drew)); exact HO498.out) hb); have n2_ := Aside0.mk (below_step (by repeat (first | (with_reducible first | exact HB.out | apply below_alloc | apply pw_below_drewN | apply below_drew1) | exact HB.out)) hb); clear HO495; clear HO498; clear HB; have HO495 := n0_; have HO498 := n1_; have HB := n2_; clear n0_ n1_ n2_; (try clear hb); (try clear hb2); (try clear hk); (try clear hi)) | (go_at_call 49; (with_reducible refine (bibelotlaw03_ints.calls k _ _ t493 _ _ t496 false _ ?side1 ?side2 ?side3 ?side4 A52.out).mono ?_); (case side1 => repeat (first | exact (Kd.R_reads' HO495.out).2.2 | (with_reducible refine Kd.C_alloc ?_ _) | (with_reducible refine Kd.C_drewN ?_ _) | (with_reducible refine Kd.C_drew ?_))); (case side2 => exact (Kd.R_reads' HO495.out).2.1); (case side3 => repeat (first | exact (Kd.R_reads' HO498.out).2.2 | (with_reducible refine Kd.C_alloc ?_ _) | (with_reducible refine Kd.C_drewN ?_ _) | (with_reducible refine Kd.C_drew ?_))); (case side4 => exact (Kd.R_reads' HO498.out).2.1); rintro e w' ⟨rfl, ⟨nd, rfl⟩⟩; (try first | exact ⟨rfl, _, World.drewN_drewN _ _ _⟩ | exact ⟨rfl, _, Eq.trans (World.drewN_drewN _ _ _) (congrArg (World.drewN _) (Nat.add_assoc _ _ _))⟩))))
        go_ret
        exact ⟨by first | rfl | (simp [errW_none, errW_some] <;> rfl) | (simp [*, errW_none, errW_some] <;> rfl), by repeat (first | (with_reducible first | exact HB.out | apply below_alloc | apply pw_below_drewN | apply below_drew1) | exact HB.out)⟩
    · rw [if_neg c51] at H
      have c51b0 : (t500 == 1) = false := beq_eq_false_iff_ne.mpr c51
      have c51b1 : (t500 != 1) = true := bne_iff_ne.mpr c51
      obtain rfl := Option.some.inj H
      go_enter Tryd.func20, Tryd.ntmps20
      go_wp2_with (first | (go_at_call 25; (with_reducible refine (bibelotlaw03_many.calls a0 8 t492 _ A4.out).mono ?_); rintro e w' ⟨rfl, ⟨nd, rfl⟩⟩; (try first | exact ⟨rfl, _, World.drewN_drewN _ _ _⟩ | exact ⟨rfl, _, Eq.trans (World.drewN_drewN _ _ _) (congrArg (World.drewN _) (Nat.add_assoc _ _ _))⟩)) | (go_at_call 40; (with_reducible refine (bibelotlaw03_discs.calls k _ _ l1 t492 t493 _ ?side1 ?side2 A5.out).mono ?_); (case side1 => repeat (first | exact HR1.out | (with_reducible refine Kd.C_alloc ?_ _) | (with_reducible refine Kd.C_drewN ?_ _) | (with_reducible refine Kd.C_drew ?_))); (case side2 => exact HC1.out); rintro e w66 ⟨v494, rfl, ho0, hb⟩; have n0_ := Aside0.mk (Kd.R_lower ho0 (below_size (by repeat (first | (with_reducible first | exact HB.out | apply below_alloc | apply pw_below_drewN | apply below_drew1) | exact HB.out)))); have n1_ := Aside0.mk (below_step (by repeat (first | (with_reducible first | exact HB.out | apply below_alloc | apply pw_below_drewN | apply below_drew1) | exact HB.out)) hb); clear HB; have HO495 := n0_; have HB := n1_; clear n0_ n1_; (try clear hb); (try clear hb2); (try clear hk); (try clear hi); (try clear ho0)) | (go_at_call 40; (with_reducible refine (bibelotlaw03_discs.calls k _ _ l2 t492 t496 _ ?side1 ?side2 A6.out).mono ?_); (case side1 => repeat (first | exact (Kd.C_below HR2.out HB.out) | (with_reducible refine Kd.C_alloc ?_ _) | (with_reducible refine Kd.C_drewN ?_ _) | (with_reducible refine Kd.C_drew ?_))); (case side2 => exact HC2.out); rintro e w67 ⟨v497, rfl, ho0, hb⟩; have n0_ := Aside0.mk (Kd.R_elder' (by (with_reducible repeat (first | apply Kd.R_alloc | apply Kd.R_drewN | apply Kd.R_drew)); exact HO495.out) (Kd.R_base ho0) hb); have n1_ := Aside0.mk (Kd.R_lower (Kd.R_new' ho0 (Kd.R_lt (by (with_reducible repeat (first | apply Kd.R_alloc | apply Kd.R_drewN | apply Kd.R_drew)); exact HO495.out))) (below_size (by repeat (first | (with_reducible first | exact HB.out | apply below_alloc | apply pw_below_drewN | apply below_drew1) | exact HB.out)))); have n2_ := Aside0.mk (below_step (by repeat (first | (with_reducible first | exact HB.out | apply below_alloc | apply pw_below_drewN | apply below_drew1) | exact HB.out)) hb); clear HO495; clear HB; have HO495 := n0_; have HO498 := n1_; have HB := n2_; clear n0_ n1_ n2_; (try clear hb); (try clear hb2); (try clear hk); (try clear hi); (try clear ho0); obtain ⟨Ao68, co68, eo68⟩ := Kd.R_slice HO495.out; subst eo68; obtain ⟨Ao69, co69, eo69⟩ := Kd.R_slice HO498.out; subst eo69) | (go_at_call 47; (with_reducible refine (hanoi_Kind.calls k (fun k_ => some k_ = (.slice Ao68 t493.length co68 : Value).ownBlock) _ _ t493 (fun k_ => some k_ = (.slice Ao69 t496.length co69 : Value).ownBlock) _ _ t496 t499 t500 _ ?side1 ?side2 A7.out).mono ?_); (case side1 => exact Kd.R_V (Kd.R_tight rfl (HO495.out))); (case side2 => exact Kd.R_V (Kd.R_tight rfl (HO498.out))); rintro e w70 ⟨rfl, hb⟩; have n0_ := Aside0.mk (Kd.R_below (by (with_reducible repeat (first | apply Kd.R_alloc | apply Kd.R_drewN | apply Kd.R_drew)); exact HO495.out) hb); have n1_ := Aside0.mk (Kd.R_below (by (with_reducible repeat (first | apply Kd.R_alloc | apply Kd.R_drewN | apply Kd.R_drew)); exact HO498.out) hb); have n2_ := Aside0.mk (below_step (by repeat (first | (with_reducible first | exact HB.out | apply below_alloc | apply pw_below_drewN | apply below_drew1) | exact HB.out)) hb); clear HO495; clear HO498; clear HB; have HO495 := n0_; have HO498 := n1_; have HB := n2_; clear n0_ n1_ n2_; (try clear hb); (try clear hb2); (try clear hk); (try clear hi)))
      repeat (go_quiet (first | (go_at_call 25; (with_reducible refine (bibelotlaw03_many.calls a0 8 t492 _ A4.out).mono ?_); rintro e w' ⟨rfl, ⟨nd, rfl⟩⟩; (try first | exact ⟨rfl, _, World.drewN_drewN _ _ _⟩ | exact ⟨rfl, _, Eq.trans (World.drewN_drewN _ _ _) (congrArg (World.drewN _) (Nat.add_assoc _ _ _))⟩)) | (go_at_call 40; (with_reducible refine (bibelotlaw03_discs.calls k _ _ l1 t492 t493 _ ?side1 ?side2 A5.out).mono ?_); (case side1 => repeat (first | exact HR1.out | (with_reducible refine Kd.C_alloc ?_ _) | (with_reducible refine Kd.C_drewN ?_ _) | (with_reducible refine Kd.C_drew ?_))); (case side2 => exact HC1.out); rintro e w66 ⟨v494, rfl, ho0, hb⟩; have n0_ := Aside0.mk (Kd.R_lower ho0 (below_size (by repeat (first | (with_reducible first | exact HB.out | apply below_alloc | apply pw_below_drewN | apply below_drew1) | exact HB.out)))); have n1_ := Aside0.mk (below_step (by repeat (first | (with_reducible first | exact HB.out | apply below_alloc | apply pw_below_drewN | apply below_drew1) | exact HB.out)) hb); clear HB; have HO495 := n0_; have HB := n1_; clear n0_ n1_; (try clear hb); (try clear hb2); (try clear hk); (try clear hi); (try clear ho0)) | (go_at_call 40; (with_reducible refine (bibelotlaw03_discs.calls k _ _ l2 t492 t496 _ ?side1 ?side2 A6.out).mono ?_); (case side1 => repeat (first | exact (Kd.C_below HR2.out HB.out) | (with_reducible refine Kd.C_alloc ?_ _) | (with_reducible refine Kd.C_drewN ?_ _) | (with_reducible refine Kd.C_drew ?_))); (case side2 => exact HC2.out); rintro e w67 ⟨v497, rfl, ho0, hb⟩; have n0_ := Aside0.mk (Kd.R_elder' (by (with_reducible repeat (first | apply Kd.R_alloc | apply Kd.R_drewN | apply Kd.R_drew)); exact HO495.out) (Kd.R_base ho0) hb); have n1_ := Aside0.mk (Kd.R_lower (Kd.R_new' ho0 (Kd.R_lt (by (with_reducible repeat (first | apply Kd.R_alloc | apply Kd.R_drewN | apply Kd.R_drew)); exact HO495.out))) (below_size (by repeat (first | (with_reducible first | exact HB.out | apply below_alloc | apply pw_below_drewN | apply below_drew1) | exact HB.out)))); have n2_ := Aside0.mk (below_step (by repeat (first | (with_reducible first | exact HB.out | apply below_alloc | apply pw_below_drewN | apply below_drew1) | exact HB.out)) hb); clear HO495; clear HB; have HO495 := n0_; have HO498 := n1_; have HB := n2_; clear n0_ n1_ n2_; (try clear hb); (try clear hb2); (try clear hk); (try clear hi); (try clear ho0); obtain ⟨Ao68, co68, eo68⟩ := Kd.R_slice HO495.out; subst eo68; obtain ⟨Ao69, co69, eo69⟩ := Kd.R_slice HO498.out; subst eo69) | (go_at_call 47; (with_reducible refine (hanoi_Kind.calls k (fun k_ => some k_ = (.slice Ao68 t493.length co68 : Value).ownBlock) _ _ t493 (fun k_ => some k_ = (.slice Ao69 t496.length co69 : Value).ownBlock) _ _ t496 t499 t500 _ ?side1 ?side2 A7.out).mono ?_); (case side1 => exact Kd.R_V (Kd.R_tight rfl (HO495.out))); (case side2 => exact Kd.R_V (Kd.R_tight rfl (HO498.out))); rintro e w70 ⟨rfl, hb⟩; have n0_ := Aside0.mk (Kd.R_below (by (with_reducible repeat (first | apply Kd.R_alloc | apply Kd.R_drewN | apply Kd.R_drew)); exact HO495.out) hb); have n1_ := Aside0.mk (Kd.R_below (by (with_reducible repeat (first | apply Kd.R_alloc | apply Kd.R_drewN | apply Kd.R_drew)); exact HO498.out) hb); have n2_ := Aside0.mk (below_step (by repeat (first | (with_reducible first | exact HB.out | apply below_alloc | apply pw_below_drewN | apply below_drew1) | exact HB.out)) hb); clear HO495; clear HO498; clear HB; have HO495 := n0_; have HO498 := n1_; have HB := n2_; clear n0_ n1_ n2_; (try clear hb); (try clear hb2); (try clear hk); (try clear hi))); try go_wp2_with (first | (go_at_call 25; (with_reducible refine (bibelotlaw03_many.calls a0 8 t492 _ A4.out).mono ?_); rintro e w' ⟨rfl, ⟨nd, rfl⟩⟩; (try first | exact ⟨rfl, _, World.drewN_drewN _ _ _⟩ | exact ⟨rfl, _, Eq.trans (World.drewN_drewN _ _ _) (congrArg (World.drewN _) (Nat.add_assoc _ _ _))⟩)) | (go_at_call 40; (with_reducible refine (bibelotlaw03_discs.calls k _ _ l1 t492 t493 _ ?side1 ?side2 A5.out).mono ?_); (case side1 => repeat (first | exact HR1.out | (with_reducible refine Kd.C_alloc ?_ _) | (with_reducible refine Kd.C_drewN ?_ _) | (with_reducible refine Kd.C_drew ?_))); (case side2 => exact HC1.out); rintro e w66 ⟨v494, rfl, ho0, hb⟩; have n0_ := Aside0.mk (Kd.R_lower ho0 (below_size (by repeat (first | (with_reducible first | exact HB.out | apply below_alloc | apply pw_below_drewN | apply below_drew1) | exact HB.out)))); have n1_ := Aside0.mk (below_step (by repeat (first | (with_reducible first | exact HB.out | apply below_alloc | apply pw_below_drewN | apply below_drew1) | exact HB.out)) hb); clear HB; have HO495 := n0_; have HB := n1_; clear n0_ n1_; (try clear hb); (try clear hb2); (try clear hk); (try clear hi); (try clear ho0)) | (go_at_call 40; (with_reducible refine (bibelotlaw03_discs.calls k _ _ l2 t492 t496 _ ?side1 ?side2 A6.out).mono ?_); (case side1 => repeat (first | exact (Kd.C_below HR2.out HB.out) | (with_reducible refine Kd.C_alloc ?_ _) | (with_reducible refine Kd.C_drewN ?_ _) | (with_reducible refine Kd.C_drew ?_))); (case side2 => exact HC2.out); rintro e w67 ⟨v497, rfl, ho0, hb⟩; have n0_ := Aside0.mk (Kd.R_elder' (by (with_reducible repeat (first | apply Kd.R_alloc | apply Kd.R_drewN | apply Kd.R_drew)); exact HO495.out) (Kd.R_base ho0) hb); have n1_ := Aside0.mk (Kd.R_lower (Kd.R_new' ho0 (Kd.R_lt (by (with_reducible repeat (first | apply Kd.R_alloc | apply Kd.R_drewN | apply Kd.R_drew)); exact HO495.out))) (below_size (by repeat (first | (with_reducible first | exact HB.out | apply below_alloc | apply pw_below_drewN | apply below_drew1) | exact HB.out)))); have n2_ := Aside0.mk (below_step (by repeat (first | (with_reducible first | exact HB.out | apply below_alloc | apply pw_below_drewN | apply below_drew1) | exact HB.out)) hb); clear HO495; clear HB; have HO495 := n0_; have HO498 := n1_; have HB := n2_; clear n0_ n1_ n2_; (try clear hb); (try clear hb2); (try clear hk); (try clear hi); (try clear ho0); obtain ⟨Ao68, co68, eo68⟩ := Kd.R_slice HO495.out; subst eo68; obtain ⟨Ao69, co69, eo69⟩ := Kd.R_slice HO498.out; subst eo69) | (go_at_call 47; (with_reducible refine (hanoi_Kind.calls k (fun k_ => some k_ = (.slice Ao68 t493.length co68 : Value).ownBlock) _ _ t493 (fun k_ => some k_ = (.slice Ao69 t496.length co69 : Value).ownBlock) _ _ t496 t499 t500 _ ?side1 ?side2 A7.out).mono ?_); (case side1 => exact Kd.R_V (Kd.R_tight rfl (HO495.out))); (case side2 => exact Kd.R_V (Kd.R_tight rfl (HO498.out))); rintro e w70 ⟨rfl, hb⟩; have n0_ := Aside0.mk (Kd.R_below (by (with_reducible repeat (first | apply Kd.R_alloc | apply Kd.R_drewN | apply Kd.R_drew)); exact HO495.out) hb); have n1_ := Aside0.mk (Kd.R_below (by (with_reducible repeat (first | apply Kd.R_alloc | apply Kd.R_drewN | apply Kd.R_drew)); exact HO498.out) hb); have n2_ := Aside0.mk (below_step (by repeat (first | (with_reducible first | exact HB.out | apply below_alloc | apply pw_below_drewN | apply below_drew1) | exact HB.out)) hb); clear HO495; clear HO498; clear HB; have HO495 := n0_; have HO498 := n1_; have HB := n2_; clear n0_ n1_ n2_; (try clear hb); (try clear hb2); (try clear hk); (try clear hi))))
      go_ret
      exact ⟨by first | rfl | (simp [errW_none, errW_some] <;> rfl) | (simp [*, errW_none, errW_some] <;> rfl), by repeat (first | (with_reducible first | exact HB.out | apply below_alloc | apply pw_below_drewN | apply below_drew1) | exact HB.out)⟩

/-- THE ONE PURE STATEMENT of bibelotlaw03_HanoiTwo: yours. -/
def bibelotlaw03_HanoiTwo.Pure : Prop := ∀ (a0 : Int) (l1 : List Int) (l2 : List Int), (Lit.int .i64 a0).wf = true → l1.length ≤ maxLen → l1.length * 8 ≤ 140737488351232 → (∀ x ∈ l1, (Lit.int .i64 x).wf = true) → l2.length ≤ maxLen → l2.length * 8 ≤ 140737488351232 → (∀ x ∈ l2, (Lit.int .i64 x).wf = true) → ∃ k, bibelotlaw03_HanoiTwo.f k a0 l1 l2 = some true
theorem bibelotlaw03_HanoiTwo.walk (P : bibelotlaw03_HanoiTwo.Pure) (a0 : Int) (a1 : Option Addr) (len1 cap1 : Nat) (z1 : List Int) (a2 : Option Addr) (len2 cap2 : Nat) (z2 : List Int) (w : World) (w0 : (Lit.int .i64 a0).wf = true) (w1 : (a1 = none ∧ len1 = 0 ∧ cap1 = 0 ∧ z1 = []) ∨ ∃ x, a1 = some x ∧ len1 ≤ cap1 ∧ cap1 ≤ maxLen ∧ z1.length = cap1 ∧ (∀ i, i < z1.length → w.cell? (x.add i) = some (.int .i64 (z1.getD i 0))) ∧ ∀ n ∈ z1, (Lit.int .i64 n).wf = true) (y1 : len1 * 8 ≤ 140737488351232) (w2 : (a2 = none ∧ len2 = 0 ∧ cap2 = 0 ∧ z2 = []) ∨ ∃ x, a2 = some x ∧ len2 ≤ cap2 ∧ cap2 ≤ maxLen ∧ z2.length = cap2 ∧ (∀ i, i < z2.length → w.cell? (x.add i) = some (.int .i64 (z2.getD i 0))) ∧ ∀ n ∈ z2, (Lit.int .i64 n).wf = true) (y2 : len2 * 8 ≤ 140737488351232) :
    Calls Tryd.prog 20 #[.int .i64 a0, .slice a1 len1 cap1, .slice a2 len2 cap2] w fun e w' => e = .returned (.bool true) ∧ Below w.heap.size w w' := by
  obtain ⟨l1, rfl, hr1, hm1, hw1, hc1⟩ := ReadsInt.ofRowC w1
  obtain ⟨l2, rfl, hr2, hm2, hw2, hc2⟩ := ReadsInt.ofRowC w2
  obtain ⟨k, h⟩ := P a0 l1 l2 w0 hm1 y1 hw1 hm2 y2 hw2
  refine (bibelotlaw03_HanoiTwo.calls k a0 _ _ l1 _ _ l2 true w (Kd.C_of_reads (d := (0 : Int)) (h1 := fun _ => rfl) hr1) hc1 (Kd.C_of_reads (d := (0 : Int)) (h1 := fun _ => rfl) hr2) hc2 h).mono ?_
  rintro e w' ⟨rfl, hd⟩
  exact ⟨rfl, hd⟩

end Go.Proofs.YtnaaomhmoamfpaaDoor.Q
/- A way's moves can be made, lead to the goal, and are as many as the distance. -/
namespace Go.Proofs.YtnaaomhmoamfpaaDoor.G
set_option linter.unusedVariables false
set_option linter.unusedSimpArgs false
set_option linter.unusedSectionVars false
open Go.Proofs.YtnaaomhmoamfpaaDoor.Q Go.Proofs.YtnaaomhmoamfpaaDoor.Hn Go.Proofs.YtnaaomhmoamfpaaDoor.K
open Go.RowKit Go.Proofs.YtnaaomhmoamfpaaDoorW.PrintWords Go.Proofs.YtnaaomhmoamfpaaDoorW.PrintLast Go.Proofs.YtnaaomhmoamfpaaDoorW.PrintMore

structure CanP (d : List Int) (j : Nat) (q : Int) : Prop where
  lt : j < d.length
  peg : Peg q
  ne : nth d j ≠ q
  free : ∀ i, i < j → nth d i ≠ nth d j ∧ nth d i ≠ q
def runI (d : List Int) (ms : List (Nat × Int)) : List Int := ms.foldl (fun t m => t.set m.1 m.2) d
def LegI : List Int → List (Nat × Int) → Prop
  | _, [] => True
  | d, m :: ms => CanP d m.1 m.2 ∧ LegI (d.set m.1 m.2) ms
theorem run_nil (d : List Int) : runI d [] = d := rfl
theorem run_cons (d : List Int) (m : Nat × Int) (ms : List (Nat × Int)) : runI d (m :: ms) = runI (d.set m.1 m.2) ms := rfl
theorem run_append (d : List Int) (a b : List (Nat × Int)) : runI d (a ++ b) = runI (runI d a) b := by simp [runI, List.foldl_append]
theorem leg_append : ∀ (a : List (Nat × Int)) (d : List Int) (b : List (Nat × Int)), LegI d (a ++ b) ↔ LegI d a ∧ LegI (runI d a) b
  | [], d, b => by simp [LegI, run_nil]
  | m :: a, d, b => by
    rw [List.cons_append, LegI, LegI, run_cons, leg_append a, and_assoc]
theorem nth_ext {l m : List Int} (hl : l.length = m.length) (h : ∀ i, i < l.length → nth l i = nth m i) : l = m := by
  apply List.ext_getElem hl
  intro i h1 h2
  have := h i h1
  simpa [nth, h1, h2] using this
theorem run_len (ms : List (Nat × Int)) : ∀ d : List Int, (runI d ms).length = d.length := by
  induction ms with
  | nil => intro d; rfl
  | cons m ms ih => intro d; rw [run_cons, ih, List.length_set]

theorem gather_leg : ∀ (k : Nat) (d : List Int) (p : Int), k ≤ d.length → DiscsL d → Peg p →
    LegI d (gatherL k d p).1 ∧ runI d (gatherL k d p).1 = (gatherL k d p).2 ∧ ((gatherL k d p).1.length : Int) = tp (nth d) k p ∧ ∀ m, m ∈ (gatherL k d p).1 → m.1 < k
  | 0, d, p, _, _, _ => ⟨trivial, rfl, rfl, fun m hm => absurd hm List.not_mem_nil⟩
  | k + 1, d, p, hk, hd, hp => by
    rw [gatherL]
    by_cases c : nth d k = p
    · rw [if_pos c]
      obtain ⟨h1, h2, h3, h4⟩ := gather_leg k d p (by omega) hd hp
      exact ⟨h1, h2, by rw [h3, tp, if_pos c], fun m hm => by have := h4 m hm; omega⟩
    · rw [if_neg c]
      have hq := hd k (by omega)
      have ht := third_peg hq hp c
      obtain ⟨h1, h2, h3, h4⟩ := gather_leg k d (3 - nth d k - p) (by omega) hd ht
      obtain ⟨f1, f2, f3⟩ := gather_facts k d (3 - nth d k - p) (by omega)
      have hd1 := discs_set (gather_pos k d (3 - nth d k - p) (by omega) hd ht) k p hp
      obtain ⟨g1, g2, g3, g4⟩ := gather_leg k ((gatherL k d (3 - nth d k - p)).2.set k p) p (by rw [List.length_set, f1]; omega) hd1 hp
      have hx : nth (gatherL k d (3 - nth d k - p)).2 k = nth d k := f2 k (Nat.le_refl _)
      have hcan : CanP (gatherL k d (3 - nth d k - p)).2 k p := by
        refine ⟨by omega, hp, by rw [hx]; exact c, fun i hi => ?_⟩
        rw [f3 i hi, hx]
        unfold Peg at hq hp
        omega
      dsimp only
      refine ⟨?_, ?_, ?_, ?_⟩
      · rw [List.append_assoc, leg_append, h2]
        exact ⟨h1, hcan, g1⟩
      · rw [List.append_assoc, run_append, h2, run_append]
        exact g2
      · have hon : On (nth ((gatherL k d (3 - nth d k - p)).2.set k p)) k (3 - nth d k - p) := fun i hi => by rw [nth_set_ne _ _ _ _ (by omega)]; exact f3 i hi
        rw [tp_on_ne hon (by unfold Peg at hq hp; omega) ht hp] at g3
        rw [tp, if_neg c]
        simp only [List.length_append, List.length_singleton, Int.natCast_add, Int.natCast_one]
        omega
      · intro m hm
        rcases List.mem_append.1 hm with hm | hm
        · rcases List.mem_append.1 hm with hm | hm
          · have := h4 m hm; omega
          · obtain rfl := List.mem_singleton.1 hm; show k < k + 1; omega
        · have := g4 m hm; omega

/-- The way back. -/
def revI : List Int → List (Nat × Int) → List (Nat × Int)
  | _, [] => []
  | d, m :: ms => revI (d.set m.1 m.2) ms ++ [(m.1, nth d m.1)]
theorem bk_rev : ∀ (ms : List (Nat × Int)) (o : List S52) (d : List Int), (ms.foldl (fun s m => (s.1 ++ [(⟨(m.1 : Int), nth s.2 m.1⟩ : S52)], s.2.set m.1 m.2)) (o, d)).1 = o ++ ((revI d ms).map mkI).reverse
  | [], o, d => by simp [revI]
  | m :: ms, o, d => by
    rw [List.foldl_cons, bk_rev ms, revI, List.map_append, List.reverse_append]
    simp [mkI]
theorem bk_eq (d : List Int) (ms : List (Nat × Int)) : (bk d ms).1.reverse = (revI d ms).map mkI := by
  unfold bk
  rw [bk_rev, List.nil_append, List.reverse_reverse]
theorem set_back (d : List Int) (j : Nat) (q : Int) (hj : j < d.length) : (d.set j q).set j (nth d j) = d := by
  apply nth_ext (by simp)
  intro i hi
  by_cases e : i = j
  · subst e; rw [nth_set_self _ _ _ (by simpa using hj)]
  · rw [nth_set_ne _ _ _ _ e, nth_set_ne _ _ _ _ e]
theorem rev_leg : ∀ (ms : List (Nat × Int)) (d : List Int), LegI d ms → DiscsL d → LegI (runI d ms) (revI d ms) ∧ runI (runI d ms) (revI d ms) = d ∧ (revI d ms).length = ms.length ∧ ∀ K, (∀ m, m ∈ ms → m.1 < K) → ∀ m, m ∈ revI d ms → m.1 < K
  | [], d, _, _ => ⟨trivial, rfl, rfl, fun K _ m hm => absurd hm List.not_mem_nil⟩
  | m :: ms, d, h, hd => by
    obtain ⟨hc, hl⟩ := h
    obtain ⟨h1, h2, h3, h4⟩ := rev_leg ms (d.set m.1 m.2) hl (discs_set hd m.1 m.2 hc.peg)
    rw [run_cons, revI, leg_append, h2, run_append, h2, List.length_append, h3]
    have hj := hc.lt
    refine ⟨⟨h1, ⟨by simpa using hj, hd _ hj, by rw [nth_set_self _ _ _ hj]; exact fun e => hc.ne e.symm, fun i hi => ?_⟩, trivial⟩, set_back d m.1 m.2 hj, rfl, fun K hK x hx => ?_⟩
    · show nth (d.set m.1 m.2) i ≠ nth (d.set m.1 m.2) m.1 ∧ nth (d.set m.1 m.2) i ≠ nth d m.1
      have hi : i < m.1 := hi
      rw [nth_set_ne _ _ _ _ (by omega), nth_set_self _ _ _ hj]
      have := hc.free i hi
      exact ⟨this.2, this.1⟩
    · rcases List.mem_append.1 hx with hx | hx
      · exact h4 K (fun y hy => hK y (List.mem_cons_of_mem _ hy)) x hx
      · obtain rfl := List.mem_singleton.1 hx
        exact hK m List.mem_cons_self

theorem take_set_ (d : List Int) (n j : Nat) (q : Int) : (d.take n).set j q = (d.set j q).take n := by
  rw [List.take_set]
theorem gather_take : ∀ (k n : Nat) (d : List Int) (p : Int), k ≤ n → gatherL k (d.take n) p = ((gatherL k d p).1, (gatherL k d p).2.take n)
  | 0, n, d, p, _ => rfl
  | k + 1, n, d, p, h => by
    rw [gatherL, gatherL, nth_take d n k (by omega)]
    by_cases c : nth d k = p
    · rw [if_pos c, if_pos c]; exact gather_take k n d p (by omega)
    · rw [if_neg c, if_neg c, gather_take k n d _ (by omega)]
      dsimp only
      rw [take_set_, gather_take k n _ _ (by omega)]
theorem rev_take : ∀ (ms : List (Nat × Int)) (n : Nat) (d : List Int), (∀ m, m ∈ ms → m.1 < n) → revI (d.take n) ms = revI d ms
  | [], n, d, _ => rfl
  | m :: ms, n, d, h => by
    rw [revI, revI, take_set_, rev_take ms n _ (fun x hx => h x (List.mem_cons_of_mem _ hx)), nth_take d n m.1 (h m List.mem_cons_self)]
/-- spread's way, from the discs of which the smaller ones are on peg p. -/
theorem spread_good (m : List Int) (k : Nat) (p : Int) (hk : k ≤ m.length) (hd : DiscsL m) (hp : Peg p) :
    ∃ ms, spreadL (m.take k) p = ms.map mkI ∧ LegI (gatherL k m p).2 ms ∧ runI (gatherL k m p).2 ms = m ∧ (ms.length : Int) = tp (nth m) k p ∧ ∀ x, x ∈ ms → x.1 < k := by
  obtain ⟨h1, h2, h3, h4⟩ := gather_leg k m p hk hd hp
  obtain ⟨g1, g2, g3, g4⟩ := rev_leg (gatherL k m p).1 m h1 hd
  rw [h2] at g1 g2
  refine ⟨revI m (gatherL k m p).1, ?_, g1, g2, by rw [g3]; exact h3, g4 k h4⟩
  unfold spreadL
  have hl : (m.take k).length = k := by rw [List.length_take]; omega
  rw [hl, gather_take k k m p (Nat.le_refl _), bk_eq, rev_take _ _ _ h4]

/-- One great move, the smaller discs brought out of its way. -/
theorem step_good (k : Nat) (d : List Int) (stop : Int) (hk : k < d.length) (hd : DiscsL d) (hs : Peg stop) (hne : nth d k ≠ stop) :
    LegI d ((gatherL k d (3 - nth d k - stop)).1 ++ [(k, stop)]) ∧ runI d ((gatherL k d (3 - nth d k - stop)).1 ++ [(k, stop)]) = (gatherL k d (3 - nth d k - stop)).2.set k stop ∧
    ((gatherL k d (3 - nth d k - stop)).2.set k stop).length = d.length ∧ DiscsL ((gatherL k d (3 - nth d k - stop)).2.set k stop) ∧
    (∀ i, i < k → nth ((gatherL k d (3 - nth d k - stop)).2.set k stop) i = 3 - nth d k - stop) ∧ nth ((gatherL k d (3 - nth d k - stop)).2.set k stop) k = stop ∧ ∀ i, k < i → nth ((gatherL k d (3 - nth d k - stop)).2.set k stop) i = nth d i := by
  have hq := hd k hk
  have ht := third_peg hq hs hne
  obtain ⟨h1, h2, h3, h4⟩ := gather_leg k d (3 - nth d k - stop) (by omega) hd ht
  obtain ⟨f1, f2, f3⟩ := gather_facts k d (3 - nth d k - stop) (by omega)
  have hx : nth (gatherL k d (3 - nth d k - stop)).2 k = nth d k := f2 k (Nat.le_refl _)
  refine ⟨?_, ?_, by rw [List.length_set, f1], discs_set (gather_pos k d _ (by omega) hd ht) k stop hs, fun i hi => by rw [nth_set_ne _ _ _ _ (by omega)]; exact f3 i hi, nth_set_self _ _ _ (by omega), fun i hi => by rw [nth_set_ne _ _ _ _ (by omega)]; exact f2 i (by omega)⟩
  · rw [leg_append, h2]
    refine ⟨h1, ⟨by show k < _; omega, hs, by show nth _ k ≠ stop; rw [hx]; exact hne, fun i hi => ?_⟩, trivial⟩
    show nth (gatherL k d (3 - nth d k - stop)).2 i ≠ nth (gatherL k d (3 - nth d k - stop)).2 k ∧ nth (gatherL k d (3 - nth d k - stop)).2 i ≠ stop
    have hi : i < k := hi
    rw [f3 i hi, hx]
    unfold Peg at hq hs
    omega
  · rw [run_append, h2]; rfl

theorem top_above {s t : Nat → Int} {n k : Nat} (h : top s t n = k + 1) : ∀ i, k < i → i < n → s i = t i := by
  induction n with
  | zero => intro i _ hi; omega
  | succ n ih =>
    unfold top at h
    intro i h1 h2
    split at h
    · rename_i c
      by_cases e : i = n
      · rw [e]; exact c
      · exact ih h i h1 (by omega)
    · omega
/-- What is said of a way. -/
structure GoodWay (l m : List Int) (k : Nat) (ms : List (Nat × Int)) : Prop where
  eq : wayOf l m k = ms.map mkI
  leg : LegI l ms
  run : runI l ms = m
  len : (ms.length : Int) = dst (nth l) (nth m) l.length
  great : (ms.filter fun x => decide (x.1 = k)).length = (stopsL l m k).length
  below : ∀ x, x ∈ ms → x.1 ≤ k
theorem filter_lt (k : Nat) (ms : List (Nat × Int)) (h : ∀ x, x ∈ ms → x.1 < k) : (ms.filter fun x => decide (x.1 = k)).length = 0 := by
  rw [List.length_eq_zero_iff, List.filter_eq_nil_iff]
  intro x hx
  have := h x hx
  simp
  omega
theorem way_good (l m : List Int) (k : Nat) (hb : both l m = true) (ht : top (nth l) (nth m) l.length = k + 1) : ∃ ms, GoodWay l m k ms := by
  obtain ⟨⟨h0, h40, hd⟩, hdm, hlen⟩ := (both_iff l m).1 hb
  have hk : k < l.length := by have := top_le (nth l) (nth m) l.length; omega
  have hne := top_ne ht
  have habove := top_above ht
  have hq := hd k hk
  have hqm := hdm k (by omega)
  have h3 := third_peg hq hqm hne
  have hdst := dst_top hk habove hne
  -- the discs behind the great moves, and the way on
  have fin : ∀ (d : List Int) (p : Int) (a : List (Nat × Int)), Peg p → LegI l a → runI l a = d → d.length = l.length → (∀ i, i < k → nth d i = p) → nth d k = nth m k → (∀ i, k < i → nth d i = nth l i) →
      (wayRun k l (stopsL l m k)) = (a.map mkI, d) → (a.length : Int) + tp (nth m) k p = dst (nth l) (nth m) l.length → (a.filter fun x => decide (x.1 = k)).length = (stopsL l m k).length → (∀ x, x ∈ a → x.1 ≤ k) → ∃ ms, GoodWay l m k ms := by
    intro d p a hp hleg hrun hdl hlow hdk hhigh hway hcount hgreat hbel
    have hdm2 : d = (gatherL k m p).2 := by
      obtain ⟨f1, f2, f3⟩ := gather_facts k m p (by omega)
      apply nth_ext (by rw [hdl, f1, hlen])
      intro i hi
      rcases Nat.lt_trichotomy i k with c | c | c
      · rw [hlow i c, f3 i c]
      · subst c; rw [hdk, f2 i (Nat.le_refl _)]
      · rw [hhigh i c, f2 i (by omega)]; exact habove i c (by omega)
    obtain ⟨ms, s1, s2, s3, s4, s5⟩ := spread_good m k p (by omega) hdm hp
    rw [← hdm2] at s2 s3
    by_cases ck : 0 < k
    · have hp0 : nth d 0 = p := hlow 0 ck
      refine ⟨a ++ ms, ?_, ?_, ?_, ?_, ?_, ?_⟩
      · unfold wayOf
        rw [if_pos ck, hway, hp0, s1, List.map_append]
      · rw [leg_append, hrun]; exact ⟨hleg, s2⟩
      · rw [run_append, hrun]; exact s3
      · rw [List.length_append, Int.natCast_add, s4]; exact hcount
      · rw [List.filter_append, List.length_append, hgreat, filter_lt k ms s5]; omega
      · intro x hx
        rcases List.mem_append.1 hx with hx | hx
        · exact hbel x hx
        · have := s5 x hx; omega
    · obtain rfl : k = 0 := by omega
      refine ⟨a, ?_, hleg, ?_, ?_, hgreat, hbel⟩
      · unfold wayOf
        rw [if_neg ck, hway]
      · rw [hrun, hdm2]; rfl
      · have : tp (nth m) 0 p = 0 := rfl
        omega
  by_cases c : two (nth l) (nth m) k < one (nth l) (nth m) k
  · have hst : stopsL l m k = [3 - nth l k - nth m k, nth m k] := by unfold stopsL; rw [if_pos c]
    obtain ⟨a1, a2, a3, a4, a5, a6, a7⟩ := step_good k l (3 - nth l k - nth m k) hk hd h3 (by unfold Peg at hq hqm; omega)
    have e1 : 3 - nth l k - (3 - nth l k - nth m k) = nth m k := by omega
    obtain ⟨_, _, l1, l2⟩ := gather_leg k l (3 - nth l k - (3 - nth l k - nth m k)) (by omega) hd (by rw [e1]; exact hqm)
    rw [e1] at a1 a2 a3 a4 a5 a6 a7 l1 l2
    obtain ⟨d1, hd1⟩ : ∃ d1, (gatherL k l (nth m k)).2.set k (3 - nth l k - nth m k) = d1 := ⟨_, rfl⟩
    rw [hd1] at a2 a3 a4 a5 a6 a7
    obtain ⟨b1, b2, b3, b4, b5, b6, b7⟩ := step_good k d1 (nth m k) (by omega) a4 hqm (by rw [a6]; unfold Peg at hq hqm; omega)
    have e2 : 3 - nth d1 k - nth m k = nth l k := by rw [a6]; omega
    obtain ⟨_, _, l3, l4⟩ := gather_leg k d1 (3 - nth d1 k - nth m k) (by omega) a4 (by rw [e2]; exact hq)
    rw [e2] at b1 b2 b3 b4 b5 b6 b7 l3 l4
    rw [tp_on_ne (fun i hi => a5 i hi) (fun e => hne e) hqm hq] at l3
    refine fin _ (nth l k) (((gatherL k l (nth m k)).1 ++ [(k, 3 - nth l k - nth m k)]) ++ ((gatherL k d1 (nth l k)).1 ++ [(k, nth m k)])) hq ?_ ?_ (b3.trans a3) b5 b6 (fun i hi => by rw [b7 i hi]; exact a7 i hi) ?_ ?_ ?_ ?_
    · rw [leg_append, a2]; exact ⟨a1, b1⟩
    · rw [run_append, a2]; exact b2
    · rw [hst]
      unfold wayRun
      simp only [List.foldl_cons, List.foldl_nil, wayStep, e1, hd1, e2]
      simp [mkI]
    · rw [hdst]
      have : min (one (nth l) (nth m) k) (two (nth l) (nth m) k) = two (nth l) (nth m) k := by omega
      rw [this]
      unfold two
      simp only [List.length_append, List.length_singleton, Int.natCast_add, Int.natCast_one]
      omega
    · rw [hst]
      simp only [List.filter_append, List.length_append]
      rw [filter_lt k _ l2, filter_lt k _ l4]
      simp
    · intro x hx
      simp only [List.mem_append, List.mem_singleton] at hx
      rcases hx with (hx | rfl) | (hx | rfl)
      · have := l2 x hx; omega
      · exact Nat.le_refl _
      · have := l4 x hx; omega
      · exact Nat.le_refl _
  · have hst : stopsL l m k = [nth m k] := by unfold stopsL; rw [if_neg c]
    obtain ⟨a1, a2, a3, a4, a5, a6, a7⟩ := step_good k l (nth m k) hk hd hqm hne
    obtain ⟨_, _, l1, l2⟩ := gather_leg k l (3 - nth l k - nth m k) (by omega) hd h3
    refine fin _ (3 - nth l k - nth m k) ((gatherL k l (3 - nth l k - nth m k)).1 ++ [(k, nth m k)]) h3 a1 a2 a3 a5 a6 a7 ?_ ?_ ?_ ?_
    · rw [hst]
      unfold wayRun
      simp only [List.foldl_cons, List.foldl_nil, wayStep]
      simp [mkI]
    · rw [hdst]
      have : min (one (nth l) (nth m) k) (two (nth l) (nth m) k) = one (nth l) (nth m) k := by omega
      rw [this]
      unfold one
      simp only [List.length_append, List.length_singleton, Int.natCast_add, Int.natCast_one]
      omega
    · rw [hst]
      simp only [List.filter_append, List.length_append]
      rw [filter_lt k _ l2]
      simp
    · intro x hx
      simp only [List.mem_append, List.mem_singleton] at hx
      rcases hx with hx | rfl
      · have := l2 x hx; omega
      · exact Nat.le_refl _
end Go.Proofs.YtnaaomhmoamfpaaDoor.G
/- What Way answers. -/
namespace Go.Proofs.YtnaaomhmoamfpaaDoor.G
set_option linter.unusedVariables false
set_option linter.unusedSimpArgs false
set_option linter.unusedSectionVars false
open Go.Proofs.YtnaaomhmoamfpaaDoor.Q Go.Proofs.YtnaaomhmoamfpaaDoor.Hn Go.Proofs.YtnaaomhmoamfpaaDoor.K
open Go.RowKit Go.Proofs.YtnaaomhmoamfpaaDoorW.PrintWords Go.Proofs.YtnaaomhmoamfpaaDoorW.PrintLast Go.Proofs.YtnaaomhmoamfpaaDoorW.PrintMore

theorem rd_mid (a b : List (Nat × Int)) (m : Nat × Int) : rd_T52 ((a ++ m :: b).map mkI) (a.length : Int) = mkI m := by simp [rd_T52]
theorem dst_bound {l m : List Int} (hb : both l m = true) : dst (nth l) (nth m) l.length ≤ 2 ^ l.length - 1 := by
  obtain ⟨⟨h0, h40, hd⟩, hdm, hlen⟩ := (both_iff l m).1 hb
  have h1 := dst_far (nth l) (nth m) l.length hd (by unfold DiscsL at hdm; rwa [hlen] at hdm)
  have h2 := tp_le (nth l) l.length 0
  have h3 := tp_le (nth l) l.length 1
  have h4 := tp_le (nth l) l.length 2
  unfold far at h1
  omega
/-- What Way answers. -/
structure IsWay (l m : List Int) (ms : List (Nat × Int)) : Prop where
  f : hanoi_Way.f l m = some (ms.map mkI, 0)
  leg : LegI l ms
  run : runI l ms = m
  len : (ms.length : Int) = dst (nth l) (nth m) l.length
theorem way_is {l m : List Int} (hb : both l m = true) (h12 : l.length ≤ 12) : ∃ ms, IsWay l m ms := by
  by_cases e : l = m
  · refine ⟨[], ?_, trivial, e, ?_⟩
    · unfold hanoi_Way.f; rw [if_pos hb, if_neg (by omega), if_pos e]; rfl
    · rw [e, dst_same (fun _ _ => rfl)]; rfl
  · obtain ⟨_, _, hlen⟩ := (both_iff l m).1 hb
    cases hk : top (nth l) (nth m) l.length with
    | zero => exact absurd (list_top hlen hk) e
    | succ k =>
      obtain ⟨ms, hg⟩ := way_good l m k hb hk
      refine ⟨ms, ?_, hg.leg, hg.run, hg.len⟩
      unfold hanoi_Way.f
      rw [if_pos hb, if_neg (by omega), if_neg e, hk, ← hg.eq]
      rfl
end Go.Proofs.YtnaaomhmoamfpaaDoor.G
/- HanoiTwo: the kind tells how often the greatest disc moves. -/
namespace Go.Proofs.YtnaaomhmoamfpaaDoor.Pure
set_option linter.unusedVariables false
set_option linter.unusedSimpArgs false
set_option linter.unusedSectionVars false
open Go.Proofs.YtnaaomhmoamfpaaDoor.G Go.Proofs.YtnaaomhmoamfpaaDoor.Hn
open Go.RowKit Go.Proofs.YtnaaomhmoamfpaaDoor.Q Go.Proofs.YtnaaomhmoamfpaaDoorW.PrintWords Go.Proofs.YtnaaomhmoamfpaaDoorW.PrintLast Go.Proofs.YtnaaomhmoamfpaaDoorW.PrintMore

/-- How often disc k moves. -/
def cntK (k : Nat) (ms : List (Nat × Int)) : Nat := (ms.filter fun x => decide (x.1 = k)).length
theorem cntK_le (k : Nat) (ms : List (Nat × Int)) : cntK k ms ≤ ms.length := List.length_filter_le _ _
theorem cntK_snoc (k : Nat) (ms : List (Nat × Int)) (m : Nat × Int) : cntK k (ms ++ [m]) = cntK k ms + (if m.1 = k then 1 else 0) := by
  unfold cntK
  rw [List.filter_append, List.length_append]
  by_cases c : m.1 = k
  · simp [c]
  · simp [c]
theorem two_count (x9 : Int) (k : Nat) : ∀ (b a : List (Nat × Int)), (∀ x, x ∈ a ++ b → x.1 ≤ k) → (a ++ b).length ≤ 299 → (x9 = 3 → cntK k (a ++ b) = 1 ∨ cntK k (a ++ b) = 2) → (x9 ≠ 3 → x9 = (cntK k (a ++ b) : Int)) →
    Ev (fun n => bibelotlaw03_HanoiTwo.l1 n x9 ((a ++ b).map mkI) 0 (k : Int) (cntK k a : Int) (a.length : Int)) true
  | [], a, hk, hl, h3, h9 => by
    rw [List.append_nil] at *
    refine Ev.step (f := fun n => bibelotlaw03_HanoiTwo.j3 n x9 (a.map mkI) 0 (k : Int) (cntK k a : Int) (a.length : Int) false) (fun n => ?_) (Ev.step (f := fun n => (bibelotlaw03_awake.f n).bind fun t => some t) (fun n => ?_) (Ev.bind awake_ev (Ev.now true)))
    · rw [bibelotlaw03_HanoiTwo.l1, if_neg (by simp)]
    · rw [bibelotlaw03_HanoiTwo.j3, if_neg (by simp), if_pos rfl, if_pos (by omega)]
      by_cases c : x9 = 3
      · rw [if_pos c]
        rcases h3 c with h | h
        · rw [if_pos (by omega)]
        · rw [if_neg (by omega), if_pos (by omega)]
      · rw [if_neg c, if_pos (h9 c)]
  | m :: b, a, hk, hl, h3, h9 => by
    have e1 : a ++ m :: b = (a ++ [m]) ++ b := by simp
    have ih := two_count x9 k b (a ++ [m]) (by rw [← e1]; exact hk) (by rw [← e1]; exact hl) (by rw [← e1]; exact h3) (by rw [← e1]; exact h9)
    rw [← e1] at ih
    have hm : m.1 ≤ k := hk m (by simp)
    have hal : a.length < 299 := by rw [List.length_append, List.length_cons] at hl; omega
    have hc := cntK_le k a
    have hs := cntK_snoc k a m
    refine Ev.step (f := fun n => bibelotlaw03_HanoiTwo.j3 n x9 ((a ++ m :: b).map mkI) 0 (k : Int) (cntK k a : Int) (a.length : Int) true) (fun n => ?_) (Ev.step (fun n => ?_) ih)
    · rw [bibelotlaw03_HanoiTwo.l1, if_pos (by simp; omega), decide_eq_true (by omega)]
    · have e2 : (mkI m).f0 = (m.1 : Int) := rfl
      rw [bibelotlaw03_HanoiTwo.j3, if_pos rfl, if_pos (by omega), if_pos (by simp; omega), rd_mid, e2, w64 (by omega) (by omega), w64 (by omega) (by omega)]
      have e3 : (a.length : Int) + 1 = ((a ++ [m]).length : Int) := by simp
      by_cases c : m.1 = k
      · rw [if_pos c] at hs
        rw [if_pos (by omega), if_neg (by omega), e3, hs]
        rfl
      · rw [if_neg c] at hs
        rw [if_neg (by omega), if_neg (by omega), e3, hs]
        rfl
theorem two_find {x y : List Int} {k : Nat} {x9 x12 : Int} {ms : List S52} (hx : x.length ≤ 1000) (hy : x.length = y.length) (hk : k < x.length) (hne : nth x k ≠ nth y k) (ha : ∀ i, k < i → i < x.length → nth x i = nth y i)
    (hl : Ev (fun n => bibelotlaw03_HanoiTwo.j1 n x9 ms x12 (k : Int)) true) : ∀ d i, i = k + d → i < x.length → Ev (fun n => bibelotlaw03_HanoiTwo.l0 n x y x9 ms x12 (i : Int)) true
  | 0, i, h, hi => by
    obtain rfl : i = k := by omega
    refine Ev.step (fun n => ?_) hl
    rw [bibelotlaw03_HanoiTwo.l0, if_pos (by omega), if_pos (by omega), if_pos (by omega), if_pos (by omega), rd_nth, rd_nth, if_neg hne]
  | d + 1, i, h, hi => by
    refine Ev.step (fun n => ?_) (two_find hx hy hk hne ha hl d (i - 1) (by omega) (by omega))
    have e : (i : Int) - 1 = ((i - 1 : Nat) : Int) := by omega
    rw [bibelotlaw03_HanoiTwo.l0, if_pos (by omega), if_pos (by omega), if_pos (by omega), if_pos (by omega), rd_nth, rd_nth, if_pos (ha i (by omega) hi), w64 (by omega) (by omega), e]
theorem HanoiTwo : bibelotlaw03_HanoiTwo.Pure := by
  intro a0 l1 l2 _ _ _ _ _ _ _
  refine Ev.rounds (r := true) (g := fun k => bibelotlaw03_HanoiTwo.f k a0 l1 l2) ?_
  obtain ⟨m1, m2⟩ := many_bd a0 8 (by omega)
  obtain ⟨n, hn⟩ := Int.eq_ofNat_of_zero_le (show 0 ≤ manyOf a0 8 by omega)
  unfold bibelotlaw03_HanoiTwo.f
  rw [many_f a0 8 (by omega) (by omega), hn]
  simp only [Option.bind_some]
  have h0 : 1 ≤ n := by omega
  have h1 : n ≤ 40 := by omega
  have hb := both_discs l1 l2 n h0 h1
  have hlx := discsL_len l1 n
  refine Ev.bind (discs_ev l1 n (by omega)) (Ev.bind (discs_ev l2 n (by omega)) ?_)
  generalize discsL l1 n = x at *
  generalize discsL l2 n = y at *
  obtain ⟨⟨_, _, hd⟩, hdm, hlen⟩ := (both_iff x y).1 hb
  have hk := kind_ev x y
  rw [if_pos hb] at hk
  refine Ev.bind hk ?_
  by_cases e : x = y
  · subst e
    simp only [if_true, Int.one_ne_zero, if_false]
    refine Ev.bind (ints_ev x x (by omega)) ?_
    simp only [decide_true, if_true]
    exact Ev.bind awake_ev (Ev.now true)
  · simp only [e, if_false, if_true]
    cases ht : top (nth x) (nth y) x.length with
    | zero => exact absurd (list_top hlen ht) e
    | succ k =>
      obtain ⟨ms, hg⟩ := way_good x y k hb ht
      have hf : hanoi_Way.f x y = some (ms.map mkI, 0) := by
        unfold hanoi_Way.f
        rw [if_pos hb, if_neg (by omega), if_neg e, ht, ← hg.eq]
        rfl
      have hbd := dst_bound hb
      have hp := Nat.pow_le_pow_right (show 0 < 2 by omega) (show x.length ≤ 8 by omega)
      have hpc : ((2 ^ x.length : Nat) : Int) = 2 ^ x.length := by simp
      have hl := hg.len
      have hkx : k < x.length := by have := top_le (nth x) (nth y) x.length; omega
      have hkd : kd (nth x) (nth y) x.length = if one (nth x) (nth y) k < two (nth x) (nth y) k then 1 else if two (nth x) (nth y) k < one (nth x) (nth y) k then 2 else 3 := by unfold kd; rw [ht]
      have hgr : cntK k ms = (stopsL x y k).length := hg.great
      have hst : (stopsL x y k).length = if two (nth x) (nth y) k < one (nth x) (nth y) k then 2 else 1 := by unfold stopsL; split <;> rfl
      rw [hst] at hgr
      simp only [hf, Option.bind_some]
      have e1 : wrap64 ((n : Int) - 1) = ((n - 1 : Nat) : Int) := by rw [w64 (by omega) (by omega)]; omega
      simp only [e1]
      refine two_find (by omega) hlen.symm hkx (top_ne ht) (top_above ht) (Ev.step (fun n => ?_) (two_count (kd (nth x) (nth y) x.length) k ms [] hg.below (by rw [List.nil_append]; omega) (fun h => ?_) (fun h => ?_))) (n - 1 - k) (n - 1) (by omega) (by omega)
      · rw [bibelotlaw03_HanoiTwo.j1]; rfl
      · rw [List.nil_append, hgr]; split <;> omega
      · rw [hkd] at h
        rw [List.nil_append, hgr, hkd]
        by_cases c1 : one (nth x) (nth y) k < two (nth x) (nth y) k
        · rw [if_pos c1, if_neg (by omega)]; rfl
        · by_cases c2 : two (nth x) (nth y) k < one (nth x) (nth y) k
          · rw [if_neg c1, if_pos c2, if_pos c2]; rfl
          · rw [if_neg c1, if_neg c2] at h; exact absurd rfl h
end Go.Proofs.YtnaaomhmoamfpaaDoor.Pure
