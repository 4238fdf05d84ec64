/- HanoiStewart: without the reference: the least number of moves is Frame's number, wherever it is asked; more pegs never need more, and one disc more at least one move more: the walk and the plain law, for every input. -/
import Derived.Test.YtnaaomhmoamfpaaDoorA1
import Derived.Test.YtnaaomhmoamfpaaDoorA2
import Derived.Test.YtnaaomhmoamfpaaDoorA4
namespace Go.Proofs.YtnaaomhmoamfpaaDoor.G
end Go.Proofs.YtnaaomhmoamfpaaDoor.G
namespace Go.Proofs.YtnaaomhmoamfpaaDoor.Q
set_option linter.unusedVariables false
set_option linter.unusedSimpArgs false
set_option linter.unusedSectionVars false
open Go.Proofs.YtnaaomhmoamfpaaDoor.G
open Go.RowKit Go.Proofs.YtnaaomhmoamfpaaDoorW.PrintWords Go.Proofs.YtnaaomhmoamfpaaDoorW.PrintLast Go.Proofs.YtnaaomhmoamfpaaDoorW.PrintMore
attribute [local go_sem] max2_int min2_int max_two min_two max_three min_three max_four min_four   -- for this text's walks alone

/-! ### bibelotref03_Many: function 30 -/
def bibelotref03_Many.l0 : Nat → Int → Int → Int → Int → Option (Bool)
  | 0, _, _, _, _ => none
  | k + 1, x0, x1, x5, x6 => if x6 < x0 then (if x5 ≤ 70000 then (bibelotref03_Many.l0 k x0 x1 (wrap64 (x5 * x1)) (wrap64 (x6 + 1))) else (some (decide (x5 > 70000)))) else (some (decide (x5 > 70000)))
def bibelotref03_Many.f (k : Nat) (a0 : Int) (a1 : Int) : Option (Bool) := bibelotref03_Many.l0 k a0 a1 1 0
theorem bibelotref03_Many.mono_l : ∀ k, (∀ y0 y1 y2 y3, LeO (bibelotref03_Many.l0 k y0 y1 y2 y3) (bibelotref03_Many.l0 (k + 1) y0 y1 y2 y3))
  | 0 => fun _ _ _ _ r h => by simp [bibelotref03_Many.l0] at h
  | k + 1 => by
    have ih0 := bibelotref03_Many.mono_l k
    · intro y0 y1 y2 y3
      unfold bibelotref03_Many.l0
      repeat' first
      | (with_reducible exact ih0 _ _ _ _)
      | (with_reducible exact LeO.refl _)
      | (with_reducible exact LeO.none _)
      | (with_reducible refine LeO.ite ?_ ?_)
      | (with_reducible refine LeO.bind ?_ (fun _ => ?_))
      | exact ih0 _ _ _ _
      | exact LeO.none _
      | refine LeO.ite ?_ ?_
      | refine LeO.bind ?_ (fun _ => ?_)
theorem bibelotref03_Many.mono : ∀ a0 a1 k, LeO (bibelotref03_Many.f k a0 a1) (bibelotref03_Many.f (k + 1) a0 a1) := by
  intro a0 a1 k
  have ih0 := bibelotref03_Many.mono_l k
  unfold bibelotref03_Many.f
  repeat' first
      | (with_reducible exact ih0 _ _ _ _)
      | (with_reducible exact LeO.refl _)
      | (with_reducible exact LeO.none _)
      | (with_reducible refine LeO.ite ?_ ?_)
      | (with_reducible refine LeO.bind ?_ (fun _ => ?_))
      | exact ih0 _ _ _ _
      | exact LeO.none _
      | refine LeO.ite ?_ ?_
      | refine LeO.bind ?_ (fun _ => ?_)
set_option maxHeartbeats 8000000 in
set_option maxRecDepth 100000 in
theorem bibelotref03_Many.calls (k : Nat) (a0 : Int) (a1 : Int) (r : Bool) (w : World) (h : bibelotref03_Many.f k a0 a1 = some r) :
    Calls Tryd.prog 30 #[.int .i64 a0, .int .i64 a1] w fun e w' => e = .returned (.bool r) ∧ Drawn0 w w' := by
  have H : (bibelotref03_Many.l0 k a0 a1 1 0) = some r := h
  clear h
  have H' := Aside0.mk H
  clear H
  go_enter Tryd.func30, Tryd.ntmps30
  go_wp2
  go_loopg [5, 6] k (fun kq v5 v6 w' => ∃ (x5_1 : Int) (x6_1 : Int), v5 = .int .i64 x5_1 ∧ v6 = .int .i64 x6_1 ∧ Aside0 (bibelotref03_Many.l0 kq a0 a1 x5_1 x6_1 = some r) ∧ Aside0 (kq ≤ k) ∧ Drawn0 w w')
  case atStart => exact ⟨(1), (0), (by first | rfl | (simp; done) | (simp [*]; done)), (by first | rfl | (simp; done) | (simp [*]; done)), H', ⟨Nat.le_refl _⟩, by repeat (first | exact Drawn0.refl _ | apply Drawn0.step)⟩
  case round =>
    clear H'
    try clear p2
    obtain ⟨x5_1, x6_1, rfl, rfl, HA, HK1, ⟨m1, rfl⟩⟩ := hrel
    cases gk with
    | zero => exact absurd HA.out (by simp [bibelotref03_Many.l0])
    | succ k1 =>
      have H := HA.out
      clear HA
      simp only [bibelotref03_Many.l0] at H
      by_cases c3 : x6_1 < a0
      · rw [if_pos c3] at H
        have c3b0 : decide (x6_1 < a0) = true := decide_eq_true c3
        clear c3
        by_cases c4 : x5_1 ≤ 70000
        · rw [if_pos c4] at H
          have c4b0 : decide (x5_1 ≤ 70000) = true := decide_eq_true c4
          clear c4
          have H' := Aside0.mk H
          clear H
          go_wp2
          go_roundg k1
          case measure => have := HK1.out; omega
          case rel => exact ⟨(wrap64 (x5_1 * a1)), (wrap64 (x6_1 + 1)), (by first | rfl | (simp; done) | (simp [*]; done)), (by first | rfl | (simp; done) | (simp [*]; done)), H', ⟨by have := HK1.out; omega⟩, by repeat (first | exact Drawn0.refl _ | apply Drawn0.step)⟩
        · rw [if_neg c4] at H
          have c4b0 : decide (x5_1 ≤ 70000) = false := decide_eq_false c4
          clear c4
          obtain rfl := Option.some.inj H
          go_wp2
          go_ret
          exact ⟨by first | rfl | (simp; done) | (simp [*]; done), by repeat (first | exact Drawn0.refl _ | apply Drawn0.step)⟩
      · rw [if_neg c3] at H
        have c3b0 : decide (x6_1 < a0) = false := decide_eq_false c3
        clear c3
        obtain rfl := Option.some.inj H
        go_wp2
        go_ret
        exact ⟨by first | rfl | (simp; done) | (simp [*]; done), by repeat (first | exact Drawn0.refl _ | apply Drawn0.step)⟩

end Go.Proofs.YtnaaomhmoamfpaaDoor.Q
namespace Go.Proofs.YtnaaomhmoamfpaaDoor.G
end Go.Proofs.YtnaaomhmoamfpaaDoor.G
namespace Go.Proofs.YtnaaomhmoamfpaaDoor.Q
set_option linter.unusedVariables false
set_option linter.unusedSimpArgs false
set_option linter.unusedSectionVars false
open Go.Proofs.YtnaaomhmoamfpaaDoor.G
open Go.RowKit Go.Proofs.YtnaaomhmoamfpaaDoorW.PrintWords Go.Proofs.YtnaaomhmoamfpaaDoorW.PrintLast Go.Proofs.YtnaaomhmoamfpaaDoorW.PrintMore
attribute [local go_sem] max2_int min2_int max_two min_two max_three min_three max_four min_four   -- for this text's walks alone

/-! ### bibelotlaw03_HanoiStewart: function 7 -/
mutual
def bibelotlaw03_HanoiStewart.j0 : Nat → Int → Int → Int → Bool → Option (Bool)
  | 0, _, _, _, _ => none
  | k + 1, x0, x1, x5, x45 => if x45 = true then (some false) else (if x1 < 8 then ((hanoi_Frame.f x0 (wrap64 (x1 + 1))).bind fun bt161 => (if bt161.2 = 0 then (if bt161.1 > x5 then (some false) else (bibelotlaw03_HanoiStewart.j1 k x0 x1 x5)) else (some false))) else (bibelotlaw03_HanoiStewart.j1 k x0 x1 x5))
def bibelotlaw03_HanoiStewart.j1 : Nat → Int → Int → Int → Option (Bool)
  | 0, _, _, _ => none
  | k + 1, x0, x1, x5 => (hanoi_Fewest.f x0 x1).bind fun bt163 => (if bt163.2 = 0 then (if bt163.1 = x5 then ((bibelotlaw03_awake.f k).bind fun t165 => (some t165)) else (some false)) else (if bt163.2 = 1 then ((bibelotref03_Many.f k x0 x1).bind fun t166 => (if t166 = true then ((bibelotlaw03_awake.f k).bind fun t167 => (some t167)) else (some false))) else (some false)))
end
def bibelotlaw03_HanoiStewart.f (k : Nat) (a0 : Int) (a1 : Int) : Option (Bool) := (hanoi_Frame.f (wrap64 (Int.tmod (IntKind.u64.wrap (a0)) 9)) (wrap64 (3 + (wrap64 (Int.tmod (IntKind.u64.wrap (a1)) 6))))).bind fun bt157 => ((hanoi_Frame.f (wrap64 ((wrap64 (Int.tmod (IntKind.u64.wrap (a0)) 9)) + 1)) (wrap64 (3 + (wrap64 (Int.tmod (IntKind.u64.wrap (a1)) 6))))).bind fun bt159 => (if bt157.2 = 0 then (if bt159.2 = 0 then (bibelotlaw03_HanoiStewart.j0 k (wrap64 (Int.tmod (IntKind.u64.wrap (a0)) 9)) (wrap64 (3 + (wrap64 (Int.tmod (IntKind.u64.wrap (a1)) 6)))) bt157.1 (decide (bt159.1 ≤ bt157.1))) else (bibelotlaw03_HanoiStewart.j0 k (wrap64 (Int.tmod (IntKind.u64.wrap (a0)) 9)) (wrap64 (3 + (wrap64 (Int.tmod (IntKind.u64.wrap (a1)) 6)))) bt157.1 true)) else (bibelotlaw03_HanoiStewart.j0 k (wrap64 (Int.tmod (IntKind.u64.wrap (a0)) 9)) (wrap64 (3 + (wrap64 (Int.tmod (IntKind.u64.wrap (a1)) 6)))) bt157.1 true)))
theorem bibelotlaw03_HanoiStewart.mono_l : ∀ k, (∀ y0 y1 y2 y3, LeO (bibelotlaw03_HanoiStewart.j0 k y0 y1 y2 y3) (bibelotlaw03_HanoiStewart.j0 (k + 1) y0 y1 y2 y3)) ∧ (∀ y0 y1 y2, LeO (bibelotlaw03_HanoiStewart.j1 k y0 y1 y2) (bibelotlaw03_HanoiStewart.j1 (k + 1) y0 y1 y2))
  | 0 => ⟨fun _ _ _ _ r h => by simp [bibelotlaw03_HanoiStewart.j0] at h, fun _ _ _ r h => by simp [bibelotlaw03_HanoiStewart.j1] at h⟩
  | k + 1 => by
    obtain ⟨ih0, ih1⟩ := bibelotlaw03_HanoiStewart.mono_l k
    refine ⟨?_, ?_⟩
    · intro y0 y1 y2 y3
      unfold bibelotlaw03_HanoiStewart.j0
      repeat' first
      | (with_reducible exact ih0 _ _ _ _)
      | (with_reducible exact ih1 _ _ _)
      | (with_reducible exact bibelotlaw03_awake.mono _)
      | (with_reducible exact bibelotref03_Many.mono _ _ _)
      | (with_reducible exact LeO.refl _)
      | (with_reducible exact LeO.none _)
      | (with_reducible refine LeO.ite ?_ ?_)
      | (with_reducible refine LeO.bind ?_ (fun _ => ?_))
      | exact ih0 _ _ _ _
      | exact ih1 _ _ _
      | exact bibelotlaw03_awake.mono _
      | exact bibelotref03_Many.mono _ _ _
      | exact LeO.none _
      | refine LeO.ite ?_ ?_
      | refine LeO.bind ?_ (fun _ => ?_)
    · intro y0 y1 y2
      unfold bibelotlaw03_HanoiStewart.j1
      repeat' first
      | (with_reducible exact ih0 _ _ _ _)
      | (with_reducible exact ih1 _ _ _)
      | (with_reducible exact bibelotlaw03_awake.mono _)
      | (with_reducible exact bibelotref03_Many.mono _ _ _)
      | (with_reducible exact LeO.refl _)
      | (with_reducible exact LeO.none _)
      | (with_reducible refine LeO.ite ?_ ?_)
      | (with_reducible refine LeO.bind ?_ (fun _ => ?_))
      | exact ih0 _ _ _ _
      | exact ih1 _ _ _
      | exact bibelotlaw03_awake.mono _
      | exact bibelotref03_Many.mono _ _ _
      | exact LeO.none _
      | refine LeO.ite ?_ ?_
      | refine LeO.bind ?_ (fun _ => ?_)
theorem bibelotlaw03_HanoiStewart.mono : ∀ a0 a1 k, LeO (bibelotlaw03_HanoiStewart.f k a0 a1) (bibelotlaw03_HanoiStewart.f (k + 1) a0 a1) := by
  intro a0 a1 k
  obtain ⟨ih0, ih1⟩ := bibelotlaw03_HanoiStewart.mono_l k
  unfold bibelotlaw03_HanoiStewart.f
  repeat' first
      | (with_reducible exact ih0 _ _ _ _)
      | (with_reducible exact ih1 _ _ _)
      | (with_reducible exact bibelotlaw03_awake.mono _)
      | (with_reducible exact bibelotref03_Many.mono _ _ _)
      | (with_reducible exact LeO.refl _)
      | (with_reducible exact LeO.none _)
      | (with_reducible refine LeO.ite ?_ ?_)
      | (with_reducible refine LeO.bind ?_ (fun _ => ?_))
      | exact ih0 _ _ _ _
      | exact ih1 _ _ _
      | exact bibelotlaw03_awake.mono _
      | exact bibelotref03_Many.mono _ _ _
      | exact LeO.none _
      | refine LeO.ite ?_ ?_
      | refine LeO.bind ?_ (fun _ => ?_)
set_option maxHeartbeats 8000000 in
set_option maxRecDepth 100000 in
theorem bibelotlaw03_HanoiStewart.calls (k : Nat) (a0 : Int) (a1 : Int) (r : Bool) (w : World) (h : bibelotlaw03_HanoiStewart.f k a0 a1 = some r) :
    Calls Tryd.prog 7 #[.int .i64 a0, .int .i64 a1] w fun e w' => e = .returned (.bool r) ∧ Below w.heap.size w w' := by
  have HB := Aside0.mk (Below.refl w.heap.size w)
  have H : ((hanoi_Frame.f (wrap64 (Int.tmod (IntKind.u64.wrap (a0)) 9)) (wrap64 (3 + (wrap64 (Int.tmod (IntKind.u64.wrap (a1)) 6))))).bind fun bt157 => ((hanoi_Frame.f (wrap64 ((wrap64 (Int.tmod (IntKind.u64.wrap (a0)) 9)) + 1)) (wrap64 (3 + (wrap64 (Int.tmod (IntKind.u64.wrap (a1)) 6))))).bind fun bt159 => (if bt157.2 = 0 then (if bt159.2 = 0 then (bibelotlaw03_HanoiStewart.j0 k (wrap64 (Int.tmod (IntKind.u64.wrap (a0)) 9)) (wrap64 (3 + (wrap64 (Int.tmod (IntKind.u64.wrap (a1)) 6)))) bt157.1 (decide (bt159.1 ≤ bt157.1))) else (bibelotlaw03_HanoiStewart.j0 k (wrap64 (Int.tmod (IntKind.u64.wrap (a0)) 9)) (wrap64 (3 + (wrap64 (Int.tmod (IntKind.u64.wrap (a1)) 6)))) bt157.1 true)) else (bibelotlaw03_HanoiStewart.j0 k (wrap64 (Int.tmod (IntKind.u64.wrap (a0)) 9)) (wrap64 (3 + (wrap64 (Int.tmod (IntKind.u64.wrap (a1)) 6)))) bt157.1 true)))) = some r := h
  clear h
  replace H := Option.bind_eq_some_iff.mp H
  obtain ⟨⟨t157, t158⟩, A30, H⟩ := H
  replace H : ((hanoi_Frame.f (wrap64 ((wrap64 (Int.tmod (IntKind.u64.wrap (a0)) 9)) + 1)) (wrap64 (3 + (wrap64 (Int.tmod (IntKind.u64.wrap (a1)) 6))))).bind fun bt159 => (if t158 = 0 then (if bt159.2 = 0 then (bibelotlaw03_HanoiStewart.j0 k (wrap64 (Int.tmod (IntKind.u64.wrap (a0)) 9)) (wrap64 (3 + (wrap64 (Int.tmod (IntKind.u64.wrap (a1)) 6)))) t157 (decide (bt159.1 ≤ t157))) else (bibelotlaw03_HanoiStewart.j0 k (wrap64 (Int.tmod (IntKind.u64.wrap (a0)) 9)) (wrap64 (3 + (wrap64 (Int.tmod (IntKind.u64.wrap (a1)) 6)))) t157 true)) else (bibelotlaw03_HanoiStewart.j0 k (wrap64 (Int.tmod (IntKind.u64.wrap (a0)) 9)) (wrap64 (3 + (wrap64 (Int.tmod (IntKind.u64.wrap (a1)) 6)))) t157 true))) = some r := H
  have A3 := Aside0.mk A30
  clear A30
  replace H := Option.bind_eq_some_iff.mp H
  obtain ⟨⟨t159, t160⟩, A40, H⟩ := H
  replace H : (if t158 = 0 then (if t160 = 0 then (bibelotlaw03_HanoiStewart.j0 k (wrap64 (Int.tmod (IntKind.u64.wrap (a0)) 9)) (wrap64 (3 + (wrap64 (Int.tmod (IntKind.u64.wrap (a1)) 6)))) t157 (decide (t159 ≤ t157))) else (bibelotlaw03_HanoiStewart.j0 k (wrap64 (Int.tmod (IntKind.u64.wrap (a0)) 9)) (wrap64 (3 + (wrap64 (Int.tmod (IntKind.u64.wrap (a1)) 6)))) t157 true)) else (bibelotlaw03_HanoiStewart.j0 k (wrap64 (Int.tmod (IntKind.u64.wrap (a0)) 9)) (wrap64 (3 + (wrap64 (Int.tmod (IntKind.u64.wrap (a1)) 6)))) t157 true)) = some r := H
  have A4 := Aside0.mk A40
  clear A40
  have HC5 := Aside0.mk H
  clear H
  go_enter Tryd.func7, Tryd.ntmps7
  go_upto_region 4 with (first | ((with_reducible refine gate_callee (f := 27) rfl ?_); refine goesL_ (some 25) rfl rfl Tryd.func27 (by kernel_rfl) rfl #[.int .i64 (wrap64 (Int.tmod (IntKind.u64.wrap (a0)) 9)), .int .i64 (wrap64 (3 + (wrap64 (Int.tmod (IntKind.u64.wrap (a1)) 6))))] rfl (by (try simp only [List.map_toArray, List.map_cons, List.map_nil]); first | done | rfl | (simp only [List.length_drop, List.length_take]; rfl)) ?_; (with_reducible refine (hanoi_Frame.calls (wrap64 (Int.tmod (IntKind.u64.wrap (a0)) 9)) (wrap64 (3 + (wrap64 (Int.tmod (IntKind.u64.wrap (a1)) 6)))) t157 t158 _ A3.out).mono ?_); rintro e w6 ⟨rfl, hb⟩; refine ⟨_, rfl, ?_⟩; have n0_ := Aside0.mk (below_step (by repeat (first | (with_reducible first | exact HB.out | apply below_alloc | apply pw_below_drewN | apply below_drew1) | exact HB.out)) hb); clear HB; have HB := n0_; clear n0_; (try clear hb); (try clear hb2); (try clear hk); (try clear hi)) | ((with_reducible refine gate_callee (f := 27) rfl ?_); refine goesL_ (some 32) rfl rfl Tryd.func27 (by kernel_rfl) rfl #[.int .i64 (wrap64 ((wrap64 (Int.tmod (IntKind.u64.wrap (a0)) 9)) + 1)), .int .i64 (wrap64 (3 + (wrap64 (Int.tmod (IntKind.u64.wrap (a1)) 6))))] rfl (by (try simp only [List.map_toArray, List.map_cons, List.map_nil]); first | done | rfl | (simp only [List.length_drop, List.length_take]; rfl)) ?_; (with_reducible refine (hanoi_Frame.calls (wrap64 ((wrap64 (Int.tmod (IntKind.u64.wrap (a0)) 9)) + 1)) (wrap64 (3 + (wrap64 (Int.tmod (IntKind.u64.wrap (a1)) 6)))) t159 t160 _ A4.out).mono ?_); rintro e w7 ⟨rfl, hb⟩; refine ⟨_, rfl, ?_⟩; have n0_ := Aside0.mk (below_step (by repeat (first | (with_reducible first | exact HB.out | apply below_alloc | apply pw_below_drewN | apply below_drew1) | exact HB.out)) hb); clear HB; have HB := n0_; clear n0_; (try clear hb); (try clear hb2); (try clear hk); (try clear hi)))
  (try simp only [Act.put, List.setIfInBounds_toArray, List.set_cons_zero, List.set_cons_succ])
  go_cut [45] (fun v45 wc => ∃ (kq : Nat) (x45_4 : Bool), v45 = .bool x45_4 ∧ Aside0 (bibelotlaw03_HanoiStewart.j0 kq (wrap64 (Int.tmod (IntKind.u64.wrap (a0)) 9)) (wrap64 (3 + (wrap64 (Int.tmod (IntKind.u64.wrap (a1)) 6)))) t157 x45_4 = some r) ∧ Aside0 (kq ≤ k) ∧ Aside0 (Below w.heap.size w wc))
  case first =>
    have H := HC5.out
    clear HC5
    by_cases c8 : t158 = 0
    · rw [if_pos c8] at H
      have c8b0 : (t158 == 0) = true := beq_iff_eq.mpr c8
      have c8b1 : (t158 != 0) = false := bne_eq_false_iff_eq.mpr c8
      clear c8
      (first | rw [c8b0] | (simp only [i64_w, i32_w]; rw [c8b0]) | skip)
      by_cases c9 : t160 = 0
      · rw [if_pos c9] at H
        have c9b0 : (t160 == 0) = true := beq_iff_eq.mpr c9
        have c9b1 : (t160 != 0) = false := bne_eq_false_iff_eq.mpr c9
        clear c9
        have H' := Aside0.mk H
        clear H
        go_wp2
        go_meet
        case rel => exact ⟨_, (decide (t159 ≤ t157)), (by first | rfl | (simp; done) | (simp [*]; done)), H', ⟨by first | omega | exact Nat.le_refl _⟩, ⟨by repeat (first | (with_reducible first | exact HB.out | apply below_alloc | apply pw_below_drewN | apply below_drew1) | exact HB.out)⟩⟩
      · rw [if_neg c9] at H
        have c9b0 : (t160 == 0) = false := beq_eq_false_iff_ne.mpr c9
        have c9b1 : (t160 != 0) = true := bne_iff_ne.mpr c9
        have H' := Aside0.mk H
        clear H
        go_wp2
        go_meet
        case rel => exact ⟨_, (true), (by first | rfl | (simp; done) | (simp [*]; done)), H', ⟨by first | omega | exact Nat.le_refl _⟩, ⟨by repeat (first | (with_reducible first | exact HB.out | apply below_alloc | apply pw_below_drewN | apply below_drew1) | exact HB.out)⟩⟩
    · rw [if_neg c8] at H
      have c8b0 : (t158 == 0) = false := beq_eq_false_iff_ne.mpr c8
      have c8b1 : (t158 != 0) = true := bne_iff_ne.mpr c8
      (first | rw [c8b0] | (simp only [i64_w, i32_w]; rw [c8b0]) | skip)
      have H' := Aside0.mk H
      clear H
      go_wp2
      go_meet
      case rel => exact ⟨_, (true), (by first | rfl | (simp; done) | (simp [*]; done)), H', ⟨by first | omega | exact Nat.le_refl _⟩, ⟨by repeat (first | (with_reducible first | exact HB.out | apply below_alloc | apply pw_below_drewN | apply below_drew1) | exact HB.out)⟩⟩
  case rest =>
    clear HC5
    try clear c2
    try clear p2
    try clear p6
    try clear c7
    try clear c8
    try clear c8b0
    try clear c8b1
    try clear c9
    try clear c9b0
    try clear c9b1
    obtain ⟨kq, x45_4, rfl, HA, HJ4, HB⟩ := hcut
    cases kq with
    | zero => exact absurd HA.out (by simp [bibelotlaw03_HanoiStewart.j0])
    | succ kj4 =>
      have H := HA.out
      clear HA
      simp only [bibelotlaw03_HanoiStewart.j0] at H
      by_cases c10 : x45_4 = true
      · subst c10
        have H1 : (some false) = some r := by rw [if_pos rfl] at H; exact H
        clear H
        have H := H1
        clear H1
        obtain rfl := Option.some.inj H
        go_wp2
        go_ret
        exact ⟨by first | rfl | (simp [errW_none, errW_some] <;> rfl) | (simp [*, errW_none, errW_some] <;> rfl), by repeat (first | (with_reducible first | exact HB.out | apply below_alloc | apply pw_below_drewN | apply below_drew1) | exact HB.out)⟩
      · replace c10 := Bool.eq_false_iff.mpr c10
        subst c10
        have H1 : (if (wrap64 (3 + (wrap64 (Int.tmod (IntKind.u64.wrap (a1)) 6)))) < 8 then ((hanoi_Frame.f (wrap64 (Int.tmod (IntKind.u64.wrap (a0)) 9)) (wrap64 ((wrap64 (3 + (wrap64 (Int.tmod (IntKind.u64.wrap (a1)) 6)))) + 1))).bind fun bt161 => (if bt161.2 = 0 then (if bt161.1 > t157 then (some false) else (bibelotlaw03_HanoiStewart.j1 kj4 (wrap64 (Int.tmod (IntKind.u64.wrap (a0)) 9)) (wrap64 (3 + (wrap64 (Int.tmod (IntKind.u64.wrap (a1)) 6)))) t157)) else (some false))) else (bibelotlaw03_HanoiStewart.j1 kj4 (wrap64 (Int.tmod (IntKind.u64.wrap (a0)) 9)) (wrap64 (3 + (wrap64 (Int.tmod (IntKind.u64.wrap (a1)) 6)))) t157)) = some r := by rw [if_neg (show ¬ (false = true) by decide)] at H; exact H
        clear H
        have H := H1
        clear H1
        have HC11 := Aside0.mk H
        clear H
        go_upto_if 47 with (fail)
        go_cut [] (fun wc => ∃ (kq : Nat), Aside0 (bibelotlaw03_HanoiStewart.j1 kq (wrap64 (Int.tmod (IntKind.u64.wrap (a0)) 9)) (wrap64 (3 + (wrap64 (Int.tmod (IntKind.u64.wrap (a1)) 6)))) t157 = some r) ∧ Aside0 (kq ≤ kj4) ∧ Aside0 (Below w.heap.size w wc))
        case first =>
          have H := HC11.out
          clear HC11
          by_cases c12 : (wrap64 (3 + (wrap64 (Int.tmod (IntKind.u64.wrap (a1)) 6)))) < 8
          · rw [if_pos c12] at H
            have c12b0 : decide ((wrap64 (3 + (wrap64 (Int.tmod (IntKind.u64.wrap (a1)) 6)))) < 8) = true := decide_eq_true c12
            clear c12
            (first | rw [c12b0] | (simp only [i64_w, i32_w]; rw [c12b0]) | skip)
            replace H := Option.bind_eq_some_iff.mp H
            obtain ⟨⟨t161, t162⟩, A130, H⟩ := H
            replace H : (if t162 = 0 then (if t161 > t157 then (some false) else (bibelotlaw03_HanoiStewart.j1 kj4 (wrap64 (Int.tmod (IntKind.u64.wrap (a0)) 9)) (wrap64 (3 + (wrap64 (Int.tmod (IntKind.u64.wrap (a1)) 6)))) t157)) else (some false)) = some r := H
            have A13 := Aside0.mk A130
            clear A130
            by_cases c14 : t162 = 0
            · rw [if_pos c14] at H
              have c14b0 : (t162 == 0) = true := beq_iff_eq.mpr c14
              have c14b1 : (t162 != 0) = false := bne_eq_false_iff_eq.mpr c14
              clear c14
              by_cases c15 : t161 > t157
              · rw [if_pos c15] at H
                have c15b0 : decide (t157 < t161) = true := decide_eq_true c15
                clear c15
                obtain rfl := Option.some.inj H
                go_wp2_with (first | ((with_reducible refine gate_callee (f := 27) rfl ?_); refine goesL_ (some 52) rfl rfl Tryd.func27 (by kernel_rfl) rfl #[.int .i64 (wrap64 (Int.tmod (IntKind.u64.wrap (a0)) 9)), .int .i64 (wrap64 ((wrap64 (3 + (wrap64 (Int.tmod (IntKind.u64.wrap (a1)) 6)))) + 1))] rfl (by (try simp only [List.map_toArray, List.map_cons, List.map_nil]); first | done | rfl | (simp only [List.length_drop, List.length_take]; rfl)) ?_; (with_reducible refine (hanoi_Frame.calls (wrap64 (Int.tmod (IntKind.u64.wrap (a0)) 9)) (wrap64 ((wrap64 (3 + (wrap64 (Int.tmod (IntKind.u64.wrap (a1)) 6)))) + 1)) t161 t162 _ A13.out).mono ?_); rintro e w16 ⟨rfl, hb⟩; refine ⟨_, rfl, ?_⟩; have n0_ := Aside0.mk (below_step (by repeat (first | (with_reducible first | exact HB.out | apply below_alloc | apply pw_below_drewN | apply below_drew1) | exact HB.out)) hb); clear HB; have HB := n0_; clear n0_; (try clear hb); (try clear hb2); (try clear hk); (try clear hi)))
                go_ret
                exact ⟨by first | rfl | (simp [errW_none, errW_some] <;> rfl) | (simp [*, errW_none, errW_some] <;> rfl), by repeat (first | (with_reducible first | exact HB.out | apply below_alloc | apply pw_below_drewN | apply below_drew1) | exact HB.out)⟩
              · rw [if_neg c15] at H
                have c15b0 : decide (t157 < t161) = false := decide_eq_false c15
                clear c15
                have H' := Aside0.mk H
                clear H
                go_wp2_with (first | ((with_reducible refine gate_callee (f := 27) rfl ?_); refine goesL_ (some 52) rfl rfl Tryd.func27 (by kernel_rfl) rfl #[.int .i64 (wrap64 (Int.tmod (IntKind.u64.wrap (a0)) 9)), .int .i64 (wrap64 ((wrap64 (3 + (wrap64 (Int.tmod (IntKind.u64.wrap (a1)) 6)))) + 1))] rfl (by (try simp only [List.map_toArray, List.map_cons, List.map_nil]); first | done | rfl | (simp only [List.length_drop, List.length_take]; rfl)) ?_; (with_reducible refine (hanoi_Frame.calls (wrap64 (Int.tmod (IntKind.u64.wrap (a0)) 9)) (wrap64 ((wrap64 (3 + (wrap64 (Int.tmod (IntKind.u64.wrap (a1)) 6)))) + 1)) t161 t162 _ A13.out).mono ?_); rintro e w17 ⟨rfl, hb⟩; refine ⟨_, rfl, ?_⟩; have n0_ := Aside0.mk (below_step (by repeat (first | (with_reducible first | exact HB.out | apply below_alloc | apply pw_below_drewN | apply below_drew1) | exact HB.out)) hb); clear HB; have HB := n0_; clear n0_; (try clear hb); (try clear hb2); (try clear hk); (try clear hi)))
                go_meet
                case rel => exact ⟨_, H', ⟨by have := HJ4.out; first | omega | exact Nat.le_refl _⟩, ⟨by repeat (first | (with_reducible first | exact HB.out | apply below_alloc | apply pw_below_drewN | apply below_drew1) | exact HB.out)⟩⟩
            · rw [if_neg c14] at H
              have c14b0 : (t162 == 0) = false := beq_eq_false_iff_ne.mpr c14
              have c14b1 : (t162 != 0) = true := bne_iff_ne.mpr c14
              obtain rfl := Option.some.inj H
              go_wp2_with (first | ((with_reducible refine gate_callee (f := 27) rfl ?_); refine goesL_ (some 52) rfl rfl Tryd.func27 (by kernel_rfl) rfl #[.int .i64 (wrap64 (Int.tmod (IntKind.u64.wrap (a0)) 9)), .int .i64 (wrap64 ((wrap64 (3 + (wrap64 (Int.tmod (IntKind.u64.wrap (a1)) 6)))) + 1))] rfl (by (try simp only [List.map_toArray, List.map_cons, List.map_nil]); first | done | rfl | (simp only [List.length_drop, List.length_take]; rfl)) ?_; (with_reducible refine (hanoi_Frame.calls (wrap64 (Int.tmod (IntKind.u64.wrap (a0)) 9)) (wrap64 ((wrap64 (3 + (wrap64 (Int.tmod (IntKind.u64.wrap (a1)) 6)))) + 1)) t161 t162 _ A13.out).mono ?_); rintro e w18 ⟨rfl, hb⟩; refine ⟨_, rfl, ?_⟩; have n0_ := Aside0.mk (below_step (by repeat (first | (with_reducible first | exact HB.out | apply below_alloc | apply pw_below_drewN | apply below_drew1) | exact HB.out)) hb); clear HB; have HB := n0_; clear n0_; (try clear hb); (try clear hb2); (try clear hk); (try clear hi)))
              go_ret
              exact ⟨by first | rfl | (simp [errW_none, errW_some] <;> rfl) | (simp [*, errW_none, errW_some] <;> rfl), by repeat (first | (with_reducible first | exact HB.out | apply below_alloc | apply pw_below_drewN | apply below_drew1) | exact HB.out)⟩
          · rw [if_neg c12] at H
            have c12b0 : decide ((wrap64 (3 + (wrap64 (Int.tmod (IntKind.u64.wrap (a1)) 6)))) < 8) = false := decide_eq_false c12
            clear c12
            (first | rw [c12b0] | (simp only [i64_w, i32_w]; rw [c12b0]) | skip)
            have H' := Aside0.mk H
            clear H
            go_wp2
            go_meet
            case rel => exact ⟨_, H', ⟨by have := HJ4.out; first | omega | exact Nat.le_refl _⟩, ⟨by repeat (first | (with_reducible first | exact HB.out | apply below_alloc | apply pw_below_drewN | apply below_drew1) | exact HB.out)⟩⟩
        case rest =>
          clear HC11
          try clear c1
          try clear c2
          try clear p2
          try clear p6
          try clear c7
          try clear c8
          try clear c8b0
          try clear c8b1
          try clear c9
          try clear c9b0
          try clear c9b1
          try clear c10
          try clear c12
          try clear c12b0
          try clear c14
          try clear c14b0
          try clear c14b1
          try clear c15
          try clear c15b0
          try clear p2
          try clear p6
          obtain ⟨kq, HA, HJ10, HB⟩ := hcut
          cases kq with
          | zero => exact absurd HA.out (by simp [bibelotlaw03_HanoiStewart.j1])
          | succ kj10 =>
            have H := HA.out
            clear HA
            simp only [bibelotlaw03_HanoiStewart.j1] at H
            replace H := Option.bind_eq_some_iff.mp H
            obtain ⟨⟨t163, t164⟩, A190, H⟩ := H
            replace H : (if t164 = 0 then (if t163 = t157 then ((bibelotlaw03_awake.f kj10).bind fun t165 => (some t165)) else (some false)) else (if t164 = 1 then ((bibelotref03_Many.f kj10 (wrap64 (Int.tmod (IntKind.u64.wrap (a0)) 9)) (wrap64 (3 + (wrap64 (Int.tmod (IntKind.u64.wrap (a1)) 6))))).bind fun t166 => (if t166 = true then ((bibelotlaw03_awake.f kj10).bind fun t167 => (some t167)) else (some false))) else (some false))) = some r := H
            have A19 := Aside0.mk A190
            clear A190
            by_cases c20 : t164 = 0
            · rw [if_pos c20] at H
              have c20b0 : (t164 == 0) = true := beq_iff_eq.mpr c20
              have c20b1 : (t164 != 0) = false := bne_eq_false_iff_eq.mpr c20
              clear c20
              by_cases c21 : t163 = t157
              · rw [if_pos c21] at H
                have c21b0 : (t163 == t157) = true := beq_iff_eq.mpr c21
                have c21b1 : (t163 != t157) = false := bne_eq_false_iff_eq.mpr c21
                clear c21
                replace H := Option.bind_eq_some_iff.mp H
                obtain ⟨t165, A220, H⟩ := H
                replace H : (some t165) = some r := H
                have A22 := Aside0.mk A220
                clear A220
                obtain rfl := Option.some.inj H
                go_wp2_with (first | ((with_reducible refine gate_callee (f := 29) rfl ?_); refine goesL_ (some 65) rfl rfl Tryd.func29 (by kernel_rfl) rfl #[.int .i64 (wrap64 (Int.tmod (IntKind.u64.wrap (a0)) 9)), .int .i64 (wrap64 (3 + (wrap64 (Int.tmod (IntKind.u64.wrap (a1)) 6))))] rfl (by (try simp only [List.map_toArray, List.map_cons, List.map_nil]); first | done | rfl | (simp only [List.length_drop, List.length_take]; rfl)) ?_; (with_reducible refine (hanoi_Fewest.calls (wrap64 (Int.tmod (IntKind.u64.wrap (a0)) 9)) (wrap64 (3 + (wrap64 (Int.tmod (IntKind.u64.wrap (a1)) 6)))) t163 t164 _ A19.out).mono ?_); rintro e w23 ⟨rfl, hb⟩; refine ⟨_, rfl, ?_⟩; have n0_ := Aside0.mk (below_step (by repeat (first | (with_reducible first | exact HB.out | apply below_alloc | apply pw_below_drewN | apply below_drew1) | exact HB.out)) hb); clear HB; have HB := n0_; clear n0_; (try clear hb); (try clear hb2); (try clear hk); (try clear hi)) | (go_at_call 26; (with_reducible refine (bibelotlaw03_awake.calls kj10  t165 _ A22.out).mono ?_); rintro e w24 ⟨rfl, hb⟩; have n0_ := Aside0.mk (below_step (by repeat (first | (with_reducible first | exact HB.out | apply below_alloc | apply pw_below_drewN | apply below_drew1) | exact HB.out)) hb); clear HB; have HB := n0_; clear n0_; (try clear hb); (try clear hb2); (try clear hk); (try clear hi)))
                go_ret
                exact ⟨by first | rfl | (simp [errW_none, errW_some] <;> rfl) | (simp [*, errW_none, errW_some] <;> rfl), by repeat (first | (with_reducible first | exact HB.out | apply below_alloc | apply pw_below_drewN | apply below_drew1) | exact HB.out)⟩
              · rw [if_neg c21] at H
                have c21b0 : (t163 == t157) = false := beq_eq_false_iff_ne.mpr c21
                have c21b1 : (t163 != t157) = true := bne_iff_ne.mpr c21
                obtain rfl := Option.some.inj H
                go_wp2_with (first | ((with_reducible refine gate_callee (f := 29) rfl ?_); refine goesL_ (some 65) rfl rfl Tryd.func29 (by kernel_rfl) rfl #[.int .i64 (wrap64 (Int.tmod (IntKind.u64.wrap (a0)) 9)), .int .i64 (wrap64 (3 + (wrap64 (Int.tmod (IntKind.u64.wrap (a1)) 6))))] rfl (by (try simp only [List.map_toArray, List.map_cons, List.map_nil]); first | done | rfl | (simp only [List.length_drop, List.length_take]; rfl)) ?_; (with_reducible refine (hanoi_Fewest.calls (wrap64 (Int.tmod (IntKind.u64.wrap (a0)) 9)) (wrap64 (3 + (wrap64 (Int.tmod (IntKind.u64.wrap (a1)) 6)))) t163 t164 _ A19.out).mono ?_); rintro e w25 ⟨rfl, hb⟩; refine ⟨_, rfl, ?_⟩; have n0_ := Aside0.mk (below_step (by repeat (first | (with_reducible first | exact HB.out | apply below_alloc | apply pw_below_drewN | apply below_drew1) | exact HB.out)) hb); clear HB; have HB := n0_; clear n0_; (try clear hb); (try clear hb2); (try clear hk); (try clear hi)))
                go_ret
                exact ⟨by first | rfl | (simp [errW_none, errW_some] <;> rfl) | (simp [*, errW_none, errW_some] <;> rfl), by repeat (first | (with_reducible first | exact HB.out | apply below_alloc | apply pw_below_drewN | apply below_drew1) | exact HB.out)⟩
            · rw [if_neg c20] at H
              have c20b0 : (t164 == 0) = false := beq_eq_false_iff_ne.mpr c20
              have c20b1 : (t164 != 0) = true := bne_iff_ne.mpr c20
              by_cases c26 : t164 = 1
              · rw [if_pos c26] at H
                have c26b0 : (t164 == 1) = true := beq_iff_eq.mpr c26
                have c26b1 : (t164 != 1) = false := bne_eq_false_iff_eq.mpr c26
                clear c26
                replace H := Option.bind_eq_some_iff.mp H
                obtain ⟨t166, A270, H⟩ := H
                replace H : (if t166 = true then ((bibelotlaw03_awake.f kj10).bind fun t167 => (some t167)) else (some false)) = some r := H
                have A27 := Aside0.mk A270
                clear A270
                by_cases c28 : t166 = true
                · subst c28
                  have H1 : ((bibelotlaw03_awake.f kj10).bind fun t167 => (some t167)) = some r := by rw [if_pos rfl] at H; exact H
                  clear H
                  have H := H1
                  clear H1
                  replace H := Option.bind_eq_some_iff.mp H
                  obtain ⟨t167, A290, H⟩ := H
                  replace H : (some t167) = some r := H
                  have A29 := Aside0.mk A290
                  clear A290
                  obtain rfl := Option.some.inj H
                  go_wp2_with (first | ((with_reducible refine gate_callee (f := 29) rfl ?_); refine goesL_ (some 65) rfl rfl Tryd.func29 (by kernel_rfl) rfl #[.int .i64 (wrap64 (Int.tmod (IntKind.u64.wrap (a0)) 9)), .int .i64 (wrap64 (3 + (wrap64 (Int.tmod (IntKind.u64.wrap (a1)) 6))))] rfl (by (try simp only [List.map_toArray, List.map_cons, List.map_nil]); first | done | rfl | (simp only [List.length_drop, List.length_take]; rfl)) ?_; (with_reducible refine (hanoi_Fewest.calls (wrap64 (Int.tmod (IntKind.u64.wrap (a0)) 9)) (wrap64 (3 + (wrap64 (Int.tmod (IntKind.u64.wrap (a1)) 6)))) t163 t164 _ A19.out).mono ?_); rintro e w30 ⟨rfl, hb⟩; refine ⟨_, rfl, ?_⟩; have n0_ := Aside0.mk (below_step (by repeat (first | (with_reducible first | exact HB.out | apply below_alloc | apply pw_below_drewN | apply below_drew1) | exact HB.out)) hb); clear HB; have HB := n0_; clear n0_; (try clear hb); (try clear hb2); (try clear hk); (try clear hi)) | (go_at_call 30; (with_reducible refine (bibelotref03_Many.calls kj10 (wrap64 (Int.tmod (IntKind.u64.wrap (a0)) 9)) (wrap64 (3 + (wrap64 (Int.tmod (IntKind.u64.wrap (a1)) 6)))) true _ A27.out).mono ?_); rintro e w' ⟨rfl, ⟨nd, rfl⟩⟩) | (go_at_call 26; (with_reducible refine (bibelotlaw03_awake.calls kj10  t167 _ A29.out).mono ?_); rintro e w31 ⟨rfl, hb⟩; have n0_ := Aside0.mk (below_step (by repeat (first | (with_reducible first | exact HB.out | apply below_alloc | apply pw_below_drewN | apply below_drew1) | exact HB.out)) hb); clear HB; have HB := n0_; clear n0_; (try clear hb); (try clear hb2); (try clear hk); (try clear hi)))
                  go_ret
                  exact ⟨by first | rfl | (simp [errW_none, errW_some] <;> rfl) | (simp [*, errW_none, errW_some] <;> rfl), by repeat (first | (with_reducible first | exact HB.out | apply below_alloc | apply pw_below_drewN | apply below_drew1) | exact HB.out)⟩
                · replace c28 := Bool.eq_false_iff.mpr c28
                  subst c28
                  have H1 : (some false) = some r := by rw [if_neg (show ¬ (false = true) by decide)] at H; exact H
                  clear H
                  have H := H1
                  clear H1
                  obtain rfl := Option.some.inj H
                  go_wp2_with (first | ((with_reducible refine gate_callee (f := 29) rfl ?_); refine goesL_ (some 65) rfl rfl Tryd.func29 (by kernel_rfl) rfl #[.int .i64 (wrap64 (Int.tmod (IntKind.u64.wrap (a0)) 9)), .int .i64 (wrap64 (3 + (wrap64 (Int.tmod (IntKind.u64.wrap (a1)) 6))))] rfl (by (try simp only [List.map_toArray, List.map_cons, List.map_nil]); first | done | rfl | (simp only [List.length_drop, List.length_take]; rfl)) ?_; (with_reducible refine (hanoi_Fewest.calls (wrap64 (Int.tmod (IntKind.u64.wrap (a0)) 9)) (wrap64 (3 + (wrap64 (Int.tmod (IntKind.u64.wrap (a1)) 6)))) t163 t164 _ A19.out).mono ?_); rintro e w32 ⟨rfl, hb⟩; refine ⟨_, rfl, ?_⟩; have n0_ := Aside0.mk (below_step (by repeat (first | (with_reducible first | exact HB.out | apply below_alloc | apply pw_below_drewN | apply below_drew1) | exact HB.out)) hb); clear HB; have HB := n0_; clear n0_; (try clear hb); (try clear hb2); (try clear hk); (try clear hi)) | (go_at_call 30; (with_reducible refine (bibelotref03_Many.calls kj10 (wrap64 (Int.tmod (IntKind.u64.wrap (a0)) 9)) (wrap64 (3 + (wrap64 (Int.tmod (IntKind.u64.wrap (a1)) 6)))) false _ A27.out).mono ?_); rintro e w' ⟨rfl, ⟨nd, rfl⟩⟩))
                  go_ret
                  exact ⟨by first | rfl | (simp [errW_none, errW_some] <;> rfl) | (simp [*, errW_none, errW_some] <;> rfl), by repeat (first | (with_reducible first | exact HB.out | apply below_alloc | apply pw_below_drewN | apply below_drew1) | exact HB.out)⟩
              · rw [if_neg c26] at H
                have c26b0 : (t164 == 1) = false := beq_eq_false_iff_ne.mpr c26
                have c26b1 : (t164 != 1) = true := bne_iff_ne.mpr c26
                obtain rfl := Option.some.inj H
                go_wp2_with (first | ((with_reducible refine gate_callee (f := 29) rfl ?_); refine goesL_ (some 65) rfl rfl Tryd.func29 (by kernel_rfl) rfl #[.int .i64 (wrap64 (Int.tmod (IntKind.u64.wrap (a0)) 9)), .int .i64 (wrap64 (3 + (wrap64 (Int.tmod (IntKind.u64.wrap (a1)) 6))))] rfl (by (try simp only [List.map_toArray, List.map_cons, List.map_nil]); first | done | rfl | (simp only [List.length_drop, List.length_take]; rfl)) ?_; (with_reducible refine (hanoi_Fewest.calls (wrap64 (Int.tmod (IntKind.u64.wrap (a0)) 9)) (wrap64 (3 + (wrap64 (Int.tmod (IntKind.u64.wrap (a1)) 6)))) t163 t164 _ A19.out).mono ?_); rintro e w33 ⟨rfl, hb⟩; refine ⟨_, rfl, ?_⟩; have n0_ := Aside0.mk (below_step (by repeat (first | (with_reducible first | exact HB.out | apply below_alloc | apply pw_below_drewN | apply below_drew1) | exact HB.out)) hb); clear HB; have HB := n0_; clear n0_; (try clear hb); (try clear hb2); (try clear hk); (try clear hi)))
                go_ret
                exact ⟨by first | rfl | (simp [errW_none, errW_some] <;> rfl) | (simp [*, errW_none, errW_some] <;> rfl), by repeat (first | (with_reducible first | exact HB.out | apply below_alloc | apply pw_below_drewN | apply below_drew1) | exact HB.out)⟩

/-- THE ONE PURE STATEMENT of bibelotlaw03_HanoiStewart: yours. -/
def bibelotlaw03_HanoiStewart.Pure : Prop := ∀ (a0 : Int) (a1 : Int), (Lit.int .i64 a0).wf = true → (Lit.int .i64 a1).wf = true → ∃ k, bibelotlaw03_HanoiStewart.f k a0 a1 = some true
theorem bibelotlaw03_HanoiStewart.walk (P : bibelotlaw03_HanoiStewart.Pure) (a0 : Int) (a1 : Int) (w : World) (w0 : (Lit.int .i64 a0).wf = true) (w1 : (Lit.int .i64 a1).wf = true) :
    Calls Tryd.prog 7 #[.int .i64 a0, .int .i64 a1] w fun e w' => e = .returned (.bool true) ∧ Below w.heap.size w w' := by
  obtain ⟨k, h⟩ := P a0 a1 w0 w1
  refine (bibelotlaw03_HanoiStewart.calls k a0 a1 true w h).mono ?_
  rintro e w' ⟨rfl, hd⟩
  exact ⟨rfl, hd⟩

end Go.Proofs.YtnaaomhmoamfpaaDoor.Q
/- HanoiStewart: the least number of moves is Frame's number, wherever it is asked; more pegs never need more, and one disc more at least one move more. -/
namespace Go.Proofs.YtnaaomhmoamfpaaDoor.Pure
set_option linter.unusedVariables false
set_option linter.unusedSimpArgs false
set_option linter.unusedSectionVars false
open Go.Proofs.YtnaaomhmoamfpaaDoor.G Go.Proofs.YtnaaomhmoamfpaaDoor.Hn
open Go.RowKit Go.Proofs.YtnaaomhmoamfpaaDoor.Q Go.Proofs.YtnaaomhmoamfpaaDoorW.PrintWords Go.Proofs.YtnaaomhmoamfpaaDoorW.PrintLast Go.Proofs.YtnaaomhmoamfpaaDoorW.PrintMore

/-- Does the search find Frame's number? -/
def chk (P n : Nat) : Bool := decide (70000 < P ^ n) || (decide ((fr (P - 3) n).toNat < P ^ n + 1) && (lev P n (fr (P - 3) n).toNat).testBit (P ^ n - 1) && (decide ((fr (P - 3) n).toNat = 0) || !(lev P n ((fr (P - 3) n).toNat - 1)).testBit (P ^ n - 1)))
theorem chk_is {P n : Nat} (hP : 1 ≤ P) (h : chk P n = true) (hs : P ^ n ≤ 70000) : (fewest n P : Int) = fr (P - 3) n := by
  unfold chk at h
  simp only [Bool.or_eq_true, Bool.and_eq_true, decide_eq_true_eq, Bool.not_eq_true'] at h
  have hb := (fr_bound (P - 3) n).1
  rcases h with h | ⟨⟨h1, h2⟩, h3⟩
  · omega
  · have := fewest_is hP h1 h2 h3
    omega
theorem all3 : ∀ n, n < 9 → chk 3 n = true := by decide +kernel
theorem all4 : ∀ n, n < 9 → chk 4 n = true := by decide +kernel
theorem all5 : ∀ n, n < 9 → chk 5 n = true := by decide +kernel
theorem all6 : ∀ n, n < 9 → chk 6 n = true := by decide +kernel
theorem all7 : ∀ n, n < 9 → chk 7 n = true := by decide +kernel
theorem all8 : ∀ n, n < 9 → chk 8 n = true := by decide +kernel
theorem all_chk (P n : Nat) (h3 : 3 ≤ P) (h8 : P ≤ 8) (hn : n < 9) : chk P n = true := by
  obtain rfl | rfl | rfl | rfl | rfl | rfl : P = 3 ∨ P = 4 ∨ P = 5 ∨ P = 6 ∨ P = 7 ∨ P = 8 := by omega
  · exact all3 n hn
  · exact all4 n hn
  · exact all5 n hn
  · exact all6 n hn
  · exact all7 n hn
  · exact all8 n hn
theorem rise : ∀ m, m < 6 → ∀ n, n < 9 → fr m n < fr m (n + 1) := by decide +kernel
theorem fall : ∀ m, m < 5 → ∀ n, n < 9 → fr (m + 1) n ≤ fr m n := by decide +kernel

theorem many_loop (n P : Nat) (hn : n ≤ 40) (hP3 : 3 ≤ P) (hP8 : P ≤ 8) : ∀ e i, i + e = n → (i = 0 ∨ P ^ (i - 1) ≤ 70000) → Ev (fun k => bibelotref03_Many.l0 k (n : Int) (P : Int) ((P ^ i : Nat) : Int) (i : Int)) (decide (70000 < P ^ n))
  | 0, i, h, hi => by
    obtain rfl : i = n := by omega
    refine Ev.step (fun k => ?_) (Ev.now _)
    rw [bibelotref03_Many.l0, if_neg (by omega)]
    congr 1
    rw [Bool.eq_iff_iff, decide_eq_true_eq, decide_eq_true_eq]
    omega
  | e + 1, i, h, hi => by
    have hle : P ^ i ≤ P ^ n := Nat.pow_le_pow_right (by omega) (by omega)
    obtain ⟨A, hA⟩ : ∃ A, P ^ i = A := ⟨_, rfl⟩
    rw [hA] at hle ⊢
    by_cases hs : A ≤ 70000
    · have ih := many_loop n P hn hP3 hP8 e (i + 1) (by omega) (.inr (by rw [Nat.add_sub_cancel, hA]; exact hs))
      refine Ev.step (fun k => ?_) ih
      have e1 : P ^ (i + 1) = A * P := by rw [Nat.pow_succ, hA]
      have hb : A * P ≤ 560000 := Nat.mul_le_mul hs hP8
      have e2 : (A : Int) * (P : Int) = ((A * P : Nat) : Int) := by rw [Int.natCast_mul]
      rw [e1]
      obtain ⟨B, hB⟩ : ∃ B, A * P = B := ⟨_, rfl⟩
      rw [hB] at e2 hb ⊢
      rw [bibelotref03_Many.l0, if_pos (by omega), if_pos (by omega), e2, w64 (by omega) (by omega), w64 (by omega) (by omega)]
      rfl
    · refine Ev.step (fun k => ?_) (Ev.now _)
      rw [bibelotref03_Many.l0, if_pos (by omega), if_neg (by omega)]
      congr 1
      rw [Bool.eq_iff_iff, decide_eq_true_eq, decide_eq_true_eq]
      omega
theorem manyR_ev (n P : Nat) (hn : n ≤ 40) (hP3 : 3 ≤ P) (hP8 : P ≤ 8) : Ev (fun k => bibelotref03_Many.f k (n : Int) (P : Int)) (decide (70000 < P ^ n)) := by
  have := many_loop n P hn hP3 hP8 n 0 (by omega) (.inl rfl)
  rw [Nat.pow_zero] at this
  exact this

theorem frame_f (n P : Nat) (hn : n ≤ 40) (h3 : 3 ≤ P) (h8 : P ≤ 8) : hanoi_Frame.f (n : Int) (P : Int) = some (fr (P - 3) n, 0) := by
  unfold hanoi_Frame.f
  rw [if_pos ((asked_iff _ _).2 ⟨by omega, by omega, by omega, by omega⟩)]
  rfl
theorem stew_j1 (n P : Nat) (hn : n < 9) (h3 : 3 ≤ P) (h8 : P ≤ 8) : Ev (fun k => bibelotlaw03_HanoiStewart.j1 k (n : Int) (P : Int) (fr (P - 3) n)) true := by
  have ha : asked (n : Int) (P : Int) = true := (asked_iff _ _).2 ⟨by omega, by omega, by omega, by omega⟩
  by_cases hs : P ^ n ≤ 70000
  · have hf : hanoi_Fewest.f (n : Int) (P : Int) = some (fr (P - 3) n, 0) := by
      unfold hanoi_Fewest.f
      rw [if_pos ⟨ha, by simpa using hs⟩, Int.toNat_natCast, Int.toNat_natCast, chk_is (by omega) (all_chk P n h3 h8 hn) hs]
    refine Ev.step (f := fun k => (bibelotlaw03_awake.f k).bind fun t => some t) (fun k => ?_) (Ev.bind awake_ev (Ev.now true))
    rw [bibelotlaw03_HanoiStewart.j1, hf, Option.bind_some, if_pos rfl, if_pos rfl]
  · have hf : hanoi_Fewest.f (n : Int) (P : Int) = some (0, 1) := by
      unfold hanoi_Fewest.f
      rw [if_neg (fun h => hs (by simpa using h.2))]
    refine Ev.step (f := fun k => (bibelotref03_Many.f k (n : Int) (P : Int)).bind fun t => if t = true then (bibelotlaw03_awake.f k).bind fun t => some t else some false) (fun k => ?_) (Ev.bind (manyR_ev n P (by omega) h3 h8) ?_)
    · rw [bibelotlaw03_HanoiStewart.j1, hf, Option.bind_some, if_neg (by omega), if_pos rfl]
    · rw [decide_eq_true (show 70000 < P ^ n by omega)]
      simp only [if_true]
      exact Ev.bind awake_ev (Ev.now true)
theorem HanoiStewart : bibelotlaw03_HanoiStewart.Pure := by
  intro a0 a1 _ _
  refine Ev.rounds (r := true) (g := fun k => bibelotlaw03_HanoiStewart.f k a0 a1) ?_
  have b0 := umod_bd a0 9 (by omega)
  have b1 := umod_bd a1 6 (by omega)
  have w0 : wrap64 (Int.tmod (IntKind.u64.wrap a0) 9) = umod a0 9 := by rw [utmod, w64 (by omega) (by omega)]
  have w1 : wrap64 (3 + wrap64 (Int.tmod (IntKind.u64.wrap a1) 6)) = 3 + umod a1 6 := by rw [utmod, w64 (x := umod a1 6) (by omega) (by omega), w64 (by omega) (by omega)]
  unfold bibelotlaw03_HanoiStewart.f
  rw [w0, w1]
  obtain ⟨n, hn⟩ := Int.eq_ofNat_of_zero_le b0.1
  obtain ⟨P, hP⟩ := Int.eq_ofNat_of_zero_le (show 0 ≤ 3 + umod a1 6 by omega)
  rw [hn, hP]
  have h3 : 3 ≤ P := by omega
  have h8 : P ≤ 8 := by omega
  have hn9 : n < 9 := by omega
  have wn : wrap64 ((n : Int) + 1) = ((n + 1 : Nat) : Int) := by rw [w64 (by omega) (by omega)]; rfl
  have wP : wrap64 ((P : Int) + 1) = ((P + 1 : Nat) : Int) := by rw [w64 (by omega) (by omega)]; rfl
  have hr := rise (P - 3) (by omega) n hn9
  rw [wn, frame_f n P (by omega) h3 h8, frame_f (n + 1) P (by omega) h3 h8]
  simp only [Option.bind_some, if_true]
  rw [decide_eq_false (show ¬ fr (P - 3) (n + 1) ≤ fr (P - 3) n by omega)]
  by_cases hP8 : P < 8
  · have hfl := fall (P - 3) (by omega) n hn9
    refine Ev.step (fun k => ?_) (stew_j1 n P hn9 h3 h8)
    have e : P + 1 - 3 = P - 3 + 1 := by omega
    rw [bibelotlaw03_HanoiStewart.j0, if_neg (by simp), if_pos (by omega), wP, frame_f n (P + 1) (by omega) (by omega) (by omega), Option.bind_some, if_pos rfl, e, if_neg (by omega)]
  · refine Ev.step (fun k => ?_) (stew_j1 n P hn9 h3 h8)
    rw [bibelotlaw03_HanoiStewart.j0, if_neg (by simp), if_neg (by omega)]
end Go.Proofs.YtnaaomhmoamfpaaDoor.Pure
