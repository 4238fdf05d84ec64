/- HanoiFewest: the least number of moves with more pegs, or ErrArg: the walk and the plain law, for every input. -/
import Derived.Test.YtnaaomhmoamfpaaDoorA1
import Derived.Test.YtnaaomhmoamfpaaDoorA4
namespace Go.Proofs.YtnaaomhmoamfpaaDoor.G
end Go.Proofs.YtnaaomhmoamfpaaDoor.G
namespace Go.Proofs.YtnaaomhmoamfpaaDoor.Q
set_option linter.unusedVariables false
set_option linter.unusedSimpArgs false
set_option linter.unusedSectionVars false
open Go.Proofs.YtnaaomhmoamfpaaDoor.G
open Go.RowKit Go.Proofs.YtnaaomhmoamfpaaDoorW.PrintWords Go.Proofs.YtnaaomhmoamfpaaDoorW.PrintLast Go.Proofs.YtnaaomhmoamfpaaDoorW.PrintMore
attribute [local go_sem] max2_int min2_int max_two min_two max_three min_three max_four min_four   -- for this text's walks alone

/-! ### bibelotref03_Many: function 30 -/
def bibelotref03_Many.l0 : Nat → Int → Int → Int → Int → Option (Bool)
  | 0, _, _, _, _ => none
  | k + 1, x0, x1, x5, x6 => if x6 < x0 then (if x5 ≤ 70000 then (bibelotref03_Many.l0 k x0 x1 (wrap64 (x5 * x1)) (wrap64 (x6 + 1))) else (some (decide (x5 > 70000)))) else (some (decide (x5 > 70000)))
def bibelotref03_Many.f (k : Nat) (a0 : Int) (a1 : Int) : Option (Bool) := bibelotref03_Many.l0 k a0 a1 1 0
theorem bibelotref03_Many.mono_l : ∀ k, (∀ y0 y1 y2 y3, LeO (bibelotref03_Many.l0 k y0 y1 y2 y3) (bibelotref03_Many.l0 (k + 1) y0 y1 y2 y3))
  | 0 => fun _ _ _ _ r h => by simp [bibelotref03_Many.l0] at h
  | k + 1 => by
    have ih0 := bibelotref03_Many.mono_l k
    · intro y0 y1 y2 y3
      unfold bibelotref03_Many.l0
      repeat' first
      | (with_reducible exact ih0 _ _ _ _)
      | (with_reducible exact LeO.refl _)
      | (with_reducible exact LeO.none _)
      | (with_reducible refine LeO.ite ?_ ?_)
      | (with_reducible refine LeO.bind ?_ (fun _ => ?_))
      | exact ih0 _ _ _ _
      | exact LeO.none _
      | refine LeO.ite ?_ ?_
      | refine LeO.bind ?_ (fun _ => ?_)
theorem bibelotref03_Many.mono : ∀ a0 a1 k, LeO (bibelotref03_Many.f k a0 a1) (bibelotref03_Many.f (k + 1) a0 a1) := by
  intro a0 a1 k
  have ih0 := bibelotref03_Many.mono_l k
  unfold bibelotref03_Many.f
  repeat' first
      | (with_reducible exact ih0 _ _ _ _)
      | (with_reducible exact LeO.refl _)
      | (with_reducible exact LeO.none _)
      | (with_reducible refine LeO.ite ?_ ?_)
      | (with_reducible refine LeO.bind ?_ (fun _ => ?_))
      | exact ih0 _ _ _ _
      | exact LeO.none _
      | refine LeO.ite ?_ ?_
      | refine LeO.bind ?_ (fun _ => ?_)
set_option maxHeartbeats 8000000 in
set_option maxRecDepth 100000 in
theorem bibelotref03_Many.calls (k : Nat) (a0 : Int) (a1 : Int) (r : Bool) (w : World) (h : bibelotref03_Many.f k a0 a1 = some r) :
    Calls Tryd.prog 30 #[.int .i64 a0, .int .i64 a1] w fun e w' => e = .returned (.bool r) ∧ Drawn0 w w' := by
  have H : (bibelotref03_Many.l0 k a0 a1 1 0) = some r := h
  clear h
  have H' := Aside0.mk H
  clear H
  go_enter Tryd.func30, Tryd.ntmps30
  go_wp2
  go_loopg [5, 6] k (fun kq v5 v6 w' => ∃ (x5_1 : Int) (x6_1 : Int), v5 = .int .i64 x5_1 ∧ v6 = .int .i64 x6_1 ∧ Aside0 (bibelotref03_Many.l0 kq a0 a1 x5_1 x6_1 = some r) ∧ Aside0 (kq ≤ k) ∧ Drawn0 w w')
  case atStart => exact ⟨(1), (0), (by first | rfl | (simp; done) | (simp [*]; done)), (by first | rfl | (simp; done) | (simp [*]; done)), H', ⟨Nat.le_refl _⟩, by repeat (first | exact Drawn0.refl _ | apply Drawn0.step)⟩
  case round =>
    clear H'
    try clear p2
    obtain ⟨x5_1, x6_1, rfl, rfl, HA, HK1, ⟨m1, rfl⟩⟩ := hrel
    cases gk with
    | zero => exact absurd HA.out (by simp [bibelotref03_Many.l0])
    | succ k1 =>
      have H := HA.out
      clear HA
      simp only [bibelotref03_Many.l0] at H
      by_cases c3 : x6_1 < a0
      · rw [if_pos c3] at H
        have c3b0 : decide (x6_1 < a0) = true := decide_eq_true c3
        clear c3
        by_cases c4 : x5_1 ≤ 70000
        · rw [if_pos c4] at H
          have c4b0 : decide (x5_1 ≤ 70000) = true := decide_eq_true c4
          clear c4
          have H' := Aside0.mk H
          clear H
          go_wp2
          go_roundg k1
          case measure => have := HK1.out; omega
          case rel => exact ⟨(wrap64 (x5_1 * a1)), (wrap64 (x6_1 + 1)), (by first | rfl | (simp; done) | (simp [*]; done)), (by first | rfl | (simp; done) | (simp [*]; done)), H', ⟨by have := HK1.out; omega⟩, by repeat (first | exact Drawn0.refl _ | apply Drawn0.step)⟩
        · rw [if_neg c4] at H
          have c4b0 : decide (x5_1 ≤ 70000) = false := decide_eq_false c4
          clear c4
          obtain rfl := Option.some.inj H
          go_wp2
          go_ret
          exact ⟨by first | rfl | (simp; done) | (simp [*]; done), by repeat (first | exact Drawn0.refl _ | apply Drawn0.step)⟩
      · rw [if_neg c3] at H
        have c3b0 : decide (x6_1 < a0) = false := decide_eq_false c3
        clear c3
        obtain rfl := Option.some.inj H
        go_wp2
        go_ret
        exact ⟨by first | rfl | (simp; done) | (simp [*]; done), by repeat (first | exact Drawn0.refl _ | apply Drawn0.step)⟩

end Go.Proofs.YtnaaomhmoamfpaaDoor.Q
namespace Go.Proofs.YtnaaomhmoamfpaaDoor.G
end Go.Proofs.YtnaaomhmoamfpaaDoor.G
namespace Go.Proofs.YtnaaomhmoamfpaaDoor.Q
set_option linter.unusedVariables false
set_option linter.unusedSimpArgs false
set_option linter.unusedSectionVars false
open Go.Proofs.YtnaaomhmoamfpaaDoor.G
open Go.RowKit Go.Proofs.YtnaaomhmoamfpaaDoorW.PrintWords Go.Proofs.YtnaaomhmoamfpaaDoorW.PrintLast Go.Proofs.YtnaaomhmoamfpaaDoorW.PrintMore
attribute [local go_sem] max2_int min2_int max_two min_two max_three min_three max_four min_four   -- for this text's walks alone

/-! ### bibelotref03_Can: function 72 -/
mutual
def bibelotref03_Can.j0 : Nat → List Int → Int → Int → Bool → Option (Bool)
  | 0, _, _, _, _ => none
  | k + 1, x0, x1, x2, x34 => if x34 = true then (some false) else (bibelotref03_Can.l0 k x0 x1 x2 0)
def bibelotref03_Can.l0 : Nat → List Int → Int → Int → Int → Option (Bool)
  | 0, _, _, _, _ => none
  | k + 1, x0, x1, x2, x9 => if x9 < x1 then (if 0 ≤ x9 then (if x9 < (x0.length : Int) then (if 0 ≤ x1 then (if x1 < (x0.length : Int) then (if (rd x0 x9) = (rd x0 x1) then (some false) else (if (rd x0 x9) = x2 then (some false) else (bibelotref03_Can.l0 k x0 x1 x2 (wrap64 (x9 + 1))))) else (none)) else (none)) else (none)) else (none)) else (some true)
end
def bibelotref03_Can.f (k : Nat) (l0 : List Int) (a1 : Int) (a2 : Int) (a3 : Int) : Option (Bool) := if a1 < 0 then (bibelotref03_Can.j0 k l0 a1 a2 true) else (if a1 ≥ (l0.length : Int) then (bibelotref03_Can.j0 k l0 a1 a2 true) else (if a2 < 0 then (bibelotref03_Can.j0 k l0 a1 a2 true) else (if a2 ≥ a3 then (bibelotref03_Can.j0 k l0 a1 a2 true) else (if 0 ≤ a1 then (if a1 < (l0.length : Int) then (bibelotref03_Can.j0 k l0 a1 a2 ((rd l0 a1) == a2)) else (none)) else (none)))))
theorem bibelotref03_Can.mono_l : ∀ k, (∀ y0 y1 y2 y3, LeO (bibelotref03_Can.j0 k y0 y1 y2 y3) (bibelotref03_Can.j0 (k + 1) y0 y1 y2 y3)) ∧ (∀ y0 y1 y2 y3, LeO (bibelotref03_Can.l0 k y0 y1 y2 y3) (bibelotref03_Can.l0 (k + 1) y0 y1 y2 y3))
  | 0 => ⟨fun _ _ _ _ r h => by simp [bibelotref03_Can.j0] at h, fun _ _ _ _ r h => by simp [bibelotref03_Can.l0] at h⟩
  | k + 1 => by
    obtain ⟨ih0, ih1⟩ := bibelotref03_Can.mono_l k
    refine ⟨?_, ?_⟩
    · intro y0 y1 y2 y3
      unfold bibelotref03_Can.j0
      repeat' first
      | (with_reducible exact ih0 _ _ _ _)
      | (with_reducible exact ih1 _ _ _ _)
      | (with_reducible exact LeO.refl _)
      | (with_reducible exact LeO.none _)
      | (with_reducible refine LeO.ite ?_ ?_)
      | (with_reducible refine LeO.bind ?_ (fun _ => ?_))
      | exact ih0 _ _ _ _
      | exact ih1 _ _ _ _
      | exact LeO.none _
      | refine LeO.ite ?_ ?_
      | refine LeO.bind ?_ (fun _ => ?_)
    · intro y0 y1 y2 y3
      unfold bibelotref03_Can.l0
      repeat' first
      | (with_reducible exact ih0 _ _ _ _)
      | (with_reducible exact ih1 _ _ _ _)
      | (with_reducible exact LeO.refl _)
      | (with_reducible exact LeO.none _)
      | (with_reducible refine LeO.ite ?_ ?_)
      | (with_reducible refine LeO.bind ?_ (fun _ => ?_))
      | exact ih0 _ _ _ _
      | exact ih1 _ _ _ _
      | exact LeO.none _
      | refine LeO.ite ?_ ?_
      | refine LeO.bind ?_ (fun _ => ?_)
theorem bibelotref03_Can.mono : ∀ a0 a1 a2 a3 k, LeO (bibelotref03_Can.f k a0 a1 a2 a3) (bibelotref03_Can.f (k + 1) a0 a1 a2 a3) := by
  intro a0 a1 a2 a3 k
  obtain ⟨ih0, ih1⟩ := bibelotref03_Can.mono_l k
  unfold bibelotref03_Can.f
  repeat' first
      | (with_reducible exact ih0 _ _ _ _)
      | (with_reducible exact ih1 _ _ _ _)
      | (with_reducible exact LeO.refl _)
      | (with_reducible exact LeO.none _)
      | (with_reducible refine LeO.ite ?_ ?_)
      | (with_reducible refine LeO.bind ?_ (fun _ => ?_))
      | exact ih0 _ _ _ _
      | exact ih1 _ _ _ _
      | exact LeO.none _
      | refine LeO.ite ?_ ?_
      | refine LeO.bind ?_ (fun _ => ?_)
set_option maxHeartbeats 8000000 in
set_option maxRecDepth 100000 in
theorem bibelotref03_Can.calls (k : Nat) (A0 : Option Addr) (c0 : Nat) (l0 : List Int) (a1 : Int) (a2 : Int) (a3 : Int) (r : Bool) (w : World) (hr0 : Kd.C (Kd.int .i64) w A0 l0.length l0) (hc0 : l0.length ≤ c0) (h : bibelotref03_Can.f k l0 a1 a2 a3 = some r) :
    Calls Tryd.prog 72 #[.slice A0 l0.length c0, .int .i64 a1, .int .i64 a2, .int .i64 a3] w fun e w' => e = .returned (.bool r) ∧ Drawn0 w w' := by
  have HR0 := Aside0.mk hr0
  have HC0 := Aside0.mk hc0
  clear hr0 hc0
  have H : (if a1 < 0 then (bibelotref03_Can.j0 k l0 a1 a2 true) else (if a1 ≥ (l0.length : Int) then (bibelotref03_Can.j0 k l0 a1 a2 true) else (if a2 < 0 then (bibelotref03_Can.j0 k l0 a1 a2 true) else (if a2 ≥ a3 then (bibelotref03_Can.j0 k l0 a1 a2 true) else (if 0 ≤ a1 then (if a1 < (l0.length : Int) then (bibelotref03_Can.j0 k l0 a1 a2 ((rd l0 a1) == a2)) else (none)) else (none)))))) = some r := h
  clear h
  have HC5 := Aside0.mk H
  clear H
  go_enter Tryd.func72, Tryd.ntmps72
  go_upto_region 1 with (fail)
  repeat (go_quiet (fail); go_upto_region 1 with (fail))
  go_cut [34] (fun v34 wc => ∃ (kq : Nat) (x34_4 : Bool), v34 = .bool x34_4 ∧ Aside0 (bibelotref03_Can.j0 kq l0 a1 a2 x34_4 = some r) ∧ Aside0 (kq ≤ k) ∧ Drawn0 w wc)
  case first =>
    have H := HC5.out
    clear HC5
    by_cases c6 : a1 < 0
    · rw [if_pos c6] at H
      have c6b0 : decide (a1 < 0) = true := decide_eq_true c6
      clear c6
      (first | rw [c6b0] | (simp only [i64_w, i32_w]; rw [c6b0]) | skip)
      have H' := Aside0.mk H
      clear H
      go_wp2
      repeat (go_quiet (fail); try go_wp2)
      go_meet
      case rel => exact ⟨_, (true), (by first | rfl | (simp; done) | (simp [*]; done)), H', ⟨by first | omega | exact Nat.le_refl _⟩, by repeat (first | exact Drawn0.refl _ | apply Drawn0.step)⟩
    · rw [if_neg c6] at H
      have c6b0 : decide (a1 < 0) = false := decide_eq_false c6
      clear c6
      (first | rw [c6b0] | (simp only [i64_w, i32_w]; rw [c6b0]) | skip)
      by_cases c7 : a1 ≥ (l0.length : Int)
      · rw [if_pos c7] at H
        have c7b0 : decide ((l0.length : Int) ≤ a1) = true := decide_eq_true c7
        clear c7
        have H' := Aside0.mk H
        clear H
        go_wp2
        repeat (go_quiet (fail); try go_wp2)
        go_meet
        case rel => exact ⟨_, (true), (by first | rfl | (simp; done) | (simp [*]; done)), H', ⟨by first | omega | exact Nat.le_refl _⟩, by repeat (first | exact Drawn0.refl _ | apply Drawn0.step)⟩
      · rw [if_neg c7] at H
        have c7b0 : decide ((l0.length : Int) ≤ a1) = false := decide_eq_false c7
        clear c7
        by_cases c8 : a2 < 0
        · rw [if_pos c8] at H
          have c8b0 : decide (a2 < 0) = true := decide_eq_true c8
          clear c8
          have H' := Aside0.mk H
          clear H
          go_wp2
          repeat (go_quiet (fail); try go_wp2)
          go_meet
          case rel => exact ⟨_, (true), (by first | rfl | (simp; done) | (simp [*]; done)), H', ⟨by first | omega | exact Nat.le_refl _⟩, by repeat (first | exact Drawn0.refl _ | apply Drawn0.step)⟩
        · rw [if_neg c8] at H
          have c8b0 : decide (a2 < 0) = false := decide_eq_false c8
          clear c8
          by_cases c9 : a2 ≥ a3
          · rw [if_pos c9] at H
            have c9b0 : decide (a3 ≤ a2) = true := decide_eq_true c9
            clear c9
            have H' := Aside0.mk H
            clear H
            go_wp2
            repeat (go_quiet (fail); try go_wp2)
            go_meet
            case rel => exact ⟨_, (true), (by first | rfl | (simp; done) | (simp [*]; done)), H', ⟨by first | omega | exact Nat.le_refl _⟩, by repeat (first | exact Drawn0.refl _ | apply Drawn0.step)⟩
          · rw [if_neg c9] at H
            have c9b0 : decide (a3 ≤ a2) = false := decide_eq_false c9
            clear c9
            by_cases c10 : 0 ≤ a1
            · rw [if_pos c10] at H
              have c10b0 : decide (0 ≤ a1) = true := decide_eq_true c10
              clear c10
              by_cases c11 : a1 < (l0.length : Int)
              · rw [if_pos c11] at H
                have c11b0 : decide (a1 < (l0.length : Int)) = true := decide_eq_true c11
                clear c11
                have H' := Aside0.mk H
                clear H
                have p205 : 0 ≤ (a1 : Int) := of_decide_eq_true (by first | (with_reducible assumption) | assumption)
                have q205 : a1 < (l0.length : Int) := of_decide_eq_true (by first | (with_reducible assumption) | assumption)
                obtain ⟨ad205, e205, hx205_0⟩ := Kd.at_int HR0.out a1 p205 q205
                cases e205
                replace p205 := eq_true p205
                replace q205 := eq_true q205
                go_wp2
                repeat (go_quiet (fail); try go_wp2)
                go_meet
                case rel => exact ⟨_, (((rd l0 a1) == a2)), (by first | rfl | (simp; done) | (simp [*]; done)), H', ⟨by first | omega | exact Nat.le_refl _⟩, by repeat (first | exact Drawn0.refl _ | apply Drawn0.step)⟩
              · rw [if_neg c11] at H
                exact absurd H (by simp)
            · rw [if_neg c10] at H
              exact absurd H (by simp)
  case rest =>
    clear HC5
    try clear c1
    try clear p2
    try clear q2
    try clear hx2
    try clear c6
    try clear c6b0
    try clear c7
    try clear c7b0
    try clear c8
    try clear c8b0
    try clear c9
    try clear c9b0
    try clear c10
    try clear c10b0
    try clear c11
    try clear c11b0
    try clear hx205_0
    try clear p205
    try clear q205
    obtain ⟨kq, x34_4, rfl, HA, HJ4, ⟨mc4, rfl⟩⟩ := hcut
    cases kq with
    | zero => exact absurd HA.out (by simp [bibelotref03_Can.j0])
    | succ kj4 =>
      have H := HA.out
      clear HA
      simp only [bibelotref03_Can.j0] at H
      by_cases c12 : x34_4 = true
      · subst c12
        have H1 : (some false) = some r := by rw [if_pos rfl] at H; exact H
        clear H
        have H := H1
        clear H1
        obtain rfl := Option.some.inj H
        go_wp2
        repeat (go_quiet (fail); try go_wp2)
        go_ret
        exact ⟨by first | rfl | (simp; done) | (simp [*]; done), by repeat (first | exact Drawn0.refl _ | apply Drawn0.step)⟩
      · replace c12 := Bool.eq_false_iff.mpr c12
        subst c12
        have H1 : (bibelotref03_Can.l0 kj4 l0 a1 a2 0) = some r := by rw [if_neg (show ¬ (false = true) by decide)] at H; exact H
        clear H
        have H := H1
        clear H1
        have H' := Aside0.mk H
        clear H
        go_wp2
        repeat (go_quiet (fail); try go_wp2)
        go_loopg [9] kj4 (fun kq v9 w' => ∃ (x9_2 : Int), v9 = .int .i64 x9_2 ∧ Aside0 (bibelotref03_Can.l0 kq l0 a1 a2 x9_2 = some r) ∧ Aside0 (kq ≤ kj4) ∧ Drawn0 w w')
        case atStart => exact ⟨(0), (by first | rfl | (simp; done) | (simp [*]; done)), H', ⟨Nat.le_refl _⟩, by repeat (first | exact Drawn0.refl _ | apply Drawn0.step)⟩
        case round =>
          clear H'
          try clear c1
          try clear p2
          try clear q2
          try clear hx2
          try clear c4
          try clear c6
          try clear c6b0
          try clear c7
          try clear c7b0
          try clear c8
          try clear c8b0
          try clear c9
          try clear c9b0
          try clear c10
          try clear c10b0
          try clear c11
          try clear c11b0
          try clear c12
          try clear hx205_0
          try clear p2
          try clear p205
          try clear q2
          try clear q205
          obtain ⟨x9_2, rfl, HA, HK2, ⟨m2, rfl⟩⟩ := hrel
          cases gk with
          | zero => exact absurd HA.out (by simp [bibelotref03_Can.l0])
          | succ k2 =>
            have H := HA.out
            clear HA
            simp only [bibelotref03_Can.l0] at H
            by_cases c13 : x9_2 < a1
            · rw [if_pos c13] at H
              have c13b0 : decide (x9_2 < a1) = true := decide_eq_true c13
              clear c13
              by_cases c14 : 0 ≤ x9_2
              · rw [if_pos c14] at H
                have c14b0 : decide (0 ≤ x9_2) = true := decide_eq_true c14
                clear c14
                by_cases c15 : x9_2 < (l0.length : Int)
                · rw [if_pos c15] at H
                  have c15b0 : decide (x9_2 < (l0.length : Int)) = true := decide_eq_true c15
                  clear c15
                  by_cases c16 : 0 ≤ a1
                  · rw [if_pos c16] at H
                    have c16b0 : decide (0 ≤ a1) = true := decide_eq_true c16
                    clear c16
                    by_cases c17 : a1 < (l0.length : Int)
                    · rw [if_pos c17] at H
                      have c17b0 : decide (a1 < (l0.length : Int)) = true := decide_eq_true c17
                      clear c17
                      by_cases c18 : (rd l0 x9_2) = (rd l0 a1)
                      · rw [if_pos c18] at H
                        have c18b0 : ((rd l0 x9_2) == (rd l0 a1)) = true := beq_iff_eq.mpr c18
                        have c18b1 : ((rd l0 x9_2) != (rd l0 a1)) = false := bne_eq_false_iff_eq.mpr c18
                        clear c18
                        obtain rfl := Option.some.inj H
                        have p206 : 0 ≤ (x9_2 : Int) := of_decide_eq_true (by first | (with_reducible assumption) | assumption)
                        have q206 : x9_2 < (l0.length : Int) := of_decide_eq_true (by first | (with_reducible assumption) | assumption)
                        obtain ⟨ad206, e206, hx206_0⟩ := Kd.at_int HR0.out x9_2 p206 q206
                        cases e206
                        replace p206 := eq_true p206
                        replace q206 := eq_true q206
                        have p207 : 0 ≤ (a1 : Int) := of_decide_eq_true (by first | (with_reducible assumption) | assumption)
                        have q207 : a1 < (l0.length : Int) := of_decide_eq_true (by first | (with_reducible assumption) | assumption)
                        obtain ⟨ad207, e207, hx207_0⟩ := Kd.at_int HR0.out a1 p207 q207
                        obtain rfl : ad206 = ad207 := (by injection e207)
                        replace p207 := eq_true p207
                        replace q207 := eq_true q207
                        go_wp2
                        repeat (go_quiet (fail); try go_wp2)
                        go_ret
                        exact ⟨by first | rfl | (simp; done) | (simp [*]; done), by repeat (first | exact Drawn0.refl _ | apply Drawn0.step)⟩
                      · rw [if_neg c18] at H
                        have c18b0 : ((rd l0 x9_2) == (rd l0 a1)) = false := beq_eq_false_iff_ne.mpr c18
                        have c18b1 : ((rd l0 x9_2) != (rd l0 a1)) = true := bne_iff_ne.mpr c18
                        by_cases c19 : (rd l0 x9_2) = a2
                        · rw [if_pos c19] at H
                          have c19b0 : ((rd l0 x9_2) == a2) = true := beq_iff_eq.mpr c19
                          have c19b1 : ((rd l0 x9_2) != a2) = false := bne_eq_false_iff_eq.mpr c19
                          clear c19
                          obtain rfl := Option.some.inj H
                          have p206 : 0 ≤ (x9_2 : Int) := of_decide_eq_true (by first | (with_reducible assumption) | assumption)
                          have q206 : x9_2 < (l0.length : Int) := of_decide_eq_true (by first | (with_reducible assumption) | assumption)
                          obtain ⟨ad206, e206, hx206_0⟩ := Kd.at_int HR0.out x9_2 p206 q206
                          cases e206
                          replace p206 := eq_true p206
                          replace q206 := eq_true q206
                          have p207 : 0 ≤ (a1 : Int) := of_decide_eq_true (by first | (with_reducible assumption) | assumption)
                          have q207 : a1 < (l0.length : Int) := of_decide_eq_true (by first | (with_reducible assumption) | assumption)
                          obtain ⟨ad207, e207, hx207_0⟩ := Kd.at_int HR0.out a1 p207 q207
                          obtain rfl : ad206 = ad207 := (by injection e207)
                          replace p207 := eq_true p207
                          replace q207 := eq_true q207
                          have p208 : 0 ≤ (x9_2 : Int) := of_decide_eq_true (by first | (with_reducible assumption) | assumption)
                          have q208 : x9_2 < (l0.length : Int) := of_decide_eq_true (by first | (with_reducible assumption) | assumption)
                          obtain ⟨ad208, e208, hx208_0⟩ := Kd.at_int HR0.out x9_2 p208 q208
                          obtain rfl : ad206 = ad208 := (by injection e208)
                          replace p208 := eq_true p208
                          replace q208 := eq_true q208
                          go_wp2
                          repeat (go_quiet (fail); try go_wp2)
                          go_ret
                          exact ⟨by first | rfl | (simp; done) | (simp [*]; done), by repeat (first | exact Drawn0.refl _ | apply Drawn0.step)⟩
                        · rw [if_neg c19] at H
                          have c19b0 : ((rd l0 x9_2) == a2) = false := beq_eq_false_iff_ne.mpr c19
                          have c19b1 : ((rd l0 x9_2) != a2) = true := bne_iff_ne.mpr c19
                          have H' := Aside0.mk H
                          clear H
                          have p206 : 0 ≤ (x9_2 : Int) := of_decide_eq_true (by first | (with_reducible assumption) | assumption)
                          have q206 : x9_2 < (l0.length : Int) := of_decide_eq_true (by first | (with_reducible assumption) | assumption)
                          obtain ⟨ad206, e206, hx206_0⟩ := Kd.at_int HR0.out x9_2 p206 q206
                          cases e206
                          replace p206 := eq_true p206
                          replace q206 := eq_true q206
                          have p207 : 0 ≤ (a1 : Int) := of_decide_eq_true (by first | (with_reducible assumption) | assumption)
                          have q207 : a1 < (l0.length : Int) := of_decide_eq_true (by first | (with_reducible assumption) | assumption)
                          obtain ⟨ad207, e207, hx207_0⟩ := Kd.at_int HR0.out a1 p207 q207
                          obtain rfl : ad206 = ad207 := (by injection e207)
                          replace p207 := eq_true p207
                          replace q207 := eq_true q207
                          have p208 : 0 ≤ (x9_2 : Int) := of_decide_eq_true (by first | (with_reducible assumption) | assumption)
                          have q208 : x9_2 < (l0.length : Int) := of_decide_eq_true (by first | (with_reducible assumption) | assumption)
                          obtain ⟨ad208, e208, hx208_0⟩ := Kd.at_int HR0.out x9_2 p208 q208
                          obtain rfl : ad206 = ad208 := (by injection e208)
                          replace p208 := eq_true p208
                          replace q208 := eq_true q208
                          go_wp2
                          repeat (go_quiet (fail); try go_wp2)
                          go_roundg k2
                          case measure => have := HJ4.out; have := HK2.out; omega
                          case rel => exact ⟨(wrap64 (x9_2 + 1)), (by first | rfl | (simp; done) | (simp [*]; done)), H', ⟨by have := HJ4.out; have := HK2.out; omega⟩, by repeat (first | exact Drawn0.refl _ | apply Drawn0.step)⟩
                    · rw [if_neg c17] at H
                      exact absurd H (by simp)
                  · rw [if_neg c16] at H
                    exact absurd H (by simp)
                · rw [if_neg c15] at H
                  exact absurd H (by simp)
              · rw [if_neg c14] at H
                exact absurd H (by simp)
            · rw [if_neg c13] at H
              have c13b0 : decide (x9_2 < a1) = false := decide_eq_false c13
              clear c13
              obtain rfl := Option.some.inj H
              go_wp2
              repeat (go_quiet (fail); try go_wp2)
              go_ret
              exact ⟨by first | rfl | (simp; done) | (simp [*]; done), by repeat (first | exact Drawn0.refl _ | apply Drawn0.step)⟩

end Go.Proofs.YtnaaomhmoamfpaaDoor.Q
namespace Go.Proofs.YtnaaomhmoamfpaaDoor.G
end Go.Proofs.YtnaaomhmoamfpaaDoor.G
namespace Go.Proofs.YtnaaomhmoamfpaaDoor.Q
set_option linter.unusedVariables false
set_option linter.unusedSimpArgs false
set_option linter.unusedSectionVars false
open Go.Proofs.YtnaaomhmoamfpaaDoor.G
open Go.RowKit Go.Proofs.YtnaaomhmoamfpaaDoorW.PrintWords Go.Proofs.YtnaaomhmoamfpaaDoorW.PrintLast Go.Proofs.YtnaaomhmoamfpaaDoorW.PrintMore
attribute [local go_sem] max2_int min2_int max_two min_two max_three min_three max_four min_four   -- for this text's walks alone

/-! ### bibelotref03_Moves: function 42 -/
mutual
def bibelotref03_Moves.l0 : Nat → List Int → Int → List (S52) → Int → Option ((List (S52)))
  | 0, _, _, _, _ => none
  | k + 1, x0, x1, x5, x6 => if x6 < (x0.length : Int) then (bibelotref03_Moves.l1 k x0 x1 x5 x6 0) else (some x5)
def bibelotref03_Moves.l1 : Nat → List Int → Int → List (S52) → Int → Int → Option ((List (S52)))
  | 0, _, _, _, _, _ => none
  | k + 1, x0, x1, x5, x6, x7 => if x7 < x1 then ((bibelotref03_Can.f k x0 x6 x7 x1).bind fun t209 => (if t209 = true then (if x5.length < 8796093022208 then (bibelotref03_Moves.l1 k x0 x1 (x5 ++ [(⟨x6, x7⟩ : S52)]) x6 (wrap64 (x7 + 1))) else (none)) else (bibelotref03_Moves.l1 k x0 x1 x5 x6 (wrap64 (x7 + 1))))) else (bibelotref03_Moves.l0 k x0 x1 x5 (wrap64 (x6 + 1)))
end
def bibelotref03_Moves.f (k : Nat) (l0 : List Int) (a1 : Int) : Option ((List (S52))) := bibelotref03_Moves.l0 k l0 a1 ([] : List (S52)) 0
theorem bibelotref03_Moves.mono_l : ∀ k, (∀ y0 y1 y2 y3, LeO (bibelotref03_Moves.l0 k y0 y1 y2 y3) (bibelotref03_Moves.l0 (k + 1) y0 y1 y2 y3)) ∧ (∀ y0 y1 y2 y3 y4, LeO (bibelotref03_Moves.l1 k y0 y1 y2 y3 y4) (bibelotref03_Moves.l1 (k + 1) y0 y1 y2 y3 y4))
  | 0 => ⟨fun _ _ _ _ r h => by simp [bibelotref03_Moves.l0] at h, fun _ _ _ _ _ r h => by simp [bibelotref03_Moves.l1] at h⟩
  | k + 1 => by
    obtain ⟨ih0, ih1⟩ := bibelotref03_Moves.mono_l k
    refine ⟨?_, ?_⟩
    · intro y0 y1 y2 y3
      unfold bibelotref03_Moves.l0
      repeat' first
      | (with_reducible exact ih0 _ _ _ _)
      | (with_reducible exact ih1 _ _ _ _ _)
      | (with_reducible exact bibelotref03_Can.mono _ _ _ _ _)
      | (with_reducible exact LeO.refl _)
      | (with_reducible exact LeO.none _)
      | (with_reducible refine LeO.ite ?_ ?_)
      | (with_reducible refine LeO.bind ?_ (fun _ => ?_))
      | exact ih0 _ _ _ _
      | exact ih1 _ _ _ _ _
      | exact bibelotref03_Can.mono _ _ _ _ _
      | exact LeO.none _
      | refine LeO.ite ?_ ?_
      | refine LeO.bind ?_ (fun _ => ?_)
    · intro y0 y1 y2 y3 y4
      unfold bibelotref03_Moves.l1
      repeat' first
      | (with_reducible exact ih0 _ _ _ _)
      | (with_reducible exact ih1 _ _ _ _ _)
      | (with_reducible exact bibelotref03_Can.mono _ _ _ _ _)
      | (with_reducible exact LeO.refl _)
      | (with_reducible exact LeO.none _)
      | (with_reducible refine LeO.ite ?_ ?_)
      | (with_reducible refine LeO.bind ?_ (fun _ => ?_))
      | exact ih0 _ _ _ _
      | exact ih1 _ _ _ _ _
      | exact bibelotref03_Can.mono _ _ _ _ _
      | exact LeO.none _
      | refine LeO.ite ?_ ?_
      | refine LeO.bind ?_ (fun _ => ?_)
theorem bibelotref03_Moves.mono : ∀ a0 a1 k, LeO (bibelotref03_Moves.f k a0 a1) (bibelotref03_Moves.f (k + 1) a0 a1) := by
  intro a0 a1 k
  obtain ⟨ih0, ih1⟩ := bibelotref03_Moves.mono_l k
  unfold bibelotref03_Moves.f
  repeat' first
      | (with_reducible exact ih0 _ _ _ _)
      | (with_reducible exact ih1 _ _ _ _ _)
      | (with_reducible exact bibelotref03_Can.mono _ _ _ _ _)
      | (with_reducible exact LeO.refl _)
      | (with_reducible exact LeO.none _)
      | (with_reducible refine LeO.ite ?_ ?_)
      | (with_reducible refine LeO.bind ?_ (fun _ => ?_))
      | exact ih0 _ _ _ _
      | exact ih1 _ _ _ _ _
      | exact bibelotref03_Can.mono _ _ _ _ _
      | exact LeO.none _
      | refine LeO.ite ?_ ?_
      | refine LeO.bind ?_ (fun _ => ?_)
set_option maxHeartbeats 8000000 in
set_option maxRecDepth 100000 in
theorem bibelotref03_Moves.calls (k : Nat) (A0 : Option Addr) (c0 : Nat) (l0 : List Int) (a1 : Int) (r : List (S52)) (w : World) (hr0 : Kd.C (Kd.int .i64) w A0 l0.length l0) (hc0 : l0.length ≤ c0) (h : bibelotref03_Moves.f k l0 a1 = some r) :
    Calls Tryd.prog 42 #[.slice A0 l0.length c0, .int .i64 a1] w fun e w' => ∃ v0_ : Value, e = .returned (v0_) ∧ Kd.R k52 52 w' w.heap.size (fun _ => True) v0_ r ∧ Below w.heap.size w w' := by
  have hu52 := Tryd.underlying52
  have HR0 := Aside0.mk hr0
  have HC0 := Aside0.mk hc0
  clear hr0 hc0
  have HB := Aside0.mk (Below.refl w.heap.size w)
  have H : (bibelotref03_Moves.l0 k l0 a1 ([] : List (S52)) 0) = some r := h
  clear h
  have H' := Aside0.mk H
  clear H
  go_enter Tryd.func42, Tryd.ntmps42
  go_wp2
  go_loopg [5, 6] k (fun kq v5 v6 w' => ∃ (x5_1 : List (S52)) (x6_1 : Int), v6 = .int .i64 x6_1 ∧ Aside0 (bibelotref03_Moves.l0 kq l0 a1 x5_1 x6_1 = some r) ∧ Aside0 (kq ≤ k) ∧ Aside0 (Kd.R k52 52 w' w.heap.size (fun _ => True) v5 x5_1) ∧ Aside0 (Below w.heap.size w w'))
  case atStart => exact ⟨(([] : List (S52))), (0), (by first | rfl | (simp; done) | (simp [*]; done)), H', ⟨Nat.le_refl _⟩, ⟨by first | exact Kd.R_nil _ _ _ _ _ | exact Kd.N_nil _ _ _ _ _ | exact Kd.V_nil _ _ _ _ _ | exact Kd.Q_nil _ _ _ _ _ | exact Kd.S_nil _ _ _ _ _⟩, ⟨by repeat (first | (with_reducible first | exact HB.out | apply below_alloc | apply pw_below_drewN | apply below_drew1) | exact HB.out)⟩⟩
  case round =>
    clear H'
    try clear p2
    obtain ⟨x5_1, x6_1, rfl, HA, HK1, HO_5, HB⟩ := hrel
    cases gk with
    | zero => exact absurd HA.out (by simp [bibelotref03_Moves.l0])
    | succ k1 =>
      have H := HA.out
      clear HA
      simp only [bibelotref03_Moves.l0] at H
      by_cases c3 : x6_1 < (l0.length : Int)
      · rw [if_pos c3] at H
        have c3b0 : decide (x6_1 < (l0.length : Int)) = true := decide_eq_true c3
        clear c3
        have H' := Aside0.mk H
        clear H
        go_wp2
        go_loopg [5, 7] k1 (fun kq v5 v7 w' => ∃ (x5_2 : List (S52)) (x7_2 : Int), v7 = .int .i64 x7_2 ∧ Aside0 (bibelotref03_Moves.l1 kq l0 a1 x5_2 x6_1 x7_2 = some r) ∧ Aside0 (kq ≤ k1) ∧ Aside0 (Kd.R k52 52 w' w.heap.size (fun _ => True) v5 x5_2) ∧ Aside0 (Below w.heap.size w w'))
        case atStart => exact ⟨(x5_1), (0), (by first | rfl | (simp; done) | (simp [*]; done)), H', ⟨Nat.le_refl _⟩, ⟨by (with_reducible repeat (first | apply Kd.R_alloc | apply Kd.R_drewN | apply Kd.R_drew)); exact HO_5.out⟩, ⟨by repeat (first | (with_reducible first | exact HB.out | apply below_alloc | apply pw_below_drewN | apply below_drew1) | exact HB.out)⟩⟩
        case round =>
          clear H'
          try clear p2
          try clear c3
          try clear c3b0
          try clear p2
          obtain ⟨x5_2, x7_2, rfl, HA, HK2, HO_5, HB⟩ := hrel
          cases gk with
          | zero => exact absurd HA.out (by simp [bibelotref03_Moves.l1])
          | succ k2 =>
            have H := HA.out
            clear HA
            simp only [bibelotref03_Moves.l1] at H
            by_cases c4 : x7_2 < a1
            · rw [if_pos c4] at H
              have c4b0 : decide (x7_2 < a1) = true := decide_eq_true c4
              clear c4
              replace H := Option.bind_eq_some_iff.mp H
              obtain ⟨t209, A50, H⟩ := H
              replace H : (if t209 = true then (if x5_2.length < 8796093022208 then (bibelotref03_Moves.l1 k2 l0 a1 (x5_2 ++ [(⟨x6_1, x7_2⟩ : S52)]) x6_1 (wrap64 (x7_2 + 1))) else (none)) else (bibelotref03_Moves.l1 k2 l0 a1 x5_2 x6_1 (wrap64 (x7_2 + 1)))) = some r := H
              have A5 := Aside0.mk A50
              clear A50
              by_cases c6 : t209 = true
              · subst c6
                have H1 : (if x5_2.length < 8796093022208 then (bibelotref03_Moves.l1 k2 l0 a1 (x5_2 ++ [(⟨x6_1, x7_2⟩ : S52)]) x6_1 (wrap64 (x7_2 + 1))) else (none)) = some r := by rw [if_pos rfl] at H; exact H
                clear H
                have H := H1
                clear H1
                by_cases c7 : x5_2.length < 8796093022208
                · rw [if_pos c7] at H
                  have LMc7 := Aside0.mk c7
                  clear c7
                  obtain ⟨y210, hy210⟩ : ∃ y_ : List (S52), y_ = (x5_2 ++ [(⟨x6_1, x7_2⟩ : S52)]) := ⟨_, rfl⟩
                  replace H : (bibelotref03_Moves.l1 k2 l0 a1 y210 x6_1 (wrap64 (x7_2 + 1))) = some r := by first | (rw [hy210]; with_reducible exact H) | (have H2_ := (Option.bind_some _ _).symm.trans H; rw [hy210]; with_reducible exact H2_) | (have H2_ := (Option.bind_some _ _).symm.trans H; with_reducible exact H2_) | with_reducible exact H | (rw [hy210]; exact H) | exact H
                  have Ny210 := Aside0.mk hy210
                  clear hy210
                  have H' := Aside0.mk H
                  clear H
                  go_wp2_with (first | ((with_reducible refine gate_callee (f := 72) rfl ?_); refine goesL_ (some 23) rfl rfl Tryd.func72 (by kernel_rfl) rfl #[.slice A0 l0.length c0, .int .i64 x6_1, .int .i64 x7_2, .int .i64 a1] rfl (by (try simp only [List.map_toArray, List.map_cons, List.map_nil]); first | done | rfl | (simp only [List.length_drop, List.length_take]; rfl)) ?_; (with_reducible refine (bibelotref03_Can.calls k2 _ _ l0 x6_1 x7_2 a1 true _ ?side1 ?side2 A5.out).mono ?_); (case side1 => repeat (first | exact (Kd.C_below HR0.out HB.out) | (with_reducible refine Kd.C_alloc ?_ _) | (with_reducible refine Kd.C_drewN ?_ _) | (with_reducible refine Kd.C_drew ?_))); (case side2 => exact HC0.out); rintro e w' ⟨rfl, ⟨nd, rfl⟩⟩; refine ⟨_, rfl, ?_⟩) | ((with_reducible refine gate_builtin (b := .append) (xs := #[.tmp 24, .tmp 28]) rfl ?_); at_builtin; refine Kd.R_append k52 (w0 := w) w.heap.size rfl (.tmp 24) (.tmp 28) 48 52 (.agg #[(.int .i64 0), (.int .i64 0)]) 16 rfl Tryd.underlying48 info52 rfl (by decide) (by omega) u5 x5_2 (⟨x6_1, x7_2⟩ : S52) [.int .i64 x6_1, .int .i64 x7_2] (fun _ => True) (fun _ => False) rfl rfl ?aP (fun _ hk => hk.elim) ?aF ?aO ?aB ?aS ?aL ?_; (case aP => exact k52_mkM _ _ _ (⟨x6_1, x7_2⟩ : S52)); (case aB => exact (by repeat (first | (with_reducible first | exact HB.out | apply below_alloc | apply pw_below_drewN | apply below_drew1) | exact HB.out))); (case aF => exact (fun _ _ => trivial)); (case aO => exact (by (with_reducible repeat (first | apply Kd.R_alloc | apply Kd.R_drewN | apply Kd.R_drew)); exact HO_5.out)); (case aS => exact (below_size (by repeat (first | (with_reducible first | exact HB.out | apply below_alloc | apply pw_below_drewN | apply below_drew1) | exact HB.out)))); (case aL => have := LMc7.out; omega); intro v211 w8 ho hb hg hat; rw [← Ny210.out] at ho; have n0_ := Aside0.mk (hb); have n1_ := Aside0.mk (ho); clear HB; clear HO_5; have HB := n0_; have HO212 := n1_; clear n0_ n1_; clear ho hb hg hat))
                  go_roundg k2
                  case measure => have := HK1.out; have := HK2.out; omega
                  case rel => exact ⟨(y210), (wrap64 (x7_2 + 1)), (by first | rfl | (simp; done) | (simp [*]; done)), H', ⟨by have := HK1.out; have := HK2.out; omega⟩, ⟨by (with_reducible repeat (first | apply Kd.R_alloc | apply Kd.R_drewN | apply Kd.R_drew)); exact HO212.out⟩, ⟨by repeat (first | (with_reducible first | exact HB.out | apply below_alloc | apply pw_below_drewN | apply below_drew1) | exact HB.out)⟩⟩
                · rw [if_neg c7] at H
                  exact absurd H (by simp)
              · replace c6 := Bool.eq_false_iff.mpr c6
                subst c6
                have H1 : (bibelotref03_Moves.l1 k2 l0 a1 x5_2 x6_1 (wrap64 (x7_2 + 1))) = some r := by rw [if_neg (show ¬ (false = true) by decide)] at H; exact H
                clear H
                have H := H1
                clear H1
                have H' := Aside0.mk H
                clear H
                go_wp2_with (first | ((with_reducible refine gate_callee (f := 72) rfl ?_); refine goesL_ (some 23) rfl rfl Tryd.func72 (by kernel_rfl) rfl #[.slice A0 l0.length c0, .int .i64 x6_1, .int .i64 x7_2, .int .i64 a1] rfl (by (try simp only [List.map_toArray, List.map_cons, List.map_nil]); first | done | rfl | (simp only [List.length_drop, List.length_take]; rfl)) ?_; (with_reducible refine (bibelotref03_Can.calls k2 _ _ l0 x6_1 x7_2 a1 false _ ?side1 ?side2 A5.out).mono ?_); (case side1 => repeat (first | exact (Kd.C_below HR0.out HB.out) | (with_reducible refine Kd.C_alloc ?_ _) | (with_reducible refine Kd.C_drewN ?_ _) | (with_reducible refine Kd.C_drew ?_))); (case side2 => exact HC0.out); rintro e w' ⟨rfl, ⟨nd, rfl⟩⟩; refine ⟨_, rfl, ?_⟩))
                go_roundg k2
                case measure => have := HK1.out; have := HK2.out; omega
                case rel => exact ⟨(x5_2), (wrap64 (x7_2 + 1)), (by first | rfl | (simp; done) | (simp [*]; done)), H', ⟨by have := HK1.out; have := HK2.out; omega⟩, ⟨by (with_reducible repeat (first | apply Kd.R_alloc | apply Kd.R_drewN | apply Kd.R_drew)); exact HO_5.out⟩, ⟨by repeat (first | (with_reducible first | exact HB.out | apply below_alloc | apply pw_below_drewN | apply below_drew1) | exact HB.out)⟩⟩
            · rw [if_neg c4] at H
              have c4b0 : decide (x7_2 < a1) = false := decide_eq_false c4
              clear c4
              have H' := Aside0.mk H
              clear H
              go_wp2
              go_roundg k2
              case measure => have := HK1.out; have := HK2.out; omega
              case rel => exact ⟨(x5_2), (wrap64 (x6_1 + 1)), (by first | rfl | (simp; done) | (simp [*]; done)), H', ⟨by have := HK1.out; have := HK2.out; omega⟩, ⟨by (with_reducible repeat (first | apply Kd.R_alloc | apply Kd.R_drewN | apply Kd.R_drew)); exact HO_5.out⟩, ⟨by repeat (first | (with_reducible first | exact HB.out | apply below_alloc | apply pw_below_drewN | apply below_drew1) | exact HB.out)⟩⟩
      · rw [if_neg c3] at H
        have c3b0 : decide (x6_1 < (l0.length : Int)) = false := decide_eq_false c3
        clear c3
        obtain rfl := Option.some.inj H
        go_wp2
        go_ret
        exact ⟨_, by first | rfl | (simp [errW_none, errW_some] <;> rfl) | (simp [*, errW_none, errW_some] <;> rfl), by (with_reducible repeat (first | apply Kd.R_alloc | apply Kd.R_drewN | apply Kd.R_drew)); exact HO_5.out, by repeat (first | (with_reducible first | exact HB.out | apply below_alloc | apply pw_below_drewN | apply below_drew1) | exact HB.out)⟩

end Go.Proofs.YtnaaomhmoamfpaaDoor.Q
namespace Go.Proofs.YtnaaomhmoamfpaaDoor.G
end Go.Proofs.YtnaaomhmoamfpaaDoor.G
namespace Go.Proofs.YtnaaomhmoamfpaaDoor.Q
set_option linter.unusedVariables false
set_option linter.unusedSimpArgs false
set_option linter.unusedSectionVars false
open Go.Proofs.YtnaaomhmoamfpaaDoor.G
open Go.RowKit Go.Proofs.YtnaaomhmoamfpaaDoorW.PrintWords Go.Proofs.YtnaaomhmoamfpaaDoorW.PrintLast Go.Proofs.YtnaaomhmoamfpaaDoorW.PrintMore
attribute [local go_sem] max2_int min2_int max_two min_two max_three min_three max_four min_four   -- for this text's walks alone
/-! ### bibelotref03_Fewest: function 31 -/
mutual
def bibelotref03_Fewest.l0 : Nat → Int → Int → Int → List Int → List Int → Int → Option (Int)
  | 0, _, _, _, _, _, _ => none
  | k + 1, x0, x1, x5, x6, x7, x8 => if x8 < (x7.length : Int) then (if 0 ≤ x8 then ((bibelotref03_Decoded.f k x0 (rd x7 x8) x1).bind fun t122 => ((bibelotref03_Moves.f k t122 x1).bind fun t125 => (bibelotref03_Fewest.l1 k x0 x1 x5 x6 x7 x8 t122 t125 0))) else (none)) else (if 0 ≤ (wrap64 (x5 - 1)) then (if (wrap64 (x5 - 1)) < (x6.length : Int) then (some (wrap64 ((rd x6 (wrap64 (x5 - 1))) - 1))) else (none)) else (none))
def bibelotref03_Fewest.l1 : Nat → Int → Int → Int → List Int → List Int → Int → List Int → List (S52) → Int → Option (Int)
  | 0, _, _, _, _, _, _, _, _, _ => none
  | k + 1, x0, x1, x5, x6, x7, x8, x9, x10, x11 => if x11 < (x10.length : Int) then (if 0 ≤ x11 then (if 0 ≤ x8 then (if x8 < (x7.length : Int) then (if 0 ≤ ((rd_T52 x10 x11).f0) then (if ((rd_T52 x10 x11).f0) < (x9.length : Int) then ((bibelotref03_power.f k x1 ((rd_T52 x10 x11).f0)).bind fun t132 => (if 0 ≤ (wrap64 ((rd x7 x8) + (wrap64 ((wrap64 (((rd_T52 x10 x11).f1) - (rd x9 ((rd_T52 x10 x11).f0)))) * t132)))) then (if (wrap64 ((rd x7 x8) + (wrap64 ((wrap64 (((rd_T52 x10 x11).f1) - (rd x9 ((rd_T52 x10 x11).f0)))) * t132)))) < (x6.length : Int) then (if (rd x6 (wrap64 ((rd x7 x8) + (wrap64 ((wrap64 (((rd_T52 x10 x11).f1) - (rd x9 ((rd_T52 x10 x11).f0)))) * t132))))) = 0 then (if 0 ≤ (rd x7 x8) then (if (rd x7 x8) < (x6.length : Int) then (if x7.length < 17592186044416 then (bibelotref03_Fewest.l1 k x0 x1 x5 (x6.set ((wrap64 ((rd x7 x8) + (wrap64 ((wrap64 (((rd_T52 x10 x11).f1) - (rd x9 ((rd_T52 x10 x11).f0)))) * t132)))) : Int).toNat (wrap64 ((rd x6 (rd x7 x8)) + 1))) (x7 ++ [wrap64 ((rd x7 x8) + (wrap64 ((wrap64 (((rd_T52 x10 x11).f1) - (rd x9 ((rd_T52 x10 x11).f0)))) * t132)))]) x8 x9 x10 (wrap64 (x11 + 1))) else (none)) else (none)) else (none)) else (bibelotref03_Fewest.l1 k x0 x1 x5 x6 x7 x8 x9 x10 (wrap64 (x11 + 1)))) else (none)) else (none))) else (none)) else (none)) else (none)) else (none)) else (none)) else (bibelotref03_Fewest.l0 k x0 x1 x5 x6 x7 (wrap64 (x8 + 1)))
end
def bibelotref03_Fewest.f (k : Nat) (a0 : Int) (a1 : Int) : Option (Int) := (bibelotref03_power.f k a1 a0).bind fun t112 => (if 0 ≤ t112 then (if (t112 : Int).toNat ≤ 35184372088832 then ((some (List.replicate (t112 : Int).toNat 0 : List Int)).bind fun y113 => (if 0 < (y113.length : Int) then (bibelotref03_Fewest.l0 k a0 a1 t112 (y113.set (0 : Int).toNat 1) (([0] : List Int)) 0) else (none))) else (none)) else (none))
theorem bibelotref03_Fewest.mono_l : ∀ k, (∀ y0 y1 y2 y3 y4 y5, LeO (bibelotref03_Fewest.l0 k y0 y1 y2 y3 y4 y5) (bibelotref03_Fewest.l0 (k + 1) y0 y1 y2 y3 y4 y5)) ∧ (∀ y0 y1 y2 y3 y4 y5 y6 y7 y8, LeO (bibelotref03_Fewest.l1 k y0 y1 y2 y3 y4 y5 y6 y7 y8) (bibelotref03_Fewest.l1 (k + 1) y0 y1 y2 y3 y4 y5 y6 y7 y8))
  | 0 => ⟨fun _ _ _ _ _ _ r h => by simp [bibelotref03_Fewest.l0] at h, fun _ _ _ _ _ _ _ _ _ r h => by simp [bibelotref03_Fewest.l1] at h⟩
  | k + 1 => by
    obtain ⟨ih0, ih1⟩ := bibelotref03_Fewest.mono_l k
    refine ⟨?_, ?_⟩
    · intro y0 y1 y2 y3 y4 y5
      unfold bibelotref03_Fewest.l0
      repeat' first
      | (with_reducible exact ih0 _ _ _ _ _ _)
      | (with_reducible exact ih1 _ _ _ _ _ _ _ _ _)
      | (with_reducible exact bibelotref03_Decoded.mono _ _ _ _)
      | (with_reducible exact bibelotref03_Moves.mono _ _ _)
      | (with_reducible exact bibelotref03_power.mono _ _ _)
      | (with_reducible exact LeO.refl _)
      | (with_reducible exact LeO.none _)
      | (with_reducible refine LeO.ite ?_ ?_)
      | (with_reducible refine LeO.bind ?_ (fun _ => ?_))
      | exact ih0 _ _ _ _ _ _
      | exact ih1 _ _ _ _ _ _ _ _ _
      | exact bibelotref03_Decoded.mono _ _ _ _
      | exact bibelotref03_Moves.mono _ _ _
      | exact bibelotref03_power.mono _ _ _
      | exact LeO.none _
      | refine LeO.ite ?_ ?_
      | refine LeO.bind ?_ (fun _ => ?_)
    · intro y0 y1 y2 y3 y4 y5 y6 y7 y8
      unfold bibelotref03_Fewest.l1
      repeat' first
      | (with_reducible exact ih0 _ _ _ _ _ _)
      | (with_reducible exact ih1 _ _ _ _ _ _ _ _ _)
      | (with_reducible exact bibelotref03_Decoded.mono _ _ _ _)
      | (with_reducible exact bibelotref03_Moves.mono _ _ _)
      | (with_reducible exact bibelotref03_power.mono _ _ _)
      | (with_reducible exact LeO.refl _)
      | (with_reducible exact LeO.none _)
      | (with_reducible refine LeO.ite ?_ ?_)
      | (with_reducible refine LeO.bind ?_ (fun _ => ?_))
      | exact ih0 _ _ _ _ _ _
      | exact ih1 _ _ _ _ _ _ _ _ _
      | exact bibelotref03_Decoded.mono _ _ _ _
      | exact bibelotref03_Moves.mono _ _ _
      | exact bibelotref03_power.mono _ _ _
      | exact LeO.none _
      | refine LeO.ite ?_ ?_
      | refine LeO.bind ?_ (fun _ => ?_)
theorem bibelotref03_Fewest.mono : ∀ a0 a1 k, LeO (bibelotref03_Fewest.f k a0 a1) (bibelotref03_Fewest.f (k + 1) a0 a1) := by
  intro a0 a1 k
  obtain ⟨ih0, ih1⟩ := bibelotref03_Fewest.mono_l k
  unfold bibelotref03_Fewest.f
  repeat' first
      | (with_reducible exact ih0 _ _ _ _ _ _)
      | (with_reducible exact ih1 _ _ _ _ _ _ _ _ _)
      | (with_reducible exact bibelotref03_Decoded.mono _ _ _ _)
      | (with_reducible exact bibelotref03_Moves.mono _ _ _)
      | (with_reducible exact bibelotref03_power.mono _ _ _)
      | (with_reducible exact LeO.refl _)
      | (with_reducible exact LeO.none _)
      | (with_reducible refine LeO.ite ?_ ?_)
      | (with_reducible refine LeO.bind ?_ (fun _ => ?_))
      | exact ih0 _ _ _ _ _ _
      | exact ih1 _ _ _ _ _ _ _ _ _
      | exact bibelotref03_Decoded.mono _ _ _ _
      | exact bibelotref03_Moves.mono _ _ _
      | exact bibelotref03_power.mono _ _ _
      | exact LeO.none _
      | refine LeO.ite ?_ ?_
      | refine LeO.bind ?_ (fun _ => ?_)
set_option maxHeartbeats 8000000 in
set_option maxRecDepth 100000 in
theorem bibelotref03_Fewest.calls (k : Nat) (a0 : Int) (a1 : Int) (r : Int) (w : World) (h : bibelotref03_Fewest.f k a0 a1 = some r) :
    Calls Tryd.prog 31 #[.int .i64 a0, .int .i64 a1] w fun e w' => e = .returned (.int .i64 r) ∧ Below w.heap.size w w' := by
  have HB := Aside0.mk (Below.refl w.heap.size w)
  have H : ((bibelotref03_power.f k a1 a0).bind fun t112 => (if 0 ≤ t112 then (if (t112 : Int).toNat ≤ 35184372088832 then ((some (List.replicate (t112 : Int).toNat 0 : List Int)).bind fun y113 => (if 0 < (y113.length : Int) then (bibelotref03_Fewest.l0 k a0 a1 t112 (y113.set (0 : Int).toNat 1) (([0] : List Int)) 0) else (none))) else (none)) else (none))) = some r := h
  clear h
  replace H := Option.bind_eq_some_iff.mp H
  obtain ⟨t112, A30, H⟩ := H
  replace H : (if 0 ≤ t112 then (if (t112 : Int).toNat ≤ 35184372088832 then ((some (List.replicate (t112 : Int).toNat 0 : List Int)).bind fun y113 => (if 0 < (y113.length : Int) then (bibelotref03_Fewest.l0 k a0 a1 t112 (y113.set (0 : Int).toNat 1) (([0] : List Int)) 0) else (none))) else (none)) else (none)) = some r := H
  have A3 := Aside0.mk A30
  clear A30
  by_cases c4 : 0 ≤ t112
  · rw [if_pos c4] at H
    have c4b0 := eq_true c4
    have c4b1 : decide (0 ≤ t112) = true := decide_eq_true c4
    clear c4
    by_cases c5 : (t112 : Int).toNat ≤ 35184372088832
    · rw [if_pos c5] at H
      have c5b0 := eq_true c5
      have c5b1 : decide ((t112 : Int).toNat ≤ 35184372088832) = true := decide_eq_true c5
      clear c5
      obtain ⟨y113, hy113⟩ : ∃ y_ : List Int, y_ = (List.replicate (t112 : Int).toNat 0) := ⟨_, rfl⟩
      replace H : (if 0 < (y113.length : Int) then (bibelotref03_Fewest.l0 k a0 a1 t112 (y113.set (0 : Int).toNat 1) (([0] : List Int)) 0) else (none)) = some r := by first | (rw [hy113]; exact H) | exact H
      have Ny113 := Aside0.mk hy113
      clear hy113
      by_cases c6 : 0 < (y113.length : Int)
      · rw [if_pos c6] at H
        have c6b0 : decide (0 < (y113.length : Int)) = true := decide_eq_true c6
        have c6b1 : decide (0 < y113.length) = true := decide_eq_true (by omega)
        clear c6
        obtain ⟨y116, hy116⟩ : ∃ y_ : List Int, y_ = (y113.set (0 : Int).toNat 1) := ⟨_, rfl⟩
        replace H : (bibelotref03_Fewest.l0 k a0 a1 t112 y116 (([0] : List Int)) 0) = some r := by first | (rw [hy116]; exact H) | exact H
        have Ny116 := Aside0.mk hy116
        clear hy116
        obtain ⟨y117, hy117⟩ : ∃ y_ : List Int, y_ = (([0] : List Int)) := ⟨_, rfl⟩
        replace H : (bibelotref03_Fewest.l0 k a0 a1 t112 y116 y117 0) = some r := by first | (rw [hy117]; exact H) | exact H
        have Ny117 := Aside0.mk hy117
        clear hy117
        have H' := Aside0.mk H
        clear H
        go_enter Tryd.func31, Tryd.ntmps31
        go_wp2_with (first | (go_at_call 64; (with_reducible refine (bibelotref03_power.calls k a1 a0 t112 _ A3.out).mono ?_); rintro e w' ⟨rfl, ⟨nd, rfl⟩⟩; (try first | exact ⟨rfl, _, World.drewN_drewN _ _ _⟩ | exact ⟨rfl, _, Eq.trans (World.drewN_drewN _ _ _) (congrArg (World.drewN _) (Nat.add_assoc _ _ _))⟩)) | ((with_reducible refine gate_dst (N := 19) rfl ?_); refine Kd.R_make (Kd.int .i64) _ 3 rfl (N := 19) rfl 46 _ _ rfl t112 rfl rfl Tryd.underlying46 (.int .i64 0) 8 info3 rfl (by decide) (by omega) 0 (ok := fun _ => True) (okp := fun _ => True) rfl (fun _ hk => hk) trivial (of_decide_eq_true (by assumption)) (Nat.le_trans (Nat.mul_le_mul_right _ (of_decide_eq_true (by assumption) : t112.toNat ≤ 35184372088832)) (by omega)) (Below.refl _ _) (Nat.le_refl _) ?_; intro v114 w8 ho9 hb hg_ hnew_; clear hg_ hnew_; (first | rw [← Ny113.out] at ho9 | (simp only [Int.reduceToNat] at ho9; rw [← Ny113.out] at ho9)); have n0_ := Aside0.mk (Kd.R_lower ho9 (below_size (by repeat (first | (with_reducible first | exact HB.out | apply below_alloc | apply pw_below_drewN | apply below_drew1) | exact HB.out)))); have n1_ := Aside0.mk (below_step (by repeat (first | (with_reducible first | exact HB.out | apply below_alloc | apply pw_below_drewN | apply below_drew1) | exact HB.out)) hb); clear HB; have HO115 := n0_; have HB := n1_; clear n0_ n1_; clear hb ho9; have p7 : 0 ≤ (0 : Int) := (by omega); have q7 : (0 : Int) < ((y113.length : Int) : Int) := of_decide_eq_true (by assumption); have qi7 : (0 < y113.length) = True := eq_true (by omega); obtain ⟨go7, co7, eo7, gb7, gl7, cl7, HG7⟩ := Kd.R_form HO115.out (by omega); (first | cases eo7 | (injection eo7 with ea_ en_ ec_; (first | subst ea_ | (injection ea_ with ea_; subst ea_)); subst ec_; clear en_)); have GB7 := Aside0.mk gb7; have GG7 := Aside0.mk HG7; clear gb7 gl7 HG7; obtain ⟨hx7_0, hf7_0⟩ := Kd.R_celln 0 HO115.out (0 : Int) p7 q7; (try rw [show ((0 : Int)).toNat = 0 from rfl] at hx7_0); (try simp only [Nat.reduceMul, Nat.zero_mul, Nat.zero_add, Nat.reduceAdd] at hx7_0); (try rw [show ((0 : Int)).toNat = 0 from rfl] at hf7_0); (try simp only [Nat.reduceMul, Nat.zero_mul, Nat.zero_add, Nat.reduceAdd] at hf7_0); replace p7 := eq_true p7; replace q7 := eq_true q7; obtain ⟨hy10_, hz10_⟩ := Kd.R_celln 0 HO115.out (0 : Int) (by omega) (of_decide_eq_true (by assumption)); (try simp only [Int.reduceToNat, Int.toNat_zero, Int.toNat_ofNat, Nat.reduceMul, Nat.zero_mul, Nat.zero_add] at hy10_ hz10_); (try rw [show ((0 : Int)).toNat = 0 from rfl] at hy10_); (try rw [show ((0 : Int)).toNat = 0 from rfl] at hz10_); have HP10 := Kd.R_putg HO115.out (0 : Int) 1) | ((with_reducible refine gate_store (t := 3) (p := 21) rfl ?_); (try (rw [drewN_self w8]; generalize hq_ : World.drewN w8 _ = w8; have n0_ := Aside0.mk (Kd.R_at hq_ HO115.out); have n1_ := Aside0.mk (below_at hq_ HB.out); clear hq_ HO115 HB; have HO115 := n0_; have HB := n1_; clear n0_ n1_; (try (obtain ⟨hy10_, hz10_⟩ := Kd.R_celln 0 HO115.out (0 : Int) (by omega) (of_decide_eq_true (by assumption)))); (try (try simp only [Int.reduceToNat, Int.toNat_zero, Int.toNat_ofNat, Nat.reduceMul, Nat.zero_mul, Nat.zero_add] at hy10_ hz10_)); (try (try rw [show ((0 : Int)).toNat = 0 from rfl] at hy10_)); (try (try rw [show ((0 : Int)).toNat = 0 from rfl] at hz10_)); (try (have HP10 := Kd.R_putg HO115.out (0 : Int) 1)))); refine store_event (t := 3) (p := 21) (v := ?vo_w11) (w1 := (w8.setCell ⟨go7, (0 : Int).toNat, none⟩ (.int .i64 1))) ?hg ?ho ?hn ?hr ?_; (case ho => rfl); (case hg => rfl); (case hn => rfl); (case hr => first | (go_simp; done) | (go_simp; rfl)); intro w11 hw; have hg : w8.grownBy w11 (some go7) := (by rw [hw]; exact HP10.2); have hp_ : Kd.R (Kd.int .i64) 3 w11 w.heap.size (fun _ => True) (.slice (some ⟨go7, 0, none⟩) y113.length co7) y116 := (by rw [hw, Ny116.out]; exact HP10.1); clear HP10; have n0_ := Aside0.mk (hp_); have n1_ := Aside0.mk ((by rw [hw]; exact below_set (HB.out) GB7.out : Below w.heap.size w w11)); clear HO115; clear HB; have HO115 := n0_; have HB := n1_; clear n0_ n1_; clear hg hw hp_) | ((with_reducible refine gate_dst (N := 22) rfl ?_); refine Kd.R_lit (Kd.int .i64) _ 3 ?hg (N := 22) ?hd (xs := ([0] : List Int)) (inner := [.int .i64 0]) (ok := fun _ => True) (okp := fun _ => True) ?hr ?hp (fun _ hk => hk) trivial (Below.refl _ _) (Nat.le_refl _) (by simp) ?_; (case hd => rfl); (case hg => rfl); (case hr => first | (go_simp; done) | (go_simp; rfl)); (case hp => exact (Reps.one (show Kd.M (Kd.int .i64) _ _ _ 0 [.int .i64 0] from rfl) (Reps.none _ _))); intro v118 w12 ho13 hb hg_ hnew_; clear hg_ hnew_; (first | rw [← Ny117.out] at ho13 | (simp only [Int.reduceToNat] at ho13; rw [← Ny117.out] at ho13)); have n0_ := Aside0.mk (Kd.R_elder' (by (with_reducible repeat (first | apply Kd.R_alloc | apply Kd.R_drewN | apply Kd.R_drew)); exact HO115.out) (Kd.R_base ho13) hb); have n1_ := Aside0.mk (Kd.R_lower (Kd.R_new' ho13 (Kd.R_lt (by (with_reducible repeat (first | apply Kd.R_alloc | apply Kd.R_drewN | apply Kd.R_drew)); exact HO115.out))) (below_size (by repeat (first | (with_reducible first | exact HB.out | apply below_alloc | apply pw_below_drewN | apply below_drew1) | exact HB.out)))); have n2_ := Aside0.mk (below_step (by repeat (first | (with_reducible first | exact HB.out | apply below_alloc | apply pw_below_drewN | apply below_drew1) | exact HB.out)) hb); clear HO115; clear HB; have HO115 := n0_; have HO119 := n1_; have HB := n2_; clear n0_ n1_ n2_; clear hb ho13))
        repeat (go_quiet (first | (go_at_call 64; (with_reducible refine (bibelotref03_power.calls k a1 a0 t112 _ A3.out).mono ?_); rintro e w' ⟨rfl, ⟨nd, rfl⟩⟩; (try first | exact ⟨rfl, _, World.drewN_drewN _ _ _⟩ | exact ⟨rfl, _, Eq.trans (World.drewN_drewN _ _ _) (congrArg (World.drewN _) (Nat.add_assoc _ _ _))⟩)) | ((with_reducible refine gate_dst (N := 19) rfl ?_); refine Kd.R_make (Kd.int .i64) _ 3 rfl (N := 19) rfl 46 _ _ rfl t112 rfl rfl Tryd.underlying46 (.int .i64 0) 8 info3 rfl (by decide) (by omega) 0 (ok := fun _ => True) (okp := fun _ => True) rfl (fun _ hk => hk) trivial (of_decide_eq_true (by assumption)) (Nat.le_trans (Nat.mul_le_mul_right _ (of_decide_eq_true (by assumption) : t112.toNat ≤ 35184372088832)) (by omega)) (Below.refl _ _) (Nat.le_refl _) ?_; intro v114 w8 ho9 hb hg_ hnew_; clear hg_ hnew_; (first | rw [← Ny113.out] at ho9 | (simp only [Int.reduceToNat] at ho9; rw [← Ny113.out] at ho9)); have n0_ := Aside0.mk (Kd.R_lower ho9 (below_size (by repeat (first | (with_reducible first | exact HB.out | apply below_alloc | apply pw_below_drewN | apply below_drew1) | exact HB.out)))); have n1_ := Aside0.mk (below_step (by repeat (first | (with_reducible first | exact HB.out | apply below_alloc | apply pw_below_drewN | apply below_drew1) | exact HB.out)) hb); clear HB; have HO115 := n0_; have HB := n1_; clear n0_ n1_; clear hb ho9; have p7 : 0 ≤ (0 : Int) := (by omega); have q7 : (0 : Int) < ((y113.length : Int) : Int) := of_decide_eq_true (by assumption); have qi7 : (0 < y113.length) = True := eq_true (by omega); obtain ⟨go7, co7, eo7, gb7, gl7, cl7, HG7⟩ := Kd.R_form HO115.out (by omega); (first | cases eo7 | (injection eo7 with ea_ en_ ec_; (first | subst ea_ | (injection ea_ with ea_; subst ea_)); subst ec_; clear en_)); have GB7 := Aside0.mk gb7; have GG7 := Aside0.mk HG7; clear gb7 gl7 HG7; obtain ⟨hx7_0, hf7_0⟩ := Kd.R_celln 0 HO115.out (0 : Int) p7 q7; (try rw [show ((0 : Int)).toNat = 0 from rfl] at hx7_0); (try simp only [Nat.reduceMul, Nat.zero_mul, Nat.zero_add, Nat.reduceAdd] at hx7_0); (try rw [show ((0 : Int)).toNat = 0 from rfl] at hf7_0); (try simp only [Nat.reduceMul, Nat.zero_mul, Nat.zero_add, Nat.reduceAdd] at hf7_0); replace p7 := eq_true p7; replace q7 := eq_true q7; obtain ⟨hy10_, hz10_⟩ := Kd.R_celln 0 HO115.out (0 : Int) (by omega) (of_decide_eq_true (by assumption)); (try simp only [Int.reduceToNat, Int.toNat_zero, Int.toNat_ofNat, Nat.reduceMul, Nat.zero_mul, Nat.zero_add] at hy10_ hz10_); (try rw [show ((0 : Int)).toNat = 0 from rfl] at hy10_); (try rw [show ((0 : Int)).toNat = 0 from rfl] at hz10_); have HP10 := Kd.R_putg HO115.out (0 : Int) 1) | ((with_reducible refine gate_store (t := 3) (p := 21) rfl ?_); (try (rw [drewN_self w8]; generalize hq_ : World.drewN w8 _ = w8; have n0_ := Aside0.mk (Kd.R_at hq_ HO115.out); have n1_ := Aside0.mk (below_at hq_ HB.out); clear hq_ HO115 HB; have HO115 := n0_; have HB := n1_; clear n0_ n1_; (try (obtain ⟨hy10_, hz10_⟩ := Kd.R_celln 0 HO115.out (0 : Int) (by omega) (of_decide_eq_true (by assumption)))); (try (try simp only [Int.reduceToNat, Int.toNat_zero, Int.toNat_ofNat, Nat.reduceMul, Nat.zero_mul, Nat.zero_add] at hy10_ hz10_)); (try (try rw [show ((0 : Int)).toNat = 0 from rfl] at hy10_)); (try (try rw [show ((0 : Int)).toNat = 0 from rfl] at hz10_)); (try (have HP10 := Kd.R_putg HO115.out (0 : Int) 1)))); refine store_event (t := 3) (p := 21) (v := ?vo_w11) (w1 := (w8.setCell ⟨go7, (0 : Int).toNat, none⟩ (.int .i64 1))) ?hg ?ho ?hn ?hr ?_; (case ho => rfl); (case hg => rfl); (case hn => rfl); (case hr => first | (go_simp; done) | (go_simp; rfl)); intro w11 hw; have hg : w8.grownBy w11 (some go7) := (by rw [hw]; exact HP10.2); have hp_ : Kd.R (Kd.int .i64) 3 w11 w.heap.size (fun _ => True) (.slice (some ⟨go7, 0, none⟩) y113.length co7) y116 := (by rw [hw, Ny116.out]; exact HP10.1); clear HP10; have n0_ := Aside0.mk (hp_); have n1_ := Aside0.mk ((by rw [hw]; exact below_set (HB.out) GB7.out : Below w.heap.size w w11)); clear HO115; clear HB; have HO115 := n0_; have HB := n1_; clear n0_ n1_; clear hg hw hp_) | ((with_reducible refine gate_dst (N := 22) rfl ?_); refine Kd.R_lit (Kd.int .i64) _ 3 ?hg (N := 22) ?hd (xs := ([0] : List Int)) (inner := [.int .i64 0]) (ok := fun _ => True) (okp := fun _ => True) ?hr ?hp (fun _ hk => hk) trivial (Below.refl _ _) (Nat.le_refl _) (by simp) ?_; (case hd => rfl); (case hg => rfl); (case hr => first | (go_simp; done) | (go_simp; rfl)); (case hp => exact (Reps.one (show Kd.M (Kd.int .i64) _ _ _ 0 [.int .i64 0] from rfl) (Reps.none _ _))); intro v118 w12 ho13 hb hg_ hnew_; clear hg_ hnew_; (first | rw [← Ny117.out] at ho13 | (simp only [Int.reduceToNat] at ho13; rw [← Ny117.out] at ho13)); have n0_ := Aside0.mk (Kd.R_elder' (by (with_reducible repeat (first | apply Kd.R_alloc | apply Kd.R_drewN | apply Kd.R_drew)); exact HO115.out) (Kd.R_base ho13) hb); have n1_ := Aside0.mk (Kd.R_lower (Kd.R_new' ho13 (Kd.R_lt (by (with_reducible repeat (first | apply Kd.R_alloc | apply Kd.R_drewN | apply Kd.R_drew)); exact HO115.out))) (below_size (by repeat (first | (with_reducible first | exact HB.out | apply below_alloc | apply pw_below_drewN | apply below_drew1) | exact HB.out)))); have n2_ := Aside0.mk (below_step (by repeat (first | (with_reducible first | exact HB.out | apply below_alloc | apply pw_below_drewN | apply below_drew1) | exact HB.out)) hb); clear HO115; clear HB; have HO115 := n0_; have HO119 := n1_; have HB := n2_; clear n0_ n1_ n2_; clear hb ho13)); try go_wp2_with (first | (go_at_call 64; (with_reducible refine (bibelotref03_power.calls k a1 a0 t112 _ A3.out).mono ?_); rintro e w' ⟨rfl, ⟨nd, rfl⟩⟩; (try first | exact ⟨rfl, _, World.drewN_drewN _ _ _⟩ | exact ⟨rfl, _, Eq.trans (World.drewN_drewN _ _ _) (congrArg (World.drewN _) (Nat.add_assoc _ _ _))⟩)) | ((with_reducible refine gate_dst (N := 19) rfl ?_); refine Kd.R_make (Kd.int .i64) _ 3 rfl (N := 19) rfl 46 _ _ rfl t112 rfl rfl Tryd.underlying46 (.int .i64 0) 8 info3 rfl (by decide) (by omega) 0 (ok := fun _ => True) (okp := fun _ => True) rfl (fun _ hk => hk) trivial (of_decide_eq_true (by assumption)) (Nat.le_trans (Nat.mul_le_mul_right _ (of_decide_eq_true (by assumption) : t112.toNat ≤ 35184372088832)) (by omega)) (Below.refl _ _) (Nat.le_refl _) ?_; intro v114 w8 ho9 hb hg_ hnew_; clear hg_ hnew_; (first | rw [← Ny113.out] at ho9 | (simp only [Int.reduceToNat] at ho9; rw [← Ny113.out] at ho9)); have n0_ := Aside0.mk (Kd.R_lower ho9 (below_size (by repeat (first | (with_reducible first | exact HB.out | apply below_alloc | apply pw_below_drewN | apply below_drew1) | exact HB.out)))); have n1_ := Aside0.mk (below_step (by repeat (first | (with_reducible first | exact HB.out | apply below_alloc | apply pw_below_drewN | apply below_drew1) | exact HB.out)) hb); clear HB; have HO115 := n0_; have HB := n1_; clear n0_ n1_; clear hb ho9; have p7 : 0 ≤ (0 : Int) := (by omega); have q7 : (0 : Int) < ((y113.length : Int) : Int) := of_decide_eq_true (by assumption); have qi7 : (0 < y113.length) = True := eq_true (by omega); obtain ⟨go7, co7, eo7, gb7, gl7, cl7, HG7⟩ := Kd.R_form HO115.out (by omega); (first | cases eo7 | (injection eo7 with ea_ en_ ec_; (first | subst ea_ | (injection ea_ with ea_; subst ea_)); subst ec_; clear en_)); have GB7 := Aside0.mk gb7; have GG7 := Aside0.mk HG7; clear gb7 gl7 HG7; obtain ⟨hx7_0, hf7_0⟩ := Kd.R_celln 0 HO115.out (0 : Int) p7 q7; (try rw [show ((0 : Int)).toNat = 0 from rfl] at hx7_0); (try simp only [Nat.reduceMul, Nat.zero_mul, Nat.zero_add, Nat.reduceAdd] at hx7_0); (try rw [show ((0 : Int)).toNat = 0 from rfl] at hf7_0); (try simp only [Nat.reduceMul, Nat.zero_mul, Nat.zero_add, Nat.reduceAdd] at hf7_0); replace p7 := eq_true p7; replace q7 := eq_true q7; obtain ⟨hy10_, hz10_⟩ := Kd.R_celln 0 HO115.out (0 : Int) (by omega) (of_decide_eq_true (by assumption)); (try simp only [Int.reduceToNat, Int.toNat_zero, Int.toNat_ofNat, Nat.reduceMul, Nat.zero_mul, Nat.zero_add] at hy10_ hz10_); (try rw [show ((0 : Int)).toNat = 0 from rfl] at hy10_); (try rw [show ((0 : Int)).toNat = 0 from rfl] at hz10_); have HP10 := Kd.R_putg HO115.out (0 : Int) 1) | ((with_reducible refine gate_store (t := 3) (p := 21) rfl ?_); (try (rw [drewN_self w8]; generalize hq_ : World.drewN w8 _ = w8; have n0_ := Aside0.mk (Kd.R_at hq_ HO115.out); have n1_ := Aside0.mk (below_at hq_ HB.out); clear hq_ HO115 HB; have HO115 := n0_; have HB := n1_; clear n0_ n1_; (try (obtain ⟨hy10_, hz10_⟩ := Kd.R_celln 0 HO115.out (0 : Int) (by omega) (of_decide_eq_true (by assumption)))); (try (try simp only [Int.reduceToNat, Int.toNat_zero, Int.toNat_ofNat, Nat.reduceMul, Nat.zero_mul, Nat.zero_add] at hy10_ hz10_)); (try (try rw [show ((0 : Int)).toNat = 0 from rfl] at hy10_)); (try (try rw [show ((0 : Int)).toNat = 0 from rfl] at hz10_)); (try (have HP10 := Kd.R_putg HO115.out (0 : Int) 1)))); refine store_event (t := 3) (p := 21) (v := ?vo_w11) (w1 := (w8.setCell ⟨go7, (0 : Int).toNat, none⟩ (.int .i64 1))) ?hg ?ho ?hn ?hr ?_; (case ho => rfl); (case hg => rfl); (case hn => rfl); (case hr => first | (go_simp; done) | (go_simp; rfl)); intro w11 hw; have hg : w8.grownBy w11 (some go7) := (by rw [hw]; exact HP10.2); have hp_ : Kd.R (Kd.int .i64) 3 w11 w.heap.size (fun _ => True) (.slice (some ⟨go7, 0, none⟩) y113.length co7) y116 := (by rw [hw, Ny116.out]; exact HP10.1); clear HP10; have n0_ := Aside0.mk (hp_); have n1_ := Aside0.mk ((by rw [hw]; exact below_set (HB.out) GB7.out : Below w.heap.size w w11)); clear HO115; clear HB; have HO115 := n0_; have HB := n1_; clear n0_ n1_; clear hg hw hp_) | ((with_reducible refine gate_dst (N := 22) rfl ?_); refine Kd.R_lit (Kd.int .i64) _ 3 ?hg (N := 22) ?hd (xs := ([0] : List Int)) (inner := [.int .i64 0]) (ok := fun _ => True) (okp := fun _ => True) ?hr ?hp (fun _ hk => hk) trivial (Below.refl _ _) (Nat.le_refl _) (by simp) ?_; (case hd => rfl); (case hg => rfl); (case hr => first | (go_simp; done) | (go_simp; rfl)); (case hp => exact (Reps.one (show Kd.M (Kd.int .i64) _ _ _ 0 [.int .i64 0] from rfl) (Reps.none _ _))); intro v118 w12 ho13 hb hg_ hnew_; clear hg_ hnew_; (first | rw [← Ny117.out] at ho13 | (simp only [Int.reduceToNat] at ho13; rw [← Ny117.out] at ho13)); have n0_ := Aside0.mk (Kd.R_elder' (by (with_reducible repeat (first | apply Kd.R_alloc | apply Kd.R_drewN | apply Kd.R_drew)); exact HO115.out) (Kd.R_base ho13) hb); have n1_ := Aside0.mk (Kd.R_lower (Kd.R_new' ho13 (Kd.R_lt (by (with_reducible repeat (first | apply Kd.R_alloc | apply Kd.R_drewN | apply Kd.R_drew)); exact HO115.out))) (below_size (by repeat (first | (with_reducible first | exact HB.out | apply below_alloc | apply pw_below_drewN | apply below_drew1) | exact HB.out)))); have n2_ := Aside0.mk (below_step (by repeat (first | (with_reducible first | exact HB.out | apply below_alloc | apply pw_below_drewN | apply below_drew1) | exact HB.out)) hb); clear HO115; clear HB; have HO115 := n0_; have HO119 := n1_; have HB := n2_; clear n0_ n1_ n2_; clear hb ho13)))
        go_loopg [7, 8] k (fun kq v7 v8 w' => ∃ (x6_1 : List Int) (x7_1 : List Int) (x8_1 : Int), v8 = .int .i64 x8_1 ∧ Aside0 (bibelotref03_Fewest.l0 kq a0 a1 t112 x6_1 x7_1 x8_1 = some r) ∧ Aside0 (kq ≤ k) ∧ Aside0 (Kd.R (Kd.int .i64) 3 w' w.heap.size (fun k_ => some k_ ≠ (v7 : Value).ownBlock) (.slice (some ⟨go7, 0, none⟩) y113.length co7) x6_1) ∧ Aside0 (Kd.R (Kd.int .i64) 3 w' w.heap.size (fun k_ => some k_ ≠ ((.slice (some ⟨go7, 0, none⟩) y113.length co7) : Value).ownBlock) v7 x7_1) ∧ Aside0 (Below w.heap.size w w'))
        case atStart => exact ⟨(y116), (y117), (0), (by first | rfl | (simp; done) | (simp [*]; done)), H', ⟨Nat.le_refl _⟩, ⟨by (with_reducible repeat (first | apply Kd.R_alloc | apply Kd.R_drewN | apply Kd.R_drew)); exact Kd.R_mono HO115.out (fun _ hk => hk.2)⟩, ⟨by (with_reducible repeat (first | apply Kd.R_alloc | apply Kd.R_drewN | apply Kd.R_drew)); exact Kd.R_mono HO119.out (fun _ hk => hk.2)⟩, ⟨by repeat (first | (with_reducible first | exact HB.out | apply below_alloc | apply pw_below_drewN | apply below_drew1) | exact HB.out)⟩⟩
        case round =>
          clear H'
          try clear p2
          try clear c3
          try clear c4
          try clear c4b0
          try clear c4b1
          try clear c5
          try clear c5b0
          try clear c5b1
          try clear c6
          try clear c6b0
          try clear c6b1
          try clear p7
          try clear q7
          try clear hx7
          try clear qi7
          try clear hf7
          try clear hx7_0
          try clear p7
          try clear q7
          obtain ⟨x6_1, x7_1, x8_1, rfl, HA, HK1, HO_6, HO_7, HB⟩ := hrel
          have hl6_1 := (Kd.R_reads' HO_6.out).1
          rw [hl6_1] at HO_6
          (try simp only [hl6_1])
          (try simp only [hl6_1] at HO_7)
          cases gk with
          | zero => exact absurd HA.out (by simp [bibelotref03_Fewest.l0])
          | succ k1 =>
            have H := HA.out
            clear HA
            simp only [bibelotref03_Fewest.l0] at H
            by_cases c14 : x8_1 < (x7_1.length : Int)
            · rw [if_pos c14] at H
              have c14b0 : decide (x8_1 < (x7_1.length : Int)) = true := decide_eq_true c14
              clear c14
              by_cases c15 : 0 ≤ x8_1
              · rw [if_pos c15] at H
                have c15b0 : decide (0 ≤ x8_1) = true := decide_eq_true c15
                clear c15
                replace H := Option.bind_eq_some_iff.mp H
                obtain ⟨t122, A160, H⟩ := H
                replace H : ((bibelotref03_Moves.f k1 t122 a1).bind fun t125 => (bibelotref03_Fewest.l1 k1 a0 a1 t112 x6_1 x7_1 x8_1 t122 t125 0)) = some r := H
                have A16 := Aside0.mk A160
                clear A160
                replace H := Option.bind_eq_some_iff.mp H
                obtain ⟨t125, A170, H⟩ := H
                replace H : (bibelotref03_Fewest.l1 k1 a0 a1 t112 x6_1 x7_1 x8_1 t122 t125 0) = some r := H
                have A17 := Aside0.mk A170
                clear A170
                have H' := Aside0.mk H
                clear H
                obtain ⟨Ao18, co18, eo18⟩ := Kd.R_slice HO_7.out
                subst eo18
                have p121 : 0 ≤ (x8_1 : Int) := of_decide_eq_true (by assumption)
                have q121 : x8_1 < (x7_1.length : Int) := of_decide_eq_true (by assumption)
                obtain ⟨ad121, e121, hx121_0⟩ := Kd.at_int (Kd.R_reads' HO_7.out).2.2 x8_1 p121 q121
                cases e121
                replace p121 := eq_true p121
                replace q121 := eq_true q121
                go_wp2_with (first | (go_at_call 46; (with_reducible refine (bibelotref03_Decoded.calls k1 a0 (rd x7_1 x8_1) a1 t122 _ A16.out).mono ?_); rintro e w19 ⟨v123, rfl, ho0, hb⟩; have n0_ := Aside0.mk (Kd.R_elder' (by (with_reducible repeat (first | apply Kd.R_alloc | apply Kd.R_drewN | apply Kd.R_drew)); exact HO_6.out) (Kd.R_base ho0) hb); have n1_ := Aside0.mk (Kd.R_elder' (by (with_reducible repeat (first | apply Kd.R_alloc | apply Kd.R_drewN | apply Kd.R_drew)); exact HO_7.out) (Kd.R_base ho0) hb); have n2_ := Aside0.mk (Kd.R_lower (Kd.R_new' (Kd.R_new' ho0 (Kd.R_lt (by (with_reducible repeat (first | apply Kd.R_alloc | apply Kd.R_drewN | apply Kd.R_drew)); exact HO_6.out))) (Kd.R_lt (by (with_reducible repeat (first | apply Kd.R_alloc | apply Kd.R_drewN | apply Kd.R_drew)); exact HO_7.out))) (below_size (by repeat (first | (with_reducible first | exact HB.out | apply below_alloc | apply pw_below_drewN | apply below_drew1) | exact HB.out)))); have n3_ := Aside0.mk (below_step (by repeat (first | (with_reducible first | exact HB.out | apply below_alloc | apply pw_below_drewN | apply below_drew1) | exact HB.out)) hb); clear HO_6; clear HO_7; clear HB; have HO_6 := n0_; have HO_7 := n1_; have HO124 := n2_; have HB := n3_; clear n0_ n1_ n2_ n3_; (try clear hb); (try clear hb2); (try clear hk); (try clear hi); (try clear ho0); obtain ⟨Ao20, co20, eo20⟩ := Kd.R_slice HO124.out; subst eo20) | (go_at_call 42; (with_reducible refine (bibelotref03_Moves.calls k1 _ _ t122 a1 t125 _ ?side1 ?side2 A17.out).mono ?_); (case side1 => repeat (first | exact (Kd.R_reads' HO124.out).2.2 | (with_reducible refine Kd.C_alloc ?_ _) | (with_reducible refine Kd.C_drewN ?_ _) | (with_reducible refine Kd.C_drew ?_))); (case side2 => exact (Kd.R_reads' HO124.out).2.1); rintro e w21 ⟨v126, rfl, ho0, hb⟩; have n0_ := Aside0.mk (Kd.R_below (by (with_reducible repeat (first | apply Kd.R_alloc | apply Kd.R_drewN | apply Kd.R_drew)); exact HO_6.out) hb); have n1_ := Aside0.mk (Kd.R_below (by (with_reducible repeat (first | apply Kd.R_alloc | apply Kd.R_drewN | apply Kd.R_drew)); exact HO_7.out) hb); have n2_ := Aside0.mk (Kd.R_below (by (with_reducible repeat (first | apply Kd.R_alloc | apply Kd.R_drewN | apply Kd.R_drew)); exact HO124.out) hb); have n3_ := Aside0.mk (Kd.R_lower ho0 (below_size (by repeat (first | (with_reducible first | exact HB.out | apply below_alloc | apply pw_below_drewN | apply below_drew1) | exact HB.out)))); have n4_ := Aside0.mk (below_step (by repeat (first | (with_reducible first | exact HB.out | apply below_alloc | apply pw_below_drewN | apply below_drew1) | exact HB.out)) hb); clear HO_6; clear HO_7; clear HO124; clear HB; have HO_6 := n0_; have HO_7 := n1_; have HO124 := n2_; have HO127 := n3_; have HB := n4_; clear n0_ n1_ n2_ n3_ n4_; (try clear hb); (try clear hb2); (try clear hk); (try clear hi); (try clear ho0)))
                repeat (go_quiet (first | (go_at_call 46; (with_reducible refine (bibelotref03_Decoded.calls k1 a0 (rd x7_1 x8_1) a1 t122 _ A16.out).mono ?_); rintro e w19 ⟨v123, rfl, ho0, hb⟩; have n0_ := Aside0.mk (Kd.R_elder' (by (with_reducible repeat (first | apply Kd.R_alloc | apply Kd.R_drewN | apply Kd.R_drew)); exact HO_6.out) (Kd.R_base ho0) hb); have n1_ := Aside0.mk (Kd.R_elder' (by (with_reducible repeat (first | apply Kd.R_alloc | apply Kd.R_drewN | apply Kd.R_drew)); exact HO_7.out) (Kd.R_base ho0) hb); have n2_ := Aside0.mk (Kd.R_lower (Kd.R_new' (Kd.R_new' ho0 (Kd.R_lt (by (with_reducible repeat (first | apply Kd.R_alloc | apply Kd.R_drewN | apply Kd.R_drew)); exact HO_6.out))) (Kd.R_lt (by (with_reducible repeat (first | apply Kd.R_alloc | apply Kd.R_drewN | apply Kd.R_drew)); exact HO_7.out))) (below_size (by repeat (first | (with_reducible first | exact HB.out | apply below_alloc | apply pw_below_drewN | apply below_drew1) | exact HB.out)))); have n3_ := Aside0.mk (below_step (by repeat (first | (with_reducible first | exact HB.out | apply below_alloc | apply pw_below_drewN | apply below_drew1) | exact HB.out)) hb); clear HO_6; clear HO_7; clear HB; have HO_6 := n0_; have HO_7 := n1_; have HO124 := n2_; have HB := n3_; clear n0_ n1_ n2_ n3_; (try clear hb); (try clear hb2); (try clear hk); (try clear hi); (try clear ho0); obtain ⟨Ao20, co20, eo20⟩ := Kd.R_slice HO124.out; subst eo20) | (go_at_call 42; (with_reducible refine (bibelotref03_Moves.calls k1 _ _ t122 a1 t125 _ ?side1 ?side2 A17.out).mono ?_); (case side1 => repeat (first | exact (Kd.R_reads' HO124.out).2.2 | (with_reducible refine Kd.C_alloc ?_ _) | (with_reducible refine Kd.C_drewN ?_ _) | (with_reducible refine Kd.C_drew ?_))); (case side2 => exact (Kd.R_reads' HO124.out).2.1); rintro e w21 ⟨v126, rfl, ho0, hb⟩; have n0_ := Aside0.mk (Kd.R_below (by (with_reducible repeat (first | apply Kd.R_alloc | apply Kd.R_drewN | apply Kd.R_drew)); exact HO_6.out) hb); have n1_ := Aside0.mk (Kd.R_below (by (with_reducible repeat (first | apply Kd.R_alloc | apply Kd.R_drewN | apply Kd.R_drew)); exact HO_7.out) hb); have n2_ := Aside0.mk (Kd.R_below (by (with_reducible repeat (first | apply Kd.R_alloc | apply Kd.R_drewN | apply Kd.R_drew)); exact HO124.out) hb); have n3_ := Aside0.mk (Kd.R_lower ho0 (below_size (by repeat (first | (with_reducible first | exact HB.out | apply below_alloc | apply pw_below_drewN | apply below_drew1) | exact HB.out)))); have n4_ := Aside0.mk (below_step (by repeat (first | (with_reducible first | exact HB.out | apply below_alloc | apply pw_below_drewN | apply below_drew1) | exact HB.out)) hb); clear HO_6; clear HO_7; clear HO124; clear HB; have HO_6 := n0_; have HO_7 := n1_; have HO124 := n2_; have HO127 := n3_; have HB := n4_; clear n0_ n1_ n2_ n3_ n4_; (try clear hb); (try clear hb2); (try clear hk); (try clear hi); (try clear ho0))); try go_wp2_with (first | (go_at_call 46; (with_reducible refine (bibelotref03_Decoded.calls k1 a0 (rd x7_1 x8_1) a1 t122 _ A16.out).mono ?_); rintro e w19 ⟨v123, rfl, ho0, hb⟩; have n0_ := Aside0.mk (Kd.R_elder' (by (with_reducible repeat (first | apply Kd.R_alloc | apply Kd.R_drewN | apply Kd.R_drew)); exact HO_6.out) (Kd.R_base ho0) hb); have n1_ := Aside0.mk (Kd.R_elder' (by (with_reducible repeat (first | apply Kd.R_alloc | apply Kd.R_drewN | apply Kd.R_drew)); exact HO_7.out) (Kd.R_base ho0) hb); have n2_ := Aside0.mk (Kd.R_lower (Kd.R_new' (Kd.R_new' ho0 (Kd.R_lt (by (with_reducible repeat (first | apply Kd.R_alloc | apply Kd.R_drewN | apply Kd.R_drew)); exact HO_6.out))) (Kd.R_lt (by (with_reducible repeat (first | apply Kd.R_alloc | apply Kd.R_drewN | apply Kd.R_drew)); exact HO_7.out))) (below_size (by repeat (first | (with_reducible first | exact HB.out | apply below_alloc | apply pw_below_drewN | apply below_drew1) | exact HB.out)))); have n3_ := Aside0.mk (below_step (by repeat (first | (with_reducible first | exact HB.out | apply below_alloc | apply pw_below_drewN | apply below_drew1) | exact HB.out)) hb); clear HO_6; clear HO_7; clear HB; have HO_6 := n0_; have HO_7 := n1_; have HO124 := n2_; have HB := n3_; clear n0_ n1_ n2_ n3_; (try clear hb); (try clear hb2); (try clear hk); (try clear hi); (try clear ho0); obtain ⟨Ao20, co20, eo20⟩ := Kd.R_slice HO124.out; subst eo20) | (go_at_call 42; (with_reducible refine (bibelotref03_Moves.calls k1 _ _ t122 a1 t125 _ ?side1 ?side2 A17.out).mono ?_); (case side1 => repeat (first | exact (Kd.R_reads' HO124.out).2.2 | (with_reducible refine Kd.C_alloc ?_ _) | (with_reducible refine Kd.C_drewN ?_ _) | (with_reducible refine Kd.C_drew ?_))); (case side2 => exact (Kd.R_reads' HO124.out).2.1); rintro e w21 ⟨v126, rfl, ho0, hb⟩; have n0_ := Aside0.mk (Kd.R_below (by (with_reducible repeat (first | apply Kd.R_alloc | apply Kd.R_drewN | apply Kd.R_drew)); exact HO_6.out) hb); have n1_ := Aside0.mk (Kd.R_below (by (with_reducible repeat (first | apply Kd.R_alloc | apply Kd.R_drewN | apply Kd.R_drew)); exact HO_7.out) hb); have n2_ := Aside0.mk (Kd.R_below (by (with_reducible repeat (first | apply Kd.R_alloc | apply Kd.R_drewN | apply Kd.R_drew)); exact HO124.out) hb); have n3_ := Aside0.mk (Kd.R_lower ho0 (below_size (by repeat (first | (with_reducible first | exact HB.out | apply below_alloc | apply pw_below_drewN | apply below_drew1) | exact HB.out)))); have n4_ := Aside0.mk (below_step (by repeat (first | (with_reducible first | exact HB.out | apply below_alloc | apply pw_below_drewN | apply below_drew1) | exact HB.out)) hb); clear HO_6; clear HO_7; clear HO124; clear HB; have HO_6 := n0_; have HO_7 := n1_; have HO124 := n2_; have HO127 := n3_; have HB := n4_; clear n0_ n1_ n2_ n3_ n4_; (try clear hb); (try clear hb2); (try clear hk); (try clear hi); (try clear ho0))))
                go_loopg [7, 11] k1 (fun kq v7 v11 w' => ∃ (x6_2 : List Int) (x7_2 : List Int) (x11_2 : Int), v11 = .int .i64 x11_2 ∧ Aside0 (bibelotref03_Fewest.l1 kq a0 a1 t112 x6_2 x7_2 x8_1 t122 t125 x11_2 = some r) ∧ Aside0 (kq ≤ k1) ∧ Aside0 (Kd.R (Kd.int .i64) 3 w' w.heap.size (fun k_ => some k_ ≠ (v7 : Value).ownBlock ∧ some k_ ≠ ((.slice Ao20 t122.length co20) : Value).ownBlock) (.slice (some ⟨go7, 0, none⟩) x6_1.length co7) x6_2) ∧ Aside0 (Kd.R (Kd.int .i64) 3 w' w.heap.size (fun k_ => some k_ ≠ ((.slice (some ⟨go7, 0, none⟩) x6_1.length co7) : Value).ownBlock ∧ some k_ ≠ ((.slice Ao20 t122.length co20) : Value).ownBlock) v7 x7_2) ∧ Aside0 (Kd.R (Kd.int .i64) 3 w' w.heap.size (fun k_ => some k_ ≠ ((.slice (some ⟨go7, 0, none⟩) x6_1.length co7) : Value).ownBlock ∧ some k_ ≠ (v7 : Value).ownBlock) (.slice Ao20 t122.length co20) t122) ∧ Aside0 (Kd.R k52 52 w' w.heap.size (fun _ => True) v126 t125) ∧ Aside0 (Below w.heap.size w w'))
                case atStart => exact ⟨(x6_1), (x7_1), (0), (by first | rfl | (simp; done) | (simp [*]; done)), H', ⟨Nat.le_refl _⟩, ⟨by (try simp only [hl6_1]); (with_reducible repeat (first | apply Kd.R_alloc | apply Kd.R_drewN | apply Kd.R_drew)); exact HO_6.out⟩, ⟨by (try simp only [hl6_1]); (with_reducible repeat (first | apply Kd.R_alloc | apply Kd.R_drewN | apply Kd.R_drew)); exact HO_7.out⟩, ⟨by (try simp only [hl6_1]); (with_reducible repeat (first | apply Kd.R_alloc | apply Kd.R_drewN | apply Kd.R_drew)); exact Kd.R_mono HO124.out (fun _ hk => ⟨hk.1.2, hk.2⟩)⟩, ⟨by (try simp only [hl6_1]); (with_reducible repeat (first | apply Kd.R_alloc | apply Kd.R_drewN | apply Kd.R_drew)); exact HO127.out⟩, ⟨by repeat (first | (with_reducible first | exact HB.out | apply below_alloc | apply pw_below_drewN | apply below_drew1) | exact HB.out)⟩⟩
                case round =>
                  clear H'
                  try clear c1
                  try clear p1
                  try clear q1
                  try clear hx1
                  try clear p2
                  try clear c3
                  try clear c4
                  try clear c4b0
                  try clear c4b1
                  try clear c5
                  try clear c5b0
                  try clear c5b1
                  try clear c6
                  try clear c6b0
                  try clear c6b1
                  try clear p7
                  try clear q7
                  try clear hx7
                  try clear qi7
                  try clear hf7
                  try clear p12
                  try clear q12
                  try clear hx12
                  try clear c14
                  try clear c14b0
                  try clear c15
                  try clear c15b0
                  try clear hx121_0
                  try clear hx7_0
                  try clear p121
                  try clear p2
                  try clear p7
                  try clear q121
                  try clear q7
                  obtain ⟨x6_2, x7_2, x11_2, rfl, HA, HK2, HO_6, HO_7, HO_9, HO_10, HB⟩ := hrel
                  have hl6_2 := (Kd.R_reads' HO_6.out).1
                  rw [hl6_2] at HO_6
                  (try simp only [hl6_2])
                  (try simp only [hl6_2] at HO_7)
                  (try simp only [hl6_2] at HO_9)
                  (try simp only [hl6_2] at HO_10)
                  cases gk with
                  | zero => exact absurd HA.out (by simp [bibelotref03_Fewest.l1])
                  | succ k2 =>
                    have H := HA.out
                    clear HA
                    simp only [bibelotref03_Fewest.l1] at H
                    by_cases c22 : x11_2 < (t125.length : Int)
                    · rw [if_pos c22] at H
                      have c22b0 : decide (x11_2 < (t125.length : Int)) = true := decide_eq_true c22
                      clear c22
                      by_cases c23 : 0 ≤ x11_2
                      · rw [if_pos c23] at H
                        have c23b0 : decide (0 ≤ x11_2) = true := decide_eq_true c23
                        clear c23
                        by_cases c24 : 0 ≤ x8_1
                        · rw [if_pos c24] at H
                          have c24b0 : decide (0 ≤ x8_1) = true := decide_eq_true c24
                          clear c24
                          by_cases c25 : x8_1 < (x7_2.length : Int)
                          · rw [if_pos c25] at H
                            have c25b0 : decide (x8_1 < (x7_2.length : Int)) = true := decide_eq_true c25
                            clear c25
                            by_cases c26 : 0 ≤ ((rd_T52 t125 x11_2).f0)
                            · rw [if_pos c26] at H
                              have c26b0 : decide (0 ≤ ((rd_T52 t125 x11_2).f0)) = true := decide_eq_true c26
                              clear c26
                              by_cases c27 : ((rd_T52 t125 x11_2).f0) < (t122.length : Int)
                              · rw [if_pos c27] at H
                                have c27b0 : decide (((rd_T52 t125 x11_2).f0) < (t122.length : Int)) = true := decide_eq_true c27
                                clear c27
                                replace H := Option.bind_eq_some_iff.mp H
                                obtain ⟨t132, A280, H⟩ := H
                                replace H : (if 0 ≤ (wrap64 ((rd x7_2 x8_1) + (wrap64 ((wrap64 (((rd_T52 t125 x11_2).f1) - (rd t122 ((rd_T52 t125 x11_2).f0)))) * t132)))) then (if (wrap64 ((rd x7_2 x8_1) + (wrap64 ((wrap64 (((rd_T52 t125 x11_2).f1) - (rd t122 ((rd_T52 t125 x11_2).f0)))) * t132)))) < (x6_2.length : Int) then (if (rd x6_2 (wrap64 ((rd x7_2 x8_1) + (wrap64 ((wrap64 (((rd_T52 t125 x11_2).f1) - (rd t122 ((rd_T52 t125 x11_2).f0)))) * t132))))) = 0 then (if 0 ≤ (rd x7_2 x8_1) then (if (rd x7_2 x8_1) < (x6_2.length : Int) then (if x7_2.length < 17592186044416 then (bibelotref03_Fewest.l1 k2 a0 a1 t112 (x6_2.set ((wrap64 ((rd x7_2 x8_1) + (wrap64 ((wrap64 (((rd_T52 t125 x11_2).f1) - (rd t122 ((rd_T52 t125 x11_2).f0)))) * t132)))) : Int).toNat (wrap64 ((rd x6_2 (rd x7_2 x8_1)) + 1))) (x7_2 ++ [wrap64 ((rd x7_2 x8_1) + (wrap64 ((wrap64 (((rd_T52 t125 x11_2).f1) - (rd t122 ((rd_T52 t125 x11_2).f0)))) * t132)))]) x8_1 t122 t125 (wrap64 (x11_2 + 1))) else (none)) else (none)) else (none)) else (bibelotref03_Fewest.l1 k2 a0 a1 t112 x6_2 x7_2 x8_1 t122 t125 (wrap64 (x11_2 + 1)))) else (none)) else (none)) = some r := H
                                have A28 := Aside0.mk A280
                                clear A280
                                obtain ⟨ji29, hji29⟩ : ∃ j_ : Int, (wrap64 ((rd x7_2 x8_1) + (wrap64 ((wrap64 (((rd_T52 t125 x11_2).f1) - (rd t122 ((rd_T52 t125 x11_2).f0)))) * t132)))) = j_ := ⟨_, rfl⟩
                                replace H : (if 0 ≤ (ji29) then (if (ji29) < (x6_2.length : Int) then (if (rd x6_2 (ji29)) = 0 then (if 0 ≤ (rd x7_2 x8_1) then (if (rd x7_2 x8_1) < (x6_2.length : Int) then (if x7_2.length < 17592186044416 then (bibelotref03_Fewest.l1 k2 a0 a1 t112 (x6_2.set ((ji29) : Int).toNat (wrap64 ((rd x6_2 (rd x7_2 x8_1)) + 1))) (x7_2 ++ [ji29]) x8_1 t122 t125 (wrap64 (x11_2 + 1))) else (none)) else (none)) else (none)) else (bibelotref03_Fewest.l1 k2 a0 a1 t112 x6_2 x7_2 x8_1 t122 t125 (wrap64 (x11_2 + 1)))) else (none)) else (none)) = some r := by first | (rw [hji29] at H; exact H) | (simp only [hji29] at H ⊢; exact H)
                                (try rw [hji29] at A28)
                                have hji29w : (IntKind.i64.wrap ((rd x7_2 x8_1) + (IntKind.i64.wrap ((IntKind.i64.wrap (((rd_T52 t125 x11_2).f1) - (rd t122 ((rd_T52 t125 x11_2).f0)))) * t132)))) = ji29 := by simp only [i64_w]; exact hji29
                                by_cases c30 : 0 ≤ (ji29)
                                · rw [if_pos c30] at H
                                  have c30b0 : decide (0 ≤ (ji29)) = true := decide_eq_true c30
                                  clear c30
                                  by_cases c31 : (ji29) < (x6_2.length : Int)
                                  · rw [if_pos c31] at H
                                    have c31b0 : decide ((ji29) < (x6_2.length : Int)) = true := decide_eq_true c31
                                    clear c31
                                    by_cases c32 : (rd x6_2 (ji29)) = 0
                                    · rw [if_pos c32] at H
                                      have c32b0 : ((rd x6_2 (ji29)) == 0) = true := beq_iff_eq.mpr c32
                                      clear c32
                                      by_cases c33 : 0 ≤ (rd x7_2 x8_1)
                                      · rw [if_pos c33] at H
                                        have c33b0 : decide (0 ≤ (rd x7_2 x8_1)) = true := decide_eq_true c33
                                        clear c33
                                        by_cases c34 : (rd x7_2 x8_1) < (x6_2.length : Int)
                                        · rw [if_pos c34] at H
                                          have c34b0 : decide ((rd x7_2 x8_1) < (x6_2.length : Int)) = true := decide_eq_true c34
                                          clear c34
                                          obtain ⟨y136, hy136⟩ : ∃ y_ : List Int, y_ = (x6_2.set ((ji29) : Int).toNat (wrap64 ((rd x6_2 (rd x7_2 x8_1)) + 1))) := ⟨_, rfl⟩
                                          replace H : (if x7_2.length < 17592186044416 then (bibelotref03_Fewest.l1 k2 a0 a1 t112 y136 (x7_2 ++ [ji29]) x8_1 t122 t125 (wrap64 (x11_2 + 1))) else (none)) = some r := by first | (rw [hy136]; exact H) | exact H
                                          have Ny136 := Aside0.mk hy136
                                          clear hy136
                                          by_cases c36 : x7_2.length < 17592186044416
                                          · rw [if_pos c36] at H
                                            have LMc36 := Aside0.mk c36
                                            clear c36
                                            obtain ⟨y137, hy137⟩ : ∃ y_ : List Int, y_ = (x7_2 ++ [ji29]) := ⟨_, rfl⟩
                                            replace H : (bibelotref03_Fewest.l1 k2 a0 a1 t112 y136 y137 x8_1 t122 t125 (wrap64 (x11_2 + 1))) = some r := by first | (rw [hy137]; exact H) | exact H
                                            have Ny137 := Aside0.mk hy137
                                            clear hy137
                                            have H' := Aside0.mk H
                                            clear H
                                            obtain ⟨Ao37, co37, eo37⟩ := Kd.R_slice HO_10.out
                                            subst eo37
                                            have p128 : 0 ≤ (x11_2 : Int) := of_decide_eq_true (by assumption)
                                            have q128 : x11_2 < (t125.length : Int) := of_decide_eq_true (by assumption)
                                            obtain ⟨ad128, e128, hx128_0, hx128_1⟩ := at_T52 (Kd.R_reads' HO_10.out).2.2 x11_2 p128 q128
                                            cases e128
                                            replace p128 := eq_true p128
                                            replace q128 := eq_true q128
                                            have p129 : 0 ≤ (x11_2 : Int) := of_decide_eq_true (by assumption)
                                            have q129 : x11_2 < (t125.length : Int) := of_decide_eq_true (by assumption)
                                            obtain ⟨ad129, e129, hx129_0, hx129_1⟩ := at_T52 (Kd.R_reads' HO_10.out).2.2 x11_2 p129 q129
                                            obtain rfl : ad128 = ad129 := (by injection e129)
                                            replace p129 := eq_true p129
                                            replace q129 := eq_true q129
                                            obtain ⟨Ao38, co38, eo38⟩ := Kd.R_slice HO_7.out
                                            subst eo38
                                            have p130 : 0 ≤ (x8_1 : Int) := of_decide_eq_true (by assumption)
                                            have q130 : x8_1 < (x7_2.length : Int) := of_decide_eq_true (by assumption)
                                            obtain ⟨ad130, e130, hx130_0⟩ := Kd.at_int (Kd.R_reads' HO_7.out).2.2 x8_1 p130 q130
                                            cases e130
                                            replace p130 := eq_true p130
                                            replace q130 := eq_true q130
                                            have p131 : 0 ≤ (((rd_T52 t125 x11_2).f0) : Int) := of_decide_eq_true (by assumption)
                                            have q131 : ((rd_T52 t125 x11_2).f0) < (t122.length : Int) := of_decide_eq_true (by assumption)
                                            obtain ⟨ad131, e131, hx131_0⟩ := Kd.at_int (Kd.R_reads' HO_9.out).2.2 ((rd_T52 t125 x11_2).f0) p131 q131
                                            cases e131
                                            replace p131 := eq_true p131
                                            replace q131 := eq_true q131
                                            go_wp2_with (first | (go_at_call 64; (with_reducible refine (bibelotref03_power.calls k2 a1 ((rd_T52 t125 x11_2).f0) t132 _ A28.out).mono ?_); rintro e w' ⟨rfl, ⟨nd, rfl⟩⟩; (try first | exact ⟨rfl, _, World.drewN_drewN _ _ _⟩ | exact ⟨rfl, _, Eq.trans (World.drewN_drewN _ _ _) (congrArg (World.drewN _) (Nat.add_assoc _ _ _))⟩); have p133 : 0 ≤ ((ji29) : Int) := of_decide_eq_true (by assumption); have q133 : (ji29) < (x6_2.length : Int) := of_decide_eq_true (by assumption); obtain ⟨ad133, e133, hx133_0⟩ := Kd.at_int (Kd.R_reads' HO_6.out).2.2 (ji29) p133 q133; obtain rfl : (⟨go7, 0, none⟩ : Addr) = ad133 := (by injection e133); (first | simp only [add_plain] at hx133_0 | simp only [add_at] at hx133_0 | simp only [Addr.add, Nat.zero_add] at hx133_0 | skip); replace p133 := eq_true p133; replace q133 := eq_true q133; have p134 : 0 ≤ (x8_1 : Int) := of_decide_eq_true (by assumption); have q134 : x8_1 < (x7_2.length : Int) := of_decide_eq_true (by assumption); obtain ⟨ad134, e134, hx134_0⟩ := Kd.at_int (Kd.R_reads' HO_7.out).2.2 x8_1 p134 q134; obtain rfl : ad130 = ad134 := (by injection e134); replace p134 := eq_true p134; replace q134 := eq_true q134; have p135 : 0 ≤ ((rd x7_2 x8_1) : Int) := of_decide_eq_true (by assumption); have q135 : (rd x7_2 x8_1) < (x6_2.length : Int) := of_decide_eq_true (by assumption); obtain ⟨ad135, e135, hx135_0⟩ := Kd.at_int (Kd.R_reads' HO_6.out).2.2 (rd x7_2 x8_1) p135 q135; obtain rfl : (⟨go7, 0, none⟩ : Addr) = ad135 := (by injection e135); (first | simp only [add_plain] at hx135_0 | simp only [add_at] at hx135_0 | simp only [Addr.add, Nat.zero_add] at hx135_0 | skip); replace p135 := eq_true p135; replace q135 := eq_true q135; have p35 : 0 ≤ ((ji29) : Int) := of_decide_eq_true (by assumption); have q35 : ((ji29) : Int) < ((x6_2.length : Int) : Int) := of_decide_eq_true (by assumption); obtain ⟨hx35_0, hf35_0⟩ := Kd.R_celln 0 HO_6.out ((ji29) : Int) p35 q35; replace p35 := eq_true p35; replace q35 := eq_true q35; obtain ⟨hy39_, hz39_⟩ := Kd.R_celln 0 HO_6.out ((ji29) : Int) (of_decide_eq_true (by assumption)) (of_decide_eq_true (by assumption)); have HP39 := Kd.R_putg HO_6.out ((ji29) : Int) (wrap64 ((rd x6_2 (rd x7_2 x8_1)) + 1))) | ((with_reducible refine gate_store (t := 3) (p := 85) rfl ?_); (try (rw [drewN_self wr]; generalize hq_ : World.drewN wr _ = wr; have n0_ := Aside0.mk (Kd.R_at hq_ HO_6.out); have n1_ := Aside0.mk (Kd.R_at hq_ HO_7.out); have n2_ := Aside0.mk (Kd.R_at hq_ HO_9.out); have n3_ := Aside0.mk (Kd.R_at hq_ HO_10.out); have n4_ := Aside0.mk (below_at hq_ HB.out); clear hq_ HO_6 HO_7 HO_9 HO_10 HB; have HO_6 := n0_; have HO_7 := n1_; have HO_9 := n2_; have HO_10 := n3_; have HB := n4_; clear n0_ n1_ n2_ n3_ n4_; (try (obtain ⟨hy39_, hz39_⟩ := Kd.R_celln 0 HO_6.out ((ji29) : Int) (of_decide_eq_true (by assumption)) (of_decide_eq_true (by assumption)))); (try (have HP39 := Kd.R_putg HO_6.out ((ji29) : Int) (wrap64 ((rd x6_2 (rd x7_2 x8_1)) + 1)))))); refine store_event (t := 3) (p := 85) (v := ?vo_w40) (w1 := (wr.setCell ⟨go7, ((ji29) : Int).toNat, none⟩ (.int .i64 (wrap64 ((rd x6_2 (rd x7_2 x8_1)) + 1))))) ?hg ?ho ?hn ?hr ?_; (case ho => rfl); (case hg => rfl); (case hn => rfl); (case hr => first | (go_simp; done) | (go_simp; rfl)); intro w40 hw; have hg : wr.grownBy w40 (some go7) := (by rw [hw]; exact HP39.2); have hp_ : Kd.R (Kd.int .i64) 3 w40 w.heap.size (fun k_ => some k_ ≠ (.slice (some ad130) x7_2.length co38 : Value).ownBlock ∧ some k_ ≠ (.slice (some ad131) t122.length co20 : Value).ownBlock) (.slice (some ⟨go7, 0, none⟩) x6_2.length co7) y136 := (by rw [hw, Ny136.out]; exact HP39.1); clear HP39; have n0_ := Aside0.mk (hp_); have n1_ := Aside0.mk (Kd.R_after (v := (.slice (some ⟨go7, 0, none⟩) x6_2.length co7)) (v1 := (.slice (some ⟨go7, 0, none⟩) x6_2.length co7)) (ok := (fun k_ => some k_ ≠ (.slice (some ad131) t122.length co20 : Value).ownBlock)) (by (with_reducible repeat (first | apply Kd.R_alloc | apply Kd.R_drewN | apply Kd.R_drew)); exact Kd.R_mono HO_7.out (fun _ hk => ⟨hk.2, hk.1⟩)) hg (.inl rfl)); have n2_ := Aside0.mk (Kd.R_after (v := (.slice (some ⟨go7, 0, none⟩) x6_2.length co7)) (v1 := (.slice (some ⟨go7, 0, none⟩) x6_2.length co7)) (ok := (fun k_ => some k_ ≠ (.slice (some ad130) x7_2.length co38 : Value).ownBlock)) (by (with_reducible repeat (first | apply Kd.R_alloc | apply Kd.R_drewN | apply Kd.R_drew)); exact Kd.R_mono HO_9.out (fun _ hk => ⟨hk.2, hk.1⟩)) hg (.inl rfl)); have n3_ := Aside0.mk (Kd.R_over' (v := (.slice (some ⟨go7, 0, none⟩) x6_2.length co7)) (by (with_reducible repeat (first | apply Kd.R_alloc | apply Kd.R_drewN | apply Kd.R_drew)); exact HO_10.out) (Kd.R_typed HO_6.out) (by decide) hg); have n4_ := Aside0.mk ((by rw [hw]; exact below_set (HB.out) GB7.out : Below w.heap.size w w40)); clear HO_6; clear HO_7; clear HO_9; clear HO_10; clear HB; have HO_6 := n0_; have HO_7 := n1_; have HO_9 := n2_; have HO_10 := n3_; have HB := n4_; clear n0_ n1_ n2_ n3_ n4_; clear hg hw hp_) | ((with_reducible refine gate_builtin (b := .append) (xs := #[.tmp 86, .tmp 88]) rfl ?_); at_builtin; refine Kd.R_append (Kd.int .i64) (w0 := w) w.heap.size rfl (.tmp 86) (.tmp 88) 46 3 (.int .i64 0) 8 rfl Tryd.underlying46 info3 rfl (by decide) (by omega) (.slice (some ad130) x7_2.length co38) x7_2 ji29 [.int .i64 ji29] (fun k_ => some k_ ≠ (.slice (some ⟨go7, 0, none⟩) x6_2.length co7 : Value).ownBlock ∧ some k_ ≠ (.slice (some ad131) t122.length co20 : Value).ownBlock) (fun _ => False) rfl rfl ?aP (fun _ hk => hk.elim) ?aF ?aO ?aB ?aS ?aL ?_; (case aP => exact rfl); (case aB => exact (by repeat (first | (with_reducible first | exact HB.out | apply below_alloc | apply pw_below_drewN | apply below_drew1) | exact HB.out))); (case aF => exact (fun k_ hk => ⟨Kd.fresh' (Kd.R_lt (by (with_reducible repeat (first | apply Kd.R_alloc | apply Kd.R_drewN | apply Kd.R_drew)); exact HO_6.out)) k_ hk, Kd.fresh' (Kd.R_lt (by (with_reducible repeat (first | apply Kd.R_alloc | apply Kd.R_drewN | apply Kd.R_drew)); exact HO_9.out)) k_ hk⟩)); (case aO => exact (by (with_reducible repeat (first | apply Kd.R_alloc | apply Kd.R_drewN | apply Kd.R_drew)); exact Kd.R_mono HO_7.out (fun _ hk => ⟨hk.2, hk.1⟩))); (case aS => exact (below_size (by repeat (first | (with_reducible first | exact HB.out | apply below_alloc | apply pw_below_drewN | apply below_drew1) | exact HB.out)))); (case aL => have := LMc36.out; omega); intro v138 w41 ho hb hg hat; rw [← Ny137.out] at ho; have n0_ := Aside0.mk (Kd.R_after (ok := (fun k_ => some k_ ≠ (.slice (some ad131) t122.length co20 : Value).ownBlock)) (by (with_reducible repeat (first | apply Kd.R_alloc | apply Kd.R_drewN | apply Kd.R_drew)); exact Kd.R_mono HO_6.out (fun _ hk => ⟨hk.2, hk.1⟩)) hg hat); have n1_ := Aside0.mk (Kd.R_after (ok := (fun k_ => some k_ ≠ (.slice (some ⟨go7, 0, none⟩) x6_2.length co7 : Value).ownBlock)) (by (with_reducible repeat (first | apply Kd.R_alloc | apply Kd.R_drewN | apply Kd.R_drew)); exact Kd.R_mono HO_9.out (fun _ hk => ⟨hk.2, hk.1⟩)) hg hat); have n2_ := Aside0.mk (Kd.R_over' (by (with_reducible repeat (first | apply Kd.R_alloc | apply Kd.R_drewN | apply Kd.R_drew)); exact HO_10.out) (Kd.R_typed (by (with_reducible repeat (first | apply Kd.R_alloc | apply Kd.R_drewN | apply Kd.R_drew)); exact HO_7.out)) (by decide) hg); have n3_ := Aside0.mk (hb); have n4_ := Aside0.mk (ho); clear HO_6; clear HO_9; clear HO_10; clear HB; clear HO_7; have HO_6 := n0_; have HO_9 := n1_; have HO_10 := n2_; have HB := n3_; have HO139 := n4_; clear n0_ n1_ n2_ n3_ n4_; clear ho hb hg hat))
                                            repeat (go_quiet (first | (go_at_call 64; (with_reducible refine (bibelotref03_power.calls k2 a1 ((rd_T52 t125 x11_2).f0) t132 _ A28.out).mono ?_); rintro e w' ⟨rfl, ⟨nd, rfl⟩⟩; (try first | exact ⟨rfl, _, World.drewN_drewN _ _ _⟩ | exact ⟨rfl, _, Eq.trans (World.drewN_drewN _ _ _) (congrArg (World.drewN _) (Nat.add_assoc _ _ _))⟩); have p133 : 0 ≤ ((ji29) : Int) := of_decide_eq_true (by assumption); have q133 : (ji29) < (x6_2.length : Int) := of_decide_eq_true (by assumption); obtain ⟨ad133, e133, hx133_0⟩ := Kd.at_int (Kd.R_reads' HO_6.out).2.2 (ji29) p133 q133; obtain rfl : (⟨go7, 0, none⟩ : Addr) = ad133 := (by injection e133); (first | simp only [add_plain] at hx133_0 | simp only [add_at] at hx133_0 | simp only [Addr.add, Nat.zero_add] at hx133_0 | skip); replace p133 := eq_true p133; replace q133 := eq_true q133; have p134 : 0 ≤ (x8_1 : Int) := of_decide_eq_true (by assumption); have q134 : x8_1 < (x7_2.length : Int) := of_decide_eq_true (by assumption); obtain ⟨ad134, e134, hx134_0⟩ := Kd.at_int (Kd.R_reads' HO_7.out).2.2 x8_1 p134 q134; obtain rfl : ad130 = ad134 := (by injection e134); replace p134 := eq_true p134; replace q134 := eq_true q134; have p135 : 0 ≤ ((rd x7_2 x8_1) : Int) := of_decide_eq_true (by assumption); have q135 : (rd x7_2 x8_1) < (x6_2.length : Int) := of_decide_eq_true (by assumption); obtain ⟨ad135, e135, hx135_0⟩ := Kd.at_int (Kd.R_reads' HO_6.out).2.2 (rd x7_2 x8_1) p135 q135; obtain rfl : (⟨go7, 0, none⟩ : Addr) = ad135 := (by injection e135); (first | simp only [add_plain] at hx135_0 | simp only [add_at] at hx135_0 | simp only [Addr.add, Nat.zero_add] at hx135_0 | skip); replace p135 := eq_true p135; replace q135 := eq_true q135; have p35 : 0 ≤ ((ji29) : Int) := of_decide_eq_true (by assumption); have q35 : ((ji29) : Int) < ((x6_2.length : Int) : Int) := of_decide_eq_true (by assumption); obtain ⟨hx35_0, hf35_0⟩ := Kd.R_celln 0 HO_6.out ((ji29) : Int) p35 q35; replace p35 := eq_true p35; replace q35 := eq_true q35; obtain ⟨hy39_, hz39_⟩ := Kd.R_celln 0 HO_6.out ((ji29) : Int) (of_decide_eq_true (by assumption)) (of_decide_eq_true (by assumption)); have HP39 := Kd.R_putg HO_6.out ((ji29) : Int) (wrap64 ((rd x6_2 (rd x7_2 x8_1)) + 1))) | ((with_reducible refine gate_store (t := 3) (p := 85) rfl ?_); (try (rw [drewN_self wr]; generalize hq_ : World.drewN wr _ = wr; have n0_ := Aside0.mk (Kd.R_at hq_ HO_6.out); have n1_ := Aside0.mk (Kd.R_at hq_ HO_7.out); have n2_ := Aside0.mk (Kd.R_at hq_ HO_9.out); have n3_ := Aside0.mk (Kd.R_at hq_ HO_10.out); have n4_ := Aside0.mk (below_at hq_ HB.out); clear hq_ HO_6 HO_7 HO_9 HO_10 HB; have HO_6 := n0_; have HO_7 := n1_; have HO_9 := n2_; have HO_10 := n3_; have HB := n4_; clear n0_ n1_ n2_ n3_ n4_; (try (obtain ⟨hy39_, hz39_⟩ := Kd.R_celln 0 HO_6.out ((ji29) : Int) (of_decide_eq_true (by assumption)) (of_decide_eq_true (by assumption)))); (try (have HP39 := Kd.R_putg HO_6.out ((ji29) : Int) (wrap64 ((rd x6_2 (rd x7_2 x8_1)) + 1)))))); refine store_event (t := 3) (p := 85) (v := ?vo_w40) (w1 := (wr.setCell ⟨go7, ((ji29) : Int).toNat, none⟩ (.int .i64 (wrap64 ((rd x6_2 (rd x7_2 x8_1)) + 1))))) ?hg ?ho ?hn ?hr ?_; (case ho => rfl); (case hg => rfl); (case hn => rfl); (case hr => first | (go_simp; done) | (go_simp; rfl)); intro w40 hw; have hg : wr.grownBy w40 (some go7) := (by rw [hw]; exact HP39.2); have hp_ : Kd.R (Kd.int .i64) 3 w40 w.heap.size (fun k_ => some k_ ≠ (.slice (some ad130) x7_2.length co38 : Value).ownBlock ∧ some k_ ≠ (.slice (some ad131) t122.length co20 : Value).ownBlock) (.slice (some ⟨go7, 0, none⟩) x6_2.length co7) y136 := (by rw [hw, Ny136.out]; exact HP39.1); clear HP39; have n0_ := Aside0.mk (hp_); have n1_ := Aside0.mk (Kd.R_after (v := (.slice (some ⟨go7, 0, none⟩) x6_2.length co7)) (v1 := (.slice (some ⟨go7, 0, none⟩) x6_2.length co7)) (ok := (fun k_ => some k_ ≠ (.slice (some ad131) t122.length co20 : Value).ownBlock)) (by (with_reducible repeat (first | apply Kd.R_alloc | apply Kd.R_drewN | apply Kd.R_drew)); exact Kd.R_mono HO_7.out (fun _ hk => ⟨hk.2, hk.1⟩)) hg (.inl rfl)); have n2_ := Aside0.mk (Kd.R_after (v := (.slice (some ⟨go7, 0, none⟩) x6_2.length co7)) (v1 := (.slice (some ⟨go7, 0, none⟩) x6_2.length co7)) (ok := (fun k_ => some k_ ≠ (.slice (some ad130) x7_2.length co38 : Value).ownBlock)) (by (with_reducible repeat (first | apply Kd.R_alloc | apply Kd.R_drewN | apply Kd.R_drew)); exact Kd.R_mono HO_9.out (fun _ hk => ⟨hk.2, hk.1⟩)) hg (.inl rfl)); have n3_ := Aside0.mk (Kd.R_over' (v := (.slice (some ⟨go7, 0, none⟩) x6_2.length co7)) (by (with_reducible repeat (first | apply Kd.R_alloc | apply Kd.R_drewN | apply Kd.R_drew)); exact HO_10.out) (Kd.R_typed HO_6.out) (by decide) hg); have n4_ := Aside0.mk ((by rw [hw]; exact below_set (HB.out) GB7.out : Below w.heap.size w w40)); clear HO_6; clear HO_7; clear HO_9; clear HO_10; clear HB; have HO_6 := n0_; have HO_7 := n1_; have HO_9 := n2_; have HO_10 := n3_; have HB := n4_; clear n0_ n1_ n2_ n3_ n4_; clear hg hw hp_) | ((with_reducible refine gate_builtin (b := .append) (xs := #[.tmp 86, .tmp 88]) rfl ?_); at_builtin; refine Kd.R_append (Kd.int .i64) (w0 := w) w.heap.size rfl (.tmp 86) (.tmp 88) 46 3 (.int .i64 0) 8 rfl Tryd.underlying46 info3 rfl (by decide) (by omega) (.slice (some ad130) x7_2.length co38) x7_2 ji29 [.int .i64 ji29] (fun k_ => some k_ ≠ (.slice (some ⟨go7, 0, none⟩) x6_2.length co7 : Value).ownBlock ∧ some k_ ≠ (.slice (some ad131) t122.length co20 : Value).ownBlock) (fun _ => False) rfl rfl ?aP (fun _ hk => hk.elim) ?aF ?aO ?aB ?aS ?aL ?_; (case aP => exact rfl); (case aB => exact (by repeat (first | (with_reducible first | exact HB.out | apply below_alloc | apply pw_below_drewN | apply below_drew1) | exact HB.out))); (case aF => exact (fun k_ hk => ⟨Kd.fresh' (Kd.R_lt (by (with_reducible repeat (first | apply Kd.R_alloc | apply Kd.R_drewN | apply Kd.R_drew)); exact HO_6.out)) k_ hk, Kd.fresh' (Kd.R_lt (by (with_reducible repeat (first | apply Kd.R_alloc | apply Kd.R_drewN | apply Kd.R_drew)); exact HO_9.out)) k_ hk⟩)); (case aO => exact (by (with_reducible repeat (first | apply Kd.R_alloc | apply Kd.R_drewN | apply Kd.R_drew)); exact Kd.R_mono HO_7.out (fun _ hk => ⟨hk.2, hk.1⟩))); (case aS => exact (below_size (by repeat (first | (with_reducible first | exact HB.out | apply below_alloc | apply pw_below_drewN | apply below_drew1) | exact HB.out)))); (case aL => have := LMc36.out; omega); intro v138 w41 ho hb hg hat; rw [← Ny137.out] at ho; have n0_ := Aside0.mk (Kd.R_after (ok := (fun k_ => some k_ ≠ (.slice (some ad131) t122.length co20 : Value).ownBlock)) (by (with_reducible repeat (first | apply Kd.R_alloc | apply Kd.R_drewN | apply Kd.R_drew)); exact Kd.R_mono HO_6.out (fun _ hk => ⟨hk.2, hk.1⟩)) hg hat); have n1_ := Aside0.mk (Kd.R_after (ok := (fun k_ => some k_ ≠ (.slice (some ⟨go7, 0, none⟩) x6_2.length co7 : Value).ownBlock)) (by (with_reducible repeat (first | apply Kd.R_alloc | apply Kd.R_drewN | apply Kd.R_drew)); exact Kd.R_mono HO_9.out (fun _ hk => ⟨hk.2, hk.1⟩)) hg hat); have n2_ := Aside0.mk (Kd.R_over' (by (with_reducible repeat (first | apply Kd.R_alloc | apply Kd.R_drewN | apply Kd.R_drew)); exact HO_10.out) (Kd.R_typed (by (with_reducible repeat (first | apply Kd.R_alloc | apply Kd.R_drewN | apply Kd.R_drew)); exact HO_7.out)) (by decide) hg); have n3_ := Aside0.mk (hb); have n4_ := Aside0.mk (ho); clear HO_6; clear HO_9; clear HO_10; clear HB; clear HO_7; have HO_6 := n0_; have HO_9 := n1_; have HO_10 := n2_; have HB := n3_; have HO139 := n4_; clear n0_ n1_ n2_ n3_ n4_; clear ho hb hg hat)); try go_wp2_with (first | (go_at_call 64; (with_reducible refine (bibelotref03_power.calls k2 a1 ((rd_T52 t125 x11_2).f0) t132 _ A28.out).mono ?_); rintro e w' ⟨rfl, ⟨nd, rfl⟩⟩; (try first | exact ⟨rfl, _, World.drewN_drewN _ _ _⟩ | exact ⟨rfl, _, Eq.trans (World.drewN_drewN _ _ _) (congrArg (World.drewN _) (Nat.add_assoc _ _ _))⟩); have p133 : 0 ≤ ((ji29) : Int) := of_decide_eq_true (by assumption); have q133 : (ji29) < (x6_2.length : Int) := of_decide_eq_true (by assumption); obtain ⟨ad133, e133, hx133_0⟩ := Kd.at_int (Kd.R_reads' HO_6.out).2.2 (ji29) p133 q133; obtain rfl : (⟨go7, 0, none⟩ : Addr) = ad133 := (by injection e133); (first | simp only [add_plain] at hx133_0 | simp only [add_at] at hx133_0 | simp only [Addr.add, Nat.zero_add] at hx133_0 | skip); replace p133 := eq_true p133; replace q133 := eq_true q133; have p134 : 0 ≤ (x8_1 : Int) := of_decide_eq_true (by assumption); have q134 : x8_1 < (x7_2.length : Int) := of_decide_eq_true (by assumption); obtain ⟨ad134, e134, hx134_0⟩ := Kd.at_int (Kd.R_reads' HO_7.out).2.2 x8_1 p134 q134; obtain rfl : ad130 = ad134 := (by injection e134); replace p134 := eq_true p134; replace q134 := eq_true q134; have p135 : 0 ≤ ((rd x7_2 x8_1) : Int) := of_decide_eq_true (by assumption); have q135 : (rd x7_2 x8_1) < (x6_2.length : Int) := of_decide_eq_true (by assumption); obtain ⟨ad135, e135, hx135_0⟩ := Kd.at_int (Kd.R_reads' HO_6.out).2.2 (rd x7_2 x8_1) p135 q135; obtain rfl : (⟨go7, 0, none⟩ : Addr) = ad135 := (by injection e135); (first | simp only [add_plain] at hx135_0 | simp only [add_at] at hx135_0 | simp only [Addr.add, Nat.zero_add] at hx135_0 | skip); replace p135 := eq_true p135; replace q135 := eq_true q135; have p35 : 0 ≤ ((ji29) : Int) := of_decide_eq_true (by assumption); have q35 : ((ji29) : Int) < ((x6_2.length : Int) : Int) := of_decide_eq_true (by assumption); obtain ⟨hx35_0, hf35_0⟩ := Kd.R_celln 0 HO_6.out ((ji29) : Int) p35 q35; replace p35 := eq_true p35; replace q35 := eq_true q35; obtain ⟨hy39_, hz39_⟩ := Kd.R_celln 0 HO_6.out ((ji29) : Int) (of_decide_eq_true (by assumption)) (of_decide_eq_true (by assumption)); have HP39 := Kd.R_putg HO_6.out ((ji29) : Int) (wrap64 ((rd x6_2 (rd x7_2 x8_1)) + 1))) | ((with_reducible refine gate_store (t := 3) (p := 85) rfl ?_); (try (rw [drewN_self wr]; generalize hq_ : World.drewN wr _ = wr; have n0_ := Aside0.mk (Kd.R_at hq_ HO_6.out); have n1_ := Aside0.mk (Kd.R_at hq_ HO_7.out); have n2_ := Aside0.mk (Kd.R_at hq_ HO_9.out); have n3_ := Aside0.mk (Kd.R_at hq_ HO_10.out); have n4_ := Aside0.mk (below_at hq_ HB.out); clear hq_ HO_6 HO_7 HO_9 HO_10 HB; have HO_6 := n0_; have HO_7 := n1_; have HO_9 := n2_; have HO_10 := n3_; have HB := n4_; clear n0_ n1_ n2_ n3_ n4_; (try (obtain ⟨hy39_, hz39_⟩ := Kd.R_celln 0 HO_6.out ((ji29) : Int) (of_decide_eq_true (by assumption)) (of_decide_eq_true (by assumption)))); (try (have HP39 := Kd.R_putg HO_6.out ((ji29) : Int) (wrap64 ((rd x6_2 (rd x7_2 x8_1)) + 1)))))); refine store_event (t := 3) (p := 85) (v := ?vo_w40) (w1 := (wr.setCell ⟨go7, ((ji29) : Int).toNat, none⟩ (.int .i64 (wrap64 ((rd x6_2 (rd x7_2 x8_1)) + 1))))) ?hg ?ho ?hn ?hr ?_; (case ho => rfl); (case hg => rfl); (case hn => rfl); (case hr => first | (go_simp; done) | (go_simp; rfl)); intro w40 hw; have hg : wr.grownBy w40 (some go7) := (by rw [hw]; exact HP39.2); have hp_ : Kd.R (Kd.int .i64) 3 w40 w.heap.size (fun k_ => some k_ ≠ (.slice (some ad130) x7_2.length co38 : Value).ownBlock ∧ some k_ ≠ (.slice (some ad131) t122.length co20 : Value).ownBlock) (.slice (some ⟨go7, 0, none⟩) x6_2.length co7) y136 := (by rw [hw, Ny136.out]; exact HP39.1); clear HP39; have n0_ := Aside0.mk (hp_); have n1_ := Aside0.mk (Kd.R_after (v := (.slice (some ⟨go7, 0, none⟩) x6_2.length co7)) (v1 := (.slice (some ⟨go7, 0, none⟩) x6_2.length co7)) (ok := (fun k_ => some k_ ≠ (.slice (some ad131) t122.length co20 : Value).ownBlock)) (by (with_reducible repeat (first | apply Kd.R_alloc | apply Kd.R_drewN | apply Kd.R_drew)); exact Kd.R_mono HO_7.out (fun _ hk => ⟨hk.2, hk.1⟩)) hg (.inl rfl)); have n2_ := Aside0.mk (Kd.R_after (v := (.slice (some ⟨go7, 0, none⟩) x6_2.length co7)) (v1 := (.slice (some ⟨go7, 0, none⟩) x6_2.length co7)) (ok := (fun k_ => some k_ ≠ (.slice (some ad130) x7_2.length co38 : Value).ownBlock)) (by (with_reducible repeat (first | apply Kd.R_alloc | apply Kd.R_drewN | apply Kd.R_drew)); exact Kd.R_mono HO_9.out (fun _ hk => ⟨hk.2, hk.1⟩)) hg (.inl rfl)); have n3_ := Aside0.mk (Kd.R_over' (v := (.slice (some ⟨go7, 0, none⟩) x6_2.length co7)) (by (with_reducible repeat (first | apply Kd.R_alloc | apply Kd.R_drewN | apply Kd.R_drew)); exact HO_10.out) (Kd.R_typed HO_6.out) (by decide) hg); have n4_ := Aside0.mk ((by rw [hw]; exact below_set (HB.out) GB7.out : Below w.heap.size w w40)); clear HO_6; clear HO_7; clear HO_9; clear HO_10; clear HB; have HO_6 := n0_; have HO_7 := n1_; have HO_9 := n2_; have HO_10 := n3_; have HB := n4_; clear n0_ n1_ n2_ n3_ n4_; clear hg hw hp_) | ((with_reducible refine gate_builtin (b := .append) (xs := #[.tmp 86, .tmp 88]) rfl ?_); at_builtin; refine Kd.R_append (Kd.int .i64) (w0 := w) w.heap.size rfl (.tmp 86) (.tmp 88) 46 3 (.int .i64 0) 8 rfl Tryd.underlying46 info3 rfl (by decide) (by omega) (.slice (some ad130) x7_2.length co38) x7_2 ji29 [.int .i64 ji29] (fun k_ => some k_ ≠ (.slice (some ⟨go7, 0, none⟩) x6_2.length co7 : Value).ownBlock ∧ some k_ ≠ (.slice (some ad131) t122.length co20 : Value).ownBlock) (fun _ => False) rfl rfl ?aP (fun _ hk => hk.elim) ?aF ?aO ?aB ?aS ?aL ?_; (case aP => exact rfl); (case aB => exact (by repeat (first | (with_reducible first | exact HB.out | apply below_alloc | apply pw_below_drewN | apply below_drew1) | exact HB.out))); (case aF => exact (fun k_ hk => ⟨Kd.fresh' (Kd.R_lt (by (with_reducible repeat (first | apply Kd.R_alloc | apply Kd.R_drewN | apply Kd.R_drew)); exact HO_6.out)) k_ hk, Kd.fresh' (Kd.R_lt (by (with_reducible repeat (first | apply Kd.R_alloc | apply Kd.R_drewN | apply Kd.R_drew)); exact HO_9.out)) k_ hk⟩)); (case aO => exact (by (with_reducible repeat (first | apply Kd.R_alloc | apply Kd.R_drewN | apply Kd.R_drew)); exact Kd.R_mono HO_7.out (fun _ hk => ⟨hk.2, hk.1⟩))); (case aS => exact (below_size (by repeat (first | (with_reducible first | exact HB.out | apply below_alloc | apply pw_below_drewN | apply below_drew1) | exact HB.out)))); (case aL => have := LMc36.out; omega); intro v138 w41 ho hb hg hat; rw [← Ny137.out] at ho; have n0_ := Aside0.mk (Kd.R_after (ok := (fun k_ => some k_ ≠ (.slice (some ad131) t122.length co20 : Value).ownBlock)) (by (with_reducible repeat (first | apply Kd.R_alloc | apply Kd.R_drewN | apply Kd.R_drew)); exact Kd.R_mono HO_6.out (fun _ hk => ⟨hk.2, hk.1⟩)) hg hat); have n1_ := Aside0.mk (Kd.R_after (ok := (fun k_ => some k_ ≠ (.slice (some ⟨go7, 0, none⟩) x6_2.length co7 : Value).ownBlock)) (by (with_reducible repeat (first | apply Kd.R_alloc | apply Kd.R_drewN | apply Kd.R_drew)); exact Kd.R_mono HO_9.out (fun _ hk => ⟨hk.2, hk.1⟩)) hg hat); have n2_ := Aside0.mk (Kd.R_over' (by (with_reducible repeat (first | apply Kd.R_alloc | apply Kd.R_drewN | apply Kd.R_drew)); exact HO_10.out) (Kd.R_typed (by (with_reducible repeat (first | apply Kd.R_alloc | apply Kd.R_drewN | apply Kd.R_drew)); exact HO_7.out)) (by decide) hg); have n3_ := Aside0.mk (hb); have n4_ := Aside0.mk (ho); clear HO_6; clear HO_9; clear HO_10; clear HB; clear HO_7; have HO_6 := n0_; have HO_9 := n1_; have HO_10 := n2_; have HB := n3_; have HO139 := n4_; clear n0_ n1_ n2_ n3_ n4_; clear ho hb hg hat)))
                                            (try simp only [← hl6_2])
                                            go_roundg k2
                                            case measure => have := HK1.out; have := HK2.out; omega
                                            case rel => exact ⟨(y136), (y137), (wrap64 (x11_2 + 1)), (by first | rfl | (simp; done) | (simp [*]; done)), H', ⟨by have := HK1.out; have := HK2.out; omega⟩, ⟨by (try simp only [hl6_1]); (try simp only [hl6_2]); (with_reducible repeat (first | apply Kd.R_alloc | apply Kd.R_drewN | apply Kd.R_drew)); exact Kd.R_mono HO_6.out (fun _ hk => ⟨hk.2, hk.1⟩)⟩, ⟨by (try simp only [hl6_1]); (try simp only [hl6_2]); (with_reducible repeat (first | apply Kd.R_alloc | apply Kd.R_drewN | apply Kd.R_drew)); exact HO139.out⟩, ⟨by (try simp only [hl6_1]); (try simp only [hl6_2]); (with_reducible repeat (first | apply Kd.R_alloc | apply Kd.R_drewN | apply Kd.R_drew)); exact HO_9.out⟩, ⟨by (try simp only [hl6_1]); (try simp only [hl6_2]); (with_reducible repeat (first | apply Kd.R_alloc | apply Kd.R_drewN | apply Kd.R_drew)); exact HO_10.out⟩, ⟨by repeat (first | (with_reducible first | exact HB.out | apply below_alloc | apply pw_below_drewN | apply below_drew1) | exact HB.out)⟩⟩
                                          · rw [if_neg c36] at H
                                            exact absurd H (by simp)
                                        · rw [if_neg c34] at H
                                          exact absurd H (by simp)
                                      · rw [if_neg c33] at H
                                        exact absurd H (by simp)
                                    · rw [if_neg c32] at H
                                      have c32b0 : ((rd x6_2 (ji29)) == 0) = false := beq_eq_false_iff_ne.mpr c32
                                      have H' := Aside0.mk H
                                      clear H
                                      obtain ⟨Ao42, co42, eo42⟩ := Kd.R_slice HO_10.out
                                      subst eo42
                                      have p128 : 0 ≤ (x11_2 : Int) := of_decide_eq_true (by assumption)
                                      have q128 : x11_2 < (t125.length : Int) := of_decide_eq_true (by assumption)
                                      obtain ⟨ad128, e128, hx128_0, hx128_1⟩ := at_T52 (Kd.R_reads' HO_10.out).2.2 x11_2 p128 q128
                                      cases e128
                                      replace p128 := eq_true p128
                                      replace q128 := eq_true q128
                                      have p129 : 0 ≤ (x11_2 : Int) := of_decide_eq_true (by assumption)
                                      have q129 : x11_2 < (t125.length : Int) := of_decide_eq_true (by assumption)
                                      obtain ⟨ad129, e129, hx129_0, hx129_1⟩ := at_T52 (Kd.R_reads' HO_10.out).2.2 x11_2 p129 q129
                                      obtain rfl : ad128 = ad129 := (by injection e129)
                                      replace p129 := eq_true p129
                                      replace q129 := eq_true q129
                                      obtain ⟨Ao43, co43, eo43⟩ := Kd.R_slice HO_7.out
                                      subst eo43
                                      have p130 : 0 ≤ (x8_1 : Int) := of_decide_eq_true (by assumption)
                                      have q130 : x8_1 < (x7_2.length : Int) := of_decide_eq_true (by assumption)
                                      obtain ⟨ad130, e130, hx130_0⟩ := Kd.at_int (Kd.R_reads' HO_7.out).2.2 x8_1 p130 q130
                                      cases e130
                                      replace p130 := eq_true p130
                                      replace q130 := eq_true q130
                                      have p131 : 0 ≤ (((rd_T52 t125 x11_2).f0) : Int) := of_decide_eq_true (by assumption)
                                      have q131 : ((rd_T52 t125 x11_2).f0) < (t122.length : Int) := of_decide_eq_true (by assumption)
                                      obtain ⟨ad131, e131, hx131_0⟩ := Kd.at_int (Kd.R_reads' HO_9.out).2.2 ((rd_T52 t125 x11_2).f0) p131 q131
                                      cases e131
                                      replace p131 := eq_true p131
                                      replace q131 := eq_true q131
                                      go_wp2_with (first | (go_at_call 64; (with_reducible refine (bibelotref03_power.calls k2 a1 ((rd_T52 t125 x11_2).f0) t132 _ A28.out).mono ?_); rintro e w' ⟨rfl, ⟨nd, rfl⟩⟩; (try first | exact ⟨rfl, _, World.drewN_drewN _ _ _⟩ | exact ⟨rfl, _, Eq.trans (World.drewN_drewN _ _ _) (congrArg (World.drewN _) (Nat.add_assoc _ _ _))⟩); have p133 : 0 ≤ ((ji29) : Int) := of_decide_eq_true (by assumption); have q133 : (ji29) < (x6_2.length : Int) := of_decide_eq_true (by assumption); obtain ⟨ad133, e133, hx133_0⟩ := Kd.at_int (Kd.R_reads' HO_6.out).2.2 (ji29) p133 q133; obtain rfl : (⟨go7, 0, none⟩ : Addr) = ad133 := (by injection e133); (first | simp only [add_plain] at hx133_0 | simp only [add_at] at hx133_0 | simp only [Addr.add, Nat.zero_add] at hx133_0 | skip); replace p133 := eq_true p133; replace q133 := eq_true q133))
                                      repeat (go_quiet (first | (go_at_call 64; (with_reducible refine (bibelotref03_power.calls k2 a1 ((rd_T52 t125 x11_2).f0) t132 _ A28.out).mono ?_); rintro e w' ⟨rfl, ⟨nd, rfl⟩⟩; (try first | exact ⟨rfl, _, World.drewN_drewN _ _ _⟩ | exact ⟨rfl, _, Eq.trans (World.drewN_drewN _ _ _) (congrArg (World.drewN _) (Nat.add_assoc _ _ _))⟩); have p133 : 0 ≤ ((ji29) : Int) := of_decide_eq_true (by assumption); have q133 : (ji29) < (x6_2.length : Int) := of_decide_eq_true (by assumption); obtain ⟨ad133, e133, hx133_0⟩ := Kd.at_int (Kd.R_reads' HO_6.out).2.2 (ji29) p133 q133; obtain rfl : (⟨go7, 0, none⟩ : Addr) = ad133 := (by injection e133); (first | simp only [add_plain] at hx133_0 | simp only [add_at] at hx133_0 | simp only [Addr.add, Nat.zero_add] at hx133_0 | skip); replace p133 := eq_true p133; replace q133 := eq_true q133)); try go_wp2_with (first | (go_at_call 64; (with_reducible refine (bibelotref03_power.calls k2 a1 ((rd_T52 t125 x11_2).f0) t132 _ A28.out).mono ?_); rintro e w' ⟨rfl, ⟨nd, rfl⟩⟩; (try first | exact ⟨rfl, _, World.drewN_drewN _ _ _⟩ | exact ⟨rfl, _, Eq.trans (World.drewN_drewN _ _ _) (congrArg (World.drewN _) (Nat.add_assoc _ _ _))⟩); have p133 : 0 ≤ ((ji29) : Int) := of_decide_eq_true (by assumption); have q133 : (ji29) < (x6_2.length : Int) := of_decide_eq_true (by assumption); obtain ⟨ad133, e133, hx133_0⟩ := Kd.at_int (Kd.R_reads' HO_6.out).2.2 (ji29) p133 q133; obtain rfl : (⟨go7, 0, none⟩ : Addr) = ad133 := (by injection e133); (first | simp only [add_plain] at hx133_0 | simp only [add_at] at hx133_0 | simp only [Addr.add, Nat.zero_add] at hx133_0 | skip); replace p133 := eq_true p133; replace q133 := eq_true q133)))
                                      (try simp only [← hl6_2])
                                      go_roundg k2
                                      case measure => have := HK1.out; have := HK2.out; omega
                                      case rel => exact ⟨(x6_2), (x7_2), (wrap64 (x11_2 + 1)), (by first | rfl | (simp; done) | (simp [*]; done)), H', ⟨by have := HK1.out; have := HK2.out; omega⟩, ⟨by (try simp only [hl6_1]); (try simp only [hl6_2]); (with_reducible repeat (first | apply Kd.R_alloc | apply Kd.R_drewN | apply Kd.R_drew)); exact HO_6.out⟩, ⟨by (try simp only [hl6_1]); (try simp only [hl6_2]); (with_reducible repeat (first | apply Kd.R_alloc | apply Kd.R_drewN | apply Kd.R_drew)); exact HO_7.out⟩, ⟨by (try simp only [hl6_1]); (try simp only [hl6_2]); (with_reducible repeat (first | apply Kd.R_alloc | apply Kd.R_drewN | apply Kd.R_drew)); exact HO_9.out⟩, ⟨by (try simp only [hl6_1]); (try simp only [hl6_2]); (with_reducible repeat (first | apply Kd.R_alloc | apply Kd.R_drewN | apply Kd.R_drew)); exact HO_10.out⟩, ⟨by repeat (first | (with_reducible first | exact HB.out | apply below_alloc | apply pw_below_drewN | apply below_drew1) | exact HB.out)⟩⟩
                                  · rw [if_neg c31] at H
                                    exact absurd H (by simp)
                                · rw [if_neg c30] at H
                                  exact absurd H (by simp)
                              · rw [if_neg c27] at H
                                exact absurd H (by simp)
                            · rw [if_neg c26] at H
                              exact absurd H (by simp)
                          · rw [if_neg c25] at H
                            exact absurd H (by simp)
                        · rw [if_neg c24] at H
                          exact absurd H (by simp)
                      · rw [if_neg c23] at H
                        exact absurd H (by simp)
                    · rw [if_neg c22] at H
                      have c22b0 : decide (x11_2 < (t125.length : Int)) = false := decide_eq_false c22
                      clear c22
                      have H' := Aside0.mk H
                      clear H
                      obtain ⟨Ao44, co44, eo44⟩ := Kd.R_slice HO_10.out
                      subst eo44
                      go_wp2
                      repeat (go_quiet (fail); try go_wp2)
                      (try simp only [← hl6_1, ← hl6_2])
                      go_roundg k2
                      case measure => have := HK1.out; have := HK2.out; omega
                      case rel => exact ⟨(x6_2), (x7_2), (wrap64 (x8_1 + 1)), (by first | rfl | (simp; done) | (simp [*]; done)), H', ⟨by have := HK1.out; have := HK2.out; omega⟩, ⟨by (try simp only [hl6_1]); (try simp only [hl6_2]); (with_reducible repeat (first | apply Kd.R_alloc | apply Kd.R_drewN | apply Kd.R_drew)); exact Kd.R_mono HO_6.out (fun _ hk => hk.1)⟩, ⟨by (try simp only [hl6_1]); (try simp only [hl6_2]); (with_reducible repeat (first | apply Kd.R_alloc | apply Kd.R_drewN | apply Kd.R_drew)); exact Kd.R_mono HO_7.out (fun _ hk => hk.1)⟩, ⟨by repeat (first | (with_reducible first | exact HB.out | apply below_alloc | apply pw_below_drewN | apply below_drew1) | exact HB.out)⟩⟩
              · rw [if_neg c15] at H
                exact absurd H (by simp)
            · rw [if_neg c14] at H
              have c14b0 : decide (x8_1 < (x7_1.length : Int)) = false := decide_eq_false c14
              clear c14
              obtain ⟨ji45, hji45⟩ : ∃ j_ : Int, (wrap64 (t112 - 1)) = j_ := ⟨_, rfl⟩
              replace H : (if 0 ≤ (ji45) then (if (ji45) < (x6_1.length : Int) then (some (wrap64 ((rd x6_1 (ji45)) - 1))) else (none)) else (none)) = some r := by first | (rw [hji45] at H; exact H) | (simp only [hji45] at H ⊢; exact H)
              have hji45w : (IntKind.i64.wrap (t112 - 1)) = ji45 := (i64_w _).trans hji45
              by_cases c46 : 0 ≤ (ji45)
              · rw [if_pos c46] at H
                have c46b0 : decide (0 ≤ (ji45)) = true := decide_eq_true c46
                clear c46
                by_cases c47 : (ji45) < (x6_1.length : Int)
                · rw [if_pos c47] at H
                  have c47b0 : decide ((ji45) < (x6_1.length : Int)) = true := decide_eq_true c47
                  clear c47
                  obtain rfl := Option.some.inj H
                  obtain ⟨Ao48, co48, eo48⟩ := Kd.R_slice HO_7.out
                  subst eo48
                  have p120 : 0 ≤ ((ji45) : Int) := of_decide_eq_true (by assumption)
                  have q120 : (ji45) < (x6_1.length : Int) := of_decide_eq_true (by assumption)
                  obtain ⟨ad120, e120, hx120_0⟩ := Kd.at_int (Kd.R_reads' HO_6.out).2.2 (ji45) p120 q120
                  obtain rfl : (⟨go7, 0, none⟩ : Addr) = ad120 := (by injection e120)
                  (first | simp only [add_plain] at hx120_0 | simp only [add_at] at hx120_0 | simp only [Addr.add, Nat.zero_add] at hx120_0 | skip)
                  replace p120 := eq_true p120
                  replace q120 := eq_true q120
                  go_wp2
                  repeat (go_quiet (fail); try go_wp2)
                  go_ret
                  exact ⟨by first | rfl | (simp [errW_none, errW_some] <;> rfl) | (simp only [← hji45]; first | rfl | (simp [errW_none, errW_some] <;> rfl)) | (simp [*, errW_none, errW_some] <;> rfl), by repeat (first | (with_reducible first | exact HB.out | apply below_alloc | apply pw_below_drewN | apply below_drew1) | exact HB.out)⟩
                · rw [if_neg c47] at H
                  exact absurd H (by simp)
              · rw [if_neg c46] at H
                exact absurd H (by simp)
      · rw [if_neg c6] at H
        exact absurd H (by simp)
    · rw [if_neg c5] at H
      exact absurd H (by simp)
  · rw [if_neg c4] at H
    exact absurd H (by simp)
end Go.Proofs.YtnaaomhmoamfpaaDoor.Q
namespace Go.Proofs.YtnaaomhmoamfpaaDoor.G
end Go.Proofs.YtnaaomhmoamfpaaDoor.G
namespace Go.Proofs.YtnaaomhmoamfpaaDoor.Q
set_option linter.unusedVariables false
set_option linter.unusedSimpArgs false
set_option linter.unusedSectionVars false
open Go.Proofs.YtnaaomhmoamfpaaDoor.G
open Go.RowKit Go.Proofs.YtnaaomhmoamfpaaDoorW.PrintWords Go.Proofs.YtnaaomhmoamfpaaDoorW.PrintLast Go.Proofs.YtnaaomhmoamfpaaDoorW.PrintMore
attribute [local go_sem] max2_int min2_int max_two min_two max_three min_three max_four min_four   -- for this text's walks alone

/-! ### bibelotlaw03_HanoiFewest: function 5 -/
mutual
def bibelotlaw03_HanoiFewest.l0 : Nat → Int → Int → Int → Option (Bool)
  | 0, _, _, _ => none
  | k + 1, x0, x1, x5 => if x5 < 2 then ((hanoi_Fewest.f x0 x1).bind fun bt141 => (if x0 < 0 then (bibelotlaw03_HanoiFewest.j1 k x0 x1 x5 bt141.1 bt141.2 true) else (if x0 > 40 then (bibelotlaw03_HanoiFewest.j1 k x0 x1 x5 bt141.1 bt141.2 true) else (if x1 < 3 then (bibelotlaw03_HanoiFewest.j1 k x0 x1 x5 bt141.1 bt141.2 true) else (if x1 > 8 then (bibelotlaw03_HanoiFewest.j1 k x0 x1 x5 bt141.1 bt141.2 true) else ((bibelotref03_Many.f k x0 x1).bind fun t143 => (bibelotlaw03_HanoiFewest.j1 k x0 x1 x5 bt141.1 bt141.2 t143))))))) else ((bibelotlaw03_awake.f k).bind fun t140 => (some t140))
def bibelotlaw03_HanoiFewest.j1 : Nat → Int → Int → Int → Int → Int → Bool → Option (Bool)
  | 0, _, _, _, _, _, _ => none
  | k + 1, x0, x1, x5, x6, x7, x36 => if x36 = true then (if x7 = 1 then (if x6 = 0 then (bibelotlaw03_HanoiFewest.l0 k (wrap64 (Int.tmod (IntKind.u64.wrap (x0)) 6)) (wrap64 (3 + (wrap64 (Int.tmod (IntKind.u64.wrap (x1)) 3)))) (wrap64 (x5 + 1))) else (some false)) else (some false)) else (if x7 = 0 then ((bibelotref03_Fewest.f k x0 x1).bind fun t144 => (if x6 = t144 then (bibelotlaw03_HanoiFewest.l0 k (wrap64 (Int.tmod (IntKind.u64.wrap (x0)) 6)) (wrap64 (3 + (wrap64 (Int.tmod (IntKind.u64.wrap (x1)) 3)))) (wrap64 (x5 + 1))) else (some false))) else (some false))
end
def bibelotlaw03_HanoiFewest.f (k : Nat) (a0 : Int) (a1 : Int) : Option (Bool) := bibelotlaw03_HanoiFewest.l0 k a0 a1 0
theorem bibelotlaw03_HanoiFewest.mono_l : ∀ k, (∀ y0 y1 y2, LeO (bibelotlaw03_HanoiFewest.l0 k y0 y1 y2) (bibelotlaw03_HanoiFewest.l0 (k + 1) y0 y1 y2)) ∧ (∀ y0 y1 y2 y3 y4 y5, LeO (bibelotlaw03_HanoiFewest.j1 k y0 y1 y2 y3 y4 y5) (bibelotlaw03_HanoiFewest.j1 (k + 1) y0 y1 y2 y3 y4 y5))
  | 0 => ⟨fun _ _ _ r h => by simp [bibelotlaw03_HanoiFewest.l0] at h, fun _ _ _ _ _ _ r h => by simp [bibelotlaw03_HanoiFewest.j1] at h⟩
  | k + 1 => by
    obtain ⟨ih0, ih1⟩ := bibelotlaw03_HanoiFewest.mono_l k
    refine ⟨?_, ?_⟩
    · intro y0 y1 y2
      unfold bibelotlaw03_HanoiFewest.l0
      repeat' first
      | (with_reducible exact ih0 _ _ _)
      | (with_reducible exact ih1 _ _ _ _ _ _)
      | (with_reducible exact bibelotlaw03_awake.mono _)
      | (with_reducible exact bibelotref03_Fewest.mono _ _ _)
      | (with_reducible exact bibelotref03_Many.mono _ _ _)
      | (with_reducible exact LeO.refl _)
      | (with_reducible exact LeO.none _)
      | (with_reducible refine LeO.ite ?_ ?_)
      | (with_reducible refine LeO.bind ?_ (fun _ => ?_))
      | exact ih0 _ _ _
      | exact ih1 _ _ _ _ _ _
      | exact bibelotlaw03_awake.mono _
      | exact bibelotref03_Fewest.mono _ _ _
      | exact bibelotref03_Many.mono _ _ _
      | exact LeO.none _
      | refine LeO.ite ?_ ?_
      | refine LeO.bind ?_ (fun _ => ?_)
    · intro y0 y1 y2 y3 y4 y5
      unfold bibelotlaw03_HanoiFewest.j1
      repeat' first
      | (with_reducible exact ih0 _ _ _)
      | (with_reducible exact ih1 _ _ _ _ _ _)
      | (with_reducible exact bibelotlaw03_awake.mono _)
      | (with_reducible exact bibelotref03_Fewest.mono _ _ _)
      | (with_reducible exact bibelotref03_Many.mono _ _ _)
      | (with_reducible exact LeO.refl _)
      | (with_reducible exact LeO.none _)
      | (with_reducible refine LeO.ite ?_ ?_)
      | (with_reducible refine LeO.bind ?_ (fun _ => ?_))
      | exact ih0 _ _ _
      | exact ih1 _ _ _ _ _ _
      | exact bibelotlaw03_awake.mono _
      | exact bibelotref03_Fewest.mono _ _ _
      | exact bibelotref03_Many.mono _ _ _
      | exact LeO.none _
      | refine LeO.ite ?_ ?_
      | refine LeO.bind ?_ (fun _ => ?_)
theorem bibelotlaw03_HanoiFewest.mono : ∀ a0 a1 k, LeO (bibelotlaw03_HanoiFewest.f k a0 a1) (bibelotlaw03_HanoiFewest.f (k + 1) a0 a1) := by
  intro a0 a1 k
  obtain ⟨ih0, ih1⟩ := bibelotlaw03_HanoiFewest.mono_l k
  unfold bibelotlaw03_HanoiFewest.f
  repeat' first
      | (with_reducible exact ih0 _ _ _)
      | (with_reducible exact ih1 _ _ _ _ _ _)
      | (with_reducible exact bibelotlaw03_awake.mono _)
      | (with_reducible exact bibelotref03_Fewest.mono _ _ _)
      | (with_reducible exact bibelotref03_Many.mono _ _ _)
      | (with_reducible exact LeO.refl _)
      | (with_reducible exact LeO.none _)
      | (with_reducible refine LeO.ite ?_ ?_)
      | (with_reducible refine LeO.bind ?_ (fun _ => ?_))
      | exact ih0 _ _ _
      | exact ih1 _ _ _ _ _ _
      | exact bibelotlaw03_awake.mono _
      | exact bibelotref03_Fewest.mono _ _ _
      | exact bibelotref03_Many.mono _ _ _
      | exact LeO.none _
      | refine LeO.ite ?_ ?_
      | refine LeO.bind ?_ (fun _ => ?_)
set_option maxHeartbeats 8000000 in
set_option maxRecDepth 100000 in
theorem bibelotlaw03_HanoiFewest.calls (k : Nat) (a0 : Int) (a1 : Int) (r : Bool) (w : World) (h : bibelotlaw03_HanoiFewest.f k a0 a1 = some r) :
    Calls Tryd.prog 5 #[.int .i64 a0, .int .i64 a1] w fun e w' => e = .returned (.bool r) ∧ Below w.heap.size w w' := by
  have HB := Aside0.mk (Below.refl w.heap.size w)
  have H : (bibelotlaw03_HanoiFewest.l0 k a0 a1 0) = some r := h
  clear h
  have H' := Aside0.mk H
  clear H
  go_enter Tryd.func5, Tryd.ntmps5
  go_wp2
  go_loopg [0, 1, 5] k (fun kq v0 v1 v5 w' => ∃ (x0_1 : Int) (x1_1 : Int) (x5_1 : Int), v0 = .int .i64 x0_1 ∧ v1 = .int .i64 x1_1 ∧ v5 = .int .i64 x5_1 ∧ Aside0 (bibelotlaw03_HanoiFewest.l0 kq x0_1 x1_1 x5_1 = some r) ∧ Aside0 (kq ≤ k) ∧ Aside0 (Below w.heap.size w w'))
  case atStart => exact ⟨(a0), (a1), (0), (by first | rfl | (simp; done) | (simp [*]; done)), (by first | rfl | (simp; done) | (simp [*]; done)), (by first | rfl | (simp; done) | (simp [*]; done)), H', ⟨Nat.le_refl _⟩, ⟨by repeat (first | (with_reducible first | exact HB.out | apply below_alloc | apply pw_below_drewN | apply below_drew1) | exact HB.out)⟩⟩
  case round =>
    clear H'
    try clear p2
    obtain ⟨x0_1, x1_1, x5_1, rfl, rfl, rfl, HA, HK1, HB⟩ := hrel
    cases gk with
    | zero => exact absurd HA.out (by simp [bibelotlaw03_HanoiFewest.l0])
    | succ k1 =>
      have H := HA.out
      clear HA
      simp only [bibelotlaw03_HanoiFewest.l0] at H
      by_cases c3 : x5_1 < 2
      · rw [if_pos c3] at H
        have c3b0 : decide (x5_1 < 2) = true := decide_eq_true c3
        clear c3
        replace H := Option.bind_eq_some_iff.mp H
        obtain ⟨⟨t141, t142⟩, A40, H⟩ := H
        replace H : (if x0_1 < 0 then (bibelotlaw03_HanoiFewest.j1 k1 x0_1 x1_1 x5_1 t141 t142 true) else (if x0_1 > 40 then (bibelotlaw03_HanoiFewest.j1 k1 x0_1 x1_1 x5_1 t141 t142 true) else (if x1_1 < 3 then (bibelotlaw03_HanoiFewest.j1 k1 x0_1 x1_1 x5_1 t141 t142 true) else (if x1_1 > 8 then (bibelotlaw03_HanoiFewest.j1 k1 x0_1 x1_1 x5_1 t141 t142 true) else ((bibelotref03_Many.f k1 x0_1 x1_1).bind fun t143 => (bibelotlaw03_HanoiFewest.j1 k1 x0_1 x1_1 x5_1 t141 t142 t143)))))) = some r := H
        have A4 := Aside0.mk A40
        clear A40
        have HC5 := Aside0.mk H
        clear H
        go_upto_region 5 with (first | ((with_reducible refine gate_callee (f := 29) rfl ?_); refine goesL_ (some 15) rfl rfl Tryd.func29 (by kernel_rfl) rfl #[.int .i64 x0_1, .int .i64 x1_1] rfl (by (try simp only [List.map_toArray, List.map_cons, List.map_nil]); first | done | rfl | (simp only [List.length_drop, List.length_take]; rfl)) ?_; (with_reducible refine (hanoi_Fewest.calls x0_1 x1_1 t141 t142 _ A4.out).mono ?_); rintro e w6 ⟨rfl, hb⟩; refine ⟨_, rfl, ?_⟩; have n0_ := Aside0.mk (below_step (by repeat (first | (with_reducible first | exact HB.out | apply below_alloc | apply pw_below_drewN | apply below_drew1) | exact HB.out)) hb); clear HB; have HB := n0_; clear n0_; (try clear hb); (try clear hb2); (try clear hk); (try clear hi)))
        (try simp only [Act.put, List.setIfInBounds_toArray, List.set_cons_zero, List.set_cons_succ])
        go_cut [36] (fun v36 wc => ∃ (kq : Nat) (x36_4 : Bool), v36 = .bool x36_4 ∧ Aside0 (bibelotlaw03_HanoiFewest.j1 kq x0_1 x1_1 x5_1 t141 t142 x36_4 = some r) ∧ Aside0 (kq ≤ k1) ∧ Aside0 (Below w.heap.size w wc))
        case first =>
          have H := HC5.out
          clear HC5
          by_cases c7 : x0_1 < 0
          · rw [if_pos c7] at H
            have c7b0 : decide (x0_1 < 0) = true := decide_eq_true c7
            clear c7
            (first | rw [c7b0] | (simp only [i64_w, i32_w]; rw [c7b0]) | skip)
            have H' := Aside0.mk H
            clear H
            go_wp2
            go_meet
            case rel => exact ⟨_, (true), (by first | rfl | (simp; done) | (simp [*]; done)), H', ⟨by have := HK1.out; first | omega | exact Nat.le_refl _⟩, ⟨by repeat (first | (with_reducible first | exact HB.out | apply below_alloc | apply pw_below_drewN | apply below_drew1) | exact HB.out)⟩⟩
          · rw [if_neg c7] at H
            have c7b0 : decide (x0_1 < 0) = false := decide_eq_false c7
            clear c7
            (first | rw [c7b0] | (simp only [i64_w, i32_w]; rw [c7b0]) | skip)
            by_cases c8 : x0_1 > 40
            · rw [if_pos c8] at H
              have c8b0 : decide (40 < x0_1) = true := decide_eq_true c8
              clear c8
              have H' := Aside0.mk H
              clear H
              go_wp2
              go_meet
              case rel => exact ⟨_, (true), (by first | rfl | (simp; done) | (simp [*]; done)), H', ⟨by have := HK1.out; first | omega | exact Nat.le_refl _⟩, ⟨by repeat (first | (with_reducible first | exact HB.out | apply below_alloc | apply pw_below_drewN | apply below_drew1) | exact HB.out)⟩⟩
            · rw [if_neg c8] at H
              have c8b0 : decide (40 < x0_1) = false := decide_eq_false c8
              clear c8
              by_cases c9 : x1_1 < 3
              · rw [if_pos c9] at H
                have c9b0 : decide (x1_1 < 3) = true := decide_eq_true c9
                clear c9
                have H' := Aside0.mk H
                clear H
                go_wp2
                go_meet
                case rel => exact ⟨_, (true), (by first | rfl | (simp; done) | (simp [*]; done)), H', ⟨by have := HK1.out; first | omega | exact Nat.le_refl _⟩, ⟨by repeat (first | (with_reducible first | exact HB.out | apply below_alloc | apply pw_below_drewN | apply below_drew1) | exact HB.out)⟩⟩
              · rw [if_neg c9] at H
                have c9b0 : decide (x1_1 < 3) = false := decide_eq_false c9
                clear c9
                by_cases c10 : x1_1 > 8
                · rw [if_pos c10] at H
                  have c10b0 : decide (8 < x1_1) = true := decide_eq_true c10
                  clear c10
                  have H' := Aside0.mk H
                  clear H
                  go_wp2
                  go_meet
                  case rel => exact ⟨_, (true), (by first | rfl | (simp; done) | (simp [*]; done)), H', ⟨by have := HK1.out; first | omega | exact Nat.le_refl _⟩, ⟨by repeat (first | (with_reducible first | exact HB.out | apply below_alloc | apply pw_below_drewN | apply below_drew1) | exact HB.out)⟩⟩
                · rw [if_neg c10] at H
                  have c10b0 : decide (8 < x1_1) = false := decide_eq_false c10
                  clear c10
                  replace H := Option.bind_eq_some_iff.mp H
                  obtain ⟨t143, A110, H⟩ := H
                  replace H : (bibelotlaw03_HanoiFewest.j1 k1 x0_1 x1_1 x5_1 t141 t142 t143) = some r := H
                  have A11 := Aside0.mk A110
                  clear A110
                  have H' := Aside0.mk H
                  clear H
                  go_wp2_with (first | (go_at_call 30; (with_reducible refine (bibelotref03_Many.calls k1 x0_1 x1_1 t143 _ A11.out).mono ?_); rintro e w' ⟨rfl, ⟨nd, rfl⟩⟩))
                  go_meet
                  case rel => exact ⟨_, (t143), (by first | rfl | (simp; done) | (simp [*]; done)), H', ⟨by have := HK1.out; first | omega | exact Nat.le_refl _⟩, ⟨by repeat (first | (with_reducible first | exact HB.out | apply below_alloc | apply pw_below_drewN | apply below_drew1) | exact HB.out)⟩⟩
        case rest =>
          clear HC5
          try clear c1
          try clear c2
          try clear p2
          try clear c3
          try clear c3b0
          try clear c5
          try clear c7
          try clear c7b0
          try clear c8
          try clear c8b0
          try clear c9
          try clear c9b0
          try clear c10
          try clear c10b0
          try clear p2
          obtain ⟨kq, x36_4, rfl, HA, HJ4, HB⟩ := hcut
          cases kq with
          | zero => exact absurd HA.out (by simp [bibelotlaw03_HanoiFewest.j1])
          | succ kj4 =>
            have H := HA.out
            clear HA
            simp only [bibelotlaw03_HanoiFewest.j1] at H
            by_cases c12 : x36_4 = true
            · subst c12
              have H1 : (if t142 = 1 then (if t141 = 0 then (bibelotlaw03_HanoiFewest.l0 kj4 (wrap64 (Int.tmod (IntKind.u64.wrap (x0_1)) 6)) (wrap64 (3 + (wrap64 (Int.tmod (IntKind.u64.wrap (x1_1)) 3)))) (wrap64 (x5_1 + 1))) else (some false)) else (some false)) = some r := by rw [if_pos rfl] at H; exact H
              clear H
              have H := H1
              clear H1
              by_cases c13 : t142 = 1
              · rw [if_pos c13] at H
                have c13b0 : (t142 == 1) = true := beq_iff_eq.mpr c13
                have c13b1 : (t142 != 1) = false := bne_eq_false_iff_eq.mpr c13
                clear c13
                by_cases c14 : t141 = 0
                · rw [if_pos c14] at H
                  have c14b0 : (t141 == 0) = true := beq_iff_eq.mpr c14
                  have c14b1 : (t141 != 0) = false := bne_eq_false_iff_eq.mpr c14
                  clear c14
                  have H' := Aside0.mk H
                  clear H
                  go_wp2
                  go_roundg kj4
                  case measure => have := HK1.out; have := HJ4.out; omega
                  case rel => exact ⟨(wrap64 (Int.tmod (IntKind.u64.wrap (x0_1)) 6)), (wrap64 (3 + (wrap64 (Int.tmod (IntKind.u64.wrap (x1_1)) 3)))), (wrap64 (x5_1 + 1)), (by first | rfl | (simp; done) | (simp [*]; done)), (by first | rfl | (simp; done) | (simp [*]; done)), (by first | rfl | (simp; done) | (simp [*]; done)), H', ⟨by have := HK1.out; have := HJ4.out; omega⟩, ⟨by repeat (first | (with_reducible first | exact HB.out | apply below_alloc | apply pw_below_drewN | apply below_drew1) | exact HB.out)⟩⟩
                · rw [if_neg c14] at H
                  have c14b0 : (t141 == 0) = false := beq_eq_false_iff_ne.mpr c14
                  have c14b1 : (t141 != 0) = true := bne_iff_ne.mpr c14
                  obtain rfl := Option.some.inj H
                  go_wp2
                  go_ret
                  exact ⟨by first | rfl | (simp [errW_none, errW_some] <;> rfl) | (simp [*, errW_none, errW_some] <;> rfl), by repeat (first | (with_reducible first | exact HB.out | apply below_alloc | apply pw_below_drewN | apply below_drew1) | exact HB.out)⟩
              · rw [if_neg c13] at H
                have c13b0 : (t142 == 1) = false := beq_eq_false_iff_ne.mpr c13
                have c13b1 : (t142 != 1) = true := bne_iff_ne.mpr c13
                obtain rfl := Option.some.inj H
                go_wp2
                go_ret
                exact ⟨by first | rfl | (simp [errW_none, errW_some] <;> rfl) | (simp [*, errW_none, errW_some] <;> rfl), by repeat (first | (with_reducible first | exact HB.out | apply below_alloc | apply pw_below_drewN | apply below_drew1) | exact HB.out)⟩
            · replace c12 := Bool.eq_false_iff.mpr c12
              subst c12
              have H1 : (if t142 = 0 then ((bibelotref03_Fewest.f kj4 x0_1 x1_1).bind fun t144 => (if t141 = t144 then (bibelotlaw03_HanoiFewest.l0 kj4 (wrap64 (Int.tmod (IntKind.u64.wrap (x0_1)) 6)) (wrap64 (3 + (wrap64 (Int.tmod (IntKind.u64.wrap (x1_1)) 3)))) (wrap64 (x5_1 + 1))) else (some false))) else (some false)) = some r := by rw [if_neg (show ¬ (false = true) by decide)] at H; exact H
              clear H
              have H := H1
              clear H1
              by_cases c15 : t142 = 0
              · rw [if_pos c15] at H
                have c15b0 : (t142 == 0) = true := beq_iff_eq.mpr c15
                have c15b1 : (t142 != 0) = false := bne_eq_false_iff_eq.mpr c15
                clear c15
                replace H := Option.bind_eq_some_iff.mp H
                obtain ⟨t144, A160, H⟩ := H
                replace H : (if t141 = t144 then (bibelotlaw03_HanoiFewest.l0 kj4 (wrap64 (Int.tmod (IntKind.u64.wrap (x0_1)) 6)) (wrap64 (3 + (wrap64 (Int.tmod (IntKind.u64.wrap (x1_1)) 3)))) (wrap64 (x5_1 + 1))) else (some false)) = some r := H
                have A16 := Aside0.mk A160
                clear A160
                by_cases c17 : t141 = t144
                · rw [if_pos c17] at H
                  have c17b0 : (t141 == t144) = true := beq_iff_eq.mpr c17
                  have c17b1 : (t141 != t144) = false := bne_eq_false_iff_eq.mpr c17
                  clear c17
                  have H' := Aside0.mk H
                  clear H
                  go_wp2_with (first | (go_at_call 31; (with_reducible refine (bibelotref03_Fewest.calls kj4 x0_1 x1_1 t144 _ A16.out).mono ?_); rintro e w18 ⟨rfl, hb⟩; have n0_ := Aside0.mk (below_step (by repeat (first | (with_reducible first | exact HB.out | apply below_alloc | apply pw_below_drewN | apply below_drew1) | exact HB.out)) hb); clear HB; have HB := n0_; clear n0_; (try clear hb); (try clear hb2); (try clear hk); (try clear hi)))
                  go_roundg kj4
                  case measure => have := HK1.out; have := HJ4.out; omega
                  case rel => exact ⟨(wrap64 (Int.tmod (IntKind.u64.wrap (x0_1)) 6)), (wrap64 (3 + (wrap64 (Int.tmod (IntKind.u64.wrap (x1_1)) 3)))), (wrap64 (x5_1 + 1)), (by first | rfl | (simp; done) | (simp [*]; done)), (by first | rfl | (simp; done) | (simp [*]; done)), (by first | rfl | (simp; done) | (simp [*]; done)), H', ⟨by have := HK1.out; have := HJ4.out; omega⟩, ⟨by repeat (first | (with_reducible first | exact HB.out | apply below_alloc | apply pw_below_drewN | apply below_drew1) | exact HB.out)⟩⟩
                · rw [if_neg c17] at H
                  have c17b0 : (t141 == t144) = false := beq_eq_false_iff_ne.mpr c17
                  have c17b1 : (t141 != t144) = true := bne_iff_ne.mpr c17
                  obtain rfl := Option.some.inj H
                  go_wp2_with (first | (go_at_call 31; (with_reducible refine (bibelotref03_Fewest.calls kj4 x0_1 x1_1 t144 _ A16.out).mono ?_); rintro e w19 ⟨rfl, hb⟩; have n0_ := Aside0.mk (below_step (by repeat (first | (with_reducible first | exact HB.out | apply below_alloc | apply pw_below_drewN | apply below_drew1) | exact HB.out)) hb); clear HB; have HB := n0_; clear n0_; (try clear hb); (try clear hb2); (try clear hk); (try clear hi)))
                  go_ret
                  exact ⟨by first | rfl | (simp [errW_none, errW_some] <;> rfl) | (simp [*, errW_none, errW_some] <;> rfl), by repeat (first | (with_reducible first | exact HB.out | apply below_alloc | apply pw_below_drewN | apply below_drew1) | exact HB.out)⟩
              · rw [if_neg c15] at H
                have c15b0 : (t142 == 0) = false := beq_eq_false_iff_ne.mpr c15
                have c15b1 : (t142 != 0) = true := bne_iff_ne.mpr c15
                obtain rfl := Option.some.inj H
                go_wp2
                go_ret
                exact ⟨by first | rfl | (simp [errW_none, errW_some] <;> rfl) | (simp [*, errW_none, errW_some] <;> rfl), by repeat (first | (with_reducible first | exact HB.out | apply below_alloc | apply pw_below_drewN | apply below_drew1) | exact HB.out)⟩
      · rw [if_neg c3] at H
        have c3b0 : decide (x5_1 < 2) = false := decide_eq_false c3
        clear c3
        replace H := Option.bind_eq_some_iff.mp H
        obtain ⟨t140, A200, H⟩ := H
        replace H : (some t140) = some r := H
        have A20 := Aside0.mk A200
        clear A200
        obtain rfl := Option.some.inj H
        go_wp2_with (first | ((with_reducible refine gate_callee (f := 26) rfl ?_); refine goesL_ (some 61) rfl rfl Tryd.func26 (by kernel_rfl) rfl #[] rfl (by (try simp only [List.map_toArray, List.map_cons, List.map_nil]); first | done | rfl | (simp only [List.length_drop, List.length_take]; rfl)) ?_; (with_reducible refine (bibelotlaw03_awake.calls k1  t140 _ A20.out).mono ?_); rintro e w21 ⟨rfl, hb⟩; refine ⟨_, rfl, ?_⟩; have n0_ := Aside0.mk (below_step (by repeat (first | (with_reducible first | exact HB.out | apply below_alloc | apply pw_below_drewN | apply below_drew1) | exact HB.out)) hb); clear HB; have HB := n0_; clear n0_; (try clear hb); (try clear hb2); (try clear hk); (try clear hi)))
        go_ret
        exact ⟨by first | rfl | (simp [errW_none, errW_some] <;> rfl) | (simp [*, errW_none, errW_some] <;> rfl), by repeat (first | (with_reducible first | exact HB.out | apply below_alloc | apply pw_below_drewN | apply below_drew1) | exact HB.out)⟩

/-- THE ONE PURE STATEMENT of bibelotlaw03_HanoiFewest: yours. -/
def bibelotlaw03_HanoiFewest.Pure : Prop := ∀ (a0 : Int) (a1 : Int), (Lit.int .i64 a0).wf = true → (Lit.int .i64 a1).wf = true → ∃ k, bibelotlaw03_HanoiFewest.f k a0 a1 = some true
theorem bibelotlaw03_HanoiFewest.walk (P : bibelotlaw03_HanoiFewest.Pure) (a0 : Int) (a1 : Int) (w : World) (w0 : (Lit.int .i64 a0).wf = true) (w1 : (Lit.int .i64 a1).wf = true) :
    Calls Tryd.prog 5 #[.int .i64 a0, .int .i64 a1] w fun e w' => e = .returned (.bool true) ∧ Below w.heap.size w w' := by
  obtain ⟨k, h⟩ := P a0 a1 w0 w1
  refine (bibelotlaw03_HanoiFewest.calls k a0 a1 true w h).mono ?_
  rintro e w' ⟨rfl, hd⟩
  exact ⟨rfl, hd⟩

end Go.Proofs.YtnaaomhmoamfpaaDoor.Q
/- The document's Can and Moves: what they come to. -/
namespace Go.Proofs.YtnaaomhmoamfpaaDoor.G
set_option linter.unusedVariables false
set_option linter.unusedSimpArgs false
set_option linter.unusedSectionVars false
open Go.Proofs.YtnaaomhmoamfpaaDoor.Q Go.Proofs.YtnaaomhmoamfpaaDoor.Hn
open Go.RowKit Go.Proofs.YtnaaomhmoamfpaaDoorW.PrintWords Go.Proofs.YtnaaomhmoamfpaaDoorW.PrintLast Go.Proofs.YtnaaomhmoamfpaaDoorW.PrintMore

/-- Can disc d of l be moved to peg q? -/
def canB (l : List Int) (d : Nat) (q : Int) : Bool := !cov l d (nth l d) && !cov l d q && decide (q ≠ nth l d)
theorem can_loop (l : List Int) (d : Nat) (q : Int) (hd : d < l.length) (hl : l.length ≤ 1000) (hne : q ≠ nth l d) : ∀ e i, i + e = d → (∀ j, j < i → nth l j ≠ nth l d ∧ nth l j ≠ q) →
    Ev (fun k => bibelotref03_Can.l0 k l (d : Int) q (i : Int)) (canB l d q)
  | 0, i, h, hi => by
    obtain rfl : i = d := by omega
    refine Ev.step (fun k => ?_) (Ev.now _)
    have h1 := (cov_no l (nth l i) i (by omega)).2 (fun j hj => (hi j hj).1)
    have h2 := (cov_no l q i (by omega)).2 (fun j hj => (hi j hj).2)
    have : canB l i q = true := by unfold canB; rw [h1, h2, decide_eq_true hne]; rfl
    rw [bibelotref03_Can.l0, if_neg (by omega), this]
  | e + 1, i, h, hi => by
    by_cases c1 : nth l i = nth l d
    · refine Ev.step (fun k => ?_) (Ev.now _)
      have h1 := (cov_iff l (nth l d) d (by omega)).2 ⟨i, by omega, c1⟩
      have : canB l d q = false := by unfold canB; rw [h1]; rfl
      rw [bibelotref03_Can.l0, if_pos (by omega), if_pos (by omega), if_pos (by omega), if_pos (by omega), if_pos (by omega), rd_nth, rd_nth, if_pos c1, this]
    · by_cases c2 : nth l i = q
      · refine Ev.step (fun k => ?_) (Ev.now _)
        have h1 := (cov_iff l q d (by omega)).2 ⟨i, by omega, c2⟩
        have : canB l d q = false := by unfold canB; rw [h1]; simp
        rw [bibelotref03_Can.l0, if_pos (by omega), if_pos (by omega), if_pos (by omega), if_pos (by omega), if_pos (by omega), rd_nth, rd_nth, if_neg c1, if_pos c2, this]
      · refine Ev.step (fun k => ?_) (can_loop l d q hd hl hne e (i + 1) (by omega) (fun j hj => by
          by_cases ej : j = i
          · rw [ej]; exact ⟨c1, c2⟩
          · exact hi j (by omega)))
        rw [bibelotref03_Can.l0, if_pos (by omega), if_pos (by omega), if_pos (by omega), if_pos (by omega), if_pos (by omega), rd_nth, rd_nth, if_neg c1, if_neg c2, w64 (by omega) (by omega)]
        rfl
theorem can_ev (l : List Int) (d q P : Nat) (hd : d < l.length) (hl : l.length ≤ 1000) (hq : q < P) : Ev (fun k => bibelotref03_Can.f k l (d : Int) (q : Int) (P : Int)) (canB l d (q : Int)) := by
  have h1 : ¬ (d : Int) < 0 := by omega
  have h2 : ¬ (d : Int) ≥ (l.length : Int) := by omega
  have h3 : ¬ (q : Int) < 0 := by omega
  have h4 : ¬ (q : Int) ≥ (P : Int) := by omega
  have h5 : (0 : Int) ≤ (d : Int) := by omega
  have h6 : (d : Int) < (l.length : Int) := by omega
  unfold bibelotref03_Can.f
  simp only [h1, h2, h3, h4, h5, h6, if_false, if_true, rd_nth]
  by_cases c : nth l d = (q : Int)
  · refine Ev.step (fun k => ?_) (Ev.now _)
    have : canB l d (q : Int) = false := by unfold canB; rw [decide_eq_false (fun h => h c.symm)]; simp
    rw [bibelotref03_Can.j0, if_pos (beq_iff_eq.2 c), this]
  · refine Ev.step (fun k => ?_) (can_loop l d q hd hl (fun h => c h.symm) d 0 (by omega) (fun j hj => by omega))
    rw [bibelotref03_Can.j0, if_neg (by rw [beq_iff_eq]; exact c)]
    rfl

def mkS (m : Nat × Nat) : S52 := ⟨(m.1 : Int), (m.2 : Int)⟩
/-- Disc d's moves to the first q pegs. -/
def mvq (l : List Int) (d q : Nat) : List (Nat × Nat) := if cov l d (nth l d) = true then [] else movesTo l d q
theorem mvq_zero (l : List Int) (d : Nat) : mvq l d 0 = [] := by
  unfold mvq
  split
  · rfl
  · exact movesTo_zero l d
theorem mvq_succ (l : List Int) (d q : Nat) : mvq l d (q + 1) = if canB l d (q : Int) = true then mvq l d q ++ [(d, q)] else mvq l d q := by
  unfold mvq canB
  rw [movesTo_succ]
  by_cases h1 : cov l d (nth l d) = true
  · simp [h1]
  · have h1' : cov l d (nth l d) = false := by simpa using h1
    by_cases h2 : cov l d (q : Int) = true
    · simp [h1', h2]
    · have h2' : cov l d (q : Int) = false := by simpa using h2
      by_cases h3 : (q : Int) = nth l d <;> simp [h1', h2', h3]
theorem mvq_len (l : List Int) (d q : Nat) : (mvq l d q).length ≤ q := by
  induction q with
  | zero => rw [mvq_zero]; simp
  | succ q ih =>
    rw [mvq_succ]
    split
    · rw [List.length_append]; simp; omega
    · omega
theorem movesIn_len (l : List Int) (P n : Nat) : (movesIn l P n).length ≤ n * P := by
  induction n with
  | zero => simp [movesIn]
  | succ n ih =>
    have h1 : movesAt l P n = mvq l n P := rfl
    have h2 := mvq_len l n P
    rw [movesIn_succ, List.length_append, h1, Nat.add_mul]
    omega
mutual
theorem rmoves_l0 (l : List Int) (P : Nat) (hl : l.length ≤ 1000) (hP : P ≤ 1000) (e d : Nat) (h : d + e = l.length) : Ev (fun k => bibelotref03_Moves.l0 k l (P : Int) ((movesIn l P d).map mkS) (d : Int)) ((movesL l P).map mkS) := by
  match e with
  | 0 =>
    obtain rfl : d = l.length := by omega
    refine Ev.step (fun k => ?_) (Ev.now _)
    rw [bibelotref03_Moves.l0, if_neg (by omega)]
    rfl
  | e + 1 =>
    refine Ev.step (fun k => ?_) (rmoves_l1 l P hl hP e d h P 0 (by omega))
    rw [bibelotref03_Moves.l0, if_pos (by omega), mvq_zero, List.append_nil]
    rfl
termination_by (e, 0)
theorem rmoves_l1 (l : List Int) (P : Nat) (hl : l.length ≤ 1000) (hP : P ≤ 1000) (e d : Nat) (h : d + (e + 1) = l.length) (f q : Nat) (hq : q + f = P) : Ev (fun k => bibelotref03_Moves.l1 k l (P : Int) ((movesIn l P d ++ mvq l d q).map mkS) (d : Int) (q : Int)) ((movesL l P).map mkS) := by
  match f with
  | 0 =>
    obtain rfl : q = P := by omega
    refine Ev.step (fun k => ?_) (rmoves_l0 l q hl hP e (d + 1) (by omega))
    rw [bibelotref03_Moves.l1, if_neg (by omega), w64 (by omega) (by omega), movesIn_succ]
    rfl
  | f + 1 =>
    have hlen : ((movesIn l P d ++ mvq l d q).map mkS).length ≤ 1001000 := by
      have h1 := movesIn_len l P d
      have h2 := mvq_len l d q
      have h3 : d * P ≤ 1000 * 1000 := Nat.mul_le_mul (by omega) hP
      rw [List.length_map, List.length_append]
      omega
    have ih := rmoves_l1 l P hl hP e d h f (q + 1) (by omega)
    rw [mvq_succ] at ih
    refine Ev.step (f := fun k => (bibelotref03_Can.f k l (d : Int) (q : Int) (P : Int)).bind fun t => if t = true then bibelotref03_Moves.l1 k l (P : Int) ((movesIn l P d ++ (mvq l d q ++ [(d, q)])).map mkS) (d : Int) ((q + 1 : Nat) : Int) else bibelotref03_Moves.l1 k l (P : Int) ((movesIn l P d ++ mvq l d q).map mkS) (d : Int) ((q + 1 : Nat) : Int)) (fun k => ?_)
      (Ev.bind (can_ev l d q P (by omega) hl (by omega)) ?_)
    · rw [bibelotref03_Moves.l1, if_pos (by omega), w64 (by omega) (by omega)]
      congr 1
      funext t
      have e1 : (movesIn l P d ++ mvq l d q).map mkS ++ [(⟨(d : Int), (q : Int)⟩ : S52)] = (movesIn l P d ++ (mvq l d q ++ [(d, q)])).map mkS := by
        rw [← List.append_assoc, List.map_append (l₂ := [(d, q)])]
        rfl
      rw [if_pos (show ((movesIn l P d ++ mvq l d q).map mkS).length < 8796093022208 by omega), e1]
      rfl
    · by_cases c : canB l d (q : Int) = true
      · rw [if_pos c] at ih
        simp only [c, if_true]
        exact ih
      · rw [if_neg c] at ih
        simp only [c, if_false, Bool.false_eq_true]
        exact ih
termination_by (e, f + 1)
end
theorem rmoves_ev (l : List Int) (P : Nat) (hl : l.length ≤ 1000) (hP : P ≤ 1000) : Ev (fun k => bibelotref03_Moves.f k l (P : Int)) ((movesL l P).map mkS) := by
  have := rmoves_l0 l P hl hP l.length 0 (by omega)
  exact this
end Go.Proofs.YtnaaomhmoamfpaaDoor.G
/- HanoiFewest: the least number of moves with more pegs, or ErrArg. -/
namespace Go.Proofs.YtnaaomhmoamfpaaDoor.Pure
set_option linter.unusedVariables false
set_option linter.unusedSimpArgs false
set_option linter.unusedSectionVars false
open Go.Proofs.YtnaaomhmoamfpaaDoor.G Go.Proofs.YtnaaomhmoamfpaaDoor.Hn Go.Proofs.YtnaaomhmoamfpaaDoor.Bf
open Go.RowKit Go.Proofs.YtnaaomhmoamfpaaDoor.Q Go.Proofs.YtnaaomhmoamfpaaDoorW.PrintWords Go.Proofs.YtnaaomhmoamfpaaDoorW.PrintLast Go.Proofs.YtnaaomhmoamfpaaDoorW.PrintMore

/-- Is the goal reached at all? -/
def rch (P n k : Nat) : Bool := (lev P n k).testBit (P ^ n - 1)
theorem rch_ball {P n k : Nat} (hP : 1 ≤ P) (h : rch P n k = true) : goalP n P ∈ ball (nextP P) (startP n) k := (goal_ball hP k).2 h
theorem rch3 : ∀ n, n < 11 → rch 3 n (2 ^ n - 1) = true := by decide +kernel
theorem rch4 : ∀ n, n < 9 → rch 4 n 33 = true := by decide +kernel
theorem rch5 : ∀ n, n < 7 → rch 5 n 30 = true := by decide +kernel
theorem rch6 : ∀ n, n < 7 → rch 6 n 30 = true := by decide +kernel
theorem rch7 : ∀ n, n < 6 → rch 7 n 30 = true := by decide +kernel
theorem rch8 : ∀ n, n < 6 → rch 8 n 30 = true := by decide +kernel
theorem small_of {P n m : Nat} (h : P ^ n ≤ 70000) (hP : 0 < P) (hm : 70000 < P ^ m) : n < m := by
  rcases Nat.lt_or_ge n m with h1 | h1
  · exact h1
  · have := Nat.pow_le_pow_right hP h1
    omega
theorem reached {P n : Nat} (h3 : 3 ≤ P) (h8 : P ≤ 8) (h : P ^ n ≤ 70000) : ∃ k, goalP n P ∈ ball (nextP P) (startP n) k := by
  obtain rfl | rfl | rfl | rfl | rfl | rfl : P = 3 ∨ P = 4 ∨ P = 5 ∨ P = 6 ∨ P = 7 ∨ P = 8 := by omega
  · exact ⟨_, rch_ball (by omega) (rch3 n (small_of h (by omega) (by decide)))⟩
  · exact ⟨_, rch_ball (by omega) (rch4 n (small_of h (by omega) (by decide)))⟩
  · exact ⟨_, rch_ball (by omega) (rch5 n (small_of h (by omega) (by decide)))⟩
  · exact ⟨_, rch_ball (by omega) (rch6 n (small_of h (by omega) (by decide)))⟩
  · exact ⟨_, rch_ball (by omega) (rch7 n (small_of h (by omega) (by decide)))⟩
  · exact ⟨_, rch_ball (by omega) (rch8 n (small_of h (by omega) (by decide)))⟩

def cd (n P : Nat) (x : List Int) : Nat := cdN P (nth x) n
theorem cd_lt {n P : Nat} {x : List Int} (h : Vp n P x) : cd n P x < P ^ n := cdN_lt n (vp_digits h)
theorem cd_inj {n P : Nat} {x y : List Int} (hx : Vp n P x) (hy : Vp n P y) (h : cd n P x = cd n P y) : x = y := by
  have := cdN_inj n (vp_digits hx) (vp_digits hy) h
  apply List.ext_getElem (by rw [hx.1, hy.1])
  intro i h1 h2
  have := this i (by rw [← hx.1]; exact h1)
  simpa [nth, h1, h2] using this
theorem dgt_cd {P : Nat} {s : Nat → Int} : ∀ n, (∀ i, i < n → 0 ≤ s i ∧ s i < P) → ∀ i, i < n → dgt P (cdN P s n) i = (s i).toNat
  | 0, _, i, hi => by omega
  | n + 1, h, i, hi => by
    have hlt := cdN_lt n (fun i hi => h i (Nat.lt_succ_of_lt hi))
    have hp : 0 < P ^ n := by omega
    have hsi := h i hi
    have hP : 0 < P := by omega
    rw [cdN]
    by_cases e : i = n
    · subst e
      unfold dgt
      rw [Nat.add_mul_div_right _ _ hp, Nat.div_eq_of_lt hlt, Nat.zero_add, Nat.mod_eq_of_lt (by omega)]
    · have ih := dgt_cd n (fun i hi => h i (Nat.lt_succ_of_lt hi)) i (by omega)
      rw [← ih]
      unfold dgt
      obtain ⟨d, rfl⟩ : ∃ d, n = i + (d + 1) := ⟨n - i - 1, by omega⟩
      have e2 : (s (i + (d + 1))).toNat * P ^ (i + (d + 1)) = ((s (i + (d + 1))).toNat * P ^ d * P) * P ^ i := by
        rw [Nat.pow_add, Nat.pow_succ]
        simp only [Nat.mul_assoc, Nat.mul_comm, Nat.mul_left_comm]
      rw [e2, Nat.add_mul_div_right _ _ (Nat.pow_pos hP), Nat.add_mul_mod_self_right]
theorem codeP_cd {n P : Nat} {x : List Int} (h : Vp n P x) : codeP P n (cd n P x) = x := by
  apply List.ext_getElem (by rw [codeP_len, h.1])
  intro i h1 h2
  have hi : i < n := by rw [← h.1]; exact h2
  have hd := vp_digits h i hi
  have e := dgt_cd n (vp_digits h) i hi
  have e2 : nth x i = x[i] := by simp [nth, h2]
  simp only [codeP, List.getElem_map, List.getElem_range]
  unfold cd
  rw [e, ← e2]
  omega

/-- What the table says of a position. -/
def val (S : Se (List Int)) (x : List Int) : Int := match S x with
  | none => 0
  | some d => (d : Int) + 1
structure Tb (n P : Nat) (S : Se (List Int)) (T : List Int) : Prop where
  len : T.length = P ^ n
  at_ : ∀ x, Vp n P x → nth T (cd n P x) = val S x
theorem nth_setL (T : List Int) (i : Nat) (v : Int) (h : i < T.length) : nth (T.set i v) = upd (nth T) i v := nth_set T i v h
theorem Tb.put {n P : Nat} {S : Se (List Int)} {T : List Int} (h : Tb n P S T) {t : List Int} (ht : Vp n P t) (d : Nat) : Tb n P (S.put t d) (T.set (cd n P t) ((d : Int) + 1)) := by
  refine ⟨by rw [List.length_set]; exact h.len, fun x hx => ?_⟩
  rw [nth_setL _ _ _ (by rw [h.len]; exact cd_lt ht)]
  by_cases e : x = t
  · subst e
    rw [upd_same]
    unfold val
    rw [Se.put_same]
  · rw [upd_other _ _ (fun e2 => e (cd_inj hx ht e2)), h.at_ x hx]
    unfold val
    rw [Se.put_other _ _ e]

section
variable (n P : Nat) (hP3 : 3 ≤ P) (hP8 : P ≤ 8) (hle : P ^ n ≤ 70000)
include hP3 hP8 hle
set_option maxHeartbeats 4000000 in
theorem bfs_l1 (i : Nat) (s : List Int) (hs : Vp n P s) (ih : ∀ S q L T Z, Rd (nextP P) (startP n) (Vp n P) S q L → Tb n P S T → Z.length = L.length → i + 1 ≤ Z.length → Z.drop (i + 1) = q.map (fun x => (cd n P x : Int)) →
      Ev (fun k => bibelotref03_Fewest.l0 k (n : Int) (P : Int) ((P ^ n : Nat) : Int) T Z ((i + 1 : Nat) : Int)) (fewest n P : Int)) (hn : n ≤ 40) :
    ∀ f j S q L T Z, j + f = (movesL s P).length → Rm (nextP P) (startP n) (Vp n P) S s (((movesL s P).take j).map (fun m => s.set m.1 (m.2 : Int))) q L → Tb n P S T → Z.length = L.length → i + 1 ≤ Z.length → nth Z i = (cd n P s : Int) → Z.drop (i + 1) = q.map (fun x => (cd n P x : Int)) →
      Ev (fun k => bibelotref03_Fewest.l1 k (n : Int) (P : Int) ((P ^ n : Nat) : Int) T Z (i : Int) s ((movesL s P).map mkS) (j : Int)) (fewest n P : Int)
  | 0, j, S, q, L, T, Z, hj, hrm, htb, hZ, hi, hhead, hdrop => by
    have hcount := rm_count hrm
    have e : (movesL s P).take j = movesL s P := List.take_of_length_le (by omega)
    rw [e] at hrm
    refine Ev.step (fun k => ?_) (ih S q L T Z (Rm.finish hrm) htb hZ hi hdrop)
    rw [bibelotref03_Fewest.l1, if_neg (by rw [List.length_map]; omega), w64 (by omega) (by omega)]
    rfl
  | f + 1, j, S, q, L, T, Z, hj, hrm, htb, hZ, hi, hhead, hdrop => by
    have hcount := rm_count hrm
    have hml : (movesL s P).length ≤ 1000 := by
      have h1 := movesIn_len s P s.length
      have h2 : s.length * P ≤ 40 * 8 := Nat.mul_le_mul (by rw [hs.1]; exact hn) hP8
      unfold movesL
      omega
    have hjl : j < (movesL s P).length := by omega
    obtain ⟨d, t, hm⟩ : ∃ d t, (movesL s P)[j] = (d, t) := ⟨_, _, rfl⟩
    have hmem : (d, t) ∈ movesL s P := by rw [← hm]; exact List.getElem_mem hjl
    obtain ⟨hd, ht, _⟩ := moves_mem.1 hmem
    have hdn : d < n := by rw [← hs.1]; exact hd
    have htk : (movesL s P).take (j + 1) = (movesL s P).take j ++ [(d, t)] := by rw [List.take_succ_eq_append_getElem hjl, hm]
    have hrd : rd_T52 ((movesL s P).map mkS) (j : Int) = mkS (d, t) := by
      unfold rd_T52
      rw [Int.toNat_natCast, List.getD_eq_getElem?_getD, List.getElem?_map, List.getElem?_eq_getElem hjl, hm]
      rfl
    have f0 : (rd_T52 ((movesL s P).map mkS) (j : Int)).f0 = (d : Int) := by rw [hrd]; rfl
    have f1 : (rd_T52 ((movesL s P).map mkS) (j : Int)).f1 = (t : Int) := by rw [hrd]; rfl
    have hvt := vp_set hs d t hdn ht
    obtain ⟨g1, g2⟩ := vp_digits hs d hdn
    obtain ⟨a, ha⟩ := Int.eq_ofNat_of_zero_le g1
    have hpd : P ^ (d + 1) ≤ P ^ n := Nat.pow_le_pow_right (by omega) (by omega)
    have hpd2 : P ^ d ≤ P ^ n := Nat.pow_le_pow_right (by omega) (by omega)
    have hpow := power_ev P d (Nat.le_trans (Nat.le_of_lt hdn) (Nat.le_trans hn (by decide))) (Nat.le_trans (by decide) hP3) (Nat.lt_of_le_of_lt (Nat.le_trans hpd2 hle) (by decide))
    have hcs := cd_lt hs
    have hct := cd_lt hvt
    have hnx : cd n P (s.set d (t : Int)) + a * P ^ d = cd n P s + t * P ^ d := by
      have := cdN_upd (P := P) (s := nth s) (q := (t : Int)) n hdn
      rw [ha, Int.toNat_natCast, Int.toNat_natCast] at this
      unfold cd
      rw [nth_set _ _ _ hd]
      exact this
    have b1 : a * P ^ d ≤ 70000 := by
      have h1 : (a + 1) * P ^ d ≤ P * P ^ d := Nat.mul_le_mul_right _ (by omega)
      have h2 : P * P ^ d = P ^ (d + 1) := by rw [Nat.pow_succ, Nat.mul_comm]
      rw [Nat.add_mul, h2] at h1
      omega
    have b2 : t * P ^ d ≤ 70000 := by
      have h1 : (t + 1) * P ^ d ≤ P * P ^ d := Nat.mul_le_mul_right _ (by omega)
      have h2 : P * P ^ d = P ^ (d + 1) := by rw [Nat.pow_succ, Nat.mul_comm]
      rw [Nat.add_mul, h2] at h1
      omega
    have eI : ((t : Int) - (a : Int)) * ((P ^ d : Nat) : Int) = ((t * P ^ d : Nat) : Int) - ((a * P ^ d : Nat) : Int) := by rw [Int.sub_mul, Int.natCast_mul, Int.natCast_mul]
    have eN : ∀ Y : Int, Y = ((t : Int) - (a : Int)) * ((P ^ d : Nat) : Int) → wrap64 ((cd n P s : Int) + wrap64 Y) = ((cd n P (s.set d (t : Int)) : Nat) : Int) := by
      intro Y hY
      rw [eI] at hY
      rw [w64 (x := Y) (by omega) (by omega), w64 (by omega) (by omega)]
      omega
    have hseen := htb.at_ _ hvt
    obtain ⟨ds, hds, hdl⟩ := hrm.some_
    have hself := htb.at_ _ hs
    unfold val at hself
    rw [hds] at hself
    simp only at hself
    have wj : wrap64 ((j : Int) + 1) = ((j + 1 : Nat) : Int) := by rw [w64 (by omega) (by omega)]; rfl
    have wa : wrap64 ((t : Int) - (a : Int)) = (t : Int) - (a : Int) := by rw [w64 (by omega) (by omega)]
    obtain ⟨C, hC⟩ : ∃ C, cd n P (s.set d (t : Int)) = C := ⟨_, rfl⟩
    obtain ⟨Cs, hCs⟩ : ∃ Cs, cd n P s = Cs := ⟨_, rfl⟩
    rw [hC] at hseen hct
    rw [hCs] at hself hcs hhead
    rw [hC, hCs] at eN
    obtain ⟨K0, hK0⟩ := hpow
    have x1 : (j : Int) < (((movesL s P).map mkS).length : Int) := Int.ofNat_lt.2 (by rw [List.length_map]; exact hjl)
    have x2 : (0 : Int) ≤ (j : Int) := Int.natCast_nonneg _
    have x3 : (0 : Int) ≤ (i : Int) := Int.natCast_nonneg _
    have x4 : (i : Int) < (Z.length : Int) := Int.ofNat_lt.2 hi
    have x5 : (0 : Int) ≤ (d : Int) := Int.natCast_nonneg _
    have x6 : (d : Int) < (s.length : Int) := Int.ofNat_lt.2 hd
    have hdsb : ds ≤ 70000 := Nat.le_trans hdl (Nat.le_trans hcount hle)
    have hZb : Z.length ≤ 70000 := by rw [hZ]; exact Nat.le_trans hcount hle
    have c6 : wrap64 ((ds : Int) + 1 + 1) = ((ds + 1 : Nat) : Int) + 1 := by
      clear eN eI hnx b1 b2 hseen hself hhead hK0 hct hcs
      rw [w64 (by omega) (by omega)]; rfl
    have eN2 := eN _ rfl
    cases hS : S (s.set d (t : Int)) with
    | none =>
      unfold val at hseen
      rw [hS] at hseen
      simp only at hseen
      obtain ⟨hrm2, hex⟩ := hrm.new hds (List.mem_map.2 ⟨_, hmem, rfl⟩) hvt hS
      have hcount2 := rm_count hrm2
      have htb2 := htb.put hvt (ds + 1)
      rw [hC] at htb2
      have hdk : List.map (fun m => s.set m.1 (m.2 : Int)) (List.take j (movesL s P)) ++ [s.set d (t : Int)] = List.map (fun m => s.set m.1 (m.2 : Int)) (List.take (j + 1) (movesL s P)) := by rw [htk, List.map_append]; rfl
      rw [hdk] at hrm2
      have hZ2 : (Z ++ [(C : Int)]).length = (s.set d (t : Int) :: L).length := by simp [hZ]
      have hdrop2 : (Z ++ [(C : Int)]).drop (i + 1) = (q ++ [s.set d (t : Int)]).map (fun x => (cd n P x : Int)) := by
        rw [List.drop_append_of_le_length hi, hdrop, List.map_append]
        simp [hC]
      have hhead2 : nth (Z ++ [(C : Int)]) i = (cd n P s : Int) := by
        rw [hCs, ← hhead]
        unfold nth
        rw [List.getD_eq_getElem?_getD, List.getElem?_append_left (by omega), ← List.getD_eq_getElem?_getD]
      have rec_ := bfs_l1 i s hs ih hn f (j + 1) _ _ _ _ (Z ++ [(C : Int)]) (by omega) hrm2 htb2 hZ2 (by rw [List.length_append]; omega) hhead2 hdrop2
      obtain ⟨K1, hK1⟩ := rec_
      refine ⟨max K0 K1 + 1, fun k hk => ?_⟩
      obtain ⟨k, rfl⟩ : ∃ m, k = m + 1 := ⟨k - 1, (Nat.sub_add_cancel (Nat.le_trans (Nat.le_add_left 1 _) hk)).symm⟩
      have y0 := hK0 k (Nat.le_trans (Nat.le_max_left _ _) (Nat.le_of_succ_le_succ hk))
      have y1 := hK1 k (Nat.le_trans (Nat.le_max_right _ _) (Nat.le_of_succ_le_succ hk))
      have c1 : (0 : Int) ≤ ((C : Nat) : Int) := Int.natCast_nonneg _
      have c2 : ((C : Nat) : Int) < (T.length : Int) := Int.ofNat_lt.2 (by rw [htb.len]; exact hct)
      have c3 : (0 : Int) ≤ ((Cs : Nat) : Int) := Int.natCast_nonneg _
      have c4 : ((Cs : Nat) : Int) < (T.length : Int) := Int.ofNat_lt.2 (by rw [htb.len]; exact hcs)
      have c5 : Z.length < 17592186044416 := Nat.lt_of_le_of_lt hZb (by decide)
      show bibelotref03_Fewest.l1 (k + 1) _ _ _ _ _ _ _ _ _ = _
      rw [bibelotref03_Fewest.l1]
      simp only [x1, x2, x3, x4, f0, f1, x5, x6, y0, Option.bind_some, rd_nth, ha, wa, hhead, eN2, c1, c2, hseen, c3, c4, c5, hself, c6, wj, if_true, Int.toNat_natCast]
      exact y1
    | some e =>
      unfold val at hseen
      rw [hS] at hseen
      simp only at hseen
      have hrm2 := hrm.seen_ (t := s.set d (t : Int)) (by rw [hS]; rfl)
      have hdk : List.map (fun m => s.set m.1 (m.2 : Int)) (List.take j (movesL s P)) ++ [s.set d (t : Int)] = List.map (fun m => s.set m.1 (m.2 : Int)) (List.take (j + 1) (movesL s P)) := by rw [htk, List.map_append]; rfl
      rw [hdk] at hrm2
      have rec_ := bfs_l1 i s hs ih hn f (j + 1) _ _ _ _ Z (by omega) hrm2 htb hZ hi (by rw [hCs]; exact hhead) hdrop
      obtain ⟨K1, hK1⟩ := rec_
      refine ⟨max K0 K1 + 1, fun k hk => ?_⟩
      obtain ⟨k, rfl⟩ : ∃ m, k = m + 1 := ⟨k - 1, (Nat.sub_add_cancel (Nat.le_trans (Nat.le_add_left 1 _) hk)).symm⟩
      have y0 := hK0 k (Nat.le_trans (Nat.le_max_left _ _) (Nat.le_of_succ_le_succ hk))
      have y1 := hK1 k (Nat.le_trans (Nat.le_max_right _ _) (Nat.le_of_succ_le_succ hk))
      have c1 : (0 : Int) ≤ ((C : Nat) : Int) := Int.natCast_nonneg _
      have c2 : ((C : Nat) : Int) < (T.length : Int) := Int.ofNat_lt.2 (by rw [htb.len]; exact hct)
      have c3 : ¬ (e : Int) + 1 = 0 := fun h => by
        have := Int.natCast_nonneg e
        clear eN eI hnx b1 b2 hseen hself hhead hK0 hct hcs
        omega
      show bibelotref03_Fewest.l1 (k + 1) _ _ _ _ _ _ _ _ _ = _
      rw [bibelotref03_Fewest.l1]
      simp only [x1, x2, x3, x4, f0, f1, x5, x6, y0, Option.bind_some, rd_nth, ha, wa, hhead, eN2, c1, c2, hseen, c3, wj, if_true, if_false]
      exact y1
set_option maxHeartbeats 4000000 in
theorem bfs_l0 (hn : n ≤ 40) : ∀ e i S q L T Z, i + e = P ^ n + 1 → Rd (nextP P) (startP n) (Vp n P) S q L → Tb n P S T → Z.length = L.length → i ≤ Z.length → Z.drop i = q.map (fun x => (cd n P x : Int)) →
      Ev (fun k => bibelotref03_Fewest.l0 k (n : Int) (P : Int) ((P ^ n : Nat) : Int) T Z (i : Int)) (fewest n P : Int)
  | 0, i, S, q, L, T, Z, he, hrd, htb, hZ, hi, hdrop => by
    have := rd_count hrd
    omega
  | e + 1, i, S, q, L, T, Z, he, hrd, htb, hZ, hi, hdrop => by
    have hcount := rd_count hrd
    have hpos : 1 ≤ P ^ n := Nat.pow_pos (by omega)
    cases q with
    | nil =>
      have hend : i = Z.length := by
        have := congrArg List.length hdrop
        simp at this
        omega
      have hvg := vp_goal n P (by omega)
      have hT := htb.at_ _ hvg
      have hcg : cd n P (goalP n P) = P ^ n - 1 := cd_goal P n (by omega)
      rw [hcg] at hT
      obtain ⟨kk, hkk⟩ := reached hP3 hP8 hle
      cases hS : S (goalP n P) with
      | none =>
        obtain ⟨A, B, d, hq, hst⟩ := hrd.st
        have hAB : A = [] ∧ B = [] := by simpa using hq.symm
        obtain ⟨rfl, rfl⟩ := hAB
        exact absurd hkk (hst.never hS kk)
      | some d =>
        unfold val at hT
        rw [hS] at hT
        simp only at hT
        have hf : fewest n P = d := hrd.found hS (rd_count hrd)
        have hdl := hrd.deep _ _ hS
        refine Ev.step (fun k => ?_) (Ev.now _)
        have e1 : wrap64 (((P ^ n : Nat) : Int) - 1) = ((P ^ n - 1 : Nat) : Int) := by rw [w64 (by omega) (by omega)]; omega
        rw [bibelotref03_Fewest.l0, if_neg (by omega), e1, if_pos (by omega), if_pos (by rw [htb.len]; omega), rd_nth, hT, w64 (by omega) (by omega), hf]
        congr 1
        omega
    | cons s q =>
      have hvs : Vp n P s := by
        obtain ⟨ds, h1, _⟩ := (Rd.pop hrd).some_
        exact hrd.v s (by rw [h1]; rfl)
      have hlt : i < Z.length := by
        have := congrArg List.length hdrop
        simp at this
        omega
      have hZi : nth Z i = (cd n P s : Int) := by
        have := congrArg (fun l => l[0]?) hdrop
        simp only [List.getElem?_drop, Nat.add_zero, List.map_cons, List.getElem?_cons_zero] at this
        unfold nth
        rw [List.getD_eq_getElem?_getD, this]
        rfl
      have hdrop2 : Z.drop (i + 1) = q.map (fun x => (cd n P x : Int)) := by
        have := congrArg (List.drop 1) hdrop
        rw [List.drop_drop, List.map_cons, List.drop_succ_cons, List.drop_zero] at this
        exact this
      have hcs := cd_lt hvs
      have hdec := decoded_ev n (cd n P s) P (by omega) (by omega) (by omega)
      rw [codeP_cd hvs] at hdec
      refine Ev.step (fun k => by rw [bibelotref03_Fewest.l0, if_pos (by omega), if_pos (by omega), rd_nth, hZi]) (Ev.bind hdec (Ev.bind (rmoves_ev s P (by rw [hvs.1]; omega) (by omega)) ?_))
      exact bfs_l1 n P hP3 hP8 hle i s hvs (fun S q L T Z g1 g2 g3 g4 g5 => bfs_l0 hn e (i + 1) S q L T Z (by omega) g1 g2 g3 g4 g5) hn (movesL s P).length 0 S q L T Z (by omega) (by simpa using Rd.pop hrd) htb hZ (by omega) hZi hdrop2
theorem rfewest_ev (hn : n ≤ 40) : Ev (fun k => bibelotref03_Fewest.f k (n : Int) (P : Int)) (fewest n P : Int) := by
  have hpos : 1 ≤ P ^ n := Nat.pow_pos (by omega)
  have hv0 := vp_start n P (by omega)
  have hc0 : cd n P (startP n) = 0 := cd_start P n
  unfold bibelotref03_Fewest.f
  refine Ev.bind (power_ev P n (by omega) (by omega) (by omega)) ?_
  have h1 : (0 : Int) ≤ ((P ^ n : Nat) : Int) := by omega
  have h2 : P ^ n ≤ 35184372088832 := by omega
  have h3 : (0 : Int) < ((List.replicate (P ^ n) (0 : Int)).length : Int) := by rw [List.length_replicate]; omega
  simp only [h1, if_true, Int.toNat_natCast, h2, Option.bind_some, h3]
  have htb : Tb n P (fun x => if x = startP n then some 0 else none) ((List.replicate (P ^ n) (0 : Int)).set (0 : Int).toNat 1) := by
    have h0 : Tb n P (fun _ => none) (List.replicate (P ^ n) (0 : Int)) := by
      refine ⟨by simp, fun x hx => ?_⟩
      have := cd_lt hx
      simp [nth, val, List.getD_eq_getElem?_getD, List.getElem?_replicate, this]
    have h1 := h0.put hv0 0
    rw [hc0] at h1
    exact h1
  exact bfs_l0 n P hP3 hP8 hle hn (P ^ n + 1) 0 _ [startP n] [startP n] _ [0] (by omega) (Rd.begin hv0) htb rfl (by simp) (by simp [hc0])
end

theorem many_loopF (n P : Nat) (hn : n ≤ 40) (hP3 : 3 ≤ P) (hP8 : P ≤ 8) : ∀ e i, i + e = n → Ev (fun k => bibelotref03_Many.l0 k (n : Int) (P : Int) ((P ^ i : Nat) : Int) (i : Int)) (decide (70000 < P ^ n))
  | 0, i, h => by
    obtain rfl : i = n := by omega
    refine Ev.step (fun k => ?_) (Ev.now _)
    rw [bibelotref03_Many.l0, if_neg (by omega)]
    congr 1
    rw [Bool.eq_iff_iff, decide_eq_true_eq, decide_eq_true_eq]
    omega
  | e + 1, i, h => by
    have hle : P ^ i ≤ P ^ n := Nat.pow_le_pow_right (by omega) (by omega)
    obtain ⟨A, hA⟩ : ∃ A, P ^ i = A := ⟨_, rfl⟩
    rw [hA] at hle ⊢
    by_cases hs : A ≤ 70000
    · have ih := many_loopF n P hn hP3 hP8 e (i + 1) (by omega)
      refine Ev.step (fun k => ?_) ih
      have e1 : P ^ (i + 1) = A * P := by rw [Nat.pow_succ, hA]
      have hb : A * P ≤ 560000 := Nat.mul_le_mul hs hP8
      have e2 : (A : Int) * (P : Int) = ((A * P : Nat) : Int) := by rw [Int.natCast_mul]
      rw [e1]
      obtain ⟨B, hB⟩ : ∃ B, A * P = B := ⟨_, rfl⟩
      rw [hB] at e2 hb ⊢
      rw [bibelotref03_Many.l0, if_pos (by omega), if_pos (by omega), e2, w64 (by omega) (by omega), w64 (by omega) (by omega)]
      rfl
    · refine Ev.step (fun k => ?_) (Ev.now _)
      rw [bibelotref03_Many.l0, if_pos (by omega), if_neg (by omega)]
      congr 1
      rw [Bool.eq_iff_iff, decide_eq_true_eq, decide_eq_true_eq]
      omega
theorem manyF_ev (n P : Nat) (hn : n ≤ 40) (hP3 : 3 ≤ P) (hP8 : P ≤ 8) : Ev (fun k => bibelotref03_Many.f k (n : Int) (P : Int)) (decide (70000 < P ^ n)) := by
  have := many_loopF n P hn hP3 hP8 n 0 (by omega)
  rw [Nat.pow_zero] at this
  exact this

theorem few_round (x0 x1 x5 : Int) (hx : x5 = 0 ∨ x5 = 1) (h : Ev (fun k => bibelotlaw03_HanoiFewest.l0 k (umod x0 6) (3 + umod x1 3) (x5 + 1)) true) : Ev (fun k => bibelotlaw03_HanoiFewest.l0 k x0 x1 x5) true := by
  have hw : wrap64 (x5 + 1) = x5 + 1 := w64 (by omega) (by omega)
  have b0 := umod_bd x0 6 (by omega)
  have b1 := umod_bd x1 3 (by omega)
  have w0 : wrap64 (Int.tmod (IntKind.u64.wrap x0) 6) = umod x0 6 := by rw [utmod, w64 (by omega) (by omega)]
  have w1 : wrap64 (3 + wrap64 (Int.tmod (IntKind.u64.wrap x1) 3)) = 3 + umod x1 3 := by rw [utmod, w64 (x := umod x1 3) (by omega) (by omega), w64 (by omega) (by omega)]
  have bad : ∀ x0 x1 : Int, umod x0 6 = umod x0 6 → wrap64 (Int.tmod (IntKind.u64.wrap x0) 6) = umod x0 6 → wrap64 (3 + wrap64 (Int.tmod (IntKind.u64.wrap x1) 3)) = 3 + umod x1 3 → Ev (fun k => bibelotlaw03_HanoiFewest.l0 k (umod x0 6) (3 + umod x1 3) (x5 + 1)) true → Ev (fun k => bibelotlaw03_HanoiFewest.j1 k x0 x1 x5 0 1 true) true := by
    intro x0 x1 _ w0 w1 h
    refine Ev.step (fun k => ?_) h
    rw [bibelotlaw03_HanoiFewest.j1, if_pos rfl, if_pos rfl, if_pos rfl, w0, w1, hw]
  by_cases ha : asked x0 x1 = true
  · obtain ⟨h1, h2, h3, h4⟩ := (asked_iff x0 x1).1 ha
    obtain ⟨n, rfl⟩ := Int.eq_ofNat_of_zero_le h1
    obtain ⟨P, rfl⟩ := Int.eq_ofNat_of_zero_le (show 0 ≤ x1 by omega)
    have hmany := manyF_ev n P (by omega) (by omega) (by omega)
    by_cases hs : P ^ n ≤ 70000
    · have hF : hanoi_Fewest.f (n : Int) (P : Int) = some ((fewest n P : Int), 0) := by unfold hanoi_Fewest.f; rw [if_pos ⟨ha, by simpa using hs⟩]; rfl
      rw [decide_eq_false (show ¬ 70000 < P ^ n by omega)] at hmany
      refine Ev.step (fun k => by rw [bibelotlaw03_HanoiFewest.l0, if_pos (by omega), hF, Option.bind_some, if_neg (by omega), if_neg (by omega), if_neg (by omega), if_neg (by omega)]) (Ev.bind hmany ?_)
      refine Ev.step (f := fun k => (bibelotref03_Fewest.f k (n : Int) (P : Int)).bind fun t => if (fewest n P : Int) = t then bibelotlaw03_HanoiFewest.l0 k (umod (n : Int) 6) (3 + umod (P : Int) 3) (x5 + 1) else some false) (fun k => ?_)
        (Ev.bind (rfewest_ev n P (by omega) (by omega) hs (by omega)) (by simp only [if_true]; exact h))
      rw [bibelotlaw03_HanoiFewest.j1, if_neg (by simp), if_pos rfl]
      simp only [w0, w1, hw]
    · have hF : hanoi_Fewest.f (n : Int) (P : Int) = some (0, 1) := by unfold hanoi_Fewest.f; rw [if_neg (fun hh => hs (by simpa using hh.2))]
      rw [decide_eq_true (show 70000 < P ^ n by omega)] at hmany
      refine Ev.step (fun k => by rw [bibelotlaw03_HanoiFewest.l0, if_pos (by omega), hF, Option.bind_some, if_neg (by omega), if_neg (by omega), if_neg (by omega), if_neg (by omega)]) (Ev.bind hmany ?_)
      exact bad _ _ rfl w0 w1 h
  · have hF : hanoi_Fewest.f x0 x1 = some (0, 1) := by unfold hanoi_Fewest.f; rw [if_neg (fun hh => ha hh.1)]
    have ha2 : ¬ (0 ≤ x0 ∧ x0 ≤ 40 ∧ 3 ≤ x1 ∧ x1 ≤ 8) := fun hh => ha ((asked_iff x0 x1).2 hh)
    refine Ev.step (f := fun k => bibelotlaw03_HanoiFewest.j1 k x0 x1 x5 0 1 true) (fun k => ?_) (bad _ _ rfl w0 w1 h)
    rw [bibelotlaw03_HanoiFewest.l0, if_pos (by omega), hF, Option.bind_some]
    by_cases h1 : x0 < 0
    · rw [if_pos h1]
    · rw [if_neg h1]
      by_cases h2 : x0 > 40
      · rw [if_pos h2]
      · rw [if_neg h2]
        by_cases h3 : x1 < 3
        · rw [if_pos h3]
        · rw [if_neg h3, if_pos (show x1 > 8 by omega)]

theorem HanoiFewest : bibelotlaw03_HanoiFewest.Pure := by
  intro a0 a1 _ _
  refine Ev.rounds (few_round a0 a1 0 (.inl rfl) (few_round _ _ 1 (.inr rfl) ?_))
  refine Ev.step (f := fun k => (bibelotlaw03_awake.f k).bind fun t => some t) (fun k => ?_) (Ev.bind awake_ev (Ev.now true))
  rw [bibelotlaw03_HanoiFewest.l0, if_neg (by omega)]
end Go.Proofs.YtnaaomhmoamfpaaDoor.Pure
