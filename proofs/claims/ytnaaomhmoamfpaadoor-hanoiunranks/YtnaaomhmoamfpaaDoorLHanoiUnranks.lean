/- HanoiUnranks: the rings with any rank, or ErrArg; and back: the walk and the plain law, for every input. -/
import Derived.Test.YtnaaomhmoamfpaaDoorA1
import Derived.Test.YtnaaomhmoamfpaaDoorA4
import Derived.Test.YtnaaomhmoamfpaaDoorA2
namespace Go.Proofs.YtnaaomhmoamfpaaDoor.G
end Go.Proofs.YtnaaomhmoamfpaaDoor.G
namespace Go.Proofs.YtnaaomhmoamfpaaDoor.Q
set_option linter.unusedVariables false
set_option linter.unusedSimpArgs false
set_option linter.unusedSectionVars false
open Go.Proofs.YtnaaomhmoamfpaaDoor.G
open Go.RowKit Go.Proofs.YtnaaomhmoamfpaaDoorW.PrintWords Go.Proofs.YtnaaomhmoamfpaaDoorW.PrintLast Go.Proofs.YtnaaomhmoamfpaaDoorW.PrintMore
attribute [local go_sem] max2_int min2_int max_two min_two max_three min_three max_four min_four   -- for this text's walks alone

/-! ### bibelotref03_Unrank: function 34 -/
def bibelotref03_Unrank.l0 : Nat → Int → Int → ByteArray → Int → Option (ByteArray)
  | 0, _, _, _, _ => none
  | k + 1, x0, x1, x5, x6 => if x6 < x0 then (if 0 ≤ x6 then (if 0 ≤ (wrap64 (x6 + 1)) then (if (Int.tmod (wrap64 ((shr .i64 x1 x6) + (shr .i64 x1 (wrap64 (x6 + 1))))) 2) = 1 then (if x5.size + 1 ≤ 9223372036854775807 then (bibelotref03_Unrank.l0 k x0 x1 (x5 ++ (⟨#[49]⟩ : ByteArray)) (wrap64 (x6 + 1))) else (none)) else (if x5.size + 1 ≤ 9223372036854775807 then (bibelotref03_Unrank.l0 k x0 x1 (x5 ++ (⟨#[48]⟩ : ByteArray)) (wrap64 (x6 + 1))) else (none))) else (none)) else (none)) else (some x5)
def bibelotref03_Unrank.f (k : Nat) (a0 : Int) (a1 : Int) : Option (ByteArray) := bibelotref03_Unrank.l0 k a0 a1 (⟨#[]⟩ : ByteArray) 0
theorem bibelotref03_Unrank.mono_l : ∀ k, (∀ y0 y1 y2 y3, LeO (bibelotref03_Unrank.l0 k y0 y1 y2 y3) (bibelotref03_Unrank.l0 (k + 1) y0 y1 y2 y3))
  | 0 => fun _ _ _ _ r h => by simp [bibelotref03_Unrank.l0] at h
  | k + 1 => by
    have ih0 := bibelotref03_Unrank.mono_l k
    · intro y0 y1 y2 y3
      unfold bibelotref03_Unrank.l0
      repeat' first
      | (with_reducible exact ih0 _ _ _ _)
      | (with_reducible exact LeO.refl _)
      | (with_reducible exact LeO.none _)
      | (with_reducible refine LeO.ite ?_ ?_)
      | (with_reducible refine LeO.bind ?_ (fun _ => ?_))
      | exact ih0 _ _ _ _
      | exact LeO.none _
      | refine LeO.ite ?_ ?_
      | refine LeO.bind ?_ (fun _ => ?_)
theorem bibelotref03_Unrank.mono : ∀ a0 a1 k, LeO (bibelotref03_Unrank.f k a0 a1) (bibelotref03_Unrank.f (k + 1) a0 a1) := by
  intro a0 a1 k
  have ih0 := bibelotref03_Unrank.mono_l k
  unfold bibelotref03_Unrank.f
  repeat' first
      | (with_reducible exact ih0 _ _ _ _)
      | (with_reducible exact LeO.refl _)
      | (with_reducible exact LeO.none _)
      | (with_reducible refine LeO.ite ?_ ?_)
      | (with_reducible refine LeO.bind ?_ (fun _ => ?_))
      | exact ih0 _ _ _ _
      | exact LeO.none _
      | refine LeO.ite ?_ ?_
      | refine LeO.bind ?_ (fun _ => ?_)
set_option maxHeartbeats 8000000 in
set_option maxRecDepth 100000 in
theorem bibelotref03_Unrank.calls (k : Nat) (a0 : Int) (a1 : Int) (r : ByteArray) (w : World) (h : bibelotref03_Unrank.f k a0 a1 = some r) :
    Calls Tryd.prog 34 #[.int .i64 a0, .int .i64 a1] w fun e w' => e = .returned (.string r) ∧ Drawn0 w w' := by
  have H : (bibelotref03_Unrank.l0 k a0 a1 (⟨#[]⟩ : ByteArray) 0) = some r := h
  clear h
  have H' := Aside0.mk H
  clear H
  go_enter Tryd.func34, Tryd.ntmps34
  go_wp2
  repeat (go_quiet (fail); try go_wp2)
  go_loopg [5, 6] k (fun kq v5 v6 w' => ∃ (x5_1 : ByteArray) (x6_1 : Int), v5 = .string x5_1 ∧ v6 = .int .i64 x6_1 ∧ Aside0 (bibelotref03_Unrank.l0 kq a0 a1 x5_1 x6_1 = some r) ∧ Aside0 (kq ≤ k) ∧ Drawn0 w w')
  case atStart => exact ⟨((⟨#[]⟩ : ByteArray)), (0), (by first | rfl | (simp; done) | (simp [*]; done)), (by first | rfl | (simp; done) | (simp [*]; done)), H', ⟨Nat.le_refl _⟩, by repeat (first | exact Drawn0.refl _ | apply Drawn0.step)⟩
  case round =>
    clear H'
    try clear p2
    obtain ⟨x5_1, x6_1, rfl, rfl, HA, HK1, ⟨m1, rfl⟩⟩ := hrel
    cases gk with
    | zero => exact absurd HA.out (by simp [bibelotref03_Unrank.l0])
    | succ k1 =>
      have H := HA.out
      clear HA
      simp only [bibelotref03_Unrank.l0] at H
      by_cases c3 : x6_1 < a0
      · rw [if_pos c3] at H
        have c3b0 : decide (x6_1 < a0) = true := decide_eq_true c3
        clear c3
        by_cases c4 : 0 ≤ x6_1
        · rw [if_pos c4] at H
          have c4b0 := eq_true c4
          have c4b1 : decide (0 ≤ x6_1) = true := decide_eq_true c4
          clear c4
          obtain ⟨ji5, hji5⟩ : ∃ j_ : Int, (shr .i64 a1 x6_1) = j_ := ⟨_, rfl⟩
          replace H : (if 0 ≤ (wrap64 (x6_1 + 1)) then (if (Int.tmod (wrap64 ((ji5) + (shr .i64 a1 (wrap64 (x6_1 + 1))))) 2) = 1 then (if x5_1.size + 1 ≤ 9223372036854775807 then (bibelotref03_Unrank.l0 k1 a0 a1 (x5_1 ++ (⟨#[49]⟩ : ByteArray)) (wrap64 (x6_1 + 1))) else (none)) else (if x5_1.size + 1 ≤ 9223372036854775807 then (bibelotref03_Unrank.l0 k1 a0 a1 (x5_1 ++ (⟨#[48]⟩ : ByteArray)) (wrap64 (x6_1 + 1))) else (none))) else (none)) = some r := by first | (rw [hji5] at H; exact H) | (simp only [hji5] at H ⊢; exact H)
          have hji5_ : (a1 / 2 ^ min x6_1.toNat 64) = ji5 := hji5
          have hji5z : x6_1 ≤ 64 → (a1 / 2 ^ x6_1.toNat) = ji5 := shr_small hji5
          obtain ⟨ji6, hji6⟩ : ∃ j_ : Int, (wrap64 (x6_1 + 1)) = j_ := ⟨_, rfl⟩
          replace H : (if 0 ≤ (ji6) then (if (Int.tmod (wrap64 ((ji5) + (shr .i64 a1 (ji6)))) 2) = 1 then (if x5_1.size + 1 ≤ 9223372036854775807 then (bibelotref03_Unrank.l0 k1 a0 a1 (x5_1 ++ (⟨#[49]⟩ : ByteArray)) ji6) else (none)) else (if x5_1.size + 1 ≤ 9223372036854775807 then (bibelotref03_Unrank.l0 k1 a0 a1 (x5_1 ++ (⟨#[48]⟩ : ByteArray)) ji6) else (none))) else (none)) = some r := by first | (rw [hji6] at H; exact H) | (simp only [hji6] at H ⊢; exact H)
          have hji6w : (IntKind.i64.wrap (x6_1 + 1)) = ji6 := (i64_w _).trans hji6
          by_cases c7 : 0 ≤ (ji6)
          · rw [if_pos c7] at H
            have c7b0 := eq_true c7
            have c7b1 : decide (0 ≤ (ji6)) = true := decide_eq_true c7
            clear c7
            obtain ⟨ji8, hji8⟩ : ∃ j_ : Int, (shr .i64 a1 (ji6)) = j_ := ⟨_, rfl⟩
            replace H : (if (Int.tmod (wrap64 ((ji5) + (ji8))) 2) = 1 then (if x5_1.size + 1 ≤ 9223372036854775807 then (bibelotref03_Unrank.l0 k1 a0 a1 (x5_1 ++ (⟨#[49]⟩ : ByteArray)) ji6) else (none)) else (if x5_1.size + 1 ≤ 9223372036854775807 then (bibelotref03_Unrank.l0 k1 a0 a1 (x5_1 ++ (⟨#[48]⟩ : ByteArray)) ji6) else (none))) = some r := by first | (rw [hji8] at H; exact H) | (simp only [hji8] at H ⊢; exact H)
            have hji8_ : (a1 / 2 ^ min (ji6).toNat 64) = ji8 := hji8
            have hji8z : (ji6) ≤ 64 → (a1 / 2 ^ (ji6).toNat) = ji8 := shr_small hji8
            by_cases c9 : (Int.tmod (wrap64 ((ji5) + (ji8))) 2) = 1
            · rw [if_pos c9] at H
              have c9b0 : ((Int.tmod (wrap64 ((ji5) + (ji8))) 2) == 1) = true := beq_iff_eq.mpr c9
              have c9b1 : ((Int.tmod (wrap64 ((ji5) + (ji8))) 2) != 1) = false := bne_eq_false_iff_eq.mpr c9
              clear c9
              by_cases c10 : x5_1.size + 1 ≤ 9223372036854775807
              · rw [if_pos c10] at H
                have c10b0 := eq_true c10
                have c10b1 : decide (x5_1.size + 1 ≤ 9223372036854775807) = true := decide_eq_true c10
                try have c10b2 : (9223372036854775807 < x5_1.size + 1) = False := eq_false (Nat.not_lt.2 c10)
                have H' := Aside0.mk H
                clear H
                go_wp2
                repeat (go_quiet (fail); try go_wp2)
                go_roundg k1
                case measure => have := HK1.out; omega
                case rel => exact ⟨(x5_1 ++ (⟨#[49]⟩ : ByteArray)), (ji6), (by first | rfl | (simp; done) | (simp [*]; done)), (by first | rfl | (simp; done) | (simp only [← hji6] <;> (first | rfl | simp)) | (simp [*]; done)), H', ⟨by have := HK1.out; omega⟩, by repeat (first | exact Drawn0.refl _ | apply Drawn0.step)⟩
              · rw [if_neg c10] at H
                exact absurd H (by simp)
            · rw [if_neg c9] at H
              have c9b0 : ((Int.tmod (wrap64 ((ji5) + (ji8))) 2) == 1) = false := beq_eq_false_iff_ne.mpr c9
              have c9b1 : ((Int.tmod (wrap64 ((ji5) + (ji8))) 2) != 1) = true := bne_iff_ne.mpr c9
              by_cases c11 : x5_1.size + 1 ≤ 9223372036854775807
              · rw [if_pos c11] at H
                have c11b0 := eq_true c11
                have c11b1 : decide (x5_1.size + 1 ≤ 9223372036854775807) = true := decide_eq_true c11
                try have c11b2 : (9223372036854775807 < x5_1.size + 1) = False := eq_false (Nat.not_lt.2 c11)
                have H' := Aside0.mk H
                clear H
                go_wp2
                repeat (go_quiet (fail); try go_wp2)
                go_roundg k1
                case measure => have := HK1.out; omega
                case rel => exact ⟨(x5_1 ++ (⟨#[48]⟩ : ByteArray)), (ji6), (by first | rfl | (simp; done) | (simp [*]; done)), (by first | rfl | (simp; done) | (simp only [← hji6] <;> (first | rfl | simp)) | (simp [*]; done)), H', ⟨by have := HK1.out; omega⟩, by repeat (first | exact Drawn0.refl _ | apply Drawn0.step)⟩
              · rw [if_neg c11] at H
                exact absurd H (by simp)
          · rw [if_neg c7] at H
            exact absurd H (by simp)
        · rw [if_neg c4] at H
          exact absurd H (by simp)
      · rw [if_neg c3] at H
        have c3b0 : decide (x6_1 < a0) = false := decide_eq_false c3
        clear c3
        obtain rfl := Option.some.inj H
        go_wp2
        repeat (go_quiet (fail); try go_wp2)
        go_ret
        exact ⟨by first | rfl | (simp; done) | (simp [*]; done), by repeat (first | exact Drawn0.refl _ | apply Drawn0.step)⟩

end Go.Proofs.YtnaaomhmoamfpaaDoor.Q
namespace Go.Proofs.YtnaaomhmoamfpaaDoor.G
end Go.Proofs.YtnaaomhmoamfpaaDoor.G
namespace Go.Proofs.YtnaaomhmoamfpaaDoor.Q
set_option linter.unusedVariables false
set_option linter.unusedSimpArgs false
set_option linter.unusedSectionVars false
open Go.Proofs.YtnaaomhmoamfpaaDoor.G
open Go.RowKit Go.Proofs.YtnaaomhmoamfpaaDoorW.PrintWords Go.Proofs.YtnaaomhmoamfpaaDoorW.PrintLast Go.Proofs.YtnaaomhmoamfpaaDoorW.PrintMore
attribute [local go_sem] max2_int min2_int max_two min_two max_three min_three max_four min_four   -- for this text's walks alone

/-! ### bibelotlaw03_HanoiUnranks: function 6 -/
mutual
def bibelotlaw03_HanoiUnranks.l0 : Nat → Int → Int → Int → Option (Bool)
  | 0, _, _, _ => none
  | k + 1, x0, x1, x5 => if x5 < 2 then ((hanoi_Unrank.f x0 x1).bind fun bt150 => (if x0 < 1 then (bibelotlaw03_HanoiUnranks.j1 k x0 x1 x5 bt150.1 bt150.2 true) else (if x0 > 60 then (bibelotlaw03_HanoiUnranks.j1 k x0 x1 x5 bt150.1 bt150.2 true) else (if x1 < 0 then (bibelotlaw03_HanoiUnranks.j1 k x0 x1 x5 bt150.1 bt150.2 true) else (if 0 ≤ x0 then (bibelotlaw03_HanoiUnranks.j1 k x0 x1 x5 bt150.1 bt150.2 (decide (x1 ≥ (shl .i64 1 x0)))) else (none)))))) else ((bibelotlaw03_awake.f k).bind fun t149 => (some t149))
def bibelotlaw03_HanoiUnranks.j1 : Nat → Int → Int → Int → ByteArray → Int → Bool → Option (Bool)
  | 0, _, _, _, _, _, _ => none
  | k + 1, x0, x1, x5, x6, x7, x35 => if x35 = true then (if x7 = 1 then (if x6.toList = ([] : List UInt8) then ((bibelotlaw03_many.f x0 60).bind fun t152 => (if 0 ≤ t152 then (if (shl .u64 1 t152) = 0 then (none) else (bibelotlaw03_HanoiUnranks.l0 k t152 (wrap64 (Int.tmod (IntKind.u64.wrap (x1)) (shl .u64 1 t152))) (wrap64 (x5 + 1)))) else (none))) else (some false)) else (some false)) else ((hanoi_Rank.f x6).bind fun bt153 => (if x7 = 0 then ((bibelotref03_Unrank.f k x0 x1).bind fun t155 => (if x6.toList = t155.toList then (if bt153.2 = 0 then (if bt153.1 = x1 then ((bibelotlaw03_many.f x0 60).bind fun t156 => (if 0 ≤ t156 then (if (shl .u64 1 t156) = 0 then (none) else (bibelotlaw03_HanoiUnranks.l0 k t156 (wrap64 (Int.tmod (IntKind.u64.wrap (x1)) (shl .u64 1 t156))) (wrap64 (x5 + 1)))) else (none))) else (some false)) else (some false)) else (some false))) else (some false)))
end
def bibelotlaw03_HanoiUnranks.f (k : Nat) (a0 : Int) (a1 : Int) : Option (Bool) := bibelotlaw03_HanoiUnranks.l0 k a0 a1 0
theorem bibelotlaw03_HanoiUnranks.mono_l : ∀ k, (∀ y0 y1 y2, LeO (bibelotlaw03_HanoiUnranks.l0 k y0 y1 y2) (bibelotlaw03_HanoiUnranks.l0 (k + 1) y0 y1 y2)) ∧ (∀ y0 y1 y2 y3 y4 y5, LeO (bibelotlaw03_HanoiUnranks.j1 k y0 y1 y2 y3 y4 y5) (bibelotlaw03_HanoiUnranks.j1 (k + 1) y0 y1 y2 y3 y4 y5))
  | 0 => ⟨fun _ _ _ r h => by simp [bibelotlaw03_HanoiUnranks.l0] at h, fun _ _ _ _ _ _ r h => by simp [bibelotlaw03_HanoiUnranks.j1] at h⟩
  | k + 1 => by
    obtain ⟨ih0, ih1⟩ := bibelotlaw03_HanoiUnranks.mono_l k
    refine ⟨?_, ?_⟩
    · intro y0 y1 y2
      unfold bibelotlaw03_HanoiUnranks.l0
      repeat' first
      | (with_reducible exact ih0 _ _ _)
      | (with_reducible exact ih1 _ _ _ _ _ _)
      | (with_reducible exact bibelotlaw03_awake.mono _)
      | (with_reducible exact bibelotref03_Unrank.mono _ _ _)
      | (with_reducible exact LeO.refl _)
      | (with_reducible exact LeO.none _)
      | (with_reducible refine LeO.ite ?_ ?_)
      | (with_reducible refine LeO.bind ?_ (fun _ => ?_))
      | exact ih0 _ _ _
      | exact ih1 _ _ _ _ _ _
      | exact bibelotlaw03_awake.mono _
      | exact bibelotref03_Unrank.mono _ _ _
      | exact LeO.none _
      | refine LeO.ite ?_ ?_
      | refine LeO.bind ?_ (fun _ => ?_)
    · intro y0 y1 y2 y3 y4 y5
      unfold bibelotlaw03_HanoiUnranks.j1
      repeat' first
      | (with_reducible exact ih0 _ _ _)
      | (with_reducible exact ih1 _ _ _ _ _ _)
      | (with_reducible exact bibelotlaw03_awake.mono _)
      | (with_reducible exact bibelotref03_Unrank.mono _ _ _)
      | (with_reducible exact LeO.refl _)
      | (with_reducible exact LeO.none _)
      | (with_reducible refine LeO.ite ?_ ?_)
      | (with_reducible refine LeO.bind ?_ (fun _ => ?_))
      | exact ih0 _ _ _
      | exact ih1 _ _ _ _ _ _
      | exact bibelotlaw03_awake.mono _
      | exact bibelotref03_Unrank.mono _ _ _
      | exact LeO.none _
      | refine LeO.ite ?_ ?_
      | refine LeO.bind ?_ (fun _ => ?_)
theorem bibelotlaw03_HanoiUnranks.mono : ∀ a0 a1 k, LeO (bibelotlaw03_HanoiUnranks.f k a0 a1) (bibelotlaw03_HanoiUnranks.f (k + 1) a0 a1) := by
  intro a0 a1 k
  obtain ⟨ih0, ih1⟩ := bibelotlaw03_HanoiUnranks.mono_l k
  unfold bibelotlaw03_HanoiUnranks.f
  repeat' first
      | (with_reducible exact ih0 _ _ _)
      | (with_reducible exact ih1 _ _ _ _ _ _)
      | (with_reducible exact bibelotlaw03_awake.mono _)
      | (with_reducible exact bibelotref03_Unrank.mono _ _ _)
      | (with_reducible exact LeO.refl _)
      | (with_reducible exact LeO.none _)
      | (with_reducible refine LeO.ite ?_ ?_)
      | (with_reducible refine LeO.bind ?_ (fun _ => ?_))
      | exact ih0 _ _ _
      | exact ih1 _ _ _ _ _ _
      | exact bibelotlaw03_awake.mono _
      | exact bibelotref03_Unrank.mono _ _ _
      | exact LeO.none _
      | refine LeO.ite ?_ ?_
      | refine LeO.bind ?_ (fun _ => ?_)
set_option maxHeartbeats 8000000 in
set_option maxRecDepth 100000 in
theorem bibelotlaw03_HanoiUnranks.calls (k : Nat) (a0 : Int) (a1 : Int) (r : Bool) (w : World) (h : bibelotlaw03_HanoiUnranks.f k a0 a1 = some r) :
    Calls Tryd.prog 6 #[.int .i64 a0, .int .i64 a1] w fun e w' => e = .returned (.bool r) ∧ Below w.heap.size w w' := by
  have HB := Aside0.mk (Below.refl w.heap.size w)
  have H : (bibelotlaw03_HanoiUnranks.l0 k a0 a1 0) = some r := h
  clear h
  have H' := Aside0.mk H
  clear H
  go_enter Tryd.func6, Tryd.ntmps6
  go_wp2
  go_loopg [0, 1, 5] k (fun kq v0 v1 v5 w' => ∃ (x0_1 : Int) (x1_1 : Int) (x5_1 : Int), v0 = .int .i64 x0_1 ∧ v1 = .int .i64 x1_1 ∧ v5 = .int .i64 x5_1 ∧ Aside0 (bibelotlaw03_HanoiUnranks.l0 kq x0_1 x1_1 x5_1 = some r) ∧ Aside0 (kq ≤ k) ∧ Aside0 (Below w.heap.size w w'))
  case atStart => exact ⟨(a0), (a1), (0), (by first | rfl | (simp; done) | (simp [*]; done)), (by first | rfl | (simp; done) | (simp [*]; done)), (by first | rfl | (simp; done) | (simp [*]; done)), H', ⟨Nat.le_refl _⟩, ⟨by repeat (first | (with_reducible first | exact HB.out | apply below_alloc | apply pw_below_drewN | apply below_drew1) | exact HB.out)⟩⟩
  case round =>
    clear H'
    try clear p2
    obtain ⟨x0_1, x1_1, x5_1, rfl, rfl, rfl, HA, HK1, HB⟩ := hrel
    cases gk with
    | zero => exact absurd HA.out (by simp [bibelotlaw03_HanoiUnranks.l0])
    | succ k1 =>
      have H := HA.out
      clear HA
      simp only [bibelotlaw03_HanoiUnranks.l0] at H
      by_cases c3 : x5_1 < 2
      · rw [if_pos c3] at H
        have c3b0 : decide (x5_1 < 2) = true := decide_eq_true c3
        clear c3
        replace H := Option.bind_eq_some_iff.mp H
        obtain ⟨⟨t150, t151⟩, A40, H⟩ := H
        replace H : (if x0_1 < 1 then (bibelotlaw03_HanoiUnranks.j1 k1 x0_1 x1_1 x5_1 t150 t151 true) else (if x0_1 > 60 then (bibelotlaw03_HanoiUnranks.j1 k1 x0_1 x1_1 x5_1 t150 t151 true) else (if x1_1 < 0 then (bibelotlaw03_HanoiUnranks.j1 k1 x0_1 x1_1 x5_1 t150 t151 true) else (if 0 ≤ x0_1 then (bibelotlaw03_HanoiUnranks.j1 k1 x0_1 x1_1 x5_1 t150 t151 (decide (x1_1 ≥ (shl .i64 1 x0_1)))) else (none))))) = some r := H
        have A4 := Aside0.mk A40
        clear A40
        have HC5 := Aside0.mk H
        clear H
        go_upto_region 5 with (first | ((with_reducible refine gate_callee (f := 32) rfl ?_); refine goesL_ (some 17) rfl rfl Tryd.func32 (by kernel_rfl) rfl #[.int .i64 x0_1, .int .i64 x1_1] rfl (by (try simp only [List.map_toArray, List.map_cons, List.map_nil]); first | done | rfl | (simp only [List.length_drop, List.length_take]; rfl)) ?_; (with_reducible refine (hanoi_Unrank.calls x0_1 x1_1 t150 t151 _ A4.out).mono ?_); rintro e w6 ⟨rfl, hb⟩; refine ⟨_, rfl, ?_⟩; have n0_ := Aside0.mk (below_step (by repeat (first | (with_reducible first | exact HB.out | apply below_alloc | apply pw_below_drewN | apply below_drew1) | exact HB.out)) hb); clear HB; have HB := n0_; clear n0_; (try clear hb); (try clear hb2); (try clear hk); (try clear hi)))
        (try simp only [Act.put, List.setIfInBounds_toArray, List.set_cons_zero, List.set_cons_succ])
        go_cut [35] (fun v35 wc => ∃ (kq : Nat) (x35_4 : Bool), v35 = .bool x35_4 ∧ Aside0 (bibelotlaw03_HanoiUnranks.j1 kq x0_1 x1_1 x5_1 t150 t151 x35_4 = some r) ∧ Aside0 (kq ≤ k1) ∧ Aside0 (Below w.heap.size w wc))
        case first =>
          have H := HC5.out
          clear HC5
          by_cases c7 : x0_1 < 1
          · rw [if_pos c7] at H
            have c7b0 : decide (x0_1 < 1) = true := decide_eq_true c7
            clear c7
            (first | rw [c7b0] | (simp only [i64_w, i32_w]; rw [c7b0]) | skip)
            have H' := Aside0.mk H
            clear H
            go_wp2
            go_meet
            case rel => exact ⟨_, (true), (by first | rfl | (simp; done) | (simp [*]; done)), H', ⟨by have := HK1.out; first | omega | exact Nat.le_refl _⟩, ⟨by repeat (first | (with_reducible first | exact HB.out | apply below_alloc | apply pw_below_drewN | apply below_drew1) | exact HB.out)⟩⟩
          · rw [if_neg c7] at H
            have c7b0 : decide (x0_1 < 1) = false := decide_eq_false c7
            clear c7
            (first | rw [c7b0] | (simp only [i64_w, i32_w]; rw [c7b0]) | skip)
            by_cases c8 : x0_1 > 60
            · rw [if_pos c8] at H
              have c8b0 : decide (60 < x0_1) = true := decide_eq_true c8
              clear c8
              have H' := Aside0.mk H
              clear H
              go_wp2
              go_meet
              case rel => exact ⟨_, (true), (by first | rfl | (simp; done) | (simp [*]; done)), H', ⟨by have := HK1.out; first | omega | exact Nat.le_refl _⟩, ⟨by repeat (first | (with_reducible first | exact HB.out | apply below_alloc | apply pw_below_drewN | apply below_drew1) | exact HB.out)⟩⟩
            · rw [if_neg c8] at H
              have c8b0 : decide (60 < x0_1) = false := decide_eq_false c8
              clear c8
              by_cases c9 : x1_1 < 0
              · rw [if_pos c9] at H
                have c9b0 : decide (x1_1 < 0) = true := decide_eq_true c9
                clear c9
                have H' := Aside0.mk H
                clear H
                go_wp2
                go_meet
                case rel => exact ⟨_, (true), (by first | rfl | (simp; done) | (simp [*]; done)), H', ⟨by have := HK1.out; first | omega | exact Nat.le_refl _⟩, ⟨by repeat (first | (with_reducible first | exact HB.out | apply below_alloc | apply pw_below_drewN | apply below_drew1) | exact HB.out)⟩⟩
              · rw [if_neg c9] at H
                have c9b0 : decide (x1_1 < 0) = false := decide_eq_false c9
                clear c9
                by_cases c10 : 0 ≤ x0_1
                · rw [if_pos c10] at H
                  have c10b0 := eq_true c10
                  have c10b1 : decide (0 ≤ x0_1) = true := decide_eq_true c10
                  clear c10
                  obtain ⟨ji11, hji11⟩ : ∃ j_ : Int, (shl .i64 1 x0_1) = j_ := ⟨_, rfl⟩
                  replace H : (bibelotlaw03_HanoiUnranks.j1 k1 x0_1 x1_1 x5_1 t150 t151 (decide (x1_1 ≥ (ji11)))) = some r := by first | (rw [hji11] at H; exact H) | (simp only [hji11] at H ⊢; exact H)
                  have hji11_ : (IntKind.i64.wrap (1 * 2 ^ min x0_1.toNat 64)) = ji11 := hji11
                  have hji11z : x0_1 ≤ 64 → (IntKind.i64.wrap (1 * 2 ^ x0_1.toNat)) = ji11 := shl_small hji11
                  have hji11u : (IntKind.i64.wrap (2 ^ min x0_1.toNat 64)) = ji11 := by have h_ := hji11_; rw [Int.one_mul] at h_; exact h_
                  have hji11v : x0_1 ≤ 64 → (IntKind.i64.wrap (2 ^ x0_1.toNat)) = ji11 := fun hle_ => by have h_ := hji11z hle_; rw [Int.one_mul] at h_; exact h_
                  have hji11y : (wrap64 (1 * 2 ^ min x0_1.toNat 64)) = ji11 := (i64_w _).symm.trans hji11_
                  have hji11x : x0_1 ≤ 64 → (wrap64 (1 * 2 ^ x0_1.toNat)) = ji11 := fun h_ => (i64_w _).symm.trans (hji11z h_)
                  have H' := Aside0.mk H
                  clear H
                  go_wp2
                  go_meet
                  case rel => exact ⟨_, (decide (x1_1 ≥ (ji11))), (by first | rfl | (simp; done) | (simp only [← hji11] <;> (first | rfl | simp)) | (simp [*]; done)), H', ⟨by have := HK1.out; first | omega | exact Nat.le_refl _⟩, ⟨by repeat (first | (with_reducible first | exact HB.out | apply below_alloc | apply pw_below_drewN | apply below_drew1) | exact HB.out)⟩⟩
                · rw [if_neg c10] at H
                  exact absurd H (by simp)
        case rest =>
          clear HC5
          try clear c1
          try clear p2
          try clear c3
          try clear c3b0
          try clear c6
          try clear p6
          try clear c7
          try clear c7b0
          try clear c8
          try clear c8b0
          try clear c9
          try clear c9b0
          try clear c10
          try clear c10b0
          try clear c10b1
          try clear p2
          obtain ⟨kq, x35_4, rfl, HA, HJ4, HB⟩ := hcut
          cases kq with
          | zero => exact absurd HA.out (by simp [bibelotlaw03_HanoiUnranks.j1])
          | succ kj4 =>
            have H := HA.out
            clear HA
            simp only [bibelotlaw03_HanoiUnranks.j1] at H
            by_cases c12 : x35_4 = true
            · subst c12
              have H1 : (if t151 = 1 then (if t150.toList = ([] : List UInt8) then ((bibelotlaw03_many.f x0_1 60).bind fun t152 => (if 0 ≤ t152 then (if (shl .u64 1 t152) = 0 then (none) else (bibelotlaw03_HanoiUnranks.l0 kj4 t152 (wrap64 (Int.tmod (IntKind.u64.wrap (x1_1)) (shl .u64 1 t152))) (wrap64 (x5_1 + 1)))) else (none))) else (some false)) else (some false)) = some r := by rw [if_pos rfl] at H; exact H
              clear H
              have H := H1
              clear H1
              by_cases c13 : t151 = 1
              · rw [if_pos c13] at H
                have c13b0 : (t151 == 1) = true := beq_iff_eq.mpr c13
                have c13b1 : (t151 != 1) = false := bne_eq_false_iff_eq.mpr c13
                clear c13
                by_cases c14 : t150.toList = ([] : List UInt8)
                · rw [if_pos c14] at H
                  have c14b0 : (t150.toList == ([] : List UInt8)) = true := beq_iff_eq.mpr c14
                  have c14b1 : (t150.toList != ([] : List UInt8)) = false := bne_eq_false_iff_eq.mpr c14
                  clear c14
                  replace H := Option.bind_eq_some_iff.mp H
                  obtain ⟨t152, A150, H⟩ := H
                  replace H : (if 0 ≤ t152 then (if (shl .u64 1 t152) = 0 then (none) else (bibelotlaw03_HanoiUnranks.l0 kj4 t152 (wrap64 (Int.tmod (IntKind.u64.wrap (x1_1)) (shl .u64 1 t152))) (wrap64 (x5_1 + 1)))) else (none)) = some r := H
                  have A15 := Aside0.mk A150
                  clear A150
                  by_cases c16 : 0 ≤ t152
                  · rw [if_pos c16] at H
                    have c16b0 := eq_true c16
                    have c16b1 : decide (0 ≤ t152) = true := decide_eq_true c16
                    clear c16
                    obtain ⟨ji17, hji17⟩ : ∃ j_ : Int, (shl .u64 1 t152) = j_ := ⟨_, rfl⟩
                    replace H : (if (ji17) = 0 then (none) else (bibelotlaw03_HanoiUnranks.l0 kj4 t152 (wrap64 (Int.tmod (IntKind.u64.wrap (x1_1)) (ji17))) (wrap64 (x5_1 + 1)))) = some r := by first | (rw [hji17] at H; exact H) | (simp only [hji17] at H ⊢; exact H)
                    (try rw [hji17] at A15)
                    have hji17_ : (IntKind.u64.wrap (1 * 2 ^ min t152.toNat 64)) = ji17 := hji17
                    have hji17z : t152 ≤ 64 → (IntKind.u64.wrap (1 * 2 ^ t152.toNat)) = ji17 := shl_small hji17
                    have hji17u : (IntKind.u64.wrap (2 ^ min t152.toNat 64)) = ji17 := by have h_ := hji17_; rw [Int.one_mul] at h_; exact h_
                    have hji17v : t152 ≤ 64 → (IntKind.u64.wrap (2 ^ t152.toNat)) = ji17 := fun hle_ => by have h_ := hji17z hle_; rw [Int.one_mul] at h_; exact h_
                    by_cases c18 : (ji17) = 0
                    · rw [if_pos c18] at H
                      exact absurd H (by simp)
                    · rw [if_neg c18] at H
                      have c18b0 : ((ji17) == 0) = false := beq_eq_false_iff_ne.mpr c18
                      have c18b1 : ((ji17) != 0) = true := bne_iff_ne.mpr c18
                      have H' := Aside0.mk H
                      clear H
                      go_wp2_with (first | ((with_reducible refine gate_callee (f := 25) rfl ?_); refine goesL_ (some 66) rfl rfl Tryd.func25 (by kernel_rfl) rfl #[.int .i64 x0_1, .int .i64 60] rfl (by (try simp only [List.map_toArray, List.map_cons, List.map_nil]); first | done | rfl | (simp only [List.length_drop, List.length_take]; rfl)) ?_; (with_reducible refine (bibelotlaw03_many.calls x0_1 60 t152 _ A15.out).mono ?_); rintro e w' ⟨rfl, ⟨nd, rfl⟩⟩; refine ⟨_, rfl, ?_⟩))
                      go_roundg kj4
                      case measure => have := HK1.out; have := HJ4.out; omega
                      case rel => exact ⟨(t152), (wrap64 (Int.tmod (IntKind.u64.wrap (x1_1)) (ji17))), (wrap64 (x5_1 + 1)), (by first | rfl | (simp; done) | (simp [*]; done)), (by first | rfl | (simp; done) | (simp only [← hji17] <;> (first | rfl | simp)) | (simp [*]; done)), (by first | rfl | (simp; done) | (simp [*]; done)), H', ⟨by have := HK1.out; have := HJ4.out; omega⟩, ⟨by repeat (first | (with_reducible first | exact HB.out | apply below_alloc | apply pw_below_drewN | apply below_drew1) | exact HB.out)⟩⟩
                  · rw [if_neg c16] at H
                    exact absurd H (by simp)
                · rw [if_neg c14] at H
                  have c14b0 : (t150.toList == ([] : List UInt8)) = false := beq_eq_false_iff_ne.mpr c14
                  have c14b1 : (t150.toList != ([] : List UInt8)) = true := bne_iff_ne.mpr c14
                  obtain rfl := Option.some.inj H
                  go_wp2
                  go_ret
                  exact ⟨by first | rfl | (simp [errW_none, errW_some] <;> rfl) | (simp [*, errW_none, errW_some] <;> rfl), by repeat (first | (with_reducible first | exact HB.out | apply below_alloc | apply pw_below_drewN | apply below_drew1) | exact HB.out)⟩
              · rw [if_neg c13] at H
                have c13b0 : (t151 == 1) = false := beq_eq_false_iff_ne.mpr c13
                have c13b1 : (t151 != 1) = true := bne_iff_ne.mpr c13
                obtain rfl := Option.some.inj H
                go_wp2
                go_ret
                exact ⟨by first | rfl | (simp [errW_none, errW_some] <;> rfl) | (simp [*, errW_none, errW_some] <;> rfl), by repeat (first | (with_reducible first | exact HB.out | apply below_alloc | apply pw_below_drewN | apply below_drew1) | exact HB.out)⟩
            · replace c12 := Bool.eq_false_iff.mpr c12
              subst c12
              have H1 : ((hanoi_Rank.f t150).bind fun bt153 => (if t151 = 0 then ((bibelotref03_Unrank.f kj4 x0_1 x1_1).bind fun t155 => (if t150.toList = t155.toList then (if bt153.2 = 0 then (if bt153.1 = x1_1 then ((bibelotlaw03_many.f x0_1 60).bind fun t156 => (if 0 ≤ t156 then (if (shl .u64 1 t156) = 0 then (none) else (bibelotlaw03_HanoiUnranks.l0 kj4 t156 (wrap64 (Int.tmod (IntKind.u64.wrap (x1_1)) (shl .u64 1 t156))) (wrap64 (x5_1 + 1)))) else (none))) else (some false)) else (some false)) else (some false))) else (some false))) = some r := by rw [if_neg (show ¬ (false = true) by decide)] at H; exact H
              clear H
              have H := H1
              clear H1
              replace H := Option.bind_eq_some_iff.mp H
              obtain ⟨⟨t153, t154⟩, A190, H⟩ := H
              replace H : (if t151 = 0 then ((bibelotref03_Unrank.f kj4 x0_1 x1_1).bind fun t155 => (if t150.toList = t155.toList then (if t154 = 0 then (if t153 = x1_1 then ((bibelotlaw03_many.f x0_1 60).bind fun t156 => (if 0 ≤ t156 then (if (shl .u64 1 t156) = 0 then (none) else (bibelotlaw03_HanoiUnranks.l0 kj4 t156 (wrap64 (Int.tmod (IntKind.u64.wrap (x1_1)) (shl .u64 1 t156))) (wrap64 (x5_1 + 1)))) else (none))) else (some false)) else (some false)) else (some false))) else (some false)) = some r := H
              have A19 := Aside0.mk A190
              clear A190
              by_cases c20 : t151 = 0
              · rw [if_pos c20] at H
                have c20b0 : (t151 == 0) = true := beq_iff_eq.mpr c20
                have c20b1 : (t151 != 0) = false := bne_eq_false_iff_eq.mpr c20
                clear c20
                replace H := Option.bind_eq_some_iff.mp H
                obtain ⟨t155, A210, H⟩ := H
                replace H : (if t150.toList = t155.toList then (if t154 = 0 then (if t153 = x1_1 then ((bibelotlaw03_many.f x0_1 60).bind fun t156 => (if 0 ≤ t156 then (if (shl .u64 1 t156) = 0 then (none) else (bibelotlaw03_HanoiUnranks.l0 kj4 t156 (wrap64 (Int.tmod (IntKind.u64.wrap (x1_1)) (shl .u64 1 t156))) (wrap64 (x5_1 + 1)))) else (none))) else (some false)) else (some false)) else (some false)) = some r := H
                have A21 := Aside0.mk A210
                clear A210
                by_cases c22 : t150.toList = t155.toList
                · rw [if_pos c22] at H
                  have c22b0 : (t150.toList == t155.toList) = true := beq_iff_eq.mpr c22
                  have c22b1 : (t150.toList != t155.toList) = false := bne_eq_false_iff_eq.mpr c22
                  clear c22
                  by_cases c23 : t154 = 0
                  · rw [if_pos c23] at H
                    have c23b0 : (t154 == 0) = true := beq_iff_eq.mpr c23
                    have c23b1 : (t154 != 0) = false := bne_eq_false_iff_eq.mpr c23
                    clear c23
                    by_cases c24 : t153 = x1_1
                    · rw [if_pos c24] at H
                      have c24b0 : (t153 == x1_1) = true := beq_iff_eq.mpr c24
                      have c24b1 : (t153 != x1_1) = false := bne_eq_false_iff_eq.mpr c24
                      clear c24
                      replace H := Option.bind_eq_some_iff.mp H
                      obtain ⟨t156, A250, H⟩ := H
                      replace H : (if 0 ≤ t156 then (if (shl .u64 1 t156) = 0 then (none) else (bibelotlaw03_HanoiUnranks.l0 kj4 t156 (wrap64 (Int.tmod (IntKind.u64.wrap (x1_1)) (shl .u64 1 t156))) (wrap64 (x5_1 + 1)))) else (none)) = some r := H
                      have A25 := Aside0.mk A250
                      clear A250
                      by_cases c26 : 0 ≤ t156
                      · rw [if_pos c26] at H
                        have c26b0 := eq_true c26
                        have c26b1 : decide (0 ≤ t156) = true := decide_eq_true c26
                        clear c26
                        obtain ⟨ji27, hji27⟩ : ∃ j_ : Int, (shl .u64 1 t156) = j_ := ⟨_, rfl⟩
                        replace H : (if (ji27) = 0 then (none) else (bibelotlaw03_HanoiUnranks.l0 kj4 t156 (wrap64 (Int.tmod (IntKind.u64.wrap (x1_1)) (ji27))) (wrap64 (x5_1 + 1)))) = some r := by first | (rw [hji27] at H; exact H) | (simp only [hji27] at H ⊢; exact H)
                        (try rw [hji27] at A19)
                        (try rw [hji27] at A21)
                        (try rw [hji27] at A25)
                        have hji27_ : (IntKind.u64.wrap (1 * 2 ^ min t156.toNat 64)) = ji27 := hji27
                        have hji27z : t156 ≤ 64 → (IntKind.u64.wrap (1 * 2 ^ t156.toNat)) = ji27 := shl_small hji27
                        have hji27u : (IntKind.u64.wrap (2 ^ min t156.toNat 64)) = ji27 := by have h_ := hji27_; rw [Int.one_mul] at h_; exact h_
                        have hji27v : t156 ≤ 64 → (IntKind.u64.wrap (2 ^ t156.toNat)) = ji27 := fun hle_ => by have h_ := hji27z hle_; rw [Int.one_mul] at h_; exact h_
                        by_cases c28 : (ji27) = 0
                        · rw [if_pos c28] at H
                          exact absurd H (by simp)
                        · rw [if_neg c28] at H
                          have c28b0 : ((ji27) == 0) = false := beq_eq_false_iff_ne.mpr c28
                          have c28b1 : ((ji27) != 0) = true := bne_iff_ne.mpr c28
                          have H' := Aside0.mk H
                          clear H
                          go_wp2_with (first | ((with_reducible refine gate_callee (f := 33) rfl ?_); refine goesL_ (some 44) rfl rfl Tryd.func33 (by kernel_rfl) rfl #[.string t150] rfl (by (try simp only [List.map_toArray, List.map_cons, List.map_nil]); first | done | rfl | (simp only [List.length_drop, List.length_take]; rfl)) ?_; (with_reducible refine (hanoi_Rank.calls t150 t153 t154 _ A19.out).mono ?_); rintro e w29 ⟨rfl, hb⟩; refine ⟨_, rfl, ?_⟩; have n0_ := Aside0.mk (below_step (by repeat (first | (with_reducible first | exact HB.out | apply below_alloc | apply pw_below_drewN | apply below_drew1) | exact HB.out)) hb); clear HB; have HB := n0_; clear n0_; (try clear hb); (try clear hb2); (try clear hk); (try clear hi)) | (go_at_call 34; (with_reducible refine (bibelotref03_Unrank.calls kj4 x0_1 x1_1 t155 _ A21.out).mono ?_); rintro e w' ⟨rfl, ⟨nd, rfl⟩⟩) | ((with_reducible refine gate_callee (f := 25) rfl ?_); refine goesL_ (some 66) rfl rfl Tryd.func25 (by kernel_rfl) rfl #[.int .i64 x0_1, .int .i64 60] rfl (by (try simp only [List.map_toArray, List.map_cons, List.map_nil]); first | done | rfl | (simp only [List.length_drop, List.length_take]; rfl)) ?_; (with_reducible refine (bibelotlaw03_many.calls x0_1 60 t156 _ A25.out).mono ?_); rintro e w' ⟨rfl, ⟨nd, rfl⟩⟩; refine ⟨_, rfl, ?_⟩))
                          go_roundg kj4
                          case measure => have := HK1.out; have := HJ4.out; omega
                          case rel => exact ⟨(t156), (wrap64 (Int.tmod (IntKind.u64.wrap (x1_1)) (ji27))), (wrap64 (x5_1 + 1)), (by first | rfl | (simp; done) | (simp [*]; done)), (by first | rfl | (simp; done) | (simp only [← hji27] <;> (first | rfl | simp)) | (simp [*]; done)), (by first | rfl | (simp; done) | (simp [*]; done)), H', ⟨by have := HK1.out; have := HJ4.out; omega⟩, ⟨by repeat (first | (with_reducible first | exact HB.out | apply below_alloc | apply pw_below_drewN | apply below_drew1) | exact HB.out)⟩⟩
                      · rw [if_neg c26] at H
                        exact absurd H (by simp)
                    · rw [if_neg c24] at H
                      have c24b0 : (t153 == x1_1) = false := beq_eq_false_iff_ne.mpr c24
                      have c24b1 : (t153 != x1_1) = true := bne_iff_ne.mpr c24
                      obtain rfl := Option.some.inj H
                      go_wp2_with (first | ((with_reducible refine gate_callee (f := 33) rfl ?_); refine goesL_ (some 44) rfl rfl Tryd.func33 (by kernel_rfl) rfl #[.string t150] rfl (by (try simp only [List.map_toArray, List.map_cons, List.map_nil]); first | done | rfl | (simp only [List.length_drop, List.length_take]; rfl)) ?_; (with_reducible refine (hanoi_Rank.calls t150 t153 t154 _ A19.out).mono ?_); rintro e w30 ⟨rfl, hb⟩; refine ⟨_, rfl, ?_⟩; have n0_ := Aside0.mk (below_step (by repeat (first | (with_reducible first | exact HB.out | apply below_alloc | apply pw_below_drewN | apply below_drew1) | exact HB.out)) hb); clear HB; have HB := n0_; clear n0_; (try clear hb); (try clear hb2); (try clear hk); (try clear hi)) | (go_at_call 34; (with_reducible refine (bibelotref03_Unrank.calls kj4 x0_1 x1_1 t155 _ A21.out).mono ?_); rintro e w' ⟨rfl, ⟨nd, rfl⟩⟩))
                      go_ret
                      exact ⟨by first | rfl | (simp [errW_none, errW_some] <;> rfl) | (simp [*, errW_none, errW_some] <;> rfl), by repeat (first | (with_reducible first | exact HB.out | apply below_alloc | apply pw_below_drewN | apply below_drew1) | exact HB.out)⟩
                  · rw [if_neg c23] at H
                    have c23b0 : (t154 == 0) = false := beq_eq_false_iff_ne.mpr c23
                    have c23b1 : (t154 != 0) = true := bne_iff_ne.mpr c23
                    obtain rfl := Option.some.inj H
                    go_wp2_with (first | ((with_reducible refine gate_callee (f := 33) rfl ?_); refine goesL_ (some 44) rfl rfl Tryd.func33 (by kernel_rfl) rfl #[.string t150] rfl (by (try simp only [List.map_toArray, List.map_cons, List.map_nil]); first | done | rfl | (simp only [List.length_drop, List.length_take]; rfl)) ?_; (with_reducible refine (hanoi_Rank.calls t150 t153 t154 _ A19.out).mono ?_); rintro e w31 ⟨rfl, hb⟩; refine ⟨_, rfl, ?_⟩; have n0_ := Aside0.mk (below_step (by repeat (first | (with_reducible first | exact HB.out | apply below_alloc | apply pw_below_drewN | apply below_drew1) | exact HB.out)) hb); clear HB; have HB := n0_; clear n0_; (try clear hb); (try clear hb2); (try clear hk); (try clear hi)) | (go_at_call 34; (with_reducible refine (bibelotref03_Unrank.calls kj4 x0_1 x1_1 t155 _ A21.out).mono ?_); rintro e w' ⟨rfl, ⟨nd, rfl⟩⟩))
                    go_ret
                    exact ⟨by first | rfl | (simp [errW_none, errW_some] <;> rfl) | (simp [*, errW_none, errW_some] <;> rfl), by repeat (first | (with_reducible first | exact HB.out | apply below_alloc | apply pw_below_drewN | apply below_drew1) | exact HB.out)⟩
                · rw [if_neg c22] at H
                  have c22b0 : (t150.toList == t155.toList) = false := beq_eq_false_iff_ne.mpr c22
                  have c22b1 : (t150.toList != t155.toList) = true := bne_iff_ne.mpr c22
                  obtain rfl := Option.some.inj H
                  go_wp2_with (first | ((with_reducible refine gate_callee (f := 33) rfl ?_); refine goesL_ (some 44) rfl rfl Tryd.func33 (by kernel_rfl) rfl #[.string t150] rfl (by (try simp only [List.map_toArray, List.map_cons, List.map_nil]); first | done | rfl | (simp only [List.length_drop, List.length_take]; rfl)) ?_; (with_reducible refine (hanoi_Rank.calls t150 t153 t154 _ A19.out).mono ?_); rintro e w32 ⟨rfl, hb⟩; refine ⟨_, rfl, ?_⟩; have n0_ := Aside0.mk (below_step (by repeat (first | (with_reducible first | exact HB.out | apply below_alloc | apply pw_below_drewN | apply below_drew1) | exact HB.out)) hb); clear HB; have HB := n0_; clear n0_; (try clear hb); (try clear hb2); (try clear hk); (try clear hi)) | (go_at_call 34; (with_reducible refine (bibelotref03_Unrank.calls kj4 x0_1 x1_1 t155 _ A21.out).mono ?_); rintro e w' ⟨rfl, ⟨nd, rfl⟩⟩))
                  go_ret
                  exact ⟨by first | rfl | (simp [errW_none, errW_some] <;> rfl) | (simp [*, errW_none, errW_some] <;> rfl), by repeat (first | (with_reducible first | exact HB.out | apply below_alloc | apply pw_below_drewN | apply below_drew1) | exact HB.out)⟩
              · rw [if_neg c20] at H
                have c20b0 : (t151 == 0) = false := beq_eq_false_iff_ne.mpr c20
                have c20b1 : (t151 != 0) = true := bne_iff_ne.mpr c20
                obtain rfl := Option.some.inj H
                go_wp2_with (first | ((with_reducible refine gate_callee (f := 33) rfl ?_); refine goesL_ (some 44) rfl rfl Tryd.func33 (by kernel_rfl) rfl #[.string t150] rfl (by (try simp only [List.map_toArray, List.map_cons, List.map_nil]); first | done | rfl | (simp only [List.length_drop, List.length_take]; rfl)) ?_; (with_reducible refine (hanoi_Rank.calls t150 t153 t154 _ A19.out).mono ?_); rintro e w33 ⟨rfl, hb⟩; refine ⟨_, rfl, ?_⟩; have n0_ := Aside0.mk (below_step (by repeat (first | (with_reducible first | exact HB.out | apply below_alloc | apply pw_below_drewN | apply below_drew1) | exact HB.out)) hb); clear HB; have HB := n0_; clear n0_; (try clear hb); (try clear hb2); (try clear hk); (try clear hi)))
                go_ret
                exact ⟨by first | rfl | (simp [errW_none, errW_some] <;> rfl) | (simp [*, errW_none, errW_some] <;> rfl), by repeat (first | (with_reducible first | exact HB.out | apply below_alloc | apply pw_below_drewN | apply below_drew1) | exact HB.out)⟩
      · rw [if_neg c3] at H
        have c3b0 : decide (x5_1 < 2) = false := decide_eq_false c3
        clear c3
        replace H := Option.bind_eq_some_iff.mp H
        obtain ⟨t149, A340, H⟩ := H
        replace H : (some t149) = some r := H
        have A34 := Aside0.mk A340
        clear A340
        obtain rfl := Option.some.inj H
        go_wp2_with (first | ((with_reducible refine gate_callee (f := 26) rfl ?_); refine goesL_ (some 73) rfl rfl Tryd.func26 (by kernel_rfl) rfl #[] rfl (by (try simp only [List.map_toArray, List.map_cons, List.map_nil]); first | done | rfl | (simp only [List.length_drop, List.length_take]; rfl)) ?_; (with_reducible refine (bibelotlaw03_awake.calls k1  t149 _ A34.out).mono ?_); rintro e w35 ⟨rfl, hb⟩; refine ⟨_, rfl, ?_⟩; have n0_ := Aside0.mk (below_step (by repeat (first | (with_reducible first | exact HB.out | apply below_alloc | apply pw_below_drewN | apply below_drew1) | exact HB.out)) hb); clear HB; have HB := n0_; clear n0_; (try clear hb); (try clear hb2); (try clear hk); (try clear hi)))
        go_ret
        exact ⟨by first | rfl | (simp [errW_none, errW_some] <;> rfl) | (simp [*, errW_none, errW_some] <;> rfl), by repeat (first | (with_reducible first | exact HB.out | apply below_alloc | apply pw_below_drewN | apply below_drew1) | exact HB.out)⟩

/-- THE ONE PURE STATEMENT of bibelotlaw03_HanoiUnranks: yours. -/
def bibelotlaw03_HanoiUnranks.Pure : Prop := ∀ (a0 : Int) (a1 : Int), (Lit.int .i64 a0).wf = true → (Lit.int .i64 a1).wf = true → ∃ k, bibelotlaw03_HanoiUnranks.f k a0 a1 = some true
theorem bibelotlaw03_HanoiUnranks.walk (P : bibelotlaw03_HanoiUnranks.Pure) (a0 : Int) (a1 : Int) (w : World) (w0 : (Lit.int .i64 a0).wf = true) (w1 : (Lit.int .i64 a1).wf = true) :
    Calls Tryd.prog 6 #[.int .i64 a0, .int .i64 a1] w fun e w' => e = .returned (.bool true) ∧ Below w.heap.size w w' := by
  obtain ⟨k, h⟩ := P a0 a1 w0 w1
  refine (bibelotlaw03_HanoiUnranks.calls k a0 a1 true w h).mono ?_
  rintro e w' ⟨rfl, hd⟩
  exact ⟨rfl, hd⟩

end Go.Proofs.YtnaaomhmoamfpaaDoor.Q
namespace Go.Proofs.YtnaaomhmoamfpaaDoor.G
end Go.Proofs.YtnaaomhmoamfpaaDoor.G
namespace Go.Proofs.YtnaaomhmoamfpaaDoor.Q
set_option linter.unusedVariables false
set_option linter.unusedSimpArgs false
set_option linter.unusedSectionVars false
open Go.Proofs.YtnaaomhmoamfpaaDoor.G
open Go.RowKit Go.Proofs.YtnaaomhmoamfpaaDoorW.PrintWords Go.Proofs.YtnaaomhmoamfpaaDoorW.PrintLast Go.Proofs.YtnaaomhmoamfpaaDoorW.PrintMore
attribute [local go_sem] max2_int min2_int max_two min_two max_three min_three max_four min_four   -- for this text's walks alone

/-! ### bibelotref03_Rank: function 38 -/
def bibelotref03_Rank.l0 : Nat → ByteArray → Int → Int → Int → Option (Int)
  | 0, _, _, _, _ => none
  | k + 1, x0, x3, x4, x5 => if x5 ≥ 0 then (if 0 ≤ x5 then (if x5 < (x0.size : Int) then (if (bt x0 x5) = 49 then (bibelotref03_Rank.l0 k x0 (wrap64 ((wrap64 (2 * x3)) + (wrap64 (1 - x4)))) (wrap64 (1 - x4)) (wrap64 (x5 - 1))) else (bibelotref03_Rank.l0 k x0 (wrap64 ((wrap64 (2 * x3)) + x4)) x4 (wrap64 (x5 - 1)))) else (none)) else (none)) else (some x3)
def bibelotref03_Rank.f (k : Nat) (a0 : ByteArray) : Option (Int) := bibelotref03_Rank.l0 k a0 0 0 (wrap64 ((a0.size : Int) - 1))
theorem bibelotref03_Rank.mono_l : ∀ k, (∀ y0 y1 y2 y3, LeO (bibelotref03_Rank.l0 k y0 y1 y2 y3) (bibelotref03_Rank.l0 (k + 1) y0 y1 y2 y3))
  | 0 => fun _ _ _ _ r h => by simp [bibelotref03_Rank.l0] at h
  | k + 1 => by
    have ih0 := bibelotref03_Rank.mono_l k
    · intro y0 y1 y2 y3
      unfold bibelotref03_Rank.l0
      repeat' first
      | (with_reducible exact ih0 _ _ _ _)
      | (with_reducible exact LeO.refl _)
      | (with_reducible exact LeO.none _)
      | (with_reducible refine LeO.ite ?_ ?_)
      | (with_reducible refine LeO.bind ?_ (fun _ => ?_))
      | exact ih0 _ _ _ _
      | exact LeO.none _
      | refine LeO.ite ?_ ?_
      | refine LeO.bind ?_ (fun _ => ?_)
theorem bibelotref03_Rank.mono : ∀ a0 k, LeO (bibelotref03_Rank.f k a0) (bibelotref03_Rank.f (k + 1) a0) := by
  intro a0 k
  have ih0 := bibelotref03_Rank.mono_l k
  unfold bibelotref03_Rank.f
  repeat' first
      | (with_reducible exact ih0 _ _ _ _)
      | (with_reducible exact LeO.refl _)
      | (with_reducible exact LeO.none _)
      | (with_reducible refine LeO.ite ?_ ?_)
      | (with_reducible refine LeO.bind ?_ (fun _ => ?_))
      | exact ih0 _ _ _ _
      | exact LeO.none _
      | refine LeO.ite ?_ ?_
      | refine LeO.bind ?_ (fun _ => ?_)
set_option maxHeartbeats 8000000 in
set_option maxRecDepth 100000 in
theorem bibelotref03_Rank.calls (k : Nat) (a0 : ByteArray) (r : Int) (w : World) (h : bibelotref03_Rank.f k a0 = some r) :
    Calls Tryd.prog 38 #[.string a0] w fun e w' => e = .returned (.int .i64 r) ∧ Drawn0 w w' := by
  have H : (bibelotref03_Rank.l0 k a0 0 0 (wrap64 ((a0.size : Int) - 1))) = some r := h
  clear h
  have H' := Aside0.mk H
  clear H
  go_enter Tryd.func38, Tryd.ntmps38
  go_wp2
  go_loopg [3, 4, 5] k (fun kq v3 v4 v5 w' => ∃ (x3_1 : Int) (x4_1 : Int) (x5_1 : Int), v3 = .int .i64 x3_1 ∧ v4 = .int .i64 x4_1 ∧ v5 = .int .i64 x5_1 ∧ Aside0 (bibelotref03_Rank.l0 kq a0 x3_1 x4_1 x5_1 = some r) ∧ Aside0 (kq ≤ k) ∧ Drawn0 w w')
  case atStart => exact ⟨(0), (0), (wrap64 ((a0.size : Int) - 1)), (by first | rfl | (simp; done) | (simp [*]; done)), (by first | rfl | (simp; done) | (simp [*]; done)), (by first | rfl | (simp; done) | (simp [*]; done)), H', ⟨Nat.le_refl _⟩, by repeat (first | exact Drawn0.refl _ | apply Drawn0.step)⟩
  case round =>
    clear H'
    obtain ⟨x3_1, x4_1, x5_1, rfl, rfl, rfl, HA, HK1, ⟨m1, rfl⟩⟩ := hrel
    cases gk with
    | zero => exact absurd HA.out (by simp [bibelotref03_Rank.l0])
    | succ k1 =>
      have H := HA.out
      clear HA
      simp only [bibelotref03_Rank.l0] at H
      by_cases c2 : x5_1 ≥ 0
      · rw [if_pos c2] at H
        have c2b0 : decide (0 ≤ x5_1) = true := decide_eq_true c2
        clear c2
        by_cases c3 : 0 ≤ x5_1
        · rw [if_pos c3] at H
          have c3b0 : decide (0 ≤ x5_1) = true := decide_eq_true c3
          clear c3
          by_cases c4 : x5_1 < (a0.size : Int)
          · rw [if_pos c4] at H
            have c4b0 : decide (x5_1 < (a0.size : Int)) = true := decide_eq_true c4
            clear c4
            by_cases c6 : (bt a0 x5_1) = 49
            · rw [if_pos c6] at H
              have c6b0 : ((bt a0 x5_1) == 49) = true := beq_iff_eq.mpr c6
              have c6b1 : ((bt a0 x5_1) != 49) = false := bne_eq_false_iff_eq.mpr c6
              clear c6
              have H' := Aside0.mk H
              clear H
              have p5 : 0 ≤ (x5_1 : Int) := of_decide_eq_true (by first | (with_reducible assumption) | assumption)
              have q5 : x5_1 < (a0.size : Int) := of_decide_eq_true (by first | (with_reducible assumption) | assumption)
              have hx5 := bt_at a0 x5_1
              replace p5 := eq_true p5
              replace q5 := eq_true q5
              go_wp2
              go_roundg k1
              case measure => have := HK1.out; omega
              case rel => exact ⟨(wrap64 ((wrap64 (2 * x3_1)) + (wrap64 (1 - x4_1)))), (wrap64 (1 - x4_1)), (wrap64 (x5_1 - 1)), (by first | rfl | (simp; done) | (simp [*]; done)), (by first | rfl | (simp; done) | (simp [*]; done)), (by first | rfl | (simp; done) | (simp [*]; done)), H', ⟨by have := HK1.out; omega⟩, by repeat (first | exact Drawn0.refl _ | apply Drawn0.step)⟩
            · rw [if_neg c6] at H
              have c6b0 : ((bt a0 x5_1) == 49) = false := beq_eq_false_iff_ne.mpr c6
              have c6b1 : ((bt a0 x5_1) != 49) = true := bne_iff_ne.mpr c6
              have H' := Aside0.mk H
              clear H
              have p5 : 0 ≤ (x5_1 : Int) := of_decide_eq_true (by first | (with_reducible assumption) | assumption)
              have q5 : x5_1 < (a0.size : Int) := of_decide_eq_true (by first | (with_reducible assumption) | assumption)
              have hx5 := bt_at a0 x5_1
              replace p5 := eq_true p5
              replace q5 := eq_true q5
              go_wp2
              go_roundg k1
              case measure => have := HK1.out; omega
              case rel => exact ⟨(wrap64 ((wrap64 (2 * x3_1)) + x4_1)), (x4_1), (wrap64 (x5_1 - 1)), (by first | rfl | (simp; done) | (simp [*]; done)), (by first | rfl | (simp; done) | (simp [*]; done)), (by first | rfl | (simp; done) | (simp [*]; done)), H', ⟨by have := HK1.out; omega⟩, by repeat (first | exact Drawn0.refl _ | apply Drawn0.step)⟩
          · rw [if_neg c4] at H
            exact absurd H (by simp)
        · rw [if_neg c3] at H
          exact absurd H (by simp)
      · rw [if_neg c2] at H
        have c2b0 : decide (0 ≤ x5_1) = false := decide_eq_false c2
        clear c2
        obtain rfl := Option.some.inj H
        go_wp2
        go_ret
        exact ⟨by first | rfl | (simp; done) | (simp [*]; done), by repeat (first | exact Drawn0.refl _ | apply Drawn0.step)⟩

end Go.Proofs.YtnaaomhmoamfpaaDoor.Q
/- Rings: the rank of the rings with a rank; the document's Rank and Unrank. -/
namespace Go.Proofs.YtnaaomhmoamfpaaDoor.G
set_option linter.unusedVariables false
set_option linter.unusedSimpArgs false
set_option linter.unusedSectionVars false
open Go.Proofs.YtnaaomhmoamfpaaDoor.Q Go.Proofs.YtnaaomhmoamfpaaDoor.Hn
open Go.RowKit Go.Proofs.YtnaaomhmoamfpaaDoorW.PrintWords Go.Proofs.YtnaaomhmoamfpaaDoorW.PrintLast Go.Proofs.YtnaaomhmoamfpaaDoorW.PrintMore

def bitN (R i : Nat) : Nat := R / 2 ^ i % 2
theorem bitN_lt (R i : Nat) : bitN R i < 2 := Nat.mod_lt _ (by omega)
theorem half (R i : Nat) : R / 2 ^ i = 2 * (R / 2 ^ (i + 1)) + bitN R i := by
  unfold bitN
  rw [Nat.pow_succ, ← Nat.div_div_eq_div_mul]
  omega
theorem gray_bit (R i : Nat) : gray R / 2 ^ i % 2 = 1 ↔ bitN R i ≠ bitN R (i + 1) := by
  have h1 : (gray R).testBit i = decide (gray R / 2 ^ i % 2 = 1) := Nat.testBit_eq_decide_div_mod_eq
  have h2 : (gray R).testBit i = (R.testBit i ^^ R.testBit (i + 1)) := by
    unfold gray
    rw [Nat.testBit_xor, Nat.testBit_shiftRight, Nat.add_comm 1 i]
  have h3 : R.testBit i = decide (bitN R i = 1) := Nat.testBit_eq_decide_div_mod_eq
  have h4 : R.testBit (i + 1) = decide (bitN R (i + 1) = 1) := Nat.testBit_eq_decide_div_mod_eq
  have a := bitN_lt R i
  have b := bitN_lt R (i + 1)
  rw [h1, h3, h4] at h2
  by_cases c1 : bitN R i = 1 <;> by_cases c2 : bitN R (i + 1) = 1 <;> simp [c1, c2] at h2 ⊢ <;> omega
theorem ub_bit (R i : Nat) : ub R i = if bitN R i = bitN R (i + 1) then 48 else 49 := by
  unfold ub
  by_cases h : bitN R i = bitN R (i + 1)
  · rw [if_pos h, if_neg (fun hh => (gray_bit R i).1 hh h)]
  · rw [if_neg h, if_pos ((gray_bit R i).2 h)]

/-- The rings with a rank, as a string. -/
def unrS (n R : Nat) : ByteArray := ⟨(unr n R).toArray⟩
theorem unrS_size (n R : Nat) : (unrS n R).size = n := by simp [unrS, ByteArray.size, unr_length]
theorem unrS_okR (n R : Nat) (hn : n ≤ 60) : okR (unrS n R) := by
  refine ⟨by rw [unrS_size]; exact hn, fun b hb => ?_⟩
  simp only [unrS, unr, List.mem_map] at hb
  obtain ⟨i, _, rfl⟩ := hb
  exact ub_48 R i
theorem rg_unrS (n R i : Nat) (h : i < n) : rg (unrS n R) i = if bitN R i = bitN R (i + 1) then 0 else 1 := by
  have e : (unrS n R).data.toList.getD i 48 = ub R i := by simp [unrS, unr, h]
  unfold rg
  rw [e, ub_bit]
  split <;> rfl
theorem rk_gray (R : Nat) (c : Nat → Int) : ∀ n, (∀ i, i < n → c i = if bitN R i = bitN R (i + 1) then 0 else 1) → rk c n (bitN R n : Int) ((R / 2 ^ n : Nat) : Int) = (R : Int)
  | 0, _ => by simp [rk]
  | n + 1, h => by
    have hc := h n (by omega)
    have a := bitN_lt R n
    have b := bitN_lt R (n + 1)
    have e1 : xr (bitN R (n + 1) : Int) (c n) = (bitN R n : Int) := by
      rw [hc]
      unfold xr
      split <;> split <;> omega
    have e2 : 2 * ((R / 2 ^ (n + 1) : Nat) : Int) + (bitN R n : Int) = ((R / 2 ^ n : Nat) : Int) := by rw [half R n]; simp
    rw [rk, e1, e2]
    exact rk_gray R c n (fun i hi => h i (by omega))
theorem rk_unrS (n R : Nat) (hR : R < 2 ^ n) : rkOf (unrS n R) = (R : Int) := by
  unfold rkOf
  rw [unrS_size]
  have h := rk_gray R (rg (unrS n R)) n (fun i hi => rg_unrS n R i hi)
  have e1 : R / 2 ^ n = 0 := Nat.div_eq_of_lt hR
  have e2 : bitN R n = 0 := by unfold bitN; rw [e1]
  rw [e1, e2] at h
  exact h
theorem rank_f (s : ByteArray) (h : isR s) : hanoi_Rank.f s = some (rkOf s, 0) := by
  unfold hanoi_Rank.f
  rw [checkR_f]
  have e : checkR s = 0 := if_pos h
  rw [e, Option.bind_some, if_pos rfl]
  unfold hanoi_rank.f
  rw [if_pos h.2, Option.bind_some]
  rfl
theorem unrank_f (n R : Nat) (h0 : 1 ≤ n) (h1 : n ≤ 60) (hR : R < 2 ^ n) : hanoi_Unrank.f (n : Int) (R : Int) = some (unrS n R, 0) := by
  unfold hanoi_Unrank.f
  have e : ¬ ((n : Int) < 1 ∨ (n : Int) > 60 ∨ (R : Int) < 0 ∨ (2 : Int) ^ (n : Int).toNat ≤ (R : Int)) := by
    rintro (h | h | h | h)
    · omega
    · omega
    · omega
    · rw [Int.toNat_natCast] at h
      have : ((2 ^ n : Nat) : Int) ≤ (R : Int) := by rw [Int.natCast_pow]; exact h
      omega
  rw [if_neg e]
  rfl

theorem shr_nat (R i : Nat) (hi : i ≤ 64) : shr .i64 (R : Int) (i : Int) = ((R / 2 ^ i : Nat) : Int) := by
  unfold shr
  rw [Int.toNat_natCast, Nat.min_eq_left (show i ≤ IntKind.i64.bits from hi), Int.natCast_ediv, Int.natCast_pow]
  rfl
theorem bytes_snoc (l : List UInt8) (b : UInt8) : (⟨l.toArray⟩ : ByteArray) ++ (⟨#[b]⟩ : ByteArray) = ⟨(l ++ [b]).toArray⟩ := by
  apply ByteArray.ext
  rw [ByteArray.data_append]
  simp
theorem runrank_step (n R i k : Nat) (hn : n ≤ 60) (hR : R < 4611686018427387904) (h : i < n) : bibelotref03_Unrank.l0 (k + 1) (n : Int) (R : Int) (unrS i R) (i : Int) = bibelotref03_Unrank.l0 k (n : Int) (R : Int) (unrS (i + 1) R) ((i + 1 : Nat) : Int) := by
  have q1 : R / 2 ^ i ≤ R := Nat.div_le_self _ _
  have q2 : R / 2 ^ (i + 1) ≤ R := Nat.div_le_self _ _
  have hh := half R i
  have hh2 := half R (i + 1)
  have a := bitN_lt R i
  have b := bitN_lt R (i + 1)
  have hs := unrS_size i R
  have ws : wrap64 ((i : Int) + 1) = ((i + 1 : Nat) : Int) := by rw [w64 (by omega) (by omega)]; rfl
  have hu : unrS i R ++ (⟨#[ub R i]⟩ : ByteArray) = unrS (i + 1) R := by
    unfold unrS
    rw [bytes_snoc, unr_snoc]
  obtain ⟨A, hA⟩ : ∃ A, R / 2 ^ i = A := ⟨_, rfl⟩
  obtain ⟨B, hB⟩ : ∃ B, R / 2 ^ (i + 1) = B := ⟨_, rfl⟩
  rw [bibelotref03_Unrank.l0, if_pos (by omega), if_pos (by omega), ws, if_pos (by omega), shr_nat R i (by omega), shr_nat R (i + 1) (by omega), hA, hB]
  rw [hA] at hh q1
  rw [hB] at hh hh2 q2
  rw [w64 (x := (A : Int) + (B : Int)) (by omega) (by omega)]
  have et : Int.tmod ((A : Int) + (B : Int)) 2 = (((A + B) % 2 : Nat) : Int) := by rw [← Int.natCast_add]; rfl
  rw [et]
  have hub := ub_bit R i
  by_cases c : bitN R i = bitN R (i + 1)
  · rw [if_pos c] at hub
    rw [if_neg (by omega), if_pos (by rw [hs]; omega), ← hub, hu]
  · rw [if_neg c] at hub
    rw [if_pos (by omega), if_pos (by rw [hs]; omega), ← hub, hu]
theorem runrank_loop (n R : Nat) (hn : n ≤ 60) (hR : R < 4611686018427387904) : ∀ e i, i + e = n → Ev (fun k => bibelotref03_Unrank.l0 k (n : Int) (R : Int) (unrS i R) (i : Int)) (unrS n R)
  | 0, i, h => by
    obtain rfl : i = n := by omega
    refine Ev.step (fun k => ?_) (Ev.now _)
    rw [bibelotref03_Unrank.l0, if_neg (by omega)]
  | e + 1, i, h => Ev.step (fun k => runrank_step n R i k hn hR (by omega)) (runrank_loop n R hn hR e (i + 1) (by omega))
theorem runrank_ev (n R : Nat) (hn : n ≤ 60) (hR : R < 4611686018427387904) : Ev (fun k => bibelotref03_Unrank.f k (n : Int) (R : Int)) (unrS n R) := runrank_loop n R hn hR n 0 (by omega)

theorem rrank_loop (s : ByteArray) (h : okR s) : ∀ n : Nat, n ≤ s.size → ∀ (b o : Int), (b = 0 ∨ b = 1) → 0 ≤ o → o ≤ 2 ^ (s.size - n) - 1 →
    Ev (fun k => bibelotref03_Rank.l0 k s o b ((n : Int) - 1)) (rk (rg s) n b o)
  | 0, _, b, o, _, _, _ => by
    refine Ev.step (fun k => ?_) (Ev.now _)
    rw [bibelotref03_Rank.l0, if_neg (by omega)]
    rfl
  | n + 1, hn, b, o, hb, h0, h1 => by
    have hg := rg_01 h n
    have hsz := h.1
    have hx := xr_01 b (rg s n)
    have hp := pow_le (show s.size - (n + 1) ≤ 60 by omega)
    have h60 : (2 : Int) ^ 60 = 1152921504606846976 := by decide
    have e2 : (2 : Int) ^ (s.size - n) = 2 * 2 ^ (s.size - (n + 1)) := by
      rw [show s.size - n = (s.size - (n + 1)) + 1 by omega, Int.pow_succ, Int.mul_comm]
    have ih := rrank_loop s h n (by omega) (xr b (rg s n)) (2 * o + xr b (rg s n)) hx (by omega) (by rw [e2]; omega)
    refine Ev.step (fun k => ?_) ih
    have en : ((n + 1 : Nat) : Int) - 1 = (n : Int) := by omega
    have wn : wrap64 ((n : Int) - 1) = (n : Int) - 1 := w64 (by omega) (by omega)
    have hbt : bt s (n : Int) = 49 ↔ rg s n = 1 := by
      have hlt : n < s.size := by omega
      have hlt2 : n < s.data.toList.length := hlt
      have e3 : bt s (n : Int) = ((s[n]'hlt).toNat : Int) := by
        unfold bt
        simp only [Int.toNat_natCast]
        rw [dif_pos hlt]
      have e4 : rg s n = ((s[n]'hlt).toNat : Int) - 48 := by
        unfold rg
        rw [List.getD_eq_getElem?_getD, List.getElem?_eq_getElem hlt2]
        rfl
      rw [e3, e4]
      omega
    rw [bibelotref03_Rank.l0, en, if_pos (by omega), if_pos (by omega), if_pos (by omega)]
    by_cases c : bt s (n : Int) = 49
    · have hg1 := hbt.1 c
      have ex : xr b (rg s n) = 1 - b := by rw [hg1]; unfold xr; split <;> omega
      rw [if_pos c, ex, w64 (x := 2 * o) (by omega) (by omega), w64 (x := 1 - b) (by omega) (by omega), w64 (by omega) (by omega), wn]
    · have hg0 : rg s n = 0 := by
        rcases hg with hg | hg
        · exact hg
        · exact absurd (hbt.2 hg) c
      have ex : xr b (rg s n) = b := by rw [hg0]; unfold xr; split <;> omega
      rw [if_neg c, ex, w64 (x := 2 * o) (by omega) (by omega), w64 (by omega) (by omega), wn]
theorem rrank_ev (s : ByteArray) (h : okR s) : Ev (fun k => bibelotref03_Rank.f k s) (rkOf s) := by
  have hsz := h.1
  have := rrank_loop s h s.size (Nat.le_refl _) 0 0 (.inl rfl) (by omega) (by rw [Nat.sub_self]; omega)
  unfold bibelotref03_Rank.f
  rw [w64 (by omega) (by omega)]
  exact this
end Go.Proofs.YtnaaomhmoamfpaaDoor.G
/- HanoiUnranks: the rings with any rank, or ErrArg; and back. -/
namespace Go.Proofs.YtnaaomhmoamfpaaDoor.Pure
set_option linter.unusedVariables false
set_option linter.unusedSimpArgs false
set_option linter.unusedSectionVars false
open Go.Proofs.YtnaaomhmoamfpaaDoor.G Go.Proofs.YtnaaomhmoamfpaaDoor.Hn
open Go.RowKit Go.Proofs.YtnaaomhmoamfpaaDoor.Q Go.Proofs.YtnaaomhmoamfpaaDoorW.PrintWords Go.Proofs.YtnaaomhmoamfpaaDoorW.PrintLast Go.Proofs.YtnaaomhmoamfpaaDoorW.PrintMore

theorem shlu (n : Nat) (h : n ≤ 62) : shl .u64 1 (n : Int) = 2 ^ n := by
  unfold shl
  rw [Int.toNat_natCast, Nat.min_eq_left (show n ≤ IntKind.u64.bits by show n ≤ 64; omega), Int.one_mul]
  have := pow_pos' n
  have h2 := pow_le h
  have := p62
  exact u64w (by omega) (by omega)
theorem unr_round (x0 x1 x5 : Int) (hx : x5 = 0 ∨ x5 = 1) (h : ∀ n : Nat, 1 ≤ n → n ≤ 60 → ∀ r, 0 ≤ r → r < 2 ^ n → Ev (fun k => bibelotlaw03_HanoiUnranks.l0 k (n : Int) r (x5 + 1)) true) : Ev (fun k => bibelotlaw03_HanoiUnranks.l0 k x0 x1 x5) true := by
  have hw : wrap64 (x5 + 1) = x5 + 1 := w64 (by omega) (by omega)
  obtain ⟨m1, m2⟩ := many_bd x0 60 (by omega)
  have hm := many_f x0 60 (by omega) (by omega)
  obtain ⟨N, hN⟩ := Int.eq_ofNat_of_zero_le (show 0 ≤ manyOf x0 60 by omega)
  rw [hN] at hm m1 m2
  have hs := shlu N (by omega)
  have hp := pow_pos' N
  have hp60 := pow_le (show N ≤ 60 by omega)
  have h60 : (2 : Int) ^ 60 = 1152921504606846976 := by decide
  have hb := umod_bd x1 (2 ^ N) (by omega)
  have wm : wrap64 (Int.tmod (IntKind.u64.wrap x1) (2 ^ N)) = umod x1 (2 ^ N) := by rw [utmod, w64 (by omega) (by omega)]
  have hN1 := h N (by omega) (by omega) _ hb.1 hb.2
  by_cases hr : 1 ≤ x0 ∧ x0 ≤ 60 ∧ 0 ≤ x1 ∧ x1 < 2 ^ x0.toNat
  · obtain ⟨h1, h2, h3, h4⟩ := hr
    obtain ⟨n, rfl⟩ := Int.eq_ofNat_of_zero_le (show 0 ≤ x0 by omega)
    obtain ⟨R, rfl⟩ := Int.eq_ofNat_of_zero_le h3
    rw [Int.toNat_natCast] at h4
    have hR : R < 2 ^ n := by
      have : ((R : Nat) : Int) < ((2 ^ n : Nat) : Int) := by rw [Int.natCast_pow]; exact h4
      omega
    have hn60 := pow_le (show n ≤ 60 by omega)
    have hu := unrank_f n R (by omega) (by omega) hR
    have hok := unrS_okR n R (by omega)
    have hrk := rank_f (unrS n R) ⟨by rw [unrS_size]; omega, hok⟩
    rw [rk_unrS n R hR] at hrk
    have hru := runrank_ev n R (by omega) (by omega)
    refine Ev.step (f := fun k => bibelotlaw03_HanoiUnranks.j1 k (n : Int) (R : Int) x5 (unrS n R) 0 false) (fun k => ?_) ?_
    · rw [bibelotlaw03_HanoiUnranks.l0, if_pos (by omega), hu, Option.bind_some, if_neg (by omega), if_neg (by omega), if_neg (by omega), if_pos (by omega), shl1 n (by omega), decide_eq_false (show ¬ (R : Int) ≥ 2 ^ n by omega)]
    · refine Ev.step (f := fun k => (bibelotref03_Unrank.f k (n : Int) (R : Int)).bind fun t => if (unrS n R).toList = t.toList then bibelotlaw03_HanoiUnranks.l0 k (N : Int) (umod (R : Int) (2 ^ N)) (x5 + 1) else some false) (fun k => ?_)
        (Ev.bind hru (by simp only [if_true]; exact hN1))
      rw [bibelotlaw03_HanoiUnranks.j1, if_neg (by simp), hrk, Option.bind_some, if_pos rfl]
      have hN0 : (0 : Int) ≤ (N : Int) := by omega
      have hne : ¬ (2 : Int) ^ N = 0 := by omega
      simp only [if_true, hm, Option.bind_some, hs, wm, hw, hN0, hne, if_false]
  · have hu : hanoi_Unrank.f x0 x1 = some (⟨#[]⟩, 1) := by
      unfold hanoi_Unrank.f
      rw [if_pos ?_]
      by_cases a1 : x0 < 1
      · exact .inl a1
      by_cases a2 : x0 > 60
      · exact .inr (.inl a2)
      by_cases a3 : x1 < 0
      · exact .inr (.inr (.inl a3))
      refine .inr (.inr (.inr ?_))
      rcases Int.lt_or_le x1 (2 ^ x0.toNat) with a4 | a4
      · exact absurd ⟨by omega, by omega, by omega, a4⟩ hr
      · exact a4
    refine Ev.step (f := fun k => bibelotlaw03_HanoiUnranks.j1 k x0 x1 x5 (⟨#[]⟩ : ByteArray) 1 true) (fun k => ?_) (Ev.step (fun k => ?_) hN1)
    · rw [bibelotlaw03_HanoiUnranks.l0, if_pos (by omega), hu, Option.bind_some]
      by_cases a1 : x0 < 1
      · rw [if_pos a1]
      · rw [if_neg a1]
        by_cases a2 : x0 > 60
        · rw [if_pos a2]
        · rw [if_neg a2]
          by_cases a3 : x1 < 0
          · rw [if_pos a3]
          · rw [if_neg a3, if_pos (by omega)]
            obtain ⟨n, rfl⟩ := Int.eq_ofNat_of_zero_le (show 0 ≤ x0 by omega)
            rw [Int.toNat_natCast] at hr
            have a4 : x1 ≥ 2 ^ n := by
              rcases Int.lt_or_le x1 (2 ^ n) with a4 | a4
              · exact absurd ⟨by omega, by omega, by omega, a4⟩ hr
              · exact a4
            rw [shl1 n (by omega), decide_eq_true a4]
    · have e : (⟨#[]⟩ : ByteArray).toList = [] := by decide +kernel
      rw [bibelotlaw03_HanoiUnranks.j1, if_pos rfl, if_pos rfl, if_pos e, hm, Option.bind_some, if_pos (by omega), hs, if_neg (by omega), wm, hw]

theorem HanoiUnranks : bibelotlaw03_HanoiUnranks.Pure := by
  intro a0 a1 _ _
  refine Ev.rounds (unr_round a0 a1 0 (.inl rfl) (fun n _ _ r _ _ => unr_round _ _ 1 (.inr rfl) (fun m _ _ q _ _ => ?_)))
  refine Ev.step (f := fun k => (bibelotlaw03_awake.f k).bind fun t => some t) (fun k => ?_) (Ev.bind awake_ev (Ev.now true))
  rw [bibelotlaw03_HanoiUnranks.l0, if_neg (by omega)]
end Go.Proofs.YtnaaomhmoamfpaaDoor.Pure
