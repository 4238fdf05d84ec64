/- HanoiFrames: Frame's number for any discs and pegs, or ErrArg: the walk and the plain law, for every input. -/
import Derived.Test.YtnaaomhmoamfpaaDoorA1
import Derived.Test.YtnaaomhmoamfpaaDoorA2
import Derived.Test.YtnaaomhmoamfpaaDoorA4
namespace Go.Proofs.YtnaaomhmoamfpaaDoor.G
end Go.Proofs.YtnaaomhmoamfpaaDoor.G
namespace Go.Proofs.YtnaaomhmoamfpaaDoor.Q
set_option linter.unusedVariables false
set_option linter.unusedSimpArgs false
set_option linter.unusedSectionVars false
open Go.Proofs.YtnaaomhmoamfpaaDoor.G
open Go.RowKit Go.Proofs.YtnaaomhmoamfpaaDoorW.PrintWords Go.Proofs.YtnaaomhmoamfpaaDoorW.PrintLast Go.Proofs.YtnaaomhmoamfpaaDoorW.PrintMore
attribute [local go_sem] max2_int min2_int max_two min_two max_three min_three max_four min_four   -- for this text's walks alone

/-! ### bibelotref03_Frame: function 28 -/
mutual
def bibelotref03_Frame.l0 : Nat → Int → Int → List Int → Int → Option (Int)
  | 0, _, _, _, _ => none
  | k + 1, x0, x1, x5, x6 => if x6 ≤ x0 then (if 0 ≤ x6 then (if x5.length < 17592186044416 then (bibelotref03_Frame.l0 k x0 x1 (x5 ++ [wrap64 ((shl .i64 1 x6) - 1)]) (wrap64 (x6 + 1))) else (none)) else (none)) else (bibelotref03_Frame.l1 k x0 x1 x5 4)
def bibelotref03_Frame.l1 : Nat → Int → Int → List Int → Int → Option (Int)
  | 0, _, _, _, _ => none
  | k + 1, x0, x1, x5, x7 => if x7 ≤ x1 then (bibelotref03_Frame.l2 k x0 x1 x5 x7 (([0, 1] : List Int)) 2) else (if 0 ≤ x0 then (if x0 < (x5.length : Int) then (some (rd x5 x0)) else (none)) else (none))
def bibelotref03_Frame.l2 : Nat → Int → Int → List Int → Int → List Int → Int → Option (Int)
  | 0, _, _, _, _, _, _ => none
  | k + 1, x0, x1, x5, x7, x8, x9 => if x9 ≤ x0 then (bibelotref03_Frame.l3 k x0 x1 x5 x7 x8 x9 1152921504606846976 1) else (bibelotref03_Frame.l1 k x0 x1 x8 (wrap64 (x7 + 1)))
def bibelotref03_Frame.l3 : Nat → Int → Int → List Int → Int → List Int → Int → Int → Int → Option (Int)
  | 0, _, _, _, _, _, _, _, _ => none
  | k + 1, x0, x1, x5, x7, x8, x9, x10, x11 => if x11 < x9 then (if 0 ≤ x11 then (if x11 < (x8.length : Int) then (if 0 ≤ (wrap64 (x9 - x11)) then (if (wrap64 (x9 - x11)) < (x5.length : Int) then (bibelotref03_Frame.l3 k x0 x1 x5 x7 x8 x9 (mn x10 (wrap64 ((wrap64 (2 * (rd x8 x11))) + (rd x5 (wrap64 (x9 - x11)))))) (wrap64 (x11 + 1))) else (none)) else (none)) else (none)) else (none)) else (if x8.length < 17592186044416 then (bibelotref03_Frame.l2 k x0 x1 x5 x7 (x8 ++ [x10]) (wrap64 (x9 + 1))) else (none))
end
def bibelotref03_Frame.f (k : Nat) (a0 : Int) (a1 : Int) : Option (Int) := bibelotref03_Frame.l0 k a0 a1 ([] : List Int) 0
theorem bibelotref03_Frame.mono_l : ∀ k, (∀ y0 y1 y2 y3, LeO (bibelotref03_Frame.l0 k y0 y1 y2 y3) (bibelotref03_Frame.l0 (k + 1) y0 y1 y2 y3)) ∧ (∀ y0 y1 y2 y3, LeO (bibelotref03_Frame.l1 k y0 y1 y2 y3) (bibelotref03_Frame.l1 (k + 1) y0 y1 y2 y3)) ∧ (∀ y0 y1 y2 y3 y4 y5, LeO (bibelotref03_Frame.l2 k y0 y1 y2 y3 y4 y5) (bibelotref03_Frame.l2 (k + 1) y0 y1 y2 y3 y4 y5)) ∧ (∀ y0 y1 y2 y3 y4 y5 y6 y7, LeO (bibelotref03_Frame.l3 k y0 y1 y2 y3 y4 y5 y6 y7) (bibelotref03_Frame.l3 (k + 1) y0 y1 y2 y3 y4 y5 y6 y7))
  | 0 => ⟨fun _ _ _ _ r h => by simp [bibelotref03_Frame.l0] at h, fun _ _ _ _ r h => by simp [bibelotref03_Frame.l1] at h, fun _ _ _ _ _ _ r h => by simp [bibelotref03_Frame.l2] at h, fun _ _ _ _ _ _ _ _ r h => by simp [bibelotref03_Frame.l3] at h⟩
  | k + 1 => by
    obtain ⟨ih0, ih1, ih2, ih3⟩ := bibelotref03_Frame.mono_l k
    refine ⟨?_, ?_, ?_, ?_⟩
    · intro y0 y1 y2 y3
      unfold bibelotref03_Frame.l0
      repeat' first
      | (with_reducible exact ih0 _ _ _ _)
      | (with_reducible exact ih1 _ _ _ _)
      | (with_reducible exact ih2 _ _ _ _ _ _)
      | (with_reducible exact ih3 _ _ _ _ _ _ _ _)
      | (with_reducible exact LeO.refl _)
      | (with_reducible exact LeO.none _)
      | (with_reducible refine LeO.ite ?_ ?_)
      | (with_reducible refine LeO.bind ?_ (fun _ => ?_))
      | exact ih0 _ _ _ _
      | exact ih1 _ _ _ _
      | exact ih2 _ _ _ _ _ _
      | exact ih3 _ _ _ _ _ _ _ _
      | exact LeO.none _
      | refine LeO.ite ?_ ?_
      | refine LeO.bind ?_ (fun _ => ?_)
    · intro y0 y1 y2 y3
      unfold bibelotref03_Frame.l1
      repeat' first
      | (with_reducible exact ih0 _ _ _ _)
      | (with_reducible exact ih1 _ _ _ _)
      | (with_reducible exact ih2 _ _ _ _ _ _)
      | (with_reducible exact ih3 _ _ _ _ _ _ _ _)
      | (with_reducible exact LeO.refl _)
      | (with_reducible exact LeO.none _)
      | (with_reducible refine LeO.ite ?_ ?_)
      | (with_reducible refine LeO.bind ?_ (fun _ => ?_))
      | exact ih0 _ _ _ _
      | exact ih1 _ _ _ _
      | exact ih2 _ _ _ _ _ _
      | exact ih3 _ _ _ _ _ _ _ _
      | exact LeO.none _
      | refine LeO.ite ?_ ?_
      | refine LeO.bind ?_ (fun _ => ?_)
    · intro y0 y1 y2 y3 y4 y5
      unfold bibelotref03_Frame.l2
      repeat' first
      | (with_reducible exact ih0 _ _ _ _)
      | (with_reducible exact ih1 _ _ _ _)
      | (with_reducible exact ih2 _ _ _ _ _ _)
      | (with_reducible exact ih3 _ _ _ _ _ _ _ _)
      | (with_reducible exact LeO.refl _)
      | (with_reducible exact LeO.none _)
      | (with_reducible refine LeO.ite ?_ ?_)
      | (with_reducible refine LeO.bind ?_ (fun _ => ?_))
      | exact ih0 _ _ _ _
      | exact ih1 _ _ _ _
      | exact ih2 _ _ _ _ _ _
      | exact ih3 _ _ _ _ _ _ _ _
      | exact LeO.none _
      | refine LeO.ite ?_ ?_
      | refine LeO.bind ?_ (fun _ => ?_)
    · intro y0 y1 y2 y3 y4 y5 y6 y7
      unfold bibelotref03_Frame.l3
      repeat' first
      | (with_reducible exact ih0 _ _ _ _)
      | (with_reducible exact ih1 _ _ _ _)
      | (with_reducible exact ih2 _ _ _ _ _ _)
      | (with_reducible exact ih3 _ _ _ _ _ _ _ _)
      | (with_reducible exact LeO.refl _)
      | (with_reducible exact LeO.none _)
      | (with_reducible refine LeO.ite ?_ ?_)
      | (with_reducible refine LeO.bind ?_ (fun _ => ?_))
      | exact ih0 _ _ _ _
      | exact ih1 _ _ _ _
      | exact ih2 _ _ _ _ _ _
      | exact ih3 _ _ _ _ _ _ _ _
      | exact LeO.none _
      | refine LeO.ite ?_ ?_
      | refine LeO.bind ?_ (fun _ => ?_)
theorem bibelotref03_Frame.mono : ∀ a0 a1 k, LeO (bibelotref03_Frame.f k a0 a1) (bibelotref03_Frame.f (k + 1) a0 a1) := by
  intro a0 a1 k
  obtain ⟨ih0, ih1, ih2, ih3⟩ := bibelotref03_Frame.mono_l k
  unfold bibelotref03_Frame.f
  repeat' first
      | (with_reducible exact ih0 _ _ _ _)
      | (with_reducible exact ih1 _ _ _ _)
      | (with_reducible exact ih2 _ _ _ _ _ _)
      | (with_reducible exact ih3 _ _ _ _ _ _ _ _)
      | (with_reducible exact LeO.refl _)
      | (with_reducible exact LeO.none _)
      | (with_reducible refine LeO.ite ?_ ?_)
      | (with_reducible refine LeO.bind ?_ (fun _ => ?_))
      | exact ih0 _ _ _ _
      | exact ih1 _ _ _ _
      | exact ih2 _ _ _ _ _ _
      | exact ih3 _ _ _ _ _ _ _ _
      | exact LeO.none _
      | refine LeO.ite ?_ ?_
      | refine LeO.bind ?_ (fun _ => ?_)
set_option maxHeartbeats 8000000 in
set_option maxRecDepth 100000 in
theorem bibelotref03_Frame.calls (k : Nat) (a0 : Int) (a1 : Int) (r : Int) (w : World) (h : bibelotref03_Frame.f k a0 a1 = some r) :
    Calls Tryd.prog 28 #[.int .i64 a0, .int .i64 a1] w fun e w' => e = .returned (.int .i64 r) ∧ Below w.heap.size w w' := by
  have HB := Aside0.mk (Below.refl w.heap.size w)
  have H : (bibelotref03_Frame.l0 k a0 a1 ([] : List Int) 0) = some r := h
  clear h
  have H' := Aside0.mk H
  clear H
  go_enter Tryd.func28, Tryd.ntmps28
  go_wp2
  repeat (go_quiet (fail); try go_wp2)
  go_loopg [5, 6] k (fun kq v5 v6 w' => ∃ (x5_1 : List Int) (x6_1 : Int), v6 = .int .i64 x6_1 ∧ Aside0 (bibelotref03_Frame.l0 kq a0 a1 x5_1 x6_1 = some r) ∧ Aside0 (kq ≤ k) ∧ Aside0 (Kd.R (Kd.int .i64) 2 w' w.heap.size (fun _ => True) v5 x5_1) ∧ Aside0 (Below w.heap.size w w'))
  case atStart => exact ⟨(([] : List Int)), (0), (by first | rfl | (simp; done) | (simp [*]; done)), H', ⟨Nat.le_refl _⟩, ⟨by first | exact Kd.R_nil _ _ _ _ _ | exact Kd.N_nil _ _ _ _ _ | exact Kd.V_nil _ _ _ _ _ | exact Kd.Q_nil _ _ _ _ _ | exact Kd.S_nil _ _ _ _ _⟩, ⟨by repeat (first | (with_reducible first | exact HB.out | apply below_alloc | apply pw_below_drewN | apply below_drew1) | exact HB.out)⟩⟩
  case round =>
    clear H'
    try clear c2
    try clear p2
    obtain ⟨x5_1, x6_1, rfl, HA, HK1, HO_5, HB⟩ := hrel
    cases gk with
    | zero => exact absurd HA.out (by simp [bibelotref03_Frame.l0])
    | succ k1 =>
      have H := HA.out
      clear HA
      simp only [bibelotref03_Frame.l0] at H
      by_cases c3 : x6_1 ≤ a0
      · rw [if_pos c3] at H
        have c3b0 : decide (x6_1 ≤ a0) = true := decide_eq_true c3
        clear c3
        by_cases c4 : 0 ≤ x6_1
        · rw [if_pos c4] at H
          have c4b0 := eq_true c4
          have c4b1 : decide (0 ≤ x6_1) = true := decide_eq_true c4
          clear c4
          obtain ⟨ji5, hji5⟩ : ∃ j_ : Int, (shl .i64 1 x6_1) = j_ := ⟨_, rfl⟩
          replace H : (if x5_1.length < 17592186044416 then (bibelotref03_Frame.l0 k1 a0 a1 (x5_1 ++ [wrap64 ((ji5) - 1)]) (wrap64 (x6_1 + 1))) else (none)) = some r := by first | (rw [hji5] at H; exact H) | (simp only [hji5] at H ⊢; exact H)
          have hji5_ : (IntKind.i64.wrap (1 * 2 ^ min x6_1.toNat 64)) = ji5 := hji5
          have hji5z : x6_1 ≤ 64 → (IntKind.i64.wrap (1 * 2 ^ x6_1.toNat)) = ji5 := shl_small hji5
          have hji5u : (IntKind.i64.wrap (2 ^ min x6_1.toNat 64)) = ji5 := by have h_ := hji5_; rw [Int.one_mul] at h_; exact h_
          have hji5v : x6_1 ≤ 64 → (IntKind.i64.wrap (2 ^ x6_1.toNat)) = ji5 := fun hle_ => by have h_ := hji5z hle_; rw [Int.one_mul] at h_; exact h_
          have hji5y : (wrap64 (1 * 2 ^ min x6_1.toNat 64)) = ji5 := (i64_w _).symm.trans hji5_
          have hji5x : x6_1 ≤ 64 → (wrap64 (1 * 2 ^ x6_1.toNat)) = ji5 := fun h_ => (i64_w _).symm.trans (hji5z h_)
          by_cases c6 : x5_1.length < 17592186044416
          · rw [if_pos c6] at H
            have LMc6 := Aside0.mk c6
            clear c6
            obtain ⟨y125, hy125⟩ : ∃ y_ : List Int, y_ = (x5_1 ++ [wrap64 ((ji5) - 1)]) := ⟨_, rfl⟩
            replace H : (bibelotref03_Frame.l0 k1 a0 a1 y125 (wrap64 (x6_1 + 1))) = some r := by first | (rw [hy125]; with_reducible exact H) | (have H2_ := (Option.bind_some _ _).symm.trans H; rw [hy125]; with_reducible exact H2_) | (have H2_ := (Option.bind_some _ _).symm.trans H; with_reducible exact H2_) | with_reducible exact H | (rw [hy125]; exact H) | exact H
            have Ny125 := Aside0.mk hy125
            clear hy125
            have H' := Aside0.mk H
            clear H
            go_wp2_with (first | ((with_reducible refine gate_builtin (b := .append) (xs := #[.tmp 17, .tmp 21]) rfl ?_); at_builtin; refine Kd.R_append (Kd.int .i64) (w0 := w) w.heap.size rfl (.tmp 17) (.tmp 21) 97 2 (.int .i64 0) 8 rfl Tryd.underlying97 info2 rfl (by decide) (by omega) u5 x5_1 (wrap64 ((ji5) - 1)) [.int .i64 (wrap64 ((ji5) - 1))] (fun _ => True) (fun _ => False) rfl rfl ?aP (fun _ hk => hk.elim) ?aF ?aO ?aB ?aS ?aL ?_; (case aP => exact rfl); (case aB => exact (by repeat (first | (with_reducible first | exact HB.out | apply below_alloc | apply pw_below_drewN | apply below_drew1) | exact HB.out))); (case aF => exact (fun _ _ => trivial)); (case aO => exact (by (with_reducible repeat (first | apply Kd.R_alloc | apply Kd.R_drewN | apply Kd.R_drew)); exact HO_5.out)); (case aS => exact (below_size (by repeat (first | (with_reducible first | exact HB.out | apply below_alloc | apply pw_below_drewN | apply below_drew1) | exact HB.out)))); (case aL => have := LMc6.out; omega); intro v126 w7 ho hb hg hat; rw [← Ny125.out] at ho; have n0_ := Aside0.mk (hb); have n1_ := Aside0.mk (ho); clear HB; clear HO_5; have HB := n0_; have HO127 := n1_; clear n0_ n1_; clear ho hb hg hat))
            repeat (go_quiet (first | ((with_reducible refine gate_builtin (b := .append) (xs := #[.tmp 17, .tmp 21]) rfl ?_); at_builtin; refine Kd.R_append (Kd.int .i64) (w0 := w) w.heap.size rfl (.tmp 17) (.tmp 21) 97 2 (.int .i64 0) 8 rfl Tryd.underlying97 info2 rfl (by decide) (by omega) u5 x5_1 (wrap64 ((ji5) - 1)) [.int .i64 (wrap64 ((ji5) - 1))] (fun _ => True) (fun _ => False) rfl rfl ?aP (fun _ hk => hk.elim) ?aF ?aO ?aB ?aS ?aL ?_; (case aP => exact rfl); (case aB => exact (by repeat (first | (with_reducible first | exact HB.out | apply below_alloc | apply pw_below_drewN | apply below_drew1) | exact HB.out))); (case aF => exact (fun _ _ => trivial)); (case aO => exact (by (with_reducible repeat (first | apply Kd.R_alloc | apply Kd.R_drewN | apply Kd.R_drew)); exact HO_5.out)); (case aS => exact (below_size (by repeat (first | (with_reducible first | exact HB.out | apply below_alloc | apply pw_below_drewN | apply below_drew1) | exact HB.out)))); (case aL => have := LMc6.out; omega); intro v126 w7 ho hb hg hat; rw [← Ny125.out] at ho; have n0_ := Aside0.mk (hb); have n1_ := Aside0.mk (ho); clear HB; clear HO_5; have HB := n0_; have HO127 := n1_; clear n0_ n1_; clear ho hb hg hat)); try go_wp2_with (first | ((with_reducible refine gate_builtin (b := .append) (xs := #[.tmp 17, .tmp 21]) rfl ?_); at_builtin; refine Kd.R_append (Kd.int .i64) (w0 := w) w.heap.size rfl (.tmp 17) (.tmp 21) 97 2 (.int .i64 0) 8 rfl Tryd.underlying97 info2 rfl (by decide) (by omega) u5 x5_1 (wrap64 ((ji5) - 1)) [.int .i64 (wrap64 ((ji5) - 1))] (fun _ => True) (fun _ => False) rfl rfl ?aP (fun _ hk => hk.elim) ?aF ?aO ?aB ?aS ?aL ?_; (case aP => exact rfl); (case aB => exact (by repeat (first | (with_reducible first | exact HB.out | apply below_alloc | apply pw_below_drewN | apply below_drew1) | exact HB.out))); (case aF => exact (fun _ _ => trivial)); (case aO => exact (by (with_reducible repeat (first | apply Kd.R_alloc | apply Kd.R_drewN | apply Kd.R_drew)); exact HO_5.out)); (case aS => exact (below_size (by repeat (first | (with_reducible first | exact HB.out | apply below_alloc | apply pw_below_drewN | apply below_drew1) | exact HB.out)))); (case aL => have := LMc6.out; omega); intro v126 w7 ho hb hg hat; rw [← Ny125.out] at ho; have n0_ := Aside0.mk (hb); have n1_ := Aside0.mk (ho); clear HB; clear HO_5; have HB := n0_; have HO127 := n1_; clear n0_ n1_; clear ho hb hg hat)))
            go_roundg k1
            case measure => have := HK1.out; omega
            case rel => exact ⟨(y125), (wrap64 (x6_1 + 1)), (by first | rfl | (simp; done) | (simp [*]; done)), H', ⟨by have := HK1.out; omega⟩, ⟨by (with_reducible repeat (first | apply Kd.R_alloc | apply Kd.R_drewN | apply Kd.R_drew)); exact HO127.out⟩, ⟨by repeat (first | (with_reducible first | exact HB.out | apply below_alloc | apply pw_below_drewN | apply below_drew1) | exact HB.out)⟩⟩
          · rw [if_neg c6] at H
            exact absurd H (by simp)
        · rw [if_neg c4] at H
          exact absurd H (by simp)
      · rw [if_neg c3] at H
        have c3b0 : decide (x6_1 ≤ a0) = false := decide_eq_false c3
        clear c3
        have H' := Aside0.mk H
        clear H
        go_wp2
        repeat (go_quiet (fail); try go_wp2)
        go_loopg [5, 7] k1 (fun kq v5 v7 w' => ∃ (x5_2 : List Int) (x7_2 : Int), v7 = .int .i64 x7_2 ∧ Aside0 (bibelotref03_Frame.l1 kq a0 a1 x5_2 x7_2 = some r) ∧ Aside0 (kq ≤ k1) ∧ Aside0 (Kd.R (Kd.int .i64) 2 w' w.heap.size (fun _ => True) v5 x5_2) ∧ Aside0 (Below w.heap.size w w'))
        case atStart => exact ⟨(x5_1), (4), (by first | rfl | (simp; done) | (simp [*]; done)), H', ⟨Nat.le_refl _⟩, ⟨by (with_reducible repeat (first | apply Kd.R_alloc | apply Kd.R_drewN | apply Kd.R_drew)); exact HO_5.out⟩, ⟨by repeat (first | (with_reducible first | exact HB.out | apply below_alloc | apply pw_below_drewN | apply below_drew1) | exact HB.out)⟩⟩
        case round =>
          clear H'
          try clear c2
          try clear p2
          try clear c3
          try clear c3b0
          try clear c4
          try clear c4b0
          try clear c4b1
          try clear c6
          try clear p6
          try clear p2
          obtain ⟨x5_2, x7_2, rfl, HA, HK2, HO_5, HB⟩ := hrel
          cases gk with
          | zero => exact absurd HA.out (by simp [bibelotref03_Frame.l1])
          | succ k2 =>
            have H := HA.out
            clear HA
            simp only [bibelotref03_Frame.l1] at H
            by_cases c8 : x7_2 ≤ a1
            · rw [if_pos c8] at H
              have c8b0 : decide (x7_2 ≤ a1) = true := decide_eq_true c8
              clear c8
              obtain ⟨y129, hy129⟩ : ∃ y_ : List Int, y_ = (([0, 1] : List Int)) := ⟨_, rfl⟩
              replace H : (bibelotref03_Frame.l2 k2 a0 a1 x5_2 x7_2 y129 2) = some r := by first | (rw [hy129]; with_reducible exact H) | (have H2_ := (Option.bind_some _ _).symm.trans H; rw [hy129]; with_reducible exact H2_) | (have H2_ := (Option.bind_some _ _).symm.trans H; with_reducible exact H2_) | with_reducible exact H | (rw [hy129]; exact H) | exact H
              have Ny129 := Aside0.mk hy129
              clear hy129
              have H' := Aside0.mk H
              clear H
              go_wp2_with (first | ((with_reducible refine gate_dst (N := 28) rfl ?_); refine Kd.R_lit (Kd.int .i64) _ 2 ?hg (N := 28) ?hd (xs := ([0, 1] : List Int)) (inner := [.int .i64 0, .int .i64 1]) (ok := fun _ => True) (okp := fun _ => True) ?hr ?hp (fun _ hk => hk) trivial (Below.refl _ _) (Nat.le_refl _) (by simp) ?_; (case hd => rfl); (case hg => rfl); (case hr => first | (go_simp; done) | (go_simp; rfl)); (case hp => exact (Reps.one (show Kd.M (Kd.int .i64) _ _ _ 0 [.int .i64 0] from rfl) (Reps.one (show Kd.M (Kd.int .i64) _ _ _ 1 [.int .i64 1] from rfl) (Reps.none _ _)))); intro v130 w9 ho10 hb hg_ hnew_; clear hg_ hnew_; (first | rw [← Ny129.out] at ho10 | (simp only [Int.reduceToNat] at ho10; rw [← Ny129.out] at ho10)); have n0_ := Aside0.mk (Kd.R_elder' (by (with_reducible repeat (first | apply Kd.R_alloc | apply Kd.R_drewN | apply Kd.R_drew)); exact HO_5.out) (Kd.R_base ho10) hb); have n1_ := Aside0.mk (Kd.R_lower (Kd.R_new' ho10 (Kd.R_lt (by (with_reducible repeat (first | apply Kd.R_alloc | apply Kd.R_drewN | apply Kd.R_drew)); exact HO_5.out))) (below_size (by repeat (first | (with_reducible first | exact HB.out | apply below_alloc | apply pw_below_drewN | apply below_drew1) | exact HB.out)))); have n2_ := Aside0.mk (below_step (by repeat (first | (with_reducible first | exact HB.out | apply below_alloc | apply pw_below_drewN | apply below_drew1) | exact HB.out)) hb); clear HO_5; clear HB; have HO_5 := n0_; have HO131 := n1_; have HB := n2_; clear n0_ n1_ n2_; clear hb ho10))
              repeat (go_quiet (first | ((with_reducible refine gate_dst (N := 28) rfl ?_); refine Kd.R_lit (Kd.int .i64) _ 2 ?hg (N := 28) ?hd (xs := ([0, 1] : List Int)) (inner := [.int .i64 0, .int .i64 1]) (ok := fun _ => True) (okp := fun _ => True) ?hr ?hp (fun _ hk => hk) trivial (Below.refl _ _) (Nat.le_refl _) (by simp) ?_; (case hd => rfl); (case hg => rfl); (case hr => first | (go_simp; done) | (go_simp; rfl)); (case hp => exact (Reps.one (show Kd.M (Kd.int .i64) _ _ _ 0 [.int .i64 0] from rfl) (Reps.one (show Kd.M (Kd.int .i64) _ _ _ 1 [.int .i64 1] from rfl) (Reps.none _ _)))); intro v130 w9 ho10 hb hg_ hnew_; clear hg_ hnew_; (first | rw [← Ny129.out] at ho10 | (simp only [Int.reduceToNat] at ho10; rw [← Ny129.out] at ho10)); have n0_ := Aside0.mk (Kd.R_elder' (by (with_reducible repeat (first | apply Kd.R_alloc | apply Kd.R_drewN | apply Kd.R_drew)); exact HO_5.out) (Kd.R_base ho10) hb); have n1_ := Aside0.mk (Kd.R_lower (Kd.R_new' ho10 (Kd.R_lt (by (with_reducible repeat (first | apply Kd.R_alloc | apply Kd.R_drewN | apply Kd.R_drew)); exact HO_5.out))) (below_size (by repeat (first | (with_reducible first | exact HB.out | apply below_alloc | apply pw_below_drewN | apply below_drew1) | exact HB.out)))); have n2_ := Aside0.mk (below_step (by repeat (first | (with_reducible first | exact HB.out | apply below_alloc | apply pw_below_drewN | apply below_drew1) | exact HB.out)) hb); clear HO_5; clear HB; have HO_5 := n0_; have HO131 := n1_; have HB := n2_; clear n0_ n1_ n2_; clear hb ho10)); try go_wp2_with (first | ((with_reducible refine gate_dst (N := 28) rfl ?_); refine Kd.R_lit (Kd.int .i64) _ 2 ?hg (N := 28) ?hd (xs := ([0, 1] : List Int)) (inner := [.int .i64 0, .int .i64 1]) (ok := fun _ => True) (okp := fun _ => True) ?hr ?hp (fun _ hk => hk) trivial (Below.refl _ _) (Nat.le_refl _) (by simp) ?_; (case hd => rfl); (case hg => rfl); (case hr => first | (go_simp; done) | (go_simp; rfl)); (case hp => exact (Reps.one (show Kd.M (Kd.int .i64) _ _ _ 0 [.int .i64 0] from rfl) (Reps.one (show Kd.M (Kd.int .i64) _ _ _ 1 [.int .i64 1] from rfl) (Reps.none _ _)))); intro v130 w9 ho10 hb hg_ hnew_; clear hg_ hnew_; (first | rw [← Ny129.out] at ho10 | (simp only [Int.reduceToNat] at ho10; rw [← Ny129.out] at ho10)); have n0_ := Aside0.mk (Kd.R_elder' (by (with_reducible repeat (first | apply Kd.R_alloc | apply Kd.R_drewN | apply Kd.R_drew)); exact HO_5.out) (Kd.R_base ho10) hb); have n1_ := Aside0.mk (Kd.R_lower (Kd.R_new' ho10 (Kd.R_lt (by (with_reducible repeat (first | apply Kd.R_alloc | apply Kd.R_drewN | apply Kd.R_drew)); exact HO_5.out))) (below_size (by repeat (first | (with_reducible first | exact HB.out | apply below_alloc | apply pw_below_drewN | apply below_drew1) | exact HB.out)))); have n2_ := Aside0.mk (below_step (by repeat (first | (with_reducible first | exact HB.out | apply below_alloc | apply pw_below_drewN | apply below_drew1) | exact HB.out)) hb); clear HO_5; clear HB; have HO_5 := n0_; have HO131 := n1_; have HB := n2_; clear n0_ n1_ n2_; clear hb ho10)))
              go_loopg [8, 9] k2 (fun kq v8 v9 w' => ∃ (x8_3 : List Int) (x9_3 : Int), v9 = .int .i64 x9_3 ∧ Aside0 (bibelotref03_Frame.l2 kq a0 a1 x5_2 x7_2 x8_3 x9_3 = some r) ∧ Aside0 (kq ≤ k2) ∧ Aside0 (Kd.R (Kd.int .i64) 2 w' w.heap.size (fun k_ => some k_ ≠ (v8 : Value).ownBlock) u5 x5_2) ∧ Aside0 (Kd.R (Kd.int .i64) 2 w' w.heap.size (fun k_ => some k_ ≠ (u5 : Value).ownBlock) v8 x8_3) ∧ Aside0 (Below w.heap.size w w'))
              case atStart => exact ⟨(y129), (2), (by first | rfl | (simp; done) | (simp [*]; done)), H', ⟨Nat.le_refl _⟩, ⟨by (with_reducible repeat (first | apply Kd.R_alloc | apply Kd.R_drewN | apply Kd.R_drew)); exact Kd.R_mono HO_5.out (fun _ hk => hk.2)⟩, ⟨by (with_reducible repeat (first | apply Kd.R_alloc | apply Kd.R_drewN | apply Kd.R_drew)); exact Kd.R_mono HO131.out (fun _ hk => hk.2)⟩, ⟨by repeat (first | (with_reducible first | exact HB.out | apply below_alloc | apply pw_below_drewN | apply below_drew1) | exact HB.out)⟩⟩
              case round =>
                clear H'
                try clear c2
                try clear p2
                try clear c3
                try clear c3b0
                try clear c4
                try clear c4b0
                try clear c4b1
                try clear c6
                try clear p6
                try clear c8
                try clear c8b0
                try clear p2
                try clear p6
                obtain ⟨x8_3, x9_3, rfl, HA, HK3, HO_5, HO_8, HB⟩ := hrel
                cases gk with
                | zero => exact absurd HA.out (by simp [bibelotref03_Frame.l2])
                | succ k3 =>
                  have H := HA.out
                  clear HA
                  simp only [bibelotref03_Frame.l2] at H
                  by_cases c11 : x9_3 ≤ a0
                  · rw [if_pos c11] at H
                    have c11b0 : decide (x9_3 ≤ a0) = true := decide_eq_true c11
                    clear c11
                    have H' := Aside0.mk H
                    clear H
                    go_wp2
                    repeat (go_quiet (fail); try go_wp2)
                    go_loopg [10, 11] k3 (fun kq v10 v11 w' => ∃ (x10_4 : Int) (x11_4 : Int), v10 = .int .i64 x10_4 ∧ v11 = .int .i64 x11_4 ∧ Aside0 (bibelotref03_Frame.l3 kq a0 a1 x5_2 x7_2 x8_3 x9_3 x10_4 x11_4 = some r) ∧ Aside0 (kq ≤ k3) ∧ Aside0 (Kd.R (Kd.int .i64) 2 w' w.heap.size (fun k_ => some k_ ≠ (u8 : Value).ownBlock) u5 x5_2) ∧ Aside0 (Kd.R (Kd.int .i64) 2 w' w.heap.size (fun k_ => some k_ ≠ (u5 : Value).ownBlock) u8 x8_3) ∧ Aside0 (Below w.heap.size w w'))
                    case atStart => exact ⟨(1152921504606846976), (1), (by first | rfl | (simp; done) | (simp [*]; done)), (by first | rfl | (simp; done) | (simp [*]; done)), H', ⟨Nat.le_refl _⟩, ⟨by (with_reducible repeat (first | apply Kd.R_alloc | apply Kd.R_drewN | apply Kd.R_drew)); exact HO_5.out⟩, ⟨by (with_reducible repeat (first | apply Kd.R_alloc | apply Kd.R_drewN | apply Kd.R_drew)); exact HO_8.out⟩, ⟨by repeat (first | (with_reducible first | exact HB.out | apply below_alloc | apply pw_below_drewN | apply below_drew1) | exact HB.out)⟩⟩
                    case round =>
                      clear H'
                      try clear c1
                      try clear c2
                      try clear p2
                      try clear c3
                      try clear c3b0
                      try clear c4
                      try clear c4b0
                      try clear c4b1
                      try clear c6
                      try clear p6
                      try clear c8
                      try clear c8b0
                      try clear c11
                      try clear c11b0
                      try clear p2
                      try clear p6
                      obtain ⟨x10_4, x11_4, rfl, rfl, HA, HK4, HO_5, HO_8, HB⟩ := hrel
                      cases gk with
                      | zero => exact absurd HA.out (by simp [bibelotref03_Frame.l3])
                      | succ k4 =>
                        have H := HA.out
                        clear HA
                        simp only [bibelotref03_Frame.l3] at H
                        by_cases c12 : x11_4 < x9_3
                        · rw [if_pos c12] at H
                          have c12b0 : decide (x11_4 < x9_3) = true := decide_eq_true c12
                          clear c12
                          by_cases c13 : 0 ≤ x11_4
                          · rw [if_pos c13] at H
                            have c13b0 : decide (0 ≤ x11_4) = true := decide_eq_true c13
                            clear c13
                            by_cases c14 : x11_4 < (x8_3.length : Int)
                            · rw [if_pos c14] at H
                              have c14b0 : decide (x11_4 < (x8_3.length : Int)) = true := decide_eq_true c14
                              clear c14
                              obtain ⟨ji15, hji15⟩ : ∃ j_ : Int, (wrap64 (x9_3 - x11_4)) = j_ := ⟨_, rfl⟩
                              replace H : (if 0 ≤ (ji15) then (if (ji15) < (x5_2.length : Int) then (bibelotref03_Frame.l3 k4 a0 a1 x5_2 x7_2 x8_3 x9_3 (mn x10_4 (wrap64 ((wrap64 (2 * (rd x8_3 x11_4))) + (rd x5_2 (ji15))))) (wrap64 (x11_4 + 1))) else (none)) else (none)) = some r := by first | (rw [hji15] at H; exact H) | (simp only [hji15] at H ⊢; exact H)
                              have hji15w : (IntKind.i64.wrap (x9_3 - x11_4)) = ji15 := (i64_w _).trans hji15
                              by_cases c16 : 0 ≤ (ji15)
                              · rw [if_pos c16] at H
                                have c16b0 : decide (0 ≤ (ji15)) = true := decide_eq_true c16
                                clear c16
                                by_cases c17 : (ji15) < (x5_2.length : Int)
                                · rw [if_pos c17] at H
                                  have c17b0 : decide ((ji15) < (x5_2.length : Int)) = true := decide_eq_true c17
                                  clear c17
                                  obtain ⟨ji18, hji18⟩ : ∃ j_ : Int, (mn x10_4 (wrap64 ((wrap64 (2 * (rd x8_3 x11_4))) + (rd x5_2 (ji15))))) = j_ := ⟨_, rfl⟩
                                  replace H : (bibelotref03_Frame.l3 k4 a0 a1 x5_2 x7_2 x8_3 x9_3 ji18 (wrap64 (x11_4 + 1))) = some r := by first | (rw [hji18] at H; exact H) | (simp only [hji18] at H ⊢; exact H)
                                  have hji18_ : (if (wrap64 ((wrap64 (2 * (rd x8_3 x11_4))) + (rd x5_2 (ji15)))) < x10_4 then (wrap64 ((wrap64 (2 * (rd x8_3 x11_4))) + (rd x5_2 (ji15)))) else x10_4) = ji18 := hji18
                                  have H' := Aside0.mk H
                                  clear H
                                  obtain ⟨Ao19, co19, eo19⟩ := Kd.R_slice HO_8.out
                                  subst eo19
                                  have p132 : 0 ≤ (x11_4 : Int) := of_decide_eq_true (by first | (with_reducible assumption) | assumption)
                                  have q132 : x11_4 < (x8_3.length : Int) := of_decide_eq_true (by first | (with_reducible assumption) | assumption)
                                  obtain ⟨ad132, e132, hx132_0⟩ := Kd.at_int (Kd.R_reads' HO_8.out).2.2 x11_4 p132 q132
                                  cases e132
                                  replace p132 := eq_true p132
                                  replace q132 := eq_true q132
                                  obtain ⟨Ao20, co20, eo20⟩ := Kd.R_slice HO_5.out
                                  subst eo20
                                  have p133 : 0 ≤ ((ji15) : Int) := of_decide_eq_true (by first | (with_reducible assumption) | assumption)
                                  have q133 : (ji15) < (x5_2.length : Int) := of_decide_eq_true (by first | (with_reducible assumption) | assumption)
                                  obtain ⟨ad133, e133, hx133_0⟩ := Kd.at_int (Kd.R_reads' HO_5.out).2.2 (ji15) p133 q133
                                  cases e133
                                  replace p133 := eq_true p133
                                  replace q133 := eq_true q133
                                  go_wp2
                                  repeat (go_quiet (fail); try go_wp2)
                                  go_roundg k4
                                  case measure => have := HK1.out; have := HK2.out; have := HK3.out; have := HK4.out; omega
                                  case rel => exact ⟨(ji18), (wrap64 (x11_4 + 1)), (by first | rfl | (simp; done) | (simp only [← hji18] <;> (first | rfl | simp)) | (simp [*]; done)), (by first | rfl | (simp; done) | (simp [*]; done)), H', ⟨by have := HK1.out; have := HK2.out; have := HK3.out; have := HK4.out; omega⟩, ⟨by (with_reducible repeat (first | apply Kd.R_alloc | apply Kd.R_drewN | apply Kd.R_drew)); exact HO_5.out⟩, ⟨by (with_reducible repeat (first | apply Kd.R_alloc | apply Kd.R_drewN | apply Kd.R_drew)); exact HO_8.out⟩, ⟨by repeat (first | (with_reducible first | exact HB.out | apply below_alloc | apply pw_below_drewN | apply below_drew1) | exact HB.out)⟩⟩
                                · rw [if_neg c17] at H
                                  exact absurd H (by simp)
                              · rw [if_neg c16] at H
                                exact absurd H (by simp)
                            · rw [if_neg c14] at H
                              exact absurd H (by simp)
                          · rw [if_neg c13] at H
                            exact absurd H (by simp)
                        · rw [if_neg c12] at H
                          have c12b0 : decide (x11_4 < x9_3) = false := decide_eq_false c12
                          clear c12
                          by_cases c21 : x8_3.length < 17592186044416
                          · rw [if_pos c21] at H
                            have LMc21 := Aside0.mk c21
                            clear c21
                            obtain ⟨y134, hy134⟩ : ∃ y_ : List Int, y_ = (x8_3 ++ [x10_4]) := ⟨_, rfl⟩
                            replace H : (bibelotref03_Frame.l2 k4 a0 a1 x5_2 x7_2 y134 (wrap64 (x9_3 + 1))) = some r := by first | (rw [hy134]; with_reducible exact H) | (have H2_ := (Option.bind_some _ _).symm.trans H; rw [hy134]; with_reducible exact H2_) | (have H2_ := (Option.bind_some _ _).symm.trans H; with_reducible exact H2_) | with_reducible exact H | (rw [hy134]; exact H) | exact H
                            have Ny134 := Aside0.mk hy134
                            clear hy134
                            have H' := Aside0.mk H
                            clear H
                            go_wp2_with (first | ((with_reducible refine gate_builtin (b := .append) (xs := #[.tmp 53, .tmp 55]) rfl ?_); at_builtin; refine Kd.R_append (Kd.int .i64) (w0 := w) w.heap.size rfl (.tmp 53) (.tmp 55) 97 2 (.int .i64 0) 8 rfl Tryd.underlying97 info2 rfl (by decide) (by omega) u8 x8_3 x10_4 [.int .i64 x10_4] (fun k_ => some k_ ≠ (u5 : Value).ownBlock) (fun _ => False) rfl rfl ?aP (fun _ hk => hk.elim) ?aF ?aO ?aB ?aS ?aL ?_; (case aP => exact rfl); (case aB => exact (by repeat (first | (with_reducible first | exact HB.out | apply below_alloc | apply pw_below_drewN | apply below_drew1) | exact HB.out))); (case aF => exact (fun k_ hk => Kd.fresh' (Kd.R_lt (by (with_reducible repeat (first | apply Kd.R_alloc | apply Kd.R_drewN | apply Kd.R_drew)); exact HO_5.out)) k_ hk)); (case aO => exact (by (with_reducible repeat (first | apply Kd.R_alloc | apply Kd.R_drewN | apply Kd.R_drew)); exact HO_8.out)); (case aS => exact (below_size (by repeat (first | (with_reducible first | exact HB.out | apply below_alloc | apply pw_below_drewN | apply below_drew1) | exact HB.out)))); (case aL => have := LMc21.out; omega); intro v135 w22 ho hb hg hat; rw [← Ny134.out] at ho; have n0_ := Aside0.mk (Kd.R_after (ok := (fun _ => True)) (by (with_reducible repeat (first | apply Kd.R_alloc | apply Kd.R_drewN | apply Kd.R_drew)); exact Kd.R_mono HO_5.out (fun _ hk => ⟨trivial, hk⟩)) hg hat); have n1_ := Aside0.mk (hb); have n2_ := Aside0.mk (ho); clear HO_5; clear HB; clear HO_8; have HO_5 := n0_; have HB := n1_; have HO136 := n2_; clear n0_ n1_ n2_; clear ho hb hg hat))
                            repeat (go_quiet (first | ((with_reducible refine gate_builtin (b := .append) (xs := #[.tmp 53, .tmp 55]) rfl ?_); at_builtin; refine Kd.R_append (Kd.int .i64) (w0 := w) w.heap.size rfl (.tmp 53) (.tmp 55) 97 2 (.int .i64 0) 8 rfl Tryd.underlying97 info2 rfl (by decide) (by omega) u8 x8_3 x10_4 [.int .i64 x10_4] (fun k_ => some k_ ≠ (u5 : Value).ownBlock) (fun _ => False) rfl rfl ?aP (fun _ hk => hk.elim) ?aF ?aO ?aB ?aS ?aL ?_; (case aP => exact rfl); (case aB => exact (by repeat (first | (with_reducible first | exact HB.out | apply below_alloc | apply pw_below_drewN | apply below_drew1) | exact HB.out))); (case aF => exact (fun k_ hk => Kd.fresh' (Kd.R_lt (by (with_reducible repeat (first | apply Kd.R_alloc | apply Kd.R_drewN | apply Kd.R_drew)); exact HO_5.out)) k_ hk)); (case aO => exact (by (with_reducible repeat (first | apply Kd.R_alloc | apply Kd.R_drewN | apply Kd.R_drew)); exact HO_8.out)); (case aS => exact (below_size (by repeat (first | (with_reducible first | exact HB.out | apply below_alloc | apply pw_below_drewN | apply below_drew1) | exact HB.out)))); (case aL => have := LMc21.out; omega); intro v135 w22 ho hb hg hat; rw [← Ny134.out] at ho; have n0_ := Aside0.mk (Kd.R_after (ok := (fun _ => True)) (by (with_reducible repeat (first | apply Kd.R_alloc | apply Kd.R_drewN | apply Kd.R_drew)); exact Kd.R_mono HO_5.out (fun _ hk => ⟨trivial, hk⟩)) hg hat); have n1_ := Aside0.mk (hb); have n2_ := Aside0.mk (ho); clear HO_5; clear HB; clear HO_8; have HO_5 := n0_; have HB := n1_; have HO136 := n2_; clear n0_ n1_ n2_; clear ho hb hg hat)); try go_wp2_with (first | ((with_reducible refine gate_builtin (b := .append) (xs := #[.tmp 53, .tmp 55]) rfl ?_); at_builtin; refine Kd.R_append (Kd.int .i64) (w0 := w) w.heap.size rfl (.tmp 53) (.tmp 55) 97 2 (.int .i64 0) 8 rfl Tryd.underlying97 info2 rfl (by decide) (by omega) u8 x8_3 x10_4 [.int .i64 x10_4] (fun k_ => some k_ ≠ (u5 : Value).ownBlock) (fun _ => False) rfl rfl ?aP (fun _ hk => hk.elim) ?aF ?aO ?aB ?aS ?aL ?_; (case aP => exact rfl); (case aB => exact (by repeat (first | (with_reducible first | exact HB.out | apply below_alloc | apply pw_below_drewN | apply below_drew1) | exact HB.out))); (case aF => exact (fun k_ hk => Kd.fresh' (Kd.R_lt (by (with_reducible repeat (first | apply Kd.R_alloc | apply Kd.R_drewN | apply Kd.R_drew)); exact HO_5.out)) k_ hk)); (case aO => exact (by (with_reducible repeat (first | apply Kd.R_alloc | apply Kd.R_drewN | apply Kd.R_drew)); exact HO_8.out)); (case aS => exact (below_size (by repeat (first | (with_reducible first | exact HB.out | apply below_alloc | apply pw_below_drewN | apply below_drew1) | exact HB.out)))); (case aL => have := LMc21.out; omega); intro v135 w22 ho hb hg hat; rw [← Ny134.out] at ho; have n0_ := Aside0.mk (Kd.R_after (ok := (fun _ => True)) (by (with_reducible repeat (first | apply Kd.R_alloc | apply Kd.R_drewN | apply Kd.R_drew)); exact Kd.R_mono HO_5.out (fun _ hk => ⟨trivial, hk⟩)) hg hat); have n1_ := Aside0.mk (hb); have n2_ := Aside0.mk (ho); clear HO_5; clear HB; clear HO_8; have HO_5 := n0_; have HB := n1_; have HO136 := n2_; clear n0_ n1_ n2_; clear ho hb hg hat)))
                            go_roundg k4
                            case measure => have := HK1.out; have := HK2.out; have := HK3.out; have := HK4.out; omega
                            case rel => exact ⟨(y134), (wrap64 (x9_3 + 1)), (by first | rfl | (simp; done) | (simp [*]; done)), H', ⟨by have := HK1.out; have := HK2.out; have := HK3.out; have := HK4.out; omega⟩, ⟨by (with_reducible repeat (first | apply Kd.R_alloc | apply Kd.R_drewN | apply Kd.R_drew)); exact Kd.R_mono HO_5.out (fun _ hk => hk.2)⟩, ⟨by (with_reducible repeat (first | apply Kd.R_alloc | apply Kd.R_drewN | apply Kd.R_drew)); exact HO136.out⟩, ⟨by repeat (first | (with_reducible first | exact HB.out | apply below_alloc | apply pw_below_drewN | apply below_drew1) | exact HB.out)⟩⟩
                          · rw [if_neg c21] at H
                            exact absurd H (by simp)
                  · rw [if_neg c11] at H
                    have c11b0 : decide (x9_3 ≤ a0) = false := decide_eq_false c11
                    clear c11
                    have H' := Aside0.mk H
                    clear H
                    go_wp2
                    repeat (go_quiet (fail); try go_wp2)
                    go_roundg k3
                    case measure => have := HK1.out; have := HK2.out; have := HK3.out; omega
                    case rel => exact ⟨(x8_3), (wrap64 (x7_2 + 1)), (by first | rfl | (simp; done) | (simp [*]; done)), H', ⟨by have := HK1.out; have := HK2.out; have := HK3.out; omega⟩, ⟨by (with_reducible repeat (first | apply Kd.R_alloc | apply Kd.R_drewN | apply Kd.R_drew)); exact Kd.R_mono HO_8.out (fun _ hk => trivial)⟩, ⟨by repeat (first | (with_reducible first | exact HB.out | apply below_alloc | apply pw_below_drewN | apply below_drew1) | exact HB.out)⟩⟩
            · rw [if_neg c8] at H
              have c8b0 : decide (x7_2 ≤ a1) = false := decide_eq_false c8
              clear c8
              by_cases c23 : 0 ≤ a0
              · rw [if_pos c23] at H
                have c23b0 : decide (0 ≤ a0) = true := decide_eq_true c23
                clear c23
                by_cases c24 : a0 < (x5_2.length : Int)
                · rw [if_pos c24] at H
                  have c24b0 : decide (a0 < (x5_2.length : Int)) = true := decide_eq_true c24
                  clear c24
                  obtain rfl := Option.some.inj H
                  obtain ⟨Ao25, co25, eo25⟩ := Kd.R_slice HO_5.out
                  subst eo25
                  have p128 : 0 ≤ (a0 : Int) := of_decide_eq_true (by first | (with_reducible assumption) | assumption)
                  have q128 : a0 < (x5_2.length : Int) := of_decide_eq_true (by first | (with_reducible assumption) | assumption)
                  obtain ⟨ad128, e128, hx128_0⟩ := Kd.at_int (Kd.R_reads' HO_5.out).2.2 a0 p128 q128
                  cases e128
                  replace p128 := eq_true p128
                  replace q128 := eq_true q128
                  go_wp2
                  repeat (go_quiet (fail); try go_wp2)
                  go_ret
                  exact ⟨by first | rfl | (simp [errW_none, errW_some] <;> rfl) | (simp [*, errW_none, errW_some] <;> rfl), by repeat (first | (with_reducible first | exact HB.out | apply below_alloc | apply pw_below_drewN | apply below_drew1) | exact HB.out)⟩
                · rw [if_neg c24] at H
                  exact absurd H (by simp)
              · rw [if_neg c23] at H
                exact absurd H (by simp)

end Go.Proofs.YtnaaomhmoamfpaaDoor.Q
namespace Go.Proofs.YtnaaomhmoamfpaaDoor.G
end Go.Proofs.YtnaaomhmoamfpaaDoor.G
namespace Go.Proofs.YtnaaomhmoamfpaaDoor.Q
set_option linter.unusedVariables false
set_option linter.unusedSimpArgs false
set_option linter.unusedSectionVars false
open Go.Proofs.YtnaaomhmoamfpaaDoor.G
open Go.RowKit Go.Proofs.YtnaaomhmoamfpaaDoorW.PrintWords Go.Proofs.YtnaaomhmoamfpaaDoorW.PrintLast Go.Proofs.YtnaaomhmoamfpaaDoorW.PrintMore
attribute [local go_sem] max2_int min2_int max_two min_two max_three min_three max_four min_four   -- for this text's walks alone

/-! ### bibelotlaw03_HanoiFrames: function 4 -/
mutual
def bibelotlaw03_HanoiFrames.l0 : Nat → Int → Int → Int → Option (Bool)
  | 0, _, _, _ => none
  | k + 1, x0, x1, x5 => if x5 < 2 then ((hanoi_Frame.f x0 x1).bind fun bt138 => (if x0 < 0 then (bibelotlaw03_HanoiFrames.j1 k x0 x1 x5 bt138.1 bt138.2 true) else (if x0 > 40 then (bibelotlaw03_HanoiFrames.j1 k x0 x1 x5 bt138.1 bt138.2 true) else (if x1 < 3 then (bibelotlaw03_HanoiFrames.j1 k x0 x1 x5 bt138.1 bt138.2 true) else (bibelotlaw03_HanoiFrames.j1 k x0 x1 x5 bt138.1 bt138.2 (decide (x1 > 8))))))) else ((bibelotlaw03_awake.f k).bind fun t137 => (some t137))
def bibelotlaw03_HanoiFrames.j1 : Nat → Int → Int → Int → Int → Int → Bool → Option (Bool)
  | 0, _, _, _, _, _, _ => none
  | k + 1, x0, x1, x5, x6, x7, x31 => if x31 = true then (if x7 = 1 then (if x6 = 0 then (bibelotlaw03_HanoiFrames.l0 k (wrap64 (Int.tmod (IntKind.u64.wrap (x0)) 41)) (wrap64 (3 + (wrap64 (Int.tmod (IntKind.u64.wrap (x1)) 6)))) (wrap64 (x5 + 1))) else (some false)) else (some false)) else (if x7 = 0 then ((bibelotref03_Frame.f k x0 x1).bind fun t140 => (if x6 = t140 then (bibelotlaw03_HanoiFrames.l0 k (wrap64 (Int.tmod (IntKind.u64.wrap (x0)) 41)) (wrap64 (3 + (wrap64 (Int.tmod (IntKind.u64.wrap (x1)) 6)))) (wrap64 (x5 + 1))) else (some false))) else (some false))
end
def bibelotlaw03_HanoiFrames.f (k : Nat) (a0 : Int) (a1 : Int) : Option (Bool) := bibelotlaw03_HanoiFrames.l0 k a0 a1 0
theorem bibelotlaw03_HanoiFrames.mono_l : ∀ k, (∀ y0 y1 y2, LeO (bibelotlaw03_HanoiFrames.l0 k y0 y1 y2) (bibelotlaw03_HanoiFrames.l0 (k + 1) y0 y1 y2)) ∧ (∀ y0 y1 y2 y3 y4 y5, LeO (bibelotlaw03_HanoiFrames.j1 k y0 y1 y2 y3 y4 y5) (bibelotlaw03_HanoiFrames.j1 (k + 1) y0 y1 y2 y3 y4 y5))
  | 0 => ⟨fun _ _ _ r h => by simp [bibelotlaw03_HanoiFrames.l0] at h, fun _ _ _ _ _ _ r h => by simp [bibelotlaw03_HanoiFrames.j1] at h⟩
  | k + 1 => by
    obtain ⟨ih0, ih1⟩ := bibelotlaw03_HanoiFrames.mono_l k
    refine ⟨?_, ?_⟩
    · intro y0 y1 y2
      unfold bibelotlaw03_HanoiFrames.l0
      repeat' first
      | (with_reducible exact ih0 _ _ _)
      | (with_reducible exact ih1 _ _ _ _ _ _)
      | (with_reducible exact bibelotlaw03_awake.mono _)
      | (with_reducible exact bibelotref03_Frame.mono _ _ _)
      | (with_reducible exact LeO.refl _)
      | (with_reducible exact LeO.none _)
      | (with_reducible refine LeO.ite ?_ ?_)
      | (with_reducible refine LeO.bind ?_ (fun _ => ?_))
      | exact ih0 _ _ _
      | exact ih1 _ _ _ _ _ _
      | exact bibelotlaw03_awake.mono _
      | exact bibelotref03_Frame.mono _ _ _
      | exact LeO.none _
      | refine LeO.ite ?_ ?_
      | refine LeO.bind ?_ (fun _ => ?_)
    · intro y0 y1 y2 y3 y4 y5
      unfold bibelotlaw03_HanoiFrames.j1
      repeat' first
      | (with_reducible exact ih0 _ _ _)
      | (with_reducible exact ih1 _ _ _ _ _ _)
      | (with_reducible exact bibelotlaw03_awake.mono _)
      | (with_reducible exact bibelotref03_Frame.mono _ _ _)
      | (with_reducible exact LeO.refl _)
      | (with_reducible exact LeO.none _)
      | (with_reducible refine LeO.ite ?_ ?_)
      | (with_reducible refine LeO.bind ?_ (fun _ => ?_))
      | exact ih0 _ _ _
      | exact ih1 _ _ _ _ _ _
      | exact bibelotlaw03_awake.mono _
      | exact bibelotref03_Frame.mono _ _ _
      | exact LeO.none _
      | refine LeO.ite ?_ ?_
      | refine LeO.bind ?_ (fun _ => ?_)
theorem bibelotlaw03_HanoiFrames.mono : ∀ a0 a1 k, LeO (bibelotlaw03_HanoiFrames.f k a0 a1) (bibelotlaw03_HanoiFrames.f (k + 1) a0 a1) := by
  intro a0 a1 k
  obtain ⟨ih0, ih1⟩ := bibelotlaw03_HanoiFrames.mono_l k
  unfold bibelotlaw03_HanoiFrames.f
  repeat' first
      | (with_reducible exact ih0 _ _ _)
      | (with_reducible exact ih1 _ _ _ _ _ _)
      | (with_reducible exact bibelotlaw03_awake.mono _)
      | (with_reducible exact bibelotref03_Frame.mono _ _ _)
      | (with_reducible exact LeO.refl _)
      | (with_reducible exact LeO.none _)
      | (with_reducible refine LeO.ite ?_ ?_)
      | (with_reducible refine LeO.bind ?_ (fun _ => ?_))
      | exact ih0 _ _ _
      | exact ih1 _ _ _ _ _ _
      | exact bibelotlaw03_awake.mono _
      | exact bibelotref03_Frame.mono _ _ _
      | exact LeO.none _
      | refine LeO.ite ?_ ?_
      | refine LeO.bind ?_ (fun _ => ?_)
set_option maxHeartbeats 8000000 in
set_option maxRecDepth 100000 in
theorem bibelotlaw03_HanoiFrames.calls (k : Nat) (a0 : Int) (a1 : Int) (r : Bool) (w : World) (h : bibelotlaw03_HanoiFrames.f k a0 a1 = some r) :
    Calls Tryd.prog 4 #[.int .i64 a0, .int .i64 a1] w fun e w' => e = .returned (.bool r) ∧ Below w.heap.size w w' := by
  have HB := Aside0.mk (Below.refl w.heap.size w)
  have H : (bibelotlaw03_HanoiFrames.l0 k a0 a1 0) = some r := h
  clear h
  have H' := Aside0.mk H
  clear H
  go_enter Tryd.func4, Tryd.ntmps4
  go_wp2
  go_loopg [0, 1, 5] k (fun kq v0 v1 v5 w' => ∃ (x0_1 : Int) (x1_1 : Int) (x5_1 : Int), v0 = .int .i64 x0_1 ∧ v1 = .int .i64 x1_1 ∧ v5 = .int .i64 x5_1 ∧ Aside0 (bibelotlaw03_HanoiFrames.l0 kq x0_1 x1_1 x5_1 = some r) ∧ Aside0 (kq ≤ k) ∧ Aside0 (Below w.heap.size w w'))
  case atStart => exact ⟨(a0), (a1), (0), (by first | rfl | (simp; done) | (simp [*]; done)), (by first | rfl | (simp; done) | (simp [*]; done)), (by first | rfl | (simp; done) | (simp [*]; done)), H', ⟨Nat.le_refl _⟩, ⟨by repeat (first | (with_reducible first | exact HB.out | apply below_alloc | apply pw_below_drewN | apply below_drew1) | exact HB.out)⟩⟩
  case round =>
    clear H'
    try clear p2
    obtain ⟨x0_1, x1_1, x5_1, rfl, rfl, rfl, HA, HK1, HB⟩ := hrel
    cases gk with
    | zero => exact absurd HA.out (by simp [bibelotlaw03_HanoiFrames.l0])
    | succ k1 =>
      have H := HA.out
      clear HA
      simp only [bibelotlaw03_HanoiFrames.l0] at H
      by_cases c3 : x5_1 < 2
      · rw [if_pos c3] at H
        have c3b0 : decide (x5_1 < 2) = true := decide_eq_true c3
        clear c3
        replace H := Option.bind_eq_some_iff.mp H
        obtain ⟨⟨t138, t139⟩, A40, H⟩ := H
        replace H : (if x0_1 < 0 then (bibelotlaw03_HanoiFrames.j1 k1 x0_1 x1_1 x5_1 t138 t139 true) else (if x0_1 > 40 then (bibelotlaw03_HanoiFrames.j1 k1 x0_1 x1_1 x5_1 t138 t139 true) else (if x1_1 < 3 then (bibelotlaw03_HanoiFrames.j1 k1 x0_1 x1_1 x5_1 t138 t139 true) else (bibelotlaw03_HanoiFrames.j1 k1 x0_1 x1_1 x5_1 t138 t139 (decide (x1_1 > 8)))))) = some r := H
        have A4 := Aside0.mk A40
        clear A40
        have HC5 := Aside0.mk H
        clear H
        go_upto_region 5 with (first | ((with_reducible refine gate_callee (f := 27) rfl ?_); refine goesL_ (some 15) rfl rfl Tryd.func27 (by kernel_rfl) rfl #[.int .i64 x0_1, .int .i64 x1_1] rfl (by (try simp only [List.map_toArray, List.map_cons, List.map_nil]); first | done | rfl | (simp only [List.length_drop, List.length_take]; rfl)) ?_; (with_reducible refine (hanoi_Frame.calls x0_1 x1_1 t138 t139 _ A4.out).mono ?_); rintro e w6 ⟨rfl, hb⟩; refine ⟨_, rfl, ?_⟩; have n0_ := Aside0.mk (below_step (by repeat (first | (with_reducible first | exact HB.out | apply below_alloc | apply pw_below_drewN | apply below_drew1) | exact HB.out)) hb); clear HB; have HB := n0_; clear n0_; (try clear hb); (try clear hb2); (try clear hk); (try clear hi)))
        (try simp only [Act.put, List.setIfInBounds_toArray, List.set_cons_zero, List.set_cons_succ])
        go_cut [31] (fun v31 wc => ∃ (kq : Nat) (x31_4 : Bool), v31 = .bool x31_4 ∧ Aside0 (bibelotlaw03_HanoiFrames.j1 kq x0_1 x1_1 x5_1 t138 t139 x31_4 = some r) ∧ Aside0 (kq ≤ k1) ∧ Aside0 (Below w.heap.size w wc))
        case first =>
          have H := HC5.out
          clear HC5
          by_cases c7 : x0_1 < 0
          · rw [if_pos c7] at H
            have c7b0 : decide (x0_1 < 0) = true := decide_eq_true c7
            clear c7
            (first | rw [c7b0] | (simp only [i64_w, i32_w]; rw [c7b0]) | skip)
            have H' := Aside0.mk H
            clear H
            go_wp2
            go_meet
            case rel => exact ⟨_, (true), (by first | rfl | (simp; done) | (simp [*]; done)), H', ⟨by have := HK1.out; first | omega | exact Nat.le_refl _⟩, ⟨by repeat (first | (with_reducible first | exact HB.out | apply below_alloc | apply pw_below_drewN | apply below_drew1) | exact HB.out)⟩⟩
          · rw [if_neg c7] at H
            have c7b0 : decide (x0_1 < 0) = false := decide_eq_false c7
            clear c7
            (first | rw [c7b0] | (simp only [i64_w, i32_w]; rw [c7b0]) | skip)
            by_cases c8 : x0_1 > 40
            · rw [if_pos c8] at H
              have c8b0 : decide (40 < x0_1) = true := decide_eq_true c8
              clear c8
              have H' := Aside0.mk H
              clear H
              go_wp2
              go_meet
              case rel => exact ⟨_, (true), (by first | rfl | (simp; done) | (simp [*]; done)), H', ⟨by have := HK1.out; first | omega | exact Nat.le_refl _⟩, ⟨by repeat (first | (with_reducible first | exact HB.out | apply below_alloc | apply pw_below_drewN | apply below_drew1) | exact HB.out)⟩⟩
            · rw [if_neg c8] at H
              have c8b0 : decide (40 < x0_1) = false := decide_eq_false c8
              clear c8
              by_cases c9 : x1_1 < 3
              · rw [if_pos c9] at H
                have c9b0 : decide (x1_1 < 3) = true := decide_eq_true c9
                clear c9
                have H' := Aside0.mk H
                clear H
                go_wp2
                go_meet
                case rel => exact ⟨_, (true), (by first | rfl | (simp; done) | (simp [*]; done)), H', ⟨by have := HK1.out; first | omega | exact Nat.le_refl _⟩, ⟨by repeat (first | (with_reducible first | exact HB.out | apply below_alloc | apply pw_below_drewN | apply below_drew1) | exact HB.out)⟩⟩
              · rw [if_neg c9] at H
                have c9b0 : decide (x1_1 < 3) = false := decide_eq_false c9
                clear c9
                have H' := Aside0.mk H
                clear H
                go_wp2
                go_meet
                case rel => exact ⟨_, (decide (x1_1 > 8)), (by first | rfl | (simp; done) | (simp [*]; done)), H', ⟨by have := HK1.out; first | omega | exact Nat.le_refl _⟩, ⟨by repeat (first | (with_reducible first | exact HB.out | apply below_alloc | apply pw_below_drewN | apply below_drew1) | exact HB.out)⟩⟩
        case rest =>
          clear HC5
          try clear c2
          try clear p2
          try clear c3
          try clear c3b0
          try clear c4
          try clear c7
          try clear c7b0
          try clear c8
          try clear c8b0
          try clear c9
          try clear c9b0
          try clear p2
          obtain ⟨kq, x31_4, rfl, HA, HJ4, HB⟩ := hcut
          cases kq with
          | zero => exact absurd HA.out (by simp [bibelotlaw03_HanoiFrames.j1])
          | succ kj4 =>
            have H := HA.out
            clear HA
            simp only [bibelotlaw03_HanoiFrames.j1] at H
            by_cases c10 : x31_4 = true
            · subst c10
              have H1 : (if t139 = 1 then (if t138 = 0 then (bibelotlaw03_HanoiFrames.l0 kj4 (wrap64 (Int.tmod (IntKind.u64.wrap (x0_1)) 41)) (wrap64 (3 + (wrap64 (Int.tmod (IntKind.u64.wrap (x1_1)) 6)))) (wrap64 (x5_1 + 1))) else (some false)) else (some false)) = some r := by rw [if_pos rfl] at H; exact H
              clear H
              have H := H1
              clear H1
              by_cases c11 : t139 = 1
              · rw [if_pos c11] at H
                have c11b0 : (t139 == 1) = true := beq_iff_eq.mpr c11
                have c11b1 : (t139 != 1) = false := bne_eq_false_iff_eq.mpr c11
                clear c11
                by_cases c12 : t138 = 0
                · rw [if_pos c12] at H
                  have c12b0 : (t138 == 0) = true := beq_iff_eq.mpr c12
                  have c12b1 : (t138 != 0) = false := bne_eq_false_iff_eq.mpr c12
                  clear c12
                  have H' := Aside0.mk H
                  clear H
                  go_wp2
                  go_roundg kj4
                  case measure => have := HK1.out; have := HJ4.out; omega
                  case rel => exact ⟨(wrap64 (Int.tmod (IntKind.u64.wrap (x0_1)) 41)), (wrap64 (3 + (wrap64 (Int.tmod (IntKind.u64.wrap (x1_1)) 6)))), (wrap64 (x5_1 + 1)), (by first | rfl | (simp; done) | (simp [*]; done)), (by first | rfl | (simp; done) | (simp [*]; done)), (by first | rfl | (simp; done) | (simp [*]; done)), H', ⟨by have := HK1.out; have := HJ4.out; omega⟩, ⟨by repeat (first | (with_reducible first | exact HB.out | apply below_alloc | apply pw_below_drewN | apply below_drew1) | exact HB.out)⟩⟩
                · rw [if_neg c12] at H
                  have c12b0 : (t138 == 0) = false := beq_eq_false_iff_ne.mpr c12
                  have c12b1 : (t138 != 0) = true := bne_iff_ne.mpr c12
                  obtain rfl := Option.some.inj H
                  go_wp2
                  go_ret
                  exact ⟨by first | rfl | (simp [errW_none, errW_some] <;> rfl) | (simp [*, errW_none, errW_some] <;> rfl), by repeat (first | (with_reducible first | exact HB.out | apply below_alloc | apply pw_below_drewN | apply below_drew1) | exact HB.out)⟩
              · rw [if_neg c11] at H
                have c11b0 : (t139 == 1) = false := beq_eq_false_iff_ne.mpr c11
                have c11b1 : (t139 != 1) = true := bne_iff_ne.mpr c11
                obtain rfl := Option.some.inj H
                go_wp2
                go_ret
                exact ⟨by first | rfl | (simp [errW_none, errW_some] <;> rfl) | (simp [*, errW_none, errW_some] <;> rfl), by repeat (first | (with_reducible first | exact HB.out | apply below_alloc | apply pw_below_drewN | apply below_drew1) | exact HB.out)⟩
            · replace c10 := Bool.eq_false_iff.mpr c10
              subst c10
              have H1 : (if t139 = 0 then ((bibelotref03_Frame.f kj4 x0_1 x1_1).bind fun t140 => (if t138 = t140 then (bibelotlaw03_HanoiFrames.l0 kj4 (wrap64 (Int.tmod (IntKind.u64.wrap (x0_1)) 41)) (wrap64 (3 + (wrap64 (Int.tmod (IntKind.u64.wrap (x1_1)) 6)))) (wrap64 (x5_1 + 1))) else (some false))) else (some false)) = some r := by rw [if_neg (show ¬ (false = true) by decide)] at H; exact H
              clear H
              have H := H1
              clear H1
              by_cases c13 : t139 = 0
              · rw [if_pos c13] at H
                have c13b0 : (t139 == 0) = true := beq_iff_eq.mpr c13
                have c13b1 : (t139 != 0) = false := bne_eq_false_iff_eq.mpr c13
                clear c13
                replace H := Option.bind_eq_some_iff.mp H
                obtain ⟨t140, A140, H⟩ := H
                replace H : (if t138 = t140 then (bibelotlaw03_HanoiFrames.l0 kj4 (wrap64 (Int.tmod (IntKind.u64.wrap (x0_1)) 41)) (wrap64 (3 + (wrap64 (Int.tmod (IntKind.u64.wrap (x1_1)) 6)))) (wrap64 (x5_1 + 1))) else (some false)) = some r := H
                have A14 := Aside0.mk A140
                clear A140
                by_cases c15 : t138 = t140
                · rw [if_pos c15] at H
                  have c15b0 : (t138 == t140) = true := beq_iff_eq.mpr c15
                  have c15b1 : (t138 != t140) = false := bne_eq_false_iff_eq.mpr c15
                  clear c15
                  have H' := Aside0.mk H
                  clear H
                  go_wp2_with (first | (go_at_call 28; (with_reducible refine (bibelotref03_Frame.calls kj4 x0_1 x1_1 t140 _ A14.out).mono ?_); rintro e w16 ⟨rfl, hb⟩; have n0_ := Aside0.mk (below_step (by repeat (first | (with_reducible first | exact HB.out | apply below_alloc | apply pw_below_drewN | apply below_drew1) | exact HB.out)) hb); clear HB; have HB := n0_; clear n0_; (try clear hb); (try clear hb2); (try clear hk); (try clear hi)))
                  go_roundg kj4
                  case measure => have := HK1.out; have := HJ4.out; omega
                  case rel => exact ⟨(wrap64 (Int.tmod (IntKind.u64.wrap (x0_1)) 41)), (wrap64 (3 + (wrap64 (Int.tmod (IntKind.u64.wrap (x1_1)) 6)))), (wrap64 (x5_1 + 1)), (by first | rfl | (simp; done) | (simp [*]; done)), (by first | rfl | (simp; done) | (simp [*]; done)), (by first | rfl | (simp; done) | (simp [*]; done)), H', ⟨by have := HK1.out; have := HJ4.out; omega⟩, ⟨by repeat (first | (with_reducible first | exact HB.out | apply below_alloc | apply pw_below_drewN | apply below_drew1) | exact HB.out)⟩⟩
                · rw [if_neg c15] at H
                  have c15b0 : (t138 == t140) = false := beq_eq_false_iff_ne.mpr c15
                  have c15b1 : (t138 != t140) = true := bne_iff_ne.mpr c15
                  obtain rfl := Option.some.inj H
                  go_wp2_with (first | (go_at_call 28; (with_reducible refine (bibelotref03_Frame.calls kj4 x0_1 x1_1 t140 _ A14.out).mono ?_); rintro e w17 ⟨rfl, hb⟩; have n0_ := Aside0.mk (below_step (by repeat (first | (with_reducible first | exact HB.out | apply below_alloc | apply pw_below_drewN | apply below_drew1) | exact HB.out)) hb); clear HB; have HB := n0_; clear n0_; (try clear hb); (try clear hb2); (try clear hk); (try clear hi)))
                  go_ret
                  exact ⟨by first | rfl | (simp [errW_none, errW_some] <;> rfl) | (simp [*, errW_none, errW_some] <;> rfl), by repeat (first | (with_reducible first | exact HB.out | apply below_alloc | apply pw_below_drewN | apply below_drew1) | exact HB.out)⟩
              · rw [if_neg c13] at H
                have c13b0 : (t139 == 0) = false := beq_eq_false_iff_ne.mpr c13
                have c13b1 : (t139 != 0) = true := bne_iff_ne.mpr c13
                obtain rfl := Option.some.inj H
                go_wp2
                go_ret
                exact ⟨by first | rfl | (simp [errW_none, errW_some] <;> rfl) | (simp [*, errW_none, errW_some] <;> rfl), by repeat (first | (with_reducible first | exact HB.out | apply below_alloc | apply pw_below_drewN | apply below_drew1) | exact HB.out)⟩
      · rw [if_neg c3] at H
        have c3b0 : decide (x5_1 < 2) = false := decide_eq_false c3
        clear c3
        replace H := Option.bind_eq_some_iff.mp H
        obtain ⟨t137, A180, H⟩ := H
        replace H : (some t137) = some r := H
        have A18 := Aside0.mk A180
        clear A180
        obtain rfl := Option.some.inj H
        go_wp2_with (first | ((with_reducible refine gate_callee (f := 26) rfl ?_); refine goesL_ (some 56) rfl rfl Tryd.func26 (by kernel_rfl) rfl #[] rfl (by (try simp only [List.map_toArray, List.map_cons, List.map_nil]); first | done | rfl | (simp only [List.length_drop, List.length_take]; rfl)) ?_; (with_reducible refine (bibelotlaw03_awake.calls k1  t137 _ A18.out).mono ?_); rintro e w19 ⟨rfl, hb⟩; refine ⟨_, rfl, ?_⟩; have n0_ := Aside0.mk (below_step (by repeat (first | (with_reducible first | exact HB.out | apply below_alloc | apply pw_below_drewN | apply below_drew1) | exact HB.out)) hb); clear HB; have HB := n0_; clear n0_; (try clear hb); (try clear hb2); (try clear hk); (try clear hi)))
        go_ret
        exact ⟨by first | rfl | (simp [errW_none, errW_some] <;> rfl) | (simp [*, errW_none, errW_some] <;> rfl), by repeat (first | (with_reducible first | exact HB.out | apply below_alloc | apply pw_below_drewN | apply below_drew1) | exact HB.out)⟩

/-- THE ONE PURE STATEMENT of bibelotlaw03_HanoiFrames: yours. -/
def bibelotlaw03_HanoiFrames.Pure : Prop := ∀ (a0 : Int) (a1 : Int), (Lit.int .i64 a0).wf = true → (Lit.int .i64 a1).wf = true → ∃ k, bibelotlaw03_HanoiFrames.f k a0 a1 = some true
theorem bibelotlaw03_HanoiFrames.walk (P : bibelotlaw03_HanoiFrames.Pure) (a0 : Int) (a1 : Int) (w : World) (w0 : (Lit.int .i64 a0).wf = true) (w1 : (Lit.int .i64 a1).wf = true) :
    Calls Tryd.prog 4 #[.int .i64 a0, .int .i64 a1] w fun e w' => e = .returned (.bool true) ∧ Below w.heap.size w w' := by
  obtain ⟨k, h⟩ := P a0 a1 w0 w1
  refine (bibelotlaw03_HanoiFrames.calls k a0 a1 true w h).mono ?_
  rintro e w' ⟨rfl, hd⟩
  exact ⟨rfl, hd⟩

end Go.Proofs.YtnaaomhmoamfpaaDoor.Q
/- HanoiFrames: Frame's number for any discs and pegs, or ErrArg. -/
namespace Go.Proofs.YtnaaomhmoamfpaaDoor.Pure
set_option linter.unusedVariables false
set_option linter.unusedSimpArgs false
set_option linter.unusedSectionVars false
open Go.Proofs.YtnaaomhmoamfpaaDoor.G Go.Proofs.YtnaaomhmoamfpaaDoor.Hn
open Go.RowKit Go.Proofs.YtnaaomhmoamfpaaDoor.Q Go.Proofs.YtnaaomhmoamfpaaDoorW.PrintWords Go.Proofs.YtnaaomhmoamfpaaDoorW.PrintLast Go.Proofs.YtnaaomhmoamfpaaDoorW.PrintMore

/-- The first numbers of a row. -/
def tbl (m n : Nat) : List Int := (List.range n).map (fr m)
theorem tbl_len (m n : Nat) : (tbl m n).length = n := by simp [tbl]
theorem tbl_rd (m n j : Nat) (h : j < n) : rd (tbl m n) (j : Int) = fr m j := by rw [rd_nth]; simp [nth, tbl, h]
theorem tbl_succ (m n : Nat) : tbl m n ++ [fr m n] = tbl m (n + 1) := by simp [tbl, List.range_succ]
theorem tbl_two (m : Nat) : tbl m 2 = [0, 1] := by simp [tbl, List.range_succ, fr_zero, fr_one]
theorem fr_40 (m d : Nat) (hd : d ≤ 40) : 0 ≤ fr m d ∧ fr m d ≤ 1099511627776 := by
  have h := fr_bound m d
  have := pow_le hd
  have := p40
  omega
def bst (m d i : Nat) : Int := if i = 1 then 1152921504606846976 else (bl (fx m d) (i - 1)).1
theorem bst_step (m d i : Nat) (h1 : 1 ≤ i) (hid : i ≤ d) (hd : d ≤ 40) : mn (bst m d i) (fx m d i) = bst m d (i + 1) := by
  have a := fr_40 (m + 1) i (by omega)
  have b := fr_40 m (d - i) (by omega)
  have hf : fx m d i = 2 * fr (m + 1) i + fr m (d - i) := rfl
  unfold bst mn
  rw [if_neg (show ¬ i + 1 = 1 by omega), Nat.add_sub_cancel]
  by_cases e : i = 1
  · subst e
    rw [if_pos rfl, if_pos (by omega)]
    simp [bl]
  · rw [if_neg e]
    obtain ⟨j, rfl⟩ : ∃ j, i = j + 1 := ⟨i - 1, by omega⟩
    rw [Nat.add_sub_cancel]
    conv => rhs; unfold bl
    by_cases h : fx m d (j + 1) < (bl (fx m d) j).1
    · rw [if_pos h, if_pos (.inr h)]
    · rw [if_neg h, if_neg (by omega)]

section
variable (n P : Nat) (hn : n ≤ 40) (hP3 : 3 ≤ P) (hP8 : P ≤ 8)
include hn hP3 hP8
theorem frm_l3 (m d R : Nat) (hm : m ≤ 8) (hd2 : 2 ≤ d) (hd : d ≤ n) (hR : n < R) (r : Int) (hc : Ev (fun k => bibelotref03_Frame.l2 k (n : Int) (P : Int) (tbl m R) ((m + 4 : Nat) : Int) (tbl (m + 1) (d + 1)) ((d + 1 : Nat) : Int)) r) :
    ∀ e i, 1 ≤ i → i + e = d → Ev (fun k => bibelotref03_Frame.l3 k (n : Int) (P : Int) (tbl m R) ((m + 4 : Nat) : Int) (tbl (m + 1) d) (d : Int) (bst m d i) (i : Int)) r
  | 0, i, h1, h => by
    obtain rfl : i = d := by omega
    refine Ev.step (fun k => ?_) hc
    have e : bst m i i = fr (m + 1) i := by rw [bst, if_neg (by omega), fr_step m i hd2]
    rw [bibelotref03_Frame.l3, if_neg (by omega), if_pos (by rw [tbl_len]; omega), e, tbl_succ, w64 (by omega) (by omega)]
    rfl
  | e + 1, i, h1, h => by
    refine Ev.step (fun k => ?_) (frm_l3 m d R hm hd2 hd hR r hc e (i + 1) (by omega) (by omega))
    have a := fr_40 (m + 1) i (by omega)
    have b := fr_40 m (d - i) (by omega)
    have e1 : wrap64 ((d : Int) - (i : Int)) = ((d - i : Nat) : Int) := by rw [w64 (by omega) (by omega)]; omega
    rw [bibelotref03_Frame.l3, if_pos (by omega), if_pos (by omega), tbl_len, if_pos (by omega), e1, if_pos (by omega), tbl_len, if_pos (by omega), tbl_rd _ _ _ (by omega), tbl_rd _ _ _ (by omega), w64 (x := 2 * fr (m + 1) i) (by omega) (by omega),
      w64 (x := 2 * fr (m + 1) i + fr m (d - i)) (by omega) (by omega), w64 (by omega) (by omega)]
    have e2 : mn (bst m d i) (2 * fr (m + 1) i + fr m (d - i)) = bst m d (i + 1) := bst_step m d i h1 (by omega) (by omega)
    rw [e2]
    rfl
theorem frm_l2 (m R : Nat) (hm : m ≤ 8) (hR : n < R) (r : Int) (hc : ∀ R', n < R' → R' ≤ 42 → Ev (fun k => bibelotref03_Frame.l1 k (n : Int) (P : Int) (tbl (m + 1) R') ((m + 5 : Nat) : Int)) r) :
    ∀ e j, 2 ≤ j → j ≤ 42 → (e = 0 → n < j) → (0 < e → j + e = n + 1) → Ev (fun k => bibelotref03_Frame.l2 k (n : Int) (P : Int) (tbl m R) ((m + 4 : Nat) : Int) (tbl (m + 1) j) (j : Int)) r
  | 0, j, h1, h2, h3, h4 => by
    refine Ev.step (fun k => ?_) (hc j (h3 rfl) h2)
    have := h3 rfl
    rw [bibelotref03_Frame.l2, if_neg (by omega), w64 (by omega) (by omega)]
    rfl
  | e + 1, j, h1, h2, h3, h4 => by
    have := h4 (by omega)
    refine Ev.step (fun k => ?_) (frm_l3 n P hn hP3 hP8 m j R hm h1 (by omega) hR r (frm_l2 m R hm hR r hc e (j + 1) (by omega) (by omega) (fun _ => by omega) (fun _ => by omega)) (j - 1) 1 (Nat.le_refl _) (by omega))
    rw [bibelotref03_Frame.l2, if_pos (by omega)]
    rfl
theorem frm_l1 : ∀ e m R, m + e + 3 = P → n < R → R ≤ 42 → Ev (fun k => bibelotref03_Frame.l1 k (n : Int) (P : Int) (tbl m R) ((m + 4 : Nat) : Int)) (fr (P - 3) n)
  | 0, m, R, h, h1, h2 => by
    refine Ev.step (fun k => ?_) (Ev.now _)
    have e : P - 3 = m := by omega
    rw [bibelotref03_Frame.l1, if_neg (by omega), if_pos (by omega), tbl_len, if_pos (by omega), tbl_rd _ _ _ h1, e]
  | e + 1, m, R, h, h1, h2 => by
    refine Ev.step (fun k => ?_) (frm_l2 n P hn hP3 hP8 m R (by omega) h1 _ (fun R' g1 g2 => frm_l1 e (m + 1) R' (by omega) g1 g2) (n + 1 - 2) 2 (Nat.le_refl _) (by omega) (fun _ => by omega) (fun _ => by omega))
    rw [bibelotref03_Frame.l1, if_pos (by omega), tbl_two]
    rfl
theorem frm_l0 : ∀ e i, i + e = n + 1 → Ev (fun k => bibelotref03_Frame.l0 k (n : Int) (P : Int) (tbl 0 i) (i : Int)) (fr (P - 3) n)
  | 0, i, h => by
    obtain rfl : i = n + 1 := by omega
    refine Ev.step (fun k => ?_) (frm_l1 n P hn hP3 hP8 (P - 3) 0 (n + 1) (by omega) (by omega) (by omega))
    rw [bibelotref03_Frame.l0, if_neg (by omega)]
    rfl
  | e + 1, i, h => by
    refine Ev.step (fun k => ?_) (frm_l0 e (i + 1) (by omega))
    have hp := pow_pos' i
    have hp2 := pow_le (show i ≤ 40 by omega)
    have hp3 := p40
    have e1 : (2 : Int) ^ i - 1 = fr 0 i := rfl
    rw [bibelotref03_Frame.l0, if_pos (by omega), if_pos (by omega), if_pos (by rw [tbl_len]; omega), shl1 i (by omega), w64 (x := 2 ^ i - 1) (by omega) (by omega), e1, tbl_succ, w64 (by omega) (by omega)]
    rfl
theorem frame_ev : Ev (fun k => bibelotref03_Frame.f k (n : Int) (P : Int)) (fr (P - 3) n) := frm_l0 n P hn hP3 hP8 (n + 1) 0 (by omega)
end

theorem frm_round (x0 x1 x5 : Int) (hx : x5 = 0 ∨ x5 = 1) (h : Ev (fun k => bibelotlaw03_HanoiFrames.l0 k (umod x0 41) (3 + umod x1 6) (x5 + 1)) true) : Ev (fun k => bibelotlaw03_HanoiFrames.l0 k x0 x1 x5) true := by
  have hw : wrap64 (x5 + 1) = x5 + 1 := w64 (by omega) (by omega)
  have b0 := umod_bd x0 41 (by omega)
  have b1 := umod_bd x1 6 (by omega)
  have w0 : wrap64 (Int.tmod (IntKind.u64.wrap x0) 41) = umod x0 41 := by rw [utmod, w64 (by omega) (by omega)]
  have w1 : wrap64 (3 + wrap64 (Int.tmod (IntKind.u64.wrap x1) 6)) = 3 + umod x1 6 := by rw [utmod, w64 (x := umod x1 6) (by omega) (by omega), w64 (by omega) (by omega)]
  by_cases ha : asked x0 x1 = true
  · obtain ⟨h1, h2, h3, h4⟩ := (asked_iff x0 x1).1 ha
    obtain ⟨n, rfl⟩ := Int.eq_ofNat_of_zero_le h1
    obtain ⟨P, rfl⟩ := Int.eq_ofNat_of_zero_le (show 0 ≤ x1 by omega)
    have hF : hanoi_Frame.f (n : Int) (P : Int) = some (fr (P - 3) n, 0) := by unfold hanoi_Frame.f; rw [if_pos ha]; rfl
    refine Ev.step (f := fun k => bibelotlaw03_HanoiFrames.j1 k (n : Int) (P : Int) x5 (fr (P - 3) n) 0 false) (fun k => ?_) ?_
    · rw [bibelotlaw03_HanoiFrames.l0, if_pos (by omega), hF, Option.bind_some, if_neg (by omega), if_neg (by omega), if_neg (by omega), decide_eq_false (show ¬ (P : Int) > 8 by omega)]
    · refine Ev.step (f := fun k => (bibelotref03_Frame.f k (n : Int) (P : Int)).bind fun t => if fr (P - 3) n = t then bibelotlaw03_HanoiFrames.l0 k (umod (n : Int) 41) (3 + umod (P : Int) 6) (x5 + 1) else some false) (fun k => ?_)
        (Ev.bind (frame_ev n P (by omega) (by omega) (by omega)) (by simp only [if_true]; exact h))
      rw [bibelotlaw03_HanoiFrames.j1, if_neg (by simp), if_pos rfl]
      simp only [w0, w1, hw]
  · have hF : hanoi_Frame.f x0 x1 = some (0, 1) := by unfold hanoi_Frame.f; rw [if_neg ha]
    have ha2 : ¬ (0 ≤ x0 ∧ x0 ≤ 40 ∧ 3 ≤ x1 ∧ x1 ≤ 8) := fun hh => ha ((asked_iff x0 x1).2 hh)
    refine Ev.step (f := fun k => bibelotlaw03_HanoiFrames.j1 k x0 x1 x5 0 1 true) (fun k => ?_) (Ev.step (fun k => ?_) h)
    · rw [bibelotlaw03_HanoiFrames.l0, if_pos (by omega), hF, Option.bind_some]
      by_cases h1 : x0 < 0
      · rw [if_pos h1]
      · rw [if_neg h1]
        by_cases h2 : x0 > 40
        · rw [if_pos h2]
        · rw [if_neg h2]
          by_cases h3 : x1 < 3
          · rw [if_pos h3]
          · rw [if_neg h3, decide_eq_true (show x1 > 8 by omega)]
    · rw [bibelotlaw03_HanoiFrames.j1, if_pos rfl, if_pos rfl, if_pos rfl, w0, w1, hw]

theorem HanoiFrames : bibelotlaw03_HanoiFrames.Pure := by
  intro a0 a1 _ _
  refine Ev.rounds (frm_round a0 a1 0 (.inl rfl) (frm_round _ _ 1 (.inr rfl) ?_))
  refine Ev.step (f := fun k => (bibelotlaw03_awake.f k).bind fun t => some t) (fun k => ?_) (Ev.bind awake_ev (Ev.now true))
  rw [bibelotlaw03_HanoiFrames.l0, if_neg (by omega)]
end Go.Proofs.YtnaaomhmoamfpaaDoor.Pure
