/- HanoiFrameWays: a way whose number of moves is Frame's number, or ErrArg: the walk and the plain law, for every input. -/
import Derived.Test.YtnaaomhmoamfpaaDoorA1
import Derived.Test.YtnaaomhmoamfpaaDoorA4
import Derived.Test.YtnaaomhmoamfpaaDoorA2
namespace Go.Proofs.YtnaaomhmoamfpaaDoor.G
end Go.Proofs.YtnaaomhmoamfpaaDoor.G
namespace Go.Proofs.YtnaaomhmoamfpaaDoor.Q
set_option linter.unusedVariables false
set_option linter.unusedSimpArgs false
set_option linter.unusedSectionVars false
open Go.Proofs.YtnaaomhmoamfpaaDoor.G
open Go.RowKit Go.Proofs.YtnaaomhmoamfpaaDoorW.PrintWords Go.Proofs.YtnaaomhmoamfpaaDoorW.PrintLast Go.Proofs.YtnaaomhmoamfpaaDoorW.PrintMore
attribute [local go_sem] max2_int min2_int max_two min_two max_three min_three max_four min_four   -- for this text's walks alone

/-! ### bibelotref03_Frame: function 28 -/
mutual
def bibelotref03_Frame.l0 : Nat → Int → Int → List Int → Int → Option (Int)
  | 0, _, _, _, _ => none
  | k + 1, x0, x1, x5, x6 => if x6 ≤ x0 then (if 0 ≤ x6 then (if x5.length < 17592186044416 then (bibelotref03_Frame.l0 k x0 x1 (x5 ++ [wrap64 ((shl .i64 1 x6) - 1)]) (wrap64 (x6 + 1))) else (none)) else (none)) else (bibelotref03_Frame.l1 k x0 x1 x5 4)
def bibelotref03_Frame.l1 : Nat → Int → Int → List Int → Int → Option (Int)
  | 0, _, _, _, _ => none
  | k + 1, x0, x1, x5, x7 => if x7 ≤ x1 then (bibelotref03_Frame.l2 k x0 x1 x5 x7 (([0, 1] : List Int)) 2) else (if 0 ≤ x0 then (if x0 < (x5.length : Int) then (some (rd x5 x0)) else (none)) else (none))
def bibelotref03_Frame.l2 : Nat → Int → Int → List Int → Int → List Int → Int → Option (Int)
  | 0, _, _, _, _, _, _ => none
  | k + 1, x0, x1, x5, x7, x8, x9 => if x9 ≤ x0 then (bibelotref03_Frame.l3 k x0 x1 x5 x7 x8 x9 1152921504606846976 1) else (bibelotref03_Frame.l1 k x0 x1 x8 (wrap64 (x7 + 1)))
def bibelotref03_Frame.l3 : Nat → Int → Int → List Int → Int → List Int → Int → Int → Int → Option (Int)
  | 0, _, _, _, _, _, _, _, _ => none
  | k + 1, x0, x1, x5, x7, x8, x9, x10, x11 => if x11 < x9 then (if 0 ≤ x11 then (if x11 < (x8.length : Int) then (if 0 ≤ (wrap64 (x9 - x11)) then (if (wrap64 (x9 - x11)) < (x5.length : Int) then (bibelotref03_Frame.l3 k x0 x1 x5 x7 x8 x9 (mn x10 (wrap64 ((wrap64 (2 * (rd x8 x11))) + (rd x5 (wrap64 (x9 - x11)))))) (wrap64 (x11 + 1))) else (none)) else (none)) else (none)) else (none)) else (if x8.length < 17592186044416 then (bibelotref03_Frame.l2 k x0 x1 x5 x7 (x8 ++ [x10]) (wrap64 (x9 + 1))) else (none))
end
def bibelotref03_Frame.f (k : Nat) (a0 : Int) (a1 : Int) : Option (Int) := bibelotref03_Frame.l0 k a0 a1 ([] : List Int) 0
theorem bibelotref03_Frame.mono_l : ∀ k, (∀ y0 y1 y2 y3, LeO (bibelotref03_Frame.l0 k y0 y1 y2 y3) (bibelotref03_Frame.l0 (k + 1) y0 y1 y2 y3)) ∧ (∀ y0 y1 y2 y3, LeO (bibelotref03_Frame.l1 k y0 y1 y2 y3) (bibelotref03_Frame.l1 (k + 1) y0 y1 y2 y3)) ∧ (∀ y0 y1 y2 y3 y4 y5, LeO (bibelotref03_Frame.l2 k y0 y1 y2 y3 y4 y5) (bibelotref03_Frame.l2 (k + 1) y0 y1 y2 y3 y4 y5)) ∧ (∀ y0 y1 y2 y3 y4 y5 y6 y7, LeO (bibelotref03_Frame.l3 k y0 y1 y2 y3 y4 y5 y6 y7) (bibelotref03_Frame.l3 (k + 1) y0 y1 y2 y3 y4 y5 y6 y7))
  | 0 => ⟨fun _ _ _ _ r h => by simp [bibelotref03_Frame.l0] at h, fun _ _ _ _ r h => by simp [bibelotref03_Frame.l1] at h, fun _ _ _ _ _ _ r h => by simp [bibelotref03_Frame.l2] at h, fun _ _ _ _ _ _ _ _ r h => by simp [bibelotref03_Frame.l3] at h⟩
  | k + 1 => by
    obtain ⟨ih0, ih1, ih2, ih3⟩ := bibelotref03_Frame.mono_l k
    refine ⟨?_, ?_, ?_, ?_⟩
    · intro y0 y1 y2 y3
      unfold bibelotref03_Frame.l0
      repeat' first
      | (with_reducible exact ih0 _ _ _ _)
      | (with_reducible exact ih1 _ _ _ _)
      | (with_reducible exact ih2 _ _ _ _ _ _)
      | (with_reducible exact ih3 _ _ _ _ _ _ _ _)
      | (with_reducible exact LeO.refl _)
      | (with_reducible exact LeO.none _)
      | (with_reducible refine LeO.ite ?_ ?_)
      | (with_reducible refine LeO.bind ?_ (fun _ => ?_))
      | exact ih0 _ _ _ _
      | exact ih1 _ _ _ _
      | exact ih2 _ _ _ _ _ _
      | exact ih3 _ _ _ _ _ _ _ _
      | exact LeO.none _
      | refine LeO.ite ?_ ?_
      | refine LeO.bind ?_ (fun _ => ?_)
    · intro y0 y1 y2 y3
      unfold bibelotref03_Frame.l1
      repeat' first
      | (with_reducible exact ih0 _ _ _ _)
      | (with_reducible exact ih1 _ _ _ _)
      | (with_reducible exact ih2 _ _ _ _ _ _)
      | (with_reducible exact ih3 _ _ _ _ _ _ _ _)
      | (with_reducible exact LeO.refl _)
      | (with_reducible exact LeO.none _)
      | (with_reducible refine LeO.ite ?_ ?_)
      | (with_reducible refine LeO.bind ?_ (fun _ => ?_))
      | exact ih0 _ _ _ _
      | exact ih1 _ _ _ _
      | exact ih2 _ _ _ _ _ _
      | exact ih3 _ _ _ _ _ _ _ _
      | exact LeO.none _
      | refine LeO.ite ?_ ?_
      | refine LeO.bind ?_ (fun _ => ?_)
    · intro y0 y1 y2 y3 y4 y5
      unfold bibelotref03_Frame.l2
      repeat' first
      | (with_reducible exact ih0 _ _ _ _)
      | (with_reducible exact ih1 _ _ _ _)
      | (with_reducible exact ih2 _ _ _ _ _ _)
      | (with_reducible exact ih3 _ _ _ _ _ _ _ _)
      | (with_reducible exact LeO.refl _)
      | (with_reducible exact LeO.none _)
      | (with_reducible refine LeO.ite ?_ ?_)
      | (with_reducible refine LeO.bind ?_ (fun _ => ?_))
      | exact ih0 _ _ _ _
      | exact ih1 _ _ _ _
      | exact ih2 _ _ _ _ _ _
      | exact ih3 _ _ _ _ _ _ _ _
      | exact LeO.none _
      | refine LeO.ite ?_ ?_
      | refine LeO.bind ?_ (fun _ => ?_)
    · intro y0 y1 y2 y3 y4 y5 y6 y7
      unfold bibelotref03_Frame.l3
      repeat' first
      | (with_reducible exact ih0 _ _ _ _)
      | (with_reducible exact ih1 _ _ _ _)
      | (with_reducible exact ih2 _ _ _ _ _ _)
      | (with_reducible exact ih3 _ _ _ _ _ _ _ _)
      | (with_reducible exact LeO.refl _)
      | (with_reducible exact LeO.none _)
      | (with_reducible refine LeO.ite ?_ ?_)
      | (with_reducible refine LeO.bind ?_ (fun _ => ?_))
      | exact ih0 _ _ _ _
      | exact ih1 _ _ _ _
      | exact ih2 _ _ _ _ _ _
      | exact ih3 _ _ _ _ _ _ _ _
      | exact LeO.none _
      | refine LeO.ite ?_ ?_
      | refine LeO.bind ?_ (fun _ => ?_)
theorem bibelotref03_Frame.mono : ∀ a0 a1 k, LeO (bibelotref03_Frame.f k a0 a1) (bibelotref03_Frame.f (k + 1) a0 a1) := by
  intro a0 a1 k
  obtain ⟨ih0, ih1, ih2, ih3⟩ := bibelotref03_Frame.mono_l k
  unfold bibelotref03_Frame.f
  repeat' first
      | (with_reducible exact ih0 _ _ _ _)
      | (with_reducible exact ih1 _ _ _ _)
      | (with_reducible exact ih2 _ _ _ _ _ _)
      | (with_reducible exact ih3 _ _ _ _ _ _ _ _)
      | (with_reducible exact LeO.refl _)
      | (with_reducible exact LeO.none _)
      | (with_reducible refine LeO.ite ?_ ?_)
      | (with_reducible refine LeO.bind ?_ (fun _ => ?_))
      | exact ih0 _ _ _ _
      | exact ih1 _ _ _ _
      | exact ih2 _ _ _ _ _ _
      | exact ih3 _ _ _ _ _ _ _ _
      | exact LeO.none _
      | refine LeO.ite ?_ ?_
      | refine LeO.bind ?_ (fun _ => ?_)
set_option maxHeartbeats 8000000 in
set_option maxRecDepth 100000 in
theorem bibelotref03_Frame.calls (k : Nat) (a0 : Int) (a1 : Int) (r : Int) (w : World) (h : bibelotref03_Frame.f k a0 a1 = some r) :
    Calls Tryd.prog 28 #[.int .i64 a0, .int .i64 a1] w fun e w' => e = .returned (.int .i64 r) ∧ Below w.heap.size w w' := by
  have HB := Aside0.mk (Below.refl w.heap.size w)
  have H : (bibelotref03_Frame.l0 k a0 a1 ([] : List Int) 0) = some r := h
  clear h
  have H' := Aside0.mk H
  clear H
  go_enter Tryd.func28, Tryd.ntmps28
  go_wp2
  repeat (go_quiet (fail); try go_wp2)
  go_loopg [5, 6] k (fun kq v5 v6 w' => ∃ (x5_1 : List Int) (x6_1 : Int), v6 = .int .i64 x6_1 ∧ Aside0 (bibelotref03_Frame.l0 kq a0 a1 x5_1 x6_1 = some r) ∧ Aside0 (kq ≤ k) ∧ Aside0 (Kd.R (Kd.int .i64) 2 w' w.heap.size (fun _ => True) v5 x5_1) ∧ Aside0 (Below w.heap.size w w'))
  case atStart => exact ⟨(([] : List Int)), (0), (by first | rfl | (simp; done) | (simp [*]; done)), H', ⟨Nat.le_refl _⟩, ⟨by first | exact Kd.R_nil _ _ _ _ _ | exact Kd.N_nil _ _ _ _ _ | exact Kd.V_nil _ _ _ _ _ | exact Kd.Q_nil _ _ _ _ _ | exact Kd.S_nil _ _ _ _ _⟩, ⟨by repeat (first | (with_reducible first | exact HB.out | apply below_alloc | apply pw_below_drewN | apply below_drew1) | exact HB.out)⟩⟩
  case round =>
    clear H'
    try clear c2
    try clear p2
    obtain ⟨x5_1, x6_1, rfl, HA, HK1, HO_5, HB⟩ := hrel
    cases gk with
    | zero => exact absurd HA.out (by simp [bibelotref03_Frame.l0])
    | succ k1 =>
      have H := HA.out
      clear HA
      simp only [bibelotref03_Frame.l0] at H
      by_cases c3 : x6_1 ≤ a0
      · rw [if_pos c3] at H
        have c3b0 : decide (x6_1 ≤ a0) = true := decide_eq_true c3
        clear c3
        by_cases c4 : 0 ≤ x6_1
        · rw [if_pos c4] at H
          have c4b0 := eq_true c4
          have c4b1 : decide (0 ≤ x6_1) = true := decide_eq_true c4
          clear c4
          obtain ⟨ji5, hji5⟩ : ∃ j_ : Int, (shl .i64 1 x6_1) = j_ := ⟨_, rfl⟩
          replace H : (if x5_1.length < 17592186044416 then (bibelotref03_Frame.l0 k1 a0 a1 (x5_1 ++ [wrap64 ((ji5) - 1)]) (wrap64 (x6_1 + 1))) else (none)) = some r := by first | (rw [hji5] at H; exact H) | (simp only [hji5] at H ⊢; exact H)
          have hji5_ : (IntKind.i64.wrap (1 * 2 ^ min x6_1.toNat 64)) = ji5 := hji5
          have hji5z : x6_1 ≤ 64 → (IntKind.i64.wrap (1 * 2 ^ x6_1.toNat)) = ji5 := shl_small hji5
          have hji5u : (IntKind.i64.wrap (2 ^ min x6_1.toNat 64)) = ji5 := by have h_ := hji5_; rw [Int.one_mul] at h_; exact h_
          have hji5v : x6_1 ≤ 64 → (IntKind.i64.wrap (2 ^ x6_1.toNat)) = ji5 := fun hle_ => by have h_ := hji5z hle_; rw [Int.one_mul] at h_; exact h_
          have hji5y : (wrap64 (1 * 2 ^ min x6_1.toNat 64)) = ji5 := (i64_w _).symm.trans hji5_
          have hji5x : x6_1 ≤ 64 → (wrap64 (1 * 2 ^ x6_1.toNat)) = ji5 := fun h_ => (i64_w _).symm.trans (hji5z h_)
          by_cases c6 : x5_1.length < 17592186044416
          · rw [if_pos c6] at H
            have LMc6 := Aside0.mk c6
            clear c6
            obtain ⟨y125, hy125⟩ : ∃ y_ : List Int, y_ = (x5_1 ++ [wrap64 ((ji5) - 1)]) := ⟨_, rfl⟩
            replace H : (bibelotref03_Frame.l0 k1 a0 a1 y125 (wrap64 (x6_1 + 1))) = some r := by first | (rw [hy125]; with_reducible exact H) | (have H2_ := (Option.bind_some _ _).symm.trans H; rw [hy125]; with_reducible exact H2_) | (have H2_ := (Option.bind_some _ _).symm.trans H; with_reducible exact H2_) | with_reducible exact H | (rw [hy125]; exact H) | exact H
            have Ny125 := Aside0.mk hy125
            clear hy125
            have H' := Aside0.mk H
            clear H
            go_wp2_with (first | ((with_reducible refine gate_builtin (b := .append) (xs := #[.tmp 17, .tmp 21]) rfl ?_); at_builtin; refine Kd.R_append (Kd.int .i64) (w0 := w) w.heap.size rfl (.tmp 17) (.tmp 21) 97 2 (.int .i64 0) 8 rfl Tryd.underlying97 info2 rfl (by decide) (by omega) u5 x5_1 (wrap64 ((ji5) - 1)) [.int .i64 (wrap64 ((ji5) - 1))] (fun _ => True) (fun _ => False) rfl rfl ?aP (fun _ hk => hk.elim) ?aF ?aO ?aB ?aS ?aL ?_; (case aP => exact rfl); (case aB => exact (by repeat (first | (with_reducible first | exact HB.out | apply below_alloc | apply pw_below_drewN | apply below_drew1) | exact HB.out))); (case aF => exact (fun _ _ => trivial)); (case aO => exact (by (with_reducible repeat (first | apply Kd.R_alloc | apply Kd.R_drewN | apply Kd.R_drew)); exact HO_5.out)); (case aS => exact (below_size (by repeat (first | (with_reducible first | exact HB.out | apply below_alloc | apply pw_below_drewN | apply below_drew1) | exact HB.out)))); (case aL => have := LMc6.out; omega); intro v126 w7 ho hb hg hat; rw [← Ny125.out] at ho; have n0_ := Aside0.mk (hb); have n1_ := Aside0.mk (ho); clear HB; clear HO_5; have HB := n0_; have HO127 := n1_; clear n0_ n1_; clear ho hb hg hat))
            repeat (go_quiet (first | ((with_reducible refine gate_builtin (b := .append) (xs := #[.tmp 17, .tmp 21]) rfl ?_); at_builtin; refine Kd.R_append (Kd.int .i64) (w0 := w) w.heap.size rfl (.tmp 17) (.tmp 21) 97 2 (.int .i64 0) 8 rfl Tryd.underlying97 info2 rfl (by decide) (by omega) u5 x5_1 (wrap64 ((ji5) - 1)) [.int .i64 (wrap64 ((ji5) - 1))] (fun _ => True) (fun _ => False) rfl rfl ?aP (fun _ hk => hk.elim) ?aF ?aO ?aB ?aS ?aL ?_; (case aP => exact rfl); (case aB => exact (by repeat (first | (with_reducible first | exact HB.out | apply below_alloc | apply pw_below_drewN | apply below_drew1) | exact HB.out))); (case aF => exact (fun _ _ => trivial)); (case aO => exact (by (with_reducible repeat (first | apply Kd.R_alloc | apply Kd.R_drewN | apply Kd.R_drew)); exact HO_5.out)); (case aS => exact (below_size (by repeat (first | (with_reducible first | exact HB.out | apply below_alloc | apply pw_below_drewN | apply below_drew1) | exact HB.out)))); (case aL => have := LMc6.out; omega); intro v126 w7 ho hb hg hat; rw [← Ny125.out] at ho; have n0_ := Aside0.mk (hb); have n1_ := Aside0.mk (ho); clear HB; clear HO_5; have HB := n0_; have HO127 := n1_; clear n0_ n1_; clear ho hb hg hat)); try go_wp2_with (first | ((with_reducible refine gate_builtin (b := .append) (xs := #[.tmp 17, .tmp 21]) rfl ?_); at_builtin; refine Kd.R_append (Kd.int .i64) (w0 := w) w.heap.size rfl (.tmp 17) (.tmp 21) 97 2 (.int .i64 0) 8 rfl Tryd.underlying97 info2 rfl (by decide) (by omega) u5 x5_1 (wrap64 ((ji5) - 1)) [.int .i64 (wrap64 ((ji5) - 1))] (fun _ => True) (fun _ => False) rfl rfl ?aP (fun _ hk => hk.elim) ?aF ?aO ?aB ?aS ?aL ?_; (case aP => exact rfl); (case aB => exact (by repeat (first | (with_reducible first | exact HB.out | apply below_alloc | apply pw_below_drewN | apply below_drew1) | exact HB.out))); (case aF => exact (fun _ _ => trivial)); (case aO => exact (by (with_reducible repeat (first | apply Kd.R_alloc | apply Kd.R_drewN | apply Kd.R_drew)); exact HO_5.out)); (case aS => exact (below_size (by repeat (first | (with_reducible first | exact HB.out | apply below_alloc | apply pw_below_drewN | apply below_drew1) | exact HB.out)))); (case aL => have := LMc6.out; omega); intro v126 w7 ho hb hg hat; rw [← Ny125.out] at ho; have n0_ := Aside0.mk (hb); have n1_ := Aside0.mk (ho); clear HB; clear HO_5; have HB := n0_; have HO127 := n1_; clear n0_ n1_; clear ho hb hg hat)))
            go_roundg k1
            case measure => have := HK1.out; omega
            case rel => exact ⟨(y125), (wrap64 (x6_1 + 1)), (by first | rfl | (simp; done) | (simp [*]; done)), H', ⟨by have := HK1.out; omega⟩, ⟨by (with_reducible repeat (first | apply Kd.R_alloc | apply Kd.R_drewN | apply Kd.R_drew)); exact HO127.out⟩, ⟨by repeat (first | (with_reducible first | exact HB.out | apply below_alloc | apply pw_below_drewN | apply below_drew1) | exact HB.out)⟩⟩
          · rw [if_neg c6] at H
            exact absurd H (by simp)
        · rw [if_neg c4] at H
          exact absurd H (by simp)
      · rw [if_neg c3] at H
        have c3b0 : decide (x6_1 ≤ a0) = false := decide_eq_false c3
        clear c3
        have H' := Aside0.mk H
        clear H
        go_wp2
        repeat (go_quiet (fail); try go_wp2)
        go_loopg [5, 7] k1 (fun kq v5 v7 w' => ∃ (x5_2 : List Int) (x7_2 : Int), v7 = .int .i64 x7_2 ∧ Aside0 (bibelotref03_Frame.l1 kq a0 a1 x5_2 x7_2 = some r) ∧ Aside0 (kq ≤ k1) ∧ Aside0 (Kd.R (Kd.int .i64) 2 w' w.heap.size (fun _ => True) v5 x5_2) ∧ Aside0 (Below w.heap.size w w'))
        case atStart => exact ⟨(x5_1), (4), (by first | rfl | (simp; done) | (simp [*]; done)), H', ⟨Nat.le_refl _⟩, ⟨by (with_reducible repeat (first | apply Kd.R_alloc | apply Kd.R_drewN | apply Kd.R_drew)); exact HO_5.out⟩, ⟨by repeat (first | (with_reducible first | exact HB.out | apply below_alloc | apply pw_below_drewN | apply below_drew1) | exact HB.out)⟩⟩
        case round =>
          clear H'
          try clear c2
          try clear p2
          try clear c3
          try clear c3b0
          try clear c4
          try clear c4b0
          try clear c4b1
          try clear c6
          try clear p6
          try clear p2
          obtain ⟨x5_2, x7_2, rfl, HA, HK2, HO_5, HB⟩ := hrel
          cases gk with
          | zero => exact absurd HA.out (by simp [bibelotref03_Frame.l1])
          | succ k2 =>
            have H := HA.out
            clear HA
            simp only [bibelotref03_Frame.l1] at H
            by_cases c8 : x7_2 ≤ a1
            · rw [if_pos c8] at H
              have c8b0 : decide (x7_2 ≤ a1) = true := decide_eq_true c8
              clear c8
              obtain ⟨y129, hy129⟩ : ∃ y_ : List Int, y_ = (([0, 1] : List Int)) := ⟨_, rfl⟩
              replace H : (bibelotref03_Frame.l2 k2 a0 a1 x5_2 x7_2 y129 2) = some r := by first | (rw [hy129]; with_reducible exact H) | (have H2_ := (Option.bind_some _ _).symm.trans H; rw [hy129]; with_reducible exact H2_) | (have H2_ := (Option.bind_some _ _).symm.trans H; with_reducible exact H2_) | with_reducible exact H | (rw [hy129]; exact H) | exact H
              have Ny129 := Aside0.mk hy129
              clear hy129
              have H' := Aside0.mk H
              clear H
              go_wp2_with (first | ((with_reducible refine gate_dst (N := 28) rfl ?_); refine Kd.R_lit (Kd.int .i64) _ 2 ?hg (N := 28) ?hd (xs := ([0, 1] : List Int)) (inner := [.int .i64 0, .int .i64 1]) (ok := fun _ => True) (okp := fun _ => True) ?hr ?hp (fun _ hk => hk) trivial (Below.refl _ _) (Nat.le_refl _) (by simp) ?_; (case hd => rfl); (case hg => rfl); (case hr => first | (go_simp; done) | (go_simp; rfl)); (case hp => exact (Reps.one (show Kd.M (Kd.int .i64) _ _ _ 0 [.int .i64 0] from rfl) (Reps.one (show Kd.M (Kd.int .i64) _ _ _ 1 [.int .i64 1] from rfl) (Reps.none _ _)))); intro v130 w9 ho10 hb hg_ hnew_; clear hg_ hnew_; (first | rw [← Ny129.out] at ho10 | (simp only [Int.reduceToNat] at ho10; rw [← Ny129.out] at ho10)); have n0_ := Aside0.mk (Kd.R_elder' (by (with_reducible repeat (first | apply Kd.R_alloc | apply Kd.R_drewN | apply Kd.R_drew)); exact HO_5.out) (Kd.R_base ho10) hb); have n1_ := Aside0.mk (Kd.R_lower (Kd.R_new' ho10 (Kd.R_lt (by (with_reducible repeat (first | apply Kd.R_alloc | apply Kd.R_drewN | apply Kd.R_drew)); exact HO_5.out))) (below_size (by repeat (first | (with_reducible first | exact HB.out | apply below_alloc | apply pw_below_drewN | apply below_drew1) | exact HB.out)))); have n2_ := Aside0.mk (below_step (by repeat (first | (with_reducible first | exact HB.out | apply below_alloc | apply pw_below_drewN | apply below_drew1) | exact HB.out)) hb); clear HO_5; clear HB; have HO_5 := n0_; have HO131 := n1_; have HB := n2_; clear n0_ n1_ n2_; clear hb ho10))
              repeat (go_quiet (first | ((with_reducible refine gate_dst (N := 28) rfl ?_); refine Kd.R_lit (Kd.int .i64) _ 2 ?hg (N := 28) ?hd (xs := ([0, 1] : List Int)) (inner := [.int .i64 0, .int .i64 1]) (ok := fun _ => True) (okp := fun _ => True) ?hr ?hp (fun _ hk => hk) trivial (Below.refl _ _) (Nat.le_refl _) (by simp) ?_; (case hd => rfl); (case hg => rfl); (case hr => first | (go_simp; done) | (go_simp; rfl)); (case hp => exact (Reps.one (show Kd.M (Kd.int .i64) _ _ _ 0 [.int .i64 0] from rfl) (Reps.one (show Kd.M (Kd.int .i64) _ _ _ 1 [.int .i64 1] from rfl) (Reps.none _ _)))); intro v130 w9 ho10 hb hg_ hnew_; clear hg_ hnew_; (first | rw [← Ny129.out] at ho10 | (simp only [Int.reduceToNat] at ho10; rw [← Ny129.out] at ho10)); have n0_ := Aside0.mk (Kd.R_elder' (by (with_reducible repeat (first | apply Kd.R_alloc | apply Kd.R_drewN | apply Kd.R_drew)); exact HO_5.out) (Kd.R_base ho10) hb); have n1_ := Aside0.mk (Kd.R_lower (Kd.R_new' ho10 (Kd.R_lt (by (with_reducible repeat (first | apply Kd.R_alloc | apply Kd.R_drewN | apply Kd.R_drew)); exact HO_5.out))) (below_size (by repeat (first | (with_reducible first | exact HB.out | apply below_alloc | apply pw_below_drewN | apply below_drew1) | exact HB.out)))); have n2_ := Aside0.mk (below_step (by repeat (first | (with_reducible first | exact HB.out | apply below_alloc | apply pw_below_drewN | apply below_drew1) | exact HB.out)) hb); clear HO_5; clear HB; have HO_5 := n0_; have HO131 := n1_; have HB := n2_; clear n0_ n1_ n2_; clear hb ho10)); try go_wp2_with (first | ((with_reducible refine gate_dst (N := 28) rfl ?_); refine Kd.R_lit (Kd.int .i64) _ 2 ?hg (N := 28) ?hd (xs := ([0, 1] : List Int)) (inner := [.int .i64 0, .int .i64 1]) (ok := fun _ => True) (okp := fun _ => True) ?hr ?hp (fun _ hk => hk) trivial (Below.refl _ _) (Nat.le_refl _) (by simp) ?_; (case hd => rfl); (case hg => rfl); (case hr => first | (go_simp; done) | (go_simp; rfl)); (case hp => exact (Reps.one (show Kd.M (Kd.int .i64) _ _ _ 0 [.int .i64 0] from rfl) (Reps.one (show Kd.M (Kd.int .i64) _ _ _ 1 [.int .i64 1] from rfl) (Reps.none _ _)))); intro v130 w9 ho10 hb hg_ hnew_; clear hg_ hnew_; (first | rw [← Ny129.out] at ho10 | (simp only [Int.reduceToNat] at ho10; rw [← Ny129.out] at ho10)); have n0_ := Aside0.mk (Kd.R_elder' (by (with_reducible repeat (first | apply Kd.R_alloc | apply Kd.R_drewN | apply Kd.R_drew)); exact HO_5.out) (Kd.R_base ho10) hb); have n1_ := Aside0.mk (Kd.R_lower (Kd.R_new' ho10 (Kd.R_lt (by (with_reducible repeat (first | apply Kd.R_alloc | apply Kd.R_drewN | apply Kd.R_drew)); exact HO_5.out))) (below_size (by repeat (first | (with_reducible first | exact HB.out | apply below_alloc | apply pw_below_drewN | apply below_drew1) | exact HB.out)))); have n2_ := Aside0.mk (below_step (by repeat (first | (with_reducible first | exact HB.out | apply below_alloc | apply pw_below_drewN | apply below_drew1) | exact HB.out)) hb); clear HO_5; clear HB; have HO_5 := n0_; have HO131 := n1_; have HB := n2_; clear n0_ n1_ n2_; clear hb ho10)))
              go_loopg [8, 9] k2 (fun kq v8 v9 w' => ∃ (x8_3 : List Int) (x9_3 : Int), v9 = .int .i64 x9_3 ∧ Aside0 (bibelotref03_Frame.l2 kq a0 a1 x5_2 x7_2 x8_3 x9_3 = some r) ∧ Aside0 (kq ≤ k2) ∧ Aside0 (Kd.R (Kd.int .i64) 2 w' w.heap.size (fun k_ => some k_ ≠ (v8 : Value).ownBlock) u5 x5_2) ∧ Aside0 (Kd.R (Kd.int .i64) 2 w' w.heap.size (fun k_ => some k_ ≠ (u5 : Value).ownBlock) v8 x8_3) ∧ Aside0 (Below w.heap.size w w'))
              case atStart => exact ⟨(y129), (2), (by first | rfl | (simp; done) | (simp [*]; done)), H', ⟨Nat.le_refl _⟩, ⟨by (with_reducible repeat (first | apply Kd.R_alloc | apply Kd.R_drewN | apply Kd.R_drew)); exact Kd.R_mono HO_5.out (fun _ hk => hk.2)⟩, ⟨by (with_reducible repeat (first | apply Kd.R_alloc | apply Kd.R_drewN | apply Kd.R_drew)); exact Kd.R_mono HO131.out (fun _ hk => hk.2)⟩, ⟨by repeat (first | (with_reducible first | exact HB.out | apply below_alloc | apply pw_below_drewN | apply below_drew1) | exact HB.out)⟩⟩
              case round =>
                clear H'
                try clear c2
                try clear p2
                try clear c3
                try clear c3b0
                try clear c4
                try clear c4b0
                try clear c4b1
                try clear c6
                try clear p6
                try clear c8
                try clear c8b0
                try clear p2
                try clear p6
                obtain ⟨x8_3, x9_3, rfl, HA, HK3, HO_5, HO_8, HB⟩ := hrel
                cases gk with
                | zero => exact absurd HA.out (by simp [bibelotref03_Frame.l2])
                | succ k3 =>
                  have H := HA.out
                  clear HA
                  simp only [bibelotref03_Frame.l2] at H
                  by_cases c11 : x9_3 ≤ a0
                  · rw [if_pos c11] at H
                    have c11b0 : decide (x9_3 ≤ a0) = true := decide_eq_true c11
                    clear c11
                    have H' := Aside0.mk H
                    clear H
                    go_wp2
                    repeat (go_quiet (fail); try go_wp2)
                    go_loopg [10, 11] k3 (fun kq v10 v11 w' => ∃ (x10_4 : Int) (x11_4 : Int), v10 = .int .i64 x10_4 ∧ v11 = .int .i64 x11_4 ∧ Aside0 (bibelotref03_Frame.l3 kq a0 a1 x5_2 x7_2 x8_3 x9_3 x10_4 x11_4 = some r) ∧ Aside0 (kq ≤ k3) ∧ Aside0 (Kd.R (Kd.int .i64) 2 w' w.heap.size (fun k_ => some k_ ≠ (u8 : Value).ownBlock) u5 x5_2) ∧ Aside0 (Kd.R (Kd.int .i64) 2 w' w.heap.size (fun k_ => some k_ ≠ (u5 : Value).ownBlock) u8 x8_3) ∧ Aside0 (Below w.heap.size w w'))
                    case atStart => exact ⟨(1152921504606846976), (1), (by first | rfl | (simp; done) | (simp [*]; done)), (by first | rfl | (simp; done) | (simp [*]; done)), H', ⟨Nat.le_refl _⟩, ⟨by (with_reducible repeat (first | apply Kd.R_alloc | apply Kd.R_drewN | apply Kd.R_drew)); exact HO_5.out⟩, ⟨by (with_reducible repeat (first | apply Kd.R_alloc | apply Kd.R_drewN | apply Kd.R_drew)); exact HO_8.out⟩, ⟨by repeat (first | (with_reducible first | exact HB.out | apply below_alloc | apply pw_below_drewN | apply below_drew1) | exact HB.out)⟩⟩
                    case round =>
                      clear H'
                      try clear c1
                      try clear c2
                      try clear p2
                      try clear c3
                      try clear c3b0
                      try clear c4
                      try clear c4b0
                      try clear c4b1
                      try clear c6
                      try clear p6
                      try clear c8
                      try clear c8b0
                      try clear c11
                      try clear c11b0
                      try clear p2
                      try clear p6
                      obtain ⟨x10_4, x11_4, rfl, rfl, HA, HK4, HO_5, HO_8, HB⟩ := hrel
                      cases gk with
                      | zero => exact absurd HA.out (by simp [bibelotref03_Frame.l3])
                      | succ k4 =>
                        have H := HA.out
                        clear HA
                        simp only [bibelotref03_Frame.l3] at H
                        by_cases c12 : x11_4 < x9_3
                        · rw [if_pos c12] at H
                          have c12b0 : decide (x11_4 < x9_3) = true := decide_eq_true c12
                          clear c12
                          by_cases c13 : 0 ≤ x11_4
                          · rw [if_pos c13] at H
                            have c13b0 : decide (0 ≤ x11_4) = true := decide_eq_true c13
                            clear c13
                            by_cases c14 : x11_4 < (x8_3.length : Int)
                            · rw [if_pos c14] at H
                              have c14b0 : decide (x11_4 < (x8_3.length : Int)) = true := decide_eq_true c14
                              clear c14
                              obtain ⟨ji15, hji15⟩ : ∃ j_ : Int, (wrap64 (x9_3 - x11_4)) = j_ := ⟨_, rfl⟩
                              replace H : (if 0 ≤ (ji15) then (if (ji15) < (x5_2.length : Int) then (bibelotref03_Frame.l3 k4 a0 a1 x5_2 x7_2 x8_3 x9_3 (mn x10_4 (wrap64 ((wrap64 (2 * (rd x8_3 x11_4))) + (rd x5_2 (ji15))))) (wrap64 (x11_4 + 1))) else (none)) else (none)) = some r := by first | (rw [hji15] at H; exact H) | (simp only [hji15] at H ⊢; exact H)
                              have hji15w : (IntKind.i64.wrap (x9_3 - x11_4)) = ji15 := (i64_w _).trans hji15
                              by_cases c16 : 0 ≤ (ji15)
                              · rw [if_pos c16] at H
                                have c16b0 : decide (0 ≤ (ji15)) = true := decide_eq_true c16
                                clear c16
                                by_cases c17 : (ji15) < (x5_2.length : Int)
                                · rw [if_pos c17] at H
                                  have c17b0 : decide ((ji15) < (x5_2.length : Int)) = true := decide_eq_true c17
                                  clear c17
                                  obtain ⟨ji18, hji18⟩ : ∃ j_ : Int, (mn x10_4 (wrap64 ((wrap64 (2 * (rd x8_3 x11_4))) + (rd x5_2 (ji15))))) = j_ := ⟨_, rfl⟩
                                  replace H : (bibelotref03_Frame.l3 k4 a0 a1 x5_2 x7_2 x8_3 x9_3 ji18 (wrap64 (x11_4 + 1))) = some r := by first | (rw [hji18] at H; exact H) | (simp only [hji18] at H ⊢; exact H)
                                  have hji18_ : (if (wrap64 ((wrap64 (2 * (rd x8_3 x11_4))) + (rd x5_2 (ji15)))) < x10_4 then (wrap64 ((wrap64 (2 * (rd x8_3 x11_4))) + (rd x5_2 (ji15)))) else x10_4) = ji18 := hji18
                                  have H' := Aside0.mk H
                                  clear H
                                  obtain ⟨Ao19, co19, eo19⟩ := Kd.R_slice HO_8.out
                                  subst eo19
                                  have p132 : 0 ≤ (x11_4 : Int) := of_decide_eq_true (by first | (with_reducible assumption) | assumption)
                                  have q132 : x11_4 < (x8_3.length : Int) := of_decide_eq_true (by first | (with_reducible assumption) | assumption)
                                  obtain ⟨ad132, e132, hx132_0⟩ := Kd.at_int (Kd.R_reads' HO_8.out).2.2 x11_4 p132 q132
                                  cases e132
                                  replace p132 := eq_true p132
                                  replace q132 := eq_true q132
                                  obtain ⟨Ao20, co20, eo20⟩ := Kd.R_slice HO_5.out
                                  subst eo20
                                  have p133 : 0 ≤ ((ji15) : Int) := of_decide_eq_true (by first | (with_reducible assumption) | assumption)
                                  have q133 : (ji15) < (x5_2.length : Int) := of_decide_eq_true (by first | (with_reducible assumption) | assumption)
                                  obtain ⟨ad133, e133, hx133_0⟩ := Kd.at_int (Kd.R_reads' HO_5.out).2.2 (ji15) p133 q133
                                  cases e133
                                  replace p133 := eq_true p133
                                  replace q133 := eq_true q133
                                  go_wp2
                                  repeat (go_quiet (fail); try go_wp2)
                                  go_roundg k4
                                  case measure => have := HK1.out; have := HK2.out; have := HK3.out; have := HK4.out; omega
                                  case rel => exact ⟨(ji18), (wrap64 (x11_4 + 1)), (by first | rfl | (simp; done) | (simp only [← hji18] <;> (first | rfl | simp)) | (simp [*]; done)), (by first | rfl | (simp; done) | (simp [*]; done)), H', ⟨by have := HK1.out; have := HK2.out; have := HK3.out; have := HK4.out; omega⟩, ⟨by (with_reducible repeat (first | apply Kd.R_alloc | apply Kd.R_drewN | apply Kd.R_drew)); exact HO_5.out⟩, ⟨by (with_reducible repeat (first | apply Kd.R_alloc | apply Kd.R_drewN | apply Kd.R_drew)); exact HO_8.out⟩, ⟨by repeat (first | (with_reducible first | exact HB.out | apply below_alloc | apply pw_below_drewN | apply below_drew1) | exact HB.out)⟩⟩
                                · rw [if_neg c17] at H
                                  exact absurd H (by simp)
                              · rw [if_neg c16] at H
                                exact absurd H (by simp)
                            · rw [if_neg c14] at H
                              exact absurd H (by simp)
                          · rw [if_neg c13] at H
                            exact absurd H (by simp)
                        · rw [if_neg c12] at H
                          have c12b0 : decide (x11_4 < x9_3) = false := decide_eq_false c12
                          clear c12
                          by_cases c21 : x8_3.length < 17592186044416
                          · rw [if_pos c21] at H
                            have LMc21 := Aside0.mk c21
                            clear c21
                            obtain ⟨y134, hy134⟩ : ∃ y_ : List Int, y_ = (x8_3 ++ [x10_4]) := ⟨_, rfl⟩
                            replace H : (bibelotref03_Frame.l2 k4 a0 a1 x5_2 x7_2 y134 (wrap64 (x9_3 + 1))) = some r := by first | (rw [hy134]; with_reducible exact H) | (have H2_ := (Option.bind_some _ _).symm.trans H; rw [hy134]; with_reducible exact H2_) | (have H2_ := (Option.bind_some _ _).symm.trans H; with_reducible exact H2_) | with_reducible exact H | (rw [hy134]; exact H) | exact H
                            have Ny134 := Aside0.mk hy134
                            clear hy134
                            have H' := Aside0.mk H
                            clear H
                            go_wp2_with (first | ((with_reducible refine gate_builtin (b := .append) (xs := #[.tmp 53, .tmp 55]) rfl ?_); at_builtin; refine Kd.R_append (Kd.int .i64) (w0 := w) w.heap.size rfl (.tmp 53) (.tmp 55) 97 2 (.int .i64 0) 8 rfl Tryd.underlying97 info2 rfl (by decide) (by omega) u8 x8_3 x10_4 [.int .i64 x10_4] (fun k_ => some k_ ≠ (u5 : Value).ownBlock) (fun _ => False) rfl rfl ?aP (fun _ hk => hk.elim) ?aF ?aO ?aB ?aS ?aL ?_; (case aP => exact rfl); (case aB => exact (by repeat (first | (with_reducible first | exact HB.out | apply below_alloc | apply pw_below_drewN | apply below_drew1) | exact HB.out))); (case aF => exact (fun k_ hk => Kd.fresh' (Kd.R_lt (by (with_reducible repeat (first | apply Kd.R_alloc | apply Kd.R_drewN | apply Kd.R_drew)); exact HO_5.out)) k_ hk)); (case aO => exact (by (with_reducible repeat (first | apply Kd.R_alloc | apply Kd.R_drewN | apply Kd.R_drew)); exact HO_8.out)); (case aS => exact (below_size (by repeat (first | (with_reducible first | exact HB.out | apply below_alloc | apply pw_below_drewN | apply below_drew1) | exact HB.out)))); (case aL => have := LMc21.out; omega); intro v135 w22 ho hb hg hat; rw [← Ny134.out] at ho; have n0_ := Aside0.mk (Kd.R_after (ok := (fun _ => True)) (by (with_reducible repeat (first | apply Kd.R_alloc | apply Kd.R_drewN | apply Kd.R_drew)); exact Kd.R_mono HO_5.out (fun _ hk => ⟨trivial, hk⟩)) hg hat); have n1_ := Aside0.mk (hb); have n2_ := Aside0.mk (ho); clear HO_5; clear HB; clear HO_8; have HO_5 := n0_; have HB := n1_; have HO136 := n2_; clear n0_ n1_ n2_; clear ho hb hg hat))
                            repeat (go_quiet (first | ((with_reducible refine gate_builtin (b := .append) (xs := #[.tmp 53, .tmp 55]) rfl ?_); at_builtin; refine Kd.R_append (Kd.int .i64) (w0 := w) w.heap.size rfl (.tmp 53) (.tmp 55) 97 2 (.int .i64 0) 8 rfl Tryd.underlying97 info2 rfl (by decide) (by omega) u8 x8_3 x10_4 [.int .i64 x10_4] (fun k_ => some k_ ≠ (u5 : Value).ownBlock) (fun _ => False) rfl rfl ?aP (fun _ hk => hk.elim) ?aF ?aO ?aB ?aS ?aL ?_; (case aP => exact rfl); (case aB => exact (by repeat (first | (with_reducible first | exact HB.out | apply below_alloc | apply pw_below_drewN | apply below_drew1) | exact HB.out))); (case aF => exact (fun k_ hk => Kd.fresh' (Kd.R_lt (by (with_reducible repeat (first | apply Kd.R_alloc | apply Kd.R_drewN | apply Kd.R_drew)); exact HO_5.out)) k_ hk)); (case aO => exact (by (with_reducible repeat (first | apply Kd.R_alloc | apply Kd.R_drewN | apply Kd.R_drew)); exact HO_8.out)); (case aS => exact (below_size (by repeat (first | (with_reducible first | exact HB.out | apply below_alloc | apply pw_below_drewN | apply below_drew1) | exact HB.out)))); (case aL => have := LMc21.out; omega); intro v135 w22 ho hb hg hat; rw [← Ny134.out] at ho; have n0_ := Aside0.mk (Kd.R_after (ok := (fun _ => True)) (by (with_reducible repeat (first | apply Kd.R_alloc | apply Kd.R_drewN | apply Kd.R_drew)); exact Kd.R_mono HO_5.out (fun _ hk => ⟨trivial, hk⟩)) hg hat); have n1_ := Aside0.mk (hb); have n2_ := Aside0.mk (ho); clear HO_5; clear HB; clear HO_8; have HO_5 := n0_; have HB := n1_; have HO136 := n2_; clear n0_ n1_ n2_; clear ho hb hg hat)); try go_wp2_with (first | ((with_reducible refine gate_builtin (b := .append) (xs := #[.tmp 53, .tmp 55]) rfl ?_); at_builtin; refine Kd.R_append (Kd.int .i64) (w0 := w) w.heap.size rfl (.tmp 53) (.tmp 55) 97 2 (.int .i64 0) 8 rfl Tryd.underlying97 info2 rfl (by decide) (by omega) u8 x8_3 x10_4 [.int .i64 x10_4] (fun k_ => some k_ ≠ (u5 : Value).ownBlock) (fun _ => False) rfl rfl ?aP (fun _ hk => hk.elim) ?aF ?aO ?aB ?aS ?aL ?_; (case aP => exact rfl); (case aB => exact (by repeat (first | (with_reducible first | exact HB.out | apply below_alloc | apply pw_below_drewN | apply below_drew1) | exact HB.out))); (case aF => exact (fun k_ hk => Kd.fresh' (Kd.R_lt (by (with_reducible repeat (first | apply Kd.R_alloc | apply Kd.R_drewN | apply Kd.R_drew)); exact HO_5.out)) k_ hk)); (case aO => exact (by (with_reducible repeat (first | apply Kd.R_alloc | apply Kd.R_drewN | apply Kd.R_drew)); exact HO_8.out)); (case aS => exact (below_size (by repeat (first | (with_reducible first | exact HB.out | apply below_alloc | apply pw_below_drewN | apply below_drew1) | exact HB.out)))); (case aL => have := LMc21.out; omega); intro v135 w22 ho hb hg hat; rw [← Ny134.out] at ho; have n0_ := Aside0.mk (Kd.R_after (ok := (fun _ => True)) (by (with_reducible repeat (first | apply Kd.R_alloc | apply Kd.R_drewN | apply Kd.R_drew)); exact Kd.R_mono HO_5.out (fun _ hk => ⟨trivial, hk⟩)) hg hat); have n1_ := Aside0.mk (hb); have n2_ := Aside0.mk (ho); clear HO_5; clear HB; clear HO_8; have HO_5 := n0_; have HB := n1_; have HO136 := n2_; clear n0_ n1_ n2_; clear ho hb hg hat)))
                            go_roundg k4
                            case measure => have := HK1.out; have := HK2.out; have := HK3.out; have := HK4.out; omega
                            case rel => exact ⟨(y134), (wrap64 (x9_3 + 1)), (by first | rfl | (simp; done) | (simp [*]; done)), H', ⟨by have := HK1.out; have := HK2.out; have := HK3.out; have := HK4.out; omega⟩, ⟨by (with_reducible repeat (first | apply Kd.R_alloc | apply Kd.R_drewN | apply Kd.R_drew)); exact Kd.R_mono HO_5.out (fun _ hk => hk.2)⟩, ⟨by (with_reducible repeat (first | apply Kd.R_alloc | apply Kd.R_drewN | apply Kd.R_drew)); exact HO136.out⟩, ⟨by repeat (first | (with_reducible first | exact HB.out | apply below_alloc | apply pw_below_drewN | apply below_drew1) | exact HB.out)⟩⟩
                          · rw [if_neg c21] at H
                            exact absurd H (by simp)
                  · rw [if_neg c11] at H
                    have c11b0 : decide (x9_3 ≤ a0) = false := decide_eq_false c11
                    clear c11
                    have H' := Aside0.mk H
                    clear H
                    go_wp2
                    repeat (go_quiet (fail); try go_wp2)
                    go_roundg k3
                    case measure => have := HK1.out; have := HK2.out; have := HK3.out; omega
                    case rel => exact ⟨(x8_3), (wrap64 (x7_2 + 1)), (by first | rfl | (simp; done) | (simp [*]; done)), H', ⟨by have := HK1.out; have := HK2.out; have := HK3.out; omega⟩, ⟨by (with_reducible repeat (first | apply Kd.R_alloc | apply Kd.R_drewN | apply Kd.R_drew)); exact Kd.R_mono HO_8.out (fun _ hk => trivial)⟩, ⟨by repeat (first | (with_reducible first | exact HB.out | apply below_alloc | apply pw_below_drewN | apply below_drew1) | exact HB.out)⟩⟩
            · rw [if_neg c8] at H
              have c8b0 : decide (x7_2 ≤ a1) = false := decide_eq_false c8
              clear c8
              by_cases c23 : 0 ≤ a0
              · rw [if_pos c23] at H
                have c23b0 : decide (0 ≤ a0) = true := decide_eq_true c23
                clear c23
                by_cases c24 : a0 < (x5_2.length : Int)
                · rw [if_pos c24] at H
                  have c24b0 : decide (a0 < (x5_2.length : Int)) = true := decide_eq_true c24
                  clear c24
                  obtain rfl := Option.some.inj H
                  obtain ⟨Ao25, co25, eo25⟩ := Kd.R_slice HO_5.out
                  subst eo25
                  have p128 : 0 ≤ (a0 : Int) := of_decide_eq_true (by first | (with_reducible assumption) | assumption)
                  have q128 : a0 < (x5_2.length : Int) := of_decide_eq_true (by first | (with_reducible assumption) | assumption)
                  obtain ⟨ad128, e128, hx128_0⟩ := Kd.at_int (Kd.R_reads' HO_5.out).2.2 a0 p128 q128
                  cases e128
                  replace p128 := eq_true p128
                  replace q128 := eq_true q128
                  go_wp2
                  repeat (go_quiet (fail); try go_wp2)
                  go_ret
                  exact ⟨by first | rfl | (simp [errW_none, errW_some] <;> rfl) | (simp [*, errW_none, errW_some] <;> rfl), by repeat (first | (with_reducible first | exact HB.out | apply below_alloc | apply pw_below_drewN | apply below_drew1) | exact HB.out)⟩
                · rw [if_neg c24] at H
                  exact absurd H (by simp)
              · rw [if_neg c23] at H
                exact absurd H (by simp)

end Go.Proofs.YtnaaomhmoamfpaaDoor.Q
namespace Go.Proofs.YtnaaomhmoamfpaaDoor.G
end Go.Proofs.YtnaaomhmoamfpaaDoor.G
namespace Go.Proofs.YtnaaomhmoamfpaaDoor.Q
set_option linter.unusedVariables false
set_option linter.unusedSimpArgs false
set_option linter.unusedSectionVars false
open Go.Proofs.YtnaaomhmoamfpaaDoor.G
open Go.RowKit Go.Proofs.YtnaaomhmoamfpaaDoorW.PrintWords Go.Proofs.YtnaaomhmoamfpaaDoorW.PrintLast Go.Proofs.YtnaaomhmoamfpaaDoorW.PrintMore
attribute [local go_sem] max2_int min2_int max_two min_two max_three min_three max_four min_four   -- for this text's walks alone

/-! ### bibelotref03_Can: function 72 -/
mutual
def bibelotref03_Can.j0 : Nat → List Int → Int → Int → Bool → Option (Bool)
  | 0, _, _, _, _ => none
  | k + 1, x0, x1, x2, x34 => if x34 = true then (some false) else (bibelotref03_Can.l0 k x0 x1 x2 0)
def bibelotref03_Can.l0 : Nat → List Int → Int → Int → Int → Option (Bool)
  | 0, _, _, _, _ => none
  | k + 1, x0, x1, x2, x9 => if x9 < x1 then (if 0 ≤ x9 then (if x9 < (x0.length : Int) then (if 0 ≤ x1 then (if x1 < (x0.length : Int) then (if (rd x0 x9) = (rd x0 x1) then (some false) else (if (rd x0 x9) = x2 then (some false) else (bibelotref03_Can.l0 k x0 x1 x2 (wrap64 (x9 + 1))))) else (none)) else (none)) else (none)) else (none)) else (some true)
end
def bibelotref03_Can.f (k : Nat) (l0 : List Int) (a1 : Int) (a2 : Int) (a3 : Int) : Option (Bool) := if a1 < 0 then (bibelotref03_Can.j0 k l0 a1 a2 true) else (if a1 ≥ (l0.length : Int) then (bibelotref03_Can.j0 k l0 a1 a2 true) else (if a2 < 0 then (bibelotref03_Can.j0 k l0 a1 a2 true) else (if a2 ≥ a3 then (bibelotref03_Can.j0 k l0 a1 a2 true) else (if 0 ≤ a1 then (if a1 < (l0.length : Int) then (bibelotref03_Can.j0 k l0 a1 a2 ((rd l0 a1) == a2)) else (none)) else (none)))))
theorem bibelotref03_Can.mono_l : ∀ k, (∀ y0 y1 y2 y3, LeO (bibelotref03_Can.j0 k y0 y1 y2 y3) (bibelotref03_Can.j0 (k + 1) y0 y1 y2 y3)) ∧ (∀ y0 y1 y2 y3, LeO (bibelotref03_Can.l0 k y0 y1 y2 y3) (bibelotref03_Can.l0 (k + 1) y0 y1 y2 y3))
  | 0 => ⟨fun _ _ _ _ r h => by simp [bibelotref03_Can.j0] at h, fun _ _ _ _ r h => by simp [bibelotref03_Can.l0] at h⟩
  | k + 1 => by
    obtain ⟨ih0, ih1⟩ := bibelotref03_Can.mono_l k
    refine ⟨?_, ?_⟩
    · intro y0 y1 y2 y3
      unfold bibelotref03_Can.j0
      repeat' first
      | (with_reducible exact ih0 _ _ _ _)
      | (with_reducible exact ih1 _ _ _ _)
      | (with_reducible exact LeO.refl _)
      | (with_reducible exact LeO.none _)
      | (with_reducible refine LeO.ite ?_ ?_)
      | (with_reducible refine LeO.bind ?_ (fun _ => ?_))
      | exact ih0 _ _ _ _
      | exact ih1 _ _ _ _
      | exact LeO.none _
      | refine LeO.ite ?_ ?_
      | refine LeO.bind ?_ (fun _ => ?_)
    · intro y0 y1 y2 y3
      unfold bibelotref03_Can.l0
      repeat' first
      | (with_reducible exact ih0 _ _ _ _)
      | (with_reducible exact ih1 _ _ _ _)
      | (with_reducible exact LeO.refl _)
      | (with_reducible exact LeO.none _)
      | (with_reducible refine LeO.ite ?_ ?_)
      | (with_reducible refine LeO.bind ?_ (fun _ => ?_))
      | exact ih0 _ _ _ _
      | exact ih1 _ _ _ _
      | exact LeO.none _
      | refine LeO.ite ?_ ?_
      | refine LeO.bind ?_ (fun _ => ?_)
theorem bibelotref03_Can.mono : ∀ a0 a1 a2 a3 k, LeO (bibelotref03_Can.f k a0 a1 a2 a3) (bibelotref03_Can.f (k + 1) a0 a1 a2 a3) := by
  intro a0 a1 a2 a3 k
  obtain ⟨ih0, ih1⟩ := bibelotref03_Can.mono_l k
  unfold bibelotref03_Can.f
  repeat' first
      | (with_reducible exact ih0 _ _ _ _)
      | (with_reducible exact ih1 _ _ _ _)
      | (with_reducible exact LeO.refl _)
      | (with_reducible exact LeO.none _)
      | (with_reducible refine LeO.ite ?_ ?_)
      | (with_reducible refine LeO.bind ?_ (fun _ => ?_))
      | exact ih0 _ _ _ _
      | exact ih1 _ _ _ _
      | exact LeO.none _
      | refine LeO.ite ?_ ?_
      | refine LeO.bind ?_ (fun _ => ?_)
set_option maxHeartbeats 8000000 in
set_option maxRecDepth 100000 in
theorem bibelotref03_Can.calls (k : Nat) (A0 : Option Addr) (c0 : Nat) (l0 : List Int) (a1 : Int) (a2 : Int) (a3 : Int) (r : Bool) (w : World) (hr0 : Kd.C (Kd.int .i64) w A0 l0.length l0) (hc0 : l0.length ≤ c0) (h : bibelotref03_Can.f k l0 a1 a2 a3 = some r) :
    Calls Tryd.prog 72 #[.slice A0 l0.length c0, .int .i64 a1, .int .i64 a2, .int .i64 a3] w fun e w' => e = .returned (.bool r) ∧ Drawn0 w w' := by
  have HR0 := Aside0.mk hr0
  have HC0 := Aside0.mk hc0
  clear hr0 hc0
  have H : (if a1 < 0 then (bibelotref03_Can.j0 k l0 a1 a2 true) else (if a1 ≥ (l0.length : Int) then (bibelotref03_Can.j0 k l0 a1 a2 true) else (if a2 < 0 then (bibelotref03_Can.j0 k l0 a1 a2 true) else (if a2 ≥ a3 then (bibelotref03_Can.j0 k l0 a1 a2 true) else (if 0 ≤ a1 then (if a1 < (l0.length : Int) then (bibelotref03_Can.j0 k l0 a1 a2 ((rd l0 a1) == a2)) else (none)) else (none)))))) = some r := h
  clear h
  have HC5 := Aside0.mk H
  clear H
  go_enter Tryd.func72, Tryd.ntmps72
  go_upto_region 1 with (fail)
  repeat (go_quiet (fail); go_upto_region 1 with (fail))
  go_cut [34] (fun v34 wc => ∃ (kq : Nat) (x34_4 : Bool), v34 = .bool x34_4 ∧ Aside0 (bibelotref03_Can.j0 kq l0 a1 a2 x34_4 = some r) ∧ Aside0 (kq ≤ k) ∧ Drawn0 w wc)
  case first =>
    have H := HC5.out
    clear HC5
    by_cases c6 : a1 < 0
    · rw [if_pos c6] at H
      have c6b0 : decide (a1 < 0) = true := decide_eq_true c6
      clear c6
      (first | rw [c6b0] | (simp only [i64_w, i32_w]; rw [c6b0]) | skip)
      have H' := Aside0.mk H
      clear H
      go_wp2
      repeat (go_quiet (fail); try go_wp2)
      go_meet
      case rel => exact ⟨_, (true), (by first | rfl | (simp; done) | (simp [*]; done)), H', ⟨by first | omega | exact Nat.le_refl _⟩, by repeat (first | exact Drawn0.refl _ | apply Drawn0.step)⟩
    · rw [if_neg c6] at H
      have c6b0 : decide (a1 < 0) = false := decide_eq_false c6
      clear c6
      (first | rw [c6b0] | (simp only [i64_w, i32_w]; rw [c6b0]) | skip)
      by_cases c7 : a1 ≥ (l0.length : Int)
      · rw [if_pos c7] at H
        have c7b0 : decide ((l0.length : Int) ≤ a1) = true := decide_eq_true c7
        clear c7
        have H' := Aside0.mk H
        clear H
        go_wp2
        repeat (go_quiet (fail); try go_wp2)
        go_meet
        case rel => exact ⟨_, (true), (by first | rfl | (simp; done) | (simp [*]; done)), H', ⟨by first | omega | exact Nat.le_refl _⟩, by repeat (first | exact Drawn0.refl _ | apply Drawn0.step)⟩
      · rw [if_neg c7] at H
        have c7b0 : decide ((l0.length : Int) ≤ a1) = false := decide_eq_false c7
        clear c7
        by_cases c8 : a2 < 0
        · rw [if_pos c8] at H
          have c8b0 : decide (a2 < 0) = true := decide_eq_true c8
          clear c8
          have H' := Aside0.mk H
          clear H
          go_wp2
          repeat (go_quiet (fail); try go_wp2)
          go_meet
          case rel => exact ⟨_, (true), (by first | rfl | (simp; done) | (simp [*]; done)), H', ⟨by first | omega | exact Nat.le_refl _⟩, by repeat (first | exact Drawn0.refl _ | apply Drawn0.step)⟩
        · rw [if_neg c8] at H
          have c8b0 : decide (a2 < 0) = false := decide_eq_false c8
          clear c8
          by_cases c9 : a2 ≥ a3
          · rw [if_pos c9] at H
            have c9b0 : decide (a3 ≤ a2) = true := decide_eq_true c9
            clear c9
            have H' := Aside0.mk H
            clear H
            go_wp2
            repeat (go_quiet (fail); try go_wp2)
            go_meet
            case rel => exact ⟨_, (true), (by first | rfl | (simp; done) | (simp [*]; done)), H', ⟨by first | omega | exact Nat.le_refl _⟩, by repeat (first | exact Drawn0.refl _ | apply Drawn0.step)⟩
          · rw [if_neg c9] at H
            have c9b0 : decide (a3 ≤ a2) = false := decide_eq_false c9
            clear c9
            by_cases c10 : 0 ≤ a1
            · rw [if_pos c10] at H
              have c10b0 : decide (0 ≤ a1) = true := decide_eq_true c10
              clear c10
              by_cases c11 : a1 < (l0.length : Int)
              · rw [if_pos c11] at H
                have c11b0 : decide (a1 < (l0.length : Int)) = true := decide_eq_true c11
                clear c11
                have H' := Aside0.mk H
                clear H
                have p205 : 0 ≤ (a1 : Int) := of_decide_eq_true (by first | (with_reducible assumption) | assumption)
                have q205 : a1 < (l0.length : Int) := of_decide_eq_true (by first | (with_reducible assumption) | assumption)
                obtain ⟨ad205, e205, hx205_0⟩ := Kd.at_int HR0.out a1 p205 q205
                cases e205
                replace p205 := eq_true p205
                replace q205 := eq_true q205
                go_wp2
                repeat (go_quiet (fail); try go_wp2)
                go_meet
                case rel => exact ⟨_, (((rd l0 a1) == a2)), (by first | rfl | (simp; done) | (simp [*]; done)), H', ⟨by first | omega | exact Nat.le_refl _⟩, by repeat (first | exact Drawn0.refl _ | apply Drawn0.step)⟩
              · rw [if_neg c11] at H
                exact absurd H (by simp)
            · rw [if_neg c10] at H
              exact absurd H (by simp)
  case rest =>
    clear HC5
    try clear c1
    try clear p2
    try clear q2
    try clear hx2
    try clear c6
    try clear c6b0
    try clear c7
    try clear c7b0
    try clear c8
    try clear c8b0
    try clear c9
    try clear c9b0
    try clear c10
    try clear c10b0
    try clear c11
    try clear c11b0
    try clear hx205_0
    try clear p205
    try clear q205
    obtain ⟨kq, x34_4, rfl, HA, HJ4, ⟨mc4, rfl⟩⟩ := hcut
    cases kq with
    | zero => exact absurd HA.out (by simp [bibelotref03_Can.j0])
    | succ kj4 =>
      have H := HA.out
      clear HA
      simp only [bibelotref03_Can.j0] at H
      by_cases c12 : x34_4 = true
      · subst c12
        have H1 : (some false) = some r := by rw [if_pos rfl] at H; exact H
        clear H
        have H := H1
        clear H1
        obtain rfl := Option.some.inj H
        go_wp2
        repeat (go_quiet (fail); try go_wp2)
        go_ret
        exact ⟨by first | rfl | (simp; done) | (simp [*]; done), by repeat (first | exact Drawn0.refl _ | apply Drawn0.step)⟩
      · replace c12 := Bool.eq_false_iff.mpr c12
        subst c12
        have H1 : (bibelotref03_Can.l0 kj4 l0 a1 a2 0) = some r := by rw [if_neg (show ¬ (false = true) by decide)] at H; exact H
        clear H
        have H := H1
        clear H1
        have H' := Aside0.mk H
        clear H
        go_wp2
        repeat (go_quiet (fail); try go_wp2)
        go_loopg [9] kj4 (fun kq v9 w' => ∃ (x9_2 : Int), v9 = .int .i64 x9_2 ∧ Aside0 (bibelotref03_Can.l0 kq l0 a1 a2 x9_2 = some r) ∧ Aside0 (kq ≤ kj4) ∧ Drawn0 w w')
        case atStart => exact ⟨(0), (by first | rfl | (simp; done) | (simp [*]; done)), H', ⟨Nat.le_refl _⟩, by repeat (first | exact Drawn0.refl _ | apply Drawn0.step)⟩
        case round =>
          clear H'
          try clear c1
          try clear p2
          try clear q2
          try clear hx2
          try clear c4
          try clear c6
          try clear c6b0
          try clear c7
          try clear c7b0
          try clear c8
          try clear c8b0
          try clear c9
          try clear c9b0
          try clear c10
          try clear c10b0
          try clear c11
          try clear c11b0
          try clear c12
          try clear hx205_0
          try clear p2
          try clear p205
          try clear q2
          try clear q205
          obtain ⟨x9_2, rfl, HA, HK2, ⟨m2, rfl⟩⟩ := hrel
          cases gk with
          | zero => exact absurd HA.out (by simp [bibelotref03_Can.l0])
          | succ k2 =>
            have H := HA.out
            clear HA
            simp only [bibelotref03_Can.l0] at H
            by_cases c13 : x9_2 < a1
            · rw [if_pos c13] at H
              have c13b0 : decide (x9_2 < a1) = true := decide_eq_true c13
              clear c13
              by_cases c14 : 0 ≤ x9_2
              · rw [if_pos c14] at H
                have c14b0 : decide (0 ≤ x9_2) = true := decide_eq_true c14
                clear c14
                by_cases c15 : x9_2 < (l0.length : Int)
                · rw [if_pos c15] at H
                  have c15b0 : decide (x9_2 < (l0.length : Int)) = true := decide_eq_true c15
                  clear c15
                  by_cases c16 : 0 ≤ a1
                  · rw [if_pos c16] at H
                    have c16b0 : decide (0 ≤ a1) = true := decide_eq_true c16
                    clear c16
                    by_cases c17 : a1 < (l0.length : Int)
                    · rw [if_pos c17] at H
                      have c17b0 : decide (a1 < (l0.length : Int)) = true := decide_eq_true c17
                      clear c17
                      by_cases c18 : (rd l0 x9_2) = (rd l0 a1)
                      · rw [if_pos c18] at H
                        have c18b0 : ((rd l0 x9_2) == (rd l0 a1)) = true := beq_iff_eq.mpr c18
                        have c18b1 : ((rd l0 x9_2) != (rd l0 a1)) = false := bne_eq_false_iff_eq.mpr c18
                        clear c18
                        obtain rfl := Option.some.inj H
                        have p206 : 0 ≤ (x9_2 : Int) := of_decide_eq_true (by first | (with_reducible assumption) | assumption)
                        have q206 : x9_2 < (l0.length : Int) := of_decide_eq_true (by first | (with_reducible assumption) | assumption)
                        obtain ⟨ad206, e206, hx206_0⟩ := Kd.at_int HR0.out x9_2 p206 q206
                        cases e206
                        replace p206 := eq_true p206
                        replace q206 := eq_true q206
                        have p207 : 0 ≤ (a1 : Int) := of_decide_eq_true (by first | (with_reducible assumption) | assumption)
                        have q207 : a1 < (l0.length : Int) := of_decide_eq_true (by first | (with_reducible assumption) | assumption)
                        obtain ⟨ad207, e207, hx207_0⟩ := Kd.at_int HR0.out a1 p207 q207
                        obtain rfl : ad206 = ad207 := (by injection e207)
                        replace p207 := eq_true p207
                        replace q207 := eq_true q207
                        go_wp2
                        repeat (go_quiet (fail); try go_wp2)
                        go_ret
                        exact ⟨by first | rfl | (simp; done) | (simp [*]; done), by repeat (first | exact Drawn0.refl _ | apply Drawn0.step)⟩
                      · rw [if_neg c18] at H
                        have c18b0 : ((rd l0 x9_2) == (rd l0 a1)) = false := beq_eq_false_iff_ne.mpr c18
                        have c18b1 : ((rd l0 x9_2) != (rd l0 a1)) = true := bne_iff_ne.mpr c18
                        by_cases c19 : (rd l0 x9_2) = a2
                        · rw [if_pos c19] at H
                          have c19b0 : ((rd l0 x9_2) == a2) = true := beq_iff_eq.mpr c19
                          have c19b1 : ((rd l0 x9_2) != a2) = false := bne_eq_false_iff_eq.mpr c19
                          clear c19
                          obtain rfl := Option.some.inj H
                          have p206 : 0 ≤ (x9_2 : Int) := of_decide_eq_true (by first | (with_reducible assumption) | assumption)
                          have q206 : x9_2 < (l0.length : Int) := of_decide_eq_true (by first | (with_reducible assumption) | assumption)
                          obtain ⟨ad206, e206, hx206_0⟩ := Kd.at_int HR0.out x9_2 p206 q206
                          cases e206
                          replace p206 := eq_true p206
                          replace q206 := eq_true q206
                          have p207 : 0 ≤ (a1 : Int) := of_decide_eq_true (by first | (with_reducible assumption) | assumption)
                          have q207 : a1 < (l0.length : Int) := of_decide_eq_true (by first | (with_reducible assumption) | assumption)
                          obtain ⟨ad207, e207, hx207_0⟩ := Kd.at_int HR0.out a1 p207 q207
                          obtain rfl : ad206 = ad207 := (by injection e207)
                          replace p207 := eq_true p207
                          replace q207 := eq_true q207
                          have p208 : 0 ≤ (x9_2 : Int) := of_decide_eq_true (by first | (with_reducible assumption) | assumption)
                          have q208 : x9_2 < (l0.length : Int) := of_decide_eq_true (by first | (with_reducible assumption) | assumption)
                          obtain ⟨ad208, e208, hx208_0⟩ := Kd.at_int HR0.out x9_2 p208 q208
                          obtain rfl : ad206 = ad208 := (by injection e208)
                          replace p208 := eq_true p208
                          replace q208 := eq_true q208
                          go_wp2
                          repeat (go_quiet (fail); try go_wp2)
                          go_ret
                          exact ⟨by first | rfl | (simp; done) | (simp [*]; done), by repeat (first | exact Drawn0.refl _ | apply Drawn0.step)⟩
                        · rw [if_neg c19] at H
                          have c19b0 : ((rd l0 x9_2) == a2) = false := beq_eq_false_iff_ne.mpr c19
                          have c19b1 : ((rd l0 x9_2) != a2) = true := bne_iff_ne.mpr c19
                          have H' := Aside0.mk H
                          clear H
                          have p206 : 0 ≤ (x9_2 : Int) := of_decide_eq_true (by first | (with_reducible assumption) | assumption)
                          have q206 : x9_2 < (l0.length : Int) := of_decide_eq_true (by first | (with_reducible assumption) | assumption)
                          obtain ⟨ad206, e206, hx206_0⟩ := Kd.at_int HR0.out x9_2 p206 q206
                          cases e206
                          replace p206 := eq_true p206
                          replace q206 := eq_true q206
                          have p207 : 0 ≤ (a1 : Int) := of_decide_eq_true (by first | (with_reducible assumption) | assumption)
                          have q207 : a1 < (l0.length : Int) := of_decide_eq_true (by first | (with_reducible assumption) | assumption)
                          obtain ⟨ad207, e207, hx207_0⟩ := Kd.at_int HR0.out a1 p207 q207
                          obtain rfl : ad206 = ad207 := (by injection e207)
                          replace p207 := eq_true p207
                          replace q207 := eq_true q207
                          have p208 : 0 ≤ (x9_2 : Int) := of_decide_eq_true (by first | (with_reducible assumption) | assumption)
                          have q208 : x9_2 < (l0.length : Int) := of_decide_eq_true (by first | (with_reducible assumption) | assumption)
                          obtain ⟨ad208, e208, hx208_0⟩ := Kd.at_int HR0.out x9_2 p208 q208
                          obtain rfl : ad206 = ad208 := (by injection e208)
                          replace p208 := eq_true p208
                          replace q208 := eq_true q208
                          go_wp2
                          repeat (go_quiet (fail); try go_wp2)
                          go_roundg k2
                          case measure => have := HJ4.out; have := HK2.out; omega
                          case rel => exact ⟨(wrap64 (x9_2 + 1)), (by first | rfl | (simp; done) | (simp [*]; done)), H', ⟨by have := HJ4.out; have := HK2.out; omega⟩, by repeat (first | exact Drawn0.refl _ | apply Drawn0.step)⟩
                    · rw [if_neg c17] at H
                      exact absurd H (by simp)
                  · rw [if_neg c16] at H
                    exact absurd H (by simp)
                · rw [if_neg c15] at H
                  exact absurd H (by simp)
              · rw [if_neg c14] at H
                exact absurd H (by simp)
            · rw [if_neg c13] at H
              have c13b0 : decide (x9_2 < a1) = false := decide_eq_false c13
              clear c13
              obtain rfl := Option.some.inj H
              go_wp2
              repeat (go_quiet (fail); try go_wp2)
              go_ret
              exact ⟨by first | rfl | (simp; done) | (simp [*]; done), by repeat (first | exact Drawn0.refl _ | apply Drawn0.step)⟩

end Go.Proofs.YtnaaomhmoamfpaaDoor.Q
namespace Go.Proofs.YtnaaomhmoamfpaaDoor.G
end Go.Proofs.YtnaaomhmoamfpaaDoor.G
namespace Go.Proofs.YtnaaomhmoamfpaaDoor.Q
set_option linter.unusedVariables false
set_option linter.unusedSimpArgs false
set_option linter.unusedSectionVars false
open Go.Proofs.YtnaaomhmoamfpaaDoor.G
open Go.RowKit Go.Proofs.YtnaaomhmoamfpaaDoorW.PrintWords Go.Proofs.YtnaaomhmoamfpaaDoorW.PrintLast Go.Proofs.YtnaaomhmoamfpaaDoorW.PrintMore
attribute [local go_sem] max2_int min2_int max_two min_two max_three min_three max_four min_four   -- for this text's walks alone

/-! ### bibelotref03_Play: function 57 -/
def bibelotref03_Play.l0 : Nat → List (S52) → Int → List Int → Int → Option (List Int × Int)
  | 0, _, _, _, _ => none
  | k + 1, x1, x2, x8, x9 => if x9 < (x1.length : Int) then (if 0 ≤ x9 then ((bibelotref03_Can.f k x8 ((rd_T52 x1 x9).f0) ((rd_T52 x1 x9).f1) x2).bind fun t400 => (if t400 = true then (if 0 ≤ ((rd_T52 x1 x9).f0) then (if ((rd_T52 x1 x9).f0) < (x8.length : Int) then (bibelotref03_Play.l0 k x1 x2 (x8.set (((rd_T52 x1 x9).f0) : Int).toNat ((rd_T52 x1 x9).f1)) (wrap64 (x9 + 1))) else (none)) else (none)) else (some (x8, x9)))) else (none)) else (some (x8, (x1.length : Int)))
def bibelotref03_Play.f (k : Nat) (l0 : List Int) (l1 : List (S52)) (a2 : Int) : Option (List Int × Int) := if ([] : List Int).length + l0.length < 17592186044416 then (bibelotref03_Play.l0 k l1 a2 (([] : List Int) ++ l0) 0) else (none)
theorem bibelotref03_Play.mono_l : ∀ k, (∀ y0 y1 y2 y3, LeO (bibelotref03_Play.l0 k y0 y1 y2 y3) (bibelotref03_Play.l0 (k + 1) y0 y1 y2 y3))
  | 0 => fun _ _ _ _ r h => by simp [bibelotref03_Play.l0] at h
  | k + 1 => by
    have ih0 := bibelotref03_Play.mono_l k
    · intro y0 y1 y2 y3
      unfold bibelotref03_Play.l0
      repeat' first
      | (with_reducible exact ih0 _ _ _ _)
      | (with_reducible exact bibelotref03_Can.mono _ _ _ _ _)
      | (with_reducible exact LeO.refl _)
      | (with_reducible exact LeO.none _)
      | (with_reducible refine LeO.ite ?_ ?_)
      | (with_reducible refine LeO.bind ?_ (fun _ => ?_))
      | exact ih0 _ _ _ _
      | exact bibelotref03_Can.mono _ _ _ _ _
      | exact LeO.none _
      | refine LeO.ite ?_ ?_
      | refine LeO.bind ?_ (fun _ => ?_)
theorem bibelotref03_Play.mono : ∀ a0 a1 a2 k, LeO (bibelotref03_Play.f k a0 a1 a2) (bibelotref03_Play.f (k + 1) a0 a1 a2) := by
  intro a0 a1 a2 k
  have ih0 := bibelotref03_Play.mono_l k
  unfold bibelotref03_Play.f
  repeat' first
      | (with_reducible exact ih0 _ _ _ _)
      | (with_reducible exact bibelotref03_Can.mono _ _ _ _ _)
      | (with_reducible exact LeO.refl _)
      | (with_reducible exact LeO.none _)
      | (with_reducible refine LeO.ite ?_ ?_)
      | (with_reducible refine LeO.bind ?_ (fun _ => ?_))
      | exact ih0 _ _ _ _
      | exact bibelotref03_Can.mono _ _ _ _ _
      | exact LeO.none _
      | refine LeO.ite ?_ ?_
      | refine LeO.bind ?_ (fun _ => ?_)
def bibelotref03_Play.T6 : Bool × List (List Nat × List Nat) := (true, [([], []), ([], []), ([], []), ([1, 2], [1, 2]), ([3], [3]), ([4], [4]), ([], []), ([], []), ([6, 7], [6, 7]), ([8], [8]), ([9], [9]), ([], []), ([0, 5, 10, 11], [0, 5, 10, 11]), ([12], [12])])
def bibelotref03_Play.B6 : List Nat := [0, 0, 0, 6, 14, 30, 0, 0, 192, 448, 960, 0, 4095, 8191]
theorem bibelotref03_Play.tab6 : rtab .any (opsOf Tryd.f57 6) = bibelotref03_Play.T6 := by kernel_rfl
theorem bibelotref03_Play.bits6 : waitsOk bibelotref03_Play.T6.2 bibelotref03_Play.B6 = true := by kernel_rfl
def bibelotref03_Play.T8 : Bool × List (List Nat × List Nat) := (true, [([], []), ([], []), ([], []), ([1, 2], [1, 2]), ([3], [3]), ([4], [4]), ([], []), ([], []), ([6, 7], [6, 7]), ([8], [8]), ([9], [9]), ([0, 5, 0, 1, 2, 3, 4, 5, 6, 7, 8, 9, 10], [0, 5]), ([11, 10, 0, 1, 2, 3, 4, 5, 6, 7, 8, 9, 10], [10, 11])])
def bibelotref03_Play.B8 : List Nat := [0, 0, 0, 6, 14, 30, 0, 0, 192, 448, 960, 2047, 4095]
theorem bibelotref03_Play.tab8 : rtab .any (opsOf Tryd.f57 8) = bibelotref03_Play.T8 := by kernel_rfl
theorem bibelotref03_Play.bits8 : waitsOk bibelotref03_Play.T8.2 bibelotref03_Play.B8 = true := by kernel_rfl
set_option maxHeartbeats 8000000 in
set_option maxRecDepth 100000 in
theorem bibelotref03_Play.calls (k : Nat) (A0 : Option Addr) (c0 : Nat) (l0 : List Int) (A1 : Option Addr) (c1 : Nat) (l1 : List (S52)) (a2 : Int) (r1 : List Int) (r2 : Int) (w : World) (hr0 : Kd.C (Kd.int .i64) w A0 l0.length l0) (hc0 : l0.length ≤ c0) (hr1 : Kd.C k52 w A1 l1.length l1) (hc1 : l1.length ≤ c1) (h : bibelotref03_Play.f k l0 l1 a2 = some (r1, r2)) :
    Calls Tryd.prog 57 #[.slice A0 l0.length c0, .slice A1 l1.length c1, .int .i64 a2] w fun e w' => ∃ v0_ : Value, e = .returned (.tuple #[v0_, .int .i64 r2]) ∧ Kd.R (Kd.int .i64) 3 w' w.heap.size (fun _ => True) v0_ r1 ∧ Below w.heap.size w w' := by
  have HR0 := Aside0.mk hr0
  have HC0 := Aside0.mk hc0
  clear hr0 hc0
  have HR1 := Aside0.mk hr1
  have HC1 := Aside0.mk hc1
  clear hr1 hc1
  have HB := Aside0.mk (Below.refl w.heap.size w)
  have H : (if ([] : List Int).length + l0.length < 17592186044416 then (bibelotref03_Play.l0 k l1 a2 (([] : List Int) ++ l0) 0) else (none)) = some (r1, r2) := h
  clear h
  by_cases c4 : ([] : List Int).length + l0.length < 17592186044416
  · rw [if_pos c4] at H
    have LMc4 := Aside0.mk c4
    clear c4
    obtain ⟨y395, hy395⟩ : ∃ y_ : List Int, y_ = (([] : List Int) ++ l0) := ⟨_, rfl⟩
    replace H : (bibelotref03_Play.l0 k l1 a2 y395 0) = some (r1, r2) := by first | (rw [hy395]; with_reducible exact H) | (have H2_ := (Option.bind_some _ _).symm.trans H; rw [hy395]; with_reducible exact H2_) | (have H2_ := (Option.bind_some _ _).symm.trans H; with_reducible exact H2_) | with_reducible exact H | (rw [hy395]; exact H) | exact H
    have Ny395 := Aside0.mk hy395
    clear hy395
    have H' := Aside0.mk H
    clear H
    go_enter Tryd.func57, Tryd.ntmps57
    go_wp2_with (first | ((with_reducible refine gate_builtin (b := .append) (xs := #[.tmp 10, .tmp 11]) rfl ?_); at_builtin; refine Kd.R_append_rows (Kd.int .i64) (w0 := w) w.heap.size rfl (.tmp 10) (.tmp 11) 46 3 (.int .i64 0) 8 rfl Tryd.underlying46 info3 rfl (by decide) (by omega) (.slice none 0 0) ([] : List Int) l0 _ _ _ (fun _ => True) (fun _ => False) rfl rfl ?aO ?aR (fun _ _ h => h) (fun _ h => h.elim) ?aF ?aB ?aS ?aL ?_; (case aR => repeat (first | exact HR0.out | (with_reducible refine Kd.C_alloc ?_ _) | (with_reducible refine Kd.C_drewN ?_ _) | (with_reducible refine Kd.C_drew ?_))); (case aB => exact (by repeat (first | (with_reducible first | exact HB.out | apply below_alloc | apply pw_below_drewN | apply below_drew1) | exact HB.out))); (case aF => exact (fun _ _ => trivial)); (case aO => exact ((Kd.R_nil _ _ _ _ (fun _ => True)))); (case aS => exact (below_size (by repeat (first | (with_reducible first | exact HB.out | apply below_alloc | apply pw_below_drewN | apply below_drew1) | exact HB.out)))); (case aL => have := LMc4.out; omega); intro v396 w5 ho hb hg hat; rw [← Ny395.out] at ho; have n0_ := Aside0.mk (hb); have n1_ := Aside0.mk (ho); clear HB; have HB := n0_; have HO397 := n1_; clear n0_ n1_; clear ho hb hg hat))
    go_loopg [9] k (fun kq v9 w' => ∃ (x8_1 : List Int) (x9_1 : Int), v9 = .int .i64 x9_1 ∧ Aside0 (bibelotref03_Play.l0 kq l1 a2 x8_1 x9_1 = some (r1, r2)) ∧ Aside0 (kq ≤ k) ∧ Aside0 (Kd.R (Kd.int .i64) 3 w' w.heap.size (fun _ => True) v396 x8_1) ∧ Aside0 (Below w.heap.size w w'))
    case atStart => exact ⟨(y395), (0), (by first | rfl | (simp; done) | (simp [*]; done)), H', ⟨Nat.le_refl _⟩, ⟨by (with_reducible repeat (first | apply Kd.R_alloc | apply Kd.R_drewN | apply Kd.R_drew)); exact HO397.out⟩, ⟨by repeat (first | (with_reducible first | exact HB.out | apply below_alloc | apply pw_below_drewN | apply below_drew1) | exact HB.out)⟩⟩
    case round =>
      clear H'
      try clear c1
      try clear p2
      try clear c4
      try clear c5
      obtain ⟨x8_1, x9_1, rfl, HA, HK1, HO_8, HB⟩ := hrel
      cases gk with
      | zero => exact absurd HA.out (by simp [bibelotref03_Play.l0])
      | succ k1 =>
        have H := HA.out
        clear HA
        simp only [bibelotref03_Play.l0] at H
        by_cases c6 : x9_1 < (l1.length : Int)
        · rw [if_pos c6] at H
          have c6b0 : decide (x9_1 < (l1.length : Int)) = true := decide_eq_true c6
          clear c6
          by_cases c7 : 0 ≤ x9_1
          · rw [if_pos c7] at H
            have c7b0 : decide (0 ≤ x9_1) = true := decide_eq_true c7
            clear c7
            replace H := Option.bind_eq_some_iff.mp H
            obtain ⟨t400, A80, H⟩ := H
            replace H : (if t400 = true then (if 0 ≤ ((rd_T52 l1 x9_1).f0) then (if ((rd_T52 l1 x9_1).f0) < (x8_1.length : Int) then (bibelotref03_Play.l0 k1 l1 a2 (x8_1.set (((rd_T52 l1 x9_1).f0) : Int).toNat ((rd_T52 l1 x9_1).f1)) (wrap64 (x9_1 + 1))) else (none)) else (none)) else (some (x8_1, x9_1))) = some (r1, r2) := H
            have A8 := Aside0.mk A80
            clear A80
            by_cases c9 : t400 = true
            · subst c9
              have H1 : (if 0 ≤ ((rd_T52 l1 x9_1).f0) then (if ((rd_T52 l1 x9_1).f0) < (x8_1.length : Int) then (bibelotref03_Play.l0 k1 l1 a2 (x8_1.set (((rd_T52 l1 x9_1).f0) : Int).toNat ((rd_T52 l1 x9_1).f1)) (wrap64 (x9_1 + 1))) else (none)) else (none)) = some (r1, r2) := by rw [if_pos rfl] at H; exact H
              clear H
              have H := H1
              clear H1
              by_cases c10 : 0 ≤ ((rd_T52 l1 x9_1).f0)
              · rw [if_pos c10] at H
                have c10b0 : decide (0 ≤ ((rd_T52 l1 x9_1).f0)) = true := decide_eq_true c10
                clear c10
                by_cases c11 : ((rd_T52 l1 x9_1).f0) < (x8_1.length : Int)
                · rw [if_pos c11] at H
                  have c11b0 : decide (((rd_T52 l1 x9_1).f0) < (x8_1.length : Int)) = true := decide_eq_true c11
                  clear c11
                  obtain ⟨y403, hy403⟩ : ∃ y_ : List Int, y_ = (x8_1.set (((rd_T52 l1 x9_1).f0) : Int).toNat ((rd_T52 l1 x9_1).f1)) := ⟨_, rfl⟩
                  replace H : (bibelotref03_Play.l0 k1 l1 a2 y403 (wrap64 (x9_1 + 1))) = some (r1, r2) := by first | (rw [hy403]; with_reducible exact H) | (have H2_ := (Option.bind_some _ _).symm.trans H; rw [hy403]; with_reducible exact H2_) | (have H2_ := (Option.bind_some _ _).symm.trans H; with_reducible exact H2_) | with_reducible exact H | (rw [hy403]; exact H) | exact H
                  have Ny403 := Aside0.mk hy403
                  clear hy403
                  have H' := Aside0.mk H
                  clear H
                  try go_wp2
                  have n0_ := Aside0.mk (Kd.R_drew HO_8.out)
                  have n1_ := Aside0.mk (below_drew1 HB.out)
                  clear HO_8
                  clear HB
                  have HO_8 := n0_
                  have HB := n1_
                  clear n0_ n1_
                  have p398 : 0 ≤ (x9_1 : Int) := of_decide_eq_true (by first | (with_reducible assumption) | assumption)
                  have q398 : x9_1 < (l1.length : Int) := of_decide_eq_true (by first | (with_reducible assumption) | assumption)
                  obtain ⟨ad398, e398, hx398_0, hx398_1⟩ := at_T52 HR1.out x9_1 p398 q398
                  have hw398_1 := hx398_1
                  have hw398_0 := hx398_0
                  cases e398
                  replace hx398_0 := (HB.out.cell (World.block_lt_of_cell? w _ hx398_0)).trans hx398_0
                  replace hx398_1 := (HB.out.cell (World.block_lt_of_cell? w _ hx398_1)).trans hx398_1
                  replace p398 := eq_true p398
                  replace q398 := eq_true q398
                  have p399 : 0 ≤ (x9_1 : Int) := of_decide_eq_true (by first | (with_reducible assumption) | assumption)
                  have q399 : x9_1 < (l1.length : Int) := of_decide_eq_true (by first | (with_reducible assumption) | assumption)
                  obtain ⟨ad399, e399, hx399_0, hx399_1⟩ := at_T52 HR1.out x9_1 p399 q399
                  have hw399_1 := hx399_1
                  have hw399_0 := hx399_0
                  obtain rfl : ad398 = ad399 := (by injection e399)
                  replace hx399_0 := (HB.out.cell (World.block_lt_of_cell? w _ hx399_0)).trans hx399_0
                  replace hx399_1 := (HB.out.cell (World.block_lt_of_cell? w _ hx399_1)).trans hx399_1
                  replace p399 := eq_true p399
                  replace q399 := eq_true q399
                  obtain ⟨Ao14, co14, eo14⟩ := Kd.R_slice HO_8.out
                  (first | subst eo14 | (injection eo14 with f1_ f2_ f3_; have f4_ := f1_.symm; have f5_ := f3_.symm; clear f1_ f2_ f3_; subst f4_; subst f5_))
                  refine start_ (n := 14) (S := fun w' => w'.cell? (ad398.add ((x9_1).toNat * 2)) = some (.int .i64 ((rd_T52 l1 x9_1).f0)) ∧ w'.cell? ⟨(ad398.add ((x9_1).toNat * 2)).block, (ad398.add ((x9_1).toNat * 2)).off + 1, none⟩ = some (.int .i64 ((rd_T52 l1 x9_1).f1)) ∧ w'.cell? (ad398.add ((x9_1).toNat * 2)) = some (.int .i64 ((rd_T52 l1 x9_1).f0)) ∧ w'.cell? ⟨(ad398.add ((x9_1).toNat * 2)).block, (ad398.add ((x9_1).toNat * 2)).off + 1, none⟩ = some (.int .i64 ((rd_T52 l1 x9_1).f1))) (ds := []) #[false, false, false, false, false, false, false, false, false, false, false, false, false, false] (by kernel_rfl) rfl rfl ⟨((HB.out.cell (World.block_lt_of_cell? w _ hw398_0)).trans hw398_0), ((HB.out.cell (World.block_lt_of_cell? w _ hw398_1)).trans hw398_1), ((HB.out.cell (World.block_lt_of_cell? w _ hw399_0)).trans hw399_0), ((HB.out.cell (World.block_lt_of_cell? w _ hw399_1)).trans hw399_1)⟩ (fun hHeld => ?_); refine with_tabW bibelotref03_Play.tab6 bibelotref03_Play.bits6 (fun HT_ HW_ => ?_)
                  generalize wr.drew = w13 at HO_8 HB hx398_0 hx398_1 hx399_0 hx399_1 hHeld ⊢
                  refine pure_ (i := 0) (N := some 19) (v := ?_) (a' := ?_) #[true, false, false, false, false, false, false, false, false, false, false, false, false, false] rfl rfl (any_of HT_.out (by kernel_rfl)) (fun _ _ _ h => h) (Or.inl ⟨by rfl, ?_⟩) ?_ ?_
                  rotate_left
                  · intro w'
                    go_simp
                    with_reducible rfl
                  rotate_left
                  · simp only [Act.put, List.setIfInBounds_toArray, List.set_cons_zero, List.set_cons_succ, i64_w, i32_w]
                    rfl
                  refine pure_ (i := 1) (N := some 20) (v := ?_) (a' := ?_) #[true, true, false, false, false, false, false, false, false, false, false, false, false, false] rfl rfl (any_of HT_.out (by kernel_rfl)) (fun _ _ _ h => h) (Or.inl ⟨by rfl, ?_⟩) ?_ ?_
                  rotate_left
                  · intro w'
                    go_simp
                    with_reducible rfl
                  rotate_left
                  · simp only [Act.put, List.setIfInBounds_toArray, List.set_cons_zero, List.set_cons_succ, i64_w, i32_w]
                    rfl
                  refine pure_ (i := 2) (N := some 21) (v := ?_) (a' := ?_) #[true, true, true, false, false, false, false, false, false, false, false, false, false, false] rfl rfl (any_of HT_.out (by kernel_rfl)) (fun _ _ _ h => h) (Or.inl ⟨by rfl, ?_⟩) ?_ ?_
                  rotate_left
                  · intro w'
                    go_simp
                    with_reducible rfl
                  rotate_left
                  · simp only [Act.put, List.setIfInBounds_toArray, List.set_cons_zero, List.set_cons_succ, i64_w, i32_w]
                    rfl
                  refine pure_ (i := 3) (N := some 22) (v := ?_) (a' := ?_) #[true, true, true, true, false, false, false, false, false, false, false, false, false, false] rfl rfl (any_of HT_.out (by kernel_rfl)) (fun _ _ _ h => h) (Or.inl ⟨by rfl, ?_⟩) ?_ ?_
                  rotate_left
                  · intro w'
                    go_simp
                    with_reducible rfl
                  rotate_left
                  · simp only [Act.put, List.setIfInBounds_toArray, List.set_cons_zero, List.set_cons_succ, i64_w, i32_w]
                    rfl
                  refine pure_ (i := 4) (N := some 23) (v := ?_) (a' := ?_) #[true, true, true, true, true, false, false, false, false, false, false, false, false, false] rfl rfl (any_of HT_.out (by kernel_rfl)) (fun _ _ _ h => h) (Or.inl ⟨by rfl, ?_⟩) ?_ ?_
                  rotate_left
                  · intro w'
                    go_simp
                    with_reducible rfl
                  rotate_left
                  · simp only [Act.put, List.setIfInBounds_toArray, List.set_cons_zero, List.set_cons_succ, i64_w, i32_w]
                    rfl
                  refine pure_ (i := 6) (N := some 25) (v := ?_) (a' := ?_) #[true, true, true, true, true, false, true, false, false, false, false, false, false, false] rfl rfl (any_of HT_.out (by kernel_rfl)) (fun _ _ _ h => h) (Or.inl ⟨by rfl, ?_⟩) ?_ ?_
                  rotate_left
                  · intro w'
                    go_simp
                    with_reducible rfl
                  rotate_left
                  · simp only [Act.put, List.setIfInBounds_toArray, List.set_cons_zero, List.set_cons_succ, i64_w, i32_w]
                    rfl
                  refine pure_ (i := 7) (N := some 26) (v := ?_) (a' := ?_) #[true, true, true, true, true, false, true, true, false, false, false, false, false, false] rfl rfl (any_of HT_.out (by kernel_rfl)) (fun _ _ _ h => h) (Or.inl ⟨by rfl, ?_⟩) ?_ ?_
                  rotate_left
                  · intro w'
                    go_simp
                    with_reducible rfl
                  rotate_left
                  · simp only [Act.put, List.setIfInBounds_toArray, List.set_cons_zero, List.set_cons_succ, i64_w, i32_w]
                    rfl
                  refine pure_ (i := 8) (N := some 27) (v := ?_) (a' := ?_) #[true, true, true, true, true, false, true, true, true, false, false, false, false, false] rfl rfl (any_of HT_.out (by kernel_rfl)) (fun _ _ _ h => h) (Or.inl ⟨by rfl, ?_⟩) ?_ ?_
                  rotate_left
                  · intro w'
                    go_simp
                    with_reducible rfl
                  rotate_left
                  · simp only [Act.put, List.setIfInBounds_toArray, List.set_cons_zero, List.set_cons_succ, i64_w, i32_w]
                    rfl
                  refine pure_ (i := 9) (N := some 28) (v := ?_) (a' := ?_) #[true, true, true, true, true, false, true, true, true, true, false, false, false, false] rfl rfl (any_of HT_.out (by kernel_rfl)) (fun _ _ _ h => h) (Or.inl ⟨by rfl, ?_⟩) ?_ ?_
                  rotate_left
                  · intro w'
                    go_simp
                    with_reducible rfl
                  rotate_left
                  · simp only [Act.put, List.setIfInBounds_toArray, List.set_cons_zero, List.set_cons_succ, i64_w, i32_w]
                    rfl
                  refine pure_ (i := 11) (N := some 30) (v := ?_) (a' := ?_) #[true, true, true, true, true, false, true, true, true, true, false, true, false, false] rfl rfl (any_of HT_.out (by kernel_rfl)) (fun _ _ _ h => h) (Or.inl ⟨by rfl, ?_⟩) ?_ ?_
                  rotate_left
                  · intro w'
                    go_simp
                    with_reducible rfl
                  rotate_left
                  · simp only [Act.put, List.setIfInBounds_toArray, List.set_cons_zero, List.set_cons_succ, i64_w, i32_w]
                    rfl
                  refine take_ (i := 5) (N := some 24) (v := ?_) (a' := ?_) #[true, true, true, true, true, true, true, true, true, true, false, true, false, false] rfl rfl (take_ofW HT_.out HW_.out (by kernel_rfl)) (fun _ _ _ h => h) (Or.inl ⟨by rfl, ?_⟩) hHeld ?_ ?_
                  rotate_left
                  · rintro w' ⟨s0, s1, s2, s3⟩
                    go_simp
                    with_reducible rfl
                  rotate_left
                  · simp only [Act.put, List.setIfInBounds_toArray, List.set_cons_zero, List.set_cons_succ, i64_w, i32_w]
                    rfl
                  refine take_ (i := 10) (N := some 29) (v := ?_) (a' := ?_) #[true, true, true, true, true, true, true, true, true, true, true, true, false, false] rfl rfl (take_ofW HT_.out HW_.out (by kernel_rfl)) (fun _ _ _ h => h) (Or.inl ⟨by rfl, ?_⟩) hHeld ?_ ?_
                  rotate_left
                  · rintro w' ⟨s0, s1, s2, s3⟩
                    go_simp
                    with_reducible rfl
                  rotate_left
                  · simp only [Act.put, List.setIfInBounds_toArray, List.set_cons_zero, List.set_cons_succ, i64_w, i32_w]
                    rfl
                  refine one_ (i := 12) (N := some 31) #[true, true, true, true, true, true, true, true, true, true, true, true, true, false] rfl rfl (one_of HT_.out (by kernel_rfl)) (by decide) (fun K hK => ?_)
                  refine goes_ Tryd.func72 (by kernel_rfl) rfl #[.slice Ao14 x8_1.length co14, .int .i64 ((rd_T52 l1 x9_1).f0), .int .i64 ((rd_T52 l1 x9_1).f1), .int .i64 a2] (by rfl) rfl rfl (by (try simp only [List.map_toArray, List.map_cons, List.map_nil]); first | done | rfl | (simp only [List.length_drop, List.length_take]; rfl)) ?_
                  with_reducible refine (bibelotref03_Can.calls k1 _ _ x8_1 ((rd_T52 l1 x9_1).f0) ((rd_T52 l1 x9_1).f1) a2 true _ ?side1 ?side2 A8.out).mono ?_
                  (case side1 => repeat (first | exact (Kd.R_reads' HO_8.out).2.2 | (with_reducible refine Kd.C_alloc ?_ _) | (with_reducible refine Kd.C_drewN ?_ _) | (with_reducible refine Kd.C_drew ?_)))
                  (case side2 => exact (Kd.R_reads' HO_8.out).2.1)
                  rintro e w' ⟨rfl, ⟨nd, rfl⟩⟩
                  refine ⟨_, rfl, ?_⟩
                  refine hK.out _ _ ⟨((HB.out.cell (World.block_lt_of_cell? w _ hw398_0)).trans hw398_0), ((HB.out.cell (World.block_lt_of_cell? w _ hw398_1)).trans hw398_1), ((HB.out.cell (World.block_lt_of_cell? w _ hw399_0)).trans hw399_0), ((HB.out.cell (World.block_lt_of_cell? w _ hw399_1)).trans hw399_1)⟩ (fun hHeld => ?_)
                  clear hK K
                  refine norm_ (a' := ?_) ?_ ?_
                  rotate_left
                  · show Act.put _ (some 31) _ = _
                    simp only [Act.put, List.setIfInBounds_toArray, List.set_cons_zero, List.set_cons_succ, i64_w, i32_w]
                    rfl
                  refine pure_ (i := 13) (N := some 32) (v := ?_) (a' := ?_) #[true, true, true, true, true, true, true, true, true, true, true, true, true, true] rfl rfl (any_of HT_.out (by kernel_rfl)) (fun _ _ _ h => h) (Or.inl ⟨by rfl, ?_⟩) ?_ ?_
                  rotate_left
                  · intro w'
                    go_simp
                    with_reducible rfl
                  rotate_left
                  · simp only [Act.put, List.setIfInBounds_toArray, List.set_cons_zero, List.set_cons_succ, i64_w, i32_w]
                    rfl
                  refine done_ (done_of HT_.out (by kernel_rfl)) ?_
                  try go_wp2
                  (try (rw [drewN_self w13]; generalize hq_ : World.drewN w13 _ = w13; have n0_ : Aside0 (Kd.R (Kd.int .i64) 3 w13 w.heap.size (fun _ => True) (.slice Ao14 x8_1.length co14) x8_1) := ⟨by rw [← hq_]; exact (by (with_reducible repeat (first | apply Kd.R_alloc | apply Kd.R_drewN | apply Kd.R_drew)); exact HO_8.out)⟩; have n1_ : Aside0 (Below w.heap.size w w13) := ⟨by rw [← hq_]; exact (by repeat (first | (with_reducible first | exact HB.out | apply below_alloc | apply pw_below_drewN | apply below_drew1) | exact HB.out))⟩; clear HO_8 HB hq_; have HO_8 := n0_; have HB := n1_; clear n0_ n1_))
                  have n0_ := Aside0.mk (Kd.R_drew HO_8.out)
                  have n1_ := Aside0.mk (below_drew1 HB.out)
                  clear HO_8
                  clear HB
                  have HO_8 := n0_
                  have HB := n1_
                  clear n0_ n1_
                  have p401 : 0 ≤ (x9_1 : Int) := of_decide_eq_true (by first | (with_reducible assumption) | assumption)
                  have q401 : x9_1 < (l1.length : Int) := of_decide_eq_true (by first | (with_reducible assumption) | assumption)
                  obtain ⟨ad401, e401, hx401_0, hx401_1⟩ := at_T52 HR1.out x9_1 p401 q401
                  have hw401_1 := hx401_1
                  have hw401_0 := hx401_0
                  obtain rfl : ad398 = ad401 := (by injection e401)
                  replace hx401_0 := (HB.out.cell (World.block_lt_of_cell? w _ hx401_0)).trans hx401_0
                  replace hx401_1 := (HB.out.cell (World.block_lt_of_cell? w _ hx401_1)).trans hx401_1
                  replace p401 := eq_true p401
                  replace q401 := eq_true q401
                  have p402 : 0 ≤ (x9_1 : Int) := of_decide_eq_true (by first | (with_reducible assumption) | assumption)
                  have q402 : x9_1 < (l1.length : Int) := of_decide_eq_true (by first | (with_reducible assumption) | assumption)
                  obtain ⟨ad402, e402, hx402_0, hx402_1⟩ := at_T52 HR1.out x9_1 p402 q402
                  have hw402_1 := hx402_1
                  have hw402_0 := hx402_0
                  obtain rfl : ad398 = ad402 := (by injection e402)
                  replace hx402_0 := (HB.out.cell (World.block_lt_of_cell? w _ hx402_0)).trans hx402_0
                  replace hx402_1 := (HB.out.cell (World.block_lt_of_cell? w _ hx402_1)).trans hx402_1
                  replace p402 := eq_true p402
                  replace q402 := eq_true q402
                  have p12 : 0 ≤ (((rd_T52 l1 x9_1).f0) : Int) := of_decide_eq_true (by first | (with_reducible assumption) | assumption)
                  have q12 : (((rd_T52 l1 x9_1).f0) : Int) < ((x8_1.length : Int) : Int) := of_decide_eq_true (by first | (with_reducible assumption) | assumption)
                  obtain ⟨go12, co12, eo12, gb12, gl12, cl12, HG12⟩ := Kd.R_form HO_8.out (by omega)
                  (first | cases eo12 | (injection eo12 with ea_ en_ ec_; (first | subst ea_ | (injection ea_ with ea_; subst ea_)); subst ec_; clear en_))
                  have GB12 := Aside0.mk gb12
                  have GG12 := Aside0.mk HG12
                  clear gb12 gl12 HG12
                  obtain ⟨hx12_0, hf12_0⟩ := Kd.R_celln 0 HO_8.out (((rd_T52 l1 x9_1).f0) : Int) p12 q12
                  replace p12 := eq_true p12
                  replace q12 := eq_true q12
                  have HP16 := Kd.R_putn HO_8.out (((rd_T52 l1 x9_1).f0) : Int) ((rd_T52 l1 x9_1).f1)
                  rw [← Ny403.out] at HP16
                  have HQ16 := Aside0.mk HP16
                  clear HP16
                  refine start_ (n := 13) (S := fun w' => w'.cell? (ad398.add ((x9_1).toNat * 2)) = some (.int .i64 ((rd_T52 l1 x9_1).f0)) ∧ w'.cell? ⟨(ad398.add ((x9_1).toNat * 2)).block, (ad398.add ((x9_1).toNat * 2)).off + 1, none⟩ = some (.int .i64 ((rd_T52 l1 x9_1).f1)) ∧ w'.cell? (ad398.add ((x9_1).toNat * 2)) = some (.int .i64 ((rd_T52 l1 x9_1).f0)) ∧ w'.cell? ⟨(ad398.add ((x9_1).toNat * 2)).block, (ad398.add ((x9_1).toNat * 2)).off + 1, none⟩ = some (.int .i64 ((rd_T52 l1 x9_1).f1))) (ds := [12]) #[false, false, false, false, false, false, false, false, false, false, false, false, false] (by kernel_rfl) rfl rfl ⟨((HB.out.cell (World.block_lt_of_cell? w _ hw401_0)).trans hw401_0), ((HB.out.cell (World.block_lt_of_cell? w _ hw401_1)).trans hw401_1), ((HB.out.cell (World.block_lt_of_cell? w _ hw402_0)).trans hw402_0), ((HB.out.cell (World.block_lt_of_cell? w _ hw402_1)).trans hw402_1)⟩ (fun hHeld => ?_); refine with_tabW bibelotref03_Play.tab8 bibelotref03_Play.bits8 (fun HT_ HW_ => ?_)
                  generalize w13.drew = w15 at HO_8 HB GG12 HQ16 hf12_0 hx12_0 hx401_0 hx401_1 hx402_0 hx402_1 hHeld ⊢
                  refine pure_ (i := 0) (N := some 35) (v := ?_) (a' := ?_) #[true, false, false, false, false, false, false, false, false, false, false, false, false] rfl rfl (any_of HT_.out (by kernel_rfl)) (fun _ _ _ h => h) (Or.inl ⟨by rfl, ?_⟩) ?_ ?_
                  rotate_left
                  · intro w'
                    go_simp
                    with_reducible rfl
                  rotate_left
                  · simp only [Act.put, List.setIfInBounds_toArray, List.set_cons_zero, List.set_cons_succ, i64_w, i32_w]
                    rfl
                  refine pure_ (i := 1) (N := some 36) (v := ?_) (a' := ?_) #[true, true, false, false, false, false, false, false, false, false, false, false, false] rfl rfl (any_of HT_.out (by kernel_rfl)) (fun _ _ _ h => h) (Or.inl ⟨by rfl, ?_⟩) ?_ ?_
                  rotate_left
                  · intro w'
                    go_simp
                    with_reducible rfl
                  rotate_left
                  · simp only [Act.put, List.setIfInBounds_toArray, List.set_cons_zero, List.set_cons_succ, i64_w, i32_w]
                    rfl
                  refine pure_ (i := 2) (N := some 37) (v := ?_) (a' := ?_) #[true, true, true, false, false, false, false, false, false, false, false, false, false] rfl rfl (any_of HT_.out (by kernel_rfl)) (fun _ _ _ h => h) (Or.inl ⟨by rfl, ?_⟩) ?_ ?_
                  rotate_left
                  · intro w'
                    go_simp
                    with_reducible rfl
                  rotate_left
                  · simp only [Act.put, List.setIfInBounds_toArray, List.set_cons_zero, List.set_cons_succ, i64_w, i32_w]
                    rfl
                  refine pure_ (i := 3) (N := some 38) (v := ?_) (a' := ?_) #[true, true, true, true, false, false, false, false, false, false, false, false, false] rfl rfl (any_of HT_.out (by kernel_rfl)) (fun _ _ _ h => h) (Or.inl ⟨by rfl, ?_⟩) ?_ ?_
                  rotate_left
                  · intro w'
                    go_simp
                    with_reducible rfl
                  rotate_left
                  · simp only [Act.put, List.setIfInBounds_toArray, List.set_cons_zero, List.set_cons_succ, i64_w, i32_w]
                    rfl
                  refine pure_ (i := 4) (N := some 39) (v := ?_) (a' := ?_) #[true, true, true, true, true, false, false, false, false, false, false, false, false] rfl rfl (any_of HT_.out (by kernel_rfl)) (fun _ _ _ h => h) (Or.inl ⟨by rfl, ?_⟩) ?_ ?_
                  rotate_left
                  · intro w'
                    go_simp
                    with_reducible rfl
                  rotate_left
                  · simp only [Act.put, List.setIfInBounds_toArray, List.set_cons_zero, List.set_cons_succ, i64_w, i32_w]
                    rfl
                  refine pure_ (i := 6) (N := some 41) (v := ?_) (a' := ?_) #[true, true, true, true, true, false, true, false, false, false, false, false, false] rfl rfl (any_of HT_.out (by kernel_rfl)) (fun _ _ _ h => h) (Or.inl ⟨by rfl, ?_⟩) ?_ ?_
                  rotate_left
                  · intro w'
                    go_simp
                    with_reducible rfl
                  rotate_left
                  · simp only [Act.put, List.setIfInBounds_toArray, List.set_cons_zero, List.set_cons_succ, i64_w, i32_w]
                    rfl
                  refine pure_ (i := 7) (N := some 42) (v := ?_) (a' := ?_) #[true, true, true, true, true, false, true, true, false, false, false, false, false] rfl rfl (any_of HT_.out (by kernel_rfl)) (fun _ _ _ h => h) (Or.inl ⟨by rfl, ?_⟩) ?_ ?_
                  rotate_left
                  · intro w'
                    go_simp
                    with_reducible rfl
                  rotate_left
                  · simp only [Act.put, List.setIfInBounds_toArray, List.set_cons_zero, List.set_cons_succ, i64_w, i32_w]
                    rfl
                  refine pure_ (i := 8) (N := some 43) (v := ?_) (a' := ?_) #[true, true, true, true, true, false, true, true, true, false, false, false, false] rfl rfl (any_of HT_.out (by kernel_rfl)) (fun _ _ _ h => h) (Or.inl ⟨by rfl, ?_⟩) ?_ ?_
                  rotate_left
                  · intro w'
                    go_simp
                    with_reducible rfl
                  rotate_left
                  · simp only [Act.put, List.setIfInBounds_toArray, List.set_cons_zero, List.set_cons_succ, i64_w, i32_w]
                    rfl
                  refine pure_ (i := 9) (N := some 44) (v := ?_) (a' := ?_) #[true, true, true, true, true, false, true, true, true, true, false, false, false] rfl rfl (any_of HT_.out (by kernel_rfl)) (fun _ _ _ h => h) (Or.inl ⟨by rfl, ?_⟩) ?_ ?_
                  rotate_left
                  · intro w'
                    go_simp
                    with_reducible rfl
                  rotate_left
                  · simp only [Act.put, List.setIfInBounds_toArray, List.set_cons_zero, List.set_cons_succ, i64_w, i32_w]
                    rfl
                  refine take_ (i := 5) (N := some 40) (v := ?_) (a' := ?_) #[true, true, true, true, true, true, true, true, true, true, false, false, false] rfl rfl (take_ofW HT_.out HW_.out (by kernel_rfl)) (fun _ _ _ h => h) (Or.inl ⟨by rfl, ?_⟩) hHeld ?_ ?_
                  rotate_left
                  · rintro w' ⟨s0, s1, s2, s3⟩
                    go_simp
                    with_reducible rfl
                  rotate_left
                  · simp only [Act.put, List.setIfInBounds_toArray, List.set_cons_zero, List.set_cons_succ, i64_w, i32_w]
                    rfl
                  refine take_ (i := 10) (N := some 45) (v := ?_) (a' := ?_) #[true, true, true, true, true, true, true, true, true, true, true, false, false] rfl rfl (take_ofW HT_.out HW_.out (by kernel_rfl)) (fun _ _ _ h => h) (Or.inl ⟨by rfl, ?_⟩) hHeld ?_ ?_
                  rotate_left
                  · rintro w' ⟨s0, s1, s2, s3⟩
                    go_simp
                    with_reducible rfl
                  rotate_left
                  · simp only [Act.put, List.setIfInBounds_toArray, List.set_cons_zero, List.set_cons_succ, i64_w, i32_w]
                    rfl
                  refine pure_ (i := 11) (N := some 46) (v := ?_) (a' := ?_) #[true, true, true, true, true, true, true, true, true, true, true, true, false] rfl rfl (any_of HT_.out (by kernel_rfl)) (fun _ _ _ h => h) (Or.inl ⟨by rfl, ?_⟩) ?_ ?_
                  rotate_left
                  · intro w'
                    go_simp
                    with_reducible rfl
                  rotate_left
                  · simp only [Act.put, List.setIfInBounds_toArray, List.set_cons_zero, List.set_cons_succ, i64_w, i32_w]
                    rfl
                  refine last_ (i := 12) (N := none) #[true, true, true, true, true, true, true, true, true, true, true, true, true] rfl rfl (one_of HT_.out (by kernel_rfl)) (by decide) (fun K hK => ?_)
                  refine skip_ (w1 := ?_) (by rfl) rfl ?_ ?_
                  rotate_left
                  · go_simp
                    rfl
                  refine hK.out _ _ ?_
                  clear hK K
                  refine done_ (done_of HT_.out (by kernel_rfl)) ?_
                  try go_wp2
                  go_roundg k1
                  case measure => have := HK1.out; omega
                  case rel => exact ⟨(y403), (wrap64 (x9_1 + 1)), (by first | rfl | (simp; done) | (simp [*]; done)), H', ⟨by have := HK1.out; omega⟩, ⟨by (with_reducible repeat (first | apply Kd.R_alloc | apply Kd.R_drewN | apply Kd.R_drew)); exact HQ16.out⟩, ⟨by repeat (first | (with_reducible first | exact HB.out | apply below_alloc | apply pw_below_drewN | apply below_drew1 | refine below_set ?_ GB12.out) | exact HB.out)⟩⟩
                · rw [if_neg c11] at H
                  exact absurd H (by simp)
              · rw [if_neg c10] at H
                exact absurd H (by simp)
            · replace c9 := Bool.eq_false_iff.mpr c9
              subst c9
              have H1 : (some (x8_1, x9_1)) = some (r1, r2) := by rw [if_neg (show ¬ (false = true) by decide)] at H; exact H
              clear H
              have H := H1
              clear H1
              simp only [Option.some.injEq, Prod.mk.injEq] at H
              obtain ⟨rfl, rfl⟩ := H
              try go_wp2
              have n0_ := Aside0.mk (Kd.R_drew HO_8.out)
              have n1_ := Aside0.mk (below_drew1 HB.out)
              clear HO_8
              clear HB
              have HO_8 := n0_
              have HB := n1_
              clear n0_ n1_
              have p398 : 0 ≤ (x9_1 : Int) := of_decide_eq_true (by first | (with_reducible assumption) | assumption)
              have q398 : x9_1 < (l1.length : Int) := of_decide_eq_true (by first | (with_reducible assumption) | assumption)
              obtain ⟨ad398, e398, hx398_0, hx398_1⟩ := at_T52 HR1.out x9_1 p398 q398
              have hw398_1 := hx398_1
              have hw398_0 := hx398_0
              cases e398
              replace hx398_0 := (HB.out.cell (World.block_lt_of_cell? w _ hx398_0)).trans hx398_0
              replace hx398_1 := (HB.out.cell (World.block_lt_of_cell? w _ hx398_1)).trans hx398_1
              replace p398 := eq_true p398
              replace q398 := eq_true q398
              have p399 : 0 ≤ (x9_1 : Int) := of_decide_eq_true (by first | (with_reducible assumption) | assumption)
              have q399 : x9_1 < (l1.length : Int) := of_decide_eq_true (by first | (with_reducible assumption) | assumption)
              obtain ⟨ad399, e399, hx399_0, hx399_1⟩ := at_T52 HR1.out x9_1 p399 q399
              have hw399_1 := hx399_1
              have hw399_0 := hx399_0
              obtain rfl : ad398 = ad399 := (by injection e399)
              replace hx399_0 := (HB.out.cell (World.block_lt_of_cell? w _ hx399_0)).trans hx399_0
              replace hx399_1 := (HB.out.cell (World.block_lt_of_cell? w _ hx399_1)).trans hx399_1
              replace p399 := eq_true p399
              replace q399 := eq_true q399
              obtain ⟨Ao18, co18, eo18⟩ := Kd.R_slice HO_8.out
              (first | subst eo18 | (injection eo18 with f1_ f2_ f3_; have f4_ := f1_.symm; have f5_ := f3_.symm; clear f1_ f2_ f3_; subst f4_; subst f5_))
              refine start_ (n := 14) (S := fun w' => w'.cell? (ad398.add ((x9_1).toNat * 2)) = some (.int .i64 ((rd_T52 l1 x9_1).f0)) ∧ w'.cell? ⟨(ad398.add ((x9_1).toNat * 2)).block, (ad398.add ((x9_1).toNat * 2)).off + 1, none⟩ = some (.int .i64 ((rd_T52 l1 x9_1).f1)) ∧ w'.cell? (ad398.add ((x9_1).toNat * 2)) = some (.int .i64 ((rd_T52 l1 x9_1).f0)) ∧ w'.cell? ⟨(ad398.add ((x9_1).toNat * 2)).block, (ad398.add ((x9_1).toNat * 2)).off + 1, none⟩ = some (.int .i64 ((rd_T52 l1 x9_1).f1))) (ds := []) #[false, false, false, false, false, false, false, false, false, false, false, false, false, false] (by kernel_rfl) rfl rfl ⟨((HB.out.cell (World.block_lt_of_cell? w _ hw398_0)).trans hw398_0), ((HB.out.cell (World.block_lt_of_cell? w _ hw398_1)).trans hw398_1), ((HB.out.cell (World.block_lt_of_cell? w _ hw399_0)).trans hw399_0), ((HB.out.cell (World.block_lt_of_cell? w _ hw399_1)).trans hw399_1)⟩ (fun hHeld => ?_); refine with_tabW bibelotref03_Play.tab6 bibelotref03_Play.bits6 (fun HT_ HW_ => ?_)
              generalize wr.drew = w17 at HO_8 HB hx398_0 hx398_1 hx399_0 hx399_1 hHeld ⊢
              refine pure_ (i := 0) (N := some 19) (v := ?_) (a' := ?_) #[true, false, false, false, false, false, false, false, false, false, false, false, false, false] rfl rfl (any_of HT_.out (by kernel_rfl)) (fun _ _ _ h => h) (Or.inl ⟨by rfl, ?_⟩) ?_ ?_
              rotate_left
              · intro w'
                go_simp
                with_reducible rfl
              rotate_left
              · simp only [Act.put, List.setIfInBounds_toArray, List.set_cons_zero, List.set_cons_succ, i64_w, i32_w]
                rfl
              refine pure_ (i := 1) (N := some 20) (v := ?_) (a' := ?_) #[true, true, false, false, false, false, false, false, false, false, false, false, false, false] rfl rfl (any_of HT_.out (by kernel_rfl)) (fun _ _ _ h => h) (Or.inl ⟨by rfl, ?_⟩) ?_ ?_
              rotate_left
              · intro w'
                go_simp
                with_reducible rfl
              rotate_left
              · simp only [Act.put, List.setIfInBounds_toArray, List.set_cons_zero, List.set_cons_succ, i64_w, i32_w]
                rfl
              refine pure_ (i := 2) (N := some 21) (v := ?_) (a' := ?_) #[true, true, true, false, false, false, false, false, false, false, false, false, false, false] rfl rfl (any_of HT_.out (by kernel_rfl)) (fun _ _ _ h => h) (Or.inl ⟨by rfl, ?_⟩) ?_ ?_
              rotate_left
              · intro w'
                go_simp
                with_reducible rfl
              rotate_left
              · simp only [Act.put, List.setIfInBounds_toArray, List.set_cons_zero, List.set_cons_succ, i64_w, i32_w]
                rfl
              refine pure_ (i := 3) (N := some 22) (v := ?_) (a' := ?_) #[true, true, true, true, false, false, false, false, false, false, false, false, false, false] rfl rfl (any_of HT_.out (by kernel_rfl)) (fun _ _ _ h => h) (Or.inl ⟨by rfl, ?_⟩) ?_ ?_
              rotate_left
              · intro w'
                go_simp
                with_reducible rfl
              rotate_left
              · simp only [Act.put, List.setIfInBounds_toArray, List.set_cons_zero, List.set_cons_succ, i64_w, i32_w]
                rfl
              refine pure_ (i := 4) (N := some 23) (v := ?_) (a' := ?_) #[true, true, true, true, true, false, false, false, false, false, false, false, false, false] rfl rfl (any_of HT_.out (by kernel_rfl)) (fun _ _ _ h => h) (Or.inl ⟨by rfl, ?_⟩) ?_ ?_
              rotate_left
              · intro w'
                go_simp
                with_reducible rfl
              rotate_left
              · simp only [Act.put, List.setIfInBounds_toArray, List.set_cons_zero, List.set_cons_succ, i64_w, i32_w]
                rfl
              refine pure_ (i := 6) (N := some 25) (v := ?_) (a' := ?_) #[true, true, true, true, true, false, true, false, false, false, false, false, false, false] rfl rfl (any_of HT_.out (by kernel_rfl)) (fun _ _ _ h => h) (Or.inl ⟨by rfl, ?_⟩) ?_ ?_
              rotate_left
              · intro w'
                go_simp
                with_reducible rfl
              rotate_left
              · simp only [Act.put, List.setIfInBounds_toArray, List.set_cons_zero, List.set_cons_succ, i64_w, i32_w]
                rfl
              refine pure_ (i := 7) (N := some 26) (v := ?_) (a' := ?_) #[true, true, true, true, true, false, true, true, false, false, false, false, false, false] rfl rfl (any_of HT_.out (by kernel_rfl)) (fun _ _ _ h => h) (Or.inl ⟨by rfl, ?_⟩) ?_ ?_
              rotate_left
              · intro w'
                go_simp
                with_reducible rfl
              rotate_left
              · simp only [Act.put, List.setIfInBounds_toArray, List.set_cons_zero, List.set_cons_succ, i64_w, i32_w]
                rfl
              refine pure_ (i := 8) (N := some 27) (v := ?_) (a' := ?_) #[true, true, true, true, true, false, true, true, true, false, false, false, false, false] rfl rfl (any_of HT_.out (by kernel_rfl)) (fun _ _ _ h => h) (Or.inl ⟨by rfl, ?_⟩) ?_ ?_
              rotate_left
              · intro w'
                go_simp
                with_reducible rfl
              rotate_left
              · simp only [Act.put, List.setIfInBounds_toArray, List.set_cons_zero, List.set_cons_succ, i64_w, i32_w]
                rfl
              refine pure_ (i := 9) (N := some 28) (v := ?_) (a' := ?_) #[true, true, true, true, true, false, true, true, true, true, false, false, false, false] rfl rfl (any_of HT_.out (by kernel_rfl)) (fun _ _ _ h => h) (Or.inl ⟨by rfl, ?_⟩) ?_ ?_
              rotate_left
              · intro w'
                go_simp
                with_reducible rfl
              rotate_left
              · simp only [Act.put, List.setIfInBounds_toArray, List.set_cons_zero, List.set_cons_succ, i64_w, i32_w]
                rfl
              refine pure_ (i := 11) (N := some 30) (v := ?_) (a' := ?_) #[true, true, true, true, true, false, true, true, true, true, false, true, false, false] rfl rfl (any_of HT_.out (by kernel_rfl)) (fun _ _ _ h => h) (Or.inl ⟨by rfl, ?_⟩) ?_ ?_
              rotate_left
              · intro w'
                go_simp
                with_reducible rfl
              rotate_left
              · simp only [Act.put, List.setIfInBounds_toArray, List.set_cons_zero, List.set_cons_succ, i64_w, i32_w]
                rfl
              refine take_ (i := 5) (N := some 24) (v := ?_) (a' := ?_) #[true, true, true, true, true, true, true, true, true, true, false, true, false, false] rfl rfl (take_ofW HT_.out HW_.out (by kernel_rfl)) (fun _ _ _ h => h) (Or.inl ⟨by rfl, ?_⟩) hHeld ?_ ?_
              rotate_left
              · rintro w' ⟨s0, s1, s2, s3⟩
                go_simp
                with_reducible rfl
              rotate_left
              · simp only [Act.put, List.setIfInBounds_toArray, List.set_cons_zero, List.set_cons_succ, i64_w, i32_w]
                rfl
              refine take_ (i := 10) (N := some 29) (v := ?_) (a' := ?_) #[true, true, true, true, true, true, true, true, true, true, true, true, false, false] rfl rfl (take_ofW HT_.out HW_.out (by kernel_rfl)) (fun _ _ _ h => h) (Or.inl ⟨by rfl, ?_⟩) hHeld ?_ ?_
              rotate_left
              · rintro w' ⟨s0, s1, s2, s3⟩
                go_simp
                with_reducible rfl
              rotate_left
              · simp only [Act.put, List.setIfInBounds_toArray, List.set_cons_zero, List.set_cons_succ, i64_w, i32_w]
                rfl
              refine one_ (i := 12) (N := some 31) #[true, true, true, true, true, true, true, true, true, true, true, true, true, false] rfl rfl (one_of HT_.out (by kernel_rfl)) (by decide) (fun K hK => ?_)
              refine goes_ Tryd.func72 (by kernel_rfl) rfl #[.slice Ao18 x8_1.length co18, .int .i64 ((rd_T52 l1 x9_1).f0), .int .i64 ((rd_T52 l1 x9_1).f1), .int .i64 a2] (by rfl) rfl rfl (by (try simp only [List.map_toArray, List.map_cons, List.map_nil]); first | done | rfl | (simp only [List.length_drop, List.length_take]; rfl)) ?_
              with_reducible refine (bibelotref03_Can.calls k1 _ _ x8_1 ((rd_T52 l1 x9_1).f0) ((rd_T52 l1 x9_1).f1) a2 false _ ?side1 ?side2 A8.out).mono ?_
              (case side1 => repeat (first | exact (Kd.R_reads' HO_8.out).2.2 | (with_reducible refine Kd.C_alloc ?_ _) | (with_reducible refine Kd.C_drewN ?_ _) | (with_reducible refine Kd.C_drew ?_)))
              (case side2 => exact (Kd.R_reads' HO_8.out).2.1)
              rintro e w' ⟨rfl, ⟨nd, rfl⟩⟩
              refine ⟨_, rfl, ?_⟩
              refine hK.out _ _ ⟨((HB.out.cell (World.block_lt_of_cell? w _ hw398_0)).trans hw398_0), ((HB.out.cell (World.block_lt_of_cell? w _ hw398_1)).trans hw398_1), ((HB.out.cell (World.block_lt_of_cell? w _ hw399_0)).trans hw399_0), ((HB.out.cell (World.block_lt_of_cell? w _ hw399_1)).trans hw399_1)⟩ (fun hHeld => ?_)
              clear hK K
              refine norm_ (a' := ?_) ?_ ?_
              rotate_left
              · show Act.put _ (some 31) _ = _
                simp only [Act.put, List.setIfInBounds_toArray, List.set_cons_zero, List.set_cons_succ, i64_w, i32_w]
                rfl
              refine pure_ (i := 13) (N := some 32) (v := ?_) (a' := ?_) #[true, true, true, true, true, true, true, true, true, true, true, true, true, true] rfl rfl (any_of HT_.out (by kernel_rfl)) (fun _ _ _ h => h) (Or.inl ⟨by rfl, ?_⟩) ?_ ?_
              rotate_left
              · intro w'
                go_simp
                with_reducible rfl
              rotate_left
              · simp only [Act.put, List.setIfInBounds_toArray, List.set_cons_zero, List.set_cons_succ, i64_w, i32_w]
                rfl
              refine done_ (done_of HT_.out (by kernel_rfl)) ?_
              try go_wp2
              go_ret2
              exact ⟨_, by first | rfl | (simp [errW_none, errW_some] <;> rfl) | (simp [*, errW_none, errW_some] <;> rfl), by (with_reducible repeat (first | apply Kd.R_alloc | apply Kd.R_drewN | apply Kd.R_drew)); exact HO_8.out, by repeat (first | (with_reducible first | exact HB.out | apply below_alloc | apply pw_below_drewN | apply below_drew1) | exact HB.out)⟩
          · rw [if_neg c7] at H
            exact absurd H (by simp)
        · rw [if_neg c6] at H
          have c6b0 : decide (x9_1 < (l1.length : Int)) = false := decide_eq_false c6
          clear c6
          simp only [Option.some.injEq, Prod.mk.injEq] at H
          obtain ⟨rfl, rfl⟩ := H
          go_wp2
          go_ret2
          exact ⟨_, by first | rfl | (simp [errW_none, errW_some] <;> rfl) | (simp [*, errW_none, errW_some] <;> rfl), by (with_reducible repeat (first | apply Kd.R_alloc | apply Kd.R_drewN | apply Kd.R_drew)); exact HO_8.out, by repeat (first | (with_reducible first | exact HB.out | apply below_alloc | apply pw_below_drewN | apply below_drew1) | exact HB.out)⟩
  · rw [if_neg c4] at H
    exact absurd H (by simp)

end Go.Proofs.YtnaaomhmoamfpaaDoor.Q
/- gather: discs brought to a peg: the moves, and the discs then. -/
namespace Go.Proofs.YtnaaomhmoamfpaaDoor.G
set_option linter.unusedVariables false
set_option linter.unusedSimpArgs false
set_option linter.unusedSectionVars false
open Go.Proofs.YtnaaomhmoamfpaaDoor.Q Go.Proofs.YtnaaomhmoamfpaaDoor.Hn
open Go.RowKit Go.Proofs.YtnaaomhmoamfpaaDoorW.PrintWords Go.Proofs.YtnaaomhmoamfpaaDoorW.PrintLast Go.Proofs.YtnaaomhmoamfpaaDoorW.PrintMore
/-- The first k discs are brought to peg p: the moves, and all discs then. -/
def gatherL : Nat → List Int → Int → List (Nat × Int) × List Int
  | 0, d, _ => ([], d)
  | k + 1, d, p =>
    if nth d k = p then gatherL k d p
    else ((gatherL k d (3 - nth d k - p)).1 ++ [(k, p)] ++ (gatherL k ((gatherL k d (3 - nth d k - p)).2.set k p) p).1, (gatherL k ((gatherL k d (3 - nth d k - p)).2.set k p) p).2)
theorem nth_set_self (l : List Int) (k : Nat) (x : Int) (h : k < l.length) : nth (l.set k x) k = x := by simp [nth, h]
theorem nth_set_ne (l : List Int) (k j : Nat) (x : Int) (h : j ≠ k) : nth (l.set k x) j = nth l j := by
  simp only [nth]
  rw [List.getD_eq_getElem?_getD, List.getElem?_set_ne (fun e => h e.symm), ← List.getD_eq_getElem?_getD]
theorem gather_facts : ∀ (k : Nat) (d : List Int) (p : Int), k ≤ d.length → (gatherL k d p).2.length = d.length ∧ (∀ j, k ≤ j → nth (gatherL k d p).2 j = nth d j) ∧ (∀ j, j < k → nth (gatherL k d p).2 j = p)
  | 0, d, p, _ => ⟨rfl, fun _ _ => rfl, fun j h => by omega⟩
  | k + 1, d, p, h => by
    rw [gatherL]
    by_cases c : nth d k = p
    · rw [if_pos c]
      obtain ⟨h1, h2, h3⟩ := gather_facts k d p (by omega)
      refine ⟨h1, fun j hj => h2 j (by omega), fun j hj => ?_⟩
      by_cases e : j = k
      · subst e; rw [h2 j (Nat.le_refl _)]; exact c
      · exact h3 j (by omega)
    · rw [if_neg c]
      obtain ⟨h1, h2, h3⟩ := gather_facts k d (3 - nth d k - p) (by omega)
      obtain ⟨g1, g2, g3⟩ := gather_facts k ((gatherL k d (3 - nth d k - p)).2.set k p) p (by rw [List.length_set]; omega)
      refine ⟨by dsimp only; rw [g1, List.length_set, h1], fun j hj => ?_, fun j hj => ?_⟩
      · dsimp only
        rw [g2 j (by omega), nth_set_ne _ _ _ _ (by omega), h2 j (by omega)]
      · dsimp only
        by_cases e : j = k
        · subst e; rw [g2 j (Nat.le_refl _), nth_set_self _ _ _ (by omega)]
        · exact g3 j (by omega)
theorem gather_len : ∀ (k : Nat) (d : List Int) (p : Int), (gatherL k d p).1.length + 1 ≤ 2 ^ k
  | 0, d, p => by simp [gatherL]
  | k + 1, d, p => by
    have hp2 : 2 ^ (k + 1) = 2 * 2 ^ k := by rw [Nat.pow_succ, Nat.mul_comm]
    have hp1 : 1 ≤ 2 ^ k := Nat.one_le_two_pow
    rw [gatherL]
    by_cases c : nth d k = p
    · rw [if_pos c]
      have := gather_len k d p
      omega
    · rw [if_neg c]
      have h1 := gather_len k d (3 - nth d k - p)
      have h2 := gather_len k ((gatherL k d (3 - nth d k - p)).2.set k p) p
      simp only [List.length_append, List.length_singleton]
      omega
theorem third_peg {a p : Int} (ha : Peg a) (hp : Peg p) (h : a ≠ p) : Peg (3 - a - p) := by unfold Peg at *; omega
theorem gather_pos (k : Nat) (d : List Int) (p : Int) (hk : k ≤ d.length) (hd : DiscsL d) (hp : Peg p) : DiscsL (gatherL k d p).2 := by
  obtain ⟨h1, h2, h3⟩ := gather_facts k d p hk
  intro j hj
  rw [h1] at hj
  by_cases c : j < k
  · rw [h3 j c]; exact hp
  · rw [h2 j (by omega)]; exact hd j hj
theorem discs_set {d : List Int} (hd : DiscsL d) (k : Nat) (p : Int) (hp : Peg p) : DiscsL (d.set k p) := by
  intro j hj
  rw [List.length_set] at hj
  by_cases e : j = k
  · subst e; rw [nth_set_self _ _ _ hj]; exact hp
  · rw [nth_set_ne _ _ _ _ e]; exact hd j hj
end Go.Proofs.YtnaaomhmoamfpaaDoor.G
/- Moves made one after the other. -/
namespace Go.Proofs.YtnaaomhmoamfpaaDoor.G
set_option linter.unusedVariables false
set_option linter.unusedSimpArgs false
set_option linter.unusedSectionVars false
open Go.Proofs.YtnaaomhmoamfpaaDoor.Q Go.Proofs.YtnaaomhmoamfpaaDoor.Hn Go.Proofs.YtnaaomhmoamfpaaDoor.K
open Go.RowKit Go.Proofs.YtnaaomhmoamfpaaDoorW.PrintWords Go.Proofs.YtnaaomhmoamfpaaDoorW.PrintLast Go.Proofs.YtnaaomhmoamfpaaDoorW.PrintMore
def mkI (m : Nat × Int) : S52 := ⟨(m.1 : Int), m.2⟩
def runI (d : List Int) (ms : List (Nat × Int)) : List Int := ms.foldl (fun t m => t.set m.1 m.2) d
theorem run_nil (d : List Int) : runI d [] = d := rfl
theorem run_cons (d : List Int) (m : Nat × Int) (ms : List (Nat × Int)) : runI d (m :: ms) = runI (d.set m.1 m.2) ms := rfl
theorem run_append (d : List Int) (a b : List (Nat × Int)) : runI d (a ++ b) = runI (runI d a) b := by simp [runI, List.foldl_append]
theorem run_len (ms : List (Nat × Int)) : ∀ d : List Int, (runI d ms).length = d.length := by
  induction ms with
  | nil => intro d; rfl
  | cons m ms ih => intro d; rw [run_cons, ih, List.length_set]

end Go.Proofs.YtnaaomhmoamfpaaDoor.G
/- Appends as single steps of a region that draws its order. -/
namespace Go.Proofs.YtnaaomhmoamfpaaDoor.G
set_option linter.unusedVariables false
set_option linter.unusedSimpArgs false
set_option linter.unusedSectionVars false
open Go.Proofs.YtnaaomhmoamfpaaDoor.Q Go.Proofs.YtnaaomhmoamfpaaDoor.Hn Go.Proofs.YtnaaomhmoamfpaaDoor.K
open Go.RowKit Go.Proofs.YtnaaomhmoamfpaaDoorW.PrintWords Go.Proofs.YtnaaomhmoamfpaaDoorW.PrintLast Go.Proofs.YtnaaomhmoamfpaaDoorW.PrintMore
theorem R_block {d : List Int} {W W' : World} {base gb N cap : Nat} (h : Kd.R (Kd.int .i64) 3 W base (fun j => j = gb) (.slice (some ⟨gb, 0, none⟩) N cap) d) (hb : W'.heap[gb]? = W.heap[gb]?) : Kd.R (Kd.int .i64) 3 W' base (fun j => j = gb) (.slice (some ⟨gb, 0, none⟩) N cap) d :=
  Kd.R_move h (fun k hk => by subst hk; exact hb)

section
open Go.Proofs.YtnaaomhmoamfpaaDoorW.PrintWords.Kd
variable {P : Program} {ops : Array Oper} {o : Oper} {a : Act} {Q : Exit → Act → World → Prop} {Kc : Act → World → Prop} {α : Type}
/-- append(v, x) as one step of a region that draws its order; x is the one element of block g. -/
theorem R_append_st (d : Kd α) {V : World} (base : Nat) (hw : Region.wanted o (yielded ops a.tmps) = true) (s x : Operand) (t e : TypeId) (z : Value) (bytes : Nat)
    (ho : o.op = .call { callee := .builtin .append, args := #[s, x], argTypes := #[t, t] })
    (ht : P.underlying t = some (.slice e)) (hinfo : (P.info? e).map (fun i => (i.zero, i.size, i.bytes)) = some (some z, d.sz, bytes)) (hz : z.cells.size = d.sz) (hs0 : 0 < d.sz) (hb0 : 0 < bytes)
    (v : Value) (xs : List α) (p : α) (cs : List Value) (ok okp : Nat → Prop) (hs : a.eval s = v) (g : Nat) (hx : a.eval x = .slice (some ⟨g, 0, none⟩) 1 1) (hg : V.heap[g]? = some (.cells cs.toArray e (0, 0))) (hp : d.M V base okp p cs) (hokp : ∀ k, okp k → ok k ∧ some k ≠ v.ownBlock) (hfresh : ∀ k, V.heap.size ≤ k → ok k)
    (HO : d.R e V base ok v xs) (hbase : base ≤ V.heap.size) (hl : (xs.length + 1) * bytes ≤ 140737488355328)
    (h : ∀ v1 w1, d.R e w1 base ok v1 (xs ++ [p]) → V.grownBy w1 v.ownBlock → (v1.ownBlock = v.ownBlock ∨ ∃ b, v1.ownBlock = some b ∧ V.heap.size ≤ b) → Kc (a.put o.dst v1) w1) :
    if Region.wanted o (yielded ops a.tmps) = true then Oper.wp P o a V Kc Q else Kc (a.put o.dst undef) V := by
  obtain ⟨h0, inner, hown, hr⟩ := HO
  obtain ⟨i0, hi, hzz⟩ := Option.map_eq_some_iff.1 hinfo
  simp only [Prod.mk.injEq] at hzz
  obtain ⟨hz0, hz1, hz2⟩ := hzz
  have hlen : xs.length + 1 ≤ 140737488355328 := Nat.le_trans (Nat.le_mul_of_pos_right _ hb0) hl
  have hcl : cs.length = d.sz := d.K_len (d.K_of_M hp)
  rw [if_pos hw]
  obtain ⟨v1, w1, hrun, hown1, hg1, _, hat⟩ := run_append_own_at (P := P) V base t o.type e i0 z d.sz bytes ht hi hz0 hz1 hz2 hz hs0 v xs.length inner hown ⟨g, 0, none⟩ 1 1 cs (by rw [hcl]; simp)
    (by simpa using World.news_of_block (cs := cs.toArray) (t := e) (fr := (0, 0)) hg) (d.K_one (d.K_of_M hp)) (by simp only [maxLen]; omega) hl hbase
  have hat' : v1.ownBlock = v.ownBlock ∨ ∃ b, v1.ownBlock = some b ∧ V.heap.size ≤ b := by
    rcases hat with hat | hat
    · exact .inl hat
    · exact .inr ⟨_, hat, Nat.le_refl _⟩
  unfold Oper.wp execOp
  simp only [ho, resolve, invoke, builtin, Sem.run_bind, Sem.run_pure, Result.andThen_ok, List.map_toArray, List.map_cons, List.map_nil, hs, hx, hrun]
  exact h v1 w1 (Kd.R_appended h0 hr hp hokp hfresh hown1 hg1 hat') hg1 hat'
theorem R_append_rows_st (d : Kd α) {Rr : α → List Value → Prop} {w0 W : World} (base : Nat) (hw : Region.wanted o (yielded ops a.tmps) = true) (s x : Operand) (t e : TypeId) (z : Value) (bytes : Nat)
    (ho : o.op = .call { callee := .builtin .append, args := #[s, x], argTypes := #[t, t] })
    (ht : P.underlying t = some (.slice e)) (hinfo : (P.info? e).map (fun i => (i.zero, i.size, i.bytes)) = some (some z, d.sz, bytes)) (hz : z.cells.size = d.sz) (hs0 : 0 < d.sz) (hb0 : 0 < bytes)
    (v : Value) (xs ys : List α) (A : Option Addr) (m c : Nat) (ok okp : Nat → Prop) (hs : a.eval s = v) (hx : a.eval x = .slice A m c)
    (HO : d.R e W base ok v xs) (HR : ReadsRow Rr d.sz W A m ys) (hKM : ∀ x cs, Rr x cs → d.M W base okp x cs) (hokp : ∀ k, okp k → ok k ∧ some k ≠ v.ownBlock) (hfresh : ∀ k, W.heap.size ≤ k → ok k)
    (HB : Below base w0 W) (hbase : base ≤ W.heap.size) (hl : (xs.length + m) * bytes ≤ 140737488355328)
    (h : ∀ v1 w1, d.R e w1 base ok v1 (xs ++ ys) → Below base w0 w1 → W.grownBy w1 v.ownBlock → (v1.ownBlock = v.ownBlock ∨ ∃ b, v1.ownBlock = some b ∧ W.heap.size ≤ b) → Kc (a.put o.dst v1) w1) :
    if Region.wanted o (yielded ops a.tmps) = true then Oper.wp P o a W Kc Q else Kc (a.put o.dst undef) W := by
  obtain ⟨i0, hi, hzz⟩ := Option.map_eq_some_iff.1 hinfo
  simp only [Prod.mk.injEq] at hzz
  obtain ⟨hz0, hz1, hz2⟩ := hzz
  have hm : ys.length = m := HR.1
  have hlen : xs.length + m ≤ 140737488355328 := Nat.le_trans (Nat.le_mul_of_pos_right _ hb0) hl
  obtain ⟨hok, inner, hown, hr⟩ := HO
  have hrun : ∃ v1 w1, (Builtin.append_ #[t, t] o.type #[v, .slice A m c]).run P W = .ok v1 w1 ∧ d.R e w1 base ok v1 (xs ++ ys) ∧ W.grownBy w1 v.ownBlock ∧ (v1.ownBlock = v.ownBlock ∨ ∃ b, v1.ownBlock = some b ∧ W.heap.size ≤ b) := by
    rcases A with _ | ad
    · have h0 : m = 0 := by
        rcases Nat.eq_zero_or_pos m with h0 | h0
        · exact h0
        · obtain ⟨ad, h, _⟩ := HR.2.2 h0
          cases h
      subst h0
      obtain rfl : ys = [] := List.eq_nil_of_length_eq_zero hm
      refine ⟨v, W, ?_, by rw [List.append_nil]; exact ⟨hok, inner, hown, hr⟩, World.grownBy.refl W _, .inl rfl⟩
      rcases hown.2 with ⟨rfl, hn⟩ | ⟨g, cap, cur, rfl, _, _, hnc, _⟩
      · simp [Builtin.append_, run_underlying ht, sizeOf, typeInfo, hi, Builtin.lenOf, Builtin.firstCells]
      · simp [Builtin.append_, run_underlying ht, sizeOf, typeInfo, hi, Builtin.lenOf, Builtin.firstCells, hnc, storeCells]
    · obtain ⟨news, hnr, hnc⟩ := ReadsRow.inner_ HR
      have hnM : Reps (d.M W base okp) d.sz ys news := hnr.imp_ (fun p c hp => hKM p c hp)
      have hone : ∀ u ∈ news, u.oneCell' = true := by
        intro u hu
        obtain ⟨q, hq, rfl⟩ := List.mem_iff_getElem.1 hu
        have hql : q / d.sz < ys.length := by
          rw [Nat.div_lt_iff_lt_mul hs0]
          rw [← hnM.1]
          exact hq
        have hc := hnM.2 (q / d.sz) _ (List.getElem?_eq_getElem hql)
        refine d.K_one (d.K_of_M hc) _ ?_
        rw [List.mem_iff_getElem?]
        refine ⟨q % d.sz, ?_⟩
        rw [List.getElem?_take, if_pos (Nat.mod_lt _ hs0), List.getElem?_drop, Nat.mul_comm, Nat.div_add_mod, List.getElem?_eq_getElem hq]
      obtain ⟨v1, w1, hrun, h2, hg, _, hat⟩ := run_append_own_at (P := P) W base t o.type e i0 z d.sz bytes ht hi hz0 hz1 hz2 hz hs0 v xs.length inner hown ad m c news (by rw [hnM.1, hm]) hnc hone (by simp only [maxLen]; omega) hl hbase
      have hat' : v1.ownBlock = v.ownBlock ∨ ∃ b, v1.ownBlock = some b ∧ W.heap.size ≤ b := by
        rcases hat with hat | hat
        · exact .inl hat
        · exact .inr ⟨_, hat, Nat.le_refl _⟩
      have hne : ∀ k, some k ≠ v.ownBlock → k < W.heap.size → some k ≠ v1.ownBlock := by
        intro k hk hlt
        rcases hat' with hat | ⟨b, hb, hle⟩
        · rw [hat]; exact hk
        · rw [hb]
          intro he
          injection he with he
          omega
      have step : ∀ {q : α} {c : List Value} {o : Nat → Prop}, d.M W base o q c → (∀ k, o k → ok k ∧ some k ≠ v.ownBlock) → d.M w1 base (fun k => ok k ∧ some k ≠ v1.ownBlock) q c := by
        intro q c o hq ho
        have h1 := d.M_move (w1 := w1) (fun k hk => hg.block k hk.2.2.1 (ho k hk.1).2) (d.M_bound hq)
        exact d.M_mono (fun k hk => ⟨(ho k hk.1).1, hne k (ho k hk.1).2 hk.2.2.1⟩) h1
      refine ⟨v1, w1, hrun, ⟨fun k hk => ?_, inner ++ news, by rw [List.length_append, hm]; exact h2, reps_append (hr.imp_ (fun _ _ hq => step hq (fun _ hk => hk))) (hnM.imp_ (fun _ _ hq => step hq hokp))⟩, hg, hat'⟩
      rcases hat' with hat | ⟨b, hb, hle⟩
      · exact hok k (hat ▸ hk)
      · rw [hb] at hk
        injection hk with hk
        exact hfresh k (by omega)
  obtain ⟨v1, w1, hr1, h1, hg, hat⟩ := hrun
  rw [if_pos hw]
  unfold Oper.wp execOp
  simp only [ho, resolve, invoke, builtin, Sem.run_bind, Sem.run_pure, Result.andThen_ok, List.map_toArray, List.map_cons, List.map_nil, hs, hx, hr1]
  exact h v1 w1 h1 (HB.grown hg hbase (own_base hown)) hg hat
theorem gate_call_st {W : World} {f : FuncId} {xs : Array Operand} {ts : Array TypeId} (_ho : o.op = .call { callee := .value (.func f), args := xs, argTypes := ts }) (h : if Region.wanted o (yielded ops a.tmps) = true then Oper.wp P o a W Kc Q else Kc (a.put o.dst undef) W) : if Region.wanted o (yielded ops a.tmps) = true then Oper.wp P o a W Kc Q else Kc (a.put o.dst undef) W := h
theorem gate_app_st {W : World} {xs : Array Operand} {ts : Array TypeId} (_ho : o.op = .call { callee := .builtin .append, args := xs, argTypes := ts }) (h : if Region.wanted o (yielded ops a.tmps) = true then Oper.wp P o a W Kc Q else Kc (a.put o.dst undef) W) : if Region.wanted o (yielded ops a.tmps) = true then Oper.wp P o a W Kc Q else Kc (a.put o.dst undef) W := h
end
theorem u48 : Tryd.prog.underlying 48 = some (.slice 52) := by kernel_rfl
end Go.Proofs.YtnaaomhmoamfpaaDoor.G
/- FrameWay's carry: the moves. -/
namespace Go.Proofs.YtnaaomhmoamfpaaDoor.G
set_option linter.unusedVariables false
set_option linter.unusedSimpArgs false
set_option linter.unusedSectionVars false
open Go.Proofs.YtnaaomhmoamfpaaDoor.Q Go.Proofs.YtnaaomhmoamfpaaDoor.Hn
open Go.RowKit Go.Proofs.YtnaaomhmoamfpaaDoorW.PrintWords Go.Proofs.YtnaaomhmoamfpaaDoorW.PrintLast Go.Proofs.YtnaaomhmoamfpaaDoorW.PrintMore
/-- How many of n discs go first, over L pegs. -/
def kOf (n L : Nat) : Nat := if 3 < L then fi (L - 4) n else n - 1
theorem kOf_bd (n L : Nat) (h : 2 ≤ n) : 1 ≤ kOf n L ∧ kOf n L ≤ n - 1 := by
  unfold kOf
  split
  · have := bl_at (fx (L - 4) n) (n - 1) (by omega)
    exact ⟨this.1, this.2.1⟩
  · omega
/-- n discs from disc f on go from the first peg of on to the last: the moves. (g: rounds.) -/
def carL : Nat → Nat → Nat → List Int → List (Nat × Int)
  | 0, _, _, _ => []
  | g + 1, f, n, on =>
    if n = 0 then [] else if n = 1 then [(f, nth on (on.length - 1))] else
      carL g f (kOf n on.length) ([nth on 0] ++ on.drop 2 ++ [nth on 1]) ++
      carL g (f + kOf n on.length) (n - kOf n on.length) ([nth on 0] ++ on.drop 2) ++
      carL g f (kOf n on.length) ([nth on 1, nth on 0] ++ (on.take (on.length - 1)).drop 2 ++ [nth on (on.length - 1)])
/-- How many moves these are. -/
def cnt : Nat → Nat → Nat → Nat
  | 0, _, _ => 0
  | g + 1, n, L => if n = 0 then 0 else if n = 1 then 1 else cnt g (kOf n L) L + cnt g (n - kOf n L) (L - 1) + cnt g (kOf n L) L
theorem carL_len : ∀ (g f n : Nat) (on : List Int), (2 ≤ n → 3 ≤ on.length) → (carL g f n on).length = cnt g n on.length
  | 0, f, n, on, _ => rfl
  | g + 1, f, n, on, h => by
    rw [carL, cnt]
    by_cases h0 : n = 0
    · rw [if_pos h0, if_pos h0]; rfl
    · rw [if_neg h0, if_neg h0]
      by_cases h1 : n = 1
      · rw [if_pos h1, if_pos h1]; rfl
      · rw [if_neg h1, if_neg h1]
        have hL := h (by omega)
        have hk := kOf_bd n on.length (by omega)
        have l1 : ([nth on 0] ++ on.drop 2 ++ [nth on 1]).length = on.length := by simp; omega
        have l2 : ([nth on 0] ++ on.drop 2).length = on.length - 1 := by simp; omega
        have l3 : ([nth on 1, nth on 0] ++ (on.take (on.length - 1)).drop 2 ++ [nth on (on.length - 1)]).length = on.length := by simp; omega
        have h2 : 2 ≤ n - kOf n on.length → 3 ≤ on.length - 1 := fun h2 => by
          unfold kOf at h2
          split at h2 <;> omega
        rw [List.length_append, List.length_append, carL_len g f _ _ (by rw [l1]; omega), carL_len g _ _ _ (by rw [l2]; exact h2), carL_len g f _ _ (by rw [l3]; omega), l1, l2, l3]
/-- It is Frame's number. -/
theorem cnt_fr : ∀ (g n L : Nat), n ≤ g → 2 ≤ L → (2 ≤ n → 3 ≤ L) → (cnt g n L : Int) = if n ≤ 1 then (n : Int) else fr (L - 3) n
  | 0, n, L, h, _, _ => by
    obtain rfl : n = 0 := by omega
    rfl
  | g + 1, n, L, h, hL, hn => by
    rw [cnt]
    by_cases h0 : n = 0
    · subst h0; rfl
    · by_cases h1 : n = 1
      · subst h1; rfl
      · have hL3 := hn (by omega)
        obtain ⟨k1, k2⟩ := kOf_bd n L (by omega)
        have frs : ∀ m a : Nat, (if a ≤ 1 then (a : Int) else fr m a) = fr m a := fun m a => by
          split
          · obtain rfl | rfl : a = 0 ∨ a = 1 := by omega
            · rw [fr_zero]; rfl
            · rw [fr_one]; rfl
          · rfl
        have i1 := cnt_fr g (kOf n L) L (by omega) hL (fun _ => hL3)
        rw [frs] at i1
        rw [if_neg h0, if_neg h1, if_neg (by omega)]
        by_cases c : 3 < L
        · have hk : kOf n L = fi (L - 4) n := by unfold kOf; rw [if_pos c]
          have i2 := cnt_fr g (n - kOf n L) (L - 1) (by omega) (by omega) (fun _ => by omega)
          rw [frs] at i2
          obtain ⟨m, rfl⟩ : ∃ m, L = m + 4 := ⟨L - 4, by omega⟩
          have hs := fr_step m n (by omega)
          have hb := (bl_at (fx m n) (n - 1) (by omega)).2.2
          have e1 : m + 4 - 3 = m + 1 := by omega
          have e2 : m + 4 - 1 - 3 = m := by omega
          have e3 : m + 4 - 4 = m := by omega
          rw [e3] at hk
          rw [e1] at i1 ⊢
          rw [e2] at i2
          rw [hs, hb]
          show _ = 2 * fr (m + 1) (fi m n) + fr m (n - fi m n)
          rw [← hk]
          omega
        · have hk : kOf n L = n - 1 := by unfold kOf; rw [if_neg c]
          obtain rfl : L = 3 := by omega
          have i2 := cnt_fr g (n - kOf n 3) (3 - 1) (by omega) (by omega) (fun _ => by omega)
          rw [if_pos (by omega)] at i2
          have e : fr (3 - 3) n = 2 * fr (3 - 3) (kOf n 3) + 1 := by
            rw [hk]
            show (2 : Int) ^ n - 1 = 2 * ((2 : Int) ^ (n - 1) - 1) + 1
            obtain ⟨j, rfl⟩ : ∃ j, n = j + 1 := ⟨n - 1, by omega⟩
            rw [Nat.add_sub_cancel, Int.pow_succ]
            omega
          omega
end Go.Proofs.YtnaaomhmoamfpaaDoor.G
/- FrameWay's carry: what it keeps. -/
namespace Go.Proofs.YtnaaomhmoamfpaaDoor.G
set_option linter.unusedVariables false
set_option linter.unusedSimpArgs false
set_option linter.unusedSectionVars false
open Go.Proofs.YtnaaomhmoamfpaaDoor.Q Go.Proofs.YtnaaomhmoamfpaaDoor.Hn Go.Proofs.YtnaaomhmoamfpaaDoor.K Go.Proofs.YtnaaomhmoamfpaaDoor.It
open Go.RowKit Go.Shelf Go.Proofs.YtnaaomhmoamfpaaDoorW.PrintWords Go.Proofs.YtnaaomhmoamfpaaDoorW.PrintLast Go.Proofs.YtnaaomhmoamfpaaDoorW.PrintMore
/-- From W (the way so far: v) to W' (v'): block bo and v's row alone have changed. -/
structure Wr (bo : Nat) (v : Value) (W : World) (v' : Value) (W' : World) : Prop where
  bel : Below 0 W W'
  keep : ∀ k, k < W.heap.size → k ≠ bo → v.ownBlock ≠ some k → W'.heap[k]? = W.heap[k]?
  own : v'.ownBlock = v.ownBlock ∨ ∃ b, v'.ownBlock = some b ∧ W.heap.size ≤ b
theorem Wr.away {bo : Nat} {v v' : Value} {W W' : World} (h : Wr bo v W v' W') {k : Nat} (hk : k < W.heap.size) (hn : v.ownBlock ≠ some k) : v'.ownBlock ≠ some k := by
  rcases h.own with e | ⟨b, e, hb⟩
  · rw [e]; exact hn
  · rw [e]; intro e2; injection e2 with e2; omega
theorem Wr.trans {bo : Nat} {v v1 v2 : Value} {W W1 W2 : World} (h : Wr bo v W v1 W1) (h2 : Wr bo v1 W1 v2 W2) : Wr bo v W v2 W2 where
  bel := h.bel.trans h2.bel
  keep := fun k hk hb hn => (h2.keep k (Nat.lt_of_lt_of_le hk h.bel.size) hb (h.away hk hn)).trans (h.keep k hk hb hn)
  own := by
    rcases h2.own with e | ⟨b, e, hb⟩
    · rw [e]; exact h.own
    · exact .inr ⟨b, e, Nat.le_trans h.bel.size hb⟩
theorem Wr.fresh {bo : Nat} {v : Value} {W W' : World} (h : Below W.heap.size W W') : Wr bo v W v W' where
  bel := h.mono (Nat.zero_le _)
  keep := fun k hk _ _ => h.block k hk
  own := .inl rfl
theorem Wr.below {bo B base : Nat} {v v' : Value} {W W' : World} (h : Wr bo v W v' W') (h1 : base ≤ bo) (h2 : ∀ k, v.ownBlock = some k → base ≤ k) (h3 : base ≤ W.heap.size) : Below base W W' :=
  ⟨h.bel.os, h.bel.tape, h.bel.output, h.bel.size, fun k hk => h.keep k (by omega) (by omega) (fun e => by have := h2 k e; omega)⟩
/-- What carry finds, and leaves: the way so far, itself, the table. -/
structure CarJ (bo bf1 bcl bf N B : Nat) (fst : Nat → Nat → Int) (v : Value) (ms : List (Nat × Int)) (W : World) : Prop where
  out : Blk W bo #[v] 48
  row : Kd.R k52 52 W B (fun _ => True) v (ms.map mkI)
  cl : Blk W bcl #[.func (.func 84) #[] #[.pointer (some ⟨bo, 0, none⟩), .pointer (some ⟨bf1, 0, none⟩), .pointer (some ⟨bcl, 0, none⟩)]] 121
  f1 : Blk W bf1 #[.slice (some ⟨bf, 0, none⟩) (N + 1) (N + 1)] 93
  mat : Mat W bf 122 N fst
  size : B ≤ W.heap.size
theorem Mat.below' {w w1 : World} {b : Nat} {t : TypeId} {n : Nat} {num : Nat → Nat → Int} (h : Mat w b t n num) (he : w1.heap[b]? = w.heap[b]?) : Mat w1 b t n num := by
  obtain ⟨cs, h1, h2⟩ := h
  exact ⟨cs, he.trans h1, h2⟩
theorem CarJ.below {bo bf1 bcl bf N B : Nat} {fst : Nat → Nat → Int} {v : Value} {ms : List (Nat × Int)} {W W' : World} (h : CarJ bo bf1 bcl bf N B fst v ms W) (hb : Below W.heap.size W W') : CarJ bo bf1 bcl bf N B fst v ms W' where
  out := h.out.below hb h.out.lt
  row := Kd.R_below h.row hb
  cl := h.cl.below hb h.cl.lt
  f1 := h.f1.below hb h.f1.lt
  mat := h.mat.below' (hb.block _ h.mat.lt)
  size := Nat.le_trans h.size hb.size
theorem R_of_blk {W : World} {g base : Nat} {x : Int} {ok : Nat → Prop} (h : Blk W g #[.int .i64 x] 3) (hb : base ≤ g) (ho : ok g) : Kd.R (Kd.int .i64) 3 W base ok (.slice (some ⟨g, 0, none⟩) 1 1) [x] := by
  refine ⟨fun k hk => ?_, [.int .i64 x], ?_, ?_⟩
  · have : g = k := by simpa [Value.ownBlock] using hk
    subst this; exact ho
  · exact ⟨rfl, .inr ⟨g, 1, #[.int .i64 x], rfl, hb, h, Nat.le_refl _, by decide, rfl, rfl⟩⟩
  · refine ⟨rfl, fun j p hj => ?_⟩
    match j, hj with
    | 0, hj =>
      obtain rfl := Option.some.inj hj
      exact rfl
    | j + 1, hj => cases hj
theorem C_cut {W : World} {b0 L : Nat} {on : List Int} (h : Kd.C (Kd.int .i64) W (some ⟨b0, 0, none⟩) L on) (i m : Nat) (hi : i + m ≤ L) : Kd.C (Kd.int .i64) W (some ⟨b0, i, none⟩) m ((on.drop i).take m) := by
  obtain ⟨h1, h2, h3⟩ := h
  refine ⟨by rw [List.length_take, List.length_drop]; omega, by omega, fun hm => ⟨⟨b0, i, none⟩, rfl, fun j p hj => ?_⟩⟩
  obtain ⟨ad, e, h4⟩ := h3 (by omega)
  obtain rfl : ⟨b0, 0, none⟩ = ad := Option.some.inj e
  have hj2 : on[i + j]? = some p := by
    rw [List.getElem?_take] at hj
    split at hj
    · rw [List.getElem?_drop] at hj; exact hj
    · cases hj
  obtain ⟨cs, q1, q2, q3⟩ := h4 (i + j) p hj2
  refine ⟨cs, q1, q2, fun k u hu => ?_⟩
  have := q3 k u hu
  have e : (Addr.add ⟨b0, i, none⟩ (j * (Kd.int .i64).sz + k)) = (Addr.add ⟨b0, 0, none⟩ ((i + j) * (Kd.int .i64).sz + k)) := by
    show Addr.add ⟨b0, i, none⟩ (j * 1 + k) = Addr.add ⟨b0, 0, none⟩ ((i + j) * 1 + k)
    unfold Addr.add
    by_cases h0 : j * 1 + k = 0
    · by_cases hi0 : i = 0
      · subst hi0
        rw [if_pos h0, if_pos (by omega)]
      · rw [if_pos h0, if_neg (by omega)]
        have : 0 + ((i + j) * 1 + k) = i := by omega
        simp only [this]
    · rw [if_neg h0, if_neg (by omega)]
      have : i + (j * 1 + k) = 0 + ((i + j) * 1 + k) := by omega
      simp only [this]
  rw [e]; exact this
end Go.Proofs.YtnaaomhmoamfpaaDoor.G
/- FrameWay's carry: its contract. -/
namespace Go.Proofs.YtnaaomhmoamfpaaDoor.G
set_option linter.unusedVariables false
set_option linter.unusedSimpArgs false
set_option linter.unusedSectionVars false
open Go.Proofs.YtnaaomhmoamfpaaDoor.Q Go.Proofs.YtnaaomhmoamfpaaDoor.Hn Go.Proofs.YtnaaomhmoamfpaaDoor.K Go.Proofs.YtnaaomhmoamfpaaDoor.It
open Go.RowKit Go.Shelf Go.Proofs.YtnaaomhmoamfpaaDoorW.PrintWords Go.Proofs.YtnaaomhmoamfpaaDoorW.PrintLast Go.Proofs.YtnaaomhmoamfpaaDoorW.PrintMore
/-- Where things lie. -/
structure CarB (bo bf1 bcl bf N B p : Nat) (fst : Nat → Nat → Int) : Prop where
  o1 : bo < B
  o2 : bf1 < B
  o3 : bcl < B
  o4 : bf < B
  n1 : bo ≠ bf1
  n2 : bo ≠ bcl
  n3 : bo ≠ bf
  p8 : p ≤ 8
  N40 : N ≤ 40
  tab : ∀ d q, 2 ≤ d → d ≤ N → 4 ≤ q → q ≤ p → fst d q = (fi (q - 4) d : Nat)
def CarSpec (bo bf1 bcl bf N B p : Nat) (fst : Nat → Nat → Int) (g : Nat) : Prop :=
  ∀ (f n : Nat) (on : List Int) (b0 cap L : Nat) (v : Value) (ms : List (Nat × Int)) (W : World), n ≤ g → n ≤ N → on.length = L → L ≤ p → 1 ≤ L → (2 ≤ n → 3 ≤ L) → f + n ≤ 40 → ms.length + cnt g n L ≤ 1000000 →
    CarJ bo bf1 bcl bf N B fst v ms W → Kd.R (Kd.int .i64) 3 W 0 (fun j => j = b0) (.slice (some ⟨b0, 0, none⟩) L cap) on → b0 ≠ bo → v.ownBlock ≠ some b0 →
    Calls Tryd.prog 84 #[.int .i64 (f : Int), .int .i64 (n : Int), .slice (some ⟨b0, 0, none⟩) L cap, .pointer (some ⟨bo, 0, none⟩), .pointer (some ⟨bf1, 0, none⟩), .pointer (some ⟨bcl, 0, none⟩)] W fun e W' => (∃ x, e = .returned x) ∧ ∃ v', CarJ bo bf1 bcl bf N B fst v' (ms ++ carL g f n on) W' ∧ Wr bo v W v' W'

set_option maxHeartbeats 8000000 in
set_option maxRecDepth 100000 in
theorem carry_none {bo bf1 bcl bf N B p : Nat} {fst : Nat → Nat → Int} (f : Nat) (on : List Int) (b0 cap L g : Nat) (v : Value) (ms : List (Nat × Int)) (W : World) (hJ : CarJ bo bf1 bcl bf N B fst v ms W) :
    Calls Tryd.prog 84 #[.int .i64 (f : Int), .int .i64 ((0 : Nat) : Int), .slice (some ⟨b0, 0, none⟩) L cap, .pointer (some ⟨bo, 0, none⟩), .pointer (some ⟨bf1, 0, none⟩), .pointer (some ⟨bcl, 0, none⟩)] W fun e W' => (∃ x, e = .returned x) ∧ ∃ v', CarJ bo bf1 bcl bf N B fst v' (ms ++ carL g f 0 on) W' ∧ Wr bo v W v' W' := by
  have HJ := Aside0.mk hJ
  clear hJ
  have e : carL g f 0 on = [] := by cases g <;> rfl
  rw [e, List.append_nil]
  clear e
  go_enter Tryd.func84, Tryd.ntmps84
  go_wp2
  refine bodyPost_end (results_none rfl _ _ _) rfl ?_
  exact ⟨⟨_, rfl⟩, v, HJ.out, Wr.fresh (Below.refl _ _)⟩

set_option maxHeartbeats 8000000 in
set_option maxRecDepth 100000 in
theorem carry_one {bo bf1 bcl bf N B p : Nat} {fst : Nat → Nat → Int} (hB : CarB bo bf1 bcl bf N B p fst) (f : Nat) (on : List Int) (b0 cap L g : Nat) (v : Value) (ms : List (Nat × Int)) (W : World) (hol : on.length = L) (hL : L ≤ p) (hL1 : 1 ≤ L) (hms : ms.length + 1 ≤ 1000000) (hJ : CarJ bo bf1 bcl bf N B fst v ms W) (hR : Kd.R (Kd.int .i64) 3 W 0 (fun j => j = b0) (.slice (some ⟨b0, 0, none⟩) L cap) on) (hb0 : b0 ≠ bo) (hvb : v.ownBlock ≠ some b0) :
    Calls Tryd.prog 84 #[.int .i64 (f : Int), .int .i64 ((1 : Nat) : Int), .slice (some ⟨b0, 0, none⟩) L cap, .pointer (some ⟨bo, 0, none⟩), .pointer (some ⟨bf1, 0, none⟩), .pointer (some ⟨bcl, 0, none⟩)] W fun e W' => (∃ x, e = .returned x) ∧ ∃ v', CarJ bo bf1 bcl bf N B fst v' (ms ++ carL (g + 1) f 1 on) W' ∧ Wr bo v W v' W' := by
  have hp8 := hB.p8
  have ho1 := hB.o1
  obtain ⟨A, c, rfl⟩ := Kd.R_slice hJ.row
  have hc := hJ.out.cell 0 (v := .slice A (ms.map mkI).length c) rfl
  obtain ⟨hcg, hfg⟩ := Kd.R_celln (0 : Int) hR ((L - 1 : Nat) : Int) (by omega) (by omega)
  rw [Int.toNat_natCast] at hcg hfg
  have hrd : rdOf (0 : Int) on ((L - 1 : Nat) : Int) = nth on (L - 1) := by simp [rdOf, nth]
  rw [hrd] at hcg
  have e : carL (g + 1) f 1 on = [(f, nth on (L - 1))] := by rw [carL, if_neg (by omega), if_pos rfl, hol]
  rw [e]
  obtain ⟨x, hx⟩ : ∃ x, nth on (L - 1) = x := ⟨_, rfl⟩
  rw [hx] at hcg ⊢
  have hne : (Value.slice A (ms.map mkI).length c).ownBlock ≠ some bo := fun e => by have := Kd.R_base hJ.row _ e; omega
  have hlen : (ms.map mkI).length = ms.length := List.length_map ..
  obtain ⟨xs, hxs⟩ : ∃ xs, ms.map mkI = xs := ⟨_, rfl⟩
  have H1 := Aside0.mk hJ.out
  have H3 := Aside0.mk hJ.row
  rw [hxs] at hc hne hlen H1 H3
  have HJ := Aside0.mk hJ
  have HX := Aside0.mk hxs
  have HN := Aside0.mk hne
  have HL := Aside0.mk hlen
  have HB := Aside0.mk hB
  have HV := Aside0.mk hvb
  have HO := Aside0.mk hol
  have hcap := (Kd.R_reads' hR).2.1
  have hw1 : IntKind.i64.wrap ((L : Int) - 1) = ((L - 1 : Nat) : Int) := by rw [i64_w, w64 (by omega) (by omega)]; omega
  have hi0 : (0 : Int) ≤ ((L - 1 : Nat) : Int) := by omega
  have hi1 : ((L - 1 : Nat) : Int) < (L : Int) := by omega
  have hi2 : L - 1 < L := by omega
  have HR := Aside0.mk hR
  have hca := (H1.out.alloc (Obj.cells #[Value.int IntKind.i64 (f : Int), Value.int IntKind.i64 x] 52)).cell 0 (v := .slice A xs.length c) rfl
  have hcga := (Kd.R_celln (0 : Int) (Kd.R_alloc HR.out (Obj.cells #[Value.int IntKind.i64 (f : Int), Value.int IntKind.i64 x] 52)) ((L - 1 : Nat) : Int) (by omega) (by omega)).1
  rw [Int.toNat_natCast, hrd, hx] at hcga
  have HXX := Aside0.mk hx
  clear hJ hR hB hvb hol hne hxs hlen hrd hx e
  go_enter Tryd.func84, Tryd.ntmps84
  go_wp2
  go_region_law (first | ((with_reducible refine gate_app_st rfl ?_); refine R_append_st k52 B (by rfl) (.tmp 84) (.tmp 93) 48 52 (.agg #[(.int .i64 0), (.int .i64 0)]) 16 rfl u48 info52 rfl (by decide) (by omega) (.slice A xs.length c) xs (⟨(f : Int), x⟩ : S52) [.int .i64 (f : Int), .int .i64 x] (fun _ => True) (fun _ => False) rfl W.heap.size rfl ((Blk.new W #[.int .i64 (f : Int), .int .i64 x] 52)) (k52_mkM _ _ _ (⟨(f : Int), x⟩ : S52)) (fun _ h => h.elim) (fun k hk => trivial) (Kd.R_drew (Kd.R_alloc H3.out _)) (by have := HJ.out.size; simp; omega) (by have := HL.out; omega) ?_; intro v1 w1 ho hg hat; obtain ⟨Ay, cy, ey⟩ := Kd.R_slice ho; subst ey; rw [show (xs ++ [(⟨(f : Int), x⟩ : S52)]).length = xs.length + 1 by simp] at ho hat; have hb9 := Blk.grown (show Blk (W.alloc (Obj.cells #[Value.int IntKind.i64 (f : Int), Value.int IntKind.i64 x] 52)).drew bo #[.slice A xs.length c] 48 from H1.out.alloc _) hg HN.out; have hc9 := hb9.cell 0 (v := .slice A xs.length c) rfl; have hf9 := hb9.free 0; have G1 := Aside0.mk ho; have G2 := Aside0.mk hg; have G4 := Aside0.mk hb9; have G5 := Aside0.mk hat; clear ho hg hat hb9))
  all_goals
    go_wp2
    refine bodyPost_end (results_none rfl _ _ _) rfl ?_
    have V0 : Below W.heap.size W ((W.alloc (Obj.cells #[Value.int IntKind.i64 (f : Int), Value.int IntKind.i64 x] 52)).drew) := (((Below.refl _ W).alloc (Nat.le_refl _) _)).drew
    have hown : ∀ k, (Value.slice A xs.length c).ownBlock = some k → B ≤ k := fun k e => Kd.R_base H3.out k e
    have J := HJ.out.below V0
    have cb := HB.out
    have Eh : ∀ k, k < W.heap.size → k ≠ bo → (Value.slice A xs.length c).ownBlock ≠ some k → (w1.setCell ⟨bo, 0, none⟩ (.slice Ay (xs.length + 1) cy)).heap[k]? = W.heap[k]? := fun k hk hb hn =>
      (Below.heap_setCell _ _ _ _ hb).trans ((G2.out.block k (by simp; omega) (fun e => hn e.symm)).trans (V0.block k hk))
    have hsz : W.heap.size ≤ w1.heap.size := by have := G2.out.size; simp at this; omega
    have hfar : ∀ k, k < B → k ≠ bo → (w1.setCell ⟨bo, 0, none⟩ (.slice Ay (xs.length + 1) cy)).heap[k]? = W.heap[k]? := fun k hk hb => Eh k (by have := HJ.out.size; omega) hb (fun e => by have := hown k e; omega)
    refine ⟨⟨_, rfl⟩, .slice Ay (xs.length + 1) cy, ⟨?_, ?_, ?_, ?_, ?_, ?_⟩, ?_, ?_, ?_⟩
    · exact G4.out.set 0 _
    · rw [List.map_append, HX.out]
      refine Kd.R_mono (Kd.R_far (Kd.R_bound G1.out) (fun k hk => ?_) _) (fun _ hk => hk.1)
      have := hk.2.1
      show k ≠ bo
      omega
    · exact (hfar bcl cb.o3 (fun e => cb.n2 e.symm)).trans HJ.out.cl
    · exact (hfar bf1 cb.o2 (fun e => cb.n1 e.symm)).trans HJ.out.f1
    · exact HJ.out.mat.below' (hfar bf cb.o4 (fun e => cb.n3 e.symm))
    · have := HJ.out.size
      simp [World.setCell]
      omega
    · exact ((V0.mono (Nat.zero_le _)).grown G2.out (Nat.zero_le _) (fun k e => Nat.zero_le _)).setCell (Nat.zero_le _) _
    · rw [HX.out] at *
      exact Eh
    · rw [HX.out]
      rcases G5.out with e | ⟨b, e, hb⟩
      · exact .inl e
      · exact .inr ⟨b, e, by simp at hb; omega⟩
end Go.Proofs.YtnaaomhmoamfpaaDoor.G
/- FrameWay's carry: its contract, the step. -/
namespace Go.Proofs.YtnaaomhmoamfpaaDoor.G
set_option linter.unusedVariables false
set_option linter.unusedSimpArgs false
set_option linter.unusedSectionVars false
open Go.Proofs.YtnaaomhmoamfpaaDoor.Q Go.Proofs.YtnaaomhmoamfpaaDoor.Hn Go.Proofs.YtnaaomhmoamfpaaDoor.K Go.Proofs.YtnaaomhmoamfpaaDoor.It
open Go.RowKit Go.Shelf Go.Proofs.YtnaaomhmoamfpaaDoorW.PrintWords Go.Proofs.YtnaaomhmoamfpaaDoorW.PrintLast Go.Proofs.YtnaaomhmoamfpaaDoorW.PrintMore

section
open Go.Proofs.YtnaaomhmoamfpaaDoorW.PrintWords.Kd
variable {P : Program} {ops : Array Oper} {o : Oper} {a : Act} {Q : Exit → Act → World → Prop} {Kc : Act → World → Prop}
theorem gate_callv_st {W : World} {t : Tmp} {xs : Array Operand} {ts : Array TypeId} (_ho : o.op = .call { callee := .value (.tmp t), args := xs, argTypes := ts }) (h : if Region.wanted o (yielded ops a.tmps) = true then Oper.wp P o a W Kc Q else Kc (a.put o.dst undef) W) : if Region.wanted o (yielded ops a.tmps) = true then Oper.wp P o a W Kc Q else Kc (a.put o.dst undef) W := h
end

theorem R_of_blk2 {W : World} {g base : Nat} {x y : Int} {ok : Nat → Prop} (h : Blk W g #[.int .i64 x, .int .i64 y] 3) (hb : base ≤ g) (ho : ok g) : Kd.R (Kd.int .i64) 3 W base ok (.slice (some ⟨g, 0, none⟩) 2 2) [x, y] := by
  refine ⟨fun k hk => ?_, [.int .i64 x, .int .i64 y], ?_, ?_⟩
  · have : g = k := by simpa [Value.ownBlock] using hk
    subst this; exact ho
  · exact ⟨rfl, .inr ⟨g, 2, #[.int .i64 x, .int .i64 y], rfl, hb, h, Nat.le_refl _, by decide, rfl, rfl⟩⟩
  · refine ⟨rfl, fun j p hj => ?_⟩
    match j, hj with
    | 0, hj =>
      obtain rfl := Option.some.inj hj
      exact rfl
    | 1, hj =>
      obtain rfl := Option.some.inj hj
      exact rfl
    | j + 2, hj => cases hj
theorem R_reads2 {W : World} {base b0 L cap : Nat} {ok : Nat → Prop} {on : List Int} (h : Kd.R (Kd.int .i64) 3 W base ok (.slice (some ⟨b0, 0, none⟩) L cap) on) (hl : on.length = L) : Kd.C (Kd.int .i64) W (some ⟨b0, 0, none⟩) L on := by
  subst hl
  exact (Kd.R_reads' h).2.2
set_option maxHeartbeats 8000000 in
set_option maxRecDepth 100000 in
theorem carry_step {bo bf1 bcl bf N B p : Nat} {fst : Nat → Nat → Int} (hB : CarB bo bf1 bcl bf N B p fst) (g : Nat) (ih : CarSpec bo bf1 bcl bf N B p fst g) (f n : Nat) (on : List Int) (b0 cap L : Nat) (v : Value) (ms : List (Nat × Int)) (W : World)
    (hn2 : 2 ≤ n) (hng : n ≤ g + 1) (hnN : n ≤ N) (hol : on.length = L) (hL : L ≤ p) (hL3 : 3 ≤ L) (hfn : f + n ≤ 40) (hms : ms.length + cnt (g + 1) n L ≤ 1000000) (hJ : CarJ bo bf1 bcl bf N B fst v ms W) (hR : Kd.R (Kd.int .i64) 3 W 0 (fun j => j = b0) (.slice (some ⟨b0, 0, none⟩) L cap) on) (hb0 : b0 ≠ bo) (hvb : v.ownBlock ≠ some b0) :
    Calls Tryd.prog 84 #[.int .i64 (f : Int), .int .i64 (n : Int), .slice (some ⟨b0, 0, none⟩) L cap, .pointer (some ⟨bo, 0, none⟩), .pointer (some ⟨bf1, 0, none⟩), .pointer (some ⟨bcl, 0, none⟩)] W fun e W' => (∃ x, e = .returned x) ∧ ∃ v', CarJ bo bf1 bcl bf N B fst v' (ms ++ carL (g + 1) f n on) W' ∧ Wr bo v W v' W' := by
  have hp8 := hB.p8
  have hN40 := hB.N40
  obtain ⟨hk1, hk2⟩ := kOf_bd n L hn2
  have ht := hB.tab n L hn2 hnN
  have hcnt : cnt (g + 1) n L = cnt g (kOf n L) L + cnt g (n - kOf n L) (L - 1) + cnt g (kOf n L) L := by rw [cnt, if_neg (by omega), if_neg (by omega)]
  rw [hcnt] at hms
  have hcar : carL (g + 1) f n on = carL g f (kOf n L) ([nth on 0] ++ on.drop 2 ++ [nth on 1]) ++
      carL g (f + kOf n L) (n - kOf n L) ([nth on 0] ++ on.drop 2) ++
      carL g f (kOf n L) ([nth on 1, nth on 0] ++ (on.take (L - 1)).drop 2 ++ [nth on (L - 1)]) := by rw [carL, if_neg (by omega), if_neg (by omega), hol]
  rw [hcar]
  have hkk : kOf n L = if 3 < L then fi (L - 4) n else n - 1 := rfl
  obtain ⟨kk, hkd⟩ : ∃ kk, kOf n L = kk := ⟨_, rfl⟩
  rw [hkd] at hk1 hk2 hms hkk ⊢
  have hn3 : 2 ≤ n - kk → 3 ≤ L - 1 := fun h => by
    rw [hkk] at h
    split at h <;> omega
  have hcf := hJ.f1.cell 0 (v := .slice (some ⟨bf, 0, none⟩) (N + 1) (N + 1)) rfl
  have hcm := hJ.mat.cell n L hnN (by omega)
  have rds : ∀ i : Nat, rdOf (0 : Int) on (i : Int) = nth on i := fun i => by simp [rdOf, nth]
  obtain ⟨hc0, hf0⟩ := Kd.R_celln (0 : Int) hR ((0 : Nat) : Int) (by omega) (by omega)
  obtain ⟨hc1, hf1⟩ := Kd.R_celln (0 : Int) hR ((1 : Nat) : Int) (by omega) (by omega)
  obtain ⟨hcl, hfl⟩ := Kd.R_celln (0 : Int) hR ((L - 1 : Nat) : Int) (by omega) (by omega)
  rw [Int.toNat_natCast, rds] at hc0 hc1 hcl
  obtain ⟨xa, hxa⟩ : ∃ x, nth on 0 = x := ⟨_, rfl⟩
  obtain ⟨xb, hxb⟩ : ∃ x, nth on 1 = x := ⟨_, rfl⟩
  obtain ⟨xc, hxc⟩ : ∃ x, nth on (L - 1) = x := ⟨_, rfl⟩
  rw [hxa, hxb, hxc]
  rw [hxa] at hc0
  rw [hxb] at hc1
  rw [hxc] at hcl
  obtain ⟨on2, he2⟩ : ∃ x, [xa] ++ on.drop 2 = x := ⟨_, rfl⟩
  obtain ⟨on4, he4⟩ : ∃ x, [xb, xa] ++ (on.take (L - 1)).drop 2 = x := ⟨_, rfl⟩
  rw [he2, he4]
  obtain ⟨on1, he1⟩ : ∃ x, on2 ++ [xb] = x := ⟨_, rfl⟩
  obtain ⟨on3, he3⟩ : ∃ x, on4 ++ [xc] = x := ⟨_, rfl⟩
  rw [he1, he3]
  have hl2 : on2.length = L - 1 := by rw [← he2]; simp; omega
  have hl1 : on1.length = L := by rw [← he1, List.length_append, hl2]; simp; omega
  have hl4 : on4.length = L - 1 := by rw [← he4]; simp; omega
  have hl3 : on3.length = L := by rw [← he3, List.length_append, hl4]; simp; omega
  obtain ⟨p1, hp1⟩ : ∃ x, carL g f kk on1 = x := ⟨_, rfl⟩
  obtain ⟨p2, hp2⟩ : ∃ x, carL g (f + kk) (n - kk) on2 = x := ⟨_, rfl⟩
  obtain ⟨p3, hp3⟩ : ∃ x, carL g f kk on3 = x := ⟨_, rfl⟩
  rw [hp1, hp2, hp3]
  have hlp1 : p1.length = cnt g kk L := by rw [← hp1, carL_len g f kk on1 (by omega), hl1]
  have hlp2 : p2.length = cnt g (n - kk) (L - 1) := by rw [← hp2, carL_len g (f + kk) (n - kk) on2 (by rw [hl2]; exact hn3), hl2]
  obtain ⟨mm, hmm⟩ : ∃ x, ms ++ (p1 ++ p2 ++ p3) = x := ⟨_, rfl⟩
  rw [hmm]
  have hcap := (Kd.R_reads' hR).2.1
  have hw1 : IntKind.i64.wrap ((n : Int) - 1) = ((n - 1 : Nat) : Int) := by rw [i64_w, w64 (by omega) (by omega)]; omega
  have hw2 : IntKind.i64.wrap ((L : Int) - 1) = ((L - 1 : Nat) : Int) := by rw [i64_w, w64 (by omega) (by omega)]; omega
  have hw3 : IntKind.i64.wrap ((f : Int) + (kk : Int)) = ((f + kk : Nat) : Int) := by rw [i64_w, w64 (by omega) (by omega)]; omega
  have hw4 : IntKind.i64.wrap ((n : Int) - (kk : Int)) = ((n - kk : Nat) : Int) := by rw [i64_w, w64 (by omega) (by omega)]; omega
  have e0 : ((n : Int) == 0) = false := by rw [beq_eq_false_iff_ne]; omega
  have e1 : ((n : Int) == 1) = false := by rw [beq_eq_false_iff_ne]; omega
  have hi0 : (0 : Int) ≤ ((L - 1 : Nat) : Int) := by omega
  have hi1 : ((L - 1 : Nat) : Int) < (L : Int) := by omega
  have hi2 : L - 1 < L := by omega
  have hj0 : (n : Int) < (N : Int) + 1 := by omega
  have hj1 : (L : Int) < 9 := by omega
  have hj2 : (0 : Int) < (L : Int) := by omega
  have hj3 : (1 : Int) < (L : Int) := by omega
  have hs2 : (2 : Int) ≤ (L : Int) := by omega
  have hs3 : (L : Int) ≤ (cap : Int) := by omega
  have hs4 : (2 : Int) ≤ ((L - 1 : Nat) : Int) := by omega
  have hs5 : ((L - 1 : Nat) : Int) ≤ (cap : Int) := by omega
  have hm2 : 0 < L := by omega
  have hm3 : 1 < L := by omega
  have hm4 : 2 ≤ L := by omega
  have hm5 : L ≠ 0 := by omega
  have hm6 : ¬ cap = 2 := by omega
  have hm7 : 2 ≤ L - 1 := by omega
  have hm8 : L - 1 ≤ cap := by omega
  have HJ := Aside0.mk hJ
  have HR := Aside0.mk hR
  have HB := Aside0.mk hB
  have HI := Aside0.mk ih
  have HV := Aside0.mk hvb
  have HO := Aside0.mk hol
  have HT := Aside0.mk ht
  have HKK := Aside0.mk hkk
  have HN3 := Aside0.mk hn3
  have HE1 := Aside0.mk he1
  have HE2 := Aside0.mk he2
  have HE3 := Aside0.mk he3
  have HE4 := Aside0.mk he4
  have HL1 := Aside0.mk hl1
  have HL2 := Aside0.mk hl2
  have HL3 := Aside0.mk hl3
  have HL4 := Aside0.mk hl4
  have HP1 := Aside0.mk hp1
  have HP2 := Aside0.mk hp2
  have HP3 := Aside0.mk hp3
  have HQ1 := Aside0.mk hlp1
  have HQ2 := Aside0.mk hlp2
  have HMM := Aside0.mk hmm
  have HMS := Aside0.mk hms
  have dl := Aside0.mk (show (on.drop 2).length = L - 2 by rw [List.length_drop, hol])
  have dt := Aside0.mk (show (on.take (L - 1)).drop 2 = (on.drop 2).take (L - 1 - 2) by rw [List.drop_take])
  have hb00 : b0 < W.heap.size := Kd.R_lt hR b0 rfl
  clear hJ hR hB ih hvb hol ht hkk hkd hxa hxb hxc hcnt hcar rds hn3 he1 he2 he3 he4 hl1 hl2 hl3 hl4 hp1 hp2 hp3 hlp1 hlp2 hmm hms
  go_enter Tryd.func84, Tryd.ntmps84
  go_upto_if 17 with fail
  go_cut [9] (fun u wc => u = .int .i64 (kk : Int) ∧ W = wc)
  case first =>
    by_cases c : 3 < L
    · have c1 : (3 : Int) < (L : Int) := by omega
      have hfi : fst n L = (kk : Int) := by rw [HT.out (by omega) hL, HKK.out, if_pos c]
      rw [hfi] at hcm
      clear hfi
      go_wp2
      go_meet
      case rel => exact ⟨rfl, rfl⟩
    · have c1 : ¬ (3 : Int) < (L : Int) := by omega
      have HFI := Aside0.mk (show n - 1 = kk by rw [HKK.out, if_neg c])
      go_wp2
      go_meet
      case rel => exact ⟨by rw [HFI.out], rfl⟩
  case rest =>
    obtain ⟨rfl, rfl⟩ := hcut
    go_upto_region 3 with fail
    go_quiet (fail)
    obtain ⟨W1, hW1⟩ : ∃ W1, W.drewN nq = W1 := ⟨_, rfl⟩
    have hD1 : Below W.heap.size W W1 := by rw [← hW1]; exact pw_below_drewN (Below.refl _ W) _
    have J1 := Aside0.mk (HJ.out.below hD1)
    have X1 := Aside0.mk (Wr.fresh (bo := bo) (v := v) hD1)
    rw [hW1]
    clear hD1 hW1 hc0 hc1 hcl hf0 hf1 hfl hcf hcm
    go_upto_region 4 with fail
    go_cut [] (fun wc => ∃ v1, Aside0 (CarJ bo bf1 bcl bf N B fst v1 (ms ++ p1) wc) ∧ Aside0 (Wr bo v W v1 wc))
    case first =>
      have hbs : bcl < W1.heap.size := J1.out.cl.lt
      have R1 := Aside0.mk (R_block HR.out (X1.out.keep b0 hb00 hb0 HV.out))
      have hcc := J1.out.cl.cell 0 (v := .func (.func 84) #[] #[.pointer (some ⟨bo, 0, none⟩), .pointer (some ⟨bf1, 0, none⟩), .pointer (some ⟨bcl, 0, none⟩)]) rfl
      have A1 := Aside0.mk (Blk.new W1 #[Value.int IntKind.i64 xa] 3)
      have E1 := Aside0.mk ((Below.refl _ W1).alloc (Nat.le_refl _) (Obj.cells #[Value.int IntKind.i64 xa] 3))
      have q1 := (J1.out.below E1.out).cl.cell 0 (v := .func (.func 84) #[] #[.pointer (some ⟨bo, 0, none⟩), .pointer (some ⟨bf1, 0, none⟩), .pointer (some ⟨bcl, 0, none⟩)]) rfl
      have E2 := Aside0.mk ((Below.refl _ W1).alloc (Nat.le_refl _) (Obj.cells #[Value.int IntKind.i64 xb] 3))
      have A12 := Aside0.mk ((Blk.new W1 #[Value.int IntKind.i64 xa] 3).alloc (Obj.cells #[Value.int IntKind.i64 xb] 3))
      have B21 := Aside0.mk ((Blk.new W1 #[Value.int IntKind.i64 xb] 3).alloc (Obj.cells #[Value.int IntKind.i64 xa] 3))
      have B12 : Aside0 (Blk ((W1.alloc (Obj.cells #[Value.int IntKind.i64 xa] 3)).alloc (Obj.cells #[Value.int IntKind.i64 xb] 3)) (W1.heap.size + 1) #[Value.int IntKind.i64 xb] 3) := ⟨by have := Blk.new (W1.alloc (Obj.cells #[Value.int IntKind.i64 xa] 3)) #[Value.int IntKind.i64 xb] 3; rwa [World.size_alloc] at this⟩
      have A21 : Aside0 (Blk ((W1.alloc (Obj.cells #[Value.int IntKind.i64 xb] 3)).alloc (Obj.cells #[Value.int IntKind.i64 xa] 3)) (W1.heap.size + 1) #[Value.int IntKind.i64 xa] 3) := ⟨by have := Blk.new (W1.alloc (Obj.cells #[Value.int IntKind.i64 xb] 3)) #[Value.int IntKind.i64 xa] 3; rwa [World.size_alloc] at this⟩
      have E12 := Aside0.mk (E1.out.alloc (by simp) (Obj.cells #[Value.int IntKind.i64 xb] 3))
      have E21 := Aside0.mk (E2.out.alloc (by simp) (Obj.cells #[Value.int IntKind.i64 xa] 3))
      have q2 := (J1.out.below E2.out).cl.cell 0 (v := .func (.func 84) #[] #[.pointer (some ⟨bo, 0, none⟩), .pointer (some ⟨bf1, 0, none⟩), .pointer (some ⟨bcl, 0, none⟩)]) rfl
      have q3 := (J1.out.below E12.out).cl.cell 0 (v := .func (.func 84) #[] #[.pointer (some ⟨bo, 0, none⟩), .pointer (some ⟨bf1, 0, none⟩), .pointer (some ⟨bcl, 0, none⟩)]) rfl
      have q4 := (J1.out.below E21.out).cl.cell 0 (v := .func (.func 84) #[] #[.pointer (some ⟨bo, 0, none⟩), .pointer (some ⟨bf1, 0, none⟩), .pointer (some ⟨bcl, 0, none⟩)]) rfl
      have CD := Aside0.mk (show Kd.C (Kd.int .i64) W1 (some ⟨b0, 2, none⟩) (L - 2) (on.drop 2) by have := C_cut (R_reads2 R1.out HO.out) 2 (L - 2) (by omega); rwa [List.take_of_length_le (by rw [dl.out]; exact Nat.le_refl _)] at this)
      go_region_law (first | ((with_reducible refine gate_callv_st (t := 37) rfl ?_); go_simp; go_at_call 84; refine (HI.out f kk on1 g7 c7 L v ms w2 (by omega) (by omega) HL1.out (by omega) (by omega) (fun _ => by omega) (by omega) (by have := HMS.out; omega) (J1.out.below K2.out) (Kd.R_lower (Kd.R_mono (Kd.R_tight rfl K1.out) (fun j hj => Option.some.inj hj)) (Nat.zero_le _)) (by have := Kd.R_base K1.out g7 rfl; have := J1.out.out.lt; omega) (fun e => by have := Kd.R_base K1.out g7 rfl; have := Kd.R_lt J1.out.row g7 e; omega)).mono ?_; rintro e w3 ⟨⟨u3, rfl⟩, v3, j3, x3⟩; have M1 := Aside0.mk j3; have M2 := Aside0.mk ((X1.out.trans (Wr.fresh K2.out)).trans x3); clear j3 x3; dsimp only) | ((with_reducible refine gate_app_st rfl ?_); refine R_append_st (Kd.int .i64) W1.heap.size (by rfl) (.tmp 44) (.tmp 46) 46 3 (.int .i64 0) 8 rfl Tryd.underlying46 info3 rfl (by decide) (by omega) _ on2 xb [.int .i64 xb] (fun _ => True) (fun _ => False) rfl _ rfl (by exact GB.out) rfl (fun _ h => h.elim) (fun _ _ => trivial) (by first | exact G1.out | exact Kd.R_alloc G1.out _) (by have := G2.out.size; simp <;> omega) (by rw [HL2.out]; omega) ?_; intro v2 w2 ho hg hat; rw [HE1.out] at ho; obtain ⟨g7, c7, e7, _, _, _⟩ := Kd.R_form ho (by rw [HL1.out]; omega); rw [HL1.out] at e7; subst e7; have K1 := Aside0.mk ho; have K2 : Aside0 (Below W1.heap.size W1 w2) := ⟨by first | exact G2.out.grown hg G2.out.size (fun k e => Kd.R_base G1.out k e) | exact (G2.out.alloc G2.out.size _).grown hg (by have := G2.out.size; simp <;> omega) (fun k e => Kd.R_base G1.out k e)⟩; have q7 := (J1.out.below K2.out).cl.cell 0 (v := .func (.func 84) #[] #[.pointer (some ⟨bo, 0, none⟩), .pointer (some ⟨bf1, 0, none⟩), .pointer (some ⟨bcl, 0, none⟩)]) rfl; clear ho hg hat) | ((with_reducible refine gate_app_st rfl ?_); refine R_append_rows_st (Kd.int .i64) (w0 := W1) W1.heap.size (by rfl) (.tmp 41) (.tmp 43) 46 3 (.int .i64 0) 8 rfl Tryd.underlying46 info3 rfl (by decide) (by omega) _ [xa] (on.drop 2) (some ⟨b0, 2, none⟩) (L - 2) (cap - 2) (fun _ => True) (fun _ => False) rfl rfl (R_of_blk (by first | exact A1.out | exact A12.out | exact A21.out) (by omega) trivial) (by first | exact Kd.C_below CD.out E1.out.drew | exact Kd.C_below CD.out E12.out.drew | exact Kd.C_below CD.out E21.out.drew) (fun _ _ h => h) (fun _ h => h.elim) (fun _ _ => trivial) (by first | exact E1.out.drew | exact E12.out.drew | exact E21.out.drew) (by simp <;> omega) (by simp <;> omega) ?_; intro v1 w1 ho hb hg hat; rw [HE2.out] at ho; obtain ⟨g5, c5, e5, _, _, _⟩ := Kd.R_form ho (by rw [HL2.out]; omega); rw [HL2.out] at e5; subst e5; have G1 := Aside0.mk ho; have G2 := Aside0.mk hb; (first | have GB := Aside0.mk (show Blk w1 (W1.heap.size + 1) #[Value.int IntKind.i64 xb] 3 from Blk.grown (by exact B12.out) hg (fun e => by have e2 := Option.some.inj (show some W1.heap.size = some (W1.heap.size + 1) from e); omega)) | have GB := Aside0.mk (show Blk w1 W1.heap.size #[Value.int IntKind.i64 xb] 3 from Blk.grown (by exact B21.out) hg (fun e => by have e2 := Option.some.inj (show some (W1.heap.size + 1) = some W1.heap.size from e); omega)) | have GB := Aside0.mk (Blk.new w1 #[Value.int IntKind.i64 xb] 3)); have q6 := (J1.out.below (hb.alloc hb.size (Obj.cells #[Value.int IntKind.i64 xb] 3))).cl.cell 0 (v := .func (.func 84) #[] #[.pointer (some ⟨bo, 0, none⟩), .pointer (some ⟨bf1, 0, none⟩), .pointer (some ⟨bcl, 0, none⟩)]) rfl; have q5 := (J1.out.below hb).cl.cell 0 (v := .func (.func 84) #[] #[.pointer (some ⟨bo, 0, none⟩), .pointer (some ⟨bf1, 0, none⟩), .pointer (some ⟨bcl, 0, none⟩)]) rfl; clear ho hb hg hat))
      all_goals
        go_wp2
        go_meet
        exact ⟨v3, ⟨by rw [← HP1.out]; exact M1.out⟩, M2⟩
    case rest =>
      obtain ⟨v2, J2, X2⟩ := hcut
      obtain ⟨W2, hW⟩ : ∃ x, x = wc := ⟨_, rfl⟩
      subst hW
      clear J1 X1 HJ
      go_upto_region 5 with fail
      go_cut [] (fun wc => ∃ v1, Aside0 (CarJ bo bf1 bcl bf N B fst v1 (ms ++ p1 ++ p2) wc) ∧ Aside0 (Wr bo v W v1 wc))
      case first =>
        have hbs : bcl < W2.heap.size := J2.out.cl.lt
        have R1 := Aside0.mk (R_block HR.out (X2.out.keep b0 hb00 hb0 HV.out))
        have hcc := J2.out.cl.cell 0 (v := .func (.func 84) #[] #[.pointer (some ⟨bo, 0, none⟩), .pointer (some ⟨bf1, 0, none⟩), .pointer (some ⟨bcl, 0, none⟩)]) rfl
        have A1 := Aside0.mk (Blk.new W2 #[Value.int IntKind.i64 xa] 3)
        have E1 := Aside0.mk ((Below.refl _ W2).alloc (Nat.le_refl _) (Obj.cells #[Value.int IntKind.i64 xa] 3))
        have q1 := (J2.out.below E1.out).cl.cell 0 (v := .func (.func 84) #[] #[.pointer (some ⟨bo, 0, none⟩), .pointer (some ⟨bf1, 0, none⟩), .pointer (some ⟨bcl, 0, none⟩)]) rfl
        have CD := Aside0.mk (show Kd.C (Kd.int .i64) W2 (some ⟨b0, 2, none⟩) (L - 2) (on.drop 2) by have := C_cut (R_reads2 R1.out HO.out) 2 (L - 2) (by omega); rwa [List.take_of_length_le (by rw [dl.out]; exact Nat.le_refl _)] at this)
        go_region_law (first | ((with_reducible refine gate_callv_st (t := 49) rfl ?_); go_simp; go_at_call 84; refine (HI.out (f + kk) (n - kk) on2 g5 c5 (L - 1) v2 (ms ++ p1) w1 (by omega) (by omega) HL2.out (by omega) (by omega) (fun h => HN3.out h) (by omega) (by rw [List.length_append, HQ1.out]; have := HMS.out; omega) (J2.out.below G2.out) (Kd.R_lower (Kd.R_mono (Kd.R_tight rfl G1.out) (fun j hj => Option.some.inj hj)) (Nat.zero_le _)) (by have := Kd.R_base G1.out g5 rfl; have := J2.out.out.lt; omega) (fun e => by have := Kd.R_base G1.out g5 rfl; have := Kd.R_lt J2.out.row g5 e; omega)).mono ?_; rintro e w3 ⟨⟨u3, rfl⟩, v3, j3, x3⟩; have M1 := Aside0.mk j3; have M2 := Aside0.mk ((X2.out.trans (Wr.fresh G2.out)).trans x3); clear j3 x3; dsimp only) | ((with_reducible refine gate_app_st rfl ?_); refine R_append_rows_st (Kd.int .i64) (w0 := W2) W2.heap.size (by rfl) (.tmp 57) (.tmp 59) 46 3 (.int .i64 0) 8 rfl Tryd.underlying46 info3 rfl (by decide) (by omega) _ [xa] (on.drop 2) (some ⟨b0, 2, none⟩) (L - 2) (cap - 2) (fun _ => True) (fun _ => False) rfl rfl (R_of_blk (by exact A1.out) (by omega) trivial) (by exact Kd.C_below CD.out E1.out.drew) (fun _ _ h => h) (fun _ h => h.elim) (fun _ _ => trivial) (by exact E1.out.drew) (by simp <;> omega) (by simp <;> omega) ?_; intro v1 w1 ho hb hg hat; rw [HE2.out] at ho; obtain ⟨g5, c5, e5, _, _, _⟩ := Kd.R_form ho (by rw [HL2.out]; omega); rw [HL2.out] at e5; subst e5; have G1 := Aside0.mk ho; have G2 := Aside0.mk hb; have q5 := (J2.out.below hb).cl.cell 0 (v := .func (.func 84) #[] #[.pointer (some ⟨bo, 0, none⟩), .pointer (some ⟨bf1, 0, none⟩), .pointer (some ⟨bcl, 0, none⟩)]) rfl; clear ho hb hg hat))
        all_goals
          go_wp2
          go_meet
          exact ⟨v3, ⟨by rw [← HP2.out]; exact M1.out⟩, M2⟩
      case rest =>
        obtain ⟨v3, J3, X3⟩ := hcut
        obtain ⟨W3, hW⟩ : ∃ x, x = wc := ⟨_, rfl⟩
        subst hW
        clear J2 X2
        go_upto_region 6 with fail
        have hbs : bcl < W3.heap.size := J3.out.cl.lt
        have R1 := Aside0.mk (R_block HR.out (X3.out.keep b0 hb00 hb0 HV.out))
        have hcc := J3.out.cl.cell 0 (v := .func (.func 84) #[] #[.pointer (some ⟨bo, 0, none⟩), .pointer (some ⟨bf1, 0, none⟩), .pointer (some ⟨bcl, 0, none⟩)]) rfl
        have A1 := Aside0.mk (Blk.new W3 #[Value.int IntKind.i64 xb, Value.int IntKind.i64 xa] 3)
        have E1 := Aside0.mk ((Below.refl _ W3).alloc (Nat.le_refl _) (Obj.cells #[Value.int IntKind.i64 xb, Value.int IntKind.i64 xa] 3))
        have q1 := (J3.out.below E1.out).cl.cell 0 (v := .func (.func 84) #[] #[.pointer (some ⟨bo, 0, none⟩), .pointer (some ⟨bf1, 0, none⟩), .pointer (some ⟨bcl, 0, none⟩)]) rfl
        have E2 := Aside0.mk ((Below.refl _ W3).alloc (Nat.le_refl _) (Obj.cells #[Value.int IntKind.i64 xc] 3))
        have A12 := Aside0.mk ((Blk.new W3 #[Value.int IntKind.i64 xb, Value.int IntKind.i64 xa] 3).alloc (Obj.cells #[Value.int IntKind.i64 xc] 3))
        have B21 := Aside0.mk ((Blk.new W3 #[Value.int IntKind.i64 xc] 3).alloc (Obj.cells #[Value.int IntKind.i64 xb, Value.int IntKind.i64 xa] 3))
        have B12 : Aside0 (Blk ((W3.alloc (Obj.cells #[Value.int IntKind.i64 xb, Value.int IntKind.i64 xa] 3)).alloc (Obj.cells #[Value.int IntKind.i64 xc] 3)) (W3.heap.size + 1) #[Value.int IntKind.i64 xc] 3) := ⟨by have := Blk.new (W3.alloc (Obj.cells #[Value.int IntKind.i64 xb, Value.int IntKind.i64 xa] 3)) #[Value.int IntKind.i64 xc] 3; rwa [World.size_alloc] at this⟩
        have A21 : Aside0 (Blk ((W3.alloc (Obj.cells #[Value.int IntKind.i64 xc] 3)).alloc (Obj.cells #[Value.int IntKind.i64 xb, Value.int IntKind.i64 xa] 3)) (W3.heap.size + 1) #[Value.int IntKind.i64 xb, Value.int IntKind.i64 xa] 3) := ⟨by have := Blk.new (W3.alloc (Obj.cells #[Value.int IntKind.i64 xc] 3)) #[Value.int IntKind.i64 xb, Value.int IntKind.i64 xa] 3; rwa [World.size_alloc] at this⟩
        have E12 := Aside0.mk (E1.out.alloc (by simp) (Obj.cells #[Value.int IntKind.i64 xc] 3))
        have E21 := Aside0.mk (E2.out.alloc (by simp) (Obj.cells #[Value.int IntKind.i64 xb, Value.int IntKind.i64 xa] 3))
        have q2 := (J3.out.below E2.out).cl.cell 0 (v := .func (.func 84) #[] #[.pointer (some ⟨bo, 0, none⟩), .pointer (some ⟨bf1, 0, none⟩), .pointer (some ⟨bcl, 0, none⟩)]) rfl
        have q3 := (J3.out.below E12.out).cl.cell 0 (v := .func (.func 84) #[] #[.pointer (some ⟨bo, 0, none⟩), .pointer (some ⟨bf1, 0, none⟩), .pointer (some ⟨bcl, 0, none⟩)]) rfl
        have q4 := (J3.out.below E21.out).cl.cell 0 (v := .func (.func 84) #[] #[.pointer (some ⟨bo, 0, none⟩), .pointer (some ⟨bf1, 0, none⟩), .pointer (some ⟨bcl, 0, none⟩)]) rfl
        have CD := Aside0.mk (show Kd.C (Kd.int .i64) W3 (some ⟨b0, 2, none⟩) (L - 1 - 2) ((on.drop 2).take (L - 1 - 2)) from C_cut (R_reads2 R1.out HO.out) 2 (L - 1 - 2) (by omega))
        go_region_law (first | ((with_reducible refine gate_callv_st (t := 62) rfl ?_); go_simp; go_at_call 84; refine (HI.out f kk on3 g7 c7 L v3 (ms ++ p1 ++ p2) w2 (by omega) (by omega) HL3.out (by omega) (by omega) (fun _ => by omega) (by omega) (by rw [List.length_append, List.length_append, HQ1.out, HQ2.out]; have := HMS.out; omega) (J3.out.below K2.out) (Kd.R_lower (Kd.R_mono (Kd.R_tight rfl K1.out) (fun j hj => Option.some.inj hj)) (Nat.zero_le _)) (by have := Kd.R_base K1.out g7 rfl; have := J3.out.out.lt; omega) (fun e => by have := Kd.R_base K1.out g7 rfl; have := Kd.R_lt J3.out.row g7 e; omega)).mono ?_; rintro e w3 ⟨⟨u3, rfl⟩, v3, j3, x3⟩; have M1 := Aside0.mk j3; have M2 := Aside0.mk ((X3.out.trans (Wr.fresh K2.out)).trans x3); clear j3 x3; dsimp only) | ((with_reducible refine gate_app_st rfl ?_); refine R_append_st (Kd.int .i64) W3.heap.size (by rfl) (.tmp 73) (.tmp 75) 46 3 (.int .i64 0) 8 rfl Tryd.underlying46 info3 rfl (by decide) (by omega) _ on4 xc [.int .i64 xc] (fun _ => True) (fun _ => False) rfl _ rfl (by exact GB.out) rfl (fun _ h => h.elim) (fun _ _ => trivial) (by first | exact G1.out | exact Kd.R_alloc G1.out _) (by have := G2.out.size; simp <;> omega) (by rw [HL4.out]; omega) ?_; intro v2 w2 ho hg hat; rw [HE3.out] at ho; obtain ⟨g7, c7, e7, _, _, _⟩ := Kd.R_form ho (by rw [HL3.out]; omega); rw [HL3.out] at e7; subst e7; have K1 := Aside0.mk ho; have K2 : Aside0 (Below W3.heap.size W3 w2) := ⟨by first | exact G2.out.grown hg G2.out.size (fun k e => Kd.R_base G1.out k e) | exact (G2.out.alloc G2.out.size _).grown hg (by have := G2.out.size; simp <;> omega) (fun k e => Kd.R_base G1.out k e)⟩; have q7 := (J3.out.below K2.out).cl.cell 0 (v := .func (.func 84) #[] #[.pointer (some ⟨bo, 0, none⟩), .pointer (some ⟨bf1, 0, none⟩), .pointer (some ⟨bcl, 0, none⟩)]) rfl; clear ho hg hat) | ((with_reducible refine gate_app_st rfl ?_); refine R_append_rows_st (Kd.int .i64) (w0 := W3) W3.heap.size (by rfl) (.tmp 67) (.tmp 72) 46 3 (.int .i64 0) 8 rfl Tryd.underlying46 info3 rfl (by decide) (by omega) _ [xb, xa] ((on.drop 2).take (L - 1 - 2)) (some ⟨b0, 2, none⟩) (L - 1 - 2) (cap - 2) (fun _ => True) (fun _ => False) rfl rfl (R_of_blk2 (by first | exact A1.out | exact A12.out | exact A21.out) (by omega) trivial) (by first | exact Kd.C_below CD.out E1.out.drew | exact Kd.C_below CD.out E12.out.drew | exact Kd.C_below CD.out E21.out.drew) (fun _ _ h => h) (fun _ h => h.elim) (fun _ _ => trivial) (by first | exact E1.out.drew | exact E12.out.drew | exact E21.out.drew) (by simp <;> omega) (by simp <;> omega) ?_; intro v1 w1 ho hb hg hat; rw [← dt.out, HE4.out] at ho; obtain ⟨g5, c5, e5, _, _, _⟩ := Kd.R_form ho (by rw [HL4.out]; omega); rw [HL4.out] at e5; subst e5; have G1 := Aside0.mk ho; have G2 := Aside0.mk hb; (first | have GB := Aside0.mk (show Blk w1 (W3.heap.size + 1) #[Value.int IntKind.i64 xc] 3 from Blk.grown (by exact B12.out) hg (fun e => by have e2 := Option.some.inj (show some W3.heap.size = some (W3.heap.size + 1) from e); omega)) | have GB := Aside0.mk (show Blk w1 W3.heap.size #[Value.int IntKind.i64 xc] 3 from Blk.grown (by exact B21.out) hg (fun e => by have e2 := Option.some.inj (show some (W3.heap.size + 1) = some W3.heap.size from e); omega)) | have GB := Aside0.mk (Blk.new w1 #[Value.int IntKind.i64 xc] 3)); have q6 := (J3.out.below (hb.alloc hb.size (Obj.cells #[Value.int IntKind.i64 xc] 3))).cl.cell 0 (v := .func (.func 84) #[] #[.pointer (some ⟨bo, 0, none⟩), .pointer (some ⟨bf1, 0, none⟩), .pointer (some ⟨bcl, 0, none⟩)]) rfl; have q5 := (J3.out.below hb).cl.cell 0 (v := .func (.func 84) #[] #[.pointer (some ⟨bo, 0, none⟩), .pointer (some ⟨bf1, 0, none⟩), .pointer (some ⟨bcl, 0, none⟩)]) rfl; clear ho hb hg hat))
        all_goals
          go_wp2
          refine bodyPost_end (results_none rfl _ _ _) rfl ?_
          refine ⟨⟨_, rfl⟩, v3, ?_, M2.out⟩
          have := M1.out
          rwa [HP3.out, List.append_assoc, List.append_assoc, ← List.append_assoc p1, HMM.out] at this
end Go.Proofs.YtnaaomhmoamfpaaDoor.G
/- FrameWay: its contract. -/
namespace Go.Proofs.YtnaaomhmoamfpaaDoor.G
set_option linter.unusedVariables false
set_option linter.unusedSimpArgs false
set_option linter.unusedSectionVars false
open Go.Proofs.YtnaaomhmoamfpaaDoor.Q Go.Proofs.YtnaaomhmoamfpaaDoor.Hn Go.Proofs.YtnaaomhmoamfpaaDoor.K Go.Proofs.YtnaaomhmoamfpaaDoor.It
open Go.RowKit Go.Shelf Go.Proofs.YtnaaomhmoamfpaaDoorW.PrintWords Go.Proofs.YtnaaomhmoamfpaaDoorW.PrintLast Go.Proofs.YtnaaomhmoamfpaaDoorW.PrintMore
/-- A store of a function value. -/
theorem st_func {P : Program} {w : World} (a : Addr) (m : Mode) (fn : Fn) (f c : Array Value) : (store a (.func fn f c) m).run P w = stored P w a (.func fn f c) m := run_store P w a _ m rfl
attribute [local go_sem] st_func
theorem carry_calls {bo bf1 bcl bf N B p : Nat} {fst : Nat → Nat → Int} (hB : CarB bo bf1 bcl bf N B p fst) : ∀ g, CarSpec bo bf1 bcl bf N B p fst g
  | 0 => fun f n on b0 cap L v ms W h1 h2 h3 h4 h5 h6 h7 h8 h9 h10 h11 h12 => by
    obtain rfl : n = 0 := by omega
    exact carry_none (p := p) f on b0 cap L 0 v ms W h9
  | g + 1 => fun f n on b0 cap L v ms W h1 h2 h3 h4 h5 h6 h7 h8 h9 h10 h11 h12 => by
    by_cases c0 : n = 0
    · subst c0; exact carry_none (p := p) f on b0 cap L (g + 1) v ms W h9
    · by_cases c1 : n = 1
      · subst c1
        exact carry_one hB f on b0 cap L g v ms W h3 h4 h5 (by rw [cnt, if_neg (by omega), if_pos rfl] at h8; exact h8) h9 h10 h11 h12
      · exact carry_step hB g (carry_calls hB g) f n on b0 cap L v ms W (by omega) (by omega) h2 h3 h4 (h6 (by omega)) h7 h8 h9 h10 h11 h12

/-- The pegs. -/
def onL (p : Nat) : List Int := (List.range p).map Int.ofNat
theorem onL_len (p : Nat) : (onL p).length = p := by simp [onL]
theorem onL_succ (p : Nat) : onL p ++ [(p : Int)] = onL (p + 1) := by simp [onL, List.range_succ]
def fwL (n p : Nat) : List (Nat × Int) := carL n 0 n (onL p)
def hanoi_FrameWay.f (n p : Int) : Option (List S52 × Int) :=
  if asked n p = true then (if 5000 < fr (p.toNat - 3) n.toNat then some ([], 1) else some ((fwL n.toNat p.toNat).map mkI, 0)) else some ([], 1)
theorem fwL_len (n p : Nat) (hp : 3 ≤ p) : ((fwL n p).length : Int) = fr (p - 3) n := by
  unfold fwL
  rw [carL_len n 0 n (onL p) (by rw [onL_len]; omega), onL_len, cnt_fr n n p (Nat.le_refl _) (by omega) (by omega)]
  split
  · obtain rfl | rfl : n = 0 ∨ n = 1 := by omega
    · rw [fr_zero]; rfl
    · rw [fr_one]; rfl
  · rfl
set_option maxHeartbeats 8000000 in
set_option maxRecDepth 100000 in
theorem hanoi_FrameWay.calls (a0 a1 : Int) (r1 : List S52) (r2 : Int) (w : World) (h : hanoi_FrameWay.f a0 a1 = some (r1, r2)) :
    Calls Tryd.prog 58 #[.int .i64 a0, .int .i64 a1] w fun e w' => ∃ v, e = .returned (.tuple #[v, .int .i64 r2]) ∧ Kd.R k52 52 w' w.heap.size (fun _ => True) v r1 ∧ Below w.heap.size w w' := by
  unfold hanoi_FrameWay.f at h
  have HA := Aside0.mk (asked_calls a0 a1)
  by_cases hk : asked a0 a1 = true
  · rw [if_pos hk] at h
    obtain ⟨h1, h2, h3, h4⟩ := (asked_iff _ _).1 hk
    rw [hk] at HA
    clear hk
    obtain ⟨n, rfl⟩ := Int.eq_ofNat_of_zero_le h1
    obtain ⟨p, rfl⟩ := Int.eq_ofNat_of_zero_le (show 0 ≤ a1 by omega)
    simp only [Int.toNat_natCast] at h
    have F := Aside0.mk (fun W => frames_calls n p W (by omega) (by omega) (by omega))
    have HH := Aside0.mk h
    clear h
    go_enter Tryd.func58, Tryd.ntmps58
    go_wp2_with fail
    refine (HA.out w).mono ?_
    rintro e w' ⟨rfl, rfl⟩
    go_wp2_with fail
    refine (F.out w').mono ?_
    rintro e w1 ⟨bn, bf, num, fst, hne, rfl, hM1, hM2, hS, hB⟩
    have hc := hM1.cell n p (Nat.le_refl _) (by omega)
    rw [hS.1 n p (Nat.le_refl _) (by omega) (Nat.le_refl _) (by omega)] at hc
    have HX := Aside0.mk hB
    have HM := Aside0.mk hM2
    have HS := Aside0.mk hS
    have hcA : World.cell? (w1.alloc (.cells #[.slice (some ⟨bf, 0, none⟩) (n + 1) (n + 1)] 93)) ⟨bn, n * 9 + p, none⟩ = some (.int .i64 (fr (p - 3) n)) := by
      obtain ⟨cs, q1, q2⟩ := hM1
      have := (q1.alloc (.cells #[.slice (some ⟨bf, 0, none⟩) (n + 1) (n + 1)] 93)).cell _ (q2 n p (Nat.le_refl _) (by omega))
      rwa [hS.1 n p (Nat.le_refl _) (by omega) (Nat.le_refl _) (by omega)] at this
    clear hB hM1 hM2 hS HA F hc
    obtain ⟨x, hx⟩ : ∃ x, fr (p - 3) n = x := ⟨_, rfl⟩
    rw [hx] at hcA
    have HXX := Aside0.mk hx
    clear hx
    by_cases hbig : 5000 < x
    · have h1 := HH.out
      rw [HXX.out, if_pos hbig] at h1
      cases h1
      clear h1
      go_wp2
      go_ret2
      exact ⟨_, rfl, Kd.R_nil _ _ _ _ _, HX.out.trans (((Below.refl _ w1).alloc (Nat.le_refl _) _).mono HX.out.size)⟩
    · have h1 := HH.out
      rw [HXX.out, if_neg hbig] at h1
      cases h1
      clear h1 HH
      obtain ⟨fv, hfv⟩ : ∃ fv, fv = Value.func (Fn.func 84) #[] #[.pointer (some ⟨w1.heap.size + 1, 0, none⟩), .pointer (some ⟨w1.heap.size, 0, none⟩), .pointer (some ⟨w1.heap.size + 1 + 1, 0, none⟩)] := ⟨_, rfl⟩
      obtain ⟨Vs, hVs⟩ : ∃ Vs, ((w1.alloc (Obj.cells #[Value.slice (some ⟨bf, 0, none⟩) (n + 1) (n + 1)] 93)).alloc (Obj.cells #[Value.slice none 0 0] 48)).alloc (Obj.cells #[fv] 121) = Vs := ⟨_, rfl⟩
      have b1 : Blk Vs w1.heap.size #[Value.slice (some ⟨bf, 0, none⟩) (n + 1) (n + 1)] 93 := by rw [← hVs]; exact ((Blk.new w1 _ 93).alloc _).alloc _
      have b2 : Blk Vs (w1.heap.size + 1) #[Value.slice none 0 0] 48 := by
        rw [← hVs]
        have := (Blk.new (w1.alloc (Obj.cells #[Value.slice (some ⟨bf, 0, none⟩) (n + 1) (n + 1)] 93)) #[Value.slice none 0 0] 48).alloc (Obj.cells #[fv] 121)
        rwa [World.size_alloc] at this
      have b3 : Blk Vs (w1.heap.size + 1 + 1) #[fv] 121 := by
        rw [← hVs]
        have := Blk.new ((w1.alloc (Obj.cells #[Value.slice (some ⟨bf, 0, none⟩) (n + 1) (n + 1)] 93)).alloc (Obj.cells #[Value.slice none 0 0] 48)) #[fv] 121
        rwa [World.size_alloc, World.size_alloc] at this
      have d3 : Below w1.heap.size w1 Vs := by rw [← hVs]; exact (((Below.refl _ w1).alloc (Nat.le_refl _) _).alloc (by simp) _).alloc (by simp <;> omega) _
      have hsz : Vs.heap.size = w1.heap.size + 3 := by rw [← hVs]; simp
      subst hfv
      have B1 := Aside0.mk b1
      have B2 := Aside0.mk b2
      have B3 := Aside0.mk b3
      have D3 := Aside0.mk d3
      have HSZ := Aside0.mk hsz
      clear b1 b2 b3 d3 hsz
      go_upto_region 10 with fail
      clear hVs
      go_wp2
      go_loopw [10, 31] (fun d e wr => ∃ i : Nat, i ≤ p ∧ e = .int .i64 (i : Int) ∧ Aside0 (Kd.R (Kd.int .i64) 3 wr Vs.heap.size (fun _ => True) d (onL i)) ∧ Aside0 (Below Vs.heap.size Vs wr)) (fun d e _ => p - (intOf e).toNat)
      case atStart => exact ⟨0, by omega, rfl, ⟨Kd.R_nil _ _ _ _ _⟩, ⟨Below.refl _ _⟩⟩
      case round =>
        obtain ⟨i, hi, rfl, HRI, HBI⟩ := hrel
        by_cases hip : i < p
        · have hil : (onL i).length = i := onL_len i
          have HIL := Aside0.mk hil
          clear hil
          have hip2 : (i : Int) < (p : Int) := by omega
          have hwi : IntKind.i64.wrap ((i : Int) + 1) = ((i + 1 : Nat) : Int) := by rw [i64_w, w64 (by omega) (by omega)]; omega
          go_wp2_with ((with_reducible refine gate_builtin (b := .append) (xs := #[.tmp 34, .tmp 36]) rfl ?_); at_builtin; refine Kd.R_append (Kd.int .i64) (w0 := Vs) Vs.heap.size rfl (.tmp 34) (.tmp 36) 46 3 (.int .i64 0) 8 rfl Tryd.underlying46 info3 rfl (by decide) (by omega) _ (onL i) (i : Int) [.int .i64 (i : Int)] (fun _ => True) (fun _ => False) rfl rfl rfl (fun _ h => h.elim) (fun _ _ => trivial) HRI.out HBI.out (by have := HBI.out.size; omega) (by have := HIL.out; omega) ?_; intro v1 wr1 ho hb hg hat; have G1 := Aside0.mk ho; have G3 := Aside0.mk hb; clear ho hb hg hat)
          go_roundw
          case rel => exact ⟨i + 1, by omega, rfl, ⟨by rw [← onL_succ]; exact G1.out⟩, G3⟩
          case measure => simp [intOf]; omega
        · obtain rfl : i = p := by omega
          obtain ⟨g, cap, ev, hg1, hg2, _⟩ := Kd.R_form HRI.out (by rw [onL_len]; omega)
          rw [onL_len] at ev
          subst ev
          have bB := HBI.out
          have hbf := HM.out.lt
          have hsz := HSZ.out
          have hCB : CarB (w1.heap.size + 1) w1.heap.size (w1.heap.size + 1 + 1) bf n Vs.heap.size i fst :=
            ⟨by omega, by omega, by omega, by omega, by omega, by omega, by omega, by omega, by omega, fun d q q1 q2 q3 q4 => HS.out.2 d q q1 q2 q3 q4 (.inl (by omega))⟩
          have hJ : CarJ (w1.heap.size + 1) w1.heap.size (w1.heap.size + 1 + 1) bf n Vs.heap.size fst (.slice none 0 0) [] wr :=
            ⟨B2.out.below bB (by omega), Kd.R_nil _ _ _ _ _, B3.out.below bB (by omega), B1.out.below bB (by omega), HM.out.below' ((bB.block _ (by omega)).trans (D3.out.block _ hbf)), bB.size⟩
          have hx9 := hJ.cl.cell 0 (v := .func (.func 84) #[] #[.pointer (some ⟨w1.heap.size + 1, 0, none⟩), .pointer (some ⟨w1.heap.size, 0, none⟩), .pointer (some ⟨w1.heap.size + 1 + 1, 0, none⟩)]) rfl
          have hlen := fwL_len n i (by omega)
          have hcl : ((carL n 0 n (onL i)).length : Int) = fr (i - 3) n := hlen
          rw [carL_len n 0 n (onL i) (by rw [onL_len]; omega), onL_len, HXX.out] at hcl
          have HC := Aside0.mk (carry_calls hCB n 0 n (onL i) g cap i (.slice none 0 0) [] wr (Nat.le_refl _) (Nat.le_refl _) (onL_len i) (Nat.le_refl _) (by omega) (fun _ => by omega) (by omega) (by simp only [List.length_nil]; omega) hJ (Kd.R_lower (Kd.R_mono (Kd.R_tight rfl HRI.out) (fun j hj => Option.some.inj hj)) (Nat.zero_le _)) (by omega) (by simp [Value.ownBlock]))
          have BW := Aside0.mk (show Below w'.heap.size w' wr from HX.out.trans ((D3.out.mono HX.out.size).trans (bB.mono (by have := HX.out.size; omega))))
          clear hJ hCB hcl hlen bB
          go_wp2_with fail
          refine HC.out.mono ?_
          rintro e w3 ⟨⟨u3, rfl⟩, v3, j3, x3⟩
          obtain ⟨A3, c3, e3⟩ := Kd.R_slice j3.row
          subst e3
          have hcv := j3.out.cell 0 (v := .slice A3 _ c3) rfl
          rw [List.nil_append] at hcv
          have J3 := Aside0.mk j3
          have X3 := Aside0.mk x3
          clear j3 x3
          go_wp2
          go_ret2
          have HRF := Kd.R_lower (base' := w'.heap.size) J3.out.row (by have := HX.out.size; omega)
          rw [List.nil_append, List.length_map] at HRF
          exact ⟨_, rfl, HRF, BW.out.trans (X3.out.below (B := 0) (by have := HX.out.size; omega) (fun k e => by simp [Value.ownBlock] at e) (by have := BW.out.size; omega))⟩
  · rw [if_neg hk] at h
    cases h
    have e : asked a0 a1 = false := by simpa using hk
    rw [e] at HA
    clear hk e
    go_enter Tryd.func58, Tryd.ntmps58
    go_wp2_with fail
    refine (HA.out w).mono ?_
    rintro e w' ⟨rfl, rfl⟩
    go_wp2
    go_ret2
    exact ⟨_, rfl, Kd.R_nil _ _ _ _ _, Below.refl _ _⟩
end Go.Proofs.YtnaaomhmoamfpaaDoor.G
namespace Go.Proofs.YtnaaomhmoamfpaaDoor.G
end Go.Proofs.YtnaaomhmoamfpaaDoor.G
namespace Go.Proofs.YtnaaomhmoamfpaaDoor.Q
set_option linter.unusedVariables false
set_option linter.unusedSimpArgs false
set_option linter.unusedSectionVars false
open Go.Proofs.YtnaaomhmoamfpaaDoor.G
open Go.RowKit Go.Proofs.YtnaaomhmoamfpaaDoorW.PrintWords Go.Proofs.YtnaaomhmoamfpaaDoorW.PrintLast Go.Proofs.YtnaaomhmoamfpaaDoorW.PrintMore
attribute [local go_sem] max2_int min2_int max_two min_two max_three min_three max_four min_four   -- for this text's walks alone

/-! ### bibelotlaw03_HanoiFrameWays: function 17 -/
mutual
def bibelotlaw03_HanoiFrameWays.l0 : Nat → Int → Int → Int → Option (Bool)
  | 0, _, _, _ => none
  | k + 1, x0, x1, x5 => if x5 < 2 then ((hanoi_FrameWay.f x0 x1).bind fun bt440 => (if x0 < 0 then (bibelotlaw03_HanoiFrameWays.j1 k x0 x1 x5 bt440.1 bt440.2 true) else (if x0 > 40 then (bibelotlaw03_HanoiFrameWays.j1 k x0 x1 x5 bt440.1 bt440.2 true) else (if x1 < 3 then (bibelotlaw03_HanoiFrameWays.j1 k x0 x1 x5 bt440.1 bt440.2 true) else (bibelotlaw03_HanoiFrameWays.j1 k x0 x1 x5 bt440.1 bt440.2 (decide (x1 > 8))))))) else ((bibelotlaw03_awake.f k).bind fun t439 => (some t439))
def bibelotlaw03_HanoiFrameWays.j1 : Nat → Int → Int → Int → List (S52) → Int → Bool → Option (Bool)
  | 0, _, _, _, _, _, _ => none
  | k + 1, x0, x1, x5, x6, x7, x8 => if x8 = true then (bibelotlaw03_HanoiFrameWays.j2 k x0 x1 x5 x6 x7 true) else ((bibelotref03_Frame.f k x0 x1).bind fun t444 => (bibelotlaw03_HanoiFrameWays.j2 k x0 x1 x5 x6 x7 (decide (t444 > 5000))))
def bibelotlaw03_HanoiFrameWays.j2 : Nat → Int → Int → Int → List (S52) → Int → Bool → Option (Bool)
  | 0, _, _, _, _, _, _ => none
  | k + 1, x0, x1, x5, x6, x7, x44 => if x44 = true then (if x7 = 1 then (if (x6.length : Int) = 0 then (bibelotlaw03_HanoiFrameWays.l0 k (wrap64 (Int.tmod (IntKind.u64.wrap (x0)) 25)) (wrap64 (3 + (wrap64 (Int.tmod (IntKind.u64.wrap (x1)) 6)))) (wrap64 (x5 + 1))) else (some false)) else (some false)) else (bibelotlaw03_HanoiFrameWays.l1 k x0 x1 x5 x6 x7 ([] : List Int) 0)
def bibelotlaw03_HanoiFrameWays.l1 : Nat → Int → Int → Int → List (S52) → Int → List Int → Int → Option (Bool)
  | 0, _, _, _, _, _, _, _ => none
  | k + 1, x0, x1, x5, x6, x7, x9, x10 => if x10 < x0 then (if x9.length < 17592186044416 then (bibelotlaw03_HanoiFrameWays.l1 k x0 x1 x5 x6 x7 (x9 ++ [0]) (wrap64 (x10 + 1))) else (none)) else (if x7 = 0 then ((bibelotref03_Frame.f k x0 x1).bind fun t448 => (bibelotlaw03_HanoiFrameWays.j4 k x0 x1 x5 x6 x9 ((x6.length : Int) != t448))) else (bibelotlaw03_HanoiFrameWays.j4 k x0 x1 x5 x6 x9 true))
def bibelotlaw03_HanoiFrameWays.j4 : Nat → Int → Int → Int → List (S52) → List Int → Bool → Option (Bool)
  | 0, _, _, _, _, _, _ => none
  | k + 1, x0, x1, x5, x6, x9, x69 => if x69 = true then (some false) else ((bibelotref03_Play.f k x9 x6 x1).bind fun bt449 => (if bt449.2 = (x6.length : Int) then (bibelotlaw03_HanoiFrameWays.l2 k x0 x1 x5 bt449.1 0) else (some false)))
def bibelotlaw03_HanoiFrameWays.l2 : Nat → Int → Int → Int → List Int → Int → Option (Bool)
  | 0, _, _, _, _, _ => none
  | k + 1, x0, x1, x5, x11, x13 => if x13 < x0 then (if 0 ≤ x13 then (if x13 < (x11.length : Int) then (if (rd x11 x13) = (wrap64 (x1 - 1)) then (bibelotlaw03_HanoiFrameWays.l2 k x0 x1 x5 x11 (wrap64 (x13 + 1))) else (some false)) else (none)) else (none)) else (bibelotlaw03_HanoiFrameWays.l0 k (wrap64 (Int.tmod (IntKind.u64.wrap (x0)) 25)) (wrap64 (3 + (wrap64 (Int.tmod (IntKind.u64.wrap (x1)) 6)))) (wrap64 (x5 + 1)))
end
def bibelotlaw03_HanoiFrameWays.f (k : Nat) (a0 : Int) (a1 : Int) : Option (Bool) := bibelotlaw03_HanoiFrameWays.l0 k a0 a1 0
theorem bibelotlaw03_HanoiFrameWays.mono_l : ∀ k, (∀ y0 y1 y2, LeO (bibelotlaw03_HanoiFrameWays.l0 k y0 y1 y2) (bibelotlaw03_HanoiFrameWays.l0 (k + 1) y0 y1 y2)) ∧ (∀ y0 y1 y2 y3 y4 y5, LeO (bibelotlaw03_HanoiFrameWays.j1 k y0 y1 y2 y3 y4 y5) (bibelotlaw03_HanoiFrameWays.j1 (k + 1) y0 y1 y2 y3 y4 y5)) ∧ (∀ y0 y1 y2 y3 y4 y5, LeO (bibelotlaw03_HanoiFrameWays.j2 k y0 y1 y2 y3 y4 y5) (bibelotlaw03_HanoiFrameWays.j2 (k + 1) y0 y1 y2 y3 y4 y5)) ∧ (∀ y0 y1 y2 y3 y4 y5 y6, LeO (bibelotlaw03_HanoiFrameWays.l1 k y0 y1 y2 y3 y4 y5 y6) (bibelotlaw03_HanoiFrameWays.l1 (k + 1) y0 y1 y2 y3 y4 y5 y6)) ∧ (∀ y0 y1 y2 y3 y4 y5, LeO (bibelotlaw03_HanoiFrameWays.j4 k y0 y1 y2 y3 y4 y5) (bibelotlaw03_HanoiFrameWays.j4 (k + 1) y0 y1 y2 y3 y4 y5)) ∧ (∀ y0 y1 y2 y3 y4, LeO (bibelotlaw03_HanoiFrameWays.l2 k y0 y1 y2 y3 y4) (bibelotlaw03_HanoiFrameWays.l2 (k + 1) y0 y1 y2 y3 y4))
  | 0 => ⟨fun _ _ _ r h => by simp [bibelotlaw03_HanoiFrameWays.l0] at h, fun _ _ _ _ _ _ r h => by simp [bibelotlaw03_HanoiFrameWays.j1] at h, fun _ _ _ _ _ _ r h => by simp [bibelotlaw03_HanoiFrameWays.j2] at h, fun _ _ _ _ _ _ _ r h => by simp [bibelotlaw03_HanoiFrameWays.l1] at h, fun _ _ _ _ _ _ r h => by simp [bibelotlaw03_HanoiFrameWays.j4] at h, fun _ _ _ _ _ r h => by simp [bibelotlaw03_HanoiFrameWays.l2] at h⟩
  | k + 1 => by
    obtain ⟨ih0, ih1, ih2, ih3, ih4, ih5⟩ := bibelotlaw03_HanoiFrameWays.mono_l k
    refine ⟨?_, ?_, ?_, ?_, ?_, ?_⟩
    · intro y0 y1 y2
      unfold bibelotlaw03_HanoiFrameWays.l0
      repeat' first
      | (with_reducible exact ih0 _ _ _)
      | (with_reducible exact ih1 _ _ _ _ _ _)
      | (with_reducible exact ih2 _ _ _ _ _ _)
      | (with_reducible exact ih3 _ _ _ _ _ _ _)
      | (with_reducible exact ih4 _ _ _ _ _ _)
      | (with_reducible exact ih5 _ _ _ _ _)
      | (with_reducible exact bibelotlaw03_awake.mono _)
      | (with_reducible exact bibelotref03_Frame.mono _ _ _)
      | (with_reducible exact bibelotref03_Play.mono _ _ _ _)
      | (with_reducible exact LeO.refl _)
      | (with_reducible exact LeO.none _)
      | (with_reducible refine LeO.ite ?_ ?_)
      | (with_reducible refine LeO.bind ?_ (fun _ => ?_))
      | exact ih0 _ _ _
      | exact ih1 _ _ _ _ _ _
      | exact ih2 _ _ _ _ _ _
      | exact ih3 _ _ _ _ _ _ _
      | exact ih4 _ _ _ _ _ _
      | exact ih5 _ _ _ _ _
      | exact bibelotlaw03_awake.mono _
      | exact bibelotref03_Frame.mono _ _ _
      | exact bibelotref03_Play.mono _ _ _ _
      | exact LeO.none _
      | refine LeO.ite ?_ ?_
      | refine LeO.bind ?_ (fun _ => ?_)
    · intro y0 y1 y2 y3 y4 y5
      unfold bibelotlaw03_HanoiFrameWays.j1
      repeat' first
      | (with_reducible exact ih0 _ _ _)
      | (with_reducible exact ih1 _ _ _ _ _ _)
      | (with_reducible exact ih2 _ _ _ _ _ _)
      | (with_reducible exact ih3 _ _ _ _ _ _ _)
      | (with_reducible exact ih4 _ _ _ _ _ _)
      | (with_reducible exact ih5 _ _ _ _ _)
      | (with_reducible exact bibelotlaw03_awake.mono _)
      | (with_reducible exact bibelotref03_Frame.mono _ _ _)
      | (with_reducible exact bibelotref03_Play.mono _ _ _ _)
      | (with_reducible exact LeO.refl _)
      | (with_reducible exact LeO.none _)
      | (with_reducible refine LeO.ite ?_ ?_)
      | (with_reducible refine LeO.bind ?_ (fun _ => ?_))
      | exact ih0 _ _ _
      | exact ih1 _ _ _ _ _ _
      | exact ih2 _ _ _ _ _ _
      | exact ih3 _ _ _ _ _ _ _
      | exact ih4 _ _ _ _ _ _
      | exact ih5 _ _ _ _ _
      | exact bibelotlaw03_awake.mono _
      | exact bibelotref03_Frame.mono _ _ _
      | exact bibelotref03_Play.mono _ _ _ _
      | exact LeO.none _
      | refine LeO.ite ?_ ?_
      | refine LeO.bind ?_ (fun _ => ?_)
    · intro y0 y1 y2 y3 y4 y5
      unfold bibelotlaw03_HanoiFrameWays.j2
      repeat' first
      | (with_reducible exact ih0 _ _ _)
      | (with_reducible exact ih1 _ _ _ _ _ _)
      | (with_reducible exact ih2 _ _ _ _ _ _)
      | (with_reducible exact ih3 _ _ _ _ _ _ _)
      | (with_reducible exact ih4 _ _ _ _ _ _)
      | (with_reducible exact ih5 _ _ _ _ _)
      | (with_reducible exact bibelotlaw03_awake.mono _)
      | (with_reducible exact bibelotref03_Frame.mono _ _ _)
      | (with_reducible exact bibelotref03_Play.mono _ _ _ _)
      | (with_reducible exact LeO.refl _)
      | (with_reducible exact LeO.none _)
      | (with_reducible refine LeO.ite ?_ ?_)
      | (with_reducible refine LeO.bind ?_ (fun _ => ?_))
      | exact ih0 _ _ _
      | exact ih1 _ _ _ _ _ _
      | exact ih2 _ _ _ _ _ _
      | exact ih3 _ _ _ _ _ _ _
      | exact ih4 _ _ _ _ _ _
      | exact ih5 _ _ _ _ _
      | exact bibelotlaw03_awake.mono _
      | exact bibelotref03_Frame.mono _ _ _
      | exact bibelotref03_Play.mono _ _ _ _
      | exact LeO.none _
      | refine LeO.ite ?_ ?_
      | refine LeO.bind ?_ (fun _ => ?_)
    · intro y0 y1 y2 y3 y4 y5 y6
      unfold bibelotlaw03_HanoiFrameWays.l1
      repeat' first
      | (with_reducible exact ih0 _ _ _)
      | (with_reducible exact ih1 _ _ _ _ _ _)
      | (with_reducible exact ih2 _ _ _ _ _ _)
      | (with_reducible exact ih3 _ _ _ _ _ _ _)
      | (with_reducible exact ih4 _ _ _ _ _ _)
      | (with_reducible exact ih5 _ _ _ _ _)
      | (with_reducible exact bibelotlaw03_awake.mono _)
      | (with_reducible exact bibelotref03_Frame.mono _ _ _)
      | (with_reducible exact bibelotref03_Play.mono _ _ _ _)
      | (with_reducible exact LeO.refl _)
      | (with_reducible exact LeO.none _)
      | (with_reducible refine LeO.ite ?_ ?_)
      | (with_reducible refine LeO.bind ?_ (fun _ => ?_))
      | exact ih0 _ _ _
      | exact ih1 _ _ _ _ _ _
      | exact ih2 _ _ _ _ _ _
      | exact ih3 _ _ _ _ _ _ _
      | exact ih4 _ _ _ _ _ _
      | exact ih5 _ _ _ _ _
      | exact bibelotlaw03_awake.mono _
      | exact bibelotref03_Frame.mono _ _ _
      | exact bibelotref03_Play.mono _ _ _ _
      | exact LeO.none _
      | refine LeO.ite ?_ ?_
      | refine LeO.bind ?_ (fun _ => ?_)
    · intro y0 y1 y2 y3 y4 y5
      unfold bibelotlaw03_HanoiFrameWays.j4
      repeat' first
      | (with_reducible exact ih0 _ _ _)
      | (with_reducible exact ih1 _ _ _ _ _ _)
      | (with_reducible exact ih2 _ _ _ _ _ _)
      | (with_reducible exact ih3 _ _ _ _ _ _ _)
      | (with_reducible exact ih4 _ _ _ _ _ _)
      | (with_reducible exact ih5 _ _ _ _ _)
      | (with_reducible exact bibelotlaw03_awake.mono _)
      | (with_reducible exact bibelotref03_Frame.mono _ _ _)
      | (with_reducible exact bibelotref03_Play.mono _ _ _ _)
      | (with_reducible exact LeO.refl _)
      | (with_reducible exact LeO.none _)
      | (with_reducible refine LeO.ite ?_ ?_)
      | (with_reducible refine LeO.bind ?_ (fun _ => ?_))
      | exact ih0 _ _ _
      | exact ih1 _ _ _ _ _ _
      | exact ih2 _ _ _ _ _ _
      | exact ih3 _ _ _ _ _ _ _
      | exact ih4 _ _ _ _ _ _
      | exact ih5 _ _ _ _ _
      | exact bibelotlaw03_awake.mono _
      | exact bibelotref03_Frame.mono _ _ _
      | exact bibelotref03_Play.mono _ _ _ _
      | exact LeO.none _
      | refine LeO.ite ?_ ?_
      | refine LeO.bind ?_ (fun _ => ?_)
    · intro y0 y1 y2 y3 y4
      unfold bibelotlaw03_HanoiFrameWays.l2
      repeat' first
      | (with_reducible exact ih0 _ _ _)
      | (with_reducible exact ih1 _ _ _ _ _ _)
      | (with_reducible exact ih2 _ _ _ _ _ _)
      | (with_reducible exact ih3 _ _ _ _ _ _ _)
      | (with_reducible exact ih4 _ _ _ _ _ _)
      | (with_reducible exact ih5 _ _ _ _ _)
      | (with_reducible exact bibelotlaw03_awake.mono _)
      | (with_reducible exact bibelotref03_Frame.mono _ _ _)
      | (with_reducible exact bibelotref03_Play.mono _ _ _ _)
      | (with_reducible exact LeO.refl _)
      | (with_reducible exact LeO.none _)
      | (with_reducible refine LeO.ite ?_ ?_)
      | (with_reducible refine LeO.bind ?_ (fun _ => ?_))
      | exact ih0 _ _ _
      | exact ih1 _ _ _ _ _ _
      | exact ih2 _ _ _ _ _ _
      | exact ih3 _ _ _ _ _ _ _
      | exact ih4 _ _ _ _ _ _
      | exact ih5 _ _ _ _ _
      | exact bibelotlaw03_awake.mono _
      | exact bibelotref03_Frame.mono _ _ _
      | exact bibelotref03_Play.mono _ _ _ _
      | exact LeO.none _
      | refine LeO.ite ?_ ?_
      | refine LeO.bind ?_ (fun _ => ?_)
theorem bibelotlaw03_HanoiFrameWays.mono : ∀ a0 a1 k, LeO (bibelotlaw03_HanoiFrameWays.f k a0 a1) (bibelotlaw03_HanoiFrameWays.f (k + 1) a0 a1) := by
  intro a0 a1 k
  obtain ⟨ih0, ih1, ih2, ih3, ih4, ih5⟩ := bibelotlaw03_HanoiFrameWays.mono_l k
  unfold bibelotlaw03_HanoiFrameWays.f
  repeat' first
      | (with_reducible exact ih0 _ _ _)
      | (with_reducible exact ih1 _ _ _ _ _ _)
      | (with_reducible exact ih2 _ _ _ _ _ _)
      | (with_reducible exact ih3 _ _ _ _ _ _ _)
      | (with_reducible exact ih4 _ _ _ _ _ _)
      | (with_reducible exact ih5 _ _ _ _ _)
      | (with_reducible exact bibelotlaw03_awake.mono _)
      | (with_reducible exact bibelotref03_Frame.mono _ _ _)
      | (with_reducible exact bibelotref03_Play.mono _ _ _ _)
      | (with_reducible exact LeO.refl _)
      | (with_reducible exact LeO.none _)
      | (with_reducible refine LeO.ite ?_ ?_)
      | (with_reducible refine LeO.bind ?_ (fun _ => ?_))
      | exact ih0 _ _ _
      | exact ih1 _ _ _ _ _ _
      | exact ih2 _ _ _ _ _ _
      | exact ih3 _ _ _ _ _ _ _
      | exact ih4 _ _ _ _ _ _
      | exact ih5 _ _ _ _ _
      | exact bibelotlaw03_awake.mono _
      | exact bibelotref03_Frame.mono _ _ _
      | exact bibelotref03_Play.mono _ _ _ _
      | exact LeO.none _
      | refine LeO.ite ?_ ?_
      | refine LeO.bind ?_ (fun _ => ?_)
set_option maxHeartbeats 8000000 in
set_option maxRecDepth 100000 in
theorem bibelotlaw03_HanoiFrameWays.calls (k : Nat) (a0 : Int) (a1 : Int) (r : Bool) (w : World) (h : bibelotlaw03_HanoiFrameWays.f k a0 a1 = some r) :
    Calls Tryd.prog 17 #[.int .i64 a0, .int .i64 a1] w fun e w' => e = .returned (.bool r) ∧ Below w.heap.size w w' := by
  have HB := Aside0.mk (Below.refl w.heap.size w)
  have H : (bibelotlaw03_HanoiFrameWays.l0 k a0 a1 0) = some r := h
  clear h
  have H' := Aside0.mk H
  clear H
  go_enter Tryd.func17, Tryd.ntmps17
  go_wp2
  go_loopg [0, 1, 5] k (fun kq v0 v1 v5 w' => ∃ (x0_1 : Int) (x1_1 : Int) (x5_1 : Int), v0 = .int .i64 x0_1 ∧ v1 = .int .i64 x1_1 ∧ v5 = .int .i64 x5_1 ∧ Aside0 (bibelotlaw03_HanoiFrameWays.l0 kq x0_1 x1_1 x5_1 = some r) ∧ Aside0 (kq ≤ k) ∧ Aside0 (Below w.heap.size w w'))
  case atStart => exact ⟨(a0), (a1), (0), (by first | rfl | (simp; done) | (simp [*]; done)), (by first | rfl | (simp; done) | (simp [*]; done)), (by first | rfl | (simp; done) | (simp [*]; done)), H', ⟨Nat.le_refl _⟩, ⟨by repeat (first | (with_reducible first | exact HB.out | apply below_alloc | apply pw_below_drewN | apply below_drew1) | exact HB.out)⟩⟩
  case round =>
    clear H'
    try clear c1
    try clear p2
    obtain ⟨x0_1, x1_1, x5_1, rfl, rfl, rfl, HA, HK1, HB⟩ := hrel
    cases gk with
    | zero => exact absurd HA.out (by simp [bibelotlaw03_HanoiFrameWays.l0])
    | succ k1 =>
      have H := HA.out
      clear HA
      simp only [bibelotlaw03_HanoiFrameWays.l0] at H
      by_cases c3 : x5_1 < 2
      · rw [if_pos c3] at H
        have c3b0 : decide (x5_1 < 2) = true := decide_eq_true c3
        clear c3
        replace H := Option.bind_eq_some_iff.mp H
        obtain ⟨⟨t440, t441⟩, A40, H⟩ := H
        replace H : (if x0_1 < 0 then (bibelotlaw03_HanoiFrameWays.j1 k1 x0_1 x1_1 x5_1 t440 t441 true) else (if x0_1 > 40 then (bibelotlaw03_HanoiFrameWays.j1 k1 x0_1 x1_1 x5_1 t440 t441 true) else (if x1_1 < 3 then (bibelotlaw03_HanoiFrameWays.j1 k1 x0_1 x1_1 x5_1 t440 t441 true) else (bibelotlaw03_HanoiFrameWays.j1 k1 x0_1 x1_1 x5_1 t440 t441 (decide (x1_1 > 8)))))) = some r := H
        have A4 := Aside0.mk A40
        clear A40
        have HC5 := Aside0.mk H
        clear H
        go_upto_region 5 with (first | ((with_reducible refine gate_callee (f := 58) rfl ?_); refine goesL_ (some 21) rfl rfl Tryd.func58 (by kernel_rfl) rfl #[.int .i64 x0_1, .int .i64 x1_1] rfl (by (try simp only [List.map_toArray, List.map_cons, List.map_nil]); first | done | rfl | (simp only [List.length_drop, List.length_take]; rfl)) ?_; (with_reducible refine (hanoi_FrameWay.calls x0_1 x1_1 t440 t441 _ A4.out).mono ?_); rintro e w6 ⟨v442, rfl, ho0, hb⟩; refine ⟨_, rfl, ?_⟩; have n0_ := Aside0.mk (Kd.R_lower ho0 (below_size (by repeat (first | (with_reducible first | exact HB.out | apply below_alloc | apply pw_below_drewN | apply below_drew1) | exact HB.out)))); have n1_ := Aside0.mk (below_step (by repeat (first | (with_reducible first | exact HB.out | apply below_alloc | apply pw_below_drewN | apply below_drew1) | exact HB.out)) hb); clear HB; have HO443 := n0_; have HB := n1_; clear n0_ n1_; (try clear hb); (try clear hb2); (try clear hk); (try clear hi); (try clear ho0)))
        (try simp only [Act.put, List.setIfInBounds_toArray, List.set_cons_zero, List.set_cons_succ])
        go_cut [8] (fun v8 wc => ∃ (kq : Nat) (x8_4 : Bool), v8 = .bool x8_4 ∧ Aside0 (bibelotlaw03_HanoiFrameWays.j1 kq x0_1 x1_1 x5_1 t440 t441 x8_4 = some r) ∧ Aside0 (kq ≤ k1) ∧ Aside0 (Kd.R k52 52 wc w.heap.size (fun _ => True) v442 t440) ∧ Aside0 (Below w.heap.size w wc))
        case first =>
          have H := HC5.out
          clear HC5
          by_cases c7 : x0_1 < 0
          · rw [if_pos c7] at H
            have c7b0 : decide (x0_1 < 0) = true := decide_eq_true c7
            clear c7
            (first | rw [c7b0] | (simp only [i64_w, i32_w]; rw [c7b0]) | skip)
            have H' := Aside0.mk H
            clear H
            go_wp2
            go_meet
            case rel => exact ⟨_, (true), (by first | rfl | (simp; done) | (simp [*]; done)), H', ⟨by have := HK1.out; first | omega | exact Nat.le_refl _⟩, ⟨by (with_reducible repeat (first | apply Kd.R_alloc | apply Kd.R_drewN | apply Kd.R_drew)); exact HO443.out⟩, ⟨by repeat (first | (with_reducible first | exact HB.out | apply below_alloc | apply pw_below_drewN | apply below_drew1) | exact HB.out)⟩⟩
          · rw [if_neg c7] at H
            have c7b0 : decide (x0_1 < 0) = false := decide_eq_false c7
            clear c7
            (first | rw [c7b0] | (simp only [i64_w, i32_w]; rw [c7b0]) | skip)
            by_cases c8 : x0_1 > 40
            · rw [if_pos c8] at H
              have c8b0 : decide (40 < x0_1) = true := decide_eq_true c8
              clear c8
              have H' := Aside0.mk H
              clear H
              go_wp2
              go_meet
              case rel => exact ⟨_, (true), (by first | rfl | (simp; done) | (simp [*]; done)), H', ⟨by have := HK1.out; first | omega | exact Nat.le_refl _⟩, ⟨by (with_reducible repeat (first | apply Kd.R_alloc | apply Kd.R_drewN | apply Kd.R_drew)); exact HO443.out⟩, ⟨by repeat (first | (with_reducible first | exact HB.out | apply below_alloc | apply pw_below_drewN | apply below_drew1) | exact HB.out)⟩⟩
            · rw [if_neg c8] at H
              have c8b0 : decide (40 < x0_1) = false := decide_eq_false c8
              clear c8
              by_cases c9 : x1_1 < 3
              · rw [if_pos c9] at H
                have c9b0 : decide (x1_1 < 3) = true := decide_eq_true c9
                clear c9
                have H' := Aside0.mk H
                clear H
                go_wp2
                go_meet
                case rel => exact ⟨_, (true), (by first | rfl | (simp; done) | (simp [*]; done)), H', ⟨by have := HK1.out; first | omega | exact Nat.le_refl _⟩, ⟨by (with_reducible repeat (first | apply Kd.R_alloc | apply Kd.R_drewN | apply Kd.R_drew)); exact HO443.out⟩, ⟨by repeat (first | (with_reducible first | exact HB.out | apply below_alloc | apply pw_below_drewN | apply below_drew1) | exact HB.out)⟩⟩
              · rw [if_neg c9] at H
                have c9b0 : decide (x1_1 < 3) = false := decide_eq_false c9
                clear c9
                have H' := Aside0.mk H
                clear H
                go_wp2
                go_meet
                case rel => exact ⟨_, (decide (x1_1 > 8)), (by first | rfl | (simp; done) | (simp [*]; done)), H', ⟨by have := HK1.out; first | omega | exact Nat.le_refl _⟩, ⟨by (with_reducible repeat (first | apply Kd.R_alloc | apply Kd.R_drewN | apply Kd.R_drew)); exact HO443.out⟩, ⟨by repeat (first | (with_reducible first | exact HB.out | apply below_alloc | apply pw_below_drewN | apply below_drew1) | exact HB.out)⟩⟩
        case rest =>
          clear HC5
          try clear c1
          try clear p2
          try clear c3
          try clear c3b0
          try clear c5
          try clear c7
          try clear c7b0
          try clear c8
          try clear c8b0
          try clear c9
          try clear c9b0
          try clear p2
          obtain ⟨kq, x8_4, rfl, HA, HJ4, HO_6, HB⟩ := hcut
          cases kq with
          | zero => exact absurd HA.out (by simp [bibelotlaw03_HanoiFrameWays.j1])
          | succ kj4 =>
            have H := HA.out
            clear HA
            simp only [bibelotlaw03_HanoiFrameWays.j1] at H
            have HC10 := Aside0.mk H
            clear H
            go_upto_region 6 with (fail)
            go_cut [44] (fun v44 wc => ∃ (kq : Nat) (x44_9 : Bool), v44 = .bool x44_9 ∧ Aside0 (bibelotlaw03_HanoiFrameWays.j2 kq x0_1 x1_1 x5_1 t440 t441 x44_9 = some r) ∧ Aside0 (kq ≤ kj4) ∧ Aside0 (Kd.R k52 52 wc w.heap.size (fun _ => True) v442 t440) ∧ Aside0 (Below w.heap.size w wc))
            case first =>
              have H := HC10.out
              clear HC10
              by_cases c11 : x8_4 = true
              · subst c11
                have H1 : (bibelotlaw03_HanoiFrameWays.j2 kj4 x0_1 x1_1 x5_1 t440 t441 true) = some r := by rw [if_pos rfl] at H; exact H
                clear H
                have H := H1
                clear H1
                have H' := Aside0.mk H
                clear H
                go_wp2
                go_meet
                case rel => exact ⟨_, (true), (by first | rfl | (simp; done) | (simp [*]; done)), H', ⟨by have := HK1.out; have := HJ4.out; first | omega | exact Nat.le_refl _⟩, ⟨by (with_reducible repeat (first | apply Kd.R_alloc | apply Kd.R_drewN | apply Kd.R_drew)); exact HO_6.out⟩, ⟨by repeat (first | (with_reducible first | exact HB.out | apply below_alloc | apply pw_below_drewN | apply below_drew1) | exact HB.out)⟩⟩
              · replace c11 := Bool.eq_false_iff.mpr c11
                subst c11
                have H1 : ((bibelotref03_Frame.f kj4 x0_1 x1_1).bind fun t444 => (bibelotlaw03_HanoiFrameWays.j2 kj4 x0_1 x1_1 x5_1 t440 t441 (decide (t444 > 5000)))) = some r := by rw [if_neg (show ¬ (false = true) by decide)] at H; exact H
                clear H
                have H := H1
                clear H1
                replace H := Option.bind_eq_some_iff.mp H
                obtain ⟨t444, A120, H⟩ := H
                replace H : (bibelotlaw03_HanoiFrameWays.j2 kj4 x0_1 x1_1 x5_1 t440 t441 (decide (t444 > 5000))) = some r := H
                have A12 := Aside0.mk A120
                clear A120
                have H' := Aside0.mk H
                clear H
                go_wp2_with (first | (go_at_call 28; (with_reducible refine (bibelotref03_Frame.calls kj4 x0_1 x1_1 t444 _ A12.out).mono ?_); rintro e w13 ⟨rfl, hb⟩; have n0_ := Aside0.mk (Kd.R_below (by (with_reducible repeat (first | apply Kd.R_alloc | apply Kd.R_drewN | apply Kd.R_drew)); exact HO_6.out) hb); have n1_ := Aside0.mk (below_step (by repeat (first | (with_reducible first | exact HB.out | apply below_alloc | apply pw_below_drewN | apply below_drew1) | exact HB.out)) hb); clear HO_6; clear HB; have HO_6 := n0_; have HB := n1_; clear n0_ n1_; (try clear hb); (try clear hb2); (try clear hk); (try clear hi)))
                go_meet
                case rel => exact ⟨_, (decide (t444 > 5000)), (by first | rfl | (simp; done) | (simp [*]; done)), H', ⟨by have := HK1.out; have := HJ4.out; first | omega | exact Nat.le_refl _⟩, ⟨by (with_reducible repeat (first | apply Kd.R_alloc | apply Kd.R_drewN | apply Kd.R_drew)); exact HO_6.out⟩, ⟨by repeat (first | (with_reducible first | exact HB.out | apply below_alloc | apply pw_below_drewN | apply below_drew1) | exact HB.out)⟩⟩
            case rest =>
              clear HC10
              try clear c1
              try clear p2
              try clear c3
              try clear c3b0
              try clear c5
              try clear c7
              try clear c7b0
              try clear c8
              try clear c8b0
              try clear c9
              try clear c9b0
              try clear c11
              try clear p2
              obtain ⟨kq, x44_9, rfl, HA, HJ9, HO_6, HB⟩ := hcut
              cases kq with
              | zero => exact absurd HA.out (by simp [bibelotlaw03_HanoiFrameWays.j2])
              | succ kj9 =>
                have H := HA.out
                clear HA
                simp only [bibelotlaw03_HanoiFrameWays.j2] at H
                by_cases c14 : x44_9 = true
                · subst c14
                  have H1 : (if t441 = 1 then (if (t440.length : Int) = 0 then (bibelotlaw03_HanoiFrameWays.l0 kj9 (wrap64 (Int.tmod (IntKind.u64.wrap (x0_1)) 25)) (wrap64 (3 + (wrap64 (Int.tmod (IntKind.u64.wrap (x1_1)) 6)))) (wrap64 (x5_1 + 1))) else (some false)) else (some false)) = some r := by rw [if_pos rfl] at H; exact H
                  clear H
                  have H := H1
                  clear H1
                  by_cases c15 : t441 = 1
                  · rw [if_pos c15] at H
                    have c15b0 : (t441 == 1) = true := beq_iff_eq.mpr c15
                    have c15b1 : (t441 != 1) = false := bne_eq_false_iff_eq.mpr c15
                    clear c15
                    by_cases c16 : (t440.length : Int) = 0
                    · rw [if_pos c16] at H
                      have c16b0 : ((t440.length : Int) == 0) = true := beq_iff_eq.mpr c16
                      have c16b1 : ((t440.length : Int) != 0) = false := bne_eq_false_iff_eq.mpr c16
                      clear c16
                      have H' := Aside0.mk H
                      clear H
                      obtain ⟨Ao17, co17, eo17⟩ := Kd.R_slice HO_6.out
                      subst eo17
                      go_wp2
                      go_roundg kj9
                      case measure => have := HK1.out; have := HJ4.out; have := HJ9.out; omega
                      case rel => exact ⟨(wrap64 (Int.tmod (IntKind.u64.wrap (x0_1)) 25)), (wrap64 (3 + (wrap64 (Int.tmod (IntKind.u64.wrap (x1_1)) 6)))), (wrap64 (x5_1 + 1)), (by first | rfl | (simp; done) | (simp [*]; done)), (by first | rfl | (simp; done) | (simp [*]; done)), (by first | rfl | (simp; done) | (simp [*]; done)), H', ⟨by have := HK1.out; have := HJ4.out; have := HJ9.out; omega⟩, ⟨by repeat (first | (with_reducible first | exact HB.out | apply below_alloc | apply pw_below_drewN | apply below_drew1) | exact HB.out)⟩⟩
                    · rw [if_neg c16] at H
                      have c16b0 : ((t440.length : Int) == 0) = false := beq_eq_false_iff_ne.mpr c16
                      have c16b1 : ((t440.length : Int) != 0) = true := bne_iff_ne.mpr c16
                      have c16b2 : ¬ (t440 = []) := fun h_ => c16 (by rw [h_]; rfl)
                      obtain rfl := Option.some.inj H
                      obtain ⟨Ao18, co18, eo18⟩ := Kd.R_slice HO_6.out
                      subst eo18
                      go_wp2
                      go_ret
                      exact ⟨by first | rfl | (simp [errW_none, errW_some] <;> rfl) | (simp [*, errW_none, errW_some] <;> rfl), by repeat (first | (with_reducible first | exact HB.out | apply below_alloc | apply pw_below_drewN | apply below_drew1) | exact HB.out)⟩
                  · rw [if_neg c15] at H
                    have c15b0 : (t441 == 1) = false := beq_eq_false_iff_ne.mpr c15
                    have c15b1 : (t441 != 1) = true := bne_iff_ne.mpr c15
                    obtain rfl := Option.some.inj H
                    go_wp2
                    go_ret
                    exact ⟨by first | rfl | (simp [errW_none, errW_some] <;> rfl) | (simp [*, errW_none, errW_some] <;> rfl), by repeat (first | (with_reducible first | exact HB.out | apply below_alloc | apply pw_below_drewN | apply below_drew1) | exact HB.out)⟩
                · replace c14 := Bool.eq_false_iff.mpr c14
                  subst c14
                  have H1 : (bibelotlaw03_HanoiFrameWays.l1 kj9 x0_1 x1_1 x5_1 t440 t441 ([] : List Int) 0) = some r := by rw [if_neg (show ¬ (false = true) by decide)] at H; exact H
                  clear H
                  have H := H1
                  clear H1
                  have H' := Aside0.mk H
                  clear H
                  go_wp2
                  go_loopg [9, 10] kj9 (fun kq v9 v10 w' => ∃ (x9_4 : List Int) (x10_4 : Int), v10 = .int .i64 x10_4 ∧ Aside0 (bibelotlaw03_HanoiFrameWays.l1 kq x0_1 x1_1 x5_1 t440 t441 x9_4 x10_4 = some r) ∧ Aside0 (kq ≤ kj9) ∧ Aside0 (Kd.R k52 52 w' w.heap.size (fun _ => True) v442 t440) ∧ Aside0 (Kd.R (Kd.int .i64) 3 w' w.heap.size (fun _ => True) v9 x9_4) ∧ Aside0 (Below w.heap.size w w'))
                  case atStart => exact ⟨(([] : List Int)), (0), (by first | rfl | (simp; done) | (simp [*]; done)), H', ⟨Nat.le_refl _⟩, ⟨by (with_reducible repeat (first | apply Kd.R_alloc | apply Kd.R_drewN | apply Kd.R_drew)); exact HO_6.out⟩, ⟨by first | exact Kd.R_nil _ _ _ _ _ | exact Kd.N_nil _ _ _ _ _ | exact Kd.V_nil _ _ _ _ _ | exact Kd.Q_nil _ _ _ _ _ | exact Kd.S_nil _ _ _ _ _⟩, ⟨by repeat (first | (with_reducible first | exact HB.out | apply below_alloc | apply pw_below_drewN | apply below_drew1) | exact HB.out)⟩⟩
                  case round =>
                    clear H'
                    try clear c1
                    try clear p2
                    try clear c3
                    try clear c3b0
                    try clear c5
                    try clear p6
                    try clear c7
                    try clear c7b0
                    try clear c8
                    try clear c8b0
                    try clear c9
                    try clear c9b0
                    try clear c11
                    try clear c14
                    try clear c15
                    try clear c15b0
                    try clear c15b1
                    try clear c16
                    try clear c16b0
                    try clear c16b1
                    try clear c16b2
                    try clear c17
                    try clear p2
                    obtain ⟨x9_4, x10_4, rfl, HA, HK4, HO_6, HO_9, HB⟩ := hrel
                    cases gk with
                    | zero => exact absurd HA.out (by simp [bibelotlaw03_HanoiFrameWays.l1])
                    | succ k4 =>
                      have H := HA.out
                      clear HA
                      simp only [bibelotlaw03_HanoiFrameWays.l1] at H
                      by_cases c19 : x10_4 < x0_1
                      · rw [if_pos c19] at H
                        have c19b0 : decide (x10_4 < x0_1) = true := decide_eq_true c19
                        clear c19
                        by_cases c20 : x9_4.length < 17592186044416
                        · rw [if_pos c20] at H
                          have LMc20 := Aside0.mk c20
                          clear c20
                          obtain ⟨y445, hy445⟩ : ∃ y_ : List Int, y_ = (x9_4 ++ [0]) := ⟨_, rfl⟩
                          replace H : (bibelotlaw03_HanoiFrameWays.l1 k4 x0_1 x1_1 x5_1 t440 t441 y445 (wrap64 (x10_4 + 1))) = some r := by first | (rw [hy445]; with_reducible exact H) | (have H2_ := (Option.bind_some _ _).symm.trans H; rw [hy445]; with_reducible exact H2_) | (have H2_ := (Option.bind_some _ _).symm.trans H; with_reducible exact H2_) | with_reducible exact H | (rw [hy445]; exact H) | exact H
                          have Ny445 := Aside0.mk hy445
                          clear hy445
                          have H' := Aside0.mk H
                          clear H
                          go_wp2_with (first | ((with_reducible refine gate_builtin (b := .append) (xs := #[.tmp 57, .tmp 58]) rfl ?_); (try (refine gate_guard (by rfl) ?_; dsimp only)); at_builtin; refine Kd.R_append (Kd.int .i64) (w0 := w) w.heap.size rfl (.tmp 57) (.tmp 58) 46 3 (.int .i64 0) 8 rfl Tryd.underlying46 info3 rfl (by decide) (by omega) u9 x9_4 0 [.int .i64 0] (fun _ => True) (fun _ => False) rfl rfl ?aP (fun _ hk => hk.elim) ?aF ?aO ?aB ?aS ?aL ?_; (case aP => exact rfl); (case aB => exact (by repeat (first | (with_reducible first | exact HB.out | apply below_alloc | apply pw_below_drewN | apply below_drew1) | exact HB.out))); (case aF => exact (fun _ _ => trivial)); (case aO => exact (by (with_reducible repeat (first | apply Kd.R_alloc | apply Kd.R_drewN | apply Kd.R_drew)); exact HO_9.out)); (case aS => exact (below_size (by repeat (first | (with_reducible first | exact HB.out | apply below_alloc | apply pw_below_drewN | apply below_drew1) | exact HB.out)))); (case aL => have := LMc20.out; omega); intro v446 w21 ho hb hg hat; rw [← Ny445.out] at ho; have n0_ := Aside0.mk (Kd.R_over' (by (with_reducible repeat (first | apply Kd.R_alloc | apply Kd.R_drewN | apply Kd.R_drew)); exact HO_6.out) (Kd.R_typed (by (with_reducible repeat (first | apply Kd.R_alloc | apply Kd.R_drewN | apply Kd.R_drew)); exact HO_9.out)) (by decide) hg); have n1_ := Aside0.mk (hb); have n2_ := Aside0.mk (ho); clear HO_6; clear HB; clear HO_9; have HO_6 := n0_; have HB := n1_; have HO447 := n2_; clear n0_ n1_ n2_; clear ho hb hg hat))
                          go_roundg k4
                          case measure => have := HK1.out; have := HJ4.out; have := HJ9.out; have := HK4.out; omega
                          case rel => exact ⟨(y445), (wrap64 (x10_4 + 1)), (by first | rfl | (simp; done) | (simp [*]; done)), H', ⟨by have := HK1.out; have := HJ4.out; have := HJ9.out; have := HK4.out; omega⟩, ⟨by (with_reducible repeat (first | apply Kd.R_alloc | apply Kd.R_drewN | apply Kd.R_drew)); exact HO_6.out⟩, ⟨by (with_reducible repeat (first | apply Kd.R_alloc | apply Kd.R_drewN | apply Kd.R_drew)); exact HO447.out⟩, ⟨by repeat (first | (with_reducible first | exact HB.out | apply below_alloc | apply pw_below_drewN | apply below_drew1) | exact HB.out)⟩⟩
                        · rw [if_neg c20] at H
                          exact absurd H (by simp)
                      · rw [if_neg c19] at H
                        have c19b0 : decide (x10_4 < x0_1) = false := decide_eq_false c19
                        clear c19
                        have HC22 := Aside0.mk H
                        clear H
                        go_upto_region 14 with (fail)
                        go_cut [69] (fun v69 wc => ∃ (kq : Nat) (x69_21 : Bool), v69 = .bool x69_21 ∧ Aside0 (bibelotlaw03_HanoiFrameWays.j4 kq x0_1 x1_1 x5_1 t440 x9_4 x69_21 = some r) ∧ Aside0 (kq ≤ k4) ∧ Aside0 (Kd.R k52 52 wc w.heap.size (fun _ => True) v442 t440) ∧ Aside0 (Kd.R (Kd.int .i64) 3 wc w.heap.size (fun _ => True) u9 x9_4) ∧ Aside0 (Below w.heap.size w wc))
                        case first =>
                          have H := HC22.out
                          clear HC22
                          by_cases c23 : t441 = 0
                          · rw [if_pos c23] at H
                            have c23b0 : (t441 == 0) = true := beq_iff_eq.mpr c23
                            have c23b1 : (t441 != 0) = false := bne_eq_false_iff_eq.mpr c23
                            clear c23
                            (first | rw [c23b0] | (simp only [i64_w, i32_w]; rw [c23b0]) | skip)
                            replace H := Option.bind_eq_some_iff.mp H
                            obtain ⟨t448, A240, H⟩ := H
                            replace H : (bibelotlaw03_HanoiFrameWays.j4 k4 x0_1 x1_1 x5_1 t440 x9_4 ((t440.length : Int) != t448)) = some r := H
                            have A24 := Aside0.mk A240
                            clear A240
                            have H' := Aside0.mk H
                            clear H
                            obtain ⟨Ao25, co25, eo25⟩ := Kd.R_slice HO_6.out
                            subst eo25
                            go_wp2_with (first | (go_at_call 28; (with_reducible refine (bibelotref03_Frame.calls k4 x0_1 x1_1 t448 _ A24.out).mono ?_); rintro e w26 ⟨rfl, hb⟩; have n0_ := Aside0.mk (Kd.R_below (by (with_reducible repeat (first | apply Kd.R_alloc | apply Kd.R_drewN | apply Kd.R_drew)); exact HO_6.out) hb); have n1_ := Aside0.mk (Kd.R_below (by (with_reducible repeat (first | apply Kd.R_alloc | apply Kd.R_drewN | apply Kd.R_drew)); exact HO_9.out) hb); have n2_ := Aside0.mk (below_step (by repeat (first | (with_reducible first | exact HB.out | apply below_alloc | apply pw_below_drewN | apply below_drew1) | exact HB.out)) hb); clear HO_6; clear HO_9; clear HB; have HO_6 := n0_; have HO_9 := n1_; have HB := n2_; clear n0_ n1_ n2_; (try clear hb); (try clear hb2); (try clear hk); (try clear hi)))
                            go_meet
                            case rel => exact ⟨_, (((t440.length : Int) != t448)), (by first | rfl | (simp; done) | (simp [*]; done)), H', ⟨by have := HK1.out; have := HJ4.out; have := HJ9.out; have := HK4.out; first | omega | exact Nat.le_refl _⟩, ⟨by (with_reducible repeat (first | apply Kd.R_alloc | apply Kd.R_drewN | apply Kd.R_drew)); exact HO_6.out⟩, ⟨by (with_reducible repeat (first | apply Kd.R_alloc | apply Kd.R_drewN | apply Kd.R_drew)); exact HO_9.out⟩, ⟨by repeat (first | (with_reducible first | exact HB.out | apply below_alloc | apply pw_below_drewN | apply below_drew1) | exact HB.out)⟩⟩
                          · rw [if_neg c23] at H
                            have c23b0 : (t441 == 0) = false := beq_eq_false_iff_ne.mpr c23
                            have c23b1 : (t441 != 0) = true := bne_iff_ne.mpr c23
                            (first | rw [c23b0] | (simp only [i64_w, i32_w]; rw [c23b0]) | skip)
                            have H' := Aside0.mk H
                            clear H
                            go_wp2
                            go_meet
                            case rel => exact ⟨_, (true), (by first | rfl | (simp; done) | (simp [*]; done)), H', ⟨by have := HK1.out; have := HJ4.out; have := HJ9.out; have := HK4.out; first | omega | exact Nat.le_refl _⟩, ⟨by (with_reducible repeat (first | apply Kd.R_alloc | apply Kd.R_drewN | apply Kd.R_drew)); exact HO_6.out⟩, ⟨by (with_reducible repeat (first | apply Kd.R_alloc | apply Kd.R_drewN | apply Kd.R_drew)); exact HO_9.out⟩, ⟨by repeat (first | (with_reducible first | exact HB.out | apply below_alloc | apply pw_below_drewN | apply below_drew1) | exact HB.out)⟩⟩
                        case rest =>
                          clear HC22
                          try clear c1
                          try clear c2
                          try clear p2
                          try clear c3
                          try clear c3b0
                          try clear c5
                          try clear p6
                          try clear c7
                          try clear c7b0
                          try clear c8
                          try clear c8b0
                          try clear c9
                          try clear c9b0
                          try clear c11
                          try clear c14
                          try clear c15
                          try clear c15b0
                          try clear c15b1
                          try clear c16
                          try clear c16b0
                          try clear c16b1
                          try clear c16b2
                          try clear c17
                          try clear c19
                          try clear c19b0
                          try clear c20
                          try clear c23
                          try clear c23b0
                          try clear c23b1
                          try clear p2
                          try clear p6
                          obtain ⟨kq, x69_21, rfl, HA, HJ21, HO_6, HO_9, HB⟩ := hcut
                          cases kq with
                          | zero => exact absurd HA.out (by simp [bibelotlaw03_HanoiFrameWays.j4])
                          | succ kj21 =>
                            have H := HA.out
                            clear HA
                            simp only [bibelotlaw03_HanoiFrameWays.j4] at H
                            by_cases c27 : x69_21 = true
                            · subst c27
                              have H1 : (some false) = some r := by rw [if_pos rfl] at H; exact H
                              clear H
                              have H := H1
                              clear H1
                              obtain rfl := Option.some.inj H
                              go_wp2
                              go_ret
                              exact ⟨by first | rfl | (simp [errW_none, errW_some] <;> rfl) | (simp [*, errW_none, errW_some] <;> rfl), by repeat (first | (with_reducible first | exact HB.out | apply below_alloc | apply pw_below_drewN | apply below_drew1) | exact HB.out)⟩
                            · replace c27 := Bool.eq_false_iff.mpr c27
                              subst c27
                              have H1 : ((bibelotref03_Play.f kj21 x9_4 t440 x1_1).bind fun bt449 => (if bt449.2 = (t440.length : Int) then (bibelotlaw03_HanoiFrameWays.l2 kj21 x0_1 x1_1 x5_1 bt449.1 0) else (some false))) = some r := by rw [if_neg (show ¬ (false = true) by decide)] at H; exact H
                              clear H
                              have H := H1
                              clear H1
                              replace H := Option.bind_eq_some_iff.mp H
                              obtain ⟨⟨t449, t450⟩, A280, H⟩ := H
                              replace H : (if t450 = (t440.length : Int) then (bibelotlaw03_HanoiFrameWays.l2 kj21 x0_1 x1_1 x5_1 t449 0) else (some false)) = some r := H
                              have A28 := Aside0.mk A280
                              clear A280
                              by_cases c29 : t450 = (t440.length : Int)
                              · rw [if_pos c29] at H
                                have c29b0 : (t450 == (t440.length : Int)) = true := beq_iff_eq.mpr c29
                                have c29b1 : (t450 != (t440.length : Int)) = false := bne_eq_false_iff_eq.mpr c29
                                clear c29
                                have H' := Aside0.mk H
                                clear H
                                obtain ⟨Ao30, co30, eo30⟩ := Kd.R_slice HO_9.out
                                subst eo30
                                obtain ⟨Ao31, co31, eo31⟩ := Kd.R_slice HO_6.out
                                subst eo31
                                go_wp2_with (first | ((with_reducible refine gate_callee (f := 57) rfl ?_); refine goesL_ (some 74) rfl rfl Tryd.func57 (by kernel_rfl) rfl #[.slice Ao30 x9_4.length co30, .slice Ao31 t440.length co31, .int .i64 x1_1] rfl (by (try simp only [List.map_toArray, List.map_cons, List.map_nil]); first | done | rfl | (simp only [List.length_drop, List.length_take]; rfl)) ?_; (with_reducible refine (bibelotref03_Play.calls kj21 _ _ x9_4 _ _ t440 x1_1 t449 t450 _ ?side1 ?side2 ?side3 ?side4 A28.out).mono ?_); (case side1 => repeat (first | exact (Kd.R_reads' HO_9.out).2.2 | (with_reducible refine Kd.C_alloc ?_ _) | (with_reducible refine Kd.C_drewN ?_ _) | (with_reducible refine Kd.C_drew ?_))); (case side2 => exact (Kd.R_reads' HO_9.out).2.1); (case side3 => repeat (first | exact (Kd.R_reads' HO_6.out).2.2 | (with_reducible refine Kd.C_alloc ?_ _) | (with_reducible refine Kd.C_drewN ?_ _) | (with_reducible refine Kd.C_drew ?_))); (case side4 => exact (Kd.R_reads' HO_6.out).2.1); rintro e w32 ⟨v451, rfl, ho0, hb⟩; refine ⟨_, rfl, ?_⟩; have n0_ := Aside0.mk (Kd.R_below (by (with_reducible repeat (first | apply Kd.R_alloc | apply Kd.R_drewN | apply Kd.R_drew)); exact HO_6.out) hb); have n1_ := Aside0.mk (Kd.R_elder' (by (with_reducible repeat (first | apply Kd.R_alloc | apply Kd.R_drewN | apply Kd.R_drew)); exact HO_9.out) (Kd.R_base ho0) hb); have n2_ := Aside0.mk (Kd.R_lower (Kd.R_new' ho0 (Kd.R_lt (by (with_reducible repeat (first | apply Kd.R_alloc | apply Kd.R_drewN | apply Kd.R_drew)); exact HO_9.out))) (below_size (by repeat (first | (with_reducible first | exact HB.out | apply below_alloc | apply pw_below_drewN | apply below_drew1) | exact HB.out)))); have n3_ := Aside0.mk (below_step (by repeat (first | (with_reducible first | exact HB.out | apply below_alloc | apply pw_below_drewN | apply below_drew1) | exact HB.out)) hb); clear HO_6; clear HO_9; clear HB; have HO_6 := n0_; have HO_9 := n1_; have HO452 := n2_; have HB := n3_; clear n0_ n1_ n2_ n3_; (try clear hb); (try clear hb2); (try clear hk); (try clear hi); (try clear ho0)))
                                go_loopg [13] kj21 (fun kq v13 w' => ∃ (x13_6 : Int), v13 = .int .i64 x13_6 ∧ Aside0 (bibelotlaw03_HanoiFrameWays.l2 kq x0_1 x1_1 x5_1 t449 x13_6 = some r) ∧ Aside0 (kq ≤ kj21) ∧ Aside0 (Kd.R (Kd.int .i64) 3 w' w.heap.size (fun _ => True) v451 t449) ∧ Aside0 (Below w.heap.size w w'))
                                case atStart => exact ⟨(0), (by first | rfl | (simp; done) | (simp [*]; done)), H', ⟨Nat.le_refl _⟩, ⟨by (with_reducible repeat (first | apply Kd.R_alloc | apply Kd.R_drewN | apply Kd.R_drew)); exact Kd.R_mono HO452.out (fun _ hk => trivial)⟩, ⟨by repeat (first | (with_reducible first | exact HB.out | apply below_alloc | apply pw_below_drewN | apply below_drew1) | exact HB.out)⟩⟩
                                case round =>
                                  clear H'
                                  try clear c1
                                  try clear c2
                                  try clear p2
                                  try clear c3
                                  try clear c3b0
                                  try clear c5
                                  try clear p6
                                  try clear c7
                                  try clear c7b0
                                  try clear c8
                                  try clear c8b0
                                  try clear c9
                                  try clear c9b0
                                  try clear c11
                                  try clear c14
                                  try clear c15
                                  try clear c15b0
                                  try clear c15b1
                                  try clear c16
                                  try clear c16b0
                                  try clear c16b1
                                  try clear c16b2
                                  try clear c17
                                  try clear c19
                                  try clear c19b0
                                  try clear c20
                                  try clear c23
                                  try clear c23b0
                                  try clear c23b1
                                  try clear c27
                                  try clear c29
                                  try clear c29b0
                                  try clear c29b1
                                  try clear p2
                                  try clear p6
                                  obtain ⟨x13_6, rfl, HA, HK6, HO_11, HB⟩ := hrel
                                  cases gk with
                                  | zero => exact absurd HA.out (by simp [bibelotlaw03_HanoiFrameWays.l2])
                                  | succ k6 =>
                                    have H := HA.out
                                    clear HA
                                    simp only [bibelotlaw03_HanoiFrameWays.l2] at H
                                    by_cases c33 : x13_6 < x0_1
                                    · rw [if_pos c33] at H
                                      have c33b0 : decide (x13_6 < x0_1) = true := decide_eq_true c33
                                      clear c33
                                      by_cases c34 : 0 ≤ x13_6
                                      · rw [if_pos c34] at H
                                        have c34b0 : decide (0 ≤ x13_6) = true := decide_eq_true c34
                                        clear c34
                                        by_cases c35 : x13_6 < (t449.length : Int)
                                        · rw [if_pos c35] at H
                                          have c35b0 : decide (x13_6 < (t449.length : Int)) = true := decide_eq_true c35
                                          clear c35
                                          by_cases c36 : (rd t449 x13_6) = (wrap64 (x1_1 - 1))
                                          · rw [if_pos c36] at H
                                            have c36b0 : ((rd t449 x13_6) == (wrap64 (x1_1 - 1))) = true := beq_iff_eq.mpr c36
                                            have c36b1 : ((rd t449 x13_6) != (wrap64 (x1_1 - 1))) = false := bne_eq_false_iff_eq.mpr c36
                                            clear c36
                                            have H' := Aside0.mk H
                                            clear H
                                            obtain ⟨Ao37, co37, eo37⟩ := Kd.R_slice HO_11.out
                                            subst eo37
                                            have p453 : 0 ≤ (x13_6 : Int) := of_decide_eq_true (by first | (with_reducible assumption) | assumption)
                                            have q453 : x13_6 < (t449.length : Int) := of_decide_eq_true (by first | (with_reducible assumption) | assumption)
                                            obtain ⟨ad453, e453, hx453_0⟩ := Kd.at_int (Kd.R_reads' HO_11.out).2.2 x13_6 p453 q453
                                            cases e453
                                            replace p453 := eq_true p453
                                            replace q453 := eq_true q453
                                            go_wp2
                                            go_roundg k6
                                            case measure => have := HK1.out; have := HJ4.out; have := HJ9.out; have := HK4.out; have := HJ21.out; have := HK6.out; omega
                                            case rel => exact ⟨(wrap64 (x13_6 + 1)), (by first | rfl | (simp; done) | (simp [*]; done)), H', ⟨by have := HK1.out; have := HJ4.out; have := HJ9.out; have := HK4.out; have := HJ21.out; have := HK6.out; omega⟩, ⟨by (with_reducible repeat (first | apply Kd.R_alloc | apply Kd.R_drewN | apply Kd.R_drew)); exact HO_11.out⟩, ⟨by repeat (first | (with_reducible first | exact HB.out | apply below_alloc | apply pw_below_drewN | apply below_drew1) | exact HB.out)⟩⟩
                                          · rw [if_neg c36] at H
                                            have c36b0 : ((rd t449 x13_6) == (wrap64 (x1_1 - 1))) = false := beq_eq_false_iff_ne.mpr c36
                                            have c36b1 : ((rd t449 x13_6) != (wrap64 (x1_1 - 1))) = true := bne_iff_ne.mpr c36
                                            obtain rfl := Option.some.inj H
                                            obtain ⟨Ao38, co38, eo38⟩ := Kd.R_slice HO_11.out
                                            subst eo38
                                            have p453 : 0 ≤ (x13_6 : Int) := of_decide_eq_true (by first | (with_reducible assumption) | assumption)
                                            have q453 : x13_6 < (t449.length : Int) := of_decide_eq_true (by first | (with_reducible assumption) | assumption)
                                            obtain ⟨ad453, e453, hx453_0⟩ := Kd.at_int (Kd.R_reads' HO_11.out).2.2 x13_6 p453 q453
                                            cases e453
                                            replace p453 := eq_true p453
                                            replace q453 := eq_true q453
                                            go_wp2
                                            go_ret
                                            exact ⟨by first | rfl | (simp [errW_none, errW_some] <;> rfl) | (simp [*, errW_none, errW_some] <;> rfl), by repeat (first | (with_reducible first | exact HB.out | apply below_alloc | apply pw_below_drewN | apply below_drew1) | exact HB.out)⟩
                                        · rw [if_neg c35] at H
                                          exact absurd H (by simp)
                                      · rw [if_neg c34] at H
                                        exact absurd H (by simp)
                                    · rw [if_neg c33] at H
                                      have c33b0 : decide (x13_6 < x0_1) = false := decide_eq_false c33
                                      clear c33
                                      have H' := Aside0.mk H
                                      clear H
                                      go_wp2
                                      go_roundg k6
                                      case measure => have := HK1.out; have := HJ4.out; have := HJ9.out; have := HK4.out; have := HJ21.out; have := HK6.out; omega
                                      case rel => exact ⟨(wrap64 (Int.tmod (IntKind.u64.wrap (x0_1)) 25)), (wrap64 (3 + (wrap64 (Int.tmod (IntKind.u64.wrap (x1_1)) 6)))), (wrap64 (x5_1 + 1)), (by first | rfl | (simp; done) | (simp [*]; done)), (by first | rfl | (simp; done) | (simp [*]; done)), (by first | rfl | (simp; done) | (simp [*]; done)), H', ⟨by have := HK1.out; have := HJ4.out; have := HJ9.out; have := HK4.out; have := HJ21.out; have := HK6.out; omega⟩, ⟨by repeat (first | (with_reducible first | exact HB.out | apply below_alloc | apply pw_below_drewN | apply below_drew1) | exact HB.out)⟩⟩
                              · rw [if_neg c29] at H
                                have c29b0 : (t450 == (t440.length : Int)) = false := beq_eq_false_iff_ne.mpr c29
                                have c29b1 : (t450 != (t440.length : Int)) = true := bne_iff_ne.mpr c29
                                obtain rfl := Option.some.inj H
                                obtain ⟨Ao39, co39, eo39⟩ := Kd.R_slice HO_9.out
                                subst eo39
                                obtain ⟨Ao40, co40, eo40⟩ := Kd.R_slice HO_6.out
                                subst eo40
                                go_wp2_with (first | ((with_reducible refine gate_callee (f := 57) rfl ?_); refine goesL_ (some 74) rfl rfl Tryd.func57 (by kernel_rfl) rfl #[.slice Ao39 x9_4.length co39, .slice Ao40 t440.length co40, .int .i64 x1_1] rfl (by (try simp only [List.map_toArray, List.map_cons, List.map_nil]); first | done | rfl | (simp only [List.length_drop, List.length_take]; rfl)) ?_; (with_reducible refine (bibelotref03_Play.calls kj21 _ _ x9_4 _ _ t440 x1_1 t449 t450 _ ?side1 ?side2 ?side3 ?side4 A28.out).mono ?_); (case side1 => repeat (first | exact (Kd.R_reads' HO_9.out).2.2 | (with_reducible refine Kd.C_alloc ?_ _) | (with_reducible refine Kd.C_drewN ?_ _) | (with_reducible refine Kd.C_drew ?_))); (case side2 => exact (Kd.R_reads' HO_9.out).2.1); (case side3 => repeat (first | exact (Kd.R_reads' HO_6.out).2.2 | (with_reducible refine Kd.C_alloc ?_ _) | (with_reducible refine Kd.C_drewN ?_ _) | (with_reducible refine Kd.C_drew ?_))); (case side4 => exact (Kd.R_reads' HO_6.out).2.1); rintro e w41 ⟨v451, rfl, ho0, hb⟩; refine ⟨_, rfl, ?_⟩; have n0_ := Aside0.mk (Kd.R_below (by (with_reducible repeat (first | apply Kd.R_alloc | apply Kd.R_drewN | apply Kd.R_drew)); exact HO_6.out) hb); have n1_ := Aside0.mk (Kd.R_elder' (by (with_reducible repeat (first | apply Kd.R_alloc | apply Kd.R_drewN | apply Kd.R_drew)); exact HO_9.out) (Kd.R_base ho0) hb); have n2_ := Aside0.mk (Kd.R_lower (Kd.R_new' ho0 (Kd.R_lt (by (with_reducible repeat (first | apply Kd.R_alloc | apply Kd.R_drewN | apply Kd.R_drew)); exact HO_9.out))) (below_size (by repeat (first | (with_reducible first | exact HB.out | apply below_alloc | apply pw_below_drewN | apply below_drew1) | exact HB.out)))); have n3_ := Aside0.mk (below_step (by repeat (first | (with_reducible first | exact HB.out | apply below_alloc | apply pw_below_drewN | apply below_drew1) | exact HB.out)) hb); clear HO_6; clear HO_9; clear HB; have HO_6 := n0_; have HO_9 := n1_; have HO452 := n2_; have HB := n3_; clear n0_ n1_ n2_ n3_; (try clear hb); (try clear hb2); (try clear hk); (try clear hi); (try clear ho0)))
                                go_ret
                                exact ⟨by first | rfl | (simp [errW_none, errW_some] <;> rfl) | (simp [*, errW_none, errW_some] <;> rfl), by repeat (first | (with_reducible first | exact HB.out | apply below_alloc | apply pw_below_drewN | apply below_drew1) | exact HB.out)⟩
      · rw [if_neg c3] at H
        have c3b0 : decide (x5_1 < 2) = false := decide_eq_false c3
        clear c3
        replace H := Option.bind_eq_some_iff.mp H
        obtain ⟨t439, A420, H⟩ := H
        replace H : (some t439) = some r := H
        have A42 := Aside0.mk A420
        clear A420
        obtain rfl := Option.some.inj H
        go_wp2_with (first | ((with_reducible refine gate_callee (f := 26) rfl ?_); refine goesL_ (some 102) rfl rfl Tryd.func26 (by kernel_rfl) rfl #[] rfl (by (try simp only [List.map_toArray, List.map_cons, List.map_nil]); first | done | rfl | (simp only [List.length_drop, List.length_take]; rfl)) ?_; (with_reducible refine (bibelotlaw03_awake.calls k1  t439 _ A42.out).mono ?_); rintro e w43 ⟨rfl, hb⟩; refine ⟨_, rfl, ?_⟩; have n0_ := Aside0.mk (below_step (by repeat (first | (with_reducible first | exact HB.out | apply below_alloc | apply pw_below_drewN | apply below_drew1) | exact HB.out)) hb); clear HB; have HB := n0_; clear n0_; (try clear hb); (try clear hb2); (try clear hk); (try clear hi)))
        go_ret
        exact ⟨by first | rfl | (simp [errW_none, errW_some] <;> rfl) | (simp [*, errW_none, errW_some] <;> rfl), by repeat (first | (with_reducible first | exact HB.out | apply below_alloc | apply pw_below_drewN | apply below_drew1) | exact HB.out)⟩

/-- THE ONE PURE STATEMENT of bibelotlaw03_HanoiFrameWays: yours. -/
def bibelotlaw03_HanoiFrameWays.Pure : Prop := ∀ (a0 : Int) (a1 : Int), (Lit.int .i64 a0).wf = true → (Lit.int .i64 a1).wf = true → ∃ k, bibelotlaw03_HanoiFrameWays.f k a0 a1 = some true
theorem bibelotlaw03_HanoiFrameWays.walk (P : bibelotlaw03_HanoiFrameWays.Pure) (a0 : Int) (a1 : Int) (w : World) (w0 : (Lit.int .i64 a0).wf = true) (w1 : (Lit.int .i64 a1).wf = true) :
    Calls Tryd.prog 17 #[.int .i64 a0, .int .i64 a1] w fun e w' => e = .returned (.bool true) ∧ Below w.heap.size w w' := by
  obtain ⟨k, h⟩ := P a0 a1 w0 w1
  refine (bibelotlaw03_HanoiFrameWays.calls k a0 a1 true w h).mono ?_
  rintro e w' ⟨rfl, hd⟩
  exact ⟨rfl, hd⟩

end Go.Proofs.YtnaaomhmoamfpaaDoor.Q
namespace Go.Proofs.YtnaaomhmoamfpaaDoor.G
end Go.Proofs.YtnaaomhmoamfpaaDoor.G
namespace Go.Proofs.YtnaaomhmoamfpaaDoor.Q
set_option linter.unusedVariables false
set_option linter.unusedSimpArgs false
set_option linter.unusedSectionVars false
open Go.Proofs.YtnaaomhmoamfpaaDoor.G
open Go.RowKit Go.Proofs.YtnaaomhmoamfpaaDoorW.PrintWords Go.Proofs.YtnaaomhmoamfpaaDoorW.PrintLast Go.Proofs.YtnaaomhmoamfpaaDoorW.PrintMore
attribute [local go_sem] max2_int min2_int max_two min_two max_three min_three max_four min_four   -- for this text's walks alone

/-! ### bibelotref03_Moves: function 42 -/
mutual
def bibelotref03_Moves.l0 : Nat → List Int → Int → List (S52) → Int → Option ((List (S52)))
  | 0, _, _, _, _ => none
  | k + 1, x0, x1, x5, x6 => if x6 < (x0.length : Int) then (bibelotref03_Moves.l1 k x0 x1 x5 x6 0) else (some x5)
def bibelotref03_Moves.l1 : Nat → List Int → Int → List (S52) → Int → Int → Option ((List (S52)))
  | 0, _, _, _, _, _ => none
  | k + 1, x0, x1, x5, x6, x7 => if x7 < x1 then ((bibelotref03_Can.f k x0 x6 x7 x1).bind fun t209 => (if t209 = true then (if x5.length < 8796093022208 then (bibelotref03_Moves.l1 k x0 x1 (x5 ++ [(⟨x6, x7⟩ : S52)]) x6 (wrap64 (x7 + 1))) else (none)) else (bibelotref03_Moves.l1 k x0 x1 x5 x6 (wrap64 (x7 + 1))))) else (bibelotref03_Moves.l0 k x0 x1 x5 (wrap64 (x6 + 1)))
end
def bibelotref03_Moves.f (k : Nat) (l0 : List Int) (a1 : Int) : Option ((List (S52))) := bibelotref03_Moves.l0 k l0 a1 ([] : List (S52)) 0
theorem bibelotref03_Moves.mono_l : ∀ k, (∀ y0 y1 y2 y3, LeO (bibelotref03_Moves.l0 k y0 y1 y2 y3) (bibelotref03_Moves.l0 (k + 1) y0 y1 y2 y3)) ∧ (∀ y0 y1 y2 y3 y4, LeO (bibelotref03_Moves.l1 k y0 y1 y2 y3 y4) (bibelotref03_Moves.l1 (k + 1) y0 y1 y2 y3 y4))
  | 0 => ⟨fun _ _ _ _ r h => by simp [bibelotref03_Moves.l0] at h, fun _ _ _ _ _ r h => by simp [bibelotref03_Moves.l1] at h⟩
  | k + 1 => by
    obtain ⟨ih0, ih1⟩ := bibelotref03_Moves.mono_l k
    refine ⟨?_, ?_⟩
    · intro y0 y1 y2 y3
      unfold bibelotref03_Moves.l0
      repeat' first
      | (with_reducible exact ih0 _ _ _ _)
      | (with_reducible exact ih1 _ _ _ _ _)
      | (with_reducible exact bibelotref03_Can.mono _ _ _ _ _)
      | (with_reducible exact LeO.refl _)
      | (with_reducible exact LeO.none _)
      | (with_reducible refine LeO.ite ?_ ?_)
      | (with_reducible refine LeO.bind ?_ (fun _ => ?_))
      | exact ih0 _ _ _ _
      | exact ih1 _ _ _ _ _
      | exact bibelotref03_Can.mono _ _ _ _ _
      | exact LeO.none _
      | refine LeO.ite ?_ ?_
      | refine LeO.bind ?_ (fun _ => ?_)
    · intro y0 y1 y2 y3 y4
      unfold bibelotref03_Moves.l1
      repeat' first
      | (with_reducible exact ih0 _ _ _ _)
      | (with_reducible exact ih1 _ _ _ _ _)
      | (with_reducible exact bibelotref03_Can.mono _ _ _ _ _)
      | (with_reducible exact LeO.refl _)
      | (with_reducible exact LeO.none _)
      | (with_reducible refine LeO.ite ?_ ?_)
      | (with_reducible refine LeO.bind ?_ (fun _ => ?_))
      | exact ih0 _ _ _ _
      | exact ih1 _ _ _ _ _
      | exact bibelotref03_Can.mono _ _ _ _ _
      | exact LeO.none _
      | refine LeO.ite ?_ ?_
      | refine LeO.bind ?_ (fun _ => ?_)
theorem bibelotref03_Moves.mono : ∀ a0 a1 k, LeO (bibelotref03_Moves.f k a0 a1) (bibelotref03_Moves.f (k + 1) a0 a1) := by
  intro a0 a1 k
  obtain ⟨ih0, ih1⟩ := bibelotref03_Moves.mono_l k
  unfold bibelotref03_Moves.f
  repeat' first
      | (with_reducible exact ih0 _ _ _ _)
      | (with_reducible exact ih1 _ _ _ _ _)
      | (with_reducible exact bibelotref03_Can.mono _ _ _ _ _)
      | (with_reducible exact LeO.refl _)
      | (with_reducible exact LeO.none _)
      | (with_reducible refine LeO.ite ?_ ?_)
      | (with_reducible refine LeO.bind ?_ (fun _ => ?_))
      | exact ih0 _ _ _ _
      | exact ih1 _ _ _ _ _
      | exact bibelotref03_Can.mono _ _ _ _ _
      | exact LeO.none _
      | refine LeO.ite ?_ ?_
      | refine LeO.bind ?_ (fun _ => ?_)
set_option maxHeartbeats 8000000 in
set_option maxRecDepth 100000 in
theorem bibelotref03_Moves.calls (k : Nat) (A0 : Option Addr) (c0 : Nat) (l0 : List Int) (a1 : Int) (r : List (S52)) (w : World) (hr0 : Kd.C (Kd.int .i64) w A0 l0.length l0) (hc0 : l0.length ≤ c0) (h : bibelotref03_Moves.f k l0 a1 = some r) :
    Calls Tryd.prog 42 #[.slice A0 l0.length c0, .int .i64 a1] w fun e w' => ∃ v0_ : Value, e = .returned (v0_) ∧ Kd.R k52 52 w' w.heap.size (fun _ => True) v0_ r ∧ Below w.heap.size w w' := by
  have hu52 := Tryd.underlying52
  have HR0 := Aside0.mk hr0
  have HC0 := Aside0.mk hc0
  clear hr0 hc0
  have HB := Aside0.mk (Below.refl w.heap.size w)
  have H : (bibelotref03_Moves.l0 k l0 a1 ([] : List (S52)) 0) = some r := h
  clear h
  have H' := Aside0.mk H
  clear H
  go_enter Tryd.func42, Tryd.ntmps42
  go_wp2
  go_loopg [5, 6] k (fun kq v5 v6 w' => ∃ (x5_1 : List (S52)) (x6_1 : Int), v6 = .int .i64 x6_1 ∧ Aside0 (bibelotref03_Moves.l0 kq l0 a1 x5_1 x6_1 = some r) ∧ Aside0 (kq ≤ k) ∧ Aside0 (Kd.R k52 52 w' w.heap.size (fun _ => True) v5 x5_1) ∧ Aside0 (Below w.heap.size w w'))
  case atStart => exact ⟨(([] : List (S52))), (0), (by first | rfl | (simp; done) | (simp [*]; done)), H', ⟨Nat.le_refl _⟩, ⟨by first | exact Kd.R_nil _ _ _ _ _ | exact Kd.N_nil _ _ _ _ _ | exact Kd.V_nil _ _ _ _ _ | exact Kd.Q_nil _ _ _ _ _ | exact Kd.S_nil _ _ _ _ _⟩, ⟨by repeat (first | (with_reducible first | exact HB.out | apply below_alloc | apply pw_below_drewN | apply below_drew1) | exact HB.out)⟩⟩
  case round =>
    clear H'
    try clear p2
    obtain ⟨x5_1, x6_1, rfl, HA, HK1, HO_5, HB⟩ := hrel
    cases gk with
    | zero => exact absurd HA.out (by simp [bibelotref03_Moves.l0])
    | succ k1 =>
      have H := HA.out
      clear HA
      simp only [bibelotref03_Moves.l0] at H
      by_cases c3 : x6_1 < (l0.length : Int)
      · rw [if_pos c3] at H
        have c3b0 : decide (x6_1 < (l0.length : Int)) = true := decide_eq_true c3
        clear c3
        have H' := Aside0.mk H
        clear H
        go_wp2
        go_loopg [5, 7] k1 (fun kq v5 v7 w' => ∃ (x5_2 : List (S52)) (x7_2 : Int), v7 = .int .i64 x7_2 ∧ Aside0 (bibelotref03_Moves.l1 kq l0 a1 x5_2 x6_1 x7_2 = some r) ∧ Aside0 (kq ≤ k1) ∧ Aside0 (Kd.R k52 52 w' w.heap.size (fun _ => True) v5 x5_2) ∧ Aside0 (Below w.heap.size w w'))
        case atStart => exact ⟨(x5_1), (0), (by first | rfl | (simp; done) | (simp [*]; done)), H', ⟨Nat.le_refl _⟩, ⟨by (with_reducible repeat (first | apply Kd.R_alloc | apply Kd.R_drewN | apply Kd.R_drew)); exact HO_5.out⟩, ⟨by repeat (first | (with_reducible first | exact HB.out | apply below_alloc | apply pw_below_drewN | apply below_drew1) | exact HB.out)⟩⟩
        case round =>
          clear H'
          try clear p2
          try clear c3
          try clear c3b0
          try clear p2
          obtain ⟨x5_2, x7_2, rfl, HA, HK2, HO_5, HB⟩ := hrel
          cases gk with
          | zero => exact absurd HA.out (by simp [bibelotref03_Moves.l1])
          | succ k2 =>
            have H := HA.out
            clear HA
            simp only [bibelotref03_Moves.l1] at H
            by_cases c4 : x7_2 < a1
            · rw [if_pos c4] at H
              have c4b0 : decide (x7_2 < a1) = true := decide_eq_true c4
              clear c4
              replace H := Option.bind_eq_some_iff.mp H
              obtain ⟨t209, A50, H⟩ := H
              replace H : (if t209 = true then (if x5_2.length < 8796093022208 then (bibelotref03_Moves.l1 k2 l0 a1 (x5_2 ++ [(⟨x6_1, x7_2⟩ : S52)]) x6_1 (wrap64 (x7_2 + 1))) else (none)) else (bibelotref03_Moves.l1 k2 l0 a1 x5_2 x6_1 (wrap64 (x7_2 + 1)))) = some r := H
              have A5 := Aside0.mk A50
              clear A50
              by_cases c6 : t209 = true
              · subst c6
                have H1 : (if x5_2.length < 8796093022208 then (bibelotref03_Moves.l1 k2 l0 a1 (x5_2 ++ [(⟨x6_1, x7_2⟩ : S52)]) x6_1 (wrap64 (x7_2 + 1))) else (none)) = some r := by rw [if_pos rfl] at H; exact H
                clear H
                have H := H1
                clear H1
                by_cases c7 : x5_2.length < 8796093022208
                · rw [if_pos c7] at H
                  have LMc7 := Aside0.mk c7
                  clear c7
                  obtain ⟨y210, hy210⟩ : ∃ y_ : List (S52), y_ = (x5_2 ++ [(⟨x6_1, x7_2⟩ : S52)]) := ⟨_, rfl⟩
                  replace H : (bibelotref03_Moves.l1 k2 l0 a1 y210 x6_1 (wrap64 (x7_2 + 1))) = some r := by first | (rw [hy210]; with_reducible exact H) | (have H2_ := (Option.bind_some _ _).symm.trans H; rw [hy210]; with_reducible exact H2_) | (have H2_ := (Option.bind_some _ _).symm.trans H; with_reducible exact H2_) | with_reducible exact H | (rw [hy210]; exact H) | exact H
                  have Ny210 := Aside0.mk hy210
                  clear hy210
                  have H' := Aside0.mk H
                  clear H
                  go_wp2_with (first | ((with_reducible refine gate_callee (f := 72) rfl ?_); refine goesL_ (some 23) rfl rfl Tryd.func72 (by kernel_rfl) rfl #[.slice A0 l0.length c0, .int .i64 x6_1, .int .i64 x7_2, .int .i64 a1] rfl (by (try simp only [List.map_toArray, List.map_cons, List.map_nil]); first | done | rfl | (simp only [List.length_drop, List.length_take]; rfl)) ?_; (with_reducible refine (bibelotref03_Can.calls k2 _ _ l0 x6_1 x7_2 a1 true _ ?side1 ?side2 A5.out).mono ?_); (case side1 => repeat (first | exact (Kd.C_below HR0.out HB.out) | (with_reducible refine Kd.C_alloc ?_ _) | (with_reducible refine Kd.C_drewN ?_ _) | (with_reducible refine Kd.C_drew ?_))); (case side2 => exact HC0.out); rintro e w' ⟨rfl, ⟨nd, rfl⟩⟩; refine ⟨_, rfl, ?_⟩) | ((with_reducible refine gate_builtin (b := .append) (xs := #[.tmp 24, .tmp 28]) rfl ?_); at_builtin; refine Kd.R_append k52 (w0 := w) w.heap.size rfl (.tmp 24) (.tmp 28) 48 52 (.agg #[(.int .i64 0), (.int .i64 0)]) 16 rfl Tryd.underlying48 info52 rfl (by decide) (by omega) u5 x5_2 (⟨x6_1, x7_2⟩ : S52) [.int .i64 x6_1, .int .i64 x7_2] (fun _ => True) (fun _ => False) rfl rfl ?aP (fun _ hk => hk.elim) ?aF ?aO ?aB ?aS ?aL ?_; (case aP => exact k52_mkM _ _ _ (⟨x6_1, x7_2⟩ : S52)); (case aB => exact (by repeat (first | (with_reducible first | exact HB.out | apply below_alloc | apply pw_below_drewN | apply below_drew1) | exact HB.out))); (case aF => exact (fun _ _ => trivial)); (case aO => exact (by (with_reducible repeat (first | apply Kd.R_alloc | apply Kd.R_drewN | apply Kd.R_drew)); exact HO_5.out)); (case aS => exact (below_size (by repeat (first | (with_reducible first | exact HB.out | apply below_alloc | apply pw_below_drewN | apply below_drew1) | exact HB.out)))); (case aL => have := LMc7.out; omega); intro v211 w8 ho hb hg hat; rw [← Ny210.out] at ho; have n0_ := Aside0.mk (hb); have n1_ := Aside0.mk (ho); clear HB; clear HO_5; have HB := n0_; have HO212 := n1_; clear n0_ n1_; clear ho hb hg hat))
                  go_roundg k2
                  case measure => have := HK1.out; have := HK2.out; omega
                  case rel => exact ⟨(y210), (wrap64 (x7_2 + 1)), (by first | rfl | (simp; done) | (simp [*]; done)), H', ⟨by have := HK1.out; have := HK2.out; omega⟩, ⟨by (with_reducible repeat (first | apply Kd.R_alloc | apply Kd.R_drewN | apply Kd.R_drew)); exact HO212.out⟩, ⟨by repeat (first | (with_reducible first | exact HB.out | apply below_alloc | apply pw_below_drewN | apply below_drew1) | exact HB.out)⟩⟩
                · rw [if_neg c7] at H
                  exact absurd H (by simp)
              · replace c6 := Bool.eq_false_iff.mpr c6
                subst c6
                have H1 : (bibelotref03_Moves.l1 k2 l0 a1 x5_2 x6_1 (wrap64 (x7_2 + 1))) = some r := by rw [if_neg (show ¬ (false = true) by decide)] at H; exact H
                clear H
                have H := H1
                clear H1
                have H' := Aside0.mk H
                clear H
                go_wp2_with (first | ((with_reducible refine gate_callee (f := 72) rfl ?_); refine goesL_ (some 23) rfl rfl Tryd.func72 (by kernel_rfl) rfl #[.slice A0 l0.length c0, .int .i64 x6_1, .int .i64 x7_2, .int .i64 a1] rfl (by (try simp only [List.map_toArray, List.map_cons, List.map_nil]); first | done | rfl | (simp only [List.length_drop, List.length_take]; rfl)) ?_; (with_reducible refine (bibelotref03_Can.calls k2 _ _ l0 x6_1 x7_2 a1 false _ ?side1 ?side2 A5.out).mono ?_); (case side1 => repeat (first | exact (Kd.C_below HR0.out HB.out) | (with_reducible refine Kd.C_alloc ?_ _) | (with_reducible refine Kd.C_drewN ?_ _) | (with_reducible refine Kd.C_drew ?_))); (case side2 => exact HC0.out); rintro e w' ⟨rfl, ⟨nd, rfl⟩⟩; refine ⟨_, rfl, ?_⟩))
                go_roundg k2
                case measure => have := HK1.out; have := HK2.out; omega
                case rel => exact ⟨(x5_2), (wrap64 (x7_2 + 1)), (by first | rfl | (simp; done) | (simp [*]; done)), H', ⟨by have := HK1.out; have := HK2.out; omega⟩, ⟨by (with_reducible repeat (first | apply Kd.R_alloc | apply Kd.R_drewN | apply Kd.R_drew)); exact HO_5.out⟩, ⟨by repeat (first | (with_reducible first | exact HB.out | apply below_alloc | apply pw_below_drewN | apply below_drew1) | exact HB.out)⟩⟩
            · rw [if_neg c4] at H
              have c4b0 : decide (x7_2 < a1) = false := decide_eq_false c4
              clear c4
              have H' := Aside0.mk H
              clear H
              go_wp2
              go_roundg k2
              case measure => have := HK1.out; have := HK2.out; omega
              case rel => exact ⟨(x5_2), (wrap64 (x6_1 + 1)), (by first | rfl | (simp; done) | (simp [*]; done)), H', ⟨by have := HK1.out; have := HK2.out; omega⟩, ⟨by (with_reducible repeat (first | apply Kd.R_alloc | apply Kd.R_drewN | apply Kd.R_drew)); exact HO_5.out⟩, ⟨by repeat (first | (with_reducible first | exact HB.out | apply below_alloc | apply pw_below_drewN | apply below_drew1) | exact HB.out)⟩⟩
      · rw [if_neg c3] at H
        have c3b0 : decide (x6_1 < (l0.length : Int)) = false := decide_eq_false c3
        clear c3
        obtain rfl := Option.some.inj H
        go_wp2
        go_ret
        exact ⟨_, by first | rfl | (simp [errW_none, errW_some] <;> rfl) | (simp [*, errW_none, errW_some] <;> rfl), by (with_reducible repeat (first | apply Kd.R_alloc | apply Kd.R_drewN | apply Kd.R_drew)); exact HO_5.out, by repeat (first | (with_reducible first | exact HB.out | apply below_alloc | apply pw_below_drewN | apply below_drew1) | exact HB.out)⟩

end Go.Proofs.YtnaaomhmoamfpaaDoor.Q
/- The document's Can and Moves: what they come to. -/
namespace Go.Proofs.YtnaaomhmoamfpaaDoor.G
set_option linter.unusedVariables false
set_option linter.unusedSimpArgs false
set_option linter.unusedSectionVars false
open Go.Proofs.YtnaaomhmoamfpaaDoor.Q Go.Proofs.YtnaaomhmoamfpaaDoor.Hn
open Go.RowKit Go.Proofs.YtnaaomhmoamfpaaDoorW.PrintWords Go.Proofs.YtnaaomhmoamfpaaDoorW.PrintLast Go.Proofs.YtnaaomhmoamfpaaDoorW.PrintMore

/-- Can disc d of l be moved to peg q? -/
def canB (l : List Int) (d : Nat) (q : Int) : Bool := !cov l d (nth l d) && !cov l d q && decide (q ≠ nth l d)
theorem can_loop (l : List Int) (d : Nat) (q : Int) (hd : d < l.length) (hl : l.length ≤ 1000) (hne : q ≠ nth l d) : ∀ e i, i + e = d → (∀ j, j < i → nth l j ≠ nth l d ∧ nth l j ≠ q) →
    Ev (fun k => bibelotref03_Can.l0 k l (d : Int) q (i : Int)) (canB l d q)
  | 0, i, h, hi => by
    obtain rfl : i = d := by omega
    refine Ev.step (fun k => ?_) (Ev.now _)
    have h1 := (cov_no l (nth l i) i (by omega)).2 (fun j hj => (hi j hj).1)
    have h2 := (cov_no l q i (by omega)).2 (fun j hj => (hi j hj).2)
    have : canB l i q = true := by unfold canB; rw [h1, h2, decide_eq_true hne]; rfl
    rw [bibelotref03_Can.l0, if_neg (by omega), this]
  | e + 1, i, h, hi => by
    by_cases c1 : nth l i = nth l d
    · refine Ev.step (fun k => ?_) (Ev.now _)
      have h1 := (cov_iff l (nth l d) d (by omega)).2 ⟨i, by omega, c1⟩
      have : canB l d q = false := by unfold canB; rw [h1]; rfl
      rw [bibelotref03_Can.l0, if_pos (by omega), if_pos (by omega), if_pos (by omega), if_pos (by omega), if_pos (by omega), rd_nth, rd_nth, if_pos c1, this]
    · by_cases c2 : nth l i = q
      · refine Ev.step (fun k => ?_) (Ev.now _)
        have h1 := (cov_iff l q d (by omega)).2 ⟨i, by omega, c2⟩
        have : canB l d q = false := by unfold canB; rw [h1]; simp
        rw [bibelotref03_Can.l0, if_pos (by omega), if_pos (by omega), if_pos (by omega), if_pos (by omega), if_pos (by omega), rd_nth, rd_nth, if_neg c1, if_pos c2, this]
      · refine Ev.step (fun k => ?_) (can_loop l d q hd hl hne e (i + 1) (by omega) (fun j hj => by
          by_cases ej : j = i
          · rw [ej]; exact ⟨c1, c2⟩
          · exact hi j (by omega)))
        rw [bibelotref03_Can.l0, if_pos (by omega), if_pos (by omega), if_pos (by omega), if_pos (by omega), if_pos (by omega), rd_nth, rd_nth, if_neg c1, if_neg c2, w64 (by omega) (by omega)]
        rfl
theorem can_ev (l : List Int) (d q P : Nat) (hd : d < l.length) (hl : l.length ≤ 1000) (hq : q < P) : Ev (fun k => bibelotref03_Can.f k l (d : Int) (q : Int) (P : Int)) (canB l d (q : Int)) := by
  have h1 : ¬ (d : Int) < 0 := by omega
  have h2 : ¬ (d : Int) ≥ (l.length : Int) := by omega
  have h3 : ¬ (q : Int) < 0 := by omega
  have h4 : ¬ (q : Int) ≥ (P : Int) := by omega
  have h5 : (0 : Int) ≤ (d : Int) := by omega
  have h6 : (d : Int) < (l.length : Int) := by omega
  unfold bibelotref03_Can.f
  simp only [h1, h2, h3, h4, h5, h6, if_false, if_true, rd_nth]
  by_cases c : nth l d = (q : Int)
  · refine Ev.step (fun k => ?_) (Ev.now _)
    have : canB l d (q : Int) = false := by unfold canB; rw [decide_eq_false (fun h => h c.symm)]; simp
    rw [bibelotref03_Can.j0, if_pos (beq_iff_eq.2 c), this]
  · refine Ev.step (fun k => ?_) (can_loop l d q hd hl (fun h => c h.symm) d 0 (by omega) (fun j hj => by omega))
    rw [bibelotref03_Can.j0, if_neg (by rw [beq_iff_eq]; exact c)]
    rfl

def mkS (m : Nat × Nat) : S52 := ⟨(m.1 : Int), (m.2 : Int)⟩
/-- Disc d's moves to the first q pegs. -/
def mvq (l : List Int) (d q : Nat) : List (Nat × Nat) := if cov l d (nth l d) = true then [] else movesTo l d q
theorem mvq_zero (l : List Int) (d : Nat) : mvq l d 0 = [] := by
  unfold mvq
  split
  · rfl
  · exact movesTo_zero l d
theorem mvq_succ (l : List Int) (d q : Nat) : mvq l d (q + 1) = if canB l d (q : Int) = true then mvq l d q ++ [(d, q)] else mvq l d q := by
  unfold mvq canB
  rw [movesTo_succ]
  by_cases h1 : cov l d (nth l d) = true
  · simp [h1]
  · have h1' : cov l d (nth l d) = false := by simpa using h1
    by_cases h2 : cov l d (q : Int) = true
    · simp [h1', h2]
    · have h2' : cov l d (q : Int) = false := by simpa using h2
      by_cases h3 : (q : Int) = nth l d <;> simp [h1', h2', h3]
theorem mvq_len (l : List Int) (d q : Nat) : (mvq l d q).length ≤ q := by
  induction q with
  | zero => rw [mvq_zero]; simp
  | succ q ih =>
    rw [mvq_succ]
    split
    · rw [List.length_append]; simp; omega
    · omega
theorem movesIn_len (l : List Int) (P n : Nat) : (movesIn l P n).length ≤ n * P := by
  induction n with
  | zero => simp [movesIn]
  | succ n ih =>
    have h1 : movesAt l P n = mvq l n P := rfl
    have h2 := mvq_len l n P
    rw [movesIn_succ, List.length_append, h1, Nat.add_mul]
    omega
mutual
theorem rmoves_l0 (l : List Int) (P : Nat) (hl : l.length ≤ 1000) (hP : P ≤ 1000) (e d : Nat) (h : d + e = l.length) : Ev (fun k => bibelotref03_Moves.l0 k l (P : Int) ((movesIn l P d).map mkS) (d : Int)) ((movesL l P).map mkS) := by
  match e with
  | 0 =>
    obtain rfl : d = l.length := by omega
    refine Ev.step (fun k => ?_) (Ev.now _)
    rw [bibelotref03_Moves.l0, if_neg (by omega)]
    rfl
  | e + 1 =>
    refine Ev.step (fun k => ?_) (rmoves_l1 l P hl hP e d h P 0 (by omega))
    rw [bibelotref03_Moves.l0, if_pos (by omega), mvq_zero, List.append_nil]
    rfl
termination_by (e, 0)
theorem rmoves_l1 (l : List Int) (P : Nat) (hl : l.length ≤ 1000) (hP : P ≤ 1000) (e d : Nat) (h : d + (e + 1) = l.length) (f q : Nat) (hq : q + f = P) : Ev (fun k => bibelotref03_Moves.l1 k l (P : Int) ((movesIn l P d ++ mvq l d q).map mkS) (d : Int) (q : Int)) ((movesL l P).map mkS) := by
  match f with
  | 0 =>
    obtain rfl : q = P := by omega
    refine Ev.step (fun k => ?_) (rmoves_l0 l q hl hP e (d + 1) (by omega))
    rw [bibelotref03_Moves.l1, if_neg (by omega), w64 (by omega) (by omega), movesIn_succ]
    rfl
  | f + 1 =>
    have hlen : ((movesIn l P d ++ mvq l d q).map mkS).length ≤ 1001000 := by
      have h1 := movesIn_len l P d
      have h2 := mvq_len l d q
      have h3 : d * P ≤ 1000 * 1000 := Nat.mul_le_mul (by omega) hP
      rw [List.length_map, List.length_append]
      omega
    have ih := rmoves_l1 l P hl hP e d h f (q + 1) (by omega)
    rw [mvq_succ] at ih
    refine Ev.step (f := fun k => (bibelotref03_Can.f k l (d : Int) (q : Int) (P : Int)).bind fun t => if t = true then bibelotref03_Moves.l1 k l (P : Int) ((movesIn l P d ++ (mvq l d q ++ [(d, q)])).map mkS) (d : Int) ((q + 1 : Nat) : Int) else bibelotref03_Moves.l1 k l (P : Int) ((movesIn l P d ++ mvq l d q).map mkS) (d : Int) ((q + 1 : Nat) : Int)) (fun k => ?_)
      (Ev.bind (can_ev l d q P (by omega) hl (by omega)) ?_)
    · rw [bibelotref03_Moves.l1, if_pos (by omega), w64 (by omega) (by omega)]
      congr 1
      funext t
      have e1 : (movesIn l P d ++ mvq l d q).map mkS ++ [(⟨(d : Int), (q : Int)⟩ : S52)] = (movesIn l P d ++ (mvq l d q ++ [(d, q)])).map mkS := by
        rw [← List.append_assoc, List.map_append (l₂ := [(d, q)])]
        rfl
      rw [if_pos (show ((movesIn l P d ++ mvq l d q).map mkS).length < 8796093022208 by omega), e1]
      rfl
    · by_cases c : canB l d (q : Int) = true
      · rw [if_pos c] at ih
        simp only [c, if_true]
        exact ih
      · rw [if_neg c] at ih
        simp only [c, if_false, Bool.false_eq_true]
        exact ih
termination_by (e, f + 1)
end
theorem rmoves_ev (l : List Int) (P : Nat) (hl : l.length ≤ 1000) (hP : P ≤ 1000) : Ev (fun k => bibelotref03_Moves.f k l (P : Int)) ((movesL l P).map mkS) := by
  have := rmoves_l0 l P hl hP l.length 0 (by omega)
  exact this
end Go.Proofs.YtnaaomhmoamfpaaDoor.G
