/- HanoiTotals: the sum of the distances of all pairs, or ErrArg: the walk and the plain law, for every input. -/
import Derived.Test.YtnaaomhmoamfpaaDoorA1
import Derived.Test.YtnaaomhmoamfpaaDoorA4
import Derived.Test.YtnaaomhmoamfpaaDoorA3
namespace Go.Proofs.YtnaaomhmoamfpaaDoor.G
end Go.Proofs.YtnaaomhmoamfpaaDoor.G
namespace Go.Proofs.YtnaaomhmoamfpaaDoor.Q
set_option linter.unusedVariables false
set_option linter.unusedSimpArgs false
set_option linter.unusedSectionVars false
open Go.Proofs.YtnaaomhmoamfpaaDoor.G
open Go.RowKit Go.Proofs.YtnaaomhmoamfpaaDoorW.PrintWords Go.Proofs.YtnaaomhmoamfpaaDoorW.PrintLast Go.Proofs.YtnaaomhmoamfpaaDoorW.PrintMore
attribute [local go_sem] max2_int min2_int max_two min_two max_three min_three max_four min_four   -- for this text's walks alone

/-! ### bibelotref03_Total: function 24 -/
mutual
def bibelotref03_Total.l0 : Nat → Int → Int → Int → List (List Int) → Int → Option (Int)
  | 0, _, _, _, _, _ => none
  | k + 1, x0, x3, x4, x5, x6 => if x6 < x4 then ((bibelotref03_Decoded.f k x0 x6 3).bind fun t109 => (if x5.length < 5864062014805 then (bibelotref03_Total.l0 k x0 x3 x4 (x5 ++ [t109]) (wrap64 (x6 + 1))) else (none))) else (bibelotref03_Total.l1 k x3 x4 x5 0)
def bibelotref03_Total.l1 : Nat → Int → Int → List (List Int) → Int → Option (Int)
  | 0, _, _, _, _ => none
  | k + 1, x3, x4, x5, x7 => if x7 < x4 then (bibelotref03_Total.l2 k x3 x4 x5 x7 0) else (some x3)
def bibelotref03_Total.l2 : Nat → Int → Int → List (List Int) → Int → Int → Option (Int)
  | 0, _, _, _, _, _ => none
  | k + 1, x3, x4, x5, x7, x8 => if x8 < x7 then (if 0 ≤ x7 then (if x7 < (x5.length : Int) then (if 0 ≤ x8 then (if x8 < (x5.length : Int) then ((bibelotref03_Distance.f (rd_L1 x5 x7) (rd_L1 x5 x8)).bind fun t117 => (bibelotref03_Total.l2 k (wrap64 (x3 + (wrap64 (2 * t117)))) x4 x5 x7 (wrap64 (x8 + 1)))) else (none)) else (none)) else (none)) else (none)) else (bibelotref03_Total.l1 k x3 x4 x5 (wrap64 (x7 + 1)))
end
def bibelotref03_Total.f (k : Nat) (a0 : Int) : Option (Int) := (bibelotref03_power.f k 3 a0).bind fun t108 => (bibelotref03_Total.l0 k a0 0 t108 ([] : List (List Int)) 0)
theorem bibelotref03_Total.mono_l : ∀ k, (∀ y0 y1 y2 y3 y4, LeO (bibelotref03_Total.l0 k y0 y1 y2 y3 y4) (bibelotref03_Total.l0 (k + 1) y0 y1 y2 y3 y4)) ∧ (∀ y0 y1 y2 y3, LeO (bibelotref03_Total.l1 k y0 y1 y2 y3) (bibelotref03_Total.l1 (k + 1) y0 y1 y2 y3)) ∧ (∀ y0 y1 y2 y3 y4, LeO (bibelotref03_Total.l2 k y0 y1 y2 y3 y4) (bibelotref03_Total.l2 (k + 1) y0 y1 y2 y3 y4))
  | 0 => ⟨fun _ _ _ _ _ r h => by simp [bibelotref03_Total.l0] at h, fun _ _ _ _ r h => by simp [bibelotref03_Total.l1] at h, fun _ _ _ _ _ r h => by simp [bibelotref03_Total.l2] at h⟩
  | k + 1 => by
    obtain ⟨ih0, ih1, ih2⟩ := bibelotref03_Total.mono_l k
    refine ⟨?_, ?_, ?_⟩
    · intro y0 y1 y2 y3 y4
      unfold bibelotref03_Total.l0
      repeat' first
      | (with_reducible exact ih0 _ _ _ _ _)
      | (with_reducible exact ih1 _ _ _ _)
      | (with_reducible exact ih2 _ _ _ _ _)
      | (with_reducible exact bibelotref03_Decoded.mono _ _ _ _)
      | (with_reducible exact bibelotref03_power.mono _ _ _)
      | (with_reducible exact LeO.refl _)
      | (with_reducible exact LeO.none _)
      | (with_reducible refine LeO.ite ?_ ?_)
      | (with_reducible refine LeO.bind ?_ (fun _ => ?_))
      | exact ih0 _ _ _ _ _
      | exact ih1 _ _ _ _
      | exact ih2 _ _ _ _ _
      | exact bibelotref03_Decoded.mono _ _ _ _
      | exact bibelotref03_power.mono _ _ _
      | exact LeO.none _
      | refine LeO.ite ?_ ?_
      | refine LeO.bind ?_ (fun _ => ?_)
    · intro y0 y1 y2 y3
      unfold bibelotref03_Total.l1
      repeat' first
      | (with_reducible exact ih0 _ _ _ _ _)
      | (with_reducible exact ih1 _ _ _ _)
      | (with_reducible exact ih2 _ _ _ _ _)
      | (with_reducible exact bibelotref03_Decoded.mono _ _ _ _)
      | (with_reducible exact bibelotref03_power.mono _ _ _)
      | (with_reducible exact LeO.refl _)
      | (with_reducible exact LeO.none _)
      | (with_reducible refine LeO.ite ?_ ?_)
      | (with_reducible refine LeO.bind ?_ (fun _ => ?_))
      | exact ih0 _ _ _ _ _
      | exact ih1 _ _ _ _
      | exact ih2 _ _ _ _ _
      | exact bibelotref03_Decoded.mono _ _ _ _
      | exact bibelotref03_power.mono _ _ _
      | exact LeO.none _
      | refine LeO.ite ?_ ?_
      | refine LeO.bind ?_ (fun _ => ?_)
    · intro y0 y1 y2 y3 y4
      unfold bibelotref03_Total.l2
      repeat' first
      | (with_reducible exact ih0 _ _ _ _ _)
      | (with_reducible exact ih1 _ _ _ _)
      | (with_reducible exact ih2 _ _ _ _ _)
      | (with_reducible exact bibelotref03_Decoded.mono _ _ _ _)
      | (with_reducible exact bibelotref03_power.mono _ _ _)
      | (with_reducible exact LeO.refl _)
      | (with_reducible exact LeO.none _)
      | (with_reducible refine LeO.ite ?_ ?_)
      | (with_reducible refine LeO.bind ?_ (fun _ => ?_))
      | exact ih0 _ _ _ _ _
      | exact ih1 _ _ _ _
      | exact ih2 _ _ _ _ _
      | exact bibelotref03_Decoded.mono _ _ _ _
      | exact bibelotref03_power.mono _ _ _
      | exact LeO.none _
      | refine LeO.ite ?_ ?_
      | refine LeO.bind ?_ (fun _ => ?_)
theorem bibelotref03_Total.mono : ∀ a0 k, LeO (bibelotref03_Total.f k a0) (bibelotref03_Total.f (k + 1) a0) := by
  intro a0 k
  obtain ⟨ih0, ih1, ih2⟩ := bibelotref03_Total.mono_l k
  unfold bibelotref03_Total.f
  repeat' first
      | (with_reducible exact ih0 _ _ _ _ _)
      | (with_reducible exact ih1 _ _ _ _)
      | (with_reducible exact ih2 _ _ _ _ _)
      | (with_reducible exact bibelotref03_Decoded.mono _ _ _ _)
      | (with_reducible exact bibelotref03_power.mono _ _ _)
      | (with_reducible exact LeO.refl _)
      | (with_reducible exact LeO.none _)
      | (with_reducible refine LeO.ite ?_ ?_)
      | (with_reducible refine LeO.bind ?_ (fun _ => ?_))
      | exact ih0 _ _ _ _ _
      | exact ih1 _ _ _ _
      | exact ih2 _ _ _ _ _
      | exact bibelotref03_Decoded.mono _ _ _ _
      | exact bibelotref03_power.mono _ _ _
      | exact LeO.none _
      | refine LeO.ite ?_ ?_
      | refine LeO.bind ?_ (fun _ => ?_)
set_option maxHeartbeats 8000000 in
set_option maxRecDepth 100000 in
theorem bibelotref03_Total.calls (k : Nat) (a0 : Int) (r : Int) (w : World) (h : bibelotref03_Total.f k a0 = some r) :
    Calls Tryd.prog 24 #[.int .i64 a0] w fun e w' => e = .returned (.int .i64 r) ∧ Below w.heap.size w w' := by
  have HB := Aside0.mk (Below.refl w.heap.size w)
  have H : ((bibelotref03_power.f k 3 a0).bind fun t108 => (bibelotref03_Total.l0 k a0 0 t108 ([] : List (List Int)) 0)) = some r := h
  clear h
  replace H := Option.bind_eq_some_iff.mp H
  obtain ⟨t108, A20, H⟩ := H
  replace H : (bibelotref03_Total.l0 k a0 0 t108 ([] : List (List Int)) 0) = some r := H
  have A2 := Aside0.mk A20
  clear A20
  have H' := Aside0.mk H
  clear H
  go_enter Tryd.func24, Tryd.ntmps24
  go_wp2_with (first | (go_at_call 64; (with_reducible refine (bibelotref03_power.calls k 3 a0 t108 _ A2.out).mono ?_); rintro e w' ⟨rfl, ⟨nd, rfl⟩⟩; (try first | exact ⟨rfl, _, World.drewN_drewN _ _ _⟩ | exact ⟨rfl, _, Eq.trans (World.drewN_drewN _ _ _) (congrArg (World.drewN _) (Nat.add_assoc _ _ _))⟩)))
  repeat (go_quiet (first | (go_at_call 64; (with_reducible refine (bibelotref03_power.calls k 3 a0 t108 _ A2.out).mono ?_); rintro e w' ⟨rfl, ⟨nd, rfl⟩⟩; (try first | exact ⟨rfl, _, World.drewN_drewN _ _ _⟩ | exact ⟨rfl, _, Eq.trans (World.drewN_drewN _ _ _) (congrArg (World.drewN _) (Nat.add_assoc _ _ _))⟩))); try go_wp2_with (first | (go_at_call 64; (with_reducible refine (bibelotref03_power.calls k 3 a0 t108 _ A2.out).mono ?_); rintro e w' ⟨rfl, ⟨nd, rfl⟩⟩; (try first | exact ⟨rfl, _, World.drewN_drewN _ _ _⟩ | exact ⟨rfl, _, Eq.trans (World.drewN_drewN _ _ _) (congrArg (World.drewN _) (Nat.add_assoc _ _ _))⟩))))
  go_loopg [5, 6] k (fun kq v5 v6 w' => ∃ (x5_1 : List (List Int)) (x6_1 : Int), v6 = .int .i64 x6_1 ∧ Aside0 (bibelotref03_Total.l0 kq a0 0 t108 x5_1 x6_1 = some r) ∧ Aside0 (kq ≤ k) ∧ Aside0 (Kd.S (Kd.slice 3 (Kd.int .i64)) 46 w' w.heap.size (fun _ => True) v5 x5_1) ∧ Aside0 (Below w.heap.size w w'))
  case atStart => exact ⟨(([] : List (List Int))), (0), (by first | rfl | (simp; done) | (simp [*]; done)), H', ⟨Nat.le_refl _⟩, ⟨by first | exact Kd.S_nil _ _ _ _ _ | exact Kd.N_nil _ _ _ _ _ | exact Kd.V_nil _ _ _ _ _ | exact Kd.Q_nil _ _ _ _ _ | exact Kd.R_nil _ _ _ _ _⟩, ⟨by repeat (first | (with_reducible first | exact HB.out | apply below_alloc | apply pw_below_drewN | apply below_drew1) | exact HB.out)⟩⟩
  case round =>
    clear H'
    try clear c2
    try clear p2
    obtain ⟨x5_1, x6_1, rfl, HA, HK1, HO_5, HB⟩ := hrel
    cases gk with
    | zero => exact absurd HA.out (by simp [bibelotref03_Total.l0])
    | succ k1 =>
      have H := HA.out
      clear HA
      simp only [bibelotref03_Total.l0] at H
      by_cases c3 : x6_1 < t108
      · rw [if_pos c3] at H
        have c3b0 : decide (x6_1 < t108) = true := decide_eq_true c3
        clear c3
        replace H := Option.bind_eq_some_iff.mp H
        obtain ⟨t109, A40, H⟩ := H
        replace H : (if x5_1.length < 5864062014805 then (bibelotref03_Total.l0 k1 a0 0 t108 (x5_1 ++ [t109]) (wrap64 (x6_1 + 1))) else (none)) = some r := H
        have A4 := Aside0.mk A40
        clear A40
        by_cases c5 : x5_1.length < 5864062014805
        · rw [if_pos c5] at H
          have LMc5 := Aside0.mk c5
          clear c5
          obtain ⟨y112, hy112⟩ : ∃ y_ : List (List Int), y_ = (x5_1 ++ [t109]) := ⟨_, rfl⟩
          replace H : (bibelotref03_Total.l0 k1 a0 0 t108 y112 (wrap64 (x6_1 + 1))) = some r := by first | (rw [hy112]; with_reducible exact H) | (have H2_ := (Option.bind_some _ _).symm.trans H; rw [hy112]; with_reducible exact H2_) | (have H2_ := (Option.bind_some _ _).symm.trans H; with_reducible exact H2_) | with_reducible exact H | (rw [hy112]; exact H) | exact H
          have Ny112 := Aside0.mk hy112
          clear hy112
          have H' := Aside0.mk H
          clear H
          go_wp2_with (first | (go_at_call 46; (with_reducible refine (bibelotref03_Decoded.calls k1 a0 x6_1 3 t109 _ A4.out).mono ?_); rintro e w6 ⟨v110, rfl, ho0, hb⟩; have n0_ := Aside0.mk (Kd.S_elder' (by (with_reducible repeat (first | apply Kd.S_alloc | apply Kd.S_drewN | apply Kd.S_drew)); exact HO_5.out) (Kd.R_base ho0) hb); have n1_ := Aside0.mk (Kd.R_lower ho0 (below_size (by repeat (first | (with_reducible first | exact HB.out | apply below_alloc | apply pw_below_drewN | apply below_drew1) | exact HB.out)))); have n2_ := Aside0.mk (below_step (by repeat (first | (with_reducible first | exact HB.out | apply below_alloc | apply pw_below_drewN | apply below_drew1) | exact HB.out)) hb); clear HO_5; clear HB; have HO_5 := n0_; have HO111 := n1_; have HB := n2_; clear n0_ n1_ n2_; (try clear hb); (try clear hb2); (try clear hk); (try clear hi); (try clear ho0); obtain ⟨Ao8, co8, eo8⟩ := Kd.R_slice HO111.out; subst eo8) | ((with_reducible refine gate_builtin (b := .append) (xs := #[.tmp 16, .tmp 20]) rfl ?_); at_builtin; refine Kd.S_append (Kd.slice 3 (Kd.int .i64)) (w0 := w) w.heap.size rfl (.tmp 16) (.tmp 20) 91 46 (.slice none 0 0) 24 rfl Tryd.underlying91 info46 rfl (by decide) (by omega) u5 x5_1 t109 [.slice Ao8 t109.length co8] (fun _ => True) (fun k_ => some k_ = (.slice Ao8 t109.length co8 : Value).ownBlock) rfl rfl ?aP (fun k_ hk_ => ((Kd.R_mono (ok' := fun k_ => ((fun _ => True)) k_ ∧ some k_ ≠ (u5 : Value).ownBlock) (Kd.R_apart' (HO111.out) (Kd.S_typed HO_5.out) (by decide)) (fun k_ hk => ⟨trivial, hk.2⟩))).1 k_ hk_.symm) ?aF ?aO ?aB ?aS ?aL ?_; (case aP => exact Kd.M_row (Kd.R_mono (Kd.R_tight rfl (Kd.R_mono (ok' := fun k_ => ((fun _ => True)) k_ ∧ some k_ ≠ (u5 : Value).ownBlock) (Kd.R_apart' (HO111.out) (Kd.S_typed HO_5.out) (by decide)) (fun k_ hk => ⟨trivial, hk.2⟩))) (fun _ h_ => h_))); (case aB => exact (by repeat (first | (with_reducible first | exact HB.out | apply below_alloc | apply pw_below_drewN | apply below_drew1) | exact HB.out))); (case aF => exact (fun _ _ => trivial)); (case aO => exact (by (with_reducible repeat (first | apply Kd.S_alloc | apply Kd.S_drewN | apply Kd.S_drew)); exact Kd.S_mono HO_5.out (fun k_ hk => ⟨trivial, fun e_ => hk.2 e_⟩))); (case aS => exact (below_size (by repeat (first | (with_reducible first | exact HB.out | apply below_alloc | apply pw_below_drewN | apply below_drew1) | exact HB.out)))); (case aL => have := LMc5.out; omega); intro v113 w7 ho hb hg hat; rw [← Ny112.out] at ho; have n0_ := Aside0.mk (hb); have n1_ := Aside0.mk (ho); clear HB; clear HO_5; clear HO111; have HB := n0_; have HO114 := n1_; clear n0_ n1_; clear ho hb hg hat))
          repeat (go_quiet (first | (go_at_call 46; (with_reducible refine (bibelotref03_Decoded.calls k1 a0 x6_1 3 t109 _ A4.out).mono ?_); rintro e w6 ⟨v110, rfl, ho0, hb⟩; have n0_ := Aside0.mk (Kd.S_elder' (by (with_reducible repeat (first | apply Kd.S_alloc | apply Kd.S_drewN | apply Kd.S_drew)); exact HO_5.out) (Kd.R_base ho0) hb); have n1_ := Aside0.mk (Kd.R_lower ho0 (below_size (by repeat (first | (with_reducible first | exact HB.out | apply below_alloc | apply pw_below_drewN | apply below_drew1) | exact HB.out)))); have n2_ := Aside0.mk (below_step (by repeat (first | (with_reducible first | exact HB.out | apply below_alloc | apply pw_below_drewN | apply below_drew1) | exact HB.out)) hb); clear HO_5; clear HB; have HO_5 := n0_; have HO111 := n1_; have HB := n2_; clear n0_ n1_ n2_; (try clear hb); (try clear hb2); (try clear hk); (try clear hi); (try clear ho0); obtain ⟨Ao8, co8, eo8⟩ := Kd.R_slice HO111.out; subst eo8) | ((with_reducible refine gate_builtin (b := .append) (xs := #[.tmp 16, .tmp 20]) rfl ?_); at_builtin; refine Kd.S_append (Kd.slice 3 (Kd.int .i64)) (w0 := w) w.heap.size rfl (.tmp 16) (.tmp 20) 91 46 (.slice none 0 0) 24 rfl Tryd.underlying91 info46 rfl (by decide) (by omega) u5 x5_1 t109 [.slice Ao8 t109.length co8] (fun _ => True) (fun k_ => some k_ = (.slice Ao8 t109.length co8 : Value).ownBlock) rfl rfl ?aP (fun k_ hk_ => ((Kd.R_mono (ok' := fun k_ => ((fun _ => True)) k_ ∧ some k_ ≠ (u5 : Value).ownBlock) (Kd.R_apart' (HO111.out) (Kd.S_typed HO_5.out) (by decide)) (fun k_ hk => ⟨trivial, hk.2⟩))).1 k_ hk_.symm) ?aF ?aO ?aB ?aS ?aL ?_; (case aP => exact Kd.M_row (Kd.R_mono (Kd.R_tight rfl (Kd.R_mono (ok' := fun k_ => ((fun _ => True)) k_ ∧ some k_ ≠ (u5 : Value).ownBlock) (Kd.R_apart' (HO111.out) (Kd.S_typed HO_5.out) (by decide)) (fun k_ hk => ⟨trivial, hk.2⟩))) (fun _ h_ => h_))); (case aB => exact (by repeat (first | (with_reducible first | exact HB.out | apply below_alloc | apply pw_below_drewN | apply below_drew1) | exact HB.out))); (case aF => exact (fun _ _ => trivial)); (case aO => exact (by (with_reducible repeat (first | apply Kd.S_alloc | apply Kd.S_drewN | apply Kd.S_drew)); exact Kd.S_mono HO_5.out (fun k_ hk => ⟨trivial, fun e_ => hk.2 e_⟩))); (case aS => exact (below_size (by repeat (first | (with_reducible first | exact HB.out | apply below_alloc | apply pw_below_drewN | apply below_drew1) | exact HB.out)))); (case aL => have := LMc5.out; omega); intro v113 w7 ho hb hg hat; rw [← Ny112.out] at ho; have n0_ := Aside0.mk (hb); have n1_ := Aside0.mk (ho); clear HB; clear HO_5; clear HO111; have HB := n0_; have HO114 := n1_; clear n0_ n1_; clear ho hb hg hat)); try go_wp2_with (first | (go_at_call 46; (with_reducible refine (bibelotref03_Decoded.calls k1 a0 x6_1 3 t109 _ A4.out).mono ?_); rintro e w6 ⟨v110, rfl, ho0, hb⟩; have n0_ := Aside0.mk (Kd.S_elder' (by (with_reducible repeat (first | apply Kd.S_alloc | apply Kd.S_drewN | apply Kd.S_drew)); exact HO_5.out) (Kd.R_base ho0) hb); have n1_ := Aside0.mk (Kd.R_lower ho0 (below_size (by repeat (first | (with_reducible first | exact HB.out | apply below_alloc | apply pw_below_drewN | apply below_drew1) | exact HB.out)))); have n2_ := Aside0.mk (below_step (by repeat (first | (with_reducible first | exact HB.out | apply below_alloc | apply pw_below_drewN | apply below_drew1) | exact HB.out)) hb); clear HO_5; clear HB; have HO_5 := n0_; have HO111 := n1_; have HB := n2_; clear n0_ n1_ n2_; (try clear hb); (try clear hb2); (try clear hk); (try clear hi); (try clear ho0); obtain ⟨Ao8, co8, eo8⟩ := Kd.R_slice HO111.out; subst eo8) | ((with_reducible refine gate_builtin (b := .append) (xs := #[.tmp 16, .tmp 20]) rfl ?_); at_builtin; refine Kd.S_append (Kd.slice 3 (Kd.int .i64)) (w0 := w) w.heap.size rfl (.tmp 16) (.tmp 20) 91 46 (.slice none 0 0) 24 rfl Tryd.underlying91 info46 rfl (by decide) (by omega) u5 x5_1 t109 [.slice Ao8 t109.length co8] (fun _ => True) (fun k_ => some k_ = (.slice Ao8 t109.length co8 : Value).ownBlock) rfl rfl ?aP (fun k_ hk_ => ((Kd.R_mono (ok' := fun k_ => ((fun _ => True)) k_ ∧ some k_ ≠ (u5 : Value).ownBlock) (Kd.R_apart' (HO111.out) (Kd.S_typed HO_5.out) (by decide)) (fun k_ hk => ⟨trivial, hk.2⟩))).1 k_ hk_.symm) ?aF ?aO ?aB ?aS ?aL ?_; (case aP => exact Kd.M_row (Kd.R_mono (Kd.R_tight rfl (Kd.R_mono (ok' := fun k_ => ((fun _ => True)) k_ ∧ some k_ ≠ (u5 : Value).ownBlock) (Kd.R_apart' (HO111.out) (Kd.S_typed HO_5.out) (by decide)) (fun k_ hk => ⟨trivial, hk.2⟩))) (fun _ h_ => h_))); (case aB => exact (by repeat (first | (with_reducible first | exact HB.out | apply below_alloc | apply pw_below_drewN | apply below_drew1) | exact HB.out))); (case aF => exact (fun _ _ => trivial)); (case aO => exact (by (with_reducible repeat (first | apply Kd.S_alloc | apply Kd.S_drewN | apply Kd.S_drew)); exact Kd.S_mono HO_5.out (fun k_ hk => ⟨trivial, fun e_ => hk.2 e_⟩))); (case aS => exact (below_size (by repeat (first | (with_reducible first | exact HB.out | apply below_alloc | apply pw_below_drewN | apply below_drew1) | exact HB.out)))); (case aL => have := LMc5.out; omega); intro v113 w7 ho hb hg hat; rw [← Ny112.out] at ho; have n0_ := Aside0.mk (hb); have n1_ := Aside0.mk (ho); clear HB; clear HO_5; clear HO111; have HB := n0_; have HO114 := n1_; clear n0_ n1_; clear ho hb hg hat)))
          go_roundg k1
          case measure => have := HK1.out; omega
          case rel => exact ⟨(y112), (wrap64 (x6_1 + 1)), (by first | rfl | (simp; done) | (simp [*]; done)), H', ⟨by have := HK1.out; omega⟩, ⟨by (with_reducible repeat (first | apply Kd.S_alloc | apply Kd.S_drewN | apply Kd.S_drew)); exact HO114.out⟩, ⟨by repeat (first | (with_reducible first | exact HB.out | apply below_alloc | apply pw_below_drewN | apply below_drew1) | exact HB.out)⟩⟩
        · rw [if_neg c5] at H
          exact absurd H (by simp)
      · rw [if_neg c3] at H
        have c3b0 : decide (x6_1 < t108) = false := decide_eq_false c3
        clear c3
        have H' := Aside0.mk H
        clear H
        go_wp2
        repeat (go_quiet (fail); try go_wp2)
        go_loopg [3, 7] k1 (fun kq v3 v7 w' => ∃ (x3_2 : Int) (x7_2 : Int), v3 = .int .i64 x3_2 ∧ v7 = .int .i64 x7_2 ∧ Aside0 (bibelotref03_Total.l1 kq x3_2 t108 x5_1 x7_2 = some r) ∧ Aside0 (kq ≤ k1) ∧ Aside0 (Kd.S (Kd.slice 3 (Kd.int .i64)) 46 w' w.heap.size (fun _ => True) u5 x5_1) ∧ Aside0 (Below w.heap.size w w'))
        case atStart => exact ⟨(0), (0), (by first | rfl | (simp; done) | (simp [*]; done)), (by first | rfl | (simp; done) | (simp [*]; done)), H', ⟨Nat.le_refl _⟩, ⟨by (with_reducible repeat (first | apply Kd.S_alloc | apply Kd.S_drewN | apply Kd.S_drew)); exact HO_5.out⟩, ⟨by repeat (first | (with_reducible first | exact HB.out | apply below_alloc | apply pw_below_drewN | apply below_drew1) | exact HB.out)⟩⟩
        case round =>
          clear H'
          try clear c2
          try clear p2
          try clear c3
          try clear c3b0
          try clear c5
          try clear p6
          try clear p2
          obtain ⟨x3_2, x7_2, rfl, rfl, HA, HK2, HO_5, HB⟩ := hrel
          cases gk with
          | zero => exact absurd HA.out (by simp [bibelotref03_Total.l1])
          | succ k2 =>
            have H := HA.out
            clear HA
            simp only [bibelotref03_Total.l1] at H
            by_cases c9 : x7_2 < t108
            · rw [if_pos c9] at H
              have c9b0 : decide (x7_2 < t108) = true := decide_eq_true c9
              clear c9
              have H' := Aside0.mk H
              clear H
              go_wp2
              repeat (go_quiet (fail); try go_wp2)
              go_loopg [3, 8] k2 (fun kq v3 v8 w' => ∃ (x3_3 : Int) (x8_3 : Int), v3 = .int .i64 x3_3 ∧ v8 = .int .i64 x8_3 ∧ Aside0 (bibelotref03_Total.l2 kq x3_3 t108 x5_1 x7_2 x8_3 = some r) ∧ Aside0 (kq ≤ k2) ∧ Aside0 (Kd.S (Kd.slice 3 (Kd.int .i64)) 46 w' w.heap.size (fun _ => True) u5 x5_1) ∧ Aside0 (Below w.heap.size w w'))
              case atStart => exact ⟨(x3_2), (0), (by first | rfl | (simp; done) | (simp [*]; done)), (by first | rfl | (simp; done) | (simp [*]; done)), H', ⟨Nat.le_refl _⟩, ⟨by (with_reducible repeat (first | apply Kd.S_alloc | apply Kd.S_drewN | apply Kd.S_drew)); exact HO_5.out⟩, ⟨by repeat (first | (with_reducible first | exact HB.out | apply below_alloc | apply pw_below_drewN | apply below_drew1) | exact HB.out)⟩⟩
              case round =>
                clear H'
                try clear c2
                try clear p2
                try clear c3
                try clear c3b0
                try clear c5
                try clear p6
                try clear c9
                try clear c9b0
                try clear p2
                try clear p6
                obtain ⟨x3_3, x8_3, rfl, rfl, HA, HK3, HO_5, HB⟩ := hrel
                cases gk with
                | zero => exact absurd HA.out (by simp [bibelotref03_Total.l2])
                | succ k3 =>
                  have H := HA.out
                  clear HA
                  simp only [bibelotref03_Total.l2] at H
                  by_cases c10 : x8_3 < x7_2
                  · rw [if_pos c10] at H
                    have c10b0 : decide (x8_3 < x7_2) = true := decide_eq_true c10
                    clear c10
                    by_cases c11 : 0 ≤ x7_2
                    · rw [if_pos c11] at H
                      have c11b0 : decide (0 ≤ x7_2) = true := decide_eq_true c11
                      clear c11
                      by_cases c12 : x7_2 < (x5_1.length : Int)
                      · rw [if_pos c12] at H
                        have c12b0 : decide (x7_2 < (x5_1.length : Int)) = true := decide_eq_true c12
                        clear c12
                        by_cases c13 : 0 ≤ x8_3
                        · rw [if_pos c13] at H
                          have c13b0 : decide (0 ≤ x8_3) = true := decide_eq_true c13
                          clear c13
                          by_cases c14 : x8_3 < (x5_1.length : Int)
                          · rw [if_pos c14] at H
                            have c14b0 : decide (x8_3 < (x5_1.length : Int)) = true := decide_eq_true c14
                            clear c14
                            replace H := Option.bind_eq_some_iff.mp H
                            obtain ⟨t117, A150, H⟩ := H
                            replace H : (bibelotref03_Total.l2 k3 (wrap64 (x3_3 + (wrap64 (2 * t117)))) t108 x5_1 x7_2 (wrap64 (x8_3 + 1))) = some r := H
                            have A15 := Aside0.mk A150
                            clear A150
                            have H' := Aside0.mk H
                            clear H
                            obtain ⟨Ao16, co16, eo16⟩ := Kd.S_slice HO_5.out
                            subst eo16
                            have p115 : 0 ≤ (x7_2 : Int) := of_decide_eq_true (by first | (with_reducible assumption) | assumption)
                            have q115 : x7_2 < (x5_1.length : Int) := of_decide_eq_true (by first | (with_reducible assumption) | assumption)
                            obtain ⟨ad115, A115_0, c115_0, e115, hx115_0, hl115_0, hi115_0⟩ := at_L1 (Kd.S_reads' HO_5.out).2.2 x7_2 p115 q115
                            cases e115
                            obtain ⟨ce115, hce115, hMe115, hcc115⟩ := Kd.S_get HO_5.out [] x7_2 p115 (by first | exact q115 | exact of_decide_eq_true (by first | (with_reducible assumption) | assumption) | (have e_ := (Kd.S_reads' HO_5.out).1; omega))
                            obtain ⟨ve115_0, rfl, ge115_0⟩ := hMe115
                            have hv115_0 := hcc115 0 _ rfl
                            rw [Nat.add_zero, show ((Kd.slice 3 (Kd.int .i64))).sz = 1 from rfl, Nat.mul_one] at hv115_0
                            replace hv115_0 := Option.some.inj (hv115_0.symm.trans hx115_0)
                            rw [hv115_0] at ge115_0
                            have HL115_0 := Aside0.mk (show Kd.R (Kd.int .i64) 3 _ _ _ _ (rd_L1 x5_1 x7_2) from ge115_0)
                            clear hv115_0 ge115_0
                            clear hcc115 hce115
                            have HR115_0 := Aside0.mk hi115_0
                            have HC115_0 := Aside0.mk hl115_0
                            clear hi115_0 hl115_0
                            replace p115 := eq_true p115
                            replace q115 := eq_true q115
                            have p116 : 0 ≤ (x8_3 : Int) := of_decide_eq_true (by first | (with_reducible assumption) | assumption)
                            have q116 : x8_3 < (x5_1.length : Int) := of_decide_eq_true (by first | (with_reducible assumption) | assumption)
                            obtain ⟨ad116, A116_0, c116_0, e116, hx116_0, hl116_0, hi116_0⟩ := at_L1 (Kd.S_reads' HO_5.out).2.2 x8_3 p116 q116
                            obtain rfl : ad115 = ad116 := (by injection e116)
                            obtain ⟨ce116, hce116, hMe116, hcc116⟩ := Kd.S_get HO_5.out [] x8_3 p116 (by first | exact q116 | exact of_decide_eq_true (by first | (with_reducible assumption) | assumption) | (have e_ := (Kd.S_reads' HO_5.out).1; omega))
                            obtain ⟨ve116_0, rfl, ge116_0⟩ := hMe116
                            have hv116_0 := hcc116 0 _ rfl
                            rw [Nat.add_zero, show ((Kd.slice 3 (Kd.int .i64))).sz = 1 from rfl, Nat.mul_one] at hv116_0
                            replace hv116_0 := Option.some.inj (hv116_0.symm.trans hx116_0)
                            rw [hv116_0] at ge116_0
                            have HL116_0 := Aside0.mk (show Kd.R (Kd.int .i64) 3 _ _ _ _ (rd_L1 x5_1 x8_3) from ge116_0)
                            clear hv116_0 ge116_0
                            clear hcc116 hce116
                            have HR116_0 := Aside0.mk hi116_0
                            have HC116_0 := Aside0.mk hl116_0
                            clear hi116_0 hl116_0
                            replace p116 := eq_true p116
                            replace q116 := eq_true q116
                            go_wp2_with (first | (go_at_call 48; (with_reducible refine (bibelotref03_Distance.calls _ _ (rd_L1 x5_1 x7_2) _ _ (rd_L1 x5_1 x8_3) t117 _ ?side1 ?side2 ?side3 ?side4 A15.out).mono ?_); (case side1 => repeat (first | exact (by repeat (first | (with_reducible exact HR115_0.out) | (with_reducible refine Kd.C_alloc ?_ _) | (with_reducible refine Kd.C_drewN ?_ _) | (with_reducible refine Kd.C_drew ?_) | exact HR115_0.out)) | (with_reducible refine Kd.C_alloc ?_ _) | (with_reducible refine Kd.C_drewN ?_ _) | (with_reducible refine Kd.C_drew ?_))); (case side2 => exact HC115_0.out); (case side3 => repeat (first | exact (by repeat (first | (with_reducible exact HR116_0.out) | (with_reducible refine Kd.C_alloc ?_ _) | (with_reducible refine Kd.C_drewN ?_ _) | (with_reducible refine Kd.C_drew ?_) | exact HR116_0.out)) | (with_reducible refine Kd.C_alloc ?_ _) | (with_reducible refine Kd.C_drewN ?_ _) | (with_reducible refine Kd.C_drew ?_))); (case side4 => exact HC116_0.out); rintro e w' ⟨rfl, ⟨nd, rfl⟩⟩; (try first | exact ⟨rfl, _, World.drewN_drewN _ _ _⟩ | exact ⟨rfl, _, Eq.trans (World.drewN_drewN _ _ _) (congrArg (World.drewN _) (Nat.add_assoc _ _ _))⟩)))
                            repeat (go_quiet (first | (go_at_call 48; (with_reducible refine (bibelotref03_Distance.calls _ _ (rd_L1 x5_1 x7_2) _ _ (rd_L1 x5_1 x8_3) t117 _ ?side1 ?side2 ?side3 ?side4 A15.out).mono ?_); (case side1 => repeat (first | exact (by repeat (first | (with_reducible exact HR115_0.out) | (with_reducible refine Kd.C_alloc ?_ _) | (with_reducible refine Kd.C_drewN ?_ _) | (with_reducible refine Kd.C_drew ?_) | exact HR115_0.out)) | (with_reducible refine Kd.C_alloc ?_ _) | (with_reducible refine Kd.C_drewN ?_ _) | (with_reducible refine Kd.C_drew ?_))); (case side2 => exact HC115_0.out); (case side3 => repeat (first | exact (by repeat (first | (with_reducible exact HR116_0.out) | (with_reducible refine Kd.C_alloc ?_ _) | (with_reducible refine Kd.C_drewN ?_ _) | (with_reducible refine Kd.C_drew ?_) | exact HR116_0.out)) | (with_reducible refine Kd.C_alloc ?_ _) | (with_reducible refine Kd.C_drewN ?_ _) | (with_reducible refine Kd.C_drew ?_))); (case side4 => exact HC116_0.out); rintro e w' ⟨rfl, ⟨nd, rfl⟩⟩; (try first | exact ⟨rfl, _, World.drewN_drewN _ _ _⟩ | exact ⟨rfl, _, Eq.trans (World.drewN_drewN _ _ _) (congrArg (World.drewN _) (Nat.add_assoc _ _ _))⟩))); try go_wp2_with (first | (go_at_call 48; (with_reducible refine (bibelotref03_Distance.calls _ _ (rd_L1 x5_1 x7_2) _ _ (rd_L1 x5_1 x8_3) t117 _ ?side1 ?side2 ?side3 ?side4 A15.out).mono ?_); (case side1 => repeat (first | exact (by repeat (first | (with_reducible exact HR115_0.out) | (with_reducible refine Kd.C_alloc ?_ _) | (with_reducible refine Kd.C_drewN ?_ _) | (with_reducible refine Kd.C_drew ?_) | exact HR115_0.out)) | (with_reducible refine Kd.C_alloc ?_ _) | (with_reducible refine Kd.C_drewN ?_ _) | (with_reducible refine Kd.C_drew ?_))); (case side2 => exact HC115_0.out); (case side3 => repeat (first | exact (by repeat (first | (with_reducible exact HR116_0.out) | (with_reducible refine Kd.C_alloc ?_ _) | (with_reducible refine Kd.C_drewN ?_ _) | (with_reducible refine Kd.C_drew ?_) | exact HR116_0.out)) | (with_reducible refine Kd.C_alloc ?_ _) | (with_reducible refine Kd.C_drewN ?_ _) | (with_reducible refine Kd.C_drew ?_))); (case side4 => exact HC116_0.out); rintro e w' ⟨rfl, ⟨nd, rfl⟩⟩; (try first | exact ⟨rfl, _, World.drewN_drewN _ _ _⟩ | exact ⟨rfl, _, Eq.trans (World.drewN_drewN _ _ _) (congrArg (World.drewN _) (Nat.add_assoc _ _ _))⟩))))
                            go_roundg k3
                            case measure => have := HK1.out; have := HK2.out; have := HK3.out; omega
                            case rel => exact ⟨(wrap64 (x3_3 + (wrap64 (2 * t117)))), (wrap64 (x8_3 + 1)), (by first | rfl | (simp; done) | (simp [*]; done)), (by first | rfl | (simp; done) | (simp [*]; done)), H', ⟨by have := HK1.out; have := HK2.out; have := HK3.out; omega⟩, ⟨by (with_reducible repeat (first | apply Kd.S_alloc | apply Kd.S_drewN | apply Kd.S_drew)); exact HO_5.out⟩, ⟨by repeat (first | (with_reducible first | exact HB.out | apply below_alloc | apply pw_below_drewN | apply below_drew1) | exact HB.out)⟩⟩
                          · rw [if_neg c14] at H
                            exact absurd H (by simp)
                        · rw [if_neg c13] at H
                          exact absurd H (by simp)
                      · rw [if_neg c12] at H
                        exact absurd H (by simp)
                    · rw [if_neg c11] at H
                      exact absurd H (by simp)
                  · rw [if_neg c10] at H
                    have c10b0 : decide (x8_3 < x7_2) = false := decide_eq_false c10
                    clear c10
                    have H' := Aside0.mk H
                    clear H
                    go_wp2
                    repeat (go_quiet (fail); try go_wp2)
                    go_roundg k3
                    case measure => have := HK1.out; have := HK2.out; have := HK3.out; omega
                    case rel => exact ⟨(x3_3), (wrap64 (x7_2 + 1)), (by first | rfl | (simp; done) | (simp [*]; done)), (by first | rfl | (simp; done) | (simp [*]; done)), H', ⟨by have := HK1.out; have := HK2.out; have := HK3.out; omega⟩, ⟨by (with_reducible repeat (first | apply Kd.S_alloc | apply Kd.S_drewN | apply Kd.S_drew)); exact HO_5.out⟩, ⟨by repeat (first | (with_reducible first | exact HB.out | apply below_alloc | apply pw_below_drewN | apply below_drew1) | exact HB.out)⟩⟩
            · rw [if_neg c9] at H
              have c9b0 : decide (x7_2 < t108) = false := decide_eq_false c9
              clear c9
              obtain rfl := Option.some.inj H
              go_wp2
              repeat (go_quiet (fail); try go_wp2)
              go_ret
              exact ⟨by first | rfl | (simp [errW_none, errW_some] <;> rfl) | (simp [*, errW_none, errW_some] <;> rfl), by repeat (first | (with_reducible first | exact HB.out | apply below_alloc | apply pw_below_drewN | apply below_drew1) | exact HB.out)⟩

end Go.Proofs.YtnaaomhmoamfpaaDoor.Q
namespace Go.Proofs.YtnaaomhmoamfpaaDoor.G
end Go.Proofs.YtnaaomhmoamfpaaDoor.G
namespace Go.Proofs.YtnaaomhmoamfpaaDoor.Q
set_option linter.unusedVariables false
set_option linter.unusedSimpArgs false
set_option linter.unusedSectionVars false
open Go.Proofs.YtnaaomhmoamfpaaDoor.G
open Go.RowKit Go.Proofs.YtnaaomhmoamfpaaDoorW.PrintWords Go.Proofs.YtnaaomhmoamfpaaDoorW.PrintLast Go.Proofs.YtnaaomhmoamfpaaDoorW.PrintMore
attribute [local go_sem] max2_int min2_int max_two min_two max_three min_three max_four min_four   -- for this text's walks alone

/-! ### bibelotlaw03_HanoiTotals: function 3 -/
mutual
def bibelotlaw03_HanoiTotals.l0 : Nat → Int → Int → Option (Bool)
  | 0, _, _ => none
  | k + 1, x0, x3 => if x3 < 2 then ((hanoi_Total.f x0).bind fun bt119 => (if x0 < 1 then (bibelotlaw03_HanoiTotals.j1 k x0 x3 bt119.1 bt119.2 true) else (bibelotlaw03_HanoiTotals.j1 k x0 x3 bt119.1 bt119.2 (decide (x0 > 7))))) else ((bibelotlaw03_awake.f k).bind fun t118 => (some t118))
def bibelotlaw03_HanoiTotals.j1 : Nat → Int → Int → Int → Int → Bool → Option (Bool)
  | 0, _, _, _, _, _ => none
  | k + 1, x0, x3, x4, x5, x20 => if x20 = true then (if x5 = 1 then (if x4 = 0 then ((bibelotlaw03_many.f x0 5).bind fun t121 => (bibelotlaw03_HanoiTotals.l0 k t121 (wrap64 (x3 + 1)))) else (some false)) else (some false)) else (if x0 ≤ 5 then ((bibelotref03_Total.f k x0).bind fun t122 => (if x4 = t122 then (if x5 = 0 then ((bibelotlaw03_many.f x0 5).bind fun t123 => (bibelotlaw03_HanoiTotals.l0 k t123 (wrap64 (x3 + 1)))) else (some false)) else (some false))) else (if x5 = 0 then ((bibelotlaw03_many.f x0 5).bind fun t124 => (bibelotlaw03_HanoiTotals.l0 k t124 (wrap64 (x3 + 1)))) else (some false)))
end
def bibelotlaw03_HanoiTotals.f (k : Nat) (a0 : Int) : Option (Bool) := bibelotlaw03_HanoiTotals.l0 k a0 0
theorem bibelotlaw03_HanoiTotals.mono_l : ∀ k, (∀ y0 y1, LeO (bibelotlaw03_HanoiTotals.l0 k y0 y1) (bibelotlaw03_HanoiTotals.l0 (k + 1) y0 y1)) ∧ (∀ y0 y1 y2 y3 y4, LeO (bibelotlaw03_HanoiTotals.j1 k y0 y1 y2 y3 y4) (bibelotlaw03_HanoiTotals.j1 (k + 1) y0 y1 y2 y3 y4))
  | 0 => ⟨fun _ _ r h => by simp [bibelotlaw03_HanoiTotals.l0] at h, fun _ _ _ _ _ r h => by simp [bibelotlaw03_HanoiTotals.j1] at h⟩
  | k + 1 => by
    obtain ⟨ih0, ih1⟩ := bibelotlaw03_HanoiTotals.mono_l k
    refine ⟨?_, ?_⟩
    · intro y0 y1
      unfold bibelotlaw03_HanoiTotals.l0
      repeat' first
      | (with_reducible exact ih0 _ _)
      | (with_reducible exact ih1 _ _ _ _ _)
      | (with_reducible exact bibelotlaw03_awake.mono _)
      | (with_reducible exact bibelotref03_Total.mono _ _)
      | (with_reducible exact LeO.refl _)
      | (with_reducible exact LeO.none _)
      | (with_reducible refine LeO.ite ?_ ?_)
      | (with_reducible refine LeO.bind ?_ (fun _ => ?_))
      | exact ih0 _ _
      | exact ih1 _ _ _ _ _
      | exact bibelotlaw03_awake.mono _
      | exact bibelotref03_Total.mono _ _
      | exact LeO.none _
      | refine LeO.ite ?_ ?_
      | refine LeO.bind ?_ (fun _ => ?_)
    · intro y0 y1 y2 y3 y4
      unfold bibelotlaw03_HanoiTotals.j1
      repeat' first
      | (with_reducible exact ih0 _ _)
      | (with_reducible exact ih1 _ _ _ _ _)
      | (with_reducible exact bibelotlaw03_awake.mono _)
      | (with_reducible exact bibelotref03_Total.mono _ _)
      | (with_reducible exact LeO.refl _)
      | (with_reducible exact LeO.none _)
      | (with_reducible refine LeO.ite ?_ ?_)
      | (with_reducible refine LeO.bind ?_ (fun _ => ?_))
      | exact ih0 _ _
      | exact ih1 _ _ _ _ _
      | exact bibelotlaw03_awake.mono _
      | exact bibelotref03_Total.mono _ _
      | exact LeO.none _
      | refine LeO.ite ?_ ?_
      | refine LeO.bind ?_ (fun _ => ?_)
theorem bibelotlaw03_HanoiTotals.mono : ∀ a0 k, LeO (bibelotlaw03_HanoiTotals.f k a0) (bibelotlaw03_HanoiTotals.f (k + 1) a0) := by
  intro a0 k
  obtain ⟨ih0, ih1⟩ := bibelotlaw03_HanoiTotals.mono_l k
  unfold bibelotlaw03_HanoiTotals.f
  repeat' first
      | (with_reducible exact ih0 _ _)
      | (with_reducible exact ih1 _ _ _ _ _)
      | (with_reducible exact bibelotlaw03_awake.mono _)
      | (with_reducible exact bibelotref03_Total.mono _ _)
      | (with_reducible exact LeO.refl _)
      | (with_reducible exact LeO.none _)
      | (with_reducible refine LeO.ite ?_ ?_)
      | (with_reducible refine LeO.bind ?_ (fun _ => ?_))
      | exact ih0 _ _
      | exact ih1 _ _ _ _ _
      | exact bibelotlaw03_awake.mono _
      | exact bibelotref03_Total.mono _ _
      | exact LeO.none _
      | refine LeO.ite ?_ ?_
      | refine LeO.bind ?_ (fun _ => ?_)
set_option maxHeartbeats 8000000 in
set_option maxRecDepth 100000 in
theorem bibelotlaw03_HanoiTotals.calls (k : Nat) (a0 : Int) (r : Bool) (w : World) (h : bibelotlaw03_HanoiTotals.f k a0 = some r) :
    Calls Tryd.prog 3 #[.int .i64 a0] w fun e w' => e = .returned (.bool r) ∧ Below w.heap.size w w' := by
  have HB := Aside0.mk (Below.refl w.heap.size w)
  have H : (bibelotlaw03_HanoiTotals.l0 k a0 0) = some r := h
  clear h
  have H' := Aside0.mk H
  clear H
  go_enter Tryd.func3, Tryd.ntmps3
  go_wp2
  go_loopg [0, 3] k (fun kq v0 v3 w' => ∃ (x0_1 : Int) (x3_1 : Int), v0 = .int .i64 x0_1 ∧ v3 = .int .i64 x3_1 ∧ Aside0 (bibelotlaw03_HanoiTotals.l0 kq x0_1 x3_1 = some r) ∧ Aside0 (kq ≤ k) ∧ Aside0 (Below w.heap.size w w'))
  case atStart => exact ⟨(a0), (0), (by first | rfl | (simp; done) | (simp [*]; done)), (by first | rfl | (simp; done) | (simp [*]; done)), H', ⟨Nat.le_refl _⟩, ⟨by repeat (first | (with_reducible first | exact HB.out | apply below_alloc | apply pw_below_drewN | apply below_drew1) | exact HB.out)⟩⟩
  case round =>
    clear H'
    obtain ⟨x0_1, x3_1, rfl, rfl, HA, HK1, HB⟩ := hrel
    cases gk with
    | zero => exact absurd HA.out (by simp [bibelotlaw03_HanoiTotals.l0])
    | succ k1 =>
      have H := HA.out
      clear HA
      simp only [bibelotlaw03_HanoiTotals.l0] at H
      by_cases c2 : x3_1 < 2
      · rw [if_pos c2] at H
        have c2b0 : decide (x3_1 < 2) = true := decide_eq_true c2
        clear c2
        replace H := Option.bind_eq_some_iff.mp H
        obtain ⟨⟨t119, t120⟩, A30, H⟩ := H
        replace H : (if x0_1 < 1 then (bibelotlaw03_HanoiTotals.j1 k1 x0_1 x3_1 t119 t120 true) else (bibelotlaw03_HanoiTotals.j1 k1 x0_1 x3_1 t119 t120 (decide (x0_1 > 7)))) = some r := H
        have A3 := Aside0.mk A30
        clear A30
        have HC4 := Aside0.mk H
        clear H
        go_upto_region 5 with (first | ((with_reducible refine gate_callee (f := 23) rfl ?_); refine goesL_ (some 12) rfl rfl Tryd.func23 (by kernel_rfl) rfl #[.int .i64 x0_1] rfl (by (try simp only [List.map_toArray, List.map_cons, List.map_nil]); first | done | rfl | (simp only [List.length_drop, List.length_take]; rfl)) ?_; (with_reducible refine (hanoi_Total.calls x0_1 t119 t120 _ A3.out).mono ?_); rintro e w5 ⟨rfl, hb⟩; refine ⟨_, rfl, ?_⟩; have n0_ := Aside0.mk (below_step (by repeat (first | (with_reducible first | exact HB.out | apply below_alloc | apply pw_below_drewN | apply below_drew1) | exact HB.out)) hb); clear HB; have HB := n0_; clear n0_; (try clear hb); (try clear hb2); (try clear hk); (try clear hi)))
        (try simp only [Act.put, List.setIfInBounds_toArray, List.set_cons_zero, List.set_cons_succ])
        go_cut [20] (fun v20 wc => ∃ (kq : Nat) (x20_3 : Bool), v20 = .bool x20_3 ∧ Aside0 (bibelotlaw03_HanoiTotals.j1 kq x0_1 x3_1 t119 t120 x20_3 = some r) ∧ Aside0 (kq ≤ k1) ∧ Aside0 (Below w.heap.size w wc))
        case first =>
          have H := HC4.out
          clear HC4
          by_cases c6 : x0_1 < 1
          · rw [if_pos c6] at H
            have c6b0 : decide (x0_1 < 1) = true := decide_eq_true c6
            clear c6
            (first | rw [c6b0] | (simp only [i64_w, i32_w]; rw [c6b0]) | skip)
            have H' := Aside0.mk H
            clear H
            go_wp2
            go_meet
            case rel => exact ⟨_, (true), (by first | rfl | (simp; done) | (simp [*]; done)), H', ⟨by have := HK1.out; first | omega | exact Nat.le_refl _⟩, ⟨by repeat (first | (with_reducible first | exact HB.out | apply below_alloc | apply pw_below_drewN | apply below_drew1) | exact HB.out)⟩⟩
          · rw [if_neg c6] at H
            have c6b0 : decide (x0_1 < 1) = false := decide_eq_false c6
            clear c6
            (first | rw [c6b0] | (simp only [i64_w, i32_w]; rw [c6b0]) | skip)
            have H' := Aside0.mk H
            clear H
            go_wp2
            go_meet
            case rel => exact ⟨_, (decide (x0_1 > 7)), (by first | rfl | (simp; done) | (simp [*]; done)), H', ⟨by have := HK1.out; first | omega | exact Nat.le_refl _⟩, ⟨by repeat (first | (with_reducible first | exact HB.out | apply below_alloc | apply pw_below_drewN | apply below_drew1) | exact HB.out)⟩⟩
        case rest =>
          clear HC4
          try clear c2
          try clear c2b0
          try clear p2
          try clear c3
          try clear c6
          try clear c6b0
          obtain ⟨kq, x20_3, rfl, HA, HJ3, HB⟩ := hcut
          cases kq with
          | zero => exact absurd HA.out (by simp [bibelotlaw03_HanoiTotals.j1])
          | succ kj3 =>
            have H := HA.out
            clear HA
            simp only [bibelotlaw03_HanoiTotals.j1] at H
            by_cases c7 : x20_3 = true
            · subst c7
              have H1 : (if t120 = 1 then (if t119 = 0 then ((bibelotlaw03_many.f x0_1 5).bind fun t121 => (bibelotlaw03_HanoiTotals.l0 kj3 t121 (wrap64 (x3_1 + 1)))) else (some false)) else (some false)) = some r := by rw [if_pos rfl] at H; exact H
              clear H
              have H := H1
              clear H1
              by_cases c8 : t120 = 1
              · rw [if_pos c8] at H
                have c8b0 : (t120 == 1) = true := beq_iff_eq.mpr c8
                have c8b1 : (t120 != 1) = false := bne_eq_false_iff_eq.mpr c8
                clear c8
                by_cases c9 : t119 = 0
                · rw [if_pos c9] at H
                  have c9b0 : (t119 == 0) = true := beq_iff_eq.mpr c9
                  have c9b1 : (t119 != 0) = false := bne_eq_false_iff_eq.mpr c9
                  clear c9
                  replace H := Option.bind_eq_some_iff.mp H
                  obtain ⟨t121, A100, H⟩ := H
                  replace H : (bibelotlaw03_HanoiTotals.l0 kj3 t121 (wrap64 (x3_1 + 1))) = some r := H
                  have A10 := Aside0.mk A100
                  clear A100
                  have H' := Aside0.mk H
                  clear H
                  go_wp2_with (first | ((with_reducible refine gate_callee (f := 25) rfl ?_); refine goesL_ (some 40) rfl rfl Tryd.func25 (by kernel_rfl) rfl #[.int .i64 x0_1, .int .i64 5] rfl (by (try simp only [List.map_toArray, List.map_cons, List.map_nil]); first | done | rfl | (simp only [List.length_drop, List.length_take]; rfl)) ?_; (with_reducible refine (bibelotlaw03_many.calls x0_1 5 t121 _ A10.out).mono ?_); rintro e w' ⟨rfl, ⟨nd, rfl⟩⟩; refine ⟨_, rfl, ?_⟩))
                  go_roundg kj3
                  case measure => have := HK1.out; have := HJ3.out; omega
                  case rel => exact ⟨(t121), (wrap64 (x3_1 + 1)), (by first | rfl | (simp; done) | (simp [*]; done)), (by first | rfl | (simp; done) | (simp [*]; done)), H', ⟨by have := HK1.out; have := HJ3.out; omega⟩, ⟨by repeat (first | (with_reducible first | exact HB.out | apply below_alloc | apply pw_below_drewN | apply below_drew1) | exact HB.out)⟩⟩
                · rw [if_neg c9] at H
                  have c9b0 : (t119 == 0) = false := beq_eq_false_iff_ne.mpr c9
                  have c9b1 : (t119 != 0) = true := bne_iff_ne.mpr c9
                  obtain rfl := Option.some.inj H
                  go_wp2
                  go_ret
                  exact ⟨by first | rfl | (simp [errW_none, errW_some] <;> rfl) | (simp [*, errW_none, errW_some] <;> rfl), by repeat (first | (with_reducible first | exact HB.out | apply below_alloc | apply pw_below_drewN | apply below_drew1) | exact HB.out)⟩
              · rw [if_neg c8] at H
                have c8b0 : (t120 == 1) = false := beq_eq_false_iff_ne.mpr c8
                have c8b1 : (t120 != 1) = true := bne_iff_ne.mpr c8
                obtain rfl := Option.some.inj H
                go_wp2
                go_ret
                exact ⟨by first | rfl | (simp [errW_none, errW_some] <;> rfl) | (simp [*, errW_none, errW_some] <;> rfl), by repeat (first | (with_reducible first | exact HB.out | apply below_alloc | apply pw_below_drewN | apply below_drew1) | exact HB.out)⟩
            · replace c7 := Bool.eq_false_iff.mpr c7
              subst c7
              have H1 : (if x0_1 ≤ 5 then ((bibelotref03_Total.f kj3 x0_1).bind fun t122 => (if t119 = t122 then (if t120 = 0 then ((bibelotlaw03_many.f x0_1 5).bind fun t123 => (bibelotlaw03_HanoiTotals.l0 kj3 t123 (wrap64 (x3_1 + 1)))) else (some false)) else (some false))) else (if t120 = 0 then ((bibelotlaw03_many.f x0_1 5).bind fun t124 => (bibelotlaw03_HanoiTotals.l0 kj3 t124 (wrap64 (x3_1 + 1)))) else (some false))) = some r := by rw [if_neg (show ¬ (false = true) by decide)] at H; exact H
              clear H
              have H := H1
              clear H1
              by_cases c11 : x0_1 ≤ 5
              · rw [if_pos c11] at H
                have c11b0 : decide (x0_1 ≤ 5) = true := decide_eq_true c11
                clear c11
                replace H := Option.bind_eq_some_iff.mp H
                obtain ⟨t122, A120, H⟩ := H
                replace H : (if t119 = t122 then (if t120 = 0 then ((bibelotlaw03_many.f x0_1 5).bind fun t123 => (bibelotlaw03_HanoiTotals.l0 kj3 t123 (wrap64 (x3_1 + 1)))) else (some false)) else (some false)) = some r := H
                have A12 := Aside0.mk A120
                clear A120
                by_cases c13 : t119 = t122
                · rw [if_pos c13] at H
                  have c13b0 : (t119 == t122) = true := beq_iff_eq.mpr c13
                  have c13b1 : (t119 != t122) = false := bne_eq_false_iff_eq.mpr c13
                  clear c13
                  by_cases c14 : t120 = 0
                  · rw [if_pos c14] at H
                    have c14b0 : (t120 == 0) = true := beq_iff_eq.mpr c14
                    have c14b1 : (t120 != 0) = false := bne_eq_false_iff_eq.mpr c14
                    clear c14
                    replace H := Option.bind_eq_some_iff.mp H
                    obtain ⟨t123, A150, H⟩ := H
                    replace H : (bibelotlaw03_HanoiTotals.l0 kj3 t123 (wrap64 (x3_1 + 1))) = some r := H
                    have A15 := Aside0.mk A150
                    clear A150
                    have H' := Aside0.mk H
                    clear H
                    go_wp2_with (first | (go_at_call 24; (with_reducible refine (bibelotref03_Total.calls kj3 x0_1 t122 _ A12.out).mono ?_); rintro e w16 ⟨rfl, hb⟩; have n0_ := Aside0.mk (below_step (by repeat (first | (with_reducible first | exact HB.out | apply below_alloc | apply pw_below_drewN | apply below_drew1) | exact HB.out)) hb); clear HB; have HB := n0_; clear n0_; (try clear hb); (try clear hb2); (try clear hk); (try clear hi)) | ((with_reducible refine gate_callee (f := 25) rfl ?_); refine goesL_ (some 40) rfl rfl Tryd.func25 (by kernel_rfl) rfl #[.int .i64 x0_1, .int .i64 5] rfl (by (try simp only [List.map_toArray, List.map_cons, List.map_nil]); first | done | rfl | (simp only [List.length_drop, List.length_take]; rfl)) ?_; (with_reducible refine (bibelotlaw03_many.calls x0_1 5 t123 _ A15.out).mono ?_); rintro e w' ⟨rfl, ⟨nd, rfl⟩⟩; refine ⟨_, rfl, ?_⟩))
                    go_roundg kj3
                    case measure => have := HK1.out; have := HJ3.out; omega
                    case rel => exact ⟨(t123), (wrap64 (x3_1 + 1)), (by first | rfl | (simp; done) | (simp [*]; done)), (by first | rfl | (simp; done) | (simp [*]; done)), H', ⟨by have := HK1.out; have := HJ3.out; omega⟩, ⟨by repeat (first | (with_reducible first | exact HB.out | apply below_alloc | apply pw_below_drewN | apply below_drew1) | exact HB.out)⟩⟩
                  · rw [if_neg c14] at H
                    have c14b0 : (t120 == 0) = false := beq_eq_false_iff_ne.mpr c14
                    have c14b1 : (t120 != 0) = true := bne_iff_ne.mpr c14
                    obtain rfl := Option.some.inj H
                    go_wp2_with (first | (go_at_call 24; (with_reducible refine (bibelotref03_Total.calls kj3 x0_1 t122 _ A12.out).mono ?_); rintro e w17 ⟨rfl, hb⟩; have n0_ := Aside0.mk (below_step (by repeat (first | (with_reducible first | exact HB.out | apply below_alloc | apply pw_below_drewN | apply below_drew1) | exact HB.out)) hb); clear HB; have HB := n0_; clear n0_; (try clear hb); (try clear hb2); (try clear hk); (try clear hi)))
                    go_ret
                    exact ⟨by first | rfl | (simp [errW_none, errW_some] <;> rfl) | (simp [*, errW_none, errW_some] <;> rfl), by repeat (first | (with_reducible first | exact HB.out | apply below_alloc | apply pw_below_drewN | apply below_drew1) | exact HB.out)⟩
                · rw [if_neg c13] at H
                  have c13b0 : (t119 == t122) = false := beq_eq_false_iff_ne.mpr c13
                  have c13b1 : (t119 != t122) = true := bne_iff_ne.mpr c13
                  obtain rfl := Option.some.inj H
                  go_wp2_with (first | (go_at_call 24; (with_reducible refine (bibelotref03_Total.calls kj3 x0_1 t122 _ A12.out).mono ?_); rintro e w18 ⟨rfl, hb⟩; have n0_ := Aside0.mk (below_step (by repeat (first | (with_reducible first | exact HB.out | apply below_alloc | apply pw_below_drewN | apply below_drew1) | exact HB.out)) hb); clear HB; have HB := n0_; clear n0_; (try clear hb); (try clear hb2); (try clear hk); (try clear hi)))
                  go_ret
                  exact ⟨by first | rfl | (simp [errW_none, errW_some] <;> rfl) | (simp [*, errW_none, errW_some] <;> rfl), by repeat (first | (with_reducible first | exact HB.out | apply below_alloc | apply pw_below_drewN | apply below_drew1) | exact HB.out)⟩
              · rw [if_neg c11] at H
                have c11b0 : decide (x0_1 ≤ 5) = false := decide_eq_false c11
                clear c11
                by_cases c19 : t120 = 0
                · rw [if_pos c19] at H
                  have c19b0 : (t120 == 0) = true := beq_iff_eq.mpr c19
                  have c19b1 : (t120 != 0) = false := bne_eq_false_iff_eq.mpr c19
                  clear c19
                  replace H := Option.bind_eq_some_iff.mp H
                  obtain ⟨t124, A200, H⟩ := H
                  replace H : (bibelotlaw03_HanoiTotals.l0 kj3 t124 (wrap64 (x3_1 + 1))) = some r := H
                  have A20 := Aside0.mk A200
                  clear A200
                  have H' := Aside0.mk H
                  clear H
                  go_wp2_with (first | ((with_reducible refine gate_callee (f := 25) rfl ?_); refine goesL_ (some 40) rfl rfl Tryd.func25 (by kernel_rfl) rfl #[.int .i64 x0_1, .int .i64 5] rfl (by (try simp only [List.map_toArray, List.map_cons, List.map_nil]); first | done | rfl | (simp only [List.length_drop, List.length_take]; rfl)) ?_; (with_reducible refine (bibelotlaw03_many.calls x0_1 5 t124 _ A20.out).mono ?_); rintro e w' ⟨rfl, ⟨nd, rfl⟩⟩; refine ⟨_, rfl, ?_⟩))
                  go_roundg kj3
                  case measure => have := HK1.out; have := HJ3.out; omega
                  case rel => exact ⟨(t124), (wrap64 (x3_1 + 1)), (by first | rfl | (simp; done) | (simp [*]; done)), (by first | rfl | (simp; done) | (simp [*]; done)), H', ⟨by have := HK1.out; have := HJ3.out; omega⟩, ⟨by repeat (first | (with_reducible first | exact HB.out | apply below_alloc | apply pw_below_drewN | apply below_drew1) | exact HB.out)⟩⟩
                · rw [if_neg c19] at H
                  have c19b0 : (t120 == 0) = false := beq_eq_false_iff_ne.mpr c19
                  have c19b1 : (t120 != 0) = true := bne_iff_ne.mpr c19
                  obtain rfl := Option.some.inj H
                  go_wp2
                  go_ret
                  exact ⟨by first | rfl | (simp [errW_none, errW_some] <;> rfl) | (simp [*, errW_none, errW_some] <;> rfl), by repeat (first | (with_reducible first | exact HB.out | apply below_alloc | apply pw_below_drewN | apply below_drew1) | exact HB.out)⟩
      · rw [if_neg c2] at H
        have c2b0 : decide (x3_1 < 2) = false := decide_eq_false c2
        clear c2
        replace H := Option.bind_eq_some_iff.mp H
        obtain ⟨t118, A210, H⟩ := H
        replace H : (some t118) = some r := H
        have A21 := Aside0.mk A210
        clear A210
        obtain rfl := Option.some.inj H
        go_wp2_with (first | ((with_reducible refine gate_callee (f := 26) rfl ?_); refine goesL_ (some 41) rfl rfl Tryd.func26 (by kernel_rfl) rfl #[] rfl (by (try simp only [List.map_toArray, List.map_cons, List.map_nil]); first | done | rfl | (simp only [List.length_drop, List.length_take]; rfl)) ?_; (with_reducible refine (bibelotlaw03_awake.calls k1  t118 _ A21.out).mono ?_); rintro e w22 ⟨rfl, hb⟩; refine ⟨_, rfl, ?_⟩; have n0_ := Aside0.mk (below_step (by repeat (first | (with_reducible first | exact HB.out | apply below_alloc | apply pw_below_drewN | apply below_drew1) | exact HB.out)) hb); clear HB; have HB := n0_; clear n0_; (try clear hb); (try clear hb2); (try clear hk); (try clear hi)))
        go_ret
        exact ⟨by first | rfl | (simp [errW_none, errW_some] <;> rfl) | (simp [*, errW_none, errW_some] <;> rfl), by repeat (first | (with_reducible first | exact HB.out | apply below_alloc | apply pw_below_drewN | apply below_drew1) | exact HB.out)⟩

/-- THE ONE PURE STATEMENT of bibelotlaw03_HanoiTotals: yours. -/
def bibelotlaw03_HanoiTotals.Pure : Prop := ∀ (a0 : Int), (Lit.int .i64 a0).wf = true → ∃ k, bibelotlaw03_HanoiTotals.f k a0 = some true
theorem bibelotlaw03_HanoiTotals.walk (P : bibelotlaw03_HanoiTotals.Pure) (a0 : Int) (w : World) (w0 : (Lit.int .i64 a0).wf = true) :
    Calls Tryd.prog 3 #[.int .i64 a0] w fun e w' => e = .returned (.bool true) ∧ Below w.heap.size w w' := by
  obtain ⟨k, h⟩ := P a0 w0
  refine (bibelotlaw03_HanoiTotals.calls k a0 true w h).mono ?_
  rintro e w' ⟨rfl, hd⟩
  exact ⟨rfl, hd⟩

end Go.Proofs.YtnaaomhmoamfpaaDoor.Q
/- HanoiTotals: the sum of the distances of all pairs, or ErrArg. -/
namespace Go.Proofs.YtnaaomhmoamfpaaDoor.Pure
set_option linter.unusedVariables false
set_option linter.unusedSimpArgs false
set_option linter.unusedSectionVars false
open Go.Proofs.YtnaaomhmoamfpaaDoor.G Go.Proofs.YtnaaomhmoamfpaaDoor.Hn
open Go.RowKit Go.Proofs.YtnaaomhmoamfpaaDoor.Q Go.Proofs.YtnaaomhmoamfpaaDoorW.PrintWords Go.Proofs.YtnaaomhmoamfpaaDoorW.PrintLast

def dd (N a b : Nat) : Int := dst (nth (code N a)) (nth (code N b)) N
def rowTo (N a m : Nat) : Int := ((List.range m).map (fun b => dd N a b)).sum
theorem rowTo_succ (N a m : Nat) : rowTo N a (m + 1) = rowTo N a m + dd N a m := by simp [rowTo, List.range_succ]
def sq (N m k : Nat) : Int := ((List.range m).map (fun a => rowTo N a k)).sum
theorem sq_row (N m k : Nat) : sq N (m + 1) k = sq N m k + rowTo N m k := by simp [sq, List.range_succ]
theorem sq_col (N m k : Nat) : sq N m (k + 1) = sq N m k + rowTo N k m := by
  induction m with
  | zero => simp [sq, rowTo]
  | succ m ih =>
    rw [sq_row, sq_row, ih, rowTo_succ, rowTo_succ]
    have : dd N m k = dd N k m := dst_symm _ _ _
    omega
def tri (N : Nat) : Nat → Int
  | 0 => 0
  | a + 1 => tri N a + 2 * rowTo N a a
theorem tri_sq (N m : Nat) : tri N m = sq N m m := by
  induction m with
  | zero => simp [tri, sq]
  | succ m ih =>
    rw [tri, ih, sq_row, sq_col, rowTo_succ]
    have : dd N m m = 0 := dst_same (fun i _ => rfl)
    omega
theorem total_tri (N : Nat) : total N = tri N (3 ^ N) := by rw [tri_sq]; rfl

theorem dd_bd (N : Nat) (h0 : 0 < N) (h1 : N ≤ 7) (a b : Nat) : 0 ≤ dd N a b ∧ dd N a b ≤ 127 := dst_small N h0 h1 a b
theorem rowTo_bd (N : Nat) (h0 : 0 < N) (h1 : N ≤ 7) (a m : Nat) : 0 ≤ rowTo N a m ∧ rowTo N a m ≤ 127 * m := by
  induction m with
  | zero => simp [rowTo]
  | succ m ih => rw [rowTo_succ]; have := dd_bd N h0 h1 a m; omega
theorem tri_bd (N : Nat) (h0 : 0 < N) (h1 : N ≤ 7) (m : Nat) (hm : m ≤ 300) : 0 ≤ tri N m ∧ tri N m ≤ 76200 * m := by
  induction m with
  | zero => simp [tri]
  | succ m ih =>
    have h2 := ih (by omega)
    have h3 := rowTo_bd N h0 h1 m m
    rw [tri]
    omega

def codes (N m : Nat) : List (List Int) := (List.range m).map (code N)
theorem codes_len (N m : Nat) : (codes N m).length = m := by simp [codes]
theorem codes_get (N m i : Nat) (h : i < m) : rd_L1 (codes N m) (i : Int) = code N i := by simp [rd_L1, codes, h]
theorem dist_code (N a b : Nat) (h0 : 0 < N) (h1 : N ≤ 7) : bibelotref03_Distance.f (code N a) (code N b) = some (dd N a b) := by
  unfold bibelotref03_Distance.f
  rw [if_pos (by simp [both, code_ok _ _ h0 (show N ≤ 40 by omega), code_len]), code_len]
  rfl

section
variable (N : Nat) (h0 : 0 < N) (h1 : N ≤ 5)
include h0 h1
theorem p3 : 3 ^ N ≤ 243 := by have := Nat.pow_le_pow_right (show 0 < 3 by omega) h1; simpa using this
mutual
theorem tot_l1 (d a : Nat) (ha : a + d = 3 ^ N) : Ev (fun k => bibelotref03_Total.l1 k (tri N a) ((3 ^ N : Nat) : Int) (codes N (3 ^ N)) (a : Int)) (tri N (3 ^ N)) := by
  have hp := p3 N h0 h1
  match d with
  | 0 =>
    obtain rfl : a = 3 ^ N := by omega
    refine Ev.step (fun k => ?_) (Ev.now _)
    rw [bibelotref03_Total.l1, if_neg (by omega)]
  | d + 1 =>
    refine Ev.step (fun k => ?_) (tot_l2 d a (by omega) a 0 (by omega))
    rw [bibelotref03_Total.l1, if_pos (by omega)]
    simp [rowTo]
termination_by (d, 0)
theorem tot_l2 (d a : Nat) (ha : a + (d + 1) = 3 ^ N) (e b : Nat) (hb : b + e = a) : Ev (fun k => bibelotref03_Total.l2 k (tri N a + 2 * rowTo N a b) ((3 ^ N : Nat) : Int) (codes N (3 ^ N)) (a : Int) (b : Int)) (tri N (3 ^ N)) := by
  have hp := p3 N h0 h1
  have hr := rowTo_bd N h0 (by omega) a b
  have ht := tri_bd N h0 (by omega) a (by omega)
  match e with
  | 0 =>
    obtain rfl : b = a := by omega
    refine Ev.step (fun k => ?_) (tot_l1 d (b + 1) (by omega))
    rw [bibelotref03_Total.l2, if_neg (by omega), w64 (by omega) (by omega)]
    rfl
  | e + 1 =>
    refine Ev.step (fun k => ?_) (tot_l2 d a ha e (b + 1) (by omega))
    have hd := dd_bd N h0 (by omega) a b
    rw [bibelotref03_Total.l2, if_pos (by omega), if_pos (by omega), codes_len, if_pos (by omega), if_pos (by omega), if_pos (by omega), codes_get _ _ _ (by omega), codes_get _ _ _ (by omega), dist_code N a b h0 (by omega), Option.bind_some,
      w64 (x := 2 * dd N a b) (by omega) (by omega), w64 (x := _ + 2 * dd N a b) (by omega) (by omega), w64 (by omega) (by omega), rowTo_succ, Int.mul_add, Int.add_assoc]
    rfl
termination_by (d, e + 1)
end
theorem tot_l0 (d a : Nat) (ha : a + d = 3 ^ N) : Ev (fun k => bibelotref03_Total.l0 k (N : Int) 0 ((3 ^ N : Nat) : Int) (codes N a) (a : Int)) (tri N (3 ^ N)) := by
  have hp := p3 N h0 h1
  induction d generalizing a with
  | zero =>
    obtain rfl : a = 3 ^ N := by omega
    refine Ev.step (fun k => ?_) (tot_l1 N h0 h1 (3 ^ N) 0 (by omega))
    rw [bibelotref03_Total.l0, if_neg (by omega)]
    rfl
  | succ d ih =>
    refine Ev.step (f := fun k => (bibelotref03_Decoded.f k (N : Int) (a : Int) 3).bind fun t => bibelotref03_Total.l0 k (N : Int) 0 ((3 ^ N : Nat) : Int) (codes N a ++ [t]) ((a + 1 : Nat) : Int)) (fun k => ?_) (Ev.bind (decoded_ev N a 3 (by omega) (by omega) (by omega)) ?_)
    · rw [bibelotref03_Total.l0, if_pos (by omega)]
      congr 1
      funext t
      rw [codes_len, if_pos (by omega), w64 (by omega) (by omega)]
      rfl
    · have e : codes N a ++ [codeP 3 N a] = codes N (a + 1) := by simp [codes, List.range_succ, codeP, code]
      rw [e]
      exact ih (a + 1) (by omega)
theorem total_ev : Ev (fun k => bibelotref03_Total.f k (N : Int)) (total N) := by
  have hp := p3 N h0 h1
  rw [total_tri]
  unfold bibelotref03_Total.f
  refine Ev.bind (power_ev 3 N (by omega) (by omega) (by omega)) ?_
  exact tot_l0 N h0 h1 (3 ^ N) 0 (by omega)
end

theorem tot_round (x0 x3 : Int) (hx : x3 = 0 ∨ x3 = 1) (h : Ev (fun k => bibelotlaw03_HanoiTotals.l0 k (manyOf x0 5) (x3 + 1)) true) : Ev (fun k => bibelotlaw03_HanoiTotals.l0 k x0 x3) true := by
  have hm := many_f x0 5 (by omega) (by omega)
  have hw : wrap64 (x3 + 1) = x3 + 1 := w64 (by omega) (by omega)
  by_cases hr : 1 ≤ x0 ∧ x0 ≤ 7
  · obtain ⟨N, rfl⟩ := Int.eq_ofNat_of_zero_le (show 0 ≤ x0 by omega)
    have ht : hanoi_Total.f (N : Int) = some (total N, 0) := by unfold hanoi_Total.f; rw [if_pos hr]; rfl
    refine Ev.step (f := fun k => bibelotlaw03_HanoiTotals.j1 k (N : Int) x3 (total N) 0 false) (fun k => ?_) ?_
    · rw [bibelotlaw03_HanoiTotals.l0, if_pos (by omega), ht, Option.bind_some, if_neg (by omega), decide_eq_false (show ¬ (N : Int) > 7 by omega)]
    · by_cases h5 : (N : Int) ≤ 5
      · refine Ev.step (f := fun k => (bibelotref03_Total.f k (N : Int)).bind fun t => if total N = t then bibelotlaw03_HanoiTotals.l0 k (manyOf (N : Int) 5) (x3 + 1) else some false) (fun k => ?_) (Ev.bind (total_ev N (by omega) (by omega)) ?_)
        · rw [bibelotlaw03_HanoiTotals.j1, if_neg (by simp), if_pos h5]
          simp only [if_true, hm, Option.bind_some, hw]
        · simp only [if_true]
          exact h
      · refine Ev.step (fun k => ?_) h
        rw [bibelotlaw03_HanoiTotals.j1, if_neg (by simp), if_neg h5, if_pos rfl, hm, Option.bind_some, hw]
  · have ht : hanoi_Total.f x0 = some (0, 1) := by unfold hanoi_Total.f; rw [if_neg hr]
    refine Ev.step (f := fun k => bibelotlaw03_HanoiTotals.j1 k x0 x3 0 1 true) (fun k => ?_) (Ev.step (fun k => ?_) h)
    · rw [bibelotlaw03_HanoiTotals.l0, if_pos (by omega), ht, Option.bind_some]
      by_cases h1 : x0 < 1
      · rw [if_pos h1]
      · rw [if_neg h1, decide_eq_true (show x0 > 7 by omega)]
    · rw [bibelotlaw03_HanoiTotals.j1, if_pos rfl, if_pos rfl, if_pos rfl, hm, Option.bind_some, hw]

theorem HanoiTotals : bibelotlaw03_HanoiTotals.Pure := by
  intro a0 _
  refine Ev.rounds (tot_round a0 0 (.inl rfl) (tot_round _ 1 (.inr rfl) ?_))
  refine Ev.step (f := fun k => (bibelotlaw03_awake.f k).bind fun t => some t) (fun k => ?_) (Ev.bind awake_ev (Ev.now true))
  rw [bibelotlaw03_HanoiTotals.l0, if_neg (by omega)]
end Go.Proofs.YtnaaomhmoamfpaaDoor.Pure
