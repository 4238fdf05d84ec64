/- HanoiMetric: without the reference: distances obey the laws of a metric, are 0 just for the same discs, and do not change if pegs are renamed in both; a move changes one by at most 1: the walk and the plain law, for every input. -/
import Derived.Test.YtnaaomhmoamfpaaDoorA1
import Derived.Test.YtnaaomhmoamfpaaDoorA2
import Derived.Test.YtnaaomhmoamfpaaDoorA3
import Derived.Test.YtnaaomhmoamfpaaDoorA4
import Derived.ChangeKeysEq
namespace Go.Proofs.YtnaaomhmoamfpaaDoor.G
end Go.Proofs.YtnaaomhmoamfpaaDoor.G
namespace Go.Proofs.YtnaaomhmoamfpaaDoor.Q
set_option linter.unusedVariables false
set_option linter.unusedSimpArgs false
set_option linter.unusedSectionVars false
open Go.Proofs.YtnaaomhmoamfpaaDoor.G
open Go.RowKit Go.Proofs.YtnaaomhmoamfpaaDoorW.PrintWords Go.Proofs.YtnaaomhmoamfpaaDoorW.PrintLast Go.Proofs.YtnaaomhmoamfpaaDoorW.PrintMore
attribute [local go_sem] max2_int min2_int max_two min_two max_three min_three max_four min_four   -- for this text's walks alone

/-! ### bibelotlaw03_discs: function 40 -/
def bibelotlaw03_discs.l0 : Nat → List Int → Int → List Int → Int → Option (List Int)
  | 0, _, _, _, _ => none
  | k + 1, x0, x1, x5, x6 => if x6 < x1 then (if x6 < (x0.length : Int) then (if 0 ≤ x6 then (if x5.length < 17592186044416 then (bibelotlaw03_discs.l0 k x0 x1 (x5 ++ [wrap64 (Int.tmod (IntKind.u64.wrap (rd x0 x6)) 3)]) (wrap64 (x6 + 1))) else (none)) else (none)) else (if x5.length < 17592186044416 then (bibelotlaw03_discs.l0 k x0 x1 (x5 ++ [0]) (wrap64 (x6 + 1))) else (none))) else (some x5)
def bibelotlaw03_discs.f (k : Nat) (l0 : List Int) (a1 : Int) : Option (List Int) := bibelotlaw03_discs.l0 k l0 a1 ([] : List Int) 0
theorem bibelotlaw03_discs.mono_l : ∀ k, (∀ y0 y1 y2 y3, LeO (bibelotlaw03_discs.l0 k y0 y1 y2 y3) (bibelotlaw03_discs.l0 (k + 1) y0 y1 y2 y3))
  | 0 => fun _ _ _ _ r h => by simp [bibelotlaw03_discs.l0] at h
  | k + 1 => by
    have ih0 := bibelotlaw03_discs.mono_l k
    · intro y0 y1 y2 y3
      unfold bibelotlaw03_discs.l0
      repeat' first
      | (with_reducible exact ih0 _ _ _ _)
      | (with_reducible exact LeO.refl _)
      | (with_reducible exact LeO.none _)
      | (with_reducible refine LeO.ite ?_ ?_)
      | (with_reducible refine LeO.bind ?_ (fun _ => ?_))
      | exact ih0 _ _ _ _
      | exact LeO.none _
      | refine LeO.ite ?_ ?_
      | refine LeO.bind ?_ (fun _ => ?_)
theorem bibelotlaw03_discs.mono : ∀ a0 a1 k, LeO (bibelotlaw03_discs.f k a0 a1) (bibelotlaw03_discs.f (k + 1) a0 a1) := by
  intro a0 a1 k
  have ih0 := bibelotlaw03_discs.mono_l k
  unfold bibelotlaw03_discs.f
  repeat' first
      | (with_reducible exact ih0 _ _ _ _)
      | (with_reducible exact LeO.refl _)
      | (with_reducible exact LeO.none _)
      | (with_reducible refine LeO.ite ?_ ?_)
      | (with_reducible refine LeO.bind ?_ (fun _ => ?_))
      | exact ih0 _ _ _ _
      | exact LeO.none _
      | refine LeO.ite ?_ ?_
      | refine LeO.bind ?_ (fun _ => ?_)
set_option maxHeartbeats 8000000 in
set_option maxRecDepth 100000 in
theorem bibelotlaw03_discs.calls (k : Nat) (A0 : Option Addr) (c0 : Nat) (l0 : List Int) (a1 : Int) (r : List Int) (w : World) (hr0 : Kd.C (Kd.int .i64) w A0 l0.length l0) (hc0 : l0.length ≤ c0) (h : bibelotlaw03_discs.f k l0 a1 = some r) :
    Calls Tryd.prog 40 #[.slice A0 l0.length c0, .int .i64 a1] w fun e w' => ∃ v0_ : Value, e = .returned (v0_) ∧ Kd.R (Kd.int .i64) 3 w' w.heap.size (fun _ => True) v0_ r ∧ Below w.heap.size w w' := by
  have HR0 := Aside0.mk hr0
  have HC0 := Aside0.mk hc0
  clear hr0 hc0
  have HB := Aside0.mk (Below.refl w.heap.size w)
  have H : (bibelotlaw03_discs.l0 k l0 a1 ([] : List Int) 0) = some r := h
  clear h
  have H' := Aside0.mk H
  clear H
  go_enter Tryd.func40, Tryd.ntmps40
  go_wp2
  go_loopg [5, 6] k (fun kq v5 v6 w' => ∃ (x5_1 : List Int) (x6_1 : Int), v6 = .int .i64 x6_1 ∧ Aside0 (bibelotlaw03_discs.l0 kq l0 a1 x5_1 x6_1 = some r) ∧ Aside0 (kq ≤ k) ∧ Aside0 (Kd.R (Kd.int .i64) 3 w' w.heap.size (fun _ => True) v5 x5_1) ∧ Aside0 (Below w.heap.size w w'))
  case atStart => exact ⟨(([] : List Int)), (0), (by first | rfl | (simp; done) | (simp [*]; done)), H', ⟨Nat.le_refl _⟩, ⟨by first | exact Kd.R_nil _ _ _ _ _ | exact Kd.N_nil _ _ _ _ _ | exact Kd.V_nil _ _ _ _ _ | exact Kd.Q_nil _ _ _ _ _ | exact Kd.S_nil _ _ _ _ _⟩, ⟨by repeat (first | (with_reducible first | exact HB.out | apply below_alloc | apply pw_below_drewN | apply below_drew1) | exact HB.out)⟩⟩
  case round =>
    clear H'
    try clear p2
    obtain ⟨x5_1, x6_1, rfl, HA, HK1, HO_5, HB⟩ := hrel
    cases gk with
    | zero => exact absurd HA.out (by simp [bibelotlaw03_discs.l0])
    | succ k1 =>
      have H := HA.out
      clear HA
      simp only [bibelotlaw03_discs.l0] at H
      by_cases c3 : x6_1 < a1
      · rw [if_pos c3] at H
        have c3b0 : decide (x6_1 < a1) = true := decide_eq_true c3
        clear c3
        by_cases c4 : x6_1 < (l0.length : Int)
        · rw [if_pos c4] at H
          have c4b0 : decide (x6_1 < (l0.length : Int)) = true := decide_eq_true c4
          clear c4
          by_cases c5 : 0 ≤ x6_1
          · rw [if_pos c5] at H
            have c5b0 : decide (0 ≤ x6_1) = true := decide_eq_true c5
            clear c5
            by_cases c6 : x5_1.length < 17592186044416
            · rw [if_pos c6] at H
              have LMc6 := Aside0.mk c6
              clear c6
              obtain ⟨y199, hy199⟩ : ∃ y_ : List Int, y_ = (x5_1 ++ [wrap64 (Int.tmod (IntKind.u64.wrap (rd l0 x6_1)) 3)]) := ⟨_, rfl⟩
              replace H : (bibelotlaw03_discs.l0 k1 l0 a1 y199 (wrap64 (x6_1 + 1))) = some r := by first | (rw [hy199]; with_reducible exact H) | (have H2_ := (Option.bind_some _ _).symm.trans H; rw [hy199]; with_reducible exact H2_) | (have H2_ := (Option.bind_some _ _).symm.trans H; with_reducible exact H2_) | with_reducible exact H | (rw [hy199]; exact H) | exact H
              have Ny199 := Aside0.mk hy199
              clear hy199
              have H' := Aside0.mk H
              clear H
              have p198 : 0 ≤ (x6_1 : Int) := of_decide_eq_true (by first | (with_reducible assumption) | assumption)
              have q198 : x6_1 < (l0.length : Int) := of_decide_eq_true (by first | (with_reducible assumption) | assumption)
              obtain ⟨ad198, e198, hx198_0⟩ := Kd.at_int HR0.out x6_1 p198 q198
              cases e198
              replace hx198_0 := (HB.out.cell (World.block_lt_of_cell? w _ hx198_0)).trans hx198_0
              replace p198 := eq_true p198
              replace q198 := eq_true q198
              go_wp2_with (first | ((with_reducible refine gate_builtin (b := .append) (xs := #[.tmp 24, .tmp 26]) rfl ?_); at_builtin; refine Kd.R_append (Kd.int .i64) (w0 := w) w.heap.size rfl (.tmp 24) (.tmp 26) 46 3 (.int .i64 0) 8 rfl Tryd.underlying46 info3 rfl (by decide) (by omega) u5 x5_1 (wrap64 (Int.tmod (IntKind.u64.wrap (rd l0 x6_1)) 3)) [.int .i64 (wrap64 (Int.tmod (IntKind.u64.wrap (rd l0 x6_1)) 3))] (fun _ => True) (fun _ => False) rfl rfl ?aP (fun _ hk => hk.elim) ?aF ?aO ?aB ?aS ?aL ?_; (case aP => exact rfl); (case aB => exact (by repeat (first | (with_reducible first | exact HB.out | apply below_alloc | apply pw_below_drewN | apply below_drew1) | exact HB.out))); (case aF => exact (fun _ _ => trivial)); (case aO => exact (by (with_reducible repeat (first | apply Kd.R_alloc | apply Kd.R_drewN | apply Kd.R_drew)); exact HO_5.out)); (case aS => exact (below_size (by repeat (first | (with_reducible first | exact HB.out | apply below_alloc | apply pw_below_drewN | apply below_drew1) | exact HB.out)))); (case aL => have := LMc6.out; omega); intro v200 w7 ho hb hg hat; rw [← Ny199.out] at ho; have n0_ := Aside0.mk (hb); have n1_ := Aside0.mk (ho); clear HB; clear HO_5; have HB := n0_; have HO201 := n1_; clear n0_ n1_; clear ho hb hg hat))
              go_roundg k1
              case measure => have := HK1.out; omega
              case rel => exact ⟨(y199), (wrap64 (x6_1 + 1)), (by first | rfl | (simp; done) | (simp [*]; done)), H', ⟨by have := HK1.out; omega⟩, ⟨by (with_reducible repeat (first | apply Kd.R_alloc | apply Kd.R_drewN | apply Kd.R_drew)); exact HO201.out⟩, ⟨by repeat (first | (with_reducible first | exact HB.out | apply below_alloc | apply pw_below_drewN | apply below_drew1) | exact HB.out)⟩⟩
            · rw [if_neg c6] at H
              exact absurd H (by simp)
          · rw [if_neg c5] at H
            exact absurd H (by simp)
        · rw [if_neg c4] at H
          have c4b0 : decide (x6_1 < (l0.length : Int)) = false := decide_eq_false c4
          clear c4
          by_cases c8 : x5_1.length < 17592186044416
          · rw [if_pos c8] at H
            have LMc8 := Aside0.mk c8
            clear c8
            obtain ⟨y202, hy202⟩ : ∃ y_ : List Int, y_ = (x5_1 ++ [0]) := ⟨_, rfl⟩
            replace H : (bibelotlaw03_discs.l0 k1 l0 a1 y202 (wrap64 (x6_1 + 1))) = some r := by first | (rw [hy202]; with_reducible exact H) | (have H2_ := (Option.bind_some _ _).symm.trans H; rw [hy202]; with_reducible exact H2_) | (have H2_ := (Option.bind_some _ _).symm.trans H; with_reducible exact H2_) | with_reducible exact H | (rw [hy202]; exact H) | exact H
            have Ny202 := Aside0.mk hy202
            clear hy202
            have H' := Aside0.mk H
            clear H
            go_wp2_with (first | ((with_reducible refine gate_builtin (b := .append) (xs := #[.tmp 24, .tmp 26]) rfl ?_); at_builtin; refine Kd.R_append (Kd.int .i64) (w0 := w) w.heap.size rfl (.tmp 24) (.tmp 26) 46 3 (.int .i64 0) 8 rfl Tryd.underlying46 info3 rfl (by decide) (by omega) u5 x5_1 0 [.int .i64 0] (fun _ => True) (fun _ => False) rfl rfl ?aP (fun _ hk => hk.elim) ?aF ?aO ?aB ?aS ?aL ?_; (case aP => exact rfl); (case aB => exact (by repeat (first | (with_reducible first | exact HB.out | apply below_alloc | apply pw_below_drewN | apply below_drew1) | exact HB.out))); (case aF => exact (fun _ _ => trivial)); (case aO => exact (by (with_reducible repeat (first | apply Kd.R_alloc | apply Kd.R_drewN | apply Kd.R_drew)); exact HO_5.out)); (case aS => exact (below_size (by repeat (first | (with_reducible first | exact HB.out | apply below_alloc | apply pw_below_drewN | apply below_drew1) | exact HB.out)))); (case aL => have := LMc8.out; omega); intro v203 w9 ho hb hg hat; rw [← Ny202.out] at ho; have n0_ := Aside0.mk (hb); have n1_ := Aside0.mk (ho); clear HB; clear HO_5; have HB := n0_; have HO204 := n1_; clear n0_ n1_; clear ho hb hg hat))
            go_roundg k1
            case measure => have := HK1.out; omega
            case rel => exact ⟨(y202), (wrap64 (x6_1 + 1)), (by first | rfl | (simp; done) | (simp [*]; done)), H', ⟨by have := HK1.out; omega⟩, ⟨by (with_reducible repeat (first | apply Kd.R_alloc | apply Kd.R_drewN | apply Kd.R_drew)); exact HO204.out⟩, ⟨by repeat (first | (with_reducible first | exact HB.out | apply below_alloc | apply pw_below_drewN | apply below_drew1) | exact HB.out)⟩⟩
          · rw [if_neg c8] at H
            exact absurd H (by simp)
      · rw [if_neg c3] at H
        have c3b0 : decide (x6_1 < a1) = false := decide_eq_false c3
        clear c3
        obtain rfl := Option.some.inj H
        go_wp2
        go_ret
        exact ⟨_, by first | rfl | (simp [errW_none, errW_some] <;> rfl) | (simp [*, errW_none, errW_some] <;> rfl), by (with_reducible repeat (first | apply Kd.R_alloc | apply Kd.R_drewN | apply Kd.R_drew)); exact HO_5.out, by repeat (first | (with_reducible first | exact HB.out | apply below_alloc | apply pw_below_drewN | apply below_drew1) | exact HB.out)⟩

end Go.Proofs.YtnaaomhmoamfpaaDoor.Q
namespace Go.Proofs.YtnaaomhmoamfpaaDoor.G
end Go.Proofs.YtnaaomhmoamfpaaDoor.G
namespace Go.Proofs.YtnaaomhmoamfpaaDoor.Q
set_option linter.unusedVariables false
set_option linter.unusedSimpArgs false
set_option linter.unusedSectionVars false
open Go.Proofs.YtnaaomhmoamfpaaDoor.G
open Go.RowKit Go.Proofs.YtnaaomhmoamfpaaDoorW.PrintWords Go.Proofs.YtnaaomhmoamfpaaDoorW.PrintLast Go.Proofs.YtnaaomhmoamfpaaDoorW.PrintMore
attribute [local go_sem] max2_int min2_int max_two min_two max_three min_three max_four min_four   -- for this text's walks alone

/-! ### hanoi_Farthest: function 43 -/
def hanoi_Farthest.l0 : Nat → List Int → Int → Int → Option (Int × Int)
  | 0, _, _, _ => none
  | k + 1, x0, x5, x12 => if x12 < 3 then ((hanoi_toPeg.f k x0 x12).bind fun t237 => (hanoi_Farthest.l0 k x0 (mx x5 t237) (wrap64 (x12 + 1)))) else (some (x5, 0))
def hanoi_Farthest.f (k : Nat) (l0 : List Int) : Option (Int × Int) := (hanoi_Check.f k l0).bind fun t236 => (if t236 = 0 then (hanoi_Farthest.l0 k l0 0 0) else (some (0, t236)))
theorem hanoi_Farthest.mono_l : ∀ k, (∀ y0 y1 y2, LeO (hanoi_Farthest.l0 k y0 y1 y2) (hanoi_Farthest.l0 (k + 1) y0 y1 y2))
  | 0 => fun _ _ _ r h => by simp [hanoi_Farthest.l0] at h
  | k + 1 => by
    have ih0 := hanoi_Farthest.mono_l k
    · intro y0 y1 y2
      unfold hanoi_Farthest.l0
      repeat' first
      | (with_reducible exact ih0 _ _ _)
      | (with_reducible exact hanoi_Check.mono _ _)
      | (with_reducible exact hanoi_toPeg.mono _ _ _)
      | (with_reducible exact LeO.refl _)
      | (with_reducible exact LeO.none _)
      | (with_reducible refine LeO.ite ?_ ?_)
      | (with_reducible refine LeO.bind ?_ (fun _ => ?_))
      | exact ih0 _ _ _
      | exact hanoi_Check.mono _ _
      | exact hanoi_toPeg.mono _ _ _
      | exact LeO.none _
      | refine LeO.ite ?_ ?_
      | refine LeO.bind ?_ (fun _ => ?_)
theorem hanoi_Farthest.mono : ∀ a0 k, LeO (hanoi_Farthest.f k a0) (hanoi_Farthest.f (k + 1) a0) := by
  intro a0 k
  have ih0 := hanoi_Farthest.mono_l k
  unfold hanoi_Farthest.f
  repeat' first
      | (with_reducible exact ih0 _ _ _)
      | (with_reducible exact hanoi_Check.mono _ _)
      | (with_reducible exact hanoi_toPeg.mono _ _ _)
      | (with_reducible exact LeO.refl _)
      | (with_reducible exact LeO.none _)
      | (with_reducible refine LeO.ite ?_ ?_)
      | (with_reducible refine LeO.bind ?_ (fun _ => ?_))
      | exact ih0 _ _ _
      | exact hanoi_Check.mono _ _
      | exact hanoi_toPeg.mono _ _ _
      | exact LeO.none _
      | refine LeO.ite ?_ ?_
      | refine LeO.bind ?_ (fun _ => ?_)
set_option maxHeartbeats 8000000 in
set_option maxRecDepth 100000 in
theorem hanoi_Farthest.calls (k : Nat) (A0 : Option Addr) (c0 : Nat) (l0 : List Int) (r1 : Int) (r2 : Int) (w : World) (hr0 : Kd.C (Kd.int .i64) w A0 l0.length l0) (hc0 : l0.length ≤ c0) (h : hanoi_Farthest.f k l0 = some (r1, r2)) :
    Calls Tryd.prog 43 #[.slice A0 l0.length c0] w fun e w' => e = .returned (.tuple #[.int .i64 r1, .int .i64 r2]) ∧ Below w.heap.size w w' := by
  have HR0 := Aside0.mk hr0
  have HC0 := Aside0.mk hc0
  clear hr0 hc0
  have HB := Aside0.mk (Below.refl w.heap.size w)
  have H : ((hanoi_Check.f k l0).bind fun t236 => (if t236 = 0 then (hanoi_Farthest.l0 k l0 0 0) else (some (0, t236)))) = some (r1, r2) := h
  clear h
  replace H := Option.bind_eq_some_iff.mp H
  obtain ⟨t236, A20, H⟩ := H
  replace H : (if t236 = 0 then (hanoi_Farthest.l0 k l0 0 0) else (some (0, t236))) = some (r1, r2) := H
  have A2 := Aside0.mk A20
  clear A20
  by_cases c3 : t236 = 0
  · rw [if_pos c3] at H
    have c3b0 : (t236 == 0) = true := beq_iff_eq.mpr c3
    have c3b1 : (t236 != 0) = false := bne_eq_false_iff_eq.mpr c3
    clear c3
    have H' := Aside0.mk H
    clear H
    go_enter Tryd.func43, Tryd.ntmps43
    go_wp2_with (first | ((with_reducible refine gate_callee (f := 62) rfl ?_); refine goesL_ (some 8) rfl rfl Tryd.func62 (by kernel_rfl) rfl #[.slice A0 l0.length c0] rfl (by (try simp only [List.map_toArray, List.map_cons, List.map_nil]); first | done | rfl | (simp only [List.length_drop, List.length_take]; rfl)) ?_; (with_reducible refine (hanoi_Check.calls k _ _ l0 t236 _ ?side1 ?side2 A2.out).mono ?_); (case side1 => repeat (first | exact HR0.out | (with_reducible refine Kd.C_alloc ?_ _) | (with_reducible refine Kd.C_drewN ?_ _) | (with_reducible refine Kd.C_drew ?_))); (case side2 => exact HC0.out); rintro e w4 ⟨rfl, hb⟩; refine ⟨_, rfl, ?_⟩; have n0_ := Aside0.mk (below_step (by repeat (first | (with_reducible first | exact HB.out | apply below_alloc | apply pw_below_drewN | apply below_drew1) | exact HB.out)) hb); clear HB; have HB := n0_; clear n0_; (try clear hb); (try clear hb2); (try clear hk); (try clear hi)))
    go_loopg [5, 12] k (fun kq v5 v12 w' => ∃ (x5_1 : Int) (x12_1 : Int), v5 = .int .i64 x5_1 ∧ v12 = .int .i64 x12_1 ∧ Aside0 (hanoi_Farthest.l0 kq l0 x5_1 x12_1 = some (r1, r2)) ∧ Aside0 (kq ≤ k) ∧ Aside0 (Below w.heap.size w w'))
    case atStart => exact ⟨(0), (0), (by first | rfl | (simp; done) | (simp [*]; done)), (by first | rfl | (simp; done) | (simp [*]; done)), H', ⟨Nat.le_refl _⟩, ⟨by repeat (first | (with_reducible first | exact HB.out | apply below_alloc | apply pw_below_drewN | apply below_drew1) | exact HB.out)⟩⟩
    case round =>
      clear H'
      try clear p2
      try clear c3
      try clear c3b0
      try clear c3b1
      try clear c4
      obtain ⟨x5_1, x12_1, rfl, rfl, HA, HK1, HB⟩ := hrel
      cases gk with
      | zero => exact absurd HA.out (by simp [hanoi_Farthest.l0])
      | succ k1 =>
        have H := HA.out
        clear HA
        simp only [hanoi_Farthest.l0] at H
        by_cases c5 : x12_1 < 3
        · rw [if_pos c5] at H
          have c5b0 : decide (x12_1 < 3) = true := decide_eq_true c5
          clear c5
          replace H := Option.bind_eq_some_iff.mp H
          obtain ⟨t237, A60, H⟩ := H
          replace H : (hanoi_Farthest.l0 k1 l0 (mx x5_1 t237) (wrap64 (x12_1 + 1))) = some (r1, r2) := H
          have A6 := Aside0.mk A60
          clear A60
          obtain ⟨ji7, hji7⟩ : ∃ j_ : Int, (mx x5_1 t237) = j_ := ⟨_, rfl⟩
          replace H : (hanoi_Farthest.l0 k1 l0 ji7 (wrap64 (x12_1 + 1))) = some (r1, r2) := by first | (rw [hji7] at H; exact H) | (simp only [hji7] at H ⊢; exact H)
          (try rw [hji7] at A6)
          have hji7_ : (if x5_1 < t237 then t237 else x5_1) = ji7 := hji7
          have H' := Aside0.mk H
          clear H
          go_wp2_with (first | ((with_reducible refine gate_callee (f := 73) rfl ?_); refine goesL_ (some 18) rfl rfl Tryd.func73 (by kernel_rfl) rfl #[.slice A0 l0.length c0, .int .i64 x12_1] rfl (by (try simp only [List.map_toArray, List.map_cons, List.map_nil]); first | done | rfl | (simp only [List.length_drop, List.length_take]; rfl)) ?_; (with_reducible refine (hanoi_toPeg.calls k1 _ _ l0 x12_1 t237 _ ?side1 ?side2 A6.out).mono ?_); (case side1 => repeat (first | exact (Kd.C_below HR0.out HB.out) | (with_reducible refine Kd.C_alloc ?_ _) | (with_reducible refine Kd.C_drewN ?_ _) | (with_reducible refine Kd.C_drew ?_))); (case side2 => exact HC0.out); rintro e w' ⟨rfl, ⟨nd, rfl⟩⟩; refine ⟨_, rfl, ?_⟩))
          go_roundg k1
          case measure => have := HK1.out; omega
          case rel => exact ⟨(ji7), (wrap64 (x12_1 + 1)), (by first | rfl | (simp; done) | (simp only [← hji7] <;> (first | rfl | simp)) | (simp [*]; done)), (by first | rfl | (simp; done) | (simp [*]; done)), H', ⟨by have := HK1.out; omega⟩, ⟨by repeat (first | (with_reducible first | exact HB.out | apply below_alloc | apply pw_below_drewN | apply below_drew1) | exact HB.out)⟩⟩
        · rw [if_neg c5] at H
          have c5b0 : decide (x12_1 < 3) = false := decide_eq_false c5
          clear c5
          simp only [Option.some.injEq, Prod.mk.injEq] at H
          obtain ⟨rfl, rfl⟩ := H
          go_wp2
          go_ret2
          exact ⟨by first | rfl | (simp [errW_none, errW_some] <;> rfl) | (simp [*, errW_none, errW_some] <;> rfl), by repeat (first | (with_reducible first | exact HB.out | apply below_alloc | apply pw_below_drewN | apply below_drew1) | exact HB.out)⟩
  · rw [if_neg c3] at H
    have c3b0 : (t236 == 0) = false := beq_eq_false_iff_ne.mpr c3
    have c3b1 : (t236 != 0) = true := bne_iff_ne.mpr c3
    simp only [Option.some.injEq, Prod.mk.injEq] at H
    obtain ⟨rfl, rfl⟩ := H
    go_enter Tryd.func43, Tryd.ntmps43
    go_wp2_with (first | ((with_reducible refine gate_callee (f := 62) rfl ?_); refine goesL_ (some 8) rfl rfl Tryd.func62 (by kernel_rfl) rfl #[.slice A0 l0.length c0] rfl (by (try simp only [List.map_toArray, List.map_cons, List.map_nil]); first | done | rfl | (simp only [List.length_drop, List.length_take]; rfl)) ?_; (with_reducible refine (hanoi_Check.calls k _ _ l0 t236 _ ?side1 ?side2 A2.out).mono ?_); (case side1 => repeat (first | exact HR0.out | (with_reducible refine Kd.C_alloc ?_ _) | (with_reducible refine Kd.C_drewN ?_ _) | (with_reducible refine Kd.C_drew ?_))); (case side2 => exact HC0.out); rintro e w8 ⟨rfl, hb⟩; refine ⟨_, rfl, ?_⟩; have n0_ := Aside0.mk (below_step (by repeat (first | (with_reducible first | exact HB.out | apply below_alloc | apply pw_below_drewN | apply below_drew1) | exact HB.out)) hb); clear HB; have HB := n0_; clear n0_; (try clear hb); (try clear hb2); (try clear hk); (try clear hi)))
    go_ret2
    exact ⟨by first | rfl | (simp [errW_none, errW_some] <;> rfl) | (simp [*, errW_none, errW_some] <;> rfl), by repeat (first | (with_reducible first | exact HB.out | apply below_alloc | apply pw_below_drewN | apply below_drew1) | exact HB.out)⟩

end Go.Proofs.YtnaaomhmoamfpaaDoor.Q
namespace Go.Proofs.YtnaaomhmoamfpaaDoor.G
end Go.Proofs.YtnaaomhmoamfpaaDoor.G
namespace Go.Proofs.YtnaaomhmoamfpaaDoor.Q
set_option linter.unusedVariables false
set_option linter.unusedSimpArgs false
set_option linter.unusedSectionVars false
open Go.Proofs.YtnaaomhmoamfpaaDoor.G
open Go.RowKit Go.Proofs.YtnaaomhmoamfpaaDoorW.PrintWords Go.Proofs.YtnaaomhmoamfpaaDoorW.PrintLast Go.Proofs.YtnaaomhmoamfpaaDoorW.PrintMore
attribute [local go_sem] max2_int min2_int max_two min_two max_three min_three max_four min_four   -- for this text's walks alone

/-! ### bibelotref03_Farthest: function 45 -/
def bibelotref03_Farthest.f (k : Nat) (l0 : List Int) : Option (Int) := (bibelotref03_To.f k l0 0).bind fun t269 => ((bibelotref03_To.f k l0 1).bind fun t270 => ((bibelotref03_To.f k l0 2).bind fun t271 => (some (mx t269 (mx t270 t271)))))
theorem bibelotref03_Farthest.mono : ∀ a0 k, LeO (bibelotref03_Farthest.f k a0) (bibelotref03_Farthest.f (k + 1) a0) := by
  intro a0 k
  unfold bibelotref03_Farthest.f
  repeat' first
      | (with_reducible exact bibelotref03_To.mono _ _ _)
      | (with_reducible exact LeO.refl _)
      | (with_reducible exact LeO.none _)
      | (with_reducible refine LeO.ite ?_ ?_)
      | (with_reducible refine LeO.bind ?_ (fun _ => ?_))
      | exact bibelotref03_To.mono _ _ _
      | exact LeO.none _
      | refine LeO.ite ?_ ?_
      | refine LeO.bind ?_ (fun _ => ?_)
set_option maxHeartbeats 8000000 in
set_option maxRecDepth 100000 in
theorem bibelotref03_Farthest.calls (k : Nat) (A0 : Option Addr) (c0 : Nat) (l0 : List Int) (r : Int) (w : World) (hr0 : Kd.C (Kd.int .i64) w A0 l0.length l0) (hc0 : l0.length ≤ c0) (h : bibelotref03_Farthest.f k l0 = some r) :
    Calls Tryd.prog 45 #[.slice A0 l0.length c0] w fun e w' => e = .returned (.int .i64 r) ∧ Below w.heap.size w w' := by
  have HR0 := Aside0.mk hr0
  have HC0 := Aside0.mk hc0
  clear hr0 hc0
  have HB := Aside0.mk (Below.refl w.heap.size w)
  have H : ((bibelotref03_To.f k l0 0).bind fun t269 => ((bibelotref03_To.f k l0 1).bind fun t270 => ((bibelotref03_To.f k l0 2).bind fun t271 => (some (mx t269 (mx t270 t271)))))) = some r := h
  clear h
  replace H := Option.bind_eq_some_iff.mp H
  obtain ⟨t269, A20, H⟩ := H
  replace H : ((bibelotref03_To.f k l0 1).bind fun t270 => ((bibelotref03_To.f k l0 2).bind fun t271 => (some (mx t269 (mx t270 t271))))) = some r := H
  have A2 := Aside0.mk A20
  clear A20
  replace H := Option.bind_eq_some_iff.mp H
  obtain ⟨t270, A30, H⟩ := H
  replace H : ((bibelotref03_To.f k l0 2).bind fun t271 => (some (mx t269 (mx t270 t271)))) = some r := H
  have A3 := Aside0.mk A30
  clear A30
  replace H := Option.bind_eq_some_iff.mp H
  obtain ⟨t271, A40, H⟩ := H
  replace H : (some (mx t269 (mx t270 t271))) = some r := H
  have A4 := Aside0.mk A40
  clear A40
  obtain ⟨ji5, hji5⟩ : ∃ j_ : Int, (mx t270 t271) = j_ := ⟨_, rfl⟩
  replace H : (some (mx t269 (ji5))) = some r := by first | (rw [hji5] at H; exact H) | (simp only [hji5] at H ⊢; exact H)
  (try rw [hji5] at A2)
  (try rw [hji5] at A3)
  (try rw [hji5] at A4)
  have hji5_ : (if t270 < t271 then t271 else t270) = ji5 := hji5
  obtain ⟨ji6, hji6⟩ : ∃ j_ : Int, (mx t269 (ji5)) = j_ := ⟨_, rfl⟩
  replace H : (some ji6) = some r := by first | (rw [hji6] at H; exact H) | (simp only [hji6] at H ⊢; exact H)
  (try rw [hji6] at A2)
  (try rw [hji6] at A3)
  (try rw [hji6] at A4)
  have hji6_ : (if t269 < (ji5) then (ji5) else t269) = ji6 := hji6
  obtain rfl := Option.some.inj H
  go_enter Tryd.func45, Tryd.ntmps45
  go_wp2_with (first | ((with_reducible refine gate_callee (f := 77) rfl ?_); refine goesL_ (some 4) rfl rfl Tryd.func77 (by kernel_rfl) rfl #[.slice A0 l0.length c0, .int .i64 0] rfl (by (try simp only [List.map_toArray, List.map_cons, List.map_nil]); first | done | rfl | (simp only [List.length_drop, List.length_take]; rfl)) ?_; (with_reducible refine (bibelotref03_To.calls k _ _ l0 0 t269 _ ?side1 ?side2 A2.out).mono ?_); (case side1 => repeat (first | exact HR0.out | (with_reducible refine Kd.C_alloc ?_ _) | (with_reducible refine Kd.C_drewN ?_ _) | (with_reducible refine Kd.C_drew ?_))); (case side2 => exact HC0.out); rintro e w' ⟨rfl, ⟨nd, rfl⟩⟩; refine ⟨_, rfl, ?_⟩) | ((with_reducible refine gate_callee (f := 77) rfl ?_); refine goesL_ (some 6) rfl rfl Tryd.func77 (by kernel_rfl) rfl #[.slice A0 l0.length c0, .int .i64 1] rfl (by (try simp only [List.map_toArray, List.map_cons, List.map_nil]); first | done | rfl | (simp only [List.length_drop, List.length_take]; rfl)) ?_; (with_reducible refine (bibelotref03_To.calls k _ _ l0 1 t270 _ ?side1 ?side2 A3.out).mono ?_); (case side1 => repeat (first | exact HR0.out | (with_reducible refine Kd.C_alloc ?_ _) | (with_reducible refine Kd.C_drewN ?_ _) | (with_reducible refine Kd.C_drew ?_))); (case side2 => exact HC0.out); rintro e w' ⟨rfl, ⟨nd, rfl⟩⟩; refine ⟨_, rfl, ?_⟩) | ((with_reducible refine gate_callee (f := 77) rfl ?_); refine goesL_ (some 8) rfl rfl Tryd.func77 (by kernel_rfl) rfl #[.slice A0 l0.length c0, .int .i64 2] rfl (by (try simp only [List.map_toArray, List.map_cons, List.map_nil]); first | done | rfl | (simp only [List.length_drop, List.length_take]; rfl)) ?_; (with_reducible refine (bibelotref03_To.calls k _ _ l0 2 t271 _ ?side1 ?side2 A4.out).mono ?_); (case side1 => repeat (first | exact HR0.out | (with_reducible refine Kd.C_alloc ?_ _) | (with_reducible refine Kd.C_drewN ?_ _) | (with_reducible refine Kd.C_drew ?_))); (case side2 => exact HC0.out); rintro e w' ⟨rfl, ⟨nd, rfl⟩⟩; refine ⟨_, rfl, ?_⟩))
  go_ret
  exact ⟨by first | rfl | (simp [errW_none, errW_some] <;> rfl) | (simp only [← hji5, ← hji6]; first | rfl | (simp [errW_none, errW_some] <;> rfl)) | (simp [*, errW_none, errW_some] <;> rfl), by repeat (first | (with_reducible first | exact HB.out | apply below_alloc | apply pw_below_drewN | apply below_drew1) | exact HB.out)⟩

end Go.Proofs.YtnaaomhmoamfpaaDoor.Q
namespace Go.Proofs.YtnaaomhmoamfpaaDoor.G
end Go.Proofs.YtnaaomhmoamfpaaDoor.G
namespace Go.Proofs.YtnaaomhmoamfpaaDoor.Q
set_option linter.unusedVariables false
set_option linter.unusedSimpArgs false
set_option linter.unusedSectionVars false
open Go.Proofs.YtnaaomhmoamfpaaDoor.G
open Go.RowKit Go.Proofs.YtnaaomhmoamfpaaDoorW.PrintWords Go.Proofs.YtnaaomhmoamfpaaDoorW.PrintLast Go.Proofs.YtnaaomhmoamfpaaDoorW.PrintMore
attribute [local go_sem] max2_int min2_int max_two min_two max_three min_three max_four min_four   -- for this text's walks alone

/-! ### hanoi_Kind: function 47 -/
def hanoi_Kind.f (k : Nat) (l0 : List Int) (l1 : List Int) : Option (Int × Int) := (hanoi_open.f k (([l0, l1] : List (List Int)))).bind fun t305 => (if t305 = 0 then ((slices_Equal_int_int.f k l0 l1).bind fun t306 => (if t306 = true then (some (0, 1)) else ((hanoi_planned.f k l0 l1).bind fun bt307 => (if bt307.2.1 < bt307.2.2 then (some (1, 0)) else (if bt307.2.1 > bt307.2.2 then (some (2, 0)) else (some (3, 0))))))) else (some (0, t305)))
theorem hanoi_Kind.mono : ∀ a0 a1 k, LeO (hanoi_Kind.f k a0 a1) (hanoi_Kind.f (k + 1) a0 a1) := by
  intro a0 a1 k
  unfold hanoi_Kind.f
  repeat' first
      | (with_reducible exact hanoi_open.mono _ _)
      | (with_reducible exact hanoi_planned.mono _ _ _)
      | (with_reducible exact slices_Equal_int_int.mono _ _ _)
      | (with_reducible exact LeO.refl _)
      | (with_reducible exact LeO.none _)
      | (with_reducible refine LeO.ite ?_ ?_)
      | (with_reducible refine LeO.bind ?_ (fun _ => ?_))
      | exact hanoi_open.mono _ _
      | exact hanoi_planned.mono _ _ _
      | exact slices_Equal_int_int.mono _ _ _
      | exact LeO.none _
      | refine LeO.ite ?_ ?_
      | refine LeO.bind ?_ (fun _ => ?_)
set_option maxHeartbeats 8000000 in
set_option maxRecDepth 100000 in
theorem hanoi_Kind.calls (k : Nat) (P0_ : Nat → Prop) (A0 : Option Addr) (c0 : Nat) (l0 : List Int) (P1_ : Nat → Prop) (A1 : Option Addr) (c1 : Nat) (l1 : List Int) (r1 : Int) (r2 : Int) (w : World) (hs0 : Kd.V (Kd.int .i64) 3 w w.heap.size (fun k_ => P0_ k_) (.slice A0 l0.length c0) l0) (hs1 : Kd.V (Kd.int .i64) 3 w w.heap.size (fun k_ => P1_ k_) (.slice A1 l1.length c1) l1) (h : hanoi_Kind.f k l0 l1 = some (r1, r2)) :
    Calls Tryd.prog 47 #[.slice A0 l0.length c0, .slice A1 l1.length c1] w fun e w' => e = .returned (.tuple #[.int .i64 r1, .int .i64 r2]) ∧ Below w.heap.size w w' := by
  have hu117 := Tryd.underlying117
  have HO0 := Aside0.mk (show Kd.V (Kd.int .i64) 3 w w.heap.size (fun k_ => ((P0_ k_ ∨ P1_ k_) ∨ w.heap.size ≤ k_)) (.slice A0 l0.length c0) l0 from Kd.V_mono hs0 (fun k_ hk => .inl (.inl hk)))
  have HO1 := Aside0.mk (show Kd.V (Kd.int .i64) 3 w w.heap.size (fun k_ => ((P0_ k_ ∨ P1_ k_) ∨ w.heap.size ≤ k_)) (.slice A1 l1.length c1) l1 from Kd.V_mono hs1 (fun k_ hk => .inl (.inr hk)))
  have HB := Aside0.mk (Below.refl w.heap.size w)
  have H : ((hanoi_open.f k (([l0, l1] : List (List Int)))).bind fun t305 => (if t305 = 0 then ((slices_Equal_int_int.f k l0 l1).bind fun t306 => (if t306 = true then (some (0, 1)) else ((hanoi_planned.f k l0 l1).bind fun bt307 => (if bt307.2.1 < bt307.2.2 then (some (1, 0)) else (if bt307.2.1 > bt307.2.2 then (some (2, 0)) else (some (3, 0))))))) else (some (0, t305)))) = some (r1, r2) := h
  clear h
  obtain ⟨y302, hy302⟩ : ∃ y_ : List (List Int), y_ = (([l0, l1] : List (List Int))) := ⟨_, rfl⟩
  replace H : ((hanoi_open.f k y302).bind fun t305 => (if t305 = 0 then ((slices_Equal_int_int.f k l0 l1).bind fun t306 => (if t306 = true then (some (0, 1)) else ((hanoi_planned.f k l0 l1).bind fun bt307 => (if bt307.2.1 < bt307.2.2 then (some (1, 0)) else (if bt307.2.1 > bt307.2.2 then (some (2, 0)) else (some (3, 0))))))) else (some (0, t305)))) = some (r1, r2) := by first | (rw [hy302]; with_reducible exact H) | (have H2_ := (Option.bind_some _ _).symm.trans H; rw [hy302]; with_reducible exact H2_) | (have H2_ := (Option.bind_some _ _).symm.trans H; with_reducible exact H2_) | with_reducible exact H | (rw [hy302]; exact H) | exact H
  have Ny302 := Aside0.mk hy302
  clear hy302
  replace H := Option.bind_eq_some_iff.mp H
  obtain ⟨t305, A30, H⟩ := H
  replace H : (if t305 = 0 then ((slices_Equal_int_int.f k l0 l1).bind fun t306 => (if t306 = true then (some (0, 1)) else ((hanoi_planned.f k l0 l1).bind fun bt307 => (if bt307.2.1 < bt307.2.2 then (some (1, 0)) else (if bt307.2.1 > bt307.2.2 then (some (2, 0)) else (some (3, 0))))))) else (some (0, t305))) = some (r1, r2) := H
  have A3 := Aside0.mk A30
  clear A30
  by_cases c4 : t305 = 0
  · rw [if_pos c4] at H
    have c4b0 : (t305 == 0) = true := beq_iff_eq.mpr c4
    have c4b1 : (t305 != 0) = false := bne_eq_false_iff_eq.mpr c4
    clear c4
    replace H := Option.bind_eq_some_iff.mp H
    obtain ⟨t306, A50, H⟩ := H
    replace H : (if t306 = true then (some (0, 1)) else ((hanoi_planned.f k l0 l1).bind fun bt307 => (if bt307.2.1 < bt307.2.2 then (some (1, 0)) else (if bt307.2.1 > bt307.2.2 then (some (2, 0)) else (some (3, 0)))))) = some (r1, r2) := H
    have A5 := Aside0.mk A50
    clear A50
    by_cases c6 : t306 = true
    · subst c6
      have H1 : (some (0, 1)) = some (r1, r2) := by rw [if_pos rfl] at H; exact H
      clear H
      have H := H1
      clear H1
      simp only [Option.some.injEq, Prod.mk.injEq] at H
      obtain ⟨rfl, rfl⟩ := H
      go_enter Tryd.func47, Tryd.ntmps47
      go_wp2_with (first | ((with_reducible refine gate_dst (N := 10) rfl ?_); refine Kd.N_lit (Kd.slice 3 (Kd.int .i64)) _ 46 ?hg (N' := 10) ?hd (xs := ([l0, l1] : List (List Int))) (inner := [.slice A0 l0.length c0, .slice A1 l1.length c1]) (ok := (fun k_ => ((P0_ k_ ∨ P1_ k_) ∨ w.heap.size ≤ k_))) (okp := (fun k_ => ((P0_ k_ ∨ P1_ k_) ∨ w.heap.size ≤ k_))) ?hr ?hp (fun _ hk => hk) ((show ∀ k_, w.heap.size ≤ k_ → (fun k_ => ((P0_ k_ ∨ P1_ k_) ∨ w.heap.size ≤ k_)) k_ from fun k_ hk => (.inr (Nat.le_trans (below_size (by repeat (first | (with_reducible first | exact HB.out | apply below_alloc | apply pw_below_drewN | apply below_drew1) | exact HB.out))) hk))) _ (Nat.le_refl _)) (Below.refl _ _) (Nat.le_refl _) (by simp) ?_; (case hd => rfl); (case hg => rfl); (case hr => first | (go_simp; done) | (go_simp; rfl)); (case hp => exact (Reps.one (show Kd.FK (Kd.slice 3 (Kd.int .i64)) _ _ l0 [.slice A0 l0.length c0] from (Kd.FK_slice_mk (Kd.V_reads' (Kd.V_mono (ok' := (fun k_ => ((P0_ k_ ∨ P1_ k_) ∨ w.heap.size ≤ k_))) (HO0.out) (fun k_ hk => hk))).2.1 (Kd.V_F (Kd.V_mono (ok' := (fun k_ => ((P0_ k_ ∨ P1_ k_) ∨ w.heap.size ≤ k_))) (HO0.out) (fun k_ hk => hk))))) (Reps.one (show Kd.FK (Kd.slice 3 (Kd.int .i64)) _ _ l1 [.slice A1 l1.length c1] from (Kd.FK_slice_mk (Kd.V_reads' (Kd.V_mono (ok' := (fun k_ => ((P0_ k_ ∨ P1_ k_) ∨ w.heap.size ≤ k_))) (HO1.out) (fun k_ hk => hk))).2.1 (Kd.V_F (Kd.V_mono (ok' := (fun k_ => ((P0_ k_ ∨ P1_ k_) ∨ w.heap.size ≤ k_))) (HO1.out) (fun k_ hk => hk))))) (Reps.none _ _)))); intro v303 w7 ho8 hb hg_ hnew_; clear hg_ hnew_; (first | rw [← Ny302.out] at ho8 | (simp only [Int.reduceToNat] at ho8; rw [← Ny302.out] at ho8)); have n0_ := Aside0.mk (Kd.V_elder' (by (with_reducible repeat (first | apply Kd.V_alloc | apply Kd.V_drewN | apply Kd.V_drew)); exact HO0.out) (Kd.N_base ho8) hb); have n1_ := Aside0.mk (Kd.V_elder' (by (with_reducible repeat (first | apply Kd.V_alloc | apply Kd.V_drewN | apply Kd.V_drew)); exact HO1.out) (Kd.N_base ho8) hb); have n2_ := Aside0.mk (Kd.N_lower ho8 (below_size (by repeat (first | (with_reducible first | exact HB.out | apply below_alloc | apply pw_below_drewN | apply below_drew1) | exact HB.out)))); have n3_ := Aside0.mk (below_step (by repeat (first | (with_reducible first | exact HB.out | apply below_alloc | apply pw_below_drewN | apply below_drew1) | exact HB.out)) hb); clear HO0; clear HO1; clear HB; have HO0 := n0_; have HO1 := n1_; have HO304 := n2_; have HB := n3_; clear n0_ n1_ n2_ n3_; clear hb ho8; obtain ⟨Ao9, co9, eo9⟩ := Kd.N_slice HO304.out; subst eo9) | ((with_reducible refine gate_callee (f := 74) rfl ?_); refine goesL_ (some 11) rfl rfl Tryd.func74 (by kernel_rfl) rfl #[.slice Ao9 y302.length co9] rfl (by (try simp only [List.map_toArray, List.map_cons, List.map_nil]); first | done | rfl | (simp only [List.length_drop, List.length_take]; rfl)) ?_; (with_reducible refine (hanoi_open.calls k _ _ y302 t305 _ ?side1 ?side2 A3.out).mono ?_); (case side1 => repeat (first | exact (Kd.N_reads' HO304.out).2.2 | (with_reducible refine Kd.C_alloc ?_ _) | (with_reducible refine Kd.C_drewN ?_ _) | (with_reducible refine Kd.C_drew ?_))); (case side2 => exact (Kd.N_reads' HO304.out).2.1); rintro e w10 ⟨rfl, hb⟩; refine ⟨_, rfl, ?_⟩; have n0_ := Aside0.mk (Kd.V_below (by (with_reducible repeat (first | apply Kd.V_alloc | apply Kd.V_drewN | apply Kd.V_drew)); exact HO0.out) hb); have n1_ := Aside0.mk (Kd.V_below (by (with_reducible repeat (first | apply Kd.V_alloc | apply Kd.V_drewN | apply Kd.V_drew)); exact HO1.out) hb); have n2_ := Aside0.mk (Kd.N_below (by (with_reducible repeat (first | apply Kd.N_alloc | apply Kd.N_drewN | apply Kd.N_drew)); exact HO304.out) hb); have n3_ := Aside0.mk (below_step (by repeat (first | (with_reducible first | exact HB.out | apply below_alloc | apply pw_below_drewN | apply below_drew1) | exact HB.out)) hb); clear HO0; clear HO1; clear HO304; clear HB; have HO0 := n0_; have HO1 := n1_; have HO304 := n2_; have HB := n3_; clear n0_ n1_ n2_ n3_; (try clear hb); (try clear hb2); (try clear hk); (try clear hi)) | ((with_reducible refine gate_callee (f := 75) rfl ?_); refine goesL_ (some 17) rfl rfl Tryd.func75 (by kernel_rfl) rfl #[.slice A0 l0.length c0, .slice A1 l1.length c1] rfl (by (try simp only [List.map_toArray, List.map_cons, List.map_nil]); first | done | rfl | (simp only [List.length_drop, List.length_take]; rfl)) ?_; (with_reducible refine (slices_Equal_int_int.calls k _ _ l0 _ _ l1 true _ ?side1 ?side2 ?side3 ?side4 A5.out).mono ?_); (case side1 => repeat (first | exact (Kd.V_reads' HO0.out).2.2 | (with_reducible refine Kd.C_alloc ?_ _) | (with_reducible refine Kd.C_drewN ?_ _) | (with_reducible refine Kd.C_drew ?_))); (case side2 => exact (Kd.V_reads' HO0.out).2.1); (case side3 => repeat (first | exact (Kd.V_reads' HO1.out).2.2 | (with_reducible refine Kd.C_alloc ?_ _) | (with_reducible refine Kd.C_drewN ?_ _) | (with_reducible refine Kd.C_drew ?_))); (case side4 => exact (Kd.V_reads' HO1.out).2.1); rintro e w' ⟨rfl, ⟨nd, rfl⟩⟩; refine ⟨_, rfl, ?_⟩))
      go_ret2
      exact ⟨by first | rfl | (simp [errW_none, errW_some] <;> rfl) | (simp [*, errW_none, errW_some] <;> rfl), by repeat (first | (with_reducible first | exact HB.out | apply below_alloc | apply pw_below_drewN | apply below_drew1) | exact HB.out)⟩
    · replace c6 := Bool.eq_false_iff.mpr c6
      subst c6
      have H1 : ((hanoi_planned.f k l0 l1).bind fun bt307 => (if bt307.2.1 < bt307.2.2 then (some (1, 0)) else (if bt307.2.1 > bt307.2.2 then (some (2, 0)) else (some (3, 0))))) = some (r1, r2) := by rw [if_neg (show ¬ (false = true) by decide)] at H; exact H
      clear H
      have H := H1
      clear H1
      replace H := Option.bind_eq_some_iff.mp H
      obtain ⟨⟨t307, t308, t309⟩, A110, H⟩ := H
      replace H : (if t308 < t309 then (some (1, 0)) else (if t308 > t309 then (some (2, 0)) else (some (3, 0)))) = some (r1, r2) := H
      have A11 := Aside0.mk A110
      clear A110
      by_cases c12 : t308 < t309
      · rw [if_pos c12] at H
        have c12b0 : decide (t308 < t309) = true := decide_eq_true c12
        clear c12
        simp only [Option.some.injEq, Prod.mk.injEq] at H
        obtain ⟨rfl, rfl⟩ := H
        go_enter Tryd.func47, Tryd.ntmps47
        go_wp2_with (first | ((with_reducible refine gate_dst (N := 10) rfl ?_); refine Kd.N_lit (Kd.slice 3 (Kd.int .i64)) _ 46 ?hg (N' := 10) ?hd (xs := ([l0, l1] : List (List Int))) (inner := [.slice A0 l0.length c0, .slice A1 l1.length c1]) (ok := (fun k_ => ((P0_ k_ ∨ P1_ k_) ∨ w.heap.size ≤ k_))) (okp := (fun k_ => ((P0_ k_ ∨ P1_ k_) ∨ w.heap.size ≤ k_))) ?hr ?hp (fun _ hk => hk) ((show ∀ k_, w.heap.size ≤ k_ → (fun k_ => ((P0_ k_ ∨ P1_ k_) ∨ w.heap.size ≤ k_)) k_ from fun k_ hk => (.inr (Nat.le_trans (below_size (by repeat (first | (with_reducible first | exact HB.out | apply below_alloc | apply pw_below_drewN | apply below_drew1) | exact HB.out))) hk))) _ (Nat.le_refl _)) (Below.refl _ _) (Nat.le_refl _) (by simp) ?_; (case hd => rfl); (case hg => rfl); (case hr => first | (go_simp; done) | (go_simp; rfl)); (case hp => exact (Reps.one (show Kd.FK (Kd.slice 3 (Kd.int .i64)) _ _ l0 [.slice A0 l0.length c0] from (Kd.FK_slice_mk (Kd.V_reads' (Kd.V_mono (ok' := (fun k_ => ((P0_ k_ ∨ P1_ k_) ∨ w.heap.size ≤ k_))) (HO0.out) (fun k_ hk => hk))).2.1 (Kd.V_F (Kd.V_mono (ok' := (fun k_ => ((P0_ k_ ∨ P1_ k_) ∨ w.heap.size ≤ k_))) (HO0.out) (fun k_ hk => hk))))) (Reps.one (show Kd.FK (Kd.slice 3 (Kd.int .i64)) _ _ l1 [.slice A1 l1.length c1] from (Kd.FK_slice_mk (Kd.V_reads' (Kd.V_mono (ok' := (fun k_ => ((P0_ k_ ∨ P1_ k_) ∨ w.heap.size ≤ k_))) (HO1.out) (fun k_ hk => hk))).2.1 (Kd.V_F (Kd.V_mono (ok' := (fun k_ => ((P0_ k_ ∨ P1_ k_) ∨ w.heap.size ≤ k_))) (HO1.out) (fun k_ hk => hk))))) (Reps.none _ _)))); intro v303 w13 ho14 hb hg_ hnew_; clear hg_ hnew_; (first | rw [← Ny302.out] at ho14 | (simp only [Int.reduceToNat] at ho14; rw [← Ny302.out] at ho14)); have n0_ := Aside0.mk (Kd.V_elder' (by (with_reducible repeat (first | apply Kd.V_alloc | apply Kd.V_drewN | apply Kd.V_drew)); exact HO0.out) (Kd.N_base ho14) hb); have n1_ := Aside0.mk (Kd.V_elder' (by (with_reducible repeat (first | apply Kd.V_alloc | apply Kd.V_drewN | apply Kd.V_drew)); exact HO1.out) (Kd.N_base ho14) hb); have n2_ := Aside0.mk (Kd.N_lower ho14 (below_size (by repeat (first | (with_reducible first | exact HB.out | apply below_alloc | apply pw_below_drewN | apply below_drew1) | exact HB.out)))); have n3_ := Aside0.mk (below_step (by repeat (first | (with_reducible first | exact HB.out | apply below_alloc | apply pw_below_drewN | apply below_drew1) | exact HB.out)) hb); clear HO0; clear HO1; clear HB; have HO0 := n0_; have HO1 := n1_; have HO304 := n2_; have HB := n3_; clear n0_ n1_ n2_ n3_; clear hb ho14; obtain ⟨Ao15, co15, eo15⟩ := Kd.N_slice HO304.out; subst eo15) | ((with_reducible refine gate_callee (f := 74) rfl ?_); refine goesL_ (some 11) rfl rfl Tryd.func74 (by kernel_rfl) rfl #[.slice Ao15 y302.length co15] rfl (by (try simp only [List.map_toArray, List.map_cons, List.map_nil]); first | done | rfl | (simp only [List.length_drop, List.length_take]; rfl)) ?_; (with_reducible refine (hanoi_open.calls k _ _ y302 t305 _ ?side1 ?side2 A3.out).mono ?_); (case side1 => repeat (first | exact (Kd.N_reads' HO304.out).2.2 | (with_reducible refine Kd.C_alloc ?_ _) | (with_reducible refine Kd.C_drewN ?_ _) | (with_reducible refine Kd.C_drew ?_))); (case side2 => exact (Kd.N_reads' HO304.out).2.1); rintro e w16 ⟨rfl, hb⟩; refine ⟨_, rfl, ?_⟩; have n0_ := Aside0.mk (Kd.V_below (by (with_reducible repeat (first | apply Kd.V_alloc | apply Kd.V_drewN | apply Kd.V_drew)); exact HO0.out) hb); have n1_ := Aside0.mk (Kd.V_below (by (with_reducible repeat (first | apply Kd.V_alloc | apply Kd.V_drewN | apply Kd.V_drew)); exact HO1.out) hb); have n2_ := Aside0.mk (Kd.N_below (by (with_reducible repeat (first | apply Kd.N_alloc | apply Kd.N_drewN | apply Kd.N_drew)); exact HO304.out) hb); have n3_ := Aside0.mk (below_step (by repeat (first | (with_reducible first | exact HB.out | apply below_alloc | apply pw_below_drewN | apply below_drew1) | exact HB.out)) hb); clear HO0; clear HO1; clear HO304; clear HB; have HO0 := n0_; have HO1 := n1_; have HO304 := n2_; have HB := n3_; clear n0_ n1_ n2_ n3_; (try clear hb); (try clear hb2); (try clear hk); (try clear hi)) | ((with_reducible refine gate_callee (f := 75) rfl ?_); refine goesL_ (some 17) rfl rfl Tryd.func75 (by kernel_rfl) rfl #[.slice A0 l0.length c0, .slice A1 l1.length c1] rfl (by (try simp only [List.map_toArray, List.map_cons, List.map_nil]); first | done | rfl | (simp only [List.length_drop, List.length_take]; rfl)) ?_; (with_reducible refine (slices_Equal_int_int.calls k _ _ l0 _ _ l1 false _ ?side1 ?side2 ?side3 ?side4 A5.out).mono ?_); (case side1 => repeat (first | exact (Kd.V_reads' HO0.out).2.2 | (with_reducible refine Kd.C_alloc ?_ _) | (with_reducible refine Kd.C_drewN ?_ _) | (with_reducible refine Kd.C_drew ?_))); (case side2 => exact (Kd.V_reads' HO0.out).2.1); (case side3 => repeat (first | exact (Kd.V_reads' HO1.out).2.2 | (with_reducible refine Kd.C_alloc ?_ _) | (with_reducible refine Kd.C_drewN ?_ _) | (with_reducible refine Kd.C_drew ?_))); (case side4 => exact (Kd.V_reads' HO1.out).2.1); rintro e w' ⟨rfl, ⟨nd, rfl⟩⟩; refine ⟨_, rfl, ?_⟩; (try (rw [drewN_self w16]; generalize hq_ : World.drewN w16 _ = w16; have n0_ : Aside0 (Kd.V (Kd.int .i64) 3 w16 w.heap.size (fun k_ => ((P0_ k_ ∨ P1_ k_) ∨ w.heap.size ≤ k_) ∧ some k_ ≠ (.slice Ao15 y302.length co15 : Value).ownBlock) (.slice A0 l0.length c0) l0) := ⟨by rw [← hq_]; exact (by (with_reducible repeat (first | apply Kd.V_alloc | apply Kd.V_drewN | apply Kd.V_drew)); exact HO0.out)⟩; have n1_ : Aside0 (Kd.V (Kd.int .i64) 3 w16 w.heap.size (fun k_ => ((P0_ k_ ∨ P1_ k_) ∨ w.heap.size ≤ k_) ∧ some k_ ≠ (.slice Ao15 y302.length co15 : Value).ownBlock) (.slice A1 l1.length c1) l1) := ⟨by rw [← hq_]; exact (by (with_reducible repeat (first | apply Kd.V_alloc | apply Kd.V_drewN | apply Kd.V_drew)); exact HO1.out)⟩; have n2_ : Aside0 (Kd.N (Kd.slice 3 (Kd.int .i64)) 46 w16 w.heap.size (fun k_ => ((P0_ k_ ∨ P1_ k_) ∨ w.heap.size ≤ k_)) (.slice Ao15 y302.length co15) y302) := ⟨by rw [← hq_]; exact (by (with_reducible repeat (first | apply Kd.N_alloc | apply Kd.N_drewN | apply Kd.N_drew)); exact HO304.out)⟩; have n3_ : Aside0 (Below w.heap.size w w16) := ⟨by rw [← hq_]; exact (by repeat (first | (with_reducible first | exact HB.out | apply below_alloc | apply pw_below_drewN | apply below_drew1) | exact HB.out))⟩; clear HO0 HO1 HO304 HB hq_; have HO0 := n0_; have HO1 := n1_; have HO304 := n2_; have HB := n3_; clear n0_ n1_ n2_ n3_))) | ((with_reducible refine gate_callee (f := 76) rfl ?_); refine goesL_ (some 20) rfl rfl Tryd.func76 (by kernel_rfl) rfl #[.slice A0 l0.length c0, .slice A1 l1.length c1] rfl (by (try simp only [List.map_toArray, List.map_cons, List.map_nil]); first | done | rfl | (simp only [List.length_drop, List.length_take]; rfl)) ?_; (with_reducible refine (hanoi_planned.calls k _ _ l0 _ _ l1 t307 t308 t309 _ ?side1 ?side2 ?side3 ?side4 A11.out).mono ?_); (case side1 => repeat (first | exact (Kd.V_reads' HO0.out).2.2 | (with_reducible refine Kd.C_alloc ?_ _) | (with_reducible refine Kd.C_drewN ?_ _) | (with_reducible refine Kd.C_drew ?_))); (case side2 => exact (Kd.V_reads' HO0.out).2.1); (case side3 => repeat (first | exact (Kd.V_reads' HO1.out).2.2 | (with_reducible refine Kd.C_alloc ?_ _) | (with_reducible refine Kd.C_drewN ?_ _) | (with_reducible refine Kd.C_drew ?_))); (case side4 => exact (Kd.V_reads' HO1.out).2.1); rintro e w17 ⟨rfl, hb⟩; refine ⟨_, rfl, ?_⟩; have n0_ := Aside0.mk (Kd.V_below (by (with_reducible repeat (first | apply Kd.V_alloc | apply Kd.V_drewN | apply Kd.V_drew)); exact HO0.out) hb); have n1_ := Aside0.mk (Kd.V_below (by (with_reducible repeat (first | apply Kd.V_alloc | apply Kd.V_drewN | apply Kd.V_drew)); exact HO1.out) hb); have n2_ := Aside0.mk (Kd.N_below (by (with_reducible repeat (first | apply Kd.N_alloc | apply Kd.N_drewN | apply Kd.N_drew)); exact HO304.out) hb); have n3_ := Aside0.mk (below_step (by repeat (first | (with_reducible first | exact HB.out | apply below_alloc | apply pw_below_drewN | apply below_drew1) | exact HB.out)) hb); clear HO0; clear HO1; clear HO304; clear HB; have HO0 := n0_; have HO1 := n1_; have HO304 := n2_; have HB := n3_; clear n0_ n1_ n2_ n3_; (try clear hb); (try clear hb2); (try clear hk); (try clear hi)) | ((with_reducible refine gate_dst (N := 7) rfl ?_); refine box_event ?hg (N := 7) ?hd (cs := #[.int .i64 0, .int .i64 0, .int .i64 0]) (t := 117) ?hr ?_; (case hd => rfl); (case hg => rfl); (case hr => first | (go_simp; done) | (go_simp; rfl)); intro gb310 hg w18 hbox hb; have n0_ := Aside0.mk (Kd.V_below (Kd.V_elderB (by (with_reducible repeat (first | apply Kd.V_alloc | apply Kd.V_drewN | apply Kd.V_drew)); exact HO0.out) gb310 (Nat.le_of_eq hg.symm)) hb); have n1_ := Aside0.mk (Kd.V_below (Kd.V_elderB (by (with_reducible repeat (first | apply Kd.V_alloc | apply Kd.V_drewN | apply Kd.V_drew)); exact HO1.out) gb310 (Nat.le_of_eq hg.symm)) hb); have n2_ := Aside0.mk (Kd.N_below (Kd.N_elderB (by (with_reducible repeat (first | apply Kd.N_alloc | apply Kd.N_drewN | apply Kd.N_drew)); exact HO304.out) gb310 (Nat.le_of_eq hg.symm)) hb); have n3_ := Aside0.mk (below_step (by repeat (first | (with_reducible first | exact HB.out | apply below_alloc | apply pw_below_drewN | apply below_drew1) | exact HB.out)) hb); have n4_ := Aside0.mk (hbox); have n5_ := Aside0.mk ((by rw [hg]; exact (below_size (by repeat (first | (with_reducible first | exact HB.out | apply below_alloc | apply pw_below_drewN | apply below_drew1) | exact HB.out))) : w.heap.size ≤ gb310)); have n6_ := Aside0.mk ((by rw [hg]; exact (below_size (by repeat (first | (with_reducible first | exact HB.out | apply below_alloc | apply pw_below_drewN | apply below_drew1) | exact HB.out))) : w.heap.size ≤ gb310)); clear HO0; clear HO1; clear HO304; clear HB; have HO0 := n0_; have HO1 := n1_; have HO304 := n2_; have HB := n3_; have BK310 := n4_; have GW310 := n5_; have GE310 := n6_; clear n0_ n1_ n2_ n3_ n4_ n5_ n6_; clear hb hbox hg; have hcz19_0 : w18.cell? ⟨gb310, 0, none⟩ = some (.int .i64 0) := (blk_cell BK310.out 0).trans rfl; have hcz19_1 : w18.cell? ⟨gb310, 1, none⟩ = some (.int .i64 0) := (blk_cell BK310.out 1).trans rfl; have hcz19_2 : w18.cell? ⟨gb310, 2, none⟩ = some (.int .i64 0) := (blk_cell BK310.out 2).trans rfl; have hfz19_0 := blk_frozen BK310.out 0; have hfz19_1 := blk_frozen BK310.out 1; have hfz19_2 := blk_frozen BK310.out 2))
        go_ret2
        exact ⟨by first | rfl | (simp [errW_none, errW_some] <;> rfl) | (simp [*, errW_none, errW_some] <;> rfl), by repeat (first | (with_reducible first | exact HB.out | apply below_alloc | apply pw_below_drewN | apply below_drew1 | refine below_set ?_ GE310.out) | exact HB.out)⟩
      · rw [if_neg c12] at H
        have c12b0 : decide (t308 < t309) = false := decide_eq_false c12
        clear c12
        by_cases c20 : t308 > t309
        · rw [if_pos c20] at H
          have c20b0 : decide (t309 < t308) = true := decide_eq_true c20
          clear c20
          simp only [Option.some.injEq, Prod.mk.injEq] at H
          obtain ⟨rfl, rfl⟩ := H
          go_enter Tryd.func47, Tryd.ntmps47
          go_wp2_with (first | ((with_reducible refine gate_dst (N := 10) rfl ?_); refine Kd.N_lit (Kd.slice 3 (Kd.int .i64)) _ 46 ?hg (N' := 10) ?hd (xs := ([l0, l1] : List (List Int))) (inner := [.slice A0 l0.length c0, .slice A1 l1.length c1]) (ok := (fun k_ => ((P0_ k_ ∨ P1_ k_) ∨ w.heap.size ≤ k_))) (okp := (fun k_ => ((P0_ k_ ∨ P1_ k_) ∨ w.heap.size ≤ k_))) ?hr ?hp (fun _ hk => hk) ((show ∀ k_, w.heap.size ≤ k_ → (fun k_ => ((P0_ k_ ∨ P1_ k_) ∨ w.heap.size ≤ k_)) k_ from fun k_ hk => (.inr (Nat.le_trans (below_size (by repeat (first | (with_reducible first | exact HB.out | apply below_alloc | apply pw_below_drewN | apply below_drew1) | exact HB.out))) hk))) _ (Nat.le_refl _)) (Below.refl _ _) (Nat.le_refl _) (by simp) ?_; (case hd => rfl); (case hg => rfl); (case hr => first | (go_simp; done) | (go_simp; rfl)); (case hp => exact (Reps.one (show Kd.FK (Kd.slice 3 (Kd.int .i64)) _ _ l0 [.slice A0 l0.length c0] from (Kd.FK_slice_mk (Kd.V_reads' (Kd.V_mono (ok' := (fun k_ => ((P0_ k_ ∨ P1_ k_) ∨ w.heap.size ≤ k_))) (HO0.out) (fun k_ hk => hk))).2.1 (Kd.V_F (Kd.V_mono (ok' := (fun k_ => ((P0_ k_ ∨ P1_ k_) ∨ w.heap.size ≤ k_))) (HO0.out) (fun k_ hk => hk))))) (Reps.one (show Kd.FK (Kd.slice 3 (Kd.int .i64)) _ _ l1 [.slice A1 l1.length c1] from (Kd.FK_slice_mk (Kd.V_reads' (Kd.V_mono (ok' := (fun k_ => ((P0_ k_ ∨ P1_ k_) ∨ w.heap.size ≤ k_))) (HO1.out) (fun k_ hk => hk))).2.1 (Kd.V_F (Kd.V_mono (ok' := (fun k_ => ((P0_ k_ ∨ P1_ k_) ∨ w.heap.size ≤ k_))) (HO1.out) (fun k_ hk => hk))))) (Reps.none _ _)))); intro v303 w21 ho22 hb hg_ hnew_; clear hg_ hnew_; (first | rw [← Ny302.out] at ho22 | (simp only [Int.reduceToNat] at ho22; rw [← Ny302.out] at ho22)); have n0_ := Aside0.mk (Kd.V_elder' (by (with_reducible repeat (first | apply Kd.V_alloc | apply Kd.V_drewN | apply Kd.V_drew)); exact HO0.out) (Kd.N_base ho22) hb); have n1_ := Aside0.mk (Kd.V_elder' (by (with_reducible repeat (first | apply Kd.V_alloc | apply Kd.V_drewN | apply Kd.V_drew)); exact HO1.out) (Kd.N_base ho22) hb); have n2_ := Aside0.mk (Kd.N_lower ho22 (below_size (by repeat (first | (with_reducible first | exact HB.out | apply below_alloc | apply pw_below_drewN | apply below_drew1) | exact HB.out)))); have n3_ := Aside0.mk (below_step (by repeat (first | (with_reducible first | exact HB.out | apply below_alloc | apply pw_below_drewN | apply below_drew1) | exact HB.out)) hb); clear HO0; clear HO1; clear HB; have HO0 := n0_; have HO1 := n1_; have HO304 := n2_; have HB := n3_; clear n0_ n1_ n2_ n3_; clear hb ho22; obtain ⟨Ao23, co23, eo23⟩ := Kd.N_slice HO304.out; subst eo23) | ((with_reducible refine gate_callee (f := 74) rfl ?_); refine goesL_ (some 11) rfl rfl Tryd.func74 (by kernel_rfl) rfl #[.slice Ao23 y302.length co23] rfl (by (try simp only [List.map_toArray, List.map_cons, List.map_nil]); first | done | rfl | (simp only [List.length_drop, List.length_take]; rfl)) ?_; (with_reducible refine (hanoi_open.calls k _ _ y302 t305 _ ?side1 ?side2 A3.out).mono ?_); (case side1 => repeat (first | exact (Kd.N_reads' HO304.out).2.2 | (with_reducible refine Kd.C_alloc ?_ _) | (with_reducible refine Kd.C_drewN ?_ _) | (with_reducible refine Kd.C_drew ?_))); (case side2 => exact (Kd.N_reads' HO304.out).2.1); rintro e w24 ⟨rfl, hb⟩; refine ⟨_, rfl, ?_⟩; have n0_ := Aside0.mk (Kd.V_below (by (with_reducible repeat (first | apply Kd.V_alloc | apply Kd.V_drewN | apply Kd.V_drew)); exact HO0.out) hb); have n1_ := Aside0.mk (Kd.V_below (by (with_reducible repeat (first | apply Kd.V_alloc | apply Kd.V_drewN | apply Kd.V_drew)); exact HO1.out) hb); have n2_ := Aside0.mk (Kd.N_below (by (with_reducible repeat (first | apply Kd.N_alloc | apply Kd.N_drewN | apply Kd.N_drew)); exact HO304.out) hb); have n3_ := Aside0.mk (below_step (by repeat (first | (with_reducible first | exact HB.out | apply below_alloc | apply pw_below_drewN | apply below_drew1) | exact HB.out)) hb); clear HO0; clear HO1; clear HO304; clear HB; have HO0 := n0_; have HO1 := n1_; have HO304 := n2_; have HB := n3_; clear n0_ n1_ n2_ n3_; (try clear hb); (try clear hb2); (try clear hk); (try clear hi)) | ((with_reducible refine gate_callee (f := 75) rfl ?_); refine goesL_ (some 17) rfl rfl Tryd.func75 (by kernel_rfl) rfl #[.slice A0 l0.length c0, .slice A1 l1.length c1] rfl (by (try simp only [List.map_toArray, List.map_cons, List.map_nil]); first | done | rfl | (simp only [List.length_drop, List.length_take]; rfl)) ?_; (with_reducible refine (slices_Equal_int_int.calls k _ _ l0 _ _ l1 false _ ?side1 ?side2 ?side3 ?side4 A5.out).mono ?_); (case side1 => repeat (first | exact (Kd.V_reads' HO0.out).2.2 | (with_reducible refine Kd.C_alloc ?_ _) | (with_reducible refine Kd.C_drewN ?_ _) | (with_reducible refine Kd.C_drew ?_))); (case side2 => exact (Kd.V_reads' HO0.out).2.1); (case side3 => repeat (first | exact (Kd.V_reads' HO1.out).2.2 | (with_reducible refine Kd.C_alloc ?_ _) | (with_reducible refine Kd.C_drewN ?_ _) | (with_reducible refine Kd.C_drew ?_))); (case side4 => exact (Kd.V_reads' HO1.out).2.1); rintro e w' ⟨rfl, ⟨nd, rfl⟩⟩; refine ⟨_, rfl, ?_⟩; (try (rw [drewN_self w24]; generalize hq_ : World.drewN w24 _ = w24; have n0_ : Aside0 (Kd.V (Kd.int .i64) 3 w24 w.heap.size (fun k_ => ((P0_ k_ ∨ P1_ k_) ∨ w.heap.size ≤ k_) ∧ some k_ ≠ (.slice Ao23 y302.length co23 : Value).ownBlock) (.slice A0 l0.length c0) l0) := ⟨by rw [← hq_]; exact (by (with_reducible repeat (first | apply Kd.V_alloc | apply Kd.V_drewN | apply Kd.V_drew)); exact HO0.out)⟩; have n1_ : Aside0 (Kd.V (Kd.int .i64) 3 w24 w.heap.size (fun k_ => ((P0_ k_ ∨ P1_ k_) ∨ w.heap.size ≤ k_) ∧ some k_ ≠ (.slice Ao23 y302.length co23 : Value).ownBlock) (.slice A1 l1.length c1) l1) := ⟨by rw [← hq_]; exact (by (with_reducible repeat (first | apply Kd.V_alloc | apply Kd.V_drewN | apply Kd.V_drew)); exact HO1.out)⟩; have n2_ : Aside0 (Kd.N (Kd.slice 3 (Kd.int .i64)) 46 w24 w.heap.size (fun k_ => ((P0_ k_ ∨ P1_ k_) ∨ w.heap.size ≤ k_)) (.slice Ao23 y302.length co23) y302) := ⟨by rw [← hq_]; exact (by (with_reducible repeat (first | apply Kd.N_alloc | apply Kd.N_drewN | apply Kd.N_drew)); exact HO304.out)⟩; have n3_ : Aside0 (Below w.heap.size w w24) := ⟨by rw [← hq_]; exact (by repeat (first | (with_reducible first | exact HB.out | apply below_alloc | apply pw_below_drewN | apply below_drew1) | exact HB.out))⟩; clear HO0 HO1 HO304 HB hq_; have HO0 := n0_; have HO1 := n1_; have HO304 := n2_; have HB := n3_; clear n0_ n1_ n2_ n3_))) | ((with_reducible refine gate_callee (f := 76) rfl ?_); refine goesL_ (some 20) rfl rfl Tryd.func76 (by kernel_rfl) rfl #[.slice A0 l0.length c0, .slice A1 l1.length c1] rfl (by (try simp only [List.map_toArray, List.map_cons, List.map_nil]); first | done | rfl | (simp only [List.length_drop, List.length_take]; rfl)) ?_; (with_reducible refine (hanoi_planned.calls k _ _ l0 _ _ l1 t307 t308 t309 _ ?side1 ?side2 ?side3 ?side4 A11.out).mono ?_); (case side1 => repeat (first | exact (Kd.V_reads' HO0.out).2.2 | (with_reducible refine Kd.C_alloc ?_ _) | (with_reducible refine Kd.C_drewN ?_ _) | (with_reducible refine Kd.C_drew ?_))); (case side2 => exact (Kd.V_reads' HO0.out).2.1); (case side3 => repeat (first | exact (Kd.V_reads' HO1.out).2.2 | (with_reducible refine Kd.C_alloc ?_ _) | (with_reducible refine Kd.C_drewN ?_ _) | (with_reducible refine Kd.C_drew ?_))); (case side4 => exact (Kd.V_reads' HO1.out).2.1); rintro e w25 ⟨rfl, hb⟩; refine ⟨_, rfl, ?_⟩; have n0_ := Aside0.mk (Kd.V_below (by (with_reducible repeat (first | apply Kd.V_alloc | apply Kd.V_drewN | apply Kd.V_drew)); exact HO0.out) hb); have n1_ := Aside0.mk (Kd.V_below (by (with_reducible repeat (first | apply Kd.V_alloc | apply Kd.V_drewN | apply Kd.V_drew)); exact HO1.out) hb); have n2_ := Aside0.mk (Kd.N_below (by (with_reducible repeat (first | apply Kd.N_alloc | apply Kd.N_drewN | apply Kd.N_drew)); exact HO304.out) hb); have n3_ := Aside0.mk (below_step (by repeat (first | (with_reducible first | exact HB.out | apply below_alloc | apply pw_below_drewN | apply below_drew1) | exact HB.out)) hb); clear HO0; clear HO1; clear HO304; clear HB; have HO0 := n0_; have HO1 := n1_; have HO304 := n2_; have HB := n3_; clear n0_ n1_ n2_ n3_; (try clear hb); (try clear hb2); (try clear hk); (try clear hi)) | ((with_reducible refine gate_dst (N := 7) rfl ?_); refine box_event ?hg (N := 7) ?hd (cs := #[.int .i64 0, .int .i64 0, .int .i64 0]) (t := 117) ?hr ?_; (case hd => rfl); (case hg => rfl); (case hr => first | (go_simp; done) | (go_simp; rfl)); intro gb310 hg w26 hbox hb; have n0_ := Aside0.mk (Kd.V_below (Kd.V_elderB (by (with_reducible repeat (first | apply Kd.V_alloc | apply Kd.V_drewN | apply Kd.V_drew)); exact HO0.out) gb310 (Nat.le_of_eq hg.symm)) hb); have n1_ := Aside0.mk (Kd.V_below (Kd.V_elderB (by (with_reducible repeat (first | apply Kd.V_alloc | apply Kd.V_drewN | apply Kd.V_drew)); exact HO1.out) gb310 (Nat.le_of_eq hg.symm)) hb); have n2_ := Aside0.mk (Kd.N_below (Kd.N_elderB (by (with_reducible repeat (first | apply Kd.N_alloc | apply Kd.N_drewN | apply Kd.N_drew)); exact HO304.out) gb310 (Nat.le_of_eq hg.symm)) hb); have n3_ := Aside0.mk (below_step (by repeat (first | (with_reducible first | exact HB.out | apply below_alloc | apply pw_below_drewN | apply below_drew1) | exact HB.out)) hb); have n4_ := Aside0.mk (hbox); have n5_ := Aside0.mk ((by rw [hg]; exact (below_size (by repeat (first | (with_reducible first | exact HB.out | apply below_alloc | apply pw_below_drewN | apply below_drew1) | exact HB.out))) : w.heap.size ≤ gb310)); have n6_ := Aside0.mk ((by rw [hg]; exact (below_size (by repeat (first | (with_reducible first | exact HB.out | apply below_alloc | apply pw_below_drewN | apply below_drew1) | exact HB.out))) : w.heap.size ≤ gb310)); clear HO0; clear HO1; clear HO304; clear HB; have HO0 := n0_; have HO1 := n1_; have HO304 := n2_; have HB := n3_; have BK310 := n4_; have GW310 := n5_; have GE310 := n6_; clear n0_ n1_ n2_ n3_ n4_ n5_ n6_; clear hb hbox hg; have hcz27_0 : w26.cell? ⟨gb310, 0, none⟩ = some (.int .i64 0) := (blk_cell BK310.out 0).trans rfl; have hcz27_1 : w26.cell? ⟨gb310, 1, none⟩ = some (.int .i64 0) := (blk_cell BK310.out 1).trans rfl; have hcz27_2 : w26.cell? ⟨gb310, 2, none⟩ = some (.int .i64 0) := (blk_cell BK310.out 2).trans rfl; have hfz27_0 := blk_frozen BK310.out 0; have hfz27_1 := blk_frozen BK310.out 1; have hfz27_2 := blk_frozen BK310.out 2))
          go_ret2
          exact ⟨by first | rfl | (simp [errW_none, errW_some] <;> rfl) | (simp [*, errW_none, errW_some] <;> rfl), by repeat (first | (with_reducible first | exact HB.out | apply below_alloc | apply pw_below_drewN | apply below_drew1 | refine below_set ?_ GE310.out) | exact HB.out)⟩
        · rw [if_neg c20] at H
          have c20b0 : decide (t309 < t308) = false := decide_eq_false c20
          clear c20
          simp only [Option.some.injEq, Prod.mk.injEq] at H
          obtain ⟨rfl, rfl⟩ := H
          go_enter Tryd.func47, Tryd.ntmps47
          go_wp2_with (first | ((with_reducible refine gate_dst (N := 10) rfl ?_); refine Kd.N_lit (Kd.slice 3 (Kd.int .i64)) _ 46 ?hg (N' := 10) ?hd (xs := ([l0, l1] : List (List Int))) (inner := [.slice A0 l0.length c0, .slice A1 l1.length c1]) (ok := (fun k_ => ((P0_ k_ ∨ P1_ k_) ∨ w.heap.size ≤ k_))) (okp := (fun k_ => ((P0_ k_ ∨ P1_ k_) ∨ w.heap.size ≤ k_))) ?hr ?hp (fun _ hk => hk) ((show ∀ k_, w.heap.size ≤ k_ → (fun k_ => ((P0_ k_ ∨ P1_ k_) ∨ w.heap.size ≤ k_)) k_ from fun k_ hk => (.inr (Nat.le_trans (below_size (by repeat (first | (with_reducible first | exact HB.out | apply below_alloc | apply pw_below_drewN | apply below_drew1) | exact HB.out))) hk))) _ (Nat.le_refl _)) (Below.refl _ _) (Nat.le_refl _) (by simp) ?_; (case hd => rfl); (case hg => rfl); (case hr => first | (go_simp; done) | (go_simp; rfl)); (case hp => exact (Reps.one (show Kd.FK (Kd.slice 3 (Kd.int .i64)) _ _ l0 [.slice A0 l0.length c0] from (Kd.FK_slice_mk (Kd.V_reads' (Kd.V_mono (ok' := (fun k_ => ((P0_ k_ ∨ P1_ k_) ∨ w.heap.size ≤ k_))) (HO0.out) (fun k_ hk => hk))).2.1 (Kd.V_F (Kd.V_mono (ok' := (fun k_ => ((P0_ k_ ∨ P1_ k_) ∨ w.heap.size ≤ k_))) (HO0.out) (fun k_ hk => hk))))) (Reps.one (show Kd.FK (Kd.slice 3 (Kd.int .i64)) _ _ l1 [.slice A1 l1.length c1] from (Kd.FK_slice_mk (Kd.V_reads' (Kd.V_mono (ok' := (fun k_ => ((P0_ k_ ∨ P1_ k_) ∨ w.heap.size ≤ k_))) (HO1.out) (fun k_ hk => hk))).2.1 (Kd.V_F (Kd.V_mono (ok' := (fun k_ => ((P0_ k_ ∨ P1_ k_) ∨ w.heap.size ≤ k_))) (HO1.out) (fun k_ hk => hk))))) (Reps.none _ _)))); intro v303 w28 ho29 hb hg_ hnew_; clear hg_ hnew_; (first | rw [← Ny302.out] at ho29 | (simp only [Int.reduceToNat] at ho29; rw [← Ny302.out] at ho29)); have n0_ := Aside0.mk (Kd.V_elder' (by (with_reducible repeat (first | apply Kd.V_alloc | apply Kd.V_drewN | apply Kd.V_drew)); exact HO0.out) (Kd.N_base ho29) hb); have n1_ := Aside0.mk (Kd.V_elder' (by (with_reducible repeat (first | apply Kd.V_alloc | apply Kd.V_drewN | apply Kd.V_drew)); exact HO1.out) (Kd.N_base ho29) hb); have n2_ := Aside0.mk (Kd.N_lower ho29 (below_size (by repeat (first | (with_reducible first | exact HB.out | apply below_alloc | apply pw_below_drewN | apply below_drew1) | exact HB.out)))); have n3_ := Aside0.mk (below_step (by repeat (first | (with_reducible first | exact HB.out | apply below_alloc | apply pw_below_drewN | apply below_drew1) | exact HB.out)) hb); clear HO0; clear HO1; clear HB; have HO0 := n0_; have HO1 := n1_; have HO304 := n2_; have HB := n3_; clear n0_ n1_ n2_ n3_; clear hb ho29; obtain ⟨Ao30, co30, eo30⟩ := Kd.N_slice HO304.out; subst eo30) | ((with_reducible refine gate_callee (f := 74) rfl ?_); refine goesL_ (some 11) rfl rfl Tryd.func74 (by kernel_rfl) rfl #[.slice Ao30 y302.length co30] rfl (by (try simp only [List.map_toArray, List.map_cons, List.map_nil]); first | done | rfl | (simp only [List.length_drop, List.length_take]; rfl)) ?_; (with_reducible refine (hanoi_open.calls k _ _ y302 t305 _ ?side1 ?side2 A3.out).mono ?_); (case side1 => repeat (first | exact (Kd.N_reads' HO304.out).2.2 | (with_reducible refine Kd.C_alloc ?_ _) | (with_reducible refine Kd.C_drewN ?_ _) | (with_reducible refine Kd.C_drew ?_))); (case side2 => exact (Kd.N_reads' HO304.out).2.1); rintro e w31 ⟨rfl, hb⟩; refine ⟨_, rfl, ?_⟩; have n0_ := Aside0.mk (Kd.V_below (by (with_reducible repeat (first | apply Kd.V_alloc | apply Kd.V_drewN | apply Kd.V_drew)); exact HO0.out) hb); have n1_ := Aside0.mk (Kd.V_below (by (with_reducible repeat (first | apply Kd.V_alloc | apply Kd.V_drewN | apply Kd.V_drew)); exact HO1.out) hb); have n2_ := Aside0.mk (Kd.N_below (by (with_reducible repeat (first | apply Kd.N_alloc | apply Kd.N_drewN | apply Kd.N_drew)); exact HO304.out) hb); have n3_ := Aside0.mk (below_step (by repeat (first | (with_reducible first | exact HB.out | apply below_alloc | apply pw_below_drewN | apply below_drew1) | exact HB.out)) hb); clear HO0; clear HO1; clear HO304; clear HB; have HO0 := n0_; have HO1 := n1_; have HO304 := n2_; have HB := n3_; clear n0_ n1_ n2_ n3_; (try clear hb); (try clear hb2); (try clear hk); (try clear hi)) | ((with_reducible refine gate_callee (f := 75) rfl ?_); refine goesL_ (some 17) rfl rfl Tryd.func75 (by kernel_rfl) rfl #[.slice A0 l0.length c0, .slice A1 l1.length c1] rfl (by (try simp only [List.map_toArray, List.map_cons, List.map_nil]); first | done | rfl | (simp only [List.length_drop, List.length_take]; rfl)) ?_; (with_reducible refine (slices_Equal_int_int.calls k _ _ l0 _ _ l1 false _ ?side1 ?side2 ?side3 ?side4 A5.out).mono ?_); (case side1 => repeat (first | exact (Kd.V_reads' HO0.out).2.2 | (with_reducible refine Kd.C_alloc ?_ _) | (with_reducible refine Kd.C_drewN ?_ _) | (with_reducible refine Kd.C_drew ?_))); (case side2 => exact (Kd.V_reads' HO0.out).2.1); (case side3 => repeat (first | exact (Kd.V_reads' HO1.out).2.2 | (with_reducible refine Kd.C_alloc ?_ _) | (with_reducible refine Kd.C_drewN ?_ _) | (with_reducible refine Kd.C_drew ?_))); (case side4 => exact (Kd.V_reads' HO1.out).2.1); rintro e w' ⟨rfl, ⟨nd, rfl⟩⟩; refine ⟨_, rfl, ?_⟩; (try (rw [drewN_self w31]; generalize hq_ : World.drewN w31 _ = w31; have n0_ : Aside0 (Kd.V (Kd.int .i64) 3 w31 w.heap.size (fun k_ => ((P0_ k_ ∨ P1_ k_) ∨ w.heap.size ≤ k_) ∧ some k_ ≠ (.slice Ao30 y302.length co30 : Value).ownBlock) (.slice A0 l0.length c0) l0) := ⟨by rw [← hq_]; exact (by (with_reducible repeat (first | apply Kd.V_alloc | apply Kd.V_drewN | apply Kd.V_drew)); exact HO0.out)⟩; have n1_ : Aside0 (Kd.V (Kd.int .i64) 3 w31 w.heap.size (fun k_ => ((P0_ k_ ∨ P1_ k_) ∨ w.heap.size ≤ k_) ∧ some k_ ≠ (.slice Ao30 y302.length co30 : Value).ownBlock) (.slice A1 l1.length c1) l1) := ⟨by rw [← hq_]; exact (by (with_reducible repeat (first | apply Kd.V_alloc | apply Kd.V_drewN | apply Kd.V_drew)); exact HO1.out)⟩; have n2_ : Aside0 (Kd.N (Kd.slice 3 (Kd.int .i64)) 46 w31 w.heap.size (fun k_ => ((P0_ k_ ∨ P1_ k_) ∨ w.heap.size ≤ k_)) (.slice Ao30 y302.length co30) y302) := ⟨by rw [← hq_]; exact (by (with_reducible repeat (first | apply Kd.N_alloc | apply Kd.N_drewN | apply Kd.N_drew)); exact HO304.out)⟩; have n3_ : Aside0 (Below w.heap.size w w31) := ⟨by rw [← hq_]; exact (by repeat (first | (with_reducible first | exact HB.out | apply below_alloc | apply pw_below_drewN | apply below_drew1) | exact HB.out))⟩; clear HO0 HO1 HO304 HB hq_; have HO0 := n0_; have HO1 := n1_; have HO304 := n2_; have HB := n3_; clear n0_ n1_ n2_ n3_))) | ((with_reducible refine gate_callee (f := 76) rfl ?_); refine goesL_ (some 20) rfl rfl Tryd.func76 (by kernel_rfl) rfl #[.slice A0 l0.length c0, .slice A1 l1.length c1] rfl (by (try simp only [List.map_toArray, List.map_cons, List.map_nil]); first | done | rfl | (simp only [List.length_drop, List.length_take]; rfl)) ?_; (with_reducible refine (hanoi_planned.calls k _ _ l0 _ _ l1 t307 t308 t309 _ ?side1 ?side2 ?side3 ?side4 A11.out).mono ?_); (case side1 => repeat (first | exact (Kd.V_reads' HO0.out).2.2 | (with_reducible refine Kd.C_alloc ?_ _) | (with_reducible refine Kd.C_drewN ?_ _) | (with_reducible refine Kd.C_drew ?_))); (case side2 => exact (Kd.V_reads' HO0.out).2.1); (case side3 => repeat (first | exact (Kd.V_reads' HO1.out).2.2 | (with_reducible refine Kd.C_alloc ?_ _) | (with_reducible refine Kd.C_drewN ?_ _) | (with_reducible refine Kd.C_drew ?_))); (case side4 => exact (Kd.V_reads' HO1.out).2.1); rintro e w32 ⟨rfl, hb⟩; refine ⟨_, rfl, ?_⟩; have n0_ := Aside0.mk (Kd.V_below (by (with_reducible repeat (first | apply Kd.V_alloc | apply Kd.V_drewN | apply Kd.V_drew)); exact HO0.out) hb); have n1_ := Aside0.mk (Kd.V_below (by (with_reducible repeat (first | apply Kd.V_alloc | apply Kd.V_drewN | apply Kd.V_drew)); exact HO1.out) hb); have n2_ := Aside0.mk (Kd.N_below (by (with_reducible repeat (first | apply Kd.N_alloc | apply Kd.N_drewN | apply Kd.N_drew)); exact HO304.out) hb); have n3_ := Aside0.mk (below_step (by repeat (first | (with_reducible first | exact HB.out | apply below_alloc | apply pw_below_drewN | apply below_drew1) | exact HB.out)) hb); clear HO0; clear HO1; clear HO304; clear HB; have HO0 := n0_; have HO1 := n1_; have HO304 := n2_; have HB := n3_; clear n0_ n1_ n2_ n3_; (try clear hb); (try clear hb2); (try clear hk); (try clear hi)) | ((with_reducible refine gate_dst (N := 7) rfl ?_); refine box_event ?hg (N := 7) ?hd (cs := #[.int .i64 0, .int .i64 0, .int .i64 0]) (t := 117) ?hr ?_; (case hd => rfl); (case hg => rfl); (case hr => first | (go_simp; done) | (go_simp; rfl)); intro gb310 hg w33 hbox hb; have n0_ := Aside0.mk (Kd.V_below (Kd.V_elderB (by (with_reducible repeat (first | apply Kd.V_alloc | apply Kd.V_drewN | apply Kd.V_drew)); exact HO0.out) gb310 (Nat.le_of_eq hg.symm)) hb); have n1_ := Aside0.mk (Kd.V_below (Kd.V_elderB (by (with_reducible repeat (first | apply Kd.V_alloc | apply Kd.V_drewN | apply Kd.V_drew)); exact HO1.out) gb310 (Nat.le_of_eq hg.symm)) hb); have n2_ := Aside0.mk (Kd.N_below (Kd.N_elderB (by (with_reducible repeat (first | apply Kd.N_alloc | apply Kd.N_drewN | apply Kd.N_drew)); exact HO304.out) gb310 (Nat.le_of_eq hg.symm)) hb); have n3_ := Aside0.mk (below_step (by repeat (first | (with_reducible first | exact HB.out | apply below_alloc | apply pw_below_drewN | apply below_drew1) | exact HB.out)) hb); have n4_ := Aside0.mk (hbox); have n5_ := Aside0.mk ((by rw [hg]; exact (below_size (by repeat (first | (with_reducible first | exact HB.out | apply below_alloc | apply pw_below_drewN | apply below_drew1) | exact HB.out))) : w.heap.size ≤ gb310)); have n6_ := Aside0.mk ((by rw [hg]; exact (below_size (by repeat (first | (with_reducible first | exact HB.out | apply below_alloc | apply pw_below_drewN | apply below_drew1) | exact HB.out))) : w.heap.size ≤ gb310)); clear HO0; clear HO1; clear HO304; clear HB; have HO0 := n0_; have HO1 := n1_; have HO304 := n2_; have HB := n3_; have BK310 := n4_; have GW310 := n5_; have GE310 := n6_; clear n0_ n1_ n2_ n3_ n4_ n5_ n6_; clear hb hbox hg; have hcz34_0 : w33.cell? ⟨gb310, 0, none⟩ = some (.int .i64 0) := (blk_cell BK310.out 0).trans rfl; have hcz34_1 : w33.cell? ⟨gb310, 1, none⟩ = some (.int .i64 0) := (blk_cell BK310.out 1).trans rfl; have hcz34_2 : w33.cell? ⟨gb310, 2, none⟩ = some (.int .i64 0) := (blk_cell BK310.out 2).trans rfl; have hfz34_0 := blk_frozen BK310.out 0; have hfz34_1 := blk_frozen BK310.out 1; have hfz34_2 := blk_frozen BK310.out 2))
          go_ret2
          exact ⟨by first | rfl | (simp [errW_none, errW_some] <;> rfl) | (simp [*, errW_none, errW_some] <;> rfl), by repeat (first | (with_reducible first | exact HB.out | apply below_alloc | apply pw_below_drewN | apply below_drew1 | refine below_set ?_ GE310.out) | exact HB.out)⟩
  · rw [if_neg c4] at H
    have c4b0 : (t305 == 0) = false := beq_eq_false_iff_ne.mpr c4
    have c4b1 : (t305 != 0) = true := bne_iff_ne.mpr c4
    simp only [Option.some.injEq, Prod.mk.injEq] at H
    obtain ⟨rfl, rfl⟩ := H
    go_enter Tryd.func47, Tryd.ntmps47
    go_wp2_with (first | ((with_reducible refine gate_dst (N := 10) rfl ?_); refine Kd.N_lit (Kd.slice 3 (Kd.int .i64)) _ 46 ?hg (N' := 10) ?hd (xs := ([l0, l1] : List (List Int))) (inner := [.slice A0 l0.length c0, .slice A1 l1.length c1]) (ok := (fun k_ => ((P0_ k_ ∨ P1_ k_) ∨ w.heap.size ≤ k_))) (okp := (fun k_ => ((P0_ k_ ∨ P1_ k_) ∨ w.heap.size ≤ k_))) ?hr ?hp (fun _ hk => hk) ((show ∀ k_, w.heap.size ≤ k_ → (fun k_ => ((P0_ k_ ∨ P1_ k_) ∨ w.heap.size ≤ k_)) k_ from fun k_ hk => (.inr (Nat.le_trans (below_size (by repeat (first | (with_reducible first | exact HB.out | apply below_alloc | apply pw_below_drewN | apply below_drew1) | exact HB.out))) hk))) _ (Nat.le_refl _)) (Below.refl _ _) (Nat.le_refl _) (by simp) ?_; (case hd => rfl); (case hg => rfl); (case hr => first | (go_simp; done) | (go_simp; rfl)); (case hp => exact (Reps.one (show Kd.FK (Kd.slice 3 (Kd.int .i64)) _ _ l0 [.slice A0 l0.length c0] from (Kd.FK_slice_mk (Kd.V_reads' (Kd.V_mono (ok' := (fun k_ => ((P0_ k_ ∨ P1_ k_) ∨ w.heap.size ≤ k_))) (HO0.out) (fun k_ hk => hk))).2.1 (Kd.V_F (Kd.V_mono (ok' := (fun k_ => ((P0_ k_ ∨ P1_ k_) ∨ w.heap.size ≤ k_))) (HO0.out) (fun k_ hk => hk))))) (Reps.one (show Kd.FK (Kd.slice 3 (Kd.int .i64)) _ _ l1 [.slice A1 l1.length c1] from (Kd.FK_slice_mk (Kd.V_reads' (Kd.V_mono (ok' := (fun k_ => ((P0_ k_ ∨ P1_ k_) ∨ w.heap.size ≤ k_))) (HO1.out) (fun k_ hk => hk))).2.1 (Kd.V_F (Kd.V_mono (ok' := (fun k_ => ((P0_ k_ ∨ P1_ k_) ∨ w.heap.size ≤ k_))) (HO1.out) (fun k_ hk => hk))))) (Reps.none _ _)))); intro v303 w35 ho36 hb hg_ hnew_; clear hg_ hnew_; (first | rw [← Ny302.out] at ho36 | (simp only [Int.reduceToNat] at ho36; rw [← Ny302.out] at ho36)); have n0_ := Aside0.mk (Kd.V_elder' (by (with_reducible repeat (first | apply Kd.V_alloc | apply Kd.V_drewN | apply Kd.V_drew)); exact HO0.out) (Kd.N_base ho36) hb); have n1_ := Aside0.mk (Kd.V_elder' (by (with_reducible repeat (first | apply Kd.V_alloc | apply Kd.V_drewN | apply Kd.V_drew)); exact HO1.out) (Kd.N_base ho36) hb); have n2_ := Aside0.mk (Kd.N_lower ho36 (below_size (by repeat (first | (with_reducible first | exact HB.out | apply below_alloc | apply pw_below_drewN | apply below_drew1) | exact HB.out)))); have n3_ := Aside0.mk (below_step (by repeat (first | (with_reducible first | exact HB.out | apply below_alloc | apply pw_below_drewN | apply below_drew1) | exact HB.out)) hb); clear HO0; clear HO1; clear HB; have HO0 := n0_; have HO1 := n1_; have HO304 := n2_; have HB := n3_; clear n0_ n1_ n2_ n3_; clear hb ho36; obtain ⟨Ao37, co37, eo37⟩ := Kd.N_slice HO304.out; subst eo37) | ((with_reducible refine gate_callee (f := 74) rfl ?_); refine goesL_ (some 11) rfl rfl Tryd.func74 (by kernel_rfl) rfl #[.slice Ao37 y302.length co37] rfl (by (try simp only [List.map_toArray, List.map_cons, List.map_nil]); first | done | rfl | (simp only [List.length_drop, List.length_take]; rfl)) ?_; (with_reducible refine (hanoi_open.calls k _ _ y302 t305 _ ?side1 ?side2 A3.out).mono ?_); (case side1 => repeat (first | exact (Kd.N_reads' HO304.out).2.2 | (with_reducible refine Kd.C_alloc ?_ _) | (with_reducible refine Kd.C_drewN ?_ _) | (with_reducible refine Kd.C_drew ?_))); (case side2 => exact (Kd.N_reads' HO304.out).2.1); rintro e w38 ⟨rfl, hb⟩; refine ⟨_, rfl, ?_⟩; have n0_ := Aside0.mk (Kd.V_below (by (with_reducible repeat (first | apply Kd.V_alloc | apply Kd.V_drewN | apply Kd.V_drew)); exact HO0.out) hb); have n1_ := Aside0.mk (Kd.V_below (by (with_reducible repeat (first | apply Kd.V_alloc | apply Kd.V_drewN | apply Kd.V_drew)); exact HO1.out) hb); have n2_ := Aside0.mk (Kd.N_below (by (with_reducible repeat (first | apply Kd.N_alloc | apply Kd.N_drewN | apply Kd.N_drew)); exact HO304.out) hb); have n3_ := Aside0.mk (below_step (by repeat (first | (with_reducible first | exact HB.out | apply below_alloc | apply pw_below_drewN | apply below_drew1) | exact HB.out)) hb); clear HO0; clear HO1; clear HO304; clear HB; have HO0 := n0_; have HO1 := n1_; have HO304 := n2_; have HB := n3_; clear n0_ n1_ n2_ n3_; (try clear hb); (try clear hb2); (try clear hk); (try clear hi)))
    go_ret2
    exact ⟨by first | rfl | (simp [errW_none, errW_some] <;> rfl) | (simp [*, errW_none, errW_some] <;> rfl), by repeat (first | (with_reducible first | exact HB.out | apply below_alloc | apply pw_below_drewN | apply below_drew1) | exact HB.out)⟩

end Go.Proofs.YtnaaomhmoamfpaaDoor.Q
namespace Go.Proofs.YtnaaomhmoamfpaaDoor.G
end Go.Proofs.YtnaaomhmoamfpaaDoor.G
namespace Go.Proofs.YtnaaomhmoamfpaaDoor.Q
set_option linter.unusedVariables false
set_option linter.unusedSimpArgs false
set_option linter.unusedSectionVars false
open Go.Proofs.YtnaaomhmoamfpaaDoor.G
open Go.RowKit Go.Proofs.YtnaaomhmoamfpaaDoorW.PrintWords Go.Proofs.YtnaaomhmoamfpaaDoorW.PrintLast Go.Proofs.YtnaaomhmoamfpaaDoorW.PrintMore
attribute [local go_sem] max2_int min2_int max_two min_two max_three min_three max_four min_four   -- for this text's walks alone

/-! ### bibelotlaw03_ints: function 49 -/
def bibelotlaw03_ints.l0 : Nat → List Int → List Int → Int → Option (Bool)
  | 0, _, _, _ => none
  | k + 1, x0, x1, x5 => if x5 < (x0.length : Int) then (if 0 ≤ x5 then (if x5 < (x1.length : Int) then (if (rd x0 x5) = (rd x1 x5) then (bibelotlaw03_ints.l0 k x0 x1 (wrap64 (x5 + 1))) else (some false)) else (none)) else (none)) else (some true)
def bibelotlaw03_ints.f (k : Nat) (l0 : List Int) (l1 : List Int) : Option (Bool) := if (l0.length : Int) = (l1.length : Int) then (bibelotlaw03_ints.l0 k l0 l1 0) else (some false)
theorem bibelotlaw03_ints.mono_l : ∀ k, (∀ y0 y1 y2, LeO (bibelotlaw03_ints.l0 k y0 y1 y2) (bibelotlaw03_ints.l0 (k + 1) y0 y1 y2))
  | 0 => fun _ _ _ r h => by simp [bibelotlaw03_ints.l0] at h
  | k + 1 => by
    have ih0 := bibelotlaw03_ints.mono_l k
    · intro y0 y1 y2
      unfold bibelotlaw03_ints.l0
      repeat' first
      | (with_reducible exact ih0 _ _ _)
      | (with_reducible exact LeO.refl _)
      | (with_reducible exact LeO.none _)
      | (with_reducible refine LeO.ite ?_ ?_)
      | (with_reducible refine LeO.bind ?_ (fun _ => ?_))
      | exact ih0 _ _ _
      | exact LeO.none _
      | refine LeO.ite ?_ ?_
      | refine LeO.bind ?_ (fun _ => ?_)
theorem bibelotlaw03_ints.mono : ∀ a0 a1 k, LeO (bibelotlaw03_ints.f k a0 a1) (bibelotlaw03_ints.f (k + 1) a0 a1) := by
  intro a0 a1 k
  have ih0 := bibelotlaw03_ints.mono_l k
  unfold bibelotlaw03_ints.f
  repeat' first
      | (with_reducible exact ih0 _ _ _)
      | (with_reducible exact LeO.refl _)
      | (with_reducible exact LeO.none _)
      | (with_reducible refine LeO.ite ?_ ?_)
      | (with_reducible refine LeO.bind ?_ (fun _ => ?_))
      | exact ih0 _ _ _
      | exact LeO.none _
      | refine LeO.ite ?_ ?_
      | refine LeO.bind ?_ (fun _ => ?_)
set_option maxHeartbeats 8000000 in
set_option maxRecDepth 100000 in
theorem bibelotlaw03_ints.calls (k : Nat) (A0 : Option Addr) (c0 : Nat) (l0 : List Int) (A1 : Option Addr) (c1 : Nat) (l1 : List Int) (r : Bool) (w : World) (hr0 : Kd.C (Kd.int .i64) w A0 l0.length l0) (hc0 : l0.length ≤ c0) (hr1 : Kd.C (Kd.int .i64) w A1 l1.length l1) (hc1 : l1.length ≤ c1) (h : bibelotlaw03_ints.f k l0 l1 = some r) :
    Calls Tryd.prog 49 #[.slice A0 l0.length c0, .slice A1 l1.length c1] w fun e w' => e = .returned (.bool r) ∧ Drawn0 w w' := by
  have HR0 := Aside0.mk hr0
  have HC0 := Aside0.mk hc0
  clear hr0 hc0
  have HR1 := Aside0.mk hr1
  have HC1 := Aside0.mk hc1
  clear hr1 hc1
  have H : (if (l0.length : Int) = (l1.length : Int) then (bibelotlaw03_ints.l0 k l0 l1 0) else (some false)) = some r := h
  clear h
  by_cases c3 : (l0.length : Int) = (l1.length : Int)
  · rw [if_pos c3] at H
    have c3b0 : ((l0.length : Int) == (l1.length : Int)) = true := beq_iff_eq.mpr c3
    have c3b1 : ((l0.length : Int) != (l1.length : Int)) = false := bne_eq_false_iff_eq.mpr c3
    have c3b2 : (l0.length == l1.length) = true := by first | simpa using c3 | (simp at c3 ⊢; omega)
    clear c3
    have H' := Aside0.mk H
    clear H
    go_enter Tryd.func49, Tryd.ntmps49
    go_wp2
    repeat (go_quiet (fail); try go_wp2)
    go_loopg [5] k (fun kq v5 w' => ∃ (x5_1 : Int), v5 = .int .i64 x5_1 ∧ Aside0 (bibelotlaw03_ints.l0 kq l0 l1 x5_1 = some r) ∧ Aside0 (kq ≤ k) ∧ Drawn0 w w')
    case atStart => exact ⟨(0), (by first | rfl | (simp; done) | (simp [*]; done)), H', ⟨Nat.le_refl _⟩, by repeat (first | exact Drawn0.refl _ | apply Drawn0.step)⟩
    case round =>
      clear H'
      try clear c1
      try clear p2
      try clear c3
      try clear c3b0
      try clear c3b1
      try clear c3b2
      obtain ⟨x5_1, rfl, HA, HK1, ⟨m1, rfl⟩⟩ := hrel
      cases gk with
      | zero => exact absurd HA.out (by simp [bibelotlaw03_ints.l0])
      | succ k1 =>
        have H := HA.out
        clear HA
        simp only [bibelotlaw03_ints.l0] at H
        by_cases c4 : x5_1 < (l0.length : Int)
        · rw [if_pos c4] at H
          have c4b0 : decide (x5_1 < (l0.length : Int)) = true := decide_eq_true c4
          clear c4
          by_cases c5 : 0 ≤ x5_1
          · rw [if_pos c5] at H
            have c5b0 : decide (0 ≤ x5_1) = true := decide_eq_true c5
            clear c5
            by_cases c6 : x5_1 < (l1.length : Int)
            · rw [if_pos c6] at H
              have c6b0 : decide (x5_1 < (l1.length : Int)) = true := decide_eq_true c6
              clear c6
              by_cases c7 : (rd l0 x5_1) = (rd l1 x5_1)
              · rw [if_pos c7] at H
                have c7b0 : ((rd l0 x5_1) == (rd l1 x5_1)) = true := beq_iff_eq.mpr c7
                have c7b1 : ((rd l0 x5_1) != (rd l1 x5_1)) = false := bne_eq_false_iff_eq.mpr c7
                clear c7
                have H' := Aside0.mk H
                clear H
                have p311 : 0 ≤ (x5_1 : Int) := of_decide_eq_true (by first | (with_reducible assumption) | assumption)
                have q311 : x5_1 < (l0.length : Int) := of_decide_eq_true (by first | (with_reducible assumption) | assumption)
                obtain ⟨ad311, e311, hx311_0⟩ := Kd.at_int HR0.out x5_1 p311 q311
                cases e311
                replace p311 := eq_true p311
                replace q311 := eq_true q311
                have p312 : 0 ≤ (x5_1 : Int) := of_decide_eq_true (by first | (with_reducible assumption) | assumption)
                have q312 : x5_1 < (l1.length : Int) := of_decide_eq_true (by first | (with_reducible assumption) | assumption)
                obtain ⟨ad312, e312, hx312_0⟩ := Kd.at_int HR1.out x5_1 p312 q312
                cases e312
                replace p312 := eq_true p312
                replace q312 := eq_true q312
                go_wp2
                repeat (go_quiet (fail); try go_wp2)
                go_roundg k1
                case measure => have := HK1.out; omega
                case rel => exact ⟨(wrap64 (x5_1 + 1)), (by first | rfl | (simp; done) | (simp [*]; done)), H', ⟨by have := HK1.out; omega⟩, by repeat (first | exact Drawn0.refl _ | apply Drawn0.step)⟩
              · rw [if_neg c7] at H
                have c7b0 : ((rd l0 x5_1) == (rd l1 x5_1)) = false := beq_eq_false_iff_ne.mpr c7
                have c7b1 : ((rd l0 x5_1) != (rd l1 x5_1)) = true := bne_iff_ne.mpr c7
                obtain rfl := Option.some.inj H
                have p311 : 0 ≤ (x5_1 : Int) := of_decide_eq_true (by first | (with_reducible assumption) | assumption)
                have q311 : x5_1 < (l0.length : Int) := of_decide_eq_true (by first | (with_reducible assumption) | assumption)
                obtain ⟨ad311, e311, hx311_0⟩ := Kd.at_int HR0.out x5_1 p311 q311
                cases e311
                replace p311 := eq_true p311
                replace q311 := eq_true q311
                have p312 : 0 ≤ (x5_1 : Int) := of_decide_eq_true (by first | (with_reducible assumption) | assumption)
                have q312 : x5_1 < (l1.length : Int) := of_decide_eq_true (by first | (with_reducible assumption) | assumption)
                obtain ⟨ad312, e312, hx312_0⟩ := Kd.at_int HR1.out x5_1 p312 q312
                cases e312
                replace p312 := eq_true p312
                replace q312 := eq_true q312
                go_wp2
                repeat (go_quiet (fail); try go_wp2)
                go_ret
                exact ⟨by first | rfl | (simp; done) | (simp [*]; done), by repeat (first | exact Drawn0.refl _ | apply Drawn0.step)⟩
            · rw [if_neg c6] at H
              exact absurd H (by simp)
          · rw [if_neg c5] at H
            exact absurd H (by simp)
        · rw [if_neg c4] at H
          have c4b0 : decide (x5_1 < (l0.length : Int)) = false := decide_eq_false c4
          clear c4
          obtain rfl := Option.some.inj H
          go_wp2
          repeat (go_quiet (fail); try go_wp2)
          go_ret
          exact ⟨by first | rfl | (simp; done) | (simp [*]; done), by repeat (first | exact Drawn0.refl _ | apply Drawn0.step)⟩
  · rw [if_neg c3] at H
    have c3b0 : ((l0.length : Int) == (l1.length : Int)) = false := beq_eq_false_iff_ne.mpr c3
    have c3b1 : ((l0.length : Int) != (l1.length : Int)) = true := bne_iff_ne.mpr c3
    have c3b2 : (l0.length == l1.length) = false := by first | simpa using c3 | (simp at c3 ⊢; omega)
    obtain rfl := Option.some.inj H
    go_enter Tryd.func49, Tryd.ntmps49
    go_wp2
    repeat (go_quiet (fail); try go_wp2)
    go_ret
    exact ⟨by first | rfl | (simp; done) | (simp [*]; done), by repeat (first | exact Drawn0.refl _ | apply Drawn0.step)⟩

end Go.Proofs.YtnaaomhmoamfpaaDoor.Q
/- The law's lists of discs; Farthest, Kind, and lists compared: what they come to. -/
namespace Go.Proofs.YtnaaomhmoamfpaaDoor.G
set_option linter.unusedVariables false
set_option linter.unusedSimpArgs false
set_option linter.unusedSectionVars false
open Go.Proofs.YtnaaomhmoamfpaaDoor.Q Go.Proofs.YtnaaomhmoamfpaaDoor.Hn
open Go.RowKit Go.Proofs.YtnaaomhmoamfpaaDoorW.PrintWords Go.Proofs.YtnaaomhmoamfpaaDoorW.PrintLast Go.Proofs.YtnaaomhmoamfpaaDoorW.PrintMore

def discAt (l : List Int) (i : Nat) : Int := if i < l.length then umod (nth l i) 3 else 0
/-- The discs that the law makes of a list. -/
def discsL (l : List Int) (n : Nat) : List Int := (List.range n).map (discAt l)
theorem discsL_len (l : List Int) (n : Nat) : (discsL l n).length = n := by simp [discsL]
theorem nth_discsL (l : List Int) (n i : Nat) (h : i < n) : nth (discsL l n) i = discAt l i := by simp [nth, discsL, h]
theorem discsL_succ (l : List Int) (n : Nat) : discsL l n ++ [discAt l n] = discsL l (n + 1) := by simp [discsL, List.range_succ]
theorem discAt_peg (l : List Int) (i : Nat) : Peg (discAt l i) := by
  unfold discAt Peg
  split
  · exact umod_bd _ 3 (by omega)
  · omega
theorem discsL_discs (l : List Int) (n : Nat) : DiscsL (discsL l n) := fun i hi => by
  rw [discsL_len] at hi
  rw [nth_discsL _ _ _ hi]
  exact discAt_peg _ _
theorem discsL_ok (l : List Int) (n : Nat) (h0 : 1 ≤ n) (h1 : n ≤ 40) : okD (discsL l n) = true := by
  rw [okD_iff, discsL_len]
  exact ⟨h0, h1, discsL_discs l n⟩
theorem discs_loop (l : List Int) (n : Nat) (hn : n ≤ 1000) : ∀ e i, i + e = n → Ev (fun k => bibelotlaw03_discs.l0 k l (n : Int) (discsL l i) (i : Int)) (discsL l n)
  | 0, i, h => by
    obtain rfl : i = n := by omega
    refine Ev.step (fun k => ?_) (Ev.now _)
    rw [bibelotlaw03_discs.l0, if_neg (by omega)]
  | e + 1, i, h => by
    refine Ev.step (fun k => ?_) (discs_loop l n hn e (i + 1) (by omega))
    have hb := umod_bd (nth l i) 3 (by omega)
    have hs : discAt l i = if i < l.length then umod (nth l i) 3 else 0 := rfl
    by_cases hl : i < l.length
    · rw [if_pos hl] at hs
      rw [bibelotlaw03_discs.l0, if_pos (by omega), if_pos (by omega), if_pos (by omega), if_pos (by rw [discsL_len]; omega), rd_nth, utmod, w64 (x := umod (nth l i) 3) (by omega) (by omega), w64 (by omega) (by omega), ← hs, discsL_succ]
      rfl
    · rw [if_neg hl] at hs
      rw [bibelotlaw03_discs.l0, if_pos (by omega), if_neg (by omega), if_pos (by rw [discsL_len]; omega), w64 (by omega) (by omega)]
      have e1 : discsL l i ++ [0] = discsL l (i + 1) := by rw [← discsL_succ, hs]
      rw [e1]
      rfl
theorem discs_ev (l : List Int) (n : Nat) (hn : n ≤ 1000) : Ev (fun k => bibelotlaw03_discs.f k l (n : Int)) (discsL l n) := discs_loop l n hn n 0 (by omega)

theorem okD_parts {l : List Int} (h : okD l = true) : 0 < l.length ∧ l.length ≤ 40 ∧ DiscsL l := (okD_iff l).1 h
theorem mx_max (a b : Int) : mx a b = max a b := by unfold mx; omega
theorem farthest_ev (l : List Int) (h : okD l = true) : Ev (fun k => hanoi_Farthest.f k l) (far (nth l) l.length, 0) := by
  obtain ⟨h0, h40, hd⟩ := okD_parts h
  have hc := check_ev l
  have e : checkD l = 0 := by unfold checkD; rw [if_pos h]
  rw [e] at hc
  unfold hanoi_Farthest.f
  refine Ev.bind hc ?_
  simp only [if_true]
  have n0 := tp_nonneg (nth l) l.length 0
  have hst : ∀ (k : Nat) (x : Int) (q : Int), 0 ≤ q → q < 3 → hanoi_Farthest.l0 (k + 1) l x q = (hanoi_toPeg.f k l q).bind fun t => hanoi_Farthest.l0 k l (mx x t) (q + 1) := fun k x q h1 h2 => by
    rw [hanoi_Farthest.l0, if_pos h2, w64 (by omega) (by omega)]
  refine Ev.step (fun k => hst k _ _ (by omega) (by omega)) (Ev.bind (toPeg_ev l h40 hd 0 (by unfold Peg; omega)) ?_)
  refine Ev.step (fun k => hst k _ _ (by omega) (by omega)) (Ev.bind (toPeg_ev l h40 hd 1 (by unfold Peg; omega)) ?_)
  refine Ev.step (fun k => hst k _ _ (by omega) (by omega)) (Ev.bind (toPeg_ev l h40 hd 2 (by unfold Peg; omega)) ?_)
  refine Ev.step (fun k => ?_) (Ev.now _)
  rw [hanoi_Farthest.l0, if_neg (by omega), mx_max, mx_max, mx_max]
  have : max (max (max 0 (tp (nth l) l.length 0)) (tp (nth l) l.length 1)) (tp (nth l) l.length 2) = far (nth l) l.length := by unfold far; omega
  rw [this]
theorem rfar_ev (l : List Int) (h : okD l = true) : Ev (fun k => bibelotref03_Farthest.f k l) (far (nth l) l.length) := by
  obtain ⟨h0, h40, hd⟩ := okD_parts h
  unfold bibelotref03_Farthest.f
  refine Ev.bind (to_ev l h40 hd 0 (by unfold Peg; omega)) ?_
  refine Ev.bind (to_ev l h40 hd 1 (by unfold Peg; omega)) ?_
  refine Ev.bind (to_ev l h40 hd 2 (by unfold Peg; omega)) ?_
  rw [mx_max, mx_max]
  exact Ev.now _

theorem ints_loop (l m : List Int) (hl : l.length ≤ 1000) (hm : l.length = m.length) : ∀ d i : Nat, i + d = l.length → (∀ j, j < i → nth l j = nth m j) → Ev (fun k => bibelotlaw03_ints.l0 k l m (i : Int)) (decide (l = m))
  | 0, i, h, hs => by
    refine Ev.step (fun k => ?_) (Ev.now _)
    have e : l = m := by
      apply List.ext_getElem hm
      intro j h1 h2
      have := hs j (by omega)
      simpa [nth, h1, h2] using this
    rw [bibelotlaw03_ints.l0, if_neg (by omega), decide_eq_true e]
  | d + 1, i, h, hs => by
    by_cases e : nth l i = nth m i
    · refine Ev.step (fun k => ?_) (ints_loop l m hl hm d (i + 1) (by omega) (fun j hj => by
        by_cases e2 : j = i
        · rw [e2]; exact e
        · exact hs j (by omega)))
      rw [bibelotlaw03_ints.l0, if_pos (by omega), if_pos (by omega), if_pos (by omega), rd_nth, rd_nth, if_pos e, w64 (by omega) (by omega)]
      rfl
    · refine Ev.step (fun k => ?_) (Ev.now _)
      have hne : ¬ l = m := fun h2 => e (by rw [h2])
      rw [bibelotlaw03_ints.l0, if_pos (by omega), if_pos (by omega), if_pos (by omega), rd_nth, rd_nth, if_neg e, decide_eq_false hne]
theorem ints_ev (l m : List Int) (hl : l.length ≤ 1000) : Ev (fun k => bibelotlaw03_ints.f k l m) (decide (l = m)) := by
  unfold bibelotlaw03_ints.f
  by_cases e : l.length = m.length
  · simp only [e, if_true]
    exact ints_loop l m hl e l.length 0 (by omega) (fun j hj => by omega)
  · have hne : ¬ l = m := fun h => e (by rw [h])
    have e2 : ¬ (l.length : Int) = (m.length : Int) := by omega
    simp only [e2, if_false, decide_eq_false hne]
    exact Ev.now _

theorem top_same (s : Nat → Int) (n : Nat) : top s s n = 0 := by
  induction n with
  | zero => rfl
  | succ n ih => rw [top, if_pos rfl]; exact ih
theorem top_zero {s t : Nat → Int} {n : Nat} (h : top s t n = 0) : ∀ i, i < n → s i = t i := by
  have hd := dst_by_top s t n
  rw [h] at hd
  exact dst_zero hd
theorem list_top {l m : List Int} (hlen : m.length = l.length) (h : top (nth l) (nth m) l.length = 0) : l = m := by
  apply List.ext_getElem hlen.symm
  intro i h1 h2
  have := top_zero h i h1
  simpa [nth, h1, h2] using this
theorem kind_ev (l m : List Int) : Ev (fun k => hanoi_Kind.f k l m) (if both l m = true then (if l = m then (0, 1) else (kd (nth l) (nth m) l.length, 0)) else (0, openD l m)) := by
  unfold hanoi_Kind.f
  refine Ev.bind (open_ev l m) ?_
  by_cases hb : both l m = true
  · have e := (openD_zero l m).2 hb
    obtain ⟨⟨h0, h40, hd⟩, hdm, hlen⟩ := (both_iff l m).1 hb
    simp only [e, if_true, if_pos hb]
    refine Ev.bind (equal_ev l m (by omega)) ?_
    by_cases hs : l = m
    · simp only [hs, decide_true, if_true]
      exact Ev.now _
    · simp only [hs, decide_false, if_false, Bool.false_eq_true]
      cases hk : top (nth l) (nth m) l.length with
      | zero => exact absurd (list_top hlen hk) hs
      | succ k =>
        refine Ev.bind (planned_ev l m k hb hk) ?_
        have hkd : kd (nth l) (nth m) l.length = if one (nth l) (nth m) k < two (nth l) (nth m) k then 1 else if two (nth l) (nth m) k < one (nth l) (nth m) k then 2 else 3 := by unfold kd; rw [hk]
        rw [hkd]
        simp only [gt_iff_lt]
        by_cases c1 : one (nth l) (nth m) k < two (nth l) (nth m) k
        · rw [if_pos c1, if_pos c1]; exact Ev.now _
        · rw [if_neg c1, if_neg c1]
          by_cases c2 : two (nth l) (nth m) k < one (nth l) (nth m) k
          · rw [if_pos c2, if_pos c2]; exact Ev.now _
          · rw [if_neg c2, if_neg c2]; exact Ev.now _
  · have e : openD l m ≠ 0 := fun h => hb ((openD_zero l m).1 h)
    simp only [e, if_false, if_neg hb]
    exact Ev.now _
theorem both_discs (l m : List Int) (n : Nat) (h0 : 1 ≤ n) (h1 : n ≤ 40) : both (discsL l n) (discsL m n) = true := by
  simp [both, discsL_ok _ _ h0 h1, discsL_len]
theorem dist_both {l m : List Int} (h : both l m = true) : Ev (fun k => hanoi_Distance.f k l m) (dst (nth l) (nth m) l.length, 0) := by
  have := distance_ev l m
  rw [if_pos h] at this
  exact this
end Go.Proofs.YtnaaomhmoamfpaaDoor.G
/- What the laws of the towers call, as plain contracts. -/
namespace Go.Proofs.YtnaaomhmoamfpaaDoor.G
set_option linter.unusedVariables false
set_option linter.unusedSimpArgs false
set_option linter.unusedSectionVars false
open Go.Proofs.YtnaaomhmoamfpaaDoor.Q Go.Proofs.YtnaaomhmoamfpaaDoor.Hn Go.Proofs.YtnaaomhmoamfpaaDoor.K
open Go.RowKit Go.Shelf Go.Proofs.YtnaaomhmoamfpaaDoorW.PrintWords Go.Proofs.YtnaaomhmoamfpaaDoorW.PrintLast Go.Proofs.YtnaaomhmoamfpaaDoorW.PrintMore
/-- A list of discs, read at v. -/
def Rd (w : World) (v : Value) (l : List Int) : Prop := ∃ A c, v = .slice A l.length c ∧ l.length ≤ c ∧ Kd.F (Kd.int .i64) w (fun _ => True) A l.length l
theorem Rd.of {w : World} {base : Nat} {ok : Nat → Prop} {v : Value} {l : List Int} (h : Kd.R (Kd.int .i64) 3 w base ok v l) : Rd w v l := by
  obtain ⟨A, c, rfl, hl, hc⟩ := Kd.R_reads h
  exact ⟨A, c, rfl, hl, fun W' hW => (Kd.R_reads' (Kd.R_step h (fun k _ hk => hW k trivial hk))).2.2⟩
theorem many_calls' (a : Int) (N : Nat) (w : World) (h0 : 1 ≤ N) (h1 : N ≤ 1000) : ∃ n : Nat, 1 ≤ n ∧ n ≤ N ∧ manyOf a N = n ∧ ∀ w : World, Calls Tryd.prog 25 #[.int .i64 a, .int .i64 (N : Int)] w fun e w' => e = .returned (.int .i64 (n : Int)) ∧ ∃ m, w' = w.drewN m := by
  obtain ⟨m1, m2⟩ := many_bd a (N : Int) (by omega)
  obtain ⟨n, hn⟩ := Int.eq_ofNat_of_zero_le (show 0 ≤ manyOf a N by omega)
  refine ⟨n, by omega, by omega, hn, fun w => CallsMono (bibelotlaw03_many.calls a N n w ?_)⟩
  rw [many_f a N (by omega) (by omega), hn]
theorem discs_calls' (A : Option Addr) (c : Nat) (l : List Int) (n : Nat) (hn : n ≤ 1000) (w : World) (hr : Kd.C (Kd.int .i64) w A l.length l) (hc : l.length ≤ c) :
    Calls Tryd.prog 40 #[.slice A l.length c, .int .i64 (n : Int)] w fun e w' => ∃ v, e = .returned v ∧ Kd.R (Kd.int .i64) 3 w' w.heap.size (fun _ => True) v (discsL l n) ∧ Below w.heap.size w w' := by
  obtain ⟨k, h⟩ := Ev.rounds (discs_ev l n hn)
  exact bibelotlaw03_discs.calls k A c l n _ w hr hc h
theorem dist_calls' {l m : List Int} (hb : both l m = true) (A0 A1 : Option Addr) (c0 c1 : Nat) (w : World) (h0 : Rd w (.slice A0 l.length c0) l) (h1 : Rd w (.slice A1 m.length c1) m) :
    Calls Tryd.prog 44 #[.slice A0 l.length c0, .slice A1 m.length c1] w fun e w' => e = .returned (.tuple #[.int .i64 (dst (nth l) (nth m) l.length), .int .i64 0]) ∧ Below w.heap.size w w' := by
  obtain ⟨k, h⟩ := Ev.rounds (dist_both hb)
  exact hanoi_Distance.calls k (fun _ => True) A0 c0 l (fun _ => True) A1 c1 m _ _ w h0 h1 h
theorem far_calls' {l : List Int} (hb : okD l = true) (A0 : Option Addr) (c0 : Nat) (w : World) (h0 : Rd w (.slice A0 l.length c0) l) :
    Calls Tryd.prog 43 #[.slice A0 l.length c0] w fun e w' => e = .returned (.tuple #[.int .i64 (far (nth l) l.length), .int .i64 0]) ∧ Below w.heap.size w w' := by
  obtain ⟨k, h⟩ := Ev.rounds (farthest_ev l hb)
  obtain ⟨A, c, e, hl, hf⟩ := h0
  cases e
  exact hanoi_Farthest.calls k A0 c0 l _ _ w (Kd.F_now hf) hl h
theorem awake_calls' (w : World) : Calls Tryd.prog 26 #[] w fun e w' => e = .returned (.bool true) ∧ Below w.heap.size w w' := by
  obtain ⟨k, h⟩ := Ev.rounds awake_ev
  exact bibelotlaw03_awake.calls k true w h
theorem Rd.below {w w1 : World} {v : Value} {l : List Int} (h : Rd w v l) (hb : Below w.heap.size w w1) : Rd w1 v l := by
  obtain ⟨A, c, e, hl, hf⟩ := h
  exact ⟨A, c, e, hl, Kd.F_below hf hb⟩
end Go.Proofs.YtnaaomhmoamfpaaDoor.G
/- gather: discs brought to a peg: the moves, and the discs then. -/
namespace Go.Proofs.YtnaaomhmoamfpaaDoor.G
set_option linter.unusedVariables false
set_option linter.unusedSimpArgs false
set_option linter.unusedSectionVars false
open Go.Proofs.YtnaaomhmoamfpaaDoor.Q Go.Proofs.YtnaaomhmoamfpaaDoor.Hn
open Go.RowKit Go.Proofs.YtnaaomhmoamfpaaDoorW.PrintWords Go.Proofs.YtnaaomhmoamfpaaDoorW.PrintLast Go.Proofs.YtnaaomhmoamfpaaDoorW.PrintMore
/-- The first k discs are brought to peg p: the moves, and all discs then. -/
def gatherL : Nat → List Int → Int → List (Nat × Int) × List Int
  | 0, d, _ => ([], d)
  | k + 1, d, p =>
    if nth d k = p then gatherL k d p
    else ((gatherL k d (3 - nth d k - p)).1 ++ [(k, p)] ++ (gatherL k ((gatherL k d (3 - nth d k - p)).2.set k p) p).1, (gatherL k ((gatherL k d (3 - nth d k - p)).2.set k p) p).2)
theorem nth_set_self (l : List Int) (k : Nat) (x : Int) (h : k < l.length) : nth (l.set k x) k = x := by simp [nth, h]
theorem nth_set_ne (l : List Int) (k j : Nat) (x : Int) (h : j ≠ k) : nth (l.set k x) j = nth l j := by
  simp only [nth]
  rw [List.getD_eq_getElem?_getD, List.getElem?_set_ne (fun e => h e.symm), ← List.getD_eq_getElem?_getD]
theorem gather_facts : ∀ (k : Nat) (d : List Int) (p : Int), k ≤ d.length → (gatherL k d p).2.length = d.length ∧ (∀ j, k ≤ j → nth (gatherL k d p).2 j = nth d j) ∧ (∀ j, j < k → nth (gatherL k d p).2 j = p)
  | 0, d, p, _ => ⟨rfl, fun _ _ => rfl, fun j h => by omega⟩
  | k + 1, d, p, h => by
    rw [gatherL]
    by_cases c : nth d k = p
    · rw [if_pos c]
      obtain ⟨h1, h2, h3⟩ := gather_facts k d p (by omega)
      refine ⟨h1, fun j hj => h2 j (by omega), fun j hj => ?_⟩
      by_cases e : j = k
      · subst e; rw [h2 j (Nat.le_refl _)]; exact c
      · exact h3 j (by omega)
    · rw [if_neg c]
      obtain ⟨h1, h2, h3⟩ := gather_facts k d (3 - nth d k - p) (by omega)
      obtain ⟨g1, g2, g3⟩ := gather_facts k ((gatherL k d (3 - nth d k - p)).2.set k p) p (by rw [List.length_set]; omega)
      refine ⟨by dsimp only; rw [g1, List.length_set, h1], fun j hj => ?_, fun j hj => ?_⟩
      · dsimp only
        rw [g2 j (by omega), nth_set_ne _ _ _ _ (by omega), h2 j (by omega)]
      · dsimp only
        by_cases e : j = k
        · subst e; rw [g2 j (Nat.le_refl _), nth_set_self _ _ _ (by omega)]
        · exact g3 j (by omega)
theorem gather_len : ∀ (k : Nat) (d : List Int) (p : Int), (gatherL k d p).1.length + 1 ≤ 2 ^ k
  | 0, d, p => by simp [gatherL]
  | k + 1, d, p => by
    have hp2 : 2 ^ (k + 1) = 2 * 2 ^ k := by rw [Nat.pow_succ, Nat.mul_comm]
    have hp1 : 1 ≤ 2 ^ k := Nat.one_le_two_pow
    rw [gatherL]
    by_cases c : nth d k = p
    · rw [if_pos c]
      have := gather_len k d p
      omega
    · rw [if_neg c]
      have h1 := gather_len k d (3 - nth d k - p)
      have h2 := gather_len k ((gatherL k d (3 - nth d k - p)).2.set k p) p
      simp only [List.length_append, List.length_singleton]
      omega
theorem third_peg {a p : Int} (ha : Peg a) (hp : Peg p) (h : a ≠ p) : Peg (3 - a - p) := by unfold Peg at *; omega
theorem gather_pos (k : Nat) (d : List Int) (p : Int) (hk : k ≤ d.length) (hd : DiscsL d) (hp : Peg p) : DiscsL (gatherL k d p).2 := by
  obtain ⟨h1, h2, h3⟩ := gather_facts k d p hk
  intro j hj
  rw [h1] at hj
  by_cases c : j < k
  · rw [h3 j c]; exact hp
  · rw [h2 j (by omega)]; exact hd j hj
theorem discs_set {d : List Int} (hd : DiscsL d) (k : Nat) (p : Int) (hp : Peg p) : DiscsL (d.set k p) := by
  intro j hj
  rw [List.length_set] at hj
  by_cases e : j = k
  · subst e; rw [nth_set_self _ _ _ hj]; exact hp
  · rw [nth_set_ne _ _ _ _ e]; exact hd j hj
end Go.Proofs.YtnaaomhmoamfpaaDoor.G
/- Moves made one after the other. -/
namespace Go.Proofs.YtnaaomhmoamfpaaDoor.G
set_option linter.unusedVariables false
set_option linter.unusedSimpArgs false
set_option linter.unusedSectionVars false
open Go.Proofs.YtnaaomhmoamfpaaDoor.Q Go.Proofs.YtnaaomhmoamfpaaDoor.Hn Go.Proofs.YtnaaomhmoamfpaaDoor.K
open Go.RowKit Go.Proofs.YtnaaomhmoamfpaaDoorW.PrintWords Go.Proofs.YtnaaomhmoamfpaaDoorW.PrintLast Go.Proofs.YtnaaomhmoamfpaaDoorW.PrintMore
def mkI (m : Nat × Int) : S52 := ⟨(m.1 : Int), m.2⟩
def runI (d : List Int) (ms : List (Nat × Int)) : List Int := ms.foldl (fun t m => t.set m.1 m.2) d
theorem run_nil (d : List Int) : runI d [] = d := rfl
theorem run_cons (d : List Int) (m : Nat × Int) (ms : List (Nat × Int)) : runI d (m :: ms) = runI (d.set m.1 m.2) ms := rfl
theorem run_append (d : List Int) (a b : List (Nat × Int)) : runI d (a ++ b) = runI (runI d a) b := by simp [runI, List.foldl_append]
theorem run_len (ms : List (Nat × Int)) : ∀ d : List Int, (runI d ms).length = d.length := by
  induction ms with
  | nil => intro d; rfl
  | cons m ms ih => intro d; rw [run_cons, ih, List.length_set]

end Go.Proofs.YtnaaomhmoamfpaaDoor.G
namespace Go.Proofs.YtnaaomhmoamfpaaDoor.G
end Go.Proofs.YtnaaomhmoamfpaaDoor.G
namespace Go.Proofs.YtnaaomhmoamfpaaDoor.Q
set_option linter.unusedVariables false
set_option linter.unusedSimpArgs false
set_option linter.unusedSectionVars false
open Go.Proofs.YtnaaomhmoamfpaaDoor.G
open Go.RowKit Go.Proofs.YtnaaomhmoamfpaaDoorW.PrintWords Go.Proofs.YtnaaomhmoamfpaaDoorW.PrintLast Go.Proofs.YtnaaomhmoamfpaaDoorW.PrintMore
attribute [local go_sem] max2_int min2_int max_two min_two max_three min_three max_four min_four   -- for this text's walks alone

/-! ### bibelotref03_Can: function 72 -/
mutual
def bibelotref03_Can.j0 : Nat → List Int → Int → Int → Bool → Option (Bool)
  | 0, _, _, _, _ => none
  | k + 1, x0, x1, x2, x34 => if x34 = true then (some false) else (bibelotref03_Can.l0 k x0 x1 x2 0)
def bibelotref03_Can.l0 : Nat → List Int → Int → Int → Int → Option (Bool)
  | 0, _, _, _, _ => none
  | k + 1, x0, x1, x2, x9 => if x9 < x1 then (if 0 ≤ x9 then (if x9 < (x0.length : Int) then (if 0 ≤ x1 then (if x1 < (x0.length : Int) then (if (rd x0 x9) = (rd x0 x1) then (some false) else (if (rd x0 x9) = x2 then (some false) else (bibelotref03_Can.l0 k x0 x1 x2 (wrap64 (x9 + 1))))) else (none)) else (none)) else (none)) else (none)) else (some true)
end
def bibelotref03_Can.f (k : Nat) (l0 : List Int) (a1 : Int) (a2 : Int) (a3 : Int) : Option (Bool) := if a1 < 0 then (bibelotref03_Can.j0 k l0 a1 a2 true) else (if a1 ≥ (l0.length : Int) then (bibelotref03_Can.j0 k l0 a1 a2 true) else (if a2 < 0 then (bibelotref03_Can.j0 k l0 a1 a2 true) else (if a2 ≥ a3 then (bibelotref03_Can.j0 k l0 a1 a2 true) else (if 0 ≤ a1 then (if a1 < (l0.length : Int) then (bibelotref03_Can.j0 k l0 a1 a2 ((rd l0 a1) == a2)) else (none)) else (none)))))
theorem bibelotref03_Can.mono_l : ∀ k, (∀ y0 y1 y2 y3, LeO (bibelotref03_Can.j0 k y0 y1 y2 y3) (bibelotref03_Can.j0 (k + 1) y0 y1 y2 y3)) ∧ (∀ y0 y1 y2 y3, LeO (bibelotref03_Can.l0 k y0 y1 y2 y3) (bibelotref03_Can.l0 (k + 1) y0 y1 y2 y3))
  | 0 => ⟨fun _ _ _ _ r h => by simp [bibelotref03_Can.j0] at h, fun _ _ _ _ r h => by simp [bibelotref03_Can.l0] at h⟩
  | k + 1 => by
    obtain ⟨ih0, ih1⟩ := bibelotref03_Can.mono_l k
    refine ⟨?_, ?_⟩
    · intro y0 y1 y2 y3
      unfold bibelotref03_Can.j0
      repeat' first
      | (with_reducible exact ih0 _ _ _ _)
      | (with_reducible exact ih1 _ _ _ _)
      | (with_reducible exact LeO.refl _)
      | (with_reducible exact LeO.none _)
      | (with_reducible refine LeO.ite ?_ ?_)
      | (with_reducible refine LeO.bind ?_ (fun _ => ?_))
      | exact ih0 _ _ _ _
      | exact ih1 _ _ _ _
      | exact LeO.none _
      | refine LeO.ite ?_ ?_
      | refine LeO.bind ?_ (fun _ => ?_)
    · intro y0 y1 y2 y3
      unfold bibelotref03_Can.l0
      repeat' first
      | (with_reducible exact ih0 _ _ _ _)
      | (with_reducible exact ih1 _ _ _ _)
      | (with_reducible exact LeO.refl _)
      | (with_reducible exact LeO.none _)
      | (with_reducible refine LeO.ite ?_ ?_)
      | (with_reducible refine LeO.bind ?_ (fun _ => ?_))
      | exact ih0 _ _ _ _
      | exact ih1 _ _ _ _
      | exact LeO.none _
      | refine LeO.ite ?_ ?_
      | refine LeO.bind ?_ (fun _ => ?_)
theorem bibelotref03_Can.mono : ∀ a0 a1 a2 a3 k, LeO (bibelotref03_Can.f k a0 a1 a2 a3) (bibelotref03_Can.f (k + 1) a0 a1 a2 a3) := by
  intro a0 a1 a2 a3 k
  obtain ⟨ih0, ih1⟩ := bibelotref03_Can.mono_l k
  unfold bibelotref03_Can.f
  repeat' first
      | (with_reducible exact ih0 _ _ _ _)
      | (with_reducible exact ih1 _ _ _ _)
      | (with_reducible exact LeO.refl _)
      | (with_reducible exact LeO.none _)
      | (with_reducible refine LeO.ite ?_ ?_)
      | (with_reducible refine LeO.bind ?_ (fun _ => ?_))
      | exact ih0 _ _ _ _
      | exact ih1 _ _ _ _
      | exact LeO.none _
      | refine LeO.ite ?_ ?_
      | refine LeO.bind ?_ (fun _ => ?_)
set_option maxHeartbeats 8000000 in
set_option maxRecDepth 100000 in
theorem bibelotref03_Can.calls (k : Nat) (A0 : Option Addr) (c0 : Nat) (l0 : List Int) (a1 : Int) (a2 : Int) (a3 : Int) (r : Bool) (w : World) (hr0 : Kd.C (Kd.int .i64) w A0 l0.length l0) (hc0 : l0.length ≤ c0) (h : bibelotref03_Can.f k l0 a1 a2 a3 = some r) :
    Calls Tryd.prog 72 #[.slice A0 l0.length c0, .int .i64 a1, .int .i64 a2, .int .i64 a3] w fun e w' => e = .returned (.bool r) ∧ Drawn0 w w' := by
  have HR0 := Aside0.mk hr0
  have HC0 := Aside0.mk hc0
  clear hr0 hc0
  have H : (if a1 < 0 then (bibelotref03_Can.j0 k l0 a1 a2 true) else (if a1 ≥ (l0.length : Int) then (bibelotref03_Can.j0 k l0 a1 a2 true) else (if a2 < 0 then (bibelotref03_Can.j0 k l0 a1 a2 true) else (if a2 ≥ a3 then (bibelotref03_Can.j0 k l0 a1 a2 true) else (if 0 ≤ a1 then (if a1 < (l0.length : Int) then (bibelotref03_Can.j0 k l0 a1 a2 ((rd l0 a1) == a2)) else (none)) else (none)))))) = some r := h
  clear h
  have HC5 := Aside0.mk H
  clear H
  go_enter Tryd.func72, Tryd.ntmps72
  go_upto_region 1 with (fail)
  repeat (go_quiet (fail); go_upto_region 1 with (fail))
  go_cut [34] (fun v34 wc => ∃ (kq : Nat) (x34_4 : Bool), v34 = .bool x34_4 ∧ Aside0 (bibelotref03_Can.j0 kq l0 a1 a2 x34_4 = some r) ∧ Aside0 (kq ≤ k) ∧ Drawn0 w wc)
  case first =>
    have H := HC5.out
    clear HC5
    by_cases c6 : a1 < 0
    · rw [if_pos c6] at H
      have c6b0 : decide (a1 < 0) = true := decide_eq_true c6
      clear c6
      (first | rw [c6b0] | (simp only [i64_w, i32_w]; rw [c6b0]) | skip)
      have H' := Aside0.mk H
      clear H
      go_wp2
      repeat (go_quiet (fail); try go_wp2)
      go_meet
      case rel => exact ⟨_, (true), (by first | rfl | (simp; done) | (simp [*]; done)), H', ⟨by first | omega | exact Nat.le_refl _⟩, by repeat (first | exact Drawn0.refl _ | apply Drawn0.step)⟩
    · rw [if_neg c6] at H
      have c6b0 : decide (a1 < 0) = false := decide_eq_false c6
      clear c6
      (first | rw [c6b0] | (simp only [i64_w, i32_w]; rw [c6b0]) | skip)
      by_cases c7 : a1 ≥ (l0.length : Int)
      · rw [if_pos c7] at H
        have c7b0 : decide ((l0.length : Int) ≤ a1) = true := decide_eq_true c7
        clear c7
        have H' := Aside0.mk H
        clear H
        go_wp2
        repeat (go_quiet (fail); try go_wp2)
        go_meet
        case rel => exact ⟨_, (true), (by first | rfl | (simp; done) | (simp [*]; done)), H', ⟨by first | omega | exact Nat.le_refl _⟩, by repeat (first | exact Drawn0.refl _ | apply Drawn0.step)⟩
      · rw [if_neg c7] at H
        have c7b0 : decide ((l0.length : Int) ≤ a1) = false := decide_eq_false c7
        clear c7
        by_cases c8 : a2 < 0
        · rw [if_pos c8] at H
          have c8b0 : decide (a2 < 0) = true := decide_eq_true c8
          clear c8
          have H' := Aside0.mk H
          clear H
          go_wp2
          repeat (go_quiet (fail); try go_wp2)
          go_meet
          case rel => exact ⟨_, (true), (by first | rfl | (simp; done) | (simp [*]; done)), H', ⟨by first | omega | exact Nat.le_refl _⟩, by repeat (first | exact Drawn0.refl _ | apply Drawn0.step)⟩
        · rw [if_neg c8] at H
          have c8b0 : decide (a2 < 0) = false := decide_eq_false c8
          clear c8
          by_cases c9 : a2 ≥ a3
          · rw [if_pos c9] at H
            have c9b0 : decide (a3 ≤ a2) = true := decide_eq_true c9
            clear c9
            have H' := Aside0.mk H
            clear H
            go_wp2
            repeat (go_quiet (fail); try go_wp2)
            go_meet
            case rel => exact ⟨_, (true), (by first | rfl | (simp; done) | (simp [*]; done)), H', ⟨by first | omega | exact Nat.le_refl _⟩, by repeat (first | exact Drawn0.refl _ | apply Drawn0.step)⟩
          · rw [if_neg c9] at H
            have c9b0 : decide (a3 ≤ a2) = false := decide_eq_false c9
            clear c9
            by_cases c10 : 0 ≤ a1
            · rw [if_pos c10] at H
              have c10b0 : decide (0 ≤ a1) = true := decide_eq_true c10
              clear c10
              by_cases c11 : a1 < (l0.length : Int)
              · rw [if_pos c11] at H
                have c11b0 : decide (a1 < (l0.length : Int)) = true := decide_eq_true c11
                clear c11
                have H' := Aside0.mk H
                clear H
                have p205 : 0 ≤ (a1 : Int) := of_decide_eq_true (by first | (with_reducible assumption) | assumption)
                have q205 : a1 < (l0.length : Int) := of_decide_eq_true (by first | (with_reducible assumption) | assumption)
                obtain ⟨ad205, e205, hx205_0⟩ := Kd.at_int HR0.out a1 p205 q205
                cases e205
                replace p205 := eq_true p205
                replace q205 := eq_true q205
                go_wp2
                repeat (go_quiet (fail); try go_wp2)
                go_meet
                case rel => exact ⟨_, (((rd l0 a1) == a2)), (by first | rfl | (simp; done) | (simp [*]; done)), H', ⟨by first | omega | exact Nat.le_refl _⟩, by repeat (first | exact Drawn0.refl _ | apply Drawn0.step)⟩
              · rw [if_neg c11] at H
                exact absurd H (by simp)
            · rw [if_neg c10] at H
              exact absurd H (by simp)
  case rest =>
    clear HC5
    try clear c1
    try clear p2
    try clear q2
    try clear hx2
    try clear c6
    try clear c6b0
    try clear c7
    try clear c7b0
    try clear c8
    try clear c8b0
    try clear c9
    try clear c9b0
    try clear c10
    try clear c10b0
    try clear c11
    try clear c11b0
    try clear hx205_0
    try clear p205
    try clear q205
    obtain ⟨kq, x34_4, rfl, HA, HJ4, ⟨mc4, rfl⟩⟩ := hcut
    cases kq with
    | zero => exact absurd HA.out (by simp [bibelotref03_Can.j0])
    | succ kj4 =>
      have H := HA.out
      clear HA
      simp only [bibelotref03_Can.j0] at H
      by_cases c12 : x34_4 = true
      · subst c12
        have H1 : (some false) = some r := by rw [if_pos rfl] at H; exact H
        clear H
        have H := H1
        clear H1
        obtain rfl := Option.some.inj H
        go_wp2
        repeat (go_quiet (fail); try go_wp2)
        go_ret
        exact ⟨by first | rfl | (simp; done) | (simp [*]; done), by repeat (first | exact Drawn0.refl _ | apply Drawn0.step)⟩
      · replace c12 := Bool.eq_false_iff.mpr c12
        subst c12
        have H1 : (bibelotref03_Can.l0 kj4 l0 a1 a2 0) = some r := by rw [if_neg (show ¬ (false = true) by decide)] at H; exact H
        clear H
        have H := H1
        clear H1
        have H' := Aside0.mk H
        clear H
        go_wp2
        repeat (go_quiet (fail); try go_wp2)
        go_loopg [9] kj4 (fun kq v9 w' => ∃ (x9_2 : Int), v9 = .int .i64 x9_2 ∧ Aside0 (bibelotref03_Can.l0 kq l0 a1 a2 x9_2 = some r) ∧ Aside0 (kq ≤ kj4) ∧ Drawn0 w w')
        case atStart => exact ⟨(0), (by first | rfl | (simp; done) | (simp [*]; done)), H', ⟨Nat.le_refl _⟩, by repeat (first | exact Drawn0.refl _ | apply Drawn0.step)⟩
        case round =>
          clear H'
          try clear c1
          try clear p2
          try clear q2
          try clear hx2
          try clear c4
          try clear c6
          try clear c6b0
          try clear c7
          try clear c7b0
          try clear c8
          try clear c8b0
          try clear c9
          try clear c9b0
          try clear c10
          try clear c10b0
          try clear c11
          try clear c11b0
          try clear c12
          try clear hx205_0
          try clear p2
          try clear p205
          try clear q2
          try clear q205
          obtain ⟨x9_2, rfl, HA, HK2, ⟨m2, rfl⟩⟩ := hrel
          cases gk with
          | zero => exact absurd HA.out (by simp [bibelotref03_Can.l0])
          | succ k2 =>
            have H := HA.out
            clear HA
            simp only [bibelotref03_Can.l0] at H
            by_cases c13 : x9_2 < a1
            · rw [if_pos c13] at H
              have c13b0 : decide (x9_2 < a1) = true := decide_eq_true c13
              clear c13
              by_cases c14 : 0 ≤ x9_2
              · rw [if_pos c14] at H
                have c14b0 : decide (0 ≤ x9_2) = true := decide_eq_true c14
                clear c14
                by_cases c15 : x9_2 < (l0.length : Int)
                · rw [if_pos c15] at H
                  have c15b0 : decide (x9_2 < (l0.length : Int)) = true := decide_eq_true c15
                  clear c15
                  by_cases c16 : 0 ≤ a1
                  · rw [if_pos c16] at H
                    have c16b0 : decide (0 ≤ a1) = true := decide_eq_true c16
                    clear c16
                    by_cases c17 : a1 < (l0.length : Int)
                    · rw [if_pos c17] at H
                      have c17b0 : decide (a1 < (l0.length : Int)) = true := decide_eq_true c17
                      clear c17
                      by_cases c18 : (rd l0 x9_2) = (rd l0 a1)
                      · rw [if_pos c18] at H
                        have c18b0 : ((rd l0 x9_2) == (rd l0 a1)) = true := beq_iff_eq.mpr c18
                        have c18b1 : ((rd l0 x9_2) != (rd l0 a1)) = false := bne_eq_false_iff_eq.mpr c18
                        clear c18
                        obtain rfl := Option.some.inj H
                        have p206 : 0 ≤ (x9_2 : Int) := of_decide_eq_true (by first | (with_reducible assumption) | assumption)
                        have q206 : x9_2 < (l0.length : Int) := of_decide_eq_true (by first | (with_reducible assumption) | assumption)
                        obtain ⟨ad206, e206, hx206_0⟩ := Kd.at_int HR0.out x9_2 p206 q206
                        cases e206
                        replace p206 := eq_true p206
                        replace q206 := eq_true q206
                        have p207 : 0 ≤ (a1 : Int) := of_decide_eq_true (by first | (with_reducible assumption) | assumption)
                        have q207 : a1 < (l0.length : Int) := of_decide_eq_true (by first | (with_reducible assumption) | assumption)
                        obtain ⟨ad207, e207, hx207_0⟩ := Kd.at_int HR0.out a1 p207 q207
                        obtain rfl : ad206 = ad207 := (by injection e207)
                        replace p207 := eq_true p207
                        replace q207 := eq_true q207
                        go_wp2
                        repeat (go_quiet (fail); try go_wp2)
                        go_ret
                        exact ⟨by first | rfl | (simp; done) | (simp [*]; done), by repeat (first | exact Drawn0.refl _ | apply Drawn0.step)⟩
                      · rw [if_neg c18] at H
                        have c18b0 : ((rd l0 x9_2) == (rd l0 a1)) = false := beq_eq_false_iff_ne.mpr c18
                        have c18b1 : ((rd l0 x9_2) != (rd l0 a1)) = true := bne_iff_ne.mpr c18
                        by_cases c19 : (rd l0 x9_2) = a2
                        · rw [if_pos c19] at H
                          have c19b0 : ((rd l0 x9_2) == a2) = true := beq_iff_eq.mpr c19
                          have c19b1 : ((rd l0 x9_2) != a2) = false := bne_eq_false_iff_eq.mpr c19
                          clear c19
                          obtain rfl := Option.some.inj H
                          have p206 : 0 ≤ (x9_2 : Int) := of_decide_eq_true (by first | (with_reducible assumption) | assumption)
                          have q206 : x9_2 < (l0.length : Int) := of_decide_eq_true (by first | (with_reducible assumption) | assumption)
                          obtain ⟨ad206, e206, hx206_0⟩ := Kd.at_int HR0.out x9_2 p206 q206
                          cases e206
                          replace p206 := eq_true p206
                          replace q206 := eq_true q206
                          have p207 : 0 ≤ (a1 : Int) := of_decide_eq_true (by first | (with_reducible assumption) | assumption)
                          have q207 : a1 < (l0.length : Int) := of_decide_eq_true (by first | (with_reducible assumption) | assumption)
                          obtain ⟨ad207, e207, hx207_0⟩ := Kd.at_int HR0.out a1 p207 q207
                          obtain rfl : ad206 = ad207 := (by injection e207)
                          replace p207 := eq_true p207
                          replace q207 := eq_true q207
                          have p208 : 0 ≤ (x9_2 : Int) := of_decide_eq_true (by first | (with_reducible assumption) | assumption)
                          have q208 : x9_2 < (l0.length : Int) := of_decide_eq_true (by first | (with_reducible assumption) | assumption)
                          obtain ⟨ad208, e208, hx208_0⟩ := Kd.at_int HR0.out x9_2 p208 q208
                          obtain rfl : ad206 = ad208 := (by injection e208)
                          replace p208 := eq_true p208
                          replace q208 := eq_true q208
                          go_wp2
                          repeat (go_quiet (fail); try go_wp2)
                          go_ret
                          exact ⟨by first | rfl | (simp; done) | (simp [*]; done), by repeat (first | exact Drawn0.refl _ | apply Drawn0.step)⟩
                        · rw [if_neg c19] at H
                          have c19b0 : ((rd l0 x9_2) == a2) = false := beq_eq_false_iff_ne.mpr c19
                          have c19b1 : ((rd l0 x9_2) != a2) = true := bne_iff_ne.mpr c19
                          have H' := Aside0.mk H
                          clear H
                          have p206 : 0 ≤ (x9_2 : Int) := of_decide_eq_true (by first | (with_reducible assumption) | assumption)
                          have q206 : x9_2 < (l0.length : Int) := of_decide_eq_true (by first | (with_reducible assumption) | assumption)
                          obtain ⟨ad206, e206, hx206_0⟩ := Kd.at_int HR0.out x9_2 p206 q206
                          cases e206
                          replace p206 := eq_true p206
                          replace q206 := eq_true q206
                          have p207 : 0 ≤ (a1 : Int) := of_decide_eq_true (by first | (with_reducible assumption) | assumption)
                          have q207 : a1 < (l0.length : Int) := of_decide_eq_true (by first | (with_reducible assumption) | assumption)
                          obtain ⟨ad207, e207, hx207_0⟩ := Kd.at_int HR0.out a1 p207 q207
                          obtain rfl : ad206 = ad207 := (by injection e207)
                          replace p207 := eq_true p207
                          replace q207 := eq_true q207
                          have p208 : 0 ≤ (x9_2 : Int) := of_decide_eq_true (by first | (with_reducible assumption) | assumption)
                          have q208 : x9_2 < (l0.length : Int) := of_decide_eq_true (by first | (with_reducible assumption) | assumption)
                          obtain ⟨ad208, e208, hx208_0⟩ := Kd.at_int HR0.out x9_2 p208 q208
                          obtain rfl : ad206 = ad208 := (by injection e208)
                          replace p208 := eq_true p208
                          replace q208 := eq_true q208
                          go_wp2
                          repeat (go_quiet (fail); try go_wp2)
                          go_roundg k2
                          case measure => have := HJ4.out; have := HK2.out; omega
                          case rel => exact ⟨(wrap64 (x9_2 + 1)), (by first | rfl | (simp; done) | (simp [*]; done)), H', ⟨by have := HJ4.out; have := HK2.out; omega⟩, by repeat (first | exact Drawn0.refl _ | apply Drawn0.step)⟩
                    · rw [if_neg c17] at H
                      exact absurd H (by simp)
                  · rw [if_neg c16] at H
                    exact absurd H (by simp)
                · rw [if_neg c15] at H
                  exact absurd H (by simp)
              · rw [if_neg c14] at H
                exact absurd H (by simp)
            · rw [if_neg c13] at H
              have c13b0 : decide (x9_2 < a1) = false := decide_eq_false c13
              clear c13
              obtain rfl := Option.some.inj H
              go_wp2
              repeat (go_quiet (fail); try go_wp2)
              go_ret
              exact ⟨by first | rfl | (simp; done) | (simp [*]; done), by repeat (first | exact Drawn0.refl _ | apply Drawn0.step)⟩

end Go.Proofs.YtnaaomhmoamfpaaDoor.Q
namespace Go.Proofs.YtnaaomhmoamfpaaDoor.G
end Go.Proofs.YtnaaomhmoamfpaaDoor.G
namespace Go.Proofs.YtnaaomhmoamfpaaDoor.Q
set_option linter.unusedVariables false
set_option linter.unusedSimpArgs false
set_option linter.unusedSectionVars false
open Go.Proofs.YtnaaomhmoamfpaaDoor.G
open Go.RowKit Go.Proofs.YtnaaomhmoamfpaaDoorW.PrintWords Go.Proofs.YtnaaomhmoamfpaaDoorW.PrintLast Go.Proofs.YtnaaomhmoamfpaaDoorW.PrintMore
attribute [local go_sem] max2_int min2_int max_two min_two max_three min_three max_four min_four   -- for this text's walks alone

/-! ### bibelotref03_Moves: function 42 -/
mutual
def bibelotref03_Moves.l0 : Nat → List Int → Int → List (S52) → Int → Option ((List (S52)))
  | 0, _, _, _, _ => none
  | k + 1, x0, x1, x5, x6 => if x6 < (x0.length : Int) then (bibelotref03_Moves.l1 k x0 x1 x5 x6 0) else (some x5)
def bibelotref03_Moves.l1 : Nat → List Int → Int → List (S52) → Int → Int → Option ((List (S52)))
  | 0, _, _, _, _, _ => none
  | k + 1, x0, x1, x5, x6, x7 => if x7 < x1 then ((bibelotref03_Can.f k x0 x6 x7 x1).bind fun t209 => (if t209 = true then (if x5.length < 8796093022208 then (bibelotref03_Moves.l1 k x0 x1 (x5 ++ [(⟨x6, x7⟩ : S52)]) x6 (wrap64 (x7 + 1))) else (none)) else (bibelotref03_Moves.l1 k x0 x1 x5 x6 (wrap64 (x7 + 1))))) else (bibelotref03_Moves.l0 k x0 x1 x5 (wrap64 (x6 + 1)))
end
def bibelotref03_Moves.f (k : Nat) (l0 : List Int) (a1 : Int) : Option ((List (S52))) := bibelotref03_Moves.l0 k l0 a1 ([] : List (S52)) 0
theorem bibelotref03_Moves.mono_l : ∀ k, (∀ y0 y1 y2 y3, LeO (bibelotref03_Moves.l0 k y0 y1 y2 y3) (bibelotref03_Moves.l0 (k + 1) y0 y1 y2 y3)) ∧ (∀ y0 y1 y2 y3 y4, LeO (bibelotref03_Moves.l1 k y0 y1 y2 y3 y4) (bibelotref03_Moves.l1 (k + 1) y0 y1 y2 y3 y4))
  | 0 => ⟨fun _ _ _ _ r h => by simp [bibelotref03_Moves.l0] at h, fun _ _ _ _ _ r h => by simp [bibelotref03_Moves.l1] at h⟩
  | k + 1 => by
    obtain ⟨ih0, ih1⟩ := bibelotref03_Moves.mono_l k
    refine ⟨?_, ?_⟩
    · intro y0 y1 y2 y3
      unfold bibelotref03_Moves.l0
      repeat' first
      | (with_reducible exact ih0 _ _ _ _)
      | (with_reducible exact ih1 _ _ _ _ _)
      | (with_reducible exact bibelotref03_Can.mono _ _ _ _ _)
      | (with_reducible exact LeO.refl _)
      | (with_reducible exact LeO.none _)
      | (with_reducible refine LeO.ite ?_ ?_)
      | (with_reducible refine LeO.bind ?_ (fun _ => ?_))
      | exact ih0 _ _ _ _
      | exact ih1 _ _ _ _ _
      | exact bibelotref03_Can.mono _ _ _ _ _
      | exact LeO.none _
      | refine LeO.ite ?_ ?_
      | refine LeO.bind ?_ (fun _ => ?_)
    · intro y0 y1 y2 y3 y4
      unfold bibelotref03_Moves.l1
      repeat' first
      | (with_reducible exact ih0 _ _ _ _)
      | (with_reducible exact ih1 _ _ _ _ _)
      | (with_reducible exact bibelotref03_Can.mono _ _ _ _ _)
      | (with_reducible exact LeO.refl _)
      | (with_reducible exact LeO.none _)
      | (with_reducible refine LeO.ite ?_ ?_)
      | (with_reducible refine LeO.bind ?_ (fun _ => ?_))
      | exact ih0 _ _ _ _
      | exact ih1 _ _ _ _ _
      | exact bibelotref03_Can.mono _ _ _ _ _
      | exact LeO.none _
      | refine LeO.ite ?_ ?_
      | refine LeO.bind ?_ (fun _ => ?_)
theorem bibelotref03_Moves.mono : ∀ a0 a1 k, LeO (bibelotref03_Moves.f k a0 a1) (bibelotref03_Moves.f (k + 1) a0 a1) := by
  intro a0 a1 k
  obtain ⟨ih0, ih1⟩ := bibelotref03_Moves.mono_l k
  unfold bibelotref03_Moves.f
  repeat' first
      | (with_reducible exact ih0 _ _ _ _)
      | (with_reducible exact ih1 _ _ _ _ _)
      | (with_reducible exact bibelotref03_Can.mono _ _ _ _ _)
      | (with_reducible exact LeO.refl _)
      | (with_reducible exact LeO.none _)
      | (with_reducible refine LeO.ite ?_ ?_)
      | (with_reducible refine LeO.bind ?_ (fun _ => ?_))
      | exact ih0 _ _ _ _
      | exact ih1 _ _ _ _ _
      | exact bibelotref03_Can.mono _ _ _ _ _
      | exact LeO.none _
      | refine LeO.ite ?_ ?_
      | refine LeO.bind ?_ (fun _ => ?_)
set_option maxHeartbeats 8000000 in
set_option maxRecDepth 100000 in
theorem bibelotref03_Moves.calls (k : Nat) (A0 : Option Addr) (c0 : Nat) (l0 : List Int) (a1 : Int) (r : List (S52)) (w : World) (hr0 : Kd.C (Kd.int .i64) w A0 l0.length l0) (hc0 : l0.length ≤ c0) (h : bibelotref03_Moves.f k l0 a1 = some r) :
    Calls Tryd.prog 42 #[.slice A0 l0.length c0, .int .i64 a1] w fun e w' => ∃ v0_ : Value, e = .returned (v0_) ∧ Kd.R k52 52 w' w.heap.size (fun _ => True) v0_ r ∧ Below w.heap.size w w' := by
  have hu52 := Tryd.underlying52
  have HR0 := Aside0.mk hr0
  have HC0 := Aside0.mk hc0
  clear hr0 hc0
  have HB := Aside0.mk (Below.refl w.heap.size w)
  have H : (bibelotref03_Moves.l0 k l0 a1 ([] : List (S52)) 0) = some r := h
  clear h
  have H' := Aside0.mk H
  clear H
  go_enter Tryd.func42, Tryd.ntmps42
  go_wp2
  go_loopg [5, 6] k (fun kq v5 v6 w' => ∃ (x5_1 : List (S52)) (x6_1 : Int), v6 = .int .i64 x6_1 ∧ Aside0 (bibelotref03_Moves.l0 kq l0 a1 x5_1 x6_1 = some r) ∧ Aside0 (kq ≤ k) ∧ Aside0 (Kd.R k52 52 w' w.heap.size (fun _ => True) v5 x5_1) ∧ Aside0 (Below w.heap.size w w'))
  case atStart => exact ⟨(([] : List (S52))), (0), (by first | rfl | (simp; done) | (simp [*]; done)), H', ⟨Nat.le_refl _⟩, ⟨by first | exact Kd.R_nil _ _ _ _ _ | exact Kd.N_nil _ _ _ _ _ | exact Kd.V_nil _ _ _ _ _ | exact Kd.Q_nil _ _ _ _ _ | exact Kd.S_nil _ _ _ _ _⟩, ⟨by repeat (first | (with_reducible first | exact HB.out | apply below_alloc | apply pw_below_drewN | apply below_drew1) | exact HB.out)⟩⟩
  case round =>
    clear H'
    try clear p2
    obtain ⟨x5_1, x6_1, rfl, HA, HK1, HO_5, HB⟩ := hrel
    cases gk with
    | zero => exact absurd HA.out (by simp [bibelotref03_Moves.l0])
    | succ k1 =>
      have H := HA.out
      clear HA
      simp only [bibelotref03_Moves.l0] at H
      by_cases c3 : x6_1 < (l0.length : Int)
      · rw [if_pos c3] at H
        have c3b0 : decide (x6_1 < (l0.length : Int)) = true := decide_eq_true c3
        clear c3
        have H' := Aside0.mk H
        clear H
        go_wp2
        go_loopg [5, 7] k1 (fun kq v5 v7 w' => ∃ (x5_2 : List (S52)) (x7_2 : Int), v7 = .int .i64 x7_2 ∧ Aside0 (bibelotref03_Moves.l1 kq l0 a1 x5_2 x6_1 x7_2 = some r) ∧ Aside0 (kq ≤ k1) ∧ Aside0 (Kd.R k52 52 w' w.heap.size (fun _ => True) v5 x5_2) ∧ Aside0 (Below w.heap.size w w'))
        case atStart => exact ⟨(x5_1), (0), (by first | rfl | (simp; done) | (simp [*]; done)), H', ⟨Nat.le_refl _⟩, ⟨by (with_reducible repeat (first | apply Kd.R_alloc | apply Kd.R_drewN | apply Kd.R_drew)); exact HO_5.out⟩, ⟨by repeat (first | (with_reducible first | exact HB.out | apply below_alloc | apply pw_below_drewN | apply below_drew1) | exact HB.out)⟩⟩
        case round =>
          clear H'
          try clear p2
          try clear c3
          try clear c3b0
          try clear p2
          obtain ⟨x5_2, x7_2, rfl, HA, HK2, HO_5, HB⟩ := hrel
          cases gk with
          | zero => exact absurd HA.out (by simp [bibelotref03_Moves.l1])
          | succ k2 =>
            have H := HA.out
            clear HA
            simp only [bibelotref03_Moves.l1] at H
            by_cases c4 : x7_2 < a1
            · rw [if_pos c4] at H
              have c4b0 : decide (x7_2 < a1) = true := decide_eq_true c4
              clear c4
              replace H := Option.bind_eq_some_iff.mp H
              obtain ⟨t209, A50, H⟩ := H
              replace H : (if t209 = true then (if x5_2.length < 8796093022208 then (bibelotref03_Moves.l1 k2 l0 a1 (x5_2 ++ [(⟨x6_1, x7_2⟩ : S52)]) x6_1 (wrap64 (x7_2 + 1))) else (none)) else (bibelotref03_Moves.l1 k2 l0 a1 x5_2 x6_1 (wrap64 (x7_2 + 1)))) = some r := H
              have A5 := Aside0.mk A50
              clear A50
              by_cases c6 : t209 = true
              · subst c6
                have H1 : (if x5_2.length < 8796093022208 then (bibelotref03_Moves.l1 k2 l0 a1 (x5_2 ++ [(⟨x6_1, x7_2⟩ : S52)]) x6_1 (wrap64 (x7_2 + 1))) else (none)) = some r := by rw [if_pos rfl] at H; exact H
                clear H
                have H := H1
                clear H1
                by_cases c7 : x5_2.length < 8796093022208
                · rw [if_pos c7] at H
                  have LMc7 := Aside0.mk c7
                  clear c7
                  obtain ⟨y210, hy210⟩ : ∃ y_ : List (S52), y_ = (x5_2 ++ [(⟨x6_1, x7_2⟩ : S52)]) := ⟨_, rfl⟩
                  replace H : (bibelotref03_Moves.l1 k2 l0 a1 y210 x6_1 (wrap64 (x7_2 + 1))) = some r := by first | (rw [hy210]; with_reducible exact H) | (have H2_ := (Option.bind_some _ _).symm.trans H; rw [hy210]; with_reducible exact H2_) | (have H2_ := (Option.bind_some _ _).symm.trans H; with_reducible exact H2_) | with_reducible exact H | (rw [hy210]; exact H) | exact H
                  have Ny210 := Aside0.mk hy210
                  clear hy210
                  have H' := Aside0.mk H
                  clear H
                  go_wp2_with (first | ((with_reducible refine gate_callee (f := 72) rfl ?_); refine goesL_ (some 23) rfl rfl Tryd.func72 (by kernel_rfl) rfl #[.slice A0 l0.length c0, .int .i64 x6_1, .int .i64 x7_2, .int .i64 a1] rfl (by (try simp only [List.map_toArray, List.map_cons, List.map_nil]); first | done | rfl | (simp only [List.length_drop, List.length_take]; rfl)) ?_; (with_reducible refine (bibelotref03_Can.calls k2 _ _ l0 x6_1 x7_2 a1 true _ ?side1 ?side2 A5.out).mono ?_); (case side1 => repeat (first | exact (Kd.C_below HR0.out HB.out) | (with_reducible refine Kd.C_alloc ?_ _) | (with_reducible refine Kd.C_drewN ?_ _) | (with_reducible refine Kd.C_drew ?_))); (case side2 => exact HC0.out); rintro e w' ⟨rfl, ⟨nd, rfl⟩⟩; refine ⟨_, rfl, ?_⟩) | ((with_reducible refine gate_builtin (b := .append) (xs := #[.tmp 24, .tmp 28]) rfl ?_); at_builtin; refine Kd.R_append k52 (w0 := w) w.heap.size rfl (.tmp 24) (.tmp 28) 48 52 (.agg #[(.int .i64 0), (.int .i64 0)]) 16 rfl Tryd.underlying48 info52 rfl (by decide) (by omega) u5 x5_2 (⟨x6_1, x7_2⟩ : S52) [.int .i64 x6_1, .int .i64 x7_2] (fun _ => True) (fun _ => False) rfl rfl ?aP (fun _ hk => hk.elim) ?aF ?aO ?aB ?aS ?aL ?_; (case aP => exact k52_mkM _ _ _ (⟨x6_1, x7_2⟩ : S52)); (case aB => exact (by repeat (first | (with_reducible first | exact HB.out | apply below_alloc | apply pw_below_drewN | apply below_drew1) | exact HB.out))); (case aF => exact (fun _ _ => trivial)); (case aO => exact (by (with_reducible repeat (first | apply Kd.R_alloc | apply Kd.R_drewN | apply Kd.R_drew)); exact HO_5.out)); (case aS => exact (below_size (by repeat (first | (with_reducible first | exact HB.out | apply below_alloc | apply pw_below_drewN | apply below_drew1) | exact HB.out)))); (case aL => have := LMc7.out; omega); intro v211 w8 ho hb hg hat; rw [← Ny210.out] at ho; have n0_ := Aside0.mk (hb); have n1_ := Aside0.mk (ho); clear HB; clear HO_5; have HB := n0_; have HO212 := n1_; clear n0_ n1_; clear ho hb hg hat))
                  go_roundg k2
                  case measure => have := HK1.out; have := HK2.out; omega
                  case rel => exact ⟨(y210), (wrap64 (x7_2 + 1)), (by first | rfl | (simp; done) | (simp [*]; done)), H', ⟨by have := HK1.out; have := HK2.out; omega⟩, ⟨by (with_reducible repeat (first | apply Kd.R_alloc | apply Kd.R_drewN | apply Kd.R_drew)); exact HO212.out⟩, ⟨by repeat (first | (with_reducible first | exact HB.out | apply below_alloc | apply pw_below_drewN | apply below_drew1) | exact HB.out)⟩⟩
                · rw [if_neg c7] at H
                  exact absurd H (by simp)
              · replace c6 := Bool.eq_false_iff.mpr c6
                subst c6
                have H1 : (bibelotref03_Moves.l1 k2 l0 a1 x5_2 x6_1 (wrap64 (x7_2 + 1))) = some r := by rw [if_neg (show ¬ (false = true) by decide)] at H; exact H
                clear H
                have H := H1
                clear H1
                have H' := Aside0.mk H
                clear H
                go_wp2_with (first | ((with_reducible refine gate_callee (f := 72) rfl ?_); refine goesL_ (some 23) rfl rfl Tryd.func72 (by kernel_rfl) rfl #[.slice A0 l0.length c0, .int .i64 x6_1, .int .i64 x7_2, .int .i64 a1] rfl (by (try simp only [List.map_toArray, List.map_cons, List.map_nil]); first | done | rfl | (simp only [List.length_drop, List.length_take]; rfl)) ?_; (with_reducible refine (bibelotref03_Can.calls k2 _ _ l0 x6_1 x7_2 a1 false _ ?side1 ?side2 A5.out).mono ?_); (case side1 => repeat (first | exact (Kd.C_below HR0.out HB.out) | (with_reducible refine Kd.C_alloc ?_ _) | (with_reducible refine Kd.C_drewN ?_ _) | (with_reducible refine Kd.C_drew ?_))); (case side2 => exact HC0.out); rintro e w' ⟨rfl, ⟨nd, rfl⟩⟩; refine ⟨_, rfl, ?_⟩))
                go_roundg k2
                case measure => have := HK1.out; have := HK2.out; omega
                case rel => exact ⟨(x5_2), (wrap64 (x7_2 + 1)), (by first | rfl | (simp; done) | (simp [*]; done)), H', ⟨by have := HK1.out; have := HK2.out; omega⟩, ⟨by (with_reducible repeat (first | apply Kd.R_alloc | apply Kd.R_drewN | apply Kd.R_drew)); exact HO_5.out⟩, ⟨by repeat (first | (with_reducible first | exact HB.out | apply below_alloc | apply pw_below_drewN | apply below_drew1) | exact HB.out)⟩⟩
            · rw [if_neg c4] at H
              have c4b0 : decide (x7_2 < a1) = false := decide_eq_false c4
              clear c4
              have H' := Aside0.mk H
              clear H
              go_wp2
              go_roundg k2
              case measure => have := HK1.out; have := HK2.out; omega
              case rel => exact ⟨(x5_2), (wrap64 (x6_1 + 1)), (by first | rfl | (simp; done) | (simp [*]; done)), H', ⟨by have := HK1.out; have := HK2.out; omega⟩, ⟨by (with_reducible repeat (first | apply Kd.R_alloc | apply Kd.R_drewN | apply Kd.R_drew)); exact HO_5.out⟩, ⟨by repeat (first | (with_reducible first | exact HB.out | apply below_alloc | apply pw_below_drewN | apply below_drew1) | exact HB.out)⟩⟩
      · rw [if_neg c3] at H
        have c3b0 : decide (x6_1 < (l0.length : Int)) = false := decide_eq_false c3
        clear c3
        obtain rfl := Option.some.inj H
        go_wp2
        go_ret
        exact ⟨_, by first | rfl | (simp [errW_none, errW_some] <;> rfl) | (simp [*, errW_none, errW_some] <;> rfl), by (with_reducible repeat (first | apply Kd.R_alloc | apply Kd.R_drewN | apply Kd.R_drew)); exact HO_5.out, by repeat (first | (with_reducible first | exact HB.out | apply below_alloc | apply pw_below_drewN | apply below_drew1) | exact HB.out)⟩

end Go.Proofs.YtnaaomhmoamfpaaDoor.Q
/- The document's Can and Moves: what they come to. -/
namespace Go.Proofs.YtnaaomhmoamfpaaDoor.G
set_option linter.unusedVariables false
set_option linter.unusedSimpArgs false
set_option linter.unusedSectionVars false
open Go.Proofs.YtnaaomhmoamfpaaDoor.Q Go.Proofs.YtnaaomhmoamfpaaDoor.Hn
open Go.RowKit Go.Proofs.YtnaaomhmoamfpaaDoorW.PrintWords Go.Proofs.YtnaaomhmoamfpaaDoorW.PrintLast Go.Proofs.YtnaaomhmoamfpaaDoorW.PrintMore

/-- Can disc d of l be moved to peg q? -/
def canB (l : List Int) (d : Nat) (q : Int) : Bool := !cov l d (nth l d) && !cov l d q && decide (q ≠ nth l d)
theorem can_loop (l : List Int) (d : Nat) (q : Int) (hd : d < l.length) (hl : l.length ≤ 1000) (hne : q ≠ nth l d) : ∀ e i, i + e = d → (∀ j, j < i → nth l j ≠ nth l d ∧ nth l j ≠ q) →
    Ev (fun k => bibelotref03_Can.l0 k l (d : Int) q (i : Int)) (canB l d q)
  | 0, i, h, hi => by
    obtain rfl : i = d := by omega
    refine Ev.step (fun k => ?_) (Ev.now _)
    have h1 := (cov_no l (nth l i) i (by omega)).2 (fun j hj => (hi j hj).1)
    have h2 := (cov_no l q i (by omega)).2 (fun j hj => (hi j hj).2)
    have : canB l i q = true := by unfold canB; rw [h1, h2, decide_eq_true hne]; rfl
    rw [bibelotref03_Can.l0, if_neg (by omega), this]
  | e + 1, i, h, hi => by
    by_cases c1 : nth l i = nth l d
    · refine Ev.step (fun k => ?_) (Ev.now _)
      have h1 := (cov_iff l (nth l d) d (by omega)).2 ⟨i, by omega, c1⟩
      have : canB l d q = false := by unfold canB; rw [h1]; rfl
      rw [bibelotref03_Can.l0, if_pos (by omega), if_pos (by omega), if_pos (by omega), if_pos (by omega), if_pos (by omega), rd_nth, rd_nth, if_pos c1, this]
    · by_cases c2 : nth l i = q
      · refine Ev.step (fun k => ?_) (Ev.now _)
        have h1 := (cov_iff l q d (by omega)).2 ⟨i, by omega, c2⟩
        have : canB l d q = false := by unfold canB; rw [h1]; simp
        rw [bibelotref03_Can.l0, if_pos (by omega), if_pos (by omega), if_pos (by omega), if_pos (by omega), if_pos (by omega), rd_nth, rd_nth, if_neg c1, if_pos c2, this]
      · refine Ev.step (fun k => ?_) (can_loop l d q hd hl hne e (i + 1) (by omega) (fun j hj => by
          by_cases ej : j = i
          · rw [ej]; exact ⟨c1, c2⟩
          · exact hi j (by omega)))
        rw [bibelotref03_Can.l0, if_pos (by omega), if_pos (by omega), if_pos (by omega), if_pos (by omega), if_pos (by omega), rd_nth, rd_nth, if_neg c1, if_neg c2, w64 (by omega) (by omega)]
        rfl
theorem can_ev (l : List Int) (d q P : Nat) (hd : d < l.length) (hl : l.length ≤ 1000) (hq : q < P) : Ev (fun k => bibelotref03_Can.f k l (d : Int) (q : Int) (P : Int)) (canB l d (q : Int)) := by
  have h1 : ¬ (d : Int) < 0 := by omega
  have h2 : ¬ (d : Int) ≥ (l.length : Int) := by omega
  have h3 : ¬ (q : Int) < 0 := by omega
  have h4 : ¬ (q : Int) ≥ (P : Int) := by omega
  have h5 : (0 : Int) ≤ (d : Int) := by omega
  have h6 : (d : Int) < (l.length : Int) := by omega
  unfold bibelotref03_Can.f
  simp only [h1, h2, h3, h4, h5, h6, if_false, if_true, rd_nth]
  by_cases c : nth l d = (q : Int)
  · refine Ev.step (fun k => ?_) (Ev.now _)
    have : canB l d (q : Int) = false := by unfold canB; rw [decide_eq_false (fun h => h c.symm)]; simp
    rw [bibelotref03_Can.j0, if_pos (beq_iff_eq.2 c), this]
  · refine Ev.step (fun k => ?_) (can_loop l d q hd hl (fun h => c h.symm) d 0 (by omega) (fun j hj => by omega))
    rw [bibelotref03_Can.j0, if_neg (by rw [beq_iff_eq]; exact c)]
    rfl

def mkS (m : Nat × Nat) : S52 := ⟨(m.1 : Int), (m.2 : Int)⟩
/-- Disc d's moves to the first q pegs. -/
def mvq (l : List Int) (d q : Nat) : List (Nat × Nat) := if cov l d (nth l d) = true then [] else movesTo l d q
theorem mvq_zero (l : List Int) (d : Nat) : mvq l d 0 = [] := by
  unfold mvq
  split
  · rfl
  · exact movesTo_zero l d
theorem mvq_succ (l : List Int) (d q : Nat) : mvq l d (q + 1) = if canB l d (q : Int) = true then mvq l d q ++ [(d, q)] else mvq l d q := by
  unfold mvq canB
  rw [movesTo_succ]
  by_cases h1 : cov l d (nth l d) = true
  · simp [h1]
  · have h1' : cov l d (nth l d) = false := by simpa using h1
    by_cases h2 : cov l d (q : Int) = true
    · simp [h1', h2]
    · have h2' : cov l d (q : Int) = false := by simpa using h2
      by_cases h3 : (q : Int) = nth l d <;> simp [h1', h2', h3]
theorem mvq_len (l : List Int) (d q : Nat) : (mvq l d q).length ≤ q := by
  induction q with
  | zero => rw [mvq_zero]; simp
  | succ q ih =>
    rw [mvq_succ]
    split
    · rw [List.length_append]; simp; omega
    · omega
theorem movesIn_len (l : List Int) (P n : Nat) : (movesIn l P n).length ≤ n * P := by
  induction n with
  | zero => simp [movesIn]
  | succ n ih =>
    have h1 : movesAt l P n = mvq l n P := rfl
    have h2 := mvq_len l n P
    rw [movesIn_succ, List.length_append, h1, Nat.add_mul]
    omega
mutual
theorem rmoves_l0 (l : List Int) (P : Nat) (hl : l.length ≤ 1000) (hP : P ≤ 1000) (e d : Nat) (h : d + e = l.length) : Ev (fun k => bibelotref03_Moves.l0 k l (P : Int) ((movesIn l P d).map mkS) (d : Int)) ((movesL l P).map mkS) := by
  match e with
  | 0 =>
    obtain rfl : d = l.length := by omega
    refine Ev.step (fun k => ?_) (Ev.now _)
    rw [bibelotref03_Moves.l0, if_neg (by omega)]
    rfl
  | e + 1 =>
    refine Ev.step (fun k => ?_) (rmoves_l1 l P hl hP e d h P 0 (by omega))
    rw [bibelotref03_Moves.l0, if_pos (by omega), mvq_zero, List.append_nil]
    rfl
termination_by (e, 0)
theorem rmoves_l1 (l : List Int) (P : Nat) (hl : l.length ≤ 1000) (hP : P ≤ 1000) (e d : Nat) (h : d + (e + 1) = l.length) (f q : Nat) (hq : q + f = P) : Ev (fun k => bibelotref03_Moves.l1 k l (P : Int) ((movesIn l P d ++ mvq l d q).map mkS) (d : Int) (q : Int)) ((movesL l P).map mkS) := by
  match f with
  | 0 =>
    obtain rfl : q = P := by omega
    refine Ev.step (fun k => ?_) (rmoves_l0 l q hl hP e (d + 1) (by omega))
    rw [bibelotref03_Moves.l1, if_neg (by omega), w64 (by omega) (by omega), movesIn_succ]
    rfl
  | f + 1 =>
    have hlen : ((movesIn l P d ++ mvq l d q).map mkS).length ≤ 1001000 := by
      have h1 := movesIn_len l P d
      have h2 := mvq_len l d q
      have h3 : d * P ≤ 1000 * 1000 := Nat.mul_le_mul (by omega) hP
      rw [List.length_map, List.length_append]
      omega
    have ih := rmoves_l1 l P hl hP e d h f (q + 1) (by omega)
    rw [mvq_succ] at ih
    refine Ev.step (f := fun k => (bibelotref03_Can.f k l (d : Int) (q : Int) (P : Int)).bind fun t => if t = true then bibelotref03_Moves.l1 k l (P : Int) ((movesIn l P d ++ (mvq l d q ++ [(d, q)])).map mkS) (d : Int) ((q + 1 : Nat) : Int) else bibelotref03_Moves.l1 k l (P : Int) ((movesIn l P d ++ mvq l d q).map mkS) (d : Int) ((q + 1 : Nat) : Int)) (fun k => ?_)
      (Ev.bind (can_ev l d q P (by omega) hl (by omega)) ?_)
    · rw [bibelotref03_Moves.l1, if_pos (by omega), w64 (by omega) (by omega)]
      congr 1
      funext t
      have e1 : (movesIn l P d ++ mvq l d q).map mkS ++ [(⟨(d : Int), (q : Int)⟩ : S52)] = (movesIn l P d ++ (mvq l d q ++ [(d, q)])).map mkS := by
        rw [← List.append_assoc, List.map_append (l₂ := [(d, q)])]
        rfl
      rw [if_pos (show ((movesIn l P d ++ mvq l d q).map mkS).length < 8796093022208 by omega), e1]
      rfl
    · by_cases c : canB l d (q : Int) = true
      · rw [if_pos c] at ih
        simp only [c, if_true]
        exact ih
      · rw [if_neg c] at ih
        simp only [c, if_false, Bool.false_eq_true]
        exact ih
termination_by (e, f + 1)
end
theorem rmoves_ev (l : List Int) (P : Nat) (hl : l.length ≤ 1000) (hP : P ≤ 1000) : Ev (fun k => bibelotref03_Moves.f k l (P : Int)) ((movesL l P).map mkS) := by
  have := rmoves_l0 l P hl hP l.length 0 (by omega)
  exact this
end Go.Proofs.YtnaaomhmoamfpaaDoor.G
/- Moves: its contract; an append within a round, to a row of the call's own. -/
namespace Go.Proofs.YtnaaomhmoamfpaaDoor.G
set_option linter.unusedVariables false
set_option linter.unusedSimpArgs false
set_option linter.unusedSectionVars false
open Go.Proofs.YtnaaomhmoamfpaaDoor.Q Go.Proofs.YtnaaomhmoamfpaaDoor.Hn Go.Proofs.YtnaaomhmoamfpaaDoor.K Go.Proofs.YtnaaomhmoamfpaaDoor.It
open Go.RowKit Go.Shelf Go.Proofs.YtnaaomhmoamfpaaDoorW.PrintWords Go.Proofs.YtnaaomhmoamfpaaDoorW.PrintLast Go.Proofs.YtnaaomhmoamfpaaDoorW.PrintMore
attribute [local go_sem] Oper.semAt_some

theorem add_block (a : Addr) (n : Nat) : (a.add n).block = a.block := by
  unfold Addr.add
  split <;> rfl
theorem C_lt {w : World} {ad : Addr} {n : Nat} {l : List Int} (h : Kd.C (Kd.int .i64) w (some ad) n l) (hn : 0 < n) : ad.block < w.heap.size := by
  obtain ⟨ad', e, hc⟩ := h.2.2 hn
  obtain rfl : ad = ad' := Option.some.inj e
  obtain ⟨c, hl, hp, hcc⟩ := hc 0 _ (List.getElem?_eq_getElem (show 0 < l.length by rw [h.1]; exact hn))
  have h1 := hcc 0 _ (List.getElem?_eq_getElem (show 0 < c.length by rw [hl]; exact Nat.zero_lt_one))
  have h2 := World.block_lt_of_cell? w _ h1
  rwa [add_block] at h2
/-- A row of numbers that is read leads to its own block alone. -/
theorem C_foot {w : World} {ad : Addr} {n : Nat} {l : List Int} (h : Kd.C (Kd.int .i64) w (some ad) n l) : Kd.F (Kd.int .i64) w (fun k => k = ad.block) (some ad) n l := fun W' hW => by
  refine ⟨h.1, h.2.1, fun hn => ?_⟩
  have hb := hW ad.block rfl (C_lt h hn)
  obtain ⟨ad', e, hc⟩ := h.2.2 hn
  obtain rfl : ad = ad' := Option.some.inj e
  refine ⟨ad, rfl, fun j p hj => ?_⟩
  obtain ⟨c, hl, hp, hcc⟩ := hc j p hj
  exact ⟨c, hl, hp, fun i u hu => (World.cell?_of_block (by rw [add_block]; exact hb)).trans (hcc i u hu)⟩
/-- A row of the call's own stays over the steps of an iterator whose cells are of another type. -/
theorem R_iter {α : Type} {d : Kd α} {e base : Nat} {ok : Nat → Prop} {w w1 : World} {v : Value} {xs : List α} {T B : Nat} (h : d.R e w base ok v xs) (hs : Step T B w w1) (hT : ∀ q, q ∈ e :: d.E → (q == T) = false) : d.R e w1 base ok v xs :=
  Kd.R_mono (Kd.R_move (Kd.R_bound h) (fun k hk => by
    obtain ⟨_, _, _, q, hq, cells, hc⟩ := hk
    rw [hc]
    exact hs.same _ _ hc (.inr (by simp [stays, book, isT, hT q hq])))) (fun _ hk => hk.1)

/-- .. and over what the call writes into its book-keeping. -/
theorem R_book {α : Type} {d : Kd α} {e base : Nat} {ok : Nat → Prop} {w : World} {v : Value} {xs : List α} (h : d.R e w base ok v xs) {l : Nat} {o : Obj} (hl : w.heap[l]? = some o) (hb : book o = true) (o' : Obj) : d.R e (w.putObj l o') base ok v xs :=
  Kd.R_mono (Kd.R_move (Kd.R_bound h) (fun k hk => by
    obtain ⟨_, _, _, q, hq, cells, hc⟩ := hk
    refine World.putObj_heap_other (fun e => ?_)
    subst e
    rw [hl] at hc
    injection hc with hc
    subst hc
    cases hb)) (fun _ hk => hk.1)

section
variable {F : Fence} {nF : Nat} {P : Program}
/-- append(v, x), x the only element of a new array behind W. -/
theorem wpListIn_append_R {α : Type} (d : Kd α) {W : World} {ops : Array Oper} {rest : List Oper} {o : Oper} {a : Act} {Q : Exit → Act → World → Prop} (base : Nat) (hgd : o.guard = none) (s x : Operand) (t e : TypeId) (z : Value) (bytes : Nat)
    (ho : o.op = .call { callee := .builtin .append, args := #[s, x], argTypes := #[t, t] })
    (ht : P.underlying t = some (.slice e)) (hinfo : (P.info? e).map (fun i => (i.zero, i.size, i.bytes)) = some (some z, d.sz, bytes)) (hz : z.cells.size = d.sz) (hs0 : 0 < d.sz) (hb0 : 0 < bytes)
    (v : Value) (xs : List α) (p : α) (cs : List Value) (ok okp : Nat → Prop) (hs : a.eval s = v) (hx : a.eval x = .slice (some ⟨W.heap.size, 0, none⟩) 1 1) (hp : d.M W base okp p cs) (hokp : ∀ k, okp k → ok k ∧ some k ≠ v.ownBlock) (hfresh : ∀ k, W.heap.size ≤ k → ok k)
    (HO : d.R e W base ok v xs) (hbase : base ≤ W.heap.size) (hl : (xs.length + 1) * bytes ≤ 140737488355328)
    (h : ∀ v1 w1, d.R e w1 base ok v1 (xs ++ [p]) → W.grownBy w1 v.ownBlock → (v1.ownBlock = v.ownBlock ∨ ∃ b, v1.ownBlock = some b ∧ W.heap.size ≤ b) → wpListIn F nF P ops Q rest (a.put o.dst v1) w1) :
    wpListIn F nF P ops Q (o :: rest) a (W.alloc (.cells cs.toArray e)) := by
  obtain ⟨h0, inner, hown, hr⟩ := HO
  obtain ⟨i0, hi, hzz⟩ := Option.map_eq_some_iff.1 hinfo
  simp only [Prod.mk.injEq] at hzz
  obtain ⟨hz0, hz1, hz2⟩ := hzz
  have hlen : xs.length + 1 ≤ 140737488355328 := Nat.le_trans (Nat.le_mul_of_pos_right _ hb0) hl
  have hcl : cs.length = d.sz := d.K_len (d.K_of_M hp)
  obtain ⟨v', w', hrun, ho', hg, _, hat⟩ := run_append_own_at (P := P) (W.alloc (.cells cs.toArray e)) base t o.type e i0 z d.sz bytes ht hi hz0 hz1 hz2 hz hs0 v xs.length inner (hown.alloc _) ⟨W.heap.size, 0, none⟩ 1 1 cs (by rw [hcl]; simp)
    (by simpa using World.news_of_block (cs := cs.toArray) (t := e) (fr := (0, 0)) (heap_alloc_new W (.cells cs.toArray e))) (d.K_one (d.K_of_M hp)) (by simp only [maxLen]; omega) hl (by simp; omega)
  refine wpListIn_plain hgd fun K hK => ?_
  unfold Oper.wpIn
  refine ⟨by simp [Oper.about, ho, resolve, Target.leads, Sem.run_pure], ?_⟩
  rw [Oper.semAt_plain F _ _ (by rw [ho]; intro c hc'; cases hc')]
  simp [execOp, ho, resolve, invoke, builtin, hs, hx, hrun, Result.andThen]
  refine hK _ _ (h v' w' (Kd.R_appended h0 hr hp hokp hfresh ho' (World.grownBy.trans (World.grownBy_alloc W _ _) hg) ?_) (World.grownBy.trans (World.grownBy_alloc W _ _) hg) ?_)
  all_goals
    rcases hat with hat | hat
    · exact .inl hat
    · exact .inr ⟨_, hat, by simp⟩
end

theorem u48 : Tryd.prog.underlying 48 = some (.slice 52) := by kernel_rfl
theorem okD_facts {l : List Int} (h : okD l = true) : 0 < l.length ∧ l.length ≤ 40 ∧ Pos l 3 := by
  obtain ⟨h1, h2, h3⟩ := (okD_iff l).1 h
  exact ⟨h1, h2, h3⟩
def hanoi_Moves.f (l : List Int) : Option (List S52 × Int) := if okD l = true then some ((movesL l 3).map mkS, 0) else some ([], 30)
set_option maxHeartbeats 8000000 in
set_option maxRecDepth 100000 in
theorem hanoi_Moves.calls (A0 : Option Addr) (c0 : Nat) (l0 : List Int) (r1 : List S52) (r2 : Int) (w : World) (hr0 : Kd.C (Kd.int .i64) w A0 l0.length l0) (hc0 : l0.length ≤ c0) (h : hanoi_Moves.f l0 = some (r1, r2)) :
    Calls Tryd.prog 41 #[.slice A0 l0.length c0] w fun e w' => ∃ v0_ : Value, e = .returned (.tuple #[v0_, .int .i64 r2]) ∧ Kd.R k52 52 w' w.heap.size (fun _ => True) v0_ r1 ∧ Below w.heap.size w w' := by
  obtain ⟨k, hk⟩ := check_ev l0
  have hchk := hk k (Nat.le_refl _)
  clear hk
  unfold hanoi_Moves.f at h
  have HR := Aside0.mk hr0
  have HC0 := Aside0.mk hc0
  by_cases hok : okD l0 = true
  · rw [if_pos hok] at h
    cases h
    obtain ⟨hp0, hp40, hpos⟩ := okD_facts hok
    rw [show checkD l0 = 0 by simp [checkD, hok]] at hchk
    have HC := Aside0.mk hchk
    have HP := Aside0.mk hpos
    obtain ⟨ad, rfl, _⟩ := hr0.2.2 hp0
    have hadl := C_lt hr0 hp0
    clear hr0 hc0 hchk hok hpos
    refine (callsIn_wide (n := 8)).1 ?_
    refine callsIn_of_wp_marks Tryd.func41 rfl trivial ?_ rfl
    simp only [Tryd.ntmps41, List.size_toArray, List.length_cons, List.length_nil, Nat.reduceAdd, Nat.reduceSub, Array.replicate_succ, Array.replicate_zero, List.push_toArray, List.append_toArray, List.nil_append, List.cons_append]
    gi_wp2_with (refine ⟨trivial, ?_⟩; first | (gi_at_call 62; refine CallsIn.mono (callsIn_wide.2 (hanoi_Check.calls _ _ _ _ _ _ HR.out HC0.out HC.out)) ?_; rintro e w1 ⟨rfl, hb⟩; have HB := Aside0.mk hb; clear hb) | (gi_at_call 67; refine (moves_calls Fence.wide _ trivial rfl _ _ _ _ _).mono ?_; rintro e w' ⟨rfl, rfl⟩))
    obtain ⟨W0, hW0⟩ : ∃ W0, ((w1.alloc (Obj.cells #[Value.slice none 0 0] 48)).alloc (Obj.cells #[Value.slice (some ad) l0.length c0] 46)).alloc (Obj.cells #[Value.int IntKind.i64 3] 3) = W0 := ⟨_, rfl⟩
    have hz : W0.heap.size = w1.heap.size + 3 := by rw [← hW0]; simp
    have hb0 : Blk W0 w1.heap.size #[Value.slice none 0 0] 48 := by rw [← hW0]; exact ((Blk.new w1 _ _).alloc _).alloc _
    have hb1 : Blk W0 (w1.heap.size + 1) #[Value.slice (some ad) l0.length c0] 46 := by rw [← hW0]; have := Blk.new (w1.alloc (Obj.cells #[Value.slice none 0 0] 48)) #[Value.slice (some ad) l0.length c0] 46; rw [World.size_alloc] at this; exact this.alloc _
    have hb2 : Blk W0 (w1.heap.size + 1 + 1) #[Value.int IntKind.i64 3] 3 := by rw [← hW0]; have := Blk.new ((w1.alloc (Obj.cells #[Value.slice none 0 0] 48)).alloc (Obj.cells #[Value.slice (some ad) l0.length c0] 46)) #[Value.int IntKind.i64 3] 3; rwa [World.size_alloc, World.size_alloc] at this
    have hsz1 := HB.out.size
    have hbw : Below w.heap.size w W0 := by rw [← hW0]; exact ((HB.out.alloc hsz1 _).alloc (by simp; omega) _).alloc (by simp; omega) _
    rw [hW0]
    clear hW0
    have hF : Kd.F (Kd.int .i64) W0 (fun k => k = ad.block) (some ad) l0.length l0 := Kd.F_below (C_foot HR.out) hbw
    have H0 := Aside0.mk hb0
    have H1 := Aside0.mk hb1
    have H2 := Aside0.mk hb2
    have HW := Aside0.mk hbw
    have HF := Aside0.mk hF
    clear hb0 hb1 hb2 hbw hF
    have hlen := movesIn_len l0 3 l0.length
    refine range_outer (T := 127) (keep := own3 (fun k => k = ad.block) (w1.heap.size + 1) (w1.heap.size + 1 + 1)) (L := movesL l0 3) rfl (by omega) (gf := 91) (lb := #[Value.pointer (some ⟨w1.heap.size + 1, 0, none⟩), Value.pointer (some ⟨w1.heap.size + 1 + 1, 0, none⟩)]) rfl trivial (enters_of Tryd.func91 (by kernel_rfl) rfl)
      (encs := fun (x : Nat × Nat) => #[.int .i64 (x.1 : Int), .int .i64 (x.2 : Int)])
      (moves_it Fence.wide 7 trivial rfl (by omega) (fun k => k = ad.block) (w1.heap.size + 1) (w1.heap.size + 1 + 1) 3 c0 ad l0 hp40 (by omega) HP.out W0 H1.out H2.out HF.out (fun k hk => by subst hk; omega))
      (Below.refl _ _) (fun k hk => by rcases hk with (hk | hk) | hk <;> omega) (fun _ => rfl)
      (fun pre W => Aside0 (∃ v, Blk W w1.heap.size #[v] 48 ∧ Kd.R k52 52 W W0.heap.size (fun _ => True) v (pre.map mkS) ∧ Below w.heap.size w W ∧ W0.heap.size ≤ W.heap.size)) (fun _ _ _ => False)
      (fun s A A' hs hst => by
        obtain ⟨v, h1, h2, h3, h4⟩ := hs.out
        exact .mk ⟨v, hst.same _ _ h1 (.inl (by omega)), R_iter h2 hst (by decide), hst.below h3 (by omega) (Nat.le_refl _), Nat.le_trans h4 hst.size⟩)
      (fun _ _ _ _ hs _ => hs) (.mk ⟨_, H0.out, Kd.R_nil _ _ _ _ _, HW.out, Nat.le_refl _⟩)
      (fun x a' A => a' = { tmps := #[Value.slice (some ad) l0.length c0, undef, Value.slice none 0 0, Value.int IntKind.i64 0, Value.int IntKind.i64 0, Value.pointer (some { block := w1.heap.size, off := 0 }), .int .i64 (x.1 : Int), .int .i64 (x.2 : Int), Value.slice (some ad) l0.length c0, Value.int IntKind.i64 0, Value.int IntKind.i64 0, Value.bool false, undef, Value.slice (some ad) l0.length c0, Value.func (Fn.func 91) #[] #[Value.pointer (some { block := w1.heap.size + 1, off := 0 }), Value.pointer (some { block := w1.heap.size + 1 + 1, off := 0 })], .int .i64 (x.1 : Int), .int .i64 (x.2 : Int), undef, undef, undef, undef, undef, undef, undef], defers := [] })
      (fun x a' A A' hx hbk => hx) ?assign ?body ?done ?stop
    case assign =>
      intro l pre x rest W K hL hi hr hK
      have HK := Aside0.mk hK
      clear hK hr hL
      simp only [List.zip_toArray, List.zip_cons_cons, List.zip_nil_left]
      gi_wp2
      exact HK.out _ _ (RB.refl _ _ _) hi rfl
    case body =>
      rintro l pre x rest a' W hL hle ⟨r, hr⟩ hI rfl
      obtain ⟨v, h1, h2, h3, h4⟩ := hI.out
      have hcv := h1.cell 0 (v := v) rfl
      have hfv := h1.free 0
      have hpl : pre.length ≤ 120 := by have := congrArg List.length hL; simp at this; unfold movesL at this; omega
      have hne : v.ownBlock ≠ some w1.heap.size := fun e => by have := Kd.R_base h2 _ e; omega
      have HNE := Aside0.mk hne
      have HV1 := Aside0.mk h1
      have HV2 := Aside0.mk h2
      have HV3 := Aside0.mk h3
      have HPL := Aside0.mk hpl
      clear hI hr hL h1 h2 h3 hpl hne
      gi_wp2_with (gi_at_builtin; refine wpListIn_append_R k52 W0.heap.size rfl (.tmp 17) (.tmp 21) 48 52 (.agg #[(.int .i64 0), (.int .i64 0)]) 16 rfl u48 info52 rfl (by decide) (by omega) v (pre.map mkS) (mkS x) [.int .i64 (x.1 : Int), .int .i64 (x.2 : Int)] (fun _ => True) (fun _ => False) rfl rfl (k52_mkM _ _ _ (mkS x)) (fun _ hk => hk.elim) (fun _ _ => trivial) HV2.out (by omega) (by have := HPL.out; simp; omega) ?_; intro v1 w2 h1 h2 h3; obtain ⟨Ay, cy, ey⟩ := Kd.R_slice h1; subst ey; rw [show (pre.map mkS ++ [mkS x]).length = pre.length + 1 by simp] at h1 h3; have hb9 := HV1.out.grown h2 HNE.out; have hc9 := hb9.cell 0 (v := v) rfl; have hf9 := hb9.free 0; have G1 := Aside0.mk h1; have G2 := Aside0.mk h2; have G3 := Aside0.mk h3; have G4 := Aside0.mk hb9; clear h1 h2 h3 hb9)
      refine ⟨((RB.refl _ _ _).grown G2.out (fun k o e ho => ?_)).set (fun o ho => ?_), .mk ⟨_, G4.out.set 0 _, ?_, ?_, ?_⟩⟩
      · have hb := Kd.R_base HV2.out k e
        obtain ⟨cells, hc⟩ := Kd.R_typed HV2.out k e
        rw [hc] at ho
        injection ho with ho
        subst ho
        exact ⟨by rintro ((h | h) | h) <;> omega, rfl, rfl⟩
      · have e := ho.symm.trans HV1.out
        injection e with e
        subst e
        exact ⟨by rintro ((h | h) | h) <;> omega, rfl, rfl⟩
      · rw [List.map_append]
        refine Kd.R_mono (Kd.R_far (Kd.R_bound G1.out) (fun k hk => ?_) _) (fun _ hk => hk.1)
        have := hk.2.1
        show k ≠ w1.heap.size
        omega
      · exact (HV3.out.grown G2.out (by omega) (fun k e => by have := Kd.R_base HV2.out k e; omega)).setCell (by simp; omega) _
      · have := G2.out.size
        simp [World.setCell]
        omega
    case done =>
      rintro D W hD hI hK
      obtain ⟨v, h1, h2, h3, h4⟩ := hI.out
      have hcv := h1.cell 0 (v := v) rfl
      have HV2 := Aside0.mk h2
      have HV3 := Aside0.mk h3
      have HK := Aside0.mk hK
      clear hI hK h1 h2 h3
      gi_wp2
      refine ⟨by simp, .inl ⟨_, _, rfl, run_takeDeferred HK.out, ?_⟩⟩
      refine ⟨_, results_tmp2 rfl _ _ _, v, rfl, ?_, HV3.out.trans (belowK_b (w := w) (Nat.le_refl _) W D _ _ (by omega) HK.out rfl rfl)⟩
      exact R_book (Kd.R_lower HV2.out (by omega)) HK.out rfl _
    case stop =>
      intro D c pre x rest W _ _ hs
      exact hs.elim
  · rw [if_neg hok] at h
    cases h
    rw [show checkD l0 = 30 by simp [checkD, hok]] at hchk
    have HC := Aside0.mk hchk
    clear hr0 hc0 hchk hok
    go_enter Tryd.func41, Tryd.ntmps41
    go_wp2_with fail
    refine (hanoi_Check.calls _ _ _ _ _ _ HR.out HC0.out HC.out).mono ?_
    rintro e w1 ⟨rfl, hb⟩
    have HB := Aside0.mk hb
    clear hb
    go_wp2
    go_ret2
    exact ⟨_, rfl, Kd.R_nil _ _ _ _ _, HB.out⟩
end Go.Proofs.YtnaaomhmoamfpaaDoor.G
/- Appends as single steps of a region that draws its order. -/
namespace Go.Proofs.YtnaaomhmoamfpaaDoor.G
set_option linter.unusedVariables false
set_option linter.unusedSimpArgs false
set_option linter.unusedSectionVars false
open Go.Proofs.YtnaaomhmoamfpaaDoor.Q Go.Proofs.YtnaaomhmoamfpaaDoor.Hn Go.Proofs.YtnaaomhmoamfpaaDoor.K
open Go.RowKit Go.Proofs.YtnaaomhmoamfpaaDoorW.PrintWords Go.Proofs.YtnaaomhmoamfpaaDoorW.PrintLast Go.Proofs.YtnaaomhmoamfpaaDoorW.PrintMore
theorem R_block {d : List Int} {W W' : World} {base gb N cap : Nat} (h : Kd.R (Kd.int .i64) 3 W base (fun j => j = gb) (.slice (some ⟨gb, 0, none⟩) N cap) d) (hb : W'.heap[gb]? = W.heap[gb]?) : Kd.R (Kd.int .i64) 3 W' base (fun j => j = gb) (.slice (some ⟨gb, 0, none⟩) N cap) d :=
  Kd.R_move h (fun k hk => by subst hk; exact hb)

section
open Go.Proofs.YtnaaomhmoamfpaaDoorW.PrintWords.Kd
variable {P : Program} {ops : Array Oper} {o : Oper} {a : Act} {Q : Exit → Act → World → Prop} {Kc : Act → World → Prop} {α : Type}
/-- append(v, x) as one step of a region that draws its order; x is the one element of block g. -/
theorem R_append_st (d : Kd α) {V : World} (base : Nat) (hw : Region.wanted o (yielded ops a.tmps) = true) (s x : Operand) (t e : TypeId) (z : Value) (bytes : Nat)
    (ho : o.op = .call { callee := .builtin .append, args := #[s, x], argTypes := #[t, t] })
    (ht : P.underlying t = some (.slice e)) (hinfo : (P.info? e).map (fun i => (i.zero, i.size, i.bytes)) = some (some z, d.sz, bytes)) (hz : z.cells.size = d.sz) (hs0 : 0 < d.sz) (hb0 : 0 < bytes)
    (v : Value) (xs : List α) (p : α) (cs : List Value) (ok okp : Nat → Prop) (hs : a.eval s = v) (g : Nat) (hx : a.eval x = .slice (some ⟨g, 0, none⟩) 1 1) (hg : V.heap[g]? = some (.cells cs.toArray e (0, 0))) (hp : d.M V base okp p cs) (hokp : ∀ k, okp k → ok k ∧ some k ≠ v.ownBlock) (hfresh : ∀ k, V.heap.size ≤ k → ok k)
    (HO : d.R e V base ok v xs) (hbase : base ≤ V.heap.size) (hl : (xs.length + 1) * bytes ≤ 140737488355328)
    (h : ∀ v1 w1, d.R e w1 base ok v1 (xs ++ [p]) → V.grownBy w1 v.ownBlock → (v1.ownBlock = v.ownBlock ∨ ∃ b, v1.ownBlock = some b ∧ V.heap.size ≤ b) → Kc (a.put o.dst v1) w1) :
    if Region.wanted o (yielded ops a.tmps) = true then Oper.wp P o a V Kc Q else Kc (a.put o.dst undef) V := by
  obtain ⟨h0, inner, hown, hr⟩ := HO
  obtain ⟨i0, hi, hzz⟩ := Option.map_eq_some_iff.1 hinfo
  simp only [Prod.mk.injEq] at hzz
  obtain ⟨hz0, hz1, hz2⟩ := hzz
  have hlen : xs.length + 1 ≤ 140737488355328 := Nat.le_trans (Nat.le_mul_of_pos_right _ hb0) hl
  have hcl : cs.length = d.sz := d.K_len (d.K_of_M hp)
  rw [if_pos hw]
  obtain ⟨v1, w1, hrun, hown1, hg1, _, hat⟩ := run_append_own_at (P := P) V base t o.type e i0 z d.sz bytes ht hi hz0 hz1 hz2 hz hs0 v xs.length inner hown ⟨g, 0, none⟩ 1 1 cs (by rw [hcl]; simp)
    (by simpa using World.news_of_block (cs := cs.toArray) (t := e) (fr := (0, 0)) hg) (d.K_one (d.K_of_M hp)) (by simp only [maxLen]; omega) hl hbase
  have hat' : v1.ownBlock = v.ownBlock ∨ ∃ b, v1.ownBlock = some b ∧ V.heap.size ≤ b := by
    rcases hat with hat | hat
    · exact .inl hat
    · exact .inr ⟨_, hat, Nat.le_refl _⟩
  unfold Oper.wp execOp
  simp only [ho, resolve, invoke, builtin, Sem.run_bind, Sem.run_pure, Result.andThen_ok, List.map_toArray, List.map_cons, List.map_nil, hs, hx, hrun]
  exact h v1 w1 (Kd.R_appended h0 hr hp hokp hfresh hown1 hg1 hat') hg1 hat'
theorem R_append_rows_st (d : Kd α) {Rr : α → List Value → Prop} {w0 W : World} (base : Nat) (hw : Region.wanted o (yielded ops a.tmps) = true) (s x : Operand) (t e : TypeId) (z : Value) (bytes : Nat)
    (ho : o.op = .call { callee := .builtin .append, args := #[s, x], argTypes := #[t, t] })
    (ht : P.underlying t = some (.slice e)) (hinfo : (P.info? e).map (fun i => (i.zero, i.size, i.bytes)) = some (some z, d.sz, bytes)) (hz : z.cells.size = d.sz) (hs0 : 0 < d.sz) (hb0 : 0 < bytes)
    (v : Value) (xs ys : List α) (A : Option Addr) (m c : Nat) (ok okp : Nat → Prop) (hs : a.eval s = v) (hx : a.eval x = .slice A m c)
    (HO : d.R e W base ok v xs) (HR : ReadsRow Rr d.sz W A m ys) (hKM : ∀ x cs, Rr x cs → d.M W base okp x cs) (hokp : ∀ k, okp k → ok k ∧ some k ≠ v.ownBlock) (hfresh : ∀ k, W.heap.size ≤ k → ok k)
    (HB : Below base w0 W) (hbase : base ≤ W.heap.size) (hl : (xs.length + m) * bytes ≤ 140737488355328)
    (h : ∀ v1 w1, d.R e w1 base ok v1 (xs ++ ys) → Below base w0 w1 → W.grownBy w1 v.ownBlock → (v1.ownBlock = v.ownBlock ∨ ∃ b, v1.ownBlock = some b ∧ W.heap.size ≤ b) → Kc (a.put o.dst v1) w1) :
    if Region.wanted o (yielded ops a.tmps) = true then Oper.wp P o a W Kc Q else Kc (a.put o.dst undef) W := by
  obtain ⟨i0, hi, hzz⟩ := Option.map_eq_some_iff.1 hinfo
  simp only [Prod.mk.injEq] at hzz
  obtain ⟨hz0, hz1, hz2⟩ := hzz
  have hm : ys.length = m := HR.1
  have hlen : xs.length + m ≤ 140737488355328 := Nat.le_trans (Nat.le_mul_of_pos_right _ hb0) hl
  obtain ⟨hok, inner, hown, hr⟩ := HO
  have hrun : ∃ v1 w1, (Builtin.append_ #[t, t] o.type #[v, .slice A m c]).run P W = .ok v1 w1 ∧ d.R e w1 base ok v1 (xs ++ ys) ∧ W.grownBy w1 v.ownBlock ∧ (v1.ownBlock = v.ownBlock ∨ ∃ b, v1.ownBlock = some b ∧ W.heap.size ≤ b) := by
    rcases A with _ | ad
    · have h0 : m = 0 := by
        rcases Nat.eq_zero_or_pos m with h0 | h0
        · exact h0
        · obtain ⟨ad, h, _⟩ := HR.2.2 h0
          cases h
      subst h0
      obtain rfl : ys = [] := List.eq_nil_of_length_eq_zero hm
      refine ⟨v, W, ?_, by rw [List.append_nil]; exact ⟨hok, inner, hown, hr⟩, World.grownBy.refl W _, .inl rfl⟩
      rcases hown.2 with ⟨rfl, hn⟩ | ⟨g, cap, cur, rfl, _, _, hnc, _⟩
      · simp [Builtin.append_, run_underlying ht, sizeOf, typeInfo, hi, Builtin.lenOf, Builtin.firstCells]
      · simp [Builtin.append_, run_underlying ht, sizeOf, typeInfo, hi, Builtin.lenOf, Builtin.firstCells, hnc, storeCells]
    · obtain ⟨news, hnr, hnc⟩ := ReadsRow.inner_ HR
      have hnM : Reps (d.M W base okp) d.sz ys news := hnr.imp_ (fun p c hp => hKM p c hp)
      have hone : ∀ u ∈ news, u.oneCell' = true := by
        intro u hu
        obtain ⟨q, hq, rfl⟩ := List.mem_iff_getElem.1 hu
        have hql : q / d.sz < ys.length := by
          rw [Nat.div_lt_iff_lt_mul hs0]
          rw [← hnM.1]
          exact hq
        have hc := hnM.2 (q / d.sz) _ (List.getElem?_eq_getElem hql)
        refine d.K_one (d.K_of_M hc) _ ?_
        rw [List.mem_iff_getElem?]
        refine ⟨q % d.sz, ?_⟩
        rw [List.getElem?_take, if_pos (Nat.mod_lt _ hs0), List.getElem?_drop, Nat.mul_comm, Nat.div_add_mod, List.getElem?_eq_getElem hq]
      obtain ⟨v1, w1, hrun, h2, hg, _, hat⟩ := run_append_own_at (P := P) W base t o.type e i0 z d.sz bytes ht hi hz0 hz1 hz2 hz hs0 v xs.length inner hown ad m c news (by rw [hnM.1, hm]) hnc hone (by simp only [maxLen]; omega) hl hbase
      have hat' : v1.ownBlock = v.ownBlock ∨ ∃ b, v1.ownBlock = some b ∧ W.heap.size ≤ b := by
        rcases hat with hat | hat
        · exact .inl hat
        · exact .inr ⟨_, hat, Nat.le_refl _⟩
      have hne : ∀ k, some k ≠ v.ownBlock → k < W.heap.size → some k ≠ v1.ownBlock := by
        intro k hk hlt
        rcases hat' with hat | ⟨b, hb, hle⟩
        · rw [hat]; exact hk
        · rw [hb]
          intro he
          injection he with he
          omega
      have step : ∀ {q : α} {c : List Value} {o : Nat → Prop}, d.M W base o q c → (∀ k, o k → ok k ∧ some k ≠ v.ownBlock) → d.M w1 base (fun k => ok k ∧ some k ≠ v1.ownBlock) q c := by
        intro q c o hq ho
        have h1 := d.M_move (w1 := w1) (fun k hk => hg.block k hk.2.2.1 (ho k hk.1).2) (d.M_bound hq)
        exact d.M_mono (fun k hk => ⟨(ho k hk.1).1, hne k (ho k hk.1).2 hk.2.2.1⟩) h1
      refine ⟨v1, w1, hrun, ⟨fun k hk => ?_, inner ++ news, by rw [List.length_append, hm]; exact h2, reps_append (hr.imp_ (fun _ _ hq => step hq (fun _ hk => hk))) (hnM.imp_ (fun _ _ hq => step hq hokp))⟩, hg, hat'⟩
      rcases hat' with hat | ⟨b, hb, hle⟩
      · exact hok k (hat ▸ hk)
      · rw [hb] at hk
        injection hk with hk
        exact hfresh k (by omega)
  obtain ⟨v1, w1, hr1, h1, hg, hat⟩ := hrun
  rw [if_pos hw]
  unfold Oper.wp execOp
  simp only [ho, resolve, invoke, builtin, Sem.run_bind, Sem.run_pure, Result.andThen_ok, List.map_toArray, List.map_cons, List.map_nil, hs, hx, hr1]
  exact h v1 w1 h1 (HB.grown hg hbase (own_base hown)) hg hat
theorem gate_call_st {W : World} {f : FuncId} {xs : Array Operand} {ts : Array TypeId} (_ho : o.op = .call { callee := .value (.func f), args := xs, argTypes := ts }) (h : if Region.wanted o (yielded ops a.tmps) = true then Oper.wp P o a W Kc Q else Kc (a.put o.dst undef) W) : if Region.wanted o (yielded ops a.tmps) = true then Oper.wp P o a W Kc Q else Kc (a.put o.dst undef) W := h
theorem gate_app_st {W : World} {xs : Array Operand} {ts : Array TypeId} (_ho : o.op = .call { callee := .builtin .append, args := xs, argTypes := ts }) (h : if Region.wanted o (yielded ops a.tmps) = true then Oper.wp P o a W Kc Q else Kc (a.put o.dst undef) W) : if Region.wanted o (yielded ops a.tmps) = true then Oper.wp P o a W Kc Q else Kc (a.put o.dst undef) W := h
end
end Go.Proofs.YtnaaomhmoamfpaaDoor.G
namespace Go.Proofs.YtnaaomhmoamfpaaDoor.G
end Go.Proofs.YtnaaomhmoamfpaaDoor.G
namespace Go.Proofs.YtnaaomhmoamfpaaDoor.Q
set_option linter.unusedVariables false
set_option linter.unusedSimpArgs false
set_option linter.unusedSectionVars false
open Go.Proofs.YtnaaomhmoamfpaaDoor.G
open Go.RowKit Go.Proofs.YtnaaomhmoamfpaaDoorW.PrintWords Go.Proofs.YtnaaomhmoamfpaaDoorW.PrintLast Go.Proofs.YtnaaomhmoamfpaaDoorW.PrintMore
attribute [local go_sem] max2_int min2_int max_two min_two max_three min_three max_four min_four   -- for this text's walks alone

/-! ### bibelotlaw03_way: function 55 -/
def bibelotlaw03_way.f (l0 : List (S52)) : Option ((List (S52))) := if 0 ≤ (mn (l0.length : Int) 200) then (if (mn (l0.length : Int) 200) ≤ (l0.length : Int) then ((some (l0.take ((mn (l0.length : Int) 200) : Int).toNat : List (S52))).bind fun y388 => (if ([] : List (S52)).length + y388.length < 8796093022208 then (some (([] : List (S52)) ++ y388)) else (none))) else (none)) else (none)
set_option maxHeartbeats 8000000 in
set_option maxRecDepth 100000 in
theorem bibelotlaw03_way.calls (A0 : Option Addr) (c0 : Nat) (l0 : List (S52)) (r : List (S52)) (w : World) (hr0 : Kd.C k52 w A0 l0.length l0) (hc0 : l0.length ≤ c0) (h : bibelotlaw03_way.f l0 = some r) :
    Calls Tryd.prog 55 #[.slice A0 l0.length c0] w fun e w' => ∃ v0_ : Value, e = .returned (v0_) ∧ Kd.R k52 52 w' w.heap.size (fun _ => True) v0_ r ∧ Below w.heap.size w w' := by
  have HR0 := Aside0.mk hr0
  have HC0 := Aside0.mk hc0
  clear hr0 hc0
  have HB := Aside0.mk (Below.refl w.heap.size w)
  have H : (if 0 ≤ (mn (l0.length : Int) 200) then (if (mn (l0.length : Int) 200) ≤ (l0.length : Int) then ((some (l0.take ((mn (l0.length : Int) 200) : Int).toNat : List (S52))).bind fun y388 => (if ([] : List (S52)).length + y388.length < 8796093022208 then (some (([] : List (S52)) ++ y388)) else (none))) else (none)) else (none)) = some r := h
  clear h
  obtain ⟨ji2, hji2⟩ : ∃ j_ : Int, (mn (l0.length : Int) 200) = j_ := ⟨_, rfl⟩
  replace H : (if 0 ≤ (ji2) then (if (ji2) ≤ (l0.length : Int) then ((some (l0.take ((ji2) : Int).toNat : List (S52))).bind fun y388 => (if ([] : List (S52)).length + y388.length < 8796093022208 then (some (([] : List (S52)) ++ y388)) else (none))) else (none)) else (none)) = some r := by first | (rw [hji2] at H; exact H) | (simp only [hji2] at H ⊢; exact H)
  (try (have hji2h : ji2 ≤ 200 := by (rw [← hji2]; unfold mn; (repeat' split) <;> omega)))
  (try (have hji2g : ji2 ≤ 64 := by omega))
  (try (have hji2l : 0 ≤ ji2 := by (rw [← hji2]; unfold mn; (repeat' split) <;> omega)))
  (try (have hji2m : 0 ≤ ji2 := by omega))
  have hji2_ : (if 200 < (l0.length : Int) then 200 else (l0.length : Int)) = ji2 := hji2
  by_cases c3 : 0 ≤ (ji2)
  · rw [if_pos c3] at H
    have c3b0 := eq_true c3
    have c3b1 : decide (0 ≤ (ji2)) = true := decide_eq_true c3
    clear c3
    by_cases c4 : (ji2) ≤ (l0.length : Int)
    · rw [if_pos c4] at H
      have c4b0 := eq_true c4
      have c4b1 : decide ((ji2) ≤ (l0.length : Int)) = true := decide_eq_true c4
      clear c4
      obtain ⟨y388, hy388⟩ : ∃ y_ : List (S52), y_ = (l0.take ((ji2) : Int).toNat) := ⟨_, rfl⟩
      replace H : (if ([] : List (S52)).length + y388.length < 8796093022208 then (some (([] : List (S52)) ++ y388)) else (none)) = some r := by first | (rw [hy388]; with_reducible exact H) | (have H2_ := (Option.bind_some _ _).symm.trans H; rw [hy388]; with_reducible exact H2_) | (have H2_ := (Option.bind_some _ _).symm.trans H; with_reducible exact H2_) | with_reducible exact H | (rw [hy388]; exact H) | exact H
      have Ny388 := Aside0.mk hy388
      clear hy388
      by_cases c5 : ([] : List (S52)).length + y388.length < 8796093022208
      · rw [if_pos c5] at H
        have LMc5 := Aside0.mk c5
        clear c5
        obtain ⟨y392, hy392⟩ : ∃ y_ : List (S52), y_ = (([] : List (S52)) ++ y388) := ⟨_, rfl⟩
        replace H : (some y392) = some r := by first | (rw [hy392]; with_reducible exact H) | (have H2_ := (Option.bind_some _ _).symm.trans H; rw [hy392]; with_reducible exact H2_) | (have H2_ := (Option.bind_some _ _).symm.trans H; with_reducible exact H2_) | with_reducible exact H | (rw [hy392]; exact H) | exact H
        have Ny392 := Aside0.mk hy392
        clear hy392
        obtain rfl := Option.some.inj H
        have q6 : ((ji2) : Int) ≤ ((l0.length : Int) : Int) := of_decide_eq_true (by first | (with_reducible assumption) | assumption)
        obtain ⟨i06, hi06, _, hsz6, _⟩ := info_parts info52
        have hroom6 : l0.length ≤ c0 := HC0.out
        have hC6 : Kd.C k52 _ A0 l0.length l0 := HR0.out
        have hcut6 := cut_to (P := Tryd.prog) 48 52 .i64 Tryd.underlying48 hi06 A0 l0.length c0 (ji2) (of_decide_eq_true (by first | (with_reducible assumption) | assumption)) q6 hroom6
        have hr6 := Kd.C_take (m := ((ji2) : Int).toNat) hC6 (by omega)
        have hy6 : y388.length = ((ji2) : Int).toNat := (by rw [Ny388.out, List.length_take]; omega)
        rw [← Ny388.out] at hr6
        rw [← hy6] at hcut6
        have HR391 := Aside0.mk hr6
        have HC391 := Aside0.mk (show y388.length ≤ c0 from by omega)
        clear hr6 hC6 hroom6 hi06 hsz6
        have KY6 := Aside0.mk hy6
        clear hy6
        replace q6 := eq_true q6
        go_enter Tryd.func55, Tryd.ntmps55
        go_wp2_with (first | ((with_reducible refine gate_builtin (b := .append) (xs := #[.tmp 4, .tmp 9]) rfl ?_); at_builtin; refine Kd.R_append_rows k52 (w0 := w) w.heap.size rfl (.tmp 4) (.tmp 9) 48 52 (.agg #[(.int .i64 0), (.int .i64 0)]) 16 rfl Tryd.underlying48 info52 rfl (by decide) (by omega) (.slice none 0 0) ([] : List (S52)) y388 _ _ _ (fun _ => True) (fun _ => False) rfl rfl ?aO ?aR (fun _ _ h => h) (fun _ h => h.elim) ?aF ?aB ?aS ?aL ?_; (case aR => repeat (first | exact HR391.out | (with_reducible refine Kd.C_alloc ?_ _) | (with_reducible refine Kd.C_drewN ?_ _) | (with_reducible refine Kd.C_drew ?_))); (case aB => exact (by repeat (first | (with_reducible first | exact HB.out | apply below_alloc | apply pw_below_drewN | apply below_drew1) | exact HB.out))); (case aF => exact (fun _ _ => trivial)); (case aO => exact ((Kd.R_nil _ _ _ _ (fun _ => True)))); (case aS => exact (below_size (by repeat (first | (with_reducible first | exact HB.out | apply below_alloc | apply pw_below_drewN | apply below_drew1) | exact HB.out)))); (case aL => have := LMc5.out; omega); intro v393 w7 ho hb hg hat; rw [← Ny392.out] at ho; have n0_ := Aside0.mk (hb); have n1_ := Aside0.mk (ho); clear HB; have HB := n0_; have HO394 := n1_; clear n0_ n1_; clear ho hb hg hat))
        go_ret
        exact ⟨_, by first | rfl | (simp [errW_none, errW_some] <;> rfl) | (simp only [← hji2]; first | rfl | (simp [errW_none, errW_some] <;> rfl)) | (simp [*, errW_none, errW_some] <;> rfl), by (with_reducible repeat (first | apply Kd.R_alloc | apply Kd.R_drewN | apply Kd.R_drew)); exact HO394.out, by repeat (first | (with_reducible first | exact HB.out | apply below_alloc | apply pw_below_drewN | apply below_drew1) | exact HB.out)⟩
      · rw [if_neg c5] at H
        exact absurd H (by simp)
    · rw [if_neg c4] at H
      exact absurd H (by simp)
  · rw [if_neg c3] at H
    exact absurd H (by simp)

end Go.Proofs.YtnaaomhmoamfpaaDoor.Q
namespace Go.Proofs.YtnaaomhmoamfpaaDoor.G
end Go.Proofs.YtnaaomhmoamfpaaDoor.G
namespace Go.Proofs.YtnaaomhmoamfpaaDoor.Q
set_option linter.unusedVariables false
set_option linter.unusedSimpArgs false
set_option linter.unusedSectionVars false
open Go.Proofs.YtnaaomhmoamfpaaDoor.G
open Go.RowKit Go.Proofs.YtnaaomhmoamfpaaDoorW.PrintWords Go.Proofs.YtnaaomhmoamfpaaDoorW.PrintLast Go.Proofs.YtnaaomhmoamfpaaDoorW.PrintMore
attribute [local go_sem] max2_int min2_int max_two min_two max_three min_three max_four min_four   -- for this text's walks alone

/-! ### bibelotref03_Play: function 57 -/
def bibelotref03_Play.l0 : Nat → List (S52) → Int → List Int → Int → Option (List Int × Int)
  | 0, _, _, _, _ => none
  | k + 1, x1, x2, x8, x9 => if x9 < (x1.length : Int) then (if 0 ≤ x9 then ((bibelotref03_Can.f k x8 ((rd_T52 x1 x9).f0) ((rd_T52 x1 x9).f1) x2).bind fun t400 => (if t400 = true then (if 0 ≤ ((rd_T52 x1 x9).f0) then (if ((rd_T52 x1 x9).f0) < (x8.length : Int) then (bibelotref03_Play.l0 k x1 x2 (x8.set (((rd_T52 x1 x9).f0) : Int).toNat ((rd_T52 x1 x9).f1)) (wrap64 (x9 + 1))) else (none)) else (none)) else (some (x8, x9)))) else (none)) else (some (x8, (x1.length : Int)))
def bibelotref03_Play.f (k : Nat) (l0 : List Int) (l1 : List (S52)) (a2 : Int) : Option (List Int × Int) := if ([] : List Int).length + l0.length < 17592186044416 then (bibelotref03_Play.l0 k l1 a2 (([] : List Int) ++ l0) 0) else (none)
theorem bibelotref03_Play.mono_l : ∀ k, (∀ y0 y1 y2 y3, LeO (bibelotref03_Play.l0 k y0 y1 y2 y3) (bibelotref03_Play.l0 (k + 1) y0 y1 y2 y3))
  | 0 => fun _ _ _ _ r h => by simp [bibelotref03_Play.l0] at h
  | k + 1 => by
    have ih0 := bibelotref03_Play.mono_l k
    · intro y0 y1 y2 y3
      unfold bibelotref03_Play.l0
      repeat' first
      | (with_reducible exact ih0 _ _ _ _)
      | (with_reducible exact bibelotref03_Can.mono _ _ _ _ _)
      | (with_reducible exact LeO.refl _)
      | (with_reducible exact LeO.none _)
      | (with_reducible refine LeO.ite ?_ ?_)
      | (with_reducible refine LeO.bind ?_ (fun _ => ?_))
      | exact ih0 _ _ _ _
      | exact bibelotref03_Can.mono _ _ _ _ _
      | exact LeO.none _
      | refine LeO.ite ?_ ?_
      | refine LeO.bind ?_ (fun _ => ?_)
theorem bibelotref03_Play.mono : ∀ a0 a1 a2 k, LeO (bibelotref03_Play.f k a0 a1 a2) (bibelotref03_Play.f (k + 1) a0 a1 a2) := by
  intro a0 a1 a2 k
  have ih0 := bibelotref03_Play.mono_l k
  unfold bibelotref03_Play.f
  repeat' first
      | (with_reducible exact ih0 _ _ _ _)
      | (with_reducible exact bibelotref03_Can.mono _ _ _ _ _)
      | (with_reducible exact LeO.refl _)
      | (with_reducible exact LeO.none _)
      | (with_reducible refine LeO.ite ?_ ?_)
      | (with_reducible refine LeO.bind ?_ (fun _ => ?_))
      | exact ih0 _ _ _ _
      | exact bibelotref03_Can.mono _ _ _ _ _
      | exact LeO.none _
      | refine LeO.ite ?_ ?_
      | refine LeO.bind ?_ (fun _ => ?_)
def bibelotref03_Play.T6 : Bool × List (List Nat × List Nat) := (true, [([], []), ([], []), ([], []), ([1, 2], [1, 2]), ([3], [3]), ([4], [4]), ([], []), ([], []), ([6, 7], [6, 7]), ([8], [8]), ([9], [9]), ([], []), ([0, 5, 10, 11], [0, 5, 10, 11]), ([12], [12])])
def bibelotref03_Play.B6 : List Nat := [0, 0, 0, 6, 14, 30, 0, 0, 192, 448, 960, 0, 4095, 8191]
theorem bibelotref03_Play.tab6 : rtab .any (opsOf Tryd.f57 6) = bibelotref03_Play.T6 := by kernel_rfl
theorem bibelotref03_Play.bits6 : waitsOk bibelotref03_Play.T6.2 bibelotref03_Play.B6 = true := by kernel_rfl
def bibelotref03_Play.T8 : Bool × List (List Nat × List Nat) := (true, [([], []), ([], []), ([], []), ([1, 2], [1, 2]), ([3], [3]), ([4], [4]), ([], []), ([], []), ([6, 7], [6, 7]), ([8], [8]), ([9], [9]), ([0, 5, 0, 1, 2, 3, 4, 5, 6, 7, 8, 9, 10], [0, 5]), ([11, 10, 0, 1, 2, 3, 4, 5, 6, 7, 8, 9, 10], [10, 11])])
def bibelotref03_Play.B8 : List Nat := [0, 0, 0, 6, 14, 30, 0, 0, 192, 448, 960, 2047, 4095]
theorem bibelotref03_Play.tab8 : rtab .any (opsOf Tryd.f57 8) = bibelotref03_Play.T8 := by kernel_rfl
theorem bibelotref03_Play.bits8 : waitsOk bibelotref03_Play.T8.2 bibelotref03_Play.B8 = true := by kernel_rfl
set_option maxHeartbeats 8000000 in
set_option maxRecDepth 100000 in
theorem bibelotref03_Play.calls (k : Nat) (A0 : Option Addr) (c0 : Nat) (l0 : List Int) (A1 : Option Addr) (c1 : Nat) (l1 : List (S52)) (a2 : Int) (r1 : List Int) (r2 : Int) (w : World) (hr0 : Kd.C (Kd.int .i64) w A0 l0.length l0) (hc0 : l0.length ≤ c0) (hr1 : Kd.C k52 w A1 l1.length l1) (hc1 : l1.length ≤ c1) (h : bibelotref03_Play.f k l0 l1 a2 = some (r1, r2)) :
    Calls Tryd.prog 57 #[.slice A0 l0.length c0, .slice A1 l1.length c1, .int .i64 a2] w fun e w' => ∃ v0_ : Value, e = .returned (.tuple #[v0_, .int .i64 r2]) ∧ Kd.R (Kd.int .i64) 3 w' w.heap.size (fun _ => True) v0_ r1 ∧ Below w.heap.size w w' := by
  have HR0 := Aside0.mk hr0
  have HC0 := Aside0.mk hc0
  clear hr0 hc0
  have HR1 := Aside0.mk hr1
  have HC1 := Aside0.mk hc1
  clear hr1 hc1
  have HB := Aside0.mk (Below.refl w.heap.size w)
  have H : (if ([] : List Int).length + l0.length < 17592186044416 then (bibelotref03_Play.l0 k l1 a2 (([] : List Int) ++ l0) 0) else (none)) = some (r1, r2) := h
  clear h
  by_cases c4 : ([] : List Int).length + l0.length < 17592186044416
  · rw [if_pos c4] at H
    have LMc4 := Aside0.mk c4
    clear c4
    obtain ⟨y395, hy395⟩ : ∃ y_ : List Int, y_ = (([] : List Int) ++ l0) := ⟨_, rfl⟩
    replace H : (bibelotref03_Play.l0 k l1 a2 y395 0) = some (r1, r2) := by first | (rw [hy395]; with_reducible exact H) | (have H2_ := (Option.bind_some _ _).symm.trans H; rw [hy395]; with_reducible exact H2_) | (have H2_ := (Option.bind_some _ _).symm.trans H; with_reducible exact H2_) | with_reducible exact H | (rw [hy395]; exact H) | exact H
    have Ny395 := Aside0.mk hy395
    clear hy395
    have H' := Aside0.mk H
    clear H
    go_enter Tryd.func57, Tryd.ntmps57
    go_wp2_with (first | ((with_reducible refine gate_builtin (b := .append) (xs := #[.tmp 10, .tmp 11]) rfl ?_); at_builtin; refine Kd.R_append_rows (Kd.int .i64) (w0 := w) w.heap.size rfl (.tmp 10) (.tmp 11) 46 3 (.int .i64 0) 8 rfl Tryd.underlying46 info3 rfl (by decide) (by omega) (.slice none 0 0) ([] : List Int) l0 _ _ _ (fun _ => True) (fun _ => False) rfl rfl ?aO ?aR (fun _ _ h => h) (fun _ h => h.elim) ?aF ?aB ?aS ?aL ?_; (case aR => repeat (first | exact HR0.out | (with_reducible refine Kd.C_alloc ?_ _) | (with_reducible refine Kd.C_drewN ?_ _) | (with_reducible refine Kd.C_drew ?_))); (case aB => exact (by repeat (first | (with_reducible first | exact HB.out | apply below_alloc | apply pw_below_drewN | apply below_drew1) | exact HB.out))); (case aF => exact (fun _ _ => trivial)); (case aO => exact ((Kd.R_nil _ _ _ _ (fun _ => True)))); (case aS => exact (below_size (by repeat (first | (with_reducible first | exact HB.out | apply below_alloc | apply pw_below_drewN | apply below_drew1) | exact HB.out)))); (case aL => have := LMc4.out; omega); intro v396 w5 ho hb hg hat; rw [← Ny395.out] at ho; have n0_ := Aside0.mk (hb); have n1_ := Aside0.mk (ho); clear HB; have HB := n0_; have HO397 := n1_; clear n0_ n1_; clear ho hb hg hat))
    go_loopg [9] k (fun kq v9 w' => ∃ (x8_1 : List Int) (x9_1 : Int), v9 = .int .i64 x9_1 ∧ Aside0 (bibelotref03_Play.l0 kq l1 a2 x8_1 x9_1 = some (r1, r2)) ∧ Aside0 (kq ≤ k) ∧ Aside0 (Kd.R (Kd.int .i64) 3 w' w.heap.size (fun _ => True) v396 x8_1) ∧ Aside0 (Below w.heap.size w w'))
    case atStart => exact ⟨(y395), (0), (by first | rfl | (simp; done) | (simp [*]; done)), H', ⟨Nat.le_refl _⟩, ⟨by (with_reducible repeat (first | apply Kd.R_alloc | apply Kd.R_drewN | apply Kd.R_drew)); exact HO397.out⟩, ⟨by repeat (first | (with_reducible first | exact HB.out | apply below_alloc | apply pw_below_drewN | apply below_drew1) | exact HB.out)⟩⟩
    case round =>
      clear H'
      try clear c1
      try clear p2
      try clear c4
      try clear c5
      obtain ⟨x8_1, x9_1, rfl, HA, HK1, HO_8, HB⟩ := hrel
      cases gk with
      | zero => exact absurd HA.out (by simp [bibelotref03_Play.l0])
      | succ k1 =>
        have H := HA.out
        clear HA
        simp only [bibelotref03_Play.l0] at H
        by_cases c6 : x9_1 < (l1.length : Int)
        · rw [if_pos c6] at H
          have c6b0 : decide (x9_1 < (l1.length : Int)) = true := decide_eq_true c6
          clear c6
          by_cases c7 : 0 ≤ x9_1
          · rw [if_pos c7] at H
            have c7b0 : decide (0 ≤ x9_1) = true := decide_eq_true c7
            clear c7
            replace H := Option.bind_eq_some_iff.mp H
            obtain ⟨t400, A80, H⟩ := H
            replace H : (if t400 = true then (if 0 ≤ ((rd_T52 l1 x9_1).f0) then (if ((rd_T52 l1 x9_1).f0) < (x8_1.length : Int) then (bibelotref03_Play.l0 k1 l1 a2 (x8_1.set (((rd_T52 l1 x9_1).f0) : Int).toNat ((rd_T52 l1 x9_1).f1)) (wrap64 (x9_1 + 1))) else (none)) else (none)) else (some (x8_1, x9_1))) = some (r1, r2) := H
            have A8 := Aside0.mk A80
            clear A80
            by_cases c9 : t400 = true
            · subst c9
              have H1 : (if 0 ≤ ((rd_T52 l1 x9_1).f0) then (if ((rd_T52 l1 x9_1).f0) < (x8_1.length : Int) then (bibelotref03_Play.l0 k1 l1 a2 (x8_1.set (((rd_T52 l1 x9_1).f0) : Int).toNat ((rd_T52 l1 x9_1).f1)) (wrap64 (x9_1 + 1))) else (none)) else (none)) = some (r1, r2) := by rw [if_pos rfl] at H; exact H
              clear H
              have H := H1
              clear H1
              by_cases c10 : 0 ≤ ((rd_T52 l1 x9_1).f0)
              · rw [if_pos c10] at H
                have c10b0 : decide (0 ≤ ((rd_T52 l1 x9_1).f0)) = true := decide_eq_true c10
                clear c10
                by_cases c11 : ((rd_T52 l1 x9_1).f0) < (x8_1.length : Int)
                · rw [if_pos c11] at H
                  have c11b0 : decide (((rd_T52 l1 x9_1).f0) < (x8_1.length : Int)) = true := decide_eq_true c11
                  clear c11
                  obtain ⟨y403, hy403⟩ : ∃ y_ : List Int, y_ = (x8_1.set (((rd_T52 l1 x9_1).f0) : Int).toNat ((rd_T52 l1 x9_1).f1)) := ⟨_, rfl⟩
                  replace H : (bibelotref03_Play.l0 k1 l1 a2 y403 (wrap64 (x9_1 + 1))) = some (r1, r2) := by first | (rw [hy403]; with_reducible exact H) | (have H2_ := (Option.bind_some _ _).symm.trans H; rw [hy403]; with_reducible exact H2_) | (have H2_ := (Option.bind_some _ _).symm.trans H; with_reducible exact H2_) | with_reducible exact H | (rw [hy403]; exact H) | exact H
                  have Ny403 := Aside0.mk hy403
                  clear hy403
                  have H' := Aside0.mk H
                  clear H
                  try go_wp2
                  have n0_ := Aside0.mk (Kd.R_drew HO_8.out)
                  have n1_ := Aside0.mk (below_drew1 HB.out)
                  clear HO_8
                  clear HB
                  have HO_8 := n0_
                  have HB := n1_
                  clear n0_ n1_
                  have p398 : 0 ≤ (x9_1 : Int) := of_decide_eq_true (by first | (with_reducible assumption) | assumption)
                  have q398 : x9_1 < (l1.length : Int) := of_decide_eq_true (by first | (with_reducible assumption) | assumption)
                  obtain ⟨ad398, e398, hx398_0, hx398_1⟩ := at_T52 HR1.out x9_1 p398 q398
                  have hw398_1 := hx398_1
                  have hw398_0 := hx398_0
                  cases e398
                  replace hx398_0 := (HB.out.cell (World.block_lt_of_cell? w _ hx398_0)).trans hx398_0
                  replace hx398_1 := (HB.out.cell (World.block_lt_of_cell? w _ hx398_1)).trans hx398_1
                  replace p398 := eq_true p398
                  replace q398 := eq_true q398
                  have p399 : 0 ≤ (x9_1 : Int) := of_decide_eq_true (by first | (with_reducible assumption) | assumption)
                  have q399 : x9_1 < (l1.length : Int) := of_decide_eq_true (by first | (with_reducible assumption) | assumption)
                  obtain ⟨ad399, e399, hx399_0, hx399_1⟩ := at_T52 HR1.out x9_1 p399 q399
                  have hw399_1 := hx399_1
                  have hw399_0 := hx399_0
                  obtain rfl : ad398 = ad399 := (by injection e399)
                  replace hx399_0 := (HB.out.cell (World.block_lt_of_cell? w _ hx399_0)).trans hx399_0
                  replace hx399_1 := (HB.out.cell (World.block_lt_of_cell? w _ hx399_1)).trans hx399_1
                  replace p399 := eq_true p399
                  replace q399 := eq_true q399
                  obtain ⟨Ao14, co14, eo14⟩ := Kd.R_slice HO_8.out
                  (first | subst eo14 | (injection eo14 with f1_ f2_ f3_; have f4_ := f1_.symm; have f5_ := f3_.symm; clear f1_ f2_ f3_; subst f4_; subst f5_))
                  refine start_ (n := 14) (S := fun w' => w'.cell? (ad398.add ((x9_1).toNat * 2)) = some (.int .i64 ((rd_T52 l1 x9_1).f0)) ∧ w'.cell? ⟨(ad398.add ((x9_1).toNat * 2)).block, (ad398.add ((x9_1).toNat * 2)).off + 1, none⟩ = some (.int .i64 ((rd_T52 l1 x9_1).f1)) ∧ w'.cell? (ad398.add ((x9_1).toNat * 2)) = some (.int .i64 ((rd_T52 l1 x9_1).f0)) ∧ w'.cell? ⟨(ad398.add ((x9_1).toNat * 2)).block, (ad398.add ((x9_1).toNat * 2)).off + 1, none⟩ = some (.int .i64 ((rd_T52 l1 x9_1).f1))) (ds := []) #[false, false, false, false, false, false, false, false, false, false, false, false, false, false] (by kernel_rfl) rfl rfl ⟨((HB.out.cell (World.block_lt_of_cell? w _ hw398_0)).trans hw398_0), ((HB.out.cell (World.block_lt_of_cell? w _ hw398_1)).trans hw398_1), ((HB.out.cell (World.block_lt_of_cell? w _ hw399_0)).trans hw399_0), ((HB.out.cell (World.block_lt_of_cell? w _ hw399_1)).trans hw399_1)⟩ (fun hHeld => ?_); refine with_tabW bibelotref03_Play.tab6 bibelotref03_Play.bits6 (fun HT_ HW_ => ?_)
                  generalize wr.drew = w13 at HO_8 HB hx398_0 hx398_1 hx399_0 hx399_1 hHeld ⊢
                  refine pure_ (i := 0) (N := some 19) (v := ?_) (a' := ?_) #[true, false, false, false, false, false, false, false, false, false, false, false, false, false] rfl rfl (any_of HT_.out (by kernel_rfl)) (fun _ _ _ h => h) (Or.inl ⟨by rfl, ?_⟩) ?_ ?_
                  rotate_left
                  · intro w'
                    go_simp
                    with_reducible rfl
                  rotate_left
                  · simp only [Act.put, List.setIfInBounds_toArray, List.set_cons_zero, List.set_cons_succ, i64_w, i32_w]
                    rfl
                  refine pure_ (i := 1) (N := some 20) (v := ?_) (a' := ?_) #[true, true, false, false, false, false, false, false, false, false, false, false, false, false] rfl rfl (any_of HT_.out (by kernel_rfl)) (fun _ _ _ h => h) (Or.inl ⟨by rfl, ?_⟩) ?_ ?_
                  rotate_left
                  · intro w'
                    go_simp
                    with_reducible rfl
                  rotate_left
                  · simp only [Act.put, List.setIfInBounds_toArray, List.set_cons_zero, List.set_cons_succ, i64_w, i32_w]
                    rfl
                  refine pure_ (i := 2) (N := some 21) (v := ?_) (a' := ?_) #[true, true, true, false, false, false, false, false, false, false, false, false, false, false] rfl rfl (any_of HT_.out (by kernel_rfl)) (fun _ _ _ h => h) (Or.inl ⟨by rfl, ?_⟩) ?_ ?_
                  rotate_left
                  · intro w'
                    go_simp
                    with_reducible rfl
                  rotate_left
                  · simp only [Act.put, List.setIfInBounds_toArray, List.set_cons_zero, List.set_cons_succ, i64_w, i32_w]
                    rfl
                  refine pure_ (i := 3) (N := some 22) (v := ?_) (a' := ?_) #[true, true, true, true, false, false, false, false, false, false, false, false, false, false] rfl rfl (any_of HT_.out (by kernel_rfl)) (fun _ _ _ h => h) (Or.inl ⟨by rfl, ?_⟩) ?_ ?_
                  rotate_left
                  · intro w'
                    go_simp
                    with_reducible rfl
                  rotate_left
                  · simp only [Act.put, List.setIfInBounds_toArray, List.set_cons_zero, List.set_cons_succ, i64_w, i32_w]
                    rfl
                  refine pure_ (i := 4) (N := some 23) (v := ?_) (a' := ?_) #[true, true, true, true, true, false, false, false, false, false, false, false, false, false] rfl rfl (any_of HT_.out (by kernel_rfl)) (fun _ _ _ h => h) (Or.inl ⟨by rfl, ?_⟩) ?_ ?_
                  rotate_left
                  · intro w'
                    go_simp
                    with_reducible rfl
                  rotate_left
                  · simp only [Act.put, List.setIfInBounds_toArray, List.set_cons_zero, List.set_cons_succ, i64_w, i32_w]
                    rfl
                  refine pure_ (i := 6) (N := some 25) (v := ?_) (a' := ?_) #[true, true, true, true, true, false, true, false, false, false, false, false, false, false] rfl rfl (any_of HT_.out (by kernel_rfl)) (fun _ _ _ h => h) (Or.inl ⟨by rfl, ?_⟩) ?_ ?_
                  rotate_left
                  · intro w'
                    go_simp
                    with_reducible rfl
                  rotate_left
                  · simp only [Act.put, List.setIfInBounds_toArray, List.set_cons_zero, List.set_cons_succ, i64_w, i32_w]
                    rfl
                  refine pure_ (i := 7) (N := some 26) (v := ?_) (a' := ?_) #[true, true, true, true, true, false, true, true, false, false, false, false, false, false] rfl rfl (any_of HT_.out (by kernel_rfl)) (fun _ _ _ h => h) (Or.inl ⟨by rfl, ?_⟩) ?_ ?_
                  rotate_left
                  · intro w'
                    go_simp
                    with_reducible rfl
                  rotate_left
                  · simp only [Act.put, List.setIfInBounds_toArray, List.set_cons_zero, List.set_cons_succ, i64_w, i32_w]
                    rfl
                  refine pure_ (i := 8) (N := some 27) (v := ?_) (a' := ?_) #[true, true, true, true, true, false, true, true, true, false, false, false, false, false] rfl rfl (any_of HT_.out (by kernel_rfl)) (fun _ _ _ h => h) (Or.inl ⟨by rfl, ?_⟩) ?_ ?_
                  rotate_left
                  · intro w'
                    go_simp
                    with_reducible rfl
                  rotate_left
                  · simp only [Act.put, List.setIfInBounds_toArray, List.set_cons_zero, List.set_cons_succ, i64_w, i32_w]
                    rfl
                  refine pure_ (i := 9) (N := some 28) (v := ?_) (a' := ?_) #[true, true, true, true, true, false, true, true, true, true, false, false, false, false] rfl rfl (any_of HT_.out (by kernel_rfl)) (fun _ _ _ h => h) (Or.inl ⟨by rfl, ?_⟩) ?_ ?_
                  rotate_left
                  · intro w'
                    go_simp
                    with_reducible rfl
                  rotate_left
                  · simp only [Act.put, List.setIfInBounds_toArray, List.set_cons_zero, List.set_cons_succ, i64_w, i32_w]
                    rfl
                  refine pure_ (i := 11) (N := some 30) (v := ?_) (a' := ?_) #[true, true, true, true, true, false, true, true, true, true, false, true, false, false] rfl rfl (any_of HT_.out (by kernel_rfl)) (fun _ _ _ h => h) (Or.inl ⟨by rfl, ?_⟩) ?_ ?_
                  rotate_left
                  · intro w'
                    go_simp
                    with_reducible rfl
                  rotate_left
                  · simp only [Act.put, List.setIfInBounds_toArray, List.set_cons_zero, List.set_cons_succ, i64_w, i32_w]
                    rfl
                  refine take_ (i := 5) (N := some 24) (v := ?_) (a' := ?_) #[true, true, true, true, true, true, true, true, true, true, false, true, false, false] rfl rfl (take_ofW HT_.out HW_.out (by kernel_rfl)) (fun _ _ _ h => h) (Or.inl ⟨by rfl, ?_⟩) hHeld ?_ ?_
                  rotate_left
                  · rintro w' ⟨s0, s1, s2, s3⟩
                    go_simp
                    with_reducible rfl
                  rotate_left
                  · simp only [Act.put, List.setIfInBounds_toArray, List.set_cons_zero, List.set_cons_succ, i64_w, i32_w]
                    rfl
                  refine take_ (i := 10) (N := some 29) (v := ?_) (a' := ?_) #[true, true, true, true, true, true, true, true, true, true, true, true, false, false] rfl rfl (take_ofW HT_.out HW_.out (by kernel_rfl)) (fun _ _ _ h => h) (Or.inl ⟨by rfl, ?_⟩) hHeld ?_ ?_
                  rotate_left
                  · rintro w' ⟨s0, s1, s2, s3⟩
                    go_simp
                    with_reducible rfl
                  rotate_left
                  · simp only [Act.put, List.setIfInBounds_toArray, List.set_cons_zero, List.set_cons_succ, i64_w, i32_w]
                    rfl
                  refine one_ (i := 12) (N := some 31) #[true, true, true, true, true, true, true, true, true, true, true, true, true, false] rfl rfl (one_of HT_.out (by kernel_rfl)) (by decide) (fun K hK => ?_)
                  refine goes_ Tryd.func72 (by kernel_rfl) rfl #[.slice Ao14 x8_1.length co14, .int .i64 ((rd_T52 l1 x9_1).f0), .int .i64 ((rd_T52 l1 x9_1).f1), .int .i64 a2] (by rfl) rfl rfl (by (try simp only [List.map_toArray, List.map_cons, List.map_nil]); first | done | rfl | (simp only [List.length_drop, List.length_take]; rfl)) ?_
                  with_reducible refine (bibelotref03_Can.calls k1 _ _ x8_1 ((rd_T52 l1 x9_1).f0) ((rd_T52 l1 x9_1).f1) a2 true _ ?side1 ?side2 A8.out).mono ?_
                  (case side1 => repeat (first | exact (Kd.R_reads' HO_8.out).2.2 | (with_reducible refine Kd.C_alloc ?_ _) | (with_reducible refine Kd.C_drewN ?_ _) | (with_reducible refine Kd.C_drew ?_)))
                  (case side2 => exact (Kd.R_reads' HO_8.out).2.1)
                  rintro e w' ⟨rfl, ⟨nd, rfl⟩⟩
                  refine ⟨_, rfl, ?_⟩
                  refine hK.out _ _ ⟨((HB.out.cell (World.block_lt_of_cell? w _ hw398_0)).trans hw398_0), ((HB.out.cell (World.block_lt_of_cell? w _ hw398_1)).trans hw398_1), ((HB.out.cell (World.block_lt_of_cell? w _ hw399_0)).trans hw399_0), ((HB.out.cell (World.block_lt_of_cell? w _ hw399_1)).trans hw399_1)⟩ (fun hHeld => ?_)
                  clear hK K
                  refine norm_ (a' := ?_) ?_ ?_
                  rotate_left
                  · show Act.put _ (some 31) _ = _
                    simp only [Act.put, List.setIfInBounds_toArray, List.set_cons_zero, List.set_cons_succ, i64_w, i32_w]
                    rfl
                  refine pure_ (i := 13) (N := some 32) (v := ?_) (a' := ?_) #[true, true, true, true, true, true, true, true, true, true, true, true, true, true] rfl rfl (any_of HT_.out (by kernel_rfl)) (fun _ _ _ h => h) (Or.inl ⟨by rfl, ?_⟩) ?_ ?_
                  rotate_left
                  · intro w'
                    go_simp
                    with_reducible rfl
                  rotate_left
                  · simp only [Act.put, List.setIfInBounds_toArray, List.set_cons_zero, List.set_cons_succ, i64_w, i32_w]
                    rfl
                  refine done_ (done_of HT_.out (by kernel_rfl)) ?_
                  try go_wp2
                  (try (rw [drewN_self w13]; generalize hq_ : World.drewN w13 _ = w13; have n0_ : Aside0 (Kd.R (Kd.int .i64) 3 w13 w.heap.size (fun _ => True) (.slice Ao14 x8_1.length co14) x8_1) := ⟨by rw [← hq_]; exact (by (with_reducible repeat (first | apply Kd.R_alloc | apply Kd.R_drewN | apply Kd.R_drew)); exact HO_8.out)⟩; have n1_ : Aside0 (Below w.heap.size w w13) := ⟨by rw [← hq_]; exact (by repeat (first | (with_reducible first | exact HB.out | apply below_alloc | apply pw_below_drewN | apply below_drew1) | exact HB.out))⟩; clear HO_8 HB hq_; have HO_8 := n0_; have HB := n1_; clear n0_ n1_))
                  have n0_ := Aside0.mk (Kd.R_drew HO_8.out)
                  have n1_ := Aside0.mk (below_drew1 HB.out)
                  clear HO_8
                  clear HB
                  have HO_8 := n0_
                  have HB := n1_
                  clear n0_ n1_
                  have p401 : 0 ≤ (x9_1 : Int) := of_decide_eq_true (by first | (with_reducible assumption) | assumption)
                  have q401 : x9_1 < (l1.length : Int) := of_decide_eq_true (by first | (with_reducible assumption) | assumption)
                  obtain ⟨ad401, e401, hx401_0, hx401_1⟩ := at_T52 HR1.out x9_1 p401 q401
                  have hw401_1 := hx401_1
                  have hw401_0 := hx401_0
                  obtain rfl : ad398 = ad401 := (by injection e401)
                  replace hx401_0 := (HB.out.cell (World.block_lt_of_cell? w _ hx401_0)).trans hx401_0
                  replace hx401_1 := (HB.out.cell (World.block_lt_of_cell? w _ hx401_1)).trans hx401_1
                  replace p401 := eq_true p401
                  replace q401 := eq_true q401
                  have p402 : 0 ≤ (x9_1 : Int) := of_decide_eq_true (by first | (with_reducible assumption) | assumption)
                  have q402 : x9_1 < (l1.length : Int) := of_decide_eq_true (by first | (with_reducible assumption) | assumption)
                  obtain ⟨ad402, e402, hx402_0, hx402_1⟩ := at_T52 HR1.out x9_1 p402 q402
                  have hw402_1 := hx402_1
                  have hw402_0 := hx402_0
                  obtain rfl : ad398 = ad402 := (by injection e402)
                  replace hx402_0 := (HB.out.cell (World.block_lt_of_cell? w _ hx402_0)).trans hx402_0
                  replace hx402_1 := (HB.out.cell (World.block_lt_of_cell? w _ hx402_1)).trans hx402_1
                  replace p402 := eq_true p402
                  replace q402 := eq_true q402
                  have p12 : 0 ≤ (((rd_T52 l1 x9_1).f0) : Int) := of_decide_eq_true (by first | (with_reducible assumption) | assumption)
                  have q12 : (((rd_T52 l1 x9_1).f0) : Int) < ((x8_1.length : Int) : Int) := of_decide_eq_true (by first | (with_reducible assumption) | assumption)
                  obtain ⟨go12, co12, eo12, gb12, gl12, cl12, HG12⟩ := Kd.R_form HO_8.out (by omega)
                  (first | cases eo12 | (injection eo12 with ea_ en_ ec_; (first | subst ea_ | (injection ea_ with ea_; subst ea_)); subst ec_; clear en_))
                  have GB12 := Aside0.mk gb12
                  have GG12 := Aside0.mk HG12
                  clear gb12 gl12 HG12
                  obtain ⟨hx12_0, hf12_0⟩ := Kd.R_celln 0 HO_8.out (((rd_T52 l1 x9_1).f0) : Int) p12 q12
                  replace p12 := eq_true p12
                  replace q12 := eq_true q12
                  have HP16 := Kd.R_putn HO_8.out (((rd_T52 l1 x9_1).f0) : Int) ((rd_T52 l1 x9_1).f1)
                  rw [← Ny403.out] at HP16
                  have HQ16 := Aside0.mk HP16
                  clear HP16
                  refine start_ (n := 13) (S := fun w' => w'.cell? (ad398.add ((x9_1).toNat * 2)) = some (.int .i64 ((rd_T52 l1 x9_1).f0)) ∧ w'.cell? ⟨(ad398.add ((x9_1).toNat * 2)).block, (ad398.add ((x9_1).toNat * 2)).off + 1, none⟩ = some (.int .i64 ((rd_T52 l1 x9_1).f1)) ∧ w'.cell? (ad398.add ((x9_1).toNat * 2)) = some (.int .i64 ((rd_T52 l1 x9_1).f0)) ∧ w'.cell? ⟨(ad398.add ((x9_1).toNat * 2)).block, (ad398.add ((x9_1).toNat * 2)).off + 1, none⟩ = some (.int .i64 ((rd_T52 l1 x9_1).f1))) (ds := [12]) #[false, false, false, false, false, false, false, false, false, false, false, false, false] (by kernel_rfl) rfl rfl ⟨((HB.out.cell (World.block_lt_of_cell? w _ hw401_0)).trans hw401_0), ((HB.out.cell (World.block_lt_of_cell? w _ hw401_1)).trans hw401_1), ((HB.out.cell (World.block_lt_of_cell? w _ hw402_0)).trans hw402_0), ((HB.out.cell (World.block_lt_of_cell? w _ hw402_1)).trans hw402_1)⟩ (fun hHeld => ?_); refine with_tabW bibelotref03_Play.tab8 bibelotref03_Play.bits8 (fun HT_ HW_ => ?_)
                  generalize w13.drew = w15 at HO_8 HB GG12 HQ16 hf12_0 hx12_0 hx401_0 hx401_1 hx402_0 hx402_1 hHeld ⊢
                  refine pure_ (i := 0) (N := some 35) (v := ?_) (a' := ?_) #[true, false, false, false, false, false, false, false, false, false, false, false, false] rfl rfl (any_of HT_.out (by kernel_rfl)) (fun _ _ _ h => h) (Or.inl ⟨by rfl, ?_⟩) ?_ ?_
                  rotate_left
                  · intro w'
                    go_simp
                    with_reducible rfl
                  rotate_left
                  · simp only [Act.put, List.setIfInBounds_toArray, List.set_cons_zero, List.set_cons_succ, i64_w, i32_w]
                    rfl
                  refine pure_ (i := 1) (N := some 36) (v := ?_) (a' := ?_) #[true, true, false, false, false, false, false, false, false, false, false, false, false] rfl rfl (any_of HT_.out (by kernel_rfl)) (fun _ _ _ h => h) (Or.inl ⟨by rfl, ?_⟩) ?_ ?_
                  rotate_left
                  · intro w'
                    go_simp
                    with_reducible rfl
                  rotate_left
                  · simp only [Act.put, List.setIfInBounds_toArray, List.set_cons_zero, List.set_cons_succ, i64_w, i32_w]
                    rfl
                  refine pure_ (i := 2) (N := some 37) (v := ?_) (a' := ?_) #[true, true, true, false, false, false, false, false, false, false, false, false, false] rfl rfl (any_of HT_.out (by kernel_rfl)) (fun _ _ _ h => h) (Or.inl ⟨by rfl, ?_⟩) ?_ ?_
                  rotate_left
                  · intro w'
                    go_simp
                    with_reducible rfl
                  rotate_left
                  · simp only [Act.put, List.setIfInBounds_toArray, List.set_cons_zero, List.set_cons_succ, i64_w, i32_w]
                    rfl
                  refine pure_ (i := 3) (N := some 38) (v := ?_) (a' := ?_) #[true, true, true, true, false, false, false, false, false, false, false, false, false] rfl rfl (any_of HT_.out (by kernel_rfl)) (fun _ _ _ h => h) (Or.inl ⟨by rfl, ?_⟩) ?_ ?_
                  rotate_left
                  · intro w'
                    go_simp
                    with_reducible rfl
                  rotate_left
                  · simp only [Act.put, List.setIfInBounds_toArray, List.set_cons_zero, List.set_cons_succ, i64_w, i32_w]
                    rfl
                  refine pure_ (i := 4) (N := some 39) (v := ?_) (a' := ?_) #[true, true, true, true, true, false, false, false, false, false, false, false, false] rfl rfl (any_of HT_.out (by kernel_rfl)) (fun _ _ _ h => h) (Or.inl ⟨by rfl, ?_⟩) ?_ ?_
                  rotate_left
                  · intro w'
                    go_simp
                    with_reducible rfl
                  rotate_left
                  · simp only [Act.put, List.setIfInBounds_toArray, List.set_cons_zero, List.set_cons_succ, i64_w, i32_w]
                    rfl
                  refine pure_ (i := 6) (N := some 41) (v := ?_) (a' := ?_) #[true, true, true, true, true, false, true, false, false, false, false, false, false] rfl rfl (any_of HT_.out (by kernel_rfl)) (fun _ _ _ h => h) (Or.inl ⟨by rfl, ?_⟩) ?_ ?_
                  rotate_left
                  · intro w'
                    go_simp
                    with_reducible rfl
                  rotate_left
                  · simp only [Act.put, List.setIfInBounds_toArray, List.set_cons_zero, List.set_cons_succ, i64_w, i32_w]
                    rfl
                  refine pure_ (i := 7) (N := some 42) (v := ?_) (a' := ?_) #[true, true, true, true, true, false, true, true, false, false, false, false, false] rfl rfl (any_of HT_.out (by kernel_rfl)) (fun _ _ _ h => h) (Or.inl ⟨by rfl, ?_⟩) ?_ ?_
                  rotate_left
                  · intro w'
                    go_simp
                    with_reducible rfl
                  rotate_left
                  · simp only [Act.put, List.setIfInBounds_toArray, List.set_cons_zero, List.set_cons_succ, i64_w, i32_w]
                    rfl
                  refine pure_ (i := 8) (N := some 43) (v := ?_) (a' := ?_) #[true, true, true, true, true, false, true, true, true, false, false, false, false] rfl rfl (any_of HT_.out (by kernel_rfl)) (fun _ _ _ h => h) (Or.inl ⟨by rfl, ?_⟩) ?_ ?_
                  rotate_left
                  · intro w'
                    go_simp
                    with_reducible rfl
                  rotate_left
                  · simp only [Act.put, List.setIfInBounds_toArray, List.set_cons_zero, List.set_cons_succ, i64_w, i32_w]
                    rfl
                  refine pure_ (i := 9) (N := some 44) (v := ?_) (a' := ?_) #[true, true, true, true, true, false, true, true, true, true, false, false, false] rfl rfl (any_of HT_.out (by kernel_rfl)) (fun _ _ _ h => h) (Or.inl ⟨by rfl, ?_⟩) ?_ ?_
                  rotate_left
                  · intro w'
                    go_simp
                    with_reducible rfl
                  rotate_left
                  · simp only [Act.put, List.setIfInBounds_toArray, List.set_cons_zero, List.set_cons_succ, i64_w, i32_w]
                    rfl
                  refine take_ (i := 5) (N := some 40) (v := ?_) (a' := ?_) #[true, true, true, true, true, true, true, true, true, true, false, false, false] rfl rfl (take_ofW HT_.out HW_.out (by kernel_rfl)) (fun _ _ _ h => h) (Or.inl ⟨by rfl, ?_⟩) hHeld ?_ ?_
                  rotate_left
                  · rintro w' ⟨s0, s1, s2, s3⟩
                    go_simp
                    with_reducible rfl
                  rotate_left
                  · simp only [Act.put, List.setIfInBounds_toArray, List.set_cons_zero, List.set_cons_succ, i64_w, i32_w]
                    rfl
                  refine take_ (i := 10) (N := some 45) (v := ?_) (a' := ?_) #[true, true, true, true, true, true, true, true, true, true, true, false, false] rfl rfl (take_ofW HT_.out HW_.out (by kernel_rfl)) (fun _ _ _ h => h) (Or.inl ⟨by rfl, ?_⟩) hHeld ?_ ?_
                  rotate_left
                  · rintro w' ⟨s0, s1, s2, s3⟩
                    go_simp
                    with_reducible rfl
                  rotate_left
                  · simp only [Act.put, List.setIfInBounds_toArray, List.set_cons_zero, List.set_cons_succ, i64_w, i32_w]
                    rfl
                  refine pure_ (i := 11) (N := some 46) (v := ?_) (a' := ?_) #[true, true, true, true, true, true, true, true, true, true, true, true, false] rfl rfl (any_of HT_.out (by kernel_rfl)) (fun _ _ _ h => h) (Or.inl ⟨by rfl, ?_⟩) ?_ ?_
                  rotate_left
                  · intro w'
                    go_simp
                    with_reducible rfl
                  rotate_left
                  · simp only [Act.put, List.setIfInBounds_toArray, List.set_cons_zero, List.set_cons_succ, i64_w, i32_w]
                    rfl
                  refine last_ (i := 12) (N := none) #[true, true, true, true, true, true, true, true, true, true, true, true, true] rfl rfl (one_of HT_.out (by kernel_rfl)) (by decide) (fun K hK => ?_)
                  refine skip_ (w1 := ?_) (by rfl) rfl ?_ ?_
                  rotate_left
                  · go_simp
                    rfl
                  refine hK.out _ _ ?_
                  clear hK K
                  refine done_ (done_of HT_.out (by kernel_rfl)) ?_
                  try go_wp2
                  go_roundg k1
                  case measure => have := HK1.out; omega
                  case rel => exact ⟨(y403), (wrap64 (x9_1 + 1)), (by first | rfl | (simp; done) | (simp [*]; done)), H', ⟨by have := HK1.out; omega⟩, ⟨by (with_reducible repeat (first | apply Kd.R_alloc | apply Kd.R_drewN | apply Kd.R_drew)); exact HQ16.out⟩, ⟨by repeat (first | (with_reducible first | exact HB.out | apply below_alloc | apply pw_below_drewN | apply below_drew1 | refine below_set ?_ GB12.out) | exact HB.out)⟩⟩
                · rw [if_neg c11] at H
                  exact absurd H (by simp)
              · rw [if_neg c10] at H
                exact absurd H (by simp)
            · replace c9 := Bool.eq_false_iff.mpr c9
              subst c9
              have H1 : (some (x8_1, x9_1)) = some (r1, r2) := by rw [if_neg (show ¬ (false = true) by decide)] at H; exact H
              clear H
              have H := H1
              clear H1
              simp only [Option.some.injEq, Prod.mk.injEq] at H
              obtain ⟨rfl, rfl⟩ := H
              try go_wp2
              have n0_ := Aside0.mk (Kd.R_drew HO_8.out)
              have n1_ := Aside0.mk (below_drew1 HB.out)
              clear HO_8
              clear HB
              have HO_8 := n0_
              have HB := n1_
              clear n0_ n1_
              have p398 : 0 ≤ (x9_1 : Int) := of_decide_eq_true (by first | (with_reducible assumption) | assumption)
              have q398 : x9_1 < (l1.length : Int) := of_decide_eq_true (by first | (with_reducible assumption) | assumption)
              obtain ⟨ad398, e398, hx398_0, hx398_1⟩ := at_T52 HR1.out x9_1 p398 q398
              have hw398_1 := hx398_1
              have hw398_0 := hx398_0
              cases e398
              replace hx398_0 := (HB.out.cell (World.block_lt_of_cell? w _ hx398_0)).trans hx398_0
              replace hx398_1 := (HB.out.cell (World.block_lt_of_cell? w _ hx398_1)).trans hx398_1
              replace p398 := eq_true p398
              replace q398 := eq_true q398
              have p399 : 0 ≤ (x9_1 : Int) := of_decide_eq_true (by first | (with_reducible assumption) | assumption)
              have q399 : x9_1 < (l1.length : Int) := of_decide_eq_true (by first | (with_reducible assumption) | assumption)
              obtain ⟨ad399, e399, hx399_0, hx399_1⟩ := at_T52 HR1.out x9_1 p399 q399
              have hw399_1 := hx399_1
              have hw399_0 := hx399_0
              obtain rfl : ad398 = ad399 := (by injection e399)
              replace hx399_0 := (HB.out.cell (World.block_lt_of_cell? w _ hx399_0)).trans hx399_0
              replace hx399_1 := (HB.out.cell (World.block_lt_of_cell? w _ hx399_1)).trans hx399_1
              replace p399 := eq_true p399
              replace q399 := eq_true q399
              obtain ⟨Ao18, co18, eo18⟩ := Kd.R_slice HO_8.out
              (first | subst eo18 | (injection eo18 with f1_ f2_ f3_; have f4_ := f1_.symm; have f5_ := f3_.symm; clear f1_ f2_ f3_; subst f4_; subst f5_))
              refine start_ (n := 14) (S := fun w' => w'.cell? (ad398.add ((x9_1).toNat * 2)) = some (.int .i64 ((rd_T52 l1 x9_1).f0)) ∧ w'.cell? ⟨(ad398.add ((x9_1).toNat * 2)).block, (ad398.add ((x9_1).toNat * 2)).off + 1, none⟩ = some (.int .i64 ((rd_T52 l1 x9_1).f1)) ∧ w'.cell? (ad398.add ((x9_1).toNat * 2)) = some (.int .i64 ((rd_T52 l1 x9_1).f0)) ∧ w'.cell? ⟨(ad398.add ((x9_1).toNat * 2)).block, (ad398.add ((x9_1).toNat * 2)).off + 1, none⟩ = some (.int .i64 ((rd_T52 l1 x9_1).f1))) (ds := []) #[false, false, false, false, false, false, false, false, false, false, false, false, false, false] (by kernel_rfl) rfl rfl ⟨((HB.out.cell (World.block_lt_of_cell? w _ hw398_0)).trans hw398_0), ((HB.out.cell (World.block_lt_of_cell? w _ hw398_1)).trans hw398_1), ((HB.out.cell (World.block_lt_of_cell? w _ hw399_0)).trans hw399_0), ((HB.out.cell (World.block_lt_of_cell? w _ hw399_1)).trans hw399_1)⟩ (fun hHeld => ?_); refine with_tabW bibelotref03_Play.tab6 bibelotref03_Play.bits6 (fun HT_ HW_ => ?_)
              generalize wr.drew = w17 at HO_8 HB hx398_0 hx398_1 hx399_0 hx399_1 hHeld ⊢
              refine pure_ (i := 0) (N := some 19) (v := ?_) (a' := ?_) #[true, false, false, false, false, false, false, false, false, false, false, false, false, false] rfl rfl (any_of HT_.out (by kernel_rfl)) (fun _ _ _ h => h) (Or.inl ⟨by rfl, ?_⟩) ?_ ?_
              rotate_left
              · intro w'
                go_simp
                with_reducible rfl
              rotate_left
              · simp only [Act.put, List.setIfInBounds_toArray, List.set_cons_zero, List.set_cons_succ, i64_w, i32_w]
                rfl
              refine pure_ (i := 1) (N := some 20) (v := ?_) (a' := ?_) #[true, true, false, false, false, false, false, false, false, false, false, false, false, false] rfl rfl (any_of HT_.out (by kernel_rfl)) (fun _ _ _ h => h) (Or.inl ⟨by rfl, ?_⟩) ?_ ?_
              rotate_left
              · intro w'
                go_simp
                with_reducible rfl
              rotate_left
              · simp only [Act.put, List.setIfInBounds_toArray, List.set_cons_zero, List.set_cons_succ, i64_w, i32_w]
                rfl
              refine pure_ (i := 2) (N := some 21) (v := ?_) (a' := ?_) #[true, true, true, false, false, false, false, false, false, false, false, false, false, false] rfl rfl (any_of HT_.out (by kernel_rfl)) (fun _ _ _ h => h) (Or.inl ⟨by rfl, ?_⟩) ?_ ?_
              rotate_left
              · intro w'
                go_simp
                with_reducible rfl
              rotate_left
              · simp only [Act.put, List.setIfInBounds_toArray, List.set_cons_zero, List.set_cons_succ, i64_w, i32_w]
                rfl
              refine pure_ (i := 3) (N := some 22) (v := ?_) (a' := ?_) #[true, true, true, true, false, false, false, false, false, false, false, false, false, false] rfl rfl (any_of HT_.out (by kernel_rfl)) (fun _ _ _ h => h) (Or.inl ⟨by rfl, ?_⟩) ?_ ?_
              rotate_left
              · intro w'
                go_simp
                with_reducible rfl
              rotate_left
              · simp only [Act.put, List.setIfInBounds_toArray, List.set_cons_zero, List.set_cons_succ, i64_w, i32_w]
                rfl
              refine pure_ (i := 4) (N := some 23) (v := ?_) (a' := ?_) #[true, true, true, true, true, false, false, false, false, false, false, false, false, false] rfl rfl (any_of HT_.out (by kernel_rfl)) (fun _ _ _ h => h) (Or.inl ⟨by rfl, ?_⟩) ?_ ?_
              rotate_left
              · intro w'
                go_simp
                with_reducible rfl
              rotate_left
              · simp only [Act.put, List.setIfInBounds_toArray, List.set_cons_zero, List.set_cons_succ, i64_w, i32_w]
                rfl
              refine pure_ (i := 6) (N := some 25) (v := ?_) (a' := ?_) #[true, true, true, true, true, false, true, false, false, false, false, false, false, false] rfl rfl (any_of HT_.out (by kernel_rfl)) (fun _ _ _ h => h) (Or.inl ⟨by rfl, ?_⟩) ?_ ?_
              rotate_left
              · intro w'
                go_simp
                with_reducible rfl
              rotate_left
              · simp only [Act.put, List.setIfInBounds_toArray, List.set_cons_zero, List.set_cons_succ, i64_w, i32_w]
                rfl
              refine pure_ (i := 7) (N := some 26) (v := ?_) (a' := ?_) #[true, true, true, true, true, false, true, true, false, false, false, false, false, false] rfl rfl (any_of HT_.out (by kernel_rfl)) (fun _ _ _ h => h) (Or.inl ⟨by rfl, ?_⟩) ?_ ?_
              rotate_left
              · intro w'
                go_simp
                with_reducible rfl
              rotate_left
              · simp only [Act.put, List.setIfInBounds_toArray, List.set_cons_zero, List.set_cons_succ, i64_w, i32_w]
                rfl
              refine pure_ (i := 8) (N := some 27) (v := ?_) (a' := ?_) #[true, true, true, true, true, false, true, true, true, false, false, false, false, false] rfl rfl (any_of HT_.out (by kernel_rfl)) (fun _ _ _ h => h) (Or.inl ⟨by rfl, ?_⟩) ?_ ?_
              rotate_left
              · intro w'
                go_simp
                with_reducible rfl
              rotate_left
              · simp only [Act.put, List.setIfInBounds_toArray, List.set_cons_zero, List.set_cons_succ, i64_w, i32_w]
                rfl
              refine pure_ (i := 9) (N := some 28) (v := ?_) (a' := ?_) #[true, true, true, true, true, false, true, true, true, true, false, false, false, false] rfl rfl (any_of HT_.out (by kernel_rfl)) (fun _ _ _ h => h) (Or.inl ⟨by rfl, ?_⟩) ?_ ?_
              rotate_left
              · intro w'
                go_simp
                with_reducible rfl
              rotate_left
              · simp only [Act.put, List.setIfInBounds_toArray, List.set_cons_zero, List.set_cons_succ, i64_w, i32_w]
                rfl
              refine pure_ (i := 11) (N := some 30) (v := ?_) (a' := ?_) #[true, true, true, true, true, false, true, true, true, true, false, true, false, false] rfl rfl (any_of HT_.out (by kernel_rfl)) (fun _ _ _ h => h) (Or.inl ⟨by rfl, ?_⟩) ?_ ?_
              rotate_left
              · intro w'
                go_simp
                with_reducible rfl
              rotate_left
              · simp only [Act.put, List.setIfInBounds_toArray, List.set_cons_zero, List.set_cons_succ, i64_w, i32_w]
                rfl
              refine take_ (i := 5) (N := some 24) (v := ?_) (a' := ?_) #[true, true, true, true, true, true, true, true, true, true, false, true, false, false] rfl rfl (take_ofW HT_.out HW_.out (by kernel_rfl)) (fun _ _ _ h => h) (Or.inl ⟨by rfl, ?_⟩) hHeld ?_ ?_
              rotate_left
              · rintro w' ⟨s0, s1, s2, s3⟩
                go_simp
                with_reducible rfl
              rotate_left
              · simp only [Act.put, List.setIfInBounds_toArray, List.set_cons_zero, List.set_cons_succ, i64_w, i32_w]
                rfl
              refine take_ (i := 10) (N := some 29) (v := ?_) (a' := ?_) #[true, true, true, true, true, true, true, true, true, true, true, true, false, false] rfl rfl (take_ofW HT_.out HW_.out (by kernel_rfl)) (fun _ _ _ h => h) (Or.inl ⟨by rfl, ?_⟩) hHeld ?_ ?_
              rotate_left
              · rintro w' ⟨s0, s1, s2, s3⟩
                go_simp
                with_reducible rfl
              rotate_left
              · simp only [Act.put, List.setIfInBounds_toArray, List.set_cons_zero, List.set_cons_succ, i64_w, i32_w]
                rfl
              refine one_ (i := 12) (N := some 31) #[true, true, true, true, true, true, true, true, true, true, true, true, true, false] rfl rfl (one_of HT_.out (by kernel_rfl)) (by decide) (fun K hK => ?_)
              refine goes_ Tryd.func72 (by kernel_rfl) rfl #[.slice Ao18 x8_1.length co18, .int .i64 ((rd_T52 l1 x9_1).f0), .int .i64 ((rd_T52 l1 x9_1).f1), .int .i64 a2] (by rfl) rfl rfl (by (try simp only [List.map_toArray, List.map_cons, List.map_nil]); first | done | rfl | (simp only [List.length_drop, List.length_take]; rfl)) ?_
              with_reducible refine (bibelotref03_Can.calls k1 _ _ x8_1 ((rd_T52 l1 x9_1).f0) ((rd_T52 l1 x9_1).f1) a2 false _ ?side1 ?side2 A8.out).mono ?_
              (case side1 => repeat (first | exact (Kd.R_reads' HO_8.out).2.2 | (with_reducible refine Kd.C_alloc ?_ _) | (with_reducible refine Kd.C_drewN ?_ _) | (with_reducible refine Kd.C_drew ?_)))
              (case side2 => exact (Kd.R_reads' HO_8.out).2.1)
              rintro e w' ⟨rfl, ⟨nd, rfl⟩⟩
              refine ⟨_, rfl, ?_⟩
              refine hK.out _ _ ⟨((HB.out.cell (World.block_lt_of_cell? w _ hw398_0)).trans hw398_0), ((HB.out.cell (World.block_lt_of_cell? w _ hw398_1)).trans hw398_1), ((HB.out.cell (World.block_lt_of_cell? w _ hw399_0)).trans hw399_0), ((HB.out.cell (World.block_lt_of_cell? w _ hw399_1)).trans hw399_1)⟩ (fun hHeld => ?_)
              clear hK K
              refine norm_ (a' := ?_) ?_ ?_
              rotate_left
              · show Act.put _ (some 31) _ = _
                simp only [Act.put, List.setIfInBounds_toArray, List.set_cons_zero, List.set_cons_succ, i64_w, i32_w]
                rfl
              refine pure_ (i := 13) (N := some 32) (v := ?_) (a' := ?_) #[true, true, true, true, true, true, true, true, true, true, true, true, true, true] rfl rfl (any_of HT_.out (by kernel_rfl)) (fun _ _ _ h => h) (Or.inl ⟨by rfl, ?_⟩) ?_ ?_
              rotate_left
              · intro w'
                go_simp
                with_reducible rfl
              rotate_left
              · simp only [Act.put, List.setIfInBounds_toArray, List.set_cons_zero, List.set_cons_succ, i64_w, i32_w]
                rfl
              refine done_ (done_of HT_.out (by kernel_rfl)) ?_
              try go_wp2
              go_ret2
              exact ⟨_, by first | rfl | (simp [errW_none, errW_some] <;> rfl) | (simp [*, errW_none, errW_some] <;> rfl), by (with_reducible repeat (first | apply Kd.R_alloc | apply Kd.R_drewN | apply Kd.R_drew)); exact HO_8.out, by repeat (first | (with_reducible first | exact HB.out | apply below_alloc | apply pw_below_drewN | apply below_drew1) | exact HB.out)⟩
          · rw [if_neg c7] at H
            exact absurd H (by simp)
        · rw [if_neg c6] at H
          have c6b0 : decide (x9_1 < (l1.length : Int)) = false := decide_eq_false c6
          clear c6
          simp only [Option.some.injEq, Prod.mk.injEq] at H
          obtain ⟨rfl, rfl⟩ := H
          go_wp2
          go_ret2
          exact ⟨_, by first | rfl | (simp [errW_none, errW_some] <;> rfl) | (simp [*, errW_none, errW_some] <;> rfl), by (with_reducible repeat (first | apply Kd.R_alloc | apply Kd.R_drewN | apply Kd.R_drew)); exact HO_8.out, by repeat (first | (with_reducible first | exact HB.out | apply below_alloc | apply pw_below_drewN | apply below_drew1) | exact HB.out)⟩
  · rw [if_neg c4] at H
    exact absurd H (by simp)

end Go.Proofs.YtnaaomhmoamfpaaDoor.Q
/- Two moves compared: an array of two numbers. -/
namespace Go.Proofs.YtnaaomhmoamfpaaDoor.G
set_option linter.unusedVariables false
set_option linter.unusedSimpArgs false
set_option linter.unusedSectionVars false
open Go.Proofs.YtnaaomhmoamfpaaDoor.Q Go.Proofs.YtnaaomhmoamfpaaDoor.Hn Go.Proofs.YtnaaomhmoamfpaaDoor.K Go.Proofs.YtnaaomhmoamfpaaDoor.It
open Go.RowKit Go.Shelf Go.Proofs.YtnaaomhmoamfpaaDoorW.PrintWords Go.Proofs.YtnaaomhmoamfpaaDoorW.PrintLast Go.Proofs.YtnaaomhmoamfpaaDoorW.PrintMore
theorem u52a : Tryd.prog.underlying 52 = some (.array 2 3) := by kernel_rfl
theorem eq52 (W : World) (a b c d : Int) : (Op.equalIn 10000 52 (.agg #[.int .i64 a, .int .i64 b]) (.agg #[.int .i64 c, .int .i64 d])).run Tryd.prog W = .ok (a == c && b == d) W := by
  obtain ⟨i0, hi0, hz, hs, _⟩ := info_parts info3
  have c3 : Tryd.prog.cellsOf 3 = 1 := by kernel_rfl
  have hl : List.range 2 = [0, 1] := rfl
  rw [show (10000 : Nat) = 9999 + 1 from rfl, run_equalIn_array W 9999 _ _ u52a hi0, c3, hl]
  have e1 : ∀ x y : Int, (Op.equalIn 9999 3 (.int .i64 x) (.int .i64 y)).run Tryd.prog W = .ok (x == y) W := fun x y => run_equalIn_int W 9998 3 .i64 .i64 x y u3
  simp only [Op.eqItems, Sem.run_bind, Nat.zero_mul, Nat.one_mul]
  have p0 : ∀ x y : Int, (part 3 #[Value.int .i64 x, Value.int .i64 y] 0).run Tryd.prog W = .ok (.int .i64 x) W := fun x y => by simp [part, go_sem]
  have p1 : ∀ x y : Int, (part 3 #[Value.int .i64 x, Value.int .i64 y] 1).run Tryd.prog W = .ok (.int .i64 y) W := fun x y => by simp [part, go_sem]
  simp only [p0, Result.andThen_ok, e1]
  by_cases h : a = c
  · subst h
    simp only [beq_self_eq_true, Bool.not_true, Bool.false_eq_true, if_false, Bool.true_and, Sem.run_bind, p1, Result.andThen_ok, e1]
    by_cases k : b = d <;> simp [k, Sem.run_pure]
  · simp [h, Sem.run_pure]
end Go.Proofs.YtnaaomhmoamfpaaDoor.G
/- Play: its contract. -/
namespace Go.Proofs.YtnaaomhmoamfpaaDoor.G
set_option linter.unusedVariables false
set_option linter.unusedSimpArgs false
set_option linter.unusedSectionVars false
open Go.Proofs.YtnaaomhmoamfpaaDoor.Q Go.Proofs.YtnaaomhmoamfpaaDoor.Hn Go.Proofs.YtnaaomhmoamfpaaDoor.K Go.Proofs.YtnaaomhmoamfpaaDoor.It
open Go.RowKit Go.Shelf Go.Proofs.YtnaaomhmoamfpaaDoorW.PrintWords Go.Proofs.YtnaaomhmoamfpaaDoorW.PrintLast Go.Proofs.YtnaaomhmoamfpaaDoorW.PrintMore
attribute [local go_sem] Oper.semAt_some eq52

/-- Can move m be made? -/
def mvB (d : List Int) (m : S52) : Bool := (movesL d 3).any fun x => decide ((x.1 : Int) = m.f0) && decide ((x.2 : Int) = m.f1)
def putM (d : List Int) (m : S52) : List Int := d.set m.f0.toNat m.f1
/-- Moves are made as long as they can be made. -/
def playL : List Int → List S52 → List Int × Nat
  | d, [] => (d, 0)
  | d, m :: ms => if mvB d m = true then ((playL (putM d m) ms).1, (playL (putM d m) ms).2 + 1) else (d, 0)
def hanoi_Play.f (l : List Int) (ms : List S52) : Option (List Int × Int × Int) := if okD l = true then some ((playL l ms).1, ((playL l ms).2 : Int), 0) else some ([], 0, 30)

/-- Play's loop: what holds at its head. -/
structure PlI (l0 : List Int) (l1 : List S52) (w : World) (b8 g cap i k : Nat) (d : List Int) (rs : List Nat) (W : World) : Prop where
  le : i ≤ l1.length
  kle : k ≤ i
  len : d.length = l0.length
  pos : Pos d 3
  out : playL l0 l1 = ((playL d (l1.drop i)).1, k + (playL d (l1.drop i)).2)
  b0 : Blk W b8 #[.slice (some ⟨g, 0, none⟩) l0.length cap] 46
  b1 : Blk W (b8 + 1) #[.int .i64 (k : Int)] 3
  row : Kd.R (Kd.int .i64) 3 W w.heap.size (fun j => j = g) (.slice (some ⟨g, 0, none⟩) l0.length cap) d
  below : Below w.heap.size w W
  marks : Mk w.heap.size rs W
  size : b8 + 2 ≤ W.heap.size

theorem PlI.alloc {l0 : List Int} {l1 : List S52} {w : World} {b8 g cap i k : Nat} {d : List Int} {rs : List Nat} {W : World} (h : PlI l0 l1 w b8 g cap i k d rs W) (o : Obj) : PlI l0 l1 w b8 g cap i k d rs (W.alloc o) :=
  ⟨h.le, h.kle, h.len, h.pos, h.out, h.b0.alloc _, h.b1.alloc _, Kd.R_alloc h.row _, h.below.alloc h.below.size _, ⟨h.marks.1, fun r hr => ⟨(h.marks.2 r hr).1, by rw [Below.heap_alloc _ _ _ (h.marks.lt r hr)]; exact (h.marks.2 r hr).2⟩⟩, by have := h.size; simp; omega⟩
theorem PlI.step {l0 : List Int} {l1 : List S52} {w : World} {b8 g cap i k B : Nat} {d : List Int} {rs : List Nat} {W W' : World} (h : PlI l0 l1 w b8 g cap i k d rs W) (hs : Step 127 B W W') (hB : b8 + 2 ≤ B) (hm : ∀ r, r ∈ rs → r < B) (hw : w.heap.size ≤ g) (hg : g < B) : PlI l0 l1 w b8 g cap i k d rs W' :=
  ⟨h.le, h.kle, h.len, h.pos, h.out, hs.same _ _ h.b0 (.inl (by omega)), hs.same _ _ h.b1 (.inl (by omega)), R_iter h.row hs (by decide), hs.below h.below (by omega) (Nat.le_refl _), h.marks.step hm hs, Nat.le_trans h.size hs.size⟩
theorem R_bk {α : Type} {d : Kd α} {e base : Nat} {ok : Nat → Prop} {w w1 : World} {v : Value} {xs : List α} (h : d.R e w base ok v xs) (hb : Bk w w1) : d.R e w1 base ok v xs :=
  Kd.R_mono (Kd.R_move (Kd.R_bound h) (fun k hk => by
    obtain ⟨_, _, _, q, hq, cells, hc⟩ := hk
    rw [hc]
    exact hb _ _ hc rfl)) (fun _ hk => hk.1)
theorem drop_T52 (l : List S52) (i : Nat) (h : i < l.length) : l.drop i = rd_T52 l (i : Int) :: l.drop (i + 1) := by
  rw [List.drop_eq_getElem_cons h]
  congr 1
  simp [rd_T52, h]
/-- The marks are taken off: all that is no book-keeping lies as it lay. -/
theorem leaves_marks2 {R : Ending → World → Prop} {f : Func} {tmps : Array Value} (B : Nat) : ∀ (rs : List Nat) (W : World), Mk B rs W → B ≤ W.heap.size → (∀ W', Below B W W' → Bk W W' → LeavesIn Fence.wide 8 Tryd.prog f tmps R [] .returning W') → LeavesInM Fence.wide 8 Tryd.prog f tmps R (rs.map mark) .returning W
  | [], W, _, _, h => h W (Below.refl _ _) (fun _ _ h _ => h)
  | r :: rs, W, hM, hB, h => by
    obtain ⟨hnd, hall⟩ := hM
    obtain ⟨hr, hrs⟩ := List.nodup_cons.1 hnd
    have h1 := hall r (by simp)
    refine ⟨by simp, .inl ⟨r, _, rfl, run_takeDeferred h1.2, ?_⟩⟩
    have hbel : Below B W (W.putObj r (.deferred none)) := ⟨rfl, rfl, rfl, by simp, fun k hk => World.putObj_heap_other (by omega)⟩
    have hbk : Bk W (W.putObj r (.deferred none)) := fun k o hk hb => by
      by_cases e : k = r
      · subst e
        rw [h1.2] at hk
        injection hk with hk
        subst hk
        cases hb
      · rw [World.putObj_heap_other e]; exact hk
    refine leaves_marks2 B rs _ ⟨hrs, fun x hx => ?_⟩ (by simpa using hB) (fun W' hW' hk' => h W' (hbel.trans hW') (fun k o hk hb => hk' k o (hbk k o hk hb) hb))
    have h2 := hall x (List.mem_cons_of_mem _ hx)
    exact ⟨h2.1, (World.putObj_heap_other (fun e => hr (by first | (rw [← e]; exact hx) | (rw [e]; exact hx)))).trans h2.2⟩

set_option maxHeartbeats 8000000 in
set_option maxRecDepth 100000 in
theorem hanoi_Play.calls (A0 : Option Addr) (c0 : Nat) (l0 : List Int) (A1 : Option Addr) (c1 : Nat) (l1 : List S52) (r1 : List Int) (r2 r3 : Int) (w : World) (hr0 : Kd.C (Kd.int .i64) w A0 l0.length l0) (hc0 : l0.length ≤ c0) (hr1 : Kd.C k52 w A1 l1.length l1) (hc1 : l1.length ≤ c1) (h : hanoi_Play.f l0 l1 = some (r1, r2, r3)) :
    Calls Tryd.prog 56 #[.slice A0 l0.length c0, .slice A1 l1.length c1] w fun e w' => ∃ v0_ : Value, e = .returned (.tuple #[v0_, .int .i64 r2, .int .i64 r3]) ∧ Kd.R (Kd.int .i64) 3 w' w.heap.size (fun _ => True) v0_ r1 ∧ Below w.heap.size w w' := by
  obtain ⟨k, hk⟩ := check_ev l0
  have hchk := hk k (Nat.le_refl _)
  clear hk
  unfold hanoi_Play.f at h
  have HR := Aside0.mk hr0
  have HC0 := Aside0.mk hc0
  have HR1 := Aside0.mk hr1
  have HC1 := Aside0.mk hc1
  have HL1 := Aside0.mk hr1.2.1
  clear hr0 hc0 hr1 hc1
  by_cases hok : okD l0 = true
  · rw [if_pos hok] at h
    cases h
    rw [show checkD l0 = 0 by simp [checkD, hok]] at hchk
    have HC := Aside0.mk hchk
    have HOK := Aside0.mk hok
    have HCl := Aside0.mk (show slices_Clone_int_int.f l0 = some l0 by unfold slices_Clone_int_int.f; rw [if_pos]; obtain ⟨_, h2, _⟩ := okD_facts hok; omega)
    clear hchk hok
    refine (callsIn_wide (n := 8)).1 ?_
    refine callsIn_of_wp_marks Tryd.func56 rfl trivial ?_ rfl
    simp only [Tryd.ntmps56, List.size_toArray, List.length_cons, List.length_nil, Nat.reduceAdd, Nat.reduceSub, Array.replicate_succ, Array.replicate_zero, List.push_toArray, List.append_toArray, List.nil_append, List.cons_append]
    gi_wp2
    refine wpIn_scope ?_
    gi_wp2_with (refine ⟨trivial, ?_⟩; first | (gi_at_call 62; refine CallsIn.mono (callsIn_wide.2 (hanoi_Check.calls _ _ _ _ _ _ HR.out HC0.out HC.out)) ?_; rintro e w1 ⟨rfl, hb⟩; have HB := Aside0.mk hb; clear hb) | (gi_at_call 83; refine CallsIn.mono (callsIn_wide.2 (slices_Clone_int_int.calls _ _ _ _ _ (Kd.C_below HR.out HB.out) HC0.out HCl.out)) ?_; rintro e w2 ⟨v, rfl, ho, hb⟩; obtain ⟨g, cap, ev, hg1, hg2, hg3⟩ := Kd.R_form ho (okD_facts HOK.out).1; subst ev; have HB2 := Aside0.mk (HB.out.trans (hb.mono HB.out.size)); have HO := Aside0.mk ho; clear hb ho hg3))
    refine wpIn_label ?_
    gi_wp2
    have hsz1 := HB.out.size
    have hsz2 := HB2.out.size
    obtain ⟨W0, hW0⟩ : ∃ W0, (w2.alloc (Obj.cells #[Value.slice (some { block := g, off := 0 }) l0.length cap] 46)).alloc (Obj.cells #[Value.int IntKind.i64 0] 3) = W0 := ⟨_, rfl⟩
    have h0 : PlI l0 l1 w w2.heap.size g cap 0 0 l0 [] W0 := by
      rw [← hW0]
      refine ⟨Nat.zero_le _, Nat.le_refl _, rfl, (okD_facts HOK.out).2.2, by simp, (Blk.new w2 _ _).alloc _, ?_, ?_, (HB2.out.alloc hsz2 _).alloc (by simp; omega) _, ⟨List.nodup_nil, fun r hr => by cases hr⟩, by simp⟩
      · have := Blk.new (w2.alloc (Obj.cells #[Value.slice (some { block := g, off := 0 }) l0.length cap] 46)) #[Value.int IntKind.i64 0] 3
        rwa [World.size_alloc] at this
      · refine Kd.R_alloc (Kd.R_alloc (Kd.R_lower (Kd.R_mono (Kd.R_tight rfl HO.out) (fun j hj => ?_)) hsz1) _) _
        exact Option.some.inj hj
    rw [hW0]
    clear hW0 HO
    have hgb : w.heap.size ≤ g := by omega
    have hgl : g < w2.heap.size := hg2
    obtain ⟨b8, hb8⟩ : ∃ b8, w2.heap.size = b8 := ⟨_, rfl⟩
    rw [hb8] at h0 hgl hsz2 ⊢
    clear hb8 hg1 hg2
    have H0 := Aside0.mk h0
    clear h0
    refine wpIn_loop (fun a W => ∃ (i k : Nat) (d : List Int) (rs : List Nat) (x10 x11 x12 x13 x24 x25 x26 x27 x28 x29 x30 x31 x32 x33 x34 x35 x36 x37 x38 x39 x40 x41 x42 x43 x44 : Value), a = { tmps := #[Value.slice A0 l0.length c0, Value.slice A1 l1.length c1, undef, undef, Value.slice none 0 0, Value.int IntKind.i64 0, Value.int IntKind.i64 0, Value.int IntKind.i64 0, Value.pointer (some { block := b8, off := 0 }), Value.pointer (some { block := b8 + 1, off := 0 }), x10, x11, x12, x13, Value.slice A0 l0.length c0, Value.int IntKind.i64 0, Value.int IntKind.i64 0, Value.bool false, undef, Value.slice A0 l0.length c0, Value.slice (some { block := g, off := 0 }) l0.length cap, Value.slice A1 l1.length c1, Value.int IntKind.i64 (l1.length : Int), Value.int IntKind.i64 (i : Int), x24, x25, x26, x27, x28, x29, x30, x31, x32, x33, x34, x35, x36, x37, x38, x39, x40, x41, x42, x43, x44], defers := rs.map mark } ∧ Aside0 (PlI l0 l1 w b8 g cap i k d rs W)) (fun a _ => l1.length - (intOf (a.tmps.getD 23 undef)).toNat) ⟨0, 0, l0, [], _, _, _, _, _, _, _, _, _, _, _, _, _, _, _, _, _, _, _, _, _, _, _, _, _, rfl, H0⟩ ?_
    rintro a W ⟨i, kd, d, rs, x10, x11, x12, x13, x24, x25, x26, x27, x28, x29, x30, x31, x32, x33, x34, x35, x36, x37, x38, x39, x40, x41, x42, x43, x44, rfl, HI⟩
    clear H0
    by_cases hlt : i < l1.length
    · have hi1 : (i : Int) < (l1.length : Int) := by omega
      obtain ⟨ad1, e1, hx0, hx1⟩ := at_T52 (Kd.C_below HR1.out HI.out.below) (i : Int) (by omega) hi1
      subst e1
      obtain ⟨m, hm⟩ : ∃ m, rd_T52 l1 (i : Int) = m := ⟨_, rfl⟩
      rw [hm, Int.toNat_natCast] at hx0 hx1
      have hi0 : (0 : Int) ≤ (i : Int) := by omega
      have hcb := (HI.out.b0.alloc (Obj.cells #[Value.int IntKind.i64 m.f0, Value.int IntKind.i64 m.f1] 52)).cell 0 (v := .slice (some ⟨g, 0, none⟩) l0.length cap) rfl
      gi_wp2_with (refine ⟨trivial, ?_⟩; gi_at_call 67; refine (moves_calls Fence.wide _ trivial rfl _ _ _ _ _).mono ?_; rintro e w' ⟨rfl, rfl⟩)
      clear hx0 hx1 hcb
      obtain ⟨W6, hW6⟩ : ∃ W6, ((W.alloc (Obj.cells #[Value.int IntKind.i64 m.f0, Value.int IntKind.i64 m.f1] 52)).alloc (Obj.cells #[Value.slice (some { block := g, off := 0 }) l0.length cap] 46)).alloc (Obj.cells #[Value.int IntKind.i64 3] 3) = W6 := ⟨_, rfl⟩
      have hz : W6.heap.size = W.heap.size + 3 := by rw [← hW6]; simp
      have hq0 : Blk W6 W.heap.size #[Value.int IntKind.i64 m.f0, Value.int IntKind.i64 m.f1] 52 := by rw [← hW6]; exact ((Blk.new W _ _).alloc _).alloc _
      have hq1 : Blk W6 (W.heap.size + 1) #[Value.slice (some { block := g, off := 0 }) d.length cap] 46 := by rw [← hW6, HI.out.len]; have := Blk.new (W.alloc (Obj.cells #[Value.int IntKind.i64 m.f0, Value.int IntKind.i64 m.f1] 52)) #[Value.slice (some { block := g, off := 0 }) l0.length cap] 46; rw [World.size_alloc] at this; exact this.alloc _
      have hq2 : Blk W6 (W.heap.size + 1 + 1) #[Value.int IntKind.i64 3] 3 := by rw [← hW6]; have := Blk.new ((W.alloc (Obj.cells #[Value.int IntKind.i64 m.f0, Value.int IntKind.i64 m.f1] 52)).alloc (Obj.cells #[Value.slice (some { block := g, off := 0 }) l0.length cap] 46)) #[Value.int IntKind.i64 3] 3; rwa [World.size_alloc, World.size_alloc] at this
      have hWs := HI.out.size
      have hP6 : PlI l0 l1 w b8 g cap i kd d rs W6 := by rw [← hW6]; exact ((HI.out.alloc _).alloc _).alloc _
      rw [hW6]
      clear hW6
      have hF : Kd.F (Kd.int .i64) W6 (fun j => j = g) (some ⟨g, 0, none⟩) d.length d := by rw [hP6.len]; exact Kd.R_F hP6.row
      have hd40 : d.length ≤ 40 := by rw [HI.out.len]; exact (okD_facts HOK.out).2.1
      have hMl := HI.out.marks.lt
      have HP6 := Aside0.mk hP6
      have HQ0 := Aside0.mk hq0
      have HQ1 := Aside0.mk hq1
      have HQ2 := Aside0.mk hq2
      have HF := Aside0.mk hF
      have HML := Aside0.mk hMl
      have hgW : g < W.heap.size := by omega
      clear hP6 hq0 hq1 hq2 hF hMl
      refine range_outer (T := 127) (keep := own3 (fun j => j = g) (W.heap.size + 1) (W.heap.size + 1 + 1)) (L := movesL d 3) rfl (by omega) (gf := 91) (lb := #[Value.pointer (some ⟨W.heap.size + 1, 0, none⟩), Value.pointer (some ⟨W.heap.size + 1 + 1, 0, none⟩)]) rfl trivial (enters_of Tryd.func91 (by kernel_rfl) rfl)
        (encs := fun (x : Nat × Nat) => #[.int .i64 (x.1 : Int), .int .i64 (x.2 : Int)])
        (moves_it Fence.wide 7 trivial rfl (by omega) (fun j => j = g) (W.heap.size + 1) (W.heap.size + 1 + 1) 3 cap ⟨g, 0, none⟩ d hd40 (by omega) HI.out.pos W6 HQ1.out HQ2.out HF.out (fun j hj => by subst hj; omega))
        (Below.refl _ _) (fun j hj => by rcases hj with (hj | hj) | hj <;> omega) (fun _ => rfl)
        (fun pre V => Aside0 ((∀ x, x ∈ pre → ¬ ((x.1 : Int) = m.f0 ∧ (x.2 : Int) = m.f1)) ∧ PlI l0 l1 w b8 g cap i kd d rs V ∧ Blk V W.heap.size #[Value.int IntKind.i64 m.f0, Value.int IntKind.i64 m.f1] 52 ∧ W6.heap.size ≤ V.heap.size))
        (fun c pre V => c = .exit 1 ∧ Aside0 (mvB d m = true ∧ PlI l0 l1 w b8 g cap (i + 1) (kd + 1) (putM d m) rs V))
        (fun s A A' hs hst => by
          obtain ⟨h1, h2, h3, h4⟩ := hs.out
          exact .mk ⟨h1, h2.step hst (by omega) (fun r hr => by have := HML.out r hr; omega) hgb (by omega), hst.same _ _ h3 (.inl (by omega)), Nat.le_trans h4 hst.size⟩)
        (fun c s A A' hs hst => ⟨hs.1, .mk ⟨hs.2.out.1, hs.2.out.2.step hst (by omega) (fun r hr => by have := HML.out r hr; omega) hgb (by omega)⟩⟩)
        (.mk ⟨fun x hx => absurd hx (List.not_mem_nil), HP6.out, HQ0.out, Nat.le_refl _⟩)
        (fun x a' A => a' = { tmps := #[Value.slice A0 l0.length c0, Value.slice (some ad1) l1.length c1, undef, undef, Value.slice none 0 0, Value.int IntKind.i64 0, Value.int IntKind.i64 0, Value.int IntKind.i64 0, Value.pointer (some { block := b8, off := 0 }), Value.pointer (some { block := b8 + 1, off := 0 }), x10, Value.pointer (some { block := W.heap.size, off := 0 }), Value.int IntKind.i64 (x.1 : Int), Value.int IntKind.i64 (x.2 : Int), Value.slice A0 l0.length c0, Value.int IntKind.i64 0, Value.int IntKind.i64 0, Value.bool false, undef, Value.slice A0 l0.length c0, Value.slice (some { block := g, off := 0 }) l0.length cap, Value.slice (some ad1) l1.length c1, Value.int IntKind.i64 (l1.length : Int), Value.int IntKind.i64 (i : Int), Value.bool true, Value.pointer (some (ad1.add (i * 2))), Value.agg #[Value.int IntKind.i64 m.f0, Value.int IntKind.i64 m.f1], Value.slice (some { block := g, off := 0 }) l0.length cap, Value.func (Fn.func 91) #[] #[Value.pointer (some { block := W.heap.size + 1, off := 0 }), Value.pointer (some { block := W.heap.size + 1 + 1, off := 0 })], Value.int IntKind.i64 (x.1 : Int), Value.int IntKind.i64 (x.2 : Int), x31, x32, x33, x34, x35, x36, x37, x38, x39, x40, x41, x42, x43, x44], defers := [] })
        (fun x a' A A' hx hbk => hx) ?assign ?body ?done ?stop
      case assign =>
        intro l pre x rest V K hL hi hr hK
        have HK := Aside0.mk hK
        clear hK hr hL
        simp only [List.zip_toArray, List.zip_cons_cons, List.zip_nil_left]
        gi_wp2
        exact HK.out _ _ (RB.refl _ _ _) hi rfl
      case body =>
        rintro l pre x rest a' V hL hle ⟨r, hr⟩ hV rfl
        obtain ⟨v1, v2, v3, v4⟩ := hV.out
        have hcm0 := v3.cell 0 (v := .int .i64 m.f0) rfl
        have hcm1 := v3.cell 1 (v := .int .i64 m.f1) rfl
        have hmm : x ∈ movesL d 3 := by rw [hL]; simp
        obtain ⟨hx1, hx2⟩ := mem_moves hmm
        have HL := Aside0.mk hL
        clear hL hr
        have HV := hV
        clear hV
        by_cases hme : (x.1 : Int) = m.f0 ∧ (x.2 : Int) = m.f1
        · have hb0 : (m.f0 == (x.1 : Int)) = true := beq_iff_eq.2 hme.1.symm
          have hb1 : (m.f1 == (x.2 : Int)) = true := beq_iff_eq.2 hme.2.symm
          have HM := Aside0.mk hme
          have hcb := v2.b0.cell 0 (v := .slice (some ⟨g, 0, none⟩) l0.length cap) rfl
          have hck := v2.b1.cell 0 (v := .int .i64 (kd : Int)) rfl
          have hfk := v2.b1.free 0
          obtain ⟨hcg, hfg⟩ := Kd.R_celln (0 : Int) v2.row (x.1 : Int) (by omega) (by have := v2.len; omega)
          rw [Int.toNat_natCast] at hcg hfg
          have hxl : (x.1 : Int) < (l0.length : Int) := by have := v2.len; omega
          have hx0 : (0 : Int) ≤ (x.1 : Int) := by omega
          have hwk : IntKind.i64.wrap ((kd : Int) + 1) = (kd : Int) + 1 := by rw [i64_w]; exact w64 (by omega) (by have := v2.kle; have := HL1.out; omega)
          obtain ⟨cells, hcells⟩ := Kd.R_typed v2.row g rfl
          have HCE := Aside0.mk hcells
          have HMM := Aside0.mk hmm
          clear hme v1 v2 v3 hmm hcells
          gi_wp2
          have hP := HV.out.2.1
          have hrx : RX V ((V.setCell { block := g, off := x.fst } (Value.int IntKind.i64 (x.snd : Int))).setCell { block := b8 + 1, off := 0 } (Value.int IntKind.i64 ((kd : Int) + 1))) := by
            refine ((RX.refl V).set (fun o ho => ?_)).set (fun o ho => ?_)
            · have e := ho.symm.trans HCE.out
              injection e with e
              subst e
              rfl
            · have e := ho.symm.trans hP.b1
              injection e with e
              subst e
              rfl
          refine ⟨hrx, rfl, .mk ⟨?_, ?_⟩⟩
          · unfold mvB
            rw [List.any_eq_true]
            exact ⟨x, HMM.out, by rw [Bool.and_eq_true, decide_eq_true_eq, decide_eq_true_eq]; exact HM.out⟩
          · have hput : putM d m = d.set x.1 (x.2 : Int) := by unfold putM; rw [← HM.out.1, ← HM.out.2, Int.toNat_natCast]
            refine ⟨hlt, by have := hP.kle; omega, by rw [hput, List.length_set]; exact hP.len, ?_, ?_, ?_, ?_, ?_, ?_, hP.marks.rx hrx, by have := hP.size; simpa [World.setCell] using this⟩
            · rw [hput]
              intro j hj
              rw [List.length_set] at hj
              by_cases e : j = x.1
              · subst e
                have : nth (d.set x.1 (x.2 : Int)) x.1 = (x.2 : Int) := by simp [nth, hx1]
                rw [this]; omega
              · have : nth (d.set x.1 (x.2 : Int)) j = nth d j := by simp only [nth]; rw [List.getD_eq_getElem?_getD, List.getElem?_set_ne (fun h => e h.symm), ← List.getD_eq_getElem?_getD]
                rw [this]; exact hP.pos j hj
            · have hcan : mvB d m = true := by
                unfold mvB
                rw [List.any_eq_true]
                exact ⟨x, HMM.out, by rw [Bool.and_eq_true, decide_eq_true_eq, decide_eq_true_eq]; exact HM.out⟩
              rw [hP.out, drop_T52 l1 i hlt, hm, playL, if_pos hcan]
              simp only [Prod.mk.injEq, true_and]
              omega
            · exact (hP.b0.setOther (by simp; omega) _).setOther (by simp) _
            · have e1 : ((kd + 1 : Nat) : Int) = (kd : Int) + 1 := by omega
              rw [e1]
              exact (hP.b1.setOther (by simp; omega) _).set 0 _
            · rw [hput]
              have h1 := Kd.R_putn hP.row (x.1 : Int) (x.2 : Int)
              rw [Int.toNat_natCast] at h1
              exact Kd.R_far h1 (fun j hj => by subst hj; show j ≠ b8 + 1; omega) _
            · exact (hP.below.setCell (by simp; omega) _).setCell (by simp; omega) _
        · have hbb : (m.f0 == (x.1 : Int) && m.f1 == (x.2 : Int)) = false := by
            rw [Bool.and_eq_false_iff, beq_eq_false_iff_ne, beq_eq_false_iff_ne]
            by_cases c : (x.1 : Int) = m.f0
            · exact .inr (fun e => hme ⟨c, e.symm⟩)
            · exact .inl (fun e => c e.symm)
          have HN := Aside0.mk hme
          clear hme v1 v2 v3 hmm
          gi_wp2
          refine ⟨RB.refl _ _ _, .mk ⟨fun y hy => ?_, HV.out.2⟩⟩
          rcases List.mem_append.1 hy with hy | hy
          · exact HV.out.1 y hy
          · obtain rfl := List.mem_singleton.1 hy
            exact HN.out
      case done =>
        rintro D V hD hV hdef
        obtain ⟨v1, v2, v3, v4⟩ := hV.out
        have hno : mvB d m = false := by
          rw [Bool.eq_false_iff]
          intro hc
          unfold mvB at hc
          rw [List.any_eq_true] at hc
          obtain ⟨x, hx, hxm⟩ := hc
          rw [Bool.and_eq_true, decide_eq_true_eq, decide_eq_true_eq] at hxm
          exact v1 x hx hxm
        have hfin : playL l0 l1 = (d, kd) := by rw [v2.out, drop_T52 l1 i hlt, hm, playL, if_neg (by rw [hno]; simp)]; rfl
        have HFI := Aside0.mk hfin
        have HMk := Aside0.mk (v2.marks.cons (fun r hr => by have := HML.out r hr; omega) (by omega) hdef)
        have hcb := v2.b0.cell 0 (v := .slice (some ⟨g, 0, none⟩) l0.length cap) rfl
        have hck := v2.b1.cell 0 (v := .int .i64 (kd : Int)) rfl
        have HV2 := Aside0.mk v2
        clear hV v1 v2 v3 hno hfin hdef
        gi_wp2
        gi_quiet (fail)
        gi_wp2
        rw [Exit.noGoto_ret]
        have hQ := HV2.out
        refine leaves_marks2 w.heap.size (D :: rs) (V.drewN _) ⟨HMk.out.1, fun r hr => HMk.out.2 r hr⟩ (pw_below_drewN hQ.below _).size (fun W' hW' hBk => ?_)
        refine ⟨_, results_tmp3 rfl _ _ _, .slice (some ⟨g, 0, none⟩) l0.length cap, ?_, ?_, (pw_below_drewN hQ.below _).trans hW'⟩
        · rw [HFI.out]; rfl
        · rw [HFI.out]
          exact Kd.R_mono (R_bk (Kd.R_drewN hQ.row _) hBk) (fun _ _ => trivial)
      case stop =>
        intro D c pre x rest V hL hD hs hdef
        obtain ⟨rfl, hs2⟩ := hs
        have hwi : IntKind.i64.wrap ((i : Int) + 1) = ((i + 1 : Nat) : Int) := by rw [i64_w, w64 (by omega) (by have := HL1.out; omega)]; rfl
        have HMk := Aside0.mk (hs2.out.2.marks.cons (fun r hr => by have := HML.out r hr; omega) (by omega) hdef)
        clear hdef hL
        gi_wp2
        refine ⟨⟨i + 1, kd + 1, putM d m, D :: rs, _, _, _, _, _, _, _, _, _, _, _, _, _, _, _, _, _, _, _, _, _, _, _, _, _, rfl, .mk { hs2.out.2 with marks := HMk.out }⟩, ?_⟩
        simp [intOf]
        omega
    · have hi1 : ¬ (i : Int) < (l1.length : Int) := by omega
      have hfin : playL l0 l1 = (d, kd) := by rw [HI.out.out, List.drop_eq_nil_of_le (by omega)]; rfl
      have HFI := Aside0.mk hfin
      have hcb := HI.out.b0.cell 0 (v := .slice (some ⟨g, 0, none⟩) l0.length cap) rfl
      have hck := HI.out.b1.cell 0 (v := .int .i64 (kd : Int)) rfl
      clear hfin
      gi_wp2
      gi_quiet (fail)
      gi_wp2
      rw [Exit.noGoto_ret]
      have hQ := HI.out
      refine leaves_marks2 w.heap.size _ _ ⟨HI.out.marks.1, fun r hr => HI.out.marks.2 r hr⟩ (pw_below_drewN hQ.below _).size (fun W' hW' hBk => ?_)
      refine ⟨_, results_tmp3 rfl _ _ _, .slice (some ⟨g, 0, none⟩) l0.length cap, ?_, ?_, (pw_below_drewN hQ.below _).trans hW'⟩
      · rw [HFI.out]; rfl
      · rw [HFI.out]
        exact Kd.R_mono (R_bk (Kd.R_drewN hQ.row _) hBk) (fun _ _ => trivial)
  · rw [if_neg hok] at h
    cases h
    rw [show checkD l0 = 30 by simp [checkD, hok]] at hchk
    have HC := Aside0.mk hchk
    clear hchk hok
    refine (callsIn_wide (n := 8)).1 ?_
    refine callsIn_of_wp Tryd.func56 rfl trivial ?_ rfl
    simp only [Tryd.ntmps56, List.size_toArray, List.length_cons, List.length_nil, Nat.reduceAdd, Nat.reduceSub, Array.replicate_succ, Array.replicate_zero, List.push_toArray, List.append_toArray, List.nil_append, List.cons_append]
    gi_wp2
    refine wpIn_scope ?_
    gi_wp2_with (refine ⟨trivial, ?_⟩; gi_at_call 62; refine CallsIn.mono (callsIn_wide.2 (hanoi_Check.calls _ _ _ _ _ _ HR.out HC0.out HC.out)) ?_; rintro e w1 ⟨rfl, hb⟩; have HB := Aside0.mk hb; clear hb)
    rw [Exit.noGoto_ret]
    exact bodyPost_ret (results_tmp3 rfl _ _ _) rfl ⟨_, rfl, Kd.R_nil _ _ _ _ _, HB.out⟩
end Go.Proofs.YtnaaomhmoamfpaaDoor.G
/- The document's Play of any moves. -/
namespace Go.Proofs.YtnaaomhmoamfpaaDoor.G
set_option linter.unusedVariables false
set_option linter.unusedSimpArgs false
set_option linter.unusedSectionVars false
open Go.Proofs.YtnaaomhmoamfpaaDoor.Q Go.Proofs.YtnaaomhmoamfpaaDoor.Hn Go.Proofs.YtnaaomhmoamfpaaDoor.K
open Go.RowKit Go.Proofs.YtnaaomhmoamfpaaDoorW.PrintWords Go.Proofs.YtnaaomhmoamfpaaDoorW.PrintLast Go.Proofs.YtnaaomhmoamfpaaDoorW.PrintMore
theorem mvB_mem (d : List Int) (m : S52) : mvB d m = true ↔ ∃ a b : Nat, (a, b) ∈ movesL d 3 ∧ (a : Int) = m.f0 ∧ (b : Int) = m.f1 := by
  unfold mvB
  rw [List.any_eq_true]
  constructor
  · rintro ⟨⟨a, b⟩, h1, h2⟩
    rw [Bool.and_eq_true, decide_eq_true_eq, decide_eq_true_eq] at h2
    exact ⟨a, b, h1, h2.1, h2.2⟩
  · rintro ⟨a, b, h1, h2, h3⟩
    exact ⟨(a, b), h1, by rw [Bool.and_eq_true, decide_eq_true_eq, decide_eq_true_eq]; exact ⟨h2, h3⟩⟩
theorem canB_mem (d : List Int) (a b : Nat) (ha : a < d.length) (hb : b < 3) : canB d a (b : Int) = true ↔ (a, b) ∈ movesL d 3 := by
  rw [moves_mem]
  unfold canB
  rw [Bool.and_eq_true, Bool.and_eq_true, Bool.not_eq_true', Bool.not_eq_true', cov_no _ _ _ (by omega), cov_no _ _ _ (by omega), decide_eq_true_eq]
  constructor
  · rintro ⟨⟨h1, h2⟩, h3⟩
    exact ⟨ha, hb, fun i hi => ⟨h1 i hi, h2 i hi⟩, fun e => h3 e.symm⟩
  · rintro ⟨_, _, h1, h2⟩
    exact ⟨⟨fun i hi => (h1 i hi).1, fun i hi => (h1 i hi).2⟩, fun e => h2 e.symm⟩
theorem can_any (d : List Int) (m : S52) (hd : d.length ≤ 1000) : Ev (fun k => bibelotref03_Can.f k d m.f0 m.f1 3) (mvB d m) := by
  have out : ¬ (0 ≤ m.f0 ∧ m.f0 < d.length ∧ 0 ≤ m.f1 ∧ m.f1 < 3) → Ev (fun k => bibelotref03_Can.j0 k d m.f0 m.f1 true) (mvB d m) := fun h => by
    have : mvB d m = false := by
      rw [← Bool.not_eq_true, mvB_mem]
      rintro ⟨a, b, h1, h2, h3⟩
      have := moves_mem.1 h1
      omega
    rw [this]
    exact Ev.step (fun k => by rw [bibelotref03_Can.j0, if_pos rfl]) (Ev.now false)
  by_cases h : 0 ≤ m.f0 ∧ m.f0 < d.length ∧ 0 ≤ m.f1 ∧ m.f1 < 3
  · obtain ⟨h1, h2, h3, h4⟩ := h
    obtain ⟨a, ha⟩ := Int.eq_ofNat_of_zero_le h1
    obtain ⟨b, hb⟩ := Int.eq_ofNat_of_zero_le h3
    have hc := can_ev d a b 3 (by omega) hd (by omega)
    have e : mvB d m = canB d a (b : Int) := by
      rw [Bool.eq_iff_iff, canB_mem d a b (by omega) (by omega), mvB_mem]
      constructor
      · rintro ⟨a', b', g1, g2, g3⟩
        obtain rfl : a' = a := by omega
        obtain rfl : b' = b := by omega
        exact g1
      · exact fun g => ⟨a, b, g, ha.symm, hb.symm⟩
    rw [e, ha, hb]
    exact hc
  · have o := out h
    unfold bibelotref03_Can.f
    by_cases c1 : m.f0 < 0
    · simp only [c1, if_true]; exact o
    · by_cases c2 : m.f0 ≥ (d.length : Int)
      · simp only [c1, c2, if_true, if_false]; exact o
      · by_cases c3 : m.f1 < 0
        · simp only [c1, c2, c3, if_true, if_false]; exact o
        · have c4 : m.f1 ≥ 3 := by omega
          simp only [c1, c2, c3, c4, if_true, if_false]; exact o
theorem putM_len (d : List Int) (m : S52) : (putM d m).length = d.length := by unfold putM; rw [List.length_set]
theorem aplay_loop (l : List S52) (hl : l.length ≤ 1000000) : ∀ (e i : Nat) (d : List Int), i + e = l.length → d.length ≤ 1000 → Ev (fun k => bibelotref03_Play.l0 k l 3 d (i : Int)) ((playL d (l.drop i)).1, ((i + (playL d (l.drop i)).2 : Nat) : Int))
  | 0, i, d, h, hd => by
    have e : l.drop i = [] := List.drop_of_length_le (by omega)
    rw [e]
    refine Ev.step (fun k => ?_) (Ev.now _)
    rw [bibelotref03_Play.l0, if_neg (by omega)]
    have : l.length = i := by omega
    rw [this]
    rfl
  | e + 1, i, d, h, hd => by
    obtain ⟨m, hm⟩ : ∃ m, rd_T52 l (i : Int) = m := ⟨_, rfl⟩
    have hdr := drop_T52 l i (by omega)
    rw [hm] at hdr
    rw [hdr, playL]
    refine Ev.step (f := fun k => (bibelotref03_Can.f k d m.f0 m.f1 3).bind fun t => if t = true then (if 0 ≤ m.f0 then (if m.f0 < (d.length : Int) then bibelotref03_Play.l0 k l 3 (putM d m) ((i + 1 : Nat) : Int) else none) else none) else some (d, (i : Int))) (fun k => ?_) (Ev.bind (can_any d m hd) ?_)
    · rw [bibelotref03_Play.l0, if_pos (by omega), if_pos (by omega), hm, w64 (by omega) (by omega)]
      rfl
    · by_cases c : mvB d m = true
      · obtain ⟨a, b, g1, g2, g3⟩ := (mvB_mem d m).1 c
        have g4 := moves_mem.1 g1
        have k1 : 0 ≤ m.f0 := by omega
        have k2 : m.f0 < (d.length : Int) := by omega
        simp only [c, if_true, k1, k2]
        have ih := aplay_loop l hl e (i + 1) (putM d m) (by omega) (by rw [putM_len]; exact hd)
        have e1 : i + ((playL (putM d m) (l.drop (i + 1))).2 + 1) = i + 1 + (playL (putM d m) (l.drop (i + 1))).2 := by omega
        rw [e1]
        exact ih
      · simp only [c, if_false, Bool.false_eq_true]
        exact Ev.now _
theorem aplay_ev (d : List Int) (l : List S52) (hd : d.length ≤ 1000) (hl : l.length ≤ 1000000) : Ev (fun k => bibelotref03_Play.f k d l 3) ((playL d l).1, ((playL d l).2 : Int)) := by
  have := aplay_loop l hl l.length 0 d (by omega) hd
  rw [List.drop_zero, Nat.zero_add] at this
  unfold bibelotref03_Play.f
  have hc : ([] : List Int).length + d.length < 17592186044416 := by simp; omega
  simp only [hc, if_true]
  exact this
theorem moves_some (d : List Int) (h : okD d = true) : 0 < (movesL d 3).length ∧ (movesL d 3).length ≤ 120 := by
  obtain ⟨h0, h1, hd⟩ := (okD_iff d).1 h
  have hp := hd 0 h0
  unfold Peg at hp
  refine ⟨?_, ?_⟩
  · by_cases c : nth d 0 = 0
    · exact List.length_pos_of_mem (moves_mem.2 ⟨h0, (by omega : 1 < 3), fun i hi => absurd hi (by omega), by omega⟩)
    · exact List.length_pos_of_mem (moves_mem.2 ⟨h0, (by omega : 0 < 3), fun i hi => absurd hi (by omega), by omega⟩)
  · have := movesIn_len d 3 d.length
    show (movesIn d 3 d.length).length ≤ 120
    omega
theorem putM_ok {d : List Int} {m : S52} (h : okD d = true) (hm : mvB d m = true) : okD (putM d m) = true := by
  obtain ⟨a, b, g1, g2, g3⟩ := (mvB_mem d m).1 hm
  have g4 := moves_mem.1 g1
  obtain ⟨h0, h1, hd⟩ := (okD_iff d).1 h
  rw [okD_iff, putM_len]
  refine ⟨h0, h1, fun i hi => ?_⟩
  rw [putM_len] at hi
  have e : putM d m = d.set a (b : Int) := by unfold putM; rw [← g2, ← g3, Int.toNat_natCast]
  rw [e]
  by_cases c : i = a
  · subst c
    have : nth (d.set i (b : Int)) i = (b : Int) := by simp [nth, hi]
    rw [this]; unfold Peg; omega
  · have : nth (d.set a (b : Int)) i = nth d i := by
      simp only [nth]
      rw [List.getD_eq_getElem?_getD, List.getElem?_set_ne (fun e => c e.symm), ← List.getD_eq_getElem?_getD]
    rw [this]
    exact hd i hi
end Go.Proofs.YtnaaomhmoamfpaaDoor.G
