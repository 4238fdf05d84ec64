/- HanoiChecks: whether any lists are discs; otherwise every function returns the error; lists of unlike lengths have another one: the walk and the plain law, for every input. -/
import Derived.Test.YtnaaomhmoamfpaaDoorA1
import Derived.Test.YtnaaomhmoamfpaaDoorA2
import Derived.Laws.DeepStrings4
import Derived.Deep.QuietTactic
import Derived.BigQuiet
import Derived.Test.YtnaaomhmoamfpaaDoorA4
import Derived.Test.YtnaaomhmoamfpaaDoorA3
import Derived.StillTailTactics
import Derived.Shelf.SlicesQ.Reverse
namespace Go.Proofs.YtnaaomhmoamfpaaDoor.G
end Go.Proofs.YtnaaomhmoamfpaaDoor.G
namespace Go.Proofs.YtnaaomhmoamfpaaDoor.Q
set_option linter.unusedVariables false
set_option linter.unusedSimpArgs false
set_option linter.unusedSectionVars false
open Go.Proofs.YtnaaomhmoamfpaaDoor.G
open Go.RowKit Go.Proofs.YtnaaomhmoamfpaaDoorW.PrintWords Go.Proofs.YtnaaomhmoamfpaaDoorW.PrintLast Go.Proofs.YtnaaomhmoamfpaaDoorW.PrintMore
attribute [local go_sem] max2_int min2_int max_two min_two max_three min_three max_four min_four   -- for this text's walks alone

/-! ### hanoi_Farthest: function 43 -/
def hanoi_Farthest.l0 : Nat → List Int → Int → Int → Option (Int × Int)
  | 0, _, _, _ => none
  | k + 1, x0, x5, x12 => if x12 < 3 then ((hanoi_toPeg.f k x0 x12).bind fun t237 => (hanoi_Farthest.l0 k x0 (mx x5 t237) (wrap64 (x12 + 1)))) else (some (x5, 0))
def hanoi_Farthest.f (k : Nat) (l0 : List Int) : Option (Int × Int) := (hanoi_Check.f k l0).bind fun t236 => (if t236 = 0 then (hanoi_Farthest.l0 k l0 0 0) else (some (0, t236)))
theorem hanoi_Farthest.mono_l : ∀ k, (∀ y0 y1 y2, LeO (hanoi_Farthest.l0 k y0 y1 y2) (hanoi_Farthest.l0 (k + 1) y0 y1 y2))
  | 0 => fun _ _ _ r h => by simp [hanoi_Farthest.l0] at h
  | k + 1 => by
    have ih0 := hanoi_Farthest.mono_l k
    · intro y0 y1 y2
      unfold hanoi_Farthest.l0
      repeat' first
      | (with_reducible exact ih0 _ _ _)
      | (with_reducible exact hanoi_Check.mono _ _)
      | (with_reducible exact hanoi_toPeg.mono _ _ _)
      | (with_reducible exact LeO.refl _)
      | (with_reducible exact LeO.none _)
      | (with_reducible refine LeO.ite ?_ ?_)
      | (with_reducible refine LeO.bind ?_ (fun _ => ?_))
      | exact ih0 _ _ _
      | exact hanoi_Check.mono _ _
      | exact hanoi_toPeg.mono _ _ _
      | exact LeO.none _
      | refine LeO.ite ?_ ?_
      | refine LeO.bind ?_ (fun _ => ?_)
theorem hanoi_Farthest.mono : ∀ a0 k, LeO (hanoi_Farthest.f k a0) (hanoi_Farthest.f (k + 1) a0) := by
  intro a0 k
  have ih0 := hanoi_Farthest.mono_l k
  unfold hanoi_Farthest.f
  repeat' first
      | (with_reducible exact ih0 _ _ _)
      | (with_reducible exact hanoi_Check.mono _ _)
      | (with_reducible exact hanoi_toPeg.mono _ _ _)
      | (with_reducible exact LeO.refl _)
      | (with_reducible exact LeO.none _)
      | (with_reducible refine LeO.ite ?_ ?_)
      | (with_reducible refine LeO.bind ?_ (fun _ => ?_))
      | exact ih0 _ _ _
      | exact hanoi_Check.mono _ _
      | exact hanoi_toPeg.mono _ _ _
      | exact LeO.none _
      | refine LeO.ite ?_ ?_
      | refine LeO.bind ?_ (fun _ => ?_)
set_option maxHeartbeats 8000000 in
set_option maxRecDepth 100000 in
theorem hanoi_Farthest.calls (k : Nat) (A0 : Option Addr) (c0 : Nat) (l0 : List Int) (r1 : Int) (r2 : Int) (w : World) (hr0 : Kd.C (Kd.int .i64) w A0 l0.length l0) (hc0 : l0.length ≤ c0) (h : hanoi_Farthest.f k l0 = some (r1, r2)) :
    Calls Tryd.prog 43 #[.slice A0 l0.length c0] w fun e w' => e = .returned (.tuple #[.int .i64 r1, .int .i64 r2]) ∧ Below w.heap.size w w' := by
  have HR0 := Aside0.mk hr0
  have HC0 := Aside0.mk hc0
  clear hr0 hc0
  have HB := Aside0.mk (Below.refl w.heap.size w)
  have H : ((hanoi_Check.f k l0).bind fun t236 => (if t236 = 0 then (hanoi_Farthest.l0 k l0 0 0) else (some (0, t236)))) = some (r1, r2) := h
  clear h
  replace H := Option.bind_eq_some_iff.mp H
  obtain ⟨t236, A20, H⟩ := H
  replace H : (if t236 = 0 then (hanoi_Farthest.l0 k l0 0 0) else (some (0, t236))) = some (r1, r2) := H
  have A2 := Aside0.mk A20
  clear A20
  by_cases c3 : t236 = 0
  · rw [if_pos c3] at H
    have c3b0 : (t236 == 0) = true := beq_iff_eq.mpr c3
    have c3b1 : (t236 != 0) = false := bne_eq_false_iff_eq.mpr c3
    clear c3
    have H' := Aside0.mk H
    clear H
    go_enter Tryd.func43, Tryd.ntmps43
    go_wp2_with (first | ((with_reducible refine gate_callee (f := 62) rfl ?_); refine goesL_ (some 8) rfl rfl Tryd.func62 (by kernel_rfl) rfl #[.slice A0 l0.length c0] rfl (by (try simp only [List.map_toArray, List.map_cons, List.map_nil]); first | done | rfl | (simp only [List.length_drop, List.length_take]; rfl)) ?_; (with_reducible refine (hanoi_Check.calls k _ _ l0 t236 _ ?side1 ?side2 A2.out).mono ?_); (case side1 => repeat (first | exact HR0.out | (with_reducible refine Kd.C_alloc ?_ _) | (with_reducible refine Kd.C_drewN ?_ _) | (with_reducible refine Kd.C_drew ?_))); (case side2 => exact HC0.out); rintro e w4 ⟨rfl, hb⟩; refine ⟨_, rfl, ?_⟩; have n0_ := Aside0.mk (below_step (by repeat (first | (with_reducible first | exact HB.out | apply below_alloc | apply pw_below_drewN | apply below_drew1) | exact HB.out)) hb); clear HB; have HB := n0_; clear n0_; (try clear hb); (try clear hb2); (try clear hk); (try clear hi)))
    go_loopg [5, 12] k (fun kq v5 v12 w' => ∃ (x5_1 : Int) (x12_1 : Int), v5 = .int .i64 x5_1 ∧ v12 = .int .i64 x12_1 ∧ Aside0 (hanoi_Farthest.l0 kq l0 x5_1 x12_1 = some (r1, r2)) ∧ Aside0 (kq ≤ k) ∧ Aside0 (Below w.heap.size w w'))
    case atStart => exact ⟨(0), (0), (by first | rfl | (simp; done) | (simp [*]; done)), (by first | rfl | (simp; done) | (simp [*]; done)), H', ⟨Nat.le_refl _⟩, ⟨by repeat (first | (with_reducible first | exact HB.out | apply below_alloc | apply pw_below_drewN | apply below_drew1) | exact HB.out)⟩⟩
    case round =>
      clear H'
      try clear p2
      try clear c3
      try clear c3b0
      try clear c3b1
      try clear c4
      obtain ⟨x5_1, x12_1, rfl, rfl, HA, HK1, HB⟩ := hrel
      cases gk with
      | zero => exact absurd HA.out (by simp [hanoi_Farthest.l0])
      | succ k1 =>
        have H := HA.out
        clear HA
        simp only [hanoi_Farthest.l0] at H
        by_cases c5 : x12_1 < 3
        · rw [if_pos c5] at H
          have c5b0 : decide (x12_1 < 3) = true := decide_eq_true c5
          clear c5
          replace H := Option.bind_eq_some_iff.mp H
          obtain ⟨t237, A60, H⟩ := H
          replace H : (hanoi_Farthest.l0 k1 l0 (mx x5_1 t237) (wrap64 (x12_1 + 1))) = some (r1, r2) := H
          have A6 := Aside0.mk A60
          clear A60
          obtain ⟨ji7, hji7⟩ : ∃ j_ : Int, (mx x5_1 t237) = j_ := ⟨_, rfl⟩
          replace H : (hanoi_Farthest.l0 k1 l0 ji7 (wrap64 (x12_1 + 1))) = some (r1, r2) := by first | (rw [hji7] at H; exact H) | (simp only [hji7] at H ⊢; exact H)
          (try rw [hji7] at A6)
          have hji7_ : (if x5_1 < t237 then t237 else x5_1) = ji7 := hji7
          have H' := Aside0.mk H
          clear H
          go_wp2_with (first | ((with_reducible refine gate_callee (f := 73) rfl ?_); refine goesL_ (some 18) rfl rfl Tryd.func73 (by kernel_rfl) rfl #[.slice A0 l0.length c0, .int .i64 x12_1] rfl (by (try simp only [List.map_toArray, List.map_cons, List.map_nil]); first | done | rfl | (simp only [List.length_drop, List.length_take]; rfl)) ?_; (with_reducible refine (hanoi_toPeg.calls k1 _ _ l0 x12_1 t237 _ ?side1 ?side2 A6.out).mono ?_); (case side1 => repeat (first | exact (Kd.C_below HR0.out HB.out) | (with_reducible refine Kd.C_alloc ?_ _) | (with_reducible refine Kd.C_drewN ?_ _) | (with_reducible refine Kd.C_drew ?_))); (case side2 => exact HC0.out); rintro e w' ⟨rfl, ⟨nd, rfl⟩⟩; refine ⟨_, rfl, ?_⟩))
          go_roundg k1
          case measure => have := HK1.out; omega
          case rel => exact ⟨(ji7), (wrap64 (x12_1 + 1)), (by first | rfl | (simp; done) | (simp only [← hji7] <;> (first | rfl | simp)) | (simp [*]; done)), (by first | rfl | (simp; done) | (simp [*]; done)), H', ⟨by have := HK1.out; omega⟩, ⟨by repeat (first | (with_reducible first | exact HB.out | apply below_alloc | apply pw_below_drewN | apply below_drew1) | exact HB.out)⟩⟩
        · rw [if_neg c5] at H
          have c5b0 : decide (x12_1 < 3) = false := decide_eq_false c5
          clear c5
          simp only [Option.some.injEq, Prod.mk.injEq] at H
          obtain ⟨rfl, rfl⟩ := H
          go_wp2
          go_ret2
          exact ⟨by first | rfl | (simp [errW_none, errW_some] <;> rfl) | (simp [*, errW_none, errW_some] <;> rfl), by repeat (first | (with_reducible first | exact HB.out | apply below_alloc | apply pw_below_drewN | apply below_drew1) | exact HB.out)⟩
  · rw [if_neg c3] at H
    have c3b0 : (t236 == 0) = false := beq_eq_false_iff_ne.mpr c3
    have c3b1 : (t236 != 0) = true := bne_iff_ne.mpr c3
    simp only [Option.some.injEq, Prod.mk.injEq] at H
    obtain ⟨rfl, rfl⟩ := H
    go_enter Tryd.func43, Tryd.ntmps43
    go_wp2_with (first | ((with_reducible refine gate_callee (f := 62) rfl ?_); refine goesL_ (some 8) rfl rfl Tryd.func62 (by kernel_rfl) rfl #[.slice A0 l0.length c0] rfl (by (try simp only [List.map_toArray, List.map_cons, List.map_nil]); first | done | rfl | (simp only [List.length_drop, List.length_take]; rfl)) ?_; (with_reducible refine (hanoi_Check.calls k _ _ l0 t236 _ ?side1 ?side2 A2.out).mono ?_); (case side1 => repeat (first | exact HR0.out | (with_reducible refine Kd.C_alloc ?_ _) | (with_reducible refine Kd.C_drewN ?_ _) | (with_reducible refine Kd.C_drew ?_))); (case side2 => exact HC0.out); rintro e w8 ⟨rfl, hb⟩; refine ⟨_, rfl, ?_⟩; have n0_ := Aside0.mk (below_step (by repeat (first | (with_reducible first | exact HB.out | apply below_alloc | apply pw_below_drewN | apply below_drew1) | exact HB.out)) hb); clear HB; have HB := n0_; clear n0_; (try clear hb); (try clear hb2); (try clear hk); (try clear hi)))
    go_ret2
    exact ⟨by first | rfl | (simp [errW_none, errW_some] <;> rfl) | (simp [*, errW_none, errW_some] <;> rfl), by repeat (first | (with_reducible first | exact HB.out | apply below_alloc | apply pw_below_drewN | apply below_drew1) | exact HB.out)⟩

end Go.Proofs.YtnaaomhmoamfpaaDoor.Q
namespace Go.Proofs.YtnaaomhmoamfpaaDoor.G
end Go.Proofs.YtnaaomhmoamfpaaDoor.G
namespace Go.Proofs.YtnaaomhmoamfpaaDoor.Q
set_option linter.unusedVariables false
set_option linter.unusedSimpArgs false
set_option linter.unusedSectionVars false
open Go.Proofs.YtnaaomhmoamfpaaDoor.G
open Go.RowKit Go.Proofs.YtnaaomhmoamfpaaDoorW.PrintWords Go.Proofs.YtnaaomhmoamfpaaDoorW.PrintLast Go.Proofs.YtnaaomhmoamfpaaDoorW.PrintMore
attribute [local go_sem] max2_int min2_int max_two min_two max_three min_three max_four min_four   -- for this text's walks alone

/-! ### hanoi_Kind: function 47 -/
def hanoi_Kind.f (k : Nat) (l0 : List Int) (l1 : List Int) : Option (Int × Int) := (hanoi_open.f k (([l0, l1] : List (List Int)))).bind fun t305 => (if t305 = 0 then ((slices_Equal_int_int.f k l0 l1).bind fun t306 => (if t306 = true then (some (0, 1)) else ((hanoi_planned.f k l0 l1).bind fun bt307 => (if bt307.2.1 < bt307.2.2 then (some (1, 0)) else (if bt307.2.1 > bt307.2.2 then (some (2, 0)) else (some (3, 0))))))) else (some (0, t305)))
theorem hanoi_Kind.mono : ∀ a0 a1 k, LeO (hanoi_Kind.f k a0 a1) (hanoi_Kind.f (k + 1) a0 a1) := by
  intro a0 a1 k
  unfold hanoi_Kind.f
  repeat' first
      | (with_reducible exact hanoi_open.mono _ _)
      | (with_reducible exact hanoi_planned.mono _ _ _)
      | (with_reducible exact slices_Equal_int_int.mono _ _ _)
      | (with_reducible exact LeO.refl _)
      | (with_reducible exact LeO.none _)
      | (with_reducible refine LeO.ite ?_ ?_)
      | (with_reducible refine LeO.bind ?_ (fun _ => ?_))
      | exact hanoi_open.mono _ _
      | exact hanoi_planned.mono _ _ _
      | exact slices_Equal_int_int.mono _ _ _
      | exact LeO.none _
      | refine LeO.ite ?_ ?_
      | refine LeO.bind ?_ (fun _ => ?_)
set_option maxHeartbeats 8000000 in
set_option maxRecDepth 100000 in
theorem hanoi_Kind.calls (k : Nat) (P0_ : Nat → Prop) (A0 : Option Addr) (c0 : Nat) (l0 : List Int) (P1_ : Nat → Prop) (A1 : Option Addr) (c1 : Nat) (l1 : List Int) (r1 : Int) (r2 : Int) (w : World) (hs0 : Kd.V (Kd.int .i64) 3 w w.heap.size (fun k_ => P0_ k_) (.slice A0 l0.length c0) l0) (hs1 : Kd.V (Kd.int .i64) 3 w w.heap.size (fun k_ => P1_ k_) (.slice A1 l1.length c1) l1) (h : hanoi_Kind.f k l0 l1 = some (r1, r2)) :
    Calls Tryd.prog 47 #[.slice A0 l0.length c0, .slice A1 l1.length c1] w fun e w' => e = .returned (.tuple #[.int .i64 r1, .int .i64 r2]) ∧ Below w.heap.size w w' := by
  have hu117 := Tryd.underlying117
  have HO0 := Aside0.mk (show Kd.V (Kd.int .i64) 3 w w.heap.size (fun k_ => ((P0_ k_ ∨ P1_ k_) ∨ w.heap.size ≤ k_)) (.slice A0 l0.length c0) l0 from Kd.V_mono hs0 (fun k_ hk => .inl (.inl hk)))
  have HO1 := Aside0.mk (show Kd.V (Kd.int .i64) 3 w w.heap.size (fun k_ => ((P0_ k_ ∨ P1_ k_) ∨ w.heap.size ≤ k_)) (.slice A1 l1.length c1) l1 from Kd.V_mono hs1 (fun k_ hk => .inl (.inr hk)))
  have HB := Aside0.mk (Below.refl w.heap.size w)
  have H : ((hanoi_open.f k (([l0, l1] : List (List Int)))).bind fun t305 => (if t305 = 0 then ((slices_Equal_int_int.f k l0 l1).bind fun t306 => (if t306 = true then (some (0, 1)) else ((hanoi_planned.f k l0 l1).bind fun bt307 => (if bt307.2.1 < bt307.2.2 then (some (1, 0)) else (if bt307.2.1 > bt307.2.2 then (some (2, 0)) else (some (3, 0))))))) else (some (0, t305)))) = some (r1, r2) := h
  clear h
  obtain ⟨y302, hy302⟩ : ∃ y_ : List (List Int), y_ = (([l0, l1] : List (List Int))) := ⟨_, rfl⟩
  replace H : ((hanoi_open.f k y302).bind fun t305 => (if t305 = 0 then ((slices_Equal_int_int.f k l0 l1).bind fun t306 => (if t306 = true then (some (0, 1)) else ((hanoi_planned.f k l0 l1).bind fun bt307 => (if bt307.2.1 < bt307.2.2 then (some (1, 0)) else (if bt307.2.1 > bt307.2.2 then (some (2, 0)) else (some (3, 0))))))) else (some (0, t305)))) = some (r1, r2) := by first | (rw [hy302]; with_reducible exact H) | (have H2_ := (Option.bind_some _ _).symm.trans H; rw [hy302]; with_reducible exact H2_) | (have H2_ := (Option.bind_some _ _).symm.trans H; with_reducible exact H2_) | with_reducible exact H | (rw [hy302]; exact H) | exact H
  have Ny302 := Aside0.mk hy302
  clear hy302
  replace H := Option.bind_eq_some_iff.mp H
  obtain ⟨t305, A30, H⟩ := H
  replace H : (if t305 = 0 then ((slices_Equal_int_int.f k l0 l1).bind fun t306 => (if t306 = true then (some (0, 1)) else ((hanoi_planned.f k l0 l1).bind fun bt307 => (if bt307.2.1 < bt307.2.2 then (some (1, 0)) else (if bt307.2.1 > bt307.2.2 then (some (2, 0)) else (some (3, 0))))))) else (some (0, t305))) = some (r1, r2) := H
  have A3 := Aside0.mk A30
  clear A30
  by_cases c4 : t305 = 0
  · rw [if_pos c4] at H
    have c4b0 : (t305 == 0) = true := beq_iff_eq.mpr c4
    have c4b1 : (t305 != 0) = false := bne_eq_false_iff_eq.mpr c4
    clear c4
    replace H := Option.bind_eq_some_iff.mp H
    obtain ⟨t306, A50, H⟩ := H
    replace H : (if t306 = true then (some (0, 1)) else ((hanoi_planned.f k l0 l1).bind fun bt307 => (if bt307.2.1 < bt307.2.2 then (some (1, 0)) else (if bt307.2.1 > bt307.2.2 then (some (2, 0)) else (some (3, 0)))))) = some (r1, r2) := H
    have A5 := Aside0.mk A50
    clear A50
    by_cases c6 : t306 = true
    · subst c6
      have H1 : (some (0, 1)) = some (r1, r2) := by rw [if_pos rfl] at H; exact H
      clear H
      have H := H1
      clear H1
      simp only [Option.some.injEq, Prod.mk.injEq] at H
      obtain ⟨rfl, rfl⟩ := H
      go_enter Tryd.func47, Tryd.ntmps47
      go_wp2_with (first | ((with_reducible refine gate_dst (N := 10) rfl ?_); refine Kd.N_lit (Kd.slice 3 (Kd.int .i64)) _ 46 ?hg (N' := 10) ?hd (xs := ([l0, l1] : List (List Int))) (inner := [.slice A0 l0.length c0, .slice A1 l1.length c1]) (ok := (fun k_ => ((P0_ k_ ∨ P1_ k_) ∨ w.heap.size ≤ k_))) (okp := (fun k_ => ((P0_ k_ ∨ P1_ k_) ∨ w.heap.size ≤ k_))) ?hr ?hp (fun _ hk => hk) ((show ∀ k_, w.heap.size ≤ k_ → (fun k_ => ((P0_ k_ ∨ P1_ k_) ∨ w.heap.size ≤ k_)) k_ from fun k_ hk => (.inr (Nat.le_trans (below_size (by repeat (first | (with_reducible first | exact HB.out | apply below_alloc | apply pw_below_drewN | apply below_drew1) | exact HB.out))) hk))) _ (Nat.le_refl _)) (Below.refl _ _) (Nat.le_refl _) (by simp) ?_; (case hd => rfl); (case hg => rfl); (case hr => first | (go_simp; done) | (go_simp; rfl)); (case hp => exact (Reps.one (show Kd.FK (Kd.slice 3 (Kd.int .i64)) _ _ l0 [.slice A0 l0.length c0] from (Kd.FK_slice_mk (Kd.V_reads' (Kd.V_mono (ok' := (fun k_ => ((P0_ k_ ∨ P1_ k_) ∨ w.heap.size ≤ k_))) (HO0.out) (fun k_ hk => hk))).2.1 (Kd.V_F (Kd.V_mono (ok' := (fun k_ => ((P0_ k_ ∨ P1_ k_) ∨ w.heap.size ≤ k_))) (HO0.out) (fun k_ hk => hk))))) (Reps.one (show Kd.FK (Kd.slice 3 (Kd.int .i64)) _ _ l1 [.slice A1 l1.length c1] from (Kd.FK_slice_mk (Kd.V_reads' (Kd.V_mono (ok' := (fun k_ => ((P0_ k_ ∨ P1_ k_) ∨ w.heap.size ≤ k_))) (HO1.out) (fun k_ hk => hk))).2.1 (Kd.V_F (Kd.V_mono (ok' := (fun k_ => ((P0_ k_ ∨ P1_ k_) ∨ w.heap.size ≤ k_))) (HO1.out) (fun k_ hk => hk))))) (Reps.none _ _)))); intro v303 w7 ho8 hb hg_ hnew_; clear hg_ hnew_; (first | rw [← Ny302.out] at ho8 | (simp only [Int.reduceToNat] at ho8; rw [← Ny302.out] at ho8)); have n0_ := Aside0.mk (Kd.V_elder' (by (with_reducible repeat (first | apply Kd.V_alloc | apply Kd.V_drewN | apply Kd.V_drew)); exact HO0.out) (Kd.N_base ho8) hb); have n1_ := Aside0.mk (Kd.V_elder' (by (with_reducible repeat (first | apply Kd.V_alloc | apply Kd.V_drewN | apply Kd.V_drew)); exact HO1.out) (Kd.N_base ho8) hb); have n2_ := Aside0.mk (Kd.N_lower ho8 (below_size (by repeat (first | (with_reducible first | exact HB.out | apply below_alloc | apply pw_below_drewN | apply below_drew1) | exact HB.out)))); have n3_ := Aside0.mk (below_step (by repeat (first | (with_reducible first | exact HB.out | apply below_alloc | apply pw_below_drewN | apply below_drew1) | exact HB.out)) hb); clear HO0; clear HO1; clear HB; have HO0 := n0_; have HO1 := n1_; have HO304 := n2_; have HB := n3_; clear n0_ n1_ n2_ n3_; clear hb ho8; obtain ⟨Ao9, co9, eo9⟩ := Kd.N_slice HO304.out; subst eo9) | ((with_reducible refine gate_callee (f := 74) rfl ?_); refine goesL_ (some 11) rfl rfl Tryd.func74 (by kernel_rfl) rfl #[.slice Ao9 y302.length co9] rfl (by (try simp only [List.map_toArray, List.map_cons, List.map_nil]); first | done | rfl | (simp only [List.length_drop, List.length_take]; rfl)) ?_; (with_reducible refine (hanoi_open.calls k _ _ y302 t305 _ ?side1 ?side2 A3.out).mono ?_); (case side1 => repeat (first | exact (Kd.N_reads' HO304.out).2.2 | (with_reducible refine Kd.C_alloc ?_ _) | (with_reducible refine Kd.C_drewN ?_ _) | (with_reducible refine Kd.C_drew ?_))); (case side2 => exact (Kd.N_reads' HO304.out).2.1); rintro e w10 ⟨rfl, hb⟩; refine ⟨_, rfl, ?_⟩; have n0_ := Aside0.mk (Kd.V_below (by (with_reducible repeat (first | apply Kd.V_alloc | apply Kd.V_drewN | apply Kd.V_drew)); exact HO0.out) hb); have n1_ := Aside0.mk (Kd.V_below (by (with_reducible repeat (first | apply Kd.V_alloc | apply Kd.V_drewN | apply Kd.V_drew)); exact HO1.out) hb); have n2_ := Aside0.mk (Kd.N_below (by (with_reducible repeat (first | apply Kd.N_alloc | apply Kd.N_drewN | apply Kd.N_drew)); exact HO304.out) hb); have n3_ := Aside0.mk (below_step (by repeat (first | (with_reducible first | exact HB.out | apply below_alloc | apply pw_below_drewN | apply below_drew1) | exact HB.out)) hb); clear HO0; clear HO1; clear HO304; clear HB; have HO0 := n0_; have HO1 := n1_; have HO304 := n2_; have HB := n3_; clear n0_ n1_ n2_ n3_; (try clear hb); (try clear hb2); (try clear hk); (try clear hi)) | ((with_reducible refine gate_callee (f := 75) rfl ?_); refine goesL_ (some 17) rfl rfl Tryd.func75 (by kernel_rfl) rfl #[.slice A0 l0.length c0, .slice A1 l1.length c1] rfl (by (try simp only [List.map_toArray, List.map_cons, List.map_nil]); first | done | rfl | (simp only [List.length_drop, List.length_take]; rfl)) ?_; (with_reducible refine (slices_Equal_int_int.calls k _ _ l0 _ _ l1 true _ ?side1 ?side2 ?side3 ?side4 A5.out).mono ?_); (case side1 => repeat (first | exact (Kd.V_reads' HO0.out).2.2 | (with_reducible refine Kd.C_alloc ?_ _) | (with_reducible refine Kd.C_drewN ?_ _) | (with_reducible refine Kd.C_drew ?_))); (case side2 => exact (Kd.V_reads' HO0.out).2.1); (case side3 => repeat (first | exact (Kd.V_reads' HO1.out).2.2 | (with_reducible refine Kd.C_alloc ?_ _) | (with_reducible refine Kd.C_drewN ?_ _) | (with_reducible refine Kd.C_drew ?_))); (case side4 => exact (Kd.V_reads' HO1.out).2.1); rintro e w' ⟨rfl, ⟨nd, rfl⟩⟩; refine ⟨_, rfl, ?_⟩))
      go_ret2
      exact ⟨by first | rfl | (simp [errW_none, errW_some] <;> rfl) | (simp [*, errW_none, errW_some] <;> rfl), by repeat (first | (with_reducible first | exact HB.out | apply below_alloc | apply pw_below_drewN | apply below_drew1) | exact HB.out)⟩
    · replace c6 := Bool.eq_false_iff.mpr c6
      subst c6
      have H1 : ((hanoi_planned.f k l0 l1).bind fun bt307 => (if bt307.2.1 < bt307.2.2 then (some (1, 0)) else (if bt307.2.1 > bt307.2.2 then (some (2, 0)) else (some (3, 0))))) = some (r1, r2) := by rw [if_neg (show ¬ (false = true) by decide)] at H; exact H
      clear H
      have H := H1
      clear H1
      replace H := Option.bind_eq_some_iff.mp H
      obtain ⟨⟨t307, t308, t309⟩, A110, H⟩ := H
      replace H : (if t308 < t309 then (some (1, 0)) else (if t308 > t309 then (some (2, 0)) else (some (3, 0)))) = some (r1, r2) := H
      have A11 := Aside0.mk A110
      clear A110
      by_cases c12 : t308 < t309
      · rw [if_pos c12] at H
        have c12b0 : decide (t308 < t309) = true := decide_eq_true c12
        clear c12
        simp only [Option.some.injEq, Prod.mk.injEq] at H
        obtain ⟨rfl, rfl⟩ := H
        go_enter Tryd.func47, Tryd.ntmps47
        go_wp2_with (first | ((with_reducible refine gate_dst (N := 10) rfl ?_); refine Kd.N_lit (Kd.slice 3 (Kd.int .i64)) _ 46 ?hg (N' := 10) ?hd (xs := ([l0, l1] : List (List Int))) (inner := [.slice A0 l0.length c0, .slice A1 l1.length c1]) (ok := (fun k_ => ((P0_ k_ ∨ P1_ k_) ∨ w.heap.size ≤ k_))) (okp := (fun k_ => ((P0_ k_ ∨ P1_ k_) ∨ w.heap.size ≤ k_))) ?hr ?hp (fun _ hk => hk) ((show ∀ k_, w.heap.size ≤ k_ → (fun k_ => ((P0_ k_ ∨ P1_ k_) ∨ w.heap.size ≤ k_)) k_ from fun k_ hk => (.inr (Nat.le_trans (below_size (by repeat (first | (with_reducible first | exact HB.out | apply below_alloc | apply pw_below_drewN | apply below_drew1) | exact HB.out))) hk))) _ (Nat.le_refl _)) (Below.refl _ _) (Nat.le_refl _) (by simp) ?_; (case hd => rfl); (case hg => rfl); (case hr => first | (go_simp; done) | (go_simp; rfl)); (case hp => exact (Reps.one (show Kd.FK (Kd.slice 3 (Kd.int .i64)) _ _ l0 [.slice A0 l0.length c0] from (Kd.FK_slice_mk (Kd.V_reads' (Kd.V_mono (ok' := (fun k_ => ((P0_ k_ ∨ P1_ k_) ∨ w.heap.size ≤ k_))) (HO0.out) (fun k_ hk => hk))).2.1 (Kd.V_F (Kd.V_mono (ok' := (fun k_ => ((P0_ k_ ∨ P1_ k_) ∨ w.heap.size ≤ k_))) (HO0.out) (fun k_ hk => hk))))) (Reps.one (show Kd.FK (Kd.slice 3 (Kd.int .i64)) _ _ l1 [.slice A1 l1.length c1] from (Kd.FK_slice_mk (Kd.V_reads' (Kd.V_mono (ok' := (fun k_ => ((P0_ k_ ∨ P1_ k_) ∨ w.heap.size ≤ k_))) (HO1.out) (fun k_ hk => hk))).2.1 (Kd.V_F (Kd.V_mono (ok' := (fun k_ => ((P0_ k_ ∨ P1_ k_) ∨ w.heap.size ≤ k_))) (HO1.out) (fun k_ hk => hk))))) (Reps.none _ _)))); intro v303 w13 ho14 hb hg_ hnew_; clear hg_ hnew_; (first | rw [← Ny302.out] at ho14 | (simp only [Int.reduceToNat] at ho14; rw [← Ny302.out] at ho14)); have n0_ := Aside0.mk (Kd.V_elder' (by (with_reducible repeat (first | apply Kd.V_alloc | apply Kd.V_drewN | apply Kd.V_drew)); exact HO0.out) (Kd.N_base ho14) hb); have n1_ := Aside0.mk (Kd.V_elder' (by (with_reducible repeat (first | apply Kd.V_alloc | apply Kd.V_drewN | apply Kd.V_drew)); exact HO1.out) (Kd.N_base ho14) hb); have n2_ := Aside0.mk (Kd.N_lower ho14 (below_size (by repeat (first | (with_reducible first | exact HB.out | apply below_alloc | apply pw_below_drewN | apply below_drew1) | exact HB.out)))); have n3_ := Aside0.mk (below_step (by repeat (first | (with_reducible first | exact HB.out | apply below_alloc | apply pw_below_drewN | apply below_drew1) | exact HB.out)) hb); clear HO0; clear HO1; clear HB; have HO0 := n0_; have HO1 := n1_; have HO304 := n2_; have HB := n3_; clear n0_ n1_ n2_ n3_; clear hb ho14; obtain ⟨Ao15, co15, eo15⟩ := Kd.N_slice HO304.out; subst eo15) | ((with_reducible refine gate_callee (f := 74) rfl ?_); refine goesL_ (some 11) rfl rfl Tryd.func74 (by kernel_rfl) rfl #[.slice Ao15 y302.length co15] rfl (by (try simp only [List.map_toArray, List.map_cons, List.map_nil]); first | done | rfl | (simp only [List.length_drop, List.length_take]; rfl)) ?_; (with_reducible refine (hanoi_open.calls k _ _ y302 t305 _ ?side1 ?side2 A3.out).mono ?_); (case side1 => repeat (first | exact (Kd.N_reads' HO304.out).2.2 | (with_reducible refine Kd.C_alloc ?_ _) | (with_reducible refine Kd.C_drewN ?_ _) | (with_reducible refine Kd.C_drew ?_))); (case side2 => exact (Kd.N_reads' HO304.out).2.1); rintro e w16 ⟨rfl, hb⟩; refine ⟨_, rfl, ?_⟩; have n0_ := Aside0.mk (Kd.V_below (by (with_reducible repeat (first | apply Kd.V_alloc | apply Kd.V_drewN | apply Kd.V_drew)); exact HO0.out) hb); have n1_ := Aside0.mk (Kd.V_below (by (with_reducible repeat (first | apply Kd.V_alloc | apply Kd.V_drewN | apply Kd.V_drew)); exact HO1.out) hb); have n2_ := Aside0.mk (Kd.N_below (by (with_reducible repeat (first | apply Kd.N_alloc | apply Kd.N_drewN | apply Kd.N_drew)); exact HO304.out) hb); have n3_ := Aside0.mk (below_step (by repeat (first | (with_reducible first | exact HB.out | apply below_alloc | apply pw_below_drewN | apply below_drew1) | exact HB.out)) hb); clear HO0; clear HO1; clear HO304; clear HB; have HO0 := n0_; have HO1 := n1_; have HO304 := n2_; have HB := n3_; clear n0_ n1_ n2_ n3_; (try clear hb); (try clear hb2); (try clear hk); (try clear hi)) | ((with_reducible refine gate_callee (f := 75) rfl ?_); refine goesL_ (some 17) rfl rfl Tryd.func75 (by kernel_rfl) rfl #[.slice A0 l0.length c0, .slice A1 l1.length c1] rfl (by (try simp only [List.map_toArray, List.map_cons, List.map_nil]); first | done | rfl | (simp only [List.length_drop, List.length_take]; rfl)) ?_; (with_reducible refine (slices_Equal_int_int.calls k _ _ l0 _ _ l1 false _ ?side1 ?side2 ?side3 ?side4 A5.out).mono ?_); (case side1 => repeat (first | exact (Kd.V_reads' HO0.out).2.2 | (with_reducible refine Kd.C_alloc ?_ _) | (with_reducible refine Kd.C_drewN ?_ _) | (with_reducible refine Kd.C_drew ?_))); (case side2 => exact (Kd.V_reads' HO0.out).2.1); (case side3 => repeat (first | exact (Kd.V_reads' HO1.out).2.2 | (with_reducible refine Kd.C_alloc ?_ _) | (with_reducible refine Kd.C_drewN ?_ _) | (with_reducible refine Kd.C_drew ?_))); (case side4 => exact (Kd.V_reads' HO1.out).2.1); rintro e w' ⟨rfl, ⟨nd, rfl⟩⟩; refine ⟨_, rfl, ?_⟩; (try (rw [drewN_self w16]; generalize hq_ : World.drewN w16 _ = w16; have n0_ : Aside0 (Kd.V (Kd.int .i64) 3 w16 w.heap.size (fun k_ => ((P0_ k_ ∨ P1_ k_) ∨ w.heap.size ≤ k_) ∧ some k_ ≠ (.slice Ao15 y302.length co15 : Value).ownBlock) (.slice A0 l0.length c0) l0) := ⟨by rw [← hq_]; exact (by (with_reducible repeat (first | apply Kd.V_alloc | apply Kd.V_drewN | apply Kd.V_drew)); exact HO0.out)⟩; have n1_ : Aside0 (Kd.V (Kd.int .i64) 3 w16 w.heap.size (fun k_ => ((P0_ k_ ∨ P1_ k_) ∨ w.heap.size ≤ k_) ∧ some k_ ≠ (.slice Ao15 y302.length co15 : Value).ownBlock) (.slice A1 l1.length c1) l1) := ⟨by rw [← hq_]; exact (by (with_reducible repeat (first | apply Kd.V_alloc | apply Kd.V_drewN | apply Kd.V_drew)); exact HO1.out)⟩; have n2_ : Aside0 (Kd.N (Kd.slice 3 (Kd.int .i64)) 46 w16 w.heap.size (fun k_ => ((P0_ k_ ∨ P1_ k_) ∨ w.heap.size ≤ k_)) (.slice Ao15 y302.length co15) y302) := ⟨by rw [← hq_]; exact (by (with_reducible repeat (first | apply Kd.N_alloc | apply Kd.N_drewN | apply Kd.N_drew)); exact HO304.out)⟩; have n3_ : Aside0 (Below w.heap.size w w16) := ⟨by rw [← hq_]; exact (by repeat (first | (with_reducible first | exact HB.out | apply below_alloc | apply pw_below_drewN | apply below_drew1) | exact HB.out))⟩; clear HO0 HO1 HO304 HB hq_; have HO0 := n0_; have HO1 := n1_; have HO304 := n2_; have HB := n3_; clear n0_ n1_ n2_ n3_))) | ((with_reducible refine gate_callee (f := 76) rfl ?_); refine goesL_ (some 20) rfl rfl Tryd.func76 (by kernel_rfl) rfl #[.slice A0 l0.length c0, .slice A1 l1.length c1] rfl (by (try simp only [List.map_toArray, List.map_cons, List.map_nil]); first | done | rfl | (simp only [List.length_drop, List.length_take]; rfl)) ?_; (with_reducible refine (hanoi_planned.calls k _ _ l0 _ _ l1 t307 t308 t309 _ ?side1 ?side2 ?side3 ?side4 A11.out).mono ?_); (case side1 => repeat (first | exact (Kd.V_reads' HO0.out).2.2 | (with_reducible refine Kd.C_alloc ?_ _) | (with_reducible refine Kd.C_drewN ?_ _) | (with_reducible refine Kd.C_drew ?_))); (case side2 => exact (Kd.V_reads' HO0.out).2.1); (case side3 => repeat (first | exact (Kd.V_reads' HO1.out).2.2 | (with_reducible refine Kd.C_alloc ?_ _) | (with_reducible refine Kd.C_drewN ?_ _) | (with_reducible refine Kd.C_drew ?_))); (case side4 => exact (Kd.V_reads' HO1.out).2.1); rintro e w17 ⟨rfl, hb⟩; refine ⟨_, rfl, ?_⟩; have n0_ := Aside0.mk (Kd.V_below (by (with_reducible repeat (first | apply Kd.V_alloc | apply Kd.V_drewN | apply Kd.V_drew)); exact HO0.out) hb); have n1_ := Aside0.mk (Kd.V_below (by (with_reducible repeat (first | apply Kd.V_alloc | apply Kd.V_drewN | apply Kd.V_drew)); exact HO1.out) hb); have n2_ := Aside0.mk (Kd.N_below (by (with_reducible repeat (first | apply Kd.N_alloc | apply Kd.N_drewN | apply Kd.N_drew)); exact HO304.out) hb); have n3_ := Aside0.mk (below_step (by repeat (first | (with_reducible first | exact HB.out | apply below_alloc | apply pw_below_drewN | apply below_drew1) | exact HB.out)) hb); clear HO0; clear HO1; clear HO304; clear HB; have HO0 := n0_; have HO1 := n1_; have HO304 := n2_; have HB := n3_; clear n0_ n1_ n2_ n3_; (try clear hb); (try clear hb2); (try clear hk); (try clear hi)) | ((with_reducible refine gate_dst (N := 7) rfl ?_); refine box_event ?hg (N := 7) ?hd (cs := #[.int .i64 0, .int .i64 0, .int .i64 0]) (t := 117) ?hr ?_; (case hd => rfl); (case hg => rfl); (case hr => first | (go_simp; done) | (go_simp; rfl)); intro gb310 hg w18 hbox hb; have n0_ := Aside0.mk (Kd.V_below (Kd.V_elderB (by (with_reducible repeat (first | apply Kd.V_alloc | apply Kd.V_drewN | apply Kd.V_drew)); exact HO0.out) gb310 (Nat.le_of_eq hg.symm)) hb); have n1_ := Aside0.mk (Kd.V_below (Kd.V_elderB (by (with_reducible repeat (first | apply Kd.V_alloc | apply Kd.V_drewN | apply Kd.V_drew)); exact HO1.out) gb310 (Nat.le_of_eq hg.symm)) hb); have n2_ := Aside0.mk (Kd.N_below (Kd.N_elderB (by (with_reducible repeat (first | apply Kd.N_alloc | apply Kd.N_drewN | apply Kd.N_drew)); exact HO304.out) gb310 (Nat.le_of_eq hg.symm)) hb); have n3_ := Aside0.mk (below_step (by repeat (first | (with_reducible first | exact HB.out | apply below_alloc | apply pw_below_drewN | apply below_drew1) | exact HB.out)) hb); have n4_ := Aside0.mk (hbox); have n5_ := Aside0.mk ((by rw [hg]; exact (below_size (by repeat (first | (with_reducible first | exact HB.out | apply below_alloc | apply pw_below_drewN | apply below_drew1) | exact HB.out))) : w.heap.size ≤ gb310)); have n6_ := Aside0.mk ((by rw [hg]; exact (below_size (by repeat (first | (with_reducible first | exact HB.out | apply below_alloc | apply pw_below_drewN | apply below_drew1) | exact HB.out))) : w.heap.size ≤ gb310)); clear HO0; clear HO1; clear HO304; clear HB; have HO0 := n0_; have HO1 := n1_; have HO304 := n2_; have HB := n3_; have BK310 := n4_; have GW310 := n5_; have GE310 := n6_; clear n0_ n1_ n2_ n3_ n4_ n5_ n6_; clear hb hbox hg; have hcz19_0 : w18.cell? ⟨gb310, 0, none⟩ = some (.int .i64 0) := (blk_cell BK310.out 0).trans rfl; have hcz19_1 : w18.cell? ⟨gb310, 1, none⟩ = some (.int .i64 0) := (blk_cell BK310.out 1).trans rfl; have hcz19_2 : w18.cell? ⟨gb310, 2, none⟩ = some (.int .i64 0) := (blk_cell BK310.out 2).trans rfl; have hfz19_0 := blk_frozen BK310.out 0; have hfz19_1 := blk_frozen BK310.out 1; have hfz19_2 := blk_frozen BK310.out 2))
        go_ret2
        exact ⟨by first | rfl | (simp [errW_none, errW_some] <;> rfl) | (simp [*, errW_none, errW_some] <;> rfl), by repeat (first | (with_reducible first | exact HB.out | apply below_alloc | apply pw_below_drewN | apply below_drew1 | refine below_set ?_ GE310.out) | exact HB.out)⟩
      · rw [if_neg c12] at H
        have c12b0 : decide (t308 < t309) = false := decide_eq_false c12
        clear c12
        by_cases c20 : t308 > t309
        · rw [if_pos c20] at H
          have c20b0 : decide (t309 < t308) = true := decide_eq_true c20
          clear c20
          simp only [Option.some.injEq, Prod.mk.injEq] at H
          obtain ⟨rfl, rfl⟩ := H
          go_enter Tryd.func47, Tryd.ntmps47
          go_wp2_with (first | ((with_reducible refine gate_dst (N := 10) rfl ?_); refine Kd.N_lit (Kd.slice 3 (Kd.int .i64)) _ 46 ?hg (N' := 10) ?hd (xs := ([l0, l1] : List (List Int))) (inner := [.slice A0 l0.length c0, .slice A1 l1.length c1]) (ok := (fun k_ => ((P0_ k_ ∨ P1_ k_) ∨ w.heap.size ≤ k_))) (okp := (fun k_ => ((P0_ k_ ∨ P1_ k_) ∨ w.heap.size ≤ k_))) ?hr ?hp (fun _ hk => hk) ((show ∀ k_, w.heap.size ≤ k_ → (fun k_ => ((P0_ k_ ∨ P1_ k_) ∨ w.heap.size ≤ k_)) k_ from fun k_ hk => (.inr (Nat.le_trans (below_size (by repeat (first | (with_reducible first | exact HB.out | apply below_alloc | apply pw_below_drewN | apply below_drew1) | exact HB.out))) hk))) _ (Nat.le_refl _)) (Below.refl _ _) (Nat.le_refl _) (by simp) ?_; (case hd => rfl); (case hg => rfl); (case hr => first | (go_simp; done) | (go_simp; rfl)); (case hp => exact (Reps.one (show Kd.FK (Kd.slice 3 (Kd.int .i64)) _ _ l0 [.slice A0 l0.length c0] from (Kd.FK_slice_mk (Kd.V_reads' (Kd.V_mono (ok' := (fun k_ => ((P0_ k_ ∨ P1_ k_) ∨ w.heap.size ≤ k_))) (HO0.out) (fun k_ hk => hk))).2.1 (Kd.V_F (Kd.V_mono (ok' := (fun k_ => ((P0_ k_ ∨ P1_ k_) ∨ w.heap.size ≤ k_))) (HO0.out) (fun k_ hk => hk))))) (Reps.one (show Kd.FK (Kd.slice 3 (Kd.int .i64)) _ _ l1 [.slice A1 l1.length c1] from (Kd.FK_slice_mk (Kd.V_reads' (Kd.V_mono (ok' := (fun k_ => ((P0_ k_ ∨ P1_ k_) ∨ w.heap.size ≤ k_))) (HO1.out) (fun k_ hk => hk))).2.1 (Kd.V_F (Kd.V_mono (ok' := (fun k_ => ((P0_ k_ ∨ P1_ k_) ∨ w.heap.size ≤ k_))) (HO1.out) (fun k_ hk => hk))))) (Reps.none _ _)))); intro v303 w21 ho22 hb hg_ hnew_; clear hg_ hnew_; (first | rw [← Ny302.out] at ho22 | (simp only [Int.reduceToNat] at ho22; rw [← Ny302.out] at ho22)); have n0_ := Aside0.mk (Kd.V_elder' (by (with_reducible repeat (first | apply Kd.V_alloc | apply Kd.V_drewN | apply Kd.V_drew)); exact HO0.out) (Kd.N_base ho22) hb); have n1_ := Aside0.mk (Kd.V_elder' (by (with_reducible repeat (first | apply Kd.V_alloc | apply Kd.V_drewN | apply Kd.V_drew)); exact HO1.out) (Kd.N_base ho22) hb); have n2_ := Aside0.mk (Kd.N_lower ho22 (below_size (by repeat (first | (with_reducible first | exact HB.out | apply below_alloc | apply pw_below_drewN | apply below_drew1) | exact HB.out)))); have n3_ := Aside0.mk (below_step (by repeat (first | (with_reducible first | exact HB.out | apply below_alloc | apply pw_below_drewN | apply below_drew1) | exact HB.out)) hb); clear HO0; clear HO1; clear HB; have HO0 := n0_; have HO1 := n1_; have HO304 := n2_; have HB := n3_; clear n0_ n1_ n2_ n3_; clear hb ho22; obtain ⟨Ao23, co23, eo23⟩ := Kd.N_slice HO304.out; subst eo23) | ((with_reducible refine gate_callee (f := 74) rfl ?_); refine goesL_ (some 11) rfl rfl Tryd.func74 (by kernel_rfl) rfl #[.slice Ao23 y302.length co23] rfl (by (try simp only [List.map_toArray, List.map_cons, List.map_nil]); first | done | rfl | (simp only [List.length_drop, List.length_take]; rfl)) ?_; (with_reducible refine (hanoi_open.calls k _ _ y302 t305 _ ?side1 ?side2 A3.out).mono ?_); (case side1 => repeat (first | exact (Kd.N_reads' HO304.out).2.2 | (with_reducible refine Kd.C_alloc ?_ _) | (with_reducible refine Kd.C_drewN ?_ _) | (with_reducible refine Kd.C_drew ?_))); (case side2 => exact (Kd.N_reads' HO304.out).2.1); rintro e w24 ⟨rfl, hb⟩; refine ⟨_, rfl, ?_⟩; have n0_ := Aside0.mk (Kd.V_below (by (with_reducible repeat (first | apply Kd.V_alloc | apply Kd.V_drewN | apply Kd.V_drew)); exact HO0.out) hb); have n1_ := Aside0.mk (Kd.V_below (by (with_reducible repeat (first | apply Kd.V_alloc | apply Kd.V_drewN | apply Kd.V_drew)); exact HO1.out) hb); have n2_ := Aside0.mk (Kd.N_below (by (with_reducible repeat (first | apply Kd.N_alloc | apply Kd.N_drewN | apply Kd.N_drew)); exact HO304.out) hb); have n3_ := Aside0.mk (below_step (by repeat (first | (with_reducible first | exact HB.out | apply below_alloc | apply pw_below_drewN | apply below_drew1) | exact HB.out)) hb); clear HO0; clear HO1; clear HO304; clear HB; have HO0 := n0_; have HO1 := n1_; have HO304 := n2_; have HB := n3_; clear n0_ n1_ n2_ n3_; (try clear hb); (try clear hb2); (try clear hk); (try clear hi)) | ((with_reducible refine gate_callee (f := 75) rfl ?_); refine goesL_ (some 17) rfl rfl Tryd.func75 (by kernel_rfl) rfl #[.slice A0 l0.length c0, .slice A1 l1.length c1] rfl (by (try simp only [List.map_toArray, List.map_cons, List.map_nil]); first | done | rfl | (simp only [List.length_drop, List.length_take]; rfl)) ?_; (with_reducible refine (slices_Equal_int_int.calls k _ _ l0 _ _ l1 false _ ?side1 ?side2 ?side3 ?side4 A5.out).mono ?_); (case side1 => repeat (first | exact (Kd.V_reads' HO0.out).2.2 | (with_reducible refine Kd.C_alloc ?_ _) | (with_reducible refine Kd.C_drewN ?_ _) | (with_reducible refine Kd.C_drew ?_))); (case side2 => exact (Kd.V_reads' HO0.out).2.1); (case side3 => repeat (first | exact (Kd.V_reads' HO1.out).2.2 | (with_reducible refine Kd.C_alloc ?_ _) | (with_reducible refine Kd.C_drewN ?_ _) | (with_reducible refine Kd.C_drew ?_))); (case side4 => exact (Kd.V_reads' HO1.out).2.1); rintro e w' ⟨rfl, ⟨nd, rfl⟩⟩; refine ⟨_, rfl, ?_⟩; (try (rw [drewN_self w24]; generalize hq_ : World.drewN w24 _ = w24; have n0_ : Aside0 (Kd.V (Kd.int .i64) 3 w24 w.heap.size (fun k_ => ((P0_ k_ ∨ P1_ k_) ∨ w.heap.size ≤ k_) ∧ some k_ ≠ (.slice Ao23 y302.length co23 : Value).ownBlock) (.slice A0 l0.length c0) l0) := ⟨by rw [← hq_]; exact (by (with_reducible repeat (first | apply Kd.V_alloc | apply Kd.V_drewN | apply Kd.V_drew)); exact HO0.out)⟩; have n1_ : Aside0 (Kd.V (Kd.int .i64) 3 w24 w.heap.size (fun k_ => ((P0_ k_ ∨ P1_ k_) ∨ w.heap.size ≤ k_) ∧ some k_ ≠ (.slice Ao23 y302.length co23 : Value).ownBlock) (.slice A1 l1.length c1) l1) := ⟨by rw [← hq_]; exact (by (with_reducible repeat (first | apply Kd.V_alloc | apply Kd.V_drewN | apply Kd.V_drew)); exact HO1.out)⟩; have n2_ : Aside0 (Kd.N (Kd.slice 3 (Kd.int .i64)) 46 w24 w.heap.size (fun k_ => ((P0_ k_ ∨ P1_ k_) ∨ w.heap.size ≤ k_)) (.slice Ao23 y302.length co23) y302) := ⟨by rw [← hq_]; exact (by (with_reducible repeat (first | apply Kd.N_alloc | apply Kd.N_drewN | apply Kd.N_drew)); exact HO304.out)⟩; have n3_ : Aside0 (Below w.heap.size w w24) := ⟨by rw [← hq_]; exact (by repeat (first | (with_reducible first | exact HB.out | apply below_alloc | apply pw_below_drewN | apply below_drew1) | exact HB.out))⟩; clear HO0 HO1 HO304 HB hq_; have HO0 := n0_; have HO1 := n1_; have HO304 := n2_; have HB := n3_; clear n0_ n1_ n2_ n3_))) | ((with_reducible refine gate_callee (f := 76) rfl ?_); refine goesL_ (some 20) rfl rfl Tryd.func76 (by kernel_rfl) rfl #[.slice A0 l0.length c0, .slice A1 l1.length c1] rfl (by (try simp only [List.map_toArray, List.map_cons, List.map_nil]); first | done | rfl | (simp only [List.length_drop, List.length_take]; rfl)) ?_; (with_reducible refine (hanoi_planned.calls k _ _ l0 _ _ l1 t307 t308 t309 _ ?side1 ?side2 ?side3 ?side4 A11.out).mono ?_); (case side1 => repeat (first | exact (Kd.V_reads' HO0.out).2.2 | (with_reducible refine Kd.C_alloc ?_ _) | (with_reducible refine Kd.C_drewN ?_ _) | (with_reducible refine Kd.C_drew ?_))); (case side2 => exact (Kd.V_reads' HO0.out).2.1); (case side3 => repeat (first | exact (Kd.V_reads' HO1.out).2.2 | (with_reducible refine Kd.C_alloc ?_ _) | (with_reducible refine Kd.C_drewN ?_ _) | (with_reducible refine Kd.C_drew ?_))); (case side4 => exact (Kd.V_reads' HO1.out).2.1); rintro e w25 ⟨rfl, hb⟩; refine ⟨_, rfl, ?_⟩; have n0_ := Aside0.mk (Kd.V_below (by (with_reducible repeat (first | apply Kd.V_alloc | apply Kd.V_drewN | apply Kd.V_drew)); exact HO0.out) hb); have n1_ := Aside0.mk (Kd.V_below (by (with_reducible repeat (first | apply Kd.V_alloc | apply Kd.V_drewN | apply Kd.V_drew)); exact HO1.out) hb); have n2_ := Aside0.mk (Kd.N_below (by (with_reducible repeat (first | apply Kd.N_alloc | apply Kd.N_drewN | apply Kd.N_drew)); exact HO304.out) hb); have n3_ := Aside0.mk (below_step (by repeat (first | (with_reducible first | exact HB.out | apply below_alloc | apply pw_below_drewN | apply below_drew1) | exact HB.out)) hb); clear HO0; clear HO1; clear HO304; clear HB; have HO0 := n0_; have HO1 := n1_; have HO304 := n2_; have HB := n3_; clear n0_ n1_ n2_ n3_; (try clear hb); (try clear hb2); (try clear hk); (try clear hi)) | ((with_reducible refine gate_dst (N := 7) rfl ?_); refine box_event ?hg (N := 7) ?hd (cs := #[.int .i64 0, .int .i64 0, .int .i64 0]) (t := 117) ?hr ?_; (case hd => rfl); (case hg => rfl); (case hr => first | (go_simp; done) | (go_simp; rfl)); intro gb310 hg w26 hbox hb; have n0_ := Aside0.mk (Kd.V_below (Kd.V_elderB (by (with_reducible repeat (first | apply Kd.V_alloc | apply Kd.V_drewN | apply Kd.V_drew)); exact HO0.out) gb310 (Nat.le_of_eq hg.symm)) hb); have n1_ := Aside0.mk (Kd.V_below (Kd.V_elderB (by (with_reducible repeat (first | apply Kd.V_alloc | apply Kd.V_drewN | apply Kd.V_drew)); exact HO1.out) gb310 (Nat.le_of_eq hg.symm)) hb); have n2_ := Aside0.mk (Kd.N_below (Kd.N_elderB (by (with_reducible repeat (first | apply Kd.N_alloc | apply Kd.N_drewN | apply Kd.N_drew)); exact HO304.out) gb310 (Nat.le_of_eq hg.symm)) hb); have n3_ := Aside0.mk (below_step (by repeat (first | (with_reducible first | exact HB.out | apply below_alloc | apply pw_below_drewN | apply below_drew1) | exact HB.out)) hb); have n4_ := Aside0.mk (hbox); have n5_ := Aside0.mk ((by rw [hg]; exact (below_size (by repeat (first | (with_reducible first | exact HB.out | apply below_alloc | apply pw_below_drewN | apply below_drew1) | exact HB.out))) : w.heap.size ≤ gb310)); have n6_ := Aside0.mk ((by rw [hg]; exact (below_size (by repeat (first | (with_reducible first | exact HB.out | apply below_alloc | apply pw_below_drewN | apply below_drew1) | exact HB.out))) : w.heap.size ≤ gb310)); clear HO0; clear HO1; clear HO304; clear HB; have HO0 := n0_; have HO1 := n1_; have HO304 := n2_; have HB := n3_; have BK310 := n4_; have GW310 := n5_; have GE310 := n6_; clear n0_ n1_ n2_ n3_ n4_ n5_ n6_; clear hb hbox hg; have hcz27_0 : w26.cell? ⟨gb310, 0, none⟩ = some (.int .i64 0) := (blk_cell BK310.out 0).trans rfl; have hcz27_1 : w26.cell? ⟨gb310, 1, none⟩ = some (.int .i64 0) := (blk_cell BK310.out 1).trans rfl; have hcz27_2 : w26.cell? ⟨gb310, 2, none⟩ = some (.int .i64 0) := (blk_cell BK310.out 2).trans rfl; have hfz27_0 := blk_frozen BK310.out 0; have hfz27_1 := blk_frozen BK310.out 1; have hfz27_2 := blk_frozen BK310.out 2))
          go_ret2
          exact ⟨by first | rfl | (simp [errW_none, errW_some] <;> rfl) | (simp [*, errW_none, errW_some] <;> rfl), by repeat (first | (with_reducible first | exact HB.out | apply below_alloc | apply pw_below_drewN | apply below_drew1 | refine below_set ?_ GE310.out) | exact HB.out)⟩
        · rw [if_neg c20] at H
          have c20b0 : decide (t309 < t308) = false := decide_eq_false c20
          clear c20
          simp only [Option.some.injEq, Prod.mk.injEq] at H
          obtain ⟨rfl, rfl⟩ := H
          go_enter Tryd.func47, Tryd.ntmps47
          go_wp2_with (first | ((with_reducible refine gate_dst (N := 10) rfl ?_); refine Kd.N_lit (Kd.slice 3 (Kd.int .i64)) _ 46 ?hg (N' := 10) ?hd (xs := ([l0, l1] : List (List Int))) (inner := [.slice A0 l0.length c0, .slice A1 l1.length c1]) (ok := (fun k_ => ((P0_ k_ ∨ P1_ k_) ∨ w.heap.size ≤ k_))) (okp := (fun k_ => ((P0_ k_ ∨ P1_ k_) ∨ w.heap.size ≤ k_))) ?hr ?hp (fun _ hk => hk) ((show ∀ k_, w.heap.size ≤ k_ → (fun k_ => ((P0_ k_ ∨ P1_ k_) ∨ w.heap.size ≤ k_)) k_ from fun k_ hk => (.inr (Nat.le_trans (below_size (by repeat (first | (with_reducible first | exact HB.out | apply below_alloc | apply pw_below_drewN | apply below_drew1) | exact HB.out))) hk))) _ (Nat.le_refl _)) (Below.refl _ _) (Nat.le_refl _) (by simp) ?_; (case hd => rfl); (case hg => rfl); (case hr => first | (go_simp; done) | (go_simp; rfl)); (case hp => exact (Reps.one (show Kd.FK (Kd.slice 3 (Kd.int .i64)) _ _ l0 [.slice A0 l0.length c0] from (Kd.FK_slice_mk (Kd.V_reads' (Kd.V_mono (ok' := (fun k_ => ((P0_ k_ ∨ P1_ k_) ∨ w.heap.size ≤ k_))) (HO0.out) (fun k_ hk => hk))).2.1 (Kd.V_F (Kd.V_mono (ok' := (fun k_ => ((P0_ k_ ∨ P1_ k_) ∨ w.heap.size ≤ k_))) (HO0.out) (fun k_ hk => hk))))) (Reps.one (show Kd.FK (Kd.slice 3 (Kd.int .i64)) _ _ l1 [.slice A1 l1.length c1] from (Kd.FK_slice_mk (Kd.V_reads' (Kd.V_mono (ok' := (fun k_ => ((P0_ k_ ∨ P1_ k_) ∨ w.heap.size ≤ k_))) (HO1.out) (fun k_ hk => hk))).2.1 (Kd.V_F (Kd.V_mono (ok' := (fun k_ => ((P0_ k_ ∨ P1_ k_) ∨ w.heap.size ≤ k_))) (HO1.out) (fun k_ hk => hk))))) (Reps.none _ _)))); intro v303 w28 ho29 hb hg_ hnew_; clear hg_ hnew_; (first | rw [← Ny302.out] at ho29 | (simp only [Int.reduceToNat] at ho29; rw [← Ny302.out] at ho29)); have n0_ := Aside0.mk (Kd.V_elder' (by (with_reducible repeat (first | apply Kd.V_alloc | apply Kd.V_drewN | apply Kd.V_drew)); exact HO0.out) (Kd.N_base ho29) hb); have n1_ := Aside0.mk (Kd.V_elder' (by (with_reducible repeat (first | apply Kd.V_alloc | apply Kd.V_drewN | apply Kd.V_drew)); exact HO1.out) (Kd.N_base ho29) hb); have n2_ := Aside0.mk (Kd.N_lower ho29 (below_size (by repeat (first | (with_reducible first | exact HB.out | apply below_alloc | apply pw_below_drewN | apply below_drew1) | exact HB.out)))); have n3_ := Aside0.mk (below_step (by repeat (first | (with_reducible first | exact HB.out | apply below_alloc | apply pw_below_drewN | apply below_drew1) | exact HB.out)) hb); clear HO0; clear HO1; clear HB; have HO0 := n0_; have HO1 := n1_; have HO304 := n2_; have HB := n3_; clear n0_ n1_ n2_ n3_; clear hb ho29; obtain ⟨Ao30, co30, eo30⟩ := Kd.N_slice HO304.out; subst eo30) | ((with_reducible refine gate_callee (f := 74) rfl ?_); refine goesL_ (some 11) rfl rfl Tryd.func74 (by kernel_rfl) rfl #[.slice Ao30 y302.length co30] rfl (by (try simp only [List.map_toArray, List.map_cons, List.map_nil]); first | done | rfl | (simp only [List.length_drop, List.length_take]; rfl)) ?_; (with_reducible refine (hanoi_open.calls k _ _ y302 t305 _ ?side1 ?side2 A3.out).mono ?_); (case side1 => repeat (first | exact (Kd.N_reads' HO304.out).2.2 | (with_reducible refine Kd.C_alloc ?_ _) | (with_reducible refine Kd.C_drewN ?_ _) | (with_reducible refine Kd.C_drew ?_))); (case side2 => exact (Kd.N_reads' HO304.out).2.1); rintro e w31 ⟨rfl, hb⟩; refine ⟨_, rfl, ?_⟩; have n0_ := Aside0.mk (Kd.V_below (by (with_reducible repeat (first | apply Kd.V_alloc | apply Kd.V_drewN | apply Kd.V_drew)); exact HO0.out) hb); have n1_ := Aside0.mk (Kd.V_below (by (with_reducible repeat (first | apply Kd.V_alloc | apply Kd.V_drewN | apply Kd.V_drew)); exact HO1.out) hb); have n2_ := Aside0.mk (Kd.N_below (by (with_reducible repeat (first | apply Kd.N_alloc | apply Kd.N_drewN | apply Kd.N_drew)); exact HO304.out) hb); have n3_ := Aside0.mk (below_step (by repeat (first | (with_reducible first | exact HB.out | apply below_alloc | apply pw_below_drewN | apply below_drew1) | exact HB.out)) hb); clear HO0; clear HO1; clear HO304; clear HB; have HO0 := n0_; have HO1 := n1_; have HO304 := n2_; have HB := n3_; clear n0_ n1_ n2_ n3_; (try clear hb); (try clear hb2); (try clear hk); (try clear hi)) | ((with_reducible refine gate_callee (f := 75) rfl ?_); refine goesL_ (some 17) rfl rfl Tryd.func75 (by kernel_rfl) rfl #[.slice A0 l0.length c0, .slice A1 l1.length c1] rfl (by (try simp only [List.map_toArray, List.map_cons, List.map_nil]); first | done | rfl | (simp only [List.length_drop, List.length_take]; rfl)) ?_; (with_reducible refine (slices_Equal_int_int.calls k _ _ l0 _ _ l1 false _ ?side1 ?side2 ?side3 ?side4 A5.out).mono ?_); (case side1 => repeat (first | exact (Kd.V_reads' HO0.out).2.2 | (with_reducible refine Kd.C_alloc ?_ _) | (with_reducible refine Kd.C_drewN ?_ _) | (with_reducible refine Kd.C_drew ?_))); (case side2 => exact (Kd.V_reads' HO0.out).2.1); (case side3 => repeat (first | exact (Kd.V_reads' HO1.out).2.2 | (with_reducible refine Kd.C_alloc ?_ _) | (with_reducible refine Kd.C_drewN ?_ _) | (with_reducible refine Kd.C_drew ?_))); (case side4 => exact (Kd.V_reads' HO1.out).2.1); rintro e w' ⟨rfl, ⟨nd, rfl⟩⟩; refine ⟨_, rfl, ?_⟩; (try (rw [drewN_self w31]; generalize hq_ : World.drewN w31 _ = w31; have n0_ : Aside0 (Kd.V (Kd.int .i64) 3 w31 w.heap.size (fun k_ => ((P0_ k_ ∨ P1_ k_) ∨ w.heap.size ≤ k_) ∧ some k_ ≠ (.slice Ao30 y302.length co30 : Value).ownBlock) (.slice A0 l0.length c0) l0) := ⟨by rw [← hq_]; exact (by (with_reducible repeat (first | apply Kd.V_alloc | apply Kd.V_drewN | apply Kd.V_drew)); exact HO0.out)⟩; have n1_ : Aside0 (Kd.V (Kd.int .i64) 3 w31 w.heap.size (fun k_ => ((P0_ k_ ∨ P1_ k_) ∨ w.heap.size ≤ k_) ∧ some k_ ≠ (.slice Ao30 y302.length co30 : Value).ownBlock) (.slice A1 l1.length c1) l1) := ⟨by rw [← hq_]; exact (by (with_reducible repeat (first | apply Kd.V_alloc | apply Kd.V_drewN | apply Kd.V_drew)); exact HO1.out)⟩; have n2_ : Aside0 (Kd.N (Kd.slice 3 (Kd.int .i64)) 46 w31 w.heap.size (fun k_ => ((P0_ k_ ∨ P1_ k_) ∨ w.heap.size ≤ k_)) (.slice Ao30 y302.length co30) y302) := ⟨by rw [← hq_]; exact (by (with_reducible repeat (first | apply Kd.N_alloc | apply Kd.N_drewN | apply Kd.N_drew)); exact HO304.out)⟩; have n3_ : Aside0 (Below w.heap.size w w31) := ⟨by rw [← hq_]; exact (by repeat (first | (with_reducible first | exact HB.out | apply below_alloc | apply pw_below_drewN | apply below_drew1) | exact HB.out))⟩; clear HO0 HO1 HO304 HB hq_; have HO0 := n0_; have HO1 := n1_; have HO304 := n2_; have HB := n3_; clear n0_ n1_ n2_ n3_))) | ((with_reducible refine gate_callee (f := 76) rfl ?_); refine goesL_ (some 20) rfl rfl Tryd.func76 (by kernel_rfl) rfl #[.slice A0 l0.length c0, .slice A1 l1.length c1] rfl (by (try simp only [List.map_toArray, List.map_cons, List.map_nil]); first | done | rfl | (simp only [List.length_drop, List.length_take]; rfl)) ?_; (with_reducible refine (hanoi_planned.calls k _ _ l0 _ _ l1 t307 t308 t309 _ ?side1 ?side2 ?side3 ?side4 A11.out).mono ?_); (case side1 => repeat (first | exact (Kd.V_reads' HO0.out).2.2 | (with_reducible refine Kd.C_alloc ?_ _) | (with_reducible refine Kd.C_drewN ?_ _) | (with_reducible refine Kd.C_drew ?_))); (case side2 => exact (Kd.V_reads' HO0.out).2.1); (case side3 => repeat (first | exact (Kd.V_reads' HO1.out).2.2 | (with_reducible refine Kd.C_alloc ?_ _) | (with_reducible refine Kd.C_drewN ?_ _) | (with_reducible refine Kd.C_drew ?_))); (case side4 => exact (Kd.V_reads' HO1.out).2.1); rintro e w32 ⟨rfl, hb⟩; refine ⟨_, rfl, ?_⟩; have n0_ := Aside0.mk (Kd.V_below (by (with_reducible repeat (first | apply Kd.V_alloc | apply Kd.V_drewN | apply Kd.V_drew)); exact HO0.out) hb); have n1_ := Aside0.mk (Kd.V_below (by (with_reducible repeat (first | apply Kd.V_alloc | apply Kd.V_drewN | apply Kd.V_drew)); exact HO1.out) hb); have n2_ := Aside0.mk (Kd.N_below (by (with_reducible repeat (first | apply Kd.N_alloc | apply Kd.N_drewN | apply Kd.N_drew)); exact HO304.out) hb); have n3_ := Aside0.mk (below_step (by repeat (first | (with_reducible first | exact HB.out | apply below_alloc | apply pw_below_drewN | apply below_drew1) | exact HB.out)) hb); clear HO0; clear HO1; clear HO304; clear HB; have HO0 := n0_; have HO1 := n1_; have HO304 := n2_; have HB := n3_; clear n0_ n1_ n2_ n3_; (try clear hb); (try clear hb2); (try clear hk); (try clear hi)) | ((with_reducible refine gate_dst (N := 7) rfl ?_); refine box_event ?hg (N := 7) ?hd (cs := #[.int .i64 0, .int .i64 0, .int .i64 0]) (t := 117) ?hr ?_; (case hd => rfl); (case hg => rfl); (case hr => first | (go_simp; done) | (go_simp; rfl)); intro gb310 hg w33 hbox hb; have n0_ := Aside0.mk (Kd.V_below (Kd.V_elderB (by (with_reducible repeat (first | apply Kd.V_alloc | apply Kd.V_drewN | apply Kd.V_drew)); exact HO0.out) gb310 (Nat.le_of_eq hg.symm)) hb); have n1_ := Aside0.mk (Kd.V_below (Kd.V_elderB (by (with_reducible repeat (first | apply Kd.V_alloc | apply Kd.V_drewN | apply Kd.V_drew)); exact HO1.out) gb310 (Nat.le_of_eq hg.symm)) hb); have n2_ := Aside0.mk (Kd.N_below (Kd.N_elderB (by (with_reducible repeat (first | apply Kd.N_alloc | apply Kd.N_drewN | apply Kd.N_drew)); exact HO304.out) gb310 (Nat.le_of_eq hg.symm)) hb); have n3_ := Aside0.mk (below_step (by repeat (first | (with_reducible first | exact HB.out | apply below_alloc | apply pw_below_drewN | apply below_drew1) | exact HB.out)) hb); have n4_ := Aside0.mk (hbox); have n5_ := Aside0.mk ((by rw [hg]; exact (below_size (by repeat (first | (with_reducible first | exact HB.out | apply below_alloc | apply pw_below_drewN | apply below_drew1) | exact HB.out))) : w.heap.size ≤ gb310)); have n6_ := Aside0.mk ((by rw [hg]; exact (below_size (by repeat (first | (with_reducible first | exact HB.out | apply below_alloc | apply pw_below_drewN | apply below_drew1) | exact HB.out))) : w.heap.size ≤ gb310)); clear HO0; clear HO1; clear HO304; clear HB; have HO0 := n0_; have HO1 := n1_; have HO304 := n2_; have HB := n3_; have BK310 := n4_; have GW310 := n5_; have GE310 := n6_; clear n0_ n1_ n2_ n3_ n4_ n5_ n6_; clear hb hbox hg; have hcz34_0 : w33.cell? ⟨gb310, 0, none⟩ = some (.int .i64 0) := (blk_cell BK310.out 0).trans rfl; have hcz34_1 : w33.cell? ⟨gb310, 1, none⟩ = some (.int .i64 0) := (blk_cell BK310.out 1).trans rfl; have hcz34_2 : w33.cell? ⟨gb310, 2, none⟩ = some (.int .i64 0) := (blk_cell BK310.out 2).trans rfl; have hfz34_0 := blk_frozen BK310.out 0; have hfz34_1 := blk_frozen BK310.out 1; have hfz34_2 := blk_frozen BK310.out 2))
          go_ret2
          exact ⟨by first | rfl | (simp [errW_none, errW_some] <;> rfl) | (simp [*, errW_none, errW_some] <;> rfl), by repeat (first | (with_reducible first | exact HB.out | apply below_alloc | apply pw_below_drewN | apply below_drew1 | refine below_set ?_ GE310.out) | exact HB.out)⟩
  · rw [if_neg c4] at H
    have c4b0 : (t305 == 0) = false := beq_eq_false_iff_ne.mpr c4
    have c4b1 : (t305 != 0) = true := bne_iff_ne.mpr c4
    simp only [Option.some.injEq, Prod.mk.injEq] at H
    obtain ⟨rfl, rfl⟩ := H
    go_enter Tryd.func47, Tryd.ntmps47
    go_wp2_with (first | ((with_reducible refine gate_dst (N := 10) rfl ?_); refine Kd.N_lit (Kd.slice 3 (Kd.int .i64)) _ 46 ?hg (N' := 10) ?hd (xs := ([l0, l1] : List (List Int))) (inner := [.slice A0 l0.length c0, .slice A1 l1.length c1]) (ok := (fun k_ => ((P0_ k_ ∨ P1_ k_) ∨ w.heap.size ≤ k_))) (okp := (fun k_ => ((P0_ k_ ∨ P1_ k_) ∨ w.heap.size ≤ k_))) ?hr ?hp (fun _ hk => hk) ((show ∀ k_, w.heap.size ≤ k_ → (fun k_ => ((P0_ k_ ∨ P1_ k_) ∨ w.heap.size ≤ k_)) k_ from fun k_ hk => (.inr (Nat.le_trans (below_size (by repeat (first | (with_reducible first | exact HB.out | apply below_alloc | apply pw_below_drewN | apply below_drew1) | exact HB.out))) hk))) _ (Nat.le_refl _)) (Below.refl _ _) (Nat.le_refl _) (by simp) ?_; (case hd => rfl); (case hg => rfl); (case hr => first | (go_simp; done) | (go_simp; rfl)); (case hp => exact (Reps.one (show Kd.FK (Kd.slice 3 (Kd.int .i64)) _ _ l0 [.slice A0 l0.length c0] from (Kd.FK_slice_mk (Kd.V_reads' (Kd.V_mono (ok' := (fun k_ => ((P0_ k_ ∨ P1_ k_) ∨ w.heap.size ≤ k_))) (HO0.out) (fun k_ hk => hk))).2.1 (Kd.V_F (Kd.V_mono (ok' := (fun k_ => ((P0_ k_ ∨ P1_ k_) ∨ w.heap.size ≤ k_))) (HO0.out) (fun k_ hk => hk))))) (Reps.one (show Kd.FK (Kd.slice 3 (Kd.int .i64)) _ _ l1 [.slice A1 l1.length c1] from (Kd.FK_slice_mk (Kd.V_reads' (Kd.V_mono (ok' := (fun k_ => ((P0_ k_ ∨ P1_ k_) ∨ w.heap.size ≤ k_))) (HO1.out) (fun k_ hk => hk))).2.1 (Kd.V_F (Kd.V_mono (ok' := (fun k_ => ((P0_ k_ ∨ P1_ k_) ∨ w.heap.size ≤ k_))) (HO1.out) (fun k_ hk => hk))))) (Reps.none _ _)))); intro v303 w35 ho36 hb hg_ hnew_; clear hg_ hnew_; (first | rw [← Ny302.out] at ho36 | (simp only [Int.reduceToNat] at ho36; rw [← Ny302.out] at ho36)); have n0_ := Aside0.mk (Kd.V_elder' (by (with_reducible repeat (first | apply Kd.V_alloc | apply Kd.V_drewN | apply Kd.V_drew)); exact HO0.out) (Kd.N_base ho36) hb); have n1_ := Aside0.mk (Kd.V_elder' (by (with_reducible repeat (first | apply Kd.V_alloc | apply Kd.V_drewN | apply Kd.V_drew)); exact HO1.out) (Kd.N_base ho36) hb); have n2_ := Aside0.mk (Kd.N_lower ho36 (below_size (by repeat (first | (with_reducible first | exact HB.out | apply below_alloc | apply pw_below_drewN | apply below_drew1) | exact HB.out)))); have n3_ := Aside0.mk (below_step (by repeat (first | (with_reducible first | exact HB.out | apply below_alloc | apply pw_below_drewN | apply below_drew1) | exact HB.out)) hb); clear HO0; clear HO1; clear HB; have HO0 := n0_; have HO1 := n1_; have HO304 := n2_; have HB := n3_; clear n0_ n1_ n2_ n3_; clear hb ho36; obtain ⟨Ao37, co37, eo37⟩ := Kd.N_slice HO304.out; subst eo37) | ((with_reducible refine gate_callee (f := 74) rfl ?_); refine goesL_ (some 11) rfl rfl Tryd.func74 (by kernel_rfl) rfl #[.slice Ao37 y302.length co37] rfl (by (try simp only [List.map_toArray, List.map_cons, List.map_nil]); first | done | rfl | (simp only [List.length_drop, List.length_take]; rfl)) ?_; (with_reducible refine (hanoi_open.calls k _ _ y302 t305 _ ?side1 ?side2 A3.out).mono ?_); (case side1 => repeat (first | exact (Kd.N_reads' HO304.out).2.2 | (with_reducible refine Kd.C_alloc ?_ _) | (with_reducible refine Kd.C_drewN ?_ _) | (with_reducible refine Kd.C_drew ?_))); (case side2 => exact (Kd.N_reads' HO304.out).2.1); rintro e w38 ⟨rfl, hb⟩; refine ⟨_, rfl, ?_⟩; have n0_ := Aside0.mk (Kd.V_below (by (with_reducible repeat (first | apply Kd.V_alloc | apply Kd.V_drewN | apply Kd.V_drew)); exact HO0.out) hb); have n1_ := Aside0.mk (Kd.V_below (by (with_reducible repeat (first | apply Kd.V_alloc | apply Kd.V_drewN | apply Kd.V_drew)); exact HO1.out) hb); have n2_ := Aside0.mk (Kd.N_below (by (with_reducible repeat (first | apply Kd.N_alloc | apply Kd.N_drewN | apply Kd.N_drew)); exact HO304.out) hb); have n3_ := Aside0.mk (below_step (by repeat (first | (with_reducible first | exact HB.out | apply below_alloc | apply pw_below_drewN | apply below_drew1) | exact HB.out)) hb); clear HO0; clear HO1; clear HO304; clear HB; have HO0 := n0_; have HO1 := n1_; have HO304 := n2_; have HB := n3_; clear n0_ n1_ n2_ n3_; (try clear hb); (try clear hb2); (try clear hk); (try clear hi)))
    go_ret2
    exact ⟨by first | rfl | (simp [errW_none, errW_some] <;> rfl) | (simp [*, errW_none, errW_some] <;> rfl), by repeat (first | (with_reducible first | exact HB.out | apply below_alloc | apply pw_below_drewN | apply below_drew1) | exact HB.out)⟩

end Go.Proofs.YtnaaomhmoamfpaaDoor.Q
namespace Go.Proofs.YtnaaomhmoamfpaaDoor.G
end Go.Proofs.YtnaaomhmoamfpaaDoor.G
namespace Go.Proofs.YtnaaomhmoamfpaaDoor.Q
set_option linter.unusedVariables false
set_option linter.unusedSimpArgs false
set_option linter.unusedSectionVars false
open Go.Proofs.YtnaaomhmoamfpaaDoor.G
open Go.RowKit Go.Proofs.YtnaaomhmoamfpaaDoorW.PrintWords Go.Proofs.YtnaaomhmoamfpaaDoorW.PrintLast Go.Proofs.YtnaaomhmoamfpaaDoorW.PrintMore
attribute [local go_sem] max2_int min2_int max_two min_two max_three min_three max_four min_four   -- for this text's walks alone

/-! ### bibelotref03_Discs: function 61 -/
def bibelotref03_Discs.l0 : Nat → List Int → Int → Int → Option (Bool)
  | 0, _, _, _ => none
  | k + 1, x0, x1, x5 => if x5 < (x0.length : Int) then (if 0 ≤ x5 then (if (rd x0 x5) < 0 then (some false) else (if (rd x0 x5) ≥ x1 then (some false) else (bibelotref03_Discs.l0 k x0 x1 (wrap64 (x5 + 1))))) else (none)) else (if (x0.length : Int) ≥ 1 then (some (decide ((x0.length : Int) ≤ 40))) else (some false))
def bibelotref03_Discs.f (k : Nat) (l0 : List Int) (a1 : Int) : Option (Bool) := bibelotref03_Discs.l0 k l0 a1 0
theorem bibelotref03_Discs.mono_l : ∀ k, (∀ y0 y1 y2, LeO (bibelotref03_Discs.l0 k y0 y1 y2) (bibelotref03_Discs.l0 (k + 1) y0 y1 y2))
  | 0 => fun _ _ _ r h => by simp [bibelotref03_Discs.l0] at h
  | k + 1 => by
    have ih0 := bibelotref03_Discs.mono_l k
    · intro y0 y1 y2
      unfold bibelotref03_Discs.l0
      repeat' first
      | (with_reducible exact ih0 _ _ _)
      | (with_reducible exact LeO.refl _)
      | (with_reducible exact LeO.none _)
      | (with_reducible refine LeO.ite ?_ ?_)
      | (with_reducible refine LeO.bind ?_ (fun _ => ?_))
      | exact ih0 _ _ _
      | exact LeO.none _
      | refine LeO.ite ?_ ?_
      | refine LeO.bind ?_ (fun _ => ?_)
theorem bibelotref03_Discs.mono : ∀ a0 a1 k, LeO (bibelotref03_Discs.f k a0 a1) (bibelotref03_Discs.f (k + 1) a0 a1) := by
  intro a0 a1 k
  have ih0 := bibelotref03_Discs.mono_l k
  unfold bibelotref03_Discs.f
  repeat' first
      | (with_reducible exact ih0 _ _ _)
      | (with_reducible exact LeO.refl _)
      | (with_reducible exact LeO.none _)
      | (with_reducible refine LeO.ite ?_ ?_)
      | (with_reducible refine LeO.bind ?_ (fun _ => ?_))
      | exact ih0 _ _ _
      | exact LeO.none _
      | refine LeO.ite ?_ ?_
      | refine LeO.bind ?_ (fun _ => ?_)
set_option maxHeartbeats 8000000 in
set_option maxRecDepth 100000 in
theorem bibelotref03_Discs.calls (k : Nat) (A0 : Option Addr) (c0 : Nat) (l0 : List Int) (a1 : Int) (r : Bool) (w : World) (hr0 : Kd.C (Kd.int .i64) w A0 l0.length l0) (hc0 : l0.length ≤ c0) (h : bibelotref03_Discs.f k l0 a1 = some r) :
    Calls Tryd.prog 61 #[.slice A0 l0.length c0, .int .i64 a1] w fun e w' => e = .returned (.bool r) ∧ Drawn0 w w' := by
  have HR0 := Aside0.mk hr0
  have HC0 := Aside0.mk hc0
  clear hr0 hc0
  have H : (bibelotref03_Discs.l0 k l0 a1 0) = some r := h
  clear h
  have H' := Aside0.mk H
  clear H
  go_enter Tryd.func61, Tryd.ntmps61
  go_wp2
  go_loopg [5] k (fun kq v5 w' => ∃ (x5_1 : Int), v5 = .int .i64 x5_1 ∧ Aside0 (bibelotref03_Discs.l0 kq l0 a1 x5_1 = some r) ∧ Aside0 (kq ≤ k) ∧ Drawn0 w w')
  case atStart => exact ⟨(0), (by first | rfl | (simp; done) | (simp [*]; done)), H', ⟨Nat.le_refl _⟩, by repeat (first | exact Drawn0.refl _ | apply Drawn0.step)⟩
  case round =>
    clear H'
    try clear p2
    obtain ⟨x5_1, rfl, HA, HK1, ⟨m1, rfl⟩⟩ := hrel
    cases gk with
    | zero => exact absurd HA.out (by simp [bibelotref03_Discs.l0])
    | succ k1 =>
      have H := HA.out
      clear HA
      simp only [bibelotref03_Discs.l0] at H
      by_cases c3 : x5_1 < (l0.length : Int)
      · rw [if_pos c3] at H
        have c3b0 : decide (x5_1 < (l0.length : Int)) = true := decide_eq_true c3
        clear c3
        by_cases c4 : 0 ≤ x5_1
        · rw [if_pos c4] at H
          have c4b0 : decide (0 ≤ x5_1) = true := decide_eq_true c4
          clear c4
          by_cases c5 : (rd l0 x5_1) < 0
          · rw [if_pos c5] at H
            have c5b0 : decide ((rd l0 x5_1) < 0) = true := decide_eq_true c5
            clear c5
            obtain rfl := Option.some.inj H
            have p558 : 0 ≤ (x5_1 : Int) := of_decide_eq_true (by first | (with_reducible assumption) | assumption)
            have q558 : x5_1 < (l0.length : Int) := of_decide_eq_true (by first | (with_reducible assumption) | assumption)
            obtain ⟨ad558, e558, hx558_0⟩ := Kd.at_int HR0.out x5_1 p558 q558
            cases e558
            replace p558 := eq_true p558
            replace q558 := eq_true q558
            go_wp2
            go_ret
            exact ⟨by first | rfl | (simp; done) | (simp [*]; done), by repeat (first | exact Drawn0.refl _ | apply Drawn0.step)⟩
          · rw [if_neg c5] at H
            have c5b0 : decide ((rd l0 x5_1) < 0) = false := decide_eq_false c5
            clear c5
            by_cases c6 : (rd l0 x5_1) ≥ a1
            · rw [if_pos c6] at H
              have c6b0 : decide (a1 ≤ (rd l0 x5_1)) = true := decide_eq_true c6
              clear c6
              obtain rfl := Option.some.inj H
              have p558 : 0 ≤ (x5_1 : Int) := of_decide_eq_true (by first | (with_reducible assumption) | assumption)
              have q558 : x5_1 < (l0.length : Int) := of_decide_eq_true (by first | (with_reducible assumption) | assumption)
              obtain ⟨ad558, e558, hx558_0⟩ := Kd.at_int HR0.out x5_1 p558 q558
              cases e558
              replace p558 := eq_true p558
              replace q558 := eq_true q558
              have p559 : 0 ≤ (x5_1 : Int) := of_decide_eq_true (by first | (with_reducible assumption) | assumption)
              have q559 : x5_1 < (l0.length : Int) := of_decide_eq_true (by first | (with_reducible assumption) | assumption)
              obtain ⟨ad559, e559, hx559_0⟩ := Kd.at_int HR0.out x5_1 p559 q559
              obtain rfl : ad558 = ad559 := (by injection e559)
              replace p559 := eq_true p559
              replace q559 := eq_true q559
              go_wp2
              go_ret
              exact ⟨by first | rfl | (simp; done) | (simp [*]; done), by repeat (first | exact Drawn0.refl _ | apply Drawn0.step)⟩
            · rw [if_neg c6] at H
              have c6b0 : decide (a1 ≤ (rd l0 x5_1)) = false := decide_eq_false c6
              clear c6
              have H' := Aside0.mk H
              clear H
              have p558 : 0 ≤ (x5_1 : Int) := of_decide_eq_true (by first | (with_reducible assumption) | assumption)
              have q558 : x5_1 < (l0.length : Int) := of_decide_eq_true (by first | (with_reducible assumption) | assumption)
              obtain ⟨ad558, e558, hx558_0⟩ := Kd.at_int HR0.out x5_1 p558 q558
              cases e558
              replace p558 := eq_true p558
              replace q558 := eq_true q558
              have p559 : 0 ≤ (x5_1 : Int) := of_decide_eq_true (by first | (with_reducible assumption) | assumption)
              have q559 : x5_1 < (l0.length : Int) := of_decide_eq_true (by first | (with_reducible assumption) | assumption)
              obtain ⟨ad559, e559, hx559_0⟩ := Kd.at_int HR0.out x5_1 p559 q559
              obtain rfl : ad558 = ad559 := (by injection e559)
              replace p559 := eq_true p559
              replace q559 := eq_true q559
              go_wp2
              go_roundg k1
              case measure => have := HK1.out; omega
              case rel => exact ⟨(wrap64 (x5_1 + 1)), (by first | rfl | (simp; done) | (simp [*]; done)), H', ⟨by have := HK1.out; omega⟩, by repeat (first | exact Drawn0.refl _ | apply Drawn0.step)⟩
        · rw [if_neg c4] at H
          exact absurd H (by simp)
      · rw [if_neg c3] at H
        have c3b0 : decide (x5_1 < (l0.length : Int)) = false := decide_eq_false c3
        clear c3
        by_cases c7 : (l0.length : Int) ≥ 1
        · rw [if_pos c7] at H
          have c7b0 : decide (1 ≤ (l0.length : Int)) = true := decide_eq_true c7
          have c7b1 : decide (1 ≤ l0.length) = true := decide_eq_true (by omega)
          clear c7
          obtain rfl := Option.some.inj H
          go_wp2
          go_ret
          exact ⟨by first | rfl | (simp; done) | (simp [*]; done), by repeat (first | exact Drawn0.refl _ | apply Drawn0.step)⟩
        · rw [if_neg c7] at H
          have c7b0 : decide (1 ≤ (l0.length : Int)) = false := decide_eq_false c7
          have c7b1 : decide (1 ≤ l0.length) = false := decide_eq_false (by omega)
          clear c7
          obtain rfl := Option.some.inj H
          go_wp2
          go_ret
          exact ⟨by first | rfl | (simp; done) | (simp [*]; done), by repeat (first | exact Drawn0.refl _ | apply Drawn0.step)⟩

end Go.Proofs.YtnaaomhmoamfpaaDoor.Q
/- Rings with one of them changed. -/
namespace Go.Proofs.YtnaaomhmoamfpaaDoor.G
set_option linter.unusedVariables false
set_option linter.unusedSimpArgs false
set_option linter.unusedSectionVars false
open Go.Proofs.YtnaaomhmoamfpaaDoor.Q Go.Proofs.YtnaaomhmoamfpaaDoor.Hn
open Go.RowKit Go.Proofs.YtnaaomhmoamfpaaDoorW.PrintWords Go.Proofs.YtnaaomhmoamfpaaDoorW.PrintLast Go.Proofs.YtnaaomhmoamfpaaDoorW.PrintMore

/-- The rings with ring i changed. -/
def chg (s : ByteArray) (i : Nat) : ByteArray := (s.extract 0 i ++ (if s.data.toList.getD i 48 = 49 then ⟨#[48]⟩ else ⟨#[49]⟩ : ByteArray)) ++ s.extract (i + 1) s.size
def bibelotref03_Changed.f (s : ByteArray) (i : Int) : Option ByteArray := if 0 ≤ i ∧ i < (s.size : Int) ∧ (s.size : Int) ≤ 1000 then some (chg s i.toNat) else none

theorem cut_head (s : ByteArray) (i : Nat) (hi : i < s.size) (W : World) : (Instr.slice 9 (.string s) none (some (.int .i64 (i : Int))) none).run Tryd.prog W = .ok (.string (s.extract 0 i)) W := by
  have h9 : Tryd.prog.underlying 9 = some .string := by kernel_rfl
  have p1 : (i : Int) ≤ (s.size : Int) := by omega
  simp [Instr.slice, Instr.sliceBounds, Instr.sliceBound, asIntOf, run_underlying h9, go_sem]
  intro h
  omega
theorem cut_tail (s : ByteArray) (i : Nat) (hi : i ≤ s.size) (W : World) : (Instr.slice 9 (.string s) (some (.int .i64 (i : Int))) none none).run Tryd.prog W = .ok (.string (s.extract i s.size)) W := by
  have h9 : Tryd.prog.underlying 9 = some .string := by kernel_rfl
  have p1 : (i : Int) ≤ (s.size : Int) := by omega
  simp [Instr.slice, Instr.sliceBounds, Instr.sliceBound, asIntOf, run_underlying h9, go_sem]
  intro h
  omega

set_option maxHeartbeats 4000000 in
theorem changed_calls (s : ByteArray) (i : Nat) (hi : i < s.size) (hs : s.size ≤ 1000) (w : World) :
    Calls Tryd.prog 39 #[.string s, .int .i64 (i : Int)] w fun e w' => e = .returned (.string (chg s i)) ∧ Drawn0 w w' := by
  have p0 : (0 : Int) ≤ (i : Int) := by omega
  have p1 : (i : Int) < (s.size : Int) := by omega
  have q1 : (i : Int) + 1 ≤ 1000 := by omega
  have c1 := cut_head s i hi
  have c2 := cut_tail s (i + 1) (by omega)
  rw [Int.natCast_add, Int.natCast_one] at c2
  have z1 : (s.extract 0 i).size = i := by simp; omega
  have z2 : (s.extract (i + 1) s.size).size = s.size - (i + 1) := by simp
  have hlt : i < s.data.toList.length := hi
  have hget : s.data.toList.getD i 48 = s[i] := by rw [List.getD_eq_getElem?_getD, List.getElem?_eq_getElem hlt]; rfl
  by_cases hb : s[i] = 49
  · have hc : chg s i = (s.extract 0 i ++ ⟨#[48]⟩) ++ s.extract (i + 1) s.size := by unfold chg; rw [hget, if_pos hb]
    have HC := Aside0.mk hc
    have b0 : (((s[i].toNat : Nat) : Int) == 49) = true := by rw [hb]; rfl
    obtain ⟨A, hA⟩ : ∃ A, s.extract 0 i = A := ⟨_, rfl⟩
    obtain ⟨B, hB⟩ : ∃ B, s.extract (i + 1) s.size = B := ⟨_, rfl⟩
    rw [hA] at c1 z1
    rw [hB] at c2 z2
    rw [hA, hB] at HC
    have y1 : A.size + 1 ≤ 1001 := by omega
    have y2 : (A ++ (⟨#[48]⟩ : ByteArray)).size + B.size ≤ 2002 := by rw [ByteArray.size_append]; show A.size + 1 + B.size ≤ _; omega
    clear hc hb hget hA hB z1 z2
    go_enter Tryd.func39, Tryd.ntmps39
    go_wp2
    go_quiet (fail)
    go_wp2
    go_ret
    exact ⟨by rw [HC.out]; rfl, by repeat (first | exact Drawn0.refl _ | apply Drawn0.step)⟩
  · have hc : chg s i = (s.extract 0 i ++ ⟨#[49]⟩) ++ s.extract (i + 1) s.size := by unfold chg; rw [hget, if_neg hb]
    have HC := Aside0.mk hc
    have b0 : (((s[i].toNat : Nat) : Int) == 49) = false := by
      rw [beq_eq_false_iff_ne]
      intro h
      apply hb
      apply UInt8.toNat_inj.1
      show s[i].toNat = 49
      omega
    obtain ⟨A, hA⟩ : ∃ A, s.extract 0 i = A := ⟨_, rfl⟩
    obtain ⟨B, hB⟩ : ∃ B, s.extract (i + 1) s.size = B := ⟨_, rfl⟩
    rw [hA] at c1 z1
    rw [hB] at c2 z2
    rw [hA, hB] at HC
    have y1 : A.size + 1 ≤ 1001 := by omega
    have y2 : (A ++ (⟨#[49]⟩ : ByteArray)).size + B.size ≤ 2002 := by rw [ByteArray.size_append]; show A.size + 1 + B.size ≤ _; omega
    clear hc hb hget hA hB z1 z2
    go_enter Tryd.func39, Tryd.ntmps39
    go_wp2
    go_quiet (fail)
    go_wp2
    go_ret
    exact ⟨by rw [HC.out]; rfl, by repeat (first | exact Drawn0.refl _ | apply Drawn0.step)⟩
theorem bibelotref03_Changed.calls (a0 : ByteArray) (a1 : Int) (r : ByteArray) (w : World) (h : bibelotref03_Changed.f a0 a1 = some r) :
    Calls Tryd.prog 39 #[.string a0, .int .i64 a1] w fun e w' => e = .returned (.string r) ∧ Drawn0 w w' := by
  unfold bibelotref03_Changed.f at h
  split at h
  · rename_i hc
    obtain ⟨i, rfl⟩ := Int.eq_ofNat_of_zero_le hc.1
    cases h
    exact changed_calls a0 i (by omega) (by omega) w
  · cases h
end Go.Proofs.YtnaaomhmoamfpaaDoor.G
namespace Go.Proofs.YtnaaomhmoamfpaaDoor.G
end Go.Proofs.YtnaaomhmoamfpaaDoor.G
namespace Go.Proofs.YtnaaomhmoamfpaaDoor.Q
set_option linter.unusedVariables false
set_option linter.unusedSimpArgs false
set_option linter.unusedSectionVars false
open Go.Proofs.YtnaaomhmoamfpaaDoor.G
open Go.RowKit Go.Proofs.YtnaaomhmoamfpaaDoorW.PrintWords Go.Proofs.YtnaaomhmoamfpaaDoorW.PrintLast Go.Proofs.YtnaaomhmoamfpaaDoorW.PrintMore
attribute [local go_sem] max2_int min2_int max_two min_two max_three min_three max_four min_four   -- for this text's walks alone

/-! ### bibelotref03_Can: function 72 -/
mutual
def bibelotref03_Can.j0 : Nat → List Int → Int → Int → Bool → Option (Bool)
  | 0, _, _, _, _ => none
  | k + 1, x0, x1, x2, x34 => if x34 = true then (some false) else (bibelotref03_Can.l0 k x0 x1 x2 0)
def bibelotref03_Can.l0 : Nat → List Int → Int → Int → Int → Option (Bool)
  | 0, _, _, _, _ => none
  | k + 1, x0, x1, x2, x9 => if x9 < x1 then (if 0 ≤ x9 then (if x9 < (x0.length : Int) then (if 0 ≤ x1 then (if x1 < (x0.length : Int) then (if (rd x0 x9) = (rd x0 x1) then (some false) else (if (rd x0 x9) = x2 then (some false) else (bibelotref03_Can.l0 k x0 x1 x2 (wrap64 (x9 + 1))))) else (none)) else (none)) else (none)) else (none)) else (some true)
end
def bibelotref03_Can.f (k : Nat) (l0 : List Int) (a1 : Int) (a2 : Int) (a3 : Int) : Option (Bool) := if a1 < 0 then (bibelotref03_Can.j0 k l0 a1 a2 true) else (if a1 ≥ (l0.length : Int) then (bibelotref03_Can.j0 k l0 a1 a2 true) else (if a2 < 0 then (bibelotref03_Can.j0 k l0 a1 a2 true) else (if a2 ≥ a3 then (bibelotref03_Can.j0 k l0 a1 a2 true) else (if 0 ≤ a1 then (if a1 < (l0.length : Int) then (bibelotref03_Can.j0 k l0 a1 a2 ((rd l0 a1) == a2)) else (none)) else (none)))))
theorem bibelotref03_Can.mono_l : ∀ k, (∀ y0 y1 y2 y3, LeO (bibelotref03_Can.j0 k y0 y1 y2 y3) (bibelotref03_Can.j0 (k + 1) y0 y1 y2 y3)) ∧ (∀ y0 y1 y2 y3, LeO (bibelotref03_Can.l0 k y0 y1 y2 y3) (bibelotref03_Can.l0 (k + 1) y0 y1 y2 y3))
  | 0 => ⟨fun _ _ _ _ r h => by simp [bibelotref03_Can.j0] at h, fun _ _ _ _ r h => by simp [bibelotref03_Can.l0] at h⟩
  | k + 1 => by
    obtain ⟨ih0, ih1⟩ := bibelotref03_Can.mono_l k
    refine ⟨?_, ?_⟩
    · intro y0 y1 y2 y3
      unfold bibelotref03_Can.j0
      repeat' first
      | (with_reducible exact ih0 _ _ _ _)
      | (with_reducible exact ih1 _ _ _ _)
      | (with_reducible exact LeO.refl _)
      | (with_reducible exact LeO.none _)
      | (with_reducible refine LeO.ite ?_ ?_)
      | (with_reducible refine LeO.bind ?_ (fun _ => ?_))
      | exact ih0 _ _ _ _
      | exact ih1 _ _ _ _
      | exact LeO.none _
      | refine LeO.ite ?_ ?_
      | refine LeO.bind ?_ (fun _ => ?_)
    · intro y0 y1 y2 y3
      unfold bibelotref03_Can.l0
      repeat' first
      | (with_reducible exact ih0 _ _ _ _)
      | (with_reducible exact ih1 _ _ _ _)
      | (with_reducible exact LeO.refl _)
      | (with_reducible exact LeO.none _)
      | (with_reducible refine LeO.ite ?_ ?_)
      | (with_reducible refine LeO.bind ?_ (fun _ => ?_))
      | exact ih0 _ _ _ _
      | exact ih1 _ _ _ _
      | exact LeO.none _
      | refine LeO.ite ?_ ?_
      | refine LeO.bind ?_ (fun _ => ?_)
theorem bibelotref03_Can.mono : ∀ a0 a1 a2 a3 k, LeO (bibelotref03_Can.f k a0 a1 a2 a3) (bibelotref03_Can.f (k + 1) a0 a1 a2 a3) := by
  intro a0 a1 a2 a3 k
  obtain ⟨ih0, ih1⟩ := bibelotref03_Can.mono_l k
  unfold bibelotref03_Can.f
  repeat' first
      | (with_reducible exact ih0 _ _ _ _)
      | (with_reducible exact ih1 _ _ _ _)
      | (with_reducible exact LeO.refl _)
      | (with_reducible exact LeO.none _)
      | (with_reducible refine LeO.ite ?_ ?_)
      | (with_reducible refine LeO.bind ?_ (fun _ => ?_))
      | exact ih0 _ _ _ _
      | exact ih1 _ _ _ _
      | exact LeO.none _
      | refine LeO.ite ?_ ?_
      | refine LeO.bind ?_ (fun _ => ?_)
set_option maxHeartbeats 8000000 in
set_option maxRecDepth 100000 in
theorem bibelotref03_Can.calls (k : Nat) (A0 : Option Addr) (c0 : Nat) (l0 : List Int) (a1 : Int) (a2 : Int) (a3 : Int) (r : Bool) (w : World) (hr0 : Kd.C (Kd.int .i64) w A0 l0.length l0) (hc0 : l0.length ≤ c0) (h : bibelotref03_Can.f k l0 a1 a2 a3 = some r) :
    Calls Tryd.prog 72 #[.slice A0 l0.length c0, .int .i64 a1, .int .i64 a2, .int .i64 a3] w fun e w' => e = .returned (.bool r) ∧ Drawn0 w w' := by
  have HR0 := Aside0.mk hr0
  have HC0 := Aside0.mk hc0
  clear hr0 hc0
  have H : (if a1 < 0 then (bibelotref03_Can.j0 k l0 a1 a2 true) else (if a1 ≥ (l0.length : Int) then (bibelotref03_Can.j0 k l0 a1 a2 true) else (if a2 < 0 then (bibelotref03_Can.j0 k l0 a1 a2 true) else (if a2 ≥ a3 then (bibelotref03_Can.j0 k l0 a1 a2 true) else (if 0 ≤ a1 then (if a1 < (l0.length : Int) then (bibelotref03_Can.j0 k l0 a1 a2 ((rd l0 a1) == a2)) else (none)) else (none)))))) = some r := h
  clear h
  have HC5 := Aside0.mk H
  clear H
  go_enter Tryd.func72, Tryd.ntmps72
  go_upto_region 1 with (fail)
  repeat (go_quiet (fail); go_upto_region 1 with (fail))
  go_cut [34] (fun v34 wc => ∃ (kq : Nat) (x34_4 : Bool), v34 = .bool x34_4 ∧ Aside0 (bibelotref03_Can.j0 kq l0 a1 a2 x34_4 = some r) ∧ Aside0 (kq ≤ k) ∧ Drawn0 w wc)
  case first =>
    have H := HC5.out
    clear HC5
    by_cases c6 : a1 < 0
    · rw [if_pos c6] at H
      have c6b0 : decide (a1 < 0) = true := decide_eq_true c6
      clear c6
      (first | rw [c6b0] | (simp only [i64_w, i32_w]; rw [c6b0]) | skip)
      have H' := Aside0.mk H
      clear H
      go_wp2
      repeat (go_quiet (fail); try go_wp2)
      go_meet
      case rel => exact ⟨_, (true), (by first | rfl | (simp; done) | (simp [*]; done)), H', ⟨by first | omega | exact Nat.le_refl _⟩, by repeat (first | exact Drawn0.refl _ | apply Drawn0.step)⟩
    · rw [if_neg c6] at H
      have c6b0 : decide (a1 < 0) = false := decide_eq_false c6
      clear c6
      (first | rw [c6b0] | (simp only [i64_w, i32_w]; rw [c6b0]) | skip)
      by_cases c7 : a1 ≥ (l0.length : Int)
      · rw [if_pos c7] at H
        have c7b0 : decide ((l0.length : Int) ≤ a1) = true := decide_eq_true c7
        clear c7
        have H' := Aside0.mk H
        clear H
        go_wp2
        repeat (go_quiet (fail); try go_wp2)
        go_meet
        case rel => exact ⟨_, (true), (by first | rfl | (simp; done) | (simp [*]; done)), H', ⟨by first | omega | exact Nat.le_refl _⟩, by repeat (first | exact Drawn0.refl _ | apply Drawn0.step)⟩
      · rw [if_neg c7] at H
        have c7b0 : decide ((l0.length : Int) ≤ a1) = false := decide_eq_false c7
        clear c7
        by_cases c8 : a2 < 0
        · rw [if_pos c8] at H
          have c8b0 : decide (a2 < 0) = true := decide_eq_true c8
          clear c8
          have H' := Aside0.mk H
          clear H
          go_wp2
          repeat (go_quiet (fail); try go_wp2)
          go_meet
          case rel => exact ⟨_, (true), (by first | rfl | (simp; done) | (simp [*]; done)), H', ⟨by first | omega | exact Nat.le_refl _⟩, by repeat (first | exact Drawn0.refl _ | apply Drawn0.step)⟩
        · rw [if_neg c8] at H
          have c8b0 : decide (a2 < 0) = false := decide_eq_false c8
          clear c8
          by_cases c9 : a2 ≥ a3
          · rw [if_pos c9] at H
            have c9b0 : decide (a3 ≤ a2) = true := decide_eq_true c9
            clear c9
            have H' := Aside0.mk H
            clear H
            go_wp2
            repeat (go_quiet (fail); try go_wp2)
            go_meet
            case rel => exact ⟨_, (true), (by first | rfl | (simp; done) | (simp [*]; done)), H', ⟨by first | omega | exact Nat.le_refl _⟩, by repeat (first | exact Drawn0.refl _ | apply Drawn0.step)⟩
          · rw [if_neg c9] at H
            have c9b0 : decide (a3 ≤ a2) = false := decide_eq_false c9
            clear c9
            by_cases c10 : 0 ≤ a1
            · rw [if_pos c10] at H
              have c10b0 : decide (0 ≤ a1) = true := decide_eq_true c10
              clear c10
              by_cases c11 : a1 < (l0.length : Int)
              · rw [if_pos c11] at H
                have c11b0 : decide (a1 < (l0.length : Int)) = true := decide_eq_true c11
                clear c11
                have H' := Aside0.mk H
                clear H
                have p205 : 0 ≤ (a1 : Int) := of_decide_eq_true (by first | (with_reducible assumption) | assumption)
                have q205 : a1 < (l0.length : Int) := of_decide_eq_true (by first | (with_reducible assumption) | assumption)
                obtain ⟨ad205, e205, hx205_0⟩ := Kd.at_int HR0.out a1 p205 q205
                cases e205
                replace p205 := eq_true p205
                replace q205 := eq_true q205
                go_wp2
                repeat (go_quiet (fail); try go_wp2)
                go_meet
                case rel => exact ⟨_, (((rd l0 a1) == a2)), (by first | rfl | (simp; done) | (simp [*]; done)), H', ⟨by first | omega | exact Nat.le_refl _⟩, by repeat (first | exact Drawn0.refl _ | apply Drawn0.step)⟩
              · rw [if_neg c11] at H
                exact absurd H (by simp)
            · rw [if_neg c10] at H
              exact absurd H (by simp)
  case rest =>
    clear HC5
    try clear c1
    try clear p2
    try clear q2
    try clear hx2
    try clear c6
    try clear c6b0
    try clear c7
    try clear c7b0
    try clear c8
    try clear c8b0
    try clear c9
    try clear c9b0
    try clear c10
    try clear c10b0
    try clear c11
    try clear c11b0
    try clear hx205_0
    try clear p205
    try clear q205
    obtain ⟨kq, x34_4, rfl, HA, HJ4, ⟨mc4, rfl⟩⟩ := hcut
    cases kq with
    | zero => exact absurd HA.out (by simp [bibelotref03_Can.j0])
    | succ kj4 =>
      have H := HA.out
      clear HA
      simp only [bibelotref03_Can.j0] at H
      by_cases c12 : x34_4 = true
      · subst c12
        have H1 : (some false) = some r := by rw [if_pos rfl] at H; exact H
        clear H
        have H := H1
        clear H1
        obtain rfl := Option.some.inj H
        go_wp2
        repeat (go_quiet (fail); try go_wp2)
        go_ret
        exact ⟨by first | rfl | (simp; done) | (simp [*]; done), by repeat (first | exact Drawn0.refl _ | apply Drawn0.step)⟩
      · replace c12 := Bool.eq_false_iff.mpr c12
        subst c12
        have H1 : (bibelotref03_Can.l0 kj4 l0 a1 a2 0) = some r := by rw [if_neg (show ¬ (false = true) by decide)] at H; exact H
        clear H
        have H := H1
        clear H1
        have H' := Aside0.mk H
        clear H
        go_wp2
        repeat (go_quiet (fail); try go_wp2)
        go_loopg [9] kj4 (fun kq v9 w' => ∃ (x9_2 : Int), v9 = .int .i64 x9_2 ∧ Aside0 (bibelotref03_Can.l0 kq l0 a1 a2 x9_2 = some r) ∧ Aside0 (kq ≤ kj4) ∧ Drawn0 w w')
        case atStart => exact ⟨(0), (by first | rfl | (simp; done) | (simp [*]; done)), H', ⟨Nat.le_refl _⟩, by repeat (first | exact Drawn0.refl _ | apply Drawn0.step)⟩
        case round =>
          clear H'
          try clear c1
          try clear p2
          try clear q2
          try clear hx2
          try clear c4
          try clear c6
          try clear c6b0
          try clear c7
          try clear c7b0
          try clear c8
          try clear c8b0
          try clear c9
          try clear c9b0
          try clear c10
          try clear c10b0
          try clear c11
          try clear c11b0
          try clear c12
          try clear hx205_0
          try clear p2
          try clear p205
          try clear q2
          try clear q205
          obtain ⟨x9_2, rfl, HA, HK2, ⟨m2, rfl⟩⟩ := hrel
          cases gk with
          | zero => exact absurd HA.out (by simp [bibelotref03_Can.l0])
          | succ k2 =>
            have H := HA.out
            clear HA
            simp only [bibelotref03_Can.l0] at H
            by_cases c13 : x9_2 < a1
            · rw [if_pos c13] at H
              have c13b0 : decide (x9_2 < a1) = true := decide_eq_true c13
              clear c13
              by_cases c14 : 0 ≤ x9_2
              · rw [if_pos c14] at H
                have c14b0 : decide (0 ≤ x9_2) = true := decide_eq_true c14
                clear c14
                by_cases c15 : x9_2 < (l0.length : Int)
                · rw [if_pos c15] at H
                  have c15b0 : decide (x9_2 < (l0.length : Int)) = true := decide_eq_true c15
                  clear c15
                  by_cases c16 : 0 ≤ a1
                  · rw [if_pos c16] at H
                    have c16b0 : decide (0 ≤ a1) = true := decide_eq_true c16
                    clear c16
                    by_cases c17 : a1 < (l0.length : Int)
                    · rw [if_pos c17] at H
                      have c17b0 : decide (a1 < (l0.length : Int)) = true := decide_eq_true c17
                      clear c17
                      by_cases c18 : (rd l0 x9_2) = (rd l0 a1)
                      · rw [if_pos c18] at H
                        have c18b0 : ((rd l0 x9_2) == (rd l0 a1)) = true := beq_iff_eq.mpr c18
                        have c18b1 : ((rd l0 x9_2) != (rd l0 a1)) = false := bne_eq_false_iff_eq.mpr c18
                        clear c18
                        obtain rfl := Option.some.inj H
                        have p206 : 0 ≤ (x9_2 : Int) := of_decide_eq_true (by first | (with_reducible assumption) | assumption)
                        have q206 : x9_2 < (l0.length : Int) := of_decide_eq_true (by first | (with_reducible assumption) | assumption)
                        obtain ⟨ad206, e206, hx206_0⟩ := Kd.at_int HR0.out x9_2 p206 q206
                        cases e206
                        replace p206 := eq_true p206
                        replace q206 := eq_true q206
                        have p207 : 0 ≤ (a1 : Int) := of_decide_eq_true (by first | (with_reducible assumption) | assumption)
                        have q207 : a1 < (l0.length : Int) := of_decide_eq_true (by first | (with_reducible assumption) | assumption)
                        obtain ⟨ad207, e207, hx207_0⟩ := Kd.at_int HR0.out a1 p207 q207
                        obtain rfl : ad206 = ad207 := (by injection e207)
                        replace p207 := eq_true p207
                        replace q207 := eq_true q207
                        go_wp2
                        repeat (go_quiet (fail); try go_wp2)
                        go_ret
                        exact ⟨by first | rfl | (simp; done) | (simp [*]; done), by repeat (first | exact Drawn0.refl _ | apply Drawn0.step)⟩
                      · rw [if_neg c18] at H
                        have c18b0 : ((rd l0 x9_2) == (rd l0 a1)) = false := beq_eq_false_iff_ne.mpr c18
                        have c18b1 : ((rd l0 x9_2) != (rd l0 a1)) = true := bne_iff_ne.mpr c18
                        by_cases c19 : (rd l0 x9_2) = a2
                        · rw [if_pos c19] at H
                          have c19b0 : ((rd l0 x9_2) == a2) = true := beq_iff_eq.mpr c19
                          have c19b1 : ((rd l0 x9_2) != a2) = false := bne_eq_false_iff_eq.mpr c19
                          clear c19
                          obtain rfl := Option.some.inj H
                          have p206 : 0 ≤ (x9_2 : Int) := of_decide_eq_true (by first | (with_reducible assumption) | assumption)
                          have q206 : x9_2 < (l0.length : Int) := of_decide_eq_true (by first | (with_reducible assumption) | assumption)
                          obtain ⟨ad206, e206, hx206_0⟩ := Kd.at_int HR0.out x9_2 p206 q206
                          cases e206
                          replace p206 := eq_true p206
                          replace q206 := eq_true q206
                          have p207 : 0 ≤ (a1 : Int) := of_decide_eq_true (by first | (with_reducible assumption) | assumption)
                          have q207 : a1 < (l0.length : Int) := of_decide_eq_true (by first | (with_reducible assumption) | assumption)
                          obtain ⟨ad207, e207, hx207_0⟩ := Kd.at_int HR0.out a1 p207 q207
                          obtain rfl : ad206 = ad207 := (by injection e207)
                          replace p207 := eq_true p207
                          replace q207 := eq_true q207
                          have p208 : 0 ≤ (x9_2 : Int) := of_decide_eq_true (by first | (with_reducible assumption) | assumption)
                          have q208 : x9_2 < (l0.length : Int) := of_decide_eq_true (by first | (with_reducible assumption) | assumption)
                          obtain ⟨ad208, e208, hx208_0⟩ := Kd.at_int HR0.out x9_2 p208 q208
                          obtain rfl : ad206 = ad208 := (by injection e208)
                          replace p208 := eq_true p208
                          replace q208 := eq_true q208
                          go_wp2
                          repeat (go_quiet (fail); try go_wp2)
                          go_ret
                          exact ⟨by first | rfl | (simp; done) | (simp [*]; done), by repeat (first | exact Drawn0.refl _ | apply Drawn0.step)⟩
                        · rw [if_neg c19] at H
                          have c19b0 : ((rd l0 x9_2) == a2) = false := beq_eq_false_iff_ne.mpr c19
                          have c19b1 : ((rd l0 x9_2) != a2) = true := bne_iff_ne.mpr c19
                          have H' := Aside0.mk H
                          clear H
                          have p206 : 0 ≤ (x9_2 : Int) := of_decide_eq_true (by first | (with_reducible assumption) | assumption)
                          have q206 : x9_2 < (l0.length : Int) := of_decide_eq_true (by first | (with_reducible assumption) | assumption)
                          obtain ⟨ad206, e206, hx206_0⟩ := Kd.at_int HR0.out x9_2 p206 q206
                          cases e206
                          replace p206 := eq_true p206
                          replace q206 := eq_true q206
                          have p207 : 0 ≤ (a1 : Int) := of_decide_eq_true (by first | (with_reducible assumption) | assumption)
                          have q207 : a1 < (l0.length : Int) := of_decide_eq_true (by first | (with_reducible assumption) | assumption)
                          obtain ⟨ad207, e207, hx207_0⟩ := Kd.at_int HR0.out a1 p207 q207
                          obtain rfl : ad206 = ad207 := (by injection e207)
                          replace p207 := eq_true p207
                          replace q207 := eq_true q207
                          have p208 : 0 ≤ (x9_2 : Int) := of_decide_eq_true (by first | (with_reducible assumption) | assumption)
                          have q208 : x9_2 < (l0.length : Int) := of_decide_eq_true (by first | (with_reducible assumption) | assumption)
                          obtain ⟨ad208, e208, hx208_0⟩ := Kd.at_int HR0.out x9_2 p208 q208
                          obtain rfl : ad206 = ad208 := (by injection e208)
                          replace p208 := eq_true p208
                          replace q208 := eq_true q208
                          go_wp2
                          repeat (go_quiet (fail); try go_wp2)
                          go_roundg k2
                          case measure => have := HJ4.out; have := HK2.out; omega
                          case rel => exact ⟨(wrap64 (x9_2 + 1)), (by first | rfl | (simp; done) | (simp [*]; done)), H', ⟨by have := HJ4.out; have := HK2.out; omega⟩, by repeat (first | exact Drawn0.refl _ | apply Drawn0.step)⟩
                    · rw [if_neg c17] at H
                      exact absurd H (by simp)
                  · rw [if_neg c16] at H
                    exact absurd H (by simp)
                · rw [if_neg c15] at H
                  exact absurd H (by simp)
              · rw [if_neg c14] at H
                exact absurd H (by simp)
            · rw [if_neg c13] at H
              have c13b0 : decide (x9_2 < a1) = false := decide_eq_false c13
              clear c13
              obtain rfl := Option.some.inj H
              go_wp2
              repeat (go_quiet (fail); try go_wp2)
              go_ret
              exact ⟨by first | rfl | (simp; done) | (simp [*]; done), by repeat (first | exact Drawn0.refl _ | apply Drawn0.step)⟩

end Go.Proofs.YtnaaomhmoamfpaaDoor.Q
namespace Go.Proofs.YtnaaomhmoamfpaaDoor.G
end Go.Proofs.YtnaaomhmoamfpaaDoor.G
namespace Go.Proofs.YtnaaomhmoamfpaaDoor.Q
set_option linter.unusedVariables false
set_option linter.unusedSimpArgs false
set_option linter.unusedSectionVars false
open Go.Proofs.YtnaaomhmoamfpaaDoor.G
open Go.RowKit Go.Proofs.YtnaaomhmoamfpaaDoorW.PrintWords Go.Proofs.YtnaaomhmoamfpaaDoorW.PrintLast Go.Proofs.YtnaaomhmoamfpaaDoorW.PrintMore
attribute [local go_sem] max2_int min2_int max_two min_two max_three min_three max_four min_four   -- for this text's walks alone

/-! ### bibelotref03_Moves: function 42 -/
mutual
def bibelotref03_Moves.l0 : Nat → List Int → Int → List (S52) → Int → Option ((List (S52)))
  | 0, _, _, _, _ => none
  | k + 1, x0, x1, x5, x6 => if x6 < (x0.length : Int) then (bibelotref03_Moves.l1 k x0 x1 x5 x6 0) else (some x5)
def bibelotref03_Moves.l1 : Nat → List Int → Int → List (S52) → Int → Int → Option ((List (S52)))
  | 0, _, _, _, _, _ => none
  | k + 1, x0, x1, x5, x6, x7 => if x7 < x1 then ((bibelotref03_Can.f k x0 x6 x7 x1).bind fun t209 => (if t209 = true then (if x5.length < 8796093022208 then (bibelotref03_Moves.l1 k x0 x1 (x5 ++ [(⟨x6, x7⟩ : S52)]) x6 (wrap64 (x7 + 1))) else (none)) else (bibelotref03_Moves.l1 k x0 x1 x5 x6 (wrap64 (x7 + 1))))) else (bibelotref03_Moves.l0 k x0 x1 x5 (wrap64 (x6 + 1)))
end
def bibelotref03_Moves.f (k : Nat) (l0 : List Int) (a1 : Int) : Option ((List (S52))) := bibelotref03_Moves.l0 k l0 a1 ([] : List (S52)) 0
theorem bibelotref03_Moves.mono_l : ∀ k, (∀ y0 y1 y2 y3, LeO (bibelotref03_Moves.l0 k y0 y1 y2 y3) (bibelotref03_Moves.l0 (k + 1) y0 y1 y2 y3)) ∧ (∀ y0 y1 y2 y3 y4, LeO (bibelotref03_Moves.l1 k y0 y1 y2 y3 y4) (bibelotref03_Moves.l1 (k + 1) y0 y1 y2 y3 y4))
  | 0 => ⟨fun _ _ _ _ r h => by simp [bibelotref03_Moves.l0] at h, fun _ _ _ _ _ r h => by simp [bibelotref03_Moves.l1] at h⟩
  | k + 1 => by
    obtain ⟨ih0, ih1⟩ := bibelotref03_Moves.mono_l k
    refine ⟨?_, ?_⟩
    · intro y0 y1 y2 y3
      unfold bibelotref03_Moves.l0
      repeat' first
      | (with_reducible exact ih0 _ _ _ _)
      | (with_reducible exact ih1 _ _ _ _ _)
      | (with_reducible exact bibelotref03_Can.mono _ _ _ _ _)
      | (with_reducible exact LeO.refl _)
      | (with_reducible exact LeO.none _)
      | (with_reducible refine LeO.ite ?_ ?_)
      | (with_reducible refine LeO.bind ?_ (fun _ => ?_))
      | exact ih0 _ _ _ _
      | exact ih1 _ _ _ _ _
      | exact bibelotref03_Can.mono _ _ _ _ _
      | exact LeO.none _
      | refine LeO.ite ?_ ?_
      | refine LeO.bind ?_ (fun _ => ?_)
    · intro y0 y1 y2 y3 y4
      unfold bibelotref03_Moves.l1
      repeat' first
      | (with_reducible exact ih0 _ _ _ _)
      | (with_reducible exact ih1 _ _ _ _ _)
      | (with_reducible exact bibelotref03_Can.mono _ _ _ _ _)
      | (with_reducible exact LeO.refl _)
      | (with_reducible exact LeO.none _)
      | (with_reducible refine LeO.ite ?_ ?_)
      | (with_reducible refine LeO.bind ?_ (fun _ => ?_))
      | exact ih0 _ _ _ _
      | exact ih1 _ _ _ _ _
      | exact bibelotref03_Can.mono _ _ _ _ _
      | exact LeO.none _
      | refine LeO.ite ?_ ?_
      | refine LeO.bind ?_ (fun _ => ?_)
theorem bibelotref03_Moves.mono : ∀ a0 a1 k, LeO (bibelotref03_Moves.f k a0 a1) (bibelotref03_Moves.f (k + 1) a0 a1) := by
  intro a0 a1 k
  obtain ⟨ih0, ih1⟩ := bibelotref03_Moves.mono_l k
  unfold bibelotref03_Moves.f
  repeat' first
      | (with_reducible exact ih0 _ _ _ _)
      | (with_reducible exact ih1 _ _ _ _ _)
      | (with_reducible exact bibelotref03_Can.mono _ _ _ _ _)
      | (with_reducible exact LeO.refl _)
      | (with_reducible exact LeO.none _)
      | (with_reducible refine LeO.ite ?_ ?_)
      | (with_reducible refine LeO.bind ?_ (fun _ => ?_))
      | exact ih0 _ _ _ _
      | exact ih1 _ _ _ _ _
      | exact bibelotref03_Can.mono _ _ _ _ _
      | exact LeO.none _
      | refine LeO.ite ?_ ?_
      | refine LeO.bind ?_ (fun _ => ?_)
set_option maxHeartbeats 8000000 in
set_option maxRecDepth 100000 in
theorem bibelotref03_Moves.calls (k : Nat) (A0 : Option Addr) (c0 : Nat) (l0 : List Int) (a1 : Int) (r : List (S52)) (w : World) (hr0 : Kd.C (Kd.int .i64) w A0 l0.length l0) (hc0 : l0.length ≤ c0) (h : bibelotref03_Moves.f k l0 a1 = some r) :
    Calls Tryd.prog 42 #[.slice A0 l0.length c0, .int .i64 a1] w fun e w' => ∃ v0_ : Value, e = .returned (v0_) ∧ Kd.R k52 52 w' w.heap.size (fun _ => True) v0_ r ∧ Below w.heap.size w w' := by
  have hu52 := Tryd.underlying52
  have HR0 := Aside0.mk hr0
  have HC0 := Aside0.mk hc0
  clear hr0 hc0
  have HB := Aside0.mk (Below.refl w.heap.size w)
  have H : (bibelotref03_Moves.l0 k l0 a1 ([] : List (S52)) 0) = some r := h
  clear h
  have H' := Aside0.mk H
  clear H
  go_enter Tryd.func42, Tryd.ntmps42
  go_wp2
  go_loopg [5, 6] k (fun kq v5 v6 w' => ∃ (x5_1 : List (S52)) (x6_1 : Int), v6 = .int .i64 x6_1 ∧ Aside0 (bibelotref03_Moves.l0 kq l0 a1 x5_1 x6_1 = some r) ∧ Aside0 (kq ≤ k) ∧ Aside0 (Kd.R k52 52 w' w.heap.size (fun _ => True) v5 x5_1) ∧ Aside0 (Below w.heap.size w w'))
  case atStart => exact ⟨(([] : List (S52))), (0), (by first | rfl | (simp; done) | (simp [*]; done)), H', ⟨Nat.le_refl _⟩, ⟨by first | exact Kd.R_nil _ _ _ _ _ | exact Kd.N_nil _ _ _ _ _ | exact Kd.V_nil _ _ _ _ _ | exact Kd.Q_nil _ _ _ _ _ | exact Kd.S_nil _ _ _ _ _⟩, ⟨by repeat (first | (with_reducible first | exact HB.out | apply below_alloc | apply pw_below_drewN | apply below_drew1) | exact HB.out)⟩⟩
  case round =>
    clear H'
    try clear p2
    obtain ⟨x5_1, x6_1, rfl, HA, HK1, HO_5, HB⟩ := hrel
    cases gk with
    | zero => exact absurd HA.out (by simp [bibelotref03_Moves.l0])
    | succ k1 =>
      have H := HA.out
      clear HA
      simp only [bibelotref03_Moves.l0] at H
      by_cases c3 : x6_1 < (l0.length : Int)
      · rw [if_pos c3] at H
        have c3b0 : decide (x6_1 < (l0.length : Int)) = true := decide_eq_true c3
        clear c3
        have H' := Aside0.mk H
        clear H
        go_wp2
        go_loopg [5, 7] k1 (fun kq v5 v7 w' => ∃ (x5_2 : List (S52)) (x7_2 : Int), v7 = .int .i64 x7_2 ∧ Aside0 (bibelotref03_Moves.l1 kq l0 a1 x5_2 x6_1 x7_2 = some r) ∧ Aside0 (kq ≤ k1) ∧ Aside0 (Kd.R k52 52 w' w.heap.size (fun _ => True) v5 x5_2) ∧ Aside0 (Below w.heap.size w w'))
        case atStart => exact ⟨(x5_1), (0), (by first | rfl | (simp; done) | (simp [*]; done)), H', ⟨Nat.le_refl _⟩, ⟨by (with_reducible repeat (first | apply Kd.R_alloc | apply Kd.R_drewN | apply Kd.R_drew)); exact HO_5.out⟩, ⟨by repeat (first | (with_reducible first | exact HB.out | apply below_alloc | apply pw_below_drewN | apply below_drew1) | exact HB.out)⟩⟩
        case round =>
          clear H'
          try clear p2
          try clear c3
          try clear c3b0
          try clear p2
          obtain ⟨x5_2, x7_2, rfl, HA, HK2, HO_5, HB⟩ := hrel
          cases gk with
          | zero => exact absurd HA.out (by simp [bibelotref03_Moves.l1])
          | succ k2 =>
            have H := HA.out
            clear HA
            simp only [bibelotref03_Moves.l1] at H
            by_cases c4 : x7_2 < a1
            · rw [if_pos c4] at H
              have c4b0 : decide (x7_2 < a1) = true := decide_eq_true c4
              clear c4
              replace H := Option.bind_eq_some_iff.mp H
              obtain ⟨t209, A50, H⟩ := H
              replace H : (if t209 = true then (if x5_2.length < 8796093022208 then (bibelotref03_Moves.l1 k2 l0 a1 (x5_2 ++ [(⟨x6_1, x7_2⟩ : S52)]) x6_1 (wrap64 (x7_2 + 1))) else (none)) else (bibelotref03_Moves.l1 k2 l0 a1 x5_2 x6_1 (wrap64 (x7_2 + 1)))) = some r := H
              have A5 := Aside0.mk A50
              clear A50
              by_cases c6 : t209 = true
              · subst c6
                have H1 : (if x5_2.length < 8796093022208 then (bibelotref03_Moves.l1 k2 l0 a1 (x5_2 ++ [(⟨x6_1, x7_2⟩ : S52)]) x6_1 (wrap64 (x7_2 + 1))) else (none)) = some r := by rw [if_pos rfl] at H; exact H
                clear H
                have H := H1
                clear H1
                by_cases c7 : x5_2.length < 8796093022208
                · rw [if_pos c7] at H
                  have LMc7 := Aside0.mk c7
                  clear c7
                  obtain ⟨y210, hy210⟩ : ∃ y_ : List (S52), y_ = (x5_2 ++ [(⟨x6_1, x7_2⟩ : S52)]) := ⟨_, rfl⟩
                  replace H : (bibelotref03_Moves.l1 k2 l0 a1 y210 x6_1 (wrap64 (x7_2 + 1))) = some r := by first | (rw [hy210]; with_reducible exact H) | (have H2_ := (Option.bind_some _ _).symm.trans H; rw [hy210]; with_reducible exact H2_) | (have H2_ := (Option.bind_some _ _).symm.trans H; with_reducible exact H2_) | with_reducible exact H | (rw [hy210]; exact H) | exact H
                  have Ny210 := Aside0.mk hy210
                  clear hy210
                  have H' := Aside0.mk H
                  clear H
                  go_wp2_with (first | ((with_reducible refine gate_callee (f := 72) rfl ?_); refine goesL_ (some 23) rfl rfl Tryd.func72 (by kernel_rfl) rfl #[.slice A0 l0.length c0, .int .i64 x6_1, .int .i64 x7_2, .int .i64 a1] rfl (by (try simp only [List.map_toArray, List.map_cons, List.map_nil]); first | done | rfl | (simp only [List.length_drop, List.length_take]; rfl)) ?_; (with_reducible refine (bibelotref03_Can.calls k2 _ _ l0 x6_1 x7_2 a1 true _ ?side1 ?side2 A5.out).mono ?_); (case side1 => repeat (first | exact (Kd.C_below HR0.out HB.out) | (with_reducible refine Kd.C_alloc ?_ _) | (with_reducible refine Kd.C_drewN ?_ _) | (with_reducible refine Kd.C_drew ?_))); (case side2 => exact HC0.out); rintro e w' ⟨rfl, ⟨nd, rfl⟩⟩; refine ⟨_, rfl, ?_⟩) | ((with_reducible refine gate_builtin (b := .append) (xs := #[.tmp 24, .tmp 28]) rfl ?_); at_builtin; refine Kd.R_append k52 (w0 := w) w.heap.size rfl (.tmp 24) (.tmp 28) 48 52 (.agg #[(.int .i64 0), (.int .i64 0)]) 16 rfl Tryd.underlying48 info52 rfl (by decide) (by omega) u5 x5_2 (⟨x6_1, x7_2⟩ : S52) [.int .i64 x6_1, .int .i64 x7_2] (fun _ => True) (fun _ => False) rfl rfl ?aP (fun _ hk => hk.elim) ?aF ?aO ?aB ?aS ?aL ?_; (case aP => exact k52_mkM _ _ _ (⟨x6_1, x7_2⟩ : S52)); (case aB => exact (by repeat (first | (with_reducible first | exact HB.out | apply below_alloc | apply pw_below_drewN | apply below_drew1) | exact HB.out))); (case aF => exact (fun _ _ => trivial)); (case aO => exact (by (with_reducible repeat (first | apply Kd.R_alloc | apply Kd.R_drewN | apply Kd.R_drew)); exact HO_5.out)); (case aS => exact (below_size (by repeat (first | (with_reducible first | exact HB.out | apply below_alloc | apply pw_below_drewN | apply below_drew1) | exact HB.out)))); (case aL => have := LMc7.out; omega); intro v211 w8 ho hb hg hat; rw [← Ny210.out] at ho; have n0_ := Aside0.mk (hb); have n1_ := Aside0.mk (ho); clear HB; clear HO_5; have HB := n0_; have HO212 := n1_; clear n0_ n1_; clear ho hb hg hat))
                  go_roundg k2
                  case measure => have := HK1.out; have := HK2.out; omega
                  case rel => exact ⟨(y210), (wrap64 (x7_2 + 1)), (by first | rfl | (simp; done) | (simp [*]; done)), H', ⟨by have := HK1.out; have := HK2.out; omega⟩, ⟨by (with_reducible repeat (first | apply Kd.R_alloc | apply Kd.R_drewN | apply Kd.R_drew)); exact HO212.out⟩, ⟨by repeat (first | (with_reducible first | exact HB.out | apply below_alloc | apply pw_below_drewN | apply below_drew1) | exact HB.out)⟩⟩
                · rw [if_neg c7] at H
                  exact absurd H (by simp)
              · replace c6 := Bool.eq_false_iff.mpr c6
                subst c6
                have H1 : (bibelotref03_Moves.l1 k2 l0 a1 x5_2 x6_1 (wrap64 (x7_2 + 1))) = some r := by rw [if_neg (show ¬ (false = true) by decide)] at H; exact H
                clear H
                have H := H1
                clear H1
                have H' := Aside0.mk H
                clear H
                go_wp2_with (first | ((with_reducible refine gate_callee (f := 72) rfl ?_); refine goesL_ (some 23) rfl rfl Tryd.func72 (by kernel_rfl) rfl #[.slice A0 l0.length c0, .int .i64 x6_1, .int .i64 x7_2, .int .i64 a1] rfl (by (try simp only [List.map_toArray, List.map_cons, List.map_nil]); first | done | rfl | (simp only [List.length_drop, List.length_take]; rfl)) ?_; (with_reducible refine (bibelotref03_Can.calls k2 _ _ l0 x6_1 x7_2 a1 false _ ?side1 ?side2 A5.out).mono ?_); (case side1 => repeat (first | exact (Kd.C_below HR0.out HB.out) | (with_reducible refine Kd.C_alloc ?_ _) | (with_reducible refine Kd.C_drewN ?_ _) | (with_reducible refine Kd.C_drew ?_))); (case side2 => exact HC0.out); rintro e w' ⟨rfl, ⟨nd, rfl⟩⟩; refine ⟨_, rfl, ?_⟩))
                go_roundg k2
                case measure => have := HK1.out; have := HK2.out; omega
                case rel => exact ⟨(x5_2), (wrap64 (x7_2 + 1)), (by first | rfl | (simp; done) | (simp [*]; done)), H', ⟨by have := HK1.out; have := HK2.out; omega⟩, ⟨by (with_reducible repeat (first | apply Kd.R_alloc | apply Kd.R_drewN | apply Kd.R_drew)); exact HO_5.out⟩, ⟨by repeat (first | (with_reducible first | exact HB.out | apply below_alloc | apply pw_below_drewN | apply below_drew1) | exact HB.out)⟩⟩
            · rw [if_neg c4] at H
              have c4b0 : decide (x7_2 < a1) = false := decide_eq_false c4
              clear c4
              have H' := Aside0.mk H
              clear H
              go_wp2
              go_roundg k2
              case measure => have := HK1.out; have := HK2.out; omega
              case rel => exact ⟨(x5_2), (wrap64 (x6_1 + 1)), (by first | rfl | (simp; done) | (simp [*]; done)), H', ⟨by have := HK1.out; have := HK2.out; omega⟩, ⟨by (with_reducible repeat (first | apply Kd.R_alloc | apply Kd.R_drewN | apply Kd.R_drew)); exact HO_5.out⟩, ⟨by repeat (first | (with_reducible first | exact HB.out | apply below_alloc | apply pw_below_drewN | apply below_drew1) | exact HB.out)⟩⟩
      · rw [if_neg c3] at H
        have c3b0 : decide (x6_1 < (l0.length : Int)) = false := decide_eq_false c3
        clear c3
        obtain rfl := Option.some.inj H
        go_wp2
        go_ret
        exact ⟨_, by first | rfl | (simp [errW_none, errW_some] <;> rfl) | (simp [*, errW_none, errW_some] <;> rfl), by (with_reducible repeat (first | apply Kd.R_alloc | apply Kd.R_drewN | apply Kd.R_drew)); exact HO_5.out, by repeat (first | (with_reducible first | exact HB.out | apply below_alloc | apply pw_below_drewN | apply below_drew1) | exact HB.out)⟩

end Go.Proofs.YtnaaomhmoamfpaaDoor.Q
/- The document's Can and Moves: what they come to. -/
namespace Go.Proofs.YtnaaomhmoamfpaaDoor.G
set_option linter.unusedVariables false
set_option linter.unusedSimpArgs false
set_option linter.unusedSectionVars false
open Go.Proofs.YtnaaomhmoamfpaaDoor.Q Go.Proofs.YtnaaomhmoamfpaaDoor.Hn
open Go.RowKit Go.Proofs.YtnaaomhmoamfpaaDoorW.PrintWords Go.Proofs.YtnaaomhmoamfpaaDoorW.PrintLast Go.Proofs.YtnaaomhmoamfpaaDoorW.PrintMore

/-- Can disc d of l be moved to peg q? -/
def canB (l : List Int) (d : Nat) (q : Int) : Bool := !cov l d (nth l d) && !cov l d q && decide (q ≠ nth l d)
theorem can_loop (l : List Int) (d : Nat) (q : Int) (hd : d < l.length) (hl : l.length ≤ 1000) (hne : q ≠ nth l d) : ∀ e i, i + e = d → (∀ j, j < i → nth l j ≠ nth l d ∧ nth l j ≠ q) →
    Ev (fun k => bibelotref03_Can.l0 k l (d : Int) q (i : Int)) (canB l d q)
  | 0, i, h, hi => by
    obtain rfl : i = d := by omega
    refine Ev.step (fun k => ?_) (Ev.now _)
    have h1 := (cov_no l (nth l i) i (by omega)).2 (fun j hj => (hi j hj).1)
    have h2 := (cov_no l q i (by omega)).2 (fun j hj => (hi j hj).2)
    have : canB l i q = true := by unfold canB; rw [h1, h2, decide_eq_true hne]; rfl
    rw [bibelotref03_Can.l0, if_neg (by omega), this]
  | e + 1, i, h, hi => by
    by_cases c1 : nth l i = nth l d
    · refine Ev.step (fun k => ?_) (Ev.now _)
      have h1 := (cov_iff l (nth l d) d (by omega)).2 ⟨i, by omega, c1⟩
      have : canB l d q = false := by unfold canB; rw [h1]; rfl
      rw [bibelotref03_Can.l0, if_pos (by omega), if_pos (by omega), if_pos (by omega), if_pos (by omega), if_pos (by omega), rd_nth, rd_nth, if_pos c1, this]
    · by_cases c2 : nth l i = q
      · refine Ev.step (fun k => ?_) (Ev.now _)
        have h1 := (cov_iff l q d (by omega)).2 ⟨i, by omega, c2⟩
        have : canB l d q = false := by unfold canB; rw [h1]; simp
        rw [bibelotref03_Can.l0, if_pos (by omega), if_pos (by omega), if_pos (by omega), if_pos (by omega), if_pos (by omega), rd_nth, rd_nth, if_neg c1, if_pos c2, this]
      · refine Ev.step (fun k => ?_) (can_loop l d q hd hl hne e (i + 1) (by omega) (fun j hj => by
          by_cases ej : j = i
          · rw [ej]; exact ⟨c1, c2⟩
          · exact hi j (by omega)))
        rw [bibelotref03_Can.l0, if_pos (by omega), if_pos (by omega), if_pos (by omega), if_pos (by omega), if_pos (by omega), rd_nth, rd_nth, if_neg c1, if_neg c2, w64 (by omega) (by omega)]
        rfl
theorem can_ev (l : List Int) (d q P : Nat) (hd : d < l.length) (hl : l.length ≤ 1000) (hq : q < P) : Ev (fun k => bibelotref03_Can.f k l (d : Int) (q : Int) (P : Int)) (canB l d (q : Int)) := by
  have h1 : ¬ (d : Int) < 0 := by omega
  have h2 : ¬ (d : Int) ≥ (l.length : Int) := by omega
  have h3 : ¬ (q : Int) < 0 := by omega
  have h4 : ¬ (q : Int) ≥ (P : Int) := by omega
  have h5 : (0 : Int) ≤ (d : Int) := by omega
  have h6 : (d : Int) < (l.length : Int) := by omega
  unfold bibelotref03_Can.f
  simp only [h1, h2, h3, h4, h5, h6, if_false, if_true, rd_nth]
  by_cases c : nth l d = (q : Int)
  · refine Ev.step (fun k => ?_) (Ev.now _)
    have : canB l d (q : Int) = false := by unfold canB; rw [decide_eq_false (fun h => h c.symm)]; simp
    rw [bibelotref03_Can.j0, if_pos (beq_iff_eq.2 c), this]
  · refine Ev.step (fun k => ?_) (can_loop l d q hd hl (fun h => c h.symm) d 0 (by omega) (fun j hj => by omega))
    rw [bibelotref03_Can.j0, if_neg (by rw [beq_iff_eq]; exact c)]
    rfl

def mkS (m : Nat × Nat) : S52 := ⟨(m.1 : Int), (m.2 : Int)⟩
/-- Disc d's moves to the first q pegs. -/
def mvq (l : List Int) (d q : Nat) : List (Nat × Nat) := if cov l d (nth l d) = true then [] else movesTo l d q
theorem mvq_zero (l : List Int) (d : Nat) : mvq l d 0 = [] := by
  unfold mvq
  split
  · rfl
  · exact movesTo_zero l d
theorem mvq_succ (l : List Int) (d q : Nat) : mvq l d (q + 1) = if canB l d (q : Int) = true then mvq l d q ++ [(d, q)] else mvq l d q := by
  unfold mvq canB
  rw [movesTo_succ]
  by_cases h1 : cov l d (nth l d) = true
  · simp [h1]
  · have h1' : cov l d (nth l d) = false := by simpa using h1
    by_cases h2 : cov l d (q : Int) = true
    · simp [h1', h2]
    · have h2' : cov l d (q : Int) = false := by simpa using h2
      by_cases h3 : (q : Int) = nth l d <;> simp [h1', h2', h3]
theorem mvq_len (l : List Int) (d q : Nat) : (mvq l d q).length ≤ q := by
  induction q with
  | zero => rw [mvq_zero]; simp
  | succ q ih =>
    rw [mvq_succ]
    split
    · rw [List.length_append]; simp; omega
    · omega
theorem movesIn_len (l : List Int) (P n : Nat) : (movesIn l P n).length ≤ n * P := by
  induction n with
  | zero => simp [movesIn]
  | succ n ih =>
    have h1 : movesAt l P n = mvq l n P := rfl
    have h2 := mvq_len l n P
    rw [movesIn_succ, List.length_append, h1, Nat.add_mul]
    omega
mutual
theorem rmoves_l0 (l : List Int) (P : Nat) (hl : l.length ≤ 1000) (hP : P ≤ 1000) (e d : Nat) (h : d + e = l.length) : Ev (fun k => bibelotref03_Moves.l0 k l (P : Int) ((movesIn l P d).map mkS) (d : Int)) ((movesL l P).map mkS) := by
  match e with
  | 0 =>
    obtain rfl : d = l.length := by omega
    refine Ev.step (fun k => ?_) (Ev.now _)
    rw [bibelotref03_Moves.l0, if_neg (by omega)]
    rfl
  | e + 1 =>
    refine Ev.step (fun k => ?_) (rmoves_l1 l P hl hP e d h P 0 (by omega))
    rw [bibelotref03_Moves.l0, if_pos (by omega), mvq_zero, List.append_nil]
    rfl
termination_by (e, 0)
theorem rmoves_l1 (l : List Int) (P : Nat) (hl : l.length ≤ 1000) (hP : P ≤ 1000) (e d : Nat) (h : d + (e + 1) = l.length) (f q : Nat) (hq : q + f = P) : Ev (fun k => bibelotref03_Moves.l1 k l (P : Int) ((movesIn l P d ++ mvq l d q).map mkS) (d : Int) (q : Int)) ((movesL l P).map mkS) := by
  match f with
  | 0 =>
    obtain rfl : q = P := by omega
    refine Ev.step (fun k => ?_) (rmoves_l0 l q hl hP e (d + 1) (by omega))
    rw [bibelotref03_Moves.l1, if_neg (by omega), w64 (by omega) (by omega), movesIn_succ]
    rfl
  | f + 1 =>
    have hlen : ((movesIn l P d ++ mvq l d q).map mkS).length ≤ 1001000 := by
      have h1 := movesIn_len l P d
      have h2 := mvq_len l d q
      have h3 : d * P ≤ 1000 * 1000 := Nat.mul_le_mul (by omega) hP
      rw [List.length_map, List.length_append]
      omega
    have ih := rmoves_l1 l P hl hP e d h f (q + 1) (by omega)
    rw [mvq_succ] at ih
    refine Ev.step (f := fun k => (bibelotref03_Can.f k l (d : Int) (q : Int) (P : Int)).bind fun t => if t = true then bibelotref03_Moves.l1 k l (P : Int) ((movesIn l P d ++ (mvq l d q ++ [(d, q)])).map mkS) (d : Int) ((q + 1 : Nat) : Int) else bibelotref03_Moves.l1 k l (P : Int) ((movesIn l P d ++ mvq l d q).map mkS) (d : Int) ((q + 1 : Nat) : Int)) (fun k => ?_)
      (Ev.bind (can_ev l d q P (by omega) hl (by omega)) ?_)
    · rw [bibelotref03_Moves.l1, if_pos (by omega), w64 (by omega) (by omega)]
      congr 1
      funext t
      have e1 : (movesIn l P d ++ mvq l d q).map mkS ++ [(⟨(d : Int), (q : Int)⟩ : S52)] = (movesIn l P d ++ (mvq l d q ++ [(d, q)])).map mkS := by
        rw [← List.append_assoc, List.map_append (l₂ := [(d, q)])]
        rfl
      rw [if_pos (show ((movesIn l P d ++ mvq l d q).map mkS).length < 8796093022208 by omega), e1]
      rfl
    · by_cases c : canB l d (q : Int) = true
      · rw [if_pos c] at ih
        simp only [c, if_true]
        exact ih
      · rw [if_neg c] at ih
        simp only [c, if_false, Bool.false_eq_true]
        exact ih
termination_by (e, f + 1)
end
theorem rmoves_ev (l : List Int) (P : Nat) (hl : l.length ≤ 1000) (hP : P ≤ 1000) : Ev (fun k => bibelotref03_Moves.f k l (P : Int)) ((movesL l P).map mkS) := by
  have := rmoves_l0 l P hl hP l.length 0 (by omega)
  exact this
end Go.Proofs.YtnaaomhmoamfpaaDoor.G
/- Moves: its contract; an append within a round, to a row of the call's own. -/
namespace Go.Proofs.YtnaaomhmoamfpaaDoor.G
set_option linter.unusedVariables false
set_option linter.unusedSimpArgs false
set_option linter.unusedSectionVars false
open Go.Proofs.YtnaaomhmoamfpaaDoor.Q Go.Proofs.YtnaaomhmoamfpaaDoor.Hn Go.Proofs.YtnaaomhmoamfpaaDoor.K Go.Proofs.YtnaaomhmoamfpaaDoor.It
open Go.RowKit Go.Shelf Go.Proofs.YtnaaomhmoamfpaaDoorW.PrintWords Go.Proofs.YtnaaomhmoamfpaaDoorW.PrintLast Go.Proofs.YtnaaomhmoamfpaaDoorW.PrintMore
attribute [local go_sem] Oper.semAt_some

theorem add_block (a : Addr) (n : Nat) : (a.add n).block = a.block := by
  unfold Addr.add
  split <;> rfl
theorem C_lt {w : World} {ad : Addr} {n : Nat} {l : List Int} (h : Kd.C (Kd.int .i64) w (some ad) n l) (hn : 0 < n) : ad.block < w.heap.size := by
  obtain ⟨ad', e, hc⟩ := h.2.2 hn
  obtain rfl : ad = ad' := Option.some.inj e
  obtain ⟨c, hl, hp, hcc⟩ := hc 0 _ (List.getElem?_eq_getElem (show 0 < l.length by rw [h.1]; exact hn))
  have h1 := hcc 0 _ (List.getElem?_eq_getElem (show 0 < c.length by rw [hl]; exact Nat.zero_lt_one))
  have h2 := World.block_lt_of_cell? w _ h1
  rwa [add_block] at h2
/-- A row of numbers that is read leads to its own block alone. -/
theorem C_foot {w : World} {ad : Addr} {n : Nat} {l : List Int} (h : Kd.C (Kd.int .i64) w (some ad) n l) : Kd.F (Kd.int .i64) w (fun k => k = ad.block) (some ad) n l := fun W' hW => by
  refine ⟨h.1, h.2.1, fun hn => ?_⟩
  have hb := hW ad.block rfl (C_lt h hn)
  obtain ⟨ad', e, hc⟩ := h.2.2 hn
  obtain rfl : ad = ad' := Option.some.inj e
  refine ⟨ad, rfl, fun j p hj => ?_⟩
  obtain ⟨c, hl, hp, hcc⟩ := hc j p hj
  exact ⟨c, hl, hp, fun i u hu => (World.cell?_of_block (by rw [add_block]; exact hb)).trans (hcc i u hu)⟩
/-- A row of the call's own stays over the steps of an iterator whose cells are of another type. -/
theorem R_iter {α : Type} {d : Kd α} {e base : Nat} {ok : Nat → Prop} {w w1 : World} {v : Value} {xs : List α} {T B : Nat} (h : d.R e w base ok v xs) (hs : Step T B w w1) (hT : ∀ q, q ∈ e :: d.E → (q == T) = false) : d.R e w1 base ok v xs :=
  Kd.R_mono (Kd.R_move (Kd.R_bound h) (fun k hk => by
    obtain ⟨_, _, _, q, hq, cells, hc⟩ := hk
    rw [hc]
    exact hs.same _ _ hc (.inr (by simp [stays, book, isT, hT q hq])))) (fun _ hk => hk.1)

/-- .. and over what the call writes into its book-keeping. -/
theorem R_book {α : Type} {d : Kd α} {e base : Nat} {ok : Nat → Prop} {w : World} {v : Value} {xs : List α} (h : d.R e w base ok v xs) {l : Nat} {o : Obj} (hl : w.heap[l]? = some o) (hb : book o = true) (o' : Obj) : d.R e (w.putObj l o') base ok v xs :=
  Kd.R_mono (Kd.R_move (Kd.R_bound h) (fun k hk => by
    obtain ⟨_, _, _, q, hq, cells, hc⟩ := hk
    refine World.putObj_heap_other (fun e => ?_)
    subst e
    rw [hl] at hc
    injection hc with hc
    subst hc
    cases hb)) (fun _ hk => hk.1)

section
variable {F : Fence} {nF : Nat} {P : Program}
/-- append(v, x), x the only element of a new array behind W. -/
theorem wpListIn_append_R {α : Type} (d : Kd α) {W : World} {ops : Array Oper} {rest : List Oper} {o : Oper} {a : Act} {Q : Exit → Act → World → Prop} (base : Nat) (hgd : o.guard = none) (s x : Operand) (t e : TypeId) (z : Value) (bytes : Nat)
    (ho : o.op = .call { callee := .builtin .append, args := #[s, x], argTypes := #[t, t] })
    (ht : P.underlying t = some (.slice e)) (hinfo : (P.info? e).map (fun i => (i.zero, i.size, i.bytes)) = some (some z, d.sz, bytes)) (hz : z.cells.size = d.sz) (hs0 : 0 < d.sz) (hb0 : 0 < bytes)
    (v : Value) (xs : List α) (p : α) (cs : List Value) (ok okp : Nat → Prop) (hs : a.eval s = v) (hx : a.eval x = .slice (some ⟨W.heap.size, 0, none⟩) 1 1) (hp : d.M W base okp p cs) (hokp : ∀ k, okp k → ok k ∧ some k ≠ v.ownBlock) (hfresh : ∀ k, W.heap.size ≤ k → ok k)
    (HO : d.R e W base ok v xs) (hbase : base ≤ W.heap.size) (hl : (xs.length + 1) * bytes ≤ 140737488355328)
    (h : ∀ v1 w1, d.R e w1 base ok v1 (xs ++ [p]) → W.grownBy w1 v.ownBlock → (v1.ownBlock = v.ownBlock ∨ ∃ b, v1.ownBlock = some b ∧ W.heap.size ≤ b) → wpListIn F nF P ops Q rest (a.put o.dst v1) w1) :
    wpListIn F nF P ops Q (o :: rest) a (W.alloc (.cells cs.toArray e)) := by
  obtain ⟨h0, inner, hown, hr⟩ := HO
  obtain ⟨i0, hi, hzz⟩ := Option.map_eq_some_iff.1 hinfo
  simp only [Prod.mk.injEq] at hzz
  obtain ⟨hz0, hz1, hz2⟩ := hzz
  have hlen : xs.length + 1 ≤ 140737488355328 := Nat.le_trans (Nat.le_mul_of_pos_right _ hb0) hl
  have hcl : cs.length = d.sz := d.K_len (d.K_of_M hp)
  obtain ⟨v', w', hrun, ho', hg, _, hat⟩ := run_append_own_at (P := P) (W.alloc (.cells cs.toArray e)) base t o.type e i0 z d.sz bytes ht hi hz0 hz1 hz2 hz hs0 v xs.length inner (hown.alloc _) ⟨W.heap.size, 0, none⟩ 1 1 cs (by rw [hcl]; simp)
    (by simpa using World.news_of_block (cs := cs.toArray) (t := e) (fr := (0, 0)) (heap_alloc_new W (.cells cs.toArray e))) (d.K_one (d.K_of_M hp)) (by simp only [maxLen]; omega) hl (by simp; omega)
  refine wpListIn_plain hgd fun K hK => ?_
  unfold Oper.wpIn
  refine ⟨by simp [Oper.about, ho, resolve, Target.leads, Sem.run_pure], ?_⟩
  rw [Oper.semAt_plain F _ _ (by rw [ho]; intro c hc'; cases hc')]
  simp [execOp, ho, resolve, invoke, builtin, hs, hx, hrun, Result.andThen]
  refine hK _ _ (h v' w' (Kd.R_appended h0 hr hp hokp hfresh ho' (World.grownBy.trans (World.grownBy_alloc W _ _) hg) ?_) (World.grownBy.trans (World.grownBy_alloc W _ _) hg) ?_)
  all_goals
    rcases hat with hat | hat
    · exact .inl hat
    · exact .inr ⟨_, hat, by simp⟩
end

theorem u48 : Tryd.prog.underlying 48 = some (.slice 52) := by kernel_rfl
theorem okD_facts {l : List Int} (h : okD l = true) : 0 < l.length ∧ l.length ≤ 40 ∧ Pos l 3 := by
  obtain ⟨h1, h2, h3⟩ := (okD_iff l).1 h
  exact ⟨h1, h2, h3⟩
def hanoi_Moves.f (l : List Int) : Option (List S52 × Int) := if okD l = true then some ((movesL l 3).map mkS, 0) else some ([], 30)
set_option maxHeartbeats 8000000 in
set_option maxRecDepth 100000 in
theorem hanoi_Moves.calls (A0 : Option Addr) (c0 : Nat) (l0 : List Int) (r1 : List S52) (r2 : Int) (w : World) (hr0 : Kd.C (Kd.int .i64) w A0 l0.length l0) (hc0 : l0.length ≤ c0) (h : hanoi_Moves.f l0 = some (r1, r2)) :
    Calls Tryd.prog 41 #[.slice A0 l0.length c0] w fun e w' => ∃ v0_ : Value, e = .returned (.tuple #[v0_, .int .i64 r2]) ∧ Kd.R k52 52 w' w.heap.size (fun _ => True) v0_ r1 ∧ Below w.heap.size w w' := by
  obtain ⟨k, hk⟩ := check_ev l0
  have hchk := hk k (Nat.le_refl _)
  clear hk
  unfold hanoi_Moves.f at h
  have HR := Aside0.mk hr0
  have HC0 := Aside0.mk hc0
  by_cases hok : okD l0 = true
  · rw [if_pos hok] at h
    cases h
    obtain ⟨hp0, hp40, hpos⟩ := okD_facts hok
    rw [show checkD l0 = 0 by simp [checkD, hok]] at hchk
    have HC := Aside0.mk hchk
    have HP := Aside0.mk hpos
    obtain ⟨ad, rfl, _⟩ := hr0.2.2 hp0
    have hadl := C_lt hr0 hp0
    clear hr0 hc0 hchk hok hpos
    refine (callsIn_wide (n := 8)).1 ?_
    refine callsIn_of_wp_marks Tryd.func41 rfl trivial ?_ rfl
    simp only [Tryd.ntmps41, List.size_toArray, List.length_cons, List.length_nil, Nat.reduceAdd, Nat.reduceSub, Array.replicate_succ, Array.replicate_zero, List.push_toArray, List.append_toArray, List.nil_append, List.cons_append]
    gi_wp2_with (refine ⟨trivial, ?_⟩; first | (gi_at_call 62; refine CallsIn.mono (callsIn_wide.2 (hanoi_Check.calls _ _ _ _ _ _ HR.out HC0.out HC.out)) ?_; rintro e w1 ⟨rfl, hb⟩; have HB := Aside0.mk hb; clear hb) | (gi_at_call 67; refine (moves_calls Fence.wide _ trivial rfl _ _ _ _ _).mono ?_; rintro e w' ⟨rfl, rfl⟩))
    obtain ⟨W0, hW0⟩ : ∃ W0, ((w1.alloc (Obj.cells #[Value.slice none 0 0] 48)).alloc (Obj.cells #[Value.slice (some ad) l0.length c0] 46)).alloc (Obj.cells #[Value.int IntKind.i64 3] 3) = W0 := ⟨_, rfl⟩
    have hz : W0.heap.size = w1.heap.size + 3 := by rw [← hW0]; simp
    have hb0 : Blk W0 w1.heap.size #[Value.slice none 0 0] 48 := by rw [← hW0]; exact ((Blk.new w1 _ _).alloc _).alloc _
    have hb1 : Blk W0 (w1.heap.size + 1) #[Value.slice (some ad) l0.length c0] 46 := by rw [← hW0]; have := Blk.new (w1.alloc (Obj.cells #[Value.slice none 0 0] 48)) #[Value.slice (some ad) l0.length c0] 46; rw [World.size_alloc] at this; exact this.alloc _
    have hb2 : Blk W0 (w1.heap.size + 1 + 1) #[Value.int IntKind.i64 3] 3 := by rw [← hW0]; have := Blk.new ((w1.alloc (Obj.cells #[Value.slice none 0 0] 48)).alloc (Obj.cells #[Value.slice (some ad) l0.length c0] 46)) #[Value.int IntKind.i64 3] 3; rwa [World.size_alloc, World.size_alloc] at this
    have hsz1 := HB.out.size
    have hbw : Below w.heap.size w W0 := by rw [← hW0]; exact ((HB.out.alloc hsz1 _).alloc (by simp; omega) _).alloc (by simp; omega) _
    rw [hW0]
    clear hW0
    have hF : Kd.F (Kd.int .i64) W0 (fun k => k = ad.block) (some ad) l0.length l0 := Kd.F_below (C_foot HR.out) hbw
    have H0 := Aside0.mk hb0
    have H1 := Aside0.mk hb1
    have H2 := Aside0.mk hb2
    have HW := Aside0.mk hbw
    have HF := Aside0.mk hF
    clear hb0 hb1 hb2 hbw hF
    have hlen := movesIn_len l0 3 l0.length
    refine range_outer (T := 127) (keep := own3 (fun k => k = ad.block) (w1.heap.size + 1) (w1.heap.size + 1 + 1)) (L := movesL l0 3) rfl (by omega) (gf := 91) (lb := #[Value.pointer (some ⟨w1.heap.size + 1, 0, none⟩), Value.pointer (some ⟨w1.heap.size + 1 + 1, 0, none⟩)]) rfl trivial (enters_of Tryd.func91 (by kernel_rfl) rfl)
      (encs := fun (x : Nat × Nat) => #[.int .i64 (x.1 : Int), .int .i64 (x.2 : Int)])
      (moves_it Fence.wide 7 trivial rfl (by omega) (fun k => k = ad.block) (w1.heap.size + 1) (w1.heap.size + 1 + 1) 3 c0 ad l0 hp40 (by omega) HP.out W0 H1.out H2.out HF.out (fun k hk => by subst hk; omega))
      (Below.refl _ _) (fun k hk => by rcases hk with (hk | hk) | hk <;> omega) (fun _ => rfl)
      (fun pre W => Aside0 (∃ v, Blk W w1.heap.size #[v] 48 ∧ Kd.R k52 52 W W0.heap.size (fun _ => True) v (pre.map mkS) ∧ Below w.heap.size w W ∧ W0.heap.size ≤ W.heap.size)) (fun _ _ _ => False)
      (fun s A A' hs hst => by
        obtain ⟨v, h1, h2, h3, h4⟩ := hs.out
        exact .mk ⟨v, hst.same _ _ h1 (.inl (by omega)), R_iter h2 hst (by decide), hst.below h3 (by omega) (Nat.le_refl _), Nat.le_trans h4 hst.size⟩)
      (fun _ _ _ _ hs _ => hs) (.mk ⟨_, H0.out, Kd.R_nil _ _ _ _ _, HW.out, Nat.le_refl _⟩)
      (fun x a' A => a' = { tmps := #[Value.slice (some ad) l0.length c0, undef, Value.slice none 0 0, Value.int IntKind.i64 0, Value.int IntKind.i64 0, Value.pointer (some { block := w1.heap.size, off := 0 }), .int .i64 (x.1 : Int), .int .i64 (x.2 : Int), Value.slice (some ad) l0.length c0, Value.int IntKind.i64 0, Value.int IntKind.i64 0, Value.bool false, undef, Value.slice (some ad) l0.length c0, Value.func (Fn.func 91) #[] #[Value.pointer (some { block := w1.heap.size + 1, off := 0 }), Value.pointer (some { block := w1.heap.size + 1 + 1, off := 0 })], .int .i64 (x.1 : Int), .int .i64 (x.2 : Int), undef, undef, undef, undef, undef, undef, undef], defers := [] })
      (fun x a' A A' hx hbk => hx) ?assign ?body ?done ?stop
    case assign =>
      intro l pre x rest W K hL hi hr hK
      have HK := Aside0.mk hK
      clear hK hr hL
      simp only [List.zip_toArray, List.zip_cons_cons, List.zip_nil_left]
      gi_wp2
      exact HK.out _ _ (RB.refl _ _ _) hi rfl
    case body =>
      rintro l pre x rest a' W hL hle ⟨r, hr⟩ hI rfl
      obtain ⟨v, h1, h2, h3, h4⟩ := hI.out
      have hcv := h1.cell 0 (v := v) rfl
      have hfv := h1.free 0
      have hpl : pre.length ≤ 120 := by have := congrArg List.length hL; simp at this; unfold movesL at this; omega
      have hne : v.ownBlock ≠ some w1.heap.size := fun e => by have := Kd.R_base h2 _ e; omega
      have HNE := Aside0.mk hne
      have HV1 := Aside0.mk h1
      have HV2 := Aside0.mk h2
      have HV3 := Aside0.mk h3
      have HPL := Aside0.mk hpl
      clear hI hr hL h1 h2 h3 hpl hne
      gi_wp2_with (gi_at_builtin; refine wpListIn_append_R k52 W0.heap.size rfl (.tmp 17) (.tmp 21) 48 52 (.agg #[(.int .i64 0), (.int .i64 0)]) 16 rfl u48 info52 rfl (by decide) (by omega) v (pre.map mkS) (mkS x) [.int .i64 (x.1 : Int), .int .i64 (x.2 : Int)] (fun _ => True) (fun _ => False) rfl rfl (k52_mkM _ _ _ (mkS x)) (fun _ hk => hk.elim) (fun _ _ => trivial) HV2.out (by omega) (by have := HPL.out; simp; omega) ?_; intro v1 w2 h1 h2 h3; obtain ⟨Ay, cy, ey⟩ := Kd.R_slice h1; subst ey; rw [show (pre.map mkS ++ [mkS x]).length = pre.length + 1 by simp] at h1 h3; have hb9 := HV1.out.grown h2 HNE.out; have hc9 := hb9.cell 0 (v := v) rfl; have hf9 := hb9.free 0; have G1 := Aside0.mk h1; have G2 := Aside0.mk h2; have G3 := Aside0.mk h3; have G4 := Aside0.mk hb9; clear h1 h2 h3 hb9)
      refine ⟨((RB.refl _ _ _).grown G2.out (fun k o e ho => ?_)).set (fun o ho => ?_), .mk ⟨_, G4.out.set 0 _, ?_, ?_, ?_⟩⟩
      · have hb := Kd.R_base HV2.out k e
        obtain ⟨cells, hc⟩ := Kd.R_typed HV2.out k e
        rw [hc] at ho
        injection ho with ho
        subst ho
        exact ⟨by rintro ((h | h) | h) <;> omega, rfl, rfl⟩
      · have e := ho.symm.trans HV1.out
        injection e with e
        subst e
        exact ⟨by rintro ((h | h) | h) <;> omega, rfl, rfl⟩
      · rw [List.map_append]
        refine Kd.R_mono (Kd.R_far (Kd.R_bound G1.out) (fun k hk => ?_) _) (fun _ hk => hk.1)
        have := hk.2.1
        show k ≠ w1.heap.size
        omega
      · exact (HV3.out.grown G2.out (by omega) (fun k e => by have := Kd.R_base HV2.out k e; omega)).setCell (by simp; omega) _
      · have := G2.out.size
        simp [World.setCell]
        omega
    case done =>
      rintro D W hD hI hK
      obtain ⟨v, h1, h2, h3, h4⟩ := hI.out
      have hcv := h1.cell 0 (v := v) rfl
      have HV2 := Aside0.mk h2
      have HV3 := Aside0.mk h3
      have HK := Aside0.mk hK
      clear hI hK h1 h2 h3
      gi_wp2
      refine ⟨by simp, .inl ⟨_, _, rfl, run_takeDeferred HK.out, ?_⟩⟩
      refine ⟨_, results_tmp2 rfl _ _ _, v, rfl, ?_, HV3.out.trans (belowK_b (w := w) (Nat.le_refl _) W D _ _ (by omega) HK.out rfl rfl)⟩
      exact R_book (Kd.R_lower HV2.out (by omega)) HK.out rfl _
    case stop =>
      intro D c pre x rest W _ _ hs
      exact hs.elim
  · rw [if_neg hok] at h
    cases h
    rw [show checkD l0 = 30 by simp [checkD, hok]] at hchk
    have HC := Aside0.mk hchk
    clear hr0 hc0 hchk hok
    go_enter Tryd.func41, Tryd.ntmps41
    go_wp2_with fail
    refine (hanoi_Check.calls _ _ _ _ _ _ HR.out HC0.out HC.out).mono ?_
    rintro e w1 ⟨rfl, hb⟩
    have HB := Aside0.mk hb
    clear hb
    go_wp2
    go_ret2
    exact ⟨_, rfl, Kd.R_nil _ _ _ _ _, HB.out⟩
end Go.Proofs.YtnaaomhmoamfpaaDoor.G
namespace Go.Proofs.YtnaaomhmoamfpaaDoor.G
end Go.Proofs.YtnaaomhmoamfpaaDoor.G
namespace Go.Proofs.YtnaaomhmoamfpaaDoor.Q
set_option linter.unusedVariables false
set_option linter.unusedSimpArgs false
set_option linter.unusedSectionVars false
open Go.Proofs.YtnaaomhmoamfpaaDoor.G
open Go.RowKit Go.Proofs.YtnaaomhmoamfpaaDoorW.PrintWords Go.Proofs.YtnaaomhmoamfpaaDoorW.PrintLast Go.Proofs.YtnaaomhmoamfpaaDoorW.PrintMore
attribute [local go_sem] max2_int min2_int max_two min_two max_three min_three max_four min_four   -- for this text's walks alone

/-! ### bibelotlaw03_discs: function 40 -/
def bibelotlaw03_discs.l0 : Nat → List Int → Int → List Int → Int → Option (List Int)
  | 0, _, _, _, _ => none
  | k + 1, x0, x1, x5, x6 => if x6 < x1 then (if x6 < (x0.length : Int) then (if 0 ≤ x6 then (if x5.length < 17592186044416 then (bibelotlaw03_discs.l0 k x0 x1 (x5 ++ [wrap64 (Int.tmod (IntKind.u64.wrap (rd x0 x6)) 3)]) (wrap64 (x6 + 1))) else (none)) else (none)) else (if x5.length < 17592186044416 then (bibelotlaw03_discs.l0 k x0 x1 (x5 ++ [0]) (wrap64 (x6 + 1))) else (none))) else (some x5)
def bibelotlaw03_discs.f (k : Nat) (l0 : List Int) (a1 : Int) : Option (List Int) := bibelotlaw03_discs.l0 k l0 a1 ([] : List Int) 0
theorem bibelotlaw03_discs.mono_l : ∀ k, (∀ y0 y1 y2 y3, LeO (bibelotlaw03_discs.l0 k y0 y1 y2 y3) (bibelotlaw03_discs.l0 (k + 1) y0 y1 y2 y3))
  | 0 => fun _ _ _ _ r h => by simp [bibelotlaw03_discs.l0] at h
  | k + 1 => by
    have ih0 := bibelotlaw03_discs.mono_l k
    · intro y0 y1 y2 y3
      unfold bibelotlaw03_discs.l0
      repeat' first
      | (with_reducible exact ih0 _ _ _ _)
      | (with_reducible exact LeO.refl _)
      | (with_reducible exact LeO.none _)
      | (with_reducible refine LeO.ite ?_ ?_)
      | (with_reducible refine LeO.bind ?_ (fun _ => ?_))
      | exact ih0 _ _ _ _
      | exact LeO.none _
      | refine LeO.ite ?_ ?_
      | refine LeO.bind ?_ (fun _ => ?_)
theorem bibelotlaw03_discs.mono : ∀ a0 a1 k, LeO (bibelotlaw03_discs.f k a0 a1) (bibelotlaw03_discs.f (k + 1) a0 a1) := by
  intro a0 a1 k
  have ih0 := bibelotlaw03_discs.mono_l k
  unfold bibelotlaw03_discs.f
  repeat' first
      | (with_reducible exact ih0 _ _ _ _)
      | (with_reducible exact LeO.refl _)
      | (with_reducible exact LeO.none _)
      | (with_reducible refine LeO.ite ?_ ?_)
      | (with_reducible refine LeO.bind ?_ (fun _ => ?_))
      | exact ih0 _ _ _ _
      | exact LeO.none _
      | refine LeO.ite ?_ ?_
      | refine LeO.bind ?_ (fun _ => ?_)
set_option maxHeartbeats 8000000 in
set_option maxRecDepth 100000 in
theorem bibelotlaw03_discs.calls (k : Nat) (A0 : Option Addr) (c0 : Nat) (l0 : List Int) (a1 : Int) (r : List Int) (w : World) (hr0 : Kd.C (Kd.int .i64) w A0 l0.length l0) (hc0 : l0.length ≤ c0) (h : bibelotlaw03_discs.f k l0 a1 = some r) :
    Calls Tryd.prog 40 #[.slice A0 l0.length c0, .int .i64 a1] w fun e w' => ∃ v0_ : Value, e = .returned (v0_) ∧ Kd.R (Kd.int .i64) 3 w' w.heap.size (fun _ => True) v0_ r ∧ Below w.heap.size w w' := by
  have HR0 := Aside0.mk hr0
  have HC0 := Aside0.mk hc0
  clear hr0 hc0
  have HB := Aside0.mk (Below.refl w.heap.size w)
  have H : (bibelotlaw03_discs.l0 k l0 a1 ([] : List Int) 0) = some r := h
  clear h
  have H' := Aside0.mk H
  clear H
  go_enter Tryd.func40, Tryd.ntmps40
  go_wp2
  go_loopg [5, 6] k (fun kq v5 v6 w' => ∃ (x5_1 : List Int) (x6_1 : Int), v6 = .int .i64 x6_1 ∧ Aside0 (bibelotlaw03_discs.l0 kq l0 a1 x5_1 x6_1 = some r) ∧ Aside0 (kq ≤ k) ∧ Aside0 (Kd.R (Kd.int .i64) 3 w' w.heap.size (fun _ => True) v5 x5_1) ∧ Aside0 (Below w.heap.size w w'))
  case atStart => exact ⟨(([] : List Int)), (0), (by first | rfl | (simp; done) | (simp [*]; done)), H', ⟨Nat.le_refl _⟩, ⟨by first | exact Kd.R_nil _ _ _ _ _ | exact Kd.N_nil _ _ _ _ _ | exact Kd.V_nil _ _ _ _ _ | exact Kd.Q_nil _ _ _ _ _ | exact Kd.S_nil _ _ _ _ _⟩, ⟨by repeat (first | (with_reducible first | exact HB.out | apply below_alloc | apply pw_below_drewN | apply below_drew1) | exact HB.out)⟩⟩
  case round =>
    clear H'
    try clear p2
    obtain ⟨x5_1, x6_1, rfl, HA, HK1, HO_5, HB⟩ := hrel
    cases gk with
    | zero => exact absurd HA.out (by simp [bibelotlaw03_discs.l0])
    | succ k1 =>
      have H := HA.out
      clear HA
      simp only [bibelotlaw03_discs.l0] at H
      by_cases c3 : x6_1 < a1
      · rw [if_pos c3] at H
        have c3b0 : decide (x6_1 < a1) = true := decide_eq_true c3
        clear c3
        by_cases c4 : x6_1 < (l0.length : Int)
        · rw [if_pos c4] at H
          have c4b0 : decide (x6_1 < (l0.length : Int)) = true := decide_eq_true c4
          clear c4
          by_cases c5 : 0 ≤ x6_1
          · rw [if_pos c5] at H
            have c5b0 : decide (0 ≤ x6_1) = true := decide_eq_true c5
            clear c5
            by_cases c6 : x5_1.length < 17592186044416
            · rw [if_pos c6] at H
              have LMc6 := Aside0.mk c6
              clear c6
              obtain ⟨y199, hy199⟩ : ∃ y_ : List Int, y_ = (x5_1 ++ [wrap64 (Int.tmod (IntKind.u64.wrap (rd l0 x6_1)) 3)]) := ⟨_, rfl⟩
              replace H : (bibelotlaw03_discs.l0 k1 l0 a1 y199 (wrap64 (x6_1 + 1))) = some r := by first | (rw [hy199]; with_reducible exact H) | (have H2_ := (Option.bind_some _ _).symm.trans H; rw [hy199]; with_reducible exact H2_) | (have H2_ := (Option.bind_some _ _).symm.trans H; with_reducible exact H2_) | with_reducible exact H | (rw [hy199]; exact H) | exact H
              have Ny199 := Aside0.mk hy199
              clear hy199
              have H' := Aside0.mk H
              clear H
              have p198 : 0 ≤ (x6_1 : Int) := of_decide_eq_true (by first | (with_reducible assumption) | assumption)
              have q198 : x6_1 < (l0.length : Int) := of_decide_eq_true (by first | (with_reducible assumption) | assumption)
              obtain ⟨ad198, e198, hx198_0⟩ := Kd.at_int HR0.out x6_1 p198 q198
              cases e198
              replace hx198_0 := (HB.out.cell (World.block_lt_of_cell? w _ hx198_0)).trans hx198_0
              replace p198 := eq_true p198
              replace q198 := eq_true q198
              go_wp2_with (first | ((with_reducible refine gate_builtin (b := .append) (xs := #[.tmp 24, .tmp 26]) rfl ?_); at_builtin; refine Kd.R_append (Kd.int .i64) (w0 := w) w.heap.size rfl (.tmp 24) (.tmp 26) 46 3 (.int .i64 0) 8 rfl Tryd.underlying46 info3 rfl (by decide) (by omega) u5 x5_1 (wrap64 (Int.tmod (IntKind.u64.wrap (rd l0 x6_1)) 3)) [.int .i64 (wrap64 (Int.tmod (IntKind.u64.wrap (rd l0 x6_1)) 3))] (fun _ => True) (fun _ => False) rfl rfl ?aP (fun _ hk => hk.elim) ?aF ?aO ?aB ?aS ?aL ?_; (case aP => exact rfl); (case aB => exact (by repeat (first | (with_reducible first | exact HB.out | apply below_alloc | apply pw_below_drewN | apply below_drew1) | exact HB.out))); (case aF => exact (fun _ _ => trivial)); (case aO => exact (by (with_reducible repeat (first | apply Kd.R_alloc | apply Kd.R_drewN | apply Kd.R_drew)); exact HO_5.out)); (case aS => exact (below_size (by repeat (first | (with_reducible first | exact HB.out | apply below_alloc | apply pw_below_drewN | apply below_drew1) | exact HB.out)))); (case aL => have := LMc6.out; omega); intro v200 w7 ho hb hg hat; rw [← Ny199.out] at ho; have n0_ := Aside0.mk (hb); have n1_ := Aside0.mk (ho); clear HB; clear HO_5; have HB := n0_; have HO201 := n1_; clear n0_ n1_; clear ho hb hg hat))
              go_roundg k1
              case measure => have := HK1.out; omega
              case rel => exact ⟨(y199), (wrap64 (x6_1 + 1)), (by first | rfl | (simp; done) | (simp [*]; done)), H', ⟨by have := HK1.out; omega⟩, ⟨by (with_reducible repeat (first | apply Kd.R_alloc | apply Kd.R_drewN | apply Kd.R_drew)); exact HO201.out⟩, ⟨by repeat (first | (with_reducible first | exact HB.out | apply below_alloc | apply pw_below_drewN | apply below_drew1) | exact HB.out)⟩⟩
            · rw [if_neg c6] at H
              exact absurd H (by simp)
          · rw [if_neg c5] at H
            exact absurd H (by simp)
        · rw [if_neg c4] at H
          have c4b0 : decide (x6_1 < (l0.length : Int)) = false := decide_eq_false c4
          clear c4
          by_cases c8 : x5_1.length < 17592186044416
          · rw [if_pos c8] at H
            have LMc8 := Aside0.mk c8
            clear c8
            obtain ⟨y202, hy202⟩ : ∃ y_ : List Int, y_ = (x5_1 ++ [0]) := ⟨_, rfl⟩
            replace H : (bibelotlaw03_discs.l0 k1 l0 a1 y202 (wrap64 (x6_1 + 1))) = some r := by first | (rw [hy202]; with_reducible exact H) | (have H2_ := (Option.bind_some _ _).symm.trans H; rw [hy202]; with_reducible exact H2_) | (have H2_ := (Option.bind_some _ _).symm.trans H; with_reducible exact H2_) | with_reducible exact H | (rw [hy202]; exact H) | exact H
            have Ny202 := Aside0.mk hy202
            clear hy202
            have H' := Aside0.mk H
            clear H
            go_wp2_with (first | ((with_reducible refine gate_builtin (b := .append) (xs := #[.tmp 24, .tmp 26]) rfl ?_); at_builtin; refine Kd.R_append (Kd.int .i64) (w0 := w) w.heap.size rfl (.tmp 24) (.tmp 26) 46 3 (.int .i64 0) 8 rfl Tryd.underlying46 info3 rfl (by decide) (by omega) u5 x5_1 0 [.int .i64 0] (fun _ => True) (fun _ => False) rfl rfl ?aP (fun _ hk => hk.elim) ?aF ?aO ?aB ?aS ?aL ?_; (case aP => exact rfl); (case aB => exact (by repeat (first | (with_reducible first | exact HB.out | apply below_alloc | apply pw_below_drewN | apply below_drew1) | exact HB.out))); (case aF => exact (fun _ _ => trivial)); (case aO => exact (by (with_reducible repeat (first | apply Kd.R_alloc | apply Kd.R_drewN | apply Kd.R_drew)); exact HO_5.out)); (case aS => exact (below_size (by repeat (first | (with_reducible first | exact HB.out | apply below_alloc | apply pw_below_drewN | apply below_drew1) | exact HB.out)))); (case aL => have := LMc8.out; omega); intro v203 w9 ho hb hg hat; rw [← Ny202.out] at ho; have n0_ := Aside0.mk (hb); have n1_ := Aside0.mk (ho); clear HB; clear HO_5; have HB := n0_; have HO204 := n1_; clear n0_ n1_; clear ho hb hg hat))
            go_roundg k1
            case measure => have := HK1.out; omega
            case rel => exact ⟨(y202), (wrap64 (x6_1 + 1)), (by first | rfl | (simp; done) | (simp [*]; done)), H', ⟨by have := HK1.out; omega⟩, ⟨by (with_reducible repeat (first | apply Kd.R_alloc | apply Kd.R_drewN | apply Kd.R_drew)); exact HO204.out⟩, ⟨by repeat (first | (with_reducible first | exact HB.out | apply below_alloc | apply pw_below_drewN | apply below_drew1) | exact HB.out)⟩⟩
          · rw [if_neg c8] at H
            exact absurd H (by simp)
      · rw [if_neg c3] at H
        have c3b0 : decide (x6_1 < a1) = false := decide_eq_false c3
        clear c3
        obtain rfl := Option.some.inj H
        go_wp2
        go_ret
        exact ⟨_, by first | rfl | (simp [errW_none, errW_some] <;> rfl) | (simp [*, errW_none, errW_some] <;> rfl), by (with_reducible repeat (first | apply Kd.R_alloc | apply Kd.R_drewN | apply Kd.R_drew)); exact HO_5.out, by repeat (first | (with_reducible first | exact HB.out | apply below_alloc | apply pw_below_drewN | apply below_drew1) | exact HB.out)⟩

end Go.Proofs.YtnaaomhmoamfpaaDoor.Q
namespace Go.Proofs.YtnaaomhmoamfpaaDoor.G
end Go.Proofs.YtnaaomhmoamfpaaDoor.G
namespace Go.Proofs.YtnaaomhmoamfpaaDoor.Q
set_option linter.unusedVariables false
set_option linter.unusedSimpArgs false
set_option linter.unusedSectionVars false
open Go.Proofs.YtnaaomhmoamfpaaDoor.G
open Go.RowKit Go.Proofs.YtnaaomhmoamfpaaDoorW.PrintWords Go.Proofs.YtnaaomhmoamfpaaDoorW.PrintLast Go.Proofs.YtnaaomhmoamfpaaDoorW.PrintMore
attribute [local go_sem] max2_int min2_int max_two min_two max_three min_three max_four min_four   -- for this text's walks alone

/-! ### bibelotref03_Farthest: function 45 -/
def bibelotref03_Farthest.f (k : Nat) (l0 : List Int) : Option (Int) := (bibelotref03_To.f k l0 0).bind fun t269 => ((bibelotref03_To.f k l0 1).bind fun t270 => ((bibelotref03_To.f k l0 2).bind fun t271 => (some (mx t269 (mx t270 t271)))))
theorem bibelotref03_Farthest.mono : ∀ a0 k, LeO (bibelotref03_Farthest.f k a0) (bibelotref03_Farthest.f (k + 1) a0) := by
  intro a0 k
  unfold bibelotref03_Farthest.f
  repeat' first
      | (with_reducible exact bibelotref03_To.mono _ _ _)
      | (with_reducible exact LeO.refl _)
      | (with_reducible exact LeO.none _)
      | (with_reducible refine LeO.ite ?_ ?_)
      | (with_reducible refine LeO.bind ?_ (fun _ => ?_))
      | exact bibelotref03_To.mono _ _ _
      | exact LeO.none _
      | refine LeO.ite ?_ ?_
      | refine LeO.bind ?_ (fun _ => ?_)
set_option maxHeartbeats 8000000 in
set_option maxRecDepth 100000 in
theorem bibelotref03_Farthest.calls (k : Nat) (A0 : Option Addr) (c0 : Nat) (l0 : List Int) (r : Int) (w : World) (hr0 : Kd.C (Kd.int .i64) w A0 l0.length l0) (hc0 : l0.length ≤ c0) (h : bibelotref03_Farthest.f k l0 = some r) :
    Calls Tryd.prog 45 #[.slice A0 l0.length c0] w fun e w' => e = .returned (.int .i64 r) ∧ Below w.heap.size w w' := by
  have HR0 := Aside0.mk hr0
  have HC0 := Aside0.mk hc0
  clear hr0 hc0
  have HB := Aside0.mk (Below.refl w.heap.size w)
  have H : ((bibelotref03_To.f k l0 0).bind fun t269 => ((bibelotref03_To.f k l0 1).bind fun t270 => ((bibelotref03_To.f k l0 2).bind fun t271 => (some (mx t269 (mx t270 t271)))))) = some r := h
  clear h
  replace H := Option.bind_eq_some_iff.mp H
  obtain ⟨t269, A20, H⟩ := H
  replace H : ((bibelotref03_To.f k l0 1).bind fun t270 => ((bibelotref03_To.f k l0 2).bind fun t271 => (some (mx t269 (mx t270 t271))))) = some r := H
  have A2 := Aside0.mk A20
  clear A20
  replace H := Option.bind_eq_some_iff.mp H
  obtain ⟨t270, A30, H⟩ := H
  replace H : ((bibelotref03_To.f k l0 2).bind fun t271 => (some (mx t269 (mx t270 t271)))) = some r := H
  have A3 := Aside0.mk A30
  clear A30
  replace H := Option.bind_eq_some_iff.mp H
  obtain ⟨t271, A40, H⟩ := H
  replace H : (some (mx t269 (mx t270 t271))) = some r := H
  have A4 := Aside0.mk A40
  clear A40
  obtain ⟨ji5, hji5⟩ : ∃ j_ : Int, (mx t270 t271) = j_ := ⟨_, rfl⟩
  replace H : (some (mx t269 (ji5))) = some r := by first | (rw [hji5] at H; exact H) | (simp only [hji5] at H ⊢; exact H)
  (try rw [hji5] at A2)
  (try rw [hji5] at A3)
  (try rw [hji5] at A4)
  have hji5_ : (if t270 < t271 then t271 else t270) = ji5 := hji5
  obtain ⟨ji6, hji6⟩ : ∃ j_ : Int, (mx t269 (ji5)) = j_ := ⟨_, rfl⟩
  replace H : (some ji6) = some r := by first | (rw [hji6] at H; exact H) | (simp only [hji6] at H ⊢; exact H)
  (try rw [hji6] at A2)
  (try rw [hji6] at A3)
  (try rw [hji6] at A4)
  have hji6_ : (if t269 < (ji5) then (ji5) else t269) = ji6 := hji6
  obtain rfl := Option.some.inj H
  go_enter Tryd.func45, Tryd.ntmps45
  go_wp2_with (first | ((with_reducible refine gate_callee (f := 77) rfl ?_); refine goesL_ (some 4) rfl rfl Tryd.func77 (by kernel_rfl) rfl #[.slice A0 l0.length c0, .int .i64 0] rfl (by (try simp only [List.map_toArray, List.map_cons, List.map_nil]); first | done | rfl | (simp only [List.length_drop, List.length_take]; rfl)) ?_; (with_reducible refine (bibelotref03_To.calls k _ _ l0 0 t269 _ ?side1 ?side2 A2.out).mono ?_); (case side1 => repeat (first | exact HR0.out | (with_reducible refine Kd.C_alloc ?_ _) | (with_reducible refine Kd.C_drewN ?_ _) | (with_reducible refine Kd.C_drew ?_))); (case side2 => exact HC0.out); rintro e w' ⟨rfl, ⟨nd, rfl⟩⟩; refine ⟨_, rfl, ?_⟩) | ((with_reducible refine gate_callee (f := 77) rfl ?_); refine goesL_ (some 6) rfl rfl Tryd.func77 (by kernel_rfl) rfl #[.slice A0 l0.length c0, .int .i64 1] rfl (by (try simp only [List.map_toArray, List.map_cons, List.map_nil]); first | done | rfl | (simp only [List.length_drop, List.length_take]; rfl)) ?_; (with_reducible refine (bibelotref03_To.calls k _ _ l0 1 t270 _ ?side1 ?side2 A3.out).mono ?_); (case side1 => repeat (first | exact HR0.out | (with_reducible refine Kd.C_alloc ?_ _) | (with_reducible refine Kd.C_drewN ?_ _) | (with_reducible refine Kd.C_drew ?_))); (case side2 => exact HC0.out); rintro e w' ⟨rfl, ⟨nd, rfl⟩⟩; refine ⟨_, rfl, ?_⟩) | ((with_reducible refine gate_callee (f := 77) rfl ?_); refine goesL_ (some 8) rfl rfl Tryd.func77 (by kernel_rfl) rfl #[.slice A0 l0.length c0, .int .i64 2] rfl (by (try simp only [List.map_toArray, List.map_cons, List.map_nil]); first | done | rfl | (simp only [List.length_drop, List.length_take]; rfl)) ?_; (with_reducible refine (bibelotref03_To.calls k _ _ l0 2 t271 _ ?side1 ?side2 A4.out).mono ?_); (case side1 => repeat (first | exact HR0.out | (with_reducible refine Kd.C_alloc ?_ _) | (with_reducible refine Kd.C_drewN ?_ _) | (with_reducible refine Kd.C_drew ?_))); (case side2 => exact HC0.out); rintro e w' ⟨rfl, ⟨nd, rfl⟩⟩; refine ⟨_, rfl, ?_⟩))
  go_ret
  exact ⟨by first | rfl | (simp [errW_none, errW_some] <;> rfl) | (simp only [← hji5, ← hji6]; first | rfl | (simp [errW_none, errW_some] <;> rfl)) | (simp [*, errW_none, errW_some] <;> rfl), by repeat (first | (with_reducible first | exact HB.out | apply below_alloc | apply pw_below_drewN | apply below_drew1) | exact HB.out)⟩

end Go.Proofs.YtnaaomhmoamfpaaDoor.Q
namespace Go.Proofs.YtnaaomhmoamfpaaDoor.G
end Go.Proofs.YtnaaomhmoamfpaaDoor.G
namespace Go.Proofs.YtnaaomhmoamfpaaDoor.Q
set_option linter.unusedVariables false
set_option linter.unusedSimpArgs false
set_option linter.unusedSectionVars false
open Go.Proofs.YtnaaomhmoamfpaaDoor.G
open Go.RowKit Go.Proofs.YtnaaomhmoamfpaaDoorW.PrintWords Go.Proofs.YtnaaomhmoamfpaaDoorW.PrintLast Go.Proofs.YtnaaomhmoamfpaaDoorW.PrintMore
attribute [local go_sem] max2_int min2_int max_two min_two max_three min_three max_four min_four   -- for this text's walks alone

/-! ### bibelotlaw03_ints: function 49 -/
def bibelotlaw03_ints.l0 : Nat → List Int → List Int → Int → Option (Bool)
  | 0, _, _, _ => none
  | k + 1, x0, x1, x5 => if x5 < (x0.length : Int) then (if 0 ≤ x5 then (if x5 < (x1.length : Int) then (if (rd x0 x5) = (rd x1 x5) then (bibelotlaw03_ints.l0 k x0 x1 (wrap64 (x5 + 1))) else (some false)) else (none)) else (none)) else (some true)
def bibelotlaw03_ints.f (k : Nat) (l0 : List Int) (l1 : List Int) : Option (Bool) := if (l0.length : Int) = (l1.length : Int) then (bibelotlaw03_ints.l0 k l0 l1 0) else (some false)
theorem bibelotlaw03_ints.mono_l : ∀ k, (∀ y0 y1 y2, LeO (bibelotlaw03_ints.l0 k y0 y1 y2) (bibelotlaw03_ints.l0 (k + 1) y0 y1 y2))
  | 0 => fun _ _ _ r h => by simp [bibelotlaw03_ints.l0] at h
  | k + 1 => by
    have ih0 := bibelotlaw03_ints.mono_l k
    · intro y0 y1 y2
      unfold bibelotlaw03_ints.l0
      repeat' first
      | (with_reducible exact ih0 _ _ _)
      | (with_reducible exact LeO.refl _)
      | (with_reducible exact LeO.none _)
      | (with_reducible refine LeO.ite ?_ ?_)
      | (with_reducible refine LeO.bind ?_ (fun _ => ?_))
      | exact ih0 _ _ _
      | exact LeO.none _
      | refine LeO.ite ?_ ?_
      | refine LeO.bind ?_ (fun _ => ?_)
theorem bibelotlaw03_ints.mono : ∀ a0 a1 k, LeO (bibelotlaw03_ints.f k a0 a1) (bibelotlaw03_ints.f (k + 1) a0 a1) := by
  intro a0 a1 k
  have ih0 := bibelotlaw03_ints.mono_l k
  unfold bibelotlaw03_ints.f
  repeat' first
      | (with_reducible exact ih0 _ _ _)
      | (with_reducible exact LeO.refl _)
      | (with_reducible exact LeO.none _)
      | (with_reducible refine LeO.ite ?_ ?_)
      | (with_reducible refine LeO.bind ?_ (fun _ => ?_))
      | exact ih0 _ _ _
      | exact LeO.none _
      | refine LeO.ite ?_ ?_
      | refine LeO.bind ?_ (fun _ => ?_)
set_option maxHeartbeats 8000000 in
set_option maxRecDepth 100000 in
theorem bibelotlaw03_ints.calls (k : Nat) (A0 : Option Addr) (c0 : Nat) (l0 : List Int) (A1 : Option Addr) (c1 : Nat) (l1 : List Int) (r : Bool) (w : World) (hr0 : Kd.C (Kd.int .i64) w A0 l0.length l0) (hc0 : l0.length ≤ c0) (hr1 : Kd.C (Kd.int .i64) w A1 l1.length l1) (hc1 : l1.length ≤ c1) (h : bibelotlaw03_ints.f k l0 l1 = some r) :
    Calls Tryd.prog 49 #[.slice A0 l0.length c0, .slice A1 l1.length c1] w fun e w' => e = .returned (.bool r) ∧ Drawn0 w w' := by
  have HR0 := Aside0.mk hr0
  have HC0 := Aside0.mk hc0
  clear hr0 hc0
  have HR1 := Aside0.mk hr1
  have HC1 := Aside0.mk hc1
  clear hr1 hc1
  have H : (if (l0.length : Int) = (l1.length : Int) then (bibelotlaw03_ints.l0 k l0 l1 0) else (some false)) = some r := h
  clear h
  by_cases c3 : (l0.length : Int) = (l1.length : Int)
  · rw [if_pos c3] at H
    have c3b0 : ((l0.length : Int) == (l1.length : Int)) = true := beq_iff_eq.mpr c3
    have c3b1 : ((l0.length : Int) != (l1.length : Int)) = false := bne_eq_false_iff_eq.mpr c3
    have c3b2 : (l0.length == l1.length) = true := by first | simpa using c3 | (simp at c3 ⊢; omega)
    clear c3
    have H' := Aside0.mk H
    clear H
    go_enter Tryd.func49, Tryd.ntmps49
    go_wp2
    repeat (go_quiet (fail); try go_wp2)
    go_loopg [5] k (fun kq v5 w' => ∃ (x5_1 : Int), v5 = .int .i64 x5_1 ∧ Aside0 (bibelotlaw03_ints.l0 kq l0 l1 x5_1 = some r) ∧ Aside0 (kq ≤ k) ∧ Drawn0 w w')
    case atStart => exact ⟨(0), (by first | rfl | (simp; done) | (simp [*]; done)), H', ⟨Nat.le_refl _⟩, by repeat (first | exact Drawn0.refl _ | apply Drawn0.step)⟩
    case round =>
      clear H'
      try clear c1
      try clear p2
      try clear c3
      try clear c3b0
      try clear c3b1
      try clear c3b2
      obtain ⟨x5_1, rfl, HA, HK1, ⟨m1, rfl⟩⟩ := hrel
      cases gk with
      | zero => exact absurd HA.out (by simp [bibelotlaw03_ints.l0])
      | succ k1 =>
        have H := HA.out
        clear HA
        simp only [bibelotlaw03_ints.l0] at H
        by_cases c4 : x5_1 < (l0.length : Int)
        · rw [if_pos c4] at H
          have c4b0 : decide (x5_1 < (l0.length : Int)) = true := decide_eq_true c4
          clear c4
          by_cases c5 : 0 ≤ x5_1
          · rw [if_pos c5] at H
            have c5b0 : decide (0 ≤ x5_1) = true := decide_eq_true c5
            clear c5
            by_cases c6 : x5_1 < (l1.length : Int)
            · rw [if_pos c6] at H
              have c6b0 : decide (x5_1 < (l1.length : Int)) = true := decide_eq_true c6
              clear c6
              by_cases c7 : (rd l0 x5_1) = (rd l1 x5_1)
              · rw [if_pos c7] at H
                have c7b0 : ((rd l0 x5_1) == (rd l1 x5_1)) = true := beq_iff_eq.mpr c7
                have c7b1 : ((rd l0 x5_1) != (rd l1 x5_1)) = false := bne_eq_false_iff_eq.mpr c7
                clear c7
                have H' := Aside0.mk H
                clear H
                have p311 : 0 ≤ (x5_1 : Int) := of_decide_eq_true (by first | (with_reducible assumption) | assumption)
                have q311 : x5_1 < (l0.length : Int) := of_decide_eq_true (by first | (with_reducible assumption) | assumption)
                obtain ⟨ad311, e311, hx311_0⟩ := Kd.at_int HR0.out x5_1 p311 q311
                cases e311
                replace p311 := eq_true p311
                replace q311 := eq_true q311
                have p312 : 0 ≤ (x5_1 : Int) := of_decide_eq_true (by first | (with_reducible assumption) | assumption)
                have q312 : x5_1 < (l1.length : Int) := of_decide_eq_true (by first | (with_reducible assumption) | assumption)
                obtain ⟨ad312, e312, hx312_0⟩ := Kd.at_int HR1.out x5_1 p312 q312
                cases e312
                replace p312 := eq_true p312
                replace q312 := eq_true q312
                go_wp2
                repeat (go_quiet (fail); try go_wp2)
                go_roundg k1
                case measure => have := HK1.out; omega
                case rel => exact ⟨(wrap64 (x5_1 + 1)), (by first | rfl | (simp; done) | (simp [*]; done)), H', ⟨by have := HK1.out; omega⟩, by repeat (first | exact Drawn0.refl _ | apply Drawn0.step)⟩
              · rw [if_neg c7] at H
                have c7b0 : ((rd l0 x5_1) == (rd l1 x5_1)) = false := beq_eq_false_iff_ne.mpr c7
                have c7b1 : ((rd l0 x5_1) != (rd l1 x5_1)) = true := bne_iff_ne.mpr c7
                obtain rfl := Option.some.inj H
                have p311 : 0 ≤ (x5_1 : Int) := of_decide_eq_true (by first | (with_reducible assumption) | assumption)
                have q311 : x5_1 < (l0.length : Int) := of_decide_eq_true (by first | (with_reducible assumption) | assumption)
                obtain ⟨ad311, e311, hx311_0⟩ := Kd.at_int HR0.out x5_1 p311 q311
                cases e311
                replace p311 := eq_true p311
                replace q311 := eq_true q311
                have p312 : 0 ≤ (x5_1 : Int) := of_decide_eq_true (by first | (with_reducible assumption) | assumption)
                have q312 : x5_1 < (l1.length : Int) := of_decide_eq_true (by first | (with_reducible assumption) | assumption)
                obtain ⟨ad312, e312, hx312_0⟩ := Kd.at_int HR1.out x5_1 p312 q312
                cases e312
                replace p312 := eq_true p312
                replace q312 := eq_true q312
                go_wp2
                repeat (go_quiet (fail); try go_wp2)
                go_ret
                exact ⟨by first | rfl | (simp; done) | (simp [*]; done), by repeat (first | exact Drawn0.refl _ | apply Drawn0.step)⟩
            · rw [if_neg c6] at H
              exact absurd H (by simp)
          · rw [if_neg c5] at H
            exact absurd H (by simp)
        · rw [if_neg c4] at H
          have c4b0 : decide (x5_1 < (l0.length : Int)) = false := decide_eq_false c4
          clear c4
          obtain rfl := Option.some.inj H
          go_wp2
          repeat (go_quiet (fail); try go_wp2)
          go_ret
          exact ⟨by first | rfl | (simp; done) | (simp [*]; done), by repeat (first | exact Drawn0.refl _ | apply Drawn0.step)⟩
  · rw [if_neg c3] at H
    have c3b0 : ((l0.length : Int) == (l1.length : Int)) = false := beq_eq_false_iff_ne.mpr c3
    have c3b1 : ((l0.length : Int) != (l1.length : Int)) = true := bne_iff_ne.mpr c3
    have c3b2 : (l0.length == l1.length) = false := by first | simpa using c3 | (simp at c3 ⊢; omega)
    obtain rfl := Option.some.inj H
    go_enter Tryd.func49, Tryd.ntmps49
    go_wp2
    repeat (go_quiet (fail); try go_wp2)
    go_ret
    exact ⟨by first | rfl | (simp; done) | (simp [*]; done), by repeat (first | exact Drawn0.refl _ | apply Drawn0.step)⟩

end Go.Proofs.YtnaaomhmoamfpaaDoor.Q
/- The law's lists of discs; Farthest, Kind, and lists compared: what they come to. -/
namespace Go.Proofs.YtnaaomhmoamfpaaDoor.G
set_option linter.unusedVariables false
set_option linter.unusedSimpArgs false
set_option linter.unusedSectionVars false
open Go.Proofs.YtnaaomhmoamfpaaDoor.Q Go.Proofs.YtnaaomhmoamfpaaDoor.Hn
open Go.RowKit Go.Proofs.YtnaaomhmoamfpaaDoorW.PrintWords Go.Proofs.YtnaaomhmoamfpaaDoorW.PrintLast Go.Proofs.YtnaaomhmoamfpaaDoorW.PrintMore

def discAt (l : List Int) (i : Nat) : Int := if i < l.length then umod (nth l i) 3 else 0
/-- The discs that the law makes of a list. -/
def discsL (l : List Int) (n : Nat) : List Int := (List.range n).map (discAt l)
theorem discsL_len (l : List Int) (n : Nat) : (discsL l n).length = n := by simp [discsL]
theorem nth_discsL (l : List Int) (n i : Nat) (h : i < n) : nth (discsL l n) i = discAt l i := by simp [nth, discsL, h]
theorem discsL_succ (l : List Int) (n : Nat) : discsL l n ++ [discAt l n] = discsL l (n + 1) := by simp [discsL, List.range_succ]
theorem discAt_peg (l : List Int) (i : Nat) : Peg (discAt l i) := by
  unfold discAt Peg
  split
  · exact umod_bd _ 3 (by omega)
  · omega
theorem discsL_discs (l : List Int) (n : Nat) : DiscsL (discsL l n) := fun i hi => by
  rw [discsL_len] at hi
  rw [nth_discsL _ _ _ hi]
  exact discAt_peg _ _
theorem discsL_ok (l : List Int) (n : Nat) (h0 : 1 ≤ n) (h1 : n ≤ 40) : okD (discsL l n) = true := by
  rw [okD_iff, discsL_len]
  exact ⟨h0, h1, discsL_discs l n⟩
theorem discs_loop (l : List Int) (n : Nat) (hn : n ≤ 1000) : ∀ e i, i + e = n → Ev (fun k => bibelotlaw03_discs.l0 k l (n : Int) (discsL l i) (i : Int)) (discsL l n)
  | 0, i, h => by
    obtain rfl : i = n := by omega
    refine Ev.step (fun k => ?_) (Ev.now _)
    rw [bibelotlaw03_discs.l0, if_neg (by omega)]
  | e + 1, i, h => by
    refine Ev.step (fun k => ?_) (discs_loop l n hn e (i + 1) (by omega))
    have hb := umod_bd (nth l i) 3 (by omega)
    have hs : discAt l i = if i < l.length then umod (nth l i) 3 else 0 := rfl
    by_cases hl : i < l.length
    · rw [if_pos hl] at hs
      rw [bibelotlaw03_discs.l0, if_pos (by omega), if_pos (by omega), if_pos (by omega), if_pos (by rw [discsL_len]; omega), rd_nth, utmod, w64 (x := umod (nth l i) 3) (by omega) (by omega), w64 (by omega) (by omega), ← hs, discsL_succ]
      rfl
    · rw [if_neg hl] at hs
      rw [bibelotlaw03_discs.l0, if_pos (by omega), if_neg (by omega), if_pos (by rw [discsL_len]; omega), w64 (by omega) (by omega)]
      have e1 : discsL l i ++ [0] = discsL l (i + 1) := by rw [← discsL_succ, hs]
      rw [e1]
      rfl
theorem discs_ev (l : List Int) (n : Nat) (hn : n ≤ 1000) : Ev (fun k => bibelotlaw03_discs.f k l (n : Int)) (discsL l n) := discs_loop l n hn n 0 (by omega)

theorem okD_parts {l : List Int} (h : okD l = true) : 0 < l.length ∧ l.length ≤ 40 ∧ DiscsL l := (okD_iff l).1 h
theorem mx_max (a b : Int) : mx a b = max a b := by unfold mx; omega
theorem farthest_ev (l : List Int) (h : okD l = true) : Ev (fun k => hanoi_Farthest.f k l) (far (nth l) l.length, 0) := by
  obtain ⟨h0, h40, hd⟩ := okD_parts h
  have hc := check_ev l
  have e : checkD l = 0 := by unfold checkD; rw [if_pos h]
  rw [e] at hc
  unfold hanoi_Farthest.f
  refine Ev.bind hc ?_
  simp only [if_true]
  have n0 := tp_nonneg (nth l) l.length 0
  have hst : ∀ (k : Nat) (x : Int) (q : Int), 0 ≤ q → q < 3 → hanoi_Farthest.l0 (k + 1) l x q = (hanoi_toPeg.f k l q).bind fun t => hanoi_Farthest.l0 k l (mx x t) (q + 1) := fun k x q h1 h2 => by
    rw [hanoi_Farthest.l0, if_pos h2, w64 (by omega) (by omega)]
  refine Ev.step (fun k => hst k _ _ (by omega) (by omega)) (Ev.bind (toPeg_ev l h40 hd 0 (by unfold Peg; omega)) ?_)
  refine Ev.step (fun k => hst k _ _ (by omega) (by omega)) (Ev.bind (toPeg_ev l h40 hd 1 (by unfold Peg; omega)) ?_)
  refine Ev.step (fun k => hst k _ _ (by omega) (by omega)) (Ev.bind (toPeg_ev l h40 hd 2 (by unfold Peg; omega)) ?_)
  refine Ev.step (fun k => ?_) (Ev.now _)
  rw [hanoi_Farthest.l0, if_neg (by omega), mx_max, mx_max, mx_max]
  have : max (max (max 0 (tp (nth l) l.length 0)) (tp (nth l) l.length 1)) (tp (nth l) l.length 2) = far (nth l) l.length := by unfold far; omega
  rw [this]
theorem rfar_ev (l : List Int) (h : okD l = true) : Ev (fun k => bibelotref03_Farthest.f k l) (far (nth l) l.length) := by
  obtain ⟨h0, h40, hd⟩ := okD_parts h
  unfold bibelotref03_Farthest.f
  refine Ev.bind (to_ev l h40 hd 0 (by unfold Peg; omega)) ?_
  refine Ev.bind (to_ev l h40 hd 1 (by unfold Peg; omega)) ?_
  refine Ev.bind (to_ev l h40 hd 2 (by unfold Peg; omega)) ?_
  rw [mx_max, mx_max]
  exact Ev.now _

theorem ints_loop (l m : List Int) (hl : l.length ≤ 1000) (hm : l.length = m.length) : ∀ d i : Nat, i + d = l.length → (∀ j, j < i → nth l j = nth m j) → Ev (fun k => bibelotlaw03_ints.l0 k l m (i : Int)) (decide (l = m))
  | 0, i, h, hs => by
    refine Ev.step (fun k => ?_) (Ev.now _)
    have e : l = m := by
      apply List.ext_getElem hm
      intro j h1 h2
      have := hs j (by omega)
      simpa [nth, h1, h2] using this
    rw [bibelotlaw03_ints.l0, if_neg (by omega), decide_eq_true e]
  | d + 1, i, h, hs => by
    by_cases e : nth l i = nth m i
    · refine Ev.step (fun k => ?_) (ints_loop l m hl hm d (i + 1) (by omega) (fun j hj => by
        by_cases e2 : j = i
        · rw [e2]; exact e
        · exact hs j (by omega)))
      rw [bibelotlaw03_ints.l0, if_pos (by omega), if_pos (by omega), if_pos (by omega), rd_nth, rd_nth, if_pos e, w64 (by omega) (by omega)]
      rfl
    · refine Ev.step (fun k => ?_) (Ev.now _)
      have hne : ¬ l = m := fun h2 => e (by rw [h2])
      rw [bibelotlaw03_ints.l0, if_pos (by omega), if_pos (by omega), if_pos (by omega), rd_nth, rd_nth, if_neg e, decide_eq_false hne]
theorem ints_ev (l m : List Int) (hl : l.length ≤ 1000) : Ev (fun k => bibelotlaw03_ints.f k l m) (decide (l = m)) := by
  unfold bibelotlaw03_ints.f
  by_cases e : l.length = m.length
  · simp only [e, if_true]
    exact ints_loop l m hl e l.length 0 (by omega) (fun j hj => by omega)
  · have hne : ¬ l = m := fun h => e (by rw [h])
    have e2 : ¬ (l.length : Int) = (m.length : Int) := by omega
    simp only [e2, if_false, decide_eq_false hne]
    exact Ev.now _

theorem top_same (s : Nat → Int) (n : Nat) : top s s n = 0 := by
  induction n with
  | zero => rfl
  | succ n ih => rw [top, if_pos rfl]; exact ih
theorem top_zero {s t : Nat → Int} {n : Nat} (h : top s t n = 0) : ∀ i, i < n → s i = t i := by
  have hd := dst_by_top s t n
  rw [h] at hd
  exact dst_zero hd
theorem list_top {l m : List Int} (hlen : m.length = l.length) (h : top (nth l) (nth m) l.length = 0) : l = m := by
  apply List.ext_getElem hlen.symm
  intro i h1 h2
  have := top_zero h i h1
  simpa [nth, h1, h2] using this
theorem kind_ev (l m : List Int) : Ev (fun k => hanoi_Kind.f k l m) (if both l m = true then (if l = m then (0, 1) else (kd (nth l) (nth m) l.length, 0)) else (0, openD l m)) := by
  unfold hanoi_Kind.f
  refine Ev.bind (open_ev l m) ?_
  by_cases hb : both l m = true
  · have e := (openD_zero l m).2 hb
    obtain ⟨⟨h0, h40, hd⟩, hdm, hlen⟩ := (both_iff l m).1 hb
    simp only [e, if_true, if_pos hb]
    refine Ev.bind (equal_ev l m (by omega)) ?_
    by_cases hs : l = m
    · simp only [hs, decide_true, if_true]
      exact Ev.now _
    · simp only [hs, decide_false, if_false, Bool.false_eq_true]
      cases hk : top (nth l) (nth m) l.length with
      | zero => exact absurd (list_top hlen hk) hs
      | succ k =>
        refine Ev.bind (planned_ev l m k hb hk) ?_
        have hkd : kd (nth l) (nth m) l.length = if one (nth l) (nth m) k < two (nth l) (nth m) k then 1 else if two (nth l) (nth m) k < one (nth l) (nth m) k then 2 else 3 := by unfold kd; rw [hk]
        rw [hkd]
        simp only [gt_iff_lt]
        by_cases c1 : one (nth l) (nth m) k < two (nth l) (nth m) k
        · rw [if_pos c1, if_pos c1]; exact Ev.now _
        · rw [if_neg c1, if_neg c1]
          by_cases c2 : two (nth l) (nth m) k < one (nth l) (nth m) k
          · rw [if_pos c2, if_pos c2]; exact Ev.now _
          · rw [if_neg c2, if_neg c2]; exact Ev.now _
  · have e : openD l m ≠ 0 := fun h => hb ((openD_zero l m).1 h)
    simp only [e, if_false, if_neg hb]
    exact Ev.now _
theorem both_discs (l m : List Int) (n : Nat) (h0 : 1 ≤ n) (h1 : n ≤ 40) : both (discsL l n) (discsL m n) = true := by
  simp [both, discsL_ok _ _ h0 h1, discsL_len]
theorem dist_both {l m : List Int} (h : both l m = true) : Ev (fun k => hanoi_Distance.f k l m) (dst (nth l) (nth m) l.length, 0) := by
  have := distance_ev l m
  rw [if_pos h] at this
  exact this
end Go.Proofs.YtnaaomhmoamfpaaDoor.G
/- gather: discs brought to a peg: the moves, and the discs then. -/
namespace Go.Proofs.YtnaaomhmoamfpaaDoor.G
set_option linter.unusedVariables false
set_option linter.unusedSimpArgs false
set_option linter.unusedSectionVars false
open Go.Proofs.YtnaaomhmoamfpaaDoor.Q Go.Proofs.YtnaaomhmoamfpaaDoor.Hn
open Go.RowKit Go.Proofs.YtnaaomhmoamfpaaDoorW.PrintWords Go.Proofs.YtnaaomhmoamfpaaDoorW.PrintLast Go.Proofs.YtnaaomhmoamfpaaDoorW.PrintMore
/-- The first k discs are brought to peg p: the moves, and all discs then. -/
def gatherL : Nat → List Int → Int → List (Nat × Int) × List Int
  | 0, d, _ => ([], d)
  | k + 1, d, p =>
    if nth d k = p then gatherL k d p
    else ((gatherL k d (3 - nth d k - p)).1 ++ [(k, p)] ++ (gatherL k ((gatherL k d (3 - nth d k - p)).2.set k p) p).1, (gatherL k ((gatherL k d (3 - nth d k - p)).2.set k p) p).2)
theorem nth_set_self (l : List Int) (k : Nat) (x : Int) (h : k < l.length) : nth (l.set k x) k = x := by simp [nth, h]
theorem nth_set_ne (l : List Int) (k j : Nat) (x : Int) (h : j ≠ k) : nth (l.set k x) j = nth l j := by
  simp only [nth]
  rw [List.getD_eq_getElem?_getD, List.getElem?_set_ne (fun e => h e.symm), ← List.getD_eq_getElem?_getD]
theorem gather_facts : ∀ (k : Nat) (d : List Int) (p : Int), k ≤ d.length → (gatherL k d p).2.length = d.length ∧ (∀ j, k ≤ j → nth (gatherL k d p).2 j = nth d j) ∧ (∀ j, j < k → nth (gatherL k d p).2 j = p)
  | 0, d, p, _ => ⟨rfl, fun _ _ => rfl, fun j h => by omega⟩
  | k + 1, d, p, h => by
    rw [gatherL]
    by_cases c : nth d k = p
    · rw [if_pos c]
      obtain ⟨h1, h2, h3⟩ := gather_facts k d p (by omega)
      refine ⟨h1, fun j hj => h2 j (by omega), fun j hj => ?_⟩
      by_cases e : j = k
      · subst e; rw [h2 j (Nat.le_refl _)]; exact c
      · exact h3 j (by omega)
    · rw [if_neg c]
      obtain ⟨h1, h2, h3⟩ := gather_facts k d (3 - nth d k - p) (by omega)
      obtain ⟨g1, g2, g3⟩ := gather_facts k ((gatherL k d (3 - nth d k - p)).2.set k p) p (by rw [List.length_set]; omega)
      refine ⟨by dsimp only; rw [g1, List.length_set, h1], fun j hj => ?_, fun j hj => ?_⟩
      · dsimp only
        rw [g2 j (by omega), nth_set_ne _ _ _ _ (by omega), h2 j (by omega)]
      · dsimp only
        by_cases e : j = k
        · subst e; rw [g2 j (Nat.le_refl _), nth_set_self _ _ _ (by omega)]
        · exact g3 j (by omega)
theorem gather_len : ∀ (k : Nat) (d : List Int) (p : Int), (gatherL k d p).1.length + 1 ≤ 2 ^ k
  | 0, d, p => by simp [gatherL]
  | k + 1, d, p => by
    have hp2 : 2 ^ (k + 1) = 2 * 2 ^ k := by rw [Nat.pow_succ, Nat.mul_comm]
    have hp1 : 1 ≤ 2 ^ k := Nat.one_le_two_pow
    rw [gatherL]
    by_cases c : nth d k = p
    · rw [if_pos c]
      have := gather_len k d p
      omega
    · rw [if_neg c]
      have h1 := gather_len k d (3 - nth d k - p)
      have h2 := gather_len k ((gatherL k d (3 - nth d k - p)).2.set k p) p
      simp only [List.length_append, List.length_singleton]
      omega
theorem third_peg {a p : Int} (ha : Peg a) (hp : Peg p) (h : a ≠ p) : Peg (3 - a - p) := by unfold Peg at *; omega
theorem gather_pos (k : Nat) (d : List Int) (p : Int) (hk : k ≤ d.length) (hd : DiscsL d) (hp : Peg p) : DiscsL (gatherL k d p).2 := by
  obtain ⟨h1, h2, h3⟩ := gather_facts k d p hk
  intro j hj
  rw [h1] at hj
  by_cases c : j < k
  · rw [h3 j c]; exact hp
  · rw [h2 j (by omega)]; exact hd j hj
theorem discs_set {d : List Int} (hd : DiscsL d) (k : Nat) (p : Int) (hp : Peg p) : DiscsL (d.set k p) := by
  intro j hj
  rw [List.length_set] at hj
  by_cases e : j = k
  · subst e; rw [nth_set_self _ _ _ hj]; exact hp
  · rw [nth_set_ne _ _ _ _ e]; exact hd j hj
end Go.Proofs.YtnaaomhmoamfpaaDoor.G
/- gather: its contract, for each of the two functions that write. -/
namespace Go.Proofs.YtnaaomhmoamfpaaDoor.G
set_option linter.unusedVariables false
set_option linter.unusedSimpArgs false
set_option linter.unusedSectionVars false
open Go.Proofs.YtnaaomhmoamfpaaDoor.Q Go.Proofs.YtnaaomhmoamfpaaDoor.Hn Go.Proofs.YtnaaomhmoamfpaaDoor.K Go.Proofs.YtnaaomhmoamfpaaDoor.It
open Go.RowKit Go.Shelf Go.Proofs.YtnaaomhmoamfpaaDoorW.PrintWords Go.Proofs.YtnaaomhmoamfpaaDoorW.PrintLast Go.Proofs.YtnaaomhmoamfpaaDoorW.PrintMore
/-- What gather asks of the function that writes, and of what it keeps. -/
structure Writer (g gb N base M : Nat) (lb : Array Value) (J : List (Nat × Int) → World → Prop) : Prop where
  put : ∀ ms W i v, J ms W → J ms (W.setCell ⟨gb, i, none⟩ v)
  drew : ∀ ms W n, J ms W → J ms (W.drewN n)
  call : ∀ ms W (d : Nat) (p : Int), J ms W → ms.length < M → d < N → Peg p → Calls Tryd.prog g (#[.int .i64 (d : Int), .int .i64 p] ++ lb) W fun e W' => (∃ v, e = .returned v) ∧ J (ms ++ [(d, p)]) W' ∧ W'.heap[gb]? = W.heap[gb]? ∧ Below base W W' ∧ W.heap.size ≤ W'.heap.size
theorem R_block {d : List Int} {W W' : World} {base gb N cap : Nat} (h : Kd.R (Kd.int .i64) 3 W base (fun j => j = gb) (.slice (some ⟨gb, 0, none⟩) N cap) d) (hb : W'.heap[gb]? = W.heap[gb]?) : Kd.R (Kd.int .i64) 3 W' base (fun j => j = gb) (.slice (some ⟨gb, 0, none⟩) N cap) d :=
  Kd.R_move h (fun k hk => by subst hk; exact hb)

set_option maxHeartbeats 8000000 in
set_option maxRecDepth 100000 in
theorem gather_calls85 (b0 gb N base M cap : Nat) (hN : N ≤ 40) (hbg : base ≤ gb) (J : List (Nat × Int) → World → Prop) (hw : Writer 85 gb N base M #[.pointer (some ⟨b0, 0, none⟩)] J) :
    ∀ (k : Nat) (d : List Int) (p : Int) (ms : List (Nat × Int)) (W : World), k ≤ N → ms.length + 2 ^ k ≤ M + 1 → d.length = N → DiscsL d → Peg p → base ≤ W.heap.size → J ms W → Kd.R (Kd.int .i64) 3 W base (fun j => j = gb) (.slice (some ⟨gb, 0, none⟩) N cap) d →
      Calls Tryd.prog 86 #[.slice (some ⟨gb, 0, none⟩) k cap, .int .i64 p, .func (.func 85) #[] #[.pointer (some ⟨b0, 0, none⟩)]] W fun e W' => (∃ v, e = .returned v) ∧ J (ms ++ (gatherL k d p).1) W' ∧ Kd.R (Kd.int .i64) 3 W' base (fun j => j = gb) (.slice (some ⟨gb, 0, none⟩) N cap) (gatherL k d p).2 ∧ Below base W W'
  | 0, d, p, ms, W, hk, hM, hdl, hd, hp, hbs, hJ, hR => by
    have HJ := Aside0.mk hJ
    have HR := Aside0.mk hR
    clear hJ hR hw hd hp
    go_enter Tryd.func86, Tryd.ntmps86
    go_wp2
    refine bodyPost_ret (results_none rfl _ _ _) rfl ?_
    exact ⟨⟨_, rfl⟩, by rw [gatherL, List.append_nil]; exact HJ.out, HR.out, Below.refl _ _⟩
  | k + 1, d, p, ms, W, hk, hM, hdl, hd, hp, hbs, hJ, hR => by
    have hp2 : 2 ^ (k + 1) = 2 * 2 ^ k := by rw [Nat.pow_succ, Nat.mul_comm]
    have hp1 : 1 ≤ 2 ^ k := Nat.one_le_two_pow
    have ih := gather_calls85 b0 gb N base M cap hN hbg J hw k
    have hcap := (Kd.R_reads' hR).2.1
    have hpk := hd k (by omega)
    obtain ⟨hcg, hfg⟩ := Kd.R_celln (0 : Int) hR (k : Int) (by omega) (by omega)
    rw [Int.toNat_natCast] at hcg hfg
    have hrd : rdOf (0 : Int) d (k : Int) = nth d k := by simp [rdOf, nth]
    rw [hrd] at hcg
    have hke : ¬ ((k + 1 : Nat) : Int) = 0 := by omega
    have hwk : IntKind.i64.wrap (((k + 1 : Nat) : Int) - 1) = (k : Int) := by rw [i64_w, w64 (by omega) (by omega)]; omega
    have hk0 : (0 : Int) ≤ (k : Int) := by omega
    have hk1 : (k : Int) < ((k + 1 : Nat) : Int) := by omega
    have hk2 : (k : Int) ≤ (cap : Int) := by omega
    have HJ := Aside0.mk hJ
    have HR := Aside0.mk hR
    have HD := Aside0.mk hd
    have HP := Aside0.mk hp
    have HPK := Aside0.mk hpk
    have HI := Aside0.mk ih
    have HW := Aside0.mk hw
    have HL := Aside0.mk hdl
    clear hJ hR hw hd hp hpk ih hrd
    by_cases c : nth d k = p
    · have hc0 : (nth d k != p) = false := by rw [bne_eq_false_iff_eq]; exact c
      have HC := Aside0.mk c
      clear c
      obtain ⟨x, hx⟩ : ∃ x, nth d k = x := ⟨_, rfl⟩
      rw [hx] at hcg hc0
      have HX := Aside0.mk hx
      clear hx
      go_enter Tryd.func86, Tryd.ntmps86
      go_wp2_with (go_at_call 86; refine (HI.out d p ms _ (by omega) (by omega) HL.out HD.out HP.out hbs HJ.out HR.out).mono ?_; rintro e W1 ⟨⟨v, rfl⟩, h1, h2, h3⟩; have H1 := Aside0.mk h1; have H2 := Aside0.mk h2; have H3 := Aside0.mk h3; clear h1 h2 h3)
      refine bodyPost_end (results_none rfl _ _ _) rfl ?_
      have e : gatherL (k + 1) d p = gatherL k d p := by rw [gatherL, if_pos HC.out]
      rw [e]
      exact ⟨⟨_, rfl⟩, H1.out, H2.out, H3.out⟩
    · have hc0 : (nth d k != p) = true := by rw [bne_iff_ne]; exact c
      obtain ⟨x, hx⟩ : ∃ x, nth d k = x := ⟨_, rfl⟩
      have hpx := HPK.out
      rw [hx] at hpx
      have hpp := HP.out
      unfold Peg at hpx hpp
      have hw1 : IntKind.i64.wrap (3 - x) = 3 - x := by rw [i64_w, w64 (by omega) (by omega)]
      have hw2 : IntKind.i64.wrap (3 - x - p) = 3 - x - p := by rw [i64_w, w64 (by omega) (by omega)]
      rw [hx] at hcg hc0
      have HX := Aside0.mk hx
      have HC := Aside0.mk c
      have HT := Aside0.mk (show Peg (3 - x - p) by rw [← hx]; exact third_peg HPK.out HP.out c)
      clear hx c hpx hpp
      go_enter Tryd.func86, Tryd.ntmps86
      go_wp2
      have hk3 : (k : Int) < (k : Int) + 1 := by omega
      have hk4 : ((k : Int) < (k : Int) + 1) = True := eq_true hk3
      have hcd : World.cell? { heap := W.heap, tape := W.tape, drawn := W.drawn + 1, os := W.os, output := W.output } ⟨gb, k, none⟩ = some (.int .i64 x) := hcg
      go_still_tail 11, (by kernel_rfl)
      go_wp2_with fail
      refine (HI.out d (3 - x - p) ms W.drew (by omega) (by omega) HL.out HD.out HT.out hbs (HW.out.drew ms W 1 HJ.out) (Kd.R_drew HR.out)).mono ?_
      rintro e W1 ⟨⟨v, rfl⟩, h1, h2, h3⟩
      obtain ⟨f1, f2, f3⟩ := gather_facts k d (3 - x - p) (by omega)
      have hd1 := gather_pos k d (3 - x - p) (by omega) HD.out HT.out
      obtain ⟨d1, hd1e⟩ : ∃ d1, (gatherL k d (3 - x - p)).2 = d1 := ⟨_, rfl⟩
      obtain ⟨m1, hm1e⟩ : ∃ m1, (gatherL k d (3 - x - p)).1 = m1 := ⟨_, rfl⟩
      rw [hd1e] at h2 f1 hd1
      rw [hm1e] at h1
      have HLE := Aside0.mk (show m1.length + 1 ≤ 2 ^ k by rw [← hm1e]; exact gather_len k d (3 - x - p))
      obtain ⟨hcg1, hfg1⟩ := Kd.R_celln (0 : Int) h2 (k : Int) (by omega) (by omega)
      rw [Int.toNat_natCast] at hcg1 hfg1
      have h4 := Kd.R_putn h2 (k : Int) p
      rw [Int.toNat_natCast] at h4
      have h5 := HW.out.put _ W1 k (.int .i64 p) h1
      have hs1 := h3.size
      have h6 : Below base W (W1.setCell ⟨gb, k, none⟩ (.int .i64 p)) := (show Below base W W1 from ⟨h3.os, h3.tape, h3.output, h3.size, h3.block⟩).setCell (by simp; omega) _
      have H4 := Aside0.mk h4
      have H5 := Aside0.mk h5
      have H6 := Aside0.mk h6
      have HD1 := Aside0.mk (discs_set hd1 k p HP.out)
      have F1 := Aside0.mk (show (d1.set k p).length = N by rw [List.length_set, f1]; exact HL.out)
      have HDE := Aside0.mk hd1e
      have HME := Aside0.mk hm1e
      clear h1 h2 h3 h4 h5 h6 f1 f2 f3 hd1 hd1e hm1e hcg hfg hcd
      go_wp2_with (first | (go_at_call 85; refine (HW.out.call _ _ k p H5.out (by rw [List.length_append]; have := HLE.out; omega) (by omega) HP.out).mono ?_; rintro e W2 ⟨⟨v2, rfl⟩, h1, h2, h3, h4⟩; have K1 := Aside0.mk h1; have K2 := Aside0.mk (R_block H4.out h2); have K3 := Aside0.mk (Below.trans H6.out h3); clear h1 h2 h3 h4) | (go_at_call 86; refine (HI.out (d1.set k p) p _ _ (by omega) (by rw [List.length_append, List.length_append, List.length_singleton]; have := HLE.out; omega) F1.out HD1.out HP.out (by have := K3.out.size; omega) K1.out K2.out).mono ?_; rintro e W3 ⟨⟨v3, rfl⟩, h1, h2, h3⟩; have L1 := Aside0.mk h1; have L2 := Aside0.mk h2; have L3 := Aside0.mk h3; clear h1 h2 h3))
      refine bodyPost_end (results_none rfl _ _ _) rfl ?_
      have e1 : gatherL (k + 1) d p = (m1 ++ [(k, p)] ++ (gatherL k (d1.set k p) p).1, (gatherL k (d1.set k p) p).2) := by rw [gatherL, if_neg HC.out, HX.out, HDE.out, HME.out]
      rw [e1]
      exact ⟨⟨_, rfl⟩, by rw [← List.append_assoc, ← List.append_assoc]; exact L1.out, L2.out, K3.out.trans L3.out⟩

set_option maxHeartbeats 8000000 in
set_option maxRecDepth 100000 in
theorem gather_calls101 (b0 b1 gb N base M cap : Nat) (hN : N ≤ 40) (hbg : base ≤ gb) (J : List (Nat × Int) → World → Prop) (hw : Writer 101 gb N base M #[.pointer (some ⟨b0, 0, none⟩), .pointer (some ⟨b1, 0, none⟩)] J) :
    ∀ (k : Nat) (d : List Int) (p : Int) (ms : List (Nat × Int)) (W : World), k ≤ N → ms.length + 2 ^ k ≤ M + 1 → d.length = N → DiscsL d → Peg p → base ≤ W.heap.size → J ms W → Kd.R (Kd.int .i64) 3 W base (fun j => j = gb) (.slice (some ⟨gb, 0, none⟩) N cap) d →
      Calls Tryd.prog 86 #[.slice (some ⟨gb, 0, none⟩) k cap, .int .i64 p, .func (.func 101) #[] #[.pointer (some ⟨b0, 0, none⟩), .pointer (some ⟨b1, 0, none⟩)]] W fun e W' => (∃ v, e = .returned v) ∧ J (ms ++ (gatherL k d p).1) W' ∧ Kd.R (Kd.int .i64) 3 W' base (fun j => j = gb) (.slice (some ⟨gb, 0, none⟩) N cap) (gatherL k d p).2 ∧ Below base W W'
  | 0, d, p, ms, W, hk, hM, hdl, hd, hp, hbs, hJ, hR => by
    have HJ := Aside0.mk hJ
    have HR := Aside0.mk hR
    clear hJ hR hw hd hp
    go_enter Tryd.func86, Tryd.ntmps86
    go_wp2
    refine bodyPost_ret (results_none rfl _ _ _) rfl ?_
    exact ⟨⟨_, rfl⟩, by rw [gatherL, List.append_nil]; exact HJ.out, HR.out, Below.refl _ _⟩
  | k + 1, d, p, ms, W, hk, hM, hdl, hd, hp, hbs, hJ, hR => by
    have hp2 : 2 ^ (k + 1) = 2 * 2 ^ k := by rw [Nat.pow_succ, Nat.mul_comm]
    have hp1 : 1 ≤ 2 ^ k := Nat.one_le_two_pow
    have ih := gather_calls101 b0 b1 gb N base M cap hN hbg J hw k
    have hcap := (Kd.R_reads' hR).2.1
    have hpk := hd k (by omega)
    obtain ⟨hcg, hfg⟩ := Kd.R_celln (0 : Int) hR (k : Int) (by omega) (by omega)
    rw [Int.toNat_natCast] at hcg hfg
    have hrd : rdOf (0 : Int) d (k : Int) = nth d k := by simp [rdOf, nth]
    rw [hrd] at hcg
    have hke : ¬ ((k + 1 : Nat) : Int) = 0 := by omega
    have hwk : IntKind.i64.wrap (((k + 1 : Nat) : Int) - 1) = (k : Int) := by rw [i64_w, w64 (by omega) (by omega)]; omega
    have hk0 : (0 : Int) ≤ (k : Int) := by omega
    have hk1 : (k : Int) < ((k + 1 : Nat) : Int) := by omega
    have hk2 : (k : Int) ≤ (cap : Int) := by omega
    have HJ := Aside0.mk hJ
    have HR := Aside0.mk hR
    have HD := Aside0.mk hd
    have HP := Aside0.mk hp
    have HPK := Aside0.mk hpk
    have HI := Aside0.mk ih
    have HW := Aside0.mk hw
    have HL := Aside0.mk hdl
    clear hJ hR hw hd hp hpk ih hrd
    by_cases c : nth d k = p
    · have hc0 : (nth d k != p) = false := by rw [bne_eq_false_iff_eq]; exact c
      have HC := Aside0.mk c
      clear c
      obtain ⟨x, hx⟩ : ∃ x, nth d k = x := ⟨_, rfl⟩
      rw [hx] at hcg hc0
      have HX := Aside0.mk hx
      clear hx
      go_enter Tryd.func86, Tryd.ntmps86
      go_wp2_with (go_at_call 86; refine (HI.out d p ms _ (by omega) (by omega) HL.out HD.out HP.out hbs HJ.out HR.out).mono ?_; rintro e W1 ⟨⟨v, rfl⟩, h1, h2, h3⟩; have H1 := Aside0.mk h1; have H2 := Aside0.mk h2; have H3 := Aside0.mk h3; clear h1 h2 h3)
      refine bodyPost_end (results_none rfl _ _ _) rfl ?_
      have e : gatherL (k + 1) d p = gatherL k d p := by rw [gatherL, if_pos HC.out]
      rw [e]
      exact ⟨⟨_, rfl⟩, H1.out, H2.out, H3.out⟩
    · have hc0 : (nth d k != p) = true := by rw [bne_iff_ne]; exact c
      obtain ⟨x, hx⟩ : ∃ x, nth d k = x := ⟨_, rfl⟩
      have hpx := HPK.out
      rw [hx] at hpx
      have hpp := HP.out
      unfold Peg at hpx hpp
      have hw1 : IntKind.i64.wrap (3 - x) = 3 - x := by rw [i64_w, w64 (by omega) (by omega)]
      have hw2 : IntKind.i64.wrap (3 - x - p) = 3 - x - p := by rw [i64_w, w64 (by omega) (by omega)]
      rw [hx] at hcg hc0
      have HX := Aside0.mk hx
      have HC := Aside0.mk c
      have HT := Aside0.mk (show Peg (3 - x - p) by rw [← hx]; exact third_peg HPK.out HP.out c)
      clear hx c hpx hpp
      go_enter Tryd.func86, Tryd.ntmps86
      go_wp2
      have hk3 : (k : Int) < (k : Int) + 1 := by omega
      have hk4 : ((k : Int) < (k : Int) + 1) = True := eq_true hk3
      have hcd : World.cell? { heap := W.heap, tape := W.tape, drawn := W.drawn + 1, os := W.os, output := W.output } ⟨gb, k, none⟩ = some (.int .i64 x) := hcg
      go_still_tail 11, (by kernel_rfl)
      go_wp2_with fail
      refine (HI.out d (3 - x - p) ms W.drew (by omega) (by omega) HL.out HD.out HT.out hbs (HW.out.drew ms W 1 HJ.out) (Kd.R_drew HR.out)).mono ?_
      rintro e W1 ⟨⟨v, rfl⟩, h1, h2, h3⟩
      obtain ⟨f1, f2, f3⟩ := gather_facts k d (3 - x - p) (by omega)
      have hd1 := gather_pos k d (3 - x - p) (by omega) HD.out HT.out
      obtain ⟨d1, hd1e⟩ : ∃ d1, (gatherL k d (3 - x - p)).2 = d1 := ⟨_, rfl⟩
      obtain ⟨m1, hm1e⟩ : ∃ m1, (gatherL k d (3 - x - p)).1 = m1 := ⟨_, rfl⟩
      rw [hd1e] at h2 f1 hd1
      rw [hm1e] at h1
      have HLE := Aside0.mk (show m1.length + 1 ≤ 2 ^ k by rw [← hm1e]; exact gather_len k d (3 - x - p))
      obtain ⟨hcg1, hfg1⟩ := Kd.R_celln (0 : Int) h2 (k : Int) (by omega) (by omega)
      rw [Int.toNat_natCast] at hcg1 hfg1
      have h4 := Kd.R_putn h2 (k : Int) p
      rw [Int.toNat_natCast] at h4
      have h5 := HW.out.put _ W1 k (.int .i64 p) h1
      have hs1 := h3.size
      have h6 : Below base W (W1.setCell ⟨gb, k, none⟩ (.int .i64 p)) := (show Below base W W1 from ⟨h3.os, h3.tape, h3.output, h3.size, h3.block⟩).setCell (by simp; omega) _
      have H4 := Aside0.mk h4
      have H5 := Aside0.mk h5
      have H6 := Aside0.mk h6
      have HD1 := Aside0.mk (discs_set hd1 k p HP.out)
      have F1 := Aside0.mk (show (d1.set k p).length = N by rw [List.length_set, f1]; exact HL.out)
      have HDE := Aside0.mk hd1e
      have HME := Aside0.mk hm1e
      clear h1 h2 h3 h4 h5 h6 f1 f2 f3 hd1 hd1e hm1e hcg hfg hcd
      go_wp2_with (first | (go_at_call 101; refine (HW.out.call _ _ k p H5.out (by rw [List.length_append]; have := HLE.out; omega) (by omega) HP.out).mono ?_; rintro e W2 ⟨⟨v2, rfl⟩, h1, h2, h3, h4⟩; have K1 := Aside0.mk h1; have K2 := Aside0.mk (R_block H4.out h2); have K3 := Aside0.mk (Below.trans H6.out h3); clear h1 h2 h3 h4) | (go_at_call 86; refine (HI.out (d1.set k p) p _ _ (by omega) (by rw [List.length_append, List.length_append, List.length_singleton]; have := HLE.out; omega) F1.out HD1.out HP.out (by have := K3.out.size; omega) K1.out K2.out).mono ?_; rintro e W3 ⟨⟨v3, rfl⟩, h1, h2, h3⟩; have L1 := Aside0.mk h1; have L2 := Aside0.mk h2; have L3 := Aside0.mk h3; clear h1 h2 h3))
      refine bodyPost_end (results_none rfl _ _ _) rfl ?_
      have e1 : gatherL (k + 1) d p = (m1 ++ [(k, p)] ++ (gatherL k (d1.set k p) p).1, (gatherL k (d1.set k p) p).2) := by rw [gatherL, if_neg HC.out, HX.out, HDE.out, HME.out]
      rw [e1]
      exact ⟨⟨_, rfl⟩, by rw [← List.append_assoc, ← List.append_assoc]; exact L1.out, L2.out, K3.out.trans L3.out⟩
end Go.Proofs.YtnaaomhmoamfpaaDoor.G
/- The functions that write a way's moves. -/
namespace Go.Proofs.YtnaaomhmoamfpaaDoor.G
set_option linter.unusedVariables false
set_option linter.unusedSimpArgs false
set_option linter.unusedSectionVars false
open Go.Proofs.YtnaaomhmoamfpaaDoor.Q Go.Proofs.YtnaaomhmoamfpaaDoor.Hn Go.Proofs.YtnaaomhmoamfpaaDoor.K Go.Proofs.YtnaaomhmoamfpaaDoor.It
open Go.RowKit Go.Shelf Go.Proofs.YtnaaomhmoamfpaaDoorW.PrintWords Go.Proofs.YtnaaomhmoamfpaaDoorW.PrintLast Go.Proofs.YtnaaomhmoamfpaaDoorW.PrintMore

def mkI (m : Nat × Int) : S52 := ⟨(m.1 : Int), m.2⟩
/-- Way's writer: what is written so far, behind pre. -/
def WayJ (w : World) (bo gb B : Nat) (kp : List (Nat × Array Value × Nat)) (pre : List S52) (ms : List (Nat × Int)) (W : World) : Prop :=
  ∃ v, Blk W bo #[v] 48 ∧ Kd.R k52 52 W B (fun j => j ≠ gb) v (pre ++ ms.map mkI) ∧ B ≤ W.heap.size ∧ Below w.heap.size w W ∧ ∀ q, q ∈ kp → Blk W q.1 q.2.1 q.2.2
theorem WayJ.shift {w : World} {bo gb B : Nat} {kp : List (Nat × Array Value × Nat)} {pre : List S52} {ms : List (Nat × Int)} {W : World} (h : WayJ w bo gb B kp pre ms W) : WayJ w bo gb B kp (pre ++ ms.map mkI) [] W := by
  obtain ⟨v, h1, h2, h3, h4, h5⟩ := h
  exact ⟨v, h1, by rw [List.map_nil, List.append_nil]; exact h2, h3, h4, h5⟩
set_option maxHeartbeats 8000000 in
set_option maxRecDepth 100000 in
theorem way_writer (w : World) (bo gb B N M : Nat) (kp : List (Nat × Array Value × Nat)) (hkp : ∀ q, q ∈ kp → q.1 ≠ bo ∧ q.1 ≠ gb ∧ q.1 < B) (pre : List S52) (hM : pre.length + M ≤ 1000000) (hB : bo < B) (hg : gb < B) (hbg : bo ≠ gb) (hwb : w.heap.size ≤ bo) (hwg : w.heap.size ≤ gb) :
    Writer 85 gb N w.heap.size M #[.pointer (some ⟨bo, 0, none⟩)] (WayJ w bo gb B kp pre) where
  put := fun ms W i v h => by
    obtain ⟨u, h1, h2, h3, h4, h5⟩ := h
    exact ⟨u, h1.setOther hbg _, Kd.R_far h2 (fun k hk => hk) _, by simpa [World.setCell] using h3, h4.setCell hwg _, fun q hq => (h5 q hq).setOther (hkp q hq).2.1 _⟩
  drew := fun ms W n h => by
    obtain ⟨u, h1, h2, h3, h4, h5⟩ := h
    exact ⟨u, h1, Kd.R_drewN h2 _, h3, pw_below_drewN h4 _, h5⟩
  call := fun ms W d p hJ hlm hd hp => by
    obtain ⟨u, h1, h2, h3, h4, h5⟩ := hJ
    obtain ⟨A, c, rfl⟩ := Kd.R_slice h2
    have hc := h1.cell 0 (v := .slice A (pre ++ ms.map mkI).length c) rfl
    have hne : (Value.slice A (pre ++ ms.map mkI).length c).ownBlock ≠ some bo := fun e => by have := Kd.R_base h2 _ e; omega
    have hne2 : (Value.slice A (pre ++ ms.map mkI).length c).ownBlock ≠ some gb := fun e => h2.1 _ e rfl
    have H1 := Aside0.mk h1
    have H2 := Aside0.mk h2
    have H4 := Aside0.mk h4
    have H5 := Aside0.mk h5
    have HN := Aside0.mk hne
    have HN2 := Aside0.mk hne2
    have HL := Aside0.mk (show (pre ++ ms.map mkI).length ≤ 1000000 by simp; omega)
    clear h1 h2 h4 h5 hne hne2
    obtain ⟨xs, hxs⟩ : ∃ xs, pre ++ ms.map mkI = xs := ⟨_, rfl⟩
    rw [hxs] at hc H1 H2 HN HN2 HL
    have HX := Aside0.mk hxs
    clear hxs
    simp only [List.append_toArray, List.cons_append, List.nil_append]
    go_enter Tryd.func85, Tryd.ntmps85
    go_wp2_with ((with_reducible refine gate_builtin (b := .append) (xs := #[.tmp 5, .tmp 9]) rfl ?_); at_builtin; refine Kd.R_append k52 (w0 := W) B rfl (.tmp 5) (.tmp 9) 48 52 (.agg #[(.int .i64 0), (.int .i64 0)]) 16 rfl u48 info52 rfl (by decide) (by omega) _ xs (mkI (d, p)) [.int .i64 (d : Int), .int .i64 p] (fun j => j ≠ gb) (fun _ => False) rfl rfl (k52_mkM _ _ _ (mkI (d, p))) (fun _ h => h.elim) (fun k hk => by omega) H2.out (Below.refl _ _) h3 (by have := HL.out; omega) ?_; intro v1 w1 ho hb hg hat; obtain ⟨A1, c1, e1⟩ := Kd.R_slice ho; subst e1; rw [show (xs ++ [mkI (d, p)]).length = xs.length + 1 by simp] at ho hat; have hb9 := H1.out.grown hg HN.out; have hc9 := hb9.cell 0 (v := .slice A xs.length c) rfl; have hf9 := hb9.free 0; have G1 := Aside0.mk ho; have G2 := Aside0.mk hg; have G3 := Aside0.mk hb; have G4 := Aside0.mk hb9; clear ho hb hg hat hb9)
    refine bodyPost_end (results_none rfl _ _ _) rfl ?_
    refine ⟨⟨_, rfl⟩, ⟨_, G4.out.set 0 _, ?_, ?_, ?_, ?_⟩, ?_, ?_, ?_⟩
    · rw [List.map_append, ← List.append_assoc, HX.out]
      refine Kd.R_mono (Kd.R_far (Kd.R_bound G1.out) (fun k hk => ?_) _) (fun _ hk => hk.1)
      have := hk.2.1
      show k ≠ bo
      omega
    · have := G2.out.size
      simp [World.setCell]
      omega
    · exact (H4.out.grown G2.out H4.out.size (fun k e => by have := Kd.R_base H2.out k e; omega)).setCell hwb _
    · exact fun q hq => (Blk.grown (H5.out q hq) G2.out (fun e => by have := Kd.R_base H2.out _ e; have := (hkp q hq).2.2; omega)).setOther (hkp q hq).1 _
    · exact (Below.heap_setCell _ _ _ _ (fun e => hbg e.symm)).trans (G2.out.block gb (by omega) (fun e => HN2.out e.symm))
    · exact ((Below.refl w.heap.size W).grown G2.out H4.out.size (fun k e => by have := Kd.R_base H2.out k e; omega)).setCell hwb _
    · have := G2.out.size
      simpa [World.setCell] using this

section
variable {P : Program} {ops : Array Oper} {o : Oper} {a : Act} {Q : Exit → Act → World → Prop} {Kc : Act → World → Prop} {α : Type}
/-- append(v, x) as one step of a region that draws its order; x is the one element of block g. -/
theorem R_append_st (d : Kd α) {V : World} (base : Nat) (hw : Region.wanted o (yielded ops a.tmps) = true) (s x : Operand) (t e : TypeId) (z : Value) (bytes : Nat)
    (ho : o.op = .call { callee := .builtin .append, args := #[s, x], argTypes := #[t, t] })
    (ht : P.underlying t = some (.slice e)) (hinfo : (P.info? e).map (fun i => (i.zero, i.size, i.bytes)) = some (some z, d.sz, bytes)) (hz : z.cells.size = d.sz) (hs0 : 0 < d.sz) (hb0 : 0 < bytes)
    (v : Value) (xs : List α) (p : α) (cs : List Value) (ok okp : Nat → Prop) (hs : a.eval s = v) (g : Nat) (hx : a.eval x = .slice (some ⟨g, 0, none⟩) 1 1) (hg : V.heap[g]? = some (.cells cs.toArray e (0, 0))) (hp : d.M V base okp p cs) (hokp : ∀ k, okp k → ok k ∧ some k ≠ v.ownBlock) (hfresh : ∀ k, V.heap.size ≤ k → ok k)
    (HO : d.R e V base ok v xs) (hbase : base ≤ V.heap.size) (hl : (xs.length + 1) * bytes ≤ 140737488355328)
    (h : ∀ v1 w1, d.R e w1 base ok v1 (xs ++ [p]) → V.grownBy w1 v.ownBlock → (v1.ownBlock = v.ownBlock ∨ ∃ b, v1.ownBlock = some b ∧ V.heap.size ≤ b) → Kc (a.put o.dst v1) w1) :
    if Region.wanted o (yielded ops a.tmps) = true then Oper.wp P o a V Kc Q else Kc (a.put o.dst undef) V := by
  obtain ⟨h0, inner, hown, hr⟩ := HO
  obtain ⟨i0, hi, hzz⟩ := Option.map_eq_some_iff.1 hinfo
  simp only [Prod.mk.injEq] at hzz
  obtain ⟨hz0, hz1, hz2⟩ := hzz
  have hlen : xs.length + 1 ≤ 140737488355328 := Nat.le_trans (Nat.le_mul_of_pos_right _ hb0) hl
  have hcl : cs.length = d.sz := d.K_len (d.K_of_M hp)
  rw [if_pos hw]
  obtain ⟨v1, w1, hrun, hown1, hg1, _, hat⟩ := run_append_own_at (P := P) V base t o.type e i0 z d.sz bytes ht hi hz0 hz1 hz2 hz hs0 v xs.length inner hown ⟨g, 0, none⟩ 1 1 cs (by rw [hcl]; simp)
    (by simpa using World.news_of_block (cs := cs.toArray) (t := e) (fr := (0, 0)) hg) (d.K_one (d.K_of_M hp)) (by simp only [maxLen]; omega) hl hbase
  have hat' : v1.ownBlock = v.ownBlock ∨ ∃ b, v1.ownBlock = some b ∧ V.heap.size ≤ b := by
    rcases hat with hat | hat
    · exact .inl hat
    · exact .inr ⟨_, hat, Nat.le_refl _⟩
  unfold Oper.wp execOp
  simp only [ho, resolve, invoke, builtin, Sem.run_bind, Sem.run_pure, Result.andThen_ok, List.map_toArray, List.map_cons, List.map_nil, hs, hx, hrun]
  exact h v1 w1 (Kd.R_appended h0 hr hp hokp hfresh hown1 hg1 hat') hg1 hat'
end

/-- What spread's writer makes of the moves: where each disc came from; the discs then. -/
def bk (t : List Int) (ms : List (Nat × Int)) : List S52 × List Int := ms.foldl (fun s m => (s.1 ++ [(⟨(m.1 : Int), nth s.2 m.1⟩ : S52)], s.2.set m.1 m.2)) ([], t)
theorem bk_snoc (t : List Int) (ms : List (Nat × Int)) (m : Nat × Int) : bk t (ms ++ [m]) = ((bk t ms).1 ++ [(⟨(m.1 : Int), nth (bk t ms).2 m.1⟩ : S52)], (bk t ms).2.set m.1 m.2) := by simp [bk, List.foldl_append]
theorem bk_len (t : List Int) (ms : List (Nat × Int)) : (bk t ms).1.length = ms.length ∧ (bk t ms).2.length = t.length := by
  have key : ∀ (ms : List (Nat × Int)) (o : List S52) (t : List Int), (ms.foldl (fun s m => (s.1 ++ [(⟨(m.1 : Int), nth s.2 m.1⟩ : S52)], s.2.set m.1 m.2)) (o, t)).1.length = o.length + ms.length ∧ (ms.foldl (fun s m => (s.1 ++ [(⟨(m.1 : Int), nth s.2 m.1⟩ : S52)], s.2.set m.1 m.2)) (o, t)).2.length = t.length := by
    intro ms
    induction ms with
    | nil => intro o t; exact ⟨rfl, rfl⟩
    | cons m ms ih =>
      intro o t
      obtain ⟨h1, h2⟩ := ih (o ++ [(⟨(m.1 : Int), nth t m.1⟩ : S52)]) (t.set m.1 m.2)
      rw [List.foldl_cons]
      refine ⟨h1.trans ?_, h2.trans ?_⟩
      · simp; omega
      · simp
  have := key ms [] t
  simpa [bk] using this
def SprJ (w : World) (b5 b6 gb gn capn N B : Nat) (t : List Int) (ms : List (Nat × Int)) (W : World) : Prop :=
  ∃ v, Blk W b5 #[v] 48 ∧ Blk W b6 #[.slice (some ⟨gn, 0, none⟩) N capn] 46 ∧ Kd.R k52 52 W B (fun j => j ≠ gb ∧ j ≠ gn) v (bk t ms).1 ∧ Kd.R (Kd.int .i64) 3 W w.heap.size (fun j => j = gn) (.slice (some ⟨gn, 0, none⟩) N capn) (bk t ms).2 ∧ B ≤ W.heap.size ∧ Below w.heap.size w W
set_option maxHeartbeats 8000000 in
set_option maxRecDepth 100000 in
theorem spread_writer (w : World) (b5 b6 gb gn capn B N M : Nat) (t : List Int) (ht : t.length = N) (hM : M ≤ 1000000) (h5 : b5 < B) (h6 : b6 < B) (hg : gb < B) (hn : gn < B) (e1 : b5 ≠ gb) (e2 : b6 ≠ gb) (e3 : b5 ≠ gn) (e4 : b6 ≠ gn) (e5 : gb ≠ gn) (e6 : b5 ≠ b6) (w5 : w.heap.size ≤ b5) (w6 : w.heap.size ≤ b6) (wg : w.heap.size ≤ gb) (wn : w.heap.size ≤ gn) :
    Writer 101 gb N w.heap.size M #[.pointer (some ⟨b5, 0, none⟩), .pointer (some ⟨b6, 0, none⟩)] (SprJ w b5 b6 gb gn capn N B t) where
  put := fun ms W i v h => by
    obtain ⟨u, h1, h2, h3, h4, h5, h6⟩ := h
    exact ⟨u, h1.setOther e1 _, h2.setOther e2 _, Kd.R_far h3 (fun k hk => hk.1) _, Kd.R_far h4 (fun k hk => by subst hk; exact fun e => e5 e.symm) _, by simpa [World.setCell] using h5, h6.setCell wg _⟩
  drew := fun ms W n h => by
    obtain ⟨u, h1, h2, h3, h4, h5, h6⟩ := h
    exact ⟨u, h1, h2, Kd.R_drewN h3 _, Kd.R_drewN h4 _, h5, pw_below_drewN h6 _⟩
  call := fun ms W d p hJ hlm hd hp => by
    obtain ⟨u, h1, h2, h3, h4, h5', h6'⟩ := hJ
    obtain ⟨l1, l2⟩ := bk_len t ms
    obtain ⟨A, c, rfl⟩ := Kd.R_slice h3
    have hc := h1.cell 0 (v := .slice A (bk t ms).1.length c) rfl
    have hc6 := h2.cell 0 (v := .slice (some ⟨gn, 0, none⟩) N capn) rfl
    obtain ⟨hcg, hfg⟩ := Kd.R_celln (0 : Int) h4 (d : Int) (by omega) (by omega)
    rw [Int.toNat_natCast] at hcg hfg
    have hrd : rdOf (0 : Int) (bk t ms).2 (d : Int) = nth (bk t ms).2 d := by simp [rdOf, nth]
    rw [hrd] at hcg
    have hd0 : (0 : Int) ≤ (d : Int) := by omega
    have hd1 : (d : Int) < (N : Int) := by omega
    have hne : (Value.slice A (bk t ms).1.length c).ownBlock ≠ some b5 := fun e => by have := Kd.R_base h3 _ e; omega
    have hne6 : (Value.slice A (bk t ms).1.length c).ownBlock ≠ some b6 := fun e => by have := Kd.R_base h3 _ e; omega
    have hneg : (Value.slice A (bk t ms).1.length c).ownBlock ≠ some gb := fun e => (h3.1 _ e).1 rfl
    have hnen : (Value.slice A (bk t ms).1.length c).ownBlock ≠ some gn := fun e => (h3.1 _ e).2 rfl
    have hsn := bk_snoc t ms (d, p)
    obtain ⟨o, t', hb⟩ : ∃ o t', bk t ms = (o, t') := ⟨_, _, rfl⟩
    have hrd2 : rdOf (0 : Int) t' (d : Int) = nth t' d := by simp [rdOf, nth]
    rw [hb] at l1 l2 h3 h4 hc hcg hne hne6 hneg hnen hsn h1
    dsimp only at l1 l2 h3 h4 hc hcg hne hne6 hneg hnen hsn h1
    obtain ⟨x, hx⟩ : ∃ x, nth t' d = x := ⟨_, rfl⟩
    rw [hx] at hcg hsn hrd2
    have hcg' : World.cell? { heap := W.heap, tape := W.tape, drawn := W.drawn + 1, os := W.os, output := W.output } ⟨gn, d, none⟩ = some (.int .i64 x) := hcg
    have hc' : World.cell? { heap := W.heap, tape := W.tape, drawn := W.drawn + 1, os := W.os, output := W.output } ⟨b5, 0, none⟩ = some (.slice A o.length c) := hc
    have hc6' : World.cell? { heap := W.heap, tape := W.tape, drawn := W.drawn + 1, os := W.os, output := W.output } ⟨b6, 0, none⟩ = some (.slice (some ⟨gn, 0, none⟩) N capn) := hc6
    have hcga := (Kd.R_celln (0 : Int) (Kd.R_alloc h4 (Obj.cells #[Value.int IntKind.i64 (d : Int), Value.int IntKind.i64 x] 52)) (d : Int) (by omega) (by omega)).1
    rw [Int.toNat_natCast, hrd2] at hcga
    have H1 := Aside0.mk h1
    have H2 := Aside0.mk h2
    have H3 := Aside0.mk h3
    have H4 := Aside0.mk h4
    have H6 := Aside0.mk h6'
    have HN := Aside0.mk hne
    have HN6 := Aside0.mk hne6
    have HNG := Aside0.mk hneg
    have HNN := Aside0.mk hnen
    have HS := Aside0.mk hsn
    have HL := Aside0.mk l1
    have hca5 := (H1.out.alloc (Obj.cells #[Value.int IntKind.i64 (d : Int), Value.int IntKind.i64 x] 52)).cell 0 (v := .slice A o.length c) rfl
    have hca6 := (H2.out.alloc (Obj.cells #[Value.int IntKind.i64 (d : Int), Value.int IntKind.i64 x] 52)).cell 0 (v := .slice (some ⟨gn, 0, none⟩) N capn) rfl
    clear hcg' hc' hc6' h1 h2 h3 h4 h6' hne hne6 hneg hnen hsn hb hx l1 l2 hrd hp
    simp only [List.append_toArray, List.cons_append, List.nil_append]
    go_enter Tryd.func101, Tryd.ntmps101
    go_wp2
    go_region_law (first | (refine R_append_st k52 B (by rfl) (.tmp 6) (.tmp 13) 48 52 (.agg #[(.int .i64 0), (.int .i64 0)]) 16 rfl u48 info52 rfl (by decide) (by omega) (.slice A o.length c) o (⟨(d : Int), x⟩ : S52) [.int .i64 (d : Int), .int .i64 x] (fun j => j ≠ gb ∧ j ≠ gn) (fun _ => False) rfl W.heap.size rfl ((Blk.new W #[.int .i64 (d : Int), .int .i64 x] 52)) (k52_mkM _ _ _ (⟨(d : Int), x⟩ : S52)) (fun _ h => h.elim) (fun k hk => by simp at hk; omega) (Kd.R_drew (Kd.R_alloc H3.out _)) (by simp; omega) (by have := HL.out; omega) ?_; intro v1 w1 ho hg hat; obtain ⟨Ay, cy, ey⟩ := Kd.R_slice ho; subst ey; rw [show (o ++ [(⟨(d : Int), x⟩ : S52)]).length = o.length + 1 by simp] at ho hat; have hb9 := Blk.grown (show Blk (W.alloc (Obj.cells #[Value.int IntKind.i64 (d : Int), Value.int IntKind.i64 x] 52)).drew b5 #[.slice A o.length c] 48 from H1.out.alloc _) hg HN.out; have hc9 := hb9.cell 0 (v := .slice A o.length c) rfl; have hf9 := hb9.free 0; have G1 := Aside0.mk ho; have G2 := Aside0.mk hg; have G4 := Aside0.mk hb9; clear ho hg hat hb9))
    all_goals
      have V0 : Below w.heap.size W ((W.alloc (Obj.cells #[Value.int IntKind.i64 (d : Int), Value.int IntKind.i64 x] 52)).drew) := (((Below.refl _ W).alloc H6.out.size _)).drew
      have V1 : Below w.heap.size W w1 := V0.grown G2.out (by simp; have := H6.out.size; omega) (fun k e => by have := Kd.R_base H3.out k e; omega)
      have V2 : w1.heap[gb]? = W.heap[gb]? := (G2.out.block gb (by simp; omega) (fun e => HNG.out e.symm)).trans (Below.heap_alloc _ _ _ (by omega))
      have V3 : w1.heap[gn]? = W.heap[gn]? := (G2.out.block gn (by simp; omega) (fun e => HNN.out e.symm)).trans (Below.heap_alloc _ _ _ (by omega))
      have V4 := Kd.R_move (w1 := w1) H4.out (fun k hk => by subst hk; exact V3)
      have V6 : Blk w1 b6 #[.slice (some ⟨gn, 0, none⟩) N capn] 46 := Blk.grown (show Blk (W.alloc (Obj.cells #[Value.int IntKind.i64 (d : Int), Value.int IntKind.i64 x] 52)).drew b6 _ 46 from H2.out.alloc _) G2.out HN6.out
      have V5 := Kd.R_far (p := ⟨b5, 0, none⟩) V4 (fun k hk => by subst hk; exact fun e => e3 e.symm) (.slice Ay (o.length + 1) cy)
      obtain ⟨hcg2, hfg2⟩ := Kd.R_celln (0 : Int) V5 (d : Int) (by omega) (by omega)
      rw [Int.toNat_natCast] at hcg2 hfg2
      have hc62 := (V6.setOther (a := ⟨b5, 0, none⟩) (fun e => e6 e.symm) (.slice Ay (o.length + 1) cy)).cell 0 (v := .slice (some ⟨gn, 0, none⟩) N capn) rfl
      have W0 := Aside0.mk V1
      have W2 := Aside0.mk V2
      have W5 := Aside0.mk V5
      have W6 := Aside0.mk V6
      clear V0 V1 V2 V3 V4 V5 V6 hc hc6 hcg hca5 hca6 hcga
      go_wp2
      refine bodyPost_end (results_none rfl _ _ _) rfl ?_
      have hcells := Kd.R_putn W5.out (d : Int) p
      rw [Int.toNat_natCast] at hcells
      refine ⟨⟨_, rfl⟩, ⟨.slice Ay (o.length + 1) cy, ?_, ?_, ?_, ?_, ?_, ?_⟩, ?_, ?_, ?_⟩
      · exact (G4.out.set 0 _).setOther (a := ⟨gn, d, none⟩) e3 _
      · exact (W6.out.setOther (a := ⟨b5, 0, none⟩) (fun e => e6 e.symm) _).setOther (a := ⟨gn, d, none⟩) e4 _
      · rw [HS.out]
        refine Kd.R_mono (Kd.R_far (p := ⟨gn, d, none⟩) (Kd.R_far (p := ⟨b5, 0, none⟩) (Kd.R_bound G1.out) (fun k hk => ?_) _) (fun k hk => hk.1.2) _) (fun _ hk => hk.1)
        have := hk.2.1
        show k ≠ b5
        omega
      · rw [HS.out]
        exact hcells
      · have := G2.out.size
        simp [World.setCell] at this ⊢
        omega
      · exact ((H6.out.trans W0.out).setCell w5 _).setCell wn _
      · exact ((Below.heap_setCell _ _ _ _ e5).trans (Below.heap_setCell _ _ _ _ (fun e => e1 e.symm))).trans W2.out
      · exact (W0.out.setCell w5 _).setCell wn _
      · have := G2.out.size
        simp [World.setCell] at this ⊢
        omega
end Go.Proofs.YtnaaomhmoamfpaaDoor.G
/- slices.Reverse of moves: its contract (the shelf's, laid at this dump). -/
namespace Go.Proofs
set_option linter.unusedVariables false
set_option linter.unusedSimpArgs false
set_option linter.unusedSectionVars false
open Go.Shelf Go.Lib
def Tryd.rev_ren : Go.Shelf.Ren := ⟨fun | 35 => 102 | n => n, fun | 22 => 48 | 23 => 52 | n => n, fun | n => n⟩
theorem Tryd.laysRev : SlLaysE0.n35 Tryd.prog Tryd.rev_ren := {
  mixed := by kernel_rfl
  f35 := ⟨_, by kernel_rfl, Tryd.func102⟩
  t0 := Tryd.underlying0
  a0 := Tryd.isAgg0
  z0 := Tryd.sizeOf0
  v0 := Tryd.zeroValue0
  t3 := Tryd.underlying3
  a3 := Tryd.isAgg3
  z3 := Tryd.sizeOf3
  v3 := Tryd.zeroValue3
  t4 := Tryd.underlying4
  a4 := Tryd.isAgg4
  z4 := Tryd.sizeOf4
  v4 := Tryd.zeroValue4
  t22 := Tryd.underlying48
  a22 := Tryd.isAgg48
  z22 := Tryd.sizeOf48
  v22 := Tryd.zeroValue48 }
end Go.Proofs
namespace Go.Proofs.YtnaaomhmoamfpaaDoor.G
set_option linter.unusedVariables false
set_option linter.unusedSimpArgs false
set_option linter.unusedSectionVars false
open Go.Proofs.YtnaaomhmoamfpaaDoor.Q Go.Proofs.YtnaaomhmoamfpaaDoor.Hn Go.Proofs.YtnaaomhmoamfpaaDoor.K Go.Proofs.YtnaaomhmoamfpaaDoor.It
open Go.RowKit Go.Shelf Go.Sort Go.Proofs.YtnaaomhmoamfpaaDoorW.PrintWords Go.Proofs.YtnaaomhmoamfpaaDoorW.PrintLast Go.Proofs.YtnaaomhmoamfpaaDoorW.PrintMore
instance : Inhabited S52 := ⟨z52⟩
def enc52 (x : S52) : List Value := [.int .i64 x.f0, .int .i64 x.f1]
theorem flat_get (xs : List S52) (j i : Nat) (hj : j < xs.length) (hi : i < 2) : (flatK enc52 2 xs.toArray).toList[j * 2 + i]? = (enc52 (xs[j]'hj))[i]? := by
  have hlt : j * 2 + i < xs.toArray.size * 2 := by simp; omega
  have hs : j * 2 + i < (flatK enc52 2 xs.toArray).size := by rw [size_flatK]; exact hlt
  have h1 := get_flatK enc52 2 xs.toArray (j * 2 + i) hlt
  rw [show (j * 2 + i) / 2 = j by omega, show (j * 2 + i) % 2 = i by omega, getElem!_pos (flatK enc52 2 xs.toArray) (j * 2 + i) hs] at h1
  have h2 : xs.toArray[j]! = xs[j]'hj := by rw [getElem!_pos xs.toArray j (by simpa using hj)]; simp
  rw [h2] at h1
  rw [Array.getElem?_toList, Array.getElem?_eq_getElem hs, h1]
  have h3 : i < (enc52 (xs[j]'hj)).length := hi
  rw [getElem!_pos (enc52 (xs[j]'hj)) i h3, List.getElem?_eq_getElem h3]
theorem flat_cut (xs : List S52) (j : Nat) (hj : j < xs.length) : ((flatK enc52 2 xs.toArray).toList.drop (j * 2)).take 2 = enc52 (xs[j]'hj) := by
  apply List.ext_getElem?
  intro i
  by_cases hi : i < 2
  · rw [List.getElem?_take, if_pos hi, List.getElem?_drop, flat_get xs j i hj hi]
  · rw [List.getElem?_take, if_neg hi, List.getElem?_eq_none (by simp [enc52]; omega)]
theorem reps_flat (w : World) (base : Nat) (ok : Nat → Prop) (xs : List S52) : Reps (k52.M w base ok) k52.sz xs (flatK enc52 2 xs.toArray).toList := by
  refine ⟨by simp; rfl, fun j p hj => ?_⟩
  obtain ⟨hl, rfl⟩ := List.getElem?_eq_some_iff.1 hj
  have := flat_cut xs j hl
  rw [show k52.sz = 2 from rfl, this]
  exact k52_mkM _ _ _ _
theorem flat_of {w : World} {base : Nat} {ok : Nat → Prop} {xs : List S52} {inner : List Value} (h : Reps (k52.M w base ok) k52.sz xs inner) : inner = (flatK enc52 2 xs.toArray).toList := by
  apply List.ext_getElem?
  intro t
  have hlen : inner.length = xs.length * 2 := h.1
  by_cases ht : t < xs.length * 2
  · have hj : t / 2 < xs.length := by omega
    have h1 := k52_openM (h.2 (t / 2) _ (List.getElem?_eq_getElem hj))
    have h2 := flat_get xs (t / 2) (t % 2) hj (by omega)
    rw [show t / 2 * 2 + t % 2 = t by omega] at h2
    rw [h2]
    have h3 := congrArg (fun l : List Value => l[t % 2]?) h1
    rw [List.getElem?_take, if_pos (show t % 2 < k52.sz from Nat.mod_lt _ (by decide)), List.getElem?_drop] at h3
    rw [show t / 2 * k52.sz + t % 2 = t by show t / 2 * 2 + t % 2 = t; omega] at h3
    exact h3
  · rw [List.getElem?_eq_none (by omega), List.getElem?_eq_none (by simp; omega)]

theorem rev_calls {W : World} {base : Nat} {ok : Nat → Prop} {v : Value} {xs : List S52} (h : Kd.R k52 52 W base ok v xs) :
    Calls Tryd.prog 102 #[v] W fun e w' => e = .returned (.tuple #[]) ∧ Kd.R k52 52 w' base ok v xs.reverse ∧ (∀ k, some k ≠ v.ownBlock → w'.heap[k]? = W.heap[k]?) ∧ Below base W w' := by
  obtain ⟨h0, inner, ⟨hl, hown⟩, hr⟩ := h
  rcases hown with ⟨rfl, hn⟩ | ⟨g, cap, cur, rfl, hg, hh, hnc, hcm, hcs, htake⟩
  · have hx : xs = [] := List.eq_nil_of_length_eq_zero hn
    subst hx
    refine (AnyQ.slices_Reverse_empty Tryd.laysRev none 0 W).mono ?_
    rintro e w' ⟨rfl, rfl⟩
    exact ⟨rfl, Kd.R_nil _ _ _ _ _, fun _ _ => rfl, Below.refl _ _⟩
  · have hin := flat_of hr
    have hsz : k52.sz = 2 := rfl
    rw [hsz] at hl hcs htake
    have hholds : HoldsK enc52 2 W g 0 xs.toArray := by
      intro j hj
      rw [size_flatK, List.size_toArray] at hj
      have hjl : j < inner.length := by rw [hl]; exact hj
      have e1 : cur[j]? = some ((flatK enc52 2 xs.toArray)[j]!) := by
        have hjF : j < (flatK enc52 2 xs.toArray).size := by rw [size_flatK, List.size_toArray]; exact hj
        have e2 : inner[j]? = some ((flatK enc52 2 xs.toArray)[j]!) := by rw [hin, Array.getElem?_toList, getElem!_pos (flatK enc52 2 xs.toArray) j hjF, Array.getElem?_eq_getElem hjF]
        rw [← htake, List.getElem?_take, if_pos hj, Array.getElem?_toList] at e2
        exact e2
      have hb : Blk W g cur 52 := hh
      rw [Nat.zero_add]
      exact ⟨hb.cell j e1, hb.free j⟩
    have hb48 := hsz
    refine (AnyQ.slices_Reverse Tryd.laysRev 2 Tryd.isAgg52 Tryd.sizeOf52 enc52 (fun _ => rfl) (fun x u hu => by simp [enc52] at hu; rcases hu with rfl | rfl <;> rfl) g 0 cap xs.toArray W hholds (by unfold maxLen at hcm; simp; omega)).mono ?_
    rintro e w' ⟨rfl, m, rfl⟩
    have hrev : xs.toArray.reverse = xs.reverse.toArray := by simp
    rw [hrev]
    have hput : (putRowK enc52 2 (Sort.ahead W m) g 0 xs.reverse.toArray).heap[g]? = some (.cells (putCells id 0 (flatK enc52 2 xs.reverse.toArray) cur) 52 (0, 0)) := by
      unfold putRowK putRow mapBlock
      simp only [Array.getElem?_modify, if_true]
      rw [show (Sort.ahead W m).heap = W.heap from rfl, hh]
      rfl
    have hother : ∀ k, k ≠ g → (putRowK enc52 2 (Sort.ahead W m) g 0 xs.reverse.toArray).heap[k]? = W.heap[k]? := fun k hk => by
      unfold putRowK putRow mapBlock
      simp only [Array.getElem?_modify]
      rw [if_neg (fun e => hk e.symm)]
      rfl
    refine ⟨rfl, ⟨h0, (flatK enc52 2 xs.reverse.toArray).toList, ⟨by simp; rfl, .inr ⟨g, cap, _, by rw [List.length_reverse], hg, hput, by rw [List.length_reverse]; exact hnc, hcm, by simp [putCells, hcs]; rfl, ?_⟩⟩, reps_flat _ _ _ _⟩, fun k hk => hother k (fun e => hk (by rw [e]; rfl)), ?_⟩
    · apply List.ext_getElem?
      intro t
      rw [List.length_reverse, hsz, List.getElem?_take]
      by_cases ht : t < xs.length * 2
      · have htc : t < cur.size := by rw [hcs]; exact Nat.lt_of_lt_of_le ht (Nat.mul_le_mul_right _ hnc)
        have htF : t < (flatK enc52 2 xs.reverse.toArray).size := by simp; exact ht
        rw [if_pos ht, Array.getElem?_toList, Array.getElem?_toList]
        unfold putCells
        rw [Array.getElem?_mapIdx, Array.getElem?_eq_getElem htc, Option.map_some, if_pos ⟨by omega, by omega⟩, Nat.sub_zero, getElem!_pos (flatK enc52 2 xs.reverse.toArray) t htF, Array.getElem?_eq_getElem htF]
        rfl
      · rw [if_neg ht, List.getElem?_eq_none (by simp; omega)]
    · refine ⟨rfl, rfl, rfl, ?_, fun k hk => hother k (by omega)⟩
      unfold putRowK putRow mapBlock
      simp [Sort.ahead]
end Go.Proofs.YtnaaomhmoamfpaaDoor.G
/- spread: the way from all discs on a peg to some discs: its contract. -/
namespace Go.Proofs.YtnaaomhmoamfpaaDoor.G
set_option linter.unusedVariables false
set_option linter.unusedSimpArgs false
set_option linter.unusedSectionVars false
open Go.Proofs.YtnaaomhmoamfpaaDoor.Q Go.Proofs.YtnaaomhmoamfpaaDoor.Hn Go.Proofs.YtnaaomhmoamfpaaDoor.K Go.Proofs.YtnaaomhmoamfpaaDoor.It
open Go.RowKit Go.Shelf Go.Proofs.YtnaaomhmoamfpaaDoorW.PrintWords Go.Proofs.YtnaaomhmoamfpaaDoorW.PrintLast Go.Proofs.YtnaaomhmoamfpaaDoorW.PrintMore
/-- The way from all discs on peg p to l. -/
def spreadL (l : List Int) (p : Int) : List S52 := (bk l (gatherL l.length l p).1).1.reverse
theorem clone_f {l : List Int} (h0 : 0 < l.length) (h : l.length ≤ 1000) : slices_Clone_int_int.f l = some l := by
  unfold slices_Clone_int_int.f
  exact if_pos ⟨h0, by omega⟩
set_option maxHeartbeats 8000000 in
set_option maxRecDepth 100000 in
theorem spread_calls (A0 : Option Addr) (c0 : Nat) (l : List Int) (p : Int) (w : World) (hr0 : Kd.C (Kd.int .i64) w A0 l.length l) (hc0 : l.length ≤ c0) (h0 : 0 < l.length) (h12 : l.length ≤ 12) (hd : DiscsL l) (hp : Peg p) :
    Calls Tryd.prog 87 #[.slice A0 l.length c0, .int .i64 p] w fun e w' => ∃ v, e = .returned v ∧ Kd.R k52 52 w' w.heap.size (fun _ => True) v (spreadL l p) ∧ Below w.heap.size w w' := by
  have HR := Aside0.mk hr0
  have HC := Aside0.mk hc0
  have HCl := Aside0.mk (clone_f h0 (show l.length ≤ 1000 by omega))
  have HD := Aside0.mk hd
  have HP := Aside0.mk hp
  have H0 := Aside0.mk h0
  have HB := Aside0.mk (Below.refl w.heap.size w)
  clear hr0 hc0 hd hp
  go_enter Tryd.func87, Tryd.ntmps87
  go_wp2_with fail
  have hb5 := Blk.new w #[Value.slice none 0 0] 48
  have hB1 : Below w.heap.size w (w.alloc (Obj.cells #[Value.slice none 0 0] 48)) := (Below.refl _ w).alloc (Nat.le_refl _) _
  refine (slices_Clone_int_int.calls _ _ _ _ _ (Kd.C_below HR.out hB1) HC.out HCl.out).mono ?_
  rintro e w1 ⟨v1, rfl, ho1, hb1⟩
  obtain ⟨gn, capn, ev, hg1, hg2, hg3⟩ := Kd.R_form ho1 H0.out
  subst ev
  rw [World.size_alloc] at hg1
  have K1 := Aside0.mk ho1
  have K2 := Aside0.mk (hb5.below hb1 hb5.lt)
  have K3 := Aside0.mk (hB1.trans (hb1.mono (by simp)))
  clear ho1 hb1 hb5 hB1 hg3
  have hs1 := K3.out.size
  go_wp2_with fail
  have hb6 : Blk (w1.alloc (Obj.cells #[Value.slice (some { block := gn, off := 0 }) l.length capn] 46)) w1.heap.size #[Value.slice (some { block := gn, off := 0 }) l.length capn] 46 := Blk.new _ _ _
  have hbw2 : Below w.heap.size w (w1.alloc (Obj.cells #[Value.slice (some { block := gn, off := 0 }) l.length capn] 46)) := K3.out.alloc hs1 _
  refine (slices_Clone_int_int.calls _ _ _ _ _ (Kd.C_below HR.out hbw2) HC.out HCl.out).mono ?_
  rintro e w2 ⟨v2, rfl, ho2, hb2⟩
  obtain ⟨gb, capb, ev2, hg4, hg5, hg6⟩ := Kd.R_form ho2 H0.out
  subst ev2
  rw [World.size_alloc] at hg4
  have hs2 := hb2.size
  rw [World.size_alloc] at hs2
  have M5 := (K2.out.alloc (Obj.cells #[Value.slice (some { block := gn, off := 0 }) l.length capn] 46)).below hb2 (by have := K2.out.lt; simp; omega)
  have M6 := hb6.below hb2 (by simp)
  have MN := Kd.R_below (Kd.R_alloc K1.out (Obj.cells #[Value.slice (some { block := gn, off := 0 }) l.length capn] 46)) hb2
  have MB : Below w.heap.size w w2 := hbw2.trans (hb2.mono (by simp; omega))
  have hJ : SprJ w w.heap.size w1.heap.size gb gn capn l.length w2.heap.size l [] w2 :=
    ⟨_, M5, M6, Kd.R_nil _ _ _ _ _, Kd.R_lower (Kd.R_mono (Kd.R_tight rfl MN) (fun j hj => Option.some.inj hj)) (by simp), Nat.le_refl _, MB⟩
  have hW := spread_writer w w.heap.size w1.heap.size gb gn capn w2.heap.size l.length 1000000 l rfl (by omega) (by omega) (by omega) (by omega) (by omega) (by omega) (by omega) (by omega) (by omega) (by omega) (by omega) (by omega) (by omega) (by omega) (by omega)
  have hp12 : 2 ^ l.length ≤ 2 ^ 12 := Nat.pow_le_pow_right (by omega) h12
  have hg := gather_calls101 w.heap.size w1.heap.size gb l.length w.heap.size 1000000 capb (by omega) (by omega) _ hW l.length l p [] w2 (Nat.le_refl _) (by simp; omega) rfl HD.out HP.out (by omega) hJ
    (Kd.R_lower (Kd.R_mono (Kd.R_tight rfl ho2) (fun j hj => Option.some.inj hj)) (by simp; omega))
  have HG := Aside0.mk hg
  have HMB := Aside0.mk MB
  clear ho2 hb2 hg6 M5 M6 MN MB hJ hW hg hb6 hbw2
  go_wp2_with fail
  refine HG.out.mono ?_
  rintro e w3 ⟨⟨v3, rfl⟩, ⟨u, h1, h2, h3, h4, h5, h6⟩, h7, h8⟩
  rw [List.nil_append] at h3
  obtain ⟨A3, c3, eu⟩ := Kd.R_slice h3
  subst eu
  have hc5 := h1.cell 0 (v := .slice A3 (bk l (gatherL l.length l p).1).1.length c3) rfl
  have N1 := Aside0.mk h1
  have N3 := Aside0.mk h3
  have N6 := Aside0.mk h6
  clear h1 h2 h3 h4 h5 h6 h7 h8 HG
  go_wp2_with fail
  refine (rev_calls N3.out).mono ?_
  rintro e w4 ⟨rfl, q1, q2, q3⟩
  have hne : some w.heap.size ≠ (Value.slice A3 (bk l (gatherL l.length l p).1).1.length c3).ownBlock := fun e => by have := Kd.R_base N3.out _ e.symm; omega
  have b4 : Blk w4 w.heap.size #[.slice A3 (bk l (gatherL l.length l p).1).1.length c3] 48 := (q2 _ hne).trans N1.out
  have hc54 := b4.cell 0 (v := .slice A3 (bk l (gatherL l.length l p).1).1.length c3) rfl
  have Q1 := Aside0.mk q1
  have Q3 := Aside0.mk q3
  clear q1 q2 q3 hne b4 hc5
  go_wp2
  go_ret
  exact ⟨_, rfl, Kd.R_mono (Kd.R_lower Q1.out (by have := HMB.out.size; omega)) (fun _ _ => trivial), N6.out.trans (Q3.out.mono HMB.out.size)⟩
end Go.Proofs.YtnaaomhmoamfpaaDoor.G
/- Way: what it comes to. -/
namespace Go.Proofs.YtnaaomhmoamfpaaDoor.G
set_option linter.unusedVariables false
set_option linter.unusedSimpArgs false
set_option linter.unusedSectionVars false
open Go.Proofs.YtnaaomhmoamfpaaDoor.Q Go.Proofs.YtnaaomhmoamfpaaDoor.Hn Go.Proofs.YtnaaomhmoamfpaaDoor.K
open Go.RowKit Go.Proofs.YtnaaomhmoamfpaaDoorW.PrintWords Go.Proofs.YtnaaomhmoamfpaaDoorW.PrintLast Go.Proofs.YtnaaomhmoamfpaaDoorW.PrintMore
/-- Disc k is put on peg stop, the smaller ones out of its way. -/
def wayStep (k : Nat) (s : List S52 × List Int) (stop : Int) : List S52 × List Int :=
  (s.1 ++ (gatherL k s.2 (3 - nth s.2 k - stop)).1.map mkI ++ [mkI (k, stop)], (gatherL k s.2 (3 - nth s.2 k - stop)).2.set k stop)
def stopsL (l m : List Int) (k : Nat) : List Int := if two (nth l) (nth m) k < one (nth l) (nth m) k then [3 - nth l k - nth m k, nth m k] else [nth m k]
def wayRun (k : Nat) (l : List Int) (stops : List Int) : List S52 × List Int := stops.foldl (wayStep k) ([], l)
def wayOf (l m : List Int) (k : Nat) : List S52 := if 0 < k then (wayRun k l (stopsL l m k)).1 ++ spreadL (m.take k) (nth (wayRun k l (stopsL l m k)).2 0) else (wayRun k l (stopsL l m k)).1
def hanoi_Way.f (l m : List Int) : Option (List S52 × Int) :=
  if both l m = true then (if 12 < l.length then some ([], 1) else if l = m then some ([], 0) else some (wayOf l m (top (nth l) (nth m) l.length - 1), 0)) else some ([], openD l m)
theorem C_two {w : World} {b : Nat} {A0 A1 : Option Addr} {c0 c1 : Nat} {l0 l1 : List Int} (hb : Blk w b #[.slice A0 l0.length c0, .slice A1 l1.length c1] 46) (h0 : Kd.C (Kd.int .i64) w A0 l0.length l0) (k0 : l0.length ≤ c0) (h1 : Kd.C (Kd.int .i64) w A1 l1.length l1) (k1 : l1.length ≤ c1) :
    Kd.C (Kd.slice 3 (Kd.int .i64)) w (some ⟨b, 0, none⟩) 2 [l0, l1] := by
  refine ⟨rfl, by omega, fun _ => ⟨⟨b, 0, none⟩, rfl, fun j p hj => ?_⟩⟩
  match j, hj with
  | 0, hj =>
    obtain rfl := Option.some.inj hj
    refine ⟨[.slice A0 l0.length c0], rfl, ⟨A0, c0, rfl, k0, h0⟩, fun i u hu => ?_⟩
    match i, hu with
    | 0, hu =>
      obtain rfl := Option.some.inj hu
      exact hb.cell 0 rfl
    | i + 1, hu => cases hu
  | 1, hj =>
    obtain rfl := Option.some.inj hj
    refine ⟨[.slice A1 l1.length c1], rfl, ⟨A1, c1, rfl, k1, h1⟩, fun i u hu => ?_⟩
    match i, hu with
    | 0, hu =>
      obtain rfl := Option.some.inj hu
      exact hb.cell 1 rfl
    | i + 1, hu => cases hu
  | j + 2, hj => cases hj
end Go.Proofs.YtnaaomhmoamfpaaDoor.G
