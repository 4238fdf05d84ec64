/- HanoiGros: without the reference: a step changes the rank by 1; rings that are all off have the rank 0, and rings that are all on that of P3.7; the shortest way goes on by Next: the walk and the plain law, for every input. -/
import Derived.Test.YtnaaomhmoamfpaaDoorA1
import Derived.Test.YtnaaomhmoamfpaaDoorA2
import Derived.Laws.DeepStrings4
import Derived.Deep.QuietTactic
import Derived.BigQuiet
import Derived.Test.YtnaaomhmoamfpaaDoorA4
import Derived.Lib.IndexLaws
namespace Go.Proofs.YtnaaomhmoamfpaaDoor.G
end Go.Proofs.YtnaaomhmoamfpaaDoor.G
namespace Go.Proofs.YtnaaomhmoamfpaaDoor.Q
set_option linter.unusedVariables false
set_option linter.unusedSimpArgs false
set_option linter.unusedSectionVars false
open Go.Proofs.YtnaaomhmoamfpaaDoor.G
open Go.RowKit Go.Proofs.YtnaaomhmoamfpaaDoorW.PrintWords Go.Proofs.YtnaaomhmoamfpaaDoorW.PrintLast Go.Proofs.YtnaaomhmoamfpaaDoorW.PrintMore
attribute [local go_sem] max2_int min2_int max_two min_two max_three min_three max_four min_four   -- for this text's walks alone

/-! ### bibelotlaw03_rings: function 35 -/
def bibelotlaw03_rings.l0 : Nat → ByteArray → Int → List Int → Int → Option (ByteArray)
  | 0, _, _, _, _ => none
  | k + 1, x0, x1, x5, x6 => if x6 < x1 then (if x6 < (x0.size : Int) then (if 0 ≤ x6 then (if x5.length < 140737488355328 then (bibelotlaw03_rings.l0 k x0 x1 (x5 ++ [(48 + (Int.tmod (bt x0 x6) 2)) % 256]) (wrap64 (x6 + 1))) else (none)) else (none)) else (if x5.length < 140737488355328 then (bibelotlaw03_rings.l0 k x0 x1 (x5 ++ [48]) (wrap64 (x6 + 1))) else (none))) else (some (strOfNums x5))
def bibelotlaw03_rings.f (k : Nat) (a0 : ByteArray) (a1 : Int) : Option (ByteArray) := bibelotlaw03_rings.l0 k a0 a1 ([] : List Int) 0
theorem bibelotlaw03_rings.mono_l : ∀ k, (∀ y0 y1 y2 y3, LeO (bibelotlaw03_rings.l0 k y0 y1 y2 y3) (bibelotlaw03_rings.l0 (k + 1) y0 y1 y2 y3))
  | 0 => fun _ _ _ _ r h => by simp [bibelotlaw03_rings.l0] at h
  | k + 1 => by
    have ih0 := bibelotlaw03_rings.mono_l k
    · intro y0 y1 y2 y3
      unfold bibelotlaw03_rings.l0
      repeat' first
      | (with_reducible exact ih0 _ _ _ _)
      | (with_reducible exact LeO.refl _)
      | (with_reducible exact LeO.none _)
      | (with_reducible refine LeO.ite ?_ ?_)
      | (with_reducible refine LeO.bind ?_ (fun _ => ?_))
      | exact ih0 _ _ _ _
      | exact LeO.none _
      | refine LeO.ite ?_ ?_
      | refine LeO.bind ?_ (fun _ => ?_)
theorem bibelotlaw03_rings.mono : ∀ a0 a1 k, LeO (bibelotlaw03_rings.f k a0 a1) (bibelotlaw03_rings.f (k + 1) a0 a1) := by
  intro a0 a1 k
  have ih0 := bibelotlaw03_rings.mono_l k
  unfold bibelotlaw03_rings.f
  repeat' first
      | (with_reducible exact ih0 _ _ _ _)
      | (with_reducible exact LeO.refl _)
      | (with_reducible exact LeO.none _)
      | (with_reducible refine LeO.ite ?_ ?_)
      | (with_reducible refine LeO.bind ?_ (fun _ => ?_))
      | exact ih0 _ _ _ _
      | exact LeO.none _
      | refine LeO.ite ?_ ?_
      | refine LeO.bind ?_ (fun _ => ?_)
set_option maxHeartbeats 8000000 in
set_option maxRecDepth 100000 in
theorem bibelotlaw03_rings.calls (k : Nat) (a0 : ByteArray) (a1 : Int) (r : ByteArray) (w : World) (h : bibelotlaw03_rings.f k a0 a1 = some r) :
    Calls Tryd.prog 35 #[.string a0, .int .i64 a1] w fun e w' => e = .returned (.string r) ∧ Below w.heap.size w w' := by
  have HB := Aside0.mk (Below.refl w.heap.size w)
  have H : (bibelotlaw03_rings.l0 k a0 a1 ([] : List Int) 0) = some r := h
  clear h
  have H' := Aside0.mk H
  clear H
  go_enter Tryd.func35, Tryd.ntmps35
  go_wp2
  go_loopg [5, 6] k (fun kq v5 v6 w' => ∃ (x5_1 : List Int) (x6_1 : Int), v6 = .int .i64 x6_1 ∧ Aside0 (bibelotlaw03_rings.l0 kq a0 a1 x5_1 x6_1 = some r) ∧ Aside0 (kq ≤ k) ∧ Aside0 (Kd.R (Kd.int .u8) 5 w' w.heap.size (fun _ => True) v5 x5_1) ∧ Aside0 (Below w.heap.size w w'))
  case atStart => exact ⟨(([] : List Int)), (0), (by first | rfl | (simp; done) | (simp [*]; done)), H', ⟨Nat.le_refl _⟩, ⟨by first | exact Kd.R_nil _ _ _ _ _ | exact Kd.N_nil _ _ _ _ _ | exact Kd.V_nil _ _ _ _ _ | exact Kd.Q_nil _ _ _ _ _ | exact Kd.S_nil _ _ _ _ _⟩, ⟨by repeat (first | (with_reducible first | exact HB.out | apply below_alloc | apply pw_below_drewN | apply below_drew1) | exact HB.out)⟩⟩
  case round =>
    clear H'
    try clear p2
    obtain ⟨x5_1, x6_1, rfl, HA, HK1, HO_5, HB⟩ := hrel
    cases gk with
    | zero => exact absurd HA.out (by simp [bibelotlaw03_rings.l0])
    | succ k1 =>
      have H := HA.out
      clear HA
      simp only [bibelotlaw03_rings.l0] at H
      by_cases c3 : x6_1 < a1
      · rw [if_pos c3] at H
        have c3b0 : decide (x6_1 < a1) = true := decide_eq_true c3
        clear c3
        by_cases c4 : x6_1 < (a0.size : Int)
        · rw [if_pos c4] at H
          have c4b0 : decide (x6_1 < (a0.size : Int)) = true := decide_eq_true c4
          clear c4
          by_cases c5 : 0 ≤ x6_1
          · rw [if_pos c5] at H
            have c5b0 : decide (0 ≤ x6_1) = true := decide_eq_true c5
            clear c5
            by_cases c7 : x5_1.length < 140737488355328
            · rw [if_pos c7] at H
              have LMc7 := Aside0.mk c7
              clear c7
              obtain ⟨y168, hy168⟩ : ∃ y_ : List Int, y_ = (x5_1 ++ [(48 + (Int.tmod (bt a0 x6_1) 2)) % 256]) := ⟨_, rfl⟩
              replace H : (bibelotlaw03_rings.l0 k1 a0 a1 y168 (wrap64 (x6_1 + 1))) = some r := by first | (rw [hy168]; with_reducible exact H) | (have H2_ := (Option.bind_some _ _).symm.trans H; rw [hy168]; with_reducible exact H2_) | (have H2_ := (Option.bind_some _ _).symm.trans H; with_reducible exact H2_) | with_reducible exact H | (rw [hy168]; exact H) | exact H
              have Ny168 := Aside0.mk hy168
              clear hy168
              have H' := Aside0.mk H
              clear H
              have p6 : 0 ≤ (x6_1 : Int) := of_decide_eq_true (by first | (with_reducible assumption) | assumption)
              have q6 : x6_1 < (a0.size : Int) := of_decide_eq_true (by first | (with_reducible assumption) | assumption)
              have hx6 := bt_at a0 x6_1
              replace p6 := eq_true p6
              replace q6 := eq_true q6
              go_wp2_with (first | ((with_reducible refine gate_builtin (b := .append) (xs := #[.tmp 22, .tmp 24]) rfl ?_); at_builtin; refine Kd.R_append (Kd.int .u8) (w0 := w) w.heap.size rfl (.tmp 22) (.tmp 24) 105 5 (.int .u8 0) 1 rfl Tryd.underlying105 info5 rfl (by decide) (by omega) u5 x5_1 ((48 + (Int.tmod (bt a0 x6_1) 2)) % 256) [.int .u8 ((48 + (Int.tmod (bt a0 x6_1) 2)) % 256)] (fun _ => True) (fun _ => False) rfl rfl ?aP (fun _ hk => hk.elim) ?aF ?aO ?aB ?aS ?aL ?_; (case aP => exact rfl); (case aB => exact (by repeat (first | (with_reducible first | exact HB.out | apply below_alloc | apply pw_below_drewN | apply below_drew1) | exact HB.out))); (case aF => exact (fun _ _ => trivial)); (case aO => exact (by (with_reducible repeat (first | apply Kd.R_alloc | apply Kd.R_drewN | apply Kd.R_drew)); exact HO_5.out)); (case aS => exact (below_size (by repeat (first | (with_reducible first | exact HB.out | apply below_alloc | apply pw_below_drewN | apply below_drew1) | exact HB.out)))); (case aL => have := LMc7.out; omega); intro v169 w8 ho hb hg hat; rw [← Ny168.out] at ho; have n0_ := Aside0.mk (hb); have n1_ := Aside0.mk (ho); clear HB; clear HO_5; have HB := n0_; have HO170 := n1_; clear n0_ n1_; clear ho hb hg hat))
              go_roundg k1
              case measure => have := HK1.out; omega
              case rel => exact ⟨(y168), (wrap64 (x6_1 + 1)), (by first | rfl | (simp; done) | (simp [*]; done)), H', ⟨by have := HK1.out; omega⟩, ⟨by (with_reducible repeat (first | apply Kd.R_alloc | apply Kd.R_drewN | apply Kd.R_drew)); exact HO170.out⟩, ⟨by repeat (first | (with_reducible first | exact HB.out | apply below_alloc | apply pw_below_drewN | apply below_drew1) | exact HB.out)⟩⟩
            · rw [if_neg c7] at H
              exact absurd H (by simp)
          · rw [if_neg c5] at H
            exact absurd H (by simp)
        · rw [if_neg c4] at H
          have c4b0 : decide (x6_1 < (a0.size : Int)) = false := decide_eq_false c4
          clear c4
          by_cases c9 : x5_1.length < 140737488355328
          · rw [if_pos c9] at H
            have LMc9 := Aside0.mk c9
            clear c9
            obtain ⟨y171, hy171⟩ : ∃ y_ : List Int, y_ = (x5_1 ++ [48]) := ⟨_, rfl⟩
            replace H : (bibelotlaw03_rings.l0 k1 a0 a1 y171 (wrap64 (x6_1 + 1))) = some r := by first | (rw [hy171]; with_reducible exact H) | (have H2_ := (Option.bind_some _ _).symm.trans H; rw [hy171]; with_reducible exact H2_) | (have H2_ := (Option.bind_some _ _).symm.trans H; with_reducible exact H2_) | with_reducible exact H | (rw [hy171]; exact H) | exact H
            have Ny171 := Aside0.mk hy171
            clear hy171
            have H' := Aside0.mk H
            clear H
            go_wp2_with (first | ((with_reducible refine gate_builtin (b := .append) (xs := #[.tmp 22, .tmp 24]) rfl ?_); at_builtin; refine Kd.R_append (Kd.int .u8) (w0 := w) w.heap.size rfl (.tmp 22) (.tmp 24) 105 5 (.int .u8 0) 1 rfl Tryd.underlying105 info5 rfl (by decide) (by omega) u5 x5_1 48 [.int .u8 48] (fun _ => True) (fun _ => False) rfl rfl ?aP (fun _ hk => hk.elim) ?aF ?aO ?aB ?aS ?aL ?_; (case aP => exact rfl); (case aB => exact (by repeat (first | (with_reducible first | exact HB.out | apply below_alloc | apply pw_below_drewN | apply below_drew1) | exact HB.out))); (case aF => exact (fun _ _ => trivial)); (case aO => exact (by (with_reducible repeat (first | apply Kd.R_alloc | apply Kd.R_drewN | apply Kd.R_drew)); exact HO_5.out)); (case aS => exact (below_size (by repeat (first | (with_reducible first | exact HB.out | apply below_alloc | apply pw_below_drewN | apply below_drew1) | exact HB.out)))); (case aL => have := LMc9.out; omega); intro v172 w10 ho hb hg hat; rw [← Ny171.out] at ho; have n0_ := Aside0.mk (hb); have n1_ := Aside0.mk (ho); clear HB; clear HO_5; have HB := n0_; have HO173 := n1_; clear n0_ n1_; clear ho hb hg hat))
            go_roundg k1
            case measure => have := HK1.out; omega
            case rel => exact ⟨(y171), (wrap64 (x6_1 + 1)), (by first | rfl | (simp; done) | (simp [*]; done)), H', ⟨by have := HK1.out; omega⟩, ⟨by (with_reducible repeat (first | apply Kd.R_alloc | apply Kd.R_drewN | apply Kd.R_drew)); exact HO173.out⟩, ⟨by repeat (first | (with_reducible first | exact HB.out | apply below_alloc | apply pw_below_drewN | apply below_drew1) | exact HB.out)⟩⟩
          · rw [if_neg c9] at H
            exact absurd H (by simp)
      · rw [if_neg c3] at H
        have c3b0 : decide (x6_1 < a1) = false := decide_eq_false c3
        clear c3
        obtain rfl := Option.some.inj H
        have hcv11 := own_string (P := Tryd.prog) Tryd.underlying105 Tryd.underlying5 Tryd.underlying9 (Kd.own_of_R HO_5.out)
        go_wp2
        go_ret
        exact ⟨by first | rfl | (simp [errW_none, errW_some] <;> rfl) | (simp [*, errW_none, errW_some] <;> rfl), by repeat (first | (with_reducible first | exact HB.out | apply below_alloc | apply pw_below_drewN | apply below_drew1) | exact HB.out)⟩

end Go.Proofs.YtnaaomhmoamfpaaDoor.Q
namespace Go.Proofs.YtnaaomhmoamfpaaDoor.G
end Go.Proofs.YtnaaomhmoamfpaaDoor.G
namespace Go.Proofs.YtnaaomhmoamfpaaDoor.Q
set_option linter.unusedVariables false
set_option linter.unusedSimpArgs false
set_option linter.unusedSectionVars false
open Go.Proofs.YtnaaomhmoamfpaaDoor.G
open Go.RowKit Go.Proofs.YtnaaomhmoamfpaaDoorW.PrintWords Go.Proofs.YtnaaomhmoamfpaaDoorW.PrintLast Go.Proofs.YtnaaomhmoamfpaaDoorW.PrintMore
attribute [local go_sem] max2_int min2_int max_two min_two max_three min_three max_four min_four   -- for this text's walks alone

/-! ### hanoi_Between: function 36 -/
def hanoi_Between.f (k : Nat) (a0 : ByteArray) (a1 : ByteArray) : Option (Int × Int) := (hanoi_openRings.f k a0 a1).bind fun t179 => (if t179 = 0 then ((hanoi_rank.f a1).bind fun t180 => ((hanoi_rank.f a0).bind fun t181 => (some (mx (wrap64 (t180 - t181)) (wrap64 (-(wrap64 (t180 - t181)))), 0)))) else (some (0, t179)))
theorem hanoi_Between.mono : ∀ a0 a1 k, LeO (hanoi_Between.f k a0 a1) (hanoi_Between.f (k + 1) a0 a1) := by
  intro a0 a1 k
  unfold hanoi_Between.f
  repeat' first
      | (with_reducible exact hanoi_openRings.mono _ _ _)
      | (with_reducible exact LeO.refl _)
      | (with_reducible exact LeO.none _)
      | (with_reducible refine LeO.ite ?_ ?_)
      | (with_reducible refine LeO.bind ?_ (fun _ => ?_))
      | exact hanoi_openRings.mono _ _ _
      | exact LeO.none _
      | refine LeO.ite ?_ ?_
      | refine LeO.bind ?_ (fun _ => ?_)
set_option maxHeartbeats 8000000 in
set_option maxRecDepth 100000 in
theorem hanoi_Between.calls (k : Nat) (a0 : ByteArray) (a1 : ByteArray) (r1 : Int) (r2 : Int) (w : World) (h : hanoi_Between.f k a0 a1 = some (r1, r2)) :
    Calls Tryd.prog 36 #[.string a0, .string a1] w fun e w' => e = .returned (.tuple #[.int .i64 r1, .int .i64 r2]) ∧ Below w.heap.size w w' := by
  have HB := Aside0.mk (Below.refl w.heap.size w)
  have H : ((hanoi_openRings.f k a0 a1).bind fun t179 => (if t179 = 0 then ((hanoi_rank.f a1).bind fun t180 => ((hanoi_rank.f a0).bind fun t181 => (some (mx (wrap64 (t180 - t181)) (wrap64 (-(wrap64 (t180 - t181)))), 0)))) else (some (0, t179)))) = some (r1, r2) := h
  clear h
  replace H := Option.bind_eq_some_iff.mp H
  obtain ⟨t179, A30, H⟩ := H
  replace H : (if t179 = 0 then ((hanoi_rank.f a1).bind fun t180 => ((hanoi_rank.f a0).bind fun t181 => (some (mx (wrap64 (t180 - t181)) (wrap64 (-(wrap64 (t180 - t181)))), 0)))) else (some (0, t179))) = some (r1, r2) := H
  have A3 := Aside0.mk A30
  clear A30
  by_cases c4 : t179 = 0
  · rw [if_pos c4] at H
    have c4b0 : (t179 == 0) = true := beq_iff_eq.mpr c4
    have c4b1 : (t179 != 0) = false := bne_eq_false_iff_eq.mpr c4
    clear c4
    replace H := Option.bind_eq_some_iff.mp H
    obtain ⟨t180, A50, H⟩ := H
    replace H : ((hanoi_rank.f a0).bind fun t181 => (some (mx (wrap64 (t180 - t181)) (wrap64 (-(wrap64 (t180 - t181)))), 0))) = some (r1, r2) := H
    have A5 := Aside0.mk A50
    clear A50
    replace H := Option.bind_eq_some_iff.mp H
    obtain ⟨t181, A60, H⟩ := H
    replace H : (some (mx (wrap64 (t180 - t181)) (wrap64 (-(wrap64 (t180 - t181)))), 0)) = some (r1, r2) := H
    have A6 := Aside0.mk A60
    clear A60
    obtain ⟨ji7, hji7⟩ : ∃ j_ : Int, (mx (wrap64 (t180 - t181)) (wrap64 (-(wrap64 (t180 - t181))))) = j_ := ⟨_, rfl⟩
    replace H : (some (ji7, 0)) = some (r1, r2) := by first | (rw [hji7] at H; exact H) | (simp only [hji7] at H ⊢; exact H)
    (try rw [hji7] at A3)
    (try rw [hji7] at A5)
    (try rw [hji7] at A6)
    have hji7_ : (if (wrap64 (t180 - t181)) < (wrap64 (-(wrap64 (t180 - t181)))) then (wrap64 (-(wrap64 (t180 - t181)))) else (wrap64 (t180 - t181))) = ji7 := hji7
    simp only [Option.some.injEq, Prod.mk.injEq] at H
    obtain ⟨rfl, rfl⟩ := H
    go_enter Tryd.func36, Tryd.ntmps36
    go_wp2_with (first | ((with_reducible refine gate_callee (f := 71) rfl ?_); refine goesL_ (some 10) rfl rfl Tryd.func71 (by kernel_rfl) rfl #[.string a0, .string a1] rfl (by (try simp only [List.map_toArray, List.map_cons, List.map_nil]); first | done | rfl | (simp only [List.length_drop, List.length_take]; rfl)) ?_; (with_reducible refine (hanoi_openRings.calls k a0 a1 t179 _ A3.out).mono ?_); rintro e w8 ⟨rfl, hb⟩; refine ⟨_, rfl, ?_⟩; have n0_ := Aside0.mk (below_step (by repeat (first | (with_reducible first | exact HB.out | apply below_alloc | apply pw_below_drewN | apply below_drew1) | exact HB.out)) hb); clear HB; have HB := n0_; clear n0_; (try clear hb); (try clear hb2); (try clear hk); (try clear hi)) | ((with_reducible refine gate_callee (f := 70) rfl ?_); refine goesL_ (some 15) rfl rfl Tryd.func70 (by kernel_rfl) rfl #[.string a1] rfl (by (try simp only [List.map_toArray, List.map_cons, List.map_nil]); first | done | rfl | (simp only [List.length_drop, List.length_take]; rfl)) ?_; (with_reducible refine (hanoi_rank.calls a1 t180 _ A5.out).mono ?_); rintro e w9 ⟨rfl, hb⟩; refine ⟨_, rfl, ?_⟩; have n0_ := Aside0.mk (below_step (by repeat (first | (with_reducible first | exact HB.out | apply below_alloc | apply pw_below_drewN | apply below_drew1) | exact HB.out)) hb); clear HB; have HB := n0_; clear n0_; (try clear hb); (try clear hb2); (try clear hk); (try clear hi)) | ((with_reducible refine gate_callee (f := 70) rfl ?_); refine goesL_ (some 17) rfl rfl Tryd.func70 (by kernel_rfl) rfl #[.string a0] rfl (by (try simp only [List.map_toArray, List.map_cons, List.map_nil]); first | done | rfl | (simp only [List.length_drop, List.length_take]; rfl)) ?_; (with_reducible refine (hanoi_rank.calls a0 t181 _ A6.out).mono ?_); rintro e w10 ⟨rfl, hb⟩; refine ⟨_, rfl, ?_⟩; have n0_ := Aside0.mk (below_step (by repeat (first | (with_reducible first | exact HB.out | apply below_alloc | apply pw_below_drewN | apply below_drew1) | exact HB.out)) hb); clear HB; have HB := n0_; clear n0_; (try clear hb); (try clear hb2); (try clear hk); (try clear hi)))
    go_ret2
    exact ⟨by first | rfl | (simp [errW_none, errW_some] <;> rfl) | (simp only [← hji7]; first | rfl | (simp [errW_none, errW_some] <;> rfl)) | (simp [*, errW_none, errW_some] <;> rfl), by repeat (first | (with_reducible first | exact HB.out | apply below_alloc | apply pw_below_drewN | apply below_drew1) | exact HB.out)⟩
  · rw [if_neg c4] at H
    have c4b0 : (t179 == 0) = false := beq_eq_false_iff_ne.mpr c4
    have c4b1 : (t179 != 0) = true := bne_iff_ne.mpr c4
    simp only [Option.some.injEq, Prod.mk.injEq] at H
    obtain ⟨rfl, rfl⟩ := H
    go_enter Tryd.func36, Tryd.ntmps36
    go_wp2_with (first | ((with_reducible refine gate_callee (f := 71) rfl ?_); refine goesL_ (some 10) rfl rfl Tryd.func71 (by kernel_rfl) rfl #[.string a0, .string a1] rfl (by (try simp only [List.map_toArray, List.map_cons, List.map_nil]); first | done | rfl | (simp only [List.length_drop, List.length_take]; rfl)) ?_; (with_reducible refine (hanoi_openRings.calls k a0 a1 t179 _ A3.out).mono ?_); rintro e w11 ⟨rfl, hb⟩; refine ⟨_, rfl, ?_⟩; have n0_ := Aside0.mk (below_step (by repeat (first | (with_reducible first | exact HB.out | apply below_alloc | apply pw_below_drewN | apply below_drew1) | exact HB.out)) hb); clear HB; have HB := n0_; clear n0_; (try clear hb); (try clear hb2); (try clear hk); (try clear hi)))
    go_ret2
    exact ⟨by first | rfl | (simp [errW_none, errW_some] <;> rfl) | (simp [*, errW_none, errW_some] <;> rfl), by repeat (first | (with_reducible first | exact HB.out | apply below_alloc | apply pw_below_drewN | apply below_drew1) | exact HB.out)⟩

end Go.Proofs.YtnaaomhmoamfpaaDoor.Q
namespace Go.Proofs.YtnaaomhmoamfpaaDoor.G
end Go.Proofs.YtnaaomhmoamfpaaDoor.G
namespace Go.Proofs.YtnaaomhmoamfpaaDoor.Q
set_option linter.unusedVariables false
set_option linter.unusedSimpArgs false
set_option linter.unusedSectionVars false
open Go.Proofs.YtnaaomhmoamfpaaDoor.G
open Go.RowKit Go.Proofs.YtnaaomhmoamfpaaDoorW.PrintWords Go.Proofs.YtnaaomhmoamfpaaDoorW.PrintLast Go.Proofs.YtnaaomhmoamfpaaDoorW.PrintMore
attribute [local go_sem] max2_int min2_int max_two min_two max_three min_three max_four min_four   -- for this text's walks alone

/-! ### hanoi_Steps: function 52 -/
def hanoi_Steps.f (a0 : ByteArray) : Option (List Int × Int) := (hanoi_CheckRings.f a0).bind fun t329 => (if t329 = 0 then ((some (([0] : List Int) : List Int)).bind fun y330 => ((strings_IndexByte.f a0 49).bind fun t333 => (if t333 ≥ 0 then (if (wrap64 (t333 + 1)) < (a0.size : Int) then (if y330.length < 17592186044416 then (some ((y330 ++ [wrap64 (t333 + 1)]), 0)) else (none)) else (some (y330, 0))) else (some (y330, 0))))) else (some (([] : List Int), t329)))
set_option maxHeartbeats 8000000 in
set_option maxRecDepth 100000 in
theorem hanoi_Steps.calls (a0 : ByteArray) (r1 : List Int) (r2 : Int) (w : World) (h : hanoi_Steps.f a0 = some (r1, r2)) :
    Calls Tryd.prog 52 #[.string a0] w fun e w' => ∃ v0_ : Value, e = .returned (.tuple #[v0_, .int .i64 r2]) ∧ Kd.R (Kd.int .i64) 3 w' w.heap.size (fun _ => True) v0_ r1 ∧ Below w.heap.size w w' := by
  have HB := Aside0.mk (Below.refl w.heap.size w)
  have H : ((hanoi_CheckRings.f a0).bind fun t329 => (if t329 = 0 then ((some (([0] : List Int) : List Int)).bind fun y330 => ((strings_IndexByte.f a0 49).bind fun t333 => (if t333 ≥ 0 then (if (wrap64 (t333 + 1)) < (a0.size : Int) then (if y330.length < 17592186044416 then (some ((y330 ++ [wrap64 (t333 + 1)]), 0)) else (none)) else (some (y330, 0))) else (some (y330, 0))))) else (some (([] : List Int), t329)))) = some (r1, r2) := h
  clear h
  replace H := Option.bind_eq_some_iff.mp H
  obtain ⟨t329, A20, H⟩ := H
  replace H : (if t329 = 0 then ((some (([0] : List Int) : List Int)).bind fun y330 => ((strings_IndexByte.f a0 49).bind fun t333 => (if t333 ≥ 0 then (if (wrap64 (t333 + 1)) < (a0.size : Int) then (if y330.length < 17592186044416 then (some ((y330 ++ [wrap64 (t333 + 1)]), 0)) else (none)) else (some (y330, 0))) else (some (y330, 0))))) else (some (([] : List Int), t329))) = some (r1, r2) := H
  have A2 := Aside0.mk A20
  clear A20
  by_cases c3 : t329 = 0
  · rw [if_pos c3] at H
    have c3b0 : (t329 == 0) = true := beq_iff_eq.mpr c3
    have c3b1 : (t329 != 0) = false := bne_eq_false_iff_eq.mpr c3
    clear c3
    obtain ⟨y330, hy330⟩ : ∃ y_ : List Int, y_ = (([0] : List Int)) := ⟨_, rfl⟩
    replace H : ((strings_IndexByte.f a0 49).bind fun t333 => (if t333 ≥ 0 then (if (wrap64 (t333 + 1)) < (a0.size : Int) then (if y330.length < 17592186044416 then (some ((y330 ++ [wrap64 (t333 + 1)]), 0)) else (none)) else (some (y330, 0))) else (some (y330, 0)))) = some (r1, r2) := by first | (rw [hy330]; with_reducible exact H) | (have H2_ := (Option.bind_some _ _).symm.trans H; rw [hy330]; with_reducible exact H2_) | (have H2_ := (Option.bind_some _ _).symm.trans H; with_reducible exact H2_) | with_reducible exact H | (rw [hy330]; exact H) | exact H
    have Ny330 := Aside0.mk hy330
    clear hy330
    replace H := Option.bind_eq_some_iff.mp H
    obtain ⟨t333, A40, H⟩ := H
    replace H : (if t333 ≥ 0 then (if (wrap64 (t333 + 1)) < (a0.size : Int) then (if y330.length < 17592186044416 then (some ((y330 ++ [wrap64 (t333 + 1)]), 0)) else (none)) else (some (y330, 0))) else (some (y330, 0))) = some (r1, r2) := H
    have A4 := Aside0.mk A40
    clear A40
    by_cases c5 : t333 ≥ 0
    · rw [if_pos c5] at H
      have c5b0 : decide (0 ≤ t333) = true := decide_eq_true c5
      clear c5
      by_cases c6 : (wrap64 (t333 + 1)) < (a0.size : Int)
      · rw [if_pos c6] at H
        have c6b0 : decide ((wrap64 (t333 + 1)) < (a0.size : Int)) = true := decide_eq_true c6
        clear c6
        by_cases c7 : y330.length < 17592186044416
        · rw [if_pos c7] at H
          have LMc7 := Aside0.mk c7
          clear c7
          obtain ⟨y334, hy334⟩ : ∃ y_ : List Int, y_ = (y330 ++ [wrap64 (t333 + 1)]) := ⟨_, rfl⟩
          replace H : (some (y334, 0)) = some (r1, r2) := by first | (rw [hy334]; with_reducible exact H) | (have H2_ := (Option.bind_some _ _).symm.trans H; rw [hy334]; with_reducible exact H2_) | (have H2_ := (Option.bind_some _ _).symm.trans H; with_reducible exact H2_) | with_reducible exact H | (rw [hy334]; exact H) | exact H
          have Ny334 := Aside0.mk hy334
          clear hy334
          simp only [Option.some.injEq, Prod.mk.injEq] at H
          obtain ⟨rfl, rfl⟩ := H
          go_enter Tryd.func52, Tryd.ntmps52
          go_wp2_with (first | ((with_reducible refine gate_callee (f := 53) rfl ?_); refine goesL_ (some 8) rfl rfl Tryd.func53 (by kernel_rfl) rfl #[.string a0] rfl (by (try simp only [List.map_toArray, List.map_cons, List.map_nil]); first | done | rfl | (simp only [List.length_drop, List.length_take]; rfl)) ?_; (with_reducible refine (hanoi_CheckRings.calls a0 t329 _ A2.out).mono ?_); rintro e w8 ⟨rfl, hb⟩; refine ⟨_, rfl, ?_⟩; have n0_ := Aside0.mk (below_step (by repeat (first | (with_reducible first | exact HB.out | apply below_alloc | apply pw_below_drewN | apply below_drew1) | exact HB.out)) hb); clear HB; have HB := n0_; clear n0_; (try clear hb); (try clear hb2); (try clear hk); (try clear hi)) | ((with_reducible refine gate_dst (N := 12) rfl ?_); (try (refine gate_guard (by rfl) ?_; dsimp only)); refine Kd.R_lit (Kd.int .i64) _ 3 ?hg (N := 12) ?hd (xs := ([0] : List Int)) (inner := [.int .i64 0]) (ok := fun _ => True) (okp := fun _ => True) ?hr ?hp (fun _ hk => hk) trivial (Below.refl _ _) (Nat.le_refl _) (by simp) ?_; (case hd => rfl); (case hg => rfl); (case hr => first | (go_simp; done) | (go_simp; rfl)); (case hp => exact (Reps.one (show Kd.M (Kd.int .i64) _ _ _ 0 [.int .i64 0] from rfl) (Reps.none _ _))); intro v331 w9 ho10 hb hg_ hnew_; clear hg_ hnew_; (first | rw [← Ny330.out] at ho10 | (simp only [Int.reduceToNat] at ho10; rw [← Ny330.out] at ho10)); have n0_ := Aside0.mk (Kd.R_lower ho10 (below_size (by repeat (first | (with_reducible first | exact HB.out | apply below_alloc | apply pw_below_drewN | apply below_drew1) | exact HB.out)))); have n1_ := Aside0.mk (below_step (by repeat (first | (with_reducible first | exact HB.out | apply below_alloc | apply pw_below_drewN | apply below_drew1) | exact HB.out)) hb); clear HB; have HO332 := n0_; have HB := n1_; clear n0_ n1_; clear hb ho10) | ((with_reducible refine gate_callee (f := 81) rfl ?_); refine goesL_ (some 14) rfl rfl Tryd.func81 (by kernel_rfl) rfl #[.string a0, .int .u8 49] rfl (by (try simp only [List.map_toArray, List.map_cons, List.map_nil]); first | done | rfl | (simp only [List.length_drop, List.length_take]; rfl)) ?_; (with_reducible refine (strings_IndexByte.calls a0 49 t333 _ A4.out).mono ?_); rintro e w' ⟨rfl, ⟨nd, rfl⟩⟩; refine ⟨_, rfl, ?_⟩) | ((with_reducible refine gate_builtin (b := .append) (xs := #[.tmp 24, .tmp 27]) rfl ?_); (try (refine gate_guard (by rfl) ?_; dsimp only)); at_builtin; refine Kd.R_append (Kd.int .i64) (w0 := w) w.heap.size rfl (.tmp 24) (.tmp 27) 46 3 (.int .i64 0) 8 rfl Tryd.underlying46 info3 rfl (by decide) (by omega) v331 y330 (wrap64 (t333 + 1)) [.int .i64 (wrap64 (t333 + 1))] (fun _ => True) (fun _ => False) rfl rfl ?aP (fun _ hk => hk.elim) ?aF ?aO ?aB ?aS ?aL ?_; (case aP => exact rfl); (case aB => exact (by repeat (first | (with_reducible first | exact HB.out | apply below_alloc | apply pw_below_drewN | apply below_drew1) | exact HB.out))); (case aF => exact (fun _ _ => trivial)); (case aO => exact (by (with_reducible repeat (first | apply Kd.R_alloc | apply Kd.R_drewN | apply Kd.R_drew)); exact HO332.out)); (case aS => exact (below_size (by repeat (first | (with_reducible first | exact HB.out | apply below_alloc | apply pw_below_drewN | apply below_drew1) | exact HB.out)))); (case aL => have := LMc7.out; omega); intro v335 w11 ho hb hg hat; rw [← Ny334.out] at ho; have n0_ := Aside0.mk (hb); have n1_ := Aside0.mk (ho); clear HB; clear HO332; have HB := n0_; have HO336 := n1_; clear n0_ n1_; clear ho hb hg hat))
          go_ret2
          exact ⟨_, by first | rfl | (simp [errW_none, errW_some] <;> rfl) | (simp [*, errW_none, errW_some] <;> rfl), by (with_reducible repeat (first | apply Kd.R_alloc | apply Kd.R_drewN | apply Kd.R_drew)); exact HO336.out, by repeat (first | (with_reducible first | exact HB.out | apply below_alloc | apply pw_below_drewN | apply below_drew1) | exact HB.out)⟩
        · rw [if_neg c7] at H
          exact absurd H (by simp)
      · rw [if_neg c6] at H
        have c6b0 : decide ((wrap64 (t333 + 1)) < (a0.size : Int)) = false := decide_eq_false c6
        clear c6
        simp only [Option.some.injEq, Prod.mk.injEq] at H
        obtain ⟨rfl, rfl⟩ := H
        go_enter Tryd.func52, Tryd.ntmps52
        go_wp2_with (first | ((with_reducible refine gate_callee (f := 53) rfl ?_); refine goesL_ (some 8) rfl rfl Tryd.func53 (by kernel_rfl) rfl #[.string a0] rfl (by (try simp only [List.map_toArray, List.map_cons, List.map_nil]); first | done | rfl | (simp only [List.length_drop, List.length_take]; rfl)) ?_; (with_reducible refine (hanoi_CheckRings.calls a0 t329 _ A2.out).mono ?_); rintro e w12 ⟨rfl, hb⟩; refine ⟨_, rfl, ?_⟩; have n0_ := Aside0.mk (below_step (by repeat (first | (with_reducible first | exact HB.out | apply below_alloc | apply pw_below_drewN | apply below_drew1) | exact HB.out)) hb); clear HB; have HB := n0_; clear n0_; (try clear hb); (try clear hb2); (try clear hk); (try clear hi)) | ((with_reducible refine gate_dst (N := 12) rfl ?_); (try (refine gate_guard (by rfl) ?_; dsimp only)); refine Kd.R_lit (Kd.int .i64) _ 3 ?hg (N := 12) ?hd (xs := ([0] : List Int)) (inner := [.int .i64 0]) (ok := fun _ => True) (okp := fun _ => True) ?hr ?hp (fun _ hk => hk) trivial (Below.refl _ _) (Nat.le_refl _) (by simp) ?_; (case hd => rfl); (case hg => rfl); (case hr => first | (go_simp; done) | (go_simp; rfl)); (case hp => exact (Reps.one (show Kd.M (Kd.int .i64) _ _ _ 0 [.int .i64 0] from rfl) (Reps.none _ _))); intro v331 w13 ho14 hb hg_ hnew_; clear hg_ hnew_; (first | rw [← Ny330.out] at ho14 | (simp only [Int.reduceToNat] at ho14; rw [← Ny330.out] at ho14)); have n0_ := Aside0.mk (Kd.R_lower ho14 (below_size (by repeat (first | (with_reducible first | exact HB.out | apply below_alloc | apply pw_below_drewN | apply below_drew1) | exact HB.out)))); have n1_ := Aside0.mk (below_step (by repeat (first | (with_reducible first | exact HB.out | apply below_alloc | apply pw_below_drewN | apply below_drew1) | exact HB.out)) hb); clear HB; have HO332 := n0_; have HB := n1_; clear n0_ n1_; clear hb ho14) | ((with_reducible refine gate_callee (f := 81) rfl ?_); refine goesL_ (some 14) rfl rfl Tryd.func81 (by kernel_rfl) rfl #[.string a0, .int .u8 49] rfl (by (try simp only [List.map_toArray, List.map_cons, List.map_nil]); first | done | rfl | (simp only [List.length_drop, List.length_take]; rfl)) ?_; (with_reducible refine (strings_IndexByte.calls a0 49 t333 _ A4.out).mono ?_); rintro e w' ⟨rfl, ⟨nd, rfl⟩⟩; refine ⟨_, rfl, ?_⟩))
        go_ret2
        exact ⟨_, by first | rfl | (simp [errW_none, errW_some] <;> rfl) | (simp [*, errW_none, errW_some] <;> rfl), by (with_reducible repeat (first | apply Kd.R_alloc | apply Kd.R_drewN | apply Kd.R_drew)); exact HO332.out, by repeat (first | (with_reducible first | exact HB.out | apply below_alloc | apply pw_below_drewN | apply below_drew1) | exact HB.out)⟩
    · rw [if_neg c5] at H
      have c5b0 : decide (0 ≤ t333) = false := decide_eq_false c5
      clear c5
      simp only [Option.some.injEq, Prod.mk.injEq] at H
      obtain ⟨rfl, rfl⟩ := H
      go_enter Tryd.func52, Tryd.ntmps52
      go_wp2_with (first | ((with_reducible refine gate_callee (f := 53) rfl ?_); refine goesL_ (some 8) rfl rfl Tryd.func53 (by kernel_rfl) rfl #[.string a0] rfl (by (try simp only [List.map_toArray, List.map_cons, List.map_nil]); first | done | rfl | (simp only [List.length_drop, List.length_take]; rfl)) ?_; (with_reducible refine (hanoi_CheckRings.calls a0 t329 _ A2.out).mono ?_); rintro e w15 ⟨rfl, hb⟩; refine ⟨_, rfl, ?_⟩; have n0_ := Aside0.mk (below_step (by repeat (first | (with_reducible first | exact HB.out | apply below_alloc | apply pw_below_drewN | apply below_drew1) | exact HB.out)) hb); clear HB; have HB := n0_; clear n0_; (try clear hb); (try clear hb2); (try clear hk); (try clear hi)) | ((with_reducible refine gate_dst (N := 12) rfl ?_); (try (refine gate_guard (by rfl) ?_; dsimp only)); refine Kd.R_lit (Kd.int .i64) _ 3 ?hg (N := 12) ?hd (xs := ([0] : List Int)) (inner := [.int .i64 0]) (ok := fun _ => True) (okp := fun _ => True) ?hr ?hp (fun _ hk => hk) trivial (Below.refl _ _) (Nat.le_refl _) (by simp) ?_; (case hd => rfl); (case hg => rfl); (case hr => first | (go_simp; done) | (go_simp; rfl)); (case hp => exact (Reps.one (show Kd.M (Kd.int .i64) _ _ _ 0 [.int .i64 0] from rfl) (Reps.none _ _))); intro v331 w16 ho17 hb hg_ hnew_; clear hg_ hnew_; (first | rw [← Ny330.out] at ho17 | (simp only [Int.reduceToNat] at ho17; rw [← Ny330.out] at ho17)); have n0_ := Aside0.mk (Kd.R_lower ho17 (below_size (by repeat (first | (with_reducible first | exact HB.out | apply below_alloc | apply pw_below_drewN | apply below_drew1) | exact HB.out)))); have n1_ := Aside0.mk (below_step (by repeat (first | (with_reducible first | exact HB.out | apply below_alloc | apply pw_below_drewN | apply below_drew1) | exact HB.out)) hb); clear HB; have HO332 := n0_; have HB := n1_; clear n0_ n1_; clear hb ho17) | ((with_reducible refine gate_callee (f := 81) rfl ?_); refine goesL_ (some 14) rfl rfl Tryd.func81 (by kernel_rfl) rfl #[.string a0, .int .u8 49] rfl (by (try simp only [List.map_toArray, List.map_cons, List.map_nil]); first | done | rfl | (simp only [List.length_drop, List.length_take]; rfl)) ?_; (with_reducible refine (strings_IndexByte.calls a0 49 t333 _ A4.out).mono ?_); rintro e w' ⟨rfl, ⟨nd, rfl⟩⟩; refine ⟨_, rfl, ?_⟩))
      go_ret2
      exact ⟨_, by first | rfl | (simp [errW_none, errW_some] <;> rfl) | (simp [*, errW_none, errW_some] <;> rfl), by (with_reducible repeat (first | apply Kd.R_alloc | apply Kd.R_drewN | apply Kd.R_drew)); exact HO332.out, by repeat (first | (with_reducible first | exact HB.out | apply below_alloc | apply pw_below_drewN | apply below_drew1) | exact HB.out)⟩
  · rw [if_neg c3] at H
    have c3b0 : (t329 == 0) = false := beq_eq_false_iff_ne.mpr c3
    have c3b1 : (t329 != 0) = true := bne_iff_ne.mpr c3
    simp only [Option.some.injEq, Prod.mk.injEq] at H
    obtain ⟨rfl, rfl⟩ := H
    go_enter Tryd.func52, Tryd.ntmps52
    go_wp2_with (first | ((with_reducible refine gate_callee (f := 53) rfl ?_); refine goesL_ (some 8) rfl rfl Tryd.func53 (by kernel_rfl) rfl #[.string a0] rfl (by (try simp only [List.map_toArray, List.map_cons, List.map_nil]); first | done | rfl | (simp only [List.length_drop, List.length_take]; rfl)) ?_; (with_reducible refine (hanoi_CheckRings.calls a0 t329 _ A2.out).mono ?_); rintro e w18 ⟨rfl, hb⟩; refine ⟨_, rfl, ?_⟩; have n0_ := Aside0.mk (below_step (by repeat (first | (with_reducible first | exact HB.out | apply below_alloc | apply pw_below_drewN | apply below_drew1) | exact HB.out)) hb); clear HB; have HB := n0_; clear n0_; (try clear hb); (try clear hb2); (try clear hk); (try clear hi)))
    go_ret2
    exact ⟨_, by first | rfl | (simp [errW_none, errW_some] <;> rfl) | (simp [*, errW_none, errW_some] <;> rfl), by first | exact Kd.R_nil _ _ _ _ _ | exact Kd.N_nil _ _ _ _ _ | exact Kd.V_nil _ _ _ _ _ | exact Kd.Q_nil _ _ _ _ _ | exact Kd.S_nil _ _ _ _ _, by repeat (first | (with_reducible first | exact HB.out | apply below_alloc | apply pw_below_drewN | apply below_drew1) | exact HB.out)⟩

end Go.Proofs.YtnaaomhmoamfpaaDoor.Q
/- Rings with one of them changed. -/
namespace Go.Proofs.YtnaaomhmoamfpaaDoor.G
set_option linter.unusedVariables false
set_option linter.unusedSimpArgs false
set_option linter.unusedSectionVars false
open Go.Proofs.YtnaaomhmoamfpaaDoor.Q Go.Proofs.YtnaaomhmoamfpaaDoor.Hn
open Go.RowKit Go.Proofs.YtnaaomhmoamfpaaDoorW.PrintWords Go.Proofs.YtnaaomhmoamfpaaDoorW.PrintLast Go.Proofs.YtnaaomhmoamfpaaDoorW.PrintMore

/-- The rings with ring i changed. -/
def chg (s : ByteArray) (i : Nat) : ByteArray := (s.extract 0 i ++ (if s.data.toList.getD i 48 = 49 then ⟨#[48]⟩ else ⟨#[49]⟩ : ByteArray)) ++ s.extract (i + 1) s.size
def bibelotref03_Changed.f (s : ByteArray) (i : Int) : Option ByteArray := if 0 ≤ i ∧ i < (s.size : Int) ∧ (s.size : Int) ≤ 1000 then some (chg s i.toNat) else none

theorem cut_head (s : ByteArray) (i : Nat) (hi : i < s.size) (W : World) : (Instr.slice 9 (.string s) none (some (.int .i64 (i : Int))) none).run Tryd.prog W = .ok (.string (s.extract 0 i)) W := by
  have h9 : Tryd.prog.underlying 9 = some .string := by kernel_rfl
  have p1 : (i : Int) ≤ (s.size : Int) := by omega
  simp [Instr.slice, Instr.sliceBounds, Instr.sliceBound, asIntOf, run_underlying h9, go_sem]
  intro h
  omega
theorem cut_tail (s : ByteArray) (i : Nat) (hi : i ≤ s.size) (W : World) : (Instr.slice 9 (.string s) (some (.int .i64 (i : Int))) none none).run Tryd.prog W = .ok (.string (s.extract i s.size)) W := by
  have h9 : Tryd.prog.underlying 9 = some .string := by kernel_rfl
  have p1 : (i : Int) ≤ (s.size : Int) := by omega
  simp [Instr.slice, Instr.sliceBounds, Instr.sliceBound, asIntOf, run_underlying h9, go_sem]
  intro h
  omega

set_option maxHeartbeats 4000000 in
theorem changed_calls (s : ByteArray) (i : Nat) (hi : i < s.size) (hs : s.size ≤ 1000) (w : World) :
    Calls Tryd.prog 39 #[.string s, .int .i64 (i : Int)] w fun e w' => e = .returned (.string (chg s i)) ∧ Drawn0 w w' := by
  have p0 : (0 : Int) ≤ (i : Int) := by omega
  have p1 : (i : Int) < (s.size : Int) := by omega
  have q1 : (i : Int) + 1 ≤ 1000 := by omega
  have c1 := cut_head s i hi
  have c2 := cut_tail s (i + 1) (by omega)
  rw [Int.natCast_add, Int.natCast_one] at c2
  have z1 : (s.extract 0 i).size = i := by simp; omega
  have z2 : (s.extract (i + 1) s.size).size = s.size - (i + 1) := by simp
  have hlt : i < s.data.toList.length := hi
  have hget : s.data.toList.getD i 48 = s[i] := by rw [List.getD_eq_getElem?_getD, List.getElem?_eq_getElem hlt]; rfl
  by_cases hb : s[i] = 49
  · have hc : chg s i = (s.extract 0 i ++ ⟨#[48]⟩) ++ s.extract (i + 1) s.size := by unfold chg; rw [hget, if_pos hb]
    have HC := Aside0.mk hc
    have b0 : (((s[i].toNat : Nat) : Int) == 49) = true := by rw [hb]; rfl
    obtain ⟨A, hA⟩ : ∃ A, s.extract 0 i = A := ⟨_, rfl⟩
    obtain ⟨B, hB⟩ : ∃ B, s.extract (i + 1) s.size = B := ⟨_, rfl⟩
    rw [hA] at c1 z1
    rw [hB] at c2 z2
    rw [hA, hB] at HC
    have y1 : A.size + 1 ≤ 1001 := by omega
    have y2 : (A ++ (⟨#[48]⟩ : ByteArray)).size + B.size ≤ 2002 := by rw [ByteArray.size_append]; show A.size + 1 + B.size ≤ _; omega
    clear hc hb hget hA hB z1 z2
    go_enter Tryd.func39, Tryd.ntmps39
    go_wp2
    go_quiet (fail)
    go_wp2
    go_ret
    exact ⟨by rw [HC.out]; rfl, by repeat (first | exact Drawn0.refl _ | apply Drawn0.step)⟩
  · have hc : chg s i = (s.extract 0 i ++ ⟨#[49]⟩) ++ s.extract (i + 1) s.size := by unfold chg; rw [hget, if_neg hb]
    have HC := Aside0.mk hc
    have b0 : (((s[i].toNat : Nat) : Int) == 49) = false := by
      rw [beq_eq_false_iff_ne]
      intro h
      apply hb
      apply UInt8.toNat_inj.1
      show s[i].toNat = 49
      omega
    obtain ⟨A, hA⟩ : ∃ A, s.extract 0 i = A := ⟨_, rfl⟩
    obtain ⟨B, hB⟩ : ∃ B, s.extract (i + 1) s.size = B := ⟨_, rfl⟩
    rw [hA] at c1 z1
    rw [hB] at c2 z2
    rw [hA, hB] at HC
    have y1 : A.size + 1 ≤ 1001 := by omega
    have y2 : (A ++ (⟨#[49]⟩ : ByteArray)).size + B.size ≤ 2002 := by rw [ByteArray.size_append]; show A.size + 1 + B.size ≤ _; omega
    clear hc hb hget hA hB z1 z2
    go_enter Tryd.func39, Tryd.ntmps39
    go_wp2
    go_quiet (fail)
    go_wp2
    go_ret
    exact ⟨by rw [HC.out]; rfl, by repeat (first | exact Drawn0.refl _ | apply Drawn0.step)⟩
theorem bibelotref03_Changed.calls (a0 : ByteArray) (a1 : Int) (r : ByteArray) (w : World) (h : bibelotref03_Changed.f a0 a1 = some r) :
    Calls Tryd.prog 39 #[.string a0, .int .i64 a1] w fun e w' => e = .returned (.string r) ∧ Drawn0 w w' := by
  unfold bibelotref03_Changed.f at h
  split at h
  · rename_i hc
    obtain ⟨i, rfl⟩ := Int.eq_ofNat_of_zero_le hc.1
    cases h
    exact changed_calls a0 i (by omega) (by omega) w
  · cases h
end Go.Proofs.YtnaaomhmoamfpaaDoor.G
namespace Go.Proofs.YtnaaomhmoamfpaaDoor.G
end Go.Proofs.YtnaaomhmoamfpaaDoor.G
namespace Go.Proofs.YtnaaomhmoamfpaaDoor.Q
set_option linter.unusedVariables false
set_option linter.unusedSimpArgs false
set_option linter.unusedSectionVars false
open Go.Proofs.YtnaaomhmoamfpaaDoor.G
open Go.RowKit Go.Proofs.YtnaaomhmoamfpaaDoorW.PrintWords Go.Proofs.YtnaaomhmoamfpaaDoorW.PrintLast Go.Proofs.YtnaaomhmoamfpaaDoorW.PrintMore
attribute [local go_sem] max2_int min2_int max_two min_two max_three min_three max_four min_four   -- for this text's walks alone

/-! ### bibelotlaw03_HanoiGros: function 15 -/
mutual
def bibelotlaw03_HanoiGros.j0 : Nat → Int → Int → ByteArray → Int → List Int → Bool → Option (Bool)
  | 0, _, _, _, _, _, _ => none
  | k + 1, x0, x2, x7, x8, x10, x58 => if x58 = true then (some false) else (if (IntKind.u64.wrap ((x10.length : Int))) = 0 then (none) else (if 0 ≤ (wrap64 (Int.tmod (IntKind.u64.wrap (x2)) (IntKind.u64.wrap ((x10.length : Int))))) then (if (wrap64 (Int.tmod (IntKind.u64.wrap (x2)) (IntKind.u64.wrap ((x10.length : Int))))) < (x10.length : Int) then (if (rd x10 (wrap64 (Int.tmod (IntKind.u64.wrap (x2)) (IntKind.u64.wrap ((x10.length : Int)))))) < 0 then (bibelotlaw03_HanoiGros.j1 k x0 x7 x8 (rd x10 (wrap64 (Int.tmod (IntKind.u64.wrap (x2)) (IntKind.u64.wrap ((x10.length : Int)))))) true) else (bibelotlaw03_HanoiGros.j1 k x0 x7 x8 (rd x10 (wrap64 (Int.tmod (IntKind.u64.wrap (x2)) (IntKind.u64.wrap ((x10.length : Int)))))) (decide ((rd x10 (wrap64 (Int.tmod (IntKind.u64.wrap (x2)) (IntKind.u64.wrap ((x10.length : Int)))))) ≥ x0)))) else (none)) else (none)))
def bibelotlaw03_HanoiGros.j1 : Nat → Int → ByteArray → Int → Int → Bool → Option (Bool)
  | 0, _, _, _, _, _ => none
  | k + 1, x0, x7, x8, x12, x75 => if x75 = true then (some false) else ((bibelotref03_Changed.f x7 x12).bind fun t376 => ((hanoi_Rank.f t376).bind fun bt377 => ((hanoi_Between.f k x7 t376).bind fun bt379 => ((hanoi_Next.f x7 t376).bind fun bt381 => (if bt377.2 = 0 then (if bt379.2 = 0 then (if bt381.2 = 0 then (if bt377.1 = (wrap64 (x8 + 1)) then (if bt379.1 = 1 then (bibelotlaw03_HanoiGros.j2 k x0 (bt381.1 != x12)) else (bibelotlaw03_HanoiGros.j2 k x0 true)) else (if bt377.1 = (wrap64 (x8 - 1)) then (if bt379.1 = 1 then (bibelotlaw03_HanoiGros.j2 k x0 (bt381.1 != x12)) else (bibelotlaw03_HanoiGros.j2 k x0 true)) else (bibelotlaw03_HanoiGros.j2 k x0 true))) else (bibelotlaw03_HanoiGros.j2 k x0 true)) else (bibelotlaw03_HanoiGros.j2 k x0 true)) else (bibelotlaw03_HanoiGros.j2 k x0 true))))))
def bibelotlaw03_HanoiGros.j2 : Nat → Int → Bool → Option (Bool)
  | 0, _, _ => none
  | k + 1, x0, x126 => if x126 = true then (some false) else (bibelotlaw03_HanoiGros.l0 k x0 (⟨#[]⟩ : ByteArray) (⟨#[]⟩ : ByteArray) 0)
def bibelotlaw03_HanoiGros.l0 : Nat → Int → ByteArray → ByteArray → Int → Option (Bool)
  | 0, _, _, _, _ => none
  | k + 1, x0, x20, x21, x22 => if x22 < x0 then (if x20.size + 1 ≤ 9223372036854775807 then (if x21.size + 1 ≤ 9223372036854775807 then (bibelotlaw03_HanoiGros.l0 k x0 (x20 ++ (⟨#[48]⟩ : ByteArray)) (x21 ++ (⟨#[49]⟩ : ByteArray)) (wrap64 (x22 + 1))) else (none)) else (none)) else ((hanoi_Rank.f x20).bind fun bt383 => ((hanoi_Rank.f x21).bind fun bt385 => (if 0 ≤ (wrap64 (x0 + 1)) then (if bt383.2 = 0 then (if bt383.1 = 0 then (if bt385.2 = 0 then (if bt385.1 = (wrap64 (Int.tdiv (wrap64 ((shl .i64 1 (wrap64 (x0 + 1))) - 1)) 3)) then ((bibelotlaw03_awake.f k).bind fun t387 => (some t387)) else (some false)) else (some false)) else (some false)) else (some false)) else (none))))
end
def bibelotlaw03_HanoiGros.f (k : Nat) (a0 : Int) (a1 : ByteArray) (a2 : Int) : Option (Bool) := (bibelotlaw03_many.f a0 60).bind fun t367 => ((bibelotlaw03_rings.f k a1 t367).bind fun t368 => ((hanoi_Rank.f t368).bind fun bt369 => ((hanoi_Steps.f t368).bind fun bt371 => (if bt369.2 = 0 then (if bt371.2 = 0 then (if (bt371.1.length : Int) < 1 then (bibelotlaw03_HanoiGros.j0 k t367 a2 t368 bt369.1 bt371.1 true) else (bibelotlaw03_HanoiGros.j0 k t367 a2 t368 bt369.1 bt371.1 (decide ((bt371.1.length : Int) > 2)))) else (bibelotlaw03_HanoiGros.j0 k t367 a2 t368 bt369.1 bt371.1 true)) else (bibelotlaw03_HanoiGros.j0 k t367 a2 t368 bt369.1 bt371.1 true)))))
theorem bibelotlaw03_HanoiGros.mono_l : ∀ k, (∀ y0 y1 y2 y3 y4 y5, LeO (bibelotlaw03_HanoiGros.j0 k y0 y1 y2 y3 y4 y5) (bibelotlaw03_HanoiGros.j0 (k + 1) y0 y1 y2 y3 y4 y5)) ∧ (∀ y0 y1 y2 y3 y4, LeO (bibelotlaw03_HanoiGros.j1 k y0 y1 y2 y3 y4) (bibelotlaw03_HanoiGros.j1 (k + 1) y0 y1 y2 y3 y4)) ∧ (∀ y0 y1, LeO (bibelotlaw03_HanoiGros.j2 k y0 y1) (bibelotlaw03_HanoiGros.j2 (k + 1) y0 y1)) ∧ (∀ y0 y1 y2 y3, LeO (bibelotlaw03_HanoiGros.l0 k y0 y1 y2 y3) (bibelotlaw03_HanoiGros.l0 (k + 1) y0 y1 y2 y3))
  | 0 => ⟨fun _ _ _ _ _ _ r h => by simp [bibelotlaw03_HanoiGros.j0] at h, fun _ _ _ _ _ r h => by simp [bibelotlaw03_HanoiGros.j1] at h, fun _ _ r h => by simp [bibelotlaw03_HanoiGros.j2] at h, fun _ _ _ _ r h => by simp [bibelotlaw03_HanoiGros.l0] at h⟩
  | k + 1 => by
    obtain ⟨ih0, ih1, ih2, ih3⟩ := bibelotlaw03_HanoiGros.mono_l k
    refine ⟨?_, ?_, ?_, ?_⟩
    · intro y0 y1 y2 y3 y4 y5
      unfold bibelotlaw03_HanoiGros.j0
      repeat' first
      | (with_reducible exact ih0 _ _ _ _ _ _)
      | (with_reducible exact ih1 _ _ _ _ _)
      | (with_reducible exact ih2 _ _)
      | (with_reducible exact ih3 _ _ _ _)
      | (with_reducible exact bibelotlaw03_awake.mono _)
      | (with_reducible exact bibelotlaw03_rings.mono _ _ _)
      | (with_reducible exact hanoi_Between.mono _ _ _)
      | (with_reducible exact LeO.refl _)
      | (with_reducible exact LeO.none _)
      | (with_reducible refine LeO.ite ?_ ?_)
      | (with_reducible refine LeO.bind ?_ (fun _ => ?_))
      | exact ih0 _ _ _ _ _ _
      | exact ih1 _ _ _ _ _
      | exact ih2 _ _
      | exact ih3 _ _ _ _
      | exact bibelotlaw03_awake.mono _
      | exact bibelotlaw03_rings.mono _ _ _
      | exact hanoi_Between.mono _ _ _
      | exact LeO.none _
      | refine LeO.ite ?_ ?_
      | refine LeO.bind ?_ (fun _ => ?_)
    · intro y0 y1 y2 y3 y4
      unfold bibelotlaw03_HanoiGros.j1
      repeat' first
      | (with_reducible exact ih0 _ _ _ _ _ _)
      | (with_reducible exact ih1 _ _ _ _ _)
      | (with_reducible exact ih2 _ _)
      | (with_reducible exact ih3 _ _ _ _)
      | (with_reducible exact bibelotlaw03_awake.mono _)
      | (with_reducible exact bibelotlaw03_rings.mono _ _ _)
      | (with_reducible exact hanoi_Between.mono _ _ _)
      | (with_reducible exact LeO.refl _)
      | (with_reducible exact LeO.none _)
      | (with_reducible refine LeO.ite ?_ ?_)
      | (with_reducible refine LeO.bind ?_ (fun _ => ?_))
      | exact ih0 _ _ _ _ _ _
      | exact ih1 _ _ _ _ _
      | exact ih2 _ _
      | exact ih3 _ _ _ _
      | exact bibelotlaw03_awake.mono _
      | exact bibelotlaw03_rings.mono _ _ _
      | exact hanoi_Between.mono _ _ _
      | exact LeO.none _
      | refine LeO.ite ?_ ?_
      | refine LeO.bind ?_ (fun _ => ?_)
    · intro y0 y1
      unfold bibelotlaw03_HanoiGros.j2
      repeat' first
      | (with_reducible exact ih0 _ _ _ _ _ _)
      | (with_reducible exact ih1 _ _ _ _ _)
      | (with_reducible exact ih2 _ _)
      | (with_reducible exact ih3 _ _ _ _)
      | (with_reducible exact bibelotlaw03_awake.mono _)
      | (with_reducible exact bibelotlaw03_rings.mono _ _ _)
      | (with_reducible exact hanoi_Between.mono _ _ _)
      | (with_reducible exact LeO.refl _)
      | (with_reducible exact LeO.none _)
      | (with_reducible refine LeO.ite ?_ ?_)
      | (with_reducible refine LeO.bind ?_ (fun _ => ?_))
      | exact ih0 _ _ _ _ _ _
      | exact ih1 _ _ _ _ _
      | exact ih2 _ _
      | exact ih3 _ _ _ _
      | exact bibelotlaw03_awake.mono _
      | exact bibelotlaw03_rings.mono _ _ _
      | exact hanoi_Between.mono _ _ _
      | exact LeO.none _
      | refine LeO.ite ?_ ?_
      | refine LeO.bind ?_ (fun _ => ?_)
    · intro y0 y1 y2 y3
      unfold bibelotlaw03_HanoiGros.l0
      repeat' first
      | (with_reducible exact ih0 _ _ _ _ _ _)
      | (with_reducible exact ih1 _ _ _ _ _)
      | (with_reducible exact ih2 _ _)
      | (with_reducible exact ih3 _ _ _ _)
      | (with_reducible exact bibelotlaw03_awake.mono _)
      | (with_reducible exact bibelotlaw03_rings.mono _ _ _)
      | (with_reducible exact hanoi_Between.mono _ _ _)
      | (with_reducible exact LeO.refl _)
      | (with_reducible exact LeO.none _)
      | (with_reducible refine LeO.ite ?_ ?_)
      | (with_reducible refine LeO.bind ?_ (fun _ => ?_))
      | exact ih0 _ _ _ _ _ _
      | exact ih1 _ _ _ _ _
      | exact ih2 _ _
      | exact ih3 _ _ _ _
      | exact bibelotlaw03_awake.mono _
      | exact bibelotlaw03_rings.mono _ _ _
      | exact hanoi_Between.mono _ _ _
      | exact LeO.none _
      | refine LeO.ite ?_ ?_
      | refine LeO.bind ?_ (fun _ => ?_)
theorem bibelotlaw03_HanoiGros.mono : ∀ a0 a1 a2 k, LeO (bibelotlaw03_HanoiGros.f k a0 a1 a2) (bibelotlaw03_HanoiGros.f (k + 1) a0 a1 a2) := by
  intro a0 a1 a2 k
  obtain ⟨ih0, ih1, ih2, ih3⟩ := bibelotlaw03_HanoiGros.mono_l k
  unfold bibelotlaw03_HanoiGros.f
  repeat' first
      | (with_reducible exact ih0 _ _ _ _ _ _)
      | (with_reducible exact ih1 _ _ _ _ _)
      | (with_reducible exact ih2 _ _)
      | (with_reducible exact ih3 _ _ _ _)
      | (with_reducible exact bibelotlaw03_awake.mono _)
      | (with_reducible exact bibelotlaw03_rings.mono _ _ _)
      | (with_reducible exact hanoi_Between.mono _ _ _)
      | (with_reducible exact LeO.refl _)
      | (with_reducible exact LeO.none _)
      | (with_reducible refine LeO.ite ?_ ?_)
      | (with_reducible refine LeO.bind ?_ (fun _ => ?_))
      | exact ih0 _ _ _ _ _ _
      | exact ih1 _ _ _ _ _
      | exact ih2 _ _
      | exact ih3 _ _ _ _
      | exact bibelotlaw03_awake.mono _
      | exact bibelotlaw03_rings.mono _ _ _
      | exact hanoi_Between.mono _ _ _
      | exact LeO.none _
      | refine LeO.ite ?_ ?_
      | refine LeO.bind ?_ (fun _ => ?_)
set_option maxHeartbeats 8000000 in
set_option maxRecDepth 100000 in
theorem bibelotlaw03_HanoiGros.calls (k : Nat) (a0 : Int) (a1 : ByteArray) (a2 : Int) (r : Bool) (w : World) (h : bibelotlaw03_HanoiGros.f k a0 a1 a2 = some r) :
    Calls Tryd.prog 15 #[.int .i64 a0, .string a1, .int .i64 a2] w fun e w' => e = .returned (.bool r) ∧ Below w.heap.size w w' := by
  have HB := Aside0.mk (Below.refl w.heap.size w)
  have H : ((bibelotlaw03_many.f a0 60).bind fun t367 => ((bibelotlaw03_rings.f k a1 t367).bind fun t368 => ((hanoi_Rank.f t368).bind fun bt369 => ((hanoi_Steps.f t368).bind fun bt371 => (if bt369.2 = 0 then (if bt371.2 = 0 then (if (bt371.1.length : Int) < 1 then (bibelotlaw03_HanoiGros.j0 k t367 a2 t368 bt369.1 bt371.1 true) else (bibelotlaw03_HanoiGros.j0 k t367 a2 t368 bt369.1 bt371.1 (decide ((bt371.1.length : Int) > 2)))) else (bibelotlaw03_HanoiGros.j0 k t367 a2 t368 bt369.1 bt371.1 true)) else (bibelotlaw03_HanoiGros.j0 k t367 a2 t368 bt369.1 bt371.1 true)))))) = some r := h
  clear h
  replace H := Option.bind_eq_some_iff.mp H
  obtain ⟨t367, A40, H⟩ := H
  replace H : ((bibelotlaw03_rings.f k a1 t367).bind fun t368 => ((hanoi_Rank.f t368).bind fun bt369 => ((hanoi_Steps.f t368).bind fun bt371 => (if bt369.2 = 0 then (if bt371.2 = 0 then (if (bt371.1.length : Int) < 1 then (bibelotlaw03_HanoiGros.j0 k t367 a2 t368 bt369.1 bt371.1 true) else (bibelotlaw03_HanoiGros.j0 k t367 a2 t368 bt369.1 bt371.1 (decide ((bt371.1.length : Int) > 2)))) else (bibelotlaw03_HanoiGros.j0 k t367 a2 t368 bt369.1 bt371.1 true)) else (bibelotlaw03_HanoiGros.j0 k t367 a2 t368 bt369.1 bt371.1 true))))) = some r := H
  have A4 := Aside0.mk A40
  clear A40
  replace H := Option.bind_eq_some_iff.mp H
  obtain ⟨t368, A50, H⟩ := H
  replace H : ((hanoi_Rank.f t368).bind fun bt369 => ((hanoi_Steps.f t368).bind fun bt371 => (if bt369.2 = 0 then (if bt371.2 = 0 then (if (bt371.1.length : Int) < 1 then (bibelotlaw03_HanoiGros.j0 k t367 a2 t368 bt369.1 bt371.1 true) else (bibelotlaw03_HanoiGros.j0 k t367 a2 t368 bt369.1 bt371.1 (decide ((bt371.1.length : Int) > 2)))) else (bibelotlaw03_HanoiGros.j0 k t367 a2 t368 bt369.1 bt371.1 true)) else (bibelotlaw03_HanoiGros.j0 k t367 a2 t368 bt369.1 bt371.1 true)))) = some r := H
  have A5 := Aside0.mk A50
  clear A50
  replace H := Option.bind_eq_some_iff.mp H
  obtain ⟨⟨t369, t370⟩, A60, H⟩ := H
  replace H : ((hanoi_Steps.f t368).bind fun bt371 => (if t370 = 0 then (if bt371.2 = 0 then (if (bt371.1.length : Int) < 1 then (bibelotlaw03_HanoiGros.j0 k t367 a2 t368 t369 bt371.1 true) else (bibelotlaw03_HanoiGros.j0 k t367 a2 t368 t369 bt371.1 (decide ((bt371.1.length : Int) > 2)))) else (bibelotlaw03_HanoiGros.j0 k t367 a2 t368 t369 bt371.1 true)) else (bibelotlaw03_HanoiGros.j0 k t367 a2 t368 t369 bt371.1 true))) = some r := H
  have A6 := Aside0.mk A60
  clear A60
  replace H := Option.bind_eq_some_iff.mp H
  obtain ⟨⟨t371, t372⟩, A70, H⟩ := H
  replace H : (if t370 = 0 then (if t372 = 0 then (if (t371.length : Int) < 1 then (bibelotlaw03_HanoiGros.j0 k t367 a2 t368 t369 t371 true) else (bibelotlaw03_HanoiGros.j0 k t367 a2 t368 t369 t371 (decide ((t371.length : Int) > 2)))) else (bibelotlaw03_HanoiGros.j0 k t367 a2 t368 t369 t371 true)) else (bibelotlaw03_HanoiGros.j0 k t367 a2 t368 t369 t371 true)) = some r := H
  have A7 := Aside0.mk A70
  clear A70
  have HC8 := Aside0.mk H
  clear H
  go_enter Tryd.func15, Tryd.ntmps15
  go_upto_region 5 with (first | ((with_reducible refine gate_callee (f := 25) rfl ?_); refine goesL_ (some 29) rfl rfl Tryd.func25 (by kernel_rfl) rfl #[.int .i64 a0, .int .i64 60] rfl (by (try simp only [List.map_toArray, List.map_cons, List.map_nil]); first | done | rfl | (simp only [List.length_drop, List.length_take]; rfl)) ?_; (with_reducible refine (bibelotlaw03_many.calls a0 60 t367 _ A4.out).mono ?_); rintro e w' ⟨rfl, ⟨nd, rfl⟩⟩; refine ⟨_, rfl, ?_⟩) | ((with_reducible refine gate_callee (f := 35) rfl ?_); refine goesL_ (some 32) rfl rfl Tryd.func35 (by kernel_rfl) rfl #[.string a1, .int .i64 t367] rfl (by (try simp only [List.map_toArray, List.map_cons, List.map_nil]); first | done | rfl | (simp only [List.length_drop, List.length_take]; rfl)) ?_; (with_reducible refine (bibelotlaw03_rings.calls k a1 t367 t368 _ A5.out).mono ?_); rintro e w9 ⟨rfl, hb⟩; refine ⟨_, rfl, ?_⟩; have n0_ := Aside0.mk (below_step (by repeat (first | (with_reducible first | exact HB.out | apply below_alloc | apply pw_below_drewN | apply below_drew1) | exact HB.out)) hb); clear HB; have HB := n0_; clear n0_; (try clear hb); (try clear hb2); (try clear hk); (try clear hi)) | ((with_reducible refine gate_callee (f := 33) rfl ?_); refine goesL_ (some 35) rfl rfl Tryd.func33 (by kernel_rfl) rfl #[.string t368] rfl (by (try simp only [List.map_toArray, List.map_cons, List.map_nil]); first | done | rfl | (simp only [List.length_drop, List.length_take]; rfl)) ?_; (with_reducible refine (hanoi_Rank.calls t368 t369 t370 _ A6.out).mono ?_); rintro e w10 ⟨rfl, hb⟩; refine ⟨_, rfl, ?_⟩; have n0_ := Aside0.mk (below_step (by repeat (first | (with_reducible first | exact HB.out | apply below_alloc | apply pw_below_drewN | apply below_drew1) | exact HB.out)) hb); clear HB; have HB := n0_; clear n0_; (try clear hb); (try clear hb2); (try clear hk); (try clear hi)) | ((with_reducible refine gate_callee (f := 52) rfl ?_); refine goesL_ (some 40) rfl rfl Tryd.func52 (by kernel_rfl) rfl #[.string t368] rfl (by (try simp only [List.map_toArray, List.map_cons, List.map_nil]); first | done | rfl | (simp only [List.length_drop, List.length_take]; rfl)) ?_; (with_reducible refine (hanoi_Steps.calls t368 t371 t372 _ A7.out).mono ?_); rintro e w11 ⟨v373, rfl, ho0, hb⟩; refine ⟨_, rfl, ?_⟩; have n0_ := Aside0.mk (Kd.R_lower ho0 (below_size (by repeat (first | (with_reducible first | exact HB.out | apply below_alloc | apply pw_below_drewN | apply below_drew1) | exact HB.out)))); have n1_ := Aside0.mk (below_step (by repeat (first | (with_reducible first | exact HB.out | apply below_alloc | apply pw_below_drewN | apply below_drew1) | exact HB.out)) hb); clear HB; have HO374 := n0_; have HB := n1_; clear n0_ n1_; (try clear hb); (try clear hb2); (try clear hk); (try clear hi); (try clear ho0)))
  (try simp only [Act.put, List.setIfInBounds_toArray, List.set_cons_zero, List.set_cons_succ])
  go_cut [58] (fun v58 wc => ∃ (kq : Nat) (x58_7 : Bool), v58 = .bool x58_7 ∧ Aside0 (bibelotlaw03_HanoiGros.j0 kq t367 a2 t368 t369 t371 x58_7 = some r) ∧ Aside0 (kq ≤ k) ∧ Aside0 (Kd.R (Kd.int .i64) 3 wc w.heap.size (fun _ => True) v373 t371) ∧ Aside0 (Below w.heap.size w wc))
  case first =>
    have H := HC8.out
    clear HC8
    by_cases c12 : t370 = 0
    · rw [if_pos c12] at H
      have c12b0 : (t370 == 0) = true := beq_iff_eq.mpr c12
      have c12b1 : (t370 != 0) = false := bne_eq_false_iff_eq.mpr c12
      clear c12
      (first | rw [c12b0] | (simp only [i64_w, i32_w]; rw [c12b0]) | skip)
      by_cases c13 : t372 = 0
      · rw [if_pos c13] at H
        have c13b0 : (t372 == 0) = true := beq_iff_eq.mpr c13
        have c13b1 : (t372 != 0) = false := bne_eq_false_iff_eq.mpr c13
        clear c13
        by_cases c14 : (t371.length : Int) < 1
        · rw [if_pos c14] at H
          have c14b0 : decide ((t371.length : Int) < 1) = true := decide_eq_true c14
          have c14b1 : decide (t371.length < 1) = true := decide_eq_true (by omega)
          clear c14
          have H' := Aside0.mk H
          clear H
          obtain ⟨Ao15, co15, eo15⟩ := Kd.R_slice HO374.out
          subst eo15
          go_wp2
          go_meet
          case rel => exact ⟨_, (true), (by first | rfl | (simp; done) | (simp [*]; done)), H', ⟨by first | omega | exact Nat.le_refl _⟩, ⟨by (with_reducible repeat (first | apply Kd.R_alloc | apply Kd.R_drewN | apply Kd.R_drew)); exact HO374.out⟩, ⟨by repeat (first | (with_reducible first | exact HB.out | apply below_alloc | apply pw_below_drewN | apply below_drew1) | exact HB.out)⟩⟩
        · rw [if_neg c14] at H
          have c14b0 : decide ((t371.length : Int) < 1) = false := decide_eq_false c14
          have c14b1 : decide (t371.length < 1) = false := decide_eq_false (by omega)
          clear c14
          have H' := Aside0.mk H
          clear H
          obtain ⟨Ao16, co16, eo16⟩ := Kd.R_slice HO374.out
          subst eo16
          go_wp2
          go_meet
          case rel => exact ⟨_, (decide ((t371.length : Int) > 2)), (by first | rfl | (simp; done) | (simp [*]; done)), H', ⟨by first | omega | exact Nat.le_refl _⟩, ⟨by (with_reducible repeat (first | apply Kd.R_alloc | apply Kd.R_drewN | apply Kd.R_drew)); exact HO374.out⟩, ⟨by repeat (first | (with_reducible first | exact HB.out | apply below_alloc | apply pw_below_drewN | apply below_drew1) | exact HB.out)⟩⟩
      · rw [if_neg c13] at H
        have c13b0 : (t372 == 0) = false := beq_eq_false_iff_ne.mpr c13
        have c13b1 : (t372 != 0) = true := bne_iff_ne.mpr c13
        have H' := Aside0.mk H
        clear H
        go_wp2
        go_meet
        case rel => exact ⟨_, (true), (by first | rfl | (simp; done) | (simp [*]; done)), H', ⟨by first | omega | exact Nat.le_refl _⟩, ⟨by (with_reducible repeat (first | apply Kd.R_alloc | apply Kd.R_drewN | apply Kd.R_drew)); exact HO374.out⟩, ⟨by repeat (first | (with_reducible first | exact HB.out | apply below_alloc | apply pw_below_drewN | apply below_drew1) | exact HB.out)⟩⟩
    · rw [if_neg c12] at H
      have c12b0 : (t370 == 0) = false := beq_eq_false_iff_ne.mpr c12
      have c12b1 : (t370 != 0) = true := bne_iff_ne.mpr c12
      (first | rw [c12b0] | (simp only [i64_w, i32_w]; rw [c12b0]) | skip)
      have H' := Aside0.mk H
      clear H
      go_wp2
      go_meet
      case rel => exact ⟨_, (true), (by first | rfl | (simp; done) | (simp [*]; done)), H', ⟨by first | omega | exact Nat.le_refl _⟩, ⟨by (with_reducible repeat (first | apply Kd.R_alloc | apply Kd.R_drewN | apply Kd.R_drew)); exact HO374.out⟩, ⟨by repeat (first | (with_reducible first | exact HB.out | apply below_alloc | apply pw_below_drewN | apply below_drew1) | exact HB.out)⟩⟩
  case rest =>
    clear HC8
    try clear c1
    try clear c2
    try clear p2
    try clear c3
    try clear c5
    try clear c12
    try clear c12b0
    try clear c12b1
    try clear c13
    try clear c13b0
    try clear c13b1
    try clear c14
    try clear c14b0
    try clear c14b1
    try clear c15
    obtain ⟨kq, x58_7, rfl, HA, HJ7, HO_10, HB⟩ := hcut
    cases kq with
    | zero => exact absurd HA.out (by simp [bibelotlaw03_HanoiGros.j0])
    | succ kj7 =>
      have H := HA.out
      clear HA
      simp only [bibelotlaw03_HanoiGros.j0] at H
      by_cases c17 : x58_7 = true
      · subst c17
        have H1 : (some false) = some r := by rw [if_pos rfl] at H; exact H
        clear H
        have H := H1
        clear H1
        obtain rfl := Option.some.inj H
        go_wp2
        go_ret
        exact ⟨by first | rfl | (simp [errW_none, errW_some] <;> rfl) | (simp [*, errW_none, errW_some] <;> rfl), by repeat (first | (with_reducible first | exact HB.out | apply below_alloc | apply pw_below_drewN | apply below_drew1) | exact HB.out)⟩
      · replace c17 := Bool.eq_false_iff.mpr c17
        subst c17
        have H1 : (if (IntKind.u64.wrap ((t371.length : Int))) = 0 then (none) else (if 0 ≤ (wrap64 (Int.tmod (IntKind.u64.wrap (a2)) (IntKind.u64.wrap ((t371.length : Int))))) then (if (wrap64 (Int.tmod (IntKind.u64.wrap (a2)) (IntKind.u64.wrap ((t371.length : Int))))) < (t371.length : Int) then (if (rd t371 (wrap64 (Int.tmod (IntKind.u64.wrap (a2)) (IntKind.u64.wrap ((t371.length : Int)))))) < 0 then (bibelotlaw03_HanoiGros.j1 kj7 t367 t368 t369 (rd t371 (wrap64 (Int.tmod (IntKind.u64.wrap (a2)) (IntKind.u64.wrap ((t371.length : Int)))))) true) else (bibelotlaw03_HanoiGros.j1 kj7 t367 t368 t369 (rd t371 (wrap64 (Int.tmod (IntKind.u64.wrap (a2)) (IntKind.u64.wrap ((t371.length : Int)))))) (decide ((rd t371 (wrap64 (Int.tmod (IntKind.u64.wrap (a2)) (IntKind.u64.wrap ((t371.length : Int)))))) ≥ t367)))) else (none)) else (none))) = some r := by rw [if_neg (show ¬ (false = true) by decide)] at H; exact H
        clear H
        have H := H1
        clear H1
        by_cases c18 : (IntKind.u64.wrap ((t371.length : Int))) = 0
        · rw [if_pos c18] at H
          exact absurd H (by simp)
        · rw [if_neg c18] at H
          have c18b0 : ((IntKind.u64.wrap ((t371.length : Int))) == 0) = false := beq_eq_false_iff_ne.mpr c18
          have c18b1 : ((IntKind.u64.wrap ((t371.length : Int))) != 0) = true := bne_iff_ne.mpr c18
          obtain ⟨ji19, hji19⟩ : ∃ j_ : Int, (wrap64 (Int.tmod (IntKind.u64.wrap (a2)) (IntKind.u64.wrap ((t371.length : Int))))) = j_ := ⟨_, rfl⟩
          replace H : (if 0 ≤ (ji19) then (if (ji19) < (t371.length : Int) then (if (rd t371 (ji19)) < 0 then (bibelotlaw03_HanoiGros.j1 kj7 t367 t368 t369 (rd t371 (ji19)) true) else (bibelotlaw03_HanoiGros.j1 kj7 t367 t368 t369 (rd t371 (ji19)) (decide ((rd t371 (ji19)) ≥ t367)))) else (none)) else (none)) = some r := by first | (rw [hji19] at H; exact H) | (simp only [hji19] at H ⊢; exact H)
          have hji19w : (IntKind.i64.wrap (Int.tmod (IntKind.u64.wrap (a2)) (IntKind.u64.wrap ((t371.length : Int))))) = ji19 := (i64_w _).trans hji19
          by_cases c20 : 0 ≤ (ji19)
          · rw [if_pos c20] at H
            have c20b0 : decide (0 ≤ (ji19)) = true := decide_eq_true c20
            clear c20
            by_cases c21 : (ji19) < (t371.length : Int)
            · rw [if_pos c21] at H
              have c21b0 : decide ((ji19) < (t371.length : Int)) = true := decide_eq_true c21
              clear c21
              have HC22 := Aside0.mk H
              clear H
              obtain ⟨Ao23, co23, eo23⟩ := Kd.R_slice HO_10.out
              subst eo23
              have p375 : 0 ≤ ((ji19) : Int) := of_decide_eq_true (by first | (with_reducible assumption) | assumption)
              have q375 : (ji19) < (t371.length : Int) := of_decide_eq_true (by first | (with_reducible assumption) | assumption)
              obtain ⟨ad375, e375, hx375_0⟩ := Kd.at_int (Kd.R_reads' HO_10.out).2.2 (ji19) p375 q375
              cases e375
              replace p375 := eq_true p375
              replace q375 := eq_true q375
              go_upto_region 8 with (fail)
              go_cut [75] (fun v75 wc => ∃ (kq : Nat) (x75_21 : Bool), v75 = .bool x75_21 ∧ Aside0 (bibelotlaw03_HanoiGros.j1 kq t367 t368 t369 (rd t371 (ji19)) x75_21 = some r) ∧ Aside0 (kq ≤ kj7) ∧ Aside0 (Below w.heap.size w wc))
              case first =>
                have H := HC22.out
                clear HC22
                by_cases c24 : (rd t371 (ji19)) < 0
                · rw [if_pos c24] at H
                  have c24b0 : decide ((rd t371 (ji19)) < 0) = true := decide_eq_true c24
                  clear c24
                  (first | rw [c24b0] | (simp only [i64_w, i32_w]; rw [c24b0]) | skip)
                  have H' := Aside0.mk H
                  clear H
                  go_wp2
                  go_meet
                  case rel => exact ⟨_, (true), (by first | rfl | (simp; done) | (simp [*]; done)), H', ⟨by have := HJ7.out; first | omega | exact Nat.le_refl _⟩, ⟨by repeat (first | (with_reducible first | exact HB.out | apply below_alloc | apply pw_below_drewN | apply below_drew1) | exact HB.out)⟩⟩
                · rw [if_neg c24] at H
                  have c24b0 : decide ((rd t371 (ji19)) < 0) = false := decide_eq_false c24
                  clear c24
                  (first | rw [c24b0] | (simp only [i64_w, i32_w]; rw [c24b0]) | skip)
                  have H' := Aside0.mk H
                  clear H
                  go_wp2
                  go_meet
                  case rel => exact ⟨_, (decide ((rd t371 (ji19)) ≥ t367)), (by first | rfl | (simp; done) | (simp only [← hji19] <;> (first | rfl | simp)) | (simp [*]; done)), H', ⟨by have := HJ7.out; first | omega | exact Nat.le_refl _⟩, ⟨by repeat (first | (with_reducible first | exact HB.out | apply below_alloc | apply pw_below_drewN | apply below_drew1) | exact HB.out)⟩⟩
              case rest =>
                clear HC22
                try clear c1
                try clear c2
                try clear p2
                try clear c3
                try clear p3
                try clear q3
                try clear hx3
                try clear c5
                try clear p6
                try clear c12
                try clear c12b0
                try clear c12b1
                try clear c13
                try clear c13b0
                try clear c13b1
                try clear c14
                try clear c14b0
                try clear c14b1
                try clear c15
                try clear c17
                try clear c18
                try clear c18b0
                try clear c18b1
                try clear c20
                try clear c20b0
                try clear c21
                try clear c21b0
                try clear c24
                try clear c24b0
                try clear hx375_0
                try clear p2
                try clear p375
                try clear q375
                obtain ⟨kq, x75_21, rfl, HA, HJ21, HB⟩ := hcut
                cases kq with
                | zero => exact absurd HA.out (by simp [bibelotlaw03_HanoiGros.j1])
                | succ kj21 =>
                  have H := HA.out
                  clear HA
                  simp only [bibelotlaw03_HanoiGros.j1] at H
                  by_cases c25 : x75_21 = true
                  · subst c25
                    have H1 : (some false) = some r := by rw [if_pos rfl] at H; exact H
                    clear H
                    have H := H1
                    clear H1
                    obtain rfl := Option.some.inj H
                    go_wp2
                    go_ret
                    exact ⟨by first | rfl | (simp [errW_none, errW_some] <;> rfl) | (simp only [← hji19]; first | rfl | (simp [errW_none, errW_some] <;> rfl)) | (simp [*, errW_none, errW_some] <;> rfl), by repeat (first | (with_reducible first | exact HB.out | apply below_alloc | apply pw_below_drewN | apply below_drew1) | exact HB.out)⟩
                  · replace c25 := Bool.eq_false_iff.mpr c25
                    subst c25
                    have H1 : ((bibelotref03_Changed.f t368 (rd t371 (ji19))).bind fun t376 => ((hanoi_Rank.f t376).bind fun bt377 => ((hanoi_Between.f kj21 t368 t376).bind fun bt379 => ((hanoi_Next.f t368 t376).bind fun bt381 => (if bt377.2 = 0 then (if bt379.2 = 0 then (if bt381.2 = 0 then (if bt377.1 = (wrap64 (t369 + 1)) then (if bt379.1 = 1 then (bibelotlaw03_HanoiGros.j2 kj21 t367 (bt381.1 != (rd t371 (ji19)))) else (bibelotlaw03_HanoiGros.j2 kj21 t367 true)) else (if bt377.1 = (wrap64 (t369 - 1)) then (if bt379.1 = 1 then (bibelotlaw03_HanoiGros.j2 kj21 t367 (bt381.1 != (rd t371 (ji19)))) else (bibelotlaw03_HanoiGros.j2 kj21 t367 true)) else (bibelotlaw03_HanoiGros.j2 kj21 t367 true))) else (bibelotlaw03_HanoiGros.j2 kj21 t367 true)) else (bibelotlaw03_HanoiGros.j2 kj21 t367 true)) else (bibelotlaw03_HanoiGros.j2 kj21 t367 true)))))) = some r := by rw [if_neg (show ¬ (false = true) by decide)] at H; exact H
                    clear H
                    have H := H1
                    clear H1
                    replace H := Option.bind_eq_some_iff.mp H
                    obtain ⟨t376, A260, H⟩ := H
                    replace H : ((hanoi_Rank.f t376).bind fun bt377 => ((hanoi_Between.f kj21 t368 t376).bind fun bt379 => ((hanoi_Next.f t368 t376).bind fun bt381 => (if bt377.2 = 0 then (if bt379.2 = 0 then (if bt381.2 = 0 then (if bt377.1 = (wrap64 (t369 + 1)) then (if bt379.1 = 1 then (bibelotlaw03_HanoiGros.j2 kj21 t367 (bt381.1 != (rd t371 (ji19)))) else (bibelotlaw03_HanoiGros.j2 kj21 t367 true)) else (if bt377.1 = (wrap64 (t369 - 1)) then (if bt379.1 = 1 then (bibelotlaw03_HanoiGros.j2 kj21 t367 (bt381.1 != (rd t371 (ji19)))) else (bibelotlaw03_HanoiGros.j2 kj21 t367 true)) else (bibelotlaw03_HanoiGros.j2 kj21 t367 true))) else (bibelotlaw03_HanoiGros.j2 kj21 t367 true)) else (bibelotlaw03_HanoiGros.j2 kj21 t367 true)) else (bibelotlaw03_HanoiGros.j2 kj21 t367 true))))) = some r := H
                    have A26 := Aside0.mk A260
                    clear A260
                    replace H := Option.bind_eq_some_iff.mp H
                    obtain ⟨⟨t377, t378⟩, A270, H⟩ := H
                    replace H : ((hanoi_Between.f kj21 t368 t376).bind fun bt379 => ((hanoi_Next.f t368 t376).bind fun bt381 => (if t378 = 0 then (if bt379.2 = 0 then (if bt381.2 = 0 then (if t377 = (wrap64 (t369 + 1)) then (if bt379.1 = 1 then (bibelotlaw03_HanoiGros.j2 kj21 t367 (bt381.1 != (rd t371 (ji19)))) else (bibelotlaw03_HanoiGros.j2 kj21 t367 true)) else (if t377 = (wrap64 (t369 - 1)) then (if bt379.1 = 1 then (bibelotlaw03_HanoiGros.j2 kj21 t367 (bt381.1 != (rd t371 (ji19)))) else (bibelotlaw03_HanoiGros.j2 kj21 t367 true)) else (bibelotlaw03_HanoiGros.j2 kj21 t367 true))) else (bibelotlaw03_HanoiGros.j2 kj21 t367 true)) else (bibelotlaw03_HanoiGros.j2 kj21 t367 true)) else (bibelotlaw03_HanoiGros.j2 kj21 t367 true)))) = some r := H
                    have A27 := Aside0.mk A270
                    clear A270
                    replace H := Option.bind_eq_some_iff.mp H
                    obtain ⟨⟨t379, t380⟩, A280, H⟩ := H
                    replace H : ((hanoi_Next.f t368 t376).bind fun bt381 => (if t378 = 0 then (if t380 = 0 then (if bt381.2 = 0 then (if t377 = (wrap64 (t369 + 1)) then (if t379 = 1 then (bibelotlaw03_HanoiGros.j2 kj21 t367 (bt381.1 != (rd t371 (ji19)))) else (bibelotlaw03_HanoiGros.j2 kj21 t367 true)) else (if t377 = (wrap64 (t369 - 1)) then (if t379 = 1 then (bibelotlaw03_HanoiGros.j2 kj21 t367 (bt381.1 != (rd t371 (ji19)))) else (bibelotlaw03_HanoiGros.j2 kj21 t367 true)) else (bibelotlaw03_HanoiGros.j2 kj21 t367 true))) else (bibelotlaw03_HanoiGros.j2 kj21 t367 true)) else (bibelotlaw03_HanoiGros.j2 kj21 t367 true)) else (bibelotlaw03_HanoiGros.j2 kj21 t367 true))) = some r := H
                    have A28 := Aside0.mk A280
                    clear A280
                    replace H := Option.bind_eq_some_iff.mp H
                    obtain ⟨⟨t381, t382⟩, A290, H⟩ := H
                    replace H : (if t378 = 0 then (if t380 = 0 then (if t382 = 0 then (if t377 = (wrap64 (t369 + 1)) then (if t379 = 1 then (bibelotlaw03_HanoiGros.j2 kj21 t367 (t381 != (rd t371 (ji19)))) else (bibelotlaw03_HanoiGros.j2 kj21 t367 true)) else (if t377 = (wrap64 (t369 - 1)) then (if t379 = 1 then (bibelotlaw03_HanoiGros.j2 kj21 t367 (t381 != (rd t371 (ji19)))) else (bibelotlaw03_HanoiGros.j2 kj21 t367 true)) else (bibelotlaw03_HanoiGros.j2 kj21 t367 true))) else (bibelotlaw03_HanoiGros.j2 kj21 t367 true)) else (bibelotlaw03_HanoiGros.j2 kj21 t367 true)) else (bibelotlaw03_HanoiGros.j2 kj21 t367 true)) = some r := H
                    have A29 := Aside0.mk A290
                    clear A290
                    have HC30 := Aside0.mk H
                    clear H
                    go_upto_region 14 with (first | ((with_reducible refine gate_callee (f := 39) rfl ?_); refine goesL_ (some 78) rfl rfl Tryd.func39 (by kernel_rfl) rfl #[.string t368, .int .i64 (rd t371 (ji19))] rfl (by (try simp only [List.map_toArray, List.map_cons, List.map_nil]); first | done | (simp only [hji19]; rfl) | rfl | (simp only [List.length_drop, List.length_take]; rfl)) ?_; (with_reducible refine (bibelotref03_Changed.calls t368 (rd t371 (ji19)) t376 _ A26.out).mono ?_); rintro e w' ⟨rfl, ⟨nd, rfl⟩⟩; refine ⟨_, rfl, ?_⟩) | ((with_reducible refine gate_callee (f := 33) rfl ?_); refine goesL_ (some 81) rfl rfl Tryd.func33 (by kernel_rfl) rfl #[.string t376] rfl (by (try simp only [List.map_toArray, List.map_cons, List.map_nil]); first | done | rfl | (simp only [List.length_drop, List.length_take]; rfl)) ?_; (with_reducible refine (hanoi_Rank.calls t376 t377 t378 _ A27.out).mono ?_); rintro e w31 ⟨rfl, hb⟩; refine ⟨_, rfl, ?_⟩; have n0_ := Aside0.mk (below_step (by repeat (first | (with_reducible first | exact HB.out | apply below_alloc | apply pw_below_drewN | apply below_drew1) | exact HB.out)) hb); clear HB; have HB := n0_; clear n0_; (try clear hb); (try clear hb2); (try clear hk); (try clear hi)) | ((with_reducible refine gate_callee (f := 36) rfl ?_); refine goesL_ (some 87) rfl rfl Tryd.func36 (by kernel_rfl) rfl #[.string t368, .string t376] rfl (by (try simp only [List.map_toArray, List.map_cons, List.map_nil]); first | done | rfl | (simp only [List.length_drop, List.length_take]; rfl)) ?_; (with_reducible refine (hanoi_Between.calls kj21 t368 t376 t379 t380 _ A28.out).mono ?_); rintro e w32 ⟨rfl, hb⟩; refine ⟨_, rfl, ?_⟩; have n0_ := Aside0.mk (below_step (by repeat (first | (with_reducible first | exact HB.out | apply below_alloc | apply pw_below_drewN | apply below_drew1) | exact HB.out)) hb); clear HB; have HB := n0_; clear n0_; (try clear hb); (try clear hb2); (try clear hk); (try clear hi)) | ((with_reducible refine gate_callee (f := 37) rfl ?_); refine goesL_ (some 93) rfl rfl Tryd.func37 (by kernel_rfl) rfl #[.string t368, .string t376] rfl (by (try simp only [List.map_toArray, List.map_cons, List.map_nil]); first | done | rfl | (simp only [List.length_drop, List.length_take]; rfl)) ?_; (with_reducible refine (hanoi_Next.calls t368 t376 t381 t382 _ A29.out).mono ?_); rintro e w33 ⟨rfl, hb⟩; refine ⟨_, rfl, ?_⟩; have n0_ := Aside0.mk (below_step (by repeat (first | (with_reducible first | exact HB.out | apply below_alloc | apply pw_below_drewN | apply below_drew1) | exact HB.out)) hb); clear HB; have HB := n0_; clear n0_; (try clear hb); (try clear hb2); (try clear hk); (try clear hi)))
                    (try simp only [Act.put, List.setIfInBounds_toArray, List.set_cons_zero, List.set_cons_succ])
                    go_cut [126] (fun v126 wc => ∃ (kq : Nat) (x126_29 : Bool), v126 = .bool x126_29 ∧ Aside0 (bibelotlaw03_HanoiGros.j2 kq t367 x126_29 = some r) ∧ Aside0 (kq ≤ kj21) ∧ Aside0 (Below w.heap.size w wc))
                    case first =>
                      have H := HC30.out
                      clear HC30
                      by_cases c34 : t378 = 0
                      · rw [if_pos c34] at H
                        have c34b0 : (t378 == 0) = true := beq_iff_eq.mpr c34
                        have c34b1 : (t378 != 0) = false := bne_eq_false_iff_eq.mpr c34
                        clear c34
                        (first | rw [c34b0] | (simp only [i64_w, i32_w]; rw [c34b0]) | skip)
                        by_cases c35 : t380 = 0
                        · rw [if_pos c35] at H
                          have c35b0 : (t380 == 0) = true := beq_iff_eq.mpr c35
                          have c35b1 : (t380 != 0) = false := bne_eq_false_iff_eq.mpr c35
                          clear c35
                          by_cases c36 : t382 = 0
                          · rw [if_pos c36] at H
                            have c36b0 : (t382 == 0) = true := beq_iff_eq.mpr c36
                            have c36b1 : (t382 != 0) = false := bne_eq_false_iff_eq.mpr c36
                            clear c36
                            by_cases c37 : t377 = (wrap64 (t369 + 1))
                            · rw [if_pos c37] at H
                              have c37b0 : (t377 == (wrap64 (t369 + 1))) = true := beq_iff_eq.mpr c37
                              have c37b1 : (t377 != (wrap64 (t369 + 1))) = false := bne_eq_false_iff_eq.mpr c37
                              clear c37
                              by_cases c38 : t379 = 1
                              · rw [if_pos c38] at H
                                have c38b0 : (t379 == 1) = true := beq_iff_eq.mpr c38
                                have c38b1 : (t379 != 1) = false := bne_eq_false_iff_eq.mpr c38
                                clear c38
                                have H' := Aside0.mk H
                                clear H
                                go_wp2
                                go_meet
                                case rel => exact ⟨_, ((t381 != (rd t371 (ji19)))), (by first | rfl | (simp; done) | (simp only [← hji19] <;> (first | rfl | simp)) | (simp [*]; done)), H', ⟨by have := HJ7.out; have := HJ21.out; first | omega | exact Nat.le_refl _⟩, ⟨by repeat (first | (with_reducible first | exact HB.out | apply below_alloc | apply pw_below_drewN | apply below_drew1) | exact HB.out)⟩⟩
                              · rw [if_neg c38] at H
                                have c38b0 : (t379 == 1) = false := beq_eq_false_iff_ne.mpr c38
                                have c38b1 : (t379 != 1) = true := bne_iff_ne.mpr c38
                                have H' := Aside0.mk H
                                clear H
                                go_wp2
                                go_meet
                                case rel => exact ⟨_, (true), (by first | rfl | (simp; done) | (simp [*]; done)), H', ⟨by have := HJ7.out; have := HJ21.out; first | omega | exact Nat.le_refl _⟩, ⟨by repeat (first | (with_reducible first | exact HB.out | apply below_alloc | apply pw_below_drewN | apply below_drew1) | exact HB.out)⟩⟩
                            · rw [if_neg c37] at H
                              have c37b0 : (t377 == (wrap64 (t369 + 1))) = false := beq_eq_false_iff_ne.mpr c37
                              have c37b1 : (t377 != (wrap64 (t369 + 1))) = true := bne_iff_ne.mpr c37
                              by_cases c39 : t377 = (wrap64 (t369 - 1))
                              · rw [if_pos c39] at H
                                have c39b0 : (t377 == (wrap64 (t369 - 1))) = true := beq_iff_eq.mpr c39
                                have c39b1 : (t377 != (wrap64 (t369 - 1))) = false := bne_eq_false_iff_eq.mpr c39
                                clear c39
                                by_cases c40 : t379 = 1
                                · rw [if_pos c40] at H
                                  have c40b0 : (t379 == 1) = true := beq_iff_eq.mpr c40
                                  have c40b1 : (t379 != 1) = false := bne_eq_false_iff_eq.mpr c40
                                  clear c40
                                  have H' := Aside0.mk H
                                  clear H
                                  go_wp2
                                  go_meet
                                  case rel => exact ⟨_, ((t381 != (rd t371 (ji19)))), (by first | rfl | (simp; done) | (simp only [← hji19] <;> (first | rfl | simp)) | (simp [*]; done)), H', ⟨by have := HJ7.out; have := HJ21.out; first | omega | exact Nat.le_refl _⟩, ⟨by repeat (first | (with_reducible first | exact HB.out | apply below_alloc | apply pw_below_drewN | apply below_drew1) | exact HB.out)⟩⟩
                                · rw [if_neg c40] at H
                                  have c40b0 : (t379 == 1) = false := beq_eq_false_iff_ne.mpr c40
                                  have c40b1 : (t379 != 1) = true := bne_iff_ne.mpr c40
                                  have H' := Aside0.mk H
                                  clear H
                                  go_wp2
                                  go_meet
                                  case rel => exact ⟨_, (true), (by first | rfl | (simp; done) | (simp [*]; done)), H', ⟨by have := HJ7.out; have := HJ21.out; first | omega | exact Nat.le_refl _⟩, ⟨by repeat (first | (with_reducible first | exact HB.out | apply below_alloc | apply pw_below_drewN | apply below_drew1) | exact HB.out)⟩⟩
                              · rw [if_neg c39] at H
                                have c39b0 : (t377 == (wrap64 (t369 - 1))) = false := beq_eq_false_iff_ne.mpr c39
                                have c39b1 : (t377 != (wrap64 (t369 - 1))) = true := bne_iff_ne.mpr c39
                                have H' := Aside0.mk H
                                clear H
                                go_wp2
                                go_meet
                                case rel => exact ⟨_, (true), (by first | rfl | (simp; done) | (simp [*]; done)), H', ⟨by have := HJ7.out; have := HJ21.out; first | omega | exact Nat.le_refl _⟩, ⟨by repeat (first | (with_reducible first | exact HB.out | apply below_alloc | apply pw_below_drewN | apply below_drew1) | exact HB.out)⟩⟩
                          · rw [if_neg c36] at H
                            have c36b0 : (t382 == 0) = false := beq_eq_false_iff_ne.mpr c36
                            have c36b1 : (t382 != 0) = true := bne_iff_ne.mpr c36
                            have H' := Aside0.mk H
                            clear H
                            go_wp2
                            go_meet
                            case rel => exact ⟨_, (true), (by first | rfl | (simp; done) | (simp [*]; done)), H', ⟨by have := HJ7.out; have := HJ21.out; first | omega | exact Nat.le_refl _⟩, ⟨by repeat (first | (with_reducible first | exact HB.out | apply below_alloc | apply pw_below_drewN | apply below_drew1) | exact HB.out)⟩⟩
                        · rw [if_neg c35] at H
                          have c35b0 : (t380 == 0) = false := beq_eq_false_iff_ne.mpr c35
                          have c35b1 : (t380 != 0) = true := bne_iff_ne.mpr c35
                          have H' := Aside0.mk H
                          clear H
                          go_wp2
                          go_meet
                          case rel => exact ⟨_, (true), (by first | rfl | (simp; done) | (simp [*]; done)), H', ⟨by have := HJ7.out; have := HJ21.out; first | omega | exact Nat.le_refl _⟩, ⟨by repeat (first | (with_reducible first | exact HB.out | apply below_alloc | apply pw_below_drewN | apply below_drew1) | exact HB.out)⟩⟩
                      · rw [if_neg c34] at H
                        have c34b0 : (t378 == 0) = false := beq_eq_false_iff_ne.mpr c34
                        have c34b1 : (t378 != 0) = true := bne_iff_ne.mpr c34
                        (first | rw [c34b0] | (simp only [i64_w, i32_w]; rw [c34b0]) | skip)
                        have H' := Aside0.mk H
                        clear H
                        go_wp2
                        go_meet
                        case rel => exact ⟨_, (true), (by first | rfl | (simp; done) | (simp [*]; done)), H', ⟨by have := HJ7.out; have := HJ21.out; first | omega | exact Nat.le_refl _⟩, ⟨by repeat (first | (with_reducible first | exact HB.out | apply below_alloc | apply pw_below_drewN | apply below_drew1) | exact HB.out)⟩⟩
                    case rest =>
                      clear HC30
                      try clear c1
                      try clear c2
                      try clear p2
                      try clear c3
                      try clear p3
                      try clear q3
                      try clear hx3
                      try clear c4
                      try clear c5
                      try clear p6
                      try clear c12
                      try clear c12b0
                      try clear c12b1
                      try clear c13
                      try clear c13b0
                      try clear c13b1
                      try clear c14
                      try clear c14b0
                      try clear c14b1
                      try clear c15
                      try clear c17
                      try clear c18
                      try clear c18b0
                      try clear c18b1
                      try clear c20
                      try clear c20b0
                      try clear c21
                      try clear c21b0
                      try clear c24
                      try clear c24b0
                      try clear c25
                      try clear c33
                      try clear c34
                      try clear c34b0
                      try clear c34b1
                      try clear c35
                      try clear c35b0
                      try clear c35b1
                      try clear c36
                      try clear c36b0
                      try clear c36b1
                      try clear c37
                      try clear c37b0
                      try clear c37b1
                      try clear p37
                      try clear q37
                      try clear hx37
                      try clear c38
                      try clear c38b0
                      try clear c38b1
                      try clear c39
                      try clear c39b0
                      try clear c39b1
                      try clear c40
                      try clear c40b0
                      try clear c40b1
                      try clear hx375_0
                      try clear p2
                      try clear p3
                      try clear p375
                      try clear p6
                      try clear q3
                      try clear q375
                      obtain ⟨kq, x126_29, rfl, HA, HJ29, HB⟩ := hcut
                      cases kq with
                      | zero => exact absurd HA.out (by simp [bibelotlaw03_HanoiGros.j2])
                      | succ kj29 =>
                        have H := HA.out
                        clear HA
                        simp only [bibelotlaw03_HanoiGros.j2] at H
                        by_cases c41 : x126_29 = true
                        · subst c41
                          have H1 : (some false) = some r := by rw [if_pos rfl] at H; exact H
                          clear H
                          have H := H1
                          clear H1
                          obtain rfl := Option.some.inj H
                          go_wp2
                          go_ret
                          exact ⟨by first | rfl | (simp [errW_none, errW_some] <;> rfl) | (simp only [← hji19]; first | rfl | (simp [errW_none, errW_some] <;> rfl)) | (simp [*, errW_none, errW_some] <;> rfl), by repeat (first | (with_reducible first | exact HB.out | apply below_alloc | apply pw_below_drewN | apply below_drew1) | exact HB.out)⟩
                        · replace c41 := Bool.eq_false_iff.mpr c41
                          subst c41
                          have H1 : (bibelotlaw03_HanoiGros.l0 kj29 t367 (⟨#[]⟩ : ByteArray) (⟨#[]⟩ : ByteArray) 0) = some r := by rw [if_neg (show ¬ (false = true) by decide)] at H; exact H
                          clear H
                          have H := H1
                          clear H1
                          have H' := Aside0.mk H
                          clear H
                          go_wp2
                          go_loopg [20, 21, 22] kj29 (fun kq v20 v21 v22 w' => ∃ (x20_4 : ByteArray) (x21_4 : ByteArray) (x22_4 : Int), v20 = .string x20_4 ∧ v21 = .string x21_4 ∧ v22 = .int .i64 x22_4 ∧ Aside0 (bibelotlaw03_HanoiGros.l0 kq t367 x20_4 x21_4 x22_4 = some r) ∧ Aside0 (kq ≤ kj29) ∧ Aside0 (Below w.heap.size w w'))
                          case atStart => exact ⟨((⟨#[]⟩ : ByteArray)), ((⟨#[]⟩ : ByteArray)), (0), (by first | rfl | (simp; done) | (simp [*]; done)), (by first | rfl | (simp; done) | (simp [*]; done)), (by first | rfl | (simp; done) | (simp [*]; done)), H', ⟨Nat.le_refl _⟩, ⟨by repeat (first | (with_reducible first | exact HB.out | apply below_alloc | apply pw_below_drewN | apply below_drew1) | exact HB.out)⟩⟩
                          case round =>
                            clear H'
                            try clear c1
                            try clear c2
                            try clear p2
                            try clear c3
                            try clear p3
                            try clear q3
                            try clear hx3
                            try clear c4
                            try clear c5
                            try clear p6
                            try clear c12
                            try clear c12b0
                            try clear c12b1
                            try clear c13
                            try clear c13b0
                            try clear c13b1
                            try clear c14
                            try clear c14b0
                            try clear c14b1
                            try clear c15
                            try clear c17
                            try clear c18
                            try clear c18b0
                            try clear c18b1
                            try clear c20
                            try clear c20b0
                            try clear c21
                            try clear c21b0
                            try clear c24
                            try clear c24b0
                            try clear c25
                            try clear c33
                            try clear c34
                            try clear c34b0
                            try clear c34b1
                            try clear c35
                            try clear c35b0
                            try clear c35b1
                            try clear c36
                            try clear c36b0
                            try clear c36b1
                            try clear c37
                            try clear c37b0
                            try clear c37b1
                            try clear p37
                            try clear q37
                            try clear hx37
                            try clear c38
                            try clear c38b0
                            try clear c38b1
                            try clear c39
                            try clear c39b0
                            try clear c39b1
                            try clear c40
                            try clear c40b0
                            try clear c40b1
                            try clear c41
                            try clear hx375_0
                            try clear p2
                            try clear p3
                            try clear p37
                            try clear p375
                            try clear p6
                            try clear q3
                            try clear q37
                            try clear q375
                            obtain ⟨x20_4, x21_4, x22_4, rfl, rfl, rfl, HA, HK4, HB⟩ := hrel
                            cases gk with
                            | zero => exact absurd HA.out (by simp [bibelotlaw03_HanoiGros.l0])
                            | succ k4 =>
                              have H := HA.out
                              clear HA
                              simp only [bibelotlaw03_HanoiGros.l0] at H
                              by_cases c42 : x22_4 < t367
                              · rw [if_pos c42] at H
                                have c42b0 : decide (x22_4 < t367) = true := decide_eq_true c42
                                clear c42
                                by_cases c43 : x20_4.size + 1 ≤ 9223372036854775807
                                · rw [if_pos c43] at H
                                  have c43b0 := eq_true c43
                                  have c43b1 : decide (x20_4.size + 1 ≤ 9223372036854775807) = true := decide_eq_true c43
                                  try have c43b2 : (9223372036854775807 < x20_4.size + 1) = False := eq_false (Nat.not_lt.2 c43)
                                  by_cases c44 : x21_4.size + 1 ≤ 9223372036854775807
                                  · rw [if_pos c44] at H
                                    have c44b0 := eq_true c44
                                    have c44b1 : decide (x21_4.size + 1 ≤ 9223372036854775807) = true := decide_eq_true c44
                                    try have c44b2 : (9223372036854775807 < x21_4.size + 1) = False := eq_false (Nat.not_lt.2 c44)
                                    have H' := Aside0.mk H
                                    clear H
                                    go_wp2
                                    go_roundg k4
                                    case measure => have := HJ7.out; have := HJ21.out; have := HJ29.out; have := HK4.out; omega
                                    case rel => exact ⟨(x20_4 ++ (⟨#[48]⟩ : ByteArray)), (x21_4 ++ (⟨#[49]⟩ : ByteArray)), (wrap64 (x22_4 + 1)), (by first | rfl | (simp; done) | (simp [*]; done)), (by first | rfl | (simp; done) | (simp [*]; done)), (by first | rfl | (simp; done) | (simp [*]; done)), H', ⟨by have := HJ7.out; have := HJ21.out; have := HJ29.out; have := HK4.out; omega⟩, ⟨by repeat (first | (with_reducible first | exact HB.out | apply below_alloc | apply pw_below_drewN | apply below_drew1) | exact HB.out)⟩⟩
                                  · rw [if_neg c44] at H
                                    exact absurd H (by simp)
                                · rw [if_neg c43] at H
                                  exact absurd H (by simp)
                              · rw [if_neg c42] at H
                                have c42b0 : decide (x22_4 < t367) = false := decide_eq_false c42
                                clear c42
                                replace H := Option.bind_eq_some_iff.mp H
                                obtain ⟨⟨t383, t384⟩, A450, H⟩ := H
                                replace H : ((hanoi_Rank.f x21_4).bind fun bt385 => (if 0 ≤ (wrap64 (t367 + 1)) then (if t384 = 0 then (if t383 = 0 then (if bt385.2 = 0 then (if bt385.1 = (wrap64 (Int.tdiv (wrap64 ((shl .i64 1 (wrap64 (t367 + 1))) - 1)) 3)) then ((bibelotlaw03_awake.f k4).bind fun t387 => (some t387)) else (some false)) else (some false)) else (some false)) else (some false)) else (none))) = some r := H
                                have A45 := Aside0.mk A450
                                clear A450
                                replace H := Option.bind_eq_some_iff.mp H
                                obtain ⟨⟨t385, t386⟩, A460, H⟩ := H
                                replace H : (if 0 ≤ (wrap64 (t367 + 1)) then (if t384 = 0 then (if t383 = 0 then (if t386 = 0 then (if t385 = (wrap64 (Int.tdiv (wrap64 ((shl .i64 1 (wrap64 (t367 + 1))) - 1)) 3)) then ((bibelotlaw03_awake.f k4).bind fun t387 => (some t387)) else (some false)) else (some false)) else (some false)) else (some false)) else (none)) = some r := H
                                have A46 := Aside0.mk A460
                                clear A460
                                obtain ⟨ji47, hji47⟩ : ∃ j_ : Int, (wrap64 (t367 + 1)) = j_ := ⟨_, rfl⟩
                                replace H : (if 0 ≤ (ji47) then (if t384 = 0 then (if t383 = 0 then (if t386 = 0 then (if t385 = (wrap64 (Int.tdiv (wrap64 ((shl .i64 1 (ji47)) - 1)) 3)) then ((bibelotlaw03_awake.f k4).bind fun t387 => (some t387)) else (some false)) else (some false)) else (some false)) else (some false)) else (none)) = some r := by first | (rw [hji47] at H; exact H) | (simp only [hji47] at H ⊢; exact H)
                                (try rw [hji47] at A45)
                                (try rw [hji47] at A46)
                                have hji47w : (IntKind.i64.wrap (t367 + 1)) = ji47 := (i64_w _).trans hji47
                                by_cases c48 : 0 ≤ (ji47)
                                · rw [if_pos c48] at H
                                  have c48b0 := eq_true c48
                                  have c48b1 : decide (0 ≤ (ji47)) = true := decide_eq_true c48
                                  clear c48
                                  obtain ⟨ji49, hji49⟩ : ∃ j_ : Int, (shl .i64 1 (ji47)) = j_ := ⟨_, rfl⟩
                                  replace H : (if t384 = 0 then (if t383 = 0 then (if t386 = 0 then (if t385 = (wrap64 (Int.tdiv (wrap64 ((ji49) - 1)) 3)) then ((bibelotlaw03_awake.f k4).bind fun t387 => (some t387)) else (some false)) else (some false)) else (some false)) else (some false)) = some r := by first | (rw [hji49] at H; exact H) | (simp only [hji49] at H ⊢; exact H)
                                  (try rw [hji49] at A45)
                                  (try rw [hji49] at A46)
                                  have hji49_ : (IntKind.i64.wrap (1 * 2 ^ min (ji47).toNat 64)) = ji49 := hji49
                                  have hji49z : (ji47) ≤ 64 → (IntKind.i64.wrap (1 * 2 ^ (ji47).toNat)) = ji49 := shl_small hji49
                                  have hji49u : (IntKind.i64.wrap (2 ^ min (ji47).toNat 64)) = ji49 := by have h_ := hji49_; rw [Int.one_mul] at h_; exact h_
                                  have hji49v : (ji47) ≤ 64 → (IntKind.i64.wrap (2 ^ (ji47).toNat)) = ji49 := fun hle_ => by have h_ := hji49z hle_; rw [Int.one_mul] at h_; exact h_
                                  have hji49y : (wrap64 (1 * 2 ^ min (ji47).toNat 64)) = ji49 := (i64_w _).symm.trans hji49_
                                  have hji49x : (ji47) ≤ 64 → (wrap64 (1 * 2 ^ (ji47).toNat)) = ji49 := fun h_ => (i64_w _).symm.trans (hji49z h_)
                                  by_cases c50 : t384 = 0
                                  · rw [if_pos c50] at H
                                    have c50b0 : (t384 == 0) = true := beq_iff_eq.mpr c50
                                    have c50b1 : (t384 != 0) = false := bne_eq_false_iff_eq.mpr c50
                                    clear c50
                                    by_cases c51 : t383 = 0
                                    · rw [if_pos c51] at H
                                      have c51b0 : (t383 == 0) = true := beq_iff_eq.mpr c51
                                      have c51b1 : (t383 != 0) = false := bne_eq_false_iff_eq.mpr c51
                                      clear c51
                                      by_cases c52 : t386 = 0
                                      · rw [if_pos c52] at H
                                        have c52b0 : (t386 == 0) = true := beq_iff_eq.mpr c52
                                        have c52b1 : (t386 != 0) = false := bne_eq_false_iff_eq.mpr c52
                                        clear c52
                                        by_cases c53 : t385 = (wrap64 (Int.tdiv (wrap64 ((ji49) - 1)) 3))
                                        · rw [if_pos c53] at H
                                          have c53b0 : (t385 == (wrap64 (Int.tdiv (wrap64 ((ji49) - 1)) 3))) = true := beq_iff_eq.mpr c53
                                          have c53b1 : (t385 != (wrap64 (Int.tdiv (wrap64 ((ji49) - 1)) 3))) = false := bne_eq_false_iff_eq.mpr c53
                                          clear c53
                                          replace H := Option.bind_eq_some_iff.mp H
                                          obtain ⟨t387, A540, H⟩ := H
                                          replace H : (some t387) = some r := H
                                          have A54 := Aside0.mk A540
                                          clear A540
                                          obtain rfl := Option.some.inj H
                                          go_wp2_with (first | ((with_reducible refine gate_callee (f := 33) rfl ?_); refine goesL_ (some 138) rfl rfl Tryd.func33 (by kernel_rfl) rfl #[.string x20_4] rfl (by (try simp only [List.map_toArray, List.map_cons, List.map_nil]); first | done | rfl | (simp only [List.length_drop, List.length_take]; rfl)) ?_; (with_reducible refine (hanoi_Rank.calls x20_4 t383 t384 _ A45.out).mono ?_); rintro e w55 ⟨rfl, hb⟩; refine ⟨_, rfl, ?_⟩; have n0_ := Aside0.mk (below_step (by repeat (first | (with_reducible first | exact HB.out | apply below_alloc | apply pw_below_drewN | apply below_drew1) | exact HB.out)) hb); clear HB; have HB := n0_; clear n0_; (try clear hb); (try clear hb2); (try clear hk); (try clear hi)) | ((with_reducible refine gate_callee (f := 33) rfl ?_); refine goesL_ (some 143) rfl rfl Tryd.func33 (by kernel_rfl) rfl #[.string x21_4] rfl (by (try simp only [List.map_toArray, List.map_cons, List.map_nil]); first | done | rfl | (simp only [List.length_drop, List.length_take]; rfl)) ?_; (with_reducible refine (hanoi_Rank.calls x21_4 t385 t386 _ A46.out).mono ?_); rintro e w56 ⟨rfl, hb⟩; refine ⟨_, rfl, ?_⟩; have n0_ := Aside0.mk (below_step (by repeat (first | (with_reducible first | exact HB.out | apply below_alloc | apply pw_below_drewN | apply below_drew1) | exact HB.out)) hb); clear HB; have HB := n0_; clear n0_; (try clear hb); (try clear hb2); (try clear hk); (try clear hi)) | (go_at_call 26; (with_reducible refine (bibelotlaw03_awake.calls k4  t387 _ A54.out).mono ?_); rintro e w57 ⟨rfl, hb⟩; have n0_ := Aside0.mk (below_step (by repeat (first | (with_reducible first | exact HB.out | apply below_alloc | apply pw_below_drewN | apply below_drew1) | exact HB.out)) hb); clear HB; have HB := n0_; clear n0_; (try clear hb); (try clear hb2); (try clear hk); (try clear hi)))
                                          go_ret
                                          exact ⟨by first | rfl | (simp [errW_none, errW_some] <;> rfl) | (simp only [← hji19, ← hji47, ← hji49]; first | rfl | (simp [errW_none, errW_some] <;> rfl)) | (simp [*, errW_none, errW_some] <;> rfl), by repeat (first | (with_reducible first | exact HB.out | apply below_alloc | apply pw_below_drewN | apply below_drew1) | exact HB.out)⟩
                                        · rw [if_neg c53] at H
                                          have c53b0 : (t385 == (wrap64 (Int.tdiv (wrap64 ((ji49) - 1)) 3))) = false := beq_eq_false_iff_ne.mpr c53
                                          have c53b1 : (t385 != (wrap64 (Int.tdiv (wrap64 ((ji49) - 1)) 3))) = true := bne_iff_ne.mpr c53
                                          obtain rfl := Option.some.inj H
                                          go_wp2_with (first | ((with_reducible refine gate_callee (f := 33) rfl ?_); refine goesL_ (some 138) rfl rfl Tryd.func33 (by kernel_rfl) rfl #[.string x20_4] rfl (by (try simp only [List.map_toArray, List.map_cons, List.map_nil]); first | done | rfl | (simp only [List.length_drop, List.length_take]; rfl)) ?_; (with_reducible refine (hanoi_Rank.calls x20_4 t383 t384 _ A45.out).mono ?_); rintro e w58 ⟨rfl, hb⟩; refine ⟨_, rfl, ?_⟩; have n0_ := Aside0.mk (below_step (by repeat (first | (with_reducible first | exact HB.out | apply below_alloc | apply pw_below_drewN | apply below_drew1) | exact HB.out)) hb); clear HB; have HB := n0_; clear n0_; (try clear hb); (try clear hb2); (try clear hk); (try clear hi)) | ((with_reducible refine gate_callee (f := 33) rfl ?_); refine goesL_ (some 143) rfl rfl Tryd.func33 (by kernel_rfl) rfl #[.string x21_4] rfl (by (try simp only [List.map_toArray, List.map_cons, List.map_nil]); first | done | rfl | (simp only [List.length_drop, List.length_take]; rfl)) ?_; (with_reducible refine (hanoi_Rank.calls x21_4 t385 t386 _ A46.out).mono ?_); rintro e w59 ⟨rfl, hb⟩; refine ⟨_, rfl, ?_⟩; have n0_ := Aside0.mk (below_step (by repeat (first | (with_reducible first | exact HB.out | apply below_alloc | apply pw_below_drewN | apply below_drew1) | exact HB.out)) hb); clear HB; have HB := n0_; clear n0_; (try clear hb); (try clear hb2); (try clear hk); (try clear hi)))
                                          go_ret
                                          exact ⟨by first | rfl | (simp [errW_none, errW_some] <;> rfl) | (simp only [← hji19, ← hji47, ← hji49]; first | rfl | (simp [errW_none, errW_some] <;> rfl)) | (simp [*, errW_none, errW_some] <;> rfl), by repeat (first | (with_reducible first | exact HB.out | apply below_alloc | apply pw_below_drewN | apply below_drew1) | exact HB.out)⟩
                                      · rw [if_neg c52] at H
                                        have c52b0 : (t386 == 0) = false := beq_eq_false_iff_ne.mpr c52
                                        have c52b1 : (t386 != 0) = true := bne_iff_ne.mpr c52
                                        obtain rfl := Option.some.inj H
                                        go_wp2_with (first | ((with_reducible refine gate_callee (f := 33) rfl ?_); refine goesL_ (some 138) rfl rfl Tryd.func33 (by kernel_rfl) rfl #[.string x20_4] rfl (by (try simp only [List.map_toArray, List.map_cons, List.map_nil]); first | done | rfl | (simp only [List.length_drop, List.length_take]; rfl)) ?_; (with_reducible refine (hanoi_Rank.calls x20_4 t383 t384 _ A45.out).mono ?_); rintro e w60 ⟨rfl, hb⟩; refine ⟨_, rfl, ?_⟩; have n0_ := Aside0.mk (below_step (by repeat (first | (with_reducible first | exact HB.out | apply below_alloc | apply pw_below_drewN | apply below_drew1) | exact HB.out)) hb); clear HB; have HB := n0_; clear n0_; (try clear hb); (try clear hb2); (try clear hk); (try clear hi)) | ((with_reducible refine gate_callee (f := 33) rfl ?_); refine goesL_ (some 143) rfl rfl Tryd.func33 (by kernel_rfl) rfl #[.string x21_4] rfl (by (try simp only [List.map_toArray, List.map_cons, List.map_nil]); first | done | rfl | (simp only [List.length_drop, List.length_take]; rfl)) ?_; (with_reducible refine (hanoi_Rank.calls x21_4 t385 t386 _ A46.out).mono ?_); rintro e w61 ⟨rfl, hb⟩; refine ⟨_, rfl, ?_⟩; have n0_ := Aside0.mk (below_step (by repeat (first | (with_reducible first | exact HB.out | apply below_alloc | apply pw_below_drewN | apply below_drew1) | exact HB.out)) hb); clear HB; have HB := n0_; clear n0_; (try clear hb); (try clear hb2); (try clear hk); (try clear hi)))
                                        go_ret
                                        exact ⟨by first | rfl | (simp [errW_none, errW_some] <;> rfl) | (simp only [← hji19, ← hji47, ← hji49]; first | rfl | (simp [errW_none, errW_some] <;> rfl)) | (simp [*, errW_none, errW_some] <;> rfl), by repeat (first | (with_reducible first | exact HB.out | apply below_alloc | apply pw_below_drewN | apply below_drew1) | exact HB.out)⟩
                                    · rw [if_neg c51] at H
                                      have c51b0 : (t383 == 0) = false := beq_eq_false_iff_ne.mpr c51
                                      have c51b1 : (t383 != 0) = true := bne_iff_ne.mpr c51
                                      obtain rfl := Option.some.inj H
                                      go_wp2_with (first | ((with_reducible refine gate_callee (f := 33) rfl ?_); refine goesL_ (some 138) rfl rfl Tryd.func33 (by kernel_rfl) rfl #[.string x20_4] rfl (by (try simp only [List.map_toArray, List.map_cons, List.map_nil]); first | done | rfl | (simp only [List.length_drop, List.length_take]; rfl)) ?_; (with_reducible refine (hanoi_Rank.calls x20_4 t383 t384 _ A45.out).mono ?_); rintro e w62 ⟨rfl, hb⟩; refine ⟨_, rfl, ?_⟩; have n0_ := Aside0.mk (below_step (by repeat (first | (with_reducible first | exact HB.out | apply below_alloc | apply pw_below_drewN | apply below_drew1) | exact HB.out)) hb); clear HB; have HB := n0_; clear n0_; (try clear hb); (try clear hb2); (try clear hk); (try clear hi)) | ((with_reducible refine gate_callee (f := 33) rfl ?_); refine goesL_ (some 143) rfl rfl Tryd.func33 (by kernel_rfl) rfl #[.string x21_4] rfl (by (try simp only [List.map_toArray, List.map_cons, List.map_nil]); first | done | rfl | (simp only [List.length_drop, List.length_take]; rfl)) ?_; (with_reducible refine (hanoi_Rank.calls x21_4 t385 t386 _ A46.out).mono ?_); rintro e w63 ⟨rfl, hb⟩; refine ⟨_, rfl, ?_⟩; have n0_ := Aside0.mk (below_step (by repeat (first | (with_reducible first | exact HB.out | apply below_alloc | apply pw_below_drewN | apply below_drew1) | exact HB.out)) hb); clear HB; have HB := n0_; clear n0_; (try clear hb); (try clear hb2); (try clear hk); (try clear hi)))
                                      go_ret
                                      exact ⟨by first | rfl | (simp [errW_none, errW_some] <;> rfl) | (simp only [← hji19, ← hji47, ← hji49]; first | rfl | (simp [errW_none, errW_some] <;> rfl)) | (simp [*, errW_none, errW_some] <;> rfl), by repeat (first | (with_reducible first | exact HB.out | apply below_alloc | apply pw_below_drewN | apply below_drew1) | exact HB.out)⟩
                                  · rw [if_neg c50] at H
                                    have c50b0 : (t384 == 0) = false := beq_eq_false_iff_ne.mpr c50
                                    have c50b1 : (t384 != 0) = true := bne_iff_ne.mpr c50
                                    obtain rfl := Option.some.inj H
                                    go_wp2_with (first | ((with_reducible refine gate_callee (f := 33) rfl ?_); refine goesL_ (some 138) rfl rfl Tryd.func33 (by kernel_rfl) rfl #[.string x20_4] rfl (by (try simp only [List.map_toArray, List.map_cons, List.map_nil]); first | done | rfl | (simp only [List.length_drop, List.length_take]; rfl)) ?_; (with_reducible refine (hanoi_Rank.calls x20_4 t383 t384 _ A45.out).mono ?_); rintro e w64 ⟨rfl, hb⟩; refine ⟨_, rfl, ?_⟩; have n0_ := Aside0.mk (below_step (by repeat (first | (with_reducible first | exact HB.out | apply below_alloc | apply pw_below_drewN | apply below_drew1) | exact HB.out)) hb); clear HB; have HB := n0_; clear n0_; (try clear hb); (try clear hb2); (try clear hk); (try clear hi)) | ((with_reducible refine gate_callee (f := 33) rfl ?_); refine goesL_ (some 143) rfl rfl Tryd.func33 (by kernel_rfl) rfl #[.string x21_4] rfl (by (try simp only [List.map_toArray, List.map_cons, List.map_nil]); first | done | rfl | (simp only [List.length_drop, List.length_take]; rfl)) ?_; (with_reducible refine (hanoi_Rank.calls x21_4 t385 t386 _ A46.out).mono ?_); rintro e w65 ⟨rfl, hb⟩; refine ⟨_, rfl, ?_⟩; have n0_ := Aside0.mk (below_step (by repeat (first | (with_reducible first | exact HB.out | apply below_alloc | apply pw_below_drewN | apply below_drew1) | exact HB.out)) hb); clear HB; have HB := n0_; clear n0_; (try clear hb); (try clear hb2); (try clear hk); (try clear hi)))
                                    go_ret
                                    exact ⟨by first | rfl | (simp [errW_none, errW_some] <;> rfl) | (simp only [← hji19, ← hji47, ← hji49]; first | rfl | (simp [errW_none, errW_some] <;> rfl)) | (simp [*, errW_none, errW_some] <;> rfl), by repeat (first | (with_reducible first | exact HB.out | apply below_alloc | apply pw_below_drewN | apply below_drew1) | exact HB.out)⟩
                                · rw [if_neg c48] at H
                                  exact absurd H (by simp)
            · rw [if_neg c21] at H
              exact absurd H (by simp)
          · rw [if_neg c20] at H
            exact absurd H (by simp)

/-- THE ONE PURE STATEMENT of bibelotlaw03_HanoiGros: yours. -/
def bibelotlaw03_HanoiGros.Pure : Prop := ∀ (a0 : Int) (a1 : ByteArray) (a2 : Int), (Lit.int .i64 a0).wf = true → a1.size ≤ 140737488351232 → (Lit.int .i64 a2).wf = true → ∃ k, bibelotlaw03_HanoiGros.f k a0 a1 a2 = some true
theorem bibelotlaw03_HanoiGros.walk (P : bibelotlaw03_HanoiGros.Pure) (a0 : Int) (a1 : ByteArray) (a2 : Int) (w : World) (w0 : (Lit.int .i64 a0).wf = true) (w1 : a1.size ≤ 140737488351232) (w2 : (Lit.int .i64 a2).wf = true) :
    Calls Tryd.prog 15 #[.int .i64 a0, .string a1, .int .i64 a2] w fun e w' => e = .returned (.bool true) ∧ Below w.heap.size w w' := by
  obtain ⟨k, h⟩ := P a0 a1 a2 w0 w1 w2
  refine (bibelotlaw03_HanoiGros.calls k a0 a1 a2 true w h).mono ?_
  rintro e w' ⟨rfl, hd⟩
  exact ⟨rfl, hd⟩

end Go.Proofs.YtnaaomhmoamfpaaDoor.Q
namespace Go.Proofs.YtnaaomhmoamfpaaDoor.G
end Go.Proofs.YtnaaomhmoamfpaaDoor.G
namespace Go.Proofs.YtnaaomhmoamfpaaDoor.Q
set_option linter.unusedVariables false
set_option linter.unusedSimpArgs false
set_option linter.unusedSectionVars false
open Go.Proofs.YtnaaomhmoamfpaaDoor.G
open Go.RowKit Go.Proofs.YtnaaomhmoamfpaaDoorW.PrintWords Go.Proofs.YtnaaomhmoamfpaaDoorW.PrintLast Go.Proofs.YtnaaomhmoamfpaaDoorW.PrintMore
attribute [local go_sem] max2_int min2_int max_two min_two max_three min_three max_four min_four   -- for this text's walks alone

/-! ### bibelotref03_Unrank: function 34 -/
def bibelotref03_Unrank.l0 : Nat → Int → Int → ByteArray → Int → Option (ByteArray)
  | 0, _, _, _, _ => none
  | k + 1, x0, x1, x5, x6 => if x6 < x0 then (if 0 ≤ x6 then (if 0 ≤ (wrap64 (x6 + 1)) then (if (Int.tmod (wrap64 ((shr .i64 x1 x6) + (shr .i64 x1 (wrap64 (x6 + 1))))) 2) = 1 then (if x5.size + 1 ≤ 9223372036854775807 then (bibelotref03_Unrank.l0 k x0 x1 (x5 ++ (⟨#[49]⟩ : ByteArray)) (wrap64 (x6 + 1))) else (none)) else (if x5.size + 1 ≤ 9223372036854775807 then (bibelotref03_Unrank.l0 k x0 x1 (x5 ++ (⟨#[48]⟩ : ByteArray)) (wrap64 (x6 + 1))) else (none))) else (none)) else (none)) else (some x5)
def bibelotref03_Unrank.f (k : Nat) (a0 : Int) (a1 : Int) : Option (ByteArray) := bibelotref03_Unrank.l0 k a0 a1 (⟨#[]⟩ : ByteArray) 0
theorem bibelotref03_Unrank.mono_l : ∀ k, (∀ y0 y1 y2 y3, LeO (bibelotref03_Unrank.l0 k y0 y1 y2 y3) (bibelotref03_Unrank.l0 (k + 1) y0 y1 y2 y3))
  | 0 => fun _ _ _ _ r h => by simp [bibelotref03_Unrank.l0] at h
  | k + 1 => by
    have ih0 := bibelotref03_Unrank.mono_l k
    · intro y0 y1 y2 y3
      unfold bibelotref03_Unrank.l0
      repeat' first
      | (with_reducible exact ih0 _ _ _ _)
      | (with_reducible exact LeO.refl _)
      | (with_reducible exact LeO.none _)
      | (with_reducible refine LeO.ite ?_ ?_)
      | (with_reducible refine LeO.bind ?_ (fun _ => ?_))
      | exact ih0 _ _ _ _
      | exact LeO.none _
      | refine LeO.ite ?_ ?_
      | refine LeO.bind ?_ (fun _ => ?_)
theorem bibelotref03_Unrank.mono : ∀ a0 a1 k, LeO (bibelotref03_Unrank.f k a0 a1) (bibelotref03_Unrank.f (k + 1) a0 a1) := by
  intro a0 a1 k
  have ih0 := bibelotref03_Unrank.mono_l k
  unfold bibelotref03_Unrank.f
  repeat' first
      | (with_reducible exact ih0 _ _ _ _)
      | (with_reducible exact LeO.refl _)
      | (with_reducible exact LeO.none _)
      | (with_reducible refine LeO.ite ?_ ?_)
      | (with_reducible refine LeO.bind ?_ (fun _ => ?_))
      | exact ih0 _ _ _ _
      | exact LeO.none _
      | refine LeO.ite ?_ ?_
      | refine LeO.bind ?_ (fun _ => ?_)
set_option maxHeartbeats 8000000 in
set_option maxRecDepth 100000 in
theorem bibelotref03_Unrank.calls (k : Nat) (a0 : Int) (a1 : Int) (r : ByteArray) (w : World) (h : bibelotref03_Unrank.f k a0 a1 = some r) :
    Calls Tryd.prog 34 #[.int .i64 a0, .int .i64 a1] w fun e w' => e = .returned (.string r) ∧ Drawn0 w w' := by
  have H : (bibelotref03_Unrank.l0 k a0 a1 (⟨#[]⟩ : ByteArray) 0) = some r := h
  clear h
  have H' := Aside0.mk H
  clear H
  go_enter Tryd.func34, Tryd.ntmps34
  go_wp2
  repeat (go_quiet (fail); try go_wp2)
  go_loopg [5, 6] k (fun kq v5 v6 w' => ∃ (x5_1 : ByteArray) (x6_1 : Int), v5 = .string x5_1 ∧ v6 = .int .i64 x6_1 ∧ Aside0 (bibelotref03_Unrank.l0 kq a0 a1 x5_1 x6_1 = some r) ∧ Aside0 (kq ≤ k) ∧ Drawn0 w w')
  case atStart => exact ⟨((⟨#[]⟩ : ByteArray)), (0), (by first | rfl | (simp; done) | (simp [*]; done)), (by first | rfl | (simp; done) | (simp [*]; done)), H', ⟨Nat.le_refl _⟩, by repeat (first | exact Drawn0.refl _ | apply Drawn0.step)⟩
  case round =>
    clear H'
    try clear p2
    obtain ⟨x5_1, x6_1, rfl, rfl, HA, HK1, ⟨m1, rfl⟩⟩ := hrel
    cases gk with
    | zero => exact absurd HA.out (by simp [bibelotref03_Unrank.l0])
    | succ k1 =>
      have H := HA.out
      clear HA
      simp only [bibelotref03_Unrank.l0] at H
      by_cases c3 : x6_1 < a0
      · rw [if_pos c3] at H
        have c3b0 : decide (x6_1 < a0) = true := decide_eq_true c3
        clear c3
        by_cases c4 : 0 ≤ x6_1
        · rw [if_pos c4] at H
          have c4b0 := eq_true c4
          have c4b1 : decide (0 ≤ x6_1) = true := decide_eq_true c4
          clear c4
          obtain ⟨ji5, hji5⟩ : ∃ j_ : Int, (shr .i64 a1 x6_1) = j_ := ⟨_, rfl⟩
          replace H : (if 0 ≤ (wrap64 (x6_1 + 1)) then (if (Int.tmod (wrap64 ((ji5) + (shr .i64 a1 (wrap64 (x6_1 + 1))))) 2) = 1 then (if x5_1.size + 1 ≤ 9223372036854775807 then (bibelotref03_Unrank.l0 k1 a0 a1 (x5_1 ++ (⟨#[49]⟩ : ByteArray)) (wrap64 (x6_1 + 1))) else (none)) else (if x5_1.size + 1 ≤ 9223372036854775807 then (bibelotref03_Unrank.l0 k1 a0 a1 (x5_1 ++ (⟨#[48]⟩ : ByteArray)) (wrap64 (x6_1 + 1))) else (none))) else (none)) = some r := by first | (rw [hji5] at H; exact H) | (simp only [hji5] at H ⊢; exact H)
          have hji5_ : (a1 / 2 ^ min x6_1.toNat 64) = ji5 := hji5
          have hji5z : x6_1 ≤ 64 → (a1 / 2 ^ x6_1.toNat) = ji5 := shr_small hji5
          obtain ⟨ji6, hji6⟩ : ∃ j_ : Int, (wrap64 (x6_1 + 1)) = j_ := ⟨_, rfl⟩
          replace H : (if 0 ≤ (ji6) then (if (Int.tmod (wrap64 ((ji5) + (shr .i64 a1 (ji6)))) 2) = 1 then (if x5_1.size + 1 ≤ 9223372036854775807 then (bibelotref03_Unrank.l0 k1 a0 a1 (x5_1 ++ (⟨#[49]⟩ : ByteArray)) ji6) else (none)) else (if x5_1.size + 1 ≤ 9223372036854775807 then (bibelotref03_Unrank.l0 k1 a0 a1 (x5_1 ++ (⟨#[48]⟩ : ByteArray)) ji6) else (none))) else (none)) = some r := by first | (rw [hji6] at H; exact H) | (simp only [hji6] at H ⊢; exact H)
          have hji6w : (IntKind.i64.wrap (x6_1 + 1)) = ji6 := (i64_w _).trans hji6
          by_cases c7 : 0 ≤ (ji6)
          · rw [if_pos c7] at H
            have c7b0 := eq_true c7
            have c7b1 : decide (0 ≤ (ji6)) = true := decide_eq_true c7
            clear c7
            obtain ⟨ji8, hji8⟩ : ∃ j_ : Int, (shr .i64 a1 (ji6)) = j_ := ⟨_, rfl⟩
            replace H : (if (Int.tmod (wrap64 ((ji5) + (ji8))) 2) = 1 then (if x5_1.size + 1 ≤ 9223372036854775807 then (bibelotref03_Unrank.l0 k1 a0 a1 (x5_1 ++ (⟨#[49]⟩ : ByteArray)) ji6) else (none)) else (if x5_1.size + 1 ≤ 9223372036854775807 then (bibelotref03_Unrank.l0 k1 a0 a1 (x5_1 ++ (⟨#[48]⟩ : ByteArray)) ji6) else (none))) = some r := by first | (rw [hji8] at H; exact H) | (simp only [hji8] at H ⊢; exact H)
            have hji8_ : (a1 / 2 ^ min (ji6).toNat 64) = ji8 := hji8
            have hji8z : (ji6) ≤ 64 → (a1 / 2 ^ (ji6).toNat) = ji8 := shr_small hji8
            by_cases c9 : (Int.tmod (wrap64 ((ji5) + (ji8))) 2) = 1
            · rw [if_pos c9] at H
              have c9b0 : ((Int.tmod (wrap64 ((ji5) + (ji8))) 2) == 1) = true := beq_iff_eq.mpr c9
              have c9b1 : ((Int.tmod (wrap64 ((ji5) + (ji8))) 2) != 1) = false := bne_eq_false_iff_eq.mpr c9
              clear c9
              by_cases c10 : x5_1.size + 1 ≤ 9223372036854775807
              · rw [if_pos c10] at H
                have c10b0 := eq_true c10
                have c10b1 : decide (x5_1.size + 1 ≤ 9223372036854775807) = true := decide_eq_true c10
                try have c10b2 : (9223372036854775807 < x5_1.size + 1) = False := eq_false (Nat.not_lt.2 c10)
                have H' := Aside0.mk H
                clear H
                go_wp2
                repeat (go_quiet (fail); try go_wp2)
                go_roundg k1
                case measure => have := HK1.out; omega
                case rel => exact ⟨(x5_1 ++ (⟨#[49]⟩ : ByteArray)), (ji6), (by first | rfl | (simp; done) | (simp [*]; done)), (by first | rfl | (simp; done) | (simp only [← hji6] <;> (first | rfl | simp)) | (simp [*]; done)), H', ⟨by have := HK1.out; omega⟩, by repeat (first | exact Drawn0.refl _ | apply Drawn0.step)⟩
              · rw [if_neg c10] at H
                exact absurd H (by simp)
            · rw [if_neg c9] at H
              have c9b0 : ((Int.tmod (wrap64 ((ji5) + (ji8))) 2) == 1) = false := beq_eq_false_iff_ne.mpr c9
              have c9b1 : ((Int.tmod (wrap64 ((ji5) + (ji8))) 2) != 1) = true := bne_iff_ne.mpr c9
              by_cases c11 : x5_1.size + 1 ≤ 9223372036854775807
              · rw [if_pos c11] at H
                have c11b0 := eq_true c11
                have c11b1 : decide (x5_1.size + 1 ≤ 9223372036854775807) = true := decide_eq_true c11
                try have c11b2 : (9223372036854775807 < x5_1.size + 1) = False := eq_false (Nat.not_lt.2 c11)
                have H' := Aside0.mk H
                clear H
                go_wp2
                repeat (go_quiet (fail); try go_wp2)
                go_roundg k1
                case measure => have := HK1.out; omega
                case rel => exact ⟨(x5_1 ++ (⟨#[48]⟩ : ByteArray)), (ji6), (by first | rfl | (simp; done) | (simp [*]; done)), (by first | rfl | (simp; done) | (simp only [← hji6] <;> (first | rfl | simp)) | (simp [*]; done)), H', ⟨by have := HK1.out; omega⟩, by repeat (first | exact Drawn0.refl _ | apply Drawn0.step)⟩
              · rw [if_neg c11] at H
                exact absurd H (by simp)
          · rw [if_neg c7] at H
            exact absurd H (by simp)
        · rw [if_neg c4] at H
          exact absurd H (by simp)
      · rw [if_neg c3] at H
        have c3b0 : decide (x6_1 < a0) = false := decide_eq_false c3
        clear c3
        obtain rfl := Option.some.inj H
        go_wp2
        repeat (go_quiet (fail); try go_wp2)
        go_ret
        exact ⟨by first | rfl | (simp; done) | (simp [*]; done), by repeat (first | exact Drawn0.refl _ | apply Drawn0.step)⟩

end Go.Proofs.YtnaaomhmoamfpaaDoor.Q
namespace Go.Proofs.YtnaaomhmoamfpaaDoor.G
end Go.Proofs.YtnaaomhmoamfpaaDoor.G
namespace Go.Proofs.YtnaaomhmoamfpaaDoor.Q
set_option linter.unusedVariables false
set_option linter.unusedSimpArgs false
set_option linter.unusedSectionVars false
open Go.Proofs.YtnaaomhmoamfpaaDoor.G
open Go.RowKit Go.Proofs.YtnaaomhmoamfpaaDoorW.PrintWords Go.Proofs.YtnaaomhmoamfpaaDoorW.PrintLast Go.Proofs.YtnaaomhmoamfpaaDoorW.PrintMore
attribute [local go_sem] max2_int min2_int max_two min_two max_three min_three max_four min_four   -- for this text's walks alone

/-! ### bibelotref03_Rank: function 38 -/
def bibelotref03_Rank.l0 : Nat → ByteArray → Int → Int → Int → Option (Int)
  | 0, _, _, _, _ => none
  | k + 1, x0, x3, x4, x5 => if x5 ≥ 0 then (if 0 ≤ x5 then (if x5 < (x0.size : Int) then (if (bt x0 x5) = 49 then (bibelotref03_Rank.l0 k x0 (wrap64 ((wrap64 (2 * x3)) + (wrap64 (1 - x4)))) (wrap64 (1 - x4)) (wrap64 (x5 - 1))) else (bibelotref03_Rank.l0 k x0 (wrap64 ((wrap64 (2 * x3)) + x4)) x4 (wrap64 (x5 - 1)))) else (none)) else (none)) else (some x3)
def bibelotref03_Rank.f (k : Nat) (a0 : ByteArray) : Option (Int) := bibelotref03_Rank.l0 k a0 0 0 (wrap64 ((a0.size : Int) - 1))
theorem bibelotref03_Rank.mono_l : ∀ k, (∀ y0 y1 y2 y3, LeO (bibelotref03_Rank.l0 k y0 y1 y2 y3) (bibelotref03_Rank.l0 (k + 1) y0 y1 y2 y3))
  | 0 => fun _ _ _ _ r h => by simp [bibelotref03_Rank.l0] at h
  | k + 1 => by
    have ih0 := bibelotref03_Rank.mono_l k
    · intro y0 y1 y2 y3
      unfold bibelotref03_Rank.l0
      repeat' first
      | (with_reducible exact ih0 _ _ _ _)
      | (with_reducible exact LeO.refl _)
      | (with_reducible exact LeO.none _)
      | (with_reducible refine LeO.ite ?_ ?_)
      | (with_reducible refine LeO.bind ?_ (fun _ => ?_))
      | exact ih0 _ _ _ _
      | exact LeO.none _
      | refine LeO.ite ?_ ?_
      | refine LeO.bind ?_ (fun _ => ?_)
theorem bibelotref03_Rank.mono : ∀ a0 k, LeO (bibelotref03_Rank.f k a0) (bibelotref03_Rank.f (k + 1) a0) := by
  intro a0 k
  have ih0 := bibelotref03_Rank.mono_l k
  unfold bibelotref03_Rank.f
  repeat' first
      | (with_reducible exact ih0 _ _ _ _)
      | (with_reducible exact LeO.refl _)
      | (with_reducible exact LeO.none _)
      | (with_reducible refine LeO.ite ?_ ?_)
      | (with_reducible refine LeO.bind ?_ (fun _ => ?_))
      | exact ih0 _ _ _ _
      | exact LeO.none _
      | refine LeO.ite ?_ ?_
      | refine LeO.bind ?_ (fun _ => ?_)
set_option maxHeartbeats 8000000 in
set_option maxRecDepth 100000 in
theorem bibelotref03_Rank.calls (k : Nat) (a0 : ByteArray) (r : Int) (w : World) (h : bibelotref03_Rank.f k a0 = some r) :
    Calls Tryd.prog 38 #[.string a0] w fun e w' => e = .returned (.int .i64 r) ∧ Drawn0 w w' := by
  have H : (bibelotref03_Rank.l0 k a0 0 0 (wrap64 ((a0.size : Int) - 1))) = some r := h
  clear h
  have H' := Aside0.mk H
  clear H
  go_enter Tryd.func38, Tryd.ntmps38
  go_wp2
  go_loopg [3, 4, 5] k (fun kq v3 v4 v5 w' => ∃ (x3_1 : Int) (x4_1 : Int) (x5_1 : Int), v3 = .int .i64 x3_1 ∧ v4 = .int .i64 x4_1 ∧ v5 = .int .i64 x5_1 ∧ Aside0 (bibelotref03_Rank.l0 kq a0 x3_1 x4_1 x5_1 = some r) ∧ Aside0 (kq ≤ k) ∧ Drawn0 w w')
  case atStart => exact ⟨(0), (0), (wrap64 ((a0.size : Int) - 1)), (by first | rfl | (simp; done) | (simp [*]; done)), (by first | rfl | (simp; done) | (simp [*]; done)), (by first | rfl | (simp; done) | (simp [*]; done)), H', ⟨Nat.le_refl _⟩, by repeat (first | exact Drawn0.refl _ | apply Drawn0.step)⟩
  case round =>
    clear H'
    obtain ⟨x3_1, x4_1, x5_1, rfl, rfl, rfl, HA, HK1, ⟨m1, rfl⟩⟩ := hrel
    cases gk with
    | zero => exact absurd HA.out (by simp [bibelotref03_Rank.l0])
    | succ k1 =>
      have H := HA.out
      clear HA
      simp only [bibelotref03_Rank.l0] at H
      by_cases c2 : x5_1 ≥ 0
      · rw [if_pos c2] at H
        have c2b0 : decide (0 ≤ x5_1) = true := decide_eq_true c2
        clear c2
        by_cases c3 : 0 ≤ x5_1
        · rw [if_pos c3] at H
          have c3b0 : decide (0 ≤ x5_1) = true := decide_eq_true c3
          clear c3
          by_cases c4 : x5_1 < (a0.size : Int)
          · rw [if_pos c4] at H
            have c4b0 : decide (x5_1 < (a0.size : Int)) = true := decide_eq_true c4
            clear c4
            by_cases c6 : (bt a0 x5_1) = 49
            · rw [if_pos c6] at H
              have c6b0 : ((bt a0 x5_1) == 49) = true := beq_iff_eq.mpr c6
              have c6b1 : ((bt a0 x5_1) != 49) = false := bne_eq_false_iff_eq.mpr c6
              clear c6
              have H' := Aside0.mk H
              clear H
              have p5 : 0 ≤ (x5_1 : Int) := of_decide_eq_true (by first | (with_reducible assumption) | assumption)
              have q5 : x5_1 < (a0.size : Int) := of_decide_eq_true (by first | (with_reducible assumption) | assumption)
              have hx5 := bt_at a0 x5_1
              replace p5 := eq_true p5
              replace q5 := eq_true q5
              go_wp2
              go_roundg k1
              case measure => have := HK1.out; omega
              case rel => exact ⟨(wrap64 ((wrap64 (2 * x3_1)) + (wrap64 (1 - x4_1)))), (wrap64 (1 - x4_1)), (wrap64 (x5_1 - 1)), (by first | rfl | (simp; done) | (simp [*]; done)), (by first | rfl | (simp; done) | (simp [*]; done)), (by first | rfl | (simp; done) | (simp [*]; done)), H', ⟨by have := HK1.out; omega⟩, by repeat (first | exact Drawn0.refl _ | apply Drawn0.step)⟩
            · rw [if_neg c6] at H
              have c6b0 : ((bt a0 x5_1) == 49) = false := beq_eq_false_iff_ne.mpr c6
              have c6b1 : ((bt a0 x5_1) != 49) = true := bne_iff_ne.mpr c6
              have H' := Aside0.mk H
              clear H
              have p5 : 0 ≤ (x5_1 : Int) := of_decide_eq_true (by first | (with_reducible assumption) | assumption)
              have q5 : x5_1 < (a0.size : Int) := of_decide_eq_true (by first | (with_reducible assumption) | assumption)
              have hx5 := bt_at a0 x5_1
              replace p5 := eq_true p5
              replace q5 := eq_true q5
              go_wp2
              go_roundg k1
              case measure => have := HK1.out; omega
              case rel => exact ⟨(wrap64 ((wrap64 (2 * x3_1)) + x4_1)), (x4_1), (wrap64 (x5_1 - 1)), (by first | rfl | (simp; done) | (simp [*]; done)), (by first | rfl | (simp; done) | (simp [*]; done)), (by first | rfl | (simp; done) | (simp [*]; done)), H', ⟨by have := HK1.out; omega⟩, by repeat (first | exact Drawn0.refl _ | apply Drawn0.step)⟩
          · rw [if_neg c4] at H
            exact absurd H (by simp)
        · rw [if_neg c3] at H
          exact absurd H (by simp)
      · rw [if_neg c2] at H
        have c2b0 : decide (0 ≤ x5_1) = false := decide_eq_false c2
        clear c2
        obtain rfl := Option.some.inj H
        go_wp2
        go_ret
        exact ⟨by first | rfl | (simp; done) | (simp [*]; done), by repeat (first | exact Drawn0.refl _ | apply Drawn0.step)⟩

end Go.Proofs.YtnaaomhmoamfpaaDoor.Q
/- Rings: the rank of the rings with a rank; the document's Rank and Unrank. -/
namespace Go.Proofs.YtnaaomhmoamfpaaDoor.G
set_option linter.unusedVariables false
set_option linter.unusedSimpArgs false
set_option linter.unusedSectionVars false
open Go.Proofs.YtnaaomhmoamfpaaDoor.Q Go.Proofs.YtnaaomhmoamfpaaDoor.Hn
open Go.RowKit Go.Proofs.YtnaaomhmoamfpaaDoorW.PrintWords Go.Proofs.YtnaaomhmoamfpaaDoorW.PrintLast Go.Proofs.YtnaaomhmoamfpaaDoorW.PrintMore

def bitN (R i : Nat) : Nat := R / 2 ^ i % 2
theorem bitN_lt (R i : Nat) : bitN R i < 2 := Nat.mod_lt _ (by omega)
theorem half (R i : Nat) : R / 2 ^ i = 2 * (R / 2 ^ (i + 1)) + bitN R i := by
  unfold bitN
  rw [Nat.pow_succ, ← Nat.div_div_eq_div_mul]
  omega
theorem gray_bit (R i : Nat) : gray R / 2 ^ i % 2 = 1 ↔ bitN R i ≠ bitN R (i + 1) := by
  have h1 : (gray R).testBit i = decide (gray R / 2 ^ i % 2 = 1) := Nat.testBit_eq_decide_div_mod_eq
  have h2 : (gray R).testBit i = (R.testBit i ^^ R.testBit (i + 1)) := by
    unfold gray
    rw [Nat.testBit_xor, Nat.testBit_shiftRight, Nat.add_comm 1 i]
  have h3 : R.testBit i = decide (bitN R i = 1) := Nat.testBit_eq_decide_div_mod_eq
  have h4 : R.testBit (i + 1) = decide (bitN R (i + 1) = 1) := Nat.testBit_eq_decide_div_mod_eq
  have a := bitN_lt R i
  have b := bitN_lt R (i + 1)
  rw [h1, h3, h4] at h2
  by_cases c1 : bitN R i = 1 <;> by_cases c2 : bitN R (i + 1) = 1 <;> simp [c1, c2] at h2 ⊢ <;> omega
theorem ub_bit (R i : Nat) : ub R i = if bitN R i = bitN R (i + 1) then 48 else 49 := by
  unfold ub
  by_cases h : bitN R i = bitN R (i + 1)
  · rw [if_pos h, if_neg (fun hh => (gray_bit R i).1 hh h)]
  · rw [if_neg h, if_pos ((gray_bit R i).2 h)]

/-- The rings with a rank, as a string. -/
def unrS (n R : Nat) : ByteArray := ⟨(unr n R).toArray⟩
theorem unrS_size (n R : Nat) : (unrS n R).size = n := by simp [unrS, ByteArray.size, unr_length]
theorem unrS_okR (n R : Nat) (hn : n ≤ 60) : okR (unrS n R) := by
  refine ⟨by rw [unrS_size]; exact hn, fun b hb => ?_⟩
  simp only [unrS, unr, List.mem_map] at hb
  obtain ⟨i, _, rfl⟩ := hb
  exact ub_48 R i
theorem rg_unrS (n R i : Nat) (h : i < n) : rg (unrS n R) i = if bitN R i = bitN R (i + 1) then 0 else 1 := by
  have e : (unrS n R).data.toList.getD i 48 = ub R i := by simp [unrS, unr, h]
  unfold rg
  rw [e, ub_bit]
  split <;> rfl
theorem rk_gray (R : Nat) (c : Nat → Int) : ∀ n, (∀ i, i < n → c i = if bitN R i = bitN R (i + 1) then 0 else 1) → rk c n (bitN R n : Int) ((R / 2 ^ n : Nat) : Int) = (R : Int)
  | 0, _ => by simp [rk]
  | n + 1, h => by
    have hc := h n (by omega)
    have a := bitN_lt R n
    have b := bitN_lt R (n + 1)
    have e1 : xr (bitN R (n + 1) : Int) (c n) = (bitN R n : Int) := by
      rw [hc]
      unfold xr
      split <;> split <;> omega
    have e2 : 2 * ((R / 2 ^ (n + 1) : Nat) : Int) + (bitN R n : Int) = ((R / 2 ^ n : Nat) : Int) := by rw [half R n]; simp
    rw [rk, e1, e2]
    exact rk_gray R c n (fun i hi => h i (by omega))
theorem rk_unrS (n R : Nat) (hR : R < 2 ^ n) : rkOf (unrS n R) = (R : Int) := by
  unfold rkOf
  rw [unrS_size]
  have h := rk_gray R (rg (unrS n R)) n (fun i hi => rg_unrS n R i hi)
  have e1 : R / 2 ^ n = 0 := Nat.div_eq_of_lt hR
  have e2 : bitN R n = 0 := by unfold bitN; rw [e1]
  rw [e1, e2] at h
  exact h
theorem rank_f (s : ByteArray) (h : isR s) : hanoi_Rank.f s = some (rkOf s, 0) := by
  unfold hanoi_Rank.f
  rw [checkR_f]
  have e : checkR s = 0 := if_pos h
  rw [e, Option.bind_some, if_pos rfl]
  unfold hanoi_rank.f
  rw [if_pos h.2, Option.bind_some]
  rfl
theorem unrank_f (n R : Nat) (h0 : 1 ≤ n) (h1 : n ≤ 60) (hR : R < 2 ^ n) : hanoi_Unrank.f (n : Int) (R : Int) = some (unrS n R, 0) := by
  unfold hanoi_Unrank.f
  have e : ¬ ((n : Int) < 1 ∨ (n : Int) > 60 ∨ (R : Int) < 0 ∨ (2 : Int) ^ (n : Int).toNat ≤ (R : Int)) := by
    rintro (h | h | h | h)
    · omega
    · omega
    · omega
    · rw [Int.toNat_natCast] at h
      have : ((2 ^ n : Nat) : Int) ≤ (R : Int) := by rw [Int.natCast_pow]; exact h
      omega
  rw [if_neg e]
  rfl

theorem shr_nat (R i : Nat) (hi : i ≤ 64) : shr .i64 (R : Int) (i : Int) = ((R / 2 ^ i : Nat) : Int) := by
  unfold shr
  rw [Int.toNat_natCast, Nat.min_eq_left (show i ≤ IntKind.i64.bits from hi), Int.natCast_ediv, Int.natCast_pow]
  rfl
theorem bytes_snoc (l : List UInt8) (b : UInt8) : (⟨l.toArray⟩ : ByteArray) ++ (⟨#[b]⟩ : ByteArray) = ⟨(l ++ [b]).toArray⟩ := by
  apply ByteArray.ext
  rw [ByteArray.data_append]
  simp
theorem runrank_step (n R i k : Nat) (hn : n ≤ 60) (hR : R < 4611686018427387904) (h : i < n) : bibelotref03_Unrank.l0 (k + 1) (n : Int) (R : Int) (unrS i R) (i : Int) = bibelotref03_Unrank.l0 k (n : Int) (R : Int) (unrS (i + 1) R) ((i + 1 : Nat) : Int) := by
  have q1 : R / 2 ^ i ≤ R := Nat.div_le_self _ _
  have q2 : R / 2 ^ (i + 1) ≤ R := Nat.div_le_self _ _
  have hh := half R i
  have hh2 := half R (i + 1)
  have a := bitN_lt R i
  have b := bitN_lt R (i + 1)
  have hs := unrS_size i R
  have ws : wrap64 ((i : Int) + 1) = ((i + 1 : Nat) : Int) := by rw [w64 (by omega) (by omega)]; rfl
  have hu : unrS i R ++ (⟨#[ub R i]⟩ : ByteArray) = unrS (i + 1) R := by
    unfold unrS
    rw [bytes_snoc, unr_snoc]
  obtain ⟨A, hA⟩ : ∃ A, R / 2 ^ i = A := ⟨_, rfl⟩
  obtain ⟨B, hB⟩ : ∃ B, R / 2 ^ (i + 1) = B := ⟨_, rfl⟩
  rw [bibelotref03_Unrank.l0, if_pos (by omega), if_pos (by omega), ws, if_pos (by omega), shr_nat R i (by omega), shr_nat R (i + 1) (by omega), hA, hB]
  rw [hA] at hh q1
  rw [hB] at hh hh2 q2
  rw [w64 (x := (A : Int) + (B : Int)) (by omega) (by omega)]
  have et : Int.tmod ((A : Int) + (B : Int)) 2 = (((A + B) % 2 : Nat) : Int) := by rw [← Int.natCast_add]; rfl
  rw [et]
  have hub := ub_bit R i
  by_cases c : bitN R i = bitN R (i + 1)
  · rw [if_pos c] at hub
    rw [if_neg (by omega), if_pos (by rw [hs]; omega), ← hub, hu]
  · rw [if_neg c] at hub
    rw [if_pos (by omega), if_pos (by rw [hs]; omega), ← hub, hu]
theorem runrank_loop (n R : Nat) (hn : n ≤ 60) (hR : R < 4611686018427387904) : ∀ e i, i + e = n → Ev (fun k => bibelotref03_Unrank.l0 k (n : Int) (R : Int) (unrS i R) (i : Int)) (unrS n R)
  | 0, i, h => by
    obtain rfl : i = n := by omega
    refine Ev.step (fun k => ?_) (Ev.now _)
    rw [bibelotref03_Unrank.l0, if_neg (by omega)]
  | e + 1, i, h => Ev.step (fun k => runrank_step n R i k hn hR (by omega)) (runrank_loop n R hn hR e (i + 1) (by omega))
theorem runrank_ev (n R : Nat) (hn : n ≤ 60) (hR : R < 4611686018427387904) : Ev (fun k => bibelotref03_Unrank.f k (n : Int) (R : Int)) (unrS n R) := runrank_loop n R hn hR n 0 (by omega)

theorem rrank_loop (s : ByteArray) (h : okR s) : ∀ n : Nat, n ≤ s.size → ∀ (b o : Int), (b = 0 ∨ b = 1) → 0 ≤ o → o ≤ 2 ^ (s.size - n) - 1 →
    Ev (fun k => bibelotref03_Rank.l0 k s o b ((n : Int) - 1)) (rk (rg s) n b o)
  | 0, _, b, o, _, _, _ => by
    refine Ev.step (fun k => ?_) (Ev.now _)
    rw [bibelotref03_Rank.l0, if_neg (by omega)]
    rfl
  | n + 1, hn, b, o, hb, h0, h1 => by
    have hg := rg_01 h n
    have hsz := h.1
    have hx := xr_01 b (rg s n)
    have hp := pow_le (show s.size - (n + 1) ≤ 60 by omega)
    have h60 : (2 : Int) ^ 60 = 1152921504606846976 := by decide
    have e2 : (2 : Int) ^ (s.size - n) = 2 * 2 ^ (s.size - (n + 1)) := by
      rw [show s.size - n = (s.size - (n + 1)) + 1 by omega, Int.pow_succ, Int.mul_comm]
    have ih := rrank_loop s h n (by omega) (xr b (rg s n)) (2 * o + xr b (rg s n)) hx (by omega) (by rw [e2]; omega)
    refine Ev.step (fun k => ?_) ih
    have en : ((n + 1 : Nat) : Int) - 1 = (n : Int) := by omega
    have wn : wrap64 ((n : Int) - 1) = (n : Int) - 1 := w64 (by omega) (by omega)
    have hbt : bt s (n : Int) = 49 ↔ rg s n = 1 := by
      have hlt : n < s.size := by omega
      have hlt2 : n < s.data.toList.length := hlt
      have e3 : bt s (n : Int) = ((s[n]'hlt).toNat : Int) := by
        unfold bt
        simp only [Int.toNat_natCast]
        rw [dif_pos hlt]
      have e4 : rg s n = ((s[n]'hlt).toNat : Int) - 48 := by
        unfold rg
        rw [List.getD_eq_getElem?_getD, List.getElem?_eq_getElem hlt2]
        rfl
      rw [e3, e4]
      omega
    rw [bibelotref03_Rank.l0, en, if_pos (by omega), if_pos (by omega), if_pos (by omega)]
    by_cases c : bt s (n : Int) = 49
    · have hg1 := hbt.1 c
      have ex : xr b (rg s n) = 1 - b := by rw [hg1]; unfold xr; split <;> omega
      rw [if_pos c, ex, w64 (x := 2 * o) (by omega) (by omega), w64 (x := 1 - b) (by omega) (by omega), w64 (by omega) (by omega), wn]
    · have hg0 : rg s n = 0 := by
        rcases hg with hg | hg
        · exact hg
        · exact absurd (hbt.2 hg) c
      have ex : xr b (rg s n) = b := by rw [hg0]; unfold xr; split <;> omega
      rw [if_neg c, ex, w64 (x := 2 * o) (by omega) (by omega), w64 (by omega) (by omega), wn]
theorem rrank_ev (s : ByteArray) (h : okR s) : Ev (fun k => bibelotref03_Rank.f k s) (rkOf s) := by
  have hsz := h.1
  have := rrank_loop s h s.size (Nat.le_refl _) 0 0 (.inl rfl) (by omega) (by rw [Nat.sub_self]; omega)
  unfold bibelotref03_Rank.f
  rw [w64 (by omega) (by omega)]
  exact this
end Go.Proofs.YtnaaomhmoamfpaaDoor.G
/- Rings: every ring string is that of its rank; neighbouring ranks differ in one ring. -/
namespace Go.Proofs.YtnaaomhmoamfpaaDoor.G
set_option linter.unusedVariables false
set_option linter.unusedSimpArgs false
set_option linter.unusedSectionVars false
open Go.Proofs.YtnaaomhmoamfpaaDoor.Q Go.Proofs.YtnaaomhmoamfpaaDoor.Hn
open Go.RowKit Go.Proofs.YtnaaomhmoamfpaaDoorW.PrintWords Go.Proofs.YtnaaomhmoamfpaaDoorW.PrintLast Go.Proofs.YtnaaomhmoamfpaaDoorW.PrintMore

theorem unr_get48 (n R i : Nat) (h : i < n) : (unr n R).getD i 48 = ub R i := by simp [unr, h]
theorem bytes_ext {s t : ByteArray} (h : s.data.toList = t.data.toList) : s = t := by
  apply ByteArray.ext
  exact Array.ext' h
theorem ring_byte {s : ByteArray} (h : okR s) (i : Nat) (hi : i < s.size) : s.data.toList.getD i 48 = if rg s i = 0 then 48 else 49 := by
  have hlt : i < s.data.toList.length := hi
  have e : s.data.toList.getD i 48 = s.data.toList[i] := by rw [List.getD_eq_getElem?_getD, List.getElem?_eq_getElem hlt]; rfl
  have hm := h.2 _ (List.getElem_mem hlt)
  unfold rg
  rw [e]
  rcases hm with hm | hm <;> rw [hm] <;> rfl

theorem rk_back (c : Nat → Int) (hc : ∀ i, c i = 0 ∨ c i = 1) : ∀ n (o : Nat) (b : Int), b = ((o % 2 : Nat) : Int) →
    ∃ R : Nat, rk c n b (o : Int) = (R : Int) ∧ R / 2 ^ n = o ∧ ∀ i, i < n → c i = if bitN R i = bitN R (i + 1) then 0 else 1
  | 0, o, b, _ => ⟨o, rfl, by simp, fun i hi => by omega⟩
  | n + 1, o, b, hb => by
    have hx := xr_01 b (c n)
    obtain ⟨x, hxn⟩ : ∃ x : Nat, xr b (c n) = (x : Int) := ⟨(xr b (c n)).toNat, by rcases hx with h | h <;> rw [h] <;> rfl⟩
    have hx2 : x < 2 := by rcases hx with h | h <;> omega
    have e1 : 2 * (o : Int) + xr b (c n) = ((2 * o + x : Nat) : Int) := by rw [hxn]; simp
    obtain ⟨R, h1, h2, h3⟩ := rk_back c hc n (2 * o + x) (xr b (c n)) (by rw [hxn]; omega)
    have e2 : R / 2 ^ (n + 1) = o := by rw [Nat.pow_succ, ← Nat.div_div_eq_div_mul, h2]; omega
    refine ⟨R, by rw [rk, e1]; exact h1, e2, fun i hi => ?_⟩
    by_cases ei : i = n
    · subst ei
      have b1 : bitN R i = x := by unfold bitN; rw [h2]; omega
      have b2 : bitN R (i + 1) = o % 2 := by unfold bitN; rw [e2]
      rw [b1, b2]
      have h4 := hc i
      unfold xr at hxn
      split at hxn <;> split <;> omega
    · exact h3 i (by omega)
/-- A ring string's rank, as a natural number. -/
def rkN (s : ByteArray) : Nat := (rkOf s).toNat
theorem rk_full {s : ByteArray} (h : okR s) : rkOf s = (rkN s : Int) ∧ rkN s < 2 ^ s.size ∧ s = unrS s.size (rkN s) := by
  obtain ⟨R, h1, h2, h3⟩ := rk_back (rg s) (rg_01 h) s.size 0 0 rfl
  have hr : rkOf s = (R : Int) := h1
  have hN : rkN s = R := by unfold rkN; rw [hr]; rfl
  have hlt : R < 2 ^ s.size := by
    rcases Nat.lt_or_ge R (2 ^ s.size) with h | h
    · exact h
    · have := Nat.div_pos h (Nat.pow_pos (by omega))
      omega
  rw [hN]
  refine ⟨hr, hlt, bytes_ext ?_⟩
  have hl : s.data.toList.length = s.size := rfl
  have hl2 : (unrS s.size R).data.toList = unr s.size R := by simp [unrS]
  rw [hl2]
  apply List.ext_getElem (by rw [unr_length]; exact hl)
  intro i g1 g2
  have hi : i < s.size := g1
  have e1 := ring_byte h i hi
  have e2 : s.data.toList.getD i 48 = s.data.toList[i] := by rw [List.getD_eq_getElem?_getD, List.getElem?_eq_getElem g1]; rfl
  have e3 := unr_get48 s.size R i hi
  have e4 : (unr s.size R).getD i 48 = (unr s.size R)[i] := by rw [List.getD_eq_getElem?_getD, List.getElem?_eq_getElem g2]; rfl
  rw [← e2, e1, ← e4, e3, ub_bit, h3 i hi]
  by_cases c : bitN R i = bitN R (i + 1)
  · simp [c]
  · simp [c]

/-- The place at which R and R + 1 differ in their ring. -/
theorem turn_at : ∀ R : Nat, ∃ z q, R = 2 ^ (z + 1) * q + (2 ^ z - 1) := by
  intro R
  induction R using Nat.strongRecOn with
  | ind R ih =>
    by_cases h : R % 2 = 0
    · exact ⟨0, R / 2, by simp; omega⟩
    · obtain ⟨z, q, hz⟩ := ih (R / 2) (by omega)
      refine ⟨z + 1, q, ?_⟩
      have h1 : 2 ^ (z + 1 + 1) * q = 2 * (2 ^ (z + 1) * q) := by rw [Nat.pow_succ 2 (z + 1), Nat.mul_comm (2 ^ (z + 1)) 2, Nat.mul_assoc]
      have h2 : 2 ^ (z + 1) = 2 * 2 ^ z := by rw [Nat.pow_succ, Nat.mul_comm]
      have h3 : 1 ≤ 2 ^ z := Nat.one_le_two_pow
      omega
theorem bit_low {z q i : Nat} (h : i < z) (e : Nat) (he : e = 0 ∨ e = 1) : bitN (2 ^ (z + 1) * q + (2 ^ z - 1 + e)) i = 1 - e := by
  obtain ⟨d, rfl⟩ : ∃ d, z = i + 1 + d := ⟨z - i - 1, by omega⟩
  have hp : 0 < 2 ^ i := Nat.pow_pos (by omega)
  have h1 : 2 ^ (i + 1 + d + 1) * q = 2 ^ i * (2 * (2 ^ (d + 1) * q)) := by
    rw [show i + 1 + d + 1 = i + (1 + (d + 1)) by omega, Nat.pow_add, Nat.pow_add 2 1, Nat.pow_one]
    simp only [Nat.mul_assoc]
  have h2 : 2 ^ (i + 1 + d) = 2 ^ i * (2 * 2 ^ d) := by rw [show i + 1 + d = i + (1 + d) by omega, Nat.pow_add, Nat.pow_add 2 1, Nat.pow_one]
  have h3 : 1 ≤ 2 ^ d := Nat.one_le_two_pow
  unfold bitN
  rcases he with rfl | rfl
  · have h4 : 2 ^ (i + 1 + d) - 1 + 0 = 2 ^ i * (2 * 2 ^ d - 1) + (2 ^ i - 1) := by
      have h5 : 2 ^ i * (2 * 2 ^ d - 1) + 2 ^ i = 2 ^ i * (2 * 2 ^ d) := by
        rw [← Nat.mul_succ]; congr 1; omega
      omega
    rw [h1, h4, ← Nat.add_assoc, ← Nat.mul_add, Nat.mul_add_div hp, Nat.div_eq_of_lt (show 2 ^ i - 1 < 2 ^ i by omega)]
    omega
  · have h5 : 1 ≤ 2 ^ (i + 1 + d) := Nat.one_le_two_pow
    have h4 : 2 ^ (i + 1 + d) - 1 + 1 = 2 ^ i * (2 * 2 ^ d) := by rw [Nat.sub_add_cancel h5, h2]
    rw [h1, h4, ← Nat.mul_add, Nat.mul_div_cancel_left _ hp]
    omega
theorem bit_at {z q : Nat} (e : Nat) (he : e = 0 ∨ e = 1) : bitN (2 ^ (z + 1) * q + (2 ^ z - 1 + e)) z = e := by
  have hp : 0 < 2 ^ z := Nat.pow_pos (by omega)
  have h1 : 2 ^ (z + 1) * q = 2 ^ z * (2 * q) := by rw [Nat.pow_succ, Nat.mul_assoc]
  unfold bitN
  rw [h1, Nat.mul_add_div hp]
  rcases he with rfl | rfl
  · rw [Nat.div_eq_of_lt (show 2 ^ z - 1 + 0 < 2 ^ z by omega)]; omega
  · have : 2 ^ z - 1 + 1 = 2 ^ z := by omega
    rw [this, Nat.div_self hp]; omega
theorem bit_high {z q i : Nat} (h : z < i) (e : Nat) (he : e = 0 ∨ e = 1) : bitN (2 ^ (z + 1) * q + (2 ^ z - 1 + e)) i = bitN (2 ^ (z + 1) * q) i := by
  obtain ⟨d, rfl⟩ : ∃ d, i = z + 1 + d := ⟨i - z - 1, by omega⟩
  have hp : 0 < 2 ^ (z + 1) := Nat.pow_pos (by omega)
  have h2 : 2 ^ (z + 1) = 2 * 2 ^ z := by rw [Nat.pow_succ, Nat.mul_comm]
  have h3 : 1 ≤ 2 ^ z := Nat.one_le_two_pow
  unfold bitN
  have e5 : ∀ X : Nat, X / 2 ^ (z + 1 + d) = X / 2 ^ (z + 1) / 2 ^ d := fun X => by rw [Nat.div_div_eq_div_mul, ← Nat.pow_add]
  rw [e5, e5, Nat.mul_add_div hp, Nat.div_eq_of_lt (show 2 ^ z - 1 + e < 2 ^ (z + 1) by omega), Nat.mul_div_cancel_left _ hp, Nat.add_zero]
/-- R and R + 1: their ring strings differ in ring z alone. -/
theorem ub_next (z q i : Nat) : ub (2 ^ (z + 1) * q + (2 ^ z - 1) + 1) i = if i = z then (if ub (2 ^ (z + 1) * q + (2 ^ z - 1)) i = 49 then 48 else 49) else ub (2 ^ (z + 1) * q + (2 ^ z - 1)) i := by
  have hl0 : ∀ j, j < z → bitN (2 ^ (z + 1) * q + (2 ^ z - 1)) j = 1 := fun j hj => bit_low hj 0 (.inl rfl)
  have hl1 : ∀ j, j < z → bitN (2 ^ (z + 1) * q + (2 ^ z - 1) + 1) j = 0 := fun j hj => bit_low hj 1 (.inr rfl)
  have ha0 : bitN (2 ^ (z + 1) * q + (2 ^ z - 1)) z = 0 := bit_at 0 (.inl rfl)
  have ha1 : bitN (2 ^ (z + 1) * q + (2 ^ z - 1) + 1) z = 1 := bit_at 1 (.inr rfl)
  have hh0 : ∀ j, z < j → bitN (2 ^ (z + 1) * q + (2 ^ z - 1)) j = bitN (2 ^ (z + 1) * q) j := fun j hj => bit_high hj 0 (.inl rfl)
  have hh1 : ∀ j, z < j → bitN (2 ^ (z + 1) * q + (2 ^ z - 1) + 1) j = bitN (2 ^ (z + 1) * q) j := fun j hj => bit_high hj 1 (.inr rfl)
  rw [ub_bit, ub_bit]
  rcases Nat.lt_trichotomy i z with h | h | h
  · rw [if_neg (show ¬ i = z by omega), hl0 i h, hl1 i h]
    by_cases h2 : i + 1 < z
    · rw [hl0 _ h2, hl1 _ h2]; rfl
    · have h3 : i + 1 = z := by omega
      rw [h3, ha0, ha1]; rfl
  · subst h
    rw [if_pos rfl, ha0, ha1, hh0 (i + 1) (by omega), hh1 (i + 1) (by omega)]
    have := bitN_lt (2 ^ (i + 1) * q) (i + 1)
    by_cases c : bitN (2 ^ (i + 1) * q) (i + 1) = 0
    · rw [c]; rfl
    · have c1 : bitN (2 ^ (i + 1) * q) (i + 1) = 1 := by omega
      rw [c1]; rfl
  · rw [if_neg (show ¬ i = z by omega), hh0 i h, hh1 i h, hh0 (i + 1) (by omega), hh1 (i + 1) (by omega)]

theorem chg_list (s : ByteArray) (i : Nat) (hi : i < s.size) : (chg s i).data.toList = s.data.toList.set i (if s.data.toList.getD i 48 = 49 then 48 else 49) := by
  have hl : s.data.toList.length = s.size := rfl
  have e1 : (s.extract 0 i).data.toList = s.data.toList.take i := by simp [ByteArray.data_extract]
  have e2 : (s.extract (i + 1) s.size).data.toList = s.data.toList.drop (i + 1) := by
    rw [ByteArray.data_extract, Array.toList_extract]
    simp only [List.extract]
    rw [List.take_of_length_le (by rw [List.length_drop, hl]; omega)]
  unfold chg
  have hlt : i < s.data.toList.length := by rw [hl]; exact hi
  rw [ByteArray.data_append, ByteArray.data_append, Array.toList_append, Array.toList_append, e1, e2, List.set_eq_take_append_cons_drop, if_pos hlt]
  by_cases c : s.data.toList.getD i 48 = 49
  · rw [if_pos c, if_pos c]; simp
  · rw [if_neg c, if_neg c]; simp
theorem chg_unr (n R z : Nat) (hz : z < n) (R' : Nat) (h : ∀ i, i < n → ub R' i = if i = z then (if ub R i = 49 then 48 else 49) else ub R i) : chg (unrS n R) z = unrS n R' := by
  apply bytes_ext
  have hl : ∀ R, (unrS n R).data.toList = unr n R := fun R => by simp [unrS]
  rw [chg_list _ _ (by rw [unrS_size]; exact hz), hl, hl, unr_get48 _ _ _ hz]
  apply List.ext_getElem (by rw [List.length_set, unr_length, unr_length])
  intro i h1 h2
  rw [unr_length] at h2
  have e := h i h2
  simp only [List.getElem_set, unr, List.getElem_map, List.getElem_range]
  rw [e]
  by_cases c : z = i
  · subst c; simp
  · rw [if_neg c, if_neg (fun e => c e.symm)]
theorem ub_flip (R i : Nat) : (if (if ub R i = 49 then (48 : UInt8) else 49) = 49 then (48 : UInt8) else 49) = ub R i := by
  rcases ub_48 R i with h | h <;> rw [h] <;> rfl
/-- From R to R + 1 and back, by one ring. -/
theorem step_up (n R : Nat) (hR : R + 1 < 2 ^ n) : ∃ z, z < n ∧ (∃ q, R = 2 ^ (z + 1) * q + (2 ^ z - 1)) ∧ chg (unrS n R) z = unrS n (R + 1) ∧ chg (unrS n (R + 1)) z = unrS n R ∧ ∀ i, i < n → (ub R i ≠ ub (R + 1) i ↔ i = z) := by
  obtain ⟨z, q, hz⟩ := turn_at R
  have hu : ∀ i, ub (R + 1) i = if i = z then (if ub R i = 49 then 48 else 49) else ub R i := fun i => by
    rw [hz]; exact ub_next z q i
  have hzn : z < n := by
    rcases Nat.lt_or_ge z n with h | h
    · exact h
    · have h1 : 2 ^ n ≤ 2 ^ z := Nat.pow_le_pow_right (by omega) h
      omega
  refine ⟨z, hzn, ⟨q, hz⟩, chg_unr n R z hzn (R + 1) (fun i _ => hu i), chg_unr n (R + 1) z hzn R (fun i _ => ?_), fun i _ => ?_⟩
  · rw [hu i]
    by_cases c : i = z
    · rw [if_pos c, if_pos c, ub_flip]
    · rw [if_neg c, if_neg c]
  · rw [hu i]
    by_cases c : i = z
    · rw [if_pos c]
      have := ub_48 R i
      refine ⟨fun _ => c, fun _ => ?_⟩
      rcases this with h | h <;> rw [h] <;> decide
    · rw [if_neg c]
      exact ⟨fun h => absurd rfl h, fun h => absurd h c⟩
theorem ld_one (s t : List UInt8) (z : Nat) : ∀ n, z < n → (∀ i, i < n → (s.getD i 0 ≠ t.getD i 0 ↔ i = z)) → ld s t n = z
  | 0, h, _ => by omega
  | n + 1, h, hd => by
    unfold ld
    by_cases c : s.getD n 0 ≠ t.getD n 0
    · rw [if_pos c]; exact (hd n (by omega)).1 c
    · rw [if_neg c]
      exact ld_one s t z n (by
        by_cases e : z = n
        · exact absurd ((hd n (by omega)).2 e.symm) c
        · omega) (fun i hi => hd i (by omega))

/-- The rings that the law makes of a string. -/
def ringAt (s : ByteArray) (i : Nat) : Int := if i < s.size then (48 + Int.tmod (bt s (i : Int)) 2) % 256 else 48
def ringsL (s : ByteArray) (n : Nat) : List Int := (List.range n).map (ringAt s)
def ringsS (s : ByteArray) (n : Nat) : ByteArray := strOfNums (ringsL s n)
theorem ringsL_len (s : ByteArray) (n : Nat) : (ringsL s n).length = n := by simp [ringsL]
theorem ringsL_succ (s : ByteArray) (n : Nat) : ringsL s n ++ [ringAt s n] = ringsL s (n + 1) := by simp [ringsL, List.range_succ]
theorem bt_nonneg (s : ByteArray) (i : Int) : 0 ≤ bt s i := by unfold bt; split <;> omega
theorem ringAt_01 (s : ByteArray) (i : Nat) : ringAt s i = 48 ∨ ringAt s i = 49 := by
  unfold ringAt
  split
  · rw [Int.tmod_eq_emod_of_nonneg (bt_nonneg s i)]
    omega
  · exact .inl rfl
theorem ringsS_size (s : ByteArray) (n : Nat) : (ringsS s n).size = n := by unfold ringsS; rw [strOfNums_size, ringsL_len]
theorem ringsS_ok (s : ByteArray) (n : Nat) (hn : n ≤ 60) : okR (ringsS s n) := by
  refine ⟨by rw [ringsS_size]; exact hn, fun b hb => ?_⟩
  unfold ringsS at hb
  rw [strOfNums_data] at hb
  obtain ⟨x, hx, rfl⟩ := List.mem_map.1 hb
  obtain ⟨i, _, rfl⟩ := List.mem_map.1 hx
  rcases ringAt_01 s i with h | h <;> rw [h]
  · exact .inl rfl
  · exact .inr rfl
theorem rings_loop (s : ByteArray) (n : Nat) (hn : n ≤ 1000) : ∀ e i, i + e = n → Ev (fun k => bibelotlaw03_rings.l0 k s (n : Int) (ringsL s i) (i : Int)) (ringsS s n)
  | 0, i, h => by
    obtain rfl : i = n := by omega
    refine Ev.step (fun k => ?_) (Ev.now _)
    rw [bibelotlaw03_rings.l0, if_neg (by omega)]
    rfl
  | e + 1, i, h => by
    refine Ev.step (fun k => ?_) (rings_loop s n hn e (i + 1) (by omega))
    have hl := ringsL_len s i
    have hs : ringAt s i = if i < s.size then (48 + Int.tmod (bt s (i : Int)) 2) % 256 else 48 := rfl
    by_cases hi : i < s.size
    · rw [if_pos hi] at hs
      rw [bibelotlaw03_rings.l0, if_pos (by omega), if_pos (by omega), if_pos (by omega), if_pos (by omega), ← hs, ringsL_succ, w64 (by omega) (by omega)]
      rfl
    · rw [if_neg hi] at hs
      rw [bibelotlaw03_rings.l0, if_pos (by omega), if_neg (by omega), if_pos (by omega), w64 (by omega) (by omega)]
      have e1 : ringsL s i ++ [48] = ringsL s (i + 1) := by rw [← ringsL_succ, hs]
      rw [e1]
      rfl
theorem rings_ev (s : ByteArray) (n : Nat) (hn : n ≤ 1000) : Ev (fun k => bibelotlaw03_rings.f k s (n : Int)) (ringsS s n) := rings_loop s n hn n 0 (by omega)

theorem openR_zero {r q : ByteArray} (hr : isR r) (hq : isR q) (h : r.size = q.size) : openR r q = 0 := by
  unfold openR
  rw [if_neg (fun hh => hh hr), if_neg (fun hh => hh hq), if_pos h]
theorem between_ev {r q : ByteArray} (hr : isR r) (hq : isR q) (h : r.size = q.size) : Ev (fun k => hanoi_Between.f k r q) (max (rkOf q - rkOf r) (rkOf r - rkOf q), 0) := by
  have ho := openR_ev r q
  rw [openR_zero hr hq h] at ho
  unfold hanoi_Between.f
  refine Ev.bind ho ?_
  have b1 := rkOf_bound hr.2
  have b2 := rkOf_bound hq.2
  have p1 := pow_le (show r.size ≤ 60 from hr.2.1)
  have p2 := pow_le (show q.size ≤ 60 from hq.2.1)
  have h60 : (2 : Int) ^ 60 = 1152921504606846976 := by decide
  have e1 : hanoi_rank.f q = some (rkOf q) := by unfold hanoi_rank.f; rw [if_pos hq.2]; rfl
  have e2 : hanoi_rank.f r = some (rkOf r) := by unfold hanoi_rank.f; rw [if_pos hr.2]; rfl
  have e3 : mx (wrap64 (rkOf q - rkOf r)) (wrap64 (-(wrap64 (rkOf q - rkOf r)))) = max (rkOf q - rkOf r) (rkOf r - rkOf q) := by
    rw [w64 (x := rkOf q - rkOf r) (by omega) (by omega), w64 (by omega) (by omega)]
    unfold mx
    omega
  simp only [if_true, e1, e2, Option.bind_some, e3]
  exact Ev.now _
theorem next_f {r q : ByteArray} (hr : isR r) (hq : isR q) (h : r.size = q.size) : hanoi_Next.f r q = if rkOf r = rkOf q then some (0, 1) else some (((ld (unr r.size (stepTo r q).toNat) r.data.toList r.size : Nat) : Int), (0 : Int)) := by
  unfold hanoi_Next.f
  rw [if_neg (fun hh => hh (openR_zero hr hq h))]
/-- Next's ring, where the ranks differ: it leads to the neighbouring rank. -/
theorem next_ring {n R R' : Nat} (h0 : 1 ≤ n) (hn : n ≤ 60) (hR : R < 2 ^ n) (hR' : R' < 2 ^ n) (hne : R ≠ R') :
    ∃ z, z < n ∧ hanoi_Next.f (unrS n R) (unrS n R') = some ((z : Int), 0) ∧ chg (unrS n R) z = unrS n (if R' < R then R - 1 else R + 1) := by
  have ok1 : isR (unrS n R) := ⟨by rw [unrS_size]; omega, unrS_okR n R hn⟩
  have ok2 : isR (unrS n R') := ⟨by rw [unrS_size]; omega, unrS_okR n R' hn⟩
  have hf := next_f ok1 ok2 (by rw [unrS_size, unrS_size])
  have hl : (unrS n R).data.toList = unr n R := by simp [unrS]
  rw [rk_unrS n R hR, rk_unrS n R' hR', if_neg (by omega), unrS_size, hl] at hf
  have hst : stepTo (unrS n R) (unrS n R') = if R' < R then (R : Int) - 1 else (R : Int) + 1 := by
    unfold stepTo
    rw [rk_unrS n R hR, rk_unrS n R' hR']
    by_cases c : R' < R
    · rw [if_pos c, if_pos (by omega)]
    · rw [if_neg c, if_neg (by omega)]
  rw [hst] at hf
  by_cases c : R' < R
  · obtain ⟨z, hz, _, h2, h3, h4⟩ := step_up n (R - 1) (by omega)
    have e : R - 1 + 1 = R := by omega
    rw [e] at h2 h3 h4
    refine ⟨z, hz, ?_, by rw [if_pos c]; exact h3⟩
    rw [if_pos c] at hf
    have e2 : ((R : Int) - 1).toNat = R - 1 := by omega
    rw [e2, ld_one _ _ z n hz (fun i hi => by rw [unr_get _ _ _ hi, unr_get _ _ _ hi]; exact h4 i hi)] at hf
    exact hf
  · obtain ⟨z, hz, _, h2, h3, h4⟩ := step_up n R (by omega)
    refine ⟨z, hz, ?_, by rw [if_neg c]; exact h2⟩
    rw [if_neg c] at hf
    have e2 : ((R : Int) + 1).toNat = R + 1 := by omega
    rw [e2, ld_one _ _ z n hz (fun i hi => by
      rw [unr_get _ _ _ hi, unr_get _ _ _ hi]
      have := h4 i hi
      exact ⟨fun hh => this.1 (fun e => hh e.symm), fun hh => fun e => this.2 hh e.symm⟩)] at hf
    exact hf
end Go.Proofs.YtnaaomhmoamfpaaDoor.G
/- HanoiGros: a step changes the rank by 1; rings that are all off have the rank 0, and rings that are all on that of P3.7; the shortest way goes on by Next. -/
namespace Go.Proofs.YtnaaomhmoamfpaaDoor.Pure
set_option linter.unusedVariables false
set_option linter.unusedSimpArgs false
set_option linter.unusedSectionVars false
open Go.Proofs.YtnaaomhmoamfpaaDoor.G Go.Proofs.YtnaaomhmoamfpaaDoor.Hn
open Go.RowKit Go.Proofs.YtnaaomhmoamfpaaDoor.Q Go.Proofs.YtnaaomhmoamfpaaDoorW.PrintWords Go.Proofs.YtnaaomhmoamfpaaDoorW.PrintLast Go.Proofs.YtnaaomhmoamfpaaDoorW.PrintMore

theorem chg_ne {s : ByteArray} {i j : Nat} (hi : i < s.size) (hj : j < s.size) (hr : okR s) (h : chg s i = chg s j) : i = j := by
  rcases Nat.decEq i j with c | c
  · exfalso
    have e := congrArg (fun t : ByteArray => t.data.toList.getD i 48) h
    simp only [chg_list _ _ hi, chg_list _ _ hj] at e
    have hlt : i < s.data.toList.length := hi
    have x1 : ∀ v : UInt8, (s.data.toList.set i v).getD i 48 = v := fun v => by rw [List.getD_eq_getElem?_getD, List.getElem?_set_self hlt]; rfl
    have x2 : ∀ v : UInt8, (s.data.toList.set j v).getD i 48 = s.data.toList.getD i 48 := fun v => by rw [List.getD_eq_getElem?_getD, List.getElem?_set_ne (fun e => c e.symm), ← List.getD_eq_getElem?_getD]
    rw [x1, x2] at e
    have hb := ring_byte hr i hi
    split at hb <;> rw [hb] at e <;> revert e <;> decide
  · exact c
/-- Two neighbours: what is said of a step along ring z. -/
def Nb (n R z : Nat) : Prop := z < n ∧ ∃ R', (R' = R + 1 ∨ R' + 1 = R) ∧ R' < 2 ^ n ∧ chg (unrS n R) z = unrS n R'
theorem bits_form (z q : Nat) : (∀ j, j < z → bitN (2 ^ (z + 1) * q + (2 ^ z - 1)) j = 1) ∧ bitN (2 ^ (z + 1) * q + (2 ^ z - 1)) z = 0 ∧ (∀ j, j < z → bitN (2 ^ (z + 1) * q + (2 ^ z - 1) + 1) j = 0) ∧ bitN (2 ^ (z + 1) * q + (2 ^ z - 1) + 1) z = 1 :=
  ⟨fun j hj => bit_low hj 0 (.inl rfl), bit_at 0 (.inl rfl), fun j hj => bit_low hj 1 (.inr rfl), bit_at 1 (.inr rfl)⟩
theorem nb_low {n R z : Nat} (hR : R < 2 ^ n) (hz : z < n) (h0 : ∀ j, j < z → bitN R j = 0) (h1 : bitN R z = 1) : Nb n R z := by
  have hpos : 1 ≤ R := by
    rcases Nat.eq_zero_or_pos R with e | e
    · subst e; unfold bitN at h1; simp at h1
    · exact e
  obtain ⟨y, hy, ⟨q, hq⟩, _, h3, _⟩ := step_up n (R - 1) (by omega)
  have e : R - 1 + 1 = R := by omega
  rw [e] at h3
  obtain ⟨_, _, b3, b4⟩ := bits_form y q
  rw [← hq, e] at b3 b4
  have : y = z := by
    rcases Nat.lt_trichotomy y z with h | h | h
    · have := h0 y h; omega
    · exact h
    · have := b3 z h; omega
  subst this
  exact ⟨hy, R - 1, .inr e, by omega, h3⟩
theorem nb_high {n R z : Nat} (hR : R < 2 ^ n) (hz : z < n) (h0 : ∀ j, j < z → bitN R j = 1) (h1 : bitN R z = 0) : Nb n R z := by
  have hlt : R + 1 < 2 ^ n := by
    rcases Nat.lt_or_ge (R + 1) (2 ^ n) with h | h
    · exact h
    · exfalso
      have e : R = 2 ^ n - 1 := by omega
      obtain ⟨d, rfl⟩ : ∃ d, n = z + (d + 1) := ⟨n - z - 1, by omega⟩
      have hp : 0 < 2 ^ z := Nat.pow_pos (by omega)
      have e2 : R / 2 ^ z = 2 ^ (d + 1) - 1 := by
        have h3 : 2 ^ (z + (d + 1)) = 2 ^ z * 2 ^ (d + 1) := Nat.pow_add _ _ _
        have h4 : 1 ≤ 2 ^ (d + 1) := Nat.one_le_two_pow
        have h5 : 2 ^ z * (2 ^ (d + 1) - 1) + 2 ^ z = 2 ^ z * 2 ^ (d + 1) := by rw [← Nat.mul_succ]; congr 1; omega
        have h6 : R = 2 ^ z * (2 ^ (d + 1) - 1) + (2 ^ z - 1) := by omega
        rw [h6, Nat.mul_add_div hp, Nat.div_eq_of_lt (show 2 ^ z - 1 < 2 ^ z by omega)]; rfl
      unfold bitN at h1
      rw [e2, Nat.pow_succ] at h1
      have : 1 ≤ 2 ^ d := Nat.one_le_two_pow
      omega
  obtain ⟨y, hy, ⟨q, hq⟩, h2, _, _⟩ := step_up n R hlt
  obtain ⟨b1, b2, _, _⟩ := bits_form y q
  rw [← hq] at b1 b2
  have : y = z := by
    rcases Nat.lt_trichotomy y z with h | h | h
    · have := h0 y h; omega
    · exact h
    · have := b1 z h; omega
  subst this
  exact ⟨hy, R + 1, .inl rfl, hlt, h2⟩
theorem nb_zero {n R : Nat} (h0 : 1 ≤ n) (hR : R < 2 ^ n) : Nb n R 0 := by
  have hb := bitN_lt R 0
  by_cases c : bitN R 0 = 1
  · exact nb_low hR (by omega) (fun j hj => by omega) c
  · exact nb_high hR (by omega) (fun j hj => by omega) (by omega)
theorem nb_first {n R i : Nat} (hi : i + 1 < n) (hR : R < 2 ^ n) (h0 : ∀ j, j < i → bitN R j = bitN R (j + 1)) (h1 : bitN R i ≠ bitN R (i + 1)) : Nb n R (i + 1) := by
  have hall : ∀ j, j ≤ i → bitN R j = bitN R 0 := by
    intro j
    induction j with
    | zero => intro _; rfl
    | succ j ih => intro hj; rw [← h0 j (by omega)]; exact ih (by omega)
  have hb := bitN_lt R 0
  have hb2 := bitN_lt R (i + 1)
  have hi0 := hall i (Nat.le_refl _)
  by_cases c : bitN R 0 = 1
  · exact nb_high hR hi (fun j hj => by rw [hall j (by omega)]; exact c) (by omega)
  · exact nb_low hR hi (fun j hj => by rw [hall j (by omega)]; omega) (by omega)

theorem steps_f {n R : Nat} (h0 : 1 ≤ n) (hn : n ≤ 60) (hR : R < 2 ^ n) : ∃ l : List Int, hanoi_Steps.f (unrS n R) = some (l, 0) ∧ 1 ≤ l.length ∧ l.length ≤ 2 ∧ ∀ i, i < l.length → ∃ z : Nat, nth l i = (z : Int) ∧ Nb n R z := by
  have ok1 : isR (unrS n R) := ⟨by rw [unrS_size]; omega, unrS_okR n R hn⟩
  have hc : hanoi_CheckRings.f (unrS n R) = some 0 := by rw [checkR_f]; exact congrArg some (if_pos ok1)
  have hz := nb_zero h0 hR
  have hl : (unrS n R).data.toList = unr n R := by simp [unrS]
  unfold hanoi_Steps.f
  rw [hc]
  simp only [Option.bind_some, if_true]
  have hib : strings_IndexByte.f (unrS n R) 49 = some (Lib.indexByte (unr n R) 49) := by unfold strings_IndexByte.f; rw [hl]; rfl
  rw [hib]
  simp only [Option.bind_some]
  have one : ∃ l : List Int, some (([0] : List Int), (0 : Int)) = some (l, 0) ∧ 1 ≤ l.length ∧ l.length ≤ 2 ∧ ∀ i, i < l.length → ∃ z : Nat, nth l i = (z : Int) ∧ Nb n R z := by
    refine ⟨[0], rfl, by simp, by simp, fun i hi => ⟨0, ?_, hz⟩⟩
    have : i = 0 := by simp at hi; exact hi
    subst this; rfl
  by_cases c : Lib.indexByte (unr n R) 49 ≥ 0
  · obtain ⟨o, ho⟩ := Int.eq_ofNat_of_zero_le c
    obtain ⟨g1, g2⟩ := Lib.indexByte_some ho
    have hon : o < n := by
      have := (List.getElem?_eq_some_iff.1 g1).1
      rwa [unr_length] at this
    have hub : ∀ j, j < n → (unr n R)[j]? = some (ub R j) := fun j hj => by simp [unr, hj]
    rw [hub o hon] at g1
    have u1 : bitN R o ≠ bitN R (o + 1) := fun e => by
      have := Option.some.inj g1
      rw [ub_bit, if_pos e] at this
      revert this; decide
    have u0 : ∀ j, j < o → bitN R j = bitN R (j + 1) := fun j hj => by
      have := g2 j hj
      rw [hub j (by omega), ub_bit] at this
      rcases Nat.decEq (bitN R j) (bitN R (j + 1)) with e | e
      · rw [if_neg e] at this; exact absurd rfl this
      · exact e
    rw [if_pos c, ho, w64 (by omega) (by omega), unrS_size]
    by_cases c2 : (o : Int) + 1 < (n : Int)
    · rw [if_pos c2, if_pos (by simp)]
      refine ⟨[0, (o : Int) + 1], rfl, by simp, by simp, fun i hi => ?_⟩
      have hi2 : i = 0 ∨ i = 1 := by simp at hi; omega
      rcases hi2 with rfl | rfl
      · exact ⟨0, rfl, hz⟩
      · exact ⟨o + 1, rfl, nb_first (by omega) hR u0 u1⟩
    · rw [if_neg c2]; exact one
  · rw [if_neg c]; exact one

def repS (c : UInt8) (i : Nat) : ByteArray := ⟨(List.replicate i c).toArray⟩
theorem repS_succ (c : UInt8) (i : Nat) : repS c i ++ (⟨#[c]⟩ : ByteArray) = repS c (i + 1) := by
  unfold repS
  rw [bytes_snoc, List.replicate_succ']
theorem repS_size (c : UInt8) (i : Nat) : (repS c i).size = i := by simp [repS, ByteArray.size]
theorem off_unr (n : Nat) : repS 48 n = unrS n 0 := by
  apply bytes_ext
  have e : ∀ i, ub 0 i = 48 := fun i => by rw [ub_bit]; simp [bitN]
  simp only [repS, unrS, unr]
  apply List.ext_getElem (by simp)
  intro i h1 h2
  simp [e]
def alt (n : Nat) : Nat := (2 ^ (n + 1) - 1) / 3
theorem alt_half (n : Nat) : alt (n + 1) / 2 = alt n := by
  unfold alt
  have h : 2 ^ (n + 1 + 1) = 2 * 2 ^ (n + 1) := by rw [Nat.pow_succ, Nat.mul_comm]
  have : 1 ≤ 2 ^ (n + 1) := Nat.one_le_two_pow
  omega
theorem alt_div (n : Nat) : ∀ i, i ≤ n → alt n / 2 ^ i = alt (n - i)
  | 0, _ => by simp
  | i + 1, h => by
    rw [Nat.pow_succ, ← Nat.div_div_eq_div_mul, alt_div n i (by omega)]
    obtain ⟨m, hm⟩ : ∃ m, n - i = m + 1 := ⟨n - i - 1, by omega⟩
    have e : n - (i + 1) = m := by omega
    rw [hm, alt_half, e]
theorem pow6 (n : Nat) : 2 ^ (n + 1) % 6 = if n % 2 = 0 then 2 else 4 := by
  induction n with
  | zero => rfl
  | succ n ih =>
    have h : 2 ^ (n + 1 + 1) = 2 * 2 ^ (n + 1) := by rw [Nat.pow_succ, Nat.mul_comm]
    rw [h]
    by_cases c : n % 2 = 0
    · rw [if_pos c] at ih; rw [if_neg (by omega)]; omega
    · rw [if_neg c] at ih; rw [if_pos (by omega)]; omega
theorem alt_odd (n : Nat) : alt n % 2 = n % 2 := by
  unfold alt
  have h := pow6 n
  have : 1 ≤ 2 ^ (n + 1) := Nat.one_le_two_pow
  by_cases c : n % 2 = 0
  · rw [if_pos c] at h; omega
  · rw [if_neg c] at h; omega
theorem alt_lt (n : Nat) : alt n < 2 ^ n := by
  unfold alt
  have h : 2 ^ (n + 1) = 2 * 2 ^ n := by rw [Nat.pow_succ, Nat.mul_comm]
  have : 1 ≤ 2 ^ n := Nat.one_le_two_pow
  omega
theorem on_unr (n : Nat) : repS 49 n = unrS n (alt n) := by
  apply bytes_ext
  simp only [repS, unrS, unr]
  apply List.ext_getElem (by simp)
  intro i h1 h2
  have hi : i < n := by simpa using h1
  have e : ub (alt n) i = 49 := by
    rw [ub_bit]
    unfold bitN
    rw [alt_div n i (by omega), alt_div n (i + 1) (by omega), alt_odd, alt_odd, if_neg (by omega)]
  simp [e]

theorem gros_l0 (n : Nat) (h0 : 1 ≤ n) (hn : n ≤ 60) : ∀ e i, i + e = n → Ev (fun k => bibelotlaw03_HanoiGros.l0 k (n : Int) (repS 48 i) (repS 49 i) (i : Int)) true
  | 0, i, h => by
    obtain rfl : i = n := by omega
    have okf : isR (repS 48 i) := by rw [off_unr]; exact ⟨by rw [unrS_size]; omega, unrS_okR _ _ hn⟩
    have oko : isR (repS 49 i) := by rw [on_unr]; exact ⟨by rw [unrS_size]; omega, unrS_okR _ _ hn⟩
    have e1 := rank_f _ okf
    have e2 := rank_f _ oko
    have r1 : rkOf (repS 48 i) = 0 := by rw [off_unr, rk_unrS i 0 (Nat.pow_pos (by omega))]; rfl
    have r2 : rkOf (repS 49 i) = (alt i : Int) := by rw [on_unr, rk_unrS i (alt i) (alt_lt i)]
    rw [r1] at e1
    rw [r2] at e2
    have w1 : wrap64 ((i : Int) + 1) = ((i + 1 : Nat) : Int) := by rw [w64 (by omega) (by omega)]; rfl
    have hs := shl1 (i + 1) (by omega)
    have hp := pow_pos' (i + 1)
    have hp2 := pow_le (show i + 1 ≤ 61 by omega)
    have h61 : (2 : Int) ^ 61 = 2305843009213693952 := by decide
    have hnat : (2 : Int) ^ (i + 1) - 1 = ((2 ^ (i + 1) - 1 : Nat) : Int) := by
      have : 1 ≤ 2 ^ (i + 1) := Nat.one_le_two_pow
      have e : ((2 ^ (i + 1) : Nat) : Int) = (2 : Int) ^ (i + 1) := by rw [Int.natCast_pow]; rfl
      omega
    have wt : wrap64 (Int.tdiv (wrap64 ((shl .i64 1 ((i + 1 : Nat) : Int)) - 1)) 3) = (alt i : Int) := by
      rw [hs, w64 (x := (2 : Int) ^ (i + 1) - 1) (by omega) (by omega), hnat]
      have e : Int.tdiv ((2 ^ (i + 1) - 1 : Nat) : Int) 3 = (((2 ^ (i + 1) - 1) / 3 : Nat) : Int) := rfl
      rw [e]
      have ha := alt_lt i
      have hb : 2 ^ i ≤ 2 ^ 60 := Nat.pow_le_pow_right (by omega) hn
      have h60 : (2 : Nat) ^ 60 = 1152921504606846976 := by decide
      unfold alt at ha ⊢
      exact w64 (by omega) (by omega)
    refine Ev.step (f := fun k => (bibelotlaw03_awake.f k).bind fun t => some t) (fun k => ?_) (Ev.bind awake_ev (Ev.now true))
    rw [bibelotlaw03_HanoiGros.l0, if_neg (by omega), e1, Option.bind_some, e2, Option.bind_some, w1, if_pos (by omega), if_pos rfl, if_pos rfl, if_pos rfl, wt, if_pos rfl]
  | e + 1, i, h => by
    refine Ev.step (fun k => ?_) (gros_l0 n h0 hn e (i + 1) (by omega))
    rw [bibelotlaw03_HanoiGros.l0, if_pos (by omega), if_pos (by rw [repS_size]; omega), if_pos (by rw [repS_size]; omega), repS_succ, repS_succ, w64 (by omega) (by omega)]
    rfl
theorem gros_j1 (n R z : Nat) (h0 : 1 ≤ n) (hn : n ≤ 60) (hR : R < 2 ^ n) (hz : Nb n R z) : Ev (fun k => bibelotlaw03_HanoiGros.j1 k (n : Int) (unrS n R) (R : Int) (z : Int) false) true := by
  obtain ⟨hzn, R', hRR, hR', hc⟩ := hz
  have ok1 : isR (unrS n R) := ⟨by rw [unrS_size]; omega, unrS_okR n R hn⟩
  have ok2 : isR (unrS n R') := ⟨by rw [unrS_size]; omega, unrS_okR n R' hn⟩
  have hsz : (unrS n R).size = (unrS n R').size := by rw [unrS_size, unrS_size]
  have hp := Nat.pow_le_pow_right (show 0 < 2 by omega) hn
  have h60 : (2 : Nat) ^ 60 = 1152921504606846976 := by decide
  have hb := between_ev ok1 ok2 hsz
  rw [rk_unrS n R hR, rk_unrS n R' hR'] at hb
  have hone : max ((R' : Int) - (R : Int)) ((R : Int) - (R' : Int)) = 1 := by omega
  rw [hone] at hb
  have hrk := rank_f _ ok2
  rw [rk_unrS n R' hR'] at hrk
  obtain ⟨y, hy, hf, hc2⟩ := next_ring h0 hn hR hR' (by omega)
  have hst : (if R' < R then R - 1 else R + 1) = R' := by split <;> omega
  rw [hst] at hc2
  have hyz : y = z := chg_ne (by rw [unrS_size]; exact hy) (by rw [unrS_size]; exact hzn) ok1.2 (hc2.trans hc.symm)
  subst hyz
  have hcf : bibelotref03_Changed.f (unrS n R) (y : Int) = some (unrS n R') := by
    unfold bibelotref03_Changed.f
    rw [if_pos ⟨by omega, by rw [unrS_size]; omega, by rw [unrS_size]; omega⟩, ← hc]
    rfl
  have wu : wrap64 ((R : Int) + 1) = (R : Int) + 1 := w64 (by omega) (by omega)
  have wd : wrap64 ((R : Int) - 1) = (R : Int) - 1 := w64 (by omega) (by omega)
  have hfin : Ev (fun k => bibelotlaw03_HanoiGros.j2 k (n : Int) false) true := by
    refine Ev.step (fun k => ?_) (gros_l0 n h0 hn n 0 (by omega))
    rw [bibelotlaw03_HanoiGros.j2, if_neg (by simp)]
    rfl
  refine Ev.step (fun k => by rw [bibelotlaw03_HanoiGros.j1, if_neg (by simp), hcf, Option.bind_some, hrk, Option.bind_some]) (Ev.bind hb ?_)
  rw [hf]
  simp only [Option.bind_some, if_true, wu, wd, bne_self_eq_false]
  rcases hRR with h | h
  · have e0 : ((R' : Int) = (R : Int) + 1) = True := eq_true (by omega)
    simp only [e0, if_true]
    exact hfin
  · have e1 : ((R' : Int) = (R : Int) + 1) = False := eq_false (by omega)
    have e2 : ((R' : Int) = (R : Int) - 1) = True := eq_true (by omega)
    simp only [e1, e2, if_true, if_false]
    exact hfin
theorem HanoiGros : bibelotlaw03_HanoiGros.Pure := by
  intro a0 a1 a2 _ _ _
  refine Ev.rounds (r := true) (g := fun k => bibelotlaw03_HanoiGros.f k a0 a1 a2) ?_
  obtain ⟨m1, m2⟩ := many_bd a0 60 (by omega)
  obtain ⟨n, hn⟩ := Int.eq_ofNat_of_zero_le (show 0 ≤ manyOf a0 60 by omega)
  unfold bibelotlaw03_HanoiGros.f
  rw [many_f a0 60 (by omega) (by omega), hn]
  simp only [Option.bind_some]
  refine Ev.bind (rings_ev a1 n (by omega)) ?_
  obtain ⟨_, l1, e1⟩ := rk_full (ringsS_ok a1 n (by omega))
  rw [ringsS_size] at l1 e1
  generalize rkN (ringsS a1 n) = R at *
  rw [e1]
  have h0 : 1 ≤ n := by omega
  have h60 : n ≤ 60 := by omega
  have hrk := rank_f (unrS n R) ⟨by rw [unrS_size]; omega, unrS_okR n R h60⟩
  rw [rk_unrS n R l1] at hrk
  obtain ⟨l, hst, hl1, hl2, hall⟩ := steps_f h0 h60 l1
  rw [hrk, hst]
  simp only [Option.bind_some, if_true]
  have c1 : ¬ (l.length : Int) < 1 := by omega
  have c2 : decide ((l.length : Int) > 2) = false := decide_eq_false (by omega)
  simp only [eq_false c1, if_false, c2]
  have hu : IntKind.u64.wrap (l.length : Int) = (l.length : Int) := u64w (by omega) (by omega)
  have hb := umod_bd a2 (l.length : Int) (by omega)
  obtain ⟨i, hi⟩ := Int.eq_ofNat_of_zero_le hb.1
  have hil : i < l.length := by omega
  have wm : wrap64 (Int.tmod (IntKind.u64.wrap a2) (l.length : Int)) = (i : Int) := by rw [utmod, hi, w64 (by omega) (by omega)]
  obtain ⟨z, hz, hnb⟩ := hall i hil
  have hzn := hnb.1
  refine Ev.step (fun k => ?_) (gros_j1 n R z h0 h60 l1 hnb)
  rw [bibelotlaw03_HanoiGros.j0, if_neg (by simp), hu, if_neg (by omega), wm, if_pos (by omega), if_pos (by omega), rd_nth, hz, if_neg (by omega), decide_eq_false (show ¬ (z : Int) ≥ (n : Int) by omega)]
end Go.Proofs.YtnaaomhmoamfpaaDoor.Pure
