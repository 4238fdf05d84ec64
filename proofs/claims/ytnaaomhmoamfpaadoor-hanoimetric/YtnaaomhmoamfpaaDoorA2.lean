/- A part that the chapter's proofs share: contracts of the functions, and plain lemmas (part 2). -/
import Derived.Test.YtnaaomhmoamfpaaDoorA1
import Derived.Outline
import Derived.RegionTactic
import Derived.Deep.RegionWith
import Derived.Deep.DeepCutAuto
import Derived.BigRegion
import Derived.Deep.QuietTactic
import Derived.BigQuiet
import Derived.ChangeAlike
namespace Go.Proofs.YtnaaomhmoamfpaaDoor.G
end Go.Proofs.YtnaaomhmoamfpaaDoor.G
namespace Go.Proofs.YtnaaomhmoamfpaaDoor.Q
set_option linter.unusedVariables false
set_option linter.unusedSimpArgs false
set_option linter.unusedSectionVars false
open Go.Proofs.YtnaaomhmoamfpaaDoor.G
open Go.RowKit Go.Proofs.YtnaaomhmoamfpaaDoorW.PrintWords Go.Proofs.YtnaaomhmoamfpaaDoorW.PrintLast Go.Proofs.YtnaaomhmoamfpaaDoorW.PrintMore
attribute [local go_sem] max2_int min2_int max_two min_two max_three min_three max_four min_four   -- for this text's walks alone

/-! ### hanoi_planned: function 76 -/
def hanoi_planned.l0 : Nat → List Int → List Int → Int → Option (Int × Int × Int)
  | 0, _, _, _ => none
  | k + 1, x0, x1, x5 => if 0 ≤ x5 then (if x5 < (x0.length : Int) then (if x5 < (x1.length : Int) then (if (rd x0 x5) = (rd x1 x5) then (hanoi_planned.l0 k x0 x1 (wrap64 (x5 - 1))) else (if x5 ≤ (x0.length : Int) then ((hanoi_toPeg.f k (x0.take (x5 : Int).toNat) (wrap64 ((wrap64 (3 - (rd x0 x5))) - (rd x1 x5)))).bind fun t250 => (if x5 ≤ (x1.length : Int) then ((hanoi_toPeg.f k (x1.take (x5 : Int).toNat) (wrap64 ((wrap64 (3 - (rd x0 x5))) - (rd x1 x5)))).bind fun t252 => ((hanoi_toPeg.f k (x0.take (x5 : Int).toNat) (rd x1 x5)).bind fun t255 => ((hanoi_all.f x5).bind fun t256 => ((hanoi_toPeg.f k (x1.take (x5 : Int).toNat) (rd x0 x5)).bind fun t259 => (some (x5, wrap64 ((wrap64 (t250 + 1)) + t252), wrap64 ((wrap64 ((wrap64 ((wrap64 (t255 + 1)) + t256)) + 1)) + t259))))))) else (none))) else (none))) else (none)) else (none)) else (none)
def hanoi_planned.f (k : Nat) (l0 : List Int) (l1 : List Int) : Option (Int × Int × Int) := hanoi_planned.l0 k l0 l1 (wrap64 ((l0.length : Int) - 1))
theorem hanoi_planned.mono_l : ∀ k, (∀ y0 y1 y2, LeO (hanoi_planned.l0 k y0 y1 y2) (hanoi_planned.l0 (k + 1) y0 y1 y2))
  | 0 => fun _ _ _ r h => by simp [hanoi_planned.l0] at h
  | k + 1 => by
    have ih0 := hanoi_planned.mono_l k
    · intro y0 y1 y2
      unfold hanoi_planned.l0
      repeat' first
      | (with_reducible exact ih0 _ _ _)
      | (with_reducible exact hanoi_toPeg.mono _ _ _)
      | (with_reducible exact LeO.refl _)
      | (with_reducible exact LeO.none _)
      | (with_reducible refine LeO.ite ?_ ?_)
      | (with_reducible refine LeO.bind ?_ (fun _ => ?_))
      | exact ih0 _ _ _
      | exact hanoi_toPeg.mono _ _ _
      | exact LeO.none _
      | refine LeO.ite ?_ ?_
      | refine LeO.bind ?_ (fun _ => ?_)
theorem hanoi_planned.mono : ∀ a0 a1 k, LeO (hanoi_planned.f k a0 a1) (hanoi_planned.f (k + 1) a0 a1) := by
  intro a0 a1 k
  have ih0 := hanoi_planned.mono_l k
  unfold hanoi_planned.f
  repeat' first
      | (with_reducible exact ih0 _ _ _)
      | (with_reducible exact hanoi_toPeg.mono _ _ _)
      | (with_reducible exact LeO.refl _)
      | (with_reducible exact LeO.none _)
      | (with_reducible refine LeO.ite ?_ ?_)
      | (with_reducible refine LeO.bind ?_ (fun _ => ?_))
      | exact ih0 _ _ _
      | exact hanoi_toPeg.mono _ _ _
      | exact LeO.none _
      | refine LeO.ite ?_ ?_
      | refine LeO.bind ?_ (fun _ => ?_)
def hanoi_planned.T2 : Bool × List (List Nat × List Nat) := (true, [([], []), ([], []), ([0, 1], [0, 1]), ([2], [2]), ([], []), ([], []), ([4, 5], [4, 5]), ([6], [6]), ([3, 7], [3, 7])])
def hanoi_planned.B2 : List Nat := [0, 0, 3, 7, 0, 0, 48, 112, 255]
theorem hanoi_planned.tab2 : rtab .any (opsOf Tryd.f76 2) = hanoi_planned.T2 := by kernel_rfl
theorem hanoi_planned.bits2 : waitsOk hanoi_planned.T2.2 hanoi_planned.B2 = true := by kernel_rfl
def hanoi_planned.T4 : Bool × List (List Nat × List Nat) := (true, [([], []), ([], []), ([0, 1], [0, 1]), ([2], [2]), ([3], [3]), ([], []), ([], []), ([5, 6], [5, 6]), ([7], [7]), ([4, 8], [4, 8]), ([9, 0, 1, 2, 3, 4, 5, 6, 7, 8, 9], [9])])
def hanoi_planned.B4 : List Nat := [0, 0, 3, 7, 15, 0, 0, 96, 224, 511, 1023]
theorem hanoi_planned.tab4 : rtab .any (opsOf Tryd.f76 4) = hanoi_planned.T4 := by kernel_rfl
theorem hanoi_planned.bits4 : waitsOk hanoi_planned.T4.2 hanoi_planned.B4 = true := by kernel_rfl
def hanoi_planned.T5 : Bool × List (List Nat × List Nat) := (true, [([], []), ([], []), ([], []), ([1, 2], [1, 2]), ([], []), ([3, 4], [3, 4]), ([5], [5]), ([], []), ([], []), ([7, 8], [7, 8]), ([], []), ([9, 10, 5], [9, 10]), ([6, 11], [6, 11]), ([], []), ([], []), ([13, 14], [13, 14]), ([], []), ([], []), ([16, 17], [16, 17]), ([18], [18]), ([15, 19, 11], [15, 19]), ([20], [20]), ([], []), ([22, 20], [22]), ([21, 23], [21, 23]), ([24], [24]), ([], []), ([], []), ([26, 27], [26, 27]), ([], []), ([], []), ([29, 30], [29, 30]), ([31], [31]), ([28, 32, 23], [28, 32]), ([25, 33], [25, 33]), ([0, 12, 34], [0, 12, 34]), ([35, 33, 0, 1, 2, 3, 4, 5, 6, 7, 8, 9, 10, 11, 12, 13, 14, 15, 16, 17, 18, 19, 20, 21, 22, 23, 24, 25, 26, 27, 28, 29, 30, 31, 32, 33, 34, 35], [35])])
def hanoi_planned.B5 : List Nat := [0, 0, 0, 6, 0, 30, 62, 0, 0, 384, 0, 1982, 4094, 0, 0, 24576, 0, 0, 196608, 458752, 1044414, 2092990, 0, 6287294, 16773054, 33550270, 0, 0, 201326592, 0, 0, 1610612736, 3758096384, 8537501630, 17179865022, 34359738367, 68719476735]
theorem hanoi_planned.tab5 : rtab .any (opsOf Tryd.f76 5) = hanoi_planned.T5 := by kernel_rfl
theorem hanoi_planned.bits5 : waitsOk hanoi_planned.T5.2 hanoi_planned.B5 = true := by kernel_rfl
set_option maxHeartbeats 8000000 in
set_option maxRecDepth 100000 in
theorem hanoi_planned.calls (k : Nat) (A0 : Option Addr) (c0 : Nat) (l0 : List Int) (A1 : Option Addr) (c1 : Nat) (l1 : List Int) (r1 : Int) (r2 : Int) (r3 : Int) (w : World) (hr0 : Kd.C (Kd.int .i64) w A0 l0.length l0) (hc0 : l0.length ≤ c0) (hr1 : Kd.C (Kd.int .i64) w A1 l1.length l1) (hc1 : l1.length ≤ c1) (h : hanoi_planned.f k l0 l1 = some (r1, r2, r3)) :
    Calls Tryd.prog 76 #[.slice A0 l0.length c0, .slice A1 l1.length c1] w fun e w' => e = .returned (.agg #[.int .i64 r1, .int .i64 r2, .int .i64 r3]) ∧ Below w.heap.size w w' := by
  have hu117 := Tryd.underlying117
  have HR0 := Aside0.mk hr0
  have HC0 := Aside0.mk hc0
  clear hr0 hc0
  have HR1 := Aside0.mk hr1
  have HC1 := Aside0.mk hc1
  clear hr1 hc1
  have HB := Aside0.mk (Below.refl w.heap.size w)
  have H : (hanoi_planned.l0 k l0 l1 (wrap64 ((l0.length : Int) - 1))) = some (r1, r2, r3) := h
  clear h
  have H' := Aside0.mk H
  clear H
  go_enter Tryd.func76, Tryd.ntmps76
  go_wp2_with (first | ((with_reducible refine gate_dst (N := 4) rfl ?_); refine box_event ?hg (N := 4) ?hd (cs := #[.int .i64 0, .int .i64 0, .int .i64 0]) (t := 117) ?hr ?_; (case hd => rfl); (case hg => rfl); (case hr => first | (go_simp; done) | (go_simp; rfl)); intro gb244 hg w3 hbox hb; have n0_ := Aside0.mk (below_step (by repeat (first | (with_reducible first | exact HB.out | apply below_alloc | apply pw_below_drewN | apply below_drew1) | exact HB.out)) hb); have n1_ := Aside0.mk (hbox); have n2_ := Aside0.mk ((by rw [hg]; exact (below_size (by repeat (first | (with_reducible first | exact HB.out | apply below_alloc | apply pw_below_drewN | apply below_drew1) | exact HB.out))) : w.heap.size ≤ gb244)); have n3_ := Aside0.mk ((by rw [hg]; exact (below_size (by repeat (first | (with_reducible first | exact HB.out | apply below_alloc | apply pw_below_drewN | apply below_drew1) | exact HB.out))) : w.heap.size ≤ gb244)); clear HB; have HB := n0_; have BK244 := n1_; have GW244 := n2_; have GE244 := n3_; clear n0_ n1_ n2_ n3_; clear hb hbox hg))
  go_loopg [5] k (fun kq v5 w' => ∃ (x5_1 : Int), v5 = .int .i64 x5_1 ∧ Aside0 (hanoi_planned.l0 kq l0 l1 x5_1 = some (r1, r2, r3)) ∧ Aside0 (kq ≤ k) ∧ Aside0 (w'.heap[gb244]? = some (.cells #[.int .i64 0, .int .i64 0, .int .i64 0] 117 (0, 0))) ∧ Aside0 (Below w.heap.size w w'))
  case atStart => exact ⟨(wrap64 ((l0.length : Int) - 1)), (by first | rfl | (simp; done) | (simp [*]; done)), H', ⟨Nat.le_refl _⟩, ⟨by (with_reducible repeat (first | refine blk_drewN ?_ _ | refine blk_drew ?_ | refine blk_alloc ?_ _)); exact BK244.out⟩, ⟨by repeat (first | (with_reducible first | exact HB.out | apply below_alloc | apply pw_below_drewN | apply below_drew1 | refine below_set ?_ GE244.out) | exact HB.out)⟩⟩
  case round =>
    clear H'
    try clear c1
    try clear p2
    obtain ⟨x5_1, rfl, HA, HK1, BK244, HB⟩ := hrel
    cases gk with
    | zero => exact absurd HA.out (by simp [hanoi_planned.l0])
    | succ k1 =>
      have H := HA.out
      clear HA
      simp only [hanoi_planned.l0] at H
      by_cases c4 : 0 ≤ x5_1
      · rw [if_pos c4] at H
        have c4b0 : decide (0 ≤ x5_1) = true := decide_eq_true c4
        clear c4
        by_cases c5 : x5_1 < (l0.length : Int)
        · rw [if_pos c5] at H
          have c5b0 : decide (x5_1 < (l0.length : Int)) = true := decide_eq_true c5
          clear c5
          by_cases c6 : x5_1 < (l1.length : Int)
          · rw [if_pos c6] at H
            have c6b0 : decide (x5_1 < (l1.length : Int)) = true := decide_eq_true c6
            clear c6
            by_cases c7 : (rd l0 x5_1) = (rd l1 x5_1)
            · rw [if_pos c7] at H
              have c7b0 : ((rd l0 x5_1) == (rd l1 x5_1)) = true := beq_iff_eq.mpr c7
              have c7b1 : ((rd l0 x5_1) != (rd l1 x5_1)) = false := bne_eq_false_iff_eq.mpr c7
              clear c7
              have H' := Aside0.mk H
              clear H
              try go_wp2
              have n0_ := Aside0.mk (blk_drew BK244.out)
              have n1_ := Aside0.mk (below_drew1 HB.out)
              clear BK244
              clear HB
              have BK244 := n0_
              have HB := n1_
              clear n0_ n1_
              have p245 : 0 ≤ (x5_1 : Int) := of_decide_eq_true (by first | (with_reducible assumption) | assumption)
              have q245 : x5_1 < (l0.length : Int) := of_decide_eq_true (by first | (with_reducible assumption) | assumption)
              obtain ⟨ad245, e245, hx245_0⟩ := Kd.at_int HR0.out x5_1 p245 q245
              have hw245_0 := hx245_0
              cases e245
              replace hx245_0 := (HB.out.cell (World.block_lt_of_cell? w _ hx245_0)).trans hx245_0
              replace p245 := eq_true p245
              replace q245 := eq_true q245
              have p246 : 0 ≤ (x5_1 : Int) := of_decide_eq_true (by first | (with_reducible assumption) | assumption)
              have q246 : x5_1 < (l1.length : Int) := of_decide_eq_true (by first | (with_reducible assumption) | assumption)
              obtain ⟨ad246, e246, hx246_0⟩ := Kd.at_int HR1.out x5_1 p246 q246
              have hw246_0 := hx246_0
              cases e246
              replace hx246_0 := (HB.out.cell (World.block_lt_of_cell? w _ hx246_0)).trans hx246_0
              replace p246 := eq_true p246
              replace q246 := eq_true q246
              refine start_ (n := 9) (S := fun w' => w'.cell? (ad245.add (x5_1).toNat) = some (.int .i64 (rd l0 x5_1)) ∧ w'.cell? (ad246.add (x5_1).toNat) = some (.int .i64 (rd l1 x5_1))) (ds := []) #[false, false, false, false, false, false, false, false, false] (by kernel_rfl) rfl rfl ⟨((HB.out.cell (World.block_lt_of_cell? w _ hw245_0)).trans hw245_0), ((HB.out.cell (World.block_lt_of_cell? w _ hw246_0)).trans hw246_0)⟩ (fun hHeld => ?_); refine with_tabW hanoi_planned.tab2 hanoi_planned.bits2 (fun HT_ HW_ => ?_)
              generalize wr.drew = w8 at BK244 HB hx245_0 hx246_0 hHeld ⊢
              refine pure_ (i := 0) (N := some 10) (v := ?_) (a' := ?_) #[true, false, false, false, false, false, false, false, false] rfl rfl (any_of HT_.out (by kernel_rfl)) (fun _ _ _ h => h) (Or.inl ⟨by rfl, ?_⟩) ?_ ?_
              rotate_left
              · intro w'
                go_simp
                with_reducible rfl
              rotate_left
              · simp only [Act.put, List.setIfInBounds_toArray, List.set_cons_zero, List.set_cons_succ, i64_w, i32_w]
                rfl
              refine pure_ (i := 1) (N := some 11) (v := ?_) (a' := ?_) #[true, true, false, false, false, false, false, false, false] rfl rfl (any_of HT_.out (by kernel_rfl)) (fun _ _ _ h => h) (Or.inl ⟨by rfl, ?_⟩) ?_ ?_
              rotate_left
              · intro w'
                go_simp
                with_reducible rfl
              rotate_left
              · simp only [Act.put, List.setIfInBounds_toArray, List.set_cons_zero, List.set_cons_succ, i64_w, i32_w]
                rfl
              refine pure_ (i := 2) (N := some 12) (v := ?_) (a' := ?_) #[true, true, true, false, false, false, false, false, false] rfl rfl (any_of HT_.out (by kernel_rfl)) (fun _ _ _ h => h) (Or.inl ⟨by rfl, ?_⟩) ?_ ?_
              rotate_left
              · intro w'
                go_simp
                with_reducible rfl
              rotate_left
              · simp only [Act.put, List.setIfInBounds_toArray, List.set_cons_zero, List.set_cons_succ, i64_w, i32_w]
                rfl
              refine pure_ (i := 4) (N := some 14) (v := ?_) (a' := ?_) #[true, true, true, false, true, false, false, false, false] rfl rfl (any_of HT_.out (by kernel_rfl)) (fun _ _ _ h => h) (Or.inl ⟨by rfl, ?_⟩) ?_ ?_
              rotate_left
              · intro w'
                go_simp
                with_reducible rfl
              rotate_left
              · simp only [Act.put, List.setIfInBounds_toArray, List.set_cons_zero, List.set_cons_succ, i64_w, i32_w]
                rfl
              refine pure_ (i := 5) (N := some 15) (v := ?_) (a' := ?_) #[true, true, true, false, true, true, false, false, false] rfl rfl (any_of HT_.out (by kernel_rfl)) (fun _ _ _ h => h) (Or.inl ⟨by rfl, ?_⟩) ?_ ?_
              rotate_left
              · intro w'
                go_simp
                with_reducible rfl
              rotate_left
              · simp only [Act.put, List.setIfInBounds_toArray, List.set_cons_zero, List.set_cons_succ, i64_w, i32_w]
                rfl
              refine pure_ (i := 6) (N := some 16) (v := ?_) (a' := ?_) #[true, true, true, false, true, true, true, false, false] rfl rfl (any_of HT_.out (by kernel_rfl)) (fun _ _ _ h => h) (Or.inl ⟨by rfl, ?_⟩) ?_ ?_
              rotate_left
              · intro w'
                go_simp
                with_reducible rfl
              rotate_left
              · simp only [Act.put, List.setIfInBounds_toArray, List.set_cons_zero, List.set_cons_succ, i64_w, i32_w]
                rfl
              refine take_ (i := 3) (N := some 13) (v := ?_) (a' := ?_) #[true, true, true, true, true, true, true, false, false] rfl rfl (take_ofW HT_.out HW_.out (by kernel_rfl)) (fun _ _ _ h => h) (Or.inl ⟨by rfl, ?_⟩) hHeld ?_ ?_
              rotate_left
              · rintro w' ⟨s0, s1⟩
                go_simp
                with_reducible rfl
              rotate_left
              · simp only [Act.put, List.setIfInBounds_toArray, List.set_cons_zero, List.set_cons_succ, i64_w, i32_w]
                rfl
              refine take_ (i := 7) (N := some 17) (v := ?_) (a' := ?_) #[true, true, true, true, true, true, true, true, false] rfl rfl (take_ofW HT_.out HW_.out (by kernel_rfl)) (fun _ _ _ h => h) (Or.inl ⟨by rfl, ?_⟩) hHeld ?_ ?_
              rotate_left
              · rintro w' ⟨s0, s1⟩
                go_simp
                with_reducible rfl
              rotate_left
              · simp only [Act.put, List.setIfInBounds_toArray, List.set_cons_zero, List.set_cons_succ, i64_w, i32_w]
                rfl
              refine pure_ (i := 8) (N := some 18) (v := ?_) (a' := ?_) #[true, true, true, true, true, true, true, true, true] rfl rfl (any_of HT_.out (by kernel_rfl)) (fun _ _ _ h => h) (Or.inl ⟨by rfl, ?_⟩) ?_ ?_
              rotate_left
              · intro w'
                go_simp
                with_reducible rfl
              rotate_left
              · simp only [Act.put, List.setIfInBounds_toArray, List.set_cons_zero, List.set_cons_succ, i64_w, i32_w]
                rfl
              refine done_ (done_of HT_.out (by kernel_rfl)) ?_
              try go_wp2
              go_roundg k1
              case measure => have := HK1.out; omega
              case rel => exact ⟨(wrap64 (x5_1 - 1)), (by first | rfl | (simp; done) | (simp [*]; done)), H', ⟨by have := HK1.out; omega⟩, ⟨by (with_reducible repeat (first | refine blk_drewN ?_ _ | refine blk_drew ?_ | refine blk_alloc ?_ _)); exact BK244.out⟩, ⟨by repeat (first | (with_reducible first | exact HB.out | apply below_alloc | apply pw_below_drewN | apply below_drew1 | refine below_set ?_ GE244.out) | exact HB.out)⟩⟩
            · rw [if_neg c7] at H
              have c7b0 : ((rd l0 x5_1) == (rd l1 x5_1)) = false := beq_eq_false_iff_ne.mpr c7
              have c7b1 : ((rd l0 x5_1) != (rd l1 x5_1)) = true := bne_iff_ne.mpr c7
              have c9b0 := eq_true (of_decide_eq_true (by first | (with_reducible assumption) | assumption) : 0 ≤ x5_1)
              by_cases c10 : x5_1 ≤ (l0.length : Int)
              · rw [if_pos c10] at H
                have c10b0 := eq_true c10
                have c10b1 : decide (x5_1 ≤ (l0.length : Int)) = true := decide_eq_true c10
                clear c10
                replace H := Option.bind_eq_some_iff.mp H
                obtain ⟨t250, A110, H⟩ := H
                replace H : (if x5_1 ≤ (l1.length : Int) then ((hanoi_toPeg.f k1 (l1.take (x5_1 : Int).toNat) (wrap64 ((wrap64 (3 - (rd l0 x5_1))) - (rd l1 x5_1)))).bind fun t252 => ((hanoi_toPeg.f k1 (l0.take (x5_1 : Int).toNat) (rd l1 x5_1)).bind fun t255 => ((hanoi_all.f x5_1).bind fun t256 => ((hanoi_toPeg.f k1 (l1.take (x5_1 : Int).toNat) (rd l0 x5_1)).bind fun t259 => (some (x5_1, wrap64 ((wrap64 (t250 + 1)) + t252), wrap64 ((wrap64 ((wrap64 ((wrap64 (t255 + 1)) + t256)) + 1)) + t259))))))) else (none)) = some (r1, r2, r3) := H
                have A11 := Aside0.mk A110
                clear A110
                have c12b0 := eq_true (of_decide_eq_true (by first | (with_reducible assumption) | assumption) : 0 ≤ x5_1)
                by_cases c13 : x5_1 ≤ (l1.length : Int)
                · rw [if_pos c13] at H
                  have c13b0 := eq_true c13
                  have c13b1 : decide (x5_1 ≤ (l1.length : Int)) = true := decide_eq_true c13
                  clear c13
                  replace H := Option.bind_eq_some_iff.mp H
                  obtain ⟨t252, A140, H⟩ := H
                  replace H : ((hanoi_toPeg.f k1 (l0.take (x5_1 : Int).toNat) (rd l1 x5_1)).bind fun t255 => ((hanoi_all.f x5_1).bind fun t256 => ((hanoi_toPeg.f k1 (l1.take (x5_1 : Int).toNat) (rd l0 x5_1)).bind fun t259 => (some (x5_1, wrap64 ((wrap64 (t250 + 1)) + t252), wrap64 ((wrap64 ((wrap64 ((wrap64 (t255 + 1)) + t256)) + 1)) + t259)))))) = some (r1, r2, r3) := H
                  have A14 := Aside0.mk A140
                  clear A140
                  have c15b0 := eq_true (of_decide_eq_true (by first | (with_reducible assumption) | assumption) : 0 ≤ x5_1)
                  have c16b0 := eq_true (of_decide_eq_true (by first | (with_reducible assumption) | assumption) : x5_1 ≤ (l0.length : Int))
                  replace H := Option.bind_eq_some_iff.mp H
                  obtain ⟨t255, A170, H⟩ := H
                  replace H : ((hanoi_all.f x5_1).bind fun t256 => ((hanoi_toPeg.f k1 (l1.take (x5_1 : Int).toNat) (rd l0 x5_1)).bind fun t259 => (some (x5_1, wrap64 ((wrap64 (t250 + 1)) + t252), wrap64 ((wrap64 ((wrap64 ((wrap64 (t255 + 1)) + t256)) + 1)) + t259))))) = some (r1, r2, r3) := H
                  have A17 := Aside0.mk A170
                  clear A170
                  replace H := Option.bind_eq_some_iff.mp H
                  obtain ⟨t256, A180, H⟩ := H
                  replace H : ((hanoi_toPeg.f k1 (l1.take (x5_1 : Int).toNat) (rd l0 x5_1)).bind fun t259 => (some (x5_1, wrap64 ((wrap64 (t250 + 1)) + t252), wrap64 ((wrap64 ((wrap64 ((wrap64 (t255 + 1)) + t256)) + 1)) + t259)))) = some (r1, r2, r3) := H
                  have A18 := Aside0.mk A180
                  clear A180
                  have c19b0 := eq_true (of_decide_eq_true (by first | (with_reducible assumption) | assumption) : 0 ≤ x5_1)
                  have c20b0 := eq_true (of_decide_eq_true (by first | (with_reducible assumption) | assumption) : x5_1 ≤ (l1.length : Int))
                  replace H := Option.bind_eq_some_iff.mp H
                  obtain ⟨t259, A210, H⟩ := H
                  replace H : (some (x5_1, wrap64 ((wrap64 (t250 + 1)) + t252), wrap64 ((wrap64 ((wrap64 ((wrap64 (t255 + 1)) + t256)) + 1)) + t259))) = some (r1, r2, r3) := H
                  have A21 := Aside0.mk A210
                  clear A210
                  simp only [Option.some.injEq, Prod.mk.injEq] at H
                  obtain ⟨rfl, rfl, rfl⟩ := H
                  try go_wp2
                  have n0_ := Aside0.mk (blk_drew BK244.out)
                  have n1_ := Aside0.mk (below_drew1 HB.out)
                  clear BK244
                  clear HB
                  have BK244 := n0_
                  have HB := n1_
                  clear n0_ n1_
                  have p245 : 0 ≤ (x5_1 : Int) := of_decide_eq_true (by first | (with_reducible assumption) | assumption)
                  have q245 : x5_1 < (l0.length : Int) := of_decide_eq_true (by first | (with_reducible assumption) | assumption)
                  obtain ⟨ad245, e245, hx245_0⟩ := Kd.at_int HR0.out x5_1 p245 q245
                  have hw245_0 := hx245_0
                  cases e245
                  replace hx245_0 := (HB.out.cell (World.block_lt_of_cell? w _ hx245_0)).trans hx245_0
                  replace p245 := eq_true p245
                  replace q245 := eq_true q245
                  have p246 : 0 ≤ (x5_1 : Int) := of_decide_eq_true (by first | (with_reducible assumption) | assumption)
                  have q246 : x5_1 < (l1.length : Int) := of_decide_eq_true (by first | (with_reducible assumption) | assumption)
                  obtain ⟨ad246, e246, hx246_0⟩ := Kd.at_int HR1.out x5_1 p246 q246
                  have hw246_0 := hx246_0
                  cases e246
                  replace hx246_0 := (HB.out.cell (World.block_lt_of_cell? w _ hx246_0)).trans hx246_0
                  replace p246 := eq_true p246
                  replace q246 := eq_true q246
                  refine start_ (n := 9) (S := fun w' => w'.cell? (ad245.add (x5_1).toNat) = some (.int .i64 (rd l0 x5_1)) ∧ w'.cell? (ad246.add (x5_1).toNat) = some (.int .i64 (rd l1 x5_1))) (ds := []) #[false, false, false, false, false, false, false, false, false] (by kernel_rfl) rfl rfl ⟨((HB.out.cell (World.block_lt_of_cell? w _ hw245_0)).trans hw245_0), ((HB.out.cell (World.block_lt_of_cell? w _ hw246_0)).trans hw246_0)⟩ (fun hHeld => ?_); refine with_tabW hanoi_planned.tab2 hanoi_planned.bits2 (fun HT_ HW_ => ?_)
                  generalize wr.drew = w22 at BK244 HB hx245_0 hx246_0 hHeld ⊢
                  refine pure_ (i := 0) (N := some 10) (v := ?_) (a' := ?_) #[true, false, false, false, false, false, false, false, false] rfl rfl (any_of HT_.out (by kernel_rfl)) (fun _ _ _ h => h) (Or.inl ⟨by rfl, ?_⟩) ?_ ?_
                  rotate_left
                  · intro w'
                    go_simp
                    with_reducible rfl
                  rotate_left
                  · simp only [Act.put, List.setIfInBounds_toArray, List.set_cons_zero, List.set_cons_succ, i64_w, i32_w]
                    rfl
                  refine pure_ (i := 1) (N := some 11) (v := ?_) (a' := ?_) #[true, true, false, false, false, false, false, false, false] rfl rfl (any_of HT_.out (by kernel_rfl)) (fun _ _ _ h => h) (Or.inl ⟨by rfl, ?_⟩) ?_ ?_
                  rotate_left
                  · intro w'
                    go_simp
                    with_reducible rfl
                  rotate_left
                  · simp only [Act.put, List.setIfInBounds_toArray, List.set_cons_zero, List.set_cons_succ, i64_w, i32_w]
                    rfl
                  refine pure_ (i := 2) (N := some 12) (v := ?_) (a' := ?_) #[true, true, true, false, false, false, false, false, false] rfl rfl (any_of HT_.out (by kernel_rfl)) (fun _ _ _ h => h) (Or.inl ⟨by rfl, ?_⟩) ?_ ?_
                  rotate_left
                  · intro w'
                    go_simp
                    with_reducible rfl
                  rotate_left
                  · simp only [Act.put, List.setIfInBounds_toArray, List.set_cons_zero, List.set_cons_succ, i64_w, i32_w]
                    rfl
                  refine pure_ (i := 4) (N := some 14) (v := ?_) (a' := ?_) #[true, true, true, false, true, false, false, false, false] rfl rfl (any_of HT_.out (by kernel_rfl)) (fun _ _ _ h => h) (Or.inl ⟨by rfl, ?_⟩) ?_ ?_
                  rotate_left
                  · intro w'
                    go_simp
                    with_reducible rfl
                  rotate_left
                  · simp only [Act.put, List.setIfInBounds_toArray, List.set_cons_zero, List.set_cons_succ, i64_w, i32_w]
                    rfl
                  refine pure_ (i := 5) (N := some 15) (v := ?_) (a' := ?_) #[true, true, true, false, true, true, false, false, false] rfl rfl (any_of HT_.out (by kernel_rfl)) (fun _ _ _ h => h) (Or.inl ⟨by rfl, ?_⟩) ?_ ?_
                  rotate_left
                  · intro w'
                    go_simp
                    with_reducible rfl
                  rotate_left
                  · simp only [Act.put, List.setIfInBounds_toArray, List.set_cons_zero, List.set_cons_succ, i64_w, i32_w]
                    rfl
                  refine pure_ (i := 6) (N := some 16) (v := ?_) (a' := ?_) #[true, true, true, false, true, true, true, false, false] rfl rfl (any_of HT_.out (by kernel_rfl)) (fun _ _ _ h => h) (Or.inl ⟨by rfl, ?_⟩) ?_ ?_
                  rotate_left
                  · intro w'
                    go_simp
                    with_reducible rfl
                  rotate_left
                  · simp only [Act.put, List.setIfInBounds_toArray, List.set_cons_zero, List.set_cons_succ, i64_w, i32_w]
                    rfl
                  refine take_ (i := 3) (N := some 13) (v := ?_) (a' := ?_) #[true, true, true, true, true, true, true, false, false] rfl rfl (take_ofW HT_.out HW_.out (by kernel_rfl)) (fun _ _ _ h => h) (Or.inl ⟨by rfl, ?_⟩) hHeld ?_ ?_
                  rotate_left
                  · rintro w' ⟨s0, s1⟩
                    go_simp
                    with_reducible rfl
                  rotate_left
                  · simp only [Act.put, List.setIfInBounds_toArray, List.set_cons_zero, List.set_cons_succ, i64_w, i32_w]
                    rfl
                  refine take_ (i := 7) (N := some 17) (v := ?_) (a' := ?_) #[true, true, true, true, true, true, true, true, false] rfl rfl (take_ofW HT_.out HW_.out (by kernel_rfl)) (fun _ _ _ h => h) (Or.inl ⟨by rfl, ?_⟩) hHeld ?_ ?_
                  rotate_left
                  · rintro w' ⟨s0, s1⟩
                    go_simp
                    with_reducible rfl
                  rotate_left
                  · simp only [Act.put, List.setIfInBounds_toArray, List.set_cons_zero, List.set_cons_succ, i64_w, i32_w]
                    rfl
                  refine pure_ (i := 8) (N := some 18) (v := ?_) (a' := ?_) #[true, true, true, true, true, true, true, true, true] rfl rfl (any_of HT_.out (by kernel_rfl)) (fun _ _ _ h => h) (Or.inl ⟨by rfl, ?_⟩) ?_ ?_
                  rotate_left
                  · intro w'
                    go_simp
                    with_reducible rfl
                  rotate_left
                  · simp only [Act.put, List.setIfInBounds_toArray, List.set_cons_zero, List.set_cons_succ, i64_w, i32_w]
                    rfl
                  refine done_ (done_of HT_.out (by kernel_rfl)) ?_
                  try go_wp2
                  have n0_ := Aside0.mk (blk_drew BK244.out)
                  have n1_ := Aside0.mk (below_drew1 HB.out)
                  clear BK244
                  clear HB
                  have BK244 := n0_
                  have HB := n1_
                  clear n0_ n1_
                  have p247 : 0 ≤ (x5_1 : Int) := of_decide_eq_true (by first | (with_reducible assumption) | assumption)
                  have q247 : x5_1 < (l0.length : Int) := of_decide_eq_true (by first | (with_reducible assumption) | assumption)
                  obtain ⟨ad247, e247, hx247_0⟩ := Kd.at_int HR0.out x5_1 p247 q247
                  have hw247_0 := hx247_0
                  obtain rfl : ad245 = ad247 := (by injection e247)
                  replace hx247_0 := (HB.out.cell (World.block_lt_of_cell? w _ hx247_0)).trans hx247_0
                  replace p247 := eq_true p247
                  replace q247 := eq_true q247
                  have p248 : 0 ≤ (x5_1 : Int) := of_decide_eq_true (by first | (with_reducible assumption) | assumption)
                  have q248 : x5_1 < (l1.length : Int) := of_decide_eq_true (by first | (with_reducible assumption) | assumption)
                  obtain ⟨ad248, e248, hx248_0⟩ := Kd.at_int HR1.out x5_1 p248 q248
                  have hw248_0 := hx248_0
                  obtain rfl : ad246 = ad248 := (by injection e248)
                  replace hx248_0 := (HB.out.cell (World.block_lt_of_cell? w _ hx248_0)).trans hx248_0
                  replace p248 := eq_true p248
                  replace q248 := eq_true q248
                  refine start_ (n := 11) (S := fun w' => w'.cell? (ad245.add (x5_1).toNat) = some (.int .i64 (rd l0 x5_1)) ∧ w'.cell? (ad246.add (x5_1).toNat) = some (.int .i64 (rd l1 x5_1))) (ds := []) #[false, false, false, false, false, false, false, false, false, false, false] (by kernel_rfl) rfl rfl ⟨((HB.out.cell (World.block_lt_of_cell? w _ hw247_0)).trans hw247_0), ((HB.out.cell (World.block_lt_of_cell? w _ hw248_0)).trans hw248_0)⟩ (fun hHeld => ?_); refine with_tabW hanoi_planned.tab4 hanoi_planned.bits4 (fun HT_ HW_ => ?_)
                  generalize w22.drew = w23 at BK244 HB hx247_0 hx248_0 hHeld ⊢
                  refine pure_ (i := 0) (N := some 21) (v := ?_) (a' := ?_) #[true, false, false, false, false, false, false, false, false, false, false] rfl rfl (any_of HT_.out (by kernel_rfl)) (fun _ _ _ h => h) (Or.inl ⟨by rfl, ?_⟩) ?_ ?_
                  rotate_left
                  · intro w'
                    go_simp
                    with_reducible rfl
                  rotate_left
                  · simp only [Act.put, List.setIfInBounds_toArray, List.set_cons_zero, List.set_cons_succ, i64_w, i32_w]
                    rfl
                  refine pure_ (i := 1) (N := some 22) (v := ?_) (a' := ?_) #[true, true, false, false, false, false, false, false, false, false, false] rfl rfl (any_of HT_.out (by kernel_rfl)) (fun _ _ _ h => h) (Or.inl ⟨by rfl, ?_⟩) ?_ ?_
                  rotate_left
                  · intro w'
                    go_simp
                    with_reducible rfl
                  rotate_left
                  · simp only [Act.put, List.setIfInBounds_toArray, List.set_cons_zero, List.set_cons_succ, i64_w, i32_w]
                    rfl
                  refine pure_ (i := 2) (N := some 23) (v := ?_) (a' := ?_) #[true, true, true, false, false, false, false, false, false, false, false] rfl rfl (any_of HT_.out (by kernel_rfl)) (fun _ _ _ h => h) (Or.inl ⟨by rfl, ?_⟩) ?_ ?_
                  rotate_left
                  · intro w'
                    go_simp
                    with_reducible rfl
                  rotate_left
                  · simp only [Act.put, List.setIfInBounds_toArray, List.set_cons_zero, List.set_cons_succ, i64_w, i32_w]
                    rfl
                  refine pure_ (i := 5) (N := some 26) (v := ?_) (a' := ?_) #[true, true, true, false, false, true, false, false, false, false, false] rfl rfl (any_of HT_.out (by kernel_rfl)) (fun _ _ _ h => h) (Or.inl ⟨by rfl, ?_⟩) ?_ ?_
                  rotate_left
                  · intro w'
                    go_simp
                    with_reducible rfl
                  rotate_left
                  · simp only [Act.put, List.setIfInBounds_toArray, List.set_cons_zero, List.set_cons_succ, i64_w, i32_w]
                    rfl
                  refine pure_ (i := 6) (N := some 27) (v := ?_) (a' := ?_) #[true, true, true, false, false, true, true, false, false, false, false] rfl rfl (any_of HT_.out (by kernel_rfl)) (fun _ _ _ h => h) (Or.inl ⟨by rfl, ?_⟩) ?_ ?_
                  rotate_left
                  · intro w'
                    go_simp
                    with_reducible rfl
                  rotate_left
                  · simp only [Act.put, List.setIfInBounds_toArray, List.set_cons_zero, List.set_cons_succ, i64_w, i32_w]
                    rfl
                  refine pure_ (i := 7) (N := some 28) (v := ?_) (a' := ?_) #[true, true, true, false, false, true, true, true, false, false, false] rfl rfl (any_of HT_.out (by kernel_rfl)) (fun _ _ _ h => h) (Or.inl ⟨by rfl, ?_⟩) ?_ ?_
                  rotate_left
                  · intro w'
                    go_simp
                    with_reducible rfl
                  rotate_left
                  · simp only [Act.put, List.setIfInBounds_toArray, List.set_cons_zero, List.set_cons_succ, i64_w, i32_w]
                    rfl
                  refine take_ (i := 3) (N := some 24) (v := ?_) (a' := ?_) #[true, true, true, true, false, true, true, true, false, false, false] rfl rfl (take_ofW HT_.out HW_.out (by kernel_rfl)) (fun _ _ _ h => h) (Or.inl ⟨by rfl, ?_⟩) hHeld ?_ ?_
                  rotate_left
                  · rintro w' ⟨s0, s1⟩
                    go_simp
                    with_reducible rfl
                  rotate_left
                  · simp only [Act.put, List.setIfInBounds_toArray, List.set_cons_zero, List.set_cons_succ, i64_w, i32_w]
                    rfl
                  refine pure_ (i := 4) (N := some 25) (v := ?_) (a' := ?_) #[true, true, true, true, true, true, true, true, false, false, false] rfl rfl (any_of HT_.out (by kernel_rfl)) (fun _ _ _ h => h) (Or.inl ⟨by rfl, ?_⟩) ?_ ?_
                  rotate_left
                  · intro w'
                    go_simp
                    with_reducible rfl
                  rotate_left
                  · simp only [Act.put, List.setIfInBounds_toArray, List.set_cons_zero, List.set_cons_succ, i64_w, i32_w]
                    rfl
                  refine take_ (i := 8) (N := some 29) (v := ?_) (a' := ?_) #[true, true, true, true, true, true, true, true, true, false, false] rfl rfl (take_ofW HT_.out HW_.out (by kernel_rfl)) (fun _ _ _ h => h) (Or.inl ⟨by rfl, ?_⟩) hHeld ?_ ?_
                  rotate_left
                  · rintro w' ⟨s0, s1⟩
                    go_simp
                    with_reducible rfl
                  rotate_left
                  · simp only [Act.put, List.setIfInBounds_toArray, List.set_cons_zero, List.set_cons_succ, i64_w, i32_w]
                    rfl
                  refine pure_ (i := 9) (N := some 30) (v := ?_) (a' := ?_) #[true, true, true, true, true, true, true, true, true, true, false] rfl rfl (any_of HT_.out (by kernel_rfl)) (fun _ _ _ h => h) (Or.inl ⟨by rfl, ?_⟩) ?_ ?_
                  rotate_left
                  · intro w'
                    go_simp
                    with_reducible rfl
                  rotate_left
                  · simp only [Act.put, List.setIfInBounds_toArray, List.set_cons_zero, List.set_cons_succ, i64_w, i32_w]
                    rfl
                  refine pure_ (i := 10) (N := some 6) (v := ?_) (a' := ?_) #[true, true, true, true, true, true, true, true, true, true, true] rfl rfl (any_of HT_.out (by kernel_rfl)) (fun _ _ _ h => h) (Or.inl ⟨by rfl, ?_⟩) ?_ ?_
                  rotate_left
                  · intro w'
                    go_simp
                    with_reducible rfl
                  rotate_left
                  · simp only [Act.put, List.setIfInBounds_toArray, List.set_cons_zero, List.set_cons_succ, i64_w, i32_w]
                    rfl
                  refine done_ (done_of HT_.out (by kernel_rfl)) ?_
                  try go_wp2
                  have n0_ := Aside0.mk (blk_drew BK244.out)
                  have n1_ := Aside0.mk (below_drew1 HB.out)
                  clear BK244
                  clear HB
                  have BK244 := n0_
                  have HB := n1_
                  clear n0_ n1_
                  obtain ⟨i025, hi025, _, hsz25, _⟩ := info_parts info3
                  obtain ⟨hcut25, hA25, hC25⟩ := print_take_of (P := Tryd.prog) (Value.int .i64) 0 46 3 .i64 Tryd.underlying46 hi025 hsz25 (some ad245) c0 l0 x5_1 (of_decide_eq_true (by first | (with_reducible assumption) | assumption)) (of_decide_eq_true (by first | (with_reducible assumption) | assumption)) HC0.out
                  have HR249 := Aside0.mk (Kd.C_of_reads (h1 := fun _ => rfl) (hA25 _ (Kd.reads_of_C HR0.out)))
                  have HC249 := Aside0.mk hC25
                  clear hA25 hC25 hi025 hsz25
                  obtain ⟨i026, hi026, _, hsz26, _⟩ := info_parts info3
                  obtain ⟨hcut26, hA26, hC26⟩ := print_take_of (P := Tryd.prog) (Value.int .i64) 0 46 3 .i64 Tryd.underlying46 hi026 hsz26 (some ad246) c1 l1 x5_1 (of_decide_eq_true (by first | (with_reducible assumption) | assumption)) (of_decide_eq_true (by first | (with_reducible assumption) | assumption)) HC1.out
                  have HR251 := Aside0.mk (Kd.C_of_reads (h1 := fun _ => rfl) (hA26 _ (Kd.reads_of_C HR1.out)))
                  have HC251 := Aside0.mk hC26
                  clear hA26 hC26 hi026 hsz26
                  obtain ⟨i027, hi027, _, hsz27, _⟩ := info_parts info3
                  obtain ⟨hcut27, hA27, hC27⟩ := print_take_of (P := Tryd.prog) (Value.int .i64) 0 46 3 .i64 Tryd.underlying46 hi027 hsz27 (some ad245) c0 l0 x5_1 (of_decide_eq_true (by first | (with_reducible assumption) | assumption)) (of_decide_eq_true (by first | (with_reducible assumption) | assumption)) HC0.out
                  have HR253 := Aside0.mk (Kd.C_of_reads (h1 := fun _ => rfl) (hA27 _ (Kd.reads_of_C HR0.out)))
                  have HC253 := Aside0.mk hC27
                  clear hA27 hC27 hi027 hsz27
                  have p254 : 0 ≤ (x5_1 : Int) := of_decide_eq_true (by first | (with_reducible assumption) | assumption)
                  have q254 : x5_1 < (l1.length : Int) := of_decide_eq_true (by first | (with_reducible assumption) | assumption)
                  obtain ⟨ad254, e254, hx254_0⟩ := Kd.at_int HR1.out x5_1 p254 q254
                  have hw254_0 := hx254_0
                  obtain rfl : ad246 = ad254 := (by injection e254)
                  replace hx254_0 := (HB.out.cell (World.block_lt_of_cell? w _ hx254_0)).trans hx254_0
                  replace p254 := eq_true p254
                  replace q254 := eq_true q254
                  obtain ⟨i028, hi028, _, hsz28, _⟩ := info_parts info3
                  obtain ⟨hcut28, hA28, hC28⟩ := print_take_of (P := Tryd.prog) (Value.int .i64) 0 46 3 .i64 Tryd.underlying46 hi028 hsz28 (some ad246) c1 l1 x5_1 (of_decide_eq_true (by first | (with_reducible assumption) | assumption)) (of_decide_eq_true (by first | (with_reducible assumption) | assumption)) HC1.out
                  have HR257 := Aside0.mk (Kd.C_of_reads (h1 := fun _ => rfl) (hA28 _ (Kd.reads_of_C HR1.out)))
                  have HC257 := Aside0.mk hC28
                  clear hA28 hC28 hi028 hsz28
                  have p258 : 0 ≤ (x5_1 : Int) := of_decide_eq_true (by first | (with_reducible assumption) | assumption)
                  have q258 : x5_1 < (l0.length : Int) := of_decide_eq_true (by first | (with_reducible assumption) | assumption)
                  obtain ⟨ad258, e258, hx258_0⟩ := Kd.at_int HR0.out x5_1 p258 q258
                  have hw258_0 := hx258_0
                  obtain rfl : ad245 = ad258 := (by injection e258)
                  replace hx258_0 := (HB.out.cell (World.block_lt_of_cell? w _ hx258_0)).trans hx258_0
                  replace p258 := eq_true p258
                  replace q258 := eq_true q258
                  refine start_ (n := 37) (S := fun w' => w'.cell? (ad246.add (x5_1).toNat) = some (.int .i64 (rd l1 x5_1)) ∧ w'.cell? (ad245.add (x5_1).toNat) = some (.int .i64 (rd l0 x5_1))) (ds := []) #[false, false, false, false, false, false, false, false, false, false, false, false, false, false, false, false, false, false, false, false, false, false, false, false, false, false, false, false, false, false, false, false, false, false, false, false, false] (by kernel_rfl) rfl rfl ⟨((HB.out.cell (World.block_lt_of_cell? w _ hw254_0)).trans hw254_0), ((HB.out.cell (World.block_lt_of_cell? w _ hw258_0)).trans hw258_0)⟩ (fun hHeld => ?_); refine with_tabW hanoi_planned.tab5 hanoi_planned.bits5 (fun HT_ HW_ => ?_)
                  generalize w23.drew = w24 at BK244 HB HR249 HR251 HR253 HR257 hx254_0 hx258_0 hHeld ⊢
                  refine pure_ (i := 0) (N := some 31) (v := ?_) (a' := ?_) #[true, false, false, false, false, false, false, false, false, false, false, false, false, false, false, false, false, false, false, false, false, false, false, false, false, false, false, false, false, false, false, false, false, false, false, false, false] rfl rfl (any_of HT_.out (by kernel_rfl)) (fun _ _ _ h => h) (Or.inl ⟨by rfl, ?_⟩) ?_ ?_
                  rotate_left
                  · intro w'
                    go_simp
                    with_reducible rfl
                  rotate_left
                  · simp only [Act.put, List.setIfInBounds_toArray, List.set_cons_zero, List.set_cons_succ, i64_w, i32_w]
                    rfl
                  refine pure_ (i := 1) (N := some 32) (v := ?_) (a' := ?_) #[true, true, false, false, false, false, false, false, false, false, false, false, false, false, false, false, false, false, false, false, false, false, false, false, false, false, false, false, false, false, false, false, false, false, false, false, false] rfl rfl (any_of HT_.out (by kernel_rfl)) (fun _ _ _ h => h) (Or.inl ⟨by rfl, ?_⟩) ?_ ?_
                  rotate_left
                  · intro w'
                    go_simp
                    with_reducible rfl
                  rotate_left
                  · simp only [Act.put, List.setIfInBounds_toArray, List.set_cons_zero, List.set_cons_succ, i64_w, i32_w]
                    rfl
                  refine pure_ (i := 2) (N := some 33) (v := ?_) (a' := ?_) #[true, true, true, false, false, false, false, false, false, false, false, false, false, false, false, false, false, false, false, false, false, false, false, false, false, false, false, false, false, false, false, false, false, false, false, false, false] rfl rfl (any_of HT_.out (by kernel_rfl)) (fun _ _ _ h => h) (Or.inl ⟨by rfl, ?_⟩) ?_ ?_
                  rotate_left
                  · intro w'
                    go_simp
                    with_reducible rfl
                  rotate_left
                  · simp only [Act.put, List.setIfInBounds_toArray, List.set_cons_zero, List.set_cons_succ, i64_w, i32_w]
                    rfl
                  refine pure_ (i := 3) (N := some 34) (v := ?_) (a' := ?_) #[true, true, true, true, false, false, false, false, false, false, false, false, false, false, false, false, false, false, false, false, false, false, false, false, false, false, false, false, false, false, false, false, false, false, false, false, false] rfl rfl (any_of HT_.out (by kernel_rfl)) (fun _ _ _ h => h) (Or.inl ⟨by rfl, ?_⟩) ?_ ?_
                  rotate_left
                  · intro w'
                    go_simp
                    with_reducible rfl
                  rotate_left
                  · simp only [Act.put, List.setIfInBounds_toArray, List.set_cons_zero, List.set_cons_succ, i64_w, i32_w]
                    rfl
                  refine pure_ (i := 4) (N := some 35) (v := ?_) (a' := ?_) #[true, true, true, true, true, false, false, false, false, false, false, false, false, false, false, false, false, false, false, false, false, false, false, false, false, false, false, false, false, false, false, false, false, false, false, false, false] rfl rfl (any_of HT_.out (by kernel_rfl)) (fun _ _ _ h => h) (Or.inl ⟨by rfl, ?_⟩) ?_ ?_
                  rotate_left
                  · intro w'
                    go_simp
                    with_reducible rfl
                  rotate_left
                  · simp only [Act.put, List.setIfInBounds_toArray, List.set_cons_zero, List.set_cons_succ, i64_w, i32_w]
                    rfl
                  refine pure_ (i := 7) (N := some 38) (v := ?_) (a' := ?_) #[true, true, true, true, true, false, false, true, false, false, false, false, false, false, false, false, false, false, false, false, false, false, false, false, false, false, false, false, false, false, false, false, false, false, false, false, false] rfl rfl (any_of HT_.out (by kernel_rfl)) (fun _ _ _ h => h) (Or.inl ⟨by rfl, ?_⟩) ?_ ?_
                  rotate_left
                  · intro w'
                    go_simp
                    with_reducible rfl
                  rotate_left
                  · simp only [Act.put, List.setIfInBounds_toArray, List.set_cons_zero, List.set_cons_succ, i64_w, i32_w]
                    rfl
                  refine pure_ (i := 8) (N := some 39) (v := ?_) (a' := ?_) #[true, true, true, true, true, false, false, true, true, false, false, false, false, false, false, false, false, false, false, false, false, false, false, false, false, false, false, false, false, false, false, false, false, false, false, false, false] rfl rfl (any_of HT_.out (by kernel_rfl)) (fun _ _ _ h => h) (Or.inl ⟨by rfl, ?_⟩) ?_ ?_
                  rotate_left
                  · intro w'
                    go_simp
                    with_reducible rfl
                  rotate_left
                  · simp only [Act.put, List.setIfInBounds_toArray, List.set_cons_zero, List.set_cons_succ, i64_w, i32_w]
                    rfl
                  refine pure_ (i := 9) (N := some 40) (v := ?_) (a' := ?_) #[true, true, true, true, true, false, false, true, true, true, false, false, false, false, false, false, false, false, false, false, false, false, false, false, false, false, false, false, false, false, false, false, false, false, false, false, false] rfl rfl (any_of HT_.out (by kernel_rfl)) (fun _ _ _ h => h) (Or.inl ⟨by rfl, ?_⟩) ?_ ?_
                  rotate_left
                  · intro w'
                    go_simp
                    with_reducible rfl
                  rotate_left
                  · simp only [Act.put, List.setIfInBounds_toArray, List.set_cons_zero, List.set_cons_succ, i64_w, i32_w]
                    rfl
                  refine pure_ (i := 10) (N := some 41) (v := ?_) (a' := ?_) #[true, true, true, true, true, false, false, true, true, true, true, false, false, false, false, false, false, false, false, false, false, false, false, false, false, false, false, false, false, false, false, false, false, false, false, false, false] rfl rfl (any_of HT_.out (by kernel_rfl)) (fun _ _ _ h => h) (Or.inl ⟨by rfl, ?_⟩) ?_ ?_
                  rotate_left
                  · intro w'
                    go_simp
                    with_reducible rfl
                  rotate_left
                  · simp only [Act.put, List.setIfInBounds_toArray, List.set_cons_zero, List.set_cons_succ, i64_w, i32_w]
                    rfl
                  refine pure_ (i := 13) (N := some 44) (v := ?_) (a' := ?_) #[true, true, true, true, true, false, false, true, true, true, true, false, false, true, false, false, false, false, false, false, false, false, false, false, false, false, false, false, false, false, false, false, false, false, false, false, false] rfl rfl (any_of HT_.out (by kernel_rfl)) (fun _ _ _ h => h) (Or.inl ⟨by rfl, ?_⟩) ?_ ?_
                  rotate_left
                  · intro w'
                    go_simp
                    with_reducible rfl
                  rotate_left
                  · simp only [Act.put, List.setIfInBounds_toArray, List.set_cons_zero, List.set_cons_succ, i64_w, i32_w]
                    rfl
                  refine pure_ (i := 14) (N := some 45) (v := ?_) (a' := ?_) #[true, true, true, true, true, false, false, true, true, true, true, false, false, true, true, false, false, false, false, false, false, false, false, false, false, false, false, false, false, false, false, false, false, false, false, false, false] rfl rfl (any_of HT_.out (by kernel_rfl)) (fun _ _ _ h => h) (Or.inl ⟨by rfl, ?_⟩) ?_ ?_
                  rotate_left
                  · intro w'
                    go_simp
                    with_reducible rfl
                  rotate_left
                  · simp only [Act.put, List.setIfInBounds_toArray, List.set_cons_zero, List.set_cons_succ, i64_w, i32_w]
                    rfl
                  refine pure_ (i := 15) (N := some 46) (v := ?_) (a' := ?_) #[true, true, true, true, true, false, false, true, true, true, true, false, false, true, true, true, false, false, false, false, false, false, false, false, false, false, false, false, false, false, false, false, false, false, false, false, false] rfl rfl (any_of HT_.out (by kernel_rfl)) (fun _ _ _ h => h) (Or.inl ⟨by rfl, ?_⟩) ?_ ?_
                  rotate_left
                  · intro w'
                    go_simp
                    with_reducible rfl
                  rotate_left
                  · simp only [Act.put, List.setIfInBounds_toArray, List.set_cons_zero, List.set_cons_succ, i64_w, i32_w]
                    rfl
                  refine pure_ (i := 16) (N := some 47) (v := ?_) (a' := ?_) #[true, true, true, true, true, false, false, true, true, true, true, false, false, true, true, true, true, false, false, false, false, false, false, false, false, false, false, false, false, false, false, false, false, false, false, false, false] rfl rfl (any_of HT_.out (by kernel_rfl)) (fun _ _ _ h => h) (Or.inl ⟨by rfl, ?_⟩) ?_ ?_
                  rotate_left
                  · intro w'
                    go_simp
                    with_reducible rfl
                  rotate_left
                  · simp only [Act.put, List.setIfInBounds_toArray, List.set_cons_zero, List.set_cons_succ, i64_w, i32_w]
                    rfl
                  refine pure_ (i := 17) (N := some 48) (v := ?_) (a' := ?_) #[true, true, true, true, true, false, false, true, true, true, true, false, false, true, true, true, true, true, false, false, false, false, false, false, false, false, false, false, false, false, false, false, false, false, false, false, false] rfl rfl (any_of HT_.out (by kernel_rfl)) (fun _ _ _ h => h) (Or.inl ⟨by rfl, ?_⟩) ?_ ?_
                  rotate_left
                  · intro w'
                    go_simp
                    with_reducible rfl
                  rotate_left
                  · simp only [Act.put, List.setIfInBounds_toArray, List.set_cons_zero, List.set_cons_succ, i64_w, i32_w]
                    rfl
                  refine pure_ (i := 18) (N := some 49) (v := ?_) (a' := ?_) #[true, true, true, true, true, false, false, true, true, true, true, false, false, true, true, true, true, true, true, false, false, false, false, false, false, false, false, false, false, false, false, false, false, false, false, false, false] rfl rfl (any_of HT_.out (by kernel_rfl)) (fun _ _ _ h => h) (Or.inl ⟨by rfl, ?_⟩) ?_ ?_
                  rotate_left
                  · intro w'
                    go_simp
                    with_reducible rfl
                  rotate_left
                  · simp only [Act.put, List.setIfInBounds_toArray, List.set_cons_zero, List.set_cons_succ, i64_w, i32_w]
                    rfl
                  refine pure_ (i := 22) (N := some 53) (v := ?_) (a' := ?_) #[true, true, true, true, true, false, false, true, true, true, true, false, false, true, true, true, true, true, true, false, false, false, true, false, false, false, false, false, false, false, false, false, false, false, false, false, false] rfl rfl (any_of HT_.out (by kernel_rfl)) (fun _ _ _ h => h) (Or.inl ⟨by rfl, ?_⟩) ?_ ?_
                  rotate_left
                  · intro w'
                    go_simp
                    with_reducible rfl
                  rotate_left
                  · simp only [Act.put, List.setIfInBounds_toArray, List.set_cons_zero, List.set_cons_succ, i64_w, i32_w]
                    rfl
                  refine pure_ (i := 26) (N := some 57) (v := ?_) (a' := ?_) #[true, true, true, true, true, false, false, true, true, true, true, false, false, true, true, true, true, true, true, false, false, false, true, false, false, false, true, false, false, false, false, false, false, false, false, false, false] rfl rfl (any_of HT_.out (by kernel_rfl)) (fun _ _ _ h => h) (Or.inl ⟨by rfl, ?_⟩) ?_ ?_
                  rotate_left
                  · intro w'
                    go_simp
                    with_reducible rfl
                  rotate_left
                  · simp only [Act.put, List.setIfInBounds_toArray, List.set_cons_zero, List.set_cons_succ, i64_w, i32_w]
                    rfl
                  refine pure_ (i := 27) (N := some 58) (v := ?_) (a' := ?_) #[true, true, true, true, true, false, false, true, true, true, true, false, false, true, true, true, true, true, true, false, false, false, true, false, false, false, true, true, false, false, false, false, false, false, false, false, false] rfl rfl (any_of HT_.out (by kernel_rfl)) (fun _ _ _ h => h) (Or.inl ⟨by rfl, ?_⟩) ?_ ?_
                  rotate_left
                  · intro w'
                    go_simp
                    with_reducible rfl
                  rotate_left
                  · simp only [Act.put, List.setIfInBounds_toArray, List.set_cons_zero, List.set_cons_succ, i64_w, i32_w]
                    rfl
                  refine pure_ (i := 28) (N := some 59) (v := ?_) (a' := ?_) #[true, true, true, true, true, false, false, true, true, true, true, false, false, true, true, true, true, true, true, false, false, false, true, false, false, false, true, true, true, false, false, false, false, false, false, false, false] rfl rfl (any_of HT_.out (by kernel_rfl)) (fun _ _ _ h => h) (Or.inl ⟨by rfl, ?_⟩) ?_ ?_
                  rotate_left
                  · intro w'
                    go_simp
                    with_reducible rfl
                  rotate_left
                  · simp only [Act.put, List.setIfInBounds_toArray, List.set_cons_zero, List.set_cons_succ, i64_w, i32_w]
                    rfl
                  refine pure_ (i := 29) (N := some 60) (v := ?_) (a' := ?_) #[true, true, true, true, true, false, false, true, true, true, true, false, false, true, true, true, true, true, true, false, false, false, true, false, false, false, true, true, true, true, false, false, false, false, false, false, false] rfl rfl (any_of HT_.out (by kernel_rfl)) (fun _ _ _ h => h) (Or.inl ⟨by rfl, ?_⟩) ?_ ?_
                  rotate_left
                  · intro w'
                    go_simp
                    with_reducible rfl
                  rotate_left
                  · simp only [Act.put, List.setIfInBounds_toArray, List.set_cons_zero, List.set_cons_succ, i64_w, i32_w]
                    rfl
                  refine pure_ (i := 30) (N := some 61) (v := ?_) (a' := ?_) #[true, true, true, true, true, false, false, true, true, true, true, false, false, true, true, true, true, true, true, false, false, false, true, false, false, false, true, true, true, true, true, false, false, false, false, false, false] rfl rfl (any_of HT_.out (by kernel_rfl)) (fun _ _ _ h => h) (Or.inl ⟨by rfl, ?_⟩) ?_ ?_
                  rotate_left
                  · intro w'
                    go_simp
                    with_reducible rfl
                  rotate_left
                  · simp only [Act.put, List.setIfInBounds_toArray, List.set_cons_zero, List.set_cons_succ, i64_w, i32_w]
                    rfl
                  refine pure_ (i := 31) (N := some 62) (v := ?_) (a' := ?_) #[true, true, true, true, true, false, false, true, true, true, true, false, false, true, true, true, true, true, true, false, false, false, true, false, false, false, true, true, true, true, true, true, false, false, false, false, false] rfl rfl (any_of HT_.out (by kernel_rfl)) (fun _ _ _ h => h) (Or.inl ⟨by rfl, ?_⟩) ?_ ?_
                  rotate_left
                  · intro w'
                    go_simp
                    with_reducible rfl
                  rotate_left
                  · simp only [Act.put, List.setIfInBounds_toArray, List.set_cons_zero, List.set_cons_succ, i64_w, i32_w]
                    rfl
                  refine take_ (i := 19) (N := some 50) (v := ?_) (a' := ?_) #[true, true, true, true, true, false, false, true, true, true, true, false, false, true, true, true, true, true, true, true, false, false, true, false, false, false, true, true, true, true, true, true, false, false, false, false, false] rfl rfl (take_ofW HT_.out HW_.out (by kernel_rfl)) (fun _ _ _ h => h) (Or.inl ⟨by rfl, ?_⟩) hHeld ?_ ?_
                  rotate_left
                  · rintro w' ⟨s0, s1⟩
                    go_simp
                    with_reducible rfl
                  rotate_left
                  · simp only [Act.put, List.setIfInBounds_toArray, List.set_cons_zero, List.set_cons_succ, i64_w, i32_w]
                    rfl
                  refine take_ (i := 32) (N := some 63) (v := ?_) (a' := ?_) #[true, true, true, true, true, false, false, true, true, true, true, false, false, true, true, true, true, true, true, true, false, false, true, false, false, false, true, true, true, true, true, true, true, false, false, false, false] rfl rfl (take_ofW HT_.out HW_.out (by kernel_rfl)) (fun _ _ _ h => h) (Or.inl ⟨by rfl, ?_⟩) hHeld ?_ ?_
                  rotate_left
                  · rintro w' ⟨s0, s1⟩
                    go_simp
                    with_reducible rfl
                  rotate_left
                  · simp only [Act.put, List.setIfInBounds_toArray, List.set_cons_zero, List.set_cons_succ, i64_w, i32_w]
                    rfl
                  refine one_ (i := 5) (N := some 36) #[true, true, true, true, true, true, false, true, true, true, true, false, false, true, true, true, true, true, true, true, false, false, true, false, false, false, true, true, true, true, true, true, true, false, false, false, false] rfl rfl (one_of HT_.out (by kernel_rfl)) (by decide) (fun K hK => ?_)
                  refine goes_ Tryd.func73 (by kernel_rfl) rfl #[.slice (some ad245) (l0.take (x5_1 : Int).toNat).length c0, .int .i64 (wrap64 ((wrap64 (3 - (rd l0 x5_1))) - (rd l1 x5_1)))] (by rfl) rfl rfl (by (try simp only [List.map_toArray, List.map_cons, List.map_nil]); first | done | (rw [show (l0.take (x5_1 : Int).toNat).length = x5_1.toNat from (by rw [List.length_take]; have h_ : (x5_1 : Int) ≤ (l0.length : Int) := of_decide_eq_true (by first | (with_reducible assumption) | assumption); omega)] <;> rfl) | rfl | (simp only [List.length_drop, List.length_take]; rfl)) ?_
                  with_reducible refine (hanoi_toPeg.calls k1 _ _ (l0.take (x5_1 : Int).toNat) (wrap64 ((wrap64 (3 - (rd l0 x5_1))) - (rd l1 x5_1))) t250 _ ?side1 ?side2 A11.out).mono ?_
                  (case side1 => repeat (first | exact (Kd.C_below HR249.out HB.out) | (with_reducible refine Kd.C_alloc ?_ _) | (with_reducible refine Kd.C_drewN ?_ _) | (with_reducible refine Kd.C_drew ?_)))
                  (case side2 => exact HC249.out)
                  rintro e w' ⟨rfl, ⟨nd, rfl⟩⟩
                  refine ⟨_, rfl, ?_⟩
                  refine hK.out _ _ ⟨((HB.out.cell (World.block_lt_of_cell? w _ hw254_0)).trans hw254_0), ((HB.out.cell (World.block_lt_of_cell? w _ hw258_0)).trans hw258_0)⟩ (fun hHeld => ?_)
                  clear hK K
                  refine norm_ (a' := ?_) ?_ ?_
                  rotate_left
                  · show Act.put _ (some 36) _ = _
                    simp only [Act.put, List.setIfInBounds_toArray, List.set_cons_zero, List.set_cons_succ, i64_w, i32_w]
                    rfl
                  refine pure_ (i := 6) (N := some 37) (v := ?_) (a' := ?_) #[true, true, true, true, true, true, true, true, true, true, true, false, false, true, true, true, true, true, true, true, false, false, true, false, false, false, true, true, true, true, true, true, true, false, false, false, false] rfl rfl (any_of HT_.out (by kernel_rfl)) (fun _ _ _ h => h) (Or.inl ⟨by rfl, ?_⟩) ?_ ?_
                  rotate_left
                  · intro w'
                    go_simp
                    with_reducible rfl
                  rotate_left
                  · simp only [Act.put, List.setIfInBounds_toArray, List.set_cons_zero, List.set_cons_succ, i64_w, i32_w]
                    rfl
                  refine one_ (i := 11) (N := some 42) #[true, true, true, true, true, true, true, true, true, true, true, true, false, true, true, true, true, true, true, true, false, false, true, false, false, false, true, true, true, true, true, true, true, false, false, false, false] rfl rfl (one_of HT_.out (by kernel_rfl)) (by decide) (fun K hK => ?_)
                  refine goes_ Tryd.func73 (by kernel_rfl) rfl #[.slice (some ad246) (l1.take (x5_1 : Int).toNat).length c1, .int .i64 (wrap64 ((wrap64 (3 - (rd l0 x5_1))) - (rd l1 x5_1)))] (by rfl) rfl rfl (by (try simp only [List.map_toArray, List.map_cons, List.map_nil]); first | done | (rw [show (l1.take (x5_1 : Int).toNat).length = x5_1.toNat from (by rw [List.length_take]; have h_ : (x5_1 : Int) ≤ (l1.length : Int) := of_decide_eq_true (by first | (with_reducible assumption) | assumption); omega)] <;> rfl) | rfl | (simp only [List.length_drop, List.length_take]; rfl)) ?_
                  with_reducible refine (hanoi_toPeg.calls k1 _ _ (l1.take (x5_1 : Int).toNat) (wrap64 ((wrap64 (3 - (rd l0 x5_1))) - (rd l1 x5_1))) t252 _ ?side1 ?side2 A14.out).mono ?_
                  (case side1 => repeat (first | exact (Kd.C_below HR251.out (by repeat (first | (with_reducible first | exact HB.out | apply below_alloc | apply pw_below_drewN | apply below_drew1 | refine below_set ?_ GE244.out) | exact HB.out))) | (with_reducible refine Kd.C_alloc ?_ _) | (with_reducible refine Kd.C_drewN ?_ _) | (with_reducible refine Kd.C_drew ?_)))
                  (case side2 => exact HC251.out)
                  rintro e w' ⟨rfl, ⟨nd, rfl⟩⟩
                  refine ⟨_, rfl, ?_⟩
                  refine hK.out _ _ ⟨((HB.out.cell (World.block_lt_of_cell? w _ hw254_0)).trans hw254_0), ((HB.out.cell (World.block_lt_of_cell? w _ hw258_0)).trans hw258_0)⟩ (fun hHeld => ?_)
                  clear hK K
                  refine norm_ (a' := ?_) ?_ ?_
                  rotate_left
                  · show Act.put _ (some 42) _ = _
                    simp only [Act.put, List.setIfInBounds_toArray, List.set_cons_zero, List.set_cons_succ, i64_w, i32_w]
                    rfl
                  refine pure_ (i := 12) (N := some 43) (v := ?_) (a' := ?_) #[true, true, true, true, true, true, true, true, true, true, true, true, true, true, true, true, true, true, true, true, false, false, true, false, false, false, true, true, true, true, true, true, true, false, false, false, false] rfl rfl (any_of HT_.out (by kernel_rfl)) (fun _ _ _ h => h) (Or.inl ⟨by rfl, ?_⟩) ?_ ?_
                  rotate_left
                  · intro w'
                    go_simp
                    with_reducible rfl
                  rotate_left
                  · simp only [Act.put, List.setIfInBounds_toArray, List.set_cons_zero, List.set_cons_succ, i64_w, i32_w]
                    rfl
                  refine one_ (i := 20) (N := some 51) #[true, true, true, true, true, true, true, true, true, true, true, true, true, true, true, true, true, true, true, true, true, false, true, false, false, false, true, true, true, true, true, true, true, false, false, false, false] rfl rfl (one_of HT_.out (by kernel_rfl)) (by decide) (fun K hK => ?_)
                  refine goes_ Tryd.func73 (by kernel_rfl) rfl #[.slice (some ad245) (l0.take (x5_1 : Int).toNat).length c0, .int .i64 (rd l1 x5_1)] (by rfl) rfl rfl (by (try simp only [List.map_toArray, List.map_cons, List.map_nil]); first | done | (rw [show (l0.take (x5_1 : Int).toNat).length = x5_1.toNat from (by rw [List.length_take]; have h_ : (x5_1 : Int) ≤ (l0.length : Int) := of_decide_eq_true (by first | (with_reducible assumption) | assumption); omega)] <;> rfl) | rfl | (simp only [List.length_drop, List.length_take]; rfl)) ?_
                  with_reducible refine (hanoi_toPeg.calls k1 _ _ (l0.take (x5_1 : Int).toNat) (rd l1 x5_1) t255 _ ?side1 ?side2 A17.out).mono ?_
                  (case side1 => repeat (first | exact (Kd.C_below HR253.out (by repeat (first | (with_reducible first | exact HB.out | apply below_alloc | apply pw_below_drewN | apply below_drew1 | refine below_set ?_ GE244.out) | exact HB.out))) | (with_reducible refine Kd.C_alloc ?_ _) | (with_reducible refine Kd.C_drewN ?_ _) | (with_reducible refine Kd.C_drew ?_)))
                  (case side2 => exact HC253.out)
                  rintro e w' ⟨rfl, ⟨nd, rfl⟩⟩
                  refine ⟨_, rfl, ?_⟩
                  refine hK.out _ _ ⟨((HB.out.cell (World.block_lt_of_cell? w _ hw254_0)).trans hw254_0), ((HB.out.cell (World.block_lt_of_cell? w _ hw258_0)).trans hw258_0)⟩ (fun hHeld => ?_)
                  clear hK K
                  refine norm_ (a' := ?_) ?_ ?_
                  rotate_left
                  · show Act.put _ (some 51) _ = _
                    simp only [Act.put, List.setIfInBounds_toArray, List.set_cons_zero, List.set_cons_succ, i64_w, i32_w]
                    rfl
                  refine pure_ (i := 21) (N := some 52) (v := ?_) (a' := ?_) #[true, true, true, true, true, true, true, true, true, true, true, true, true, true, true, true, true, true, true, true, true, true, true, false, false, false, true, true, true, true, true, true, true, false, false, false, false] rfl rfl (any_of HT_.out (by kernel_rfl)) (fun _ _ _ h => h) (Or.inl ⟨by rfl, ?_⟩) ?_ ?_
                  rotate_left
                  · intro w'
                    go_simp
                    with_reducible rfl
                  rotate_left
                  · simp only [Act.put, List.setIfInBounds_toArray, List.set_cons_zero, List.set_cons_succ, i64_w, i32_w]
                    rfl
                  refine one_ (i := 23) (N := some 54) #[true, true, true, true, true, true, true, true, true, true, true, true, true, true, true, true, true, true, true, true, true, true, true, true, false, false, true, true, true, true, true, true, true, false, false, false, false] rfl rfl (one_of HT_.out (by kernel_rfl)) (by decide) (fun K hK => ?_)
                  refine goes_ Tryd.func90 (by kernel_rfl) rfl #[.int .i64 x5_1] (by rfl) rfl rfl (by (try simp only [List.map_toArray, List.map_cons, List.map_nil]); first | done | rfl | (simp only [List.length_drop, List.length_take]; rfl)) ?_
                  with_reducible refine (hanoi_all.calls x5_1 t256 _ A18.out).mono ?_
                  rintro e w' ⟨rfl, ⟨nd, rfl⟩⟩
                  refine ⟨_, rfl, ?_⟩
                  refine hK.out _ _ ⟨((HB.out.cell (World.block_lt_of_cell? w _ hw254_0)).trans hw254_0), ((HB.out.cell (World.block_lt_of_cell? w _ hw258_0)).trans hw258_0)⟩ (fun hHeld => ?_)
                  clear hK K
                  refine norm_ (a' := ?_) ?_ ?_
                  rotate_left
                  · show Act.put _ (some 54) _ = _
                    simp only [Act.put, List.setIfInBounds_toArray, List.set_cons_zero, List.set_cons_succ, i64_w, i32_w]
                    rfl
                  refine pure_ (i := 24) (N := some 55) (v := ?_) (a' := ?_) #[true, true, true, true, true, true, true, true, true, true, true, true, true, true, true, true, true, true, true, true, true, true, true, true, true, false, true, true, true, true, true, true, true, false, false, false, false] rfl rfl (any_of HT_.out (by kernel_rfl)) (fun _ _ _ h => h) (Or.inl ⟨by rfl, ?_⟩) ?_ ?_
                  rotate_left
                  · intro w'
                    go_simp
                    with_reducible rfl
                  rotate_left
                  · simp only [Act.put, List.setIfInBounds_toArray, List.set_cons_zero, List.set_cons_succ, i64_w, i32_w]
                    rfl
                  refine pure_ (i := 25) (N := some 56) (v := ?_) (a' := ?_) #[true, true, true, true, true, true, true, true, true, true, true, true, true, true, true, true, true, true, true, true, true, true, true, true, true, true, true, true, true, true, true, true, true, false, false, false, false] rfl rfl (any_of HT_.out (by kernel_rfl)) (fun _ _ _ h => h) (Or.inl ⟨by rfl, ?_⟩) ?_ ?_
                  rotate_left
                  · intro w'
                    go_simp
                    with_reducible rfl
                  rotate_left
                  · simp only [Act.put, List.setIfInBounds_toArray, List.set_cons_zero, List.set_cons_succ, i64_w, i32_w]
                    rfl
                  refine one_ (i := 33) (N := some 64) #[true, true, true, true, true, true, true, true, true, true, true, true, true, true, true, true, true, true, true, true, true, true, true, true, true, true, true, true, true, true, true, true, true, true, false, false, false] rfl rfl (one_of HT_.out (by kernel_rfl)) (by decide) (fun K hK => ?_)
                  refine goes_ Tryd.func73 (by kernel_rfl) rfl #[.slice (some ad246) (l1.take (x5_1 : Int).toNat).length c1, .int .i64 (rd l0 x5_1)] (by rfl) rfl rfl (by (try simp only [List.map_toArray, List.map_cons, List.map_nil]); first | done | (rw [show (l1.take (x5_1 : Int).toNat).length = x5_1.toNat from (by rw [List.length_take]; have h_ : (x5_1 : Int) ≤ (l1.length : Int) := of_decide_eq_true (by first | (with_reducible assumption) | assumption); omega)] <;> rfl) | rfl | (simp only [List.length_drop, List.length_take]; rfl)) ?_
                  with_reducible refine (hanoi_toPeg.calls k1 _ _ (l1.take (x5_1 : Int).toNat) (rd l0 x5_1) t259 _ ?side1 ?side2 A21.out).mono ?_
                  (case side1 => repeat (first | exact (Kd.C_below HR257.out (by repeat (first | (with_reducible first | exact HB.out | apply below_alloc | apply pw_below_drewN | apply below_drew1 | refine below_set ?_ GE244.out) | exact HB.out))) | (with_reducible refine Kd.C_alloc ?_ _) | (with_reducible refine Kd.C_drewN ?_ _) | (with_reducible refine Kd.C_drew ?_)))
                  (case side2 => exact HC257.out)
                  rintro e w' ⟨rfl, ⟨nd, rfl⟩⟩
                  refine ⟨_, rfl, ?_⟩
                  refine hK.out _ _ ⟨((HB.out.cell (World.block_lt_of_cell? w _ hw254_0)).trans hw254_0), ((HB.out.cell (World.block_lt_of_cell? w _ hw258_0)).trans hw258_0)⟩ (fun hHeld => ?_)
                  clear hK K
                  refine norm_ (a' := ?_) ?_ ?_
                  rotate_left
                  · show Act.put _ (some 64) _ = _
                    simp only [Act.put, List.setIfInBounds_toArray, List.set_cons_zero, List.set_cons_succ, i64_w, i32_w]
                    rfl
                  refine pure_ (i := 34) (N := some 65) (v := ?_) (a' := ?_) #[true, true, true, true, true, true, true, true, true, true, true, true, true, true, true, true, true, true, true, true, true, true, true, true, true, true, true, true, true, true, true, true, true, true, true, false, false] rfl rfl (any_of HT_.out (by kernel_rfl)) (fun _ _ _ h => h) (Or.inl ⟨by rfl, ?_⟩) ?_ ?_
                  rotate_left
                  · intro w'
                    go_simp
                    with_reducible rfl
                  rotate_left
                  · simp only [Act.put, List.setIfInBounds_toArray, List.set_cons_zero, List.set_cons_succ, i64_w, i32_w]
                    rfl
                  refine pure_ (i := 35) (N := some 66) (v := ?_) (a' := ?_) #[true, true, true, true, true, true, true, true, true, true, true, true, true, true, true, true, true, true, true, true, true, true, true, true, true, true, true, true, true, true, true, true, true, true, true, true, false] rfl rfl (any_of HT_.out (by kernel_rfl)) (fun _ _ _ h => h) (Or.inl ⟨by rfl, ?_⟩) ?_ ?_
                  rotate_left
                  · intro w'
                    go_simp
                    with_reducible rfl
                  rotate_left
                  · simp only [Act.put, List.setIfInBounds_toArray, List.set_cons_zero, List.set_cons_succ, i64_w, i32_w]
                    rfl
                  refine one_ (i := 36) (N := none) #[true, true, true, true, true, true, true, true, true, true, true, true, true, true, true, true, true, true, true, true, true, true, true, true, true, true, true, true, true, true, true, true, true, true, true, true, true] rfl rfl (one_of HT_.out (by kernel_rfl)) (by decide) (fun K hK => ?_)
                  have hs29 : w24.cell? ⟨gb244, 0, none⟩ = some (.int .i64 0) := (blk_cell BK244.out 0).trans rfl
                  have hfs29 := blk_frozen BK244.out 0
                  have hs30 : w24.cell? ⟨gb244, 1, none⟩ = some (.int .i64 0) := (blk_cell BK244.out 1).trans rfl
                  have hfs30 := blk_frozen BK244.out 1
                  have hs31 : w24.cell? ⟨gb244, 2, none⟩ = some (.int .i64 0) := (blk_cell BK244.out 2).trans rfl
                  have hfs31 := blk_frozen BK244.out 2
                  refine skip_ (w1 := ?_) (by rfl) rfl ?_ ?_
                  rotate_left
                  · go_simp
                    rfl
                  refine hK.out _ _ ⟨((cell_far (p := ⟨gb244, _, none⟩) (by first | exact Nat.ne_of_lt (Nat.lt_of_lt_of_le (by have := World.block_lt_of_cell? _ _ hw254_0; first | rwa [add_block] at this | exact this) GW244.out) | (rw [add_block]; exact Nat.ne_of_lt (Nat.lt_of_lt_of_le (by have := World.block_lt_of_cell? _ _ hw254_0; first | rwa [add_block] at this | exact this) GW244.out)) | (show (Addr.add _ _).block ≠ _; rw [add_block]; exact Nat.ne_of_lt (Nat.lt_of_lt_of_le (by have := World.block_lt_of_cell? _ _ hw254_0; first | rwa [add_block] at this | exact this) GW244.out)) | (dsimp only; exact Nat.ne_of_lt (Nat.lt_of_lt_of_le (by have := World.block_lt_of_cell? _ _ hw254_0; first | rwa [add_block] at this | exact this) GW244.out))) _).trans (((cell_far (p := ⟨gb244, _, none⟩) (by first | exact Nat.ne_of_lt (Nat.lt_of_lt_of_le (by have := World.block_lt_of_cell? _ _ hw254_0; first | rwa [add_block] at this | exact this) GW244.out) | (rw [add_block]; exact Nat.ne_of_lt (Nat.lt_of_lt_of_le (by have := World.block_lt_of_cell? _ _ hw254_0; first | rwa [add_block] at this | exact this) GW244.out)) | (show (Addr.add _ _).block ≠ _; rw [add_block]; exact Nat.ne_of_lt (Nat.lt_of_lt_of_le (by have := World.block_lt_of_cell? _ _ hw254_0; first | rwa [add_block] at this | exact this) GW244.out)) | (dsimp only; exact Nat.ne_of_lt (Nat.lt_of_lt_of_le (by have := World.block_lt_of_cell? _ _ hw254_0; first | rwa [add_block] at this | exact this) GW244.out))) _).trans (((cell_far (p := ⟨gb244, _, none⟩) (by first | exact Nat.ne_of_lt (Nat.lt_of_lt_of_le (by have := World.block_lt_of_cell? _ _ hw254_0; first | rwa [add_block] at this | exact this) GW244.out) | (rw [add_block]; exact Nat.ne_of_lt (Nat.lt_of_lt_of_le (by have := World.block_lt_of_cell? _ _ hw254_0; first | rwa [add_block] at this | exact this) GW244.out)) | (show (Addr.add _ _).block ≠ _; rw [add_block]; exact Nat.ne_of_lt (Nat.lt_of_lt_of_le (by have := World.block_lt_of_cell? _ _ hw254_0; first | rwa [add_block] at this | exact this) GW244.out)) | (dsimp only; exact Nat.ne_of_lt (Nat.lt_of_lt_of_le (by have := World.block_lt_of_cell? _ _ hw254_0; first | rwa [add_block] at this | exact this) GW244.out))) _).trans (hHeld.1)))))), ((cell_far (p := ⟨gb244, _, none⟩) (by first | exact Nat.ne_of_lt (Nat.lt_of_lt_of_le (by have := World.block_lt_of_cell? _ _ hw258_0; first | rwa [add_block] at this | exact this) GW244.out) | (rw [add_block]; exact Nat.ne_of_lt (Nat.lt_of_lt_of_le (by have := World.block_lt_of_cell? _ _ hw258_0; first | rwa [add_block] at this | exact this) GW244.out)) | (show (Addr.add _ _).block ≠ _; rw [add_block]; exact Nat.ne_of_lt (Nat.lt_of_lt_of_le (by have := World.block_lt_of_cell? _ _ hw258_0; first | rwa [add_block] at this | exact this) GW244.out)) | (dsimp only; exact Nat.ne_of_lt (Nat.lt_of_lt_of_le (by have := World.block_lt_of_cell? _ _ hw258_0; first | rwa [add_block] at this | exact this) GW244.out))) _).trans (((cell_far (p := ⟨gb244, _, none⟩) (by first | exact Nat.ne_of_lt (Nat.lt_of_lt_of_le (by have := World.block_lt_of_cell? _ _ hw258_0; first | rwa [add_block] at this | exact this) GW244.out) | (rw [add_block]; exact Nat.ne_of_lt (Nat.lt_of_lt_of_le (by have := World.block_lt_of_cell? _ _ hw258_0; first | rwa [add_block] at this | exact this) GW244.out)) | (show (Addr.add _ _).block ≠ _; rw [add_block]; exact Nat.ne_of_lt (Nat.lt_of_lt_of_le (by have := World.block_lt_of_cell? _ _ hw258_0; first | rwa [add_block] at this | exact this) GW244.out)) | (dsimp only; exact Nat.ne_of_lt (Nat.lt_of_lt_of_le (by have := World.block_lt_of_cell? _ _ hw258_0; first | rwa [add_block] at this | exact this) GW244.out))) _).trans (((cell_far (p := ⟨gb244, _, none⟩) (by first | exact Nat.ne_of_lt (Nat.lt_of_lt_of_le (by have := World.block_lt_of_cell? _ _ hw258_0; first | rwa [add_block] at this | exact this) GW244.out) | (rw [add_block]; exact Nat.ne_of_lt (Nat.lt_of_lt_of_le (by have := World.block_lt_of_cell? _ _ hw258_0; first | rwa [add_block] at this | exact this) GW244.out)) | (show (Addr.add _ _).block ≠ _; rw [add_block]; exact Nat.ne_of_lt (Nat.lt_of_lt_of_le (by have := World.block_lt_of_cell? _ _ hw258_0; first | rwa [add_block] at this | exact this) GW244.out)) | (dsimp only; exact Nat.ne_of_lt (Nat.lt_of_lt_of_le (by have := World.block_lt_of_cell? _ _ hw258_0; first | rwa [add_block] at this | exact this) GW244.out))) _).trans (hHeld.2))))))⟩ (fun hHeld => ?_)
                  clear hK K
                  refine done_ (done_of HT_.out (by kernel_rfl)) ?_
                  try go_wp2
                  refine bodyPost_ret (results_cell_row rfl _ _ gb244 117 #[.int .i64 x5_1, .int .i64 (wrap64 ((wrap64 (t250 + 1)) + t252)), .int .i64 (wrap64 ((wrap64 ((wrap64 ((wrap64 (t255 + 1)) + t256)) + 1)) + t259))] (0, 0) _ rfl (by (with_reducible repeat (first | refine blk_drewN ?_ _ | refine blk_drew ?_ | refine blk_alloc ?_ _)); refine blk_put (cs := #[.int .i64 x5_1, .int .i64 (wrap64 ((wrap64 (t250 + 1)) + t252)), .int .i64 0]) ?_ 2 _ rfl; (with_reducible repeat (first | refine blk_drewN ?_ _ | refine blk_drew ?_ | refine blk_alloc ?_ _)); refine blk_put (cs := #[.int .i64 x5_1, .int .i64 0, .int .i64 0]) ?_ 1 _ rfl; (with_reducible repeat (first | refine blk_drewN ?_ _ | refine blk_drew ?_ | refine blk_alloc ?_ _)); refine blk_put (cs := #[.int .i64 0, .int .i64 0, .int .i64 0]) ?_ 0 _ rfl; (with_reducible repeat (first | refine blk_drewN ?_ _ | refine blk_drew ?_ | refine blk_alloc ?_ _)); exact BK244.out) Tryd.underlying117 rfl (by kernel_rfl)) rfl ?_
                  exact ⟨by first | rfl | (simp [errW_none, errW_some] <;> rfl) | (simp [*, errW_none, errW_some] <;> rfl), by repeat (first | (with_reducible first | exact HB.out | apply below_alloc | apply pw_below_drewN | apply below_drew1 | refine below_set ?_ GE244.out) | exact HB.out)⟩
                · rw [if_neg c13] at H
                  exact absurd H (by simp)
              · rw [if_neg c10] at H
                exact absurd H (by simp)
          · rw [if_neg c6] at H
            exact absurd H (by simp)
        · rw [if_neg c5] at H
          exact absurd H (by simp)
      · rw [if_neg c4] at H
        exact absurd H (by simp)

end Go.Proofs.YtnaaomhmoamfpaaDoor.Q
namespace Go.Proofs.YtnaaomhmoamfpaaDoor.G
end Go.Proofs.YtnaaomhmoamfpaaDoor.G
namespace Go.Proofs.YtnaaomhmoamfpaaDoor.Q
set_option linter.unusedVariables false
set_option linter.unusedSimpArgs false
set_option linter.unusedSectionVars false
open Go.Proofs.YtnaaomhmoamfpaaDoor.G
open Go.RowKit Go.Proofs.YtnaaomhmoamfpaaDoorW.PrintWords Go.Proofs.YtnaaomhmoamfpaaDoorW.PrintLast Go.Proofs.YtnaaomhmoamfpaaDoorW.PrintMore
attribute [local go_sem] max2_int min2_int max_two min_two max_three min_three max_four min_four   -- for this text's walks alone

/-! ### hanoi_Distance: function 44 -/
def hanoi_Distance.f (k : Nat) (l0 : List Int) (l1 : List Int) : Option (Int × Int) := (hanoi_open.f k (([l0, l1] : List (List Int)))).bind fun t263 => (if t263 = 0 then ((slices_Equal_int_int.f k l0 l1).bind fun t264 => (if t264 = true then (some (0, 0)) else ((hanoi_planned.f k l0 l1).bind fun bt265 => (some (mn bt265.2.1 bt265.2.2, 0))))) else (some (0, t263)))
theorem hanoi_Distance.mono : ∀ a0 a1 k, LeO (hanoi_Distance.f k a0 a1) (hanoi_Distance.f (k + 1) a0 a1) := by
  intro a0 a1 k
  unfold hanoi_Distance.f
  repeat' first
      | (with_reducible exact hanoi_open.mono _ _)
      | (with_reducible exact hanoi_planned.mono _ _ _)
      | (with_reducible exact slices_Equal_int_int.mono _ _ _)
      | (with_reducible exact LeO.refl _)
      | (with_reducible exact LeO.none _)
      | (with_reducible refine LeO.ite ?_ ?_)
      | (with_reducible refine LeO.bind ?_ (fun _ => ?_))
      | exact hanoi_open.mono _ _
      | exact hanoi_planned.mono _ _ _
      | exact slices_Equal_int_int.mono _ _ _
      | exact LeO.none _
      | refine LeO.ite ?_ ?_
      | refine LeO.bind ?_ (fun _ => ?_)
set_option maxHeartbeats 8000000 in
set_option maxRecDepth 100000 in
theorem hanoi_Distance.calls (k : Nat) (P0_ : Nat → Prop) (A0 : Option Addr) (c0 : Nat) (l0 : List Int) (P1_ : Nat → Prop) (A1 : Option Addr) (c1 : Nat) (l1 : List Int) (r1 : Int) (r2 : Int) (w : World) (hs0 : Kd.V (Kd.int .i64) 3 w w.heap.size (fun k_ => P0_ k_) (.slice A0 l0.length c0) l0) (hs1 : Kd.V (Kd.int .i64) 3 w w.heap.size (fun k_ => P1_ k_) (.slice A1 l1.length c1) l1) (h : hanoi_Distance.f k l0 l1 = some (r1, r2)) :
    Calls Tryd.prog 44 #[.slice A0 l0.length c0, .slice A1 l1.length c1] w fun e w' => e = .returned (.tuple #[.int .i64 r1, .int .i64 r2]) ∧ Below w.heap.size w w' := by
  have hu117 := Tryd.underlying117
  have HO0 := Aside0.mk (show Kd.V (Kd.int .i64) 3 w w.heap.size (fun k_ => ((P0_ k_ ∨ P1_ k_) ∨ w.heap.size ≤ k_)) (.slice A0 l0.length c0) l0 from Kd.V_mono hs0 (fun k_ hk => .inl (.inl hk)))
  have HO1 := Aside0.mk (show Kd.V (Kd.int .i64) 3 w w.heap.size (fun k_ => ((P0_ k_ ∨ P1_ k_) ∨ w.heap.size ≤ k_)) (.slice A1 l1.length c1) l1 from Kd.V_mono hs1 (fun k_ hk => .inl (.inr hk)))
  have HB := Aside0.mk (Below.refl w.heap.size w)
  have H : ((hanoi_open.f k (([l0, l1] : List (List Int)))).bind fun t263 => (if t263 = 0 then ((slices_Equal_int_int.f k l0 l1).bind fun t264 => (if t264 = true then (some (0, 0)) else ((hanoi_planned.f k l0 l1).bind fun bt265 => (some (mn bt265.2.1 bt265.2.2, 0))))) else (some (0, t263)))) = some (r1, r2) := h
  clear h
  obtain ⟨y260, hy260⟩ : ∃ y_ : List (List Int), y_ = (([l0, l1] : List (List Int))) := ⟨_, rfl⟩
  replace H : ((hanoi_open.f k y260).bind fun t263 => (if t263 = 0 then ((slices_Equal_int_int.f k l0 l1).bind fun t264 => (if t264 = true then (some (0, 0)) else ((hanoi_planned.f k l0 l1).bind fun bt265 => (some (mn bt265.2.1 bt265.2.2, 0))))) else (some (0, t263)))) = some (r1, r2) := by first | (rw [hy260]; with_reducible exact H) | (have H2_ := (Option.bind_some _ _).symm.trans H; rw [hy260]; with_reducible exact H2_) | (have H2_ := (Option.bind_some _ _).symm.trans H; with_reducible exact H2_) | with_reducible exact H | (rw [hy260]; exact H) | exact H
  have Ny260 := Aside0.mk hy260
  clear hy260
  replace H := Option.bind_eq_some_iff.mp H
  obtain ⟨t263, A30, H⟩ := H
  replace H : (if t263 = 0 then ((slices_Equal_int_int.f k l0 l1).bind fun t264 => (if t264 = true then (some (0, 0)) else ((hanoi_planned.f k l0 l1).bind fun bt265 => (some (mn bt265.2.1 bt265.2.2, 0))))) else (some (0, t263))) = some (r1, r2) := H
  have A3 := Aside0.mk A30
  clear A30
  by_cases c4 : t263 = 0
  · rw [if_pos c4] at H
    have c4b0 : (t263 == 0) = true := beq_iff_eq.mpr c4
    have c4b1 : (t263 != 0) = false := bne_eq_false_iff_eq.mpr c4
    clear c4
    replace H := Option.bind_eq_some_iff.mp H
    obtain ⟨t264, A50, H⟩ := H
    replace H : (if t264 = true then (some (0, 0)) else ((hanoi_planned.f k l0 l1).bind fun bt265 => (some (mn bt265.2.1 bt265.2.2, 0)))) = some (r1, r2) := H
    have A5 := Aside0.mk A50
    clear A50
    by_cases c6 : t264 = true
    · subst c6
      have H1 : (some (0, 0)) = some (r1, r2) := by rw [if_pos rfl] at H; exact H
      clear H
      have H := H1
      clear H1
      simp only [Option.some.injEq, Prod.mk.injEq] at H
      obtain ⟨rfl, rfl⟩ := H
      go_enter Tryd.func44, Tryd.ntmps44
      go_wp2_with (first | ((with_reducible refine gate_dst (N := 10) rfl ?_); refine Kd.N_lit (Kd.slice 3 (Kd.int .i64)) _ 46 ?hg (N' := 10) ?hd (xs := ([l0, l1] : List (List Int))) (inner := [.slice A0 l0.length c0, .slice A1 l1.length c1]) (ok := (fun k_ => ((P0_ k_ ∨ P1_ k_) ∨ w.heap.size ≤ k_))) (okp := (fun k_ => ((P0_ k_ ∨ P1_ k_) ∨ w.heap.size ≤ k_))) ?hr ?hp (fun _ hk => hk) ((show ∀ k_, w.heap.size ≤ k_ → (fun k_ => ((P0_ k_ ∨ P1_ k_) ∨ w.heap.size ≤ k_)) k_ from fun k_ hk => (.inr (Nat.le_trans (below_size (by repeat (first | (with_reducible first | exact HB.out | apply below_alloc | apply pw_below_drewN | apply below_drew1) | exact HB.out))) hk))) _ (Nat.le_refl _)) (Below.refl _ _) (Nat.le_refl _) (by simp) ?_; (case hd => rfl); (case hg => rfl); (case hr => first | (go_simp; done) | (go_simp; rfl)); (case hp => exact (Reps.one (show Kd.FK (Kd.slice 3 (Kd.int .i64)) _ _ l0 [.slice A0 l0.length c0] from (Kd.FK_slice_mk (Kd.V_reads' (Kd.V_mono (ok' := (fun k_ => ((P0_ k_ ∨ P1_ k_) ∨ w.heap.size ≤ k_))) (HO0.out) (fun k_ hk => hk))).2.1 (Kd.V_F (Kd.V_mono (ok' := (fun k_ => ((P0_ k_ ∨ P1_ k_) ∨ w.heap.size ≤ k_))) (HO0.out) (fun k_ hk => hk))))) (Reps.one (show Kd.FK (Kd.slice 3 (Kd.int .i64)) _ _ l1 [.slice A1 l1.length c1] from (Kd.FK_slice_mk (Kd.V_reads' (Kd.V_mono (ok' := (fun k_ => ((P0_ k_ ∨ P1_ k_) ∨ w.heap.size ≤ k_))) (HO1.out) (fun k_ hk => hk))).2.1 (Kd.V_F (Kd.V_mono (ok' := (fun k_ => ((P0_ k_ ∨ P1_ k_) ∨ w.heap.size ≤ k_))) (HO1.out) (fun k_ hk => hk))))) (Reps.none _ _)))); intro v261 w7 ho8 hb hg_ hnew_; clear hg_ hnew_; (first | rw [← Ny260.out] at ho8 | (simp only [Int.reduceToNat] at ho8; rw [← Ny260.out] at ho8)); have n0_ := Aside0.mk (Kd.V_elder' (by (with_reducible repeat (first | apply Kd.V_alloc | apply Kd.V_drewN | apply Kd.V_drew)); exact HO0.out) (Kd.N_base ho8) hb); have n1_ := Aside0.mk (Kd.V_elder' (by (with_reducible repeat (first | apply Kd.V_alloc | apply Kd.V_drewN | apply Kd.V_drew)); exact HO1.out) (Kd.N_base ho8) hb); have n2_ := Aside0.mk (Kd.N_lower ho8 (below_size (by repeat (first | (with_reducible first | exact HB.out | apply below_alloc | apply pw_below_drewN | apply below_drew1) | exact HB.out)))); have n3_ := Aside0.mk (below_step (by repeat (first | (with_reducible first | exact HB.out | apply below_alloc | apply pw_below_drewN | apply below_drew1) | exact HB.out)) hb); clear HO0; clear HO1; clear HB; have HO0 := n0_; have HO1 := n1_; have HO262 := n2_; have HB := n3_; clear n0_ n1_ n2_ n3_; clear hb ho8; obtain ⟨Ao9, co9, eo9⟩ := Kd.N_slice HO262.out; subst eo9) | ((with_reducible refine gate_callee (f := 74) rfl ?_); refine goesL_ (some 11) rfl rfl Tryd.func74 (by kernel_rfl) rfl #[.slice Ao9 y260.length co9] rfl (by (try simp only [List.map_toArray, List.map_cons, List.map_nil]); first | done | rfl | (simp only [List.length_drop, List.length_take]; rfl)) ?_; (with_reducible refine (hanoi_open.calls k _ _ y260 t263 _ ?side1 ?side2 A3.out).mono ?_); (case side1 => repeat (first | exact (Kd.N_reads' HO262.out).2.2 | (with_reducible refine Kd.C_alloc ?_ _) | (with_reducible refine Kd.C_drewN ?_ _) | (with_reducible refine Kd.C_drew ?_))); (case side2 => exact (Kd.N_reads' HO262.out).2.1); rintro e w10 ⟨rfl, hb⟩; refine ⟨_, rfl, ?_⟩; have n0_ := Aside0.mk (Kd.V_below (by (with_reducible repeat (first | apply Kd.V_alloc | apply Kd.V_drewN | apply Kd.V_drew)); exact HO0.out) hb); have n1_ := Aside0.mk (Kd.V_below (by (with_reducible repeat (first | apply Kd.V_alloc | apply Kd.V_drewN | apply Kd.V_drew)); exact HO1.out) hb); have n2_ := Aside0.mk (Kd.N_below (by (with_reducible repeat (first | apply Kd.N_alloc | apply Kd.N_drewN | apply Kd.N_drew)); exact HO262.out) hb); have n3_ := Aside0.mk (below_step (by repeat (first | (with_reducible first | exact HB.out | apply below_alloc | apply pw_below_drewN | apply below_drew1) | exact HB.out)) hb); clear HO0; clear HO1; clear HO262; clear HB; have HO0 := n0_; have HO1 := n1_; have HO262 := n2_; have HB := n3_; clear n0_ n1_ n2_ n3_; (try clear hb); (try clear hb2); (try clear hk); (try clear hi)) | ((with_reducible refine gate_callee (f := 75) rfl ?_); refine goesL_ (some 17) rfl rfl Tryd.func75 (by kernel_rfl) rfl #[.slice A0 l0.length c0, .slice A1 l1.length c1] rfl (by (try simp only [List.map_toArray, List.map_cons, List.map_nil]); first | done | rfl | (simp only [List.length_drop, List.length_take]; rfl)) ?_; (with_reducible refine (slices_Equal_int_int.calls k _ _ l0 _ _ l1 true _ ?side1 ?side2 ?side3 ?side4 A5.out).mono ?_); (case side1 => repeat (first | exact (Kd.V_reads' HO0.out).2.2 | (with_reducible refine Kd.C_alloc ?_ _) | (with_reducible refine Kd.C_drewN ?_ _) | (with_reducible refine Kd.C_drew ?_))); (case side2 => exact (Kd.V_reads' HO0.out).2.1); (case side3 => repeat (first | exact (Kd.V_reads' HO1.out).2.2 | (with_reducible refine Kd.C_alloc ?_ _) | (with_reducible refine Kd.C_drewN ?_ _) | (with_reducible refine Kd.C_drew ?_))); (case side4 => exact (Kd.V_reads' HO1.out).2.1); rintro e w' ⟨rfl, ⟨nd, rfl⟩⟩; refine ⟨_, rfl, ?_⟩))
      go_ret2
      exact ⟨by first | rfl | (simp [errW_none, errW_some] <;> rfl) | (simp [*, errW_none, errW_some] <;> rfl), by repeat (first | (with_reducible first | exact HB.out | apply below_alloc | apply pw_below_drewN | apply below_drew1) | exact HB.out)⟩
    · replace c6 := Bool.eq_false_iff.mpr c6
      subst c6
      have H1 : ((hanoi_planned.f k l0 l1).bind fun bt265 => (some (mn bt265.2.1 bt265.2.2, 0))) = some (r1, r2) := by rw [if_neg (show ¬ (false = true) by decide)] at H; exact H
      clear H
      have H := H1
      clear H1
      replace H := Option.bind_eq_some_iff.mp H
      obtain ⟨⟨t265, t266, t267⟩, A110, H⟩ := H
      replace H : (some (mn t266 t267, 0)) = some (r1, r2) := H
      have A11 := Aside0.mk A110
      clear A110
      obtain ⟨ji12, hji12⟩ : ∃ j_ : Int, (mn t266 t267) = j_ := ⟨_, rfl⟩
      replace H : (some (ji12, 0)) = some (r1, r2) := by first | (rw [hji12] at H; exact H) | (simp only [hji12] at H ⊢; exact H)
      (try rw [hji12] at A3)
      (try rw [hji12] at A5)
      (try rw [hji12] at A11)
      have hji12_ : (if t267 < t266 then t267 else t266) = ji12 := hji12
      simp only [Option.some.injEq, Prod.mk.injEq] at H
      obtain ⟨rfl, rfl⟩ := H
      go_enter Tryd.func44, Tryd.ntmps44
      go_wp2_with (first | ((with_reducible refine gate_dst (N := 10) rfl ?_); refine Kd.N_lit (Kd.slice 3 (Kd.int .i64)) _ 46 ?hg (N' := 10) ?hd (xs := ([l0, l1] : List (List Int))) (inner := [.slice A0 l0.length c0, .slice A1 l1.length c1]) (ok := (fun k_ => ((P0_ k_ ∨ P1_ k_) ∨ w.heap.size ≤ k_))) (okp := (fun k_ => ((P0_ k_ ∨ P1_ k_) ∨ w.heap.size ≤ k_))) ?hr ?hp (fun _ hk => hk) ((show ∀ k_, w.heap.size ≤ k_ → (fun k_ => ((P0_ k_ ∨ P1_ k_) ∨ w.heap.size ≤ k_)) k_ from fun k_ hk => (.inr (Nat.le_trans (below_size (by repeat (first | (with_reducible first | exact HB.out | apply below_alloc | apply pw_below_drewN | apply below_drew1) | exact HB.out))) hk))) _ (Nat.le_refl _)) (Below.refl _ _) (Nat.le_refl _) (by simp) ?_; (case hd => rfl); (case hg => rfl); (case hr => first | (go_simp; done) | (go_simp; rfl)); (case hp => exact (Reps.one (show Kd.FK (Kd.slice 3 (Kd.int .i64)) _ _ l0 [.slice A0 l0.length c0] from (Kd.FK_slice_mk (Kd.V_reads' (Kd.V_mono (ok' := (fun k_ => ((P0_ k_ ∨ P1_ k_) ∨ w.heap.size ≤ k_))) (HO0.out) (fun k_ hk => hk))).2.1 (Kd.V_F (Kd.V_mono (ok' := (fun k_ => ((P0_ k_ ∨ P1_ k_) ∨ w.heap.size ≤ k_))) (HO0.out) (fun k_ hk => hk))))) (Reps.one (show Kd.FK (Kd.slice 3 (Kd.int .i64)) _ _ l1 [.slice A1 l1.length c1] from (Kd.FK_slice_mk (Kd.V_reads' (Kd.V_mono (ok' := (fun k_ => ((P0_ k_ ∨ P1_ k_) ∨ w.heap.size ≤ k_))) (HO1.out) (fun k_ hk => hk))).2.1 (Kd.V_F (Kd.V_mono (ok' := (fun k_ => ((P0_ k_ ∨ P1_ k_) ∨ w.heap.size ≤ k_))) (HO1.out) (fun k_ hk => hk))))) (Reps.none _ _)))); intro v261 w13 ho14 hb hg_ hnew_; clear hg_ hnew_; (first | rw [← Ny260.out] at ho14 | (simp only [Int.reduceToNat] at ho14; rw [← Ny260.out] at ho14)); have n0_ := Aside0.mk (Kd.V_elder' (by (with_reducible repeat (first | apply Kd.V_alloc | apply Kd.V_drewN | apply Kd.V_drew)); exact HO0.out) (Kd.N_base ho14) hb); have n1_ := Aside0.mk (Kd.V_elder' (by (with_reducible repeat (first | apply Kd.V_alloc | apply Kd.V_drewN | apply Kd.V_drew)); exact HO1.out) (Kd.N_base ho14) hb); have n2_ := Aside0.mk (Kd.N_lower ho14 (below_size (by repeat (first | (with_reducible first | exact HB.out | apply below_alloc | apply pw_below_drewN | apply below_drew1) | exact HB.out)))); have n3_ := Aside0.mk (below_step (by repeat (first | (with_reducible first | exact HB.out | apply below_alloc | apply pw_below_drewN | apply below_drew1) | exact HB.out)) hb); clear HO0; clear HO1; clear HB; have HO0 := n0_; have HO1 := n1_; have HO262 := n2_; have HB := n3_; clear n0_ n1_ n2_ n3_; clear hb ho14; obtain ⟨Ao15, co15, eo15⟩ := Kd.N_slice HO262.out; subst eo15) | ((with_reducible refine gate_callee (f := 74) rfl ?_); refine goesL_ (some 11) rfl rfl Tryd.func74 (by kernel_rfl) rfl #[.slice Ao15 y260.length co15] rfl (by (try simp only [List.map_toArray, List.map_cons, List.map_nil]); first | done | rfl | (simp only [List.length_drop, List.length_take]; rfl)) ?_; (with_reducible refine (hanoi_open.calls k _ _ y260 t263 _ ?side1 ?side2 A3.out).mono ?_); (case side1 => repeat (first | exact (Kd.N_reads' HO262.out).2.2 | (with_reducible refine Kd.C_alloc ?_ _) | (with_reducible refine Kd.C_drewN ?_ _) | (with_reducible refine Kd.C_drew ?_))); (case side2 => exact (Kd.N_reads' HO262.out).2.1); rintro e w16 ⟨rfl, hb⟩; refine ⟨_, rfl, ?_⟩; have n0_ := Aside0.mk (Kd.V_below (by (with_reducible repeat (first | apply Kd.V_alloc | apply Kd.V_drewN | apply Kd.V_drew)); exact HO0.out) hb); have n1_ := Aside0.mk (Kd.V_below (by (with_reducible repeat (first | apply Kd.V_alloc | apply Kd.V_drewN | apply Kd.V_drew)); exact HO1.out) hb); have n2_ := Aside0.mk (Kd.N_below (by (with_reducible repeat (first | apply Kd.N_alloc | apply Kd.N_drewN | apply Kd.N_drew)); exact HO262.out) hb); have n3_ := Aside0.mk (below_step (by repeat (first | (with_reducible first | exact HB.out | apply below_alloc | apply pw_below_drewN | apply below_drew1) | exact HB.out)) hb); clear HO0; clear HO1; clear HO262; clear HB; have HO0 := n0_; have HO1 := n1_; have HO262 := n2_; have HB := n3_; clear n0_ n1_ n2_ n3_; (try clear hb); (try clear hb2); (try clear hk); (try clear hi)) | ((with_reducible refine gate_callee (f := 75) rfl ?_); refine goesL_ (some 17) rfl rfl Tryd.func75 (by kernel_rfl) rfl #[.slice A0 l0.length c0, .slice A1 l1.length c1] rfl (by (try simp only [List.map_toArray, List.map_cons, List.map_nil]); first | done | rfl | (simp only [List.length_drop, List.length_take]; rfl)) ?_; (with_reducible refine (slices_Equal_int_int.calls k _ _ l0 _ _ l1 false _ ?side1 ?side2 ?side3 ?side4 A5.out).mono ?_); (case side1 => repeat (first | exact (Kd.V_reads' HO0.out).2.2 | (with_reducible refine Kd.C_alloc ?_ _) | (with_reducible refine Kd.C_drewN ?_ _) | (with_reducible refine Kd.C_drew ?_))); (case side2 => exact (Kd.V_reads' HO0.out).2.1); (case side3 => repeat (first | exact (Kd.V_reads' HO1.out).2.2 | (with_reducible refine Kd.C_alloc ?_ _) | (with_reducible refine Kd.C_drewN ?_ _) | (with_reducible refine Kd.C_drew ?_))); (case side4 => exact (Kd.V_reads' HO1.out).2.1); rintro e w' ⟨rfl, ⟨nd, rfl⟩⟩; refine ⟨_, rfl, ?_⟩; (try (rw [drewN_self w16]; generalize hq_ : World.drewN w16 _ = w16; have n0_ : Aside0 (Kd.V (Kd.int .i64) 3 w16 w.heap.size (fun k_ => ((P0_ k_ ∨ P1_ k_) ∨ w.heap.size ≤ k_) ∧ some k_ ≠ (.slice Ao15 y260.length co15 : Value).ownBlock) (.slice A0 l0.length c0) l0) := ⟨by rw [← hq_]; exact (by (with_reducible repeat (first | apply Kd.V_alloc | apply Kd.V_drewN | apply Kd.V_drew)); exact HO0.out)⟩; have n1_ : Aside0 (Kd.V (Kd.int .i64) 3 w16 w.heap.size (fun k_ => ((P0_ k_ ∨ P1_ k_) ∨ w.heap.size ≤ k_) ∧ some k_ ≠ (.slice Ao15 y260.length co15 : Value).ownBlock) (.slice A1 l1.length c1) l1) := ⟨by rw [← hq_]; exact (by (with_reducible repeat (first | apply Kd.V_alloc | apply Kd.V_drewN | apply Kd.V_drew)); exact HO1.out)⟩; have n2_ : Aside0 (Kd.N (Kd.slice 3 (Kd.int .i64)) 46 w16 w.heap.size (fun k_ => ((P0_ k_ ∨ P1_ k_) ∨ w.heap.size ≤ k_)) (.slice Ao15 y260.length co15) y260) := ⟨by rw [← hq_]; exact (by (with_reducible repeat (first | apply Kd.N_alloc | apply Kd.N_drewN | apply Kd.N_drew)); exact HO262.out)⟩; have n3_ : Aside0 (Below w.heap.size w w16) := ⟨by rw [← hq_]; exact (by repeat (first | (with_reducible first | exact HB.out | apply below_alloc | apply pw_below_drewN | apply below_drew1) | exact HB.out))⟩; clear HO0 HO1 HO262 HB hq_; have HO0 := n0_; have HO1 := n1_; have HO262 := n2_; have HB := n3_; clear n0_ n1_ n2_ n3_))) | ((with_reducible refine gate_callee (f := 76) rfl ?_); refine goesL_ (some 20) rfl rfl Tryd.func76 (by kernel_rfl) rfl #[.slice A0 l0.length c0, .slice A1 l1.length c1] rfl (by (try simp only [List.map_toArray, List.map_cons, List.map_nil]); first | done | rfl | (simp only [List.length_drop, List.length_take]; rfl)) ?_; (with_reducible refine (hanoi_planned.calls k _ _ l0 _ _ l1 t265 t266 t267 _ ?side1 ?side2 ?side3 ?side4 A11.out).mono ?_); (case side1 => repeat (first | exact (Kd.V_reads' HO0.out).2.2 | (with_reducible refine Kd.C_alloc ?_ _) | (with_reducible refine Kd.C_drewN ?_ _) | (with_reducible refine Kd.C_drew ?_))); (case side2 => exact (Kd.V_reads' HO0.out).2.1); (case side3 => repeat (first | exact (Kd.V_reads' HO1.out).2.2 | (with_reducible refine Kd.C_alloc ?_ _) | (with_reducible refine Kd.C_drewN ?_ _) | (with_reducible refine Kd.C_drew ?_))); (case side4 => exact (Kd.V_reads' HO1.out).2.1); rintro e w17 ⟨rfl, hb⟩; refine ⟨_, rfl, ?_⟩; have n0_ := Aside0.mk (Kd.V_below (by (with_reducible repeat (first | apply Kd.V_alloc | apply Kd.V_drewN | apply Kd.V_drew)); exact HO0.out) hb); have n1_ := Aside0.mk (Kd.V_below (by (with_reducible repeat (first | apply Kd.V_alloc | apply Kd.V_drewN | apply Kd.V_drew)); exact HO1.out) hb); have n2_ := Aside0.mk (Kd.N_below (by (with_reducible repeat (first | apply Kd.N_alloc | apply Kd.N_drewN | apply Kd.N_drew)); exact HO262.out) hb); have n3_ := Aside0.mk (below_step (by repeat (first | (with_reducible first | exact HB.out | apply below_alloc | apply pw_below_drewN | apply below_drew1) | exact HB.out)) hb); clear HO0; clear HO1; clear HO262; clear HB; have HO0 := n0_; have HO1 := n1_; have HO262 := n2_; have HB := n3_; clear n0_ n1_ n2_ n3_; (try clear hb); (try clear hb2); (try clear hk); (try clear hi)) | ((with_reducible refine gate_dst (N := 7) rfl ?_); refine box_event ?hg (N := 7) ?hd (cs := #[.int .i64 0, .int .i64 0, .int .i64 0]) (t := 117) ?hr ?_; (case hd => rfl); (case hg => rfl); (case hr => first | (go_simp; done) | (go_simp; rfl)); intro gb268 hg w18 hbox hb; have n0_ := Aside0.mk (Kd.V_below (Kd.V_elderB (by (with_reducible repeat (first | apply Kd.V_alloc | apply Kd.V_drewN | apply Kd.V_drew)); exact HO0.out) gb268 (Nat.le_of_eq hg.symm)) hb); have n1_ := Aside0.mk (Kd.V_below (Kd.V_elderB (by (with_reducible repeat (first | apply Kd.V_alloc | apply Kd.V_drewN | apply Kd.V_drew)); exact HO1.out) gb268 (Nat.le_of_eq hg.symm)) hb); have n2_ := Aside0.mk (Kd.N_below (Kd.N_elderB (by (with_reducible repeat (first | apply Kd.N_alloc | apply Kd.N_drewN | apply Kd.N_drew)); exact HO262.out) gb268 (Nat.le_of_eq hg.symm)) hb); have n3_ := Aside0.mk (below_step (by repeat (first | (with_reducible first | exact HB.out | apply below_alloc | apply pw_below_drewN | apply below_drew1) | exact HB.out)) hb); have n4_ := Aside0.mk (hbox); have n5_ := Aside0.mk ((by rw [hg]; exact (below_size (by repeat (first | (with_reducible first | exact HB.out | apply below_alloc | apply pw_below_drewN | apply below_drew1) | exact HB.out))) : w.heap.size ≤ gb268)); have n6_ := Aside0.mk ((by rw [hg]; exact (below_size (by repeat (first | (with_reducible first | exact HB.out | apply below_alloc | apply pw_below_drewN | apply below_drew1) | exact HB.out))) : w.heap.size ≤ gb268)); clear HO0; clear HO1; clear HO262; clear HB; have HO0 := n0_; have HO1 := n1_; have HO262 := n2_; have HB := n3_; have BK268 := n4_; have GW268 := n5_; have GE268 := n6_; clear n0_ n1_ n2_ n3_ n4_ n5_ n6_; clear hb hbox hg; have hcz19_0 : w18.cell? ⟨gb268, 0, none⟩ = some (.int .i64 0) := (blk_cell BK268.out 0).trans rfl; have hcz19_1 : w18.cell? ⟨gb268, 1, none⟩ = some (.int .i64 0) := (blk_cell BK268.out 1).trans rfl; have hcz19_2 : w18.cell? ⟨gb268, 2, none⟩ = some (.int .i64 0) := (blk_cell BK268.out 2).trans rfl; have hfz19_0 := blk_frozen BK268.out 0; have hfz19_1 := blk_frozen BK268.out 1; have hfz19_2 := blk_frozen BK268.out 2))
      go_ret2
      exact ⟨by first | rfl | (simp [errW_none, errW_some] <;> rfl) | (simp only [← hji12]; first | rfl | (simp [errW_none, errW_some] <;> rfl)) | (simp [*, errW_none, errW_some] <;> rfl), by repeat (first | (with_reducible first | exact HB.out | apply below_alloc | apply pw_below_drewN | apply below_drew1 | refine below_set ?_ GE268.out) | exact HB.out)⟩
  · rw [if_neg c4] at H
    have c4b0 : (t263 == 0) = false := beq_eq_false_iff_ne.mpr c4
    have c4b1 : (t263 != 0) = true := bne_iff_ne.mpr c4
    simp only [Option.some.injEq, Prod.mk.injEq] at H
    obtain ⟨rfl, rfl⟩ := H
    go_enter Tryd.func44, Tryd.ntmps44
    go_wp2_with (first | ((with_reducible refine gate_dst (N := 10) rfl ?_); refine Kd.N_lit (Kd.slice 3 (Kd.int .i64)) _ 46 ?hg (N' := 10) ?hd (xs := ([l0, l1] : List (List Int))) (inner := [.slice A0 l0.length c0, .slice A1 l1.length c1]) (ok := (fun k_ => ((P0_ k_ ∨ P1_ k_) ∨ w.heap.size ≤ k_))) (okp := (fun k_ => ((P0_ k_ ∨ P1_ k_) ∨ w.heap.size ≤ k_))) ?hr ?hp (fun _ hk => hk) ((show ∀ k_, w.heap.size ≤ k_ → (fun k_ => ((P0_ k_ ∨ P1_ k_) ∨ w.heap.size ≤ k_)) k_ from fun k_ hk => (.inr (Nat.le_trans (below_size (by repeat (first | (with_reducible first | exact HB.out | apply below_alloc | apply pw_below_drewN | apply below_drew1) | exact HB.out))) hk))) _ (Nat.le_refl _)) (Below.refl _ _) (Nat.le_refl _) (by simp) ?_; (case hd => rfl); (case hg => rfl); (case hr => first | (go_simp; done) | (go_simp; rfl)); (case hp => exact (Reps.one (show Kd.FK (Kd.slice 3 (Kd.int .i64)) _ _ l0 [.slice A0 l0.length c0] from (Kd.FK_slice_mk (Kd.V_reads' (Kd.V_mono (ok' := (fun k_ => ((P0_ k_ ∨ P1_ k_) ∨ w.heap.size ≤ k_))) (HO0.out) (fun k_ hk => hk))).2.1 (Kd.V_F (Kd.V_mono (ok' := (fun k_ => ((P0_ k_ ∨ P1_ k_) ∨ w.heap.size ≤ k_))) (HO0.out) (fun k_ hk => hk))))) (Reps.one (show Kd.FK (Kd.slice 3 (Kd.int .i64)) _ _ l1 [.slice A1 l1.length c1] from (Kd.FK_slice_mk (Kd.V_reads' (Kd.V_mono (ok' := (fun k_ => ((P0_ k_ ∨ P1_ k_) ∨ w.heap.size ≤ k_))) (HO1.out) (fun k_ hk => hk))).2.1 (Kd.V_F (Kd.V_mono (ok' := (fun k_ => ((P0_ k_ ∨ P1_ k_) ∨ w.heap.size ≤ k_))) (HO1.out) (fun k_ hk => hk))))) (Reps.none _ _)))); intro v261 w20 ho21 hb hg_ hnew_; clear hg_ hnew_; (first | rw [← Ny260.out] at ho21 | (simp only [Int.reduceToNat] at ho21; rw [← Ny260.out] at ho21)); have n0_ := Aside0.mk (Kd.V_elder' (by (with_reducible repeat (first | apply Kd.V_alloc | apply Kd.V_drewN | apply Kd.V_drew)); exact HO0.out) (Kd.N_base ho21) hb); have n1_ := Aside0.mk (Kd.V_elder' (by (with_reducible repeat (first | apply Kd.V_alloc | apply Kd.V_drewN | apply Kd.V_drew)); exact HO1.out) (Kd.N_base ho21) hb); have n2_ := Aside0.mk (Kd.N_lower ho21 (below_size (by repeat (first | (with_reducible first | exact HB.out | apply below_alloc | apply pw_below_drewN | apply below_drew1) | exact HB.out)))); have n3_ := Aside0.mk (below_step (by repeat (first | (with_reducible first | exact HB.out | apply below_alloc | apply pw_below_drewN | apply below_drew1) | exact HB.out)) hb); clear HO0; clear HO1; clear HB; have HO0 := n0_; have HO1 := n1_; have HO262 := n2_; have HB := n3_; clear n0_ n1_ n2_ n3_; clear hb ho21; obtain ⟨Ao22, co22, eo22⟩ := Kd.N_slice HO262.out; subst eo22) | ((with_reducible refine gate_callee (f := 74) rfl ?_); refine goesL_ (some 11) rfl rfl Tryd.func74 (by kernel_rfl) rfl #[.slice Ao22 y260.length co22] rfl (by (try simp only [List.map_toArray, List.map_cons, List.map_nil]); first | done | rfl | (simp only [List.length_drop, List.length_take]; rfl)) ?_; (with_reducible refine (hanoi_open.calls k _ _ y260 t263 _ ?side1 ?side2 A3.out).mono ?_); (case side1 => repeat (first | exact (Kd.N_reads' HO262.out).2.2 | (with_reducible refine Kd.C_alloc ?_ _) | (with_reducible refine Kd.C_drewN ?_ _) | (with_reducible refine Kd.C_drew ?_))); (case side2 => exact (Kd.N_reads' HO262.out).2.1); rintro e w23 ⟨rfl, hb⟩; refine ⟨_, rfl, ?_⟩; have n0_ := Aside0.mk (Kd.V_below (by (with_reducible repeat (first | apply Kd.V_alloc | apply Kd.V_drewN | apply Kd.V_drew)); exact HO0.out) hb); have n1_ := Aside0.mk (Kd.V_below (by (with_reducible repeat (first | apply Kd.V_alloc | apply Kd.V_drewN | apply Kd.V_drew)); exact HO1.out) hb); have n2_ := Aside0.mk (Kd.N_below (by (with_reducible repeat (first | apply Kd.N_alloc | apply Kd.N_drewN | apply Kd.N_drew)); exact HO262.out) hb); have n3_ := Aside0.mk (below_step (by repeat (first | (with_reducible first | exact HB.out | apply below_alloc | apply pw_below_drewN | apply below_drew1) | exact HB.out)) hb); clear HO0; clear HO1; clear HO262; clear HB; have HO0 := n0_; have HO1 := n1_; have HO262 := n2_; have HB := n3_; clear n0_ n1_ n2_ n3_; (try clear hb); (try clear hb2); (try clear hk); (try clear hi)))
    go_ret2
    exact ⟨by first | rfl | (simp [errW_none, errW_some] <;> rfl) | (simp [*, errW_none, errW_some] <;> rfl), by repeat (first | (with_reducible first | exact HB.out | apply below_alloc | apply pw_below_drewN | apply below_drew1) | exact HB.out)⟩

end Go.Proofs.YtnaaomhmoamfpaaDoor.Q
/- strings.Builder's WriteByte, of a builder that is the call's own. -/
namespace Go.Proofs.YtnaaomhmoamfpaaDoor.G
set_option linter.unusedVariables false
set_option linter.unusedSimpArgs false
set_option linter.unusedSectionVars false
open Go.Proofs.YtnaaomhmoamfpaaDoor.K
open Go.RowKit Go.Proofs.YtnaaomhmoamfpaaDoorW.PrintWords Go.Proofs.YtnaaomhmoamfpaaDoorW.PrintLast Go.Proofs.YtnaaomhmoamfpaaDoorW.PrintMore

theorem size107 : (Tryd.prog.info? 107).map (fun i => i.size) = some 2 := by kernel_rfl
set_option maxHeartbeats 1000000 in
set_option maxRecDepth 100000 in
theorem copy_new (b : Nat) (w : World) (h0 : w.cell? ⟨b, 0, none⟩ = some (.pointer none)) (hsh : w.shape? b = some (107, 2)) (hfz : w.frozen? ⟨b, 0, none⟩ = false) :
    Calls Tryd.prog 92 #[.pointer (some ⟨b, 0, none⟩)] w fun e w' => e = .returned (.tuple #[]) ∧ w' = w.setCell ⟨b, 0, none⟩ (.pointer (some ⟨b, 0, none⟩)) := by
  obtain ⟨j, hj, hjs⟩ := Option.map_eq_some_iff.1 size107
  go_enter Tryd.func92, Tryd.ntmps92
  go_wp2
  rw [Lib.run_to_unsafe w ⟨b, 0, none⟩ Tryd.underlying104 Tryd.underlying139 hj (by rw [hjs]; decide) hsh (Nat.zero_lt_succ 1)]
  simp only [Result.andThen]
  rw [Oper.upon_value]
  go_wp2
  rw [run_callFunc_extern Tryd.func105 (by kernel_rfl) (by kernel_rfl) (by kernel_rfl) (e := Extern.AbiNoEscape.same) (by kernel_rfl)]
  rw [Lib.run_noEscape]
  simp only [Result.andThen]
  rw [Oper.upon_value]
  go_wp2
  rw [Lib.run_from_unsafe w ⟨b, 0, none⟩ Tryd.underlying139 Tryd.underlying104 hj hsh (by kernel_rfl)]
  simp only [Result.andThen]
  rw [Oper.upon_value]
  go_wp2
  go_end0
  exact ⟨rfl, rfl⟩
set_option maxHeartbeats 1000000 in
set_option maxRecDepth 100000 in
theorem copy_used (b : Nat) (w : World) (h0 : w.cell? ⟨b, 0, none⟩ = some (.pointer (some ⟨b, 0, none⟩))) :
    Calls Tryd.prog 92 #[.pointer (some ⟨b, 0, none⟩)] w fun e w' => e = .returned (.tuple #[]) ∧ w' = w := by
  obtain ⟨j, hj, _⟩ := Option.map_eq_some_iff.1 size107
  go_enter Tryd.func92, Tryd.ntmps92
  go_wp2
  rw [Lib.run_neq_ptr_same w _ Tryd.underlying104 hj]
  go_wp2
  go_end0
  exact ⟨rfl, rfl⟩
theorem copyCheck_is (B b : Nat) (bs : List Value) (w : World) (h : Lib.IsBuilder 107 5 B b bs w) :
    Calls Tryd.prog 92 #[.pointer (some ⟨b, 0, none⟩)] w fun e w' => e = .returned (.tuple #[]) ∧ (Lib.BuilderAt 107 5 B b (.pointer (some ⟨b, 0, none⟩)) bs w' ∧ Below B w w') := by
  rcases h with h | h
  · refine (copy_new b w h.cell0 h.shape h.frozen0).mono ?_
    rintro e w' ⟨rfl, rfl⟩
    exact ⟨rfl, h.used _, (Below.refl B w).setCell (p := ⟨b, 0, none⟩) h.1 _⟩
  · refine (copy_used b w h.cell0).mono ?_
    rintro e w' ⟨rfl, rfl⟩
    exact ⟨rfl, h, Below.refl B _⟩

set_option maxHeartbeats 2000000 in
set_option maxRecDepth 100000 in
theorem writeByte (B b : Nat) (bs : List Value) (c : Int) (w : World) (h : Lib.IsBuilder 107 5 B b bs w) (hlen : bs.length + 1 ≤ 140737488355328) (hBw : B ≤ w.heap.size) :
    Calls Tryd.prog 68 #[.pointer (some ⟨b, 0, none⟩), .int .u8 c] w fun e w' => e = .returned .nilIface ∧ (Lib.BuilderAt 107 5 B b (.pointer (some ⟨b, 0, none⟩)) (bs ++ [.int .u8 c]) w' ∧ Below B w w') := by
  obtain ⟨i0, hi, hz0, hz1, hz2⟩ := info_parts Go.Proofs.YtnaaomhmoamfpaaDoor.Q.info5
  have h' := Aside0.mk h
  clear h
  go_enter Tryd.func68, Tryd.ntmps68
  go_wp2_with (go_at_call 92; refine (copyCheck_is B b bs _ h'.out).mono ?_)
  rintro e w1 ⟨rfl, h1, hb1⟩
  obtain ⟨hB, v, hbk, hown, hne⟩ := h1
  have c0 : w1.cell? ⟨b, 0, none⟩ = some (.pointer (some ⟨b, 0, none⟩)) := by rw [Lib.cell_of_heap hbk]; rfl
  have c1 : w1.cell? ⟨b, 1, none⟩ = some v := by rw [Lib.cell_of_heap hbk]; rfl
  go_wp2_with (at_builtin; refine wpList_append_own _ rfl _ _ 105 rfl B 5 i0 (.int .u8 0) 1 1 Tryd.underlying105 hi hz0 hz1 hz2 rfl (by decide) _ _ _ rfl (hown.alloc _) ⟨w1.heap.size, 0, none⟩ 1 1 [.int .u8 c] rfl rfl ?c1 ?c2 ?c3 ?c4 ?c5 ?_)
  case c1 =>
    intro j u hj
    match j, hj with
    | 0, hj => simp at hj; subst hj; simp [Addr.add]
  case c2 => intro u hu; simp at hu; subst hu; rfl
  case c3 => unfold maxLen; omega
  case c4 => omega
  case c5 => have := hb1.size; simp; omega
  intro v' w2 hown' hgrow _
  have hlt : b < w1.heap.size := by
    rcases Nat.lt_or_ge b w1.heap.size with h' | h'
    · exact h'
    · simp [Array.getElem?_eq_none h'] at hbk
  have hb2 : w2.heap[b]? = some (.cells #[.pointer (some ⟨b, 0, none⟩), v] 107 (0, 0)) := by
    rw [hgrow.block b (by simp; omega) (fun e => hne e.symm), Lib.alloc_old w1 _ b hlt]
    exact hbk
  have d0 : w2.cell? ⟨b, 0, none⟩ = some (.pointer (some ⟨b, 0, none⟩)) := by rw [Lib.cell_of_heap hb2]; rfl
  have d1 : w2.cell? ⟨b, 1, none⟩ = some v := by rw [Lib.cell_of_heap hb2]; rfl
  have f1 : w2.frozen? ⟨b, 1, none⟩ = false := Lib.frozen_of_heap hb2 1
  obtain ⟨g, cap, rfl⟩ : ∃ g cap, v' = .slice (some ⟨g, 0, none⟩) (bs.length + 1) cap := by
    rcases hown'.2 with ⟨_, h0⟩ | ⟨g, cap, cur, hv, _⟩
    · omega
    · exact ⟨g, cap, hv⟩
  go_wp2
  go_ret
  refine ⟨rfl, ?_, ?_⟩
  · exact Lib.BuilderAt.put (T := 107) (e := 5) hB hb2 (bs' := bs ++ [.int .u8 c]) (by simpa using hown') (by decide)
  · exact ((hb1.alloc (by have := hb1.size; omega) _).grown hgrow (by have := hb1.size; simp; omega) (fun k hk => (hown.lt k hk).1)).setCell (p := ⟨b, 1, none⟩) hB _
end Go.Proofs.YtnaaomhmoamfpaaDoor.G
/- The rings with a rank: what the call of Unrank comes to. -/
namespace Go.Proofs.YtnaaomhmoamfpaaDoor.G
set_option linter.unusedVariables false
set_option linter.unusedSimpArgs false
set_option linter.unusedSectionVars false
open Go.Proofs.YtnaaomhmoamfpaaDoor.Q Go.Proofs.YtnaaomhmoamfpaaDoor.Hn Go.Proofs.YtnaaomhmoamfpaaDoor.K Go.Shelf
open Go.RowKit Go.Proofs.YtnaaomhmoamfpaaDoorW.PrintWords Go.Proofs.YtnaaomhmoamfpaaDoorW.PrintLast Go.Proofs.YtnaaomhmoamfpaaDoorW.PrintMore

def gray (R : Nat) : Nat := R ^^^ (R >>> 1)
def ub (R i : Nat) : UInt8 := if (gray R / 2^i) % 2 = 1 then 49 else 48
def unr (n R : Nat) : List UInt8 := (List.range n).map (ub R)
def hanoi_Unrank.f (n r : Int) : Option (ByteArray × Int) := if n < 1 ∨ n > 60 ∨ r < 0 ∨ 2 ^ n.toNat ≤ r then some (⟨#[]⟩, 1) else some (⟨(unr n.toNat r.toNat).toArray⟩, 0)

theorem bits_xor_nat (k : IntKind) (j : Nat) (hj : j ≤ k.bits) (hk : ∀ n : Int, 0 ≤ n → n < 2 ^ j → k.wrap n = n) (a b : Nat) (ha : a < 2 ^ j) (hb : b < 2 ^ j) :
    bits .xor k a b = ((a ^^^ b : Nat) : Int) := by
  have hp : 2 ^ j ≤ 2 ^ k.bits := Nat.pow_le_pow_right (by decide) hj
  have ha' : a % 2 ^ k.bits = a := Nat.mod_eq_of_lt (Nat.lt_of_lt_of_le ha hp)
  have hb' : b % 2 ^ k.bits = b := Nat.mod_eq_of_lt (Nat.lt_of_lt_of_le hb hp)
  have cast : ∀ n : Nat, n < 2 ^ j → ((n : Nat) : Int) < 2 ^ j := fun n h => by exact_mod_cast h
  simp only [bits, BitVec.ofInt_natCast, BitVec.toNat_xor, BitVec.toNat_ofNat, ha', hb']
  exact hk _ (Int.natCast_nonneg _) (cast _ (Nat.xor_lt_two_pow ha hb))
theorem gray_lt {R n : Nat} (h : R < 2^n) : gray R < 2^n := Nat.xor_lt_two_pow h (Nat.lt_of_le_of_lt (Nat.shiftRight_le R 1) h)

theorem unr_snoc (k R : Nat) : unr (k+1) R = unr k R ++ [ub R k] := by simp [unr, List.range_succ]
theorem unr_length (k R : Nat) : (unr k R).length = k := by simp [unr]

set_option maxHeartbeats 1000000 in
theorem hanoi_Unrank.calls (a0 a1 : Int) (r1 : ByteArray) (r2 : Int) (w : World) (h : hanoi_Unrank.f a0 a1 = some (r1, r2)) :
    Calls Tryd.prog 32 #[.int .i64 a0, .int .i64 a1] w fun e w' => e = .returned (.tuple #[.string r1, .int .i64 r2]) ∧ Below w.heap.size w w' := by
  unfold hanoi_Unrank.f at h
  by_cases h1 : a0 < 1
  · rw [if_pos (.inl h1)] at h
    cases h
    go_enter Tryd.func32, Tryd.ntmps32
    go_wp2
    go_ret2
    exact ⟨rfl, Below.refl _ _⟩
  by_cases h2 : 60 < a0
  · rw [if_pos (.inr (.inl h2))] at h
    cases h
    go_enter Tryd.func32, Tryd.ntmps32
    go_wp2
    go_ret2
    exact ⟨rfl, Below.refl _ _⟩
  by_cases h3 : a1 < 0
  · rw [if_pos (.inr (.inr (.inl h3)))] at h
    cases h
    go_enter Tryd.func32, Tryd.ntmps32
    go_wp2
    go_ret2
    exact ⟨rfl, Below.refl _ _⟩
  obtain ⟨n, rfl⟩ := Int.eq_ofNat_of_zero_le (show 0 ≤ a0 by omega)
  obtain ⟨R, rfl⟩ := Int.eq_ofNat_of_zero_le (show 0 ≤ a1 by omega)
  rw [Int.toNat_natCast, Int.toNat_natCast] at h
  have hp1 := pow_pos' n
  have hp2 : (2:Int)^n ≤ 2^60 := pow_le (by omega)
  rw [show (2:Int)^60 = 1152921504606846976 by decide] at hp2
  have hu := u64w (x := (n : Int)) (by omega) (by omega)
  by_cases h4 : (2:Int)^n ≤ R
  · rw [if_pos (.inr (.inr (.inr h4)))] at h
    cases h
    go_enter Tryd.func32, Tryd.ntmps32
    go_wp2
    go_ret2
    exact ⟨rfl, Below.refl _ _⟩
  · rw [if_neg (by omega)] at h
    cases h
    have hR : R < 2^n := by have : (R : Int) < 2^n := by omega
                            exact_mod_cast this
    have hR60 : R < 2^60 := Nat.lt_of_lt_of_le hR (Nat.pow_le_pow_right (by decide) (by omega))
    have hx := bits_xor_nat .i64 62 (by decide) wraps_i64 R (R / 2) (by omega) (by omega)
    rw [show R ^^^ (R / 2) = gray R by simp [gray, Nat.shiftRight_eq_div_pow]] at hx
    rw [show ((R / 2 : Nat) : Int) = (R : Int) / 2 by omega] at hx
    have hgl := gray_lt hR60
    have hand : ∀ k : Nat, bits .and .i64 ((gray R : Int) / 2^k) 1 = ((gray R / 2^k % 2 : Nat) : Int) := fun k => by
      have e1 : (gray R : Int) / 2^k = ((gray R / 2^k : Nat) : Int) := by simp
      have h9 : gray R / 2^k ≤ gray R := Nat.div_le_self _ _
      have e : (2:Int)^62 = 4611686018427387904 := by decide
      rw [e1]
      generalize gray R / 2^k = q at *
      have := bits_mask .i64 62 (by decide) wraps_i64 1 (by decide) (q : Int) (by omega) (by rw [e]; omega)
      have e2 : ((2:Int)^1 - 1) = 1 := by decide
      rw [e2] at this
      rw [this]; omega
    have HR := Aside0.mk (And.intro hR (And.intro hR60 hgl))
    clear hR hR60
    have hR0 : (gray R : Int) ≤ 1152921504606846976 := by omega
    have hR1 : 0 ≤ (gray R : Int) := by omega
    go_enter Tryd.func32, Tryd.ntmps32
    go_wp2
    go_loopw [31] (fun i wr => ∃ k : Nat, k ≤ n ∧ i = .int .i64 k ∧ Lib.IsBuilder 107 5 w.heap.size w.heap.size (Lib.byteCells (unr k R)) wr ∧ Below w.heap.size w wr) (fun i _ => n - (intOf i).toNat)
    case atStart => exact ⟨0, by omega, rfl, Lib.fresh_isBuilder 107 5 w, (Below.refl _ w).alloc (Nat.le_refl _) _⟩
    case round =>
      obtain ⟨k, hk, rfl, hI, hb⟩ := hrel
      have HI := Aside0.mk hI
      have HB := Aside0.mk hb
      have hsz := hb.size
      clear hI hb
      by_cases hlt : k < n
      · have hk2 := u64w (x := (k : Int)) (by omega) (by omega)
        have handk := hand k
        have HL := Aside0.mk (unr_length k R)
        clear hand
        have hmod : (48 + ((gray R / 2^k % 2 : Nat) : Int)) % 256 = ((ub R k).toNat : Int) := by
          unfold ub
          split
          · rename_i e; rw [e]; decide
          · rename_i e; rw [show gray R / 2^k % 2 = 0 by omega]; decide
        have HM := Aside0.mk (And.intro hmod handk)
        clear handk hmod
        go_wp2_with (go_at_call 68; refine (writeByte w.heap.size w.heap.size _ _ _ HI.out (by rw [Lib.byteCells_length, HL.out]; omega) (by omega)).mono ?_)
        rintro e W1 ⟨rfl, hb1, b1⟩
        obtain ⟨m1, m2⟩ := HM.out
        rw [m2, m1] at hb1
        have HB1 := Aside0.mk hb1
        have B1 := Aside0.mk b1
        clear m1 m2 hb1 b1
        go_wp2
        go_roundw
        case rel =>
          refine ⟨k + 1, by omega, by go_num, ?_, HB.out.trans B1.out⟩
          rw [unr_snoc, Lib.byteCells_append]
          exact Or.inr HB1.out
        case measure => simp [intOf]; omega
      · obtain rfl : k = n := by omega
        go_wp2_with (go_at_call 69; refine (Tryd.Builder_String_any w.heap.size w.heap.size (unr k R) _ HI.out (by omega)).mono ?_)
        rintro e W1 ⟨rfl, b1⟩
        go_wp2
        go_ret2
        exact ⟨rfl, HB.out.trans b1⟩
end Go.Proofs.YtnaaomhmoamfpaaDoor.G
namespace Go.Proofs.YtnaaomhmoamfpaaDoor.G
end Go.Proofs.YtnaaomhmoamfpaaDoor.G
namespace Go.Proofs.YtnaaomhmoamfpaaDoor.Q
set_option linter.unusedVariables false
set_option linter.unusedSimpArgs false
set_option linter.unusedSectionVars false
open Go.Proofs.YtnaaomhmoamfpaaDoor.G
open Go.RowKit Go.Proofs.YtnaaomhmoamfpaaDoorW.PrintWords Go.Proofs.YtnaaomhmoamfpaaDoorW.PrintLast Go.Proofs.YtnaaomhmoamfpaaDoorW.PrintMore
attribute [local go_sem] max2_int min2_int max_two min_two max_three min_three max_four min_four   -- for this text's walks alone

/-! ### hanoi_openRings: function 71 -/
def hanoi_openRings.l0 : Nat → ByteArray → ByteArray → List ByteArray → Int → Int → Option (Int)
  | 0, _, _, _, _, _ => none
  | k + 1, x0, x1, x10, x11, x12 => if x12 < x11 then (if 0 ≤ x12 then (if x12 < (x10.length : Int) then ((hanoi_CheckRings.f (rdOf ByteArray.empty x10 x12)).bind fun t178 => (if t178 = 0 then (hanoi_openRings.l0 k x0 x1 x10 x11 (wrap64 (x12 + 1))) else (some t178))) else (none)) else (none)) else (if (x0.size : Int) = (x1.size : Int) then (some 0) else (some 6))
def hanoi_openRings.f (k : Nat) (a0 : ByteArray) (a1 : ByteArray) : Option (Int) := (some (([a0, a1] : List ByteArray) : List ByteArray)).bind fun y174 => (hanoi_openRings.l0 k a0 a1 y174 (y174.length : Int) 0)
theorem hanoi_openRings.mono_l : ∀ k, (∀ y0 y1 y2 y3 y4, LeO (hanoi_openRings.l0 k y0 y1 y2 y3 y4) (hanoi_openRings.l0 (k + 1) y0 y1 y2 y3 y4))
  | 0 => fun _ _ _ _ _ r h => by simp [hanoi_openRings.l0] at h
  | k + 1 => by
    have ih0 := hanoi_openRings.mono_l k
    · intro y0 y1 y2 y3 y4
      unfold hanoi_openRings.l0
      repeat' first
      | (with_reducible exact ih0 _ _ _ _ _)
      | (with_reducible exact LeO.refl _)
      | (with_reducible exact LeO.none _)
      | (with_reducible refine LeO.ite ?_ ?_)
      | (with_reducible refine LeO.bind ?_ (fun _ => ?_))
      | exact ih0 _ _ _ _ _
      | exact LeO.none _
      | refine LeO.ite ?_ ?_
      | refine LeO.bind ?_ (fun _ => ?_)
theorem hanoi_openRings.mono : ∀ a0 a1 k, LeO (hanoi_openRings.f k a0 a1) (hanoi_openRings.f (k + 1) a0 a1) := by
  intro a0 a1 k
  have ih0 := hanoi_openRings.mono_l k
  unfold hanoi_openRings.f
  repeat' first
      | (with_reducible exact ih0 _ _ _ _ _)
      | (with_reducible exact LeO.refl _)
      | (with_reducible exact LeO.none _)
      | (with_reducible refine LeO.ite ?_ ?_)
      | (with_reducible refine LeO.bind ?_ (fun _ => ?_))
      | exact ih0 _ _ _ _ _
      | exact LeO.none _
      | refine LeO.ite ?_ ?_
      | refine LeO.bind ?_ (fun _ => ?_)
set_option maxHeartbeats 8000000 in
set_option maxRecDepth 100000 in
theorem hanoi_openRings.calls (k : Nat) (a0 : ByteArray) (a1 : ByteArray) (r : Int) (w : World) (h : hanoi_openRings.f k a0 a1 = some r) :
    Calls Tryd.prog 71 #[.string a0, .string a1] w fun e w' => e = .returned (.int .i64 r) ∧ Below w.heap.size w w' := by
  have HB := Aside0.mk (Below.refl w.heap.size w)
  have H : ((some (([a0, a1] : List ByteArray) : List ByteArray)).bind fun y174 => (hanoi_openRings.l0 k a0 a1 y174 (y174.length : Int) 0)) = some r := h
  clear h
  obtain ⟨y174, hy174⟩ : ∃ y_ : List ByteArray, y_ = (([a0, a1] : List ByteArray)) := ⟨_, rfl⟩
  replace H : (hanoi_openRings.l0 k a0 a1 y174 (y174.length : Int) 0) = some r := by first | (rw [hy174]; with_reducible exact H) | (have H2_ := (Option.bind_some _ _).symm.trans H; rw [hy174]; with_reducible exact H2_) | (have H2_ := (Option.bind_some _ _).symm.trans H; with_reducible exact H2_) | with_reducible exact H | (rw [hy174]; exact H) | exact H
  have Ny174 := Aside0.mk hy174
  clear hy174
  have H' := Aside0.mk H
  clear H
  go_enter Tryd.func71, Tryd.ntmps71
  go_wp2_with (first | ((with_reducible refine gate_dst (N := 10) rfl ?_); refine Kd.R_lit Kd.string _ 9 ?hg (N := 10) ?hd (xs := ([a0, a1] : List ByteArray)) (inner := [.string a0, .string a1]) (ok := fun _ => True) (okp := fun _ => True) ?hr ?hp (fun _ hk => hk) trivial (Below.refl _ _) (Nat.le_refl _) (by simp) ?_; (case hd => rfl); (case hg => rfl); (case hr => first | (go_simp; done) | (go_simp; rfl)); (case hp => exact (Reps.one (show Kd.M Kd.string _ _ _ a0 [.string a0] from rfl) (Reps.one (show Kd.M Kd.string _ _ _ a1 [.string a1] from rfl) (Reps.none _ _)))); intro v175 w3 ho4 hb hg_ hnew_; clear hg_ hnew_; (first | rw [← Ny174.out] at ho4 | (simp only [Int.reduceToNat] at ho4; rw [← Ny174.out] at ho4)); have n0_ := Aside0.mk (Kd.R_lower ho4 (below_size (by repeat (first | (with_reducible first | exact HB.out | apply below_alloc | apply pw_below_drewN | apply below_drew1) | exact HB.out)))); have n1_ := Aside0.mk (below_step (by repeat (first | (with_reducible first | exact HB.out | apply below_alloc | apply pw_below_drewN | apply below_drew1) | exact HB.out)) hb); clear HB; have HO176 := n0_; have HB := n1_; clear n0_ n1_; clear hb ho4; obtain ⟨Ao5, co5, eo5⟩ := Kd.R_slice HO176.out; subst eo5))
  go_loopg [12] k (fun kq v12 w' => ∃ (x12_1 : Int), v12 = .int .i64 x12_1 ∧ Aside0 (hanoi_openRings.l0 kq a0 a1 y174 (y174.length : Int) x12_1 = some r) ∧ Aside0 (kq ≤ k) ∧ Aside0 (Kd.R Kd.string 9 w' w.heap.size (fun _ => True) (.slice Ao5 y174.length co5) y174) ∧ Aside0 (Below w.heap.size w w'))
  case atStart => exact ⟨(0), (by first | rfl | (simp; done) | (simp [*]; done)), H', ⟨Nat.le_refl _⟩, ⟨by (with_reducible repeat (first | apply Kd.R_alloc | apply Kd.R_drewN | apply Kd.R_drew)); exact HO176.out⟩, ⟨by repeat (first | (with_reducible first | exact HB.out | apply below_alloc | apply pw_below_drewN | apply below_drew1) | exact HB.out)⟩⟩
  case round =>
    clear H'
    try clear p2
    obtain ⟨x12_1, rfl, HA, HK1, HO_10, HB⟩ := hrel
    cases gk with
    | zero => exact absurd HA.out (by simp [hanoi_openRings.l0])
    | succ k1 =>
      have H := HA.out
      clear HA
      simp only [hanoi_openRings.l0] at H
      by_cases c6 : x12_1 < (y174.length : Int)
      · rw [if_pos c6] at H
        have c6b0 : decide (x12_1 < (y174.length : Int)) = true := decide_eq_true c6
        clear c6
        by_cases c7 : 0 ≤ x12_1
        · rw [if_pos c7] at H
          have c7b0 : decide (0 ≤ x12_1) = true := decide_eq_true c7
          clear c7
          by_cases c8 : x12_1 < (y174.length : Int)
          · rw [if_pos c8] at H
            have c8b0 : decide (x12_1 < (y174.length : Int)) = true := decide_eq_true c8
            clear c8
            replace H := Option.bind_eq_some_iff.mp H
            obtain ⟨t178, A90, H⟩ := H
            replace H : (if t178 = 0 then (hanoi_openRings.l0 k1 a0 a1 y174 (y174.length : Int) (wrap64 (x12_1 + 1))) else (some t178)) = some r := H
            have A9 := Aside0.mk A90
            clear A90
            by_cases c10 : t178 = 0
            · rw [if_pos c10] at H
              have c10b0 : (t178 == 0) = true := beq_iff_eq.mpr c10
              have c10b1 : (t178 != 0) = false := bne_eq_false_iff_eq.mpr c10
              clear c10
              have H' := Aside0.mk H
              clear H
              have p177 : 0 ≤ (x12_1 : Int) := of_decide_eq_true (by first | (with_reducible assumption) | assumption)
              have q177 : x12_1 < (y174.length : Int) := of_decide_eq_true (by first | (with_reducible assumption) | assumption)
              obtain ⟨ad177, e177, hx177_0⟩ := Kd.at_string (Kd.R_reads' HO_10.out).2.2 x12_1 p177 q177
              cases e177
              replace p177 := eq_true p177
              replace q177 := eq_true q177
              go_wp2_with (first | ((with_reducible refine gate_callee (f := 53) rfl ?_); refine goesL_ (some 17) rfl rfl Tryd.func53 (by kernel_rfl) rfl #[.string (rdOf ByteArray.empty y174 x12_1)] rfl (by (try simp only [List.map_toArray, List.map_cons, List.map_nil]); first | done | rfl | (simp only [List.length_drop, List.length_take]; rfl)) ?_; (with_reducible refine (hanoi_CheckRings.calls (rdOf ByteArray.empty y174 x12_1) t178 _ A9.out).mono ?_); rintro e w11 ⟨rfl, hb⟩; refine ⟨_, rfl, ?_⟩; have n0_ := Aside0.mk (Kd.R_below (by (with_reducible repeat (first | apply Kd.R_alloc | apply Kd.R_drewN | apply Kd.R_drew)); exact HO_10.out) hb); have n1_ := Aside0.mk (below_step (by repeat (first | (with_reducible first | exact HB.out | apply below_alloc | apply pw_below_drewN | apply below_drew1) | exact HB.out)) hb); clear HO_10; clear HB; have HO_10 := n0_; have HB := n1_; clear n0_ n1_; (try clear hb); (try clear hb2); (try clear hk); (try clear hi)))
              go_roundg k1
              case measure => have := HK1.out; omega
              case rel => exact ⟨(wrap64 (x12_1 + 1)), (by first | rfl | (simp; done) | (simp [*]; done)), H', ⟨by have := HK1.out; omega⟩, ⟨by (with_reducible repeat (first | apply Kd.R_alloc | apply Kd.R_drewN | apply Kd.R_drew)); exact HO_10.out⟩, ⟨by repeat (first | (with_reducible first | exact HB.out | apply below_alloc | apply pw_below_drewN | apply below_drew1) | exact HB.out)⟩⟩
            · rw [if_neg c10] at H
              have c10b0 : (t178 == 0) = false := beq_eq_false_iff_ne.mpr c10
              have c10b1 : (t178 != 0) = true := bne_iff_ne.mpr c10
              obtain rfl := Option.some.inj H
              have p177 : 0 ≤ (x12_1 : Int) := of_decide_eq_true (by first | (with_reducible assumption) | assumption)
              have q177 : x12_1 < (y174.length : Int) := of_decide_eq_true (by first | (with_reducible assumption) | assumption)
              obtain ⟨ad177, e177, hx177_0⟩ := Kd.at_string (Kd.R_reads' HO_10.out).2.2 x12_1 p177 q177
              cases e177
              replace p177 := eq_true p177
              replace q177 := eq_true q177
              go_wp2_with (first | ((with_reducible refine gate_callee (f := 53) rfl ?_); refine goesL_ (some 17) rfl rfl Tryd.func53 (by kernel_rfl) rfl #[.string (rdOf ByteArray.empty y174 x12_1)] rfl (by (try simp only [List.map_toArray, List.map_cons, List.map_nil]); first | done | rfl | (simp only [List.length_drop, List.length_take]; rfl)) ?_; (with_reducible refine (hanoi_CheckRings.calls (rdOf ByteArray.empty y174 x12_1) t178 _ A9.out).mono ?_); rintro e w12 ⟨rfl, hb⟩; refine ⟨_, rfl, ?_⟩; have n0_ := Aside0.mk (Kd.R_below (by (with_reducible repeat (first | apply Kd.R_alloc | apply Kd.R_drewN | apply Kd.R_drew)); exact HO_10.out) hb); have n1_ := Aside0.mk (below_step (by repeat (first | (with_reducible first | exact HB.out | apply below_alloc | apply pw_below_drewN | apply below_drew1) | exact HB.out)) hb); clear HO_10; clear HB; have HO_10 := n0_; have HB := n1_; clear n0_ n1_; (try clear hb); (try clear hb2); (try clear hk); (try clear hi)))
              go_ret
              exact ⟨by first | rfl | (simp [errW_none, errW_some] <;> rfl) | (simp [*, errW_none, errW_some] <;> rfl), by repeat (first | (with_reducible first | exact HB.out | apply below_alloc | apply pw_below_drewN | apply below_drew1) | exact HB.out)⟩
          · rw [if_neg c8] at H
            exact absurd H (by simp)
        · rw [if_neg c7] at H
          exact absurd H (by simp)
      · rw [if_neg c6] at H
        have c6b0 : decide (x12_1 < (y174.length : Int)) = false := decide_eq_false c6
        clear c6
        by_cases c13 : (a0.size : Int) = (a1.size : Int)
        · rw [if_pos c13] at H
          have c13b0 : ((a0.size : Int) == (a1.size : Int)) = true := beq_iff_eq.mpr c13
          have c13b1 : ((a0.size : Int) != (a1.size : Int)) = false := bne_eq_false_iff_eq.mpr c13
          have c13b2 : (a0.size == a1.size) = true := by first | simpa using c13 | (simp at c13 ⊢; omega)
          clear c13
          obtain rfl := Option.some.inj H
          go_wp2
          go_ret
          exact ⟨by first | rfl | (simp [errW_none, errW_some] <;> rfl) | (simp [*, errW_none, errW_some] <;> rfl), by repeat (first | (with_reducible first | exact HB.out | apply below_alloc | apply pw_below_drewN | apply below_drew1) | exact HB.out)⟩
        · rw [if_neg c13] at H
          have c13b0 : ((a0.size : Int) == (a1.size : Int)) = false := beq_eq_false_iff_ne.mpr c13
          have c13b1 : ((a0.size : Int) != (a1.size : Int)) = true := bne_iff_ne.mpr c13
          have c13b2 : (a0.size == a1.size) = false := by first | simpa using c13 | (simp at c13 ⊢; omega)
          obtain rfl := Option.some.inj H
          go_wp2
          go_ret
          exact ⟨by first | rfl | (simp [errW_none, errW_some] <;> rfl) | (simp [*, errW_none, errW_some] <;> rfl), by repeat (first | (with_reducible first | exact HB.out | apply below_alloc | apply pw_below_drewN | apply below_drew1) | exact HB.out)⟩

end Go.Proofs.YtnaaomhmoamfpaaDoor.Q
/- The checks of rings, as plain tests. -/
namespace Go.Proofs.YtnaaomhmoamfpaaDoor.Hn
set_option linter.unusedVariables false
set_option linter.unusedSimpArgs false
set_option linter.unusedSectionVars false
open Go.Proofs.YtnaaomhmoamfpaaDoor.Q Go.Proofs.YtnaaomhmoamfpaaDoor.G
open Go.RowKit Go.Proofs.YtnaaomhmoamfpaaDoorW.PrintWords Go.Proofs.YtnaaomhmoamfpaaDoorW.PrintLast Go.Proofs.YtnaaomhmoamfpaaDoorW.PrintMore

def isR (s : ByteArray) : Prop := 0 < s.size ∧ okR s
instance (s : ByteArray) : Decidable (isR s) := by unfold isR; infer_instance
def checkR (s : ByteArray) : Int := if isR s then 0 else 31
def openR (r q : ByteArray) : Int := if ¬ isR r then 31 else if ¬ isR q then 31 else if r.size = q.size then 0 else 6

theorem size_list (s : ByteArray) : s.toList = s.data.toList := by
  exact ByteArray.toList_eq s
theorem dropWhile_nil {α : Type} (l : List α) (p : α → Bool) : l.dropWhile p = [] ↔ ∀ x, x ∈ l → p x = true := by
  induction l with
  | nil => simp
  | cons a l ih =>
    rw [List.dropWhile_cons]
    split
    · rename_i h; rw [ih]; simp [h]
    · rename_i h; simp [h]
theorem trimS_nil (l cs : List UInt8) : Lib.trimS l cs = [] ↔ ∀ b, b ∈ l → cs.contains b = true := by
  unfold Lib.trimS Lib.trimLeftS Lib.trimRightS
  rw [dropWhile_nil]
  constructor
  · intro h
    by_cases e : (l.reverse.dropWhile (cs.contains ·)) = []
    · rw [dropWhile_nil] at e
      intro b hb; exact e b (by simpa using hb)
    · exfalso
      obtain ⟨x, rest, hx⟩ := List.exists_cons_of_ne_nil e
      have h1 := h x (by rw [hx]; simp)
      have h2 := List.head?_dropWhile_not (cs.contains ·) l.reverse
      rw [hx] at h2
      simp at h2
      simp [h2] at h1
  · intro h b hb
    have : b ∈ l.reverse.dropWhile (cs.contains ·) := by simpa using hb
    exact h b (by have := (List.dropWhile_sublist (cs.contains ·)).subset this; simpa using this)

theorem checkR_f (s : ByteArray) : hanoi_CheckRings.f s = some (checkR s) := by
  unfold hanoi_CheckRings.f checkR
  rw [size_list]
  by_cases h0 : s.size = 0
  · have : s.data.toList = [] := List.eq_nil_of_length_eq_zero (by simpa using h0)
    rw [if_pos this, if_neg (by unfold isR; omega)]
  · rw [if_neg (by intro h; apply h0; have := congrArg List.length h; simpa using this)]
    by_cases h1 : 60 < s.size
    · rw [if_pos (by omega), if_neg (by unfold isR okR; omega)]
    · rw [if_neg (by omega)]
      unfold strings_Trim.f
      rw [if_pos ⟨by omega, by decide, by intro b hb; simp at hb; rcases hb with rfl | rfl <;> decide⟩]
      simp only [Option.bind_some]
      rw [size_list]
      by_cases hr : isR s
      · rw [if_pos hr, if_pos]
        show Lib.trimS s.data.toList [48, 49] = []
        rw [trimS_nil]
        intro b hb
        rcases hr.2.2 b hb with rfl | rfl <;> decide
      · rw [if_neg hr, if_neg]
        intro h
        apply hr
        have h : Lib.trimS s.data.toList [48, 49] = [] := h
        rw [trimS_nil] at h
        refine ⟨by omega, by omega, fun b hb => ?_⟩
        have := h b hb
        simpa using this

theorem openR_ev (r q : ByteArray) : Ev (fun k => hanoi_openRings.f k r q) (openR r q) := by
  unfold hanoi_openRings.f
  simp only [Option.bind_some]
  have w1 : wrap64 1 = 1 := w64 (by omega) (by omega)
  have w2 : wrap64 2 = 2 := w64 (by omega) (by omega)
  refine Ev.step (f := fun k => if checkR r = 0 then hanoi_openRings.l0 k r q [r, q] 2 1 else some (checkR r)) (fun k => ?_) ?_
  · simp only [hanoi_openRings.l0]
    rw [if_pos (by simp), if_pos (by omega), if_pos (by simp)]
    simp [rdOf, checkR_f, w1]
  · by_cases h1 : isR r
    · have e1 : checkR r = 0 := by simp [checkR, h1]
      simp only [e1, if_true]
      refine Ev.step (f := fun k => if checkR q = 0 then hanoi_openRings.l0 k r q [r, q] 2 2 else some (checkR q)) (fun k => ?_) ?_
      · simp only [hanoi_openRings.l0]
        rw [if_pos (by simp), if_pos (by omega), if_pos (by simp)]
        simp [rdOf, checkR_f, w2]
      · by_cases h2 : isR q
        · have e2 : checkR q = 0 := by simp [checkR, h2]
          simp only [e2, if_true]
          refine Ev.step (f := fun k => some (openR r q)) (fun k => ?_) (Ev.now _)
          simp only [hanoi_openRings.l0]
          rw [if_neg (by simp)]
          unfold openR
          by_cases e : r.size = q.size
          · rw [if_pos (by omega)]; simp [h1, h2, e]
          · rw [if_neg (by omega)]; simp [h1, h2, e]
        · have e2 : checkR q = 31 := by simp [checkR, h2]
          simp only [e2]
          have : openR r q = 31 := by simp [openR, h1, h2]
          rw [this]; exact Ev.now _
    · have e1 : checkR r = 31 := by simp [checkR, h1]
      simp only [e1]
      have : openR r q = 31 := by simp [openR, h1]
      rw [this]; exact Ev.now _
end Go.Proofs.YtnaaomhmoamfpaaDoor.Hn
/- The ring that is changed first: what the call of Next comes to. -/
namespace Go.Proofs.YtnaaomhmoamfpaaDoor.G
set_option linter.unusedVariables false
set_option linter.unusedSimpArgs false
set_option linter.unusedSectionVars false
open Go.Proofs.YtnaaomhmoamfpaaDoor.Q Go.Proofs.YtnaaomhmoamfpaaDoor.Hn Go.Proofs.YtnaaomhmoamfpaaDoor.K Go.Shelf
open Go.RowKit Go.Proofs.YtnaaomhmoamfpaaDoorW.PrintWords Go.Proofs.YtnaaomhmoamfpaaDoorW.PrintLast Go.Proofs.YtnaaomhmoamfpaaDoorW.PrintMore

theorem rk_bound (c : Nat → Int) (h : ∀ i, c i = 0 ∨ c i = 1) (n : Nat) : ∀ b o : Int, (b = 0 ∨ b = 1) → 0 ≤ o → 2^n * o ≤ rk c n b o ∧ rk c n b o < 2^n * (o + 1) := by
  induction n with
  | zero => intro b o _ _; simp [rk]; omega
  | succ n ih =>
    intro b o hb ho
    rw [rk]
    have hx := xr_01 b (c n)
    have := ih (xr b (c n)) (2 * o + xr b (c n)) hx (by omega)
    have hp := pow_pos' n
    rw [Int.pow_succ]
    generalize xr b (c n) = x at *
    have e1 : 2 ^ n * (2 * o + x) = 2^n * 2 * o + 2^n * x := by rw [Int.mul_add]; rw [Int.mul_assoc]
    have e2 : 2 ^ n * (2 * o + x + 1) = 2^n * 2 * o + 2^n * x + 2^n := by rw [Int.mul_add, e1]; omega
    have e3 : 2 ^ n * 2 * (o + 1) = 2^n * 2 * o + 2^n * 2 := by rw [Int.mul_add]; omega
    have e4 : 0 ≤ 2^n * x ∧ 2^n * x ≤ 2^n := by rcases hx with rfl | rfl <;> omega
    omega

def rkOf (s : ByteArray) : Int := rk (rg s) s.size 0 0
theorem rkOf_bound {s : ByteArray} (h : okR s) : 0 ≤ rkOf s ∧ rkOf s < 2^s.size := by
  have := rk_bound (rg s) (rg_01 h) s.size 0 0 (.inl rfl) (by omega)
  simpa [rkOf] using this

/-- the last place where two lists differ, or 0 -/
def ld (s t : List UInt8) : Nat → Nat
  | 0 => 0
  | k+1 => if s.getD k 0 ≠ t.getD k 0 then k else ld s t k
theorem ld_le (s t : List UInt8) (n : Nat) : ld s t n ≤ n := by
  induction n with
  | zero => exact Nat.le_refl _
  | succ n ih => unfold ld; split <;> omega
/-- the byte at a place, out of the list -/
theorem byte_at (s : ByteArray) (pos : Nat) (hp : pos < s.size) : s[pos]'hp = s.data.toList.getD pos 0 := by
  have hl : pos < s.data.toList.length := by simpa using hp
  rw [List.getD_eq_getElem?_getD, List.getElem?_eq_getElem hl]
  simp [ByteArray.getElem_eq_getElem_data]
theorem ld_step (s t : List UInt8) (k : Nat) : (ld s t (k+1) : Int) = if (s.getD k 0).toNat ≠ (t.getD k 0).toNat then (k : Int) else (ld s t k : Int) := by
  rw [ld]
  by_cases e : s.getD k 0 = t.getD k 0
  · rw [if_neg (fun h => h e), if_neg (fun h => h (by rw [e]))]
  · rw [if_pos e, if_pos (fun h => e (UInt8.toNat_inj.1 h))]
def stepTo (r q : ByteArray) : Int := if rkOf q < rkOf r then rkOf r - 1 else rkOf r + 1
def hanoi_Next.f (r q : ByteArray) : Option (Int × Int) :=
  if openR r q ≠ 0 then some (0, openR r q) else if rkOf r = rkOf q then some (0, 1)
  else some ((ld (unr r.size (stepTo r q).toNat) r.data.toList r.size : Nat), 0)

theorem unr_get (n R i : Nat) (h : i < n) : (unr n R).getD i 0 = ub R i := by simp [unr, h]
theorem ub_48 (R i : Nat) : ub R i = 48 ∨ ub R i = 49 := by unfold ub; split <;> simp

set_option maxHeartbeats 2000000 in
theorem hanoi_Next.calls (a0 a1 : ByteArray) (r1 r2 : Int) (w : World) (h : hanoi_Next.f a0 a1 = some (r1, r2)) :
    Calls Tryd.prog 37 #[.string a0, .string a1] w fun e w' => e = .returned (.tuple #[.int .i64 r1, .int .i64 r2]) ∧ Below w.heap.size w w' := by
  unfold hanoi_Next.f at h
  obtain ⟨k, hk⟩ := (openR_ev a0 a1).rounds
  have O := Aside0.mk (hanoi_openRings.calls k a0 a1 _ w hk)
  clear hk
  by_cases h0 : openR a0 a1 = 0
  · rw [if_neg (by omega)] at h
    rw [h0] at O
    have hR : isR a0 ∧ isR a1 ∧ a0.size = a1.size := by
      unfold openR at h0
      by_cases x1 : isR a0
      · by_cases x2 : isR a1
        · by_cases x3 : a0.size = a1.size
          · exact ⟨x1, x2, x3⟩
          · simp [x1, x2, x3] at h0
        · simp [x1, x2] at h0
      · simp [x1] at h0
    have R0 := fun W => hanoi_rank.calls a0 (rkOf a0) W (by unfold hanoi_rank.f; rw [if_pos hR.1.2]; rfl)
    have R1 := fun W => hanoi_rank.calls a1 (rkOf a1) W (by unfold hanoi_rank.f; rw [if_pos hR.2.1.2]; rfl)
    have hb0 := rkOf_bound hR.1.2
    have hb1 := rkOf_bound hR.2.1.2
    have hp2 : (2:Int)^a0.size ≤ 2^60 := pow_le hR.1.2.1
    rw [show (2:Int)^60 = 1152921504606846976 by decide] at hp2
    rw [← hR.2.2] at hb1
    by_cases he : rkOf a0 = rkOf a1
    · rw [if_pos he] at h
      cases h
      have HR0 := Aside0.mk R0
      have HR1 := Aside0.mk R1
      rw [he] at HR0
      clear R0 R1 hR he hb0 h0
      generalize rkOf a1 = x at *
      go_enter Tryd.func37, Tryd.ntmps37
      go_wp2_with (go_at_call 71; refine O.out.mono ?_; rintro e w1 ⟨rfl, hb⟩)
      refine (HR0.out _).mono ?_
      rintro e w2 ⟨rfl, hb2⟩
      go_wp2_with fail
      refine (HR1.out _).mono ?_
      rintro e w3 ⟨rfl, hb3⟩
      go_wp2
      go_ret2
      exact ⟨rfl, below_then (below_then hb hb.size hb2) (by have := hb.size; have := hb2.size; omega) hb3⟩
    · rw [if_neg he] at h
      cases h
      have hst : 0 ≤ stepTo a0 a1 ∧ stepTo a0 a1 < 2^a0.size := by unfold stepTo; split <;> omega
      have hn := hR.1.1
      have hn2 := hR.1.2.1
      have U := fun W => hanoi_Unrank.calls (a0.size : Int) (stepTo a0 a1) ⟨(unr a0.size (stepTo a0 a1).toNat).toArray⟩ 0 W (by
        unfold hanoi_Unrank.f
        rw [if_neg (by rw [Int.toNat_natCast]; omega), Int.toNat_natCast])
      have hcmp : rkOf a0 < rkOf a1 ∨ rkOf a1 < rkOf a0 := by omega
      have hsd : (rkOf a1 < rkOf a0 → stepTo a0 a1 = rkOf a0 - 1) ∧ (rkOf a0 < rkOf a1 → stepTo a0 a1 = rkOf a0 + 1) := ⟨fun q => by unfold stepTo; rw [if_pos q], fun q => by unfold stepTo; rw [if_neg (by omega)]⟩
      have HR0 := Aside0.mk R0
      have HR1 := Aside0.mk R1
      have HU := Aside0.mk U
      have HR := Aside0.mk hR
      have HE := Aside0.mk he
      have HS := Aside0.mk hsd
      have HST := Aside0.mk hst
      have hne : (rkOf a0 == rkOf a1) = false := by simp [he]
      clear R0 R1 U hR he hsd h0 hst
      obtain ⟨T, hT⟩ : ∃ T, (stepTo a0 a1).toNat = T := ⟨_, rfl⟩
      rw [hT] at HU ⊢
      have HTT := Aside0.mk hT
      clear hT
      obtain ⟨l, hl⟩ : ∃ l, unr a0.size T = l := ⟨_, rfl⟩
      rw [hl] at HU ⊢
      have HL := Aside0.mk hl
      clear hl
      -- behind the test which way to go
      have main : ∀ (s : Int), (s = 1 ∨ s = -1) → stepTo a0 a1 = rkOf a0 + s → True := fun _ _ _ => trivial
      clear main
      rcases hcmp with hc | hc
      all_goals
        have hst := HS.out
        first
          | (have hsv := hst.2 (by omega)) 
          | (have hsv := hst.1 (by omega))
        rw [hsv] at HU
        have HST' := HST.out
        rw [hsv] at HST'
        clear HS hst hsv HST
        generalize rkOf a0 = x at *
        generalize rkOf a1 = y at *
        go_enter Tryd.func37, Tryd.ntmps37
        go_wp2_with (go_at_call 71; refine O.out.mono ?_; rintro e w1 ⟨rfl, hb⟩)
        refine (HR0.out _).mono ?_
        rintro e w2 ⟨rfl, hb2⟩
        go_wp2_with fail
        refine (HR1.out _).mono ?_
        rintro e w3 ⟨rfl, hb3⟩
        go_wp2_with fail
        refine (HU.out _).mono ?_
        rintro e w4 ⟨rfl, hb4⟩
        have HB := Aside0.mk (below_then (below_then (below_then hb hb.size hb2) (by have := hb.size; have := hb2.size; omega) hb3) (by have := hb.size; have := hb2.size; have := hb3.size; omega) hb4)
        have hsz4 : w.heap.size ≤ w4.heap.size := by have := hb.size; have := hb2.size; have := hb3.size; have := hb4.size; omega
        clear hb hb2 hb3 hb4
        have hll : l.length = a0.size := by rw [← HL.out]; exact unr_length _ _
        have hlb : ∀ p, p < a0.size → l.getD p 0 = 48 ∨ l.getD p 0 = 49 := fun p hp => by rw [← HL.out, unr_get _ _ _ hp]; exact ub_48 _ _
        have HLB := Aside0.mk hlb
        have HLL := Aside0.mk hll
        clear hll hlb
        go_wp2
        go_loopw [12] (fun o wr => ∃ pos : Nat, pos ≤ a0.size ∧ o = .int .i64 (ld l a0.data.toList pos : Nat) ∧ wr.heap[w4.heap.size]? = some (.stringIter ⟨l.toArray⟩ pos) ∧ Below w.heap.size w wr) (fun _ wr => a0.size - wr.iterPos w4.heap.size)
        case atStart => exact ⟨0, by omega, rfl, World.iter_heap _ _ _, HB.out.alloc (by omega) _⟩
        case round =>
          obtain ⟨pos, hpos, rfl, hit, hbw⟩ := hrel
          have hsz : w4.heap.size < wr.heap.size := (Array.getElem?_eq_some_iff.1 hit).1
          have hss : (⟨l.toArray⟩ : ByteArray).size = a0.size := by show l.toArray.size = _; simp [HLL.out]
          by_cases hp : pos < a0.size
          · have hp' : pos < (⟨l.toArray⟩ : ByteArray).size := by omega
            have hb1 := byte_at ⟨l.toArray⟩ pos hp'
            have hb1' : (⟨l.toArray⟩ : ByteArray).data.toList.getD pos 0 = l.getD pos 0 := by simp
            rw [hb1'] at hb1
            have hasc : ((⟨l.toArray⟩ : ByteArray)[pos]'hp').toNat < 128 := by rw [hb1]; rcases HLB.out pos hp with e | e <;> rw [e] <;> decide
            have hnx : ∀ ty, (Instr.next (.pointer (some ⟨w4.heap.size, 0, none⟩)) true ty).run Tryd.prog wr = _ := fun ty => Lib.run_next_ascii_at wr w4.heap.size ⟨l.toArray⟩ pos ty hit hp' hasc
            have hit2 := Lib.iterAt_heap wr w4.heap.size ⟨l.toArray⟩ pos (pos + 1) hit
            have hbw2 := Lib.below_iterAt hbw (k := w4.heap.size) (by omega) ⟨l.toArray⟩ (pos + 1)
            obtain ⟨W5, hW5⟩ : ∃ W5, wr.iterAt w4.heap.size ⟨l.toArray⟩ (pos + 1) = W5 := ⟨_, rfl⟩
            rw [hW5] at hit2 hbw2 hnx
            rw [hb1] at hnx hasc
            have hst := ld_step l a0.data.toList pos
            rw [← byte_at a0 pos hp] at hst
            have HX := Aside0.mk (And.intro hit2 (And.intro hbw2 (And.intro hit hst)))
            clear hit2 hbw2 hit hst hW5 hbw hb1 hb1' hss
            generalize ld l a0.data.toList pos = m at *
            generalize (l.getD pos 0).toNat = d at *
            by_cases hd : d = (a0[pos]'hp).toNat
            · have hd1 : ((d : Int) != ((a0[pos]'hp).toNat : Int)) = false := by simp [hd]
              have HD := Aside0.mk hd
              clear hd
              go_wp2
              go_roundw
              case rel =>
                obtain ⟨x1, x2, x3, x4⟩ := HX.out
                exact ⟨pos + 1, by omega, by rw [x4, if_neg (by simp [HD.out])], x1, x2⟩
              case measure =>
                obtain ⟨x1, x2, x3, x4⟩ := HX.out
                unfold World.iterPos
                rw [x1, x3]; simp only; omega
            · have hd1 : ((d : Int) != ((a0[pos]'hp).toNat : Int)) = true := by simp; omega
              have HD := Aside0.mk hd
              clear hd
              go_wp2
              go_roundw
              case rel =>
                obtain ⟨x1, x2, x3, x4⟩ := HX.out
                exact ⟨pos + 1, by omega, by rw [x4, if_pos HD.out], x1, x2⟩
              case measure =>
                obtain ⟨x1, x2, x3, x4⟩ := HX.out
                unfold World.iterPos
                rw [x1, x3]; simp only; omega
          · have hnx : ∀ ty, (Instr.next (.pointer (some ⟨w4.heap.size, 0, none⟩)) true ty).run Tryd.prog wr = _ := fun ty => Lib.run_next_end_at wr w4.heap.size ⟨l.toArray⟩ pos ty hit (by omega)
            obtain rfl : pos = a0.size := by omega
            go_wp2
            go_ret2
            exact ⟨rfl, hbw⟩
  · rw [if_pos h0] at h
    cases h
    have hz : openR a0 a1 = 31 ∨ openR a0 a1 = 6 := by
      unfold openR at *
      by_cases x1 : isR a0
      · by_cases x2 : isR a1
        · by_cases x3 : a0.size = a1.size
          · simp [x1, x2, x3] at h0
          · simp [x1, x2, x3]
        · simp [x1, x2]
      · simp [x1]
    have h9 : (openR a0 a1 != 0) = true := by simp [h0]
    clear hz h0
    generalize openR a0 a1 = x at *
    go_enter Tryd.func37, Tryd.ntmps37
    go_wp2_with (go_at_call 71; refine O.out.mono ?_; rintro e w1 ⟨rfl, hb⟩)
    go_ret2
    exact ⟨rfl, hb⟩
end Go.Proofs.YtnaaomhmoamfpaaDoor.G
/- Frame's numbers, as plain numbers. -/
namespace Go.Proofs.YtnaaomhmoamfpaaDoor.Hn
set_option linter.unusedVariables false
set_option linter.unusedSimpArgs false
set_option linter.unusedSectionVars false
open Go.RowKit Go.Proofs.YtnaaomhmoamfpaaDoorW.PrintWords

/-- the least of f 1, .., f k, and where it is met first -/
def bl (f : Nat → Int) : Nat → Int × Nat
  | 0 => (0, 0)
  | k+1 => if k = 0 ∨ f (k+1) < (bl f k).1 then (f (k+1), k+1) else bl f k
theorem bl_congr {f g : Nat → Int} {k : Nat} (h : ∀ i, 1 ≤ i → i ≤ k → f i = g i) : bl f k = bl g k := by
  induction k with
  | zero => rfl
  | succ k ih => unfold bl; rw [ih (fun i a b => h i a (by omega)), h (k+1) (by omega) (by omega)]
theorem bl_le (f : Nat → Int) (k : Nat) : ∀ i, 1 ≤ i → i ≤ k → (bl f k).1 ≤ f i := by
  induction k with
  | zero => intro i _ _; omega
  | succ k ih =>
    intro i h1 h2
    unfold bl
    by_cases e : i = k + 1
    · subst e; split
      · exact Int.le_refl _
      · rename_i h; omega
    · have := ih i h1 (by omega)
      split
      · rename_i h; rcases h with h | h
        · omega
        · show f (k+1) ≤ _; omega
      · exact this
theorem bl_at (f : Nat → Int) (k : Nat) (hk : 1 ≤ k) : 1 ≤ (bl f k).2 ∧ (bl f k).2 ≤ k ∧ (bl f k).1 = f (bl f k).2 := by
  induction k with
  | zero => omega
  | succ k ih =>
    unfold bl; split
    · exact ⟨by omega, Nat.le_refl _, rfl⟩
    · rename_i h
      have := ih (by omega)
      exact ⟨this.1, by omega, this.2.2⟩

def rowL (prev : Nat → Int) : Nat → List Int
  | 0 => [0]
  | d+1 => rowL prev d ++ [if d = 0 then 1 else (bl (fun k => 2 * (rowL prev d).getD k 0 + prev (d+1-k)) d).1]
def fr : Nat → Nat → Int
  | 0, d => 2^d - 1
  | m+1, d => (rowL (fr m) d).getD d 0

theorem rowL_len (prev : Nat → Int) (d : Nat) : (rowL prev d).length = d + 1 := by
  induction d with
  | zero => rfl
  | succ d ih => simp [rowL, ih]
theorem rowL_get (prev : Nat → Int) (d k : Nat) (h : k ≤ d) : (rowL prev d).getD k 0 = (rowL prev k).getD k 0 := by
  induction d with
  | zero => have : k = 0 := by omega
            subst this; rfl
  | succ d ih =>
    by_cases e : k = d + 1
    · subst e; rfl
    · rw [rowL, List.getD_eq_getElem?_getD, List.getElem?_append_left (by rw [rowL_len]; omega), ← List.getD_eq_getElem?_getD]
      exact ih (by omega)
theorem fr_zero (m : Nat) : fr m 0 = 0 := by cases m <;> simp [fr, rowL]
theorem fr_one (m : Nat) : fr m 1 = 1 := by cases m <;> simp [fr, rowL]
def fx (m d k : Nat) : Int := 2 * fr (m+1) k + fr m (d - k)
theorem fr_step (m d : Nat) (hd : 2 ≤ d) : fr (m+1) d = (bl (fx m d) (d - 1)).1 := by
  obtain ⟨d, rfl⟩ : ∃ e, d = e + 2 := ⟨d - 2, by omega⟩
  rw [fr, rowL, List.getD_eq_getElem?_getD, List.getElem?_append_right (by rw [rowL_len]; omega), rowL_len]
  simp only [Nat.sub_self, List.getElem?_cons_zero, Option.getD_some]
  rw [if_neg (by omega)]
  refine congrArg Prod.fst (bl_congr fun i h1 h2 => ?_)
  unfold fx
  rw [fr, rowL_get _ _ _ (by omega)]
def fi (m d : Nat) : Nat := (bl (fx m d) (d - 1)).2

theorem fr_bound (m : Nat) : ∀ d, 0 ≤ fr m d ∧ fr m d ≤ 2^d - 1 := by
  induction m with
  | zero => intro d; have := pow_pos' d; simp [fr]; omega
  | succ m ih =>
    intro d
    induction d using Nat.strongRecOn with
    | _ d ihd =>
      by_cases h0 : d = 0
      · subst h0; simp [fr_zero]
      by_cases h1 : d = 1
      · subst h1; simp [fr_one]
      rw [fr_step m d (by omega)]
      have ha := bl_at (fx m d) (d - 1) (by omega)
      have hl := bl_le (fx m d) (d - 1) (d - 1) (by omega) (by omega)
      constructor
      · rw [ha.2.2]
        show 0 ≤ 2 * fr (m+1) (bl (fx m d) (d-1)).2 + fr m (d - (bl (fx m d) (d-1)).2)
        have := (ihd (bl (fx m d) (d-1)).2 (by omega)).1
        have := (ih (d - (bl (fx m d) (d-1)).2)).1
        omega
      · refine Int.le_trans hl ?_
        show 2 * fr (m+1) (d-1) + fr m (d - (d-1)) ≤ _
        have a := (ihd (d-1) (by omega)).2
        have b := (ih (d - (d-1))).2
        rw [show d - (d-1) = 1 by omega] at b ⊢
        have e : (2:Int)^d = 2^(d-1) * 2 := by rw [show d = d - 1 + 1 by omega, Int.pow_succ]; simp
        rw [e]; omega
end Go.Proofs.YtnaaomhmoamfpaaDoor.Hn
/- Frame's numbers: what the calls of frames and Frame come to. -/
namespace Go.Proofs.YtnaaomhmoamfpaaDoor.G
set_option linter.unusedVariables false
set_option linter.unusedSimpArgs false
set_option linter.unusedSectionVars false
open Go.Proofs.YtnaaomhmoamfpaaDoor.Q Go.Proofs.YtnaaomhmoamfpaaDoor.Hn Go.Proofs.YtnaaomhmoamfpaaDoor.K
open Go.RowKit Go.Proofs.YtnaaomhmoamfpaaDoorW.PrintWords Go.Proofs.YtnaaomhmoamfpaaDoorW.PrintLast Go.Proofs.YtnaaomhmoamfpaaDoorW.PrintMore

theorem info96 : (Tryd.prog.info? 96).map (fun i => (i.zero, i.size, i.bytes)) = some (some (.agg #[.int .i64 0, .int .i64 0, .int .i64 0, .int .i64 0, .int .i64 0, .int .i64 0, .int .i64 0, .int .i64 0, .int .i64 0]), 9, 72) := by kernel_rfl
theorem info122 : (Tryd.prog.info? 122).map (fun i => (i.zero, i.size, i.bytes)) = some (some (.agg #[.int .i64 0, .int .i64 0, .int .i64 0, .int .i64 0, .int .i64 0, .int .i64 0, .int .i64 0, .int .i64 0, .int .i64 0]), 9, 72) := by kernel_rfl

theorem mk9 (t e : TypeId) (z : Value) (ht : Tryd.prog.underlying t = some (.slice e)) (hinfo : (Tryd.prog.info? e).map (fun i => (i.zero, i.size, i.bytes)) = some (some z, 9, 72))
    (hz : z.cells = Array.replicate 9 (.int .i64 0)) (n : Nat) (hn : n ≤ 40) (W : World) :
    (Instr.makeSlice t (.int .i64 ((n : Int) + 1)) (.int .i64 ((n : Int) + 1))).run Tryd.prog W = .ok (.slice (some ⟨W.heap.size, 0, none⟩) (n+1) (n+1)) (W.alloc (.cells (Array.replicate ((n+1)*9) (.int .i64 0)) e)) := by
  obtain ⟨i, hi, hzz⟩ := Option.map_eq_some_iff.1 hinfo
  simp only [Prod.mk.injEq] at hzz
  obtain ⟨hz0, hs, hb⟩ := hzz
  have h := run_make (P := Tryd.prog) W t e i z ht hi hz0 .i64 .i64 ((n : Int) + 1) ((n : Int) + 1) (by omega) (Int.le_refl _) (by rw [hb]; omega) (by omega)
  have e1 : ((n : Int) + 1).toNat = n + 1 := by omega
  rw [e1, hs, hz] at h
  have e2 : madeCells (Array.replicate 9 (Value.int .i64 0)) ((n+1)*9) = Array.replicate ((n+1)*9) (Value.int .i64 0) := by
    apply Array.ext_getElem?
    intro i
    by_cases hi : i < (n+1)*9
    · simp [madeCells, hi]
      have : i % 9 < 9 := Nat.mod_lt _ (by omega)
      generalize i % 9 = j at *
      match j, this with
      | 0, _ | 1, _ | 2, _ | 3, _ | 4, _ | 5, _ | 6, _ | 7, _ | 8, _ => rfl
    · simp [madeCells, hi]
  rw [e2] at h
  exact h

/-- a table of n + 1 rows of nine numbers -/
def Mat (w : World) (b : Nat) (t : TypeId) (n : Nat) (num : Nat → Nat → Int) : Prop :=
  ∃ cs, Blk w b cs t ∧ ∀ d q, d ≤ n → q < 9 → cs[d * 9 + q]? = some (.int .i64 (num d q))
theorem Mat.cell {w : World} {b : Nat} {t : TypeId} {n : Nat} {num : Nat → Nat → Int} (h : Mat w b t n num) (d q : Nat) (hd : d ≤ n) (hq : q < 9) : w.cell? ⟨b, d * 9 + q, none⟩ = some (.int .i64 (num d q)) := by
  obtain ⟨cs, h1, h2⟩ := h
  exact h1.cell _ (h2 d q hd hq)
theorem Mat.free {w : World} {b : Nat} {t : TypeId} {n : Nat} {num : Nat → Nat → Int} (h : Mat w b t n num) (i : Nat) : w.frozen? ⟨b, i, none⟩ = false := by
  obtain ⟨cs, h1, h2⟩ := h
  exact h1.free _
theorem Mat.lt {w : World} {b : Nat} {t : TypeId} {n : Nat} {num : Nat → Nat → Int} (h : Mat w b t n num) : b < w.heap.size := by
  obtain ⟨cs, h1, h2⟩ := h
  exact h1.lt
def up2 (num : Nat → Nat → Int) (d q : Nat) (v : Int) : Nat → Nat → Int := fun d' q' => if d' = d ∧ q' = q then v else num d' q'
theorem Mat.set {w : World} {b : Nat} {t : TypeId} {n : Nat} {num : Nat → Nat → Int} (h : Mat w b t n num) (d q : Nat) (hd : d ≤ n) (hq : q < 9) (v : Int) : Mat (w.setCell ⟨b, d * 9 + q, none⟩ (.int .i64 v)) b t n (up2 num d q v) := by
  obtain ⟨cs, h1, h2⟩ := h
  refine ⟨_, h1.set _ _, fun d' q' hd' hq' => ?_⟩
  have hlt : d * 9 + q < cs.size := (Array.getElem?_eq_some_iff.1 (h2 d q hd hq)).1
  rw [Array.getElem?_setIfInBounds]
  unfold up2
  by_cases e : d' = d ∧ q' = q
  · obtain ⟨rfl, rfl⟩ := e
    simp [hlt]
  · rw [if_neg (by omega), if_neg e]; exact h2 d' q' hd' hq'
theorem Mat.other {w : World} {b : Nat} {t : TypeId} {n : Nat} {num : Nat → Nat → Int} (h : Mat w b t n num) {a : Addr} (hne : b ≠ a.block) (v : Value) : Mat (w.setCell a v) b t n num := by
  obtain ⟨cs, h1, h2⟩ := h
  exact ⟨cs, h1.setOther hne v, h2⟩
theorem Mat.grow {w : World} {b : Nat} {t : TypeId} {n : Nat} {num : Nat → Nat → Int} (h : Mat w b t n num) (o : Obj) : Mat (w.alloc o) b t n num := by
  obtain ⟨cs, h1, h2⟩ := h
  exact ⟨cs, h1.alloc o, h2⟩
theorem Mat.drawn {w w1 : World} {b : Nat} {t : TypeId} {n : Nat} {num : Nat → Nat → Int} (h : Mat w b t n num) (hd : Drawn0 w w1) : Mat w1 b t n num := by
  obtain ⟨cs, h1, h2⟩ := h
  exact ⟨cs, h1.drawn hd, h2⟩
theorem Mat.congr {w : World} {b : Nat} {t : TypeId} {n : Nat} {num num' : Nat → Nat → Int} (h : Mat w b t n num) (he : ∀ d q, d ≤ n → q < 9 → num d q = num' d q) : Mat w b t n num' := by
  obtain ⟨cs, h1, h2⟩ := h
  exact ⟨cs, h1, fun d q a b => by rw [← he d q a b]; exact h2 d q a b⟩
theorem Mat.new (w : World) (t : TypeId) (n : Nat) : Mat (w.alloc (.cells (Array.replicate ((n+1)*9) (.int .i64 0)) t)) w.heap.size t n (fun _ _ => 0) :=
  ⟨_, Blk.new _ _ _, fun d q hd hq => by rw [Array.getElem?_replicate, if_pos (by omega)]⟩

/-- what the tables hold when the rows below k are through, and those of row k below column q -/
def S (n p k qq : Nat) (num fst : Nat → Nat → Int) : Prop :=
  (∀ d q, d ≤ n → 3 ≤ q → q ≤ p → (d < k ∨ d = k ∧ q < qq) → num d q = fr (q - 3) d) ∧
  (∀ d q, 2 ≤ d → d ≤ n → 4 ≤ q → q ≤ p → (d < k ∨ d = k ∧ q < qq) → fst d q = (fi (q - 4) d : Nat))
theorem S_zero (n p : Nat) : S n p 1 3 (fun _ _ => 0) (fun _ _ => 0) := by
  refine ⟨fun d q _ h1 h2 h3 => ?_, fun d q h0 _ h1 h2 h3 => by omega⟩
  have : d = 0 := by omega
  subst this; rw [fr_zero]
theorem S_num {n p k qq : Nat} {num fst : Nat → Nat → Int} (h : S n p k qq num fst) (v : Int) : S n p k qq (up2 num k qq v) fst := by
  refine ⟨fun d q h0 h1 h2 h3 => ?_, h.2⟩
  rw [show up2 num k qq v d q = num d q by unfold up2; rw [if_neg (by omega)]]
  exact h.1 d q h0 h1 h2 h3
theorem S_fst {n p k qq : Nat} {num fst : Nat → Nat → Int} (h : S n p k qq num fst) (v : Int) : S n p k qq num (up2 fst k qq v) := by
  refine ⟨h.1, fun d q h0 h1 h2 h3 h4 => ?_⟩
  rw [show up2 fst k qq v d q = fst d q by unfold up2; rw [if_neg (by omega)]]
  exact h.2 d q h0 h1 h2 h3 h4
theorem S_first {n p k : Nat} {num fst : Nat → Nat → Int} (h : S n p k 3 num fst) : S n p k 4 (up2 num k 3 (2^k - 1)) fst := by
  refine ⟨fun d q h0 h1 h2 h3 => ?_, fun d q h0 h1 h2 h3 h4 => h.2 d q h0 h1 h2 h3 (by omega)⟩
  unfold up2
  by_cases e : d = k ∧ q = 3
  · obtain ⟨rfl, rfl⟩ := e; simp [fr]
  · rw [if_neg e]; exact h.1 d q h0 h1 h2 (by omega)
theorem S_one {n p qq : Nat} {num fst : Nat → Nat → Int} (h : S n p 1 qq num fst) : S n p 1 (qq+1) (up2 num 1 qq 1) fst := by
  refine ⟨fun d q h0 h1 h2 h3 => ?_, fun d q h0 h1 h2 h3 h4 => h.2 d q h0 h1 h2 h3 (by omega)⟩
  unfold up2
  by_cases e : d = 1 ∧ q = qq
  · obtain ⟨rfl, rfl⟩ := e; simp [fr_one]
  · rw [if_neg e]; exact h.1 d q h0 h1 h2 (by omega)
theorem S_next {n p k m : Nat} {num fst : Nat → Nat → Int} (h : S n p k (m+4) num fst) (hk : 2 ≤ k) (h1 : num k (m+4) = (bl (fx m k) (k-1)).1) (h2 : fst k (m+4) = ((bl (fx m k) (k-1)).2 : Nat)) : S n p k (m+5) num fst := by
  refine ⟨fun d q a b c e => ?_, fun d q a b c e g => ?_⟩
  · by_cases x : d = k ∧ q = m+4
    · obtain ⟨rfl, rfl⟩ := x; rw [h1, show m + 4 - 3 = m + 1 by omega, fr_step m d hk]
    · exact h.1 d q a b c (by omega)
  · by_cases x : d = k ∧ q = m+4
    · obtain ⟨rfl, rfl⟩ := x; rw [h2]; rfl
    · exact h.2 d q a b c e (by omega)
theorem S_row {n p k qq : Nat} {num fst : Nat → Nat → Int} (h : S n p k qq num fst) (hq : p < qq) : S n p (k+1) 3 num fst :=
  ⟨fun d q a b c e => h.1 d q a b c (by omega), fun d q a b c e g => h.2 d q a b c e (by omega)⟩

theorem CallsMono {f : Nat} {args : Array Value} {W : World} {v : Value} (h : Calls Tryd.prog f args W fun e w' => e = .returned v ∧ Drawn0 W w') : Calls Tryd.prog f args W fun e w' => e = .returned v ∧ ∃ m, w' = W.drewN m :=
  h.mono fun _ _ ⟨a, b⟩ => ⟨a, b.out⟩
theorem all_calls (k : Nat) (hk : k ≤ 40) (W : World) : Calls Tryd.prog 90 #[.int .i64 (k : Int)] W fun e w' => e = .returned (.int .i64 (2^k - 1)) ∧ ∃ m, w' = W.drewN m := by
  have hp := pow_le hk; have hp1 := pow_pos' k; rw [p40] at hp
  exact CallsMono (hanoi_all.calls (k : Int) (2^k - 1) W (by
    unfold hanoi_all.f
    rw [u64w (by omega) (by omega), if_pos (by omega), shl1 k (by omega), w64 (by omega) (by omega)]))

/-- the two stores of a round, in whichever order -/
theorem two_set {n p k m : Nat} {num fst : Nat → Nat → Int} {w wr : World} {bn bf : Nat} (hne : bn ≠ bf) (hB : w.heap.size ≤ bn ∧ w.heap.size ≤ bf) (hk : k ≤ n) (hm : m + 4 < 9) (V I : Int) (q : Nat)
    (h : Mat wr bn 96 n num ∧ Mat wr bf 122 n fst ∧ S n p k (m+4) num fst ∧ Below w.heap.size w wr) (W : World)
    (hW : W = ((wr.drewN q).setCell ⟨bn, k * 9 + (m + 4), none⟩ (.int .i64 V)).setCell ⟨bf, k * 9 + (m + 4), none⟩ (.int .i64 I) ∨ W = ((wr.drewN q).setCell ⟨bf, k * 9 + (m + 4), none⟩ (.int .i64 I)).setCell ⟨bn, k * 9 + (m + 4), none⟩ (.int .i64 V)) :
    (Mat W bn 96 n (up2 num k (m+4) V) ∧ Mat W bf 122 n (up2 fst k (m+4) I) ∧ S n p k (m+4) (up2 num k (m+4) V) (up2 fst k (m+4) I) ∧ Below w.heap.size w W) := by
  obtain ⟨a1, a2, a3, a4⟩ := h
  have b1 : Mat (wr.drewN q) bn 96 n num := a1.drawn ⟨⟨_, rfl⟩⟩
  have b2 : Mat (wr.drewN q) bf 122 n fst := a2.drawn ⟨⟨_, rfl⟩⟩
  rcases hW with rfl | rfl
  · exact ⟨(b1.set k (m+4) hk hm V).other hne _, (b2.other (fun e => hne e.symm) _).set k (m+4) hk hm I, S_fst (S_num a3 V) I,
      ((pw_below_drewN a4 q).setCell (p := ⟨bn, k * 9 + (m + 4), none⟩) hB.1 _).setCell (p := ⟨bf, k * 9 + (m + 4), none⟩) hB.2 _⟩
  · exact ⟨(b1.other hne _).set k (m+4) hk hm V, (b2.set k (m+4) hk hm I).other (fun e => hne e.symm) _, S_fst (S_num a3 V) I,
      ((pw_below_drewN a4 q).setCell (p := ⟨bf, k * 9 + (m + 4), none⟩) hB.2 _).setCell (p := ⟨bn, k * 9 + (m + 4), none⟩) hB.1 _⟩
theorem up2_at (num : Nat → Nat → Int) (d q : Nat) (v : Int) : up2 num d q v d q = v := by simp [up2]

def FramesPost (n p : Nat) (w : World) (e : Ending) (w' : World) : Prop :=
  ∃ bn bf num fst, bn ≠ bf ∧ e = .returned (.tuple #[.slice (some ⟨bn, 0, none⟩) (n+1) (n+1), .slice (some ⟨bf, 0, none⟩) (n+1) (n+1)]) ∧ Mat w' bn 96 n num ∧ Mat w' bf 122 n fst ∧ S n p (n+1) 3 num fst ∧ Below w.heap.size w w'

set_option maxHeartbeats 4000000 in
set_option maxRecDepth 100000 in
theorem frames_calls (n p : Nat) (w : World) (hn : n ≤ 40) (hp : 3 ≤ p) (hp2 : p ≤ 8) :
    Calls Tryd.prog 66 #[.int .i64 (n : Int), .int .i64 (p : Int)] w (FramesPost n p w) := by
  have m1 := mk9 92 96 _ Tryd.underlying92 info96 (by rfl) n hn
  have m2 := mk9 93 122 _ Tryd.underlying93 info122 (by rfl) n hn
  have s1 : IntKind.i64.wrap ((n : Int) + 1) = (n : Int) + 1 := by rw [i64_w]; exact w64 (by omega) (by omega)
  go_enter Tryd.func66, Tryd.ntmps66
  go_upto_region 1 with (fail)
  go_cut [6, 7] (fun a b wc => ∃ bn bf : Nat, bn ≠ bf ∧ a = .slice (some ⟨bn, 0, none⟩) (n+1) (n+1) ∧ b = .slice (some ⟨bf, 0, none⟩) (n+1) (n+1) ∧ Aside0 (w.heap.size ≤ bn ∧ w.heap.size ≤ bf) ∧ Aside0 (Mat wc bn 96 n (fun _ _ => 0)) ∧ Aside0 (Mat wc bf 122 n (fun _ _ => 0)) ∧ Aside0 (Below w.heap.size w wc))
  case first =>
    go_region
    · go_wp2
      go_meet
      case rel =>
        refine ⟨w.heap.size, w.heap.size + 1, by omega, rfl, rfl, ⟨by omega, by omega⟩, ⟨?_⟩, ⟨?_⟩, ⟨?_⟩⟩
        · exact ((Mat.new w 96 n).grow _).drawn ⟨⟨1, rfl⟩⟩
        · have := (Mat.new (w.alloc (.cells (Array.replicate ((n+1)*9) (.int .i64 0)) 96)) 122 n)
          rw [World.size_alloc] at this
          exact this.drawn ⟨⟨1, rfl⟩⟩
        · exact (((Below.refl _ w).alloc (Nat.le_refl _) _).alloc (by simp) _).drew
    · go_wp2
      go_meet
      case rel =>
        refine ⟨w.heap.size + 1, w.heap.size, by omega, rfl, rfl, ⟨by omega, by omega⟩, ⟨?_⟩, ⟨?_⟩, ⟨?_⟩⟩
        · have := (Mat.new (w.alloc (.cells (Array.replicate ((n+1)*9) (.int .i64 0)) 122)) 96 n)
          rw [World.size_alloc] at this
          exact this.drawn ⟨⟨1, rfl⟩⟩
        · exact ((Mat.new w 122 n).grow _).drawn ⟨⟨1, rfl⟩⟩
        · exact (((Below.refl _ w).alloc (Nat.le_refl _) _).alloc (by simp) _).drew
  case rest =>
    obtain ⟨bn, bf, hne, rfl, rfl, HBB, HM1, HM2, HBW⟩ := hcut
    clear m1 m2 s1
    go_wp2
    go_loopw [8] (fun d wr => ∃ (k : Nat) (num fst : Nat → Nat → Int), 1 ≤ k ∧ k ≤ n + 1 ∧ d = .int .i64 k ∧ Aside0 (Mat wr bn 96 n num ∧ Mat wr bf 122 n fst ∧ S n p k 3 num fst ∧ Below w.heap.size w wr)) (fun d _ => n + 1 - (intOf d).toNat)
    case atStart => exact ⟨1, fun _ _ => 0, fun _ _ => 0, by omega, by omega, rfl, ⟨HM1.out, HM2.out, S_zero n p, HBW.out⟩⟩
    case round =>
      obtain ⟨k, num, fst, hk1, hk2, rfl, HR⟩ := hrel
      clear HM1 HM2 HBW
      by_cases hk : k ≤ n
      · have hcell := HR.out.1.cell k 3 hk (by omega)
        have hfree := HR.out.1.free (k * 9 + 3)
        have pk := pow_le (show k ≤ 40 by omega)
        have pk1 := pow_pos' k
        rw [p40] at pk
        go_upto_region 5 with (fail)
        go_cut [] (fun wc => Aside0 (Mat wc bn 96 n (up2 num k 3 (2^k - 1)) ∧ Mat wc bf 122 n fst ∧ S n p k 4 (up2 num k 3 (2^k - 1)) fst ∧ Below w.heap.size w wc))
        case first =>
          go_region_with (go_at_call 90; refine (all_calls k (by omega) _).mono ?_; rintro e w' ⟨rfl, ⟨m, rfl⟩⟩)
          all_goals go_wp2
          all_goals go_meet
          all_goals
            obtain ⟨a1, a2, a3, a4⟩ := HR.out
            exact ⟨(a1.drawn ⟨⟨_, rfl⟩⟩).set k 3 hk (by omega) _, (a2.drawn ⟨⟨_, rfl⟩⟩).other (fun e => hne e.symm) _, S_first a3, (pw_below_drewN a4 _).setCell (p := ⟨bn, k * 9 + 3, none⟩) HBB.out.1 _⟩
        case rest =>
          clear HR hcell hfree
          have HC := hcut
          clear hcut
          go_wp2
          go_loopw [9] (fun q wr => ∃ (m : Nat) (num fst : Nat → Nat → Int), m + 4 ≤ p + 1 ∧ q = .int .i64 ((m : Int) + 4) ∧ Aside0 (Mat wr bn 96 n num ∧ Mat wr bf 122 n fst ∧ S n p k (m+4) num fst ∧ Below w.heap.size w wr)) (fun q _ => p + 1 - (intOf q).toNat)
          case atStart => exact ⟨0, _, _, by omega, rfl, HC⟩
          case round =>
            clear HC num fst
            obtain ⟨m, num, fst, hm, rfl, HR⟩ := hrel
            by_cases hq : m + 4 ≤ p
            · by_cases h1 : k = 1
              · subst h1
                have hcell := HR.out.1.cell 1 (m+4) hk (by omega)
                have hfree := HR.out.1.free (1 * 9 + (m+4))
                go_wp2
                go_roundw
                case rel =>
                  obtain ⟨a1, a2, a3, a4⟩ := HR.out
                  exact ⟨m + 1, up2 num 1 (m+4) 1, fst, by omega, by go_num, ⟨a1.set 1 (m+4) hk (by omega) 1, a2.other (fun e => hne e.symm) _, S_one a3, a4.setCell (p := ⟨bn, 1 * 9 + (m+4), none⟩) HBB.out.1 _⟩⟩
                case measure => simp [intOf]; omega
              · have h1' : ((k : Int) == 1) = false := by simp; omega
                go_wp2
                go_loopw [10] (fun j wr => ∃ (i : Nat) (num fst : Nat → Nat → Int), 1 ≤ i ∧ i ≤ k ∧ j = .int .i64 i ∧ Aside0 ((Mat wr bn 96 n num ∧ Mat wr bf 122 n fst ∧ S n p k (m+4) num fst ∧ Below w.heap.size w wr) ∧ (1 < i → num k (m+4) = (bl (fx m k) (i-1)).1 ∧ fst k (m+4) = ((bl (fx m k) (i-1)).2 : Nat)))) (fun j _ => k - (intOf j).toNat)
                case atStart => exact ⟨1, num, fst, by omega, by omega, rfl, ⟨HR.out, fun h => by omega⟩⟩
                case round =>
                  clear HR num fst
                  obtain ⟨i, num, fst, hi1, hi2, rfl, HR⟩ := hrel
                  by_cases hik : i < k
                  · have hc1 := HR.out.1.1.cell i (m+4) (by omega) (by omega)
                    have hc2 := HR.out.1.1.cell (k-i) (m+3) (by omega) (by omega)
                    have hc3 := HR.out.1.1.cell k (m+4) hk (by omega)
                    have hf3 := HR.out.1.1.free (k * 9 + (m+4))
                    have hc4 := HR.out.1.2.1.cell k (m+4) hk (by omega)
                    have hf4 := HR.out.1.2.1.free (k * 9 + (m+4))
                    rw [HR.out.1.2.2.1.1 i (m+4) (by omega) (by omega) hq (by omega), show m + 4 - 3 = m + 1 by omega] at hc1
                    rw [HR.out.1.2.2.1.1 (k-i) (m+3) (by omega) (by omega) (by omega) (by omega), show m + 3 - 3 = m by omega] at hc2
                    have b1 := fr_bound (m+1) i
                    have b2 := fr_bound m (k-i)
                    have b3 := pow_le (show i ≤ 40 by omega)
                    have b4 := pow_le (show k - i ≤ 40 by omega)
                    rw [p40] at b3 b4
                    have hfx : fx m k i = 2 * fr (m+1) i + fr m (k-i) := rfl
                    have HFX := Aside0.mk hfx
                    clear hfx
                    generalize fr (m+1) i = x at *
                    generalize fr m (k-i) = y at *
                    have g1 : IntKind.i64.wrap (2 * x) = 2 * x := by rw [i64_w]; exact w64 (by omega) (by omega)
                    have g2 : IntKind.i64.wrap ((k : Int) - (i : Int)) = (k : Int) - (i : Int) := by rw [i64_w]; exact w64 (by omega) (by omega)
                    have g3 : IntKind.i64.wrap ((m : Int) + 4 - 1) = (m : Int) + 3 := by rw [i64_w]; rw [w64 (by omega) (by omega)]; omega
                    have g4 : IntKind.i64.wrap (2 * x + y) = 2 * x + y := by rw [i64_w]; exact w64 (by omega) (by omega)
                    have g5 : ((k : Int) - (i : Int)).toNat = k - i := by omega
                    have g6 : 0 ≤ (k : Int) - (i : Int) := by omega
                    have g7 : (k : Int) - (i : Int) < (n : Int) + 1 := by omega
                    have g8 : ((m : Int) + 4).toNat = m + 4 := by omega
                    have g9 : ((m : Int) + 3).toNat = m + 3 := by omega
                    have g10 : (m : Int) + 4 < 9 := by omega
                    have g11 : (m : Int) + 3 < 9 := by omega
                    have g12 : 0 ≤ (m : Int) + 4 := by omega
                    have g13 : 0 ≤ (m : Int) + 3 := by omega
                    have g14 : (i : Int) < (n : Int) + 1 := by omega
                    go_wp2
                    go_quiet (fail)
                    clear g1 g2 g3 g4 g5 g6 g7 g8 g9 g10 g11 g12 g13 g14
                    have hbl : bl (fx m k) (i + 1 - 1) = if i = 1 ∨ 2 * x + y < (bl (fx m k) (i-1)).1 then (2 * x + y, i) else bl (fx m k) (i-1) := by
                      obtain ⟨i, rfl⟩ : ∃ j, i = j + 1 := ⟨i - 1, by omega⟩
                      rw [← HFX.out]
                      show bl (fx m k) (i+1) = _
                      rw [bl]
                      simp only [Nat.add_sub_cancel]
                      by_cases e : i = 0
                      · subst e; simp
                      · by_cases e2 : fx m k (i+1) < (bl (fx m k) i).1
                        · rw [if_pos (.inr e2), if_pos (.inr e2)]
                        · rw [if_neg (by omega), if_neg (by omega)]
                    have HBL := Aside0.mk hbl
                    clear hbl
                    have H1 := HR.out.2
                    by_cases i1 : i = 1
                    · have t1 : ((i : Int) == 1) = true := by simp [i1]
                      have HI := Aside0.mk i1
                      clear i1 H1
                      go_wp2
                      go_region
                      all_goals
                        go_wp2
                        go_roundw
                        case rel =>
                          refine ⟨i + 1, up2 num k (m+4) (2 * x + y), up2 fst k (m+4) i, by omega, by omega, by go_num, ⟨two_set hne HBB.out hk (by omega) _ _ _ HR.out.1 _ (by first | exact .inl rfl | exact .inr rfl), fun _ => ?_⟩⟩
                          rw [HBL.out, if_pos (.inl HI.out), up2_at, up2_at]
                          exact ⟨rfl, rfl⟩
                        case measure => simp [intOf]; omega
                    · have H2 := H1 (by omega)
                      have HI := Aside0.mk i1
                      have t1 : ((i : Int) == 1) = false := by simp; omega
                      have HH := Aside0.mk H2
                      clear H1 H2
                      obtain ⟨z, hz⟩ : ∃ z, num k (m+4) = z := ⟨_, rfl⟩
                      rw [hz] at hc3
                      have HZ := Aside0.mk hz
                      clear hz i1
                      by_cases i2 : 2 * x + y < z
                      · have t2 : decide (2 * x + y < z) = true := by simp [i2]
                        have HI2 := Aside0.mk i2
                        clear i2
                        go_wp2
                        go_region
                        all_goals
                          go_wp2
                          go_roundw
                          case rel =>
                            refine ⟨i + 1, up2 num k (m+4) (2 * x + y), up2 fst k (m+4) i, by omega, by omega, by go_num, ⟨two_set hne HBB.out hk (by omega) _ _ _ HR.out.1 _ (by first | exact .inl rfl | exact .inr rfl), fun _ => ?_⟩⟩
                            rw [HBL.out, if_pos (.inr (by rw [← HH.out.1, HZ.out]; exact HI2.out)), up2_at, up2_at]
                            exact ⟨rfl, rfl⟩
                          case measure => simp [intOf]; omega
                      · have t2 : decide (2 * x + y < z) = false := by simp; omega
                        have HI2 := Aside0.mk i2
                        clear i2
                        go_wp2
                        go_roundw
                        case rel =>
                          obtain ⟨⟨a1, a2, a3, a4⟩, a5⟩ := HR.out
                          refine ⟨i + 1, num, fst, by omega, by omega, by go_num, ⟨⟨a1.drawn ⟨⟨_, rfl⟩⟩, a2.drawn ⟨⟨_, rfl⟩⟩, a3, pw_below_drewN a4 _⟩, fun _ => ?_⟩⟩
                          rw [HBL.out, if_neg (by rw [← HH.out.1, HZ.out]; intro h; rcases h with h | h; exact HI.out h; exact HI2.out h)]
                          exact HH.out
                        case measure => simp [intOf]; omega
                  · go_wp2
                    go_roundw
                    case rel =>
                      obtain ⟨⟨a1, a2, a3, a4⟩, a5⟩ := HR.out
                      obtain rfl : i = k := by omega
                      have a6 := a5 (by omega)
                      exact ⟨m + 1, num, fst, by omega, by go_num, ⟨a1, a2, S_next a3 (by omega) a6.1 a6.2, a4⟩⟩
                    case measure => simp [intOf]; omega
            · go_wp2
              go_roundw
              case rel =>
                obtain ⟨a1, a2, a3, a4⟩ := HR.out
                exact ⟨k + 1, num, fst, by omega, by omega, by go_num, ⟨a1, a2, S_row a3 (by omega), a4⟩⟩
              case measure => simp [intOf]; omega
      · go_wp2
        go_ret2
        obtain ⟨a1, a2, a3, a4⟩ := HR.out
        obtain rfl : k = n + 1 := by omega
        exact ⟨bn, bf, num, fst, hne, rfl, a1, a2, a3, a4⟩
end Go.Proofs.YtnaaomhmoamfpaaDoor.G
/- Frame's number: what the call of Frame comes to. -/
namespace Go.Proofs.YtnaaomhmoamfpaaDoor.G
set_option linter.unusedVariables false
set_option linter.unusedSimpArgs false
set_option linter.unusedSectionVars false
open Go.Proofs.YtnaaomhmoamfpaaDoor.Q Go.Proofs.YtnaaomhmoamfpaaDoor.Hn Go.Proofs.YtnaaomhmoamfpaaDoor.K
open Go.RowKit Go.Proofs.YtnaaomhmoamfpaaDoorW.PrintWords Go.Proofs.YtnaaomhmoamfpaaDoorW.PrintLast Go.Proofs.YtnaaomhmoamfpaaDoorW.PrintMore

def asked (n p : Int) : Bool := decide (0 ≤ n) && decide (n ≤ 40) && decide (3 ≤ p) && decide (p ≤ 8)
set_option maxHeartbeats 1000000 in
theorem asked_calls (n p : Int) (w : World) : Calls Tryd.prog 65 #[.int .i64 n, .int .i64 p] w fun e w' => e = .returned (.bool (asked n p)) ∧ w' = w := by
  by_cases h1 : 0 ≤ n
  · by_cases h2 : n ≤ 40
    · by_cases h3 : 3 ≤ p
      · by_cases h4 : p ≤ 8
        · have e : asked n p = true := by simp [asked, h1, h2, h3, h4]
          rw [e]; go_enter Tryd.func65, Tryd.ntmps65
          go_wp2; go_ret; exact ⟨rfl, rfl⟩
        · have e : asked n p = false := by simp [asked, h4]
          rw [e]; go_enter Tryd.func65, Tryd.ntmps65
          go_wp2; go_ret; exact ⟨rfl, rfl⟩
      · have e : asked n p = false := by simp [asked, h3]
        rw [e]; go_enter Tryd.func65, Tryd.ntmps65
        go_wp2; go_ret; exact ⟨rfl, rfl⟩
    · have e : asked n p = false := by simp [asked, h2]
      rw [e]; go_enter Tryd.func65, Tryd.ntmps65
      go_wp2; go_ret; exact ⟨rfl, rfl⟩
  · have e : asked n p = false := by simp [asked, h1]
    rw [e]; go_enter Tryd.func65, Tryd.ntmps65
    go_wp2; go_ret; exact ⟨rfl, rfl⟩
theorem asked_iff (n p : Int) : asked n p = true ↔ 0 ≤ n ∧ n ≤ 40 ∧ 3 ≤ p ∧ p ≤ 8 := by simp [asked]; omega

def hanoi_Frame.f (n p : Int) : Option (Int × Int) := if asked n p = true then some (fr (p.toNat - 3) n.toNat, 0) else some (0, 1)
set_option maxHeartbeats 1000000 in
theorem hanoi_Frame.calls (a0 a1 : Int) (r1 : Int) (r2 : Int) (w : World) (h : hanoi_Frame.f a0 a1 = some (r1, r2)) :
    Calls Tryd.prog 27 #[.int .i64 a0, .int .i64 a1] w fun e w' => e = .returned (.tuple #[.int .i64 r1, .int .i64 r2]) ∧ Below w.heap.size w w' := by
  unfold hanoi_Frame.f at h
  have HA := Aside0.mk (asked_calls a0 a1)
  by_cases hk : asked a0 a1 = true
  · rw [if_pos hk] at h
    cases h
    obtain ⟨h1, h2, h3, h4⟩ := (asked_iff _ _).1 hk
    rw [hk] at HA
    clear hk
    obtain ⟨n, rfl⟩ := Int.eq_ofNat_of_zero_le h1
    obtain ⟨p, rfl⟩ := Int.eq_ofNat_of_zero_le (show 0 ≤ a1 by omega)
    have F := Aside0.mk (fun W => frames_calls n p W (by omega) (by omega) (by omega))
    go_enter Tryd.func27, Tryd.ntmps27
    go_wp2_with fail
    refine (HA.out w).mono ?_
    rintro e w' ⟨rfl, rfl⟩
    go_wp2_with fail
    refine (F.out w').mono ?_
    rintro e w1 ⟨bn, bf, num, fst, hne, rfl, hM1, hM2, hS, hB⟩
    have hc := hM1.cell n p (Nat.le_refl _) (by omega)
    rw [hS.1 n p (Nat.le_refl _) (by omega) (Nat.le_refl _) (by omega)] at hc
    have HX := Aside0.mk hB
    clear hB hM1 hM2 hS HA F
    simp only [Int.toNat_natCast]
    go_wp2
    go_ret2
    exact ⟨rfl, HX.out⟩
  · rw [if_neg hk] at h
    cases h
    have e : asked a0 a1 = false := by simpa using hk
    rw [e] at HA
    clear hk e
    go_enter Tryd.func27, Tryd.ntmps27
    go_wp2_with fail
    refine (HA.out w).mono ?_
    rintro e w' ⟨rfl, rfl⟩
    go_wp2
    go_ret2
    exact ⟨rfl, Below.refl _ _⟩
end Go.Proofs.YtnaaomhmoamfpaaDoor.G
/- The digits of a number, and of the next one. -/
namespace Go.Proofs.YtnaaomhmoamfpaaDoor.Hn
set_option linter.unusedVariables false
set_option linter.unusedSimpArgs false
set_option linter.unusedSectionVars false
def dgt (P c i : Nat) : Nat := c / P ^ i % P

theorem carry_next {P c i : Nat} (hP : 1 ≤ P) (h : c % P ^ i = P ^ i - 1) : c + 1 = P ^ i * (c / P ^ i + 1) := by
  have h1 := Nat.div_add_mod c (P ^ i)
  have h2 : 1 ≤ P ^ i := Nat.pow_pos hP
  rw [Nat.mul_add]
  omega
theorem carry_low {P c i j : Nat} (hP : 1 ≤ P) (h : c % P ^ i = P ^ i - 1) (hj : j < i) : dgt P (c + 1) j = 0 := by
  unfold dgt
  rw [carry_next hP h]
  obtain ⟨k, rfl⟩ : ∃ k, i = j + 1 + k := ⟨i - (j + 1), by omega⟩
  have : P ^ (j + 1 + k) * (c / P ^ (j + 1 + k) + 1) = P ^ j * (P * (P ^ k * (c / P ^ (j + 1 + k) + 1))) := by
    rw [Nat.pow_add, Nat.pow_succ]; simp only [Nat.mul_assoc]
  rw [this, Nat.mul_div_cancel_left _ (Nat.pow_pos hP)]
  exact Nat.mul_mod_right _ _
theorem carry_at {P c i : Nat} (hP : 1 ≤ P) (h : c % P ^ i = P ^ i - 1) (hd : dgt P c i + 1 < P) : dgt P (c + 1) i = dgt P c i + 1 := by
  unfold dgt at *
  rw [carry_next hP h, Nat.mul_div_cancel_left _ (Nat.pow_pos hP), Nat.add_mod]
  rw [Nat.mod_eq_of_lt (show 1 < P by omega)]
  exact Nat.mod_eq_of_lt hd
theorem carry_high {P c i j : Nat} (hP : 1 ≤ P) (h : c % P ^ i = P ^ i - 1) (hd : dgt P c i + 1 < P) (hj : i < j) : dgt P (c + 1) j = dgt P c j := by
  unfold dgt at *
  obtain ⟨k, rfl⟩ : ∃ k, j = i + (1 + k) := ⟨j - i - 1, by omega⟩
  rw [carry_next hP h, Nat.pow_add, ← Nat.div_div_eq_div_mul, ← Nat.div_div_eq_div_mul, Nat.mul_div_cancel_left _ (Nat.pow_pos hP), Nat.pow_add, Nat.pow_one, ← Nat.div_div_eq_div_mul, ← Nat.div_div_eq_div_mul]
  congr 2
  have e := Nat.div_add_mod (c / P ^ i) P
  rw [Nat.div_eq_of_lt_le (k := c / P ^ i / P)]
  · rw [Nat.mul_comm]; omega
  · rw [Nat.add_mul, Nat.mul_comm]; omega
theorem carry_step {P c i : Nat} (hP : 1 ≤ P) (h : c % P ^ i = P ^ i - 1) (hd : dgt P c i = P - 1) : c % P ^ (i + 1) = P ^ (i + 1) - 1 := by
  unfold dgt at hd
  have h2 : 1 ≤ P ^ i := Nat.pow_pos hP
  rw [Nat.pow_succ, Nat.mod_mul, hd, h]
  obtain ⟨Q, rfl⟩ : ∃ Q, P = Q + 1 := ⟨P - 1, by omega⟩
  simp only [Nat.add_sub_cancel]
  rw [Nat.mul_add]; omega
theorem dgt_lt {P c i : Nat} (hP : 1 ≤ P) : dgt P c i < P := Nat.mod_lt _ hP
theorem carry_all {P c n : Nat} (hP : 1 ≤ P) (h : c % P ^ n = P ^ n - 1) (hc : c < P ^ n) : c + 1 = P ^ n := by
  rw [Nat.mod_eq_of_lt hc] at h
  have : 1 ≤ P ^ n := Nat.pow_pos hP
  omega
theorem carry_more {P c n i : Nat} (hP : 1 ≤ P) (hi : i < n) (hc : c < P ^ n) (hd : dgt P c i + 1 < P) : c + 1 < P ^ n := by
  rcases Nat.lt_or_ge (c + 1) (P ^ n) with h | h
  · exact h
  · exfalso
    have e : c = P ^ n - 1 := by omega
    have : dgt P c i = P - 1 := by
      unfold dgt
      obtain ⟨k, rfl⟩ : ∃ k, n = i + (1 + k) := ⟨n - i - 1, by omega⟩
      have h1 : c / P ^ i = P ^ (1 + k) - 1 := by
        have q1 : 1 ≤ P ^ i := Nat.pow_pos hP
        have q2 : 1 ≤ P ^ (1 + k) := Nat.pow_pos hP
        have e2 : c + 1 = P ^ i * P ^ (1 + k) := by rw [← Nat.pow_add]; omega
        have e3 : P ^ i * (P ^ (1 + k) - 1) + P ^ i = P ^ i * P ^ (1 + k) := by rw [← Nat.mul_succ]; congr 1; omega
        apply Nat.div_eq_of_lt_le
        · rw [Nat.mul_comm]; omega
        · rw [Nat.sub_add_cancel q2, Nat.mul_comm]; omega
      rw [h1, Nat.pow_add, Nat.pow_one]
      have h2 : 1 ≤ P ^ k := Nat.pow_pos hP
      have h3 : P * P ^ k - 1 = P * (P ^ k - 1) + (P - 1) := by
        have : P * P ^ k = P * (P ^ k - 1) + P := by rw [← Nat.mul_succ]; congr 1; omega
        omega
      rw [h3, Nat.mul_add_mod]
      exact Nat.mod_eq_of_lt (by omega)
    omega
end Go.Proofs.YtnaaomhmoamfpaaDoor.Hn
