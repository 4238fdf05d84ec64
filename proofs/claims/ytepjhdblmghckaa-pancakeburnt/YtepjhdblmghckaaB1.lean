/- A part that the chapter's proofs share: contracts of the functions, and plain lemmas (part B1). -/
import Derived.Test.YtepjhdblmghckaaA1
import Derived.Test.YtepjhdblmghckaaA2
import Derived.Test.YtepjhdblmghckaaA4
namespace Go.Proofs.Ytepjhdblmghckaa.G
end Go.Proofs.Ytepjhdblmghckaa.G
namespace Go.Proofs.Ytepjhdblmghckaa.Q
set_option linter.unusedVariables false
set_option linter.unusedSimpArgs false
set_option linter.unusedSectionVars false
open Go.Proofs.Ytepjhdblmghckaa.G
open Go.RowKit Go.Proofs.YtepjhdblmghckaaW.PrintWords Go.Proofs.YtepjhdblmghckaaW.PrintLast Go.Proofs.YtepjhdblmghckaaW.PrintMore
attribute [local go_sem] max2_int min2_int max_two min_two max_three min_three max_four min_four   -- for this text's walks alone

/-! ### bibelotref07_Code: function 52 -/
mutual
def bibelotref07_Code.l0 : Nat → List Int → Int → Int → Option (Int)
 | 0, _, _, _ => none
 | k + 1, x0, x3, x4 => if x4 < (x0.length : Int) then (bibelotref07_Code.l1 k x0 x3 x4 0 (wrap64 (x4 + 1))) else (bibelotref07_Code.l2 k x0 x3 0)
def bibelotref07_Code.l1 : Nat → List Int → Int → Int → Int → Int → Option (Int)
 | 0, _, _, _, _, _ => none
 | k + 1, x0, x3, x4, x5, x6 => if x6 < (x0.length : Int) then (if 0 ≤ x6 then ((bibelotref07_Abs.f (rd x0 x6)).bind fun t382 => (if 0 ≤ x4 then (if x4 < (x0.length : Int) then ((bibelotref07_Abs.f (rd x0 x4)).bind fun t384 => (if t382 < t384 then (bibelotref07_Code.l1 k x0 x3 x4 (wrap64 (x5 + 1)) (wrap64 (x6 + 1))) else (bibelotref07_Code.l1 k x0 x3 x4 x5 (wrap64 (x6 + 1))))) else (none)) else (none))) else (none)) else (bibelotref07_Code.l0 k x0 (wrap64 ((wrap64 (x3 * (wrap64 ((x0.length : Int) - x4)))) + x5)) (wrap64 (x4 + 1)))
def bibelotref07_Code.l2 : Nat → List Int → Int → Int → Option (Int)
 | 0, _, _, _ => none
 | k + 1, x0, x3, x7 => if x7 < (x0.length : Int) then (if 0 ≤ x7 then (if (rd x0 x7) < 0 then (bibelotref07_Code.l2 k x0 (wrap64 ((wrap64 (2 * x3)) + 1)) (wrap64 (x7 + 1))) else (bibelotref07_Code.l2 k x0 (wrap64 (2 * x3)) (wrap64 (x7 + 1)))) else (none)) else (some x3)
end
def bibelotref07_Code.f (k : Nat) (l0 : List Int) : Option (Int) := bibelotref07_Code.l0 k l0 0 0
theorem bibelotref07_Code.mono_l : ∀ k, (∀ y0 y1 y2, LeO (bibelotref07_Code.l0 k y0 y1 y2) (bibelotref07_Code.l0 (k + 1) y0 y1 y2)) ∧ (∀ y0 y1 y2 y3 y4, LeO (bibelotref07_Code.l1 k y0 y1 y2 y3 y4) (bibelotref07_Code.l1 (k + 1) y0 y1 y2 y3 y4)) ∧ (∀ y0 y1 y2, LeO (bibelotref07_Code.l2 k y0 y1 y2) (bibelotref07_Code.l2 (k + 1) y0 y1 y2))
 | 0 => ⟨fun _ _ _ r h => by simp [bibelotref07_Code.l0] at h, fun _ _ _ _ _ r h => by simp [bibelotref07_Code.l1] at h, fun _ _ _ r h => by simp [bibelotref07_Code.l2] at h⟩
 | k + 1 => by
  obtain ⟨ih0, ih1, ih2⟩ := bibelotref07_Code.mono_l k
  refine ⟨?_, ?_, ?_⟩
  ·intro y0 y1 y2
   unfold bibelotref07_Code.l0
   repeat' first
   | (with_reducible exact ih0 _ _ _)
   | (with_reducible exact ih1 _ _ _ _ _)
   | (with_reducible exact ih2 _ _ _)
   | (with_reducible exact LeO.refl _)
   | (with_reducible exact LeO.none _)
   | (with_reducible refine LeO.ite ?_ ?_)
   | (with_reducible refine LeO.bind ?_ (fun _ => ?_))
   | exact ih0 _ _ _
   | exact ih1 _ _ _ _ _
   | exact ih2 _ _ _
   | exact LeO.none _
   | refine LeO.ite ?_ ?_
   | refine LeO.bind ?_ (fun _ => ?_)
  ·intro y0 y1 y2 y3 y4
   unfold bibelotref07_Code.l1
   repeat' first
   | (with_reducible exact ih0 _ _ _)
   | (with_reducible exact ih1 _ _ _ _ _)
   | (with_reducible exact ih2 _ _ _)
   | (with_reducible exact LeO.refl _)
   | (with_reducible exact LeO.none _)
   | (with_reducible refine LeO.ite ?_ ?_)
   | (with_reducible refine LeO.bind ?_ (fun _ => ?_))
   | exact ih0 _ _ _
   | exact ih1 _ _ _ _ _
   | exact ih2 _ _ _
   | exact LeO.none _
   | refine LeO.ite ?_ ?_
   | refine LeO.bind ?_ (fun _ => ?_)
  ·intro y0 y1 y2
   unfold bibelotref07_Code.l2
   repeat' first
   | (with_reducible exact ih0 _ _ _)
   | (with_reducible exact ih1 _ _ _ _ _)
   | (with_reducible exact ih2 _ _ _)
   | (with_reducible exact LeO.refl _)
   | (with_reducible exact LeO.none _)
   | (with_reducible refine LeO.ite ?_ ?_)
   | (with_reducible refine LeO.bind ?_ (fun _ => ?_))
   | exact ih0 _ _ _
   | exact ih1 _ _ _ _ _
   | exact ih2 _ _ _
   | exact LeO.none _
   | refine LeO.ite ?_ ?_
   | refine LeO.bind ?_ (fun _ => ?_)
theorem bibelotref07_Code.mono : ∀ a0 k, LeO (bibelotref07_Code.f k a0) (bibelotref07_Code.f (k + 1) a0) := by
 intro a0 k
 obtain ⟨ih0, ih1, ih2⟩ := bibelotref07_Code.mono_l k
 unfold bibelotref07_Code.f
 repeat' first
   | (with_reducible exact ih0 _ _ _)
   | (with_reducible exact ih1 _ _ _ _ _)
   | (with_reducible exact ih2 _ _ _)
   | (with_reducible exact LeO.refl _)
   | (with_reducible exact LeO.none _)
   | (with_reducible refine LeO.ite ?_ ?_)
   | (with_reducible refine LeO.bind ?_ (fun _ => ?_))
   | exact ih0 _ _ _
   | exact ih1 _ _ _ _ _
   | exact ih2 _ _ _
   | exact LeO.none _
   | refine LeO.ite ?_ ?_
   | refine LeO.bind ?_ (fun _ => ?_)
def bibelotref07_Code.T9 : Bool × List (List Nat × List Nat) := (true, [([], []), ([], []), ([0, 1], [0, 1]), ([2], [2]), ([3], [3]), ([], []), ([], []), ([5, 6], [5, 6]), ([7], [7]), ([8, 4], [8]), ([4, 9], [4, 9])])
def bibelotref07_Code.B9 : List Nat := [0, 0, 3, 7, 15, 0, 0, 96, 224, 511, 1023]
theorem bibelotref07_Code.tab9 : rtab .any (opsOf Try.f52 9) = bibelotref07_Code.T9 := by kernel_rfl
theorem bibelotref07_Code.bits9 : waitsOk bibelotref07_Code.T9.2 bibelotref07_Code.B9 = true := by kernel_rfl
set_option maxHeartbeats 8000000 in
set_option maxRecDepth 100000 in
theorem bibelotref07_Code.calls (k : Nat) (A0 : Option Addr) (c0 : Nat) (l0 : List Int) (r : Int) (w : World) (hr0 : Kd.C (Kd.int .i64) w A0 l0.length l0) (hc0 : l0.length ≤ c0) (h : bibelotref07_Code.f k l0 = some r) :
  Calls Try.prog 52 #[.slice A0 l0.length c0] w fun e w' => e = .returned (.int .i64 r) ∧ Below w.heap.size w w' := by
 have HR0 := Aside0.mk hr0
 have HC0 := Aside0.mk hc0
 clear hr0 hc0
 have HB := Aside0.mk (Below.refl w.heap.size w)
 have H : (bibelotref07_Code.l0 k l0 0 0) = some r := h
 clear h
 have H' := Aside0.mk H
 clear H
 go_enter Try.func52, Try.ntmps52
 go_wp2
 go_loopg [3, 4] k (fun kq v3 v4 w' => ∃ (x3_1 : Int) (x4_1 : Int), v3 = .int .i64 x3_1 ∧ v4 = .int .i64 x4_1 ∧ Aside0 (bibelotref07_Code.l0 kq l0 x3_1 x4_1 = some r) ∧ Aside0 (kq ≤ k) ∧ Aside0 (Below w.heap.size w w'))
 case atStart => exact ⟨(0), (0), (by first | rfl | (simp; done) | (simp [*]; done)), (by first | rfl | (simp; done) | (simp [*]; done)), H', ⟨Nat.le_refl _⟩, ⟨by repeat (first | (with_reducible first | exact HB.out | apply below_alloc | apply pw_below_drewN | apply below_drew1) | exact HB.out)⟩⟩
 case round =>
  clear H'
  obtain ⟨x3_1, x4_1, rfl, rfl, HA, HK1, HB⟩ := hrel
  cases gk with
  | zero => exact absurd HA.out (by simp [bibelotref07_Code.l0])
  | succ k1 =>
   have H := HA.out
   clear HA
   simp only [bibelotref07_Code.l0] at H
   by_cases c2 : x4_1 < (l0.length : Int)
   ·rw [if_pos c2] at H
    have c2b0 : decide (x4_1 < (l0.length : Int)) = true := decide_eq_true c2
    clear c2
    have H' := Aside0.mk H
    clear H
    go_wp2
    go_loopg [5, 6] k1 (fun kq v5 v6 w' => ∃ (x5_2 : Int) (x6_2 : Int), v5 = .int .i64 x5_2 ∧ v6 = .int .i64 x6_2 ∧ Aside0 (bibelotref07_Code.l1 kq l0 x3_1 x4_1 x5_2 x6_2 = some r) ∧ Aside0 (kq ≤ k1) ∧ Aside0 (Below w.heap.size w w'))
    case atStart => exact ⟨(0), (wrap64 (x4_1 + 1)), (by first | rfl | (simp; done) | (simp [*]; done)), (by first | rfl | (simp; done) | (simp [*]; done)), H', ⟨Nat.le_refl _⟩, ⟨by repeat (first | (with_reducible first | exact HB.out | apply below_alloc | apply pw_below_drewN | apply below_drew1) | exact HB.out)⟩⟩
    case round =>
     clear H'
     try clear c2
     try clear c2b0
     try clear p2
     obtain ⟨x5_2, x6_2, rfl, rfl, HA, HK2, HB⟩ := hrel
     cases gk with
     | zero => exact absurd HA.out (by simp [bibelotref07_Code.l1])
     | succ k2 =>
      have H := HA.out
      clear HA
      simp only [bibelotref07_Code.l1] at H
      by_cases c3 : x6_2 < (l0.length : Int)
      ·rw [if_pos c3] at H
       have c3b0 : decide (x6_2 < (l0.length : Int)) = true := decide_eq_true c3
       clear c3
       by_cases c4 : 0 ≤ x6_2
       ·rw [if_pos c4] at H
        have c4b0 : decide (0 ≤ x6_2) = true := decide_eq_true c4
        clear c4
        replace H := Option.bind_eq_some_iff.mp H
        obtain ⟨t382, A50, H⟩ := H
        replace H : (if 0 ≤ x4_1 then (if x4_1 < (l0.length : Int) then ((bibelotref07_Abs.f (rd l0 x4_1)).bind fun t384 => (if t382 < t384 then (bibelotref07_Code.l1 k2 l0 x3_1 x4_1 (wrap64 (x5_2 + 1)) (wrap64 (x6_2 + 1))) else (bibelotref07_Code.l1 k2 l0 x3_1 x4_1 x5_2 (wrap64 (x6_2 + 1))))) else (none)) else (none)) = some r := H
        have A5 := Aside0.mk A50
        clear A50
        by_cases c6 : 0 ≤ x4_1
        ·rw [if_pos c6] at H
         have c6b0 : decide (0 ≤ x4_1) = true := decide_eq_true c6
         clear c6
         by_cases c7 : x4_1 < (l0.length : Int)
         ·rw [if_pos c7] at H
          have c7b0 : decide (x4_1 < (l0.length : Int)) = true := decide_eq_true c7
          clear c7
          replace H := Option.bind_eq_some_iff.mp H
          obtain ⟨t384, A80, H⟩ := H
          replace H : (if t382 < t384 then (bibelotref07_Code.l1 k2 l0 x3_1 x4_1 (wrap64 (x5_2 + 1)) (wrap64 (x6_2 + 1))) else (bibelotref07_Code.l1 k2 l0 x3_1 x4_1 x5_2 (wrap64 (x6_2 + 1)))) = some r := H
          have A8 := Aside0.mk A80
          clear A80
          by_cases c9 : t382 < t384
          ·rw [if_pos c9] at H
           have c9b0 : decide (t382 < t384) = true := decide_eq_true c9
           clear c9
           have H' := Aside0.mk H
           clear H
           try go_wp2
           have n0_ := Aside0.mk (below_drew1 HB.out)
           clear HB
           have HB := n0_
           clear n0_
           have p381 : 0 ≤ (x6_2 : Int) := of_decide_eq_true (by first | (with_reducible assumption) | assumption)
           have q381 : x6_2 < (l0.length : Int) := of_decide_eq_true (by first | (with_reducible assumption) | assumption)
           obtain ⟨ad381, e381, hx381_0⟩ := Kd.at_int HR0.out x6_2 p381 q381
           have hw381_0 := hx381_0
           cases e381
           replace hx381_0 := (HB.out.cell (World.block_lt_of_cell? w _ hx381_0)).trans hx381_0
           replace p381 := eq_true p381
           replace q381 := eq_true q381
           have p383 : 0 ≤ (x4_1 : Int) := of_decide_eq_true (by first | (with_reducible assumption) | assumption)
           have q383 : x4_1 < (l0.length : Int) := of_decide_eq_true (by first | (with_reducible assumption) | assumption)
           obtain ⟨ad383, e383, hx383_0⟩ := Kd.at_int HR0.out x4_1 p383 q383
           have hw383_0 := hx383_0
           obtain rfl : ad381 = ad383 := (by injection e383)
           replace hx383_0 := (HB.out.cell (World.block_lt_of_cell? w _ hx383_0)).trans hx383_0
           replace p383 := eq_true p383
           replace q383 := eq_true q383
           refine start_ (n := 11) (S := fun w' => w'.cell? (ad381.add (x6_2).toNat) = some (.int .i64 (rd l0 x6_2)) ∧ w'.cell? (ad381.add (x4_1).toNat) = some (.int .i64 (rd l0 x4_1))) (ds := []) #[false, false, false, false, false, false, false, false, false, false, false] (by kernel_rfl) rfl rfl ⟨((HB.out.cell (World.block_lt_of_cell? w _ hw381_0)).trans hw381_0), ((HB.out.cell (World.block_lt_of_cell? w _ hw383_0)).trans hw383_0)⟩ (fun hHeld => ?_); refine with_tabW bibelotref07_Code.tab9 bibelotref07_Code.bits9 (fun HT_ HW_ => ?_)
           generalize wr.drew = w10 at HB hx381_0 hx383_0 hHeld ⊢
           refine pure_ (i := 0) (N := some 22) (v := ?_) (a' := ?_) #[true, false, false, false, false, false, false, false, false, false, false] rfl rfl (any_of HT_.out (by kernel_rfl)) (fun _ _ _ h => h) (Or.inl ⟨by rfl, ?_⟩) ?_ ?_
           rotate_left
           ·intro w'
            go_simp
            with_reducible rfl
           rotate_left
           ·simp only [Act.put, List.setIfInBounds_toArray, List.set_cons_zero, List.set_cons_succ, i64_w, i32_w]
            rfl
           refine pure_ (i := 1) (N := some 23) (v := ?_) (a' := ?_) #[true, true, false, false, false, false, false, false, false, false, false] rfl rfl (any_of HT_.out (by kernel_rfl)) (fun _ _ _ h => h) (Or.inl ⟨by rfl, ?_⟩) ?_ ?_
           rotate_left
           ·intro w'
            go_simp
            with_reducible rfl
           rotate_left
           ·simp only [Act.put, List.setIfInBounds_toArray, List.set_cons_zero, List.set_cons_succ, i64_w, i32_w]
            rfl
           refine pure_ (i := 2) (N := some 24) (v := ?_) (a' := ?_) #[true, true, true, false, false, false, false, false, false, false, false] rfl rfl (any_of HT_.out (by kernel_rfl)) (fun _ _ _ h => h) (Or.inl ⟨by rfl, ?_⟩) ?_ ?_
           rotate_left
           ·intro w'
            go_simp
            with_reducible rfl
           rotate_left
           ·simp only [Act.put, List.setIfInBounds_toArray, List.set_cons_zero, List.set_cons_succ, i64_w, i32_w]
            rfl
           refine pure_ (i := 5) (N := some 27) (v := ?_) (a' := ?_) #[true, true, true, false, false, true, false, false, false, false, false] rfl rfl (any_of HT_.out (by kernel_rfl)) (fun _ _ _ h => h) (Or.inl ⟨by rfl, ?_⟩) ?_ ?_
           rotate_left
           ·intro w'
            go_simp
            with_reducible rfl
           rotate_left
           ·simp only [Act.put, List.setIfInBounds_toArray, List.set_cons_zero, List.set_cons_succ, i64_w, i32_w]
            rfl
           refine pure_ (i := 6) (N := some 28) (v := ?_) (a' := ?_) #[true, true, true, false, false, true, true, false, false, false, false] rfl rfl (any_of HT_.out (by kernel_rfl)) (fun _ _ _ h => h) (Or.inl ⟨by rfl, ?_⟩) ?_ ?_
           rotate_left
           ·intro w'
            go_simp
            with_reducible rfl
           rotate_left
           ·simp only [Act.put, List.setIfInBounds_toArray, List.set_cons_zero, List.set_cons_succ, i64_w, i32_w]
            rfl
           refine pure_ (i := 7) (N := some 29) (v := ?_) (a' := ?_) #[true, true, true, false, false, true, true, true, false, false, false] rfl rfl (any_of HT_.out (by kernel_rfl)) (fun _ _ _ h => h) (Or.inl ⟨by rfl, ?_⟩) ?_ ?_
           rotate_left
           ·intro w'
            go_simp
            with_reducible rfl
           rotate_left
           ·simp only [Act.put, List.setIfInBounds_toArray, List.set_cons_zero, List.set_cons_succ, i64_w, i32_w]
            rfl
           refine take_ (i := 3) (N := some 25) (v := ?_) (a' := ?_) #[true, true, true, true, false, true, true, true, false, false, false] rfl rfl (take_ofW HT_.out HW_.out (by kernel_rfl)) (fun _ _ _ h => h) (Or.inl ⟨by rfl, ?_⟩) hHeld ?_ ?_
           rotate_left
           ·rintro w' ⟨s0, s1⟩
            go_simp
            with_reducible rfl
           rotate_left
           ·simp only [Act.put, List.setIfInBounds_toArray, List.set_cons_zero, List.set_cons_succ, i64_w, i32_w]
            rfl
           refine take_ (i := 8) (N := some 30) (v := ?_) (a' := ?_) #[true, true, true, true, false, true, true, true, true, false, false] rfl rfl (take_ofW HT_.out HW_.out (by kernel_rfl)) (fun _ _ _ h => h) (Or.inl ⟨by rfl, ?_⟩) hHeld ?_ ?_
           rotate_left
           ·rintro w' ⟨s0, s1⟩
            go_simp
            with_reducible rfl
           rotate_left
           ·simp only [Act.put, List.setIfInBounds_toArray, List.set_cons_zero, List.set_cons_succ, i64_w, i32_w]
            rfl
           refine one_ (i := 4) (N := some 26) #[true, true, true, true, true, true, true, true, true, false, false] rfl rfl (one_of HT_.out (by kernel_rfl)) (by decide) (fun K hK => ?_)
           refine goes_ Try.func40 (by kernel_rfl) rfl #[.int .i64 (rd l0 x6_2)] (by rfl) rfl rfl (by (try simp only [List.map_toArray, List.map_cons, List.map_nil]); first | done | rfl | (simp only [List.length_drop, List.length_take]; rfl)) ?_
           with_reducible refine (bibelotref07_Abs.calls (rd l0 x6_2) t382 _ A5.out).mono ?_
           rintro e w11 ⟨rfl, hb⟩
           refine ⟨_, rfl, ?_⟩
           have n0_ := Aside0.mk (below_step (by repeat (first | (with_reducible first | exact HB.out | apply below_alloc | apply pw_below_drewN | apply below_drew1) | exact HB.out)) hb)
           clear HB
           have HB := n0_
           clear n0_
           (try clear hb)
           (try clear hb2)
           (try clear hk)
           (try clear hi)
           refine hK.out _ _ ⟨((HB.out.cell (World.block_lt_of_cell? w _ hw381_0)).trans hw381_0), ((HB.out.cell (World.block_lt_of_cell? w _ hw383_0)).trans hw383_0)⟩ (fun hHeld => ?_)
           clear hK K
           refine norm_ (a' := ?_) ?_ ?_
           rotate_left
           ·show Act.put _ (some 26) _ = _
            simp only [Act.put, List.setIfInBounds_toArray, List.set_cons_zero, List.set_cons_succ, i64_w, i32_w]
            rfl
           refine one_ (i := 9) (N := some 31) #[true, true, true, true, true, true, true, true, true, true, false] rfl rfl (one_of HT_.out (by kernel_rfl)) (by decide) (fun K hK => ?_)
           refine goes_ Try.func40 (by kernel_rfl) rfl #[.int .i64 (rd l0 x4_1)] (by rfl) rfl rfl (by (try simp only [List.map_toArray, List.map_cons, List.map_nil]); first | done | rfl | (simp only [List.length_drop, List.length_take]; rfl)) ?_
           with_reducible refine (bibelotref07_Abs.calls (rd l0 x4_1) t384 _ A8.out).mono ?_
           rintro e w12 ⟨rfl, hb⟩
           refine ⟨_, rfl, ?_⟩
           have n0_ := Aside0.mk (below_step (by repeat (first | (with_reducible first | exact HB.out | apply below_alloc | apply pw_below_drewN | apply below_drew1) | exact HB.out)) hb)
           clear HB
           have HB := n0_
           clear n0_
           (try clear hb)
           (try clear hb2)
           (try clear hk)
           (try clear hi)
           refine hK.out _ _ ⟨((HB.out.cell (World.block_lt_of_cell? w _ hw381_0)).trans hw381_0), ((HB.out.cell (World.block_lt_of_cell? w _ hw383_0)).trans hw383_0)⟩ (fun hHeld => ?_)
           clear hK K
           refine norm_ (a' := ?_) ?_ ?_
           rotate_left
           ·show Act.put _ (some 31) _ = _
            simp only [Act.put, List.setIfInBounds_toArray, List.set_cons_zero, List.set_cons_succ, i64_w, i32_w]
            rfl
           refine pure_ (i := 10) (N := some 32) (v := ?_) (a' := ?_) #[true, true, true, true, true, true, true, true, true, true, true] rfl rfl (any_of HT_.out (by kernel_rfl)) (fun _ _ _ h => h) (Or.inl ⟨by rfl, ?_⟩) ?_ ?_
           rotate_left
           ·intro w'
            go_simp
            with_reducible rfl
           rotate_left
           ·simp only [Act.put, List.setIfInBounds_toArray, List.set_cons_zero, List.set_cons_succ, i64_w, i32_w]
            rfl
           refine done_ (done_of HT_.out (by kernel_rfl)) ?_
           try go_wp2
           go_roundg k2
           case measure => have := HK1.out; have := HK2.out; omega
           case rel => exact ⟨(wrap64 (x5_2 + 1)), (wrap64 (x6_2 + 1)), (by first | rfl | (simp; done) | (simp [*]; done)), (by first | rfl | (simp; done) | (simp [*]; done)), H', ⟨by have := HK1.out; have := HK2.out; omega⟩, ⟨by repeat (first | (with_reducible first | exact HB.out | apply below_alloc | apply pw_below_drewN | apply below_drew1) | exact HB.out)⟩⟩
          ·rw [if_neg c9] at H
           have c9b0 : decide (t382 < t384) = false := decide_eq_false c9
           clear c9
           have H' := Aside0.mk H
           clear H
           try go_wp2
           have n0_ := Aside0.mk (below_drew1 HB.out)
           clear HB
           have HB := n0_
           clear n0_
           have p381 : 0 ≤ (x6_2 : Int) := of_decide_eq_true (by first | (with_reducible assumption) | assumption)
           have q381 : x6_2 < (l0.length : Int) := of_decide_eq_true (by first | (with_reducible assumption) | assumption)
           obtain ⟨ad381, e381, hx381_0⟩ := Kd.at_int HR0.out x6_2 p381 q381
           have hw381_0 := hx381_0
           cases e381
           replace hx381_0 := (HB.out.cell (World.block_lt_of_cell? w _ hx381_0)).trans hx381_0
           replace p381 := eq_true p381
           replace q381 := eq_true q381
           have p383 : 0 ≤ (x4_1 : Int) := of_decide_eq_true (by first | (with_reducible assumption) | assumption)
           have q383 : x4_1 < (l0.length : Int) := of_decide_eq_true (by first | (with_reducible assumption) | assumption)
           obtain ⟨ad383, e383, hx383_0⟩ := Kd.at_int HR0.out x4_1 p383 q383
           have hw383_0 := hx383_0
           obtain rfl : ad381 = ad383 := (by injection e383)
           replace hx383_0 := (HB.out.cell (World.block_lt_of_cell? w _ hx383_0)).trans hx383_0
           replace p383 := eq_true p383
           replace q383 := eq_true q383
           refine start_ (n := 11) (S := fun w' => w'.cell? (ad381.add (x6_2).toNat) = some (.int .i64 (rd l0 x6_2)) ∧ w'.cell? (ad381.add (x4_1).toNat) = some (.int .i64 (rd l0 x4_1))) (ds := []) #[false, false, false, false, false, false, false, false, false, false, false] (by kernel_rfl) rfl rfl ⟨((HB.out.cell (World.block_lt_of_cell? w _ hw381_0)).trans hw381_0), ((HB.out.cell (World.block_lt_of_cell? w _ hw383_0)).trans hw383_0)⟩ (fun hHeld => ?_); refine with_tabW bibelotref07_Code.tab9 bibelotref07_Code.bits9 (fun HT_ HW_ => ?_)
           generalize wr.drew = w13 at HB hx381_0 hx383_0 hHeld ⊢
           refine pure_ (i := 0) (N := some 22) (v := ?_) (a' := ?_) #[true, false, false, false, false, false, false, false, false, false, false] rfl rfl (any_of HT_.out (by kernel_rfl)) (fun _ _ _ h => h) (Or.inl ⟨by rfl, ?_⟩) ?_ ?_
           rotate_left
           ·intro w'
            go_simp
            with_reducible rfl
           rotate_left
           ·simp only [Act.put, List.setIfInBounds_toArray, List.set_cons_zero, List.set_cons_succ, i64_w, i32_w]
            rfl
           refine pure_ (i := 1) (N := some 23) (v := ?_) (a' := ?_) #[true, true, false, false, false, false, false, false, false, false, false] rfl rfl (any_of HT_.out (by kernel_rfl)) (fun _ _ _ h => h) (Or.inl ⟨by rfl, ?_⟩) ?_ ?_
           rotate_left
           ·intro w'
            go_simp
            with_reducible rfl
           rotate_left
           ·simp only [Act.put, List.setIfInBounds_toArray, List.set_cons_zero, List.set_cons_succ, i64_w, i32_w]
            rfl
           refine pure_ (i := 2) (N := some 24) (v := ?_) (a' := ?_) #[true, true, true, false, false, false, false, false, false, false, false] rfl rfl (any_of HT_.out (by kernel_rfl)) (fun _ _ _ h => h) (Or.inl ⟨by rfl, ?_⟩) ?_ ?_
           rotate_left
           ·intro w'
            go_simp
            with_reducible rfl
           rotate_left
           ·simp only [Act.put, List.setIfInBounds_toArray, List.set_cons_zero, List.set_cons_succ, i64_w, i32_w]
            rfl
           refine pure_ (i := 5) (N := some 27) (v := ?_) (a' := ?_) #[true, true, true, false, false, true, false, false, false, false, false] rfl rfl (any_of HT_.out (by kernel_rfl)) (fun _ _ _ h => h) (Or.inl ⟨by rfl, ?_⟩) ?_ ?_
           rotate_left
           ·intro w'
            go_simp
            with_reducible rfl
           rotate_left
           ·simp only [Act.put, List.setIfInBounds_toArray, List.set_cons_zero, List.set_cons_succ, i64_w, i32_w]
            rfl
           refine pure_ (i := 6) (N := some 28) (v := ?_) (a' := ?_) #[true, true, true, false, false, true, true, false, false, false, false] rfl rfl (any_of HT_.out (by kernel_rfl)) (fun _ _ _ h => h) (Or.inl ⟨by rfl, ?_⟩) ?_ ?_
           rotate_left
           ·intro w'
            go_simp
            with_reducible rfl
           rotate_left
           ·simp only [Act.put, List.setIfInBounds_toArray, List.set_cons_zero, List.set_cons_succ, i64_w, i32_w]
            rfl
           refine pure_ (i := 7) (N := some 29) (v := ?_) (a' := ?_) #[true, true, true, false, false, true, true, true, false, false, false] rfl rfl (any_of HT_.out (by kernel_rfl)) (fun _ _ _ h => h) (Or.inl ⟨by rfl, ?_⟩) ?_ ?_
           rotate_left
           ·intro w'
            go_simp
            with_reducible rfl
           rotate_left
           ·simp only [Act.put, List.setIfInBounds_toArray, List.set_cons_zero, List.set_cons_succ, i64_w, i32_w]
            rfl
           refine take_ (i := 3) (N := some 25) (v := ?_) (a' := ?_) #[true, true, true, true, false, true, true, true, false, false, false] rfl rfl (take_ofW HT_.out HW_.out (by kernel_rfl)) (fun _ _ _ h => h) (Or.inl ⟨by rfl, ?_⟩) hHeld ?_ ?_
           rotate_left
           ·rintro w' ⟨s0, s1⟩
            go_simp
            with_reducible rfl
           rotate_left
           ·simp only [Act.put, List.setIfInBounds_toArray, List.set_cons_zero, List.set_cons_succ, i64_w, i32_w]
            rfl
           refine take_ (i := 8) (N := some 30) (v := ?_) (a' := ?_) #[true, true, true, true, false, true, true, true, true, false, false] rfl rfl (take_ofW HT_.out HW_.out (by kernel_rfl)) (fun _ _ _ h => h) (Or.inl ⟨by rfl, ?_⟩) hHeld ?_ ?_
           rotate_left
           ·rintro w' ⟨s0, s1⟩
            go_simp
            with_reducible rfl
           rotate_left
           ·simp only [Act.put, List.setIfInBounds_toArray, List.set_cons_zero, List.set_cons_succ, i64_w, i32_w]
            rfl
           refine one_ (i := 4) (N := some 26) #[true, true, true, true, true, true, true, true, true, false, false] rfl rfl (one_of HT_.out (by kernel_rfl)) (by decide) (fun K hK => ?_)
           refine goes_ Try.func40 (by kernel_rfl) rfl #[.int .i64 (rd l0 x6_2)] (by rfl) rfl rfl (by (try simp only [List.map_toArray, List.map_cons, List.map_nil]); first | done | rfl | (simp only [List.length_drop, List.length_take]; rfl)) ?_
           with_reducible refine (bibelotref07_Abs.calls (rd l0 x6_2) t382 _ A5.out).mono ?_
           rintro e w14 ⟨rfl, hb⟩
           refine ⟨_, rfl, ?_⟩
           have n0_ := Aside0.mk (below_step (by repeat (first | (with_reducible first | exact HB.out | apply below_alloc | apply pw_below_drewN | apply below_drew1) | exact HB.out)) hb)
           clear HB
           have HB := n0_
           clear n0_
           (try clear hb)
           (try clear hb2)
           (try clear hk)
           (try clear hi)
           refine hK.out _ _ ⟨((HB.out.cell (World.block_lt_of_cell? w _ hw381_0)).trans hw381_0), ((HB.out.cell (World.block_lt_of_cell? w _ hw383_0)).trans hw383_0)⟩ (fun hHeld => ?_)
           clear hK K
           refine norm_ (a' := ?_) ?_ ?_
           rotate_left
           ·show Act.put _ (some 26) _ = _
            simp only [Act.put, List.setIfInBounds_toArray, List.set_cons_zero, List.set_cons_succ, i64_w, i32_w]
            rfl
           refine one_ (i := 9) (N := some 31) #[true, true, true, true, true, true, true, true, true, true, false] rfl rfl (one_of HT_.out (by kernel_rfl)) (by decide) (fun K hK => ?_)
           refine goes_ Try.func40 (by kernel_rfl) rfl #[.int .i64 (rd l0 x4_1)] (by rfl) rfl rfl (by (try simp only [List.map_toArray, List.map_cons, List.map_nil]); first | done | rfl | (simp only [List.length_drop, List.length_take]; rfl)) ?_
           with_reducible refine (bibelotref07_Abs.calls (rd l0 x4_1) t384 _ A8.out).mono ?_
           rintro e w15 ⟨rfl, hb⟩
           refine ⟨_, rfl, ?_⟩
           have n0_ := Aside0.mk (below_step (by repeat (first | (with_reducible first | exact HB.out | apply below_alloc | apply pw_below_drewN | apply below_drew1) | exact HB.out)) hb)
           clear HB
           have HB := n0_
           clear n0_
           (try clear hb)
           (try clear hb2)
           (try clear hk)
           (try clear hi)
           refine hK.out _ _ ⟨((HB.out.cell (World.block_lt_of_cell? w _ hw381_0)).trans hw381_0), ((HB.out.cell (World.block_lt_of_cell? w _ hw383_0)).trans hw383_0)⟩ (fun hHeld => ?_)
           clear hK K
           refine norm_ (a' := ?_) ?_ ?_
           rotate_left
           ·show Act.put _ (some 31) _ = _
            simp only [Act.put, List.setIfInBounds_toArray, List.set_cons_zero, List.set_cons_succ, i64_w, i32_w]
            rfl
           refine pure_ (i := 10) (N := some 32) (v := ?_) (a' := ?_) #[true, true, true, true, true, true, true, true, true, true, true] rfl rfl (any_of HT_.out (by kernel_rfl)) (fun _ _ _ h => h) (Or.inl ⟨by rfl, ?_⟩) ?_ ?_
           rotate_left
           ·intro w'
            go_simp
            with_reducible rfl
           rotate_left
           ·simp only [Act.put, List.setIfInBounds_toArray, List.set_cons_zero, List.set_cons_succ, i64_w, i32_w]
            rfl
           refine done_ (done_of HT_.out (by kernel_rfl)) ?_
           try go_wp2
           go_roundg k2
           case measure => have := HK1.out; have := HK2.out; omega
           case rel => exact ⟨(x5_2), (wrap64 (x6_2 + 1)), (by first | rfl | (simp; done) | (simp [*]; done)), (by first | rfl | (simp; done) | (simp [*]; done)), H', ⟨by have := HK1.out; have := HK2.out; omega⟩, ⟨by repeat (first | (with_reducible first | exact HB.out | apply below_alloc | apply pw_below_drewN | apply below_drew1) | exact HB.out)⟩⟩
         ·rw [if_neg c7] at H
          exact absurd H (by simp)
        ·rw [if_neg c6] at H
         exact absurd H (by simp)
       ·rw [if_neg c4] at H
        exact absurd H (by simp)
      ·rw [if_neg c3] at H
       have c3b0 : decide (x6_2 < (l0.length : Int)) = false := decide_eq_false c3
       clear c3
       have H' := Aside0.mk H
       clear H
       go_wp2
       go_roundg k2
       case measure => have := HK1.out; have := HK2.out; omega
       case rel => exact ⟨(wrap64 ((wrap64 (x3_1 * (wrap64 ((l0.length : Int) - x4_1)))) + x5_2)), (wrap64 (x4_1 + 1)), (by first | rfl | (simp; done) | (simp [*]; done)), (by first | rfl | (simp; done) | (simp [*]; done)), H', ⟨by have := HK1.out; have := HK2.out; omega⟩, ⟨by repeat (first | (with_reducible first | exact HB.out | apply below_alloc | apply pw_below_drewN | apply below_drew1) | exact HB.out)⟩⟩
   ·rw [if_neg c2] at H
    have c2b0 : decide (x4_1 < (l0.length : Int)) = false := decide_eq_false c2
    clear c2
    have H' := Aside0.mk H
    clear H
    go_wp2
    go_loopg [3, 7] k1 (fun kq v3 v7 w' => ∃ (x3_2 : Int) (x7_2 : Int), v3 = .int .i64 x3_2 ∧ v7 = .int .i64 x7_2 ∧ Aside0 (bibelotref07_Code.l2 kq l0 x3_2 x7_2 = some r) ∧ Aside0 (kq ≤ k1) ∧ Aside0 (Below w.heap.size w w'))
    case atStart => exact ⟨(x3_1), (0), (by first | rfl | (simp; done) | (simp [*]; done)), (by first | rfl | (simp; done) | (simp [*]; done)), H', ⟨Nat.le_refl _⟩, ⟨by repeat (first | (with_reducible first | exact HB.out | apply below_alloc | apply pw_below_drewN | apply below_drew1) | exact HB.out)⟩⟩
    case round =>
     clear H'
     try clear c2
     try clear c2b0
     try clear p2
     try clear c3
     try clear c3b0
     try clear p3
     try clear q3
     try clear hx3
     try clear c4
     try clear c4b0
     try clear c5
     try clear c6
     try clear c6b0
     try clear p6
     try clear c7
     try clear c7b0
     try clear c9
     try clear c9b0
     try clear hx381_0
     try clear hx383_0
     try clear p2
     try clear p381
     try clear p383
     try clear q381
     try clear q383
     obtain ⟨x3_2, x7_2, rfl, rfl, HA, HK2, HB⟩ := hrel
     cases gk with
     | zero => exact absurd HA.out (by simp [bibelotref07_Code.l2])
     | succ k2 =>
      have H := HA.out
      clear HA
      simp only [bibelotref07_Code.l2] at H
      by_cases c16 : x7_2 < (l0.length : Int)
      ·rw [if_pos c16] at H
       have c16b0 : decide (x7_2 < (l0.length : Int)) = true := decide_eq_true c16
       clear c16
       by_cases c17 : 0 ≤ x7_2
       ·rw [if_pos c17] at H
        have c17b0 : decide (0 ≤ x7_2) = true := decide_eq_true c17
        clear c17
        by_cases c18 : (rd l0 x7_2) < 0
        ·rw [if_pos c18] at H
         have c18b0 : decide ((rd l0 x7_2) < 0) = true := decide_eq_true c18
         clear c18
         have H' := Aside0.mk H
         clear H
         have p385 : 0 ≤ (x7_2 : Int) := of_decide_eq_true (by first | (with_reducible assumption) | assumption)
         have q385 : x7_2 < (l0.length : Int) := of_decide_eq_true (by first | (with_reducible assumption) | assumption)
         obtain ⟨ad385, e385, hx385_0⟩ := Kd.at_int HR0.out x7_2 p385 q385
         cases e385
         replace hx385_0 := (HB.out.cell (World.block_lt_of_cell? w _ hx385_0)).trans hx385_0
         replace p385 := eq_true p385
         replace q385 := eq_true q385
         go_wp2
         go_roundg k2
         case measure => have := HK1.out; have := HK2.out; omega
         case rel => exact ⟨(wrap64 ((wrap64 (2 * x3_2)) + 1)), (wrap64 (x7_2 + 1)), (by first | rfl | (simp; done) | (simp [*]; done)), (by first | rfl | (simp; done) | (simp [*]; done)), H', ⟨by have := HK1.out; have := HK2.out; omega⟩, ⟨by repeat (first | (with_reducible first | exact HB.out | apply below_alloc | apply pw_below_drewN | apply below_drew1) | exact HB.out)⟩⟩
        ·rw [if_neg c18] at H
         have c18b0 : decide ((rd l0 x7_2) < 0) = false := decide_eq_false c18
         clear c18
         have H' := Aside0.mk H
         clear H
         have p385 : 0 ≤ (x7_2 : Int) := of_decide_eq_true (by first | (with_reducible assumption) | assumption)
         have q385 : x7_2 < (l0.length : Int) := of_decide_eq_true (by first | (with_reducible assumption) | assumption)
         obtain ⟨ad385, e385, hx385_0⟩ := Kd.at_int HR0.out x7_2 p385 q385
         cases e385
         replace hx385_0 := (HB.out.cell (World.block_lt_of_cell? w _ hx385_0)).trans hx385_0
         replace p385 := eq_true p385
         replace q385 := eq_true q385
         go_wp2
         go_roundg k2
         case measure => have := HK1.out; have := HK2.out; omega
         case rel => exact ⟨(wrap64 (2 * x3_2)), (wrap64 (x7_2 + 1)), (by first | rfl | (simp; done) | (simp [*]; done)), (by first | rfl | (simp; done) | (simp [*]; done)), H', ⟨by have := HK1.out; have := HK2.out; omega⟩, ⟨by repeat (first | (with_reducible first | exact HB.out | apply below_alloc | apply pw_below_drewN | apply below_drew1) | exact HB.out)⟩⟩
       ·rw [if_neg c17] at H
        exact absurd H (by simp)
      ·rw [if_neg c16] at H
       have c16b0 : decide (x7_2 < (l0.length : Int)) = false := decide_eq_false c16
       clear c16
       obtain rfl := Option.some.inj H
       go_wp2
       go_ret
       exact ⟨by first | rfl | (simp [errW_none, errW_some] <;> rfl) | (simp [*, errW_none, errW_some] <;> rfl), by repeat (first | (with_reducible first | exact HB.out | apply below_alloc | apply pw_below_drewN | apply below_drew1) | exact HB.out)⟩

end Go.Proofs.Ytepjhdblmghckaa.Q
/- The document's codes of stacks: what they are, and that no two stacks have the same. -/
namespace Go.Proofs.Ytepjhdblmghckaa.G
set_option linter.unusedVariables false
set_option linter.unusedSimpArgs false
set_option linter.unusedSectionVars false
open Go.Proofs.Ytepjhdblmghckaa.Q Go.Proofs.Ytepjhdblmghckaa.K Go.Proofs.Ytepjhdblmghckaa.Bf
open Go.RowKit Go.Proofs.YtepjhdblmghckaaW.PrintWords Go.Proofs.YtepjhdblmghckaaW.PrintLast Go.Proofs.YtepjhdblmghckaaW.PrintMore
def lessH (x : Int) (t : List Int) : Nat := t.countP (fun y => decide (y.natAbs < x.natAbs))
theorem lessH_le (x : Int) (t : List Int) : lessH x t ≤ t.length := List.countP_le_length
theorem lessH_cons (x y : Int) (t : List Int) : lessH x (y :: t) = lessH x t + (if y.natAbs < x.natAbs then 1 else 0) := by
 unfold lessH
 rw [List.countP_cons]
 by_cases h : y.natAbs < x.natAbs <;> simp [h]
def lehm : Nat → List Int → Nat
 | c, [] => c
 | c, x :: t => lehm (c * (t.length + 1) + lessH x t) t
def sgnN : Nat → List Int → Nat
 | c, [] => c
 | c, x :: t => sgnN (2 * c + if x < 0 then 1 else 0) t
/-- The code of a stack. -/
def codeN (l : List Int) : Nat := sgnN (lehm 0 l) l
def fct : Nat → Nat
 | 0 => 1
 | k + 1 => (k + 1) * fct k
theorem fct_pos : ∀ k, 1 ≤ fct k
 | 0 => Nat.le_refl _
 | k + 1 => Nat.mul_pos (Nat.succ_pos k) (fct_pos k)
theorem fct_mono (k : Nat) : fct k ≤ fct (k + 1) := by
 show fct k ≤ (k + 1) * fct k
 exact Nat.le_mul_of_pos_left _ (Nat.succ_pos k)
theorem fct_le {k : Nat} : ∀ d, fct k ≤ fct (k + d)
 | 0 => Nat.le_refl _
 | d + 1 => Nat.le_trans (fct_le d) (fct_mono (k + d))
theorem fct7 {k : Nat} (h : k ≤ 7) : fct k ≤ 5040 := by
 have h1 := fct_le (k := k) (7 - k)
 rw [show k + (7 - k) = 7 by omega] at h1
 have h2 : fct 7 = 5040 := by decide
 omega
theorem lehm_lt : ∀ (l : List Int) (c : Nat), lehm c l + 1 ≤ (c + 1) * fct l.length
 | [], c => by simp [lehm, fct]
 | x :: t, c => by
  have ih := lehm_lt t (c * (t.length + 1) + lessH x t)
  have h1 := lessH_le x t
  have h2 : (c * (t.length + 1) + lessH x t + 1) * fct t.length ≤ ((c + 1) * (t.length + 1)) * fct t.length := Nat.mul_le_mul_right _ (by rw [Nat.succ_mul]; omega)
  rw [lehm]
  refine Nat.le_trans ih (Nat.le_trans h2 ?_)
  rw [List.length_cons, fct, Nat.mul_assoc]
  exact Nat.le_refl _
theorem sgnN_lt : ∀ (l : List Int) (c : Nat), sgnN c l + 1 ≤ (c + 1) * 2 ^ l.length
 | [], c => by simp [sgnN]
 | x :: t, c => by
  have ih := sgnN_lt t (2 * c + if x < 0 then 1 else 0)
  have h2 : (2 * c + (if x < 0 then 1 else 0) + 1) * 2 ^ t.length ≤ ((c + 1) * 2) * 2 ^ t.length := Nat.mul_le_mul_right _ (by split <;> omega)
  rw [sgnN]
  refine Nat.le_trans ih (Nat.le_trans h2 ?_)
  rw [List.length_cons, Nat.pow_succ, Nat.mul_assoc, Nat.mul_comm 2]
  exact Nat.le_refl _
theorem codeN_lt (l : List Int) : codeN l < fct l.length * 2 ^ l.length := by
 have h1 := lehm_lt l 0
 have h2 := sgnN_lt l (lehm 0 l)
 have h3 : (lehm 0 l + 1) * 2 ^ l.length ≤ fct l.length * 2 ^ l.length := Nat.mul_le_mul_right _ (by omega)
 unfold codeN
 omega
/-! ### No two have the same -/
def digs : List Int → List Nat
 | [] => []
 | x :: t => lessH x t :: digs t
theorem divmod_inj {a b m p q : Nat} (hp : p ≤ m) (hq : q ≤ m) (h : a * (m + 1) + p = b * (m + 1) + q) : a = b ∧ p = q := by
 have h1 : (a * (m + 1) + p) / (m + 1) = a := by rw [Nat.mul_comm, Nat.mul_add_div (by omega), Nat.div_eq_of_lt (by omega), Nat.add_zero]
 have h2 : (b * (m + 1) + q) / (m + 1) = b := by rw [Nat.mul_comm, Nat.mul_add_div (by omega), Nat.div_eq_of_lt (by omega), Nat.add_zero]
 rw [h] at h1
 have : a = b := h1.symm.trans h2
 subst this
 exact ⟨rfl, by omega⟩
theorem lehm_inj : ∀ (l m : List Int) (c e : Nat), l.length = m.length → lehm c l = lehm e m → c = e ∧ digs l = digs m
 | [], [], c, e, _, h => ⟨h, rfl⟩
 | x :: t, y :: u, c, e, hl, h => by
  have hl2 : t.length = u.length := by simpa using hl
  rw [lehm, lehm] at h
  obtain ⟨h1, h2⟩ := lehm_inj t u _ _ hl2 h
  rw [hl2] at h1
  have h3 := lessH_le x t
  obtain ⟨h4, h5⟩ := divmod_inj (by omega) (lessH_le y u) h1
  refine ⟨h4, ?_⟩
  rw [digs, digs, h5, h2]
 | [], y :: u, c, e, hl, h => by simp at hl
 | x :: t, [], c, e, hl, h => by simp at hl
theorem sgnN_inj : ∀ (l m : List Int) (c e : Nat), l.length = m.length → sgnN c l = sgnN e m → c = e ∧ l.map (fun x => decide (x < 0)) = m.map (fun x => decide (x < 0))
 | [], [], c, e, _, h => ⟨h, rfl⟩
 | x :: t, y :: u, c, e, hl, h => by
  rw [sgnN, sgnN] at h
  obtain ⟨h1, h2⟩ := sgnN_inj t u _ _ (by simpa using hl) h
  rw [List.map_cons, List.map_cons, h2]
  by_cases hx : x < 0 <;> by_cases hy : y < 0
  ·rw [if_pos hx, if_pos hy] at h1
   exact ⟨by omega, by rw [decide_eq_true hx, decide_eq_true hy]⟩
  ·rw [if_pos hx, if_neg hy] at h1; omega
  ·rw [if_neg hx, if_pos hy] at h1; omega
  ·rw [if_neg hx, if_neg hy] at h1
   exact ⟨by omega, by rw [decide_eq_false hx, decide_eq_false hy]⟩
 | [], y :: u, c, e, hl, h => by simp at hl
 | x :: t, [], c, e, hl, h => by simp at hl
theorem countP_lt {p q : Nat → Bool} (hpq : ∀ y, p y = true → q y = true) {x : Nat} (hp : p x = false) (hq : q x = true) : ∀ l : List Nat, x ∈ l → l.countP p < l.countP q
 | y :: l, h => by
  rw [List.countP_cons, List.countP_cons]
  rcases List.mem_cons.1 h with rfl | h
  ·have := List.countP_mono_left (p := p) (q := q) (l := l) (fun y _ => hpq y)
   rw [hp, hq]
   simp
   omega
  ·have := countP_lt hpq hp hq l h
   have h2 : (if p y = true then 1 else 0) ≤ (if q y = true then 1 else 0) := by
    by_cases h3 : p y = true
    ·rw [if_pos h3, if_pos (hpq y h3)]; exact Nat.le_refl _
    ·rw [if_neg h3]; exact Nat.zero_le _
   omega
theorem lessH_map (x : Int) (t : List Int) : lessH x t = (t.map Int.natAbs).countP (fun y => decide (y < x.natAbs)) := by
 unfold lessH
 rw [List.countP_map]; rfl
theorem digs_inj : ∀ (l m : List Int), (l.map Int.natAbs).Perm (m.map Int.natAbs) → digs l = digs m → l.map Int.natAbs = m.map Int.natAbs
 | [], [], _, _ => rfl
 | x :: t, y :: u, hp, h => by
  rw [digs, digs] at h
  injection h with h1 h2
  have e1 : lessH x t = ((x :: t).map Int.natAbs).countP (fun z => decide (z < x.natAbs)) := by rw [lessH_map, List.map_cons, List.countP_cons]; simp
  have e2 : lessH y u = ((x :: t).map Int.natAbs).countP (fun z => decide (z < y.natAbs)) := by rw [lessH_map, hp.countP_eq, List.map_cons, List.countP_cons]; simp
  have hxm : x.natAbs ∈ (x :: t).map Int.natAbs := by simp
  have hym : y.natAbs ∈ (x :: t).map Int.natAbs := hp.symm.subset (by simp)
  have hxy : x.natAbs = y.natAbs := by
   rcases Nat.lt_trichotomy x.natAbs y.natAbs with hlt | he | hlt
   ·have := countP_lt (p := fun z => decide (z < x.natAbs)) (q := fun z => decide (z < y.natAbs)) (fun z hz => by simp at hz ⊢; omega) (x := x.natAbs) (by simp) (by simpa using hlt) _ hxm
    omega
   ·exact he
   ·have := countP_lt (p := fun z => decide (z < y.natAbs)) (q := fun z => decide (z < x.natAbs)) (fun z hz => by simp at hz ⊢; omega) (x := y.natAbs) (by simp) (by simpa using hlt) _ hym
    omega
  rw [List.map_cons, List.map_cons] at hp ⊢
  rw [hxy] at hp ⊢
  rw [digs_inj t u hp.cons_inv h2]
 | [], y :: u, hp, h => by cases h
 | x :: t, [], hp, h => by cases h
theorem abs_sign : ∀ (l m : List Int), l.map Int.natAbs = m.map Int.natAbs → l.map (fun x => decide (x < 0)) = m.map (fun x => decide (x < 0)) → l = m
 | [], [], _, _ => rfl
 | x :: t, y :: u, h1, h2 => by
  rw [List.map_cons, List.map_cons] at h1 h2
  injection h1 with a1 a2
  injection h2 with b1 b2
  have : (x < 0) ↔ (y < 0) := by simpa using b1
  rw [abs_sign t u a2 b2, show x = y by omega]
 | [], y :: u, h, _ => by cases h
 | x :: t, [], h, _ => by cases h
/-- Each number from 1 to n is there. -/
theorem Stk.has {sg : Bool} {n : Nat} {l : List Int} (h : Stk sg n l) {a : Nat} (h1 : 1 ≤ a) (h2 : a ≤ n) : a ∈ l.map Int.natAbs := by
 by_cases hm : a ∈ l.map Int.natAbs
 ·exact hm
 ·have h3 := nodup_sub (a :: l.map Int.natAbs) ((List.range n).map (· + 1)) (List.nodup_cons.2 ⟨hm, h.nd⟩) (fun x hx => by
   rcases List.mem_cons.1 hx with rfl | hx
   ·exact List.mem_map.2 ⟨x - 1, List.mem_range.2 (by omega), by omega⟩
   ·obtain ⟨y, hy, rfl⟩ := List.mem_map.1 hx
    have := h.rng y hy
    exact List.mem_map.2 ⟨y.natAbs - 1, List.mem_range.2 (by omega), by omega⟩)
  simp only [List.length_cons, List.length_map, List.length_range, h.len] at h3
  omega
theorem Stk.perm {sg tg : Bool} {n : Nat} {l m : List Int} (h : Stk sg n l) (k : Stk tg n m) : (l.map Int.natAbs).Perm (m.map Int.natAbs) := by
 refine (List.perm_ext_iff_of_nodup h.nd k.nd).2 (fun a => ?_)
 constructor
 ·intro ha
  obtain ⟨y, hy, rfl⟩ := List.mem_map.1 ha
  have := h.rng y hy
  exact k.has (by omega) (by omega)
 ·intro ha
  obtain ⟨y, hy, rfl⟩ := List.mem_map.1 ha
  have := k.rng y hy
  exact h.has (by omega) (by omega)
theorem code_inj {sg tg : Bool} {n : Nat} {l m : List Int} (h : Stk sg n l) (k : Stk tg n m) (he : codeN l = codeN m) : l = m := by
 have hl : l.length = m.length := h.len.trans k.len.symm
 obtain ⟨h1, h2⟩ := sgnN_inj l m _ _ hl he
 exact abs_sign l m (digs_inj l m (h.perm k) (lehm_inj l m _ _ hl h1).2) h2
/-! ### The document's function -/
theorem code_l2 (l : List Int) (hl : l.length ≤ 7) : ∀ d i c : Nat, i + d = l.length → (c + 1) * 2 ^ d ≤ 1000000 → Ev (fun k => bibelotref07_Code.l2 k l (c : Int) (i : Int)) ((sgnN c (l.drop i) : Nat) : Int)
 | 0, i, c, h, hc => by
  refine Ev.step (f := fun _ => some ((c : Nat) : Int)) (fun k => ?_) ?_
  ·rw [bibelotref07_Code.l2, if_neg (by omega)]
  ·rw [List.drop_of_length_le (by omega)]; exact Ev.now _
 | d + 1, i, c, h, hc => by
  have hp : 1 ≤ 2 ^ d := Nat.one_le_two_pow
  have hb : (c + 1) * 2 ≤ 1000000 := by
   have : (c + 1) * 2 * 1 ≤ (c + 1) * 2 * 2 ^ d := Nat.mul_le_mul_left _ hp
   have e : (c + 1) * 2 ^ (d + 1) = (c + 1) * 2 * 2 ^ d := by rw [Nat.pow_succ, Nat.mul_assoc, Nat.mul_comm 2]
   omega
  have ih := code_l2 l hl d (i + 1) (2 * c + if nth l i < 0 then 1 else 0) (by omega) (by
   have : (2 * c + (if nth l i < 0 then 1 else 0) + 1) * 2 ^ d ≤ ((c + 1) * 2) * 2 ^ d := Nat.mul_le_mul_right _ (by split <;> omega)
   have e : (c + 1) * 2 ^ (d + 1) = (c + 1) * 2 * 2 ^ d := by rw [Nat.pow_succ, Nat.mul_assoc, Nat.mul_comm 2]
   omega)
  rw [drop_nth l i (by omega), sgnN]
  refine Ev.step (fun k => ?_) ih
  rw [bibelotref07_Code.l2, if_pos (by omega), if_pos (by omega), rd_nth, w64 (x := (i : Int) + 1) (by omega) (by omega), w64 (x := 2 * (c : Int)) (by omega) (by omega)]
  by_cases hn : nth l i < 0
  ·rw [if_pos hn, if_pos hn, w64 (by omega) (by omega)]; rfl
  ·rw [if_neg hn, if_neg hn]; rfl
theorem code_l1 {sg : Bool} {n : Nat} {l : List Int} (h : Stk sg n l) (hn : n ≤ 7) {R : Int} (i c tot : Nat) (hi : i < n) (htot : tot ≤ 7) (hc : c * (n - i) + tot ≤ 1000000)
  (hgo : Ev (fun k => bibelotref07_Code.l0 k l ((c * (n - i) + tot : Nat) : Int) ((i + 1 : Nat) : Int)) R) : ∀ d j s : Nat, j + d = n → s + lessH (nth l i) (l.drop j) = tot → Ev (fun k => bibelotref07_Code.l1 k l (c : Int) (i : Int) (s : Int) (j : Int)) R
 | 0, j, s, hj, hs => by
  have hl := h.len
  refine Ev.step (fun k => ?_) hgo
  rw [List.drop_of_length_le (by omega)] at hs
  have hs2 : s = tot := by simpa [lessH] using hs
  subst hs2
  have e1 : (l.length : Int) - (i : Int) = ((n - i : Nat) : Int) := by omega
  have e2 : (c : Int) * ((n - i : Nat) : Int) = ((c * (n - i) : Nat) : Int) := (Int.natCast_mul _ _).symm
  rw [bibelotref07_Code.l1, if_neg (by omega), w64 (x := (i : Int) + 1) (by omega) (by omega), e1, w64 (x := ((n - i : Nat) : Int)) (by omega) (by omega), e2, w64 (x := ((c * (n - i) : Nat) : Int)) (by omega) (by omega), w64 (by omega) (by omega)]
  rfl
 | d + 1, j, s, hj, hs => by
  have hl := h.len
  have hsm := h.small (by omega)
  have hj2 := hsm j
  have hi2 := hsm i
  rw [drop_nth l j (by omega), lessH_cons] at hs
  have ih := code_l1 h hn i c tot hi htot hc hgo d (j + 1) (s + if (nth l j).natAbs < (nth l i).natAbs then 1 else 0) (by omega) (by omega)
  refine Ev.step (fun k => ?_) ih
  rw [bibelotref07_Code.l1, if_pos (by omega), if_pos (by omega), rd_nth, rd_nth, abs_f _ (by omega), Option.bind_some, if_pos (by omega), if_pos (by omega), abs_f _ (by omega), Option.bind_some, w64 (x := (j : Int) + 1) (by omega) (by omega)]
  by_cases hlt : (nth l j).natAbs < (nth l i).natAbs
  ·rw [if_pos (by omega), if_pos hlt, w64 (by omega) (by omega)]; rfl
  ·rw [if_neg (by omega), if_neg hlt]; rfl
theorem code_l0 {sg : Bool} {n : Nat} {l : List Int} (h : Stk sg n l) (hn : n ≤ 7) : ∀ d i c : Nat, i + d = n → (c + 1) * fct d ≤ 5040 → Ev (fun k => bibelotref07_Code.l0 k l (c : Int) (i : Int)) ((sgnN (lehm c (l.drop i)) l : Nat) : Int)
 | 0, i, c, hi, hc => by
  have hl := h.len
  have hd : l.drop i = [] := List.drop_of_length_le (by omega)
  rw [hd, lehm]
  refine Ev.step (fun k => ?_) (code_l2 l (by omega) l.length 0 c (by omega) ?_)
  ·rw [bibelotref07_Code.l0, if_neg (by omega)]; rfl
  ·have h1 : c + 1 ≤ 5040 := by simpa [fct] using hc
   have h2 : 2 ^ l.length ≤ 2 ^ 7 := Nat.pow_le_pow_right (by decide) (by omega)
   have h3 : (c + 1) * 2 ^ l.length ≤ 5040 * 2 ^ 7 := Nat.mul_le_mul h1 h2
   omega
 | d + 1, i, c, hi, hc => by
  have hl := h.len
  have hle := lessH_le (nth l i) (l.drop (i + 1))
  rw [List.length_drop] at hle
  have e0 : (l.drop (i + 1)).length = d := by rw [List.length_drop]; omega
  have e1 : n - i = d + 1 := by omega
  have hp := fct_pos d
  have hstep : (c * (d + 1) + lessH (nth l i) (l.drop (i + 1)) + 1) * fct d ≤ 5040 := by
   have h2 : (c * (d + 1) + lessH (nth l i) (l.drop (i + 1)) + 1) * fct d ≤ ((c + 1) * (d + 1)) * fct d := Nat.mul_le_mul_right _ (by rw [Nat.succ_mul]; omega)
   rw [fct, ← Nat.mul_assoc] at hc
   omega
  have hb : c * (d + 1) + lessH (nth l i) (l.drop (i + 1)) + 1 ≤ 5040 := Nat.le_trans (Nat.le_mul_of_pos_right _ hp) hstep
  have ih := code_l0 h hn d (i + 1) (c * (d + 1) + lessH (nth l i) (l.drop (i + 1))) (by omega) hstep
  have h1 := code_l1 h hn i c (lessH (nth l i) (l.drop (i + 1))) (by omega) (by omega) (by rw [e1]; omega) (by rw [e1]; exact ih) (n - (i + 1)) (i + 1) 0 (by omega) (by omega)
  rw [drop_nth l i (by omega), lehm, e0]
  refine Ev.step (fun k => ?_) h1
  rw [bibelotref07_Code.l0, if_pos (by omega), w64 (by omega) (by omega)]
  rfl
theorem code_ev {sg : Bool} {n : Nat} {l : List Int} (h : Stk sg n l) (hn : n ≤ 7) : Ev (fun k => bibelotref07_Code.f k l) (codeN l : Int) :=
 code_l0 h hn n 0 0 (by omega) (by have := fct7 hn; omega)
end Go.Proofs.Ytepjhdblmghckaa.G
/- Flips of stacks: they are stacks; each stack is reached from each; distances. -/
namespace Go.Proofs.Ytepjhdblmghckaa.G
set_option linter.unusedVariables false
set_option linter.unusedSimpArgs false
set_option linter.unusedSectionVars false
open Go.Proofs.Ytepjhdblmghckaa.Q Go.Proofs.Ytepjhdblmghckaa.K Go.Proofs.Ytepjhdblmghckaa.Bf
open Go.RowKit Go.Proofs.YtepjhdblmghckaaW.PrintWords Go.Proofs.YtepjhdblmghckaaW.PrintLast Go.Proofs.YtepjhdblmghckaaW.PrintMore
theorem nth_get (l : List Int) (p : Nat) (h : p < l.length) : nth l p = l[p] := by
 unfold nth; rw [List.getD_eq_getElem?_getD, List.getElem?_eq_getElem h]; rfl
theorem nth_in (l : List Int) (p : Nat) (h : p < l.length) : nth l p ∈ l := by
 rw [nth_get l p h]; exact List.getElem_mem h
theorem mem_nth {l : List Int} {x : Int} (h : x ∈ l) : ∃ p, p < l.length ∧ nth l p = x := by
 obtain ⟨p, hp, rfl⟩ := List.getElem_of_mem h
 exact ⟨p, hp, nth_get l p hp⟩
theorem stk_nth {sg : Bool} {n : Nat} {l : List Int} : Stk sg n l ↔ l.length = n ∧ (∀ p, p < n → nth l p ≠ 0 ∧ -(n : Int) ≤ nth l p ∧ nth l p ≤ n) ∧ (∀ p q, p < n → q < n → (nth l p).natAbs = (nth l q).natAbs → p = q) ∧ (sg = false → ∀ p, p < n → 0 < nth l p) := by
 constructor
 ·intro h
  refine ⟨h.len, fun p hp => h.rng _ (nth_in l p (by rw [h.len]; exact hp)), fun p q hp hq he => ?_, fun hs p hp => h.pos hs _ (nth_in l p (by rw [h.len]; exact hp))⟩
  have hnd := List.pairwise_iff_getElem.1 h.nd
  rcases Nat.lt_trichotomy p q with hlt | he2 | hlt
  ·have := hnd p q (by rw [List.length_map, h.len]; exact hp) (by rw [List.length_map, h.len]; exact hq) hlt
   rw [List.getElem_map, List.getElem_map, ← nth_get l p (by rw [h.len]; exact hp), ← nth_get l q (by rw [h.len]; exact hq)] at this
   exact absurd he this
  ·exact he2
  ·have := hnd q p (by rw [List.length_map, h.len]; exact hq) (by rw [List.length_map, h.len]; exact hp) hlt
   rw [List.getElem_map, List.getElem_map, ← nth_get l p (by rw [h.len]; exact hp), ← nth_get l q (by rw [h.len]; exact hq)] at this
   exact absurd he.symm this
 ·rintro ⟨h1, h2, h3, h4⟩
  refine ⟨h1, fun x hx => ?_, ?_, fun hs x hx => ?_⟩
  ·obtain ⟨p, hp, rfl⟩ := mem_nth hx
   exact h2 p (by omega)
  ·refine List.pairwise_iff_getElem.2 (fun p q hp hq hlt he => ?_)
   rw [List.length_map] at hp hq
   rw [List.getElem_map, List.getElem_map, ← nth_get l p hp, ← nth_get l q hq] at he
   have := h3 p q (by omega) (by omega) he
   omega
  ·obtain ⟨p, hp, rfl⟩ := mem_nth hx
   exact h4 hs p (by omega)
theorem fl_eq (sg : Bool) (m : Nat → Int) (i k p : Nat) : fl sg m i (k + 1) p = if i ≤ p ∧ p ≤ k then (if sg = true then -(m (i + k - p)) else m (i + k - p)) else m p := by
 unfold fl rv
 cases sg
 ·rw [if_neg (by simp)]
  by_cases h : i ≤ p ∧ p ≤ k
  ·rw [if_pos h, if_pos (by omega), if_neg (by decide)]; congr 1
  ·rw [if_neg h, if_neg (by omega)]
 ·by_cases h : i ≤ p ∧ p ≤ k
  ·rw [if_pos h, if_pos ⟨rfl, h.1, by omega⟩, if_pos ⟨h.1, by omega⟩, if_pos rfl]; congr 2
  ·rw [if_neg h, if_neg (fun h' => h ⟨h'.2.1, by omega⟩), if_neg (fun h' => h ⟨h'.1, by omega⟩)]
theorem flL_nth {l : List Int} (sg : Bool) (i k p : Nat) (hk : k < l.length) : nth (flL sg l i k) p = if i ≤ p ∧ p ≤ k then (if sg = true then -(nth l (i + k - p)) else nth l (i + k - p)) else nth l p := by
 rw [nth_flL sg l i k hk, fl_eq]
theorem stk_flL {sg tg : Bool} {n : Nat} {l : List Int} (h : Stk sg n l) (ht : tg = true → sg = true) (i k : Nat) (hik : i ≤ k) (hk : k < n) : Stk sg n (flL tg l i k) := by
 have hl := h.len
 obtain ⟨h1, h2, h3, h4⟩ := stk_nth.1 h
 have hab : ∀ p, (nth (flL tg l i k) p).natAbs = (nth l (if i ≤ p ∧ p ≤ k then i + k - p else p)).natAbs := fun p => by
  rw [flL_nth tg i k p (by omega)]
  by_cases hp : i ≤ p ∧ p ≤ k
  ·rw [if_pos hp, if_pos hp]
   split
   ·rw [Int.natAbs_neg]
   ·rfl
  ·rw [if_neg hp, if_neg hp]
 have hin : ∀ p, p < n → (if i ≤ p ∧ p ≤ k then i + k - p else p) < n := fun p hp => by split <;> omega
 refine stk_nth.2 ⟨by rw [flL_len, hl], fun p hp => ?_, fun p q hp hq he => ?_, fun hs p hp => ?_⟩
 ·have := h2 _ (hin p hp)
  have e := hab p
  omega
 ·rw [hab p, hab q] at he
  have := h3 _ _ (hin p hp) (hin q hq) he
  split at this <;> split at this <;> omega
 ·have htf : tg = false := by cases tg with
   | false => rfl
   | true => rw [ht rfl] at hs; cases hs
  have := h4 hs _ (hin p hp)
  rw [flL_nth tg i k p (by omega), htf]
  by_cases hpk : i ≤ p ∧ p ≤ k
  ·rw [if_pos hpk] at this ⊢; rw [if_neg (by decide)]; exact this
  ·rw [if_neg hpk] at this ⊢; exact this
theorem Stk.vs {sg : Bool} {n : Nat} {l : List Int} (h : Stk sg n l) (hn : n ≤ 7) : Vs n l := by
 refine ⟨h.len, fun j => ?_⟩
 by_cases hj : j < n
 ·have := (stk_nth.1 h).2.1 j hj; omega
 ·rw [nth_end _ _ (by rw [h.len]; omega)]; omega
theorem stk_firstL (sg : Bool) (n : Nat) : Stk sg n (firstL n) := by
 refine stk_nth.2 ⟨by simp [firstL], fun p hp => ?_, fun p q hp hq he => ?_, fun hs p hp => ?_⟩
 ·rw [nth_firstL]; unfold upTo; rw [if_pos hp]; omega
 ·rw [nth_firstL] at he; unfold upTo at he; rw [if_pos hp, if_pos hq] at he; omega
 ·rw [nth_firstL]; unfold upTo; rw [if_pos hp]; omega
/-! ### balls -/
section
variable {α : Type} [DecidableEq α] {next : α → List α}
theorem ball_cons {s y x : α} (hy : y ∈ next s) : ∀ k, x ∈ ball next y k → x ∈ ball next s (k + 1)
 | 0, h => by
  have : x = y := by simpa [ball] using h
  subst this
  exact ball_succ.2 (.inr ⟨s, by simp [ball], hy⟩)
 | k + 1, h => by
  rcases ball_succ.1 h with h | ⟨z, hz, hx⟩
  ·exact ball_mono (Nat.le_succ _) (ball_cons hy k h)
  ·exact ball_succ.2 (.inr ⟨z, ball_cons hy k hz, hx⟩)
theorem ball_trans {a b c : α} {i : Nat} (h1 : b ∈ ball next a i) : ∀ j, c ∈ ball next b j → c ∈ ball next a (i + j)
 | 0, h => by
  have : c = b := by simpa [ball] using h
  rw [this]; exact h1
 | j + 1, h => by
  rcases ball_succ.1 h with h | ⟨z, hz, hx⟩
  ·exact ball_mono (Nat.le_succ _) (ball_trans h1 j h)
  ·exact ball_succ.2 (.inr ⟨z, ball_trans h1 j hz, hx⟩)
theorem ball_exact {a b : α} : ∀ k, b ∈ ball next a k → ∃ d, d ≤ k ∧ Exact next a b d
 | 0, h => ⟨0, Nat.le_refl _, h, fun j hj => by omega⟩
 | k + 1, h => by
  by_cases hk : b ∈ ball next a k
  ·obtain ⟨d, h1, h2⟩ := ball_exact k hk
   exact ⟨d, by omega, h2⟩
  ·exact ⟨k + 1, Nat.le_refl _, h, fun j hj hj' => hk (ball_mono (by omega) hj')⟩
end
theorem ball_len {n : Nat} {sg an : Bool} {a b : List Int} (ha : a.length = n) : ∀ k, b ∈ ball (nextK n sg an) a k → b.length = n
 | 0, h => by
  have : b = a := by simpa [ball] using h
  rw [this]; exact ha
 | k + 1, h => by
  rcases ball_succ.1 h with h | ⟨z, hz, hx⟩
  ·exact ball_len ha k h
  ·obtain ⟨x, _, rfl⟩ := List.mem_map.1 hx
   rw [flL_len]; exact ball_len ha k hz
theorem ball_symm {n : Nat} {sg an : Bool} {a b : List Int} (ha : a.length = n) : ∀ k, b ∈ ball (nextK n sg an) a k → a ∈ ball (nextK n sg an) b k := by
 intro k
 induction k generalizing b with
 | zero =>
  intro h
  have : b = a := by simpa [ball] using h
  subst this
  simp [ball]
 | succ k ih =>
  intro h
  rcases ball_succ.1 h with h | ⟨z, hz, hx⟩
  ·exact ball_mono (Nat.le_succ _) (ih h)
  ·exact ball_cons (next_back (ball_len ha k hz) hx) k (ih hz)
theorem ball_stk {n : Nat} {sg an : Bool} {a b : List Int} (ha : Stk sg n a) : ∀ k, b ∈ ball (nextK n sg an) a k → Stk sg n b
 | 0, h => by
  have : b = a := by simpa [ball] using h
  rw [this]; exact ha
 | k + 1, h => by
  rcases ball_succ.1 h with h | ⟨z, hz, hx⟩
  ·exact ball_stk ha k h
  ·obtain ⟨x, hm, rfl⟩ := List.mem_map.1 hx
   have := mem_mv hm
   exact stk_flL (ball_stk ha k hz) (fun h => h) x.1 x.2 this.1 this.2.1
/-- b is reached from a. -/
def Rch (n : Nat) (sg : Bool) (a b : List Int) : Prop := ∃ k, b ∈ ball (nextK n sg false) a k
theorem Rch.refl (n : Nat) (sg : Bool) (a : List Int) : Rch n sg a a := ⟨0, by simp [ball]⟩
theorem Rch.trans {n : Nat} {sg : Bool} {a b c : List Int} (h : Rch n sg a b) (k : Rch n sg b c) : Rch n sg a c := by
 obtain ⟨i, hi⟩ := h
 obtain ⟨j, hj⟩ := k
 exact ⟨i + j, ball_trans hi j hj⟩
theorem Rch.symm {n : Nat} {sg : Bool} {a b : List Int} (ha : a.length = n) (h : Rch n sg a b) : Rch n sg b a := by
 obtain ⟨k, hk⟩ := h
 exact ⟨k, ball_symm ha k hk⟩
theorem flL_one (l : List Int) : flL false l 0 0 = l := by
 by_cases h : 0 < l.length
 ·apply List.ext_getElem (by rw [flL_len])
  intro p h1 h2
  rw [← nth_get _ p h1, ← nth_get l p h2, flL_nth false 0 0 p h]
  split
  ·rw [if_neg (by decide)]; congr 1; omega
  ·rfl
 ·have : l = [] := List.length_eq_zero_iff.1 (by omega)
  rw [this]; rfl
theorem Rch.flip {n : Nat} {sg : Bool} {l : List Int} (k : Nat) (hk : k < n) : Rch n sg l (flL sg l 0 k) := by
 by_cases h : sg = true ∨ k ≠ 0
 ·exact ⟨1, ball_succ.2 (.inr ⟨l, by simp [ball], List.mem_map.2 ⟨(0, k), mv_mem (Nat.zero_le _) hk h (.inr rfl), rfl⟩⟩)⟩
 ·have hk0 : k = 0 := by
   rcases Nat.eq_zero_or_pos k with h' | h'
   ·exact h'
   ·exact absurd (.inr (by omega)) h
  have hs : sg = false := by cases sg with
   | false => rfl
   | true => exact absurd (.inl rfl) h
  subst hk0; subst hs
  rw [flL_one]; exact Rch.refl _ _ _
theorem rch_first {n : Nat} {sg : Bool} : ∀ (m : Nat) (l : List Int), m ≤ n → Stk sg n l → (∀ p, m ≤ p → p < n → nth l p = (p : Int) + 1) → Rch n sg l (firstL n)
 | 0, l, _, h, hr => by
  have : l = firstL n := by
   apply List.ext_getElem (by rw [h.len]; simp [firstL])
   intro p h1 h2
   rw [← nth_get _ p h1, ← nth_get _ p h2, nth_firstL, hr p (Nat.zero_le _) (by rw [← h.len]; exact h1)]
   unfold upTo
   rw [if_pos (by rw [← h.len]; exact h1)]
   omega
  rw [this]; exact Rch.refl _ _ _
 | m + 1, l, hm, h, hr => by
  have hl := h.len
  obtain ⟨y, hy, he⟩ := List.mem_map.1 (h.has (a := m + 1) (by omega) hm)
  obtain ⟨p, hp, rfl⟩ := mem_nth hy
  have hpm : p ≤ m := by
   rcases Nat.lt_or_ge m p with h1 | h1
   ·have := hr p (by omega) (by omega); omega
   ·exact h1
  obtain ⟨l1, hl1⟩ : ∃ l1, flL sg l 0 p = l1 := ⟨_, rfl⟩
  have s1 : Stk sg n l1 := by rw [← hl1]; exact stk_flL h (fun h => h) 0 p (Nat.zero_le _) (by omega)
  have z1 : (nth l1 0).natAbs = m + 1 := by
   rw [← hl1, flL_nth sg 0 p 0 hp, if_pos ⟨Nat.le_refl _, Nat.zero_le _⟩]
   have e0 : 0 + p - 0 = p := by omega
   rw [e0]
   split
   ·rw [Int.natAbs_neg]; exact he
   ·exact he
  have r1 : ∀ q, m + 1 ≤ q → q < n → nth l1 q = (q : Int) + 1 := fun q h1 h2 => by
   rw [← hl1, flL_nth sg 0 p q hp, if_neg (by omega)]; exact hr q h1 h2
  have c1 : Rch n sg l l1 := by rw [← hl1]; exact Rch.flip p (by omega)
  obtain ⟨l2, s2, z2, r2, c2⟩ : ∃ l2, Stk sg n l2 ∧ nth l2 0 = (if sg = true then -((m : Int) + 1) else (m : Int) + 1) ∧ (∀ q, m + 1 ≤ q → q < n → nth l2 q = (q : Int) + 1) ∧ Rch n sg l1 l2 := by
   cases sg with
   | false =>
    refine ⟨l1, s1, ?_, r1, Rch.refl _ _ _⟩
    have := (stk_nth.1 s1).2.2.2 rfl 0 (by omega)
    rw [if_neg (by decide)]; omega
   | true =>
    rw [if_pos rfl]
    by_cases hneg : nth l1 0 < 0
    ·exact ⟨l1, s1, by omega, r1, Rch.refl _ _ _⟩
    ·refine ⟨flL true l1 0 0, stk_flL s1 (fun h => h) 0 0 (Nat.le_refl _) (by omega), ?_, fun q h1 h2 => ?_, Rch.flip 0 (by omega)⟩
     ·rw [flL_nth true 0 0 0 (by rw [s1.len]; omega), if_pos ⟨Nat.le_refl _, Nat.le_refl _⟩, if_pos rfl]
      have : nth l1 (0 + 0 - 0) = nth l1 0 := rfl
      omega
     ·rw [flL_nth true 0 0 q (by rw [s1.len]; omega), if_neg (by omega)]; exact r1 q h1 h2
  obtain ⟨l3, hl3⟩ : ∃ l3, flL sg l2 0 m = l3 := ⟨_, rfl⟩
  have s3 : Stk sg n l3 := by rw [← hl3]; exact stk_flL s2 (fun h => h) 0 m (Nat.zero_le _) (by omega)
  have c3 : Rch n sg l2 l3 := by rw [← hl3]; exact Rch.flip m (by omega)
  refine c1.trans (c2.trans (c3.trans (rch_first m l3 (by omega) s3 (fun q h1 h2 => ?_))))
  rw [← hl3, flL_nth sg 0 m q (by rw [s2.len]; omega)]
  by_cases hq : q = m
  ·subst hq
   rw [if_pos ⟨Nat.zero_le _, Nat.le_refl _⟩, show 0 + q - q = 0 by omega, z2]
   split
   ·omega
   ·rfl
  ·rw [if_neg (by omega)]; exact r2 q (by omega) h2
/-- Each stack is reached from each. -/
theorem rch_all {n : Nat} {sg : Bool} {a b : List Int} (ha : Stk sg n a) (hb : Stk sg n b) : Rch n sg a b :=
 (rch_first n a (Nat.le_refl _) ha (fun p h1 h2 => by omega)).trans ((rch_first n b (Nat.le_refl _) hb (fun p h1 h2 => by omega)).symm hb.len)
theorem gap_exact {n : Nat} (hn : n ≤ 7) {sg : Bool} {a b : List Int} (ha : Stk sg n a) (hb : Stk sg n b) : Exact (nextK n sg false) a b (gap n sg a b) := by
 have hF := bfs_fin sg false (ha.vs hn) none
 have hsm : (Sof (bfs n sg false none (15 ^ n) (ini a)).1 b).isSome = true := by
  cases hm : (bfs n sg false none (15 ^ n) (ini a)).1 b with
  | some e => unfold Sof; rw [hm]; rfl
  | none =>
   rcases hF.done with h | ⟨u, hu, _⟩
   ·obtain ⟨k, hk⟩ := rch_all ha hb
    exact absurd hk (h b hm k)
   ·cases hu
 obtain ⟨e, he⟩ := Option.isSome_iff_exists.1 hsm
 have h1 := hF.exact b e he
 have h2 := hF.found b e he
 unfold gap
 rw [h2]
 exact h1
theorem gap_eq {n : Nat} (hn : n ≤ 7) {sg : Bool} {a b : List Int} (ha : Stk sg n a) (hb : Stk sg n b) {d : Nat} (h : Exact (nextK n sg false) a b d) : gap n sg a b = d := (gap_exact hn ha hb).unique h
theorem gap_le {n : Nat} (hn : n ≤ 7) {sg : Bool} {a b : List Int} (ha : Stk sg n a) (hb : Stk sg n b) {d : Nat} (h : b ∈ ball (nextK n sg false) a d) : gap n sg a b ≤ d := by
 rcases Nat.lt_or_ge d (gap n sg a b) with h1 | h1
 ·exact absurd h ((gap_exact hn ha hb).2 d h1)
 ·exact h1
theorem gap_symm {n : Nat} (hn : n ≤ 7) {sg : Bool} {a b : List Int} (ha : Stk sg n a) (hb : Stk sg n b) : gap n sg a b = gap n sg b a :=
 Nat.le_antisymm (gap_le hn ha hb (ball_symm hb.len _ (gap_exact hn hb ha).1)) (gap_le hn hb ha (ball_symm ha.len _ (gap_exact hn ha hb).1))
theorem gap_tri {n : Nat} (hn : n ≤ 7) {sg : Bool} {a b c : List Int} (ha : Stk sg n a) (hb : Stk sg n b) (hc : Stk sg n c) : gap n sg a b ≤ gap n sg a c + gap n sg c b :=
 gap_le hn ha hb (ball_trans (gap_exact hn ha hc).1 _ (gap_exact hn hc hb).1)
theorem gap_zero {n : Nat} (hn : n ≤ 7) {sg : Bool} {a b : List Int} (ha : Stk sg n a) (hb : Stk sg n b) : gap n sg a b = 0 ↔ a = b := by
 constructor
 ·intro h
  have := (gap_exact hn ha hb).1
  rw [h] at this
  simp [ball] at this
  exact this.symm
 ·rintro rfl
  exact Nat.le_zero.1 (gap_le hn ha ha (by simp [ball]))
end Go.Proofs.Ytepjhdblmghckaa.G
namespace Go.Proofs.Ytepjhdblmghckaa.G
end Go.Proofs.Ytepjhdblmghckaa.G
namespace Go.Proofs.Ytepjhdblmghckaa.Q
set_option linter.unusedVariables false
set_option linter.unusedSimpArgs false
set_option linter.unusedSectionVars false
open Go.Proofs.Ytepjhdblmghckaa.G
open Go.RowKit Go.Proofs.YtepjhdblmghckaaW.PrintWords Go.Proofs.YtepjhdblmghckaaW.PrintLast Go.Proofs.YtepjhdblmghckaaW.PrintMore
attribute [local go_sem] max2_int min2_int max_two min_two max_three min_three max_four min_four   -- for this text's walks alone

/-! ### bibelotref07_All: function 73 -/
mutual
def bibelotref07_All.l0 : Nat → List Int → Bool → Int → Int → Option (List Int × (List (List Int)))
 | 0, _, _, _, _ => none
 | k + 1, x0, x1, x6, x7 => if x7 ≤ (x0.length : Int) then (bibelotref07_All.l0 k x0 x1 (wrap64 ((wrap64 (2 * x6)) * x7)) (wrap64 (x7 + 1))) else (if 0 ≤ x6 then (if (x6 : Int).toNat ≤ 35184372088832 then (bibelotref07_All.l1 k x0 x1 x6 (List.replicate (x6 : Int).toNat 0) 0) else (none)) else (none))
def bibelotref07_All.l1 : Nat → List Int → Bool → Int → List Int → Int → Option (List Int × (List (List Int)))
 | 0, _, _, _, _, _ => none
 | k + 1, x0, x1, x6, x8, x9 => if x9 < x6 then (if 0 ≤ x9 then (if x9 < (x8.length : Int) then (bibelotref07_All.l1 k x0 x1 x6 (x8.set (x9 : Int).toNat (-1)) (wrap64 (x9 + 1))) else (none)) else (none)) else ((bibelotref07_Code.f k x0).bind fun t390 => (if 0 ≤ t390 then (if t390 < (x8.length : Int) then (bibelotref07_All.l2 k x0 x1 (x8.set (t390 : Int).toNat 0) (([x0] : List (List Int))) 0) else (none)) else (none)))
def bibelotref07_All.l2 : Nat → List Int → Bool → List Int → List (List Int) → Int → Option (List Int × (List (List Int)))
 | 0, _, _, _, _, _ => none
 | k + 1, x0, x1, x8, x10, x11 => if x11 < (x10.length : Int) then (if 0 ≤ x11 then ((bibelotref07_Code.f k (rd_L1 x10 x11)).bind fun t396 => (if 0 ≤ t396 then (if t396 < (x8.length : Int) then (bibelotref07_All.l3 k x0 x1 x8 x10 x11 (rd x8 t396) 1) else (none)) else (none))) else (none)) else (some (x8, x10))
def bibelotref07_All.l3 : Nat → List Int → Bool → List Int → List (List Int) → Int → Int → Int → Option (List Int × (List (List Int)))
 | 0, _, _, _, _, _, _, _ => none
 | k + 1, x0, x1, x8, x10, x11, x12, x13 => if x13 ≤ (x0.length : Int) then (if 0 ≤ x11 then (if x11 < (x10.length : Int) then ((bibelotref07_Flip.f k (rd_L1 x10 x11) x13 x1).bind fun t399 => ((bibelotref07_Code.f k t399).bind fun t402 => (if 0 ≤ t402 then (if t402 < (x8.length : Int) then (if (rd x8 t402) < 0 then (if x10.length < 5864062014805 then (bibelotref07_All.l3 k x0 x1 (x8.set (t402 : Int).toNat (wrap64 (x12 + 1))) (x10 ++ [t399]) x11 x12 (wrap64 (x13 + 1))) else (none)) else (bibelotref07_All.l3 k x0 x1 x8 x10 x11 x12 (wrap64 (x13 + 1)))) else (none)) else (none)))) else (none)) else (none)) else (bibelotref07_All.l2 k x0 x1 x8 x10 (wrap64 (x11 + 1)))
end
def bibelotref07_All.f (k : Nat) (l0 : List Int) (a1 : Bool) : Option (List Int × (List (List Int))) := bibelotref07_All.l0 k l0 a1 1 1
theorem bibelotref07_All.mono_l : ∀ k, (∀ y0 y1 y2 y3, LeO (bibelotref07_All.l0 k y0 y1 y2 y3) (bibelotref07_All.l0 (k + 1) y0 y1 y2 y3)) ∧ (∀ y0 y1 y2 y3 y4, LeO (bibelotref07_All.l1 k y0 y1 y2 y3 y4) (bibelotref07_All.l1 (k + 1) y0 y1 y2 y3 y4)) ∧ (∀ y0 y1 y2 y3 y4, LeO (bibelotref07_All.l2 k y0 y1 y2 y3 y4) (bibelotref07_All.l2 (k + 1) y0 y1 y2 y3 y4)) ∧ (∀ y0 y1 y2 y3 y4 y5 y6, LeO (bibelotref07_All.l3 k y0 y1 y2 y3 y4 y5 y6) (bibelotref07_All.l3 (k + 1) y0 y1 y2 y3 y4 y5 y6))
 | 0 => ⟨fun _ _ _ _ r h => by simp [bibelotref07_All.l0] at h, fun _ _ _ _ _ r h => by simp [bibelotref07_All.l1] at h, fun _ _ _ _ _ r h => by simp [bibelotref07_All.l2] at h, fun _ _ _ _ _ _ _ r h => by simp [bibelotref07_All.l3] at h⟩
 | k + 1 => by
  obtain ⟨ih0, ih1, ih2, ih3⟩ := bibelotref07_All.mono_l k
  refine ⟨?_, ?_, ?_, ?_⟩
  ·intro y0 y1 y2 y3
   unfold bibelotref07_All.l0
   repeat' first
   | (with_reducible exact ih0 _ _ _ _)
   | (with_reducible exact ih1 _ _ _ _ _)
   | (with_reducible exact ih2 _ _ _ _ _)
   | (with_reducible exact ih3 _ _ _ _ _ _ _)
   | (with_reducible exact bibelotref07_Code.mono _ _)
   | (with_reducible exact bibelotref07_Flip.mono _ _ _ _)
   | (with_reducible exact LeO.refl _)
   | (with_reducible exact LeO.none _)
   | (with_reducible refine LeO.ite ?_ ?_)
   | (with_reducible refine LeO.bind ?_ (fun _ => ?_))
   | exact ih0 _ _ _ _
   | exact ih1 _ _ _ _ _
   | exact ih2 _ _ _ _ _
   | exact ih3 _ _ _ _ _ _ _
   | exact bibelotref07_Code.mono _ _
   | exact bibelotref07_Flip.mono _ _ _ _
   | exact LeO.none _
   | refine LeO.ite ?_ ?_
   | refine LeO.bind ?_ (fun _ => ?_)
  ·intro y0 y1 y2 y3 y4
   unfold bibelotref07_All.l1
   repeat' first
   | (with_reducible exact ih0 _ _ _ _)
   | (with_reducible exact ih1 _ _ _ _ _)
   | (with_reducible exact ih2 _ _ _ _ _)
   | (with_reducible exact ih3 _ _ _ _ _ _ _)
   | (with_reducible exact bibelotref07_Code.mono _ _)
   | (with_reducible exact bibelotref07_Flip.mono _ _ _ _)
   | (with_reducible exact LeO.refl _)
   | (with_reducible exact LeO.none _)
   | (with_reducible refine LeO.ite ?_ ?_)
   | (with_reducible refine LeO.bind ?_ (fun _ => ?_))
   | exact ih0 _ _ _ _
   | exact ih1 _ _ _ _ _
   | exact ih2 _ _ _ _ _
   | exact ih3 _ _ _ _ _ _ _
   | exact bibelotref07_Code.mono _ _
   | exact bibelotref07_Flip.mono _ _ _ _
   | exact LeO.none _
   | refine LeO.ite ?_ ?_
   | refine LeO.bind ?_ (fun _ => ?_)
  ·intro y0 y1 y2 y3 y4
   unfold bibelotref07_All.l2
   repeat' first
   | (with_reducible exact ih0 _ _ _ _)
   | (with_reducible exact ih1 _ _ _ _ _)
   | (with_reducible exact ih2 _ _ _ _ _)
   | (with_reducible exact ih3 _ _ _ _ _ _ _)
   | (with_reducible exact bibelotref07_Code.mono _ _)
   | (with_reducible exact bibelotref07_Flip.mono _ _ _ _)
   | (with_reducible exact LeO.refl _)
   | (with_reducible exact LeO.none _)
   | (with_reducible refine LeO.ite ?_ ?_)
   | (with_reducible refine LeO.bind ?_ (fun _ => ?_))
   | exact ih0 _ _ _ _
   | exact ih1 _ _ _ _ _
   | exact ih2 _ _ _ _ _
   | exact ih3 _ _ _ _ _ _ _
   | exact bibelotref07_Code.mono _ _
   | exact bibelotref07_Flip.mono _ _ _ _
   | exact LeO.none _
   | refine LeO.ite ?_ ?_
   | refine LeO.bind ?_ (fun _ => ?_)
  ·intro y0 y1 y2 y3 y4 y5 y6
   unfold bibelotref07_All.l3
   repeat' first
   | (with_reducible exact ih0 _ _ _ _)
   | (with_reducible exact ih1 _ _ _ _ _)
   | (with_reducible exact ih2 _ _ _ _ _)
   | (with_reducible exact ih3 _ _ _ _ _ _ _)
   | (with_reducible exact bibelotref07_Code.mono _ _)
   | (with_reducible exact bibelotref07_Flip.mono _ _ _ _)
   | (with_reducible exact LeO.refl _)
   | (with_reducible exact LeO.none _)
   | (with_reducible refine LeO.ite ?_ ?_)
   | (with_reducible refine LeO.bind ?_ (fun _ => ?_))
   | exact ih0 _ _ _ _
   | exact ih1 _ _ _ _ _
   | exact ih2 _ _ _ _ _
   | exact ih3 _ _ _ _ _ _ _
   | exact bibelotref07_Code.mono _ _
   | exact bibelotref07_Flip.mono _ _ _ _
   | exact LeO.none _
   | refine LeO.ite ?_ ?_
   | refine LeO.bind ?_ (fun _ => ?_)
theorem bibelotref07_All.mono : ∀ a0 a1 k, LeO (bibelotref07_All.f k a0 a1) (bibelotref07_All.f (k + 1) a0 a1) := by
 intro a0 a1 k
 obtain ⟨ih0, ih1, ih2, ih3⟩ := bibelotref07_All.mono_l k
 unfold bibelotref07_All.f
 repeat' first
   | (with_reducible exact ih0 _ _ _ _)
   | (with_reducible exact ih1 _ _ _ _ _)
   | (with_reducible exact ih2 _ _ _ _ _)
   | (with_reducible exact ih3 _ _ _ _ _ _ _)
   | (with_reducible exact bibelotref07_Code.mono _ _)
   | (with_reducible exact bibelotref07_Flip.mono _ _ _ _)
   | (with_reducible exact LeO.refl _)
   | (with_reducible exact LeO.none _)
   | (with_reducible refine LeO.ite ?_ ?_)
   | (with_reducible refine LeO.bind ?_ (fun _ => ?_))
   | exact ih0 _ _ _ _
   | exact ih1 _ _ _ _ _
   | exact ih2 _ _ _ _ _
   | exact ih3 _ _ _ _ _ _ _
   | exact bibelotref07_Code.mono _ _
   | exact bibelotref07_Flip.mono _ _ _ _
   | exact LeO.none _
   | refine LeO.ite ?_ ?_
   | refine LeO.bind ?_ (fun _ => ?_)
set_option maxHeartbeats 8000000 in
set_option maxRecDepth 100000 in
theorem bibelotref07_All.calls (k : Nat) (P0_ : Nat → Prop) (A0 : Option Addr) (c0 : Nat) (l0 : List Int) (a1 : Bool) (r1 : List Int) (r2 : List (List Int)) (w : World) (hs0 : Kd.V (Kd.int .i64) 3 w w.heap.size (fun k_ => P0_ k_) (.slice A0 l0.length c0) l0) (h : bibelotref07_All.f k l0 a1 = some (r1, r2)) :
  Calls Try.prog 73 #[.slice A0 l0.length c0, .bool a1] w fun e w' => ∃ v0_ v1_ : Value, e = .returned (.tuple #[v0_, v1_]) ∧ Kd.R (Kd.int .i64) 3 w' w.heap.size (fun k_ => (w.heap.size ≤ k_)) v0_ r1 ∧ Kd.N (Kd.slice 3 (Kd.int .i64)) 22 w' w.heap.size (fun k_ => (P0_ k_ ∨ w.heap.size ≤ k_) ∧ some k_ ≠ (v0_ : Value).ownBlock) v1_ r2 ∧ Below w.heap.size w w' := by
 have HO0 := Aside0.mk (show Kd.V (Kd.int .i64) 3 w w.heap.size (fun k_ => (P0_ k_ ∨ w.heap.size ≤ k_)) (.slice A0 l0.length c0) l0 from Kd.V_mono hs0 (fun k_ hk => .inl hk))
 have HB := Aside0.mk (Below.refl w.heap.size w)
 have H : (bibelotref07_All.l0 k l0 a1 1 1) = some (r1, r2) := h
 clear h
 have H' := Aside0.mk H
 clear H
 go_enter Try.func73, Try.ntmps73
 go_wp2
 go_loopg [6, 7] k (fun kq v6 v7 w' => ∃ (x6_1 : Int) (x7_1 : Int), v6 = .int .i64 x6_1 ∧ v7 = .int .i64 x7_1 ∧ Aside0 (bibelotref07_All.l0 kq l0 a1 x6_1 x7_1 = some (r1, r2)) ∧ Aside0 (kq ≤ k) ∧ Aside0 (Kd.V (Kd.int .i64) 3 w' w.heap.size (fun k_ => (P0_ k_ ∨ w.heap.size ≤ k_)) (.slice A0 l0.length c0) l0) ∧ Aside0 (Below w.heap.size w w'))
 case atStart => exact ⟨(1), (1), (by first | rfl | (simp; done) | (simp [*]; done)), (by first | rfl | (simp; done) | (simp [*]; done)), H', ⟨Nat.le_refl _⟩, ⟨by (with_reducible repeat (first | apply Kd.V_alloc | apply Kd.V_drewN | apply Kd.V_drew)); exact HO0.out⟩, ⟨by repeat (first | (with_reducible first | exact HB.out | apply below_alloc | apply pw_below_drewN | apply below_drew1) | exact HB.out)⟩⟩
 case round =>
  clear H'
  try clear p2
  obtain ⟨x6_1, x7_1, rfl, rfl, HA, HK1, HO_0, HB⟩ := hrel
  cases gk with
  | zero => exact absurd HA.out (by simp [bibelotref07_All.l0])
  | succ k1 =>
   have H := HA.out
   clear HA
   simp only [bibelotref07_All.l0] at H
   by_cases c3 : x7_1 ≤ (l0.length : Int)
   ·rw [if_pos c3] at H
    have c3b0 : decide (x7_1 ≤ (l0.length : Int)) = true := decide_eq_true c3
    clear c3
    have H' := Aside0.mk H
    clear H
    go_wp2
    go_roundg k1
    case measure => have := HK1.out; omega
    case rel => exact ⟨(wrap64 ((wrap64 (2 * x6_1)) * x7_1)), (wrap64 (x7_1 + 1)), (by first | rfl | (simp; done) | (simp [*]; done)), (by first | rfl | (simp; done) | (simp [*]; done)), H', ⟨by have := HK1.out; omega⟩, ⟨by (with_reducible repeat (first | apply Kd.V_alloc | apply Kd.V_drewN | apply Kd.V_drew)); exact HO_0.out⟩, ⟨by repeat (first | (with_reducible first | exact HB.out | apply below_alloc | apply pw_below_drewN | apply below_drew1) | exact HB.out)⟩⟩
   ·rw [if_neg c3] at H
    have c3b0 : decide (x7_1 ≤ (l0.length : Int)) = false := decide_eq_false c3
    clear c3
    by_cases c4 : 0 ≤ x6_1
    ·rw [if_pos c4] at H
     have c4b0 := eq_true c4
     have c4b1 : decide (0 ≤ x6_1) = true := decide_eq_true c4
     clear c4
     by_cases c5 : (x6_1 : Int).toNat ≤ 35184372088832
     ·rw [if_pos c5] at H
      have c5b0 := eq_true c5
      have c5b1 : decide ((x6_1 : Int).toNat ≤ 35184372088832) = true := decide_eq_true c5
      clear c5
      obtain ⟨y386, hy386⟩ : ∃ y_ : List Int, y_ = (List.replicate (x6_1 : Int).toNat 0) := ⟨_, rfl⟩
      replace H : (bibelotref07_All.l1 k1 l0 a1 x6_1 y386 0) = some (r1, r2) := by first | (rw [hy386]; with_reducible exact H) | (have H2_ := (Option.bind_some _ _).symm.trans H; rw [hy386]; with_reducible exact H2_) | (have H2_ := (Option.bind_some _ _).symm.trans H; with_reducible exact H2_) | with_reducible exact H | (rw [hy386]; exact H) | exact H
      have Ny386 := Aside0.mk hy386
      clear hy386
      have H' := Aside0.mk H
      clear H
      go_wp2_with (first | ((with_reducible refine gate_dst (N := 27) rfl ?_); refine Kd.R_make (Kd.int .i64) _ 3 rfl (N := 27) rfl 22 _ _ rfl x6_1 rfl rfl Try.underlying22 (.int .i64 0) 8 info3 rfl (by decide) (by omega) 0 (ok := fun _ => True) (okp := fun _ => True) rfl (fun _ hk => hk) trivial (of_decide_eq_true (by first | (with_reducible assumption) | assumption)) (Nat.le_trans (Nat.mul_le_mul_right _ (of_decide_eq_true (by first | (with_reducible assumption) | assumption) : x6_1.toNat ≤ 35184372088832)) (by omega)) (Below.refl _ _) (Nat.le_refl _) ?_; intro v387 w6 ho7 hb hg_ hnew_; clear hg_ hnew_; (first | rw [← Ny386.out] at ho7 | (simp only [Int.reduceToNat] at ho7; rw [← Ny386.out] at ho7)); have n0_ := Aside0.mk (Kd.V_elder' (by (with_reducible repeat (first | apply Kd.V_alloc | apply Kd.V_drewN | apply Kd.V_drew)); exact HO_0.out) (Kd.R_base ho7) hb); have n1_ := Aside0.mk (Kd.R_lower (Kd.R_newM (M := fun k_ => (w.heap.size ≤ k_)) ho7 (below_size (by repeat (first | (with_reducible first | exact HB.out | apply below_alloc | apply pw_below_drewN | apply below_drew1) | exact HB.out))) (fun k_ h_ => h_)) (below_size (by repeat (first | (with_reducible first | exact HB.out | apply below_alloc | apply pw_below_drewN | apply below_drew1) | exact HB.out)))); have n2_ := Aside0.mk (below_step (by repeat (first | (with_reducible first | exact HB.out | apply below_alloc | apply pw_below_drewN | apply below_drew1) | exact HB.out)) hb); clear HO_0; clear HB; have HO_0 := n0_; have HO388 := n1_; have HB := n2_; clear n0_ n1_ n2_; clear hb ho7))
      go_loopg [9] k1 (fun kq v9 w' => ∃ (x8_2 : List Int) (x9_2 : Int), v9 = .int .i64 x9_2 ∧ Aside0 (bibelotref07_All.l1 kq l0 a1 x6_1 x8_2 x9_2 = some (r1, r2)) ∧ Aside0 (kq ≤ k1) ∧ Aside0 (Kd.V (Kd.int .i64) 3 w' w.heap.size (fun k_ => (P0_ k_ ∨ w.heap.size ≤ k_) ∧ some k_ ≠ (v387 : Value).ownBlock) (.slice A0 l0.length c0) l0) ∧ Aside0 (Kd.R (Kd.int .i64) 3 w' w.heap.size (fun k_ => (w.heap.size ≤ k_)) v387 x8_2) ∧ Aside0 (Below w.heap.size w w'))
      case atStart => exact ⟨(y386), (0), (by first | rfl | (simp; done) | (simp [*]; done)), H', ⟨Nat.le_refl _⟩, ⟨by (with_reducible repeat (first | apply Kd.V_alloc | apply Kd.V_drewN | apply Kd.V_drew)); exact HO_0.out⟩, ⟨by (with_reducible repeat (first | apply Kd.R_alloc | apply Kd.R_drewN | apply Kd.R_drew)); exact Kd.R_mono HO388.out (fun _ hk => hk.1)⟩, ⟨by repeat (first | (with_reducible first | exact HB.out | apply below_alloc | apply pw_below_drewN | apply below_drew1) | exact HB.out)⟩⟩
      case round =>
       clear H'
       try clear p2
       try clear c3
       try clear c3b0
       try clear c4
       try clear c4b0
       try clear c4b1
       try clear c5
       try clear c5b0
       try clear c5b1
       try clear p6
       try clear c7
       try clear p2
       obtain ⟨x8_2, x9_2, rfl, HA, HK2, HO_0, HO_8, HB⟩ := hrel
       cases gk with
       | zero => exact absurd HA.out (by simp [bibelotref07_All.l1])
       | succ k2 =>
        have H := HA.out
        clear HA
        simp only [bibelotref07_All.l1] at H
        by_cases c8 : x9_2 < x6_1
        ·rw [if_pos c8] at H
         have c8b0 : decide (x9_2 < x6_1) = true := decide_eq_true c8
         clear c8
         by_cases c9 : 0 ≤ x9_2
         ·rw [if_pos c9] at H
          have c9b0 : decide (0 ≤ x9_2) = true := decide_eq_true c9
          clear c9
          by_cases c10 : x9_2 < (x8_2.length : Int)
          ·rw [if_pos c10] at H
           have c10b0 : decide (x9_2 < (x8_2.length : Int)) = true := decide_eq_true c10
           clear c10
           obtain ⟨y389, hy389⟩ : ∃ y_ : List Int, y_ = (x8_2.set (x9_2 : Int).toNat (-1)) := ⟨_, rfl⟩
           replace H : (bibelotref07_All.l1 k2 l0 a1 x6_1 y389 (wrap64 (x9_2 + 1))) = some (r1, r2) := by first | (rw [hy389]; with_reducible exact H) | (have H2_ := (Option.bind_some _ _).symm.trans H; rw [hy389]; with_reducible exact H2_) | (have H2_ := (Option.bind_some _ _).symm.trans H; with_reducible exact H2_) | with_reducible exact H | (rw [hy389]; exact H) | exact H
           have Ny389 := Aside0.mk hy389
           clear hy389
           have H' := Aside0.mk H
           clear H
           have p11 : 0 ≤ (x9_2 : Int) := of_decide_eq_true (by first | (with_reducible assumption) | assumption)
           have q11 : (x9_2 : Int) < ((x8_2.length : Int) : Int) := of_decide_eq_true (by first | (with_reducible assumption) | assumption)
           obtain ⟨go11, co11, eo11, gb11, gl11, cl11, HG11⟩ := Kd.R_form HO_8.out (by omega)
           (first | cases eo11 | (injection eo11 with ea_ en_ ec_; (first | subst ea_ | (injection ea_ with ea_; subst ea_)); subst ec_; clear en_))
           have GB11 := Aside0.mk gb11
           have GG11 := Aside0.mk HG11
           clear gb11 gl11 HG11
           obtain ⟨hx11_0, hf11_0⟩ := Kd.R_celln 0 HO_8.out (x9_2 : Int) p11 q11
           replace p11 := eq_true p11
           replace q11 := eq_true q11
           have HP12 := Kd.R_putg HO_8.out (x9_2 : Int) (-1)
           go_wp2_with (first | ((with_reducible refine gate_store (t := 3) (p := 35) rfl ?_); refine store_event (t := 3) (p := 35) (v := ?vo_w13) (w1 := (wr.setCell ⟨go11, (x9_2 : Int).toNat, none⟩ (.int .i64 (-1)))) ?hg ?ho ?hn ?hr ?_; (case ho => rfl); (case hg => rfl); (case hn => rfl); (case hr => first | (go_simp; done) | (go_simp; rfl)); intro w13 hw; have hg : wr.grownBy w13 (some go11) := (by rw [hw]; exact HP12.2); have hp_ : Kd.R (Kd.int .i64) 3 w13 w.heap.size (fun k_ => (w.heap.size ≤ k_)) (.slice (some ⟨go11, 0, none⟩) x8_2.length co11) y389 := (by rw [hw, Ny389.out]; exact HP12.1); clear HP12; have n0_ := Aside0.mk (Kd.V_afterv (v := (.slice (some ⟨go11, 0, none⟩) x8_2.length co11)) (v1 := (.slice (some ⟨go11, 0, none⟩) x8_2.length co11)) (ok := (fun k_ => (P0_ k_ ∨ w.heap.size ≤ k_))) (by (with_reducible repeat (first | apply Kd.V_alloc | apply Kd.V_drewN | apply Kd.V_drew)); exact HO_0.out) hg (.inl rfl)); have n1_ := Aside0.mk (hp_); have n2_ := Aside0.mk ((by rw [hw]; exact below_set (HB.out) GB11.out : Below w.heap.size w w13)); clear HO_0; clear HO_8; clear HB; have HO_0 := n0_; have HO_8 := n1_; have HB := n2_; clear n0_ n1_ n2_; clear hg hw hp_))
           go_roundg k2
           case measure => have := HK1.out; have := HK2.out; omega
           case rel => exact ⟨(y389), (wrap64 (x9_2 + 1)), (by first | rfl | (simp; done) | (simp [*]; done)), H', ⟨by have := HK1.out; have := HK2.out; omega⟩, ⟨by (with_reducible repeat (first | apply Kd.V_alloc | apply Kd.V_drewN | apply Kd.V_drew)); exact HO_0.out⟩, ⟨by (with_reducible repeat (first | apply Kd.R_alloc | apply Kd.R_drewN | apply Kd.R_drew)); exact HO_8.out⟩, ⟨by repeat (first | (with_reducible first | exact HB.out | apply below_alloc | apply pw_below_drewN | apply below_drew1) | exact HB.out)⟩⟩
          ·rw [if_neg c10] at H
           exact absurd H (by simp)
         ·rw [if_neg c9] at H
          exact absurd H (by simp)
        ·rw [if_neg c8] at H
         have c8b0 : decide (x9_2 < x6_1) = false := decide_eq_false c8
         clear c8
         replace H := Option.bind_eq_some_iff.mp H
         obtain ⟨t390, A140, H⟩ := H
         replace H : (if 0 ≤ t390 then (if t390 < (x8_2.length : Int) then (bibelotref07_All.l2 k2 l0 a1 (x8_2.set (t390 : Int).toNat 0) (([l0] : List (List Int))) 0) else (none)) else (none)) = some (r1, r2) := H
         have A14 := Aside0.mk A140
         clear A140
         by_cases c15 : 0 ≤ t390
         ·rw [if_pos c15] at H
          have c15b0 : decide (0 ≤ t390) = true := decide_eq_true c15
          clear c15
          by_cases c16 : t390 < (x8_2.length : Int)
          ·rw [if_pos c16] at H
           have c16b0 : decide (t390 < (x8_2.length : Int)) = true := decide_eq_true c16
           clear c16
           obtain ⟨y391, hy391⟩ : ∃ y_ : List Int, y_ = (x8_2.set (t390 : Int).toNat 0) := ⟨_, rfl⟩
           replace H : (bibelotref07_All.l2 k2 l0 a1 y391 (([l0] : List (List Int))) 0) = some (r1, r2) := by first | (rw [hy391]; with_reducible exact H) | (have H2_ := (Option.bind_some _ _).symm.trans H; rw [hy391]; with_reducible exact H2_) | (have H2_ := (Option.bind_some _ _).symm.trans H; with_reducible exact H2_) | with_reducible exact H | (rw [hy391]; exact H) | exact H
           have Ny391 := Aside0.mk hy391
           clear hy391
           obtain ⟨y392, hy392⟩ : ∃ y_ : List (List Int), y_ = (([l0] : List (List Int))) := ⟨_, rfl⟩
           replace H : (bibelotref07_All.l2 k2 l0 a1 y391 y392 0) = some (r1, r2) := by first | (rw [hy392]; with_reducible exact H) | (have H2_ := (Option.bind_some _ _).symm.trans H; rw [hy392]; with_reducible exact H2_) | (have H2_ := (Option.bind_some _ _).symm.trans H; with_reducible exact H2_) | with_reducible exact H | (rw [hy392]; exact H) | exact H
           have Ny392 := Aside0.mk hy392
           clear hy392
           have H' := Aside0.mk H
           clear H
           go_wp2_with (first | ((with_reducible refine gate_callee (f := 52) rfl ?_); refine goesL_ (some 38) rfl rfl Try.func52 (by kernel_rfl) rfl #[.slice A0 l0.length c0] rfl (by (try simp only [List.map_toArray, List.map_cons, List.map_nil]); first | done | rfl | (simp only [List.length_drop, List.length_take]; rfl)) ?_; (with_reducible refine (bibelotref07_Code.calls k2 _ _ l0 t390 _ ?side1 ?side2 A14.out).mono ?_); (case side1 => repeat (first | exact (Kd.V_reads' HO_0.out).2.2 | (with_reducible refine Kd.C_alloc ?_ _) | (with_reducible refine Kd.C_drewN ?_ _) | (with_reducible refine Kd.C_drew ?_))); (case side2 => exact (Kd.V_reads' HO_0.out).2.1); rintro e w18 ⟨rfl, hb⟩; refine ⟨_, rfl, ?_⟩; have n0_ := Aside0.mk (Kd.V_below (by (with_reducible repeat (first | apply Kd.V_alloc | apply Kd.V_drewN | apply Kd.V_drew)); exact HO_0.out) hb); have n1_ := Aside0.mk (Kd.R_below (by (with_reducible repeat (first | apply Kd.R_alloc | apply Kd.R_drewN | apply Kd.R_drew)); exact HO_8.out) hb); have n2_ := Aside0.mk (below_step (by repeat (first | (with_reducible first | exact HB.out | apply below_alloc | apply pw_below_drewN | apply below_drew1) | exact HB.out)) hb); clear HO_0; clear HO_8; clear HB; have HO_0 := n0_; have HO_8 := n1_; have HB := n2_; clear n0_ n1_ n2_; (try clear hb); (try clear hb2); (try clear hk); (try clear hi); have p17 : 0 ≤ (t390 : Int) := of_decide_eq_true (by first | (with_reducible assumption) | assumption); have q17 : (t390 : Int) < ((x8_2.length : Int) : Int) := of_decide_eq_true (by first | (with_reducible assumption) | assumption); obtain ⟨go17, co17, eo17, gb17, gl17, cl17, HG17⟩ := Kd.R_form HO_8.out (by omega); (first | cases eo17 | (injection eo17 with ea_ en_ ec_; (first | subst ea_ | (injection ea_ with ea_; subst ea_)); subst ec_; clear en_)); have GB17 := Aside0.mk gb17; have GG17 := Aside0.mk HG17; clear gb17 gl17 HG17; obtain ⟨hx17_0, hf17_0⟩ := Kd.R_celln 0 HO_8.out (t390 : Int) p17 q17; replace p17 := eq_true p17; replace q17 := eq_true q17; obtain ⟨hy19_, hz19_⟩ := Kd.R_celln 0 HO_8.out (t390 : Int) (of_decide_eq_true (by first | (with_reducible assumption) | assumption)) (of_decide_eq_true (by first | (with_reducible assumption) | assumption)); have HP19 := Kd.R_putg HO_8.out (t390 : Int) 0) | ((with_reducible refine gate_store (t := 3) (p := 39) rfl ?_); refine store_event (t := 3) (p := 39) (v := ?vo_w20) (w1 := (w18.setCell ⟨go17, (t390 : Int).toNat, none⟩ (.int .i64 0))) ?hg ?ho ?hn ?hr ?_; (case ho => rfl); (case hg => rfl); (case hn => rfl); (case hr => first | (go_simp; done) | (go_simp; rfl)); intro w20 hw; have hg : w18.grownBy w20 (some go17) := (by rw [hw]; exact HP19.2); have hp_ : Kd.R (Kd.int .i64) 3 w20 w.heap.size (fun k_ => (w.heap.size ≤ k_)) (.slice (some ⟨go17, 0, none⟩) x8_2.length co17) y391 := (by rw [hw, Ny391.out]; exact HP19.1); clear HP19; have n0_ := Aside0.mk (Kd.V_afterv (v := (.slice (some ⟨go17, 0, none⟩) x8_2.length co17)) (v1 := (.slice (some ⟨go17, 0, none⟩) x8_2.length co17)) (ok := (fun k_ => (P0_ k_ ∨ w.heap.size ≤ k_))) (by (with_reducible repeat (first | apply Kd.V_alloc | apply Kd.V_drewN | apply Kd.V_drew)); exact HO_0.out) hg (.inl rfl)); have n1_ := Aside0.mk (hp_); have n2_ := Aside0.mk ((by rw [hw]; exact below_set (HB.out) GB17.out : Below w.heap.size w w20)); clear HO_0; clear HO_8; clear HB; have HO_0 := n0_; have HO_8 := n1_; have HB := n2_; clear n0_ n1_ n2_; clear hg hw hp_) | ((with_reducible refine gate_dst (N := 41) rfl ?_); refine Kd.N_lit (Kd.slice 3 (Kd.int .i64)) _ 22 ?hg (N' := 41) ?hd (xs := ([l0] : List (List Int))) (inner := [.slice A0 l0.length c0]) (ok := (fun k_ => (P0_ k_ ∨ w.heap.size ≤ k_) ∧ some k_ ≠ (.slice (some ⟨go17, 0, none⟩) x8_2.length co17 : Value).ownBlock)) (okp := (fun k_ => (P0_ k_ ∨ w.heap.size ≤ k_) ∧ some k_ ≠ (.slice (some ⟨go17, 0, none⟩) x8_2.length co17 : Value).ownBlock)) ?hr ?hp (fun _ hk => hk) ((show ∀ k_, w20.heap.size ≤ k_ → (fun k_ => (P0_ k_ ∨ w.heap.size ≤ k_) ∧ some k_ ≠ (.slice (some ⟨go17, 0, none⟩) x8_2.length co17 : Value).ownBlock) k_ from fun k_ hk => ⟨(.inr (Nat.le_trans (below_size (by repeat (first | (with_reducible first | exact HB.out | apply below_alloc | apply pw_below_drewN | apply below_drew1) | exact HB.out))) hk)), Kd.fresh' (Kd.R_lt (by (with_reducible repeat (first | apply Kd.R_alloc | apply Kd.R_drewN | apply Kd.R_drew)); exact HO_8.out)) k_ hk⟩) _ (Nat.le_refl _)) (Below.refl _ _) (Nat.le_refl _) (by simp) ?_; (case hd => rfl); (case hg => rfl); (case hr => first | (go_simp; done) | (go_simp; rfl)); (case hp => exact (Reps.one (show Kd.FK (Kd.slice 3 (Kd.int .i64)) _ _ l0 [.slice A0 l0.length c0] from (Kd.FK_slice_mk (Kd.V_reads' (Kd.V_mono (ok' := (fun k_ => (P0_ k_ ∨ w.heap.size ≤ k_) ∧ some k_ ≠ (.slice (some ⟨go17, 0, none⟩) x8_2.length co17 : Value).ownBlock)) (HO_0.out) (fun k_ hk => ⟨hk.1, hk.2⟩))).2.1 (Kd.V_F (Kd.V_mono (ok' := (fun k_ => (P0_ k_ ∨ w.heap.size ≤ k_) ∧ some k_ ≠ (.slice (some ⟨go17, 0, none⟩) x8_2.length co17 : Value).ownBlock)) (HO_0.out) (fun k_ hk => ⟨hk.1, hk.2⟩))))) (Reps.none _ _))); intro v393 w21 ho22 hb hg_ hnew_; clear hg_ hnew_; (first | rw [← Ny392.out] at ho22 | (simp only [Int.reduceToNat] at ho22; rw [← Ny392.out] at ho22)); have n0_ := Aside0.mk (Kd.V_elder' (by (with_reducible repeat (first | apply Kd.V_alloc | apply Kd.V_drewN | apply Kd.V_drew)); exact HO_0.out) (Kd.N_base ho22) hb); have n1_ := Aside0.mk (Kd.R_below (by (with_reducible repeat (first | apply Kd.R_alloc | apply Kd.R_drewN | apply Kd.R_drew)); exact HO_8.out) hb); have n2_ := Aside0.mk (Kd.N_lower ho22 (below_size (by repeat (first | (with_reducible first | exact HB.out | apply below_alloc | apply pw_below_drewN | apply below_drew1) | exact HB.out)))); have n3_ := Aside0.mk (below_step (by repeat (first | (with_reducible first | exact HB.out | apply below_alloc | apply pw_below_drewN | apply below_drew1) | exact HB.out)) hb); clear HO_0; clear HO_8; clear HB; have HO_0 := n0_; have HO_8 := n1_; have HO394 := n2_; have HB := n3_; clear n0_ n1_ n2_ n3_; clear hb ho22))
           go_loopg [10, 11] k2 (fun kq v10 v11 w' => ∃ (x8_3 : List Int) (x10_3 : List (List Int)) (x11_3 : Int), v11 = .int .i64 x11_3 ∧ Aside0 (bibelotref07_All.l2 kq l0 a1 x8_3 x10_3 x11_3 = some (r1, r2)) ∧ Aside0 (kq ≤ k2) ∧ Aside0 (Kd.V (Kd.int .i64) 3 w' w.heap.size (fun k_ => (P0_ k_ ∨ w.heap.size ≤ k_) ∧ some k_ ≠ ((.slice (some ⟨go17, 0, none⟩) x8_2.length co17) : Value).ownBlock ∧ some k_ ≠ (v10 : Value).ownBlock) (.slice A0 l0.length c0) l0) ∧ Aside0 (Kd.R (Kd.int .i64) 3 w' w.heap.size (fun k_ => (w.heap.size ≤ k_)) (.slice (some ⟨go17, 0, none⟩) x8_2.length co17) x8_3) ∧ Aside0 (Kd.N (Kd.slice 3 (Kd.int .i64)) 22 w' w.heap.size (fun k_ => (P0_ k_ ∨ w.heap.size ≤ k_) ∧ some k_ ≠ ((.slice (some ⟨go17, 0, none⟩) x8_2.length co17) : Value).ownBlock) v10 x10_3) ∧ Aside0 (Below w.heap.size w w'))
           case atStart => exact ⟨(y391), (y392), (0), (by first | rfl | (simp; done) | (simp [*]; done)), H', ⟨Nat.le_refl _⟩, ⟨by (with_reducible repeat (first | apply Kd.V_alloc | apply Kd.V_drewN | apply Kd.V_drew)); exact Kd.V_mono HO_0.out (fun _ hk => ⟨hk.1.1, ⟨hk.1.2, hk.2⟩⟩)⟩, ⟨by (with_reducible repeat (first | apply Kd.R_alloc | apply Kd.R_drewN | apply Kd.R_drew)); exact HO_8.out⟩, ⟨by (with_reducible repeat (first | apply Kd.N_alloc | apply Kd.N_drewN | apply Kd.N_drew)); exact HO394.out⟩, ⟨by repeat (first | (with_reducible first | exact HB.out | apply below_alloc | apply pw_below_drewN | apply below_drew1) | exact HB.out)⟩⟩
           case round =>
            clear H'
            try clear c1
            try clear p1
            try clear q1
            try clear hx1
            try clear p2
            try clear c3
            try clear c3b0
            try clear c4
            try clear c4b0
            try clear c4b1
            try clear c5
            try clear c5b0
            try clear c5b1
            try clear p6
            try clear c7
            try clear c8
            try clear c8b0
            try clear c9
            try clear c9b0
            try clear c10
            try clear c10b0
            try clear p11
            try clear q11
            try clear hx11
            try clear hf11
            try clear c15
            try clear c15b0
            try clear c16
            try clear c16b0
            try clear p17
            try clear q17
            try clear hx17
            try clear hf17
            try clear hx11_0
            try clear hx17_0
            try clear p11
            try clear p17
            try clear p2
            try clear p6
            try clear q11
            try clear q17
            obtain ⟨x8_3, x10_3, x11_3, rfl, HA, HK3, HO_0, HO_8, HO_10, HB⟩ := hrel
            have hl8_3 := (Kd.R_reads' HO_8.out).1
            rw [hl8_3] at HO_8
            (try simp only [hl8_3])
            (try simp only [hl8_3] at HO_0)
            (try simp only [hl8_3] at HO_10)
            cases gk with
            | zero => exact absurd HA.out (by simp [bibelotref07_All.l2])
            | succ k3 =>
             have H := HA.out
             clear HA
             simp only [bibelotref07_All.l2] at H
             by_cases c23 : x11_3 < (x10_3.length : Int)
             ·rw [if_pos c23] at H
              have c23b0 : decide (x11_3 < (x10_3.length : Int)) = true := decide_eq_true c23
              clear c23
              by_cases c24 : 0 ≤ x11_3
              ·rw [if_pos c24] at H
               have c24b0 : decide (0 ≤ x11_3) = true := decide_eq_true c24
               clear c24
               replace H := Option.bind_eq_some_iff.mp H
               obtain ⟨t396, A250, H⟩ := H
               replace H : (if 0 ≤ t396 then (if t396 < (x8_3.length : Int) then (bibelotref07_All.l3 k3 l0 a1 x8_3 x10_3 x11_3 (rd x8_3 t396) 1) else (none)) else (none)) = some (r1, r2) := H
               have A25 := Aside0.mk A250
               clear A250
               by_cases c26 : 0 ≤ t396
               ·rw [if_pos c26] at H
                have c26b0 : decide (0 ≤ t396) = true := decide_eq_true c26
                clear c26
                by_cases c27 : t396 < (x8_3.length : Int)
                ·rw [if_pos c27] at H
                 have c27b0 : decide (t396 < (x8_3.length : Int)) = true := decide_eq_true c27
                 clear c27
                 have H' := Aside0.mk H
                 clear H
                 obtain ⟨Ao28, co28, eo28⟩ := Kd.N_slice HO_10.out
                 subst eo28
                 have p395 : 0 ≤ (x11_3 : Int) := of_decide_eq_true (by first | (with_reducible assumption) | assumption)
                 have q395 : x11_3 < (x10_3.length : Int) := of_decide_eq_true (by first | (with_reducible assumption) | assumption)
                 obtain ⟨ad395, A395_0, c395_0, e395, hx395_0, hl395_0, hi395_0⟩ := at_L1 (Kd.N_reads' HO_10.out).2.2 x11_3 p395 q395
                 cases e395
                 obtain ⟨ce395, hce395, hMe395, hcc395⟩ := Kd.N_get HO_10.out [] x11_3 p395 (by first | exact q395 | exact of_decide_eq_true (by first | (with_reducible assumption) | assumption) | (have e_ := (Kd.N_reads' HO_10.out).1; omega))
                 obtain ⟨ua395_0, uc395_0, rfl, ul395_0, ge395_0⟩ := Kd.FK_slice_open hMe395
                 have hv395_0 := hcc395 0 _ rfl
                 rw [Nat.add_zero, show ((Kd.slice 3 (Kd.int .i64))).sz = 1 from rfl, Nat.mul_one] at hv395_0
                 replace hv395_0 := Option.some.inj (hv395_0.symm.trans hx395_0)
                 injection hv395_0 with hva_ hvn_ hvc_
                 rw [hva_] at ge395_0
                 rw [hvc_] at ul395_0
                 have HL395_0 := Aside0.mk (show Kd.V (Kd.int .i64) 3 _ w.heap.size _ _ (rd_L1 x10_3 x11_3) from Kd.V_mk ul395_0 ge395_0)
                 clear hva_ hvn_ hvc_ ge395_0 ul395_0
                 clear hcc395 hce395
                 have HR395_0 := Aside0.mk hi395_0
                 have HC395_0 := Aside0.mk hl395_0
                 clear hi395_0 hl395_0
                 replace p395 := eq_true p395
                 replace q395 := eq_true q395
                 go_wp2_with (first | ((with_reducible refine gate_callee (f := 52) rfl ?_); refine goesL_ (some 53) rfl rfl Try.func52 (by kernel_rfl) rfl #[.slice A395_0 (rd_L1 x10_3 x11_3).length c395_0] rfl (by (try simp only [List.map_toArray, List.map_cons, List.map_nil]); first | done | rfl | (simp only [List.length_drop, List.length_take]; rfl)) ?_; (with_reducible refine (bibelotref07_Code.calls k3 _ _ (rd_L1 x10_3 x11_3) t396 _ ?side1 ?side2 A25.out).mono ?_); (case side1 => repeat (first | exact (by repeat (first | (with_reducible exact HR395_0.out) | (with_reducible refine Kd.C_alloc ?_ _) | (with_reducible refine Kd.C_drewN ?_ _) | (with_reducible refine Kd.C_drew ?_) | exact HR395_0.out)) | (with_reducible refine Kd.C_alloc ?_ _) | (with_reducible refine Kd.C_drewN ?_ _) | (with_reducible refine Kd.C_drew ?_))); (case side2 => exact HC395_0.out); rintro e w29 ⟨rfl, hb⟩; refine ⟨_, rfl, ?_⟩; have n0_ := Aside0.mk (Kd.V_below (by (with_reducible repeat (first | apply Kd.V_alloc | apply Kd.V_drewN | apply Kd.V_drew)); exact HO_0.out) hb); have n1_ := Aside0.mk (Kd.R_below (by (with_reducible repeat (first | apply Kd.R_alloc | apply Kd.R_drewN | apply Kd.R_drew)); exact HO_8.out) hb); have n2_ := Aside0.mk (Kd.N_below (by (with_reducible repeat (first | apply Kd.N_alloc | apply Kd.N_drewN | apply Kd.N_drew)); exact HO_10.out) hb); have n3_ := Aside0.mk (Kd.V_below (by (with_reducible repeat (first | apply Kd.V_alloc | apply Kd.V_drewN | apply Kd.V_drew)); exact HL395_0.out) hb); have n4_ := Aside0.mk (Kd.C_below (by repeat (first | (with_reducible exact HR395_0.out) | (with_reducible refine Kd.C_alloc ?_ _) | (with_reducible refine Kd.C_drewN ?_ _) | (with_reducible refine Kd.C_drew ?_) | exact HR395_0.out)) hb); have n5_ := Aside0.mk (below_step (by repeat (first | (with_reducible first | exact HB.out | apply below_alloc | apply pw_below_drewN | apply below_drew1) | exact HB.out)) hb); clear HO_0; clear HO_8; clear HO_10; clear HL395_0; clear HR395_0; clear HB; have HO_0 := n0_; have HO_8 := n1_; have HO_10 := n2_; have HL395_0 := n3_; have HR395_0 := n4_; have HB := n5_; clear n0_ n1_ n2_ n3_ n4_ n5_; (try clear hb); (try clear hb2); (try clear hk); (try clear hi); have p397 : 0 ≤ (t396 : Int) := of_decide_eq_true (by first | (with_reducible assumption) | assumption); have q397 : t396 < (x8_3.length : Int) := of_decide_eq_true (by first | (with_reducible assumption) | assumption); obtain ⟨ad397, e397, hx397_0⟩ := Kd.at_int (Kd.R_reads' HO_8.out).2.2 t396 p397 q397; obtain rfl : (⟨go17, 0, none⟩ : Addr) = ad397 := (by injection e397); (first | simp only [add_plain] at hx397_0 | simp only [add_at] at hx397_0 | simp only [Addr.add, Nat.zero_add] at hx397_0 | skip); replace p397 := eq_true p397; replace q397 := eq_true q397))
                 go_loopg [10, 13] k3 (fun kq v10 v13 w' => ∃ (x8_4 : List Int) (x10_4 : List (List Int)) (x13_4 : Int), v13 = .int .i64 x13_4 ∧ Aside0 (bibelotref07_All.l3 kq l0 a1 x8_4 x10_4 x11_3 (rd x8_3 t396) x13_4 = some (r1, r2)) ∧ Aside0 (kq ≤ k3) ∧ Aside0 (Kd.V (Kd.int .i64) 3 w' w.heap.size (fun k_ => (P0_ k_ ∨ w.heap.size ≤ k_) ∧ some k_ ≠ ((.slice (some ⟨go17, 0, none⟩) x8_3.length co17) : Value).ownBlock ∧ some k_ ≠ (v10 : Value).ownBlock) (.slice A0 l0.length c0) l0) ∧ Aside0 (Kd.R (Kd.int .i64) 3 w' w.heap.size (fun k_ => (w.heap.size ≤ k_)) (.slice (some ⟨go17, 0, none⟩) x8_3.length co17) x8_4) ∧ Aside0 (Kd.N (Kd.slice 3 (Kd.int .i64)) 22 w' w.heap.size (fun k_ => (P0_ k_ ∨ w.heap.size ≤ k_) ∧ some k_ ≠ ((.slice (some ⟨go17, 0, none⟩) x8_3.length co17) : Value).ownBlock) v10 x10_4) ∧ Aside0 (Below w.heap.size w w'))
                 case atStart => exact ⟨(x8_3), (x10_3), (1), (by first | rfl | (simp; done) | (simp [*]; done)), H', ⟨Nat.le_refl _⟩, ⟨by (try simp only [hl8_3]); (with_reducible repeat (first | apply Kd.V_alloc | apply Kd.V_drewN | apply Kd.V_drew)); exact HO_0.out⟩, ⟨by (try simp only [hl8_3]); (with_reducible repeat (first | apply Kd.R_alloc | apply Kd.R_drewN | apply Kd.R_drew)); exact HO_8.out⟩, ⟨by (try simp only [hl8_3]); (with_reducible repeat (first | apply Kd.N_alloc | apply Kd.N_drewN | apply Kd.N_drew)); exact HO_10.out⟩, ⟨by repeat (first | (with_reducible first | exact HB.out | apply below_alloc | apply pw_below_drewN | apply below_drew1) | exact HB.out)⟩⟩
                 case round =>
                  clear H'
                  try clear c1
                  try clear p1
                  try clear q1
                  try clear hx1
                  try clear c2
                  try clear p2
                  try clear c3
                  try clear c3b0
                  try clear p3
                  try clear q3
                  try clear hx3
                  try clear c4
                  try clear c4b0
                  try clear c4b1
                  try clear c5
                  try clear c5b0
                  try clear c5b1
                  try clear p6
                  try clear c7
                  try clear c8
                  try clear c8b0
                  try clear c9
                  try clear c9b0
                  try clear c10
                  try clear c10b0
                  try clear p11
                  try clear q11
                  try clear hx11
                  try clear hf11
                  try clear c15
                  try clear c15b0
                  try clear c16
                  try clear c16b0
                  try clear p17
                  try clear q17
                  try clear hx17
                  try clear hf17
                  try clear c23
                  try clear c23b0
                  try clear c24
                  try clear c24b0
                  try clear c26
                  try clear c26b0
                  try clear c27
                  try clear c27b0
                  try clear hx11_0
                  try clear hx17_0
                  try clear hx395_0
                  try clear hx397_0
                  try clear p1
                  try clear p11
                  try clear p17
                  try clear p2
                  try clear p395
                  try clear p397
                  try clear p6
                  try clear q1
                  try clear q11
                  try clear q17
                  try clear q395
                  try clear q397
                  obtain ⟨x8_4, x10_4, x13_4, rfl, HA, HK4, HO_0, HO_8, HO_10, HB⟩ := hrel
                  have hl8_4 := (Kd.R_reads' HO_8.out).1
                  rw [hl8_4] at HO_8
                  (try simp only [hl8_4])
                  (try simp only [hl8_4] at HO_0)
                  (try simp only [hl8_4] at HO_10)
                  cases gk with
                  | zero => exact absurd HA.out (by simp [bibelotref07_All.l3])
                  | succ k4 =>
                   have H := HA.out
                   clear HA
                   simp only [bibelotref07_All.l3] at H
                   by_cases c30 : x13_4 ≤ (l0.length : Int)
                   ·rw [if_pos c30] at H
                    have c30b0 : decide (x13_4 ≤ (l0.length : Int)) = true := decide_eq_true c30
                    clear c30
                    by_cases c31 : 0 ≤ x11_3
                    ·rw [if_pos c31] at H
                     have c31b0 : decide (0 ≤ x11_3) = true := decide_eq_true c31
                     clear c31
                     by_cases c32 : x11_3 < (x10_4.length : Int)
                     ·rw [if_pos c32] at H
                      have c32b0 : decide (x11_3 < (x10_4.length : Int)) = true := decide_eq_true c32
                      clear c32
                      replace H := Option.bind_eq_some_iff.mp H
                      obtain ⟨t399, A330, H⟩ := H
                      replace H : ((bibelotref07_Code.f k4 t399).bind fun t402 => (if 0 ≤ t402 then (if t402 < (x8_4.length : Int) then (if (rd x8_4 t402) < 0 then (if x10_4.length < 5864062014805 then (bibelotref07_All.l3 k4 l0 a1 (x8_4.set (t402 : Int).toNat (wrap64 ((rd x8_3 t396) + 1))) (x10_4 ++ [t399]) x11_3 (rd x8_3 t396) (wrap64 (x13_4 + 1))) else (none)) else (bibelotref07_All.l3 k4 l0 a1 x8_4 x10_4 x11_3 (rd x8_3 t396) (wrap64 (x13_4 + 1)))) else (none)) else (none))) = some (r1, r2) := H
                      have A33 := Aside0.mk A330
                      clear A330
                      replace H := Option.bind_eq_some_iff.mp H
                      obtain ⟨t402, A340, H⟩ := H
                      replace H : (if 0 ≤ t402 then (if t402 < (x8_4.length : Int) then (if (rd x8_4 t402) < 0 then (if x10_4.length < 5864062014805 then (bibelotref07_All.l3 k4 l0 a1 (x8_4.set (t402 : Int).toNat (wrap64 ((rd x8_3 t396) + 1))) (x10_4 ++ [t399]) x11_3 (rd x8_3 t396) (wrap64 (x13_4 + 1))) else (none)) else (bibelotref07_All.l3 k4 l0 a1 x8_4 x10_4 x11_3 (rd x8_3 t396) (wrap64 (x13_4 + 1)))) else (none)) else (none)) = some (r1, r2) := H
                      have A34 := Aside0.mk A340
                      clear A340
                      by_cases c35 : 0 ≤ t402
                      ·rw [if_pos c35] at H
                       have c35b0 : decide (0 ≤ t402) = true := decide_eq_true c35
                       clear c35
                       by_cases c36 : t402 < (x8_4.length : Int)
                       ·rw [if_pos c36] at H
                        have c36b0 : decide (t402 < (x8_4.length : Int)) = true := decide_eq_true c36
                        clear c36
                        by_cases c37 : (rd x8_4 t402) < 0
                        ·rw [if_pos c37] at H
                         have c37b0 : decide ((rd x8_4 t402) < 0) = true := decide_eq_true c37
                         clear c37
                         obtain ⟨y404, hy404⟩ : ∃ y_ : List Int, y_ = (x8_4.set (t402 : Int).toNat (wrap64 ((rd x8_3 t396) + 1))) := ⟨_, rfl⟩
                         replace H : (if x10_4.length < 5864062014805 then (bibelotref07_All.l3 k4 l0 a1 y404 (x10_4 ++ [t399]) x11_3 (rd x8_3 t396) (wrap64 (x13_4 + 1))) else (none)) = some (r1, r2) := by first | (rw [hy404]; with_reducible exact H) | (have H2_ := (Option.bind_some _ _).symm.trans H; rw [hy404]; with_reducible exact H2_) | (have H2_ := (Option.bind_some _ _).symm.trans H; with_reducible exact H2_) | with_reducible exact H | (rw [hy404]; exact H) | exact H
                         have Ny404 := Aside0.mk hy404
                         clear hy404
                         by_cases c39 : x10_4.length < 5864062014805
                         ·rw [if_pos c39] at H
                          have LMc39 := Aside0.mk c39
                          clear c39
                          obtain ⟨y405, hy405⟩ : ∃ y_ : List (List Int), y_ = (x10_4 ++ [t399]) := ⟨_, rfl⟩
                          replace H : (bibelotref07_All.l3 k4 l0 a1 y404 y405 x11_3 (rd x8_3 t396) (wrap64 (x13_4 + 1))) = some (r1, r2) := by first | (rw [hy405]; with_reducible exact H) | (have H2_ := (Option.bind_some _ _).symm.trans H; rw [hy405]; with_reducible exact H2_) | (have H2_ := (Option.bind_some _ _).symm.trans H; with_reducible exact H2_) | with_reducible exact H | (rw [hy405]; exact H) | exact H
                          have Ny405 := Aside0.mk hy405
                          clear hy405
                          have H' := Aside0.mk H
                          clear H
                          obtain ⟨Ao40, co40, eo40⟩ := Kd.N_slice HO_10.out
                          subst eo40
                          have p398 : 0 ≤ (x11_3 : Int) := of_decide_eq_true (by first | (with_reducible assumption) | assumption)
                          have q398 : x11_3 < (x10_4.length : Int) := of_decide_eq_true (by first | (with_reducible assumption) | assumption)
                          obtain ⟨ad398, A398_0, c398_0, e398, hx398_0, hl398_0, hi398_0⟩ := at_L1 (Kd.N_reads' HO_10.out).2.2 x11_3 p398 q398
                          cases e398
                          obtain ⟨ce398, hce398, hMe398, hcc398⟩ := Kd.N_get HO_10.out [] x11_3 p398 (by first | exact q398 | exact of_decide_eq_true (by first | (with_reducible assumption) | assumption) | (have e_ := (Kd.N_reads' HO_10.out).1; omega))
                          obtain ⟨ua398_0, uc398_0, rfl, ul398_0, ge398_0⟩ := Kd.FK_slice_open hMe398
                          have hv398_0 := hcc398 0 _ rfl
                          rw [Nat.add_zero, show ((Kd.slice 3 (Kd.int .i64))).sz = 1 from rfl, Nat.mul_one] at hv398_0
                          replace hv398_0 := Option.some.inj (hv398_0.symm.trans hx398_0)
                          injection hv398_0 with hva_ hvn_ hvc_
                          rw [hva_] at ge398_0
                          rw [hvc_] at ul398_0
                          have HL398_0 := Aside0.mk (show Kd.V (Kd.int .i64) 3 _ w.heap.size _ _ (rd_L1 x10_4 x11_3) from Kd.V_mk ul398_0 ge398_0)
                          clear hva_ hvn_ hvc_ ge398_0 ul398_0
                          clear hcc398 hce398
                          have HR398_0 := Aside0.mk hi398_0
                          have HC398_0 := Aside0.mk hl398_0
                          clear hi398_0 hl398_0
                          replace p398 := eq_true p398
                          replace q398 := eq_true q398
                          go_wp2_with (first | ((with_reducible refine gate_callee (f := 34) rfl ?_); refine goesL_ (some 68) rfl rfl Try.func34 (by kernel_rfl) rfl #[.slice A398_0 (rd_L1 x10_4 x11_3).length c398_0, .int .i64 x13_4, .bool a1] rfl (by (try simp only [List.map_toArray, List.map_cons, List.map_nil]); first | done | rfl | (simp only [List.length_drop, List.length_take]; rfl)) ?_; (with_reducible refine (bibelotref07_Flip.calls k4 _ _ (rd_L1 x10_4 x11_3) x13_4 a1 t399 _ ?side1 ?side2 A33.out).mono ?_); (case side1 => repeat (first | exact (by repeat (first | (with_reducible exact HR398_0.out) | (with_reducible refine Kd.C_alloc ?_ _) | (with_reducible refine Kd.C_drewN ?_ _) | (with_reducible refine Kd.C_drew ?_) | exact HR398_0.out)) | (with_reducible refine Kd.C_alloc ?_ _) | (with_reducible refine Kd.C_drewN ?_ _) | (with_reducible refine Kd.C_drew ?_))); (case side2 => exact HC398_0.out); rintro e w41 ⟨v400, rfl, ho0, hb⟩; refine ⟨_, rfl, ?_⟩; have n0_ := Aside0.mk (Kd.V_elder' (by (with_reducible repeat (first | apply Kd.V_alloc | apply Kd.V_drewN | apply Kd.V_drew)); exact HO_0.out) (Kd.R_base ho0) hb); have n1_ := Aside0.mk (Kd.R_elder' (by (with_reducible repeat (first | apply Kd.R_alloc | apply Kd.R_drewN | apply Kd.R_drew)); exact HO_8.out) (Kd.R_base ho0) hb); have n2_ := Aside0.mk (Kd.N_elder' (by (with_reducible repeat (first | apply Kd.N_alloc | apply Kd.N_drewN | apply Kd.N_drew)); exact HO_10.out) (Kd.R_base ho0) hb); have n3_ := Aside0.mk (Kd.V_elder' (by (with_reducible repeat (first | apply Kd.V_alloc | apply Kd.V_drewN | apply Kd.V_drew)); exact HL398_0.out) (Kd.R_base ho0) hb); have n4_ := Aside0.mk (Kd.R_lower (Kd.R_new' (Kd.R_newM (M := fun k_ => (w.heap.size ≤ k_)) ho0 (below_size (by repeat (first | (with_reducible first | exact HB.out | apply below_alloc | apply pw_below_drewN | apply below_drew1) | exact HB.out))) (fun k_ h_ => h_)) (Kd.R_lt (by (with_reducible repeat (first | apply Kd.R_alloc | apply Kd.R_drewN | apply Kd.R_drew)); exact HO_8.out))) (below_size (by repeat (first | (with_reducible first | exact HB.out | apply below_alloc | apply pw_below_drewN | apply below_drew1) | exact HB.out)))); have n5_ := Aside0.mk (Kd.C_below (by repeat (first | (with_reducible exact HR398_0.out) | (with_reducible refine Kd.C_alloc ?_ _) | (with_reducible refine Kd.C_drewN ?_ _) | (with_reducible refine Kd.C_drew ?_) | exact HR398_0.out)) hb); have n6_ := Aside0.mk (below_step (by repeat (first | (with_reducible first | exact HB.out | apply below_alloc | apply pw_below_drewN | apply below_drew1) | exact HB.out)) hb); clear HO_0; clear HO_8; clear HO_10; clear HL398_0; clear HR398_0; clear HB; have HO_0 := n0_; have HO_8 := n1_; have HO_10 := n2_; have HL398_0 := n3_; have HO401 := n4_; have HR398_0 := n5_; have HB := n6_; clear n0_ n1_ n2_ n3_ n4_ n5_ n6_; (try clear hb); (try clear hb2); (try clear hk); (try clear hi); (try clear ho0); obtain ⟨Ao42, co42, eo42⟩ := Kd.R_slice HO401.out; subst eo42) | ((with_reducible refine gate_callee (f := 52) rfl ?_); refine goesL_ (some 70) rfl rfl Try.func52 (by kernel_rfl) rfl #[.slice Ao42 t399.length co42] rfl (by (try simp only [List.map_toArray, List.map_cons, List.map_nil]); first | done | rfl | (simp only [List.length_drop, List.length_take]; rfl)) ?_; (with_reducible refine (bibelotref07_Code.calls k4 _ _ t399 t402 _ ?side1 ?side2 A34.out).mono ?_); (case side1 => repeat (first | exact (Kd.R_reads' HO401.out).2.2 | (with_reducible refine Kd.C_alloc ?_ _) | (with_reducible refine Kd.C_drewN ?_ _) | (with_reducible refine Kd.C_drew ?_))); (case side2 => exact (Kd.R_reads' HO401.out).2.1); rintro e w43 ⟨rfl, hb⟩; refine ⟨_, rfl, ?_⟩; have n0_ := Aside0.mk (Kd.V_below (by (with_reducible repeat (first | apply Kd.V_alloc | apply Kd.V_drewN | apply Kd.V_drew)); exact HO_0.out) hb); have n1_ := Aside0.mk (Kd.R_below (by (with_reducible repeat (first | apply Kd.R_alloc | apply Kd.R_drewN | apply Kd.R_drew)); exact HO_8.out) hb); have n2_ := Aside0.mk (Kd.N_below (by (with_reducible repeat (first | apply Kd.N_alloc | apply Kd.N_drewN | apply Kd.N_drew)); exact HO_10.out) hb); have n3_ := Aside0.mk (Kd.V_below (by (with_reducible repeat (first | apply Kd.V_alloc | apply Kd.V_drewN | apply Kd.V_drew)); exact HL398_0.out) hb); have n4_ := Aside0.mk (Kd.R_below (by (with_reducible repeat (first | apply Kd.R_alloc | apply Kd.R_drewN | apply Kd.R_drew)); exact HO401.out) hb); have n5_ := Aside0.mk (Kd.C_below (by repeat (first | (with_reducible exact HR398_0.out) | (with_reducible refine Kd.C_alloc ?_ _) | (with_reducible refine Kd.C_drewN ?_ _) | (with_reducible refine Kd.C_drew ?_) | exact HR398_0.out)) hb); have n6_ := Aside0.mk (below_step (by repeat (first | (with_reducible first | exact HB.out | apply below_alloc | apply pw_below_drewN | apply below_drew1) | exact HB.out)) hb); clear HO_0; clear HO_8; clear HO_10; clear HL398_0; clear HO401; clear HR398_0; clear HB; have HO_0 := n0_; have HO_8 := n1_; have HO_10 := n2_; have HL398_0 := n3_; have HO401 := n4_; have HR398_0 := n5_; have HB := n6_; clear n0_ n1_ n2_ n3_ n4_ n5_ n6_; (try clear hb); (try clear hb2); (try clear hk); (try clear hi); have p403 : 0 ≤ (t402 : Int) := of_decide_eq_true (by first | (with_reducible assumption) | assumption); have q403 : t402 < (x8_4.length : Int) := of_decide_eq_true (by first | (with_reducible assumption) | assumption); obtain ⟨ad403, e403, hx403_0⟩ := Kd.at_int (Kd.R_reads' HO_8.out).2.2 t402 p403 q403; obtain rfl : (⟨go17, 0, none⟩ : Addr) = ad403 := (by injection e403); (first | simp only [add_plain] at hx403_0 | simp only [add_at] at hx403_0 | simp only [Addr.add, Nat.zero_add] at hx403_0 | skip); replace p403 := eq_true p403; replace q403 := eq_true q403; have p38 : 0 ≤ (t402 : Int) := of_decide_eq_true (by first | (with_reducible assumption) | assumption); have q38 : (t402 : Int) < ((x8_4.length : Int) : Int) := of_decide_eq_true (by first | (with_reducible assumption) | assumption); obtain ⟨hx38_0, hf38_0⟩ := Kd.R_celln 0 HO_8.out (t402 : Int) p38 q38; replace p38 := eq_true p38; replace q38 := eq_true q38; obtain ⟨hy44_, hz44_⟩ := Kd.R_celln 0 HO_8.out (t402 : Int) (of_decide_eq_true (by first | (with_reducible assumption) | assumption)) (of_decide_eq_true (by first | (with_reducible assumption) | assumption)); have HP44 := Kd.R_putg HO_8.out (t402 : Int) (wrap64 ((rd x8_3 t396) + 1))) | ((with_reducible refine gate_store (t := 3) (p := 80) rfl ?_); refine store_event (t := 3) (p := 80) (v := ?vo_w45) (w1 := (w43.setCell ⟨go17, (t402 : Int).toNat, none⟩ (.int .i64 (wrap64 ((rd x8_3 t396) + 1))))) ?hg ?ho ?hn ?hr ?_; (case ho => rfl); (case hg => rfl); (case hn => rfl); (case hr => first | (go_simp; done) | (go_simp; rfl)); intro w45 hw; have hg : w43.grownBy w45 (some go17) := (by rw [hw]; exact HP44.2); have hp_ : Kd.R (Kd.int .i64) 3 w45 w.heap.size (fun k_ => (w.heap.size ≤ k_) ∧ some k_ ≠ (.slice Ao42 t399.length co42 : Value).ownBlock) (.slice (some ⟨go17, 0, none⟩) x8_4.length co17) y404 := (by rw [hw, Ny404.out]; exact HP44.1); clear HP44; have n0_ := Aside0.mk (Kd.V_afterv (v := (.slice (some ⟨go17, 0, none⟩) x8_4.length co17)) (v1 := (.slice (some ⟨go17, 0, none⟩) x8_4.length co17)) (ok := (fun k_ => (P0_ k_ ∨ w.heap.size ≤ k_) ∧ some k_ ≠ (.slice (some ad398) x10_4.length co40 : Value).ownBlock ∧ some k_ ≠ (.slice Ao42 t399.length co42 : Value).ownBlock)) (by (with_reducible repeat (first | apply Kd.V_alloc | apply Kd.V_drewN | apply Kd.V_drew)); exact Kd.V_mono HO_0.out (fun _ hk => ⟨⟨hk.1.1, ⟨hk.1.2.2, hk.2⟩⟩, hk.1.2.1⟩)) hg (.inl rfl)); have n1_ := Aside0.mk (hp_); have n2_ := Aside0.mk (Kd.N_afterv (v := (.slice (some ⟨go17, 0, none⟩) x8_4.length co17)) (v1 := (.slice (some ⟨go17, 0, none⟩) x8_4.length co17)) (ok := (fun k_ => (P0_ k_ ∨ w.heap.size ≤ k_) ∧ some k_ ≠ (.slice Ao42 t399.length co42 : Value).ownBlock)) (by (with_reducible repeat (first | apply Kd.N_alloc | apply Kd.N_drewN | apply Kd.N_drew)); exact Kd.N_mono HO_10.out (fun _ hk => ⟨⟨hk.1.1, hk.2⟩, hk.1.2⟩)) hg (.inl rfl)); have n3_ := Aside0.mk (Kd.V_afterv (v := (.slice (some ⟨go17, 0, none⟩) x8_4.length co17)) (v1 := (.slice (some ⟨go17, 0, none⟩) x8_4.length co17)) (ok := (fun k_ => (P0_ k_ ∨ w.heap.size ≤ k_) ∧ some k_ ≠ (.slice (some ad398) x10_4.length co40 : Value).ownBlock ∧ some k_ ≠ (.slice Ao42 t399.length co42 : Value).ownBlock)) (by (with_reducible repeat (first | apply Kd.V_alloc | apply Kd.V_drewN | apply Kd.V_drew)); exact Kd.V_mono HL398_0.out (fun _ hk => ⟨⟨hk.1.1.1, ⟨hk.1.2, hk.2⟩⟩, hk.1.1.2⟩)) hg (.inl rfl)); have n4_ := Aside0.mk (Kd.R_after (v := (.slice (some ⟨go17, 0, none⟩) x8_4.length co17)) (v1 := (.slice (some ⟨go17, 0, none⟩) x8_4.length co17)) (ok := (fun k_ => (w.heap.size ≤ k_))) (by (with_reducible repeat (first | apply Kd.R_alloc | apply Kd.R_drewN | apply Kd.R_drew)); exact Kd.R_mono HO401.out (fun _ hk => ⟨hk.1.1, hk.2⟩)) hg (.inl rfl)); have n5_ := Aside0.mk ((by rw [hw]; exact below_set (HB.out) GB17.out : Below w.heap.size w w45)); clear HO_0; clear HO_8; clear HO_10; clear HL398_0; clear HO401; clear HB; have HO_0 := n0_; have HO_8 := n1_; have HO_10 := n2_; have HL398_0 := n3_; have HO401 := n4_; have HB := n5_; clear n0_ n1_ n2_ n3_ n4_ n5_; clear hg hw hp_) | ((with_reducible refine gate_builtin (b := .append) (xs := #[.tmp 81, .tmp 83]) rfl ?_); at_builtin; refine Kd.N_append (Kd.slice 3 (Kd.int .i64)) (w0 := w) w.heap.size rfl (.tmp 81) (.tmp 83) 45 22 (.slice none 0 0) 24 rfl Try.underlying45 info22 rfl (by decide) (by omega) (.slice (some ad398) x10_4.length co40) x10_4 t399 [.slice Ao42 t399.length co42] (fun k_ => (P0_ k_ ∨ w.heap.size ≤ k_) ∧ some k_ ≠ (.slice (some ⟨go17, 0, none⟩) x8_4.length co17 : Value).ownBlock) (fun k_ => ((fun k_ => (P0_ k_ ∨ w.heap.size ≤ k_) ∧ some k_ ≠ (.slice (some ⟨go17, 0, none⟩) x8_4.length co17 : Value).ownBlock)) k_ ∧ some k_ ≠ (.slice (some ad398) x10_4.length co40 : Value).ownBlock) rfl rfl ?aP (fun _ hk => hk) ?aF ?aO ?aB ?aS ?aL ?_; (case aP => exact (Kd.FK_slice_mk (Kd.R_reads' (Kd.R_mono (ok' := (fun k_ => ((fun k_ => (P0_ k_ ∨ w.heap.size ≤ k_) ∧ some k_ ≠ (.slice (some ⟨go17, 0, none⟩) x8_4.length co17 : Value).ownBlock)) k_ ∧ some k_ ≠ (.slice (some ad398) x10_4.length co40 : Value).ownBlock)) (Kd.R_apart' (HO401.out) (Kd.N_typed HO_10.out) (by decide)) (fun k_ hk => ⟨⟨(.inr (hk.1.1)), hk.1.2⟩, hk.2⟩))).2.1 (Kd.R_F (Kd.R_mono (ok' := (fun k_ => ((fun k_ => (P0_ k_ ∨ w.heap.size ≤ k_) ∧ some k_ ≠ (.slice (some ⟨go17, 0, none⟩) x8_4.length co17 : Value).ownBlock)) k_ ∧ some k_ ≠ (.slice (some ad398) x10_4.length co40 : Value).ownBlock)) (Kd.R_apart' (HO401.out) (Kd.N_typed HO_10.out) (by decide)) (fun k_ hk => ⟨⟨(.inr (hk.1.1)), hk.1.2⟩, hk.2⟩))))); (case aB => exact (by repeat (first | (with_reducible first | exact HB.out | apply below_alloc | apply pw_below_drewN | apply below_drew1) | exact HB.out))); (case aF => exact (fun k_ hk => ⟨(.inr (Nat.le_trans (below_size (by repeat (first | (with_reducible first | exact HB.out | apply below_alloc | apply pw_below_drewN | apply below_drew1) | exact HB.out))) hk)), Kd.fresh' (Kd.R_lt (by (with_reducible repeat (first | apply Kd.R_alloc | apply Kd.R_drewN | apply Kd.R_drew)); exact HO_8.out)) k_ hk⟩)); (case aO => exact (by (with_reducible repeat (first | apply Kd.N_alloc | apply Kd.N_drewN | apply Kd.N_drew)); exact Kd.N_mono HO_10.out (fun _ hk => ⟨hk.1.1, hk.2⟩))); (case aS => exact (below_size (by repeat (first | (with_reducible first | exact HB.out | apply below_alloc | apply pw_below_drewN | apply below_drew1) | exact HB.out)))); (case aL => have := LMc39.out; omega); intro v406 w46 ho hb hg hat; rw [← Ny405.out] at ho; have n0_ := Aside0.mk (Kd.V_afterv (ok := (fun k_ => (P0_ k_ ∨ w.heap.size ≤ k_) ∧ some k_ ≠ (.slice (some ⟨go17, 0, none⟩) x8_4.length co17 : Value).ownBlock ∧ some k_ ≠ (.slice Ao42 t399.length co42 : Value).ownBlock)) (by (with_reducible repeat (first | apply Kd.V_alloc | apply Kd.V_drewN | apply Kd.V_drew)); exact Kd.V_mono HO_0.out (fun _ hk => ⟨⟨hk.1.1, ⟨hk.2, hk.1.2.2⟩⟩, hk.1.2.1⟩)) hg hat); have n1_ := Aside0.mk (Kd.R_over' (by (with_reducible repeat (first | apply Kd.R_alloc | apply Kd.R_drewN | apply Kd.R_drew)); exact HO_8.out) (Kd.N_typed (by (with_reducible repeat (first | apply Kd.N_alloc | apply Kd.N_drewN | apply Kd.N_drew)); exact HO_10.out)) (by decide) hg); have n2_ := Aside0.mk (Kd.V_afterv (ok := (fun k_ => (P0_ k_ ∨ w.heap.size ≤ k_) ∧ some k_ ≠ (.slice (some ⟨go17, 0, none⟩) x8_4.length co17 : Value).ownBlock ∧ some k_ ≠ (.slice Ao42 t399.length co42 : Value).ownBlock)) (by (with_reducible repeat (first | apply Kd.V_alloc | apply Kd.V_drewN | apply Kd.V_drew)); exact Kd.V_mono HL398_0.out (fun _ hk => ⟨⟨hk.1.1, ⟨hk.2, hk.1.2.2⟩⟩, hk.1.2.1⟩)) hg hat); have n3_ := Aside0.mk (hb); have n4_ := Aside0.mk (ho); clear HO_0; clear HO_8; clear HL398_0; clear HB; clear HO_10; clear HO401; have HO_0 := n0_; have HO_8 := n1_; have HL398_0 := n2_; have HB := n3_; have HO407 := n4_; clear n0_ n1_ n2_ n3_ n4_; clear ho hb hg hat))
                          (try simp only [← hl8_4])
                          go_roundg k4
                          case measure => have := HK1.out; have := HK2.out; have := HK3.out; have := HK4.out; omega
                          case rel => exact ⟨(y404), (y405), (wrap64 (x13_4 + 1)), (by first | rfl | (simp; done) | (simp [*]; done)), H', ⟨by have := HK1.out; have := HK2.out; have := HK3.out; have := HK4.out; omega⟩, ⟨by (try simp only [hl8_3]); (try simp only [hl8_4]); (with_reducible repeat (first | apply Kd.V_alloc | apply Kd.V_drewN | apply Kd.V_drew)); exact Kd.V_mono HO_0.out (fun _ hk => ⟨hk.1.1, ⟨hk.1.2.1, hk.2⟩⟩)⟩, ⟨by (try simp only [hl8_3]); (try simp only [hl8_4]); (with_reducible repeat (first | apply Kd.R_alloc | apply Kd.R_drewN | apply Kd.R_drew)); exact Kd.R_mono HO_8.out (fun _ hk => hk.1)⟩, ⟨by (try simp only [hl8_3]); (try simp only [hl8_4]); (with_reducible repeat (first | apply Kd.N_alloc | apply Kd.N_drewN | apply Kd.N_drew)); exact HO407.out⟩, ⟨by repeat (first | (with_reducible first | exact HB.out | apply below_alloc | apply pw_below_drewN | apply below_drew1) | exact HB.out)⟩⟩
                         ·rw [if_neg c39] at H
                          exact absurd H (by simp)
                        ·rw [if_neg c37] at H
                         have c37b0 : decide ((rd x8_4 t402) < 0) = false := decide_eq_false c37
                         clear c37
                         have H' := Aside0.mk H
                         clear H
                         obtain ⟨Ao47, co47, eo47⟩ := Kd.N_slice HO_10.out
                         subst eo47
                         have p398 : 0 ≤ (x11_3 : Int) := of_decide_eq_true (by first | (with_reducible assumption) | assumption)
                         have q398 : x11_3 < (x10_4.length : Int) := of_decide_eq_true (by first | (with_reducible assumption) | assumption)
                         obtain ⟨ad398, A398_0, c398_0, e398, hx398_0, hl398_0, hi398_0⟩ := at_L1 (Kd.N_reads' HO_10.out).2.2 x11_3 p398 q398
                         cases e398
                         obtain ⟨ce398, hce398, hMe398, hcc398⟩ := Kd.N_get HO_10.out [] x11_3 p398 (by first | exact q398 | exact of_decide_eq_true (by first | (with_reducible assumption) | assumption) | (have e_ := (Kd.N_reads' HO_10.out).1; omega))
                         obtain ⟨ua398_0, uc398_0, rfl, ul398_0, ge398_0⟩ := Kd.FK_slice_open hMe398
                         have hv398_0 := hcc398 0 _ rfl
                         rw [Nat.add_zero, show ((Kd.slice 3 (Kd.int .i64))).sz = 1 from rfl, Nat.mul_one] at hv398_0
                         replace hv398_0 := Option.some.inj (hv398_0.symm.trans hx398_0)
                         injection hv398_0 with hva_ hvn_ hvc_
                         rw [hva_] at ge398_0
                         rw [hvc_] at ul398_0
                         have HL398_0 := Aside0.mk (show Kd.V (Kd.int .i64) 3 _ w.heap.size _ _ (rd_L1 x10_4 x11_3) from Kd.V_mk ul398_0 ge398_0)
                         clear hva_ hvn_ hvc_ ge398_0 ul398_0
                         clear hcc398 hce398
                         have HR398_0 := Aside0.mk hi398_0
                         have HC398_0 := Aside0.mk hl398_0
                         clear hi398_0 hl398_0
                         replace p398 := eq_true p398
                         replace q398 := eq_true q398
                         go_wp2_with (first | ((with_reducible refine gate_callee (f := 34) rfl ?_); refine goesL_ (some 68) rfl rfl Try.func34 (by kernel_rfl) rfl #[.slice A398_0 (rd_L1 x10_4 x11_3).length c398_0, .int .i64 x13_4, .bool a1] rfl (by (try simp only [List.map_toArray, List.map_cons, List.map_nil]); first | done | rfl | (simp only [List.length_drop, List.length_take]; rfl)) ?_; (with_reducible refine (bibelotref07_Flip.calls k4 _ _ (rd_L1 x10_4 x11_3) x13_4 a1 t399 _ ?side1 ?side2 A33.out).mono ?_); (case side1 => repeat (first | exact (by repeat (first | (with_reducible exact HR398_0.out) | (with_reducible refine Kd.C_alloc ?_ _) | (with_reducible refine Kd.C_drewN ?_ _) | (with_reducible refine Kd.C_drew ?_) | exact HR398_0.out)) | (with_reducible refine Kd.C_alloc ?_ _) | (with_reducible refine Kd.C_drewN ?_ _) | (with_reducible refine Kd.C_drew ?_))); (case side2 => exact HC398_0.out); rintro e w48 ⟨v400, rfl, ho0, hb⟩; refine ⟨_, rfl, ?_⟩; have n0_ := Aside0.mk (Kd.V_elder' (by (with_reducible repeat (first | apply Kd.V_alloc | apply Kd.V_drewN | apply Kd.V_drew)); exact HO_0.out) (Kd.R_base ho0) hb); have n1_ := Aside0.mk (Kd.R_elder' (by (with_reducible repeat (first | apply Kd.R_alloc | apply Kd.R_drewN | apply Kd.R_drew)); exact HO_8.out) (Kd.R_base ho0) hb); have n2_ := Aside0.mk (Kd.N_elder' (by (with_reducible repeat (first | apply Kd.N_alloc | apply Kd.N_drewN | apply Kd.N_drew)); exact HO_10.out) (Kd.R_base ho0) hb); have n3_ := Aside0.mk (Kd.V_elder' (by (with_reducible repeat (first | apply Kd.V_alloc | apply Kd.V_drewN | apply Kd.V_drew)); exact HL398_0.out) (Kd.R_base ho0) hb); have n4_ := Aside0.mk (Kd.R_lower (Kd.R_new' (Kd.R_newM (M := fun k_ => (w.heap.size ≤ k_)) ho0 (below_size (by repeat (first | (with_reducible first | exact HB.out | apply below_alloc | apply pw_below_drewN | apply below_drew1) | exact HB.out))) (fun k_ h_ => h_)) (Kd.R_lt (by (with_reducible repeat (first | apply Kd.R_alloc | apply Kd.R_drewN | apply Kd.R_drew)); exact HO_8.out))) (below_size (by repeat (first | (with_reducible first | exact HB.out | apply below_alloc | apply pw_below_drewN | apply below_drew1) | exact HB.out)))); have n5_ := Aside0.mk (Kd.C_below (by repeat (first | (with_reducible exact HR398_0.out) | (with_reducible refine Kd.C_alloc ?_ _) | (with_reducible refine Kd.C_drewN ?_ _) | (with_reducible refine Kd.C_drew ?_) | exact HR398_0.out)) hb); have n6_ := Aside0.mk (below_step (by repeat (first | (with_reducible first | exact HB.out | apply below_alloc | apply pw_below_drewN | apply below_drew1) | exact HB.out)) hb); clear HO_0; clear HO_8; clear HO_10; clear HL398_0; clear HR398_0; clear HB; have HO_0 := n0_; have HO_8 := n1_; have HO_10 := n2_; have HL398_0 := n3_; have HO401 := n4_; have HR398_0 := n5_; have HB := n6_; clear n0_ n1_ n2_ n3_ n4_ n5_ n6_; (try clear hb); (try clear hb2); (try clear hk); (try clear hi); (try clear ho0); obtain ⟨Ao49, co49, eo49⟩ := Kd.R_slice HO401.out; subst eo49) | ((with_reducible refine gate_callee (f := 52) rfl ?_); refine goesL_ (some 70) rfl rfl Try.func52 (by kernel_rfl) rfl #[.slice Ao49 t399.length co49] rfl (by (try simp only [List.map_toArray, List.map_cons, List.map_nil]); first | done | rfl | (simp only [List.length_drop, List.length_take]; rfl)) ?_; (with_reducible refine (bibelotref07_Code.calls k4 _ _ t399 t402 _ ?side1 ?side2 A34.out).mono ?_); (case side1 => repeat (first | exact (Kd.R_reads' HO401.out).2.2 | (with_reducible refine Kd.C_alloc ?_ _) | (with_reducible refine Kd.C_drewN ?_ _) | (with_reducible refine Kd.C_drew ?_))); (case side2 => exact (Kd.R_reads' HO401.out).2.1); rintro e w50 ⟨rfl, hb⟩; refine ⟨_, rfl, ?_⟩; have n0_ := Aside0.mk (Kd.V_below (by (with_reducible repeat (first | apply Kd.V_alloc | apply Kd.V_drewN | apply Kd.V_drew)); exact HO_0.out) hb); have n1_ := Aside0.mk (Kd.R_below (by (with_reducible repeat (first | apply Kd.R_alloc | apply Kd.R_drewN | apply Kd.R_drew)); exact HO_8.out) hb); have n2_ := Aside0.mk (Kd.N_below (by (with_reducible repeat (first | apply Kd.N_alloc | apply Kd.N_drewN | apply Kd.N_drew)); exact HO_10.out) hb); have n3_ := Aside0.mk (Kd.V_below (by (with_reducible repeat (first | apply Kd.V_alloc | apply Kd.V_drewN | apply Kd.V_drew)); exact HL398_0.out) hb); have n4_ := Aside0.mk (Kd.R_below (by (with_reducible repeat (first | apply Kd.R_alloc | apply Kd.R_drewN | apply Kd.R_drew)); exact HO401.out) hb); have n5_ := Aside0.mk (Kd.C_below (by repeat (first | (with_reducible exact HR398_0.out) | (with_reducible refine Kd.C_alloc ?_ _) | (with_reducible refine Kd.C_drewN ?_ _) | (with_reducible refine Kd.C_drew ?_) | exact HR398_0.out)) hb); have n6_ := Aside0.mk (below_step (by repeat (first | (with_reducible first | exact HB.out | apply below_alloc | apply pw_below_drewN | apply below_drew1) | exact HB.out)) hb); clear HO_0; clear HO_8; clear HO_10; clear HL398_0; clear HO401; clear HR398_0; clear HB; have HO_0 := n0_; have HO_8 := n1_; have HO_10 := n2_; have HL398_0 := n3_; have HO401 := n4_; have HR398_0 := n5_; have HB := n6_; clear n0_ n1_ n2_ n3_ n4_ n5_ n6_; (try clear hb); (try clear hb2); (try clear hk); (try clear hi); have p403 : 0 ≤ (t402 : Int) := of_decide_eq_true (by first | (with_reducible assumption) | assumption); have q403 : t402 < (x8_4.length : Int) := of_decide_eq_true (by first | (with_reducible assumption) | assumption); obtain ⟨ad403, e403, hx403_0⟩ := Kd.at_int (Kd.R_reads' HO_8.out).2.2 t402 p403 q403; obtain rfl : (⟨go17, 0, none⟩ : Addr) = ad403 := (by injection e403); (first | simp only [add_plain] at hx403_0 | simp only [add_at] at hx403_0 | simp only [Addr.add, Nat.zero_add] at hx403_0 | skip); replace p403 := eq_true p403; replace q403 := eq_true q403))
                         (try simp only [← hl8_4])
                         go_roundg k4
                         case measure => have := HK1.out; have := HK2.out; have := HK3.out; have := HK4.out; omega
                         case rel => exact ⟨(x8_4), (x10_4), (wrap64 (x13_4 + 1)), (by first | rfl | (simp; done) | (simp [*]; done)), H', ⟨by have := HK1.out; have := HK2.out; have := HK3.out; have := HK4.out; omega⟩, ⟨by (try simp only [hl8_3]); (try simp only [hl8_4]); (with_reducible repeat (first | apply Kd.V_alloc | apply Kd.V_drewN | apply Kd.V_drew)); exact Kd.V_mono HO_0.out (fun _ hk => ⟨hk.1.1, ⟨hk.1.2.1, hk.1.2.2⟩⟩)⟩, ⟨by (try simp only [hl8_3]); (try simp only [hl8_4]); (with_reducible repeat (first | apply Kd.R_alloc | apply Kd.R_drewN | apply Kd.R_drew)); exact Kd.R_mono HO_8.out (fun _ hk => hk.1)⟩, ⟨by (try simp only [hl8_3]); (try simp only [hl8_4]); (with_reducible repeat (first | apply Kd.N_alloc | apply Kd.N_drewN | apply Kd.N_drew)); exact Kd.N_mono HO_10.out (fun _ hk => ⟨hk.1.1, hk.1.2⟩)⟩, ⟨by repeat (first | (with_reducible first | exact HB.out | apply below_alloc | apply pw_below_drewN | apply below_drew1) | exact HB.out)⟩⟩
                       ·rw [if_neg c36] at H
                        exact absurd H (by simp)
                      ·rw [if_neg c35] at H
                       exact absurd H (by simp)
                     ·rw [if_neg c32] at H
                      exact absurd H (by simp)
                    ·rw [if_neg c31] at H
                     exact absurd H (by simp)
                   ·rw [if_neg c30] at H
                    have c30b0 : decide (x13_4 ≤ (l0.length : Int)) = false := decide_eq_false c30
                    clear c30
                    have H' := Aside0.mk H
                    clear H
                    go_wp2
                    (try simp only [← hl8_3, ← hl8_4])
                    go_roundg k4
                    case measure => have := HK1.out; have := HK2.out; have := HK3.out; have := HK4.out; omega
                    case rel => exact ⟨(x8_4), (x10_4), (wrap64 (x11_3 + 1)), (by first | rfl | (simp; done) | (simp [*]; done)), H', ⟨by have := HK1.out; have := HK2.out; have := HK3.out; have := HK4.out; omega⟩, ⟨by (try simp only [hl8_3]); (try simp only [hl8_4]); (with_reducible repeat (first | apply Kd.V_alloc | apply Kd.V_drewN | apply Kd.V_drew)); exact HO_0.out⟩, ⟨by (try simp only [hl8_3]); (try simp only [hl8_4]); (with_reducible repeat (first | apply Kd.R_alloc | apply Kd.R_drewN | apply Kd.R_drew)); exact HO_8.out⟩, ⟨by (try simp only [hl8_3]); (try simp only [hl8_4]); (with_reducible repeat (first | apply Kd.N_alloc | apply Kd.N_drewN | apply Kd.N_drew)); exact HO_10.out⟩, ⟨by repeat (first | (with_reducible first | exact HB.out | apply below_alloc | apply pw_below_drewN | apply below_drew1) | exact HB.out)⟩⟩
                ·rw [if_neg c27] at H
                 exact absurd H (by simp)
               ·rw [if_neg c26] at H
                exact absurd H (by simp)
              ·rw [if_neg c24] at H
               exact absurd H (by simp)
             ·rw [if_neg c23] at H
              have c23b0 : decide (x11_3 < (x10_3.length : Int)) = false := decide_eq_false c23
              clear c23
              simp only [Option.some.injEq, Prod.mk.injEq] at H
              obtain ⟨rfl, rfl⟩ := H
              obtain ⟨Ao51, co51, eo51⟩ := Kd.N_slice HO_10.out
              subst eo51
              go_wp2
              go_ret2
              exact ⟨_, _, by first | rfl | (simp [errW_none, errW_some] <;> rfl) | (simp [*, errW_none, errW_some] <;> rfl), by (with_reducible repeat (first | apply Kd.R_alloc | apply Kd.R_drewN | apply Kd.R_drew)); exact HO_8.out, by (with_reducible repeat (first | apply Kd.N_alloc | apply Kd.N_drewN | apply Kd.N_drew)); exact HO_10.out, by repeat (first | (with_reducible first | exact HB.out | apply below_alloc | apply pw_below_drewN | apply below_drew1) | exact HB.out)⟩
          ·rw [if_neg c16] at H
           exact absurd H (by simp)
         ·rw [if_neg c15] at H
          exact absurd H (by simp)
     ·rw [if_neg c5] at H
      exact absurd H (by simp)
    ·rw [if_neg c4] at H
     exact absurd H (by simp)

end Go.Proofs.Ytepjhdblmghckaa.Q
namespace Go.Proofs.Ytepjhdblmghckaa.G
end Go.Proofs.Ytepjhdblmghckaa.G
namespace Go.Proofs.Ytepjhdblmghckaa.Q
set_option linter.unusedVariables false
set_option linter.unusedSimpArgs false
set_option linter.unusedSectionVars false
open Go.Proofs.Ytepjhdblmghckaa.G
open Go.RowKit Go.Proofs.YtepjhdblmghckaaW.PrintWords Go.Proofs.YtepjhdblmghckaaW.PrintLast Go.Proofs.YtepjhdblmghckaaW.PrintMore
attribute [local go_sem] max2_int min2_int max_two min_two max_three min_three max_four min_four   -- for this text's walks alone

/-! ### bibelotref07_Flips: function 48 -/
def bibelotref07_Flips.f (k : Nat) (l0 : List Int) (l1 : List Int) (a2 : Bool) : Option (Int) := (bibelotref07_All.f k l0 a2).bind fun bt507 => ((bibelotref07_Code.f k l1).bind fun t513 => (if 0 ≤ t513 then (if t513 < (bt507.1.length : Int) then (some (rd bt507.1 t513)) else (none)) else (none)))
theorem bibelotref07_Flips.mono : ∀ a0 a1 a2 k, LeO (bibelotref07_Flips.f k a0 a1 a2) (bibelotref07_Flips.f (k + 1) a0 a1 a2) := by
 intro a0 a1 a2 k
 unfold bibelotref07_Flips.f
 repeat' first
   | (with_reducible exact bibelotref07_All.mono _ _ _)
   | (with_reducible exact bibelotref07_Code.mono _ _)
   | (with_reducible exact LeO.refl _)
   | (with_reducible exact LeO.none _)
   | (with_reducible refine LeO.ite ?_ ?_)
   | (with_reducible refine LeO.bind ?_ (fun _ => ?_))
   | exact bibelotref07_All.mono _ _ _
   | exact bibelotref07_Code.mono _ _
   | exact LeO.none _
   | refine LeO.ite ?_ ?_
   | refine LeO.bind ?_ (fun _ => ?_)
set_option maxHeartbeats 8000000 in
set_option maxRecDepth 100000 in
theorem bibelotref07_Flips.calls (k : Nat) (A0 : Option Addr) (c0 : Nat) (l0 : List Int) (A1 : Option Addr) (c1 : Nat) (l1 : List Int) (a2 : Bool) (r : Int) (w : World) (hr0 : Kd.C (Kd.int .i64) w A0 l0.length l0) (hc0 : l0.length ≤ c0) (hr1 : Kd.C (Kd.int .i64) w A1 l1.length l1) (hc1 : l1.length ≤ c1) (h : bibelotref07_Flips.f k l0 l1 a2 = some r) :
  Calls Try.prog 48 #[.slice A0 l0.length c0, .slice A1 l1.length c1, .bool a2] w fun e w' => e = .returned (.int .i64 r) ∧ Below w.heap.size w w' := by
 have HR0 := Aside0.mk hr0
 have HC0 := Aside0.mk hc0
 clear hr0 hc0
 have HR1 := Aside0.mk hr1
 have HC1 := Aside0.mk hc1
 clear hr1 hc1
 have HB := Aside0.mk (Below.refl w.heap.size w)
 have H : ((bibelotref07_All.f k l0 a2).bind fun bt507 => ((bibelotref07_Code.f k l1).bind fun t513 => (if 0 ≤ t513 then (if t513 < (bt507.1.length : Int) then (some (rd bt507.1 t513)) else (none)) else (none)))) = some r := h
 clear h
 replace H := Option.bind_eq_some_iff.mp H
 obtain ⟨⟨t507, t510⟩, A40, H⟩ := H
 replace H : ((bibelotref07_Code.f k l1).bind fun t513 => (if 0 ≤ t513 then (if t513 < (t507.length : Int) then (some (rd t507 t513)) else (none)) else (none))) = some r := H
 have A4 := Aside0.mk A40
 clear A40
 replace H := Option.bind_eq_some_iff.mp H
 obtain ⟨t513, A50, H⟩ := H
 replace H : (if 0 ≤ t513 then (if t513 < (t507.length : Int) then (some (rd t507 t513)) else (none)) else (none)) = some r := H
 have A5 := Aside0.mk A50
 clear A50
 by_cases c6 : 0 ≤ t513
 ·rw [if_pos c6] at H
  have c6b0 : decide (0 ≤ t513) = true := decide_eq_true c6
  clear c6
  by_cases c7 : t513 < (t507.length : Int)
  ·rw [if_pos c7] at H
   have c7b0 : decide (t513 < (t507.length : Int)) = true := decide_eq_true c7
   clear c7
   obtain rfl := Option.some.inj H
   go_enter Try.func48, Try.ntmps48
   go_wp2_with (first | ((with_reducible refine gate_callee (f := 73) rfl ?_); refine goesL_ (some 12) rfl rfl Try.func73 (by kernel_rfl) rfl #[.slice A0 l0.length c0, .bool a2] rfl (by (try simp only [List.map_toArray, List.map_cons, List.map_nil]); first | done | rfl | (simp only [List.length_drop, List.length_take]; rfl)) ?_; (with_reducible refine (bibelotref07_All.calls k (fun k_ => k_ < w.heap.size) _ _ l0 a2 t507 t510 _ ?side1 A4.out).mono ?_); (case side1 => exact Kd.V_mk HC0.out (Kd.F_below (Kd.C_F (Kd.heap_int .i64) HR0.out) (by repeat (first | (with_reducible first | exact HB.out | apply below_alloc | apply pw_below_drewN | apply below_drew1) | exact HB.out)))); rintro e w8 ⟨v508, v511, rfl, ho0, ho1, hb⟩; refine ⟨_, rfl, ?_⟩; have n0_ := Aside0.mk (Kd.R_lower (Kd.R_mono (ok' := fun k_ => True) ho0 (fun _ hk_ => trivial)) (below_size (by repeat (first | (with_reducible first | exact HB.out | apply below_alloc | apply pw_below_drewN | apply below_drew1) | exact HB.out)))); have n1_ := Aside0.mk (Kd.N_lower (Kd.N_mono (ok' := fun k_ => some k_ ≠ (v508 : Value).ownBlock) ho1 (fun k_ hk_ => hk_.2)) (below_size (by repeat (first | (with_reducible first | exact HB.out | apply below_alloc | apply pw_below_drewN | apply below_drew1) | exact HB.out)))); have n2_ := Aside0.mk (below_step (by repeat (first | (with_reducible first | exact HB.out | apply below_alloc | apply pw_below_drewN | apply below_drew1) | exact HB.out)) hb); clear HB; have HO509 := n0_; have HO512 := n1_; have HB := n2_; clear n0_ n1_ n2_; (try clear hb); (try clear hb2); (try clear hk); (try clear hi); (try clear ho0); (try clear ho1)) | ((with_reducible refine gate_callee (f := 52) rfl ?_); refine goesL_ (some 17) rfl rfl Try.func52 (by kernel_rfl) rfl #[.slice A1 l1.length c1] rfl (by (try simp only [List.map_toArray, List.map_cons, List.map_nil]); first | done | rfl | (simp only [List.length_drop, List.length_take]; rfl)) ?_; (with_reducible refine (bibelotref07_Code.calls k _ _ l1 t513 _ ?side1 ?side2 A5.out).mono ?_); (case side1 => repeat (first | exact (Kd.C_below HR1.out HB.out) | (with_reducible refine Kd.C_alloc ?_ _) | (with_reducible refine Kd.C_drewN ?_ _) | (with_reducible refine Kd.C_drew ?_))); (case side2 => exact HC1.out); rintro e w9 ⟨rfl, hb⟩; refine ⟨_, rfl, ?_⟩; have n0_ := Aside0.mk (Kd.R_below (by (with_reducible repeat (first | apply Kd.R_alloc | apply Kd.R_drewN | apply Kd.R_drew)); exact HO509.out) hb); have n1_ := Aside0.mk (Kd.N_below (by (with_reducible repeat (first | apply Kd.N_alloc | apply Kd.N_drewN | apply Kd.N_drew)); exact HO512.out) hb); have n2_ := Aside0.mk (below_step (by repeat (first | (with_reducible first | exact HB.out | apply below_alloc | apply pw_below_drewN | apply below_drew1) | exact HB.out)) hb); clear HO509; clear HO512; clear HB; have HO509 := n0_; have HO512 := n1_; have HB := n2_; clear n0_ n1_ n2_; (try clear hb); (try clear hb2); (try clear hk); (try clear hi); obtain ⟨Ao10, co10, eo10⟩ := Kd.R_slice HO509.out; subst eo10; have p514 : 0 ≤ (t513 : Int) := of_decide_eq_true (by first | (with_reducible assumption) | assumption); have q514 : t513 < (t507.length : Int) := of_decide_eq_true (by first | (with_reducible assumption) | assumption); obtain ⟨ad514, e514, hx514_0⟩ := Kd.at_int (Kd.R_reads' HO509.out).2.2 t513 p514 q514; cases e514; replace p514 := eq_true p514; replace q514 := eq_true q514))
   go_ret
   exact ⟨by first | rfl | (simp [errW_none, errW_some] <;> rfl) | (simp [*, errW_none, errW_some] <;> rfl), by repeat (first | (with_reducible first | exact HB.out | apply below_alloc | apply pw_below_drewN | apply below_drew1) | exact HB.out)⟩
  ·rw [if_neg c7] at H
   exact absurd H (by simp)
 ·rw [if_neg c6] at H
  exact absurd H (by simp)

end Go.Proofs.Ytepjhdblmghckaa.Q
namespace Go.Proofs.Ytepjhdblmghckaa.G
end Go.Proofs.Ytepjhdblmghckaa.G
namespace Go.Proofs.Ytepjhdblmghckaa.Q
set_option linter.unusedVariables false
set_option linter.unusedSimpArgs false
set_option linter.unusedSectionVars false
open Go.Proofs.Ytepjhdblmghckaa.G
open Go.RowKit Go.Proofs.YtepjhdblmghckaaW.PrintWords Go.Proofs.YtepjhdblmghckaaW.PrintLast Go.Proofs.YtepjhdblmghckaaW.PrintMore
attribute [local go_sem] max2_int min2_int max_two min_two max_three min_three max_four min_four   -- for this text's walks alone

/-! ### bibelotref07_Worst: function 44 -/
def bibelotref07_Worst.l0 : Nat → List Int → List (List Int) → Int → Int → Int → Option (Int × Int)
 | 0, _, _, _, _, _ => none
 | k + 1, x6, x7, x8, x9, x10 => if x10 < (x7.length : Int) then (if 0 ≤ x10 then ((bibelotref07_Code.f k (rd_L1 x7 x10)).bind fun t418 => (if 0 ≤ t418 then (if t418 < (x6.length : Int) then (if (rd x6 t418) > x8 then (if (rd x6 t418) = (rd x6 t418) then (bibelotref07_Worst.l0 k x6 x7 (rd x6 t418) (0 + 1) (wrap64 (x10 + 1))) else (bibelotref07_Worst.l0 k x6 x7 (rd x6 t418) 0 (wrap64 (x10 + 1)))) else (if (rd x6 t418) = x8 then (bibelotref07_Worst.l0 k x6 x7 x8 (wrap64 (x9 + 1)) (wrap64 (x10 + 1))) else (bibelotref07_Worst.l0 k x6 x7 x8 x9 (wrap64 (x10 + 1))))) else (none)) else (none))) else (none)) else (some (x8, x9))
def bibelotref07_Worst.f (k : Nat) (a0 : Int) (a1 : Bool) : Option (Int × Int) := (bibelotref07_First.f k a0).bind fun t408 => ((bibelotref07_All.f k t408 a1).bind fun bt411 => (bibelotref07_Worst.l0 k bt411.1 bt411.2 0 0 0))
theorem bibelotref07_Worst.mono_l : ∀ k, (∀ y0 y1 y2 y3 y4, LeO (bibelotref07_Worst.l0 k y0 y1 y2 y3 y4) (bibelotref07_Worst.l0 (k + 1) y0 y1 y2 y3 y4))
 | 0 => fun _ _ _ _ _ r h => by simp [bibelotref07_Worst.l0] at h
 | k + 1 => by
  have ih0 := bibelotref07_Worst.mono_l k
  ·intro y0 y1 y2 y3 y4
   unfold bibelotref07_Worst.l0
   repeat' first
   | (with_reducible exact ih0 _ _ _ _ _)
   | (with_reducible exact bibelotref07_All.mono _ _ _)
   | (with_reducible exact bibelotref07_Code.mono _ _)
   | (with_reducible exact bibelotref07_First.mono _ _)
   | (with_reducible exact LeO.refl _)
   | (with_reducible exact LeO.none _)
   | (with_reducible refine LeO.ite ?_ ?_)
   | (with_reducible refine LeO.bind ?_ (fun _ => ?_))
   | exact ih0 _ _ _ _ _
   | exact bibelotref07_All.mono _ _ _
   | exact bibelotref07_Code.mono _ _
   | exact bibelotref07_First.mono _ _
   | exact LeO.none _
   | refine LeO.ite ?_ ?_
   | refine LeO.bind ?_ (fun _ => ?_)
theorem bibelotref07_Worst.mono : ∀ a0 a1 k, LeO (bibelotref07_Worst.f k a0 a1) (bibelotref07_Worst.f (k + 1) a0 a1) := by
 intro a0 a1 k
 have ih0 := bibelotref07_Worst.mono_l k
 unfold bibelotref07_Worst.f
 repeat' first
   | (with_reducible exact ih0 _ _ _ _ _)
   | (with_reducible exact bibelotref07_All.mono _ _ _)
   | (with_reducible exact bibelotref07_Code.mono _ _)
   | (with_reducible exact bibelotref07_First.mono _ _)
   | (with_reducible exact LeO.refl _)
   | (with_reducible exact LeO.none _)
   | (with_reducible refine LeO.ite ?_ ?_)
   | (with_reducible refine LeO.bind ?_ (fun _ => ?_))
   | exact ih0 _ _ _ _ _
   | exact bibelotref07_All.mono _ _ _
   | exact bibelotref07_Code.mono _ _
   | exact bibelotref07_First.mono _ _
   | exact LeO.none _
   | refine LeO.ite ?_ ?_
   | refine LeO.bind ?_ (fun _ => ?_)
set_option maxHeartbeats 8000000 in
set_option maxRecDepth 100000 in
theorem bibelotref07_Worst.calls (k : Nat) (a0 : Int) (a1 : Bool) (r1 : Int) (r2 : Int) (w : World) (h : bibelotref07_Worst.f k a0 a1 = some (r1, r2)) :
  Calls Try.prog 44 #[.int .i64 a0, .bool a1] w fun e w' => e = .returned (.tuple #[.int .i64 r1, .int .i64 r2]) ∧ Below w.heap.size w w' := by
 have HB := Aside0.mk (Below.refl w.heap.size w)
 have H : ((bibelotref07_First.f k a0).bind fun t408 => ((bibelotref07_All.f k t408 a1).bind fun bt411 => (bibelotref07_Worst.l0 k bt411.1 bt411.2 0 0 0))) = some (r1, r2) := h
 clear h
 replace H := Option.bind_eq_some_iff.mp H
 obtain ⟨t408, A30, H⟩ := H
 replace H : ((bibelotref07_All.f k t408 a1).bind fun bt411 => (bibelotref07_Worst.l0 k bt411.1 bt411.2 0 0 0)) = some (r1, r2) := H
 have A3 := Aside0.mk A30
 clear A30
 replace H := Option.bind_eq_some_iff.mp H
 obtain ⟨⟨t411, t414⟩, A40, H⟩ := H
 replace H : (bibelotref07_Worst.l0 k t411 t414 0 0 0) = some (r1, r2) := H
 have A4 := Aside0.mk A40
 clear A40
 have H' := Aside0.mk H
 clear H
 go_enter Try.func44, Try.ntmps44
 go_wp2_with (first | ((with_reducible refine gate_callee (f := 49) rfl ?_); refine goesL_ (some 14) rfl rfl Try.func49 (by kernel_rfl) rfl #[.int .i64 a0] rfl (by (try simp only [List.map_toArray, List.map_cons, List.map_nil]); first | done | rfl | (simp only [List.length_drop, List.length_take]; rfl)) ?_; (with_reducible refine (bibelotref07_First.calls k a0 t408 _ A3.out).mono ?_); rintro e w5 ⟨v409, rfl, ho0, hb⟩; refine ⟨_, rfl, ?_⟩; have n0_ := Aside0.mk (Kd.R_lower ho0 (below_size (by repeat (first | (with_reducible first | exact HB.out | apply below_alloc | apply pw_below_drewN | apply below_drew1) | exact HB.out)))); have n1_ := Aside0.mk (below_step (by repeat (first | (with_reducible first | exact HB.out | apply below_alloc | apply pw_below_drewN | apply below_drew1) | exact HB.out)) hb); clear HB; have HO410 := n0_; have HB := n1_; clear n0_ n1_; (try clear hb); (try clear hb2); (try clear hk); (try clear hi); (try clear ho0); obtain ⟨Ao6, co6, eo6⟩ := Kd.R_slice HO410.out; subst eo6) | ((with_reducible refine gate_callee (f := 73) rfl ?_); refine goesL_ (some 16) rfl rfl Try.func73 (by kernel_rfl) rfl #[.slice Ao6 t408.length co6, .bool a1] rfl (by (try simp only [List.map_toArray, List.map_cons, List.map_nil]); first | done | rfl | (simp only [List.length_drop, List.length_take]; rfl)) ?_; (with_reducible refine (bibelotref07_All.calls k (fun k_ => some k_ = (.slice Ao6 t408.length co6 : Value).ownBlock) _ _ t408 a1 t411 t414 _ ?side1 A4.out).mono ?_); (case side1 => exact Kd.R_V (Kd.R_tight rfl (HO410.out))); rintro e w7 ⟨v412, v415, rfl, ho0, ho1, hb⟩; refine ⟨_, rfl, ?_⟩; have n0_ := Aside0.mk (Kd.R_elder' (by (with_reducible repeat (first | apply Kd.R_alloc | apply Kd.R_drewN | apply Kd.R_drew)); exact HO410.out) (Kd.R_base ho0) hb); have n1_ := Aside0.mk (Kd.R_lower (Kd.R_new' (Kd.R_mono (ok' := fun k_ => True) ho0 (fun _ hk_ => trivial)) (Kd.R_lt (by (with_reducible repeat (first | apply Kd.R_alloc | apply Kd.R_drewN | apply Kd.R_drew)); exact HO410.out))) (below_size (by repeat (first | (with_reducible first | exact HB.out | apply below_alloc | apply pw_below_drewN | apply below_drew1) | exact HB.out)))); have n2_ := Aside0.mk (Kd.N_lower (Kd.N_mono (ok' := fun k_ => some k_ ≠ (v412 : Value).ownBlock) ho1 (fun k_ hk_ => hk_.2)) (below_size (by repeat (first | (with_reducible first | exact HB.out | apply below_alloc | apply pw_below_drewN | apply below_drew1) | exact HB.out)))); have n3_ := Aside0.mk (below_step (by repeat (first | (with_reducible first | exact HB.out | apply below_alloc | apply pw_below_drewN | apply below_drew1) | exact HB.out)) hb); clear HO410; clear HB; have HO410 := n0_; have HO413 := n1_; have HO416 := n2_; have HB := n3_; clear n0_ n1_ n2_ n3_; (try clear hb); (try clear hb2); (try clear hk); (try clear hi); (try clear ho0); (try clear ho1)))
 go_loopg [8, 9, 10] k (fun kq v8 v9 v10 w' => ∃ (x8_1 : Int) (x9_1 : Int) (x10_1 : Int), v8 = .int .i64 x8_1 ∧ v9 = .int .i64 x9_1 ∧ v10 = .int .i64 x10_1 ∧ Aside0 (bibelotref07_Worst.l0 kq t411 t414 x8_1 x9_1 x10_1 = some (r1, r2)) ∧ Aside0 (kq ≤ k) ∧ Aside0 (Kd.R (Kd.int .i64) 3 w' w.heap.size (fun _ => True) v412 t411) ∧ Aside0 (Kd.N (Kd.slice 3 (Kd.int .i64)) 22 w' w.heap.size (fun k_ => some k_ ≠ (v412 : Value).ownBlock) v415 t414) ∧ Aside0 (Below w.heap.size w w'))
 case atStart => exact ⟨(0), (0), (0), (by first | rfl | (simp; done) | (simp [*]; done)), (by first | rfl | (simp; done) | (simp [*]; done)), (by first | rfl | (simp; done) | (simp [*]; done)), H', ⟨Nat.le_refl _⟩, ⟨by (with_reducible repeat (first | apply Kd.R_alloc | apply Kd.R_drewN | apply Kd.R_drew)); exact Kd.R_mono HO413.out (fun _ hk => trivial)⟩, ⟨by (with_reducible repeat (first | apply Kd.N_alloc | apply Kd.N_drewN | apply Kd.N_drew)); exact HO416.out⟩, ⟨by repeat (first | (with_reducible first | exact HB.out | apply below_alloc | apply pw_below_drewN | apply below_drew1) | exact HB.out)⟩⟩
 case round =>
  clear H'
  try clear p2
  try clear c4
  try clear c7
  obtain ⟨x8_1, x9_1, x10_1, rfl, rfl, rfl, HA, HK1, HO_6, HO_7, HB⟩ := hrel
  cases gk with
  | zero => exact absurd HA.out (by simp [bibelotref07_Worst.l0])
  | succ k1 =>
   have H := HA.out
   clear HA
   simp only [bibelotref07_Worst.l0] at H
   by_cases c8 : x10_1 < (t414.length : Int)
   ·rw [if_pos c8] at H
    have c8b0 : decide (x10_1 < (t414.length : Int)) = true := decide_eq_true c8
    clear c8
    by_cases c9 : 0 ≤ x10_1
    ·rw [if_pos c9] at H
     have c9b0 : decide (0 ≤ x10_1) = true := decide_eq_true c9
     clear c9
     replace H := Option.bind_eq_some_iff.mp H
     obtain ⟨t418, A100, H⟩ := H
     replace H : (if 0 ≤ t418 then (if t418 < (t411.length : Int) then (if (rd t411 t418) > x8_1 then (if (rd t411 t418) = (rd t411 t418) then (bibelotref07_Worst.l0 k1 t411 t414 (rd t411 t418) (0 + 1) (wrap64 (x10_1 + 1))) else (bibelotref07_Worst.l0 k1 t411 t414 (rd t411 t418) 0 (wrap64 (x10_1 + 1)))) else (if (rd t411 t418) = x8_1 then (bibelotref07_Worst.l0 k1 t411 t414 x8_1 (wrap64 (x9_1 + 1)) (wrap64 (x10_1 + 1))) else (bibelotref07_Worst.l0 k1 t411 t414 x8_1 x9_1 (wrap64 (x10_1 + 1))))) else (none)) else (none)) = some (r1, r2) := by (simp only [eq_self_iff_true, if_true] at H ⊢; exact H)
     have A10 := Aside0.mk A100
     clear A100
     by_cases c11 : 0 ≤ t418
     ·rw [if_pos c11] at H
      have c11b0 : decide (0 ≤ t418) = true := decide_eq_true c11
      clear c11
      by_cases c12 : t418 < (t411.length : Int)
      ·rw [if_pos c12] at H
       have c12b0 : decide (t418 < (t411.length : Int)) = true := decide_eq_true c12
       clear c12
       by_cases c13 : (rd t411 t418) > x8_1
       ·rw [if_pos c13] at H
        have c13b0 : decide (x8_1 < (rd t411 t418)) = true := decide_eq_true c13
        clear c13
        by_cases c14 : (rd t411 t418) = (rd t411 t418)
        ·rw [if_pos c14] at H
         have c14b0 : ((rd t411 t418) == (rd t411 t418)) = true := beq_iff_eq.mpr c14
         have c14b1 : ((rd t411 t418) != (rd t411 t418)) = false := bne_eq_false_iff_eq.mpr c14
         clear c14
         have H' := Aside0.mk H
         clear H
         obtain ⟨Ao15, co15, eo15⟩ := Kd.N_slice HO_7.out
         subst eo15
         have p417 : 0 ≤ (x10_1 : Int) := of_decide_eq_true (by first | (with_reducible assumption) | assumption)
         have q417 : x10_1 < (t414.length : Int) := of_decide_eq_true (by first | (with_reducible assumption) | assumption)
         obtain ⟨ad417, A417_0, c417_0, e417, hx417_0, hl417_0, hi417_0⟩ := at_L1 (Kd.N_reads' HO_7.out).2.2 x10_1 p417 q417
         cases e417
         obtain ⟨ce417, hce417, hMe417, hcc417⟩ := Kd.N_get HO_7.out [] x10_1 p417 (by first | exact q417 | exact of_decide_eq_true (by first | (with_reducible assumption) | assumption) | (have e_ := (Kd.N_reads' HO_7.out).1; omega))
         obtain ⟨ua417_0, uc417_0, rfl, ul417_0, ge417_0⟩ := Kd.FK_slice_open hMe417
         have hv417_0 := hcc417 0 _ rfl
         rw [Nat.add_zero, show ((Kd.slice 3 (Kd.int .i64))).sz = 1 from rfl, Nat.mul_one] at hv417_0
         replace hv417_0 := Option.some.inj (hv417_0.symm.trans hx417_0)
         injection hv417_0 with hva_ hvn_ hvc_
         rw [hva_] at ge417_0
         rw [hvc_] at ul417_0
         have HL417_0 := Aside0.mk (show Kd.V (Kd.int .i64) 3 _ w.heap.size _ _ (rd_L1 t414 x10_1) from Kd.V_mk ul417_0 ge417_0)
         clear hva_ hvn_ hvc_ ge417_0 ul417_0
         clear hcc417 hce417
         have HR417_0 := Aside0.mk hi417_0
         have HC417_0 := Aside0.mk hl417_0
         clear hi417_0 hl417_0
         replace p417 := eq_true p417
         replace q417 := eq_true q417
         go_wp2_with (first | ((with_reducible refine gate_callee (f := 52) rfl ?_); refine goesL_ (some 30) rfl rfl Try.func52 (by kernel_rfl) rfl #[.slice A417_0 (rd_L1 t414 x10_1).length c417_0] rfl (by (try simp only [List.map_toArray, List.map_cons, List.map_nil]); first | done | rfl | (simp only [List.length_drop, List.length_take]; rfl)) ?_; (with_reducible refine (bibelotref07_Code.calls k1 _ _ (rd_L1 t414 x10_1) t418 _ ?side1 ?side2 A10.out).mono ?_); (case side1 => repeat (first | exact (by repeat (first | (with_reducible exact HR417_0.out) | (with_reducible refine Kd.C_alloc ?_ _) | (with_reducible refine Kd.C_drewN ?_ _) | (with_reducible refine Kd.C_drew ?_) | exact HR417_0.out)) | (with_reducible refine Kd.C_alloc ?_ _) | (with_reducible refine Kd.C_drewN ?_ _) | (with_reducible refine Kd.C_drew ?_))); (case side2 => exact HC417_0.out); rintro e w16 ⟨rfl, hb⟩; refine ⟨_, rfl, ?_⟩; have n0_ := Aside0.mk (Kd.R_below (by (with_reducible repeat (first | apply Kd.R_alloc | apply Kd.R_drewN | apply Kd.R_drew)); exact HO_6.out) hb); have n1_ := Aside0.mk (Kd.N_below (by (with_reducible repeat (first | apply Kd.N_alloc | apply Kd.N_drewN | apply Kd.N_drew)); exact HO_7.out) hb); have n2_ := Aside0.mk (Kd.V_below (by (with_reducible repeat (first | apply Kd.V_alloc | apply Kd.V_drewN | apply Kd.V_drew)); exact HL417_0.out) hb); have n3_ := Aside0.mk (Kd.C_below (by repeat (first | (with_reducible exact HR417_0.out) | (with_reducible refine Kd.C_alloc ?_ _) | (with_reducible refine Kd.C_drewN ?_ _) | (with_reducible refine Kd.C_drew ?_) | exact HR417_0.out)) hb); have n4_ := Aside0.mk (below_step (by repeat (first | (with_reducible first | exact HB.out | apply below_alloc | apply pw_below_drewN | apply below_drew1) | exact HB.out)) hb); clear HO_6; clear HO_7; clear HL417_0; clear HR417_0; clear HB; have HO_6 := n0_; have HO_7 := n1_; have HL417_0 := n2_; have HR417_0 := n3_; have HB := n4_; clear n0_ n1_ n2_ n3_ n4_; (try clear hb); (try clear hb2); (try clear hk); (try clear hi); obtain ⟨Ao17, co17, eo17⟩ := Kd.R_slice HO_6.out; subst eo17; have p419 : 0 ≤ (t418 : Int) := of_decide_eq_true (by first | (with_reducible assumption) | assumption); have q419 : t418 < (t411.length : Int) := of_decide_eq_true (by first | (with_reducible assumption) | assumption); obtain ⟨ad419, e419, hx419_0⟩ := Kd.at_int (Kd.R_reads' HO_6.out).2.2 t418 p419 q419; cases e419; replace p419 := eq_true p419; replace q419 := eq_true q419))
         go_roundg k1
         case measure => have := HK1.out; omega
         case rel => exact ⟨(rd t411 t418), (0 + 1), (wrap64 (x10_1 + 1)), (by first | rfl | (simp; done) | (simp [*]; done)), (by first | rfl | (simp; done) | (simp [*]; done)), (by first | rfl | (simp; done) | (simp [*]; done)), H', ⟨by have := HK1.out; omega⟩, ⟨by (with_reducible repeat (first | apply Kd.R_alloc | apply Kd.R_drewN | apply Kd.R_drew)); exact HO_6.out⟩, ⟨by (with_reducible repeat (first | apply Kd.N_alloc | apply Kd.N_drewN | apply Kd.N_drew)); exact HO_7.out⟩, ⟨by repeat (first | (with_reducible first | exact HB.out | apply below_alloc | apply pw_below_drewN | apply below_drew1) | exact HB.out)⟩⟩
        ·exact absurd rfl c14
       ·rw [if_neg c13] at H
        have c13b0 : decide (x8_1 < (rd t411 t418)) = false := decide_eq_false c13
        clear c13
        by_cases c21 : (rd t411 t418) = x8_1
        ·rw [if_pos c21] at H
         have c21b0 : ((rd t411 t418) == x8_1) = true := beq_iff_eq.mpr c21
         have c21b1 : ((rd t411 t418) != x8_1) = false := bne_eq_false_iff_eq.mpr c21
         clear c21
         have H' := Aside0.mk H
         clear H
         obtain ⟨Ao22, co22, eo22⟩ := Kd.N_slice HO_7.out
         subst eo22
         have p417 : 0 ≤ (x10_1 : Int) := of_decide_eq_true (by first | (with_reducible assumption) | assumption)
         have q417 : x10_1 < (t414.length : Int) := of_decide_eq_true (by first | (with_reducible assumption) | assumption)
         obtain ⟨ad417, A417_0, c417_0, e417, hx417_0, hl417_0, hi417_0⟩ := at_L1 (Kd.N_reads' HO_7.out).2.2 x10_1 p417 q417
         cases e417
         obtain ⟨ce417, hce417, hMe417, hcc417⟩ := Kd.N_get HO_7.out [] x10_1 p417 (by first | exact q417 | exact of_decide_eq_true (by first | (with_reducible assumption) | assumption) | (have e_ := (Kd.N_reads' HO_7.out).1; omega))
         obtain ⟨ua417_0, uc417_0, rfl, ul417_0, ge417_0⟩ := Kd.FK_slice_open hMe417
         have hv417_0 := hcc417 0 _ rfl
         rw [Nat.add_zero, show ((Kd.slice 3 (Kd.int .i64))).sz = 1 from rfl, Nat.mul_one] at hv417_0
         replace hv417_0 := Option.some.inj (hv417_0.symm.trans hx417_0)
         injection hv417_0 with hva_ hvn_ hvc_
         rw [hva_] at ge417_0
         rw [hvc_] at ul417_0
         have HL417_0 := Aside0.mk (show Kd.V (Kd.int .i64) 3 _ w.heap.size _ _ (rd_L1 t414 x10_1) from Kd.V_mk ul417_0 ge417_0)
         clear hva_ hvn_ hvc_ ge417_0 ul417_0
         clear hcc417 hce417
         have HR417_0 := Aside0.mk hi417_0
         have HC417_0 := Aside0.mk hl417_0
         clear hi417_0 hl417_0
         replace p417 := eq_true p417
         replace q417 := eq_true q417
         go_wp2_with (first | ((with_reducible refine gate_callee (f := 52) rfl ?_); refine goesL_ (some 30) rfl rfl Try.func52 (by kernel_rfl) rfl #[.slice A417_0 (rd_L1 t414 x10_1).length c417_0] rfl (by (try simp only [List.map_toArray, List.map_cons, List.map_nil]); first | done | rfl | (simp only [List.length_drop, List.length_take]; rfl)) ?_; (with_reducible refine (bibelotref07_Code.calls k1 _ _ (rd_L1 t414 x10_1) t418 _ ?side1 ?side2 A10.out).mono ?_); (case side1 => repeat (first | exact (by repeat (first | (with_reducible exact HR417_0.out) | (with_reducible refine Kd.C_alloc ?_ _) | (with_reducible refine Kd.C_drewN ?_ _) | (with_reducible refine Kd.C_drew ?_) | exact HR417_0.out)) | (with_reducible refine Kd.C_alloc ?_ _) | (with_reducible refine Kd.C_drewN ?_ _) | (with_reducible refine Kd.C_drew ?_))); (case side2 => exact HC417_0.out); rintro e w23 ⟨rfl, hb⟩; refine ⟨_, rfl, ?_⟩; have n0_ := Aside0.mk (Kd.R_below (by (with_reducible repeat (first | apply Kd.R_alloc | apply Kd.R_drewN | apply Kd.R_drew)); exact HO_6.out) hb); have n1_ := Aside0.mk (Kd.N_below (by (with_reducible repeat (first | apply Kd.N_alloc | apply Kd.N_drewN | apply Kd.N_drew)); exact HO_7.out) hb); have n2_ := Aside0.mk (Kd.V_below (by (with_reducible repeat (first | apply Kd.V_alloc | apply Kd.V_drewN | apply Kd.V_drew)); exact HL417_0.out) hb); have n3_ := Aside0.mk (Kd.C_below (by repeat (first | (with_reducible exact HR417_0.out) | (with_reducible refine Kd.C_alloc ?_ _) | (with_reducible refine Kd.C_drewN ?_ _) | (with_reducible refine Kd.C_drew ?_) | exact HR417_0.out)) hb); have n4_ := Aside0.mk (below_step (by repeat (first | (with_reducible first | exact HB.out | apply below_alloc | apply pw_below_drewN | apply below_drew1) | exact HB.out)) hb); clear HO_6; clear HO_7; clear HL417_0; clear HR417_0; clear HB; have HO_6 := n0_; have HO_7 := n1_; have HL417_0 := n2_; have HR417_0 := n3_; have HB := n4_; clear n0_ n1_ n2_ n3_ n4_; (try clear hb); (try clear hb2); (try clear hk); (try clear hi); obtain ⟨Ao24, co24, eo24⟩ := Kd.R_slice HO_6.out; subst eo24; have p419 : 0 ≤ (t418 : Int) := of_decide_eq_true (by first | (with_reducible assumption) | assumption); have q419 : t418 < (t411.length : Int) := of_decide_eq_true (by first | (with_reducible assumption) | assumption); obtain ⟨ad419, e419, hx419_0⟩ := Kd.at_int (Kd.R_reads' HO_6.out).2.2 t418 p419 q419; cases e419; replace p419 := eq_true p419; replace q419 := eq_true q419))
         go_roundg k1
         case measure => have := HK1.out; omega
         case rel => exact ⟨(x8_1), (wrap64 (x9_1 + 1)), (wrap64 (x10_1 + 1)), (by first | rfl | (simp; done) | (simp [*]; done)), (by first | rfl | (simp; done) | (simp [*]; done)), (by first | rfl | (simp; done) | (simp [*]; done)), H', ⟨by have := HK1.out; omega⟩, ⟨by (with_reducible repeat (first | apply Kd.R_alloc | apply Kd.R_drewN | apply Kd.R_drew)); exact HO_6.out⟩, ⟨by (with_reducible repeat (first | apply Kd.N_alloc | apply Kd.N_drewN | apply Kd.N_drew)); exact HO_7.out⟩, ⟨by repeat (first | (with_reducible first | exact HB.out | apply below_alloc | apply pw_below_drewN | apply below_drew1) | exact HB.out)⟩⟩
        ·rw [if_neg c21] at H
         have c21b0 : ((rd t411 t418) == x8_1) = false := beq_eq_false_iff_ne.mpr c21
         have c21b1 : ((rd t411 t418) != x8_1) = true := bne_iff_ne.mpr c21
         have H' := Aside0.mk H
         clear H
         obtain ⟨Ao25, co25, eo25⟩ := Kd.N_slice HO_7.out
         subst eo25
         have p417 : 0 ≤ (x10_1 : Int) := of_decide_eq_true (by first | (with_reducible assumption) | assumption)
         have q417 : x10_1 < (t414.length : Int) := of_decide_eq_true (by first | (with_reducible assumption) | assumption)
         obtain ⟨ad417, A417_0, c417_0, e417, hx417_0, hl417_0, hi417_0⟩ := at_L1 (Kd.N_reads' HO_7.out).2.2 x10_1 p417 q417
         cases e417
         obtain ⟨ce417, hce417, hMe417, hcc417⟩ := Kd.N_get HO_7.out [] x10_1 p417 (by first | exact q417 | exact of_decide_eq_true (by first | (with_reducible assumption) | assumption) | (have e_ := (Kd.N_reads' HO_7.out).1; omega))
         obtain ⟨ua417_0, uc417_0, rfl, ul417_0, ge417_0⟩ := Kd.FK_slice_open hMe417
         have hv417_0 := hcc417 0 _ rfl
         rw [Nat.add_zero, show ((Kd.slice 3 (Kd.int .i64))).sz = 1 from rfl, Nat.mul_one] at hv417_0
         replace hv417_0 := Option.some.inj (hv417_0.symm.trans hx417_0)
         injection hv417_0 with hva_ hvn_ hvc_
         rw [hva_] at ge417_0
         rw [hvc_] at ul417_0
         have HL417_0 := Aside0.mk (show Kd.V (Kd.int .i64) 3 _ w.heap.size _ _ (rd_L1 t414 x10_1) from Kd.V_mk ul417_0 ge417_0)
         clear hva_ hvn_ hvc_ ge417_0 ul417_0
         clear hcc417 hce417
         have HR417_0 := Aside0.mk hi417_0
         have HC417_0 := Aside0.mk hl417_0
         clear hi417_0 hl417_0
         replace p417 := eq_true p417
         replace q417 := eq_true q417
         go_wp2_with (first | ((with_reducible refine gate_callee (f := 52) rfl ?_); refine goesL_ (some 30) rfl rfl Try.func52 (by kernel_rfl) rfl #[.slice A417_0 (rd_L1 t414 x10_1).length c417_0] rfl (by (try simp only [List.map_toArray, List.map_cons, List.map_nil]); first | done | rfl | (simp only [List.length_drop, List.length_take]; rfl)) ?_; (with_reducible refine (bibelotref07_Code.calls k1 _ _ (rd_L1 t414 x10_1) t418 _ ?side1 ?side2 A10.out).mono ?_); (case side1 => repeat (first | exact (by repeat (first | (with_reducible exact HR417_0.out) | (with_reducible refine Kd.C_alloc ?_ _) | (with_reducible refine Kd.C_drewN ?_ _) | (with_reducible refine Kd.C_drew ?_) | exact HR417_0.out)) | (with_reducible refine Kd.C_alloc ?_ _) | (with_reducible refine Kd.C_drewN ?_ _) | (with_reducible refine Kd.C_drew ?_))); (case side2 => exact HC417_0.out); rintro e w26 ⟨rfl, hb⟩; refine ⟨_, rfl, ?_⟩; have n0_ := Aside0.mk (Kd.R_below (by (with_reducible repeat (first | apply Kd.R_alloc | apply Kd.R_drewN | apply Kd.R_drew)); exact HO_6.out) hb); have n1_ := Aside0.mk (Kd.N_below (by (with_reducible repeat (first | apply Kd.N_alloc | apply Kd.N_drewN | apply Kd.N_drew)); exact HO_7.out) hb); have n2_ := Aside0.mk (Kd.V_below (by (with_reducible repeat (first | apply Kd.V_alloc | apply Kd.V_drewN | apply Kd.V_drew)); exact HL417_0.out) hb); have n3_ := Aside0.mk (Kd.C_below (by repeat (first | (with_reducible exact HR417_0.out) | (with_reducible refine Kd.C_alloc ?_ _) | (with_reducible refine Kd.C_drewN ?_ _) | (with_reducible refine Kd.C_drew ?_) | exact HR417_0.out)) hb); have n4_ := Aside0.mk (below_step (by repeat (first | (with_reducible first | exact HB.out | apply below_alloc | apply pw_below_drewN | apply below_drew1) | exact HB.out)) hb); clear HO_6; clear HO_7; clear HL417_0; clear HR417_0; clear HB; have HO_6 := n0_; have HO_7 := n1_; have HL417_0 := n2_; have HR417_0 := n3_; have HB := n4_; clear n0_ n1_ n2_ n3_ n4_; (try clear hb); (try clear hb2); (try clear hk); (try clear hi); obtain ⟨Ao27, co27, eo27⟩ := Kd.R_slice HO_6.out; subst eo27; have p419 : 0 ≤ (t418 : Int) := of_decide_eq_true (by first | (with_reducible assumption) | assumption); have q419 : t418 < (t411.length : Int) := of_decide_eq_true (by first | (with_reducible assumption) | assumption); obtain ⟨ad419, e419, hx419_0⟩ := Kd.at_int (Kd.R_reads' HO_6.out).2.2 t418 p419 q419; cases e419; replace p419 := eq_true p419; replace q419 := eq_true q419))
         go_roundg k1
         case measure => have := HK1.out; omega
         case rel => exact ⟨(x8_1), (x9_1), (wrap64 (x10_1 + 1)), (by first | rfl | (simp; done) | (simp [*]; done)), (by first | rfl | (simp; done) | (simp [*]; done)), (by first | rfl | (simp; done) | (simp [*]; done)), H', ⟨by have := HK1.out; omega⟩, ⟨by (with_reducible repeat (first | apply Kd.R_alloc | apply Kd.R_drewN | apply Kd.R_drew)); exact HO_6.out⟩, ⟨by (with_reducible repeat (first | apply Kd.N_alloc | apply Kd.N_drewN | apply Kd.N_drew)); exact HO_7.out⟩, ⟨by repeat (first | (with_reducible first | exact HB.out | apply below_alloc | apply pw_below_drewN | apply below_drew1) | exact HB.out)⟩⟩
      ·rw [if_neg c12] at H
       exact absurd H (by simp)
     ·rw [if_neg c11] at H
      exact absurd H (by simp)
    ·rw [if_neg c9] at H
     exact absurd H (by simp)
   ·rw [if_neg c8] at H
    have c8b0 : decide (x10_1 < (t414.length : Int)) = false := decide_eq_false c8
    clear c8
    simp only [Option.some.injEq, Prod.mk.injEq] at H
    obtain ⟨rfl, rfl⟩ := H
    obtain ⟨Ao28, co28, eo28⟩ := Kd.N_slice HO_7.out
    subst eo28
    go_wp2
    go_ret2
    exact ⟨by first | rfl | (simp [errW_none, errW_some] <;> rfl) | (simp [*, errW_none, errW_some] <;> rfl), by repeat (first | (with_reducible first | exact HB.out | apply below_alloc | apply pw_below_drewN | apply below_drew1) | exact HB.out)⟩

end Go.Proofs.Ytepjhdblmghckaa.Q
/- The document's search: what it finds out. -/
namespace Go.Proofs.Ytepjhdblmghckaa.G
set_option linter.unusedVariables false
set_option linter.unusedSimpArgs false
set_option linter.unusedSectionVars false
open Go.Proofs.Ytepjhdblmghckaa.Q Go.Proofs.Ytepjhdblmghckaa.K Go.Proofs.Ytepjhdblmghckaa.Bf
open Go.RowKit Go.Proofs.YtepjhdblmghckaaW.PrintWords Go.Proofs.YtepjhdblmghckaaW.PrintLast Go.Proofs.YtepjhdblmghckaaW.PrintMore
def szN : Nat → Nat
 | 0 => 1
 | k + 1 => 2 * szN k * (k + 1)
theorem szN_eq : ∀ k, szN k = fct k * 2 ^ k
 | 0 => rfl
 | k + 1 => by
  rw [szN, szN_eq k, fct, Nat.pow_succ]
  have e1 : 2 * (fct k * 2 ^ k) * (k + 1) = (k + 1) * (2 * (fct k * 2 ^ k)) := Nat.mul_comm _ _
  have e2 : 2 * (fct k * 2 ^ k) = fct k * (2 ^ k * 2) := by rw [Nat.mul_comm 2, Nat.mul_assoc]
  rw [e1, e2, Nat.mul_assoc]
theorem szN_le {k : Nat} (h : k ≤ 7) : szN k ≤ 645120 := by
 have h1 := fct7 h
 have h2 : 2 ^ k ≤ 2 ^ 7 := Nat.pow_le_pow_right (by decide) h
 have h3 := Nat.mul_le_mul h1 h2
 rw [szN_eq]
 omega
theorem code_lt_sz {sg : Bool} {n : Nat} {l : List Int} (h : Stk sg n l) : codeN l < szN n := by
 have := codeN_lt l
 rw [h.len, ← szN_eq] at this
 exact this
theorem nth_set (l : List Int) (c : Nat) (v : Int) (hc : c < l.length) (p : Nat) : nth (l.set c v) p = if p = c then v else nth l p := by
 unfold nth
 rw [List.getD_eq_getElem?_getD, List.getD_eq_getElem?_getD, List.getElem?_set]
 by_cases h : p = c
 ·subst h; rw [if_pos rfl, if_pos hc, if_pos rfl]; rfl
 ·rw [if_neg (fun e => h e.symm), if_neg h]
structure AllOk (n : Nat) (sg : Bool) (dl : List Int) (M : Km) : Prop where
 len : dl.length = szN n
 tab : ∀ t, Stk sg n t → nth dl (codeN t) = match M t with | some e => ((e.2 : Nat) : Int) | none => -1
 stk : ∀ x, (M x).isSome = true → Stk sg n x
theorem AllOk.put {n : Nat} {sg : Bool} {dl : List Int} {M : Km} (h : AllOk n sg dl M) {t : List Int} (ht : Stk sg n t) (b : Nat × Nat) (d : Nat) : AllOk n sg (dl.set (codeN t) (d : Int)) (M.put t (b, d)) := by
 have hc := code_lt_sz ht
 refine ⟨by rw [List.length_set]; exact h.len, fun u hu => ?_, fun x hx => ?_⟩
 ·rw [nth_set _ _ _ (by rw [h.len]; exact hc)]
  by_cases e : u = t
  ·subst e; rw [if_pos rfl, Km.put_same]
  ·rw [if_neg (fun h' => e (code_inj hu ht h')), Km.put_other _ _ e]; exact h.tab u hu
 ·by_cases e : x = t
  ·rw [e]; exact ht
  ·rw [Km.put_other _ _ e] at hx; exact h.stk x hx
theorem mvL_false (n : Nat) (hn : 1 ≤ n) (sg : Bool) : mvL n sg false = mvTo sg 0 n := by
 have key : ∀ i, mvIn n sg false (i + 1) = mvTo sg 0 n := by
  intro i
  induction i with
  | zero => rw [mvIn_succ]; unfold mvIn mvAt; simp
  | succ i ih => rw [mvIn_succ, ih]; unfold mvAt; simp
 unfold mvL
 have := key (n - 1)
 rwa [show n - 1 + 1 = n by omega] at this
def stJ (sg : Bool) (s : List Int) (st : Sst) (j : Nat) : Sst := (mvTo sg 0 j).foldl (stp sg s) st
theorem stJ_zero (sg : Bool) (s : List Int) (st : Sst) : stJ sg s st 0 = st := rfl
theorem stJ_succ (sg : Bool) (s : List Int) (st : Sst) (j : Nat) : stJ sg s st (j + 1) = if sg = true ∨ j ≠ 0 then stp sg s (stJ sg s st j) (0, j) else stJ sg s st j := by
 unfold stJ
 rw [mvTo_succ]
 by_cases h : sg = true ∨ j ≠ 0
 ·rw [if_pos ⟨Nat.zero_le _, h⟩, if_pos h, List.foldl_append]; rfl
 ·rw [if_neg (fun h' => h h'.2), if_neg h]
/-- What holds while the flips of s are looked at. -/
structure InL (n : Nat) (sg : Bool) (s0 s : List Int) (c : Nat) (P0 : List (List Int)) (b0 : Nat × Nat) (e : Nat) (j : Nat) (st : Sst) : Prop where
 pm : Pm n sg false s0 s (mvTo sg 0 j) c st
 rev : st.2.2.reverse = P0 ++ [s] ++ st.2.1
 at_ : st.1 s = some (b0, e)
theorem InL.next {n : Nat} {sg : Bool} {s0 s : List Int} {c : Nat} {P0 : List (List Int)} {b0 : Nat × Nat} {e j : Nat} {st0 : Sst} (h : InL n sg s0 s c P0 b0 e j (stJ sg s st0 j)) (hj : j < n) : InL n sg s0 s c P0 b0 e (j + 1) (stJ sg s st0 (j + 1)) := by
 rw [stJ_succ]
 by_cases hc : sg = true ∨ j ≠ 0
 ·rw [if_pos hc]
  obtain ⟨st, hst⟩ : ∃ st, stJ sg s st0 j = st := ⟨_, rfl⟩
  rw [hst] at h ⊢
  have hp := h.pm.step (x := (0, j)) (mv_mem (Nat.zero_le _) hj hc (.inr rfl))
  refine ⟨?_, ?_, ?_⟩
  ·rw [mvTo_succ, if_pos ⟨Nat.zero_le _, hc⟩]; exact hp
  ·unfold stp
   split
   ·exact h.rev
   ·show (flL sg s 0 j :: st.2.2).reverse = P0 ++ [s] ++ (st.2.1 ++ [flL sg s 0 j])
    rw [List.reverse_cons, h.rev, List.append_assoc]
  ·unfold stp
   split
   ·exact h.at_
   ·rename_i hn
    show (st.1.put (flL sg s 0 j) _) s = _
    rw [Km.put_other]
    ·exact h.at_
    ·intro e'
     have := h.at_
     rw [e'] at this
     rw [show flL sg s (0, j).1 (0, j).2 = flL sg s 0 j from rfl, this] at hn
     exact hn rfl
 ·rw [if_neg hc]
  refine ⟨?_, h.rev, h.at_⟩
  rw [mvTo_succ, if_neg (fun h' => hc h'.2)]
  exact h.pm
theorem InL.count {n : Nat} (hn : n ≤ 7) {sg : Bool} {s0 s : List Int} {c : Nat} {P0 : List (List Int)} {b0 : Nat × Nat} {e j : Nat} {st : Sst} (h : InL n sg s0 s c P0 b0 e j st) : st.2.2.length ≤ 170859375 ∧ e ≤ 170859375 := by
 have h1 := vs_count (n := n) h.pm.rm.nodup (fun x hx => h.pm.rm.v x (h.pm.rm.seen x hx))
 have h2 := p15 hn
 have h3 := h.pm.rm.deep s e (by unfold Sof; rw [h.at_]; rfl)
 omega
theorem getD_mid (P : List (List Int)) (s : List Int) (q : List (List Int)) : rd_L1 (P ++ [s] ++ q) ((P.length : Nat) : Int) = s := by
 unfold rd_L1
 rw [List.append_assoc, List.getD_eq_getElem?_getD, Int.toNat_natCast, List.getElem?_append_right (Nat.le_refl _), Nat.sub_self]
 rfl
theorem up1 (e : Nat) (h : e ≤ 1000000000) : wrap64 ((e : Int) + 1) = ((e + 1 : Nat) : Int) := by rw [w64 (by omega) (by omega)]; rfl
theorem l3_step {sg : Bool} {s0 s t : List Int} (dl : List Int) (l : List (List Int)) (i e j : Nat) (hj : j < s0.length) (hn : s0.length ≤ 7) (hi : i < l.length) (hrd : rd_L1 l (i : Int) = s) (hfl : Ev (fun k => bibelotref07_Flip.f k s ((j + 1 : Nat) : Int) sg) t) (cd : Nat) (hcd : Ev (fun k => bibelotref07_Code.f k t) (cd : Int)) (hlt : cd < dl.length) {R : List Int × List (List Int)}
  (hR : Ev (fun k => if rd dl (cd : Int) < 0 then (if l.length < 5864062014805 then (bibelotref07_All.l3 k s0 sg (dl.set cd (wrap64 ((e : Int) + 1))) (l ++ [t]) (i : Int) (e : Int) ((j + 1 + 1 : Nat) : Int)) else (none)) else (bibelotref07_All.l3 k s0 sg dl l (i : Int) (e : Int) ((j + 1 + 1 : Nat) : Int))) R) : Ev (fun k => bibelotref07_All.l3 k s0 sg dl l (i : Int) (e : Int) ((j + 1 : Nat) : Int)) R := by
 have hw1 : wrap64 (((j + 1 : Nat) : Int) + 1) = ((j + 1 + 1 : Nat) : Int) := by rw [w64 (by omega) (by omega)]; rfl
 refine Ev.step (f := fun k => (bibelotref07_Flip.f k s ((j + 1 : Nat) : Int) sg).bind fun t399 => ((bibelotref07_Code.f k t399).bind fun t402 => (if 0 ≤ t402 then (if t402 < (dl.length : Int) then (if (rd dl t402) < 0 then (if l.length < 5864062014805 then (bibelotref07_All.l3 k s0 sg (dl.set (t402 : Int).toNat (wrap64 ((e : Int) + 1))) (l ++ [t399]) (i : Int) (e : Int) ((j + 1 + 1 : Nat) : Int)) else (none)) else (bibelotref07_All.l3 k s0 sg dl l (i : Int) (e : Int) ((j + 1 + 1 : Nat) : Int))) else (none)) else (none)))) (fun k => ?_) (Ev.bind hfl (Ev.bind hcd (Ev.congr (fun k => ?_) hR)))
 ·rw [bibelotref07_All.l3, if_pos (by omega), if_pos (by omega), if_pos (by omega), hrd, hw1]
 ·rw [if_pos (show (0 : Int) ≤ (cd : Int) from Int.natCast_nonneg _), if_pos (Int.ofNat_lt.2 hlt), Int.toNat_natCast]
theorem all_l3 {n : Nat} (hn : n ≤ 7) {sg : Bool} {s0 s : List Int} (h0 : s0.length = n) (hs : Stk sg n s) {c : Nat} {P0 : List (List Int)} {b0 : Nat × Nat} {e : Nat} {Good : (List Int × List (List Int)) → Prop} (st0 : Sst) (hP : P0.length ≤ 170859375)
  (hgo : ∀ dl, AllOk n sg dl (stJ sg s st0 n).1 → InL n sg s0 s c P0 b0 e n (stJ sg s st0 n) → ∃ R, Ev (fun k => bibelotref07_All.l2 k s0 sg dl (stJ sg s st0 n).2.2.reverse ((P0.length + 1 : Nat) : Int)) R ∧ Good R) :
  ∀ (d j : Nat) (dl : List Int), j + d = n → InL n sg s0 s c P0 b0 e j (stJ sg s st0 j) → AllOk n sg dl (stJ sg s st0 j).1 → ∃ R, Ev (fun k => bibelotref07_All.l3 k s0 sg dl (stJ sg s st0 j).2.2.reverse ((P0.length : Nat) : Int) (e : Int) ((j + 1 : Nat) : Int)) R ∧ Good R
 | 0, j, dl, hj, hI, hA => by
  obtain rfl : j = n := hj
  obtain ⟨R, h1, h2⟩ := hgo dl hA hI
  refine ⟨R, Ev.step (fun k => ?_) h1, h2⟩
  rw [bibelotref07_All.l3, if_neg (by omega), w64 (by omega) (by omega)]
  rfl
 | d + 1, j, dl, hj, hI, hA => by
  have hjn : j < n := by omega
  have hnx := hI.next hjn
  have hcn := hI.count hn
  have hsl := hs.len
  have hfl := rflip_ev (l := s) (by omega) (hs.small (by omega)) sg (j + 1) (by omega) (by omega)
  rw [Nat.add_sub_cancel] at hfl
  have hrd : rd_L1 (stJ sg s st0 j).2.2.reverse ((P0.length : Nat) : Int) = s := by rw [hI.rev]; exact getD_mid _ _ _
  have hlen : P0.length < (stJ sg s st0 j).2.2.reverse.length := by rw [hI.rev]; simp
  obtain ⟨t, ht⟩ : ∃ t, flL sg s 0 j = t := ⟨_, rfl⟩
  have hts : Stk sg n t := by rw [← ht]; exact stk_flL hs (fun h => h) 0 j (Nat.zero_le _) (by omega)
  rw [ht] at hfl
  have hcd := code_ev hts hn
  have hclt := code_lt_sz hts
  have hdl := hA.len
  have hsj := stJ_succ sg s st0 j
  have htab := hA.tab t hts
  have step := fun R => l3_step (R := R) (sg := sg) (s0 := s0) (s := s) (t := t) dl (stJ sg s st0 j).2.2.reverse P0.length e j (by rw [h0]; exact hjn) (by rw [h0]; exact hn) hlen hrd hfl _ hcd (by rw [hdl]; exact hclt)
  by_cases hm : ((stJ sg s st0 j).1 t).isSome = true
  ·have hge : ¬ rd dl ((codeN t : Nat) : Int) < 0 := by
    rw [rd_nth, htab]
    obtain ⟨x, hx⟩ := Option.isSome_iff_exists.1 hm
    rw [hx]
    simp
   have hsame : stJ sg s st0 (j + 1) = stJ sg s st0 j := by
    rw [hsj]
    split
    ·unfold stp
     rw [if_pos (by rw [show flL sg s (0, j).1 (0, j).2 = t from ht]; exact hm)]
    ·rfl
   rw [hsame] at hnx
   obtain ⟨R, h1, h2⟩ := all_l3 hn h0 hs st0 hP hgo d (j + 1) dl (by omega) (by rw [hsame]; exact hnx) (by rw [hsame]; exact hA)
   refine ⟨R, step R (Ev.congr (fun k => ?_) h1), h2⟩
   rw [if_neg hge, hsame]
  ·have hmn : (stJ sg s st0 j).1 t = none := by
    cases hq : (stJ sg s st0 j).1 t with
    | none => rfl
    | some x => rw [hq] at hm; exact absurd rfl hm
   rw [hmn] at htab
   have hlt : rd dl ((codeN t : Nat) : Int) < 0 := by rw [rd_nth, htab]; exact (by decide : (-1 : Int) < 0)
   have hcc : sg = true ∨ j ≠ 0 := by
    by_cases hc : sg = true ∨ j ≠ 0
    ·exact hc
    ·exfalso
     have hj0 : j = 0 := by
      rcases Nat.eq_zero_or_pos j with h' | h'
      ·exact h'
      ·exact absurd (.inr (by omega)) hc
     have hsf : sg = false := by cases sg with
      | false => rfl
      | true => exact absurd (.inl rfl) hc
     subst hj0; subst hsf
     rw [flL_one] at ht
     subst ht
     rw [hI.at_] at hmn
     cases hmn
   rw [if_pos hcc] at hsj
   have hsn : stJ sg s st0 (j + 1) = ((stJ sg s st0 j).1.put t ((0, j), e + 1), (stJ sg s st0 j).2.1 ++ [t], t :: (stJ sg s st0 j).2.2) := by
    rw [hsj]
    unfold stp
    rw [show flL sg s (0, j).1 (0, j).2 = t from ht, if_neg hm, hI.at_]
    rfl
   obtain ⟨R, h1, h2⟩ := all_l3 hn h0 hs st0 hP hgo d (j + 1) (dl.set (codeN t) ((e + 1 : Nat) : Int)) (by omega) hnx (by rw [hsn]; exact hA.put hts _ _)
   refine ⟨R, step R (Ev.congr (fun k => ?_) h1), h2⟩
   have hw2 : wrap64 ((e : Int) + 1) = ((e + 1 : Nat) : Int) := up1 e (Nat.le_trans hcn.2 (by decide))
   rw [if_pos hlt, if_pos (show (stJ sg s st0 j).2.2.reverse.length < 5864062014805 from by rw [List.length_reverse]; exact Nat.lt_of_le_of_lt hcn.1 (by decide)), hw2, hsn, List.reverse_cons]
theorem stops_nil {st : Sst} (h : stops none st = true) : st.2.1 = [] := by
 unfold stops at h
 split at h
 ·assumption
 ·cases h
theorem all_end {n : Nat} {sg : Bool} {s0 : List Int} {st : Sst} {P : List (List Int)} {dl : List Int} (hA : AllOk n sg dl st.1) (hr : st.2.2.reverse = P ++ st.2.1) (hq : st.2.1 = []) :
  ∃ R, Ev (fun k => bibelotref07_All.l2 k s0 sg dl st.2.2.reverse ((P.length : Nat) : Int)) R ∧ AllOk n sg R.1 st.1 ∧ R.2 = st.2.2.reverse := by
 refine ⟨(dl, st.2.2.reverse), Ev.step (f := fun _ => some (dl, st.2.2.reverse)) (fun k => ?_) (Ev.now _), hA, rfl⟩
 rw [hq, List.append_nil] at hr
 rw [bibelotref07_All.l2, if_neg (by rw [hr]; omega)]
theorem all_l2 {n : Nat} (hn1 : 1 ≤ n) (hn : n ≤ 7) {sg : Bool} {s0 : List Int} (h0 : s0.length = n) : ∀ (F : Nat) (st : Sst) (P : List (List Int)) (dl : List Int), Pl n sg false s0 st → AllOk n sg dl st.1 → st.2.2.reverse = P ++ st.2.1 → stops none (bfs n sg false none F st) = true →
  ∃ R, Ev (fun k => bibelotref07_All.l2 k s0 sg dl st.2.2.reverse ((P.length : Nat) : Int)) R ∧ AllOk n sg R.1 (bfs n sg false none F st).1 ∧ R.2 = (bfs n sg false none F st).2.2.reverse
 | 0, st, P, dl, hP, hA, hr, hst => all_end hA hr (stops_nil hst)
 | F + 1, st, P, dl, hP, hA, hr, hst => by
  obtain ⟨M, q, L⟩ := st
  cases q with
  | nil =>
   have hsp : stops none ((M, [], L) : Sst) = true := rfl
   rw [bfs_stop hsp]
   exact all_end hA hr rfl
  | cons s q =>
   have hb : bfs n sg false none (F + 1) (M, s :: q, L) = bfs n sg false none F (rnd n sg false (M, s :: q, L)) := by rw [bfs, if_neg (by simp [stops])]
   rw [hb] at hst ⊢
   have hR := hP.rnd.1
   have hrn : rnd n sg false (M, s :: q, L) = stJ sg s (M, q, L) n := by
    show (mvL n sg false).foldl (stp sg s) (M, q, L) = _
    rw [mvL_false n hn1]; rfl
   have hsl : s ∈ L := by
    have : s ∈ L.reverse := by
     have hr' : L.reverse = P ++ s :: q := hr
     rw [hr']; simp
    simpa using this
   obtain ⟨⟨b0, e⟩, hMs⟩ := Option.isSome_iff_exists.1 (show (M s).isSome = true by
    have : (Sof M s).isSome = true := hP.rd.seen s hsl
    unfold Sof at this
    rwa [Option.isSome_map] at this)
   have hss : Stk sg n s := hA.stk s (show (M s).isSome = true by rw [hMs]; rfl)
   have hcnt : L.length ≤ 170859375 := by
    have h1 := vs_count (n := n) hP.rd.nodup (fun x hx => hP.rd.v x (hP.rd.seen x hx))
    have h2 := p15 hn
    simp only at h1
    omega
   have hr' : L.reverse = P ++ [s] ++ q := by
    have : L.reverse = P ++ s :: q := hr
    rw [this, List.append_assoc]; rfl
   have hPl : P.length < L.reverse.length := by rw [hr']; simp
   have hPn : P.length ≤ 170859375 := by rw [List.length_reverse] at hPl; omega
   have hql : q.length + 1 ≤ L.length := by
    have := congrArg List.length hr'
    simp at this
    omega
   have hI : InL n sg s0 s (L.length - q.length) P b0 e 0 (stJ sg s (M, q, L) 0) := by
    refine ⟨⟨?_, hP.by_, hP.full, ?_⟩, hr', hMs⟩
    ·have := hP.rd.pop
     exact this
    ·show L.length - q.length + q.length = L.length
     omega
   obtain ⟨R, h1, h2⟩ := all_l3 (Good := fun R => AllOk n sg R.1 (bfs n sg false none F (rnd n sg false (M, s :: q, L))).1 ∧ R.2 = (bfs n sg false none F (rnd n sg false (M, s :: q, L))).2.2.reverse) hn h0 hss (M, q, L) hPn (fun dl2 hA2 hI2 => by
    have := all_l2 hn1 hn h0 F (rnd n sg false (M, s :: q, L)) (P ++ [s]) dl2 hR (by rw [hrn]; exact hA2) (by rw [hrn]; exact hI2.rev) hst
    rw [← hrn]
    rw [List.length_append] at this
    exact this) n 0 dl (by omega) hI hA
   refine ⟨R, ?_, h2⟩
   have hcd := code_ev hss hn
   have hclt := code_lt_sz hss
   have hdl := hA.len
   have htab : nth dl (codeN s) = ((e : Nat) : Int) := by
    have h := hA.tab s hss
    rw [show ((M, s :: q, L) : Sst).1 s = some (b0, e) from hMs] at h
    exact h
   have hrd : rd_L1 L.reverse ((P.length : Nat) : Int) = s := by rw [hr']; exact getD_mid _ _ _
   refine Ev.step (f := fun k => (bibelotref07_Code.f k s).bind fun t396 => (if 0 ≤ t396 then (if t396 < (dl.length : Int) then (bibelotref07_All.l3 k s0 sg dl L.reverse ((P.length : Nat) : Int) (rd dl t396) 1) else (none)) else (none))) (fun k => ?_) (Ev.bind hcd (Ev.congr (fun k => ?_) h1))
   ·show bibelotref07_All.l2 (k + 1) s0 sg dl L.reverse ((P.length : Nat) : Int) = _
    rw [bibelotref07_All.l2, if_pos (by omega), if_pos (by omega), hrd]
   ·rw [if_pos (by omega), if_pos (by omega), rd_nth, htab]
    rfl
theorem rep_set (d : Nat) (j : Nat) : (List.replicate j (-1 : Int) ++ List.replicate (d + 1) 0).set j (-1) = List.replicate (j + 1) (-1) ++ List.replicate d 0 := by
 rw [List.set_append_right _ _ (by simp), List.length_replicate, Nat.sub_self, List.replicate_succ, List.set_cons_zero, List.replicate_succ', List.append_assoc]
 rfl
theorem all_l1 {n : Nat} {sg : Bool} {s0 : List Int} (hs : Stk sg n s0) (hn : n ≤ 7) {R : List Int × List (List Int)} (hgo : Ev (fun k => bibelotref07_All.l2 k s0 sg ((List.replicate (szN n) (-1)).set (codeN s0) 0) [s0] 0) R) : ∀ d j : Nat, j + d = szN n → Ev (fun k => bibelotref07_All.l1 k s0 sg ((szN n : Nat) : Int) (List.replicate j (-1) ++ List.replicate d 0) (j : Int)) R
 | 0, j, h => by
  obtain rfl : j = szN n := h
  have hcd := code_ev hs hn
  have hclt := code_lt_sz hs
  refine Ev.step (f := fun k => (bibelotref07_Code.f k s0).bind fun t390 => (if 0 ≤ t390 then (if t390 < (((List.replicate (szN n) (-1 : Int) ++ List.replicate 0 0).length : Nat) : Int) then (bibelotref07_All.l2 k s0 sg ((List.replicate (szN n) (-1 : Int) ++ List.replicate 0 0).set (t390 : Int).toNat 0) (([s0] : List (List Int))) 0) else (none)) else (none))) (fun k => ?_) (Ev.bind hcd (Ev.congr (fun k => ?_) hgo))
  ·rw [bibelotref07_All.l1, if_neg (by omega)]
  ·rw [if_pos (by omega), if_pos (by simp; omega), Int.toNat_natCast, List.replicate_zero, List.append_nil]
 | d + 1, j, h => by
  have ih := all_l1 hs hn hgo d (j + 1) (by omega)
  have hz := szN_le hn
  refine Ev.step (fun k => ?_) ih
  rw [bibelotref07_All.l1, if_pos (by omega), if_pos (by omega), if_pos (by simp; omega), w64 (by omega) (by omega), Int.toNat_natCast, rep_set]
  rfl
theorem szN_mono {i n : Nat} (h : i ≤ n) : szN i ≤ szN n := by
 rw [szN_eq, szN_eq]
 have h1 := fct_le (k := i) (n - i)
 rw [show i + (n - i) = n by omega] at h1
 exact Nat.mul_le_mul h1 (Nat.pow_le_pow_right (by decide) h)
theorem all_l0 {n : Nat} {sg : Bool} {s0 : List Int} (hs : Stk sg n s0) (hn : n ≤ 7) {R : List Int × List (List Int)} (hgo : Ev (fun k => bibelotref07_All.l1 k s0 sg ((szN n : Nat) : Int) (List.replicate (szN n) 0) 0) R) : ∀ d i : Nat, i + d = n → Ev (fun k => bibelotref07_All.l0 k s0 sg ((szN i : Nat) : Int) ((i + 1 : Nat) : Int)) R
 | 0, i, h => by
  obtain rfl : i = n := h
  have hl := hs.len
  have hz := szN_le hn
  refine Ev.step (fun k => ?_) hgo
  rw [bibelotref07_All.l0, if_neg (by omega), if_pos (by omega), Int.toNat_natCast, if_pos (by omega)]
 | d + 1, i, h => by
  have ih := all_l0 hs hn hgo d (i + 1) (by omega)
  have hl := hs.len
  have hz := szN_le (k := i + 1) (by omega)
  have hz2 := szN_le (k := i) (by omega)
  refine Ev.step (fun k => ?_) ih
  have e1 : 2 * ((szN i : Nat) : Int) = ((2 * szN i : Nat) : Int) := by omega
  have e2 : ((2 * szN i : Nat) : Int) * ((i + 1 : Nat) : Int) = ((szN (i + 1) : Nat) : Int) := (Int.natCast_mul _ _).symm
  rw [bibelotref07_All.l0, if_pos (by omega), w64 (x := 2 * ((szN i : Nat) : Int)) (by omega) (by omega), e1, e2, w64 (by omega) (by omega), w64 (by omega) (by omega)]
  rfl
/-- What the document's search finds out: the distances are those of the plain search. -/
theorem all_ev {n : Nat} {sg : Bool} {s0 : List Int} (hs : Stk sg n s0) (hn1 : 1 ≤ n) (hn : n ≤ 7) : ∃ R : List Int × List (List Int), Ev (fun k => bibelotref07_All.f k s0 sg) R ∧ AllOk n sg R.1 (bfs n sg false none (15 ^ n) (ini s0)).1 ∧ R.2 = (bfs n sg false none (15 ^ n) (ini s0)).2.2.reverse := by
 have hpl := Pl.begin sg false (hs.vs hn)
 have hst := bfs_stops (U := none) (15 ^ n) _ hpl (Nat.le_add_left _ _)
 have hA : AllOk n sg ((List.replicate (szN n) (-1)).set (codeN s0) 0) (ini s0).1 := by
  have h0 : AllOk n sg (List.replicate (szN n) (-1)) (fun _ => none) := by
   refine ⟨by simp, fun t ht => ?_, fun x hx => (by cases hx)⟩
   have := code_lt_sz ht
   show nth _ _ = -1
   unfold nth
   rw [List.getD_eq_getElem?_getD, List.getElem?_replicate, if_pos this]; rfl
  exact h0.put hs (0, 0) 0
 obtain ⟨R, h1, h2⟩ := all_l2 hn1 hn hs.len (15 ^ n) (ini s0) [] _ hpl hA rfl hst
 refine ⟨R, ?_, h2⟩
 have h3 := all_l1 hs hn h1 (szN n) 0 (by omega)
 exact all_l0 hs hn h3 n 0 (by omega)
end Go.Proofs.Ytepjhdblmghckaa.G
/- The document's Flips and Worst; what the search knows; the moves that order a stack. -/
namespace Go.Proofs.Ytepjhdblmghckaa.G
set_option linter.unusedVariables false
set_option linter.unusedSimpArgs false
set_option linter.unusedSectionVars false
open Go.Proofs.Ytepjhdblmghckaa.Q Go.Proofs.Ytepjhdblmghckaa.K Go.Proofs.Ytepjhdblmghckaa.Bf
open Go.RowKit Go.Proofs.YtepjhdblmghckaaW.PrintWords Go.Proofs.YtepjhdblmghckaaW.PrintLast Go.Proofs.YtepjhdblmghckaaW.PrintMore
theorem firstL_succ (i : Nat) : firstL (i + 1) = firstL i ++ [((i + 1 : Nat) : Int)] := by
 unfold firstL; rw [List.range_succ, List.map_append]; rfl
theorem firstL_len (i : Nat) : (firstL i).length = i := by simp [firstL]
theorem rfirst_l0 (n : Nat) (hn : n ≤ 1000) : ∀ d i : Nat, i + d = n → Ev (fun k => bibelotref07_First.l0 k (n : Int) (firstL i) ((i + 1 : Nat) : Int)) (firstL n)
 | 0, i, h => by
  obtain rfl : i = n := h
  refine Ev.step (f := fun _ => some (firstL i)) (fun k => ?_) (Ev.now _)
  rw [bibelotref07_First.l0, if_neg (by omega)]
 | d + 1, i, h => by
  have ih := rfirst_l0 n hn d (i + 1) (by omega)
  refine Ev.step (fun k => ?_) ih
  rw [bibelotref07_First.l0, if_pos (by omega), if_pos (by rw [firstL_len]; omega), w64 (by omega) (by omega), firstL_succ]
  rfl
theorem rfirst_ev (n : Nat) (hn : n ≤ 1000) : Ev (fun k => bibelotref07_First.f k (n : Int)) (firstL n) := rfirst_l0 n hn n 0 (by omega)
theorem bfs_known {n : Nat} (hn : n ≤ 7) {sg : Bool} {s t : List Int} (hs : Stk sg n s) (ht : Stk sg n t) (U : Option (List Int)) (hU : U = none ∨ U = some t) : ∃ b, (bfs n sg false U (15 ^ n) (ini s)).1 t = some (b, gap n sg s t) := by
 have hF := bfs_fin sg false (hs.vs hn) U
 have hsm : ((bfs n sg false U (15 ^ n) (ini s)).1 t).isSome = true := by
  cases hm : (bfs n sg false U (15 ^ n) (ini s)).1 t with
  | some e => rfl
  | none =>
   rcases hF.done with h | ⟨u, hu, hq⟩
   ·obtain ⟨k, hk⟩ := rch_all hs ht
    exact absurd hk (h t hm k)
   ·rcases hU with h | h
    ·rw [h] at hu; cases hu
    ·rw [h] at hu; cases hu; rw [hm] at hq; cases hq
 obtain ⟨⟨b, e⟩, he⟩ := Option.isSome_iff_exists.1 hsm
 have h2 := hF.found t e (by unfold Sof; rw [he]; rfl)
 refine ⟨b, ?_⟩
 rw [he]
 unfold gap
 rw [h2]
theorem rflips_ev {n : Nat} (hn1 : 1 ≤ n) (hn : n ≤ 7) {sg : Bool} {s t : List Int} (hs : Stk sg n s) (ht : Stk sg n t) : Ev (fun k => bibelotref07_Flips.f k s t sg) ((gap n sg s t : Nat) : Int) := by
 obtain ⟨R, h1, hA, hl⟩ := all_ev hs hn1 hn
 obtain ⟨b, hb⟩ := bfs_known hn hs ht none (.inl rfl)
 have htab := hA.tab t ht
 rw [hb] at htab
 have hclt := code_lt_sz ht
 have hlen := hA.len
 refine Ev.bind h1 (Ev.bind (code_ev ht hn) (Ev.congr (fun k => ?_) (Ev.now _)))
 rw [if_pos (Int.natCast_nonneg _), if_pos (by rw [hlen]; exact Int.ofNat_lt.2 hclt), rd_nth, htab]
theorem nodup_rev {l : List (List Int)} (h : l.Nodup) : l.reverse.Nodup := List.pairwise_reverse.2 (List.Pairwise.imp (fun h e => h e.symm) h)
theorem take_rd (l : List (List Int)) (i : Nat) (h : i < l.length) : l.take (i + 1) = l.take i ++ [rd_L1 l (i : Int)] := by
 rw [List.take_add_one, List.getElem?_eq_getElem h]
 unfold rd_L1
 rw [Int.toNat_natCast, List.getD_eq_getElem?_getD, List.getElem?_eq_getElem h]
 rfl
theorem rd_L1_mem (l : List (List Int)) (i : Nat) (h : i < l.length) : rd_L1 l (i : Int) ∈ l := by
 unfold rd_L1
 rw [Int.toNat_natCast, List.getD_eq_getElem?_getD, List.getElem?_eq_getElem h]
 exact List.getElem_mem h
theorem worst_step {dl : List Int} {l : List (List Int)} {i a b c m : Nat} {x : List Int} {R : Int × Int} (hcd : Ev (fun k => bibelotref07_Code.f k x) (c : Int)) (hcl : c < dl.length) (hnx : nth dl c = ((m : Nat) : Int)) (hi : i < l.length) (hil : i ≤ 1000000000) (hb : b ≤ 1000000000) (hx : rd_L1 l (i : Int) = x)
  (h1 : a < m → Ev (fun k => bibelotref07_Worst.l0 k dl l (m : Int) ((1 : Nat) : Int) ((i + 1 : Nat) : Int)) R) (h2 : m = a → Ev (fun k => bibelotref07_Worst.l0 k dl l (a : Int) ((b + 1 : Nat) : Int) ((i + 1 : Nat) : Int)) R) (h3 : m < a → Ev (fun k => bibelotref07_Worst.l0 k dl l (a : Int) (b : Int) ((i + 1 : Nat) : Int)) R) :
  Ev (fun k => bibelotref07_Worst.l0 k dl l (a : Int) (b : Int) (i : Int)) R := by
 have hgo : Ev (fun k => if (rd dl (c : Int)) > (a : Int) then (if (rd dl (c : Int)) = (rd dl (c : Int)) then (bibelotref07_Worst.l0 k dl l (rd dl (c : Int)) (0 + 1) (wrap64 ((i : Int) + 1))) else (bibelotref07_Worst.l0 k dl l (rd dl (c : Int)) 0 (wrap64 ((i : Int) + 1)))) else (if (rd dl (c : Int)) = (a : Int) then (bibelotref07_Worst.l0 k dl l (a : Int) (wrap64 ((b : Int) + 1)) (wrap64 ((i : Int) + 1))) else (bibelotref07_Worst.l0 k dl l (a : Int) (b : Int) (wrap64 ((i : Int) + 1))))) R := by
  rw [rd_nth, hnx, up1 i hil]
  rcases Nat.lt_trichotomy a m with hlt | he | hlt
  ·refine Ev.congr (fun k => ?_) (h1 hlt)
   rw [if_pos (Int.ofNat_lt.2 hlt), if_pos rfl]; rfl
  ·refine Ev.congr (fun k => ?_) (h2 he.symm)
   rw [if_neg (by omega), if_pos (by omega), up1 b hb]
  ·refine Ev.congr (fun k => ?_) (h3 hlt)
   rw [if_neg (by omega), if_neg (by omega)]
 refine Ev.step (f := fun k => (bibelotref07_Code.f k x).bind fun t418 => (if 0 ≤ t418 then (if t418 < (dl.length : Int) then (if (rd dl t418) > (a : Int) then (if (rd dl t418) = (rd dl t418) then (bibelotref07_Worst.l0 k dl l (rd dl t418) (0 + 1) (wrap64 ((i : Int) + 1))) else (bibelotref07_Worst.l0 k dl l (rd dl t418) 0 (wrap64 ((i : Int) + 1)))) else (if (rd dl t418) = (a : Int) then (bibelotref07_Worst.l0 k dl l (a : Int) (wrap64 ((b : Int) + 1)) (wrap64 ((i : Int) + 1))) else (bibelotref07_Worst.l0 k dl l (a : Int) (b : Int) (wrap64 ((i : Int) + 1))))) else (none)) else (none))) (fun k => ?_) (Ev.bind hcd (Ev.congr (fun k => ?_) hgo))
 ·rw [bibelotref07_Worst.l0, if_pos (by omega), if_pos (by omega), hx]
 ·rw [if_pos (Int.natCast_nonneg _), if_pos (Int.ofNat_lt.2 hcl)]
theorem rworst_l0 {n : Nat} (hn : n ≤ 7) {sg : Bool} {dl : List Int} {l : List (List Int)} {g : List Int → Nat} {A B : Nat} (hl : l.length ≤ 170859375) (hst : ∀ x, x ∈ l → Stk sg n x ∧ codeN x < dl.length ∧ nth dl (codeN x) = ((g x : Nat) : Int)) (hg : ∀ x, x ∈ l → g x ≤ 170859375)
  (hfin : ∀ a b, Mo g l a b → (a, b) = (A, B)) : ∀ d i a b : Nat, i + d = l.length → Mo g (l.take i) a b → b ≤ i → Ev (fun k => bibelotref07_Worst.l0 k dl l (a : Int) (b : Int) (i : Int)) ((A : Int), (B : Int))
 | 0, i, a, b, h, hM, hb => by
  rw [List.take_of_length_le (by omega)] at hM
  have := hfin a b hM
  injection this with e1 e2
  subst e1; subst e2
  refine Ev.step (f := fun _ => some ((a : Int), (b : Int))) (fun k => ?_) (Ev.now _)
  rw [bibelotref07_Worst.l0, if_neg (by omega)]
 | d + 1, i, a, b, h, hM, hb => by
  obtain ⟨x, hx⟩ : ∃ x, rd_L1 l (i : Int) = x := ⟨_, rfl⟩
  have hmem := rd_L1_mem l i (by omega)
  have htk := take_rd l i (by omega)
  rw [hx] at hmem htk
  obtain ⟨hsx, hcl, hnx⟩ := hst x hmem
  have hgx := hg x hmem
  have ih := fun a b hM hb => rworst_l0 hn hl hst hg hfin d (i + 1) a b (by omega) hM hb
  rw [htk] at ih
  have hi : i < l.length := by omega
  have hil : i ≤ 1000000000 := Nat.le_trans (Nat.le_of_lt hi) (Nat.le_trans hl (by decide))
  refine worst_step (code_ev hsx hn) hcl hnx hi hil (Nat.le_trans hb hil) hx (fun h => ih (g x) 1 (hM.more h) (Nat.succ_le_succ (Nat.zero_le _))) (fun h => ih a (b + 1) (hM.same h) (Nat.succ_le_succ hb)) (fun h => ih a b (hM.less h) (Nat.le_succ_of_le hb))
theorem rworst_ev {n : Nat} (hn1 : 1 ≤ n) (hn : n ≤ 7) (sg : Bool) : Ev (fun k => bibelotref07_Worst.f k (n : Int) sg) (((wrst n sg).1 : Nat), ((wrst n sg).2 : Nat)) := by
 have hs := stk_firstL sg n
 obtain ⟨R, h1, hA, hl⟩ := all_ev hs hn1 hn
 have hF := bfs_fin sg false (hs.vs hn) none
 obtain ⟨st, hst⟩ : ∃ st, bfs n sg false none (15 ^ n) (ini (firstL n)) = st := ⟨_, rfl⟩
 rw [hst] at hA hl hF
 have hk : ∀ x, Stk sg n x → ∃ b, st.1 x = some (b, gap n sg (firstL n) x) := fun x hx => by
  have := bfs_known hn hs hx none (.inl rfl)
  rw [hst] at this
  exact this
 obtain ⟨dl, l⟩ := R
 simp only at hA hl h1
 have hmem : ∀ x, x ∈ l ↔ (st.1 x).isSome = true := fun x => by rw [hl, List.mem_reverse]; exact hF.all x
 have hcnt : l.length ≤ 170859375 := by
  rw [hl, List.length_reverse]
  exact Nat.le_trans (vs_count (n := n) hF.nodup (fun x hx => hF.valid x ((hF.all x).1 hx))) (p15 hn)
 have hnd : l.Nodup := by rw [hl]; exact nodup_rev hF.nodup
 refine Ev.bind (rfirst_ev n (by omega)) (Ev.bind h1 ?_)
 refine rworst_l0 (sg := sg) (g := gap n sg (firstL n)) (A := (wrst n sg).1) (B := (wrst n sg).2) hn hcnt (fun x hx => ?_) (fun x hx => ?_) (fun a b hM => ?_) l.length 0 0 0 (by omega) (Mo.begin _) (Nat.le_refl _)
 ·have hsx := hA.stk x ((hmem x).1 hx)
  obtain ⟨b, hb⟩ := hk x hsx
  have htab := hA.tab x hsx
  rw [hb] at htab
  exact ⟨hsx, by rw [hA.len]; exact code_lt_sz hsx, htab⟩
 ·have := least_lt' (nextK n sg false) (firstL n) x (15 ^ n)
  have h2 := p15 hn
  unfold gap
  omega
 ·exact (worst_of hF hnd hmem hM).symm
/-! ### The moves that order a stack -/
theorem ord_all {n : Nat} (hn : n ≤ 7) {sg : Bool} {x : List Int} (hx : Stk sg n x) : ((knownOf n sg false x) x).isSome = true ∧ (ordL n sg false x).length = gap n sg x (firstL n) ∧ (∀ m, m ∈ ordL n sg false x → m ∈ mvL n sg false) ∧ (ordL n sg false x).foldl (fun t m => flL sg t m.1 m.2) x = firstL n := by
 obtain ⟨b, hb⟩ := bfs_known hn (stk_firstL sg n) hx (some x) (.inr rfl)
 have hF := bfs_fin sg false ((stk_firstL sg n).vs hn) (some x)
 have hkn : knownOf n sg false x x = some (b, gap n sg (firstL n) x) := hb
 have h1 := ordF_ok hF.by_ _ x b hb
 have h2 := ordF_len hF.by_ hF.exact _ x b hb
 have e : ordL n sg false x = ordF (knownOf n sg false x) n sg (gap n sg (firstL n) x).succ x := by unfold ordL; rw [hkn]; rfl
 rw [e]
 refine ⟨by rw [hkn]; rfl, ?_, h1.1, h1.2.2⟩
 rw [gap_symm hn hx (stk_firstL sg n)]
 exact h2
theorem gap_lt {n : Nat} (hn : n ≤ 7) (sg : Bool) (a b : List Int) : gap n sg a b ≤ 170859375 := by
 have := least_lt' (nextK n sg false) a b (15 ^ n)
 have h2 := p15 hn
 unfold gap
 omega
theorem chk2_ok {sg : Bool} {most : Int} {n : Nat} {x y : List Int} (hx : Stk sg n x) (hy : Stk sg n y) (h1 : 1 ≤ n) (h2 : (n : Int) ≤ most) : chk2 sg most x y = 0 := by
 unfold chk2
 rw [if_pos (isSt_stk hx h1 h2), if_pos (isSt_stk hy h1 h2), if_pos (hx.len.trans hy.len.symm)]
theorem pflips_ok {n : Nat} (hn : n ≤ 7) {x y : List Int} (hx : Stk false n x) (hy : Stk false n y) (h1 : 1 ≤ n) : pancake_Flips.f x y = some (((gap n false x y : Nat) : Int), 0) := by
 unfold pancake_Flips.f
 rw [if_pos (chk2_ok hx hy h1 (by omega)), hx.len, gap_symm hn hy hx]
theorem pflipsB_ok {n : Nat} (hn : n ≤ 6) {x y : List Int} (hx : Stk true n x) (hy : Stk true n y) (h1 : 1 ≤ n) : pancake_FlipsBurnt.f x y = some (((gap n true x y : Nat) : Int), 0) := by
 unfold pancake_FlipsBurnt.f
 rw [if_pos (chk2_ok hx hy h1 (by omega)), hx.len, gap_symm (by omega) hy hx]
theorem porder_ok {n : Nat} (hn : n ≤ 7) {x : List Int} (hx : Stk false n x) (h1 : 1 ≤ n) : pancake_Order.f x = some ((ordL n false false x).map (fun m => ((m.2 : Int) + 1)), 0) := by
 unfold pancake_Order.f
 rw [if_pos (isSt_stk hx h1 (by omega)), hx.len, if_pos (ord_all hn hx).1]
theorem porderB_ok {n : Nat} (hn : n ≤ 6) {x : List Int} (hx : Stk true n x) (h1 : 1 ≤ n) : pancake_OrderBurnt.f x = some ((ordL n true false x).map (fun m => ((m.2 : Int) + 1)), 0) := by
 unfold pancake_OrderBurnt.f
 rw [if_pos (isSt_stk hx h1 (by omega)), hx.len, if_pos (ord_all (by omega) hx).1]
end Go.Proofs.Ytepjhdblmghckaa.G
