/- PancakeWorst: the greatest number of flips, and how many stacks need that many, or ErrArg: the walk and the plain law, for every input. -/
import Derived.Test.YtepjhdblmghckaaA1
import Derived.Test.YtepjhdblmghckaaA2
import Derived.Test.YtepjhdblmghckaaB1
import Derived.Test.YtepjhdblmghckaaA4
namespace Go.Proofs.Ytepjhdblmghckaa.G
end Go.Proofs.Ytepjhdblmghckaa.G
namespace Go.Proofs.Ytepjhdblmghckaa.Q
set_option linter.unusedVariables false
set_option linter.unusedSimpArgs false
set_option linter.unusedSectionVars false
open Go.Proofs.Ytepjhdblmghckaa.G
open Go.RowKit Go.Proofs.YtepjhdblmghckaaW.PrintWords Go.Proofs.YtepjhdblmghckaaW.PrintLast Go.Proofs.YtepjhdblmghckaaW.PrintMore
attribute [local go_sem] max2_int min2_int max_two min_two max_three min_three max_four min_four   -- for this text's walks alone

/-! ### bibelotlaw07_PancakeWorst: function 9 -/
mutual
def bibelotlaw07_PancakeWorst.l0 : Nat → Int → Int → Option (Bool)
 | 0, _, _ => none
 | k + 1, x0, x3 => if x3 < 2 then ((pancake_Worst.f x0).bind fun bt421 => ((pancake_WorstBurnt.f x0).bind fun bt424 => (if x0 < 1 then (bibelotlaw07_PancakeWorst.j1 k x0 x3 bt421.1 bt421.2.1 bt421.2.2 bt424.1 bt424.2.1 bt424.2.2 true) else (bibelotlaw07_PancakeWorst.j1 k x0 x3 bt421.1 bt421.2.1 bt421.2.2 bt424.1 bt424.2.1 bt424.2.2 (decide (x0 > 7)))))) else ((bibelotlaw07_awake.f).bind fun t420 => (some t420))
def bibelotlaw07_PancakeWorst.j1 : Nat → Int → Int → Int → Int → Int → Int → Int → Int → Bool → Option (Bool)
 | 0, _, _, _, _, _, _, _, _, _ => none
 | k + 1, x0, x3, x4, x5, x6, x7, x8, x9, x35 => if x35 = true then (if x6 = 1 then (if x4 = 0 then (if x5 = 0 then (bibelotlaw07_PancakeWorst.j2 k x0 x3 x7 x8 x9) else (some false)) else (some false)) else (some false)) else ((bibelotref07_Worst.f k x0 false).bind fun bt427 => (if x6 = 0 then (if x4 = bt427.1 then (if x5 = bt427.2 then (bibelotlaw07_PancakeWorst.j2 k x0 x3 x7 x8 x9) else (some false)) else (some false)) else (some false)))
def bibelotlaw07_PancakeWorst.j2 : Nat → Int → Int → Int → Int → Int → Option (Bool)
 | 0, _, _, _, _, _ => none
 | k + 1, x0, x3, x7, x8, x9 => if x0 < 1 then (bibelotlaw07_PancakeWorst.j3 k x0 x3 x7 x8 x9 true) else (bibelotlaw07_PancakeWorst.j3 k x0 x3 x7 x8 x9 (decide (x0 > 6)))
def bibelotlaw07_PancakeWorst.j3 : Nat → Int → Int → Int → Int → Int → Bool → Option (Bool)
 | 0, _, _, _, _, _, _ => none
 | k + 1, x0, x3, x7, x8, x9, x68 => if x68 = true then (if x9 = 1 then (if x7 = 0 then (if x8 = 0 then ((bibelotlaw07_many.f x0 6).bind fun t429 => (bibelotlaw07_PancakeWorst.l0 k t429 (wrap64 (x3 + 1)))) else (some false)) else (some false)) else (some false)) else ((bibelotref07_Worst.f k x0 true).bind fun bt430 => (if x9 = 0 then (if x7 = bt430.1 then (if x8 = bt430.2 then ((bibelotlaw07_many.f x0 6).bind fun t432 => (bibelotlaw07_PancakeWorst.l0 k t432 (wrap64 (x3 + 1)))) else (some false)) else (some false)) else (some false)))
end
def bibelotlaw07_PancakeWorst.f (k : Nat) (a0 : Int) : Option (Bool) := bibelotlaw07_PancakeWorst.l0 k a0 0
theorem bibelotlaw07_PancakeWorst.mono_l : ∀ k, (∀ y0 y1, LeO (bibelotlaw07_PancakeWorst.l0 k y0 y1) (bibelotlaw07_PancakeWorst.l0 (k + 1) y0 y1)) ∧ (∀ y0 y1 y2 y3 y4 y5 y6 y7 y8, LeO (bibelotlaw07_PancakeWorst.j1 k y0 y1 y2 y3 y4 y5 y6 y7 y8) (bibelotlaw07_PancakeWorst.j1 (k + 1) y0 y1 y2 y3 y4 y5 y6 y7 y8)) ∧ (∀ y0 y1 y2 y3 y4, LeO (bibelotlaw07_PancakeWorst.j2 k y0 y1 y2 y3 y4) (bibelotlaw07_PancakeWorst.j2 (k + 1) y0 y1 y2 y3 y4)) ∧ (∀ y0 y1 y2 y3 y4 y5, LeO (bibelotlaw07_PancakeWorst.j3 k y0 y1 y2 y3 y4 y5) (bibelotlaw07_PancakeWorst.j3 (k + 1) y0 y1 y2 y3 y4 y5))
 | 0 => ⟨fun _ _ r h => by simp [bibelotlaw07_PancakeWorst.l0] at h, fun _ _ _ _ _ _ _ _ _ r h => by simp [bibelotlaw07_PancakeWorst.j1] at h, fun _ _ _ _ _ r h => by simp [bibelotlaw07_PancakeWorst.j2] at h, fun _ _ _ _ _ _ r h => by simp [bibelotlaw07_PancakeWorst.j3] at h⟩
 | k + 1 => by
  obtain ⟨ih0, ih1, ih2, ih3⟩ := bibelotlaw07_PancakeWorst.mono_l k
  refine ⟨?_, ?_, ?_, ?_⟩
  ·intro y0 y1
   unfold bibelotlaw07_PancakeWorst.l0
   repeat' first
   | (with_reducible exact ih0 _ _)
   | (with_reducible exact ih1 _ _ _ _ _ _ _ _ _)
   | (with_reducible exact ih2 _ _ _ _ _)
   | (with_reducible exact ih3 _ _ _ _ _ _)
   | (with_reducible exact bibelotref07_Worst.mono _ _ _)
   | (with_reducible exact LeO.refl _)
   | (with_reducible exact LeO.none _)
   | (with_reducible refine LeO.ite ?_ ?_)
   | (with_reducible refine LeO.bind ?_ (fun _ => ?_))
   | exact ih0 _ _
   | exact ih1 _ _ _ _ _ _ _ _ _
   | exact ih2 _ _ _ _ _
   | exact ih3 _ _ _ _ _ _
   | exact bibelotref07_Worst.mono _ _ _
   | exact LeO.none _
   | refine LeO.ite ?_ ?_
   | refine LeO.bind ?_ (fun _ => ?_)
  ·intro y0 y1 y2 y3 y4 y5 y6 y7 y8
   unfold bibelotlaw07_PancakeWorst.j1
   repeat' first
   | (with_reducible exact ih0 _ _)
   | (with_reducible exact ih1 _ _ _ _ _ _ _ _ _)
   | (with_reducible exact ih2 _ _ _ _ _)
   | (with_reducible exact ih3 _ _ _ _ _ _)
   | (with_reducible exact bibelotref07_Worst.mono _ _ _)
   | (with_reducible exact LeO.refl _)
   | (with_reducible exact LeO.none _)
   | (with_reducible refine LeO.ite ?_ ?_)
   | (with_reducible refine LeO.bind ?_ (fun _ => ?_))
   | exact ih0 _ _
   | exact ih1 _ _ _ _ _ _ _ _ _
   | exact ih2 _ _ _ _ _
   | exact ih3 _ _ _ _ _ _
   | exact bibelotref07_Worst.mono _ _ _
   | exact LeO.none _
   | refine LeO.ite ?_ ?_
   | refine LeO.bind ?_ (fun _ => ?_)
  ·intro y0 y1 y2 y3 y4
   unfold bibelotlaw07_PancakeWorst.j2
   repeat' first
   | (with_reducible exact ih0 _ _)
   | (with_reducible exact ih1 _ _ _ _ _ _ _ _ _)
   | (with_reducible exact ih2 _ _ _ _ _)
   | (with_reducible exact ih3 _ _ _ _ _ _)
   | (with_reducible exact bibelotref07_Worst.mono _ _ _)
   | (with_reducible exact LeO.refl _)
   | (with_reducible exact LeO.none _)
   | (with_reducible refine LeO.ite ?_ ?_)
   | (with_reducible refine LeO.bind ?_ (fun _ => ?_))
   | exact ih0 _ _
   | exact ih1 _ _ _ _ _ _ _ _ _
   | exact ih2 _ _ _ _ _
   | exact ih3 _ _ _ _ _ _
   | exact bibelotref07_Worst.mono _ _ _
   | exact LeO.none _
   | refine LeO.ite ?_ ?_
   | refine LeO.bind ?_ (fun _ => ?_)
  ·intro y0 y1 y2 y3 y4 y5
   unfold bibelotlaw07_PancakeWorst.j3
   repeat' first
   | (with_reducible exact ih0 _ _)
   | (with_reducible exact ih1 _ _ _ _ _ _ _ _ _)
   | (with_reducible exact ih2 _ _ _ _ _)
   | (with_reducible exact ih3 _ _ _ _ _ _)
   | (with_reducible exact bibelotref07_Worst.mono _ _ _)
   | (with_reducible exact LeO.refl _)
   | (with_reducible exact LeO.none _)
   | (with_reducible refine LeO.ite ?_ ?_)
   | (with_reducible refine LeO.bind ?_ (fun _ => ?_))
   | exact ih0 _ _
   | exact ih1 _ _ _ _ _ _ _ _ _
   | exact ih2 _ _ _ _ _
   | exact ih3 _ _ _ _ _ _
   | exact bibelotref07_Worst.mono _ _ _
   | exact LeO.none _
   | refine LeO.ite ?_ ?_
   | refine LeO.bind ?_ (fun _ => ?_)
theorem bibelotlaw07_PancakeWorst.mono : ∀ a0 k, LeO (bibelotlaw07_PancakeWorst.f k a0) (bibelotlaw07_PancakeWorst.f (k + 1) a0) := by
 intro a0 k
 obtain ⟨ih0, ih1, ih2, ih3⟩ := bibelotlaw07_PancakeWorst.mono_l k
 unfold bibelotlaw07_PancakeWorst.f
 repeat' first
   | (with_reducible exact ih0 _ _)
   | (with_reducible exact ih1 _ _ _ _ _ _ _ _ _)
   | (with_reducible exact ih2 _ _ _ _ _)
   | (with_reducible exact ih3 _ _ _ _ _ _)
   | (with_reducible exact bibelotref07_Worst.mono _ _ _)
   | (with_reducible exact LeO.refl _)
   | (with_reducible exact LeO.none _)
   | (with_reducible refine LeO.ite ?_ ?_)
   | (with_reducible refine LeO.bind ?_ (fun _ => ?_))
   | exact ih0 _ _
   | exact ih1 _ _ _ _ _ _ _ _ _
   | exact ih2 _ _ _ _ _
   | exact ih3 _ _ _ _ _ _
   | exact bibelotref07_Worst.mono _ _ _
   | exact LeO.none _
   | refine LeO.ite ?_ ?_
   | refine LeO.bind ?_ (fun _ => ?_)
set_option maxHeartbeats 8000000 in
set_option maxRecDepth 100000 in
theorem bibelotlaw07_PancakeWorst.calls (k : Nat) (a0 : Int) (r : Bool) (w : World) (h : bibelotlaw07_PancakeWorst.f k a0 = some r) :
  Calls Try.prog 9 #[.int .i64 a0] w fun e w' => e = .returned (.bool r) ∧ Below w.heap.size w w' := by
 have HB := Aside0.mk (Below.refl w.heap.size w)
 have H : (bibelotlaw07_PancakeWorst.l0 k a0 0) = some r := h
 clear h
 have H' := Aside0.mk H
 clear H
 go_enter Try.func9, Try.ntmps9
 go_wp2
 go_loopg [0, 3] k (fun kq v0 v3 w' => ∃ (x0_1 : Int) (x3_1 : Int), v0 = .int .i64 x0_1 ∧ v3 = .int .i64 x3_1 ∧ Aside0 (bibelotlaw07_PancakeWorst.l0 kq x0_1 x3_1 = some r) ∧ Aside0 (kq ≤ k) ∧ Aside0 (Below w.heap.size w w'))
 case atStart => exact ⟨(a0), (0), (by first | rfl | (simp; done) | (simp [*]; done)), (by first | rfl | (simp; done) | (simp [*]; done)), H', ⟨Nat.le_refl _⟩, ⟨by repeat (first | (with_reducible first | exact HB.out | apply below_alloc | apply pw_below_drewN | apply below_drew1) | exact HB.out)⟩⟩
 case round =>
  clear H'
  obtain ⟨x0_1, x3_1, rfl, rfl, HA, HK1, HB⟩ := hrel
  cases gk with
  | zero => exact absurd HA.out (by simp [bibelotlaw07_PancakeWorst.l0])
  | succ k1 =>
   have H := HA.out
   clear HA
   simp only [bibelotlaw07_PancakeWorst.l0] at H
   by_cases c2 : x3_1 < 2
   ·rw [if_pos c2] at H
    have c2b0 : decide (x3_1 < 2) = true := decide_eq_true c2
    clear c2
    replace H := Option.bind_eq_some_iff.mp H
    obtain ⟨⟨t421, t422, t423⟩, A30, H⟩ := H
    replace H : ((pancake_WorstBurnt.f x0_1).bind fun bt424 => (if x0_1 < 1 then (bibelotlaw07_PancakeWorst.j1 k1 x0_1 x3_1 t421 t422 t423 bt424.1 bt424.2.1 bt424.2.2 true) else (bibelotlaw07_PancakeWorst.j1 k1 x0_1 x3_1 t421 t422 t423 bt424.1 bt424.2.1 bt424.2.2 (decide (x0_1 > 7))))) = some r := H
    have A3 := Aside0.mk A30
    clear A30
    replace H := Option.bind_eq_some_iff.mp H
    obtain ⟨⟨t424, t425, t426⟩, A40, H⟩ := H
    replace H : (if x0_1 < 1 then (bibelotlaw07_PancakeWorst.j1 k1 x0_1 x3_1 t421 t422 t423 t424 t425 t426 true) else (bibelotlaw07_PancakeWorst.j1 k1 x0_1 x3_1 t421 t422 t423 t424 t425 t426 (decide (x0_1 > 7)))) = some r := H
    have A4 := Aside0.mk A40
    clear A40
    have HC5 := Aside0.mk H
    clear H
    go_upto_region 6 with (first | ((with_reducible refine gate_callee (f := 42) rfl ?_); refine goesL_ (some 20) rfl rfl Try.func42 (by kernel_rfl) rfl #[.int .i64 x0_1] rfl (by (try simp only [List.map_toArray, List.map_cons, List.map_nil]); first | done | rfl | (simp only [List.length_drop, List.length_take]; rfl)) ?_; (with_reducible refine (pancake_Worst.calls x0_1 t421 t422 t423 _ A3.out).mono ?_); rintro e w6 ⟨rfl, hb⟩; refine ⟨_, rfl, ?_⟩; have n0_ := Aside0.mk (below_step (by repeat (first | (with_reducible first | exact HB.out | apply below_alloc | apply pw_below_drewN | apply below_drew1) | exact HB.out)) hb); clear HB; have HB := n0_; clear n0_; (try clear hb); (try clear hb2); (try clear hk); (try clear hi)) | ((with_reducible refine gate_callee (f := 43) rfl ?_); refine goesL_ (some 26) rfl rfl Try.func43 (by kernel_rfl) rfl #[.int .i64 x0_1] rfl (by (try simp only [List.map_toArray, List.map_cons, List.map_nil]); first | done | rfl | (simp only [List.length_drop, List.length_take]; rfl)) ?_; (with_reducible refine (pancake_WorstBurnt.calls x0_1 t424 t425 t426 _ A4.out).mono ?_); rintro e w7 ⟨rfl, hb⟩; refine ⟨_, rfl, ?_⟩; have n0_ := Aside0.mk (below_step (by repeat (first | (with_reducible first | exact HB.out | apply below_alloc | apply pw_below_drewN | apply below_drew1) | exact HB.out)) hb); clear HB; have HB := n0_; clear n0_; (try clear hb); (try clear hb2); (try clear hk); (try clear hi)))
    (try simp only [Act.put, List.setIfInBounds_toArray, List.set_cons_zero, List.set_cons_succ])
    go_cut [35] (fun v35 wc => ∃ (kq : Nat) (x35_4 : Bool), v35 = .bool x35_4 ∧ Aside0 (bibelotlaw07_PancakeWorst.j1 kq x0_1 x3_1 t421 t422 t423 t424 t425 t426 x35_4 = some r) ∧ Aside0 (kq ≤ k1) ∧ Aside0 (Below w.heap.size w wc))
    case first =>
     have H := HC5.out
     clear HC5
     by_cases c8 : x0_1 < 1
     ·rw [if_pos c8] at H
      have c8b0 : decide (x0_1 < 1) = true := decide_eq_true c8
      clear c8
      (first | rw [c8b0] | (simp only [i64_w, i32_w]; rw [c8b0]) | skip)
      have H' := Aside0.mk H
      clear H
      go_wp2
      go_meet
      case rel => exact ⟨_, (true), (by first | rfl | (simp; done) | (simp [*]; done)), H', ⟨by have := HK1.out; first | omega | exact Nat.le_refl _⟩, ⟨by repeat (first | (with_reducible first | exact HB.out | apply below_alloc | apply pw_below_drewN | apply below_drew1) | exact HB.out)⟩⟩
     ·rw [if_neg c8] at H
      have c8b0 : decide (x0_1 < 1) = false := decide_eq_false c8
      clear c8
      (first | rw [c8b0] | (simp only [i64_w, i32_w]; rw [c8b0]) | skip)
      have H' := Aside0.mk H
      clear H
      go_wp2
      go_meet
      case rel => exact ⟨_, (decide (x0_1 > 7)), (by first | rfl | (simp; done) | (simp [*]; done)), H', ⟨by have := HK1.out; first | omega | exact Nat.le_refl _⟩, ⟨by repeat (first | (with_reducible first | exact HB.out | apply below_alloc | apply pw_below_drewN | apply below_drew1) | exact HB.out)⟩⟩
    case rest =>
     clear HC5
     try clear c2
     try clear c2b0
     try clear p2
     try clear c4
     try clear c8
     try clear c8b0
     obtain ⟨kq, x35_4, rfl, HA, HJ4, HB⟩ := hcut
     cases kq with
     | zero => exact absurd HA.out (by simp [bibelotlaw07_PancakeWorst.j1])
     | succ kj4 =>
      have H := HA.out
      clear HA
      simp only [bibelotlaw07_PancakeWorst.j1] at H
      have HC9 := Aside0.mk H
      clear H
      go_upto_if 35 with (fail)
      go_cut [] (fun wc => ∃ (kq : Nat), Aside0 (bibelotlaw07_PancakeWorst.j2 kq x0_1 x3_1 t424 t425 t426 = some r) ∧ Aside0 (kq ≤ kj4) ∧ Aside0 (Below w.heap.size w wc))
      case first =>
       have H := HC9.out
       clear HC9
       by_cases c10 : x35_4 = true
       ·subst c10
        have H1 : (if t423 = 1 then (if t421 = 0 then (if t422 = 0 then (bibelotlaw07_PancakeWorst.j2 kj4 x0_1 x3_1 t424 t425 t426) else (some false)) else (some false)) else (some false)) = some r := by rw [if_pos rfl] at H; exact H
        clear H
        have H := H1
        clear H1
        by_cases c11 : t423 = 1
        ·rw [if_pos c11] at H
         have c11b0 : (t423 == 1) = true := beq_iff_eq.mpr c11
         have c11b1 : (t423 != 1) = false := bne_eq_false_iff_eq.mpr c11
         clear c11
         (first | rw [c11b0] | (simp only [i64_w, i32_w]; rw [c11b0]) | skip)
         by_cases c12 : t421 = 0
         ·rw [if_pos c12] at H
          have c12b0 : (t421 == 0) = true := beq_iff_eq.mpr c12
          have c12b1 : (t421 != 0) = false := bne_eq_false_iff_eq.mpr c12
          clear c12
          by_cases c13 : t422 = 0
          ·rw [if_pos c13] at H
           have c13b0 : (t422 == 0) = true := beq_iff_eq.mpr c13
           have c13b1 : (t422 != 0) = false := bne_eq_false_iff_eq.mpr c13
           clear c13
           have H' := Aside0.mk H
           clear H
           go_wp2
           go_meet
           case rel => exact ⟨_, H', ⟨by have := HK1.out; have := HJ4.out; first | omega | exact Nat.le_refl _⟩, ⟨by repeat (first | (with_reducible first | exact HB.out | apply below_alloc | apply pw_below_drewN | apply below_drew1) | exact HB.out)⟩⟩
          ·rw [if_neg c13] at H
           have c13b0 : (t422 == 0) = false := beq_eq_false_iff_ne.mpr c13
           have c13b1 : (t422 != 0) = true := bne_iff_ne.mpr c13
           obtain rfl := Option.some.inj H
           go_wp2
           go_ret
           exact ⟨by first | rfl | (simp [errW_none, errW_some] <;> rfl) | (simp [*, errW_none, errW_some] <;> rfl), by repeat (first | (with_reducible first | exact HB.out | apply below_alloc | apply pw_below_drewN | apply below_drew1) | exact HB.out)⟩
         ·rw [if_neg c12] at H
          have c12b0 : (t421 == 0) = false := beq_eq_false_iff_ne.mpr c12
          have c12b1 : (t421 != 0) = true := bne_iff_ne.mpr c12
          obtain rfl := Option.some.inj H
          go_wp2
          go_ret
          exact ⟨by first | rfl | (simp [errW_none, errW_some] <;> rfl) | (simp [*, errW_none, errW_some] <;> rfl), by repeat (first | (with_reducible first | exact HB.out | apply below_alloc | apply pw_below_drewN | apply below_drew1) | exact HB.out)⟩
        ·rw [if_neg c11] at H
         have c11b0 : (t423 == 1) = false := beq_eq_false_iff_ne.mpr c11
         have c11b1 : (t423 != 1) = true := bne_iff_ne.mpr c11
         (first | rw [c11b0] | (simp only [i64_w, i32_w]; rw [c11b0]) | skip)
         obtain rfl := Option.some.inj H
         go_wp2
         go_ret
         exact ⟨by first | rfl | (simp [errW_none, errW_some] <;> rfl) | (simp [*, errW_none, errW_some] <;> rfl), by repeat (first | (with_reducible first | exact HB.out | apply below_alloc | apply pw_below_drewN | apply below_drew1) | exact HB.out)⟩
       ·replace c10 := Bool.eq_false_iff.mpr c10
        subst c10
        have H1 : ((bibelotref07_Worst.f kj4 x0_1 false).bind fun bt427 => (if t423 = 0 then (if t421 = bt427.1 then (if t422 = bt427.2 then (bibelotlaw07_PancakeWorst.j2 kj4 x0_1 x3_1 t424 t425 t426) else (some false)) else (some false)) else (some false))) = some r := by rw [if_neg (show ¬ (false = true) by decide)] at H; exact H
        clear H
        have H := H1
        clear H1
        replace H := Option.bind_eq_some_iff.mp H
        obtain ⟨⟨t427, t428⟩, A140, H⟩ := H
        replace H : (if t423 = 0 then (if t421 = t427 then (if t422 = t428 then (bibelotlaw07_PancakeWorst.j2 kj4 x0_1 x3_1 t424 t425 t426) else (some false)) else (some false)) else (some false)) = some r := H
        have A14 := Aside0.mk A140
        clear A140
        by_cases c15 : t423 = 0
        ·rw [if_pos c15] at H
         have c15b0 : (t423 == 0) = true := beq_iff_eq.mpr c15
         have c15b1 : (t423 != 0) = false := bne_eq_false_iff_eq.mpr c15
         clear c15
         by_cases c16 : t421 = t427
         ·rw [if_pos c16] at H
          have c16b0 : (t421 == t427) = true := beq_iff_eq.mpr c16
          have c16b1 : (t421 != t427) = false := bne_eq_false_iff_eq.mpr c16
          clear c16
          by_cases c17 : t422 = t428
          ·rw [if_pos c17] at H
           have c17b0 : (t422 == t428) = true := beq_iff_eq.mpr c17
           have c17b1 : (t422 != t428) = false := bne_eq_false_iff_eq.mpr c17
           clear c17
           have H' := Aside0.mk H
           clear H
           go_wp2_with (first | ((with_reducible refine gate_callee (f := 44) rfl ?_); refine goesL_ (some 48) rfl rfl Try.func44 (by kernel_rfl) rfl #[.int .i64 x0_1, .bool false] rfl (by (try simp only [List.map_toArray, List.map_cons, List.map_nil]); first | done | rfl | (simp only [List.length_drop, List.length_take]; rfl)) ?_; (with_reducible refine (bibelotref07_Worst.calls kj4 x0_1 false t427 t428 _ A14.out).mono ?_); rintro e w18 ⟨rfl, hb⟩; refine ⟨_, rfl, ?_⟩; have n0_ := Aside0.mk (below_step (by repeat (first | (with_reducible first | exact HB.out | apply below_alloc | apply pw_below_drewN | apply below_drew1) | exact HB.out)) hb); clear HB; have HB := n0_; clear n0_; (try clear hb); (try clear hb2); (try clear hk); (try clear hi)))
           go_meet
           case rel => exact ⟨_, H', ⟨by have := HK1.out; have := HJ4.out; first | omega | exact Nat.le_refl _⟩, ⟨by repeat (first | (with_reducible first | exact HB.out | apply below_alloc | apply pw_below_drewN | apply below_drew1) | exact HB.out)⟩⟩
          ·rw [if_neg c17] at H
           have c17b0 : (t422 == t428) = false := beq_eq_false_iff_ne.mpr c17
           have c17b1 : (t422 != t428) = true := bne_iff_ne.mpr c17
           obtain rfl := Option.some.inj H
           go_wp2_with (first | ((with_reducible refine gate_callee (f := 44) rfl ?_); refine goesL_ (some 48) rfl rfl Try.func44 (by kernel_rfl) rfl #[.int .i64 x0_1, .bool false] rfl (by (try simp only [List.map_toArray, List.map_cons, List.map_nil]); first | done | rfl | (simp only [List.length_drop, List.length_take]; rfl)) ?_; (with_reducible refine (bibelotref07_Worst.calls kj4 x0_1 false t427 t428 _ A14.out).mono ?_); rintro e w19 ⟨rfl, hb⟩; refine ⟨_, rfl, ?_⟩; have n0_ := Aside0.mk (below_step (by repeat (first | (with_reducible first | exact HB.out | apply below_alloc | apply pw_below_drewN | apply below_drew1) | exact HB.out)) hb); clear HB; have HB := n0_; clear n0_; (try clear hb); (try clear hb2); (try clear hk); (try clear hi)))
           go_ret
           exact ⟨by first | rfl | (simp [errW_none, errW_some] <;> rfl) | (simp [*, errW_none, errW_some] <;> rfl), by repeat (first | (with_reducible first | exact HB.out | apply below_alloc | apply pw_below_drewN | apply below_drew1) | exact HB.out)⟩
         ·rw [if_neg c16] at H
          have c16b0 : (t421 == t427) = false := beq_eq_false_iff_ne.mpr c16
          have c16b1 : (t421 != t427) = true := bne_iff_ne.mpr c16
          obtain rfl := Option.some.inj H
          go_wp2_with (first | ((with_reducible refine gate_callee (f := 44) rfl ?_); refine goesL_ (some 48) rfl rfl Try.func44 (by kernel_rfl) rfl #[.int .i64 x0_1, .bool false] rfl (by (try simp only [List.map_toArray, List.map_cons, List.map_nil]); first | done | rfl | (simp only [List.length_drop, List.length_take]; rfl)) ?_; (with_reducible refine (bibelotref07_Worst.calls kj4 x0_1 false t427 t428 _ A14.out).mono ?_); rintro e w20 ⟨rfl, hb⟩; refine ⟨_, rfl, ?_⟩; have n0_ := Aside0.mk (below_step (by repeat (first | (with_reducible first | exact HB.out | apply below_alloc | apply pw_below_drewN | apply below_drew1) | exact HB.out)) hb); clear HB; have HB := n0_; clear n0_; (try clear hb); (try clear hb2); (try clear hk); (try clear hi)))
          go_ret
          exact ⟨by first | rfl | (simp [errW_none, errW_some] <;> rfl) | (simp [*, errW_none, errW_some] <;> rfl), by repeat (first | (with_reducible first | exact HB.out | apply below_alloc | apply pw_below_drewN | apply below_drew1) | exact HB.out)⟩
        ·rw [if_neg c15] at H
         have c15b0 : (t423 == 0) = false := beq_eq_false_iff_ne.mpr c15
         have c15b1 : (t423 != 0) = true := bne_iff_ne.mpr c15
         obtain rfl := Option.some.inj H
         go_wp2_with (first | ((with_reducible refine gate_callee (f := 44) rfl ?_); refine goesL_ (some 48) rfl rfl Try.func44 (by kernel_rfl) rfl #[.int .i64 x0_1, .bool false] rfl (by (try simp only [List.map_toArray, List.map_cons, List.map_nil]); first | done | rfl | (simp only [List.length_drop, List.length_take]; rfl)) ?_; (with_reducible refine (bibelotref07_Worst.calls kj4 x0_1 false t427 t428 _ A14.out).mono ?_); rintro e w21 ⟨rfl, hb⟩; refine ⟨_, rfl, ?_⟩; have n0_ := Aside0.mk (below_step (by repeat (first | (with_reducible first | exact HB.out | apply below_alloc | apply pw_below_drewN | apply below_drew1) | exact HB.out)) hb); clear HB; have HB := n0_; clear n0_; (try clear hb); (try clear hb2); (try clear hk); (try clear hi)))
         go_ret
         exact ⟨by first | rfl | (simp [errW_none, errW_some] <;> rfl) | (simp [*, errW_none, errW_some] <;> rfl), by repeat (first | (with_reducible first | exact HB.out | apply below_alloc | apply pw_below_drewN | apply below_drew1) | exact HB.out)⟩
      case rest =>
       clear HC9
       try clear c1
       try clear c2
       try clear c2b0
       try clear p2
       try clear c4
       try clear c8
       try clear c8b0
       try clear c9
       try clear c10
       try clear c11
       try clear c11b0
       try clear c11b1
       try clear c12
       try clear c12b0
       try clear c12b1
       try clear c13
       try clear c13b0
       try clear c13b1
       try clear c15
       try clear c15b0
       try clear c15b1
       try clear c16
       try clear c16b0
       try clear c16b1
       try clear c17
       try clear c17b0
       try clear c17b1
       try clear p2
       obtain ⟨kq, HA, HJ8, HB⟩ := hcut
       cases kq with
       | zero => exact absurd HA.out (by simp [bibelotlaw07_PancakeWorst.j2])
       | succ kj8 =>
        have H := HA.out
        clear HA
        simp only [bibelotlaw07_PancakeWorst.j2] at H
        have HC22 := Aside0.mk H
        clear H
        go_upto_region 12 with (fail)
        go_cut [68] (fun v68 wc => ∃ (kq : Nat) (x68_21 : Bool), v68 = .bool x68_21 ∧ Aside0 (bibelotlaw07_PancakeWorst.j3 kq x0_1 x3_1 t424 t425 t426 x68_21 = some r) ∧ Aside0 (kq ≤ kj8) ∧ Aside0 (Below w.heap.size w wc))
        case first =>
         have H := HC22.out
         clear HC22
         by_cases c23 : x0_1 < 1
         ·rw [if_pos c23] at H
          have c23b0 : decide (x0_1 < 1) = true := decide_eq_true c23
          clear c23
          (first | rw [c23b0] | (simp only [i64_w, i32_w]; rw [c23b0]) | skip)
          have H' := Aside0.mk H
          clear H
          go_wp2
          go_meet
          case rel => exact ⟨_, (true), (by first | rfl | (simp; done) | (simp [*]; done)), H', ⟨by have := HK1.out; have := HJ4.out; have := HJ8.out; first | omega | exact Nat.le_refl _⟩, ⟨by repeat (first | (with_reducible first | exact HB.out | apply below_alloc | apply pw_below_drewN | apply below_drew1) | exact HB.out)⟩⟩
         ·rw [if_neg c23] at H
          have c23b0 : decide (x0_1 < 1) = false := decide_eq_false c23
          clear c23
          (first | rw [c23b0] | (simp only [i64_w, i32_w]; rw [c23b0]) | skip)
          have H' := Aside0.mk H
          clear H
          go_wp2
          go_meet
          case rel => exact ⟨_, (decide (x0_1 > 6)), (by first | rfl | (simp; done) | (simp [*]; done)), H', ⟨by have := HK1.out; have := HJ4.out; have := HJ8.out; first | omega | exact Nat.le_refl _⟩, ⟨by repeat (first | (with_reducible first | exact HB.out | apply below_alloc | apply pw_below_drewN | apply below_drew1) | exact HB.out)⟩⟩
        case rest =>
         clear HC22
         try clear c1
         try clear c2
         try clear c2b0
         try clear p2
         try clear c4
         try clear c8
         try clear c8b0
         try clear c9
         try clear c10
         try clear c11
         try clear c11b0
         try clear c11b1
         try clear c12
         try clear c12b0
         try clear c12b1
         try clear c13
         try clear c13b0
         try clear c13b1
         try clear c15
         try clear c15b0
         try clear c15b1
         try clear c16
         try clear c16b0
         try clear c16b1
         try clear c17
         try clear c17b0
         try clear c17b1
         try clear c23
         try clear c23b0
         try clear p2
         obtain ⟨kq, x68_21, rfl, HA, HJ21, HB⟩ := hcut
         cases kq with
         | zero => exact absurd HA.out (by simp [bibelotlaw07_PancakeWorst.j3])
         | succ kj21 =>
          have H := HA.out
          clear HA
          simp only [bibelotlaw07_PancakeWorst.j3] at H
          by_cases c24 : x68_21 = true
          ·subst c24
           have H1 : (if t426 = 1 then (if t424 = 0 then (if t425 = 0 then ((bibelotlaw07_many.f x0_1 6).bind fun t429 => (bibelotlaw07_PancakeWorst.l0 kj21 t429 (wrap64 (x3_1 + 1)))) else (some false)) else (some false)) else (some false)) = some r := by rw [if_pos rfl] at H; exact H
           clear H
           have H := H1
           clear H1
           by_cases c25 : t426 = 1
           ·rw [if_pos c25] at H
            have c25b0 : (t426 == 1) = true := beq_iff_eq.mpr c25
            have c25b1 : (t426 != 1) = false := bne_eq_false_iff_eq.mpr c25
            clear c25
            by_cases c26 : t424 = 0
            ·rw [if_pos c26] at H
             have c26b0 : (t424 == 0) = true := beq_iff_eq.mpr c26
             have c26b1 : (t424 != 0) = false := bne_eq_false_iff_eq.mpr c26
             clear c26
             by_cases c27 : t425 = 0
             ·rw [if_pos c27] at H
              have c27b0 : (t425 == 0) = true := beq_iff_eq.mpr c27
              have c27b1 : (t425 != 0) = false := bne_eq_false_iff_eq.mpr c27
              clear c27
              replace H := Option.bind_eq_some_iff.mp H
              obtain ⟨t429, A280, H⟩ := H
              replace H : (bibelotlaw07_PancakeWorst.l0 kj21 t429 (wrap64 (x3_1 + 1))) = some r := H
              have A28 := Aside0.mk A280
              clear A280
              have H' := Aside0.mk H
              clear H
              go_wp2_with (first | ((with_reducible refine gate_callee (f := 21) rfl ?_); refine goesL_ (some 97) rfl rfl Try.func21 (by kernel_rfl) rfl #[.int .i64 x0_1, .int .i64 6] rfl (by (try simp only [List.map_toArray, List.map_cons, List.map_nil]); first | done | rfl | (simp only [List.length_drop, List.length_take]; rfl)) ?_; (with_reducible refine (bibelotlaw07_many.calls x0_1 6 t429 _ A28.out).mono ?_); rintro e w' ⟨rfl, ⟨nd, rfl⟩⟩; refine ⟨_, rfl, ?_⟩))
              go_roundg kj21
              case measure => have := HK1.out; have := HJ4.out; have := HJ8.out; have := HJ21.out; omega
              case rel => exact ⟨(t429), (wrap64 (x3_1 + 1)), (by first | rfl | (simp; done) | (simp [*]; done)), (by first | rfl | (simp; done) | (simp [*]; done)), H', ⟨by have := HK1.out; have := HJ4.out; have := HJ8.out; have := HJ21.out; omega⟩, ⟨by repeat (first | (with_reducible first | exact HB.out | apply below_alloc | apply pw_below_drewN | apply below_drew1) | exact HB.out)⟩⟩
             ·rw [if_neg c27] at H
              have c27b0 : (t425 == 0) = false := beq_eq_false_iff_ne.mpr c27
              have c27b1 : (t425 != 0) = true := bne_iff_ne.mpr c27
              obtain rfl := Option.some.inj H
              go_wp2
              go_ret
              exact ⟨by first | rfl | (simp [errW_none, errW_some] <;> rfl) | (simp [*, errW_none, errW_some] <;> rfl), by repeat (first | (with_reducible first | exact HB.out | apply below_alloc | apply pw_below_drewN | apply below_drew1) | exact HB.out)⟩
            ·rw [if_neg c26] at H
             have c26b0 : (t424 == 0) = false := beq_eq_false_iff_ne.mpr c26
             have c26b1 : (t424 != 0) = true := bne_iff_ne.mpr c26
             obtain rfl := Option.some.inj H
             go_wp2
             go_ret
             exact ⟨by first | rfl | (simp [errW_none, errW_some] <;> rfl) | (simp [*, errW_none, errW_some] <;> rfl), by repeat (first | (with_reducible first | exact HB.out | apply below_alloc | apply pw_below_drewN | apply below_drew1) | exact HB.out)⟩
           ·rw [if_neg c25] at H
            have c25b0 : (t426 == 1) = false := beq_eq_false_iff_ne.mpr c25
            have c25b1 : (t426 != 1) = true := bne_iff_ne.mpr c25
            obtain rfl := Option.some.inj H
            go_wp2
            go_ret
            exact ⟨by first | rfl | (simp [errW_none, errW_some] <;> rfl) | (simp [*, errW_none, errW_some] <;> rfl), by repeat (first | (with_reducible first | exact HB.out | apply below_alloc | apply pw_below_drewN | apply below_drew1) | exact HB.out)⟩
          ·replace c24 := Bool.eq_false_iff.mpr c24
           subst c24
           have H1 : ((bibelotref07_Worst.f kj21 x0_1 true).bind fun bt430 => (if t426 = 0 then (if t424 = bt430.1 then (if t425 = bt430.2 then ((bibelotlaw07_many.f x0_1 6).bind fun t432 => (bibelotlaw07_PancakeWorst.l0 kj21 t432 (wrap64 (x3_1 + 1)))) else (some false)) else (some false)) else (some false))) = some r := by rw [if_neg (show ¬ (false = true) by decide)] at H; exact H
           clear H
           have H := H1
           clear H1
           replace H := Option.bind_eq_some_iff.mp H
           obtain ⟨⟨t430, t431⟩, A290, H⟩ := H
           replace H : (if t426 = 0 then (if t424 = t430 then (if t425 = t431 then ((bibelotlaw07_many.f x0_1 6).bind fun t432 => (bibelotlaw07_PancakeWorst.l0 kj21 t432 (wrap64 (x3_1 + 1)))) else (some false)) else (some false)) else (some false)) = some r := H
           have A29 := Aside0.mk A290
           clear A290
           by_cases c30 : t426 = 0
           ·rw [if_pos c30] at H
            have c30b0 : (t426 == 0) = true := beq_iff_eq.mpr c30
            have c30b1 : (t426 != 0) = false := bne_eq_false_iff_eq.mpr c30
            clear c30
            by_cases c31 : t424 = t430
            ·rw [if_pos c31] at H
             have c31b0 : (t424 == t430) = true := beq_iff_eq.mpr c31
             have c31b1 : (t424 != t430) = false := bne_eq_false_iff_eq.mpr c31
             clear c31
             by_cases c32 : t425 = t431
             ·rw [if_pos c32] at H
              have c32b0 : (t425 == t431) = true := beq_iff_eq.mpr c32
              have c32b1 : (t425 != t431) = false := bne_eq_false_iff_eq.mpr c32
              clear c32
              replace H := Option.bind_eq_some_iff.mp H
              obtain ⟨t432, A330, H⟩ := H
              replace H : (bibelotlaw07_PancakeWorst.l0 kj21 t432 (wrap64 (x3_1 + 1))) = some r := H
              have A33 := Aside0.mk A330
              clear A330
              have H' := Aside0.mk H
              clear H
              go_wp2_with (first | ((with_reducible refine gate_callee (f := 44) rfl ?_); refine goesL_ (some 81) rfl rfl Try.func44 (by kernel_rfl) rfl #[.int .i64 x0_1, .bool true] rfl (by (try simp only [List.map_toArray, List.map_cons, List.map_nil]); first | done | rfl | (simp only [List.length_drop, List.length_take]; rfl)) ?_; (with_reducible refine (bibelotref07_Worst.calls kj21 x0_1 true t430 t431 _ A29.out).mono ?_); rintro e w34 ⟨rfl, hb⟩; refine ⟨_, rfl, ?_⟩; have n0_ := Aside0.mk (below_step (by repeat (first | (with_reducible first | exact HB.out | apply below_alloc | apply pw_below_drewN | apply below_drew1) | exact HB.out)) hb); clear HB; have HB := n0_; clear n0_; (try clear hb); (try clear hb2); (try clear hk); (try clear hi)) | ((with_reducible refine gate_callee (f := 21) rfl ?_); refine goesL_ (some 97) rfl rfl Try.func21 (by kernel_rfl) rfl #[.int .i64 x0_1, .int .i64 6] rfl (by (try simp only [List.map_toArray, List.map_cons, List.map_nil]); first | done | rfl | (simp only [List.length_drop, List.length_take]; rfl)) ?_; (with_reducible refine (bibelotlaw07_many.calls x0_1 6 t432 _ A33.out).mono ?_); rintro e w' ⟨rfl, ⟨nd, rfl⟩⟩; refine ⟨_, rfl, ?_⟩))
              go_roundg kj21
              case measure => have := HK1.out; have := HJ4.out; have := HJ8.out; have := HJ21.out; omega
              case rel => exact ⟨(t432), (wrap64 (x3_1 + 1)), (by first | rfl | (simp; done) | (simp [*]; done)), (by first | rfl | (simp; done) | (simp [*]; done)), H', ⟨by have := HK1.out; have := HJ4.out; have := HJ8.out; have := HJ21.out; omega⟩, ⟨by repeat (first | (with_reducible first | exact HB.out | apply below_alloc | apply pw_below_drewN | apply below_drew1) | exact HB.out)⟩⟩
             ·rw [if_neg c32] at H
              have c32b0 : (t425 == t431) = false := beq_eq_false_iff_ne.mpr c32
              have c32b1 : (t425 != t431) = true := bne_iff_ne.mpr c32
              obtain rfl := Option.some.inj H
              go_wp2_with (first | ((with_reducible refine gate_callee (f := 44) rfl ?_); refine goesL_ (some 81) rfl rfl Try.func44 (by kernel_rfl) rfl #[.int .i64 x0_1, .bool true] rfl (by (try simp only [List.map_toArray, List.map_cons, List.map_nil]); first | done | rfl | (simp only [List.length_drop, List.length_take]; rfl)) ?_; (with_reducible refine (bibelotref07_Worst.calls kj21 x0_1 true t430 t431 _ A29.out).mono ?_); rintro e w35 ⟨rfl, hb⟩; refine ⟨_, rfl, ?_⟩; have n0_ := Aside0.mk (below_step (by repeat (first | (with_reducible first | exact HB.out | apply below_alloc | apply pw_below_drewN | apply below_drew1) | exact HB.out)) hb); clear HB; have HB := n0_; clear n0_; (try clear hb); (try clear hb2); (try clear hk); (try clear hi)))
              go_ret
              exact ⟨by first | rfl | (simp [errW_none, errW_some] <;> rfl) | (simp [*, errW_none, errW_some] <;> rfl), by repeat (first | (with_reducible first | exact HB.out | apply below_alloc | apply pw_below_drewN | apply below_drew1) | exact HB.out)⟩
            ·rw [if_neg c31] at H
             have c31b0 : (t424 == t430) = false := beq_eq_false_iff_ne.mpr c31
             have c31b1 : (t424 != t430) = true := bne_iff_ne.mpr c31
             obtain rfl := Option.some.inj H
             go_wp2_with (first | ((with_reducible refine gate_callee (f := 44) rfl ?_); refine goesL_ (some 81) rfl rfl Try.func44 (by kernel_rfl) rfl #[.int .i64 x0_1, .bool true] rfl (by (try simp only [List.map_toArray, List.map_cons, List.map_nil]); first | done | rfl | (simp only [List.length_drop, List.length_take]; rfl)) ?_; (with_reducible refine (bibelotref07_Worst.calls kj21 x0_1 true t430 t431 _ A29.out).mono ?_); rintro e w36 ⟨rfl, hb⟩; refine ⟨_, rfl, ?_⟩; have n0_ := Aside0.mk (below_step (by repeat (first | (with_reducible first | exact HB.out | apply below_alloc | apply pw_below_drewN | apply below_drew1) | exact HB.out)) hb); clear HB; have HB := n0_; clear n0_; (try clear hb); (try clear hb2); (try clear hk); (try clear hi)))
             go_ret
             exact ⟨by first | rfl | (simp [errW_none, errW_some] <;> rfl) | (simp [*, errW_none, errW_some] <;> rfl), by repeat (first | (with_reducible first | exact HB.out | apply below_alloc | apply pw_below_drewN | apply below_drew1) | exact HB.out)⟩
           ·rw [if_neg c30] at H
            have c30b0 : (t426 == 0) = false := beq_eq_false_iff_ne.mpr c30
            have c30b1 : (t426 != 0) = true := bne_iff_ne.mpr c30
            obtain rfl := Option.some.inj H
            go_wp2_with (first | ((with_reducible refine gate_callee (f := 44) rfl ?_); refine goesL_ (some 81) rfl rfl Try.func44 (by kernel_rfl) rfl #[.int .i64 x0_1, .bool true] rfl (by (try simp only [List.map_toArray, List.map_cons, List.map_nil]); first | done | rfl | (simp only [List.length_drop, List.length_take]; rfl)) ?_; (with_reducible refine (bibelotref07_Worst.calls kj21 x0_1 true t430 t431 _ A29.out).mono ?_); rintro e w37 ⟨rfl, hb⟩; refine ⟨_, rfl, ?_⟩; have n0_ := Aside0.mk (below_step (by repeat (first | (with_reducible first | exact HB.out | apply below_alloc | apply pw_below_drewN | apply below_drew1) | exact HB.out)) hb); clear HB; have HB := n0_; clear n0_; (try clear hb); (try clear hb2); (try clear hk); (try clear hi)))
            go_ret
            exact ⟨by first | rfl | (simp [errW_none, errW_some] <;> rfl) | (simp [*, errW_none, errW_some] <;> rfl), by repeat (first | (with_reducible first | exact HB.out | apply below_alloc | apply pw_below_drewN | apply below_drew1) | exact HB.out)⟩
   ·rw [if_neg c2] at H
    have c2b0 : decide (x3_1 < 2) = false := decide_eq_false c2
    clear c2
    replace H := Option.bind_eq_some_iff.mp H
    obtain ⟨t420, A380, H⟩ := H
    replace H : (some t420) = some r := H
    have A38 := Aside0.mk A380
    clear A380
    obtain rfl := Option.some.inj H
    go_wp2_with (first | ((with_reducible refine gate_callee (f := 26) rfl ?_); refine goesL_ (some 98) rfl rfl Try.func26 (by kernel_rfl) rfl #[] rfl (by (try simp only [List.map_toArray, List.map_cons, List.map_nil]); first | done | rfl | (simp only [List.length_drop, List.length_take]; rfl)) ?_; (with_reducible refine (bibelotlaw07_awake.calls  t420 _ A38.out).mono ?_); rintro e w39 ⟨rfl, hb⟩; refine ⟨_, rfl, ?_⟩; have n0_ := Aside0.mk (below_step (by repeat (first | (with_reducible first | exact HB.out | apply below_alloc | apply pw_below_drewN | apply below_drew1) | exact HB.out)) hb); clear HB; have HB := n0_; clear n0_; (try clear hb); (try clear hb2); (try clear hk); (try clear hi)))
    go_ret
    exact ⟨by first | rfl | (simp [errW_none, errW_some] <;> rfl) | (simp [*, errW_none, errW_some] <;> rfl), by repeat (first | (with_reducible first | exact HB.out | apply below_alloc | apply pw_below_drewN | apply below_drew1) | exact HB.out)⟩

/-- THE ONE PURE STATEMENT of bibelotlaw07_PancakeWorst: yours. -/
def bibelotlaw07_PancakeWorst.Pure : Prop := ∀ (a0 : Int), (Lit.int .i64 a0).wf = true → ∃ k, bibelotlaw07_PancakeWorst.f k a0 = some true
theorem bibelotlaw07_PancakeWorst.walk (P : bibelotlaw07_PancakeWorst.Pure) (a0 : Int) (w : World) (w0 : (Lit.int .i64 a0).wf = true) :
  Calls Try.prog 9 #[.int .i64 a0] w fun e w' => e = .returned (.bool true) ∧ Below w.heap.size w w' := by
 obtain ⟨k, h⟩ := P a0 w0
 refine (bibelotlaw07_PancakeWorst.calls k a0 true w h).mono ?_
 rintro e w' ⟨rfl, hd⟩
 exact ⟨rfl, hd⟩

end Go.Proofs.Ytepjhdblmghckaa.Q
/- PancakeWorst: the plain law. -/
namespace Go.Proofs.Ytepjhdblmghckaa.Pure
set_option linter.unusedVariables false
set_option linter.unusedSimpArgs false
set_option linter.unusedSectionVars false
open Go.Proofs.Ytepjhdblmghckaa.G Go.Proofs.Ytepjhdblmghckaa.K
open Go.RowKit Go.Proofs.Ytepjhdblmghckaa.Q Go.Proofs.YtepjhdblmghckaaW.PrintWords Go.Proofs.YtepjhdblmghckaaW.PrintLast
theorem worst_end (n : Int) : Ev (fun k => bibelotlaw07_PancakeWorst.l0 k n 2) true := by
 refine Ev.step (f := fun _ => (bibelotlaw07_awake.f).bind fun t => some t) (fun k => ?_) (Ev.bind awake_ev (Ev.now _))
 rw [bibelotlaw07_PancakeWorst.l0, if_neg (by decide)]
theorem worst_j3 (n : Int) (r : Int) (hr : r = 0 ∨ r = 1) (hgo : ∀ t : Int, Ev (fun k => bibelotlaw07_PancakeWorst.l0 k t (r + 1)) true) (x : Int × Int × Int) (hx : pancake_WorstBurnt.f n = some x) :
  Ev (fun k => bibelotlaw07_PancakeWorst.j3 k n r x.1 x.2.1 x.2.2 (decide (n < 1 ∨ 6 < n))) true := by
 obtain ⟨t, _, _, ht⟩ := many_f n 6 (by decide) (by decide)
 have ht6 : bibelotlaw07_many.f n 6 = some (t : Int) := ht
 unfold pancake_WorstBurnt.f at hx
 by_cases hc : n < 1 ∨ 6 < n
 ·rw [if_neg (by omega)] at hx
  obtain rfl := Option.some.inj hx
  refine Ev.step (fun k => ?_) (hgo (t : Int))
  rw [bibelotlaw07_PancakeWorst.j3, if_pos (decide_eq_true hc), if_pos rfl, if_pos rfl, if_pos rfl, ht6, Option.bind_some, w64 (by omega) (by omega)]
 ·obtain ⟨m, rfl⟩ := Int.eq_ofNat_of_zero_le (show 0 ≤ n by omega)
  rw [if_pos (by omega), Int.toNat_natCast] at hx
  obtain rfl := Option.some.inj hx
  have hw := rworst_ev (n := m) (by omega) (by omega) true
  refine Ev.step (f := fun k => (bibelotref07_Worst.f k (m : Int) true).bind fun bt430 => (if (0 : Int) = 0 then (if (((wrst m true).1 : Nat) : Int) = bt430.1 then (if (((wrst m true).2 : Nat) : Int) = bt430.2 then ((bibelotlaw07_many.f (m : Int) 6).bind fun t432 => (bibelotlaw07_PancakeWorst.l0 k t432 (wrap64 (r + 1)))) else (some false)) else (some false)) else (some false))) (fun k => ?_) (Ev.bind hw (Ev.congr (fun k => ?_) (hgo (t : Int))))
  ·rw [bibelotlaw07_PancakeWorst.j3, if_neg (by rw [decide_eq_true_eq]; exact hc)]
  ·rw [if_pos rfl, if_pos rfl, if_pos rfl, ht6, Option.bind_some, w64 (by omega) (by omega)]
theorem worst_j2 (n : Int) (r : Int) (hr : r = 0 ∨ r = 1) (hgo : ∀ t : Int, Ev (fun k => bibelotlaw07_PancakeWorst.l0 k t (r + 1)) true) (x : Int × Int × Int) (hx : pancake_WorstBurnt.f n = some x) :
  Ev (fun k => bibelotlaw07_PancakeWorst.j2 k n r x.1 x.2.1 x.2.2) true := by
 have h := worst_j3 n r hr hgo x hx
 refine Ev.step (fun k => ?_) h
 rw [bibelotlaw07_PancakeWorst.j2]
 by_cases h1 : n < 1
 ·rw [if_pos h1, decide_eq_true (show n < 1 ∨ 6 < n from .inl h1)]
 ·rw [if_neg h1, show decide (n > 6) = decide (n < 1 ∨ 6 < n) from decide_eq_decide.2 (by omega)]
theorem worst_l0 (n : Int) (r : Int) (hr : r = 0 ∨ r = 1) (hgo : ∀ t : Int, Ev (fun k => bibelotlaw07_PancakeWorst.l0 k t (r + 1)) true) : Ev (fun k => bibelotlaw07_PancakeWorst.l0 k n r) true := by
 obtain ⟨x, hx⟩ : ∃ x, pancake_WorstBurnt.f n = some x := ⟨_, rfl⟩
 obtain ⟨y, hy⟩ : ∃ y, pancake_Worst.f n = some y := ⟨_, rfl⟩
 have hj2 := worst_j2 n r hr hgo x hx
 have hj1 : Ev (fun k => bibelotlaw07_PancakeWorst.j1 k n r y.1 y.2.1 y.2.2 x.1 x.2.1 x.2.2 (decide (n < 1 ∨ 7 < n))) true := by
  unfold pancake_Worst.f at hy
  by_cases hc : n < 1 ∨ 7 < n
  ·rw [if_neg (by omega)] at hy
   obtain rfl := Option.some.inj hy
   refine Ev.step (fun k => ?_) hj2
   rw [bibelotlaw07_PancakeWorst.j1, if_pos (decide_eq_true hc), if_pos rfl, if_pos rfl, if_pos rfl]
  ·obtain ⟨m, rfl⟩ := Int.eq_ofNat_of_zero_le (show 0 ≤ n by omega)
   rw [if_pos (by omega), Int.toNat_natCast] at hy
   obtain rfl := Option.some.inj hy
   have hw := rworst_ev (n := m) (by omega) (by omega) false
   refine Ev.step (f := fun k => (bibelotref07_Worst.f k (m : Int) false).bind fun bt427 => (if (0 : Int) = 0 then (if (((wrst m false).1 : Nat) : Int) = bt427.1 then (if (((wrst m false).2 : Nat) : Int) = bt427.2 then (bibelotlaw07_PancakeWorst.j2 k (m : Int) r x.1 x.2.1 x.2.2) else (some false)) else (some false)) else (some false))) (fun k => ?_) (Ev.bind hw (Ev.congr (fun k => ?_) hj2))
   ·rw [bibelotlaw07_PancakeWorst.j1, if_neg (by rw [decide_eq_true_eq]; exact hc)]
   ·rw [if_pos rfl, if_pos rfl, if_pos rfl]
 refine Ev.step (fun k => ?_) hj1
 rw [bibelotlaw07_PancakeWorst.l0, if_pos (by omega), hy, Option.bind_some, hx, Option.bind_some]
 by_cases h1 : n < 1
 ·rw [if_pos h1, decide_eq_true (show n < 1 ∨ 7 < n from .inl h1)]
 ·rw [if_neg h1, show decide (n > 7) = decide (n < 1 ∨ 7 < n) from decide_eq_decide.2 (by omega)]
theorem PancakeWorst : bibelotlaw07_PancakeWorst.Pure := by
 intro a0 _
 exact Ev.rounds (worst_l0 a0 0 (.inl rfl) (fun t => worst_l0 t 1 (.inr rfl) (fun t => worst_end t)))
end Go.Proofs.Ytepjhdblmghckaa.Pure
