/- PancakeForts: the components and the distance of rows with many hurdles: a part of the proof (3 of 5): contracts of the functions, and plain lemmas. -/
import Derived.Test.YtepjhdblmghckaaUs
import Derived.Test.YtepjhdblmghckaaEs1
import Derived.Test.YtepjhdblmghckaaEs2
set_option linter.unusedVariables false
set_option linter.unusedSimpArgs false
namespace Go.Proofs.Ytepjhdblmghckaa.G
end Go.Proofs.Ytepjhdblmghckaa.G
namespace Go.Proofs.Ytepjhdblmghckaa.Q
open Go.Proofs.Ytepjhdblmghckaa.G
open Go.RowKit Go.Proofs.YtepjhdblmghckaaW.PrintWords Go.Proofs.YtepjhdblmghckaaW.PrintLast Go.Proofs.YtepjhdblmghckaaW.PrintMore
attribute [local go_sem] max2_int min2_int max_two min_two max_three min_three max_four min_four
set_option linter.unusedVariables false
set_option linter.unusedSimpArgs false
set_option maxHeartbeats 8000000 in
set_option maxRecDepth 100000 in
theorem bibelotref07_Components.calls (k : Nat) (A0 : Option Addr) (c0 : Nat) (l0 : List Int) (r1 : Int) (r2 : Int) (r3 : Int) (r4 : Bool) (w : World) (hr0 : Kd.C (Kd.int .i64) w A0 l0.length l0) (hc0 : l0.length ≤ c0) (h : bibelotref07_Components.f k l0 = some (r1, r2, r3, r4)) :
  Calls Try.prog 24 #[.slice A0 l0.length c0] w fun e w' => e = .returned (.agg #[.int .i64 r1, .int .i64 r2, .int .i64 r3, .bool r4]) ∧ Below w.heap.size w w' := by
 have hu31 := Try.underlying31
 have hu57 := Try.underlying57
 have HR0 := Aside0.mk hr0
 have HC0 := Aside0.mk hc0
 clear hr0 hc0
 have HB := Aside0.mk (Below.refl w.heap.size w)
 have H : ((bibelotref07_Lines.f k l0).bind fun t190 => ((bibelotref07_round.f k l0).bind fun t193 => ((bibelotref07_round.f k l0).bind fun t196 => (bibelotref07_Components.l0 k l0 t190 t193 t196 0)))) = some (r1, r2, r3, r4) := h
 clear h
 replace H := Option.bind_eq_some_iff.mp H
 obtain ⟨t190, A20, H⟩ := H
 replace H : ((bibelotref07_round.f k l0).bind fun t193 => ((bibelotref07_round.f k l0).bind fun t196 => (bibelotref07_Components.l0 k l0 t190 t193 t196 0))) = some (r1, r2, r3, r4) := H
 have A2 := Aside0.mk A20
 clear A20
 replace H := Option.bind_eq_some_iff.mp H
 obtain ⟨t193, A30, H⟩ := H
 replace H : ((bibelotref07_round.f k l0).bind fun t196 => (bibelotref07_Components.l0 k l0 t190 t193 t196 0)) = some (r1, r2, r3, r4) := H
 have A3 := Aside0.mk A30
 clear A30
 replace H := Option.bind_eq_some_iff.mp H
 obtain ⟨t196, A40, H⟩ := H
 replace H : (bibelotref07_Components.l0 k l0 t190 t193 t196 0) = some (r1, r2, r3, r4) := H
 have A4 := Aside0.mk A40
 clear A40
 have H' := Aside0.mk H
 clear H
 go_enter Try.func24, Try.ntmps24
 go_wp2_with (first|((with_reducible refine gate_dst (N := 2) rfl ?_);refine box_event ?hg (N := 2) ?hd (cs := #[.int .i64 0, .int .i64 0, .int .i64 0, .bool false]) (t := 31) ?hr ?_;(case hd => rfl);(case hg => rfl);(case hr => first|(go_simp;done)|(go_simp;rfl));intro gb189 hg w5 hbox hb;have n0_ := Aside0.mk (below_step (by repeat (first|(with_reducible first|exact HB.out|apply below_alloc|apply pw_below_drewN|apply below_drew1)|exact HB.out)) hb);have n1_ := Aside0.mk (hbox);have n2_ := Aside0.mk ((by rw [hg];exact (below_size (by repeat (first|(with_reducible first|exact HB.out|apply below_alloc|apply pw_below_drewN|apply below_drew1)|exact HB.out))) : w.heap.size ≤ gb189));have n3_ := Aside0.mk ((by rw [hg];exact (below_size (by repeat (first|(with_reducible first|exact HB.out|apply below_alloc|apply pw_below_drewN|apply below_drew1)|exact HB.out))) : w.heap.size ≤ gb189));clear HB;have HB := n0_;have BK189 := n1_;have GW189 := n2_;have GE189 := n3_;clear n0_ n1_ n2_ n3_;clear hb hbox hg)|((with_reducible refine gate_callee (f := 63) rfl ?_);refine goesL_ (some 22) rfl rfl Try.func63 (by kernel_rfl) rfl #[.slice A0 l0.length c0] rfl (by (try simp only [List.map_toArray, List.map_cons, List.map_nil]);first|done|rfl|(simp only [List.length_drop, List.length_take];rfl)) ?_;(with_reducible refine (bibelotref07_Lines.calls k _ _ l0 t190 _ ?side1 ?side2 A2.out).mono ?_);(case side1 => repeat (first|exact (Kd.C_below HR0.out HB.out)|(with_reducible refine Kd.C_alloc ?_ _)|(with_reducible refine Kd.C_drewN ?_ _)|(with_reducible refine Kd.C_drew ?_)));(case side2 => exact HC0.out);rintro e w6 ⟨v191, rfl, ho0, hb⟩;refine ⟨_, rfl, ?_⟩;have n0_ := Aside0.mk (Kd.R_lower ho0 (below_size (by repeat (first|(with_reducible first|exact HB.out|apply below_alloc|apply pw_below_drewN|apply below_drew1|refine below_set ?_ GE189.out)|exact HB.out))));have n1_ := Aside0.mk (blk_below (g := gb189) (o := .cells #[.int .i64 0, .int .i64 0, .int .i64 0, .bool false] 31 (0, 0)) (by (with_reducible repeat (first|refine blk_drewN ?_ _|refine blk_drew ?_|refine blk_alloc ?_ _));exact BK189.out) hb);have n2_ := Aside0.mk (below_step (by repeat (first|(with_reducible first|exact HB.out|apply below_alloc|apply pw_below_drewN|apply below_drew1|refine below_set ?_ GE189.out)|exact HB.out)) hb);clear BK189;clear HB;have HO192 := n0_;have BK189 := n1_;have HB := n2_;clear n0_ n1_ n2_;(try clear hb);(try clear ho0))|((with_reducible refine gate_callee (f := 64) rfl ?_);refine goesL_ (some 24) rfl rfl Try.func64 (by kernel_rfl) rfl #[.slice A0 l0.length c0] rfl (by (try simp only [List.map_toArray, List.map_cons, List.map_nil]);first|done|rfl|(simp only [List.length_drop, List.length_take];rfl)) ?_;(with_reducible refine (bibelotref07_round.calls k _ _ l0 t193 _ ?side1 ?side2 A3.out).mono ?_);(case side1 => repeat (first|exact (Kd.C_below HR0.out HB.out)|(with_reducible refine Kd.C_alloc ?_ _)|(with_reducible refine Kd.C_drewN ?_ _)|(with_reducible refine Kd.C_drew ?_)));(case side2 => exact HC0.out);rintro e w7 ⟨v194, rfl, ho0, hb⟩;refine ⟨_, rfl, ?_⟩;have n0_ := Aside0.mk (Kd.R_below (by (with_reducible repeat (first|apply Kd.R_alloc|apply Kd.R_drewN|apply Kd.R_drew));exact HO192.out) hb);have n1_ := Aside0.mk (Kd.R_lower ho0 (below_size (by repeat (first|(with_reducible first|exact HB.out|apply below_alloc|apply pw_below_drewN|apply below_drew1|refine below_set ?_ GE189.out)|exact HB.out))));have n2_ := Aside0.mk (blk_below (g := gb189) (o := .cells #[.int .i64 0, .int .i64 0, .int .i64 0, .bool false] 31 (0, 0)) (by (with_reducible repeat (first|refine blk_drewN ?_ _|refine blk_drew ?_|refine blk_alloc ?_ _));exact BK189.out) hb);have n3_ := Aside0.mk (below_step (by repeat (first|(with_reducible first|exact HB.out|apply below_alloc|apply pw_below_drewN|apply below_drew1|refine below_set ?_ GE189.out)|exact HB.out)) hb);clear HO192;clear BK189;clear HB;have HO192 := n0_;have HO195 := n1_;have BK189 := n2_;have HB := n3_;clear n0_ n1_ n2_ n3_;(try clear hb);(try clear ho0)))
 have HO198 := HO195
 have e196 : t193 = t196 := Option.some.inj (A3.out.symm.trans A4.out)
 subst e196
 go_loopg [5, 6] k (fun kq v5 v6 w' => ∃ (x5_1 : List Int) (x6_1 : Int), v6 = .int .i64 x6_1 ∧ Aside0 (bibelotref07_Components.l0 kq l0 t190 t193 x5_1 x6_1 = some (r1, r2, r3, r4)) ∧ Aside0 (kq ≤ k) ∧ Aside0 (Kd.R k57 57 w' w.heap.size (fun _ => True) v191 t190) ∧ Aside0 (Kd.R (Kd.int .i64) 3 w' w.heap.size (fun _ => True) v194 t193) ∧ Aside0 (Kd.R (Kd.int .i64) 3 w' w.heap.size (fun _ => True) v5 x5_1) ∧ Aside0 (w'.heap[gb189]? = some (.cells #[.int .i64 0, .int .i64 0, .int .i64 0, .bool false] 31 (0, 0))) ∧ Aside0 (Below w.heap.size w w'))
 case atStart => exact ⟨(t193), (0), (by first | rfl | (simp; done) | (simp [*]; done)), H', ⟨Nat.le_refl _⟩, ⟨by exact HO192.out⟩, ⟨by exact Kd.R_mono HO195.out (fun _ hk => by first | trivial | exact hk.2)⟩, ⟨by exact Kd.R_mono HO198.out (fun _ hk => by first | trivial | exact hk.2)⟩, ⟨by exact BK189.out⟩, ⟨by exact HB.out⟩⟩
 case round =>
  clear H'
  obtain ⟨x5_1, x6_1, rfl, HA, HK1, HO_3, HO_4, HO_5, BK189, HB⟩ := hrel
  cases gk with
  | zero => exact absurd HA.out (by simp [bibelotref07_Components.l0])
  | succ k1 =>
   have H := HA.out
   clear HA
   simp only [bibelotref07_Components.l0] at H
   by_cases c9 : x6_1 < (t190.length : Int)
   ·rw [if_pos c9] at H
    have c9b0 : decide (x6_1 < (t190.length : Int)) = true := decide_eq_true c9
    clear c9
    have H' := Aside0.mk H
    clear H
    obtain ⟨Ao10, co10, eo10⟩ := Kd.R_slice HO_3.out
    subst eo10
    go_wp2
    go_loopg [5, 7] k1 (fun kq v5 v7 w' => ∃ (x5_2 : List Int) (x7_2 : Int), v7 = .int .i64 x7_2 ∧ Aside0 (bibelotref07_Components.l1 kq l0 t190 t193 x5_2 x6_1 x7_2 = some (r1, r2, r3, r4)) ∧ Aside0 (kq ≤ k1) ∧ Aside0 (Kd.R k57 57 w' w.heap.size (fun _ => True) (.slice Ao10 t190.length co10) t190) ∧ Aside0 (Kd.R (Kd.int .i64) 3 w' w.heap.size (fun _ => True) v194 t193) ∧ Aside0 (Kd.R (Kd.int .i64) 3 w' w.heap.size (fun _ => True) v5 x5_2) ∧ Aside0 (w'.heap[gb189]? = some (.cells #[.int .i64 0, .int .i64 0, .int .i64 0, .bool false] 31 (0, 0))) ∧ Aside0 (Below w.heap.size w w'))
    case atStart => exact ⟨(x5_1), (0), (by first | rfl | (simp; done) | (simp [*]; done)), H', ⟨Nat.le_refl _⟩, ⟨by exact HO_3.out⟩, ⟨by exact HO_4.out⟩, ⟨by exact HO_5.out⟩, ⟨by exact BK189.out⟩, ⟨by exact HB.out⟩⟩
    case round =>
     clear H'
     obtain ⟨x5_2, x7_2, rfl, HA, HK2, HO_3, HO_4, HO_5, BK189, HB⟩ := hrel
     cases gk with
     | zero => exact absurd HA.out (by simp [bibelotref07_Components.l1])
     | succ k2 =>
      have H := HA.out
      clear HA
      simp only [bibelotref07_Components.l1] at H
      by_cases c11 : x7_2 < x6_1
      ·rw [if_pos c11] at H
       have c11b0 : decide (x7_2 < x6_1) = true := decide_eq_true c11
       clear c11
       by_cases c12 : 0 ≤ x6_1
       rotate_left
       ·rw [if_neg c12] at H
        exact absurd H (by simp)
       rw [if_pos c12] at H
       have c12b0 : decide (0 ≤ x6_1) = true := decide_eq_true c12
       clear c12
       by_cases c13 : x6_1 < (t190.length : Int)
       rotate_left
       ·rw [if_neg c13] at H
        exact absurd H (by simp)
       rw [if_pos c13] at H
       have c13b0 : decide (x6_1 < (t190.length : Int)) = true := decide_eq_true c13
       clear c13
       by_cases c14 : 0 ≤ x7_2
       rotate_left
       ·rw [if_neg c14] at H
        exact absurd H (by simp)
       rw [if_pos c14] at H
       have c14b0 : decide (0 ≤ x7_2) = true := decide_eq_true c14
       clear c14
       by_cases c15 : x7_2 < (t190.length : Int)
       rotate_left
       ·rw [if_neg c15] at H
        exact absurd H (by simp)
       rw [if_pos c15] at H
       have c15b0 : decide (x7_2 < (t190.length : Int)) = true := decide_eq_true c15
       clear c15
       replace H := Option.bind_eq_some_iff.mp H
       obtain ⟨t201, A160, H⟩ := H
       replace H : (if t201 = true then ((bibelotref07_joined.f k2 x5_2 x6_1 x7_2).bind fun t202 => (bibelotref07_Components.l1 k2 l0 t190 t193 t202 x6_1 (wrap64 (x7_2 + 1)))) else (bibelotref07_Components.l1 k2 l0 t190 t193 x5_2 x6_1 (wrap64 (x7_2 + 1)))) = some (r1, r2, r3, r4) := H
       have A16 := Aside0.mk A160
       clear A160
       by_cases c17 : t201 = true
       ·subst c17
        have H1 : ((bibelotref07_joined.f k2 x5_2 x6_1 x7_2).bind fun t202 => (bibelotref07_Components.l1 k2 l0 t190 t193 t202 x6_1 (wrap64 (x7_2 + 1)))) = some (r1, r2, r3, r4) := by rw [if_pos rfl] at H; exact H
        clear H
        have H := H1
        clear H1
        replace H := Option.bind_eq_some_iff.mp H
        obtain ⟨t202, A180, H⟩ := H
        replace H : (bibelotref07_Components.l1 k2 l0 t190 t193 t202 x6_1 (wrap64 (x7_2 + 1))) = some (r1, r2, r3, r4) := H
        have A18 := Aside0.mk A180
        clear A180
        have H' := Aside0.mk H
        clear H
        try go_wp2
        have n0_ := Aside0.mk (Kd.R_drew HO_3.out)
        have n1_ := Aside0.mk (Kd.R_drew HO_4.out)
        have n2_ := Aside0.mk (Kd.R_drew HO_5.out)
        have n3_ := Aside0.mk (blk_drew BK189.out)
        have n4_ := Aside0.mk (below_drew1 HB.out)
        clear HO_3
        clear HO_4
        clear HO_5
        clear BK189
        clear HB
        have HO_3 := n0_
        have HO_4 := n1_
        have HO_5 := n2_
        have BK189 := n3_
        have HB := n4_
        clear n0_ n1_ n2_ n3_ n4_
        have p199 : 0 ≤ (x6_1 : Int) := of_decide_eq_true (by first | (with_reducible assumption) | assumption)
        have q199 : x6_1 < (t190.length : Int) := of_decide_eq_true (by first | (with_reducible assumption) | assumption)
        obtain ⟨ad199, e199, hx199_0, hx199_1⟩ := at_T57 (Kd.R_reads' HO_3.out).2.2 x6_1 p199 q199
        cases e199
        replace p199 := eq_true p199
        replace q199 := eq_true q199
        have p200 : 0 ≤ (x7_2 : Int) := of_decide_eq_true (by first | (with_reducible assumption) | assumption)
        have q200 : x7_2 < (t190.length : Int) := of_decide_eq_true (by first | (with_reducible assumption) | assumption)
        obtain ⟨ad200, e200, hx200_0, hx200_1⟩ := at_T57 (Kd.R_reads' HO_3.out).2.2 x7_2 p200 q200
        obtain rfl : ad199 = ad200 := (by injection e200)
        replace p200 := eq_true p200
        replace q200 := eq_true q200
        refine start_ (n := 9) (S := fun w' => w'.cell? (ad199.add ((x6_1).toNat * 2)) = some (.int .i64 ((rd_T57 t190 x6_1).f0)) ∧ w'.cell? ⟨(ad199.add ((x6_1).toNat * 2)).block, (ad199.add ((x6_1).toNat * 2)).off + 1, none⟩ = some (.int .i64 ((rd_T57 t190 x6_1).f1)) ∧ w'.cell? (ad199.add ((x7_2).toNat * 2)) = some (.int .i64 ((rd_T57 t190 x7_2).f0)) ∧ w'.cell? ⟨(ad199.add ((x7_2).toNat * 2)).block, (ad199.add ((x7_2).toNat * 2)).off + 1, none⟩ = some (.int .i64 ((rd_T57 t190 x7_2).f1))) (ds := []) #[false, false, false, false, false, false, false, false, false] (by kernel_rfl) rfl rfl ⟨hx199_0, hx199_1, hx200_0, hx200_1⟩ (fun hHeld => ?_);refine with_tabW bibelotref07_Components.tab9 bibelotref07_Components.bits9 (fun HT_ HW_ => ?_)
        generalize wr.drew = w19 at HO_3 HO_4 HO_5 BK189 HB hx199_0 hx199_1 hx200_0 hx200_1 hHeld ⊢
        refine pure_ (i := 0) (N := some 37) (v := ?_) (a' := ?_) #[true, false, false, false, false, false, false, false, false] rfl rfl (any_of HT_.out (by kernel_rfl)) (fun _ _ _ h => h) (Or.inl ⟨by rfl, ?_⟩) ?_ ?_
        rotate_left
        ·intro w'
         go_simp
         with_reducible rfl
        rotate_left
        ·simp only [Act.put, List.setIfInBounds_toArray, List.set_cons_zero, List.set_cons_succ, i64_w, i32_w]
         rfl
        refine pure_ (i := 1) (N := some 38) (v := ?_) (a' := ?_) #[true, true, false, false, false, false, false, false, false] rfl rfl (any_of HT_.out (by kernel_rfl)) (fun _ _ _ h => h) (Or.inl ⟨by rfl, ?_⟩) ?_ ?_
        rotate_left
        ·intro w'
         go_simp
         with_reducible rfl
        rotate_left
        ·simp only [Act.put, List.setIfInBounds_toArray, List.set_cons_zero, List.set_cons_succ, i64_w, i32_w]
         rfl
        refine pure_ (i := 2) (N := some 39) (v := ?_) (a' := ?_) #[true, true, true, false, false, false, false, false, false] rfl rfl (any_of HT_.out (by kernel_rfl)) (fun _ _ _ h => h) (Or.inl ⟨by rfl, ?_⟩) ?_ ?_
        rotate_left
        ·intro w'
         go_simp
         with_reducible rfl
        rotate_left
        ·simp only [Act.put, List.setIfInBounds_toArray, List.set_cons_zero, List.set_cons_succ, i64_w, i32_w]
         rfl
        refine pure_ (i := 4) (N := some 41) (v := ?_) (a' := ?_) #[true, true, true, false, true, false, false, false, false] rfl rfl (any_of HT_.out (by kernel_rfl)) (fun _ _ _ h => h) (Or.inl ⟨by rfl, ?_⟩) ?_ ?_
        rotate_left
        ·intro w'
         go_simp
         with_reducible rfl
        rotate_left
        ·simp only [Act.put, List.setIfInBounds_toArray, List.set_cons_zero, List.set_cons_succ, i64_w, i32_w]
         rfl
        refine pure_ (i := 5) (N := some 42) (v := ?_) (a' := ?_) #[true, true, true, false, true, true, false, false, false] rfl rfl (any_of HT_.out (by kernel_rfl)) (fun _ _ _ h => h) (Or.inl ⟨by rfl, ?_⟩) ?_ ?_
        rotate_left
        ·intro w'
         go_simp
         with_reducible rfl
        rotate_left
        ·simp only [Act.put, List.setIfInBounds_toArray, List.set_cons_zero, List.set_cons_succ, i64_w, i32_w]
         rfl
        refine pure_ (i := 6) (N := some 43) (v := ?_) (a' := ?_) #[true, true, true, false, true, true, true, false, false] rfl rfl (any_of HT_.out (by kernel_rfl)) (fun _ _ _ h => h) (Or.inl ⟨by rfl, ?_⟩) ?_ ?_
        rotate_left
        ·intro w'
         go_simp
         with_reducible rfl
        rotate_left
        ·simp only [Act.put, List.setIfInBounds_toArray, List.set_cons_zero, List.set_cons_succ, i64_w, i32_w]
         rfl
        refine take_ (i := 3) (N := some 40) (v := ?_) (a' := ?_) #[true, true, true, true, true, true, true, false, false] rfl rfl (take_ofW HT_.out HW_.out (by kernel_rfl)) (fun _ _ _ h => h) (Or.inl ⟨by rfl, ?_⟩) hHeld ?_ ?_
        rotate_left
        ·rintro w' ⟨s0, s1, s2, s3⟩
         go_simp
         with_reducible rfl
        rotate_left
        ·simp only [Act.put, List.setIfInBounds_toArray, List.set_cons_zero, List.set_cons_succ, i64_w, i32_w]
         rfl
        refine take_ (i := 7) (N := some 44) (v := ?_) (a' := ?_) #[true, true, true, true, true, true, true, true, false] rfl rfl (take_ofW HT_.out HW_.out (by kernel_rfl)) (fun _ _ _ h => h) (Or.inl ⟨by rfl, ?_⟩) hHeld ?_ ?_
        rotate_left
        ·rintro w' ⟨s0, s1, s2, s3⟩
         go_simp
         with_reducible rfl
        rotate_left
        ·simp only [Act.put, List.setIfInBounds_toArray, List.set_cons_zero, List.set_cons_succ, i64_w, i32_w]
         rfl
        refine one_ (i := 8) (N := some 45) #[true, true, true, true, true, true, true, true, true] rfl rfl (one_of HT_.out (by kernel_rfl)) (by decide) (fun K hK => ?_)
        refine goes_ Try.func65 (by kernel_rfl) rfl #[.agg #[.int .i64 ((rd_T57 t190 x6_1).f0), .int .i64 ((rd_T57 t190 x6_1).f1)], .agg #[.int .i64 ((rd_T57 t190 x7_2).f0), .int .i64 ((rd_T57 t190 x7_2).f1)]] (by rfl) rfl rfl (by (try simp only [List.map_toArray, List.map_cons, List.map_nil]); first | done | rfl | (simp only [List.length_drop, List.length_take]; rfl)) ?_
        with_reducible refine (bibelotref07_Cross.calls ((rd_T57 t190 x6_1).f0) ((rd_T57 t190 x6_1).f1) ((rd_T57 t190 x7_2).f0) ((rd_T57 t190 x7_2).f1) true _ A16.out).mono ?_
        rintro e w20 ⟨rfl, hb⟩
        have HS0_ := (hb.cell (World.block_lt_of_cell? _ _ (hHeld.1))).trans (hHeld.1)
        have HS1_ := (hb.cell (World.block_lt_of_cell? _ _ (hHeld.2.1))).trans (hHeld.2.1)
        have HS2_ := (hb.cell (World.block_lt_of_cell? _ _ (hHeld.2.2.1))).trans (hHeld.2.2.1)
        have HS3_ := (hb.cell (World.block_lt_of_cell? _ _ (hHeld.2.2.2))).trans (hHeld.2.2.2)
        refine ⟨_, rfl, ?_⟩
        have n0_ := Aside0.mk (Kd.R_below (by exact HO_3.out) hb)
        have n1_ := Aside0.mk (Kd.R_below (by exact HO_4.out) hb)
        have n2_ := Aside0.mk (Kd.R_below (by exact HO_5.out) hb)
        have n3_ := Aside0.mk (blk_below (g := gb189) (o := .cells #[.int .i64 0, .int .i64 0, .int .i64 0, .bool false] 31 (0, 0)) (by exact BK189.out) hb)
        have n4_ := Aside0.mk (below_step (by exact HB.out) hb)
        clear HO_3
        clear HO_4
        clear HO_5
        clear BK189
        clear HB
        have HO_3 := n0_
        have HO_4 := n1_
        have HO_5 := n2_
        have BK189 := n3_
        have HB := n4_
        clear n0_ n1_ n2_ n3_ n4_
        (try clear hb)
        (try clear hb2)
        (try clear hk)
        (try clear hi)
        refine hK.out _ _ ⟨HS0_, HS1_, HS2_, HS3_⟩ (fun hHeld => ?_)
        clear hK K
        refine norm_ (a' := ?_) ?_ ?_
        rotate_left
        ·show Act.put _ (some 45) _ = _
         simp only [Act.put, List.setIfInBounds_toArray, List.set_cons_zero, List.set_cons_succ, i64_w, i32_w]
         rfl
        refine done_ (done_of HT_.out (by kernel_rfl)) ?_
        obtain ⟨Ao21, co21, eo21⟩ := Kd.R_slice HO_5.out
        subst eo21
        try go_wp2_with (first|((with_reducible refine gate_callee (f := 66) rfl ?_);refine goesL_ (some 49) rfl rfl Try.func66 (by kernel_rfl) rfl #[.slice Ao21 x5_2.length co21, .int .i64 x6_1, .int .i64 x7_2] rfl (by (try simp only [List.map_toArray, List.map_cons, List.map_nil]);first|done|rfl|(simp only [List.length_drop, List.length_take];rfl)) ?_;(with_reducible refine (bibelotref07_joined.calls k2 _ _ x5_2 x6_1 x7_2 t202 _ ?side1 ?side2 A18.out).mono ?_);(case side1 => repeat (first|exact (Kd.R_reads' HO_5.out).2.2|(with_reducible refine Kd.C_alloc ?_ _)|(with_reducible refine Kd.C_drewN ?_ _)|(with_reducible refine Kd.C_drew ?_)));(case side2 => exact (Kd.R_reads' HO_5.out).2.1);rintro e w22 ⟨v203, rfl, ho0, hb⟩;refine ⟨_, rfl, ?_⟩;have n0_ := Aside0.mk (Kd.R_below (by (with_reducible repeat (first|apply Kd.R_alloc|apply Kd.R_drewN|apply Kd.R_drew));exact HO_3.out) hb);have n1_ := Aside0.mk (Kd.R_elder' (by (with_reducible repeat (first|apply Kd.R_alloc|apply Kd.R_drewN|apply Kd.R_drew));exact HO_4.out) (Kd.R_base ho0) hb);have n2_ := Aside0.mk (Kd.R_elder' (by (with_reducible repeat (first|apply Kd.R_alloc|apply Kd.R_drewN|apply Kd.R_drew));exact HO_5.out) (Kd.R_base ho0) hb);have n3_ := Aside0.mk (Kd.R_lower (Kd.R_new' (Kd.R_new' ho0 (Kd.R_lt (by (with_reducible repeat (first|apply Kd.R_alloc|apply Kd.R_drewN|apply Kd.R_drew));exact HO_4.out))) (Kd.R_lt (by (with_reducible repeat (first|apply Kd.R_alloc|apply Kd.R_drewN|apply Kd.R_drew));exact HO_5.out))) (below_size (by repeat (first|(with_reducible first|exact HB.out|apply below_alloc|apply pw_below_drewN|apply below_drew1|refine below_set ?_ GE189.out)|exact HB.out))));have n4_ := Aside0.mk (blk_below (g := gb189) (o := .cells #[.int .i64 0, .int .i64 0, .int .i64 0, .bool false] 31 (0, 0)) (by (with_reducible repeat (first|refine blk_drewN ?_ _|refine blk_drew ?_|refine blk_alloc ?_ _));exact BK189.out) hb);have n5_ := Aside0.mk (below_step (by repeat (first|(with_reducible first|exact HB.out|apply below_alloc|apply pw_below_drewN|apply below_drew1|refine below_set ?_ GE189.out)|exact HB.out)) hb);clear HO_3;clear HO_4;clear HO_5;clear BK189;clear HB;have HO_3 := n0_;have HO_4 := n1_;have HO_5 := n2_;have HO204 := n3_;have BK189 := n4_;have HB := n5_;clear n0_ n1_ n2_ n3_ n4_ n5_;(try clear hb);(try clear ho0)))
        go_roundg k2
        case measure => have := HK1.out; have := HK2.out; omega
        case rel => exact ⟨(t202), (wrap64 (x7_2 + 1)), (by first | rfl | (simp; done) | (simp [*]; done)), H', ⟨by have := HK1.out; have := HK2.out; omega⟩, ⟨by exact HO_3.out⟩, ⟨by exact Kd.R_mono HO_4.out (fun _ hk => by first | trivial | exact hk.2)⟩, ⟨by exact Kd.R_mono HO204.out (fun _ hk => by first | trivial | exact hk.1.2)⟩, ⟨by exact BK189.out⟩, ⟨by exact HB.out⟩⟩
       ·replace c17 := Bool.eq_false_iff.mpr c17
        subst c17
        have H1 : (bibelotref07_Components.l1 k2 l0 t190 t193 x5_2 x6_1 (wrap64 (x7_2 + 1))) = some (r1, r2, r3, r4) := by rw [if_neg (show ¬ (false = true) by decide)] at H; exact H
        clear H
        have H := H1
        clear H1
        have H' := Aside0.mk H
        clear H
        try go_wp2
        have n0_ := Aside0.mk (Kd.R_drew HO_3.out)
        have n1_ := Aside0.mk (Kd.R_drew HO_4.out)
        have n2_ := Aside0.mk (Kd.R_drew HO_5.out)
        have n3_ := Aside0.mk (blk_drew BK189.out)
        have n4_ := Aside0.mk (below_drew1 HB.out)
        clear HO_3
        clear HO_4
        clear HO_5
        clear BK189
        clear HB
        have HO_3 := n0_
        have HO_4 := n1_
        have HO_5 := n2_
        have BK189 := n3_
        have HB := n4_
        clear n0_ n1_ n2_ n3_ n4_
        have p199 : 0 ≤ (x6_1 : Int) := of_decide_eq_true (by first | (with_reducible assumption) | assumption)
        have q199 : x6_1 < (t190.length : Int) := of_decide_eq_true (by first | (with_reducible assumption) | assumption)
        obtain ⟨ad199, e199, hx199_0, hx199_1⟩ := at_T57 (Kd.R_reads' HO_3.out).2.2 x6_1 p199 q199
        cases e199
        replace p199 := eq_true p199
        replace q199 := eq_true q199
        have p200 : 0 ≤ (x7_2 : Int) := of_decide_eq_true (by first | (with_reducible assumption) | assumption)
        have q200 : x7_2 < (t190.length : Int) := of_decide_eq_true (by first | (with_reducible assumption) | assumption)
        obtain ⟨ad200, e200, hx200_0, hx200_1⟩ := at_T57 (Kd.R_reads' HO_3.out).2.2 x7_2 p200 q200
        obtain rfl : ad199 = ad200 := (by injection e200)
        replace p200 := eq_true p200
        replace q200 := eq_true q200
        refine start_ (n := 9) (S := fun w' => w'.cell? (ad199.add ((x6_1).toNat * 2)) = some (.int .i64 ((rd_T57 t190 x6_1).f0)) ∧ w'.cell? ⟨(ad199.add ((x6_1).toNat * 2)).block, (ad199.add ((x6_1).toNat * 2)).off + 1, none⟩ = some (.int .i64 ((rd_T57 t190 x6_1).f1)) ∧ w'.cell? (ad199.add ((x7_2).toNat * 2)) = some (.int .i64 ((rd_T57 t190 x7_2).f0)) ∧ w'.cell? ⟨(ad199.add ((x7_2).toNat * 2)).block, (ad199.add ((x7_2).toNat * 2)).off + 1, none⟩ = some (.int .i64 ((rd_T57 t190 x7_2).f1))) (ds := []) #[false, false, false, false, false, false, false, false, false] (by kernel_rfl) rfl rfl ⟨hx199_0, hx199_1, hx200_0, hx200_1⟩ (fun hHeld => ?_);refine with_tabW bibelotref07_Components.tab9 bibelotref07_Components.bits9 (fun HT_ HW_ => ?_)
        generalize wr.drew = w23 at HO_3 HO_4 HO_5 BK189 HB hx199_0 hx199_1 hx200_0 hx200_1 hHeld ⊢
        refine pure_ (i := 0) (N := some 37) (v := ?_) (a' := ?_) #[true, false, false, false, false, false, false, false, false] rfl rfl (any_of HT_.out (by kernel_rfl)) (fun _ _ _ h => h) (Or.inl ⟨by rfl, ?_⟩) ?_ ?_
        rotate_left
        ·intro w'
         go_simp
         with_reducible rfl
        rotate_left
        ·simp only [Act.put, List.setIfInBounds_toArray, List.set_cons_zero, List.set_cons_succ, i64_w, i32_w]
         rfl
        refine pure_ (i := 1) (N := some 38) (v := ?_) (a' := ?_) #[true, true, false, false, false, false, false, false, false] rfl rfl (any_of HT_.out (by kernel_rfl)) (fun _ _ _ h => h) (Or.inl ⟨by rfl, ?_⟩) ?_ ?_
        rotate_left
        ·intro w'
         go_simp
         with_reducible rfl
        rotate_left
        ·simp only [Act.put, List.setIfInBounds_toArray, List.set_cons_zero, List.set_cons_succ, i64_w, i32_w]
         rfl
        refine pure_ (i := 2) (N := some 39) (v := ?_) (a' := ?_) #[true, true, true, false, false, false, false, false, false] rfl rfl (any_of HT_.out (by kernel_rfl)) (fun _ _ _ h => h) (Or.inl ⟨by rfl, ?_⟩) ?_ ?_
        rotate_left
        ·intro w'
         go_simp
         with_reducible rfl
        rotate_left
        ·simp only [Act.put, List.setIfInBounds_toArray, List.set_cons_zero, List.set_cons_succ, i64_w, i32_w]
         rfl
        refine pure_ (i := 4) (N := some 41) (v := ?_) (a' := ?_) #[true, true, true, false, true, false, false, false, false] rfl rfl (any_of HT_.out (by kernel_rfl)) (fun _ _ _ h => h) (Or.inl ⟨by rfl, ?_⟩) ?_ ?_
        rotate_left
        ·intro w'
         go_simp
         with_reducible rfl
        rotate_left
        ·simp only [Act.put, List.setIfInBounds_toArray, List.set_cons_zero, List.set_cons_succ, i64_w, i32_w]
         rfl
        refine pure_ (i := 5) (N := some 42) (v := ?_) (a' := ?_) #[true, true, true, false, true, true, false, false, false] rfl rfl (any_of HT_.out (by kernel_rfl)) (fun _ _ _ h => h) (Or.inl ⟨by rfl, ?_⟩) ?_ ?_
        rotate_left
        ·intro w'
         go_simp
         with_reducible rfl
        rotate_left
        ·simp only [Act.put, List.setIfInBounds_toArray, List.set_cons_zero, List.set_cons_succ, i64_w, i32_w]
         rfl
        refine pure_ (i := 6) (N := some 43) (v := ?_) (a' := ?_) #[true, true, true, false, true, true, true, false, false] rfl rfl (any_of HT_.out (by kernel_rfl)) (fun _ _ _ h => h) (Or.inl ⟨by rfl, ?_⟩) ?_ ?_
        rotate_left
        ·intro w'
         go_simp
         with_reducible rfl
        rotate_left
        ·simp only [Act.put, List.setIfInBounds_toArray, List.set_cons_zero, List.set_cons_succ, i64_w, i32_w]
         rfl
        refine take_ (i := 3) (N := some 40) (v := ?_) (a' := ?_) #[true, true, true, true, true, true, true, false, false] rfl rfl (take_ofW HT_.out HW_.out (by kernel_rfl)) (fun _ _ _ h => h) (Or.inl ⟨by rfl, ?_⟩) hHeld ?_ ?_
        rotate_left
        ·rintro w' ⟨s0, s1, s2, s3⟩
         go_simp
         with_reducible rfl
        rotate_left
        ·simp only [Act.put, List.setIfInBounds_toArray, List.set_cons_zero, List.set_cons_succ, i64_w, i32_w]
         rfl
        refine take_ (i := 7) (N := some 44) (v := ?_) (a' := ?_) #[true, true, true, true, true, true, true, true, false] rfl rfl (take_ofW HT_.out HW_.out (by kernel_rfl)) (fun _ _ _ h => h) (Or.inl ⟨by rfl, ?_⟩) hHeld ?_ ?_
        rotate_left
        ·rintro w' ⟨s0, s1, s2, s3⟩
         go_simp
         with_reducible rfl
        rotate_left
        ·simp only [Act.put, List.setIfInBounds_toArray, List.set_cons_zero, List.set_cons_succ, i64_w, i32_w]
         rfl
        refine one_ (i := 8) (N := some 45) #[true, true, true, true, true, true, true, true, true] rfl rfl (one_of HT_.out (by kernel_rfl)) (by decide) (fun K hK => ?_)
        refine goes_ Try.func65 (by kernel_rfl) rfl #[.agg #[.int .i64 ((rd_T57 t190 x6_1).f0), .int .i64 ((rd_T57 t190 x6_1).f1)], .agg #[.int .i64 ((rd_T57 t190 x7_2).f0), .int .i64 ((rd_T57 t190 x7_2).f1)]] (by rfl) rfl rfl (by (try simp only [List.map_toArray, List.map_cons, List.map_nil]); first | done | rfl | (simp only [List.length_drop, List.length_take]; rfl)) ?_
        with_reducible refine (bibelotref07_Cross.calls ((rd_T57 t190 x6_1).f0) ((rd_T57 t190 x6_1).f1) ((rd_T57 t190 x7_2).f0) ((rd_T57 t190 x7_2).f1) false _ A16.out).mono ?_
        rintro e w24 ⟨rfl, hb⟩
        have HS0_ := (hb.cell (World.block_lt_of_cell? _ _ (hHeld.1))).trans (hHeld.1)
        have HS1_ := (hb.cell (World.block_lt_of_cell? _ _ (hHeld.2.1))).trans (hHeld.2.1)
        have HS2_ := (hb.cell (World.block_lt_of_cell? _ _ (hHeld.2.2.1))).trans (hHeld.2.2.1)
        have HS3_ := (hb.cell (World.block_lt_of_cell? _ _ (hHeld.2.2.2))).trans (hHeld.2.2.2)
        refine ⟨_, rfl, ?_⟩
        have n0_ := Aside0.mk (Kd.R_below (by exact HO_3.out) hb)
        have n1_ := Aside0.mk (Kd.R_below (by exact HO_4.out) hb)
        have n2_ := Aside0.mk (Kd.R_below (by exact HO_5.out) hb)
        have n3_ := Aside0.mk (blk_below (g := gb189) (o := .cells #[.int .i64 0, .int .i64 0, .int .i64 0, .bool false] 31 (0, 0)) (by exact BK189.out) hb)
        have n4_ := Aside0.mk (below_step (by exact HB.out) hb)
        clear HO_3
        clear HO_4
        clear HO_5
        clear BK189
        clear HB
        have HO_3 := n0_
        have HO_4 := n1_
        have HO_5 := n2_
        have BK189 := n3_
        have HB := n4_
        clear n0_ n1_ n2_ n3_ n4_
        (try clear hb)
        (try clear hb2)
        (try clear hk)
        (try clear hi)
        refine hK.out _ _ ⟨HS0_, HS1_, HS2_, HS3_⟩ (fun hHeld => ?_)
        clear hK K
        refine norm_ (a' := ?_) ?_ ?_
        rotate_left
        ·show Act.put _ (some 45) _ = _
         simp only [Act.put, List.setIfInBounds_toArray, List.set_cons_zero, List.set_cons_succ, i64_w, i32_w]
         rfl
        refine done_ (done_of HT_.out (by kernel_rfl)) ?_
        try go_wp2
        go_roundg k2
        case measure => have := HK1.out; have := HK2.out; omega
        case rel => exact ⟨(x5_2), (wrap64 (x7_2 + 1)), (by first | rfl | (simp; done) | (simp [*]; done)), H', ⟨by have := HK1.out; have := HK2.out; omega⟩, ⟨by exact HO_3.out⟩, ⟨by exact HO_4.out⟩, ⟨by exact HO_5.out⟩, ⟨by exact BK189.out⟩, ⟨by exact HB.out⟩⟩
      ·rw [if_neg c11] at H
       have c11b0 : decide (x7_2 < x6_1) = false := decide_eq_false c11
       clear c11
       have H' := Aside0.mk H
       clear H
       go_wp2
       go_roundg k2
       case measure => have := HK1.out; have := HK2.out; omega
       case rel => exact ⟨(x5_2), (wrap64 (x6_1 + 1)), (by first | rfl | (simp; done) | (simp [*]; done)), H', ⟨by have := HK1.out; have := HK2.out; omega⟩, ⟨by exact HO_3.out⟩, ⟨by exact HO_4.out⟩, ⟨by exact HO_5.out⟩, ⟨by exact BK189.out⟩, ⟨by exact HB.out⟩⟩
   ·rw [if_neg c9] at H
    have c9b0 : decide (x6_1 < (t190.length : Int)) = false := decide_eq_false c9
    clear c9
    by_cases c25 : 0 ≤ (t190.length : Int)
    rotate_left
    ·rw [if_neg c25] at H
     exact absurd H (by simp)
    rw [if_pos c25] at H
    have c25b0 := eq_true c25
    have c25b1 : decide (0 ≤ (t190.length : Int)) = true := decide_eq_true c25
    clear c25
    by_cases c26 : ((t190.length : Int) : Int).toNat ≤ 281474976710656
    rotate_left
    ·rw [if_neg c26] at H
     exact absurd H (by simp)
    rw [if_pos c26] at H
    have c26b0 := eq_true c26
    have c26b1 : decide (((t190.length : Int) : Int).toNat ≤ 281474976710656) = true := decide_eq_true c26
    clear c26
    obtain ⟨y205, hy205⟩ : ∃ y_ : List Bool, y_ = (List.replicate ((t190.length : Int) : Int).toNat false) := ⟨_, rfl⟩
    replace H : (bibelotref07_Components.l2 k1 l0 t190 t193 x5_1 (t190.length : Int) y205 (List.replicate ((t190.length : Int) : Int).toNat false) 0) = some (r1, r2, r3, r4) := by first | (rw [hy205]; with_reducible exact H) | (have H2_ := (Option.bind_some _ _).symm.trans H; rw [hy205]; with_reducible exact H2_) | (have H2_ := (Option.bind_some _ _).symm.trans H; with_reducible exact H2_) | with_reducible exact H | (rw [hy205]; exact H) | exact H
    have Ny205 := Aside0.mk hy205
    clear hy205
    obtain ⟨y208, hy208⟩ : ∃ y_ : List Bool, y_ = (List.replicate ((t190.length : Int) : Int).toNat false) := ⟨_, rfl⟩
    replace H : (bibelotref07_Components.l2 k1 l0 t190 t193 x5_1 (t190.length : Int) y205 y208 0) = some (r1, r2, r3, r4) := by first | (rw [hy208]; with_reducible exact H) | (have H2_ := (Option.bind_some _ _).symm.trans H; rw [hy208]; with_reducible exact H2_) | (have H2_ := (Option.bind_some _ _).symm.trans H; with_reducible exact H2_) | with_reducible exact H | (rw [hy208]; exact H) | exact H
    have Ny208 := Aside0.mk hy208
    clear hy208
    have H' := Aside0.mk H
    clear H
    obtain ⟨Ao27, co27, eo27⟩ := Kd.R_slice HO_3.out
    subst eo27
    try go_wp2
    have n0_ := Aside0.mk (Kd.R_drew HO_3.out)
    have n1_ := Aside0.mk (Kd.R_drew HO_4.out)
    have n2_ := Aside0.mk (Kd.R_drew HO_5.out)
    have n3_ := Aside0.mk (blk_drew BK189.out)
    have n4_ := Aside0.mk (below_drew1 HB.out)
    clear HO_3
    clear HO_4
    clear HO_5
    clear BK189
    clear HB
    have HO_3 := n0_
    have HO_4 := n1_
    have HO_5 := n2_
    have BK189 := n3_
    have HB := n4_
    clear n0_ n1_ n2_ n3_ n4_
    refine start_ (n := 6) (S := fun w' => True) (ds := []) #[false, false, false, false, false, false] (by kernel_rfl) rfl rfl trivial (fun hHeld => ?_)
    generalize wr.drew = w28 at HO_3 HO_4 HO_5 BK189 HB hHeld ⊢
    refine pure_ (i := 0) (N := some 52) (v := ?_) (a' := ?_) #[true, false, false, false, false, false] rfl rfl (by kernel_rfl) (fun _ _ _ h => h) (Or.inl ⟨by rfl, ?_⟩) ?_ ?_
    rotate_left
    ·intro w'
     go_simp
     with_reducible rfl
    rotate_left
    ·simp only [Act.put, List.setIfInBounds_toArray, List.set_cons_zero, List.set_cons_succ, i64_w, i32_w]
     rfl
    refine pure_ (i := 2) (N := some 54) (v := ?_) (a' := ?_) #[true, false, true, false, false, false] rfl rfl (by kernel_rfl) (fun _ _ _ h => h) (Or.inl ⟨by rfl, ?_⟩) ?_ ?_
    rotate_left
    ·intro w'
     go_simp
     with_reducible rfl
    rotate_left
    ·simp only [Act.put, List.setIfInBounds_toArray, List.set_cons_zero, List.set_cons_succ, i64_w, i32_w]
     rfl
    refine join_ (σ := Value × Value) 1 #[true, true, true, true, true, false] (fun s_ => [(53, s_.1), (55, s_.2), (9, s_.1)]) (fun s_ w' => (Kd.R Kd.bool 4 w' w.heap.size (fun k_ => some k_ ≠ (s_.2 : Value).ownBlock) s_.1 y205) ∧ (Kd.R Kd.bool 4 w' w.heap.size (fun k_ => some k_ ≠ (s_.1 : Value).ownBlock) s_.2 y208) ∧ (Kd.R k57 57 w' w.heap.size (fun _ => True) (.slice Ao27 t190.length co27) t190) ∧ (Kd.R (Kd.int .i64) 3 w' w.heap.size (fun _ => True) v194 t193) ∧ (Kd.R (Kd.int .i64) 3 w' w.heap.size (fun _ => True) u5 x5_1) ∧ (w'.heap[gb189]? = some (.cells #[.int .i64 0, .int .i64 0, .int .i64 0, .bool false] 31 (0, 0))) ∧ (Below w.heap.size w w')) ?_ ?_
    rotate_left
    ·intro hCont
     refine two_ (i := 1) (j := 3) (Ni := some 53) (Nj := some 55) #[true, true, true, false, false, false] #[true, false, true, true, false, false] rfl rfl rfl rfl (by kernel_rfl) (by decide) (by decide) (fun K hK => ?_) (fun K hK => ?_)
     ·skip
      refine Kd.R_make_step Kd.bool _ 4 (by rfl) (N := 53) rfl 62 _ _ rfl (t190.length : Int) rfl rfl Try.underlying62 (.bool false) 1 info4 rfl (by decide) (by omega) false (ok := fun _ => True) (okp := fun _ => True) rfl (fun _ hk => by first | trivial | exact hk) trivial (of_decide_eq_true (by first | (with_reducible assumption) | assumption)) (Nat.le_trans (Nat.mul_le_mul_right _ (of_decide_eq_true (by first | (with_reducible assumption) | assumption) : (t190.length : Int).toNat ≤ 281474976710656)) (by omega)) (Below.refl _ _) (Nat.le_refl _) ?_
      intro v206 w29 ho30 hb hg_ hnew_
      clear hg_ hnew_
      (first | rw [← Ny205.out] at ho30 | (simp only [Int.reduceToNat] at ho30; rw [← Ny205.out] at ho30))
      have n0_ := Aside0.mk (Kd.R_below (by exact HO_3.out) hb)
      have n1_ := Aside0.mk (Kd.R_below (by exact HO_4.out) hb)
      have n2_ := Aside0.mk (Kd.R_below (by exact HO_5.out) hb)
      have n3_ := Aside0.mk (Kd.R_lower ho30 (below_size (by exact HB.out)))
      have n4_ := Aside0.mk (blk_below (g := gb189) (o := .cells #[.int .i64 0, .int .i64 0, .int .i64 0, .bool false] 31 (0, 0)) (by exact BK189.out) hb)
      have n5_ := Aside0.mk (below_step (by exact HB.out) hb)
      clear HO_3
      clear HO_4
      clear HO_5
      clear BK189
      clear HB
      have HO_3 := n0_
      have HO_4 := n1_
      have HO_5 := n2_
      have HO207 := n3_
      have BK189 := n4_
      have HB := n5_
      clear n0_ n1_ n2_ n3_ n4_ n5_
      clear hb ho30
      refine hK.out _ _ trivial (fun hHeld => ?_)
      clear hK K
      refine norm_ (a' := ?_) ?_ ?_
      rotate_left
      ·show Act.put _ (some 53) _ = _
       simp only [Act.put, List.setIfInBounds_toArray, List.set_cons_zero, List.set_cons_succ, i64_w, i32_w]
       rfl
      refine pure_ (i := 4) (N := some 9) (v := ?_) (a' := ?_) #[true, true, true, false, true, false] rfl rfl (by kernel_rfl) (fun _ _ _ h => h) (Or.inl ⟨by rfl, ?_⟩) ?_ ?_
      rotate_left
      ·intro w'
       go_simp
       with_reducible rfl
      rotate_left
      ·simp only [Act.put, List.setIfInBounds_toArray, List.set_cons_zero, List.set_cons_succ, i64_w, i32_w]
       rfl
      refine one_ (i := 3) (N := some 55) #[true, true, true, true, true, false] rfl rfl (by kernel_rfl) (by decide) (fun K hK => ?_)
      refine Kd.R_make_step Kd.bool _ 4 (by rfl) (N := 55) rfl 62 _ _ rfl (t190.length : Int) rfl rfl Try.underlying62 (.bool false) 1 info4 rfl (by decide) (by omega) false (ok := fun _ => True) (okp := fun _ => True) rfl (fun _ hk => by first | trivial | exact hk) trivial (of_decide_eq_true (by first | (with_reducible assumption) | assumption)) (Nat.le_trans (Nat.mul_le_mul_right _ (of_decide_eq_true (by first | (with_reducible assumption) | assumption) : (t190.length : Int).toNat ≤ 281474976710656)) (by omega)) (Below.refl _ _) (Nat.le_refl _) ?_
      intro v209 w31 ho32 hb hg_ hnew_
      clear hg_ hnew_
      (first | rw [← Ny208.out] at ho32 | (simp only [Int.reduceToNat] at ho32; rw [← Ny208.out] at ho32))
      have n0_ := Aside0.mk (Kd.R_below (by exact HO_3.out) hb)
      have n1_ := Aside0.mk (Kd.R_below (by exact HO_4.out) hb)
      have n2_ := Aside0.mk (Kd.R_below (by exact HO_5.out) hb)
      have n3_ := Aside0.mk (Kd.R_elder' (by exact HO207.out) (Kd.R_base ho32) hb)
      have n4_ := Aside0.mk (Kd.R_lower (Kd.R_new' ho32 (Kd.R_lt (by exact HO207.out))) (below_size (by exact HB.out)))
      have n5_ := Aside0.mk (blk_below (g := gb189) (o := .cells #[.int .i64 0, .int .i64 0, .int .i64 0, .bool false] 31 (0, 0)) (by exact BK189.out) hb)
      have n6_ := Aside0.mk (below_step (by exact HB.out) hb)
      clear HO_3
      clear HO_4
      clear HO_5
      clear HO207
      clear BK189
      clear HB
      have HO_3 := n0_
      have HO_4 := n1_
      have HO_5 := n2_
      have HO207 := n3_
      have HO210 := n4_
      have BK189 := n5_
      have HB := n6_
      clear n0_ n1_ n2_ n3_ n4_ n5_ n6_
      clear hb ho32
      refine hK.out _ _ trivial (fun hHeld => ?_)
      clear hK K
      refine norm_ (a' := ?_) ?_ ?_
      rotate_left
      ·show Act.put _ (some 55) _ = _
       simp only [Act.put, List.setIfInBounds_toArray, List.set_cons_zero, List.set_cons_succ, i64_w, i32_w]
       rfl
      exact norm_ (by simp only [putAll, Act.put, List.setIfInBounds_toArray, List.set_cons_zero, List.set_cons_succ]) (hCont (v206, v209) _ ⟨(by exact Kd.R_mono HO207.out (fun _ hk => by first | trivial | exact hk.2)), (by exact Kd.R_mono HO210.out (fun _ hk => by first | trivial | exact hk.2)), (by exact HO_3.out), (by exact HO_4.out), (by exact HO_5.out), (by exact BK189.out), (by exact HB.out)⟩)
     ·skip
      refine Kd.R_make_step Kd.bool _ 4 (by rfl) (N := 55) rfl 62 _ _ rfl (t190.length : Int) rfl rfl Try.underlying62 (.bool false) 1 info4 rfl (by decide) (by omega) false (ok := fun _ => True) (okp := fun _ => True) rfl (fun _ hk => by first | trivial | exact hk) trivial (of_decide_eq_true (by first | (with_reducible assumption) | assumption)) (Nat.le_trans (Nat.mul_le_mul_right _ (of_decide_eq_true (by first | (with_reducible assumption) | assumption) : (t190.length : Int).toNat ≤ 281474976710656)) (by omega)) (Below.refl _ _) (Nat.le_refl _) ?_
      intro v209 w29 ho30 hb hg_ hnew_
      clear hg_ hnew_
      (first | rw [← Ny208.out] at ho30 | (simp only [Int.reduceToNat] at ho30; rw [← Ny208.out] at ho30))
      have n0_ := Aside0.mk (Kd.R_below (by exact HO_3.out) hb)
      have n1_ := Aside0.mk (Kd.R_below (by exact HO_4.out) hb)
      have n2_ := Aside0.mk (Kd.R_below (by exact HO_5.out) hb)
      have n3_ := Aside0.mk (Kd.R_lower ho30 (below_size (by exact HB.out)))
      have n4_ := Aside0.mk (blk_below (g := gb189) (o := .cells #[.int .i64 0, .int .i64 0, .int .i64 0, .bool false] 31 (0, 0)) (by exact BK189.out) hb)
      have n5_ := Aside0.mk (below_step (by exact HB.out) hb)
      clear HO_3
      clear HO_4
      clear HO_5
      clear BK189
      clear HB
      have HO_3 := n0_
      have HO_4 := n1_
      have HO_5 := n2_
      have HO210 := n3_
      have BK189 := n4_
      have HB := n5_
      clear n0_ n1_ n2_ n3_ n4_ n5_
      clear hb ho30
      refine hK.out _ _ trivial (fun hHeld => ?_)
      clear hK K
      refine norm_ (a' := ?_) ?_ ?_
      rotate_left
      ·show Act.put _ (some 55) _ = _
       simp only [Act.put, List.setIfInBounds_toArray, List.set_cons_zero, List.set_cons_succ, i64_w, i32_w]
       rfl
      refine one_ (i := 1) (N := some 53) #[true, true, true, true, false, false] rfl rfl (by kernel_rfl) (by decide) (fun K hK => ?_)
      refine Kd.R_make_step Kd.bool _ 4 (by rfl) (N := 53) rfl 62 _ _ rfl (t190.length : Int) rfl rfl Try.underlying62 (.bool false) 1 info4 rfl (by decide) (by omega) false (ok := fun _ => True) (okp := fun _ => True) rfl (fun _ hk => by first | trivial | exact hk) trivial (of_decide_eq_true (by first | (with_reducible assumption) | assumption)) (Nat.le_trans (Nat.mul_le_mul_right _ (of_decide_eq_true (by first | (with_reducible assumption) | assumption) : (t190.length : Int).toNat ≤ 281474976710656)) (by omega)) (Below.refl _ _) (Nat.le_refl _) ?_
      intro v206 w31 ho32 hb hg_ hnew_
      clear hg_ hnew_
      (first | rw [← Ny205.out] at ho32 | (simp only [Int.reduceToNat] at ho32; rw [← Ny205.out] at ho32))
      have n0_ := Aside0.mk (Kd.R_below (by exact HO_3.out) hb)
      have n1_ := Aside0.mk (Kd.R_below (by exact HO_4.out) hb)
      have n2_ := Aside0.mk (Kd.R_below (by exact HO_5.out) hb)
      have n3_ := Aside0.mk (Kd.R_elder' (by exact HO210.out) (Kd.R_base ho32) hb)
      have n4_ := Aside0.mk (Kd.R_lower (Kd.R_new' ho32 (Kd.R_lt (by exact HO210.out))) (below_size (by exact HB.out)))
      have n5_ := Aside0.mk (blk_below (g := gb189) (o := .cells #[.int .i64 0, .int .i64 0, .int .i64 0, .bool false] 31 (0, 0)) (by exact BK189.out) hb)
      have n6_ := Aside0.mk (below_step (by exact HB.out) hb)
      clear HO_3
      clear HO_4
      clear HO_5
      clear HO210
      clear BK189
      clear HB
      have HO_3 := n0_
      have HO_4 := n1_
      have HO_5 := n2_
      have HO210 := n3_
      have HO207 := n4_
      have BK189 := n5_
      have HB := n6_
      clear n0_ n1_ n2_ n3_ n4_ n5_ n6_
      clear hb ho32
      refine hK.out _ _ trivial (fun hHeld => ?_)
      clear hK K
      refine norm_ (a' := ?_) ?_ ?_
      rotate_left
      ·show Act.put _ (some 53) _ = _
       simp only [Act.put, List.setIfInBounds_toArray, List.set_cons_zero, List.set_cons_succ, i64_w, i32_w]
       rfl
      refine pure_ (i := 4) (N := some 9) (v := ?_) (a' := ?_) #[true, true, true, true, true, false] rfl rfl (by kernel_rfl) (fun _ _ _ h => h) (Or.inl ⟨by rfl, ?_⟩) ?_ ?_
      rotate_left
      ·intro w'
       go_simp
       with_reducible rfl
      rotate_left
      ·simp only [Act.put, List.setIfInBounds_toArray, List.set_cons_zero, List.set_cons_succ, i64_w, i32_w]
       rfl
      exact norm_ (by simp only [putAll, Act.put, List.setIfInBounds_toArray, List.set_cons_zero, List.set_cons_succ]) (hCont (v206, v209) _ ⟨(by exact Kd.R_mono HO207.out (fun _ hk => by first | trivial | exact hk.2)), (by exact Kd.R_mono HO210.out (fun _ hk => by first | trivial | exact hk.2)), (by exact HO_3.out), (by exact HO_4.out), (by exact HO_5.out), (by exact BK189.out), (by exact HB.out)⟩)
    rintro ⟨v206, v209⟩ w33 ⟨h0_, h1_, h2_, h3_, h4_, h5_, h6_⟩
    have n0_ : Aside0 (Kd.R Kd.bool 4 w33 w.heap.size (fun k_ => some k_ ≠ (v209 : Value).ownBlock) v206 y205) := ⟨h0_⟩
    have n1_ : Aside0 (Kd.R Kd.bool 4 w33 w.heap.size (fun k_ => some k_ ≠ (v206 : Value).ownBlock) v209 y208) := ⟨h1_⟩
    have n2_ : Aside0 (Kd.R k57 57 w33 w.heap.size (fun _ => True) (.slice Ao27 t190.length co27) t190) := ⟨h2_⟩
    have n3_ : Aside0 (Kd.R (Kd.int .i64) 3 w33 w.heap.size (fun _ => True) v194 t193) := ⟨h3_⟩
    have n4_ : Aside0 (Kd.R (Kd.int .i64) 3 w33 w.heap.size (fun _ => True) u5 x5_1) := ⟨h4_⟩
    have n5_ : Aside0 (w33.heap[gb189]? = some (.cells #[.int .i64 0, .int .i64 0, .int .i64 0, .bool false] 31 (0, 0))) := ⟨h5_⟩
    have n6_ : Aside0 (Below w.heap.size w w33) := ⟨h6_⟩
    clear HO_3
    clear HO_4
    clear HO_5
    clear BK189
    clear HB
    clear h0_ h1_ h2_ h3_ h4_ h5_ h6_
    have HO207 := n0_
    have HO210 := n1_
    have HO_3 := n2_
    have HO_4 := n3_
    have HO_5 := n4_
    have BK189 := n5_
    have HB := n6_
    clear n0_ n1_ n2_ n3_ n4_ n5_ n6_
    have hHeld := trivial
    refine norm_ (a' := ?_) ?_ ?_
    rotate_left
    ·simp only [putAll, Act.put, List.setIfInBounds_toArray, List.set_cons_zero, List.set_cons_succ]
     rfl
    refine pure_ (i := 5) (N := some 10) (v := ?_) (a' := ?_) #[true, true, true, true, true, true] rfl rfl (by kernel_rfl) (fun _ _ _ h => h) (Or.inl ⟨by rfl, ?_⟩) ?_ ?_
    rotate_left
    ·intro w'
     go_simp
     with_reducible rfl
    rotate_left
    ·simp only [Act.put, List.setIfInBounds_toArray, List.set_cons_zero, List.set_cons_succ, i64_w, i32_w]
     rfl
    refine done_ (by kernel_rfl) ?_
    try go_wp2
    go_loopg [11] k1 (fun kq v11 w' => ∃ (x9_2 : List Bool) (x10_2 : List Bool) (x11_2 : Int), v11 = .int .i64 x11_2 ∧ Aside0 (bibelotref07_Components.l2 kq l0 t190 t193 x5_1 (t190.length : Int) x9_2 x10_2 x11_2 = some (r1, r2, r3, r4)) ∧ Aside0 (kq ≤ k1) ∧ Aside0 (Kd.R k57 57 w' w.heap.size (fun _ => True) (.slice Ao27 t190.length co27) t190) ∧ Aside0 (Kd.R (Kd.int .i64) 3 w' w.heap.size (fun _ => True) v194 t193) ∧ Aside0 (Kd.R (Kd.int .i64) 3 w' w.heap.size (fun _ => True) u5 x5_1) ∧ Aside0 (Kd.R Kd.bool 4 w' w.heap.size (fun k_ => some k_ ≠ (v209 : Value).ownBlock) v206 x9_2) ∧ Aside0 (Kd.R Kd.bool 4 w' w.heap.size (fun k_ => some k_ ≠ (v206 : Value).ownBlock) v209 x10_2) ∧ Aside0 (w'.heap[gb189]? = some (.cells #[.int .i64 0, .int .i64 0, .int .i64 0, .bool false] 31 (0, 0))) ∧ Aside0 (Below w.heap.size w w'))
    case atStart => exact ⟨(y205), (y208), (0), (by first | rfl | (simp; done) | (simp [*]; done)), H', ⟨Nat.le_refl _⟩, ⟨by exact HO_3.out⟩, ⟨by exact HO_4.out⟩, ⟨by exact HO_5.out⟩, ⟨by exact HO207.out⟩, ⟨by exact HO210.out⟩, ⟨by exact BK189.out⟩, ⟨by exact HB.out⟩⟩
    case round =>
     clear H'
     obtain ⟨x9_2, x10_2, x11_2, rfl, HA, HK2, HO_3, HO_4, HO_5, HO_9, HO_10, BK189, HB⟩ := hrel
     cases gk with
     | zero => exact absurd HA.out (by simp [bibelotref07_Components.l2])
     | succ k2 =>
      have H := HA.out
      clear HA
      simp only [bibelotref07_Components.l2] at H
      by_cases c34 : x11_2 < (t190.length : Int)
      ·rw [if_pos c34] at H
       have c34b0 : decide (x11_2 < (t190.length : Int)) = true := decide_eq_true c34
       clear c34
       by_cases c35 : 0 ≤ x11_2
       rotate_left
       ·rw [if_neg c35] at H
        exact absurd H (by simp)
       rw [if_pos c35] at H
       have c35b0 : decide (0 ≤ x11_2) = true := decide_eq_true c35
       clear c35
       by_cases c36 : x11_2 < (x5_1.length : Int)
       rotate_left
       ·rw [if_neg c36] at H
        exact absurd H (by simp)
       rw [if_pos c36] at H
       have c36b0 : decide (x11_2 < (x5_1.length : Int)) = true := decide_eq_true c36
       clear c36
       by_cases c37 : 0 ≤ (rd x5_1 x11_2)
       rotate_left
       ·rw [if_neg c37] at H
        exact absurd H (by simp)
       rw [if_pos c37] at H
       have c37b0 : decide (0 ≤ (rd x5_1 x11_2)) = true := decide_eq_true c37
       clear c37
       by_cases c38 : (rd x5_1 x11_2) < (x9_2.length : Int)
       rotate_left
       ·rw [if_neg c38] at H
        exact absurd H (by simp)
       rw [if_pos c38] at H
       have c38b0 : decide ((rd x5_1 x11_2) < (x9_2.length : Int)) = true := decide_eq_true c38
       clear c38
       obtain ⟨y212, hy212⟩ : ∃ y_ : List Bool, y_ = (x9_2.set ((rd x5_1 x11_2) : Int).toNat true) := ⟨_, rfl⟩
       replace H : (bibelotref07_Components.l3 k2 l0 t190 t193 x5_1 (t190.length : Int) y212 x10_2 x11_2 0) = some (r1, r2, r3, r4) := by first | (rw [hy212]; with_reducible exact H) | (have H2_ := (Option.bind_some _ _).symm.trans H; rw [hy212]; with_reducible exact H2_) | (have H2_ := (Option.bind_some _ _).symm.trans H; with_reducible exact H2_) | with_reducible exact H | (rw [hy212]; exact H) | exact H
       have Ny212 := Aside0.mk hy212
       clear hy212
       have H' := Aside0.mk H
       clear H
       obtain ⟨Ao40, co40, eo40⟩ := Kd.R_slice HO_5.out
       subst eo40
       have p211 : 0 ≤ (x11_2 : Int) := of_decide_eq_true (by first | (with_reducible assumption) | assumption)
       have q211 : x11_2 < (x5_1.length : Int) := of_decide_eq_true (by first | (with_reducible assumption) | assumption)
       obtain ⟨ad211, e211, hx211_0⟩ := Kd.at_int (Kd.R_reads' HO_5.out).2.2 x11_2 p211 q211
       cases e211
       replace p211 := eq_true p211
       replace q211 := eq_true q211
       have p39 : 0 ≤ ((rd x5_1 x11_2) : Int) := of_decide_eq_true (by first | (with_reducible assumption) | assumption)
       have q39 : ((rd x5_1 x11_2) : Int) < ((x9_2.length : Int) : Int) := of_decide_eq_true (by first | (with_reducible assumption) | assumption)
       obtain ⟨go39, co39, eo39, gb39, gl39, cl39, HG39⟩ := Kd.R_form HO_9.out (by omega)
       (first | cases eo39 | (injection eo39 with ea_ en_ ec_; (first | subst ea_ | (injection ea_ with ea_; subst ea_)); subst ec_; clear en_))
       have GB39 := Aside0.mk gb39
       have GG39 := Aside0.mk HG39
       clear gb39 gl39 HG39
       obtain ⟨hx39_0, hf39_0⟩ := Kd.R_celln false HO_9.out ((rd x5_1 x11_2) : Int) p39 q39
       replace p39 := eq_true p39
       replace q39 := eq_true q39
       have HP41 := Kd.R_putg HO_9.out ((rd x5_1 x11_2) : Int) true
       go_wp2_with (first|((with_reducible refine gate_store (t := 4) (p := 66) rfl ?_);refine store_event (t := 4) (p := 66) (v := ?vo_w42) (w1 := (wr.setCell ⟨go39, ((rd x5_1 x11_2) : Int).toNat, none⟩ (.bool true))) ?hg ?ho ?hn ?hr ?_;(case ho => rfl);(case hg => rfl);(case hn => rfl);(case hr => first|(go_simp;done)|(go_simp;rfl));intro w42 hw;have hg : wr.grownBy w42 (some go39) := (by rw [hw];exact HP41.2);have hp_ : Kd.R Kd.bool 4 w42 w.heap.size (fun k_ => some k_ ≠ (v209 : Value).ownBlock) (.slice (some ⟨go39, 0, none⟩) x9_2.length co39) y212 := (by rw [hw, Ny212.out];exact HP41.1);clear HP41;have n0_ := Aside0.mk (Kd.R_over' (v := (.slice (some ⟨go39, 0, none⟩) x9_2.length co39)) (by (with_reducible repeat (first|apply Kd.R_alloc|apply Kd.R_drewN|apply Kd.R_drew));exact HO_3.out) (Kd.R_typed HO_9.out) (by decide) hg);have n1_ := Aside0.mk (Kd.R_over' (v := (.slice (some ⟨go39, 0, none⟩) x9_2.length co39)) (by (with_reducible repeat (first|apply Kd.R_alloc|apply Kd.R_drewN|apply Kd.R_drew));exact HO_4.out) (Kd.R_typed HO_9.out) (by decide) hg);have n2_ := Aside0.mk (Kd.R_over' (v := (.slice (some ⟨go39, 0, none⟩) x9_2.length co39)) (by (with_reducible repeat (first|apply Kd.R_alloc|apply Kd.R_drewN|apply Kd.R_drew));exact HO_5.out) (Kd.R_typed HO_9.out) (by decide) hg);have n3_ := Aside0.mk (hp_);have n4_ := Aside0.mk (Kd.R_after (v := (.slice (some ⟨go39, 0, none⟩) x9_2.length co39)) (v1 := (.slice (some ⟨go39, 0, none⟩) x9_2.length co39)) (ok := (fun _ => True)) (by (with_reducible repeat (first|apply Kd.R_alloc|apply Kd.R_drewN|apply Kd.R_drew));exact Kd.R_mono HO_10.out (fun _ hk => by first|trivial|exact ⟨trivial, hk⟩)) hg (.inl rfl));have n5_ := Aside0.mk (blk_grown (g := gb189) (o := .cells #[.int .i64 0, .int .i64 0, .int .i64 0, .bool false] 31 (0, 0)) (by (with_reducible repeat (first|refine blk_drewN ?_ _|refine blk_drew ?_|refine blk_alloc ?_ _));exact BK189.out) hg (Kd.R_ne HO_9.out BK189.out (by decide)));have n6_ := Aside0.mk ((by rw [hw];exact below_set (HB.out) GB39.out : Below w.heap.size w w42));clear HO_3;clear HO_4;clear HO_5;clear HO_9;clear HO_10;clear BK189;clear HB;have HO_3 := n0_;have HO_4 := n1_;have HO_5 := n2_;have HO_9 := n3_;have HO_10 := n4_;have BK189 := n5_;have HB := n6_;clear n0_ n1_ n2_ n3_ n4_ n5_ n6_;clear hg hw hp_))
       go_loopg [12] k2 (fun kq v12 w' => ∃ (x10_3 : List Bool) (x12_3 : Int), v12 = .int .i64 x12_3 ∧ Aside0 (bibelotref07_Components.l3 kq l0 t190 t193 x5_1 (t190.length : Int) y212 x10_3 x11_2 x12_3 = some (r1, r2, r3, r4)) ∧ Aside0 (kq ≤ k2) ∧ Aside0 (Kd.R k57 57 w' w.heap.size (fun _ => True) (.slice Ao27 t190.length co27) t190) ∧ Aside0 (Kd.R (Kd.int .i64) 3 w' w.heap.size (fun _ => True) v194 t193) ∧ Aside0 (Kd.R (Kd.int .i64) 3 w' w.heap.size (fun _ => True) (.slice (some ad211) x5_1.length co40) x5_1) ∧ Aside0 (Kd.R Kd.bool 4 w' w.heap.size (fun k_ => some k_ ≠ (v209 : Value).ownBlock) (.slice (some ⟨go39, 0, none⟩) x9_2.length co39) y212) ∧ Aside0 (Kd.R Kd.bool 4 w' w.heap.size (fun k_ => some k_ ≠ ((.slice (some ⟨go39, 0, none⟩) x9_2.length co39) : Value).ownBlock) v209 x10_3) ∧ Aside0 (w'.heap[gb189]? = some (.cells #[.int .i64 0, .int .i64 0, .int .i64 0, .bool false] 31 (0, 0))) ∧ Aside0 (Below w.heap.size w w'))
       case atStart => exact ⟨(x10_2), (0), (by first | rfl | (simp; done) | (simp [*]; done)), H', ⟨Nat.le_refl _⟩, ⟨by exact HO_3.out⟩, ⟨by exact HO_4.out⟩, ⟨by exact HO_5.out⟩, ⟨by exact HO_9.out⟩, ⟨by exact Kd.R_mono HO_10.out (fun _ hk => by first | trivial | exact hk.2)⟩, ⟨by exact BK189.out⟩, ⟨by exact HB.out⟩⟩
       case round =>
        clear H'
        obtain ⟨x10_3, x12_3, rfl, HA, HK3, HO_3, HO_4, HO_5, HO_9, HO_10, BK189, HB⟩ := hrel
        have hl9_3 := (Kd.R_reads' HO_9.out).1
        rw [hl9_3] at HO_9
        (try simp only [hl9_3])
        (try simp only [hl9_3] at BK189)
        (try simp only [hl9_3] at HO_3)
        (try simp only [hl9_3] at HO_4)
        (try simp only [hl9_3] at HO_5)
        (try simp only [hl9_3] at HO_10)
        cases gk with
        | zero => exact absurd HA.out (by simp [bibelotref07_Components.l3])
        | succ k3 =>
         have H := HA.out
         clear HA
         simp only [bibelotref07_Components.l3] at H
         by_cases c43 : x12_3 < x11_2
         ·rw [if_pos c43] at H
          have c43b0 : decide (x12_3 < x11_2) = true := decide_eq_true c43
          clear c43
          by_cases c44 : 0 ≤ x11_2
          rotate_left
          ·rw [if_neg c44] at H
           exact absurd H (by simp)
          rw [if_pos c44] at H
          have c44b0 : decide (0 ≤ x11_2) = true := decide_eq_true c44
          clear c44
          by_cases c45 : x11_2 < (t193.length : Int)
          rotate_left
          ·rw [if_neg c45] at H
           exact absurd H (by simp)
          rw [if_pos c45] at H
          have c45b0 : decide (x11_2 < (t193.length : Int)) = true := decide_eq_true c45
          clear c45
          by_cases c46 : 0 ≤ x12_3
          rotate_left
          ·rw [if_neg c46] at H
           exact absurd H (by simp)
          rw [if_pos c46] at H
          have c46b0 : decide (0 ≤ x12_3) = true := decide_eq_true c46
          clear c46
          by_cases c47 : x12_3 < (t193.length : Int)
          rotate_left
          ·rw [if_neg c47] at H
           exact absurd H (by simp)
          rw [if_pos c47] at H
          have c47b0 : decide (x12_3 < (t193.length : Int)) = true := decide_eq_true c47
          clear c47
          by_cases c48 : (rd t193 x11_2) = (rd t193 x12_3)
          ·rw [if_pos c48] at H
           have c48b0 : ((rd t193 x11_2) == (rd t193 x12_3)) = true := beq_iff_eq.mpr c48
           have c48b1 : ((rd t193 x11_2) != (rd t193 x12_3)) = false := bne_eq_false_iff_eq.mpr c48
           clear c48
           by_cases c49 : x11_2 < (x5_1.length : Int)
           rotate_left
           ·rw [if_neg c49] at H
            exact absurd H (by simp)
           rw [if_pos c49] at H
           have c49b0 : decide (x11_2 < (x5_1.length : Int)) = true := decide_eq_true c49
           clear c49
           by_cases c50 : 0 ≤ (rd x5_1 x11_2)
           rotate_left
           ·rw [if_neg c50] at H
            exact absurd H (by simp)
           rw [if_pos c50] at H
           have c50b0 : decide (0 ≤ (rd x5_1 x11_2)) = true := decide_eq_true c50
           clear c50
           by_cases c51 : (rd x5_1 x11_2) < (x10_3.length : Int)
           rotate_left
           ·rw [if_neg c51] at H
            exact absurd H (by simp)
           rw [if_pos c51] at H
           have c51b0 : decide ((rd x5_1 x11_2) < (x10_3.length : Int)) = true := decide_eq_true c51
           clear c51
           obtain ⟨y216, hy216⟩ : ∃ y_ : List Bool, y_ = (x10_3.set ((rd x5_1 x11_2) : Int).toNat true) := ⟨_, rfl⟩
           replace H : (bibelotref07_Components.l3 k3 l0 t190 t193 x5_1 (t190.length : Int) y212 y216 x11_2 (wrap64 (x12_3 + 1))) = some (r1, r2, r3, r4) := by first | (rw [hy216]; with_reducible exact H) | (have H2_ := (Option.bind_some _ _).symm.trans H; rw [hy216]; with_reducible exact H2_) | (have H2_ := (Option.bind_some _ _).symm.trans H; with_reducible exact H2_) | with_reducible exact H | (rw [hy216]; exact H) | exact H
           have Ny216 := Aside0.mk hy216
           clear hy216
           have H' := Aside0.mk H
           clear H
           try go_wp2
           have n0_ := Aside0.mk (Kd.R_drew HO_3.out)
           have n1_ := Aside0.mk (Kd.R_drew HO_4.out)
           have n2_ := Aside0.mk (Kd.R_drew HO_5.out)
           have n3_ := Aside0.mk (Kd.R_drew HO_9.out)
           have n4_ := Aside0.mk (Kd.R_drew HO_10.out)
           have n5_ := Aside0.mk (blk_drew BK189.out)
           have n6_ := Aside0.mk (below_drew1 HB.out)
           clear HO_3
           clear HO_4
           clear HO_5
           clear HO_9
           clear HO_10
           clear BK189
           clear HB
           have HO_3 := n0_
           have HO_4 := n1_
           have HO_5 := n2_
           have HO_9 := n3_
           have HO_10 := n4_
           have BK189 := n5_
           have HB := n6_
           clear n0_ n1_ n2_ n3_ n4_ n5_ n6_
           obtain ⟨Ao54, co54, eo54⟩ := Kd.R_slice HO_4.out
           (first | subst eo54 | (injection eo54 with f1_ f2_ f3_; have f4_ := f1_.symm; have f5_ := f3_.symm; clear f1_ f2_ f3_; subst f4_; subst f5_))
           have p213 : 0 ≤ (x11_2 : Int) := of_decide_eq_true (by first | (with_reducible assumption) | assumption)
           have q213 : x11_2 < (t193.length : Int) := of_decide_eq_true (by first | (with_reducible assumption) | assumption)
           obtain ⟨ad213, e213, hx213_0⟩ := Kd.at_int (Kd.R_reads' HO_4.out).2.2 x11_2 p213 q213
           cases e213
           replace p213 := eq_true p213
           replace q213 := eq_true q213
           have p214 : 0 ≤ (x12_3 : Int) := of_decide_eq_true (by first | (with_reducible assumption) | assumption)
           have q214 : x12_3 < (t193.length : Int) := of_decide_eq_true (by first | (with_reducible assumption) | assumption)
           obtain ⟨ad214, e214, hx214_0⟩ := Kd.at_int (Kd.R_reads' HO_4.out).2.2 x12_3 p214 q214
           obtain rfl : ad213 = ad214 := (by injection e214)
           replace p214 := eq_true p214
           replace q214 := eq_true q214
           refine start_ (n := 9) (S := fun w' => w'.cell? (ad213.add (x11_2).toNat) = some (.int .i64 (rd t193 x11_2)) ∧ w'.cell? (ad213.add (x12_3).toNat) = some (.int .i64 (rd t193 x12_3))) (ds := []) #[false, false, false, false, false, false, false, false, false] (by kernel_rfl) rfl rfl ⟨hx213_0, hx214_0⟩ (fun hHeld => ?_); refine with_tabW bibelotref07_Components.tab20 bibelotref07_Components.bits20 (fun HT_ HW_ => ?_)
           generalize wr.drew = w53 at HO_3 HO_4 HO_5 HO_9 HO_10 BK189 HB hx213_0 hx214_0 hHeld ⊢
           refine pure_ (i := 0) (N := some 72) (v := ?_) (a' := ?_) #[true, false, false, false, false, false, false, false, false] rfl rfl (any_of HT_.out (by kernel_rfl)) (fun _ _ _ h => h) (Or.inl ⟨by rfl, ?_⟩) ?_ ?_
           rotate_left
           ·intro w'
            go_simp
            with_reducible rfl
           rotate_left
           ·simp only [Act.put, List.setIfInBounds_toArray, List.set_cons_zero, List.set_cons_succ, i64_w, i32_w]
            rfl
           refine pure_ (i := 1) (N := some 73) (v := ?_) (a' := ?_) #[true, true, false, false, false, false, false, false, false] rfl rfl (any_of HT_.out (by kernel_rfl)) (fun _ _ _ h => h) (Or.inl ⟨by rfl, ?_⟩) ?_ ?_
           rotate_left
           ·intro w'
            go_simp
            with_reducible rfl
           rotate_left
           ·simp only [Act.put, List.setIfInBounds_toArray, List.set_cons_zero, List.set_cons_succ, i64_w, i32_w]
            rfl
           refine pure_ (i := 2) (N := some 74) (v := ?_) (a' := ?_) #[true, true, true, false, false, false, false, false, false] rfl rfl (any_of HT_.out (by kernel_rfl)) (fun _ _ _ h => h) (Or.inl ⟨by rfl, ?_⟩) ?_ ?_
           rotate_left
           ·intro w'
            go_simp
            with_reducible rfl
           rotate_left
           ·simp only [Act.put, List.setIfInBounds_toArray, List.set_cons_zero, List.set_cons_succ, i64_w, i32_w]
            rfl
           refine pure_ (i := 4) (N := some 76) (v := ?_) (a' := ?_) #[true, true, true, false, true, false, false, false, false] rfl rfl (any_of HT_.out (by kernel_rfl)) (fun _ _ _ h => h) (Or.inl ⟨by rfl, ?_⟩) ?_ ?_
           rotate_left
           ·intro w'
            go_simp
            with_reducible rfl
           rotate_left
           ·simp only [Act.put, List.setIfInBounds_toArray, List.set_cons_zero, List.set_cons_succ, i64_w, i32_w]
            rfl
           refine pure_ (i := 5) (N := some 77) (v := ?_) (a' := ?_) #[true, true, true, false, true, true, false, false, false] rfl rfl (any_of HT_.out (by kernel_rfl)) (fun _ _ _ h => h) (Or.inl ⟨by rfl, ?_⟩) ?_ ?_
           rotate_left
           ·intro w'
            go_simp
            with_reducible rfl
           rotate_left
           ·simp only [Act.put, List.setIfInBounds_toArray, List.set_cons_zero, List.set_cons_succ, i64_w, i32_w]
            rfl
           refine pure_ (i := 6) (N := some 78) (v := ?_) (a' := ?_) #[true, true, true, false, true, true, true, false, false] rfl rfl (any_of HT_.out (by kernel_rfl)) (fun _ _ _ h => h) (Or.inl ⟨by rfl, ?_⟩) ?_ ?_
           rotate_left
           ·intro w'
            go_simp
            with_reducible rfl
           rotate_left
           ·simp only [Act.put, List.setIfInBounds_toArray, List.set_cons_zero, List.set_cons_succ, i64_w, i32_w]
            rfl
           refine take_ (i := 3) (N := some 75) (v := ?_) (a' := ?_) #[true, true, true, true, true, true, true, false, false] rfl rfl (take_ofW HT_.out HW_.out (by kernel_rfl)) (fun _ _ _ h => h) (Or.inl ⟨by rfl, ?_⟩) hHeld ?_ ?_
           rotate_left
           ·rintro w' ⟨s0, s1⟩
            go_simp
            with_reducible rfl
           rotate_left
           ·simp only [Act.put, List.setIfInBounds_toArray, List.set_cons_zero, List.set_cons_succ, i64_w, i32_w]
            rfl
           refine take_ (i := 7) (N := some 79) (v := ?_) (a' := ?_) #[true, true, true, true, true, true, true, true, false] rfl rfl (take_ofW HT_.out HW_.out (by kernel_rfl)) (fun _ _ _ h => h) (Or.inl ⟨by rfl, ?_⟩) hHeld ?_ ?_
           rotate_left
           ·rintro w' ⟨s0, s1⟩
            go_simp
            with_reducible rfl
           rotate_left
           ·simp only [Act.put, List.setIfInBounds_toArray, List.set_cons_zero, List.set_cons_succ, i64_w, i32_w]
            rfl
           refine pure_ (i := 8) (N := some 80) (v := ?_) (a' := ?_) #[true, true, true, true, true, true, true, true, true] rfl rfl (any_of HT_.out (by kernel_rfl)) (fun _ _ _ h => h) (Or.inl ⟨by rfl, ?_⟩) ?_ ?_
           rotate_left
           ·intro w'
            go_simp
            with_reducible rfl
           rotate_left
           ·simp only [Act.put, List.setIfInBounds_toArray, List.set_cons_zero, List.set_cons_succ, i64_w, i32_w]
            rfl
           refine done_ (done_of HT_.out (by kernel_rfl)) ?_
           have p215 : 0 ≤ (x11_2 : Int) := of_decide_eq_true (by first | (with_reducible assumption) | assumption)
           have q215 : x11_2 < (x5_1.length : Int) := of_decide_eq_true (by first | (with_reducible assumption) | assumption)
           obtain ⟨ad215, e215, hx215_0⟩ := Kd.at_int (Kd.R_reads' HO_5.out).2.2 x11_2 p215 q215
           obtain rfl : ad211 = ad215 := (by injection e215)
           replace p215 := eq_true p215
           replace q215 := eq_true q215
           have p52 : 0 ≤ ((rd x5_1 x11_2) : Int) := of_decide_eq_true (by first | (with_reducible assumption) | assumption)
           have q52 : ((rd x5_1 x11_2) : Int) < ((x10_3.length : Int) : Int) := of_decide_eq_true (by first | (with_reducible assumption) | assumption)
           obtain ⟨go52, co52, eo52, gb52, gl52, cl52, HG52⟩ := Kd.R_form HO_10.out (by omega)
           (first | cases eo52 | (injection eo52 with ea_ en_ ec_; (first | subst ea_ | (injection ea_ with ea_; subst ea_)); subst ec_; clear en_))
           have GB52 := Aside0.mk gb52
           have GG52 := Aside0.mk HG52
           clear gb52 gl52 HG52
           obtain ⟨hx52_0, hf52_0⟩ := Kd.R_celln false HO_10.out ((rd x5_1 x11_2) : Int) p52 q52
           replace p52 := eq_true p52
           replace q52 := eq_true q52
           obtain ⟨hy55_, hz55_⟩ := Kd.R_celln false HO_10.out ((rd x5_1 x11_2) : Int) (of_decide_eq_true (by first | (with_reducible assumption) | assumption)) (of_decide_eq_true (by first | (with_reducible assumption) | assumption))
           have HP55 := Kd.R_putg HO_10.out ((rd x5_1 x11_2) : Int) true
           try go_wp2_with (first|((with_reducible refine gate_store (t := 4) (p := 86) rfl ?_);refine store_event (t := 4) (p := 86) (v := ?vo_w56) (w1 := (w53.setCell ⟨go52, ((rd x5_1 x11_2) : Int).toNat, none⟩ (.bool true))) ?hg ?ho ?hn ?hr ?_;(case ho => rfl);(case hg => rfl);(case hn => rfl);(case hr => first|(go_simp;done)|(go_simp;rfl));intro w56 hw;have hg : w53.grownBy w56 (some go52) := (by rw [hw];exact HP55.2);have hp_ : Kd.R Kd.bool 4 w56 w.heap.size (fun k_ => some k_ ≠ (.slice (some ⟨go39, 0, none⟩) y212.length co39 : Value).ownBlock) (.slice (some ⟨go52, 0, none⟩) x10_3.length co52) y216 := (by rw [hw, Ny216.out];exact HP55.1);clear HP55;have n0_ := Aside0.mk (Kd.R_over' (v := (.slice (some ⟨go52, 0, none⟩) x10_3.length co52)) (by (with_reducible repeat (first|apply Kd.R_alloc|apply Kd.R_drewN|apply Kd.R_drew));exact HO_3.out) (Kd.R_typed HO_10.out) (by decide) hg);have n1_ := Aside0.mk (Kd.R_over' (v := (.slice (some ⟨go52, 0, none⟩) x10_3.length co52)) (by (with_reducible repeat (first|apply Kd.R_alloc|apply Kd.R_drewN|apply Kd.R_drew));exact HO_4.out) (Kd.R_typed HO_10.out) (by decide) hg);have n2_ := Aside0.mk (Kd.R_over' (v := (.slice (some ⟨go52, 0, none⟩) x10_3.length co52)) (by (with_reducible repeat (first|apply Kd.R_alloc|apply Kd.R_drewN|apply Kd.R_drew));exact HO_5.out) (Kd.R_typed HO_10.out) (by decide) hg);have n3_ := Aside0.mk (Kd.R_after (v := (.slice (some ⟨go52, 0, none⟩) x10_3.length co52)) (v1 := (.slice (some ⟨go52, 0, none⟩) x10_3.length co52)) (ok := (fun _ => True)) (by (with_reducible repeat (first|apply Kd.R_alloc|apply Kd.R_drewN|apply Kd.R_drew));exact Kd.R_mono HO_9.out (fun _ hk => by first|trivial|exact ⟨trivial, hk⟩)) hg (.inl rfl));have n4_ := Aside0.mk (hp_);have n5_ := Aside0.mk (blk_grown (g := gb189) (o := .cells #[.int .i64 0, .int .i64 0, .int .i64 0, .bool false] 31 (0, 0)) (by (with_reducible repeat (first|refine blk_drewN ?_ _|refine blk_drew ?_|refine blk_alloc ?_ _));exact BK189.out) hg (Kd.R_ne HO_10.out BK189.out (by decide)));have n6_ := Aside0.mk ((by rw [hw];exact below_set (HB.out) GB52.out : Below w.heap.size w w56));clear HO_3;clear HO_4;clear HO_5;clear HO_9;clear HO_10;clear BK189;clear HB;have HO_3 := n0_;have HO_4 := n1_;have HO_5 := n2_;have HO_9 := n3_;have HO_10 := n4_;have BK189 := n5_;have HB := n6_;clear n0_ n1_ n2_ n3_ n4_ n5_ n6_;clear hg hw hp_))
           (try simp only [← hl9_3])
           go_roundg k3
           case measure => have := HK1.out; have := HK2.out; have := HK3.out; omega
           case rel => exact ⟨(y216), (wrap64 (x12_3 + 1)), (by first|rfl|(simp;done)|(simp [*];done)), H', ⟨by have := HK1.out;have := HK2.out;have := HK3.out;omega⟩, ⟨by (try simp only [hl9_3]);(with_reducible repeat (first|apply Kd.R_alloc|apply Kd.R_drewN|apply Kd.R_drew));exact HO_3.out⟩, ⟨by (try simp only [hl9_3]);(with_reducible repeat (first|apply Kd.R_alloc|apply Kd.R_drewN|apply Kd.R_drew));exact HO_4.out⟩, ⟨by (try simp only [hl9_3]);(with_reducible repeat (first|apply Kd.R_alloc|apply Kd.R_drewN|apply Kd.R_drew));exact HO_5.out⟩, ⟨by (try simp only [hl9_3]);(with_reducible repeat (first|apply Kd.R_alloc|apply Kd.R_drewN|apply Kd.R_drew));exact Kd.R_mono HO_9.out (fun _ hk => by first|trivial|exact hk.2)⟩, ⟨by (try simp only [hl9_3]);(with_reducible repeat (first|apply Kd.R_alloc|apply Kd.R_drewN|apply Kd.R_drew));exact HO_10.out⟩, ⟨by (try simp only [hl9_3]);(with_reducible repeat (first|refine blk_drewN ?_ _|refine blk_drew ?_|refine blk_alloc ?_ _));exact BK189.out⟩, ⟨by exact HB.out⟩⟩
          ·rw [if_neg c48] at H
           have c48b0 : ((rd t193 x11_2) == (rd t193 x12_3)) = false := beq_eq_false_iff_ne.mpr c48
           have c48b1 : ((rd t193 x11_2) != (rd t193 x12_3)) = true := bne_iff_ne.mpr c48
           have H' := Aside0.mk H
           clear H
           try go_wp2
           have n0_ := Aside0.mk (Kd.R_drew HO_3.out)
           have n1_ := Aside0.mk (Kd.R_drew HO_4.out)
           have n2_ := Aside0.mk (Kd.R_drew HO_5.out)
           have n3_ := Aside0.mk (Kd.R_drew HO_9.out)
           have n4_ := Aside0.mk (Kd.R_drew HO_10.out)
           have n5_ := Aside0.mk (blk_drew BK189.out)
           have n6_ := Aside0.mk (below_drew1 HB.out)
           clear HO_3
           clear HO_4
           clear HO_5
           clear HO_9
           clear HO_10
           clear BK189
           clear HB
           have HO_3 := n0_
           have HO_4 := n1_
           have HO_5 := n2_
           have HO_9 := n3_
           have HO_10 := n4_
           have BK189 := n5_
           have HB := n6_
           clear n0_ n1_ n2_ n3_ n4_ n5_ n6_
           obtain ⟨Ao58, co58, eo58⟩ := Kd.R_slice HO_4.out
           (first | subst eo58 | (injection eo58 with f1_ f2_ f3_; have f4_ := f1_.symm; have f5_ := f3_.symm; clear f1_ f2_ f3_; subst f4_; subst f5_))
           have p213 : 0 ≤ (x11_2 : Int) := of_decide_eq_true (by first | (with_reducible assumption) | assumption)
           have q213 : x11_2 < (t193.length : Int) := of_decide_eq_true (by first | (with_reducible assumption) | assumption)
           obtain ⟨ad213, e213, hx213_0⟩ := Kd.at_int (Kd.R_reads' HO_4.out).2.2 x11_2 p213 q213
           cases e213
           replace p213 := eq_true p213
           replace q213 := eq_true q213
           have p214 : 0 ≤ (x12_3 : Int) := of_decide_eq_true (by first | (with_reducible assumption) | assumption)
           have q214 : x12_3 < (t193.length : Int) := of_decide_eq_true (by first | (with_reducible assumption) | assumption)
           obtain ⟨ad214, e214, hx214_0⟩ := Kd.at_int (Kd.R_reads' HO_4.out).2.2 x12_3 p214 q214
           obtain rfl : ad213 = ad214 := (by injection e214)
           replace p214 := eq_true p214
           replace q214 := eq_true q214
           refine start_ (n := 9) (S := fun w' => w'.cell? (ad213.add (x11_2).toNat) = some (.int .i64 (rd t193 x11_2)) ∧ w'.cell? (ad213.add (x12_3).toNat) = some (.int .i64 (rd t193 x12_3))) (ds := []) #[false, false, false, false, false, false, false, false, false] (by kernel_rfl) rfl rfl ⟨hx213_0, hx214_0⟩ (fun hHeld => ?_); refine with_tabW bibelotref07_Components.tab20 bibelotref07_Components.bits20 (fun HT_ HW_ => ?_)
           generalize wr.drew = w57 at HO_3 HO_4 HO_5 HO_9 HO_10 BK189 HB hx213_0 hx214_0 hHeld ⊢
           refine pure_ (i := 0) (N := some 72) (v := ?_) (a' := ?_) #[true, false, false, false, false, false, false, false, false] rfl rfl (any_of HT_.out (by kernel_rfl)) (fun _ _ _ h => h) (Or.inl ⟨by rfl, ?_⟩) ?_ ?_
           rotate_left
           ·intro w'
            go_simp
            with_reducible rfl
           rotate_left
           ·simp only [Act.put, List.setIfInBounds_toArray, List.set_cons_zero, List.set_cons_succ, i64_w, i32_w]
            rfl
           refine pure_ (i := 1) (N := some 73) (v := ?_) (a' := ?_) #[true, true, false, false, false, false, false, false, false] rfl rfl (any_of HT_.out (by kernel_rfl)) (fun _ _ _ h => h) (Or.inl ⟨by rfl, ?_⟩) ?_ ?_
           rotate_left
           ·intro w'
            go_simp
            with_reducible rfl
           rotate_left
           ·simp only [Act.put, List.setIfInBounds_toArray, List.set_cons_zero, List.set_cons_succ, i64_w, i32_w]
            rfl
           refine pure_ (i := 2) (N := some 74) (v := ?_) (a' := ?_) #[true, true, true, false, false, false, false, false, false] rfl rfl (any_of HT_.out (by kernel_rfl)) (fun _ _ _ h => h) (Or.inl ⟨by rfl, ?_⟩) ?_ ?_
           rotate_left
           ·intro w'
            go_simp
            with_reducible rfl
           rotate_left
           ·simp only [Act.put, List.setIfInBounds_toArray, List.set_cons_zero, List.set_cons_succ, i64_w, i32_w]
            rfl
           refine pure_ (i := 4) (N := some 76) (v := ?_) (a' := ?_) #[true, true, true, false, true, false, false, false, false] rfl rfl (any_of HT_.out (by kernel_rfl)) (fun _ _ _ h => h) (Or.inl ⟨by rfl, ?_⟩) ?_ ?_
           rotate_left
           ·intro w'
            go_simp
            with_reducible rfl
           rotate_left
           ·simp only [Act.put, List.setIfInBounds_toArray, List.set_cons_zero, List.set_cons_succ, i64_w, i32_w]
            rfl
           refine pure_ (i := 5) (N := some 77) (v := ?_) (a' := ?_) #[true, true, true, false, true, true, false, false, false] rfl rfl (any_of HT_.out (by kernel_rfl)) (fun _ _ _ h => h) (Or.inl ⟨by rfl, ?_⟩) ?_ ?_
           rotate_left
           ·intro w'
            go_simp
            with_reducible rfl
           rotate_left
           ·simp only [Act.put, List.setIfInBounds_toArray, List.set_cons_zero, List.set_cons_succ, i64_w, i32_w]
            rfl
           refine pure_ (i := 6) (N := some 78) (v := ?_) (a' := ?_) #[true, true, true, false, true, true, true, false, false] rfl rfl (any_of HT_.out (by kernel_rfl)) (fun _ _ _ h => h) (Or.inl ⟨by rfl, ?_⟩) ?_ ?_
           rotate_left
           ·intro w'
            go_simp
            with_reducible rfl
           rotate_left
           ·simp only [Act.put, List.setIfInBounds_toArray, List.set_cons_zero, List.set_cons_succ, i64_w, i32_w]
            rfl
           refine take_ (i := 3) (N := some 75) (v := ?_) (a' := ?_) #[true, true, true, true, true, true, true, false, false] rfl rfl (take_ofW HT_.out HW_.out (by kernel_rfl)) (fun _ _ _ h => h) (Or.inl ⟨by rfl, ?_⟩) hHeld ?_ ?_
           rotate_left
           ·rintro w' ⟨s0, s1⟩
            go_simp
            with_reducible rfl
           rotate_left
           ·simp only [Act.put, List.setIfInBounds_toArray, List.set_cons_zero, List.set_cons_succ, i64_w, i32_w]
            rfl
           refine take_ (i := 7) (N := some 79) (v := ?_) (a' := ?_) #[true, true, true, true, true, true, true, true, false] rfl rfl (take_ofW HT_.out HW_.out (by kernel_rfl)) (fun _ _ _ h => h) (Or.inl ⟨by rfl, ?_⟩) hHeld ?_ ?_
           rotate_left
           ·rintro w' ⟨s0, s1⟩
            go_simp
            with_reducible rfl
           rotate_left
           ·simp only [Act.put, List.setIfInBounds_toArray, List.set_cons_zero, List.set_cons_succ, i64_w, i32_w]
            rfl
           refine pure_ (i := 8) (N := some 80) (v := ?_) (a' := ?_) #[true, true, true, true, true, true, true, true, true] rfl rfl (any_of HT_.out (by kernel_rfl)) (fun _ _ _ h => h) (Or.inl ⟨by rfl, ?_⟩) ?_ ?_
           rotate_left
           ·intro w'
            go_simp
            with_reducible rfl
           rotate_left
           ·simp only [Act.put, List.setIfInBounds_toArray, List.set_cons_zero, List.set_cons_succ, i64_w, i32_w]
            rfl
           refine done_ (done_of HT_.out (by kernel_rfl)) ?_
           try go_wp2
           (try simp only [← hl9_3])
           go_roundg k3
           case measure => have := HK1.out; have := HK2.out; have := HK3.out; omega
           case rel => exact ⟨(x10_3), (wrap64 (x12_3 + 1)), (by first|rfl|(simp;done)|(simp [*];done)), H', ⟨by have := HK1.out;have := HK2.out;have := HK3.out;omega⟩, ⟨by (try simp only [hl9_3]);(with_reducible repeat (first|apply Kd.R_alloc|apply Kd.R_drewN|apply Kd.R_drew));exact HO_3.out⟩, ⟨by (try simp only [hl9_3]);(with_reducible repeat (first|apply Kd.R_alloc|apply Kd.R_drewN|apply Kd.R_drew));exact HO_4.out⟩, ⟨by (try simp only [hl9_3]);(with_reducible repeat (first|apply Kd.R_alloc|apply Kd.R_drewN|apply Kd.R_drew));exact HO_5.out⟩, ⟨by (try simp only [hl9_3]);(with_reducible repeat (first|apply Kd.R_alloc|apply Kd.R_drewN|apply Kd.R_drew));exact HO_9.out⟩, ⟨by (try simp only [hl9_3]);(with_reducible repeat (first|apply Kd.R_alloc|apply Kd.R_drewN|apply Kd.R_drew));exact HO_10.out⟩, ⟨by (try simp only [hl9_3]);(with_reducible repeat (first|refine blk_drewN ?_ _|refine blk_drew ?_|refine blk_alloc ?_ _));exact BK189.out⟩, ⟨by exact HB.out⟩⟩
         ·rw [if_neg c43] at H
          have c43b0 : decide (x12_3 < x11_2) = false := decide_eq_false c43
          clear c43
          have H' := Aside0.mk H
          clear H
          go_wp2
          (try simp only [← hl9_3])
          go_roundg k3
          case measure => have := HK1.out; have := HK2.out; have := HK3.out; omega
          case rel => exact ⟨(y212), (x10_3), (wrap64 (x11_2 + 1)), (by first|rfl|(simp;done)|(simp [*];done)), H', ⟨by have := HK1.out;have := HK2.out;have := HK3.out;omega⟩, ⟨by (try simp only [hl9_3]);(with_reducible repeat (first|apply Kd.R_alloc|apply Kd.R_drewN|apply Kd.R_drew));exact HO_3.out⟩, ⟨by (try simp only [hl9_3]);(with_reducible repeat (first|apply Kd.R_alloc|apply Kd.R_drewN|apply Kd.R_drew));exact HO_4.out⟩, ⟨by (try simp only [hl9_3]);(with_reducible repeat (first|apply Kd.R_alloc|apply Kd.R_drewN|apply Kd.R_drew));exact HO_5.out⟩, ⟨by (try simp only [hl9_3]);(with_reducible repeat (first|apply Kd.R_alloc|apply Kd.R_drewN|apply Kd.R_drew));exact HO_9.out⟩, ⟨by (try simp only [hl9_3]);(with_reducible repeat (first|apply Kd.R_alloc|apply Kd.R_drewN|apply Kd.R_drew));exact HO_10.out⟩, ⟨by (try simp only [hl9_3]);(with_reducible repeat (first|refine blk_drewN ?_ _|refine blk_drew ?_|refine blk_alloc ?_ _));exact BK189.out⟩, ⟨by exact HB.out⟩⟩
      ·rw [if_neg c34] at H
       have c34b0 : decide (x11_2 < (t190.length : Int)) = false := decide_eq_false c34
       clear c34
       have H' := Aside0.mk H
       clear H
       go_wp2
       go_loopg [13] k2 (fun kq v13 w' => ∃ (x10_3 : List Bool) (x13_3 : Int), v13 = .int .i64 x13_3 ∧ Aside0 (bibelotref07_Components.l4 kq l0 t190 x5_1 (t190.length : Int) x9_2 x10_3 x13_3 = some (r1, r2, r3, r4)) ∧ Aside0 (kq ≤ k2) ∧ Aside0 (Kd.R k57 57 w' w.heap.size (fun _ => True) (.slice Ao27 t190.length co27) t190) ∧ Aside0 (Kd.R (Kd.int .i64) 3 w' w.heap.size (fun _ => True) u5 x5_1) ∧ Aside0 (Kd.R Kd.bool 4 w' w.heap.size (fun k_ => some k_ ≠ (v209 : Value).ownBlock) v206 x9_2) ∧ Aside0 (Kd.R Kd.bool 4 w' w.heap.size (fun k_ => some k_ ≠ (v206 : Value).ownBlock) v209 x10_3) ∧ Aside0 (w'.heap[gb189]? = some (.cells #[.int .i64 0, .int .i64 0, .int .i64 0, .bool false] 31 (0, 0))) ∧ Aside0 (Below w.heap.size w w'))
       case atStart => exact ⟨(x10_2), (0), (by first | rfl | (simp; done) | (simp [*]; done)), H', ⟨Nat.le_refl _⟩, ⟨by exact HO_3.out⟩, ⟨by exact Kd.R_mono HO_5.out (fun _ hk => by first | trivial | exact trivial)⟩, ⟨by exact HO_9.out⟩, ⟨by exact HO_10.out⟩, ⟨by exact BK189.out⟩, ⟨by exact HB.out⟩⟩
       case round =>
        clear H'
        obtain ⟨x10_3, x13_3, rfl, HA, HK3, HO_3, HO_5, HO_9, HO_10, BK189, HB⟩ := hrel
        cases gk with
        | zero => exact absurd HA.out (by simp [bibelotref07_Components.l4])
        | succ k3 =>
         have H := HA.out
         clear HA
         simp only [bibelotref07_Components.l4] at H
         by_cases c59 : x13_3 < (t190.length : Int)
         ·rw [if_pos c59] at H
          have c59b0 : decide (x13_3 < (t190.length : Int)) = true := decide_eq_true c59
          clear c59
          by_cases c60 : 0 ≤ x13_3
          rotate_left
          ·rw [if_neg c60] at H
           exact absurd H (by simp)
          rw [if_pos c60] at H
          have c60b0 : decide (0 ≤ x13_3) = true := decide_eq_true c60
          clear c60
          by_cases c61 : x13_3 < (t190.length : Int)
          rotate_left
          ·rw [if_neg c61] at H
           exact absurd H (by simp)
          rw [if_pos c61] at H
          have c61b0 : decide (x13_3 < (t190.length : Int)) = true := decide_eq_true c61
          clear c61
          by_cases c62 : (Int.tmod (wrap64 (((rd_T57 t190 x13_3).f0) + ((rd_T57 t190 x13_3).f1))) 2) = 0
          ·rw [if_pos c62] at H
           have c62b0 : ((Int.tmod (wrap64 (((rd_T57 t190 x13_3).f0) + ((rd_T57 t190 x13_3).f1))) 2) == 0) = true := beq_iff_eq.mpr c62
           have c62b1 : ((Int.tmod (wrap64 (((rd_T57 t190 x13_3).f0) + ((rd_T57 t190 x13_3).f1))) 2) != 0) = false := bne_eq_false_iff_eq.mpr c62
           clear c62
           by_cases c63 : x13_3 < (x5_1.length : Int)
           rotate_left
           ·rw [if_neg c63] at H
            exact absurd H (by simp)
           rw [if_pos c63] at H
           have c63b0 : decide (x13_3 < (x5_1.length : Int)) = true := decide_eq_true c63
           clear c63
           by_cases c64 : 0 ≤ (rd x5_1 x13_3)
           rotate_left
           ·rw [if_neg c64] at H
            exact absurd H (by simp)
           rw [if_pos c64] at H
           have c64b0 : decide (0 ≤ (rd x5_1 x13_3)) = true := decide_eq_true c64
           clear c64
           by_cases c65 : (rd x5_1 x13_3) < (x10_3.length : Int)
           rotate_left
           ·rw [if_neg c65] at H
            exact absurd H (by simp)
           rw [if_pos c65] at H
           have c65b0 : decide ((rd x5_1 x13_3) < (x10_3.length : Int)) = true := decide_eq_true c65
           clear c65
           obtain ⟨y220, hy220⟩ : ∃ y_ : List Bool, y_ = (x10_3.set ((rd x5_1 x13_3) : Int).toNat false) := ⟨_, rfl⟩
           replace H : (bibelotref07_Components.l4 k3 l0 t190 x5_1 (t190.length : Int) x9_2 y220 (wrap64 (x13_3 + 1))) = some (r1, r2, r3, r4) := by first | (rw [hy220]; with_reducible exact H) | (have H2_ := (Option.bind_some _ _).symm.trans H; rw [hy220]; with_reducible exact H2_) | (have H2_ := (Option.bind_some _ _).symm.trans H; with_reducible exact H2_) | with_reducible exact H | (rw [hy220]; exact H) | exact H
           have Ny220 := Aside0.mk hy220
           clear hy220
           have H' := Aside0.mk H
           clear H
           try go_wp2
           have n0_ := Aside0.mk (Kd.R_drew HO_3.out)
           have n1_ := Aside0.mk (Kd.R_drew HO_5.out)
           have n2_ := Aside0.mk (Kd.R_drew HO_9.out)
           have n3_ := Aside0.mk (Kd.R_drew HO_10.out)
           have n4_ := Aside0.mk (blk_drew BK189.out)
           have n5_ := Aside0.mk (below_drew1 HB.out)
           clear HO_3
           clear HO_5
           clear HO_9
           clear HO_10
           clear BK189
           clear HB
           have HO_3 := n0_
           have HO_5 := n1_
           have HO_9 := n2_
           have HO_10 := n3_
           have BK189 := n4_
           have HB := n5_
           clear n0_ n1_ n2_ n3_ n4_ n5_
           have p217 : 0 ≤ (x13_3 : Int) := of_decide_eq_true (by first | (with_reducible assumption) | assumption)
           have q217 : x13_3 < (t190.length : Int) := of_decide_eq_true (by first | (with_reducible assumption) | assumption)
           obtain ⟨ad217, e217, hx217_0, hx217_1⟩ := at_T57 (Kd.R_reads' HO_3.out).2.2 x13_3 p217 q217
           cases e217
           replace p217 := eq_true p217
           replace q217 := eq_true q217
           have p218 : 0 ≤ (x13_3 : Int) := of_decide_eq_true (by first | (with_reducible assumption) | assumption)
           have q218 : x13_3 < (t190.length : Int) := of_decide_eq_true (by first | (with_reducible assumption) | assumption)
           obtain ⟨ad218, e218, hx218_0, hx218_1⟩ := at_T57 (Kd.R_reads' HO_3.out).2.2 x13_3 p218 q218
           obtain rfl : ad217 = ad218 := (by injection e218)
           replace p218 := eq_true p218
           replace q218 := eq_true q218
           refine start_ (n := 13) (S := fun w' => w'.cell? (ad217.add ((x13_3).toNat * 2)) = some (.int .i64 ((rd_T57 t190 x13_3).f0)) ∧ w'.cell? ⟨(ad217.add ((x13_3).toNat * 2)).block, (ad217.add ((x13_3).toNat * 2)).off + 1, none⟩ = some (.int .i64 ((rd_T57 t190 x13_3).f1)) ∧ w'.cell? (ad217.add ((x13_3).toNat * 2)) = some (.int .i64 ((rd_T57 t190 x13_3).f0)) ∧ w'.cell? ⟨(ad217.add ((x13_3).toNat * 2)).block, (ad217.add ((x13_3).toNat * 2)).off + 1, none⟩ = some (.int .i64 ((rd_T57 t190 x13_3).f1))) (ds := []) #[false, false, false, false, false, false, false, false, false, false, false, false, false] (by kernel_rfl) rfl rfl ⟨hx217_0, hx217_1, hx218_0, hx218_1⟩ (fun hHeld => ?_);refine with_tabW bibelotref07_Components.tab25 bibelotref07_Components.bits25 (fun HT_ HW_ => ?_)
           generalize wr.drew = w67 at HO_3 HO_5 HO_9 HO_10 BK189 HB hx217_0 hx217_1 hx218_0 hx218_1 hHeld ⊢
           refine pure_ (i := 0) (N := some 92) (v := ?_) (a' := ?_) #[true, false, false, false, false, false, false, false, false, false, false, false, false] rfl rfl (any_of HT_.out (by kernel_rfl)) (fun _ _ _ h => h) (Or.inl ⟨by rfl, ?_⟩) ?_ ?_
           rotate_left
           ·intro w'
            go_simp
            with_reducible rfl
           rotate_left
           ·simp only [Act.put, List.setIfInBounds_toArray, List.set_cons_zero, List.set_cons_succ, i64_w, i32_w]
            rfl
           refine pure_ (i := 1) (N := some 93) (v := ?_) (a' := ?_) #[true, true, false, false, false, false, false, false, false, false, false, false, false] rfl rfl (any_of HT_.out (by kernel_rfl)) (fun _ _ _ h => h) (Or.inl ⟨by rfl, ?_⟩) ?_ ?_
           rotate_left
           ·intro w'
            go_simp
            with_reducible rfl
           rotate_left
           ·simp only [Act.put, List.setIfInBounds_toArray, List.set_cons_zero, List.set_cons_succ, i64_w, i32_w]
            rfl
           refine pure_ (i := 2) (N := some 94) (v := ?_) (a' := ?_) #[true, true, true, false, false, false, false, false, false, false, false, false, false] rfl rfl (any_of HT_.out (by kernel_rfl)) (fun _ _ _ h => h) (Or.inl ⟨by rfl, ?_⟩) ?_ ?_
           rotate_left
           ·intro w'
            go_simp
            with_reducible rfl
           rotate_left
           ·simp only [Act.put, List.setIfInBounds_toArray, List.set_cons_zero, List.set_cons_succ, i64_w, i32_w]
            rfl
           refine pure_ (i := 3) (N := some 95) (v := ?_) (a' := ?_) #[true, true, true, true, false, false, false, false, false, false, false, false, false] rfl rfl (any_of HT_.out (by kernel_rfl)) (fun _ _ _ h => h) (Or.inl ⟨by rfl, ?_⟩) ?_ ?_
           rotate_left
           ·intro w'
            go_simp
            with_reducible rfl
           rotate_left
           ·simp only [Act.put, List.setIfInBounds_toArray, List.set_cons_zero, List.set_cons_succ, i64_w, i32_w]
            rfl
           refine pure_ (i := 5) (N := some 97) (v := ?_) (a' := ?_) #[true, true, true, true, false, true, false, false, false, false, false, false, false] rfl rfl (any_of HT_.out (by kernel_rfl)) (fun _ _ _ h => h) (Or.inl ⟨by rfl, ?_⟩) ?_ ?_
           rotate_left
           ·intro w'
            go_simp
            with_reducible rfl
           rotate_left
           ·simp only [Act.put, List.setIfInBounds_toArray, List.set_cons_zero, List.set_cons_succ, i64_w, i32_w]
            rfl
           refine pure_ (i := 6) (N := some 98) (v := ?_) (a' := ?_) #[true, true, true, true, false, true, true, false, false, false, false, false, false] rfl rfl (any_of HT_.out (by kernel_rfl)) (fun _ _ _ h => h) (Or.inl ⟨by rfl, ?_⟩) ?_ ?_
           rotate_left
           ·intro w'
            go_simp
            with_reducible rfl
           rotate_left
           ·simp only [Act.put, List.setIfInBounds_toArray, List.set_cons_zero, List.set_cons_succ, i64_w, i32_w]
            rfl
           refine pure_ (i := 7) (N := some 99) (v := ?_) (a' := ?_) #[true, true, true, true, false, true, true, true, false, false, false, false, false] rfl rfl (any_of HT_.out (by kernel_rfl)) (fun _ _ _ h => h) (Or.inl ⟨by rfl, ?_⟩) ?_ ?_
           rotate_left
           ·intro w'
            go_simp
            with_reducible rfl
           rotate_left
           ·simp only [Act.put, List.setIfInBounds_toArray, List.set_cons_zero, List.set_cons_succ, i64_w, i32_w]
            rfl
           refine pure_ (i := 8) (N := some 100) (v := ?_) (a' := ?_) #[true, true, true, true, false, true, true, true, true, false, false, false, false] rfl rfl (any_of HT_.out (by kernel_rfl)) (fun _ _ _ h => h) (Or.inl ⟨by rfl, ?_⟩) ?_ ?_
           rotate_left
           ·intro w'
            go_simp
            with_reducible rfl
           rotate_left
           ·simp only [Act.put, List.setIfInBounds_toArray, List.set_cons_zero, List.set_cons_succ, i64_w, i32_w]
            rfl
           refine take_ (i := 4) (N := some 96) (v := ?_) (a' := ?_) #[true, true, true, true, true, true, true, true, true, false, false, false, false] rfl rfl (take_ofW HT_.out HW_.out (by kernel_rfl)) (fun _ _ _ h => h) (Or.inl ⟨by rfl, ?_⟩) hHeld ?_ ?_
           rotate_left
           ·rintro w' ⟨s0, s1, s2, s3⟩
            go_simp
            with_reducible rfl
           rotate_left
           ·simp only [Act.put, List.setIfInBounds_toArray, List.set_cons_zero, List.set_cons_succ, i64_w, i32_w]
            rfl
           refine take_ (i := 9) (N := some 101) (v := ?_) (a' := ?_) #[true, true, true, true, true, true, true, true, true, true, false, false, false] rfl rfl (take_ofW HT_.out HW_.out (by kernel_rfl)) (fun _ _ _ h => h) (Or.inl ⟨by rfl, ?_⟩) hHeld ?_ ?_
           rotate_left
           ·rintro w' ⟨s0, s1, s2, s3⟩
            go_simp
            with_reducible rfl
           rotate_left
           ·simp only [Act.put, List.setIfInBounds_toArray, List.set_cons_zero, List.set_cons_succ, i64_w, i32_w]
            rfl
           refine pure_ (i := 10) (N := some 102) (v := ?_) (a' := ?_) #[true, true, true, true, true, true, true, true, true, true, true, false, false] rfl rfl (any_of HT_.out (by kernel_rfl)) (fun _ _ _ h => h) (Or.inl ⟨by rfl, ?_⟩) ?_ ?_
           rotate_left
           ·intro w'
            go_simp
            with_reducible rfl
           rotate_left
           ·simp only [Act.put, List.setIfInBounds_toArray, List.set_cons_zero, List.set_cons_succ, i64_w, i32_w]
            rfl
           refine pure_ (i := 11) (N := some 103) (v := ?_) (a' := ?_) #[true, true, true, true, true, true, true, true, true, true, true, true, false] rfl rfl (any_of HT_.out (by kernel_rfl)) (fun _ _ _ h => h) (Or.inl ⟨by rfl, ?_⟩) ?_ ?_
           rotate_left
           ·intro w'
            go_simp
            with_reducible rfl
           rotate_left
           ·simp only [Act.put, List.setIfInBounds_toArray, List.set_cons_zero, List.set_cons_succ, i64_w, i32_w]
            rfl
           refine pure_ (i := 12) (N := some 104) (v := ?_) (a' := ?_) #[true, true, true, true, true, true, true, true, true, true, true, true, true] rfl rfl (any_of HT_.out (by kernel_rfl)) (fun _ _ _ h => h) (Or.inl ⟨by rfl, ?_⟩) ?_ ?_
           rotate_left
           ·intro w'
            go_simp
            with_reducible rfl
           rotate_left
           ·simp only [Act.put, List.setIfInBounds_toArray, List.set_cons_zero, List.set_cons_succ, i64_w, i32_w]
            rfl
           refine done_ (done_of HT_.out (by kernel_rfl)) ?_
           obtain ⟨Ao68, co68, eo68⟩ := Kd.R_slice HO_5.out
           subst eo68
           have p219 : 0 ≤ (x13_3 : Int) := of_decide_eq_true (by first | (with_reducible assumption) | assumption)
           have q219 : x13_3 < (x5_1.length : Int) := of_decide_eq_true (by first | (with_reducible assumption) | assumption)
           obtain ⟨ad219, e219, hx219_0⟩ := Kd.at_int (Kd.R_reads' HO_5.out).2.2 x13_3 p219 q219
           cases e219
           replace p219 := eq_true p219
           replace q219 := eq_true q219
           have p66 : 0 ≤ ((rd x5_1 x13_3) : Int) := of_decide_eq_true (by first | (with_reducible assumption) | assumption)
           have q66 : ((rd x5_1 x13_3) : Int) < ((x10_3.length : Int) : Int) := of_decide_eq_true (by first | (with_reducible assumption) | assumption)
           obtain ⟨go66, co66, eo66, gb66, gl66, cl66, HG66⟩ := Kd.R_form HO_10.out (by omega)
           (first | cases eo66 | (injection eo66 with ea_ en_ ec_; (first | subst ea_ | (injection ea_ with ea_; subst ea_)); subst ec_; clear en_))
           have GB66 := Aside0.mk gb66
           have GG66 := Aside0.mk HG66
           clear gb66 gl66 HG66
           obtain ⟨hx66_0, hf66_0⟩ := Kd.R_celln false HO_10.out ((rd x5_1 x13_3) : Int) p66 q66
           replace p66 := eq_true p66
           replace q66 := eq_true q66
           obtain ⟨hy69_, hz69_⟩ := Kd.R_celln false HO_10.out ((rd x5_1 x13_3) : Int) (of_decide_eq_true (by first | (with_reducible assumption) | assumption)) (of_decide_eq_true (by first | (with_reducible assumption) | assumption))
           have HP69 := Kd.R_putg HO_10.out ((rd x5_1 x13_3) : Int) false
           try go_wp2_with (first|((with_reducible refine gate_store (t := 4) (p := 110) rfl ?_);refine store_event (t := 4) (p := 110) (v := ?vo_w70) (w1 := (w67.setCell ⟨go66, ((rd x5_1 x13_3) : Int).toNat, none⟩ (.bool false))) ?hg ?ho ?hn ?hr ?_;(case ho => rfl);(case hg => rfl);(case hn => rfl);(case hr => first|(go_simp;done)|(go_simp;rfl));intro w70 hw;have hg : w67.grownBy w70 (some go66) := (by rw [hw];exact HP69.2);have hp_ : Kd.R Kd.bool 4 w70 w.heap.size (fun k_ => some k_ ≠ (v206 : Value).ownBlock) (.slice (some ⟨go66, 0, none⟩) x10_3.length co66) y220 := (by rw [hw, Ny220.out];exact HP69.1);clear HP69;have n0_ := Aside0.mk (Kd.R_over' (v := (.slice (some ⟨go66, 0, none⟩) x10_3.length co66)) (by (with_reducible repeat (first|apply Kd.R_alloc|apply Kd.R_drewN|apply Kd.R_drew));exact HO_3.out) (Kd.R_typed HO_10.out) (by decide) hg);have n1_ := Aside0.mk (Kd.R_over' (v := (.slice (some ⟨go66, 0, none⟩) x10_3.length co66)) (by (with_reducible repeat (first|apply Kd.R_alloc|apply Kd.R_drewN|apply Kd.R_drew));exact HO_5.out) (Kd.R_typed HO_10.out) (by decide) hg);have n2_ := Aside0.mk (Kd.R_after (v := (.slice (some ⟨go66, 0, none⟩) x10_3.length co66)) (v1 := (.slice (some ⟨go66, 0, none⟩) x10_3.length co66)) (ok := (fun _ => True)) (by (with_reducible repeat (first|apply Kd.R_alloc|apply Kd.R_drewN|apply Kd.R_drew));exact Kd.R_mono HO_9.out (fun _ hk => by first|trivial|exact ⟨trivial, hk⟩)) hg (.inl rfl));have n3_ := Aside0.mk (hp_);have n4_ := Aside0.mk (blk_grown (g := gb189) (o := .cells #[.int .i64 0, .int .i64 0, .int .i64 0, .bool false] 31 (0, 0)) (by (with_reducible repeat (first|refine blk_drewN ?_ _|refine blk_drew ?_|refine blk_alloc ?_ _));exact BK189.out) hg (Kd.R_ne HO_10.out BK189.out (by decide)));have n5_ := Aside0.mk ((by rw [hw];exact below_set (HB.out) GB66.out : Below w.heap.size w w70));clear HO_3;clear HO_5;clear HO_9;clear HO_10;clear BK189;clear HB;have HO_3 := n0_;have HO_5 := n1_;have HO_9 := n2_;have HO_10 := n3_;have BK189 := n4_;have HB := n5_;clear n0_ n1_ n2_ n3_ n4_ n5_;clear hg hw hp_))
           go_roundg k3
           case measure => have := HK1.out; have := HK2.out; have := HK3.out; omega
           case rel => exact ⟨(y220), (wrap64 (x13_3 + 1)), (by first | rfl | (simp; done) | (simp [*]; done)), H', ⟨by have := HK1.out; have := HK2.out; have := HK3.out; omega⟩, ⟨by exact HO_3.out⟩, ⟨by exact HO_5.out⟩, ⟨by exact Kd.R_mono HO_9.out (fun _ hk => by first | trivial | exact hk.2)⟩, ⟨by exact HO_10.out⟩, ⟨by exact BK189.out⟩, ⟨by exact HB.out⟩⟩
          ·rw [if_neg c62] at H
           have c62b0 : ((Int.tmod (wrap64 (((rd_T57 t190 x13_3).f0) + ((rd_T57 t190 x13_3).f1))) 2) == 0) = false := beq_eq_false_iff_ne.mpr c62
           have c62b1 : ((Int.tmod (wrap64 (((rd_T57 t190 x13_3).f0) + ((rd_T57 t190 x13_3).f1))) 2) != 0) = true := bne_iff_ne.mpr c62
           have H' := Aside0.mk H
           clear H
           try go_wp2
           have n0_ := Aside0.mk (Kd.R_drew HO_3.out)
           have n1_ := Aside0.mk (Kd.R_drew HO_5.out)
           have n2_ := Aside0.mk (Kd.R_drew HO_9.out)
           have n3_ := Aside0.mk (Kd.R_drew HO_10.out)
           have n4_ := Aside0.mk (blk_drew BK189.out)
           have n5_ := Aside0.mk (below_drew1 HB.out)
           clear HO_3
           clear HO_5
           clear HO_9
           clear HO_10
           clear BK189
           clear HB
           have HO_3 := n0_
           have HO_5 := n1_
           have HO_9 := n2_
           have HO_10 := n3_
           have BK189 := n4_
           have HB := n5_
           clear n0_ n1_ n2_ n3_ n4_ n5_
           have p217 : 0 ≤ (x13_3 : Int) := of_decide_eq_true (by first | (with_reducible assumption) | assumption)
           have q217 : x13_3 < (t190.length : Int) := of_decide_eq_true (by first | (with_reducible assumption) | assumption)
           obtain ⟨ad217, e217, hx217_0, hx217_1⟩ := at_T57 (Kd.R_reads' HO_3.out).2.2 x13_3 p217 q217
           cases e217
           replace p217 := eq_true p217
           replace q217 := eq_true q217
           have p218 : 0 ≤ (x13_3 : Int) := of_decide_eq_true (by first | (with_reducible assumption) | assumption)
           have q218 : x13_3 < (t190.length : Int) := of_decide_eq_true (by first | (with_reducible assumption) | assumption)
           obtain ⟨ad218, e218, hx218_0, hx218_1⟩ := at_T57 (Kd.R_reads' HO_3.out).2.2 x13_3 p218 q218
           obtain rfl : ad217 = ad218 := (by injection e218)
           replace p218 := eq_true p218
           replace q218 := eq_true q218
           refine start_ (n := 13) (S := fun w' => w'.cell? (ad217.add ((x13_3).toNat * 2)) = some (.int .i64 ((rd_T57 t190 x13_3).f0)) ∧ w'.cell? ⟨(ad217.add ((x13_3).toNat * 2)).block, (ad217.add ((x13_3).toNat * 2)).off + 1, none⟩ = some (.int .i64 ((rd_T57 t190 x13_3).f1)) ∧ w'.cell? (ad217.add ((x13_3).toNat * 2)) = some (.int .i64 ((rd_T57 t190 x13_3).f0)) ∧ w'.cell? ⟨(ad217.add ((x13_3).toNat * 2)).block, (ad217.add ((x13_3).toNat * 2)).off + 1, none⟩ = some (.int .i64 ((rd_T57 t190 x13_3).f1))) (ds := []) #[false, false, false, false, false, false, false, false, false, false, false, false, false] (by kernel_rfl) rfl rfl ⟨hx217_0, hx217_1, hx218_0, hx218_1⟩ (fun hHeld => ?_);refine with_tabW bibelotref07_Components.tab25 bibelotref07_Components.bits25 (fun HT_ HW_ => ?_)
           generalize wr.drew = w71 at HO_3 HO_5 HO_9 HO_10 BK189 HB hx217_0 hx217_1 hx218_0 hx218_1 hHeld ⊢
           refine pure_ (i := 0) (N := some 92) (v := ?_) (a' := ?_) #[true, false, false, false, false, false, false, false, false, false, false, false, false] rfl rfl (any_of HT_.out (by kernel_rfl)) (fun _ _ _ h => h) (Or.inl ⟨by rfl, ?_⟩) ?_ ?_
           rotate_left
           ·intro w'
            go_simp
            with_reducible rfl
           rotate_left
           ·simp only [Act.put, List.setIfInBounds_toArray, List.set_cons_zero, List.set_cons_succ, i64_w, i32_w]
            rfl
           refine pure_ (i := 1) (N := some 93) (v := ?_) (a' := ?_) #[true, true, false, false, false, false, false, false, false, false, false, false, false] rfl rfl (any_of HT_.out (by kernel_rfl)) (fun _ _ _ h => h) (Or.inl ⟨by rfl, ?_⟩) ?_ ?_
           rotate_left
           ·intro w'
            go_simp
            with_reducible rfl
           rotate_left
           ·simp only [Act.put, List.setIfInBounds_toArray, List.set_cons_zero, List.set_cons_succ, i64_w, i32_w]
            rfl
           refine pure_ (i := 2) (N := some 94) (v := ?_) (a' := ?_) #[true, true, true, false, false, false, false, false, false, false, false, false, false] rfl rfl (any_of HT_.out (by kernel_rfl)) (fun _ _ _ h => h) (Or.inl ⟨by rfl, ?_⟩) ?_ ?_
           rotate_left
           ·intro w'
            go_simp
            with_reducible rfl
           rotate_left
           ·simp only [Act.put, List.setIfInBounds_toArray, List.set_cons_zero, List.set_cons_succ, i64_w, i32_w]
            rfl
           refine pure_ (i := 3) (N := some 95) (v := ?_) (a' := ?_) #[true, true, true, true, false, false, false, false, false, false, false, false, false] rfl rfl (any_of HT_.out (by kernel_rfl)) (fun _ _ _ h => h) (Or.inl ⟨by rfl, ?_⟩) ?_ ?_
           rotate_left
           ·intro w'
            go_simp
            with_reducible rfl
           rotate_left
           ·simp only [Act.put, List.setIfInBounds_toArray, List.set_cons_zero, List.set_cons_succ, i64_w, i32_w]
            rfl
           refine pure_ (i := 5) (N := some 97) (v := ?_) (a' := ?_) #[true, true, true, true, false, true, false, false, false, false, false, false, false] rfl rfl (any_of HT_.out (by kernel_rfl)) (fun _ _ _ h => h) (Or.inl ⟨by rfl, ?_⟩) ?_ ?_
           rotate_left
           ·intro w'
            go_simp
            with_reducible rfl
           rotate_left
           ·simp only [Act.put, List.setIfInBounds_toArray, List.set_cons_zero, List.set_cons_succ, i64_w, i32_w]
            rfl
           refine pure_ (i := 6) (N := some 98) (v := ?_) (a' := ?_) #[true, true, true, true, false, true, true, false, false, false, false, false, false] rfl rfl (any_of HT_.out (by kernel_rfl)) (fun _ _ _ h => h) (Or.inl ⟨by rfl, ?_⟩) ?_ ?_
           rotate_left
           ·intro w'
            go_simp
            with_reducible rfl
           rotate_left
           ·simp only [Act.put, List.setIfInBounds_toArray, List.set_cons_zero, List.set_cons_succ, i64_w, i32_w]
            rfl
           refine pure_ (i := 7) (N := some 99) (v := ?_) (a' := ?_) #[true, true, true, true, false, true, true, true, false, false, false, false, false] rfl rfl (any_of HT_.out (by kernel_rfl)) (fun _ _ _ h => h) (Or.inl ⟨by rfl, ?_⟩) ?_ ?_
           rotate_left
           ·intro w'
            go_simp
            with_reducible rfl
           rotate_left
           ·simp only [Act.put, List.setIfInBounds_toArray, List.set_cons_zero, List.set_cons_succ, i64_w, i32_w]
            rfl
           refine pure_ (i := 8) (N := some 100) (v := ?_) (a' := ?_) #[true, true, true, true, false, true, true, true, true, false, false, false, false] rfl rfl (any_of HT_.out (by kernel_rfl)) (fun _ _ _ h => h) (Or.inl ⟨by rfl, ?_⟩) ?_ ?_
           rotate_left
           ·intro w'
            go_simp
            with_reducible rfl
           rotate_left
           ·simp only [Act.put, List.setIfInBounds_toArray, List.set_cons_zero, List.set_cons_succ, i64_w, i32_w]
            rfl
           refine take_ (i := 4) (N := some 96) (v := ?_) (a' := ?_) #[true, true, true, true, true, true, true, true, true, false, false, false, false] rfl rfl (take_ofW HT_.out HW_.out (by kernel_rfl)) (fun _ _ _ h => h) (Or.inl ⟨by rfl, ?_⟩) hHeld ?_ ?_
           rotate_left
           ·rintro w' ⟨s0, s1, s2, s3⟩
            go_simp
            with_reducible rfl
           rotate_left
           ·simp only [Act.put, List.setIfInBounds_toArray, List.set_cons_zero, List.set_cons_succ, i64_w, i32_w]
            rfl
           refine take_ (i := 9) (N := some 101) (v := ?_) (a' := ?_) #[true, true, true, true, true, true, true, true, true, true, false, false, false] rfl rfl (take_ofW HT_.out HW_.out (by kernel_rfl)) (fun _ _ _ h => h) (Or.inl ⟨by rfl, ?_⟩) hHeld ?_ ?_
           rotate_left
           ·rintro w' ⟨s0, s1, s2, s3⟩
            go_simp
            with_reducible rfl
           rotate_left
           ·simp only [Act.put, List.setIfInBounds_toArray, List.set_cons_zero, List.set_cons_succ, i64_w, i32_w]
            rfl
           refine pure_ (i := 10) (N := some 102) (v := ?_) (a' := ?_) #[true, true, true, true, true, true, true, true, true, true, true, false, false] rfl rfl (any_of HT_.out (by kernel_rfl)) (fun _ _ _ h => h) (Or.inl ⟨by rfl, ?_⟩) ?_ ?_
           rotate_left
           ·intro w'
            go_simp
            with_reducible rfl
           rotate_left
           ·simp only [Act.put, List.setIfInBounds_toArray, List.set_cons_zero, List.set_cons_succ, i64_w, i32_w]
            rfl
           refine pure_ (i := 11) (N := some 103) (v := ?_) (a' := ?_) #[true, true, true, true, true, true, true, true, true, true, true, true, false] rfl rfl (any_of HT_.out (by kernel_rfl)) (fun _ _ _ h => h) (Or.inl ⟨by rfl, ?_⟩) ?_ ?_
           rotate_left
           ·intro w'
            go_simp
            with_reducible rfl
           rotate_left
           ·simp only [Act.put, List.setIfInBounds_toArray, List.set_cons_zero, List.set_cons_succ, i64_w, i32_w]
            rfl
           refine pure_ (i := 12) (N := some 104) (v := ?_) (a' := ?_) #[true, true, true, true, true, true, true, true, true, true, true, true, true] rfl rfl (any_of HT_.out (by kernel_rfl)) (fun _ _ _ h => h) (Or.inl ⟨by rfl, ?_⟩) ?_ ?_
           rotate_left
           ·intro w'
            go_simp
            with_reducible rfl
           rotate_left
           ·simp only [Act.put, List.setIfInBounds_toArray, List.set_cons_zero, List.set_cons_succ, i64_w, i32_w]
            rfl
           refine done_ (done_of HT_.out (by kernel_rfl)) ?_
           try go_wp2
           go_roundg k3
           case measure => have := HK1.out; have := HK2.out; have := HK3.out; omega
           case rel => exact ⟨(x10_3), (wrap64 (x13_3 + 1)), (by first | rfl | (simp; done) | (simp [*]; done)), H', ⟨by have := HK1.out; have := HK2.out; have := HK3.out; omega⟩, ⟨by exact HO_3.out⟩, ⟨by exact HO_5.out⟩, ⟨by exact HO_9.out⟩, ⟨by exact HO_10.out⟩, ⟨by exact BK189.out⟩, ⟨by exact HB.out⟩⟩
         ·rw [if_neg c59] at H
          have c59b0 : decide (x13_3 < (t190.length : Int)) = false := decide_eq_false c59
          clear c59
          by_cases c72 : 0 ≤ (t190.length : Int)
          rotate_left
          ·rw [if_neg c72] at H
           exact absurd H (by simp)
          rw [if_pos c72] at H
          have c72b0 := eq_true c72
          have c72b1 : decide (0 ≤ (t190.length : Int)) = true := decide_eq_true c72
          clear c72
          by_cases c73 : ((t190.length : Int) : Int).toNat ≤ 281474976710656
          rotate_left
          ·rw [if_neg c73] at H
           exact absurd H (by simp)
          rw [if_pos c73] at H
          have c73b0 := eq_true c73
          have c73b1 : decide (((t190.length : Int) : Int).toNat ≤ 281474976710656) = true := decide_eq_true c73
          clear c73
          obtain ⟨y222, hy222⟩ : ∃ y_ : List Bool, y_ = (List.replicate ((t190.length : Int) : Int).toNat false) := ⟨_, rfl⟩
          replace H : (bibelotref07_Components.l5 k3 l0 x5_1 (t190.length : Int) x9_2 x10_3 y222 0 0 0 0 false) = some (r1, r2, r3, r4) := by first | (rw [hy222]; with_reducible exact H) | (have H2_ := (Option.bind_some _ _).symm.trans H; rw [hy222]; with_reducible exact H2_) | (have H2_ := (Option.bind_some _ _).symm.trans H; with_reducible exact H2_) | with_reducible exact H | (rw [hy222]; exact H) | exact H
          have Ny222 := Aside0.mk hy222
          clear hy222
          have H' := Aside0.mk H
          clear H
          go_wp2_with (first|((with_reducible refine gate_dst (N := 14) rfl ?_);refine box_event ?hg (N := 14) ?hd (cs := #[.int .i64 0, .int .i64 0, .int .i64 0, .bool false]) (t := 31) ?hr ?_;(case hd => rfl);(case hg => rfl);(case hr => first|(go_simp;done)|(go_simp;rfl));intro gb221 hg w74 hbox hb;have n0_ := Aside0.mk (Kd.R_below (by (with_reducible repeat (first|apply Kd.R_alloc|apply Kd.R_drewN|apply Kd.R_drew));exact HO_3.out) hb);have n1_ := Aside0.mk (Kd.R_below (by (with_reducible repeat (first|apply Kd.R_alloc|apply Kd.R_drewN|apply Kd.R_drew));exact HO_5.out) hb);have n2_ := Aside0.mk (Kd.R_below (by (with_reducible repeat (first|apply Kd.R_alloc|apply Kd.R_drewN|apply Kd.R_drew));exact HO_9.out) hb);have n3_ := Aside0.mk (Kd.R_below (by (with_reducible repeat (first|apply Kd.R_alloc|apply Kd.R_drewN|apply Kd.R_drew));exact HO_10.out) hb);have n4_ := Aside0.mk (blk_below (g := gb189) (o := .cells #[.int .i64 0, .int .i64 0, .int .i64 0, .bool false] 31 (0, 0)) (by (with_reducible repeat (first|refine blk_drewN ?_ _|refine blk_drew ?_|refine blk_alloc ?_ _));exact BK189.out) hb);have n5_ := Aside0.mk (below_step (by repeat (first|(with_reducible first|exact HB.out|apply below_alloc|apply pw_below_drewN|apply below_drew1|refine below_set ?_ GE189.out)|exact HB.out)) hb);have n6_ := Aside0.mk (hbox);have n7_ := Aside0.mk ((by rw [hg];exact (below_size (by repeat (first|(with_reducible first|exact HB.out|apply below_alloc|apply pw_below_drewN|apply below_drew1|refine below_set ?_ GE189.out)|exact HB.out))) : w.heap.size ≤ gb221));have n8_ := Aside0.mk ((by rw [hg];exact (below_size (by repeat (first|(with_reducible first|exact HB.out|apply below_alloc|apply pw_below_drewN|apply below_drew1|refine below_set ?_ GE189.out)|exact HB.out))) : w.heap.size ≤ gb221));have n9_ := Aside0.mk ((by rw [hg];exact Nat.ne_of_lt (blk_lt (g := gb189) (o := .cells #[.int .i64 0, .int .i64 0, .int .i64 0, .bool false] 31 (0, 0)) (by (with_reducible repeat (first|refine blk_drewN ?_ _|refine blk_drew ?_|refine blk_alloc ?_ _));exact BK189.out)) : gb189 ≠ gb221));have n10_ := Aside0.mk ((by rw [hg];exact Nat.ne_of_gt (blk_lt (g := gb189) (o := .cells #[.int .i64 0, .int .i64 0, .int .i64 0, .bool false] 31 (0, 0)) (by (with_reducible repeat (first|refine blk_drewN ?_ _|refine blk_drew ?_|refine blk_alloc ?_ _));exact BK189.out)) : gb221 ≠ gb189));clear HO_3;clear HO_5;clear HO_9;clear HO_10;clear BK189;clear HB;have HO_3 := n0_;have HO_5 := n1_;have HO_9 := n2_;have HO_10 := n3_;have BK189 := n4_;have HB := n5_;have BK221 := n6_;have GW221 := n7_;have GE221 := n8_;have NB189_221 := n9_;have NB221_189 := n10_;clear n0_ n1_ n2_ n3_ n4_ n5_ n6_ n7_ n8_ n9_ n10_;clear hb hbox hg)|((with_reducible refine gate_dst (N := 112) rfl ?_);refine Kd.R_make Kd.bool _ 4 rfl (N := 112) rfl 62 _ _ rfl (t190.length : Int) rfl rfl Try.underlying62 (.bool false) 1 info4 rfl (by decide) (by omega) false (ok := fun _ => True) (okp := fun _ => True) rfl (fun _ hk => by first|trivial|exact hk) trivial (of_decide_eq_true (by first|(with_reducible assumption)|assumption)) (Nat.le_trans (Nat.mul_le_mul_right _ (of_decide_eq_true (by first|(with_reducible assumption)|assumption) : (t190.length : Int).toNat ≤ 281474976710656)) (by omega)) (Below.refl _ _) (Nat.le_refl _) ?_;intro v223 w75 ho76 hb hg_ hnew_;clear hg_ hnew_;(first|rw [← Ny222.out] at ho76|(simp only [Int.reduceToNat] at ho76;rw [← Ny222.out] at ho76));have n0_ := Aside0.mk (Kd.R_below (by (with_reducible repeat (first|apply Kd.R_alloc|apply Kd.R_drewN|apply Kd.R_drew));exact HO_3.out) hb);have n1_ := Aside0.mk (Kd.R_below (by (with_reducible repeat (first|apply Kd.R_alloc|apply Kd.R_drewN|apply Kd.R_drew));exact HO_5.out) hb);have n2_ := Aside0.mk (Kd.R_elder' (by (with_reducible repeat (first|apply Kd.R_alloc|apply Kd.R_drewN|apply Kd.R_drew));exact HO_9.out) (Kd.R_base ho76) hb);have n3_ := Aside0.mk (Kd.R_elder' (by (with_reducible repeat (first|apply Kd.R_alloc|apply Kd.R_drewN|apply Kd.R_drew));exact HO_10.out) (Kd.R_base ho76) hb);have n4_ := Aside0.mk (Kd.R_lower (Kd.R_new' (Kd.R_new' ho76 (Kd.R_lt (by (with_reducible repeat (first|apply Kd.R_alloc|apply Kd.R_drewN|apply Kd.R_drew));exact HO_9.out))) (Kd.R_lt (by (with_reducible repeat (first|apply Kd.R_alloc|apply Kd.R_drewN|apply Kd.R_drew));exact HO_10.out))) (below_size (by repeat (first|(with_reducible first|exact HB.out|apply below_alloc|apply pw_below_drewN|apply below_drew1|refine below_set ?_ GE189.out|refine below_set ?_ GE221.out)|exact HB.out))));have n5_ := Aside0.mk (blk_below (g := gb189) (o := .cells #[.int .i64 0, .int .i64 0, .int .i64 0, .bool false] 31 (0, 0)) (by (with_reducible repeat (first|refine blk_drewN ?_ _|refine blk_drew ?_|refine blk_alloc ?_ _));exact BK189.out) hb);have n6_ := Aside0.mk (blk_below (g := gb221) (o := .cells #[.int .i64 0, .int .i64 0, .int .i64 0, .bool false] 31 (0, 0)) (by (with_reducible repeat (first|refine blk_drewN ?_ _|refine blk_drew ?_|refine blk_alloc ?_ _));exact BK221.out) hb);have n7_ := Aside0.mk (below_step (by repeat (first|(with_reducible first|exact HB.out|apply below_alloc|apply pw_below_drewN|apply below_drew1|refine below_set ?_ GE189.out|refine below_set ?_ GE221.out)|exact HB.out)) hb);clear HO_3;clear HO_5;clear HO_9;clear HO_10;clear BK189;clear BK221;clear HB;have HO_3 := n0_;have HO_5 := n1_;have HO_9 := n2_;have HO_10 := n3_;have HO224 := n4_;have BK189 := n5_;have BK221 := n6_;have HB := n7_;clear n0_ n1_ n2_ n3_ n4_ n5_ n6_ n7_;clear hb ho76))
          go_loopg [16] k3 (fun kq v16 w' => ∃ (x15_4 : List Bool) (x16_4 : Int) (x222000_4 : Int) (x222001_4 : Int) (x222002_4 : Int), v16 = .int .i64 x16_4 ∧ Aside0 (bibelotref07_Components.l5 kq l0 x5_1 (t190.length : Int) x9_2 x10_3 x15_4 x16_4 x222000_4 x222001_4 x222002_4 false = some (r1, r2, r3, r4)) ∧ Aside0 (kq ≤ k3) ∧ Aside0 (Kd.R (Kd.int .i64) 3 w' w.heap.size (fun _ => True) u5 x5_1) ∧ Aside0 (Kd.R Kd.bool 4 w' w.heap.size (fun k_ => some k_ ≠ (v209 : Value).ownBlock ∧ some k_ ≠ (v223 : Value).ownBlock) v206 x9_2) ∧ Aside0 (Kd.R Kd.bool 4 w' w.heap.size (fun k_ => some k_ ≠ (v206 : Value).ownBlock ∧ some k_ ≠ (v223 : Value).ownBlock) v209 x10_3) ∧ Aside0 (Kd.R Kd.bool 4 w' w.heap.size (fun k_ => some k_ ≠ (v206 : Value).ownBlock ∧ some k_ ≠ (v209 : Value).ownBlock) v223 x15_4) ∧ Aside0 (w'.heap[gb189]? = some (.cells #[.int .i64 0, .int .i64 0, .int .i64 0, .bool false] 31 (0, 0))) ∧ Aside0 (w'.heap[gb221]? = some (.cells #[.int .i64 x222000_4, .int .i64 x222001_4, .int .i64 x222002_4, .bool false] 31 (0, 0))) ∧ Aside0 (Below w.heap.size w w'))
          case atStart => exact ⟨(y222), (0), (0), (0), (0), (by first | rfl | (simp; done) | (simp [*]; done)), H', ⟨Nat.le_refl _⟩, ⟨by exact HO_5.out⟩, ⟨by exact HO_9.out⟩, ⟨by exact HO_10.out⟩, ⟨by exact Kd.R_mono HO224.out (fun _ hk => by first | trivial | exact ⟨hk.1.2, hk.2⟩)⟩, ⟨by exact BK189.out⟩, ⟨by exact BK221.out⟩, ⟨by exact HB.out⟩⟩
          case round =>
           clear H'
           obtain ⟨x15_4, x16_4, x222000_4, x222001_4, x222002_4, rfl, HA, HK4, HO_5, HO_9, HO_10, HO_15, BK189, BK221, HB⟩ := hrel
           cases gk with
           | zero => exact absurd HA.out (by simp [bibelotref07_Components.l5])
           | succ k4 =>
            have H := HA.out
            clear HA
            simp only [bibelotref07_Components.l5] at H
            by_cases c77 : x16_4 < (t190.length : Int)
            ·rw [if_pos c77] at H
             have c77b0 : decide (x16_4 < (t190.length : Int)) = true := decide_eq_true c77
             clear c77
             by_cases c78 : 0 ≤ x16_4
             rotate_left
             ·rw [if_neg c78] at H
              exact absurd H (by simp)
             rw [if_pos c78] at H
             have c78b0 : decide (0 ≤ x16_4) = true := decide_eq_true c78
             clear c78
             by_cases c79 : x16_4 < (x9_2.length : Int)
             rotate_left
             ·rw [if_neg c79] at H
              exact absurd H (by simp)
             rw [if_pos c79] at H
             have c79b0 : decide (x16_4 < (x9_2.length : Int)) = true := decide_eq_true c79
             clear c79
             have HC80 := Aside0.mk H
             clear H
             obtain ⟨Ao81, co81, eo81⟩ := Kd.R_slice HO_9.out
             subst eo81
             have p225 : 0 ≤ (x16_4 : Int) := of_decide_eq_true (by first | (with_reducible assumption) | assumption)
             have q225 : x16_4 < (x9_2.length : Int) := of_decide_eq_true (by first | (with_reducible assumption) | assumption)
             obtain ⟨ad225, e225, hx225_0⟩ := Kd.at_bool (Kd.R_reads' HO_9.out).2.2 x16_4 p225 q225
             cases e225
             replace p225 := eq_true p225
             replace q225 := eq_true q225
             go_upto_if 121 with (fail)
             go_cut [] (fun wc => ∃ (kq : Nat) (x222000_79 : Int), Aside0 (bibelotref07_Components.j6 kq l0 x5_1 (t190.length : Int) x9_2 x10_3 x15_4 x16_4 x222000_79 x222001_4 x222002_4 false = some (r1, r2, r3, r4)) ∧ Aside0 (kq ≤ k4) ∧ Aside0 (Kd.R (Kd.int .i64) 3 wc w.heap.size (fun _ => True) u5 x5_1) ∧ Aside0 (Kd.R Kd.bool 4 wc w.heap.size (fun k_ => some k_ ≠ (v209 : Value).ownBlock ∧ some k_ ≠ (v223 : Value).ownBlock) (.slice (some ad225) x9_2.length co81) x9_2) ∧ Aside0 (Kd.R Kd.bool 4 wc w.heap.size (fun k_ => some k_ ≠ ((.slice (some ad225) x9_2.length co81) : Value).ownBlock ∧ some k_ ≠ (v223 : Value).ownBlock) v209 x10_3) ∧ Aside0 (Kd.R Kd.bool 4 wc w.heap.size (fun k_ => some k_ ≠ ((.slice (some ad225) x9_2.length co81) : Value).ownBlock ∧ some k_ ≠ (v209 : Value).ownBlock) v223 x15_4) ∧ Aside0 (wc.heap[gb189]? = some (.cells #[.int .i64 0, .int .i64 0, .int .i64 0, .bool false] 31 (0, 0))) ∧ Aside0 (wc.heap[gb221]? = some (.cells #[.int .i64 x222000_79, .int .i64 x222001_4, .int .i64 x222002_4, .bool false] 31 (0, 0))) ∧ Aside0 (Below w.heap.size w wc))
             case first =>
              have H := HC80.out
              clear HC80
              obtain ⟨bq82, hbq82⟩ : ∃ b_ : Bool, b_ = (rdOf false x9_2 x16_4) := ⟨_, rfl⟩
              replace H : (if bq82 = true then (bibelotref07_Components.j6 k4 l0 x5_1 (t190.length : Int) x9_2 x10_3 x15_4 x16_4 (wrap64 (x222000_4 + 1)) x222001_4 x222002_4 false) else (bibelotref07_Components.j6 k4 l0 x5_1 (t190.length : Int) x9_2 x10_3 x15_4 x16_4 x222000_4 x222001_4 x222002_4 false)) = some (r1, r2, r3, r4) := by rw [← hbq82] at H; exact H
              have Nbq82 := Aside0.mk hbq82
              clear hbq82
              (try rw [← Nbq82.out])
              by_cases c83 : bq82 = true
              ·subst c83
               have H1 : (bibelotref07_Components.j6 k4 l0 x5_1 (t190.length : Int) x9_2 x10_3 x15_4 x16_4 (wrap64 (x222000_4 + 1)) x222001_4 x222002_4 false) = some (r1, r2, r3, r4) := by rw [if_pos rfl] at H; exact H
               clear H
               have H := H1
               clear H1
               have H' := Aside0.mk H
               clear H
               have hnb84 := NB221_189.out
               have hnc84 := NB189_221.out
               have hcz85_0 : wr.cell? ⟨gb221, 0, none⟩ = some (.int .i64 x222000_4) := (blk_cell BK221.out 0).trans rfl
               have hcz85_1 : wr.cell? ⟨gb221, 1, none⟩ = some (.int .i64 x222001_4) := (blk_cell BK221.out 1).trans rfl
               have hcz85_2 : wr.cell? ⟨gb221, 2, none⟩ = some (.int .i64 x222002_4) := (blk_cell BK221.out 2).trans rfl
               have hcz85_3 : wr.cell? ⟨gb221, 3, none⟩ = some (.bool false) := (blk_cell BK221.out 3).trans rfl
               have hfz85_0 := blk_frozen BK221.out 0
               have hfz85_1 := blk_frozen BK221.out 1
               have hfz85_2 := blk_frozen BK221.out 2
               have hfz85_3 := blk_frozen BK221.out 3
               go_wp2
               go_meet
               case rel => exact ⟨_, (wrap64 (x222000_4 + 1)), H', ⟨by have := HK1.out;have := HK2.out;have := HK3.out;have := HK4.out;first|omega|exact Nat.le_refl _⟩, ⟨by exact Kd.R_mono (Kd.R_far (p := ⟨gb221, 0, none⟩) (Kd.R_types HO_5.out BK221.out (by decide)) (fun _ hk => by first|trivial|exact hk.2) (.int .i64 (wrap64 (x222000_4 + 1)))) (fun _ hk => by first|trivial|exact trivial)⟩, ⟨by exact Kd.R_mono (Kd.R_far (p := ⟨gb221, 0, none⟩) (Kd.R_types HO_9.out BK221.out (by decide)) (fun _ hk => by first|trivial|exact hk.2) (.int .i64 (wrap64 (x222000_4 + 1)))) (fun _ hk => by first|trivial|exact ⟨hk.1.1, hk.1.2⟩)⟩, ⟨by exact Kd.R_mono (Kd.R_far (p := ⟨gb221, 0, none⟩) (Kd.R_types HO_10.out BK221.out (by decide)) (fun _ hk => by first|trivial|exact hk.2) (.int .i64 (wrap64 (x222000_4 + 1)))) (fun _ hk => by first|trivial|exact ⟨hk.1.1, hk.1.2⟩)⟩, ⟨by exact Kd.R_mono (Kd.R_far (p := ⟨gb221, 0, none⟩) (Kd.R_types HO_15.out BK221.out (by decide)) (fun _ hk => by first|trivial|exact hk.2) (.int .i64 (wrap64 (x222000_4 + 1)))) (fun _ hk => by first|trivial|exact ⟨hk.1.1, hk.1.2⟩)⟩, ⟨by (with_reducible repeat (first|refine blk_drewN ?_ _|refine blk_drew ?_|refine blk_alloc ?_ _));refine blk_far ?_ NB189_221.out _;(with_reducible repeat (first|refine blk_drewN ?_ _|refine blk_drew ?_|refine blk_alloc ?_ _));exact BK189.out⟩, ⟨by (with_reducible repeat (first|refine blk_drewN ?_ _|refine blk_drew ?_|refine blk_alloc ?_ _));refine blk_put (cs := #[.int .i64 x222000_4, .int .i64 x222001_4, .int .i64 x222002_4, .bool false]) ?_ 0 _ rfl;(with_reducible repeat (first|refine blk_drewN ?_ _|refine blk_drew ?_|refine blk_alloc ?_ _));exact BK221.out⟩, ⟨by repeat (first|(with_reducible first|exact HB.out|apply below_alloc|apply pw_below_drewN|apply below_drew1|refine below_set ?_ GE189.out|refine below_set ?_ GE221.out)|exact HB.out)⟩⟩
              ·replace c83 := Bool.eq_false_iff.mpr c83
               subst c83
               have H1 : (bibelotref07_Components.j6 k4 l0 x5_1 (t190.length : Int) x9_2 x10_3 x15_4 x16_4 x222000_4 x222001_4 x222002_4 false) = some (r1, r2, r3, r4) := by rw [if_neg (show ¬ (false = true) by decide)] at H; exact H
               clear H
               have H := H1
               clear H1
               have H' := Aside0.mk H
               clear H
               go_wp2
               go_meet
               case rel => exact ⟨_, (x222000_4), H', ⟨by have := HK1.out; have := HK2.out; have := HK3.out; have := HK4.out; first | omega | exact Nat.le_refl _⟩, ⟨by exact HO_5.out⟩, ⟨by exact HO_9.out⟩, ⟨by exact HO_10.out⟩, ⟨by exact HO_15.out⟩, ⟨by exact BK189.out⟩, ⟨by exact BK221.out⟩, ⟨by exact HB.out⟩⟩
             case rest =>
              clear HC80
              obtain ⟨kq, x222000_79, HA, HJ79, HO_5, HO_9, HO_10, HO_15, BK189, BK221, HB⟩ := hcut
              cases kq with
              | zero => exact absurd HA.out (by simp [bibelotref07_Components.j6])
              | succ kj79 =>
               have H := HA.out
               clear HA
               simp only [bibelotref07_Components.j6] at H
               by_cases c86 : 0 ≤ x16_4
               rotate_left
               ·rw [if_neg c86] at H
                exact absurd H (by simp)
               rw [if_pos c86] at H
               have c86b0 : decide (0 ≤ x16_4) = true := decide_eq_true c86
               clear c86
               by_cases c87 : x16_4 < (x10_3.length : Int)
               rotate_left
               ·rw [if_neg c87] at H
                exact absurd H (by simp)
               rw [if_pos c87] at H
               have c87b0 : decide (x16_4 < (x10_3.length : Int)) = true := decide_eq_true c87
               clear c87
               obtain ⟨bq88, hbq88⟩ : ∃ b_ : Bool, b_ = (rdOf false x10_3 x16_4) := ⟨_, rfl⟩
               replace H : (if bq88 = true then ((bibelotref07_whole.f kj79 l0 x5_1 x10_3 x16_4).bind fun t228 => (if x16_4 < (x15_4.length : Int) then ((some (x15_4.set (x16_4 : Int).toNat t228 : List Bool)).bind fun y229 => (if rdOf false y229 x16_4 = true then (bibelotref07_Components.l5 kj79 l0 x5_1 (t190.length : Int) x9_2 x10_3 y229 (wrap64 (x16_4 + 1)) x222000_79 (wrap64 (x222001_4 + 1)) (wrap64 (x222002_4 + 1)) false) else (bibelotref07_Components.l5 kj79 l0 x5_1 (t190.length : Int) x9_2 x10_3 y229 (wrap64 (x16_4 + 1)) x222000_79 (wrap64 (x222001_4 + 1)) x222002_4 false))) else (none))) else (if x16_4 < (x15_4.length : Int) then ((some (x15_4.set (x16_4 : Int).toNat false : List Bool)).bind fun y232 => (if rdOf false y232 x16_4 = true then (bibelotref07_Components.l5 kj79 l0 x5_1 (t190.length : Int) x9_2 x10_3 y232 (wrap64 (x16_4 + 1)) x222000_79 x222001_4 (wrap64 (x222002_4 + 1)) false) else (bibelotref07_Components.l5 kj79 l0 x5_1 (t190.length : Int) x9_2 x10_3 y232 (wrap64 (x16_4 + 1)) x222000_79 x222001_4 x222002_4 false))) else (none))) = some (r1, r2, r3, r4) := by rw [← hbq88] at H;exact H
               have Nbq88 := Aside0.mk hbq88
               clear hbq88
               by_cases c89 : bq88 = true
               ·subst c89
                have H1 : ((bibelotref07_whole.f kj79 l0 x5_1 x10_3 x16_4).bind fun t228 => (if x16_4 < (x15_4.length : Int) then ((some (x15_4.set (x16_4 : Int).toNat t228 : List Bool)).bind fun y229 => (if rdOf false y229 x16_4 = true then (bibelotref07_Components.l5 kj79 l0 x5_1 (t190.length : Int) x9_2 x10_3 y229 (wrap64 (x16_4 + 1)) x222000_79 (wrap64 (x222001_4 + 1)) (wrap64 (x222002_4 + 1)) false) else (bibelotref07_Components.l5 kj79 l0 x5_1 (t190.length : Int) x9_2 x10_3 y229 (wrap64 (x16_4 + 1)) x222000_79 (wrap64 (x222001_4 + 1)) x222002_4 false))) else (none))) = some (r1, r2, r3, r4) := by rw [if_pos rfl] at H;exact H
                clear H
                have H := H1
                clear H1
                replace H := Option.bind_eq_some_iff.mp H
                obtain ⟨t228, A900, H⟩ := H
                replace H : (if x16_4 < (x15_4.length : Int) then ((some (x15_4.set (x16_4 : Int).toNat t228 : List Bool)).bind fun y229 => (if rdOf false y229 x16_4 = true then (bibelotref07_Components.l5 kj79 l0 x5_1 (t190.length : Int) x9_2 x10_3 y229 (wrap64 (x16_4 + 1)) x222000_79 (wrap64 (x222001_4 + 1)) (wrap64 (x222002_4 + 1)) false) else (bibelotref07_Components.l5 kj79 l0 x5_1 (t190.length : Int) x9_2 x10_3 y229 (wrap64 (x16_4 + 1)) x222000_79 (wrap64 (x222001_4 + 1)) x222002_4 false))) else (none)) = some (r1, r2, r3, r4) := H
                have A90 := Aside0.mk A900
                clear A900
                by_cases c91 : x16_4 < (x15_4.length : Int)
                rotate_left
                ·rw [if_neg c91] at H
                 exact absurd H (by simp)
                rw [if_pos c91] at H
                have c91b0 : decide (x16_4 < (x15_4.length : Int)) = true := decide_eq_true c91
                clear c91
                obtain ⟨y229, hy229⟩ : ∃ y_ : List Bool, y_ = (x15_4.set (x16_4 : Int).toNat t228) := ⟨_, rfl⟩
                replace H : (if rdOf false y229 x16_4 = true then (bibelotref07_Components.l5 kj79 l0 x5_1 (t190.length : Int) x9_2 x10_3 y229 (wrap64 (x16_4 + 1)) x222000_79 (wrap64 (x222001_4 + 1)) (wrap64 (x222002_4 + 1)) false) else (bibelotref07_Components.l5 kj79 l0 x5_1 (t190.length : Int) x9_2 x10_3 y229 (wrap64 (x16_4 + 1)) x222000_79 (wrap64 (x222001_4 + 1)) x222002_4 false)) = some (r1, r2, r3, r4) := by first|(rw [hy229];with_reducible exact H)|(have H2_ := (Option.bind_some _ _).symm.trans H;rw [hy229];with_reducible exact H2_)|(have H2_ := (Option.bind_some _ _).symm.trans H;with_reducible exact H2_)|with_reducible exact H|(rw [hy229];exact H)|exact H
                have Ny229 := Aside0.mk hy229
                clear hy229
                obtain ⟨bq93, hbq93⟩ : ∃ b_ : Bool, b_ = (rdOf false y229 x16_4) := ⟨_, rfl⟩
                replace H : (if bq93 = true then (bibelotref07_Components.l5 kj79 l0 x5_1 (t190.length : Int) x9_2 x10_3 y229 (wrap64 (x16_4 + 1)) x222000_79 (wrap64 (x222001_4 + 1)) (wrap64 (x222002_4 + 1)) false) else (bibelotref07_Components.l5 kj79 l0 x5_1 (t190.length : Int) x9_2 x10_3 y229 (wrap64 (x16_4 + 1)) x222000_79 (wrap64 (x222001_4 + 1)) x222002_4 false)) = some (r1, r2, r3, r4) := by rw [← hbq93] at H; exact H
                have Nbq93 := Aside0.mk hbq93
                clear hbq93
                by_cases c94 : bq93 = true
                ·subst c94
                 have H1 : (bibelotref07_Components.l5 kj79 l0 x5_1 (t190.length : Int) x9_2 x10_3 y229 (wrap64 (x16_4 + 1)) x222000_79 (wrap64 (x222001_4 + 1)) (wrap64 (x222002_4 + 1)) false) = some (r1, r2, r3, r4) := by rw [if_pos rfl] at H; exact H
                 clear H
                 have H := H1
                 clear H1
                 have H' := Aside0.mk H
                 clear H
                 obtain ⟨Ao95, co95, eo95⟩ := Kd.R_slice HO_10.out
                 subst eo95
                 have p226 : 0 ≤ (x16_4 : Int) := of_decide_eq_true (by first | (with_reducible assumption) | assumption)
                 have q226 : x16_4 < (x10_3.length : Int) := of_decide_eq_true (by first | (with_reducible assumption) | assumption)
                 obtain ⟨ad226, e226, hx226_0⟩ := Kd.at_bool (Kd.R_reads' HO_10.out).2.2 x16_4 p226 q226
                 (try rw [← Nbq88.out] at hx226_0)
                 (try rw [← Nbq93.out] at hx226_0)
                 cases e226
                 replace p226 := eq_true p226
                 replace q226 := eq_true q226
                 have hnb96 := NB221_189.out
                 have hnc96 := NB189_221.out
                 have hcz97_0 : wc.cell? ⟨gb221, 0, none⟩ = some (.int .i64 x222000_79) := (blk_cell BK221.out 0).trans rfl
                 have hcz97_1 : wc.cell? ⟨gb221, 1, none⟩ = some (.int .i64 x222001_4) := (blk_cell BK221.out 1).trans rfl
                 have hcz97_2 : wc.cell? ⟨gb221, 2, none⟩ = some (.int .i64 x222002_4) := (blk_cell BK221.out 2).trans rfl
                 have hcz97_3 : wc.cell? ⟨gb221, 3, none⟩ = some (.bool false) := (blk_cell BK221.out 3).trans rfl
                 have hfz97_0 := blk_frozen BK221.out 0
                 have hfz97_1 := blk_frozen BK221.out 1
                 have hfz97_2 := blk_frozen BK221.out 2
                 have hfz97_3 := blk_frozen BK221.out 3
                 have p227 : 0 ≤ (x16_4 : Int) := of_decide_eq_true (by first | (with_reducible assumption) | assumption)
                 have q227 : x16_4 < (x10_3.length : Int) := of_decide_eq_true (by first | (with_reducible assumption) | assumption)
                 obtain ⟨ad227, e227, hx227_0⟩ := Kd.at_bool (Kd.R_reads' HO_10.out).2.2 x16_4 p227 q227
                 (try rw [← Nbq88.out] at hx227_0)
                 (try rw [← Nbq93.out] at hx227_0)
                 obtain rfl : ad226 = ad227 := (by injection e227)
                 have hn227_0 : ad226.block ≠ gb221 := Kd.own_blk (Kd.R_ne HO_10.out BK221.out (by decide))
                 replace hx227_0 := (cell_far (p := ⟨gb221, 1, none⟩) (by first | (rw [add_block]; exact hn227_0) | (show (Addr.add _ _).block ≠ _; rw [add_block]; exact hn227_0) | exact hn227_0) (.int .i64 (wrap64 (x222001_4 + 1)))).trans hx227_0
                 clear hn227_0
                 replace p227 := eq_true p227
                 replace q227 := eq_true q227
                 obtain ⟨Ao98, co98, eo98⟩ := Kd.R_slice HO_5.out
                 subst eo98
                 go_wp2_with (first|(go_at_call 67;(with_reducible refine (bibelotref07_whole.calls kj79 _ _ l0 _ _ x5_1 _ _ x10_3 x16_4 t228 _ ?side1 ?side2 ?side3 ?side4 ?side5 ?side6 A90.out).mono ?_);(case side1 => exact Kd.C_below HR0.out (by repeat (first|(with_reducible first|exact HB.out|apply below_alloc|apply pw_below_drewN|apply below_drew1|refine below_set ?_ GE189.out|refine below_set ?_ GE221.out)|exact HB.out)));(case side2 => exact HC0.out);(case side3 => refine (Kd.R_reads' (e := 3) (base := w.heap.size) (ok := fun k_ => True) (n := x5_1.length) (c := co98) ?_).2.2;exact (by (with_reducible repeat (first|apply Kd.R_alloc|apply Kd.R_drewN|apply Kd.R_drew));exact (Kd.R_mono (Kd.R_far (p := ⟨gb221, 1, none⟩) (Kd.R_types HO_5.out BK221.out (by decide)) (fun _ hk => by first|trivial|exact hk.2) (.int .i64 (wrap64 (x222001_4 + 1)))) (fun _ h_ => h_.1))));(case side4 => exact (Kd.R_reads' HO_5.out).2.1);(case side5 => refine (Kd.R_reads' (e := 4) (base := w.heap.size) (ok := fun k_ => (some k_ ≠ (.slice (some ad225) x9_2.length co81 : Value).ownBlock ∧ some k_ ≠ (v223 : Value).ownBlock)) (n := x10_3.length) (c := co95) ?_).2.2;exact (by (with_reducible repeat (first|apply Kd.R_alloc|apply Kd.R_drewN|apply Kd.R_drew));exact (Kd.R_mono (Kd.R_far (p := ⟨gb221, 1, none⟩) (Kd.R_types HO_10.out BK221.out (by decide)) (fun _ hk => by first|trivial|exact hk.2) (.int .i64 (wrap64 (x222001_4 + 1)))) (fun _ h_ => h_.1))));(case side6 => exact (Kd.R_reads' HO_10.out).2.1);rintro e w99 ⟨rfl, hb⟩;have n0_ := Aside0.mk (Kd.R_below (by (with_reducible repeat (first|apply Kd.R_alloc|apply Kd.R_drewN|apply Kd.R_drew));exact (Kd.R_mono (Kd.R_far (p := ⟨gb221, 1, none⟩) (Kd.R_types HO_5.out BK221.out (by decide)) (fun _ hk => by first|trivial|exact hk.2) (.int .i64 (wrap64 (x222001_4 + 1)))) (fun _ h_ => h_.1))) hb);have n1_ := Aside0.mk (Kd.R_below (by (with_reducible repeat (first|apply Kd.R_alloc|apply Kd.R_drewN|apply Kd.R_drew));exact (Kd.R_mono (Kd.R_far (p := ⟨gb221, 1, none⟩) (Kd.R_types HO_9.out BK221.out (by decide)) (fun _ hk => by first|trivial|exact hk.2) (.int .i64 (wrap64 (x222001_4 + 1)))) (fun _ h_ => h_.1))) hb);have n2_ := Aside0.mk (Kd.R_below (by (with_reducible repeat (first|apply Kd.R_alloc|apply Kd.R_drewN|apply Kd.R_drew));exact (Kd.R_mono (Kd.R_far (p := ⟨gb221, 1, none⟩) (Kd.R_types HO_10.out BK221.out (by decide)) (fun _ hk => by first|trivial|exact hk.2) (.int .i64 (wrap64 (x222001_4 + 1)))) (fun _ h_ => h_.1))) hb);have n3_ := Aside0.mk (Kd.R_below (by (with_reducible repeat (first|apply Kd.R_alloc|apply Kd.R_drewN|apply Kd.R_drew));exact (Kd.R_mono (Kd.R_far (p := ⟨gb221, 1, none⟩) (Kd.R_types HO_15.out BK221.out (by decide)) (fun _ hk => by first|trivial|exact hk.2) (.int .i64 (wrap64 (x222001_4 + 1)))) (fun _ h_ => h_.1))) hb);have n4_ := Aside0.mk (blk_below (g := gb189) (o := .cells #[.int .i64 0, .int .i64 0, .int .i64 0, .bool false] 31 (0, 0)) (by (with_reducible repeat (first|refine blk_drewN ?_ _|refine blk_drew ?_|refine blk_alloc ?_ _));refine blk_far ?_ NB189_221.out _;(with_reducible repeat (first|refine blk_drewN ?_ _|refine blk_drew ?_|refine blk_alloc ?_ _));exact BK189.out) hb);have n5_ := Aside0.mk (blk_below (g := gb221) (o := .cells #[.int .i64 x222000_79, .int .i64 (wrap64 (x222001_4 + 1)), .int .i64 x222002_4, .bool false] 31 (0, 0)) (by (with_reducible repeat (first|refine blk_drewN ?_ _|refine blk_drew ?_|refine blk_alloc ?_ _));refine blk_put (cs := #[.int .i64 x222000_79, .int .i64 x222001_4, .int .i64 x222002_4, .bool false]) ?_ 1 _ rfl;(with_reducible repeat (first|refine blk_drewN ?_ _|refine blk_drew ?_|refine blk_alloc ?_ _));exact BK221.out) hb);have n6_ := Aside0.mk (below_step (by repeat (first|(with_reducible first|exact HB.out|apply below_alloc|apply pw_below_drewN|apply below_drew1|refine below_set ?_ GE189.out|refine below_set ?_ GE221.out)|exact HB.out)) hb);clear HO_5;clear HO_9;clear HO_10;clear HO_15;clear BK189;clear BK221;clear HB;have HO_5 := n0_;have HO_9 := n1_;have HO_10 := n2_;have HO_15 := n3_;have BK189 := n4_;have BK221 := n5_;have HB := n6_;clear n0_ n1_ n2_ n3_ n4_ n5_ n6_;(try clear hb);have p92 : 0 ≤ (x16_4 : Int) := of_decide_eq_true (by first|(with_reducible assumption)|assumption);have q92 : (x16_4 : Int) < ((x15_4.length : Int) : Int) := of_decide_eq_true (by first|(with_reducible assumption)|assumption);obtain ⟨go92, co92, eo92, gb92, gl92, cl92, HG92⟩ := Kd.R_form HO_15.out (by omega);(first|cases eo92|(injection eo92 with ea_ en_ ec_;(first|subst ea_|(injection ea_ with ea_;subst ea_));subst ec_;clear en_));have GB92 := Aside0.mk gb92;have GG92 := Aside0.mk HG92;clear gb92 gl92 HG92;obtain ⟨hx92_0, hf92_0⟩ := Kd.R_celln false HO_15.out (x16_4 : Int) p92 q92;replace p92 := eq_true p92;replace q92 := eq_true q92;obtain ⟨hy100_, hz100_⟩ := Kd.R_celln false HO_15.out (x16_4 : Int) (of_decide_eq_true (by first|(with_reducible assumption)|assumption)) (of_decide_eq_true (by first|(with_reducible assumption)|assumption));have HP100 := Kd.R_putg HO_15.out (x16_4 : Int) t228)|((with_reducible refine gate_store (t := 4) (p := 147) rfl ?_);refine store_event (t := 4) (p := 147) (v := ?vo_w101) (w1 := (w99.setCell ⟨go92, (x16_4 : Int).toNat, none⟩ (.bool t228))) ?hg ?ho ?hn ?hr ?_;(case ho => rfl);(case hg => rfl);(case hn => rfl);(case hr => first|(go_simp;done)|(go_simp;rfl));intro w101 hw;have hg : w99.grownBy w101 (some go92) := (by rw [hw];exact HP100.2);have hp_ : Kd.R Kd.bool 4 w101 w.heap.size (fun k_ => some k_ ≠ (.slice (some ad225) x9_2.length co81 : Value).ownBlock ∧ some k_ ≠ (.slice (some ad226) x10_3.length co95 : Value).ownBlock) (.slice (some ⟨go92, 0, none⟩) x15_4.length co92) y229 := (by rw [hw, Ny229.out];exact HP100.1);clear HP100;have n0_ := Aside0.mk (Kd.R_over' (v := (.slice (some ⟨go92, 0, none⟩) x15_4.length co92)) (by (with_reducible repeat (first|apply Kd.R_alloc|apply Kd.R_drewN|apply Kd.R_drew));exact HO_5.out) (Kd.R_typed HO_15.out) (by decide) hg);have n1_ := Aside0.mk (Kd.R_after (v := (.slice (some ⟨go92, 0, none⟩) x15_4.length co92)) (v1 := (.slice (some ⟨go92, 0, none⟩) x15_4.length co92)) (ok := (fun k_ => some k_ ≠ (.slice (some ad226) x10_3.length co95 : Value).ownBlock)) (by (with_reducible repeat (first|apply Kd.R_alloc|apply Kd.R_drewN|apply Kd.R_drew));exact HO_9.out) hg (.inl rfl));have n2_ := Aside0.mk (Kd.R_after (v := (.slice (some ⟨go92, 0, none⟩) x15_4.length co92)) (v1 := (.slice (some ⟨go92, 0, none⟩) x15_4.length co92)) (ok := (fun k_ => some k_ ≠ (.slice (some ad225) x9_2.length co81 : Value).ownBlock)) (by (with_reducible repeat (first|apply Kd.R_alloc|apply Kd.R_drewN|apply Kd.R_drew));exact HO_10.out) hg (.inl rfl));have n3_ := Aside0.mk (hp_);have n4_ := Aside0.mk (blk_grown (g := gb189) (o := .cells #[.int .i64 0, .int .i64 0, .int .i64 0, .bool false] 31 (0, 0)) (by (with_reducible repeat (first|refine blk_drewN ?_ _|refine blk_drew ?_|refine blk_alloc ?_ _));exact BK189.out) hg (Kd.R_ne HO_15.out BK189.out (by decide)));have n5_ := Aside0.mk (blk_grown (g := gb221) (o := .cells #[.int .i64 x222000_79, .int .i64 (wrap64 (x222001_4 + 1)), .int .i64 x222002_4, .bool false] 31 (0, 0)) (by (with_reducible repeat (first|refine blk_drewN ?_ _|refine blk_drew ?_|refine blk_alloc ?_ _));exact BK221.out) hg (Kd.R_ne HO_15.out BK221.out (by decide)));have n6_ := Aside0.mk ((by rw [hw];exact below_set (HB.out) GB92.out : Below w.heap.size w w101));clear HO_5;clear HO_9;clear HO_10;clear HO_15;clear BK189;clear BK221;clear HB;have HO_5 := n0_;have HO_9 := n1_;have HO_10 := n2_;have HO_15 := n3_;have BK189 := n4_;have BK221 := n5_;have HB := n6_;clear n0_ n1_ n2_ n3_ n4_ n5_ n6_;clear hg hw hp_;have p230 : 0 ≤ (x16_4 : Int) := of_decide_eq_true (by first|(with_reducible assumption)|assumption);have q230 : x16_4 < (y229.length : Int) := (by have h_ : (x16_4 : Int) < ((x15_4.length : Int) : Int) := of_decide_eq_true (by first|(with_reducible assumption)|assumption);first|(have e_ := (Kd.R_reads' HO_15.out).1;omega)|simpa only [Ny229.out, List.length_set] using h_);have ql230 : ((x16_4 : Int) < ((x15_4.length : Int) : Int)) = True := eq_true (of_decide_eq_true (by first|(with_reducible assumption)|assumption));obtain ⟨ad230, e230, hx230_0⟩ := Kd.at_bool (Kd.R_reads' HO_15.out).2.2 x16_4 p230 q230;(try rw [← Nbq88.out] at hx230_0);(try rw [← Nbq93.out] at hx230_0);obtain rfl : (⟨go92, 0, none⟩ : Addr) = ad230 := (by injection e230);(first|simp only [add_plain] at hx230_0|simp only [add_at] at hx230_0|simp only [Addr.add, Nat.zero_add] at hx230_0|skip);replace p230 := eq_true p230;replace q230 := eq_true q230;have hcz102_0 : w101.cell? ⟨gb221, 0, none⟩ = some (.int .i64 x222000_79) := (blk_cell BK221.out 0).trans rfl;have hcz102_1 : w101.cell? ⟨gb221, 1, none⟩ = some (.int .i64 (wrap64 (x222001_4 + 1))) := (blk_cell BK221.out 1).trans rfl;have hcz102_2 : w101.cell? ⟨gb221, 2, none⟩ = some (.int .i64 x222002_4) := (blk_cell BK221.out 2).trans rfl;have hcz102_3 : w101.cell? ⟨gb221, 3, none⟩ = some (.bool false) := (blk_cell BK221.out 3).trans rfl;have hfz102_0 := blk_frozen BK221.out 0;have hfz102_1 := blk_frozen BK221.out 1;have hfz102_2 := blk_frozen BK221.out 2;have hfz102_3 := blk_frozen BK221.out 3))
                 go_roundg kj79
                 case measure => have := HK1.out; have := HK2.out; have := HK3.out; have := HK4.out; have := HJ79.out; omega
                 case rel => exact ⟨(y229), (wrap64 (x16_4 + 1)), (x222000_79), (wrap64 (x222001_4 + 1)), (wrap64 (x222002_4 + 1)), (by first|rfl|(simp;done)|(simp [*];done)), H', ⟨by have := HK1.out;have := HK2.out;have := HK3.out;have := HK4.out;have := HJ79.out;omega⟩, ⟨by exact Kd.R_mono (Kd.R_far (p := ⟨gb221, 2, none⟩) (Kd.R_types HO_5.out BK221.out (by decide)) (fun _ hk => by first|trivial|exact hk.2) (.int .i64 (wrap64 (x222002_4 + 1)))) (fun _ hk => by first|trivial|exact trivial)⟩, ⟨by exact Kd.R_mono (Kd.R_far (p := ⟨gb221, 2, none⟩) (Kd.R_types HO_9.out BK221.out (by decide)) (fun _ hk => by first|trivial|exact hk.2) (.int .i64 (wrap64 (x222002_4 + 1)))) (fun _ hk => by first|trivial|exact ⟨hk.1.1, hk.1.2⟩)⟩, ⟨by exact Kd.R_mono (Kd.R_far (p := ⟨gb221, 2, none⟩) (Kd.R_types HO_10.out BK221.out (by decide)) (fun _ hk => by first|trivial|exact hk.2) (.int .i64 (wrap64 (x222002_4 + 1)))) (fun _ hk => by first|trivial|exact ⟨hk.1.1, hk.1.2⟩)⟩, ⟨by exact Kd.R_mono (Kd.R_far (p := ⟨gb221, 2, none⟩) (Kd.R_types HO_15.out BK221.out (by decide)) (fun _ hk => by first|trivial|exact hk.2) (.int .i64 (wrap64 (x222002_4 + 1)))) (fun _ hk => by first|trivial|exact ⟨hk.1.1, hk.1.2⟩)⟩, ⟨by (with_reducible repeat (first|refine blk_drewN ?_ _|refine blk_drew ?_|refine blk_alloc ?_ _));refine blk_far ?_ NB189_221.out _;(with_reducible repeat (first|refine blk_drewN ?_ _|refine blk_drew ?_|refine blk_alloc ?_ _));exact BK189.out⟩, ⟨by (with_reducible repeat (first|refine blk_drewN ?_ _|refine blk_drew ?_|refine blk_alloc ?_ _));refine blk_put (cs := #[.int .i64 x222000_79, .int .i64 (wrap64 (x222001_4 + 1)), .int .i64 x222002_4, .bool false]) ?_ 2 _ rfl;(with_reducible repeat (first|refine blk_drewN ?_ _|refine blk_drew ?_|refine blk_alloc ?_ _));exact BK221.out⟩, ⟨by repeat (first|(with_reducible first|exact HB.out|apply below_alloc|apply pw_below_drewN|apply below_drew1|refine below_set ?_ GE189.out|refine below_set ?_ GE221.out)|exact HB.out)⟩⟩
                ·replace c94 := Bool.eq_false_iff.mpr c94
                 subst c94
                 have H1 : (bibelotref07_Components.l5 kj79 l0 x5_1 (t190.length : Int) x9_2 x10_3 y229 (wrap64 (x16_4 + 1)) x222000_79 (wrap64 (x222001_4 + 1)) x222002_4 false) = some (r1, r2, r3, r4) := by rw [if_neg (show ¬ (false = true) by decide)] at H; exact H
                 clear H
                 have H := H1
                 clear H1
                 have H' := Aside0.mk H
                 clear H
                 obtain ⟨Ao103, co103, eo103⟩ := Kd.R_slice HO_10.out
                 subst eo103
                 have p226 : 0 ≤ (x16_4 : Int) := of_decide_eq_true (by first | (with_reducible assumption) | assumption)
                 have q226 : x16_4 < (x10_3.length : Int) := of_decide_eq_true (by first | (with_reducible assumption) | assumption)
                 obtain ⟨ad226, e226, hx226_0⟩ := Kd.at_bool (Kd.R_reads' HO_10.out).2.2 x16_4 p226 q226
                 (try rw [← Nbq88.out] at hx226_0)
                 (try rw [← Nbq93.out] at hx226_0)
                 cases e226
                 replace p226 := eq_true p226
                 replace q226 := eq_true q226
                 have hnb104 := NB221_189.out
                 have hnc104 := NB189_221.out
                 have hcz105_0 : wc.cell? ⟨gb221, 0, none⟩ = some (.int .i64 x222000_79) := (blk_cell BK221.out 0).trans rfl
                 have hcz105_1 : wc.cell? ⟨gb221, 1, none⟩ = some (.int .i64 x222001_4) := (blk_cell BK221.out 1).trans rfl
                 have hcz105_2 : wc.cell? ⟨gb221, 2, none⟩ = some (.int .i64 x222002_4) := (blk_cell BK221.out 2).trans rfl
                 have hcz105_3 : wc.cell? ⟨gb221, 3, none⟩ = some (.bool false) := (blk_cell BK221.out 3).trans rfl
                 have hfz105_0 := blk_frozen BK221.out 0
                 have hfz105_1 := blk_frozen BK221.out 1
                 have hfz105_2 := blk_frozen BK221.out 2
                 have hfz105_3 := blk_frozen BK221.out 3
                 have p227 : 0 ≤ (x16_4 : Int) := of_decide_eq_true (by first | (with_reducible assumption) | assumption)
                 have q227 : x16_4 < (x10_3.length : Int) := of_decide_eq_true (by first | (with_reducible assumption) | assumption)
                 obtain ⟨ad227, e227, hx227_0⟩ := Kd.at_bool (Kd.R_reads' HO_10.out).2.2 x16_4 p227 q227
                 (try rw [← Nbq88.out] at hx227_0)
                 (try rw [← Nbq93.out] at hx227_0)
                 obtain rfl : ad226 = ad227 := (by injection e227)
                 have hn227_0 : ad226.block ≠ gb221 := Kd.own_blk (Kd.R_ne HO_10.out BK221.out (by decide))
                 replace hx227_0 := (cell_far (p := ⟨gb221, 1, none⟩) (by first | (rw [add_block]; exact hn227_0) | (show (Addr.add _ _).block ≠ _; rw [add_block]; exact hn227_0) | exact hn227_0) (.int .i64 (wrap64 (x222001_4 + 1)))).trans hx227_0
                 clear hn227_0
                 replace p227 := eq_true p227
                 replace q227 := eq_true q227
                 obtain ⟨Ao106, co106, eo106⟩ := Kd.R_slice HO_5.out
                 subst eo106
                 go_wp2_with (first|(go_at_call 67;(with_reducible refine (bibelotref07_whole.calls kj79 _ _ l0 _ _ x5_1 _ _ x10_3 x16_4 t228 _ ?side1 ?side2 ?side3 ?side4 ?side5 ?side6 A90.out).mono ?_);(case side1 => exact Kd.C_below HR0.out (by repeat (first|(with_reducible first|exact HB.out|apply below_alloc|apply pw_below_drewN|apply below_drew1|refine below_set ?_ GE189.out|refine below_set ?_ GE221.out)|exact HB.out)));(case side2 => exact HC0.out);(case side3 => refine (Kd.R_reads' (e := 3) (base := w.heap.size) (ok := fun k_ => True) (n := x5_1.length) (c := co106) ?_).2.2;exact (by (with_reducible repeat (first|apply Kd.R_alloc|apply Kd.R_drewN|apply Kd.R_drew));exact (Kd.R_mono (Kd.R_far (p := ⟨gb221, 1, none⟩) (Kd.R_types HO_5.out BK221.out (by decide)) (fun _ hk => by first|trivial|exact hk.2) (.int .i64 (wrap64 (x222001_4 + 1)))) (fun _ h_ => h_.1))));(case side4 => exact (Kd.R_reads' HO_5.out).2.1);(case side5 => refine (Kd.R_reads' (e := 4) (base := w.heap.size) (ok := fun k_ => (some k_ ≠ (.slice (some ad225) x9_2.length co81 : Value).ownBlock ∧ some k_ ≠ (v223 : Value).ownBlock)) (n := x10_3.length) (c := co103) ?_).2.2;exact (by (with_reducible repeat (first|apply Kd.R_alloc|apply Kd.R_drewN|apply Kd.R_drew));exact (Kd.R_mono (Kd.R_far (p := ⟨gb221, 1, none⟩) (Kd.R_types HO_10.out BK221.out (by decide)) (fun _ hk => by first|trivial|exact hk.2) (.int .i64 (wrap64 (x222001_4 + 1)))) (fun _ h_ => h_.1))));(case side6 => exact (Kd.R_reads' HO_10.out).2.1);rintro e w107 ⟨rfl, hb⟩;have n0_ := Aside0.mk (Kd.R_below (by (with_reducible repeat (first|apply Kd.R_alloc|apply Kd.R_drewN|apply Kd.R_drew));exact (Kd.R_mono (Kd.R_far (p := ⟨gb221, 1, none⟩) (Kd.R_types HO_5.out BK221.out (by decide)) (fun _ hk => by first|trivial|exact hk.2) (.int .i64 (wrap64 (x222001_4 + 1)))) (fun _ h_ => h_.1))) hb);have n1_ := Aside0.mk (Kd.R_below (by (with_reducible repeat (first|apply Kd.R_alloc|apply Kd.R_drewN|apply Kd.R_drew));exact (Kd.R_mono (Kd.R_far (p := ⟨gb221, 1, none⟩) (Kd.R_types HO_9.out BK221.out (by decide)) (fun _ hk => by first|trivial|exact hk.2) (.int .i64 (wrap64 (x222001_4 + 1)))) (fun _ h_ => h_.1))) hb);have n2_ := Aside0.mk (Kd.R_below (by (with_reducible repeat (first|apply Kd.R_alloc|apply Kd.R_drewN|apply Kd.R_drew));exact (Kd.R_mono (Kd.R_far (p := ⟨gb221, 1, none⟩) (Kd.R_types HO_10.out BK221.out (by decide)) (fun _ hk => by first|trivial|exact hk.2) (.int .i64 (wrap64 (x222001_4 + 1)))) (fun _ h_ => h_.1))) hb);have n3_ := Aside0.mk (Kd.R_below (by (with_reducible repeat (first|apply Kd.R_alloc|apply Kd.R_drewN|apply Kd.R_drew));exact (Kd.R_mono (Kd.R_far (p := ⟨gb221, 1, none⟩) (Kd.R_types HO_15.out BK221.out (by decide)) (fun _ hk => by first|trivial|exact hk.2) (.int .i64 (wrap64 (x222001_4 + 1)))) (fun _ h_ => h_.1))) hb);have n4_ := Aside0.mk (blk_below (g := gb189) (o := .cells #[.int .i64 0, .int .i64 0, .int .i64 0, .bool false] 31 (0, 0)) (by (with_reducible repeat (first|refine blk_drewN ?_ _|refine blk_drew ?_|refine blk_alloc ?_ _));refine blk_far ?_ NB189_221.out _;(with_reducible repeat (first|refine blk_drewN ?_ _|refine blk_drew ?_|refine blk_alloc ?_ _));exact BK189.out) hb);have n5_ := Aside0.mk (blk_below (g := gb221) (o := .cells #[.int .i64 x222000_79, .int .i64 (wrap64 (x222001_4 + 1)), .int .i64 x222002_4, .bool false] 31 (0, 0)) (by (with_reducible repeat (first|refine blk_drewN ?_ _|refine blk_drew ?_|refine blk_alloc ?_ _));refine blk_put (cs := #[.int .i64 x222000_79, .int .i64 x222001_4, .int .i64 x222002_4, .bool false]) ?_ 1 _ rfl;(with_reducible repeat (first|refine blk_drewN ?_ _|refine blk_drew ?_|refine blk_alloc ?_ _));exact BK221.out) hb);have n6_ := Aside0.mk (below_step (by repeat (first|(with_reducible first|exact HB.out|apply below_alloc|apply pw_below_drewN|apply below_drew1|refine below_set ?_ GE189.out|refine below_set ?_ GE221.out)|exact HB.out)) hb);clear HO_5;clear HO_9;clear HO_10;clear HO_15;clear BK189;clear BK221;clear HB;have HO_5 := n0_;have HO_9 := n1_;have HO_10 := n2_;have HO_15 := n3_;have BK189 := n4_;have BK221 := n5_;have HB := n6_;clear n0_ n1_ n2_ n3_ n4_ n5_ n6_;(try clear hb);have p92 : 0 ≤ (x16_4 : Int) := of_decide_eq_true (by first|(with_reducible assumption)|assumption);have q92 : (x16_4 : Int) < ((x15_4.length : Int) : Int) := of_decide_eq_true (by first|(with_reducible assumption)|assumption);obtain ⟨go92, co92, eo92, gb92, gl92, cl92, HG92⟩ := Kd.R_form HO_15.out (by omega);(first|cases eo92|(injection eo92 with ea_ en_ ec_;(first|subst ea_|(injection ea_ with ea_;subst ea_));subst ec_;clear en_));have GB92 := Aside0.mk gb92;have GG92 := Aside0.mk HG92;clear gb92 gl92 HG92;obtain ⟨hx92_0, hf92_0⟩ := Kd.R_celln false HO_15.out (x16_4 : Int) p92 q92;replace p92 := eq_true p92;replace q92 := eq_true q92;obtain ⟨hy108_, hz108_⟩ := Kd.R_celln false HO_15.out (x16_4 : Int) (of_decide_eq_true (by first|(with_reducible assumption)|assumption)) (of_decide_eq_true (by first|(with_reducible assumption)|assumption));have HP108 := Kd.R_putg HO_15.out (x16_4 : Int) t228)|((with_reducible refine gate_store (t := 4) (p := 147) rfl ?_);refine store_event (t := 4) (p := 147) (v := ?vo_w109) (w1 := (w107.setCell ⟨go92, (x16_4 : Int).toNat, none⟩ (.bool t228))) ?hg ?ho ?hn ?hr ?_;(case ho => rfl);(case hg => rfl);(case hn => rfl);(case hr => first|(go_simp;done)|(go_simp;rfl));intro w109 hw;have hg : w107.grownBy w109 (some go92) := (by rw [hw];exact HP108.2);have hp_ : Kd.R Kd.bool 4 w109 w.heap.size (fun k_ => some k_ ≠ (.slice (some ad225) x9_2.length co81 : Value).ownBlock ∧ some k_ ≠ (.slice (some ad226) x10_3.length co103 : Value).ownBlock) (.slice (some ⟨go92, 0, none⟩) x15_4.length co92) y229 := (by rw [hw, Ny229.out];exact HP108.1);clear HP108;have n0_ := Aside0.mk (Kd.R_over' (v := (.slice (some ⟨go92, 0, none⟩) x15_4.length co92)) (by (with_reducible repeat (first|apply Kd.R_alloc|apply Kd.R_drewN|apply Kd.R_drew));exact HO_5.out) (Kd.R_typed HO_15.out) (by decide) hg);have n1_ := Aside0.mk (Kd.R_after (v := (.slice (some ⟨go92, 0, none⟩) x15_4.length co92)) (v1 := (.slice (some ⟨go92, 0, none⟩) x15_4.length co92)) (ok := (fun k_ => some k_ ≠ (.slice (some ad226) x10_3.length co103 : Value).ownBlock)) (by (with_reducible repeat (first|apply Kd.R_alloc|apply Kd.R_drewN|apply Kd.R_drew));exact HO_9.out) hg (.inl rfl));have n2_ := Aside0.mk (Kd.R_after (v := (.slice (some ⟨go92, 0, none⟩) x15_4.length co92)) (v1 := (.slice (some ⟨go92, 0, none⟩) x15_4.length co92)) (ok := (fun k_ => some k_ ≠ (.slice (some ad225) x9_2.length co81 : Value).ownBlock)) (by (with_reducible repeat (first|apply Kd.R_alloc|apply Kd.R_drewN|apply Kd.R_drew));exact HO_10.out) hg (.inl rfl));have n3_ := Aside0.mk (hp_);have n4_ := Aside0.mk (blk_grown (g := gb189) (o := .cells #[.int .i64 0, .int .i64 0, .int .i64 0, .bool false] 31 (0, 0)) (by (with_reducible repeat (first|refine blk_drewN ?_ _|refine blk_drew ?_|refine blk_alloc ?_ _));exact BK189.out) hg (Kd.R_ne HO_15.out BK189.out (by decide)));have n5_ := Aside0.mk (blk_grown (g := gb221) (o := .cells #[.int .i64 x222000_79, .int .i64 (wrap64 (x222001_4 + 1)), .int .i64 x222002_4, .bool false] 31 (0, 0)) (by (with_reducible repeat (first|refine blk_drewN ?_ _|refine blk_drew ?_|refine blk_alloc ?_ _));exact BK221.out) hg (Kd.R_ne HO_15.out BK221.out (by decide)));have n6_ := Aside0.mk ((by rw [hw];exact below_set (HB.out) GB92.out : Below w.heap.size w w109));clear HO_5;clear HO_9;clear HO_10;clear HO_15;clear BK189;clear BK221;clear HB;have HO_5 := n0_;have HO_9 := n1_;have HO_10 := n2_;have HO_15 := n3_;have BK189 := n4_;have BK221 := n5_;have HB := n6_;clear n0_ n1_ n2_ n3_ n4_ n5_ n6_;clear hg hw hp_;have p230 : 0 ≤ (x16_4 : Int) := of_decide_eq_true (by first|(with_reducible assumption)|assumption);have q230 : x16_4 < (y229.length : Int) := (by have h_ : (x16_4 : Int) < ((x15_4.length : Int) : Int) := of_decide_eq_true (by first|(with_reducible assumption)|assumption);first|(have e_ := (Kd.R_reads' HO_15.out).1;omega)|simpa only [Ny229.out, List.length_set] using h_);have ql230 : ((x16_4 : Int) < ((x15_4.length : Int) : Int)) = True := eq_true (of_decide_eq_true (by first|(with_reducible assumption)|assumption));obtain ⟨ad230, e230, hx230_0⟩ := Kd.at_bool (Kd.R_reads' HO_15.out).2.2 x16_4 p230 q230;(try rw [← Nbq88.out] at hx230_0);(try rw [← Nbq93.out] at hx230_0);obtain rfl : (⟨go92, 0, none⟩ : Addr) = ad230 := (by injection e230);(first|simp only [add_plain] at hx230_0|simp only [add_at] at hx230_0|simp only [Addr.add, Nat.zero_add] at hx230_0|skip);replace p230 := eq_true p230;replace q230 := eq_true q230))
                 go_roundg kj79
                 case measure => have := HK1.out; have := HK2.out; have := HK3.out; have := HK4.out; have := HJ79.out; omega
                 case rel => exact ⟨(y229), (wrap64 (x16_4 + 1)), (x222000_79), (wrap64 (x222001_4 + 1)), (x222002_4), (by first | rfl | (simp; done) | (simp [*]; done)), H', ⟨by have := HK1.out; have := HK2.out; have := HK3.out; have := HK4.out; have := HJ79.out; omega⟩, ⟨by exact HO_5.out⟩, ⟨by exact HO_9.out⟩, ⟨by exact HO_10.out⟩, ⟨by exact HO_15.out⟩, ⟨by exact BK189.out⟩, ⟨by exact BK221.out⟩, ⟨by exact HB.out⟩⟩
               ·replace c89 := Bool.eq_false_iff.mpr c89
                subst c89
                have H1 : (if x16_4 < (x15_4.length : Int) then ((some (x15_4.set (x16_4 : Int).toNat false : List Bool)).bind fun y232 => (if rdOf false y232 x16_4 = true then (bibelotref07_Components.l5 kj79 l0 x5_1 (t190.length : Int) x9_2 x10_3 y232 (wrap64 (x16_4 + 1)) x222000_79 x222001_4 (wrap64 (x222002_4 + 1)) false) else (bibelotref07_Components.l5 kj79 l0 x5_1 (t190.length : Int) x9_2 x10_3 y232 (wrap64 (x16_4 + 1)) x222000_79 x222001_4 x222002_4 false))) else (none)) = some (r1, r2, r3, r4) := by rw [if_neg (show ¬ (false = true) by decide)] at H; exact H
                clear H
                have H := H1
                clear H1
                by_cases c110 : x16_4 < (x15_4.length : Int)
                rotate_left
                ·rw [if_neg c110] at H
                 exact absurd H (by simp)
                rw [if_pos c110] at H
                have c110b0 : decide (x16_4 < (x15_4.length : Int)) = true := decide_eq_true c110
                clear c110
                obtain ⟨y232, hy232⟩ : ∃ y_ : List Bool, y_ = (x15_4.set (x16_4 : Int).toNat false) := ⟨_, rfl⟩
                replace H : (if rdOf false y232 x16_4 = true then (bibelotref07_Components.l5 kj79 l0 x5_1 (t190.length : Int) x9_2 x10_3 y232 (wrap64 (x16_4 + 1)) x222000_79 x222001_4 (wrap64 (x222002_4 + 1)) false) else (bibelotref07_Components.l5 kj79 l0 x5_1 (t190.length : Int) x9_2 x10_3 y232 (wrap64 (x16_4 + 1)) x222000_79 x222001_4 x222002_4 false)) = some (r1, r2, r3, r4) := by first|(rw [hy232];with_reducible exact H)|(have H2_ := (Option.bind_some _ _).symm.trans H;rw [hy232];with_reducible exact H2_)|(have H2_ := (Option.bind_some _ _).symm.trans H;with_reducible exact H2_)|with_reducible exact H|(rw [hy232];exact H)|exact H
                have Ny232 := Aside0.mk hy232
                clear hy232
                obtain ⟨bq112, hbq112⟩ : ∃ b_ : Bool, b_ = (rdOf false y232 x16_4) := ⟨_, rfl⟩
                replace H : (if bq112 = true then (bibelotref07_Components.l5 kj79 l0 x5_1 (t190.length : Int) x9_2 x10_3 y232 (wrap64 (x16_4 + 1)) x222000_79 x222001_4 (wrap64 (x222002_4 + 1)) false) else (bibelotref07_Components.l5 kj79 l0 x5_1 (t190.length : Int) x9_2 x10_3 y232 (wrap64 (x16_4 + 1)) x222000_79 x222001_4 x222002_4 false)) = some (r1, r2, r3, r4) := by rw [← hbq112] at H; exact H
                have Nbq112 := Aside0.mk hbq112
                clear hbq112
                by_cases c113 : bq112 = true
                ·subst c113
                 have H1 : (bibelotref07_Components.l5 kj79 l0 x5_1 (t190.length : Int) x9_2 x10_3 y232 (wrap64 (x16_4 + 1)) x222000_79 x222001_4 (wrap64 (x222002_4 + 1)) false) = some (r1, r2, r3, r4) := by rw [if_pos rfl] at H; exact H
                 clear H
                 have H := H1
                 clear H1
                 have H' := Aside0.mk H
                 clear H
                 obtain ⟨Ao114, co114, eo114⟩ := Kd.R_slice HO_10.out
                 subst eo114
                 have p226 : 0 ≤ (x16_4 : Int) := of_decide_eq_true (by first | (with_reducible assumption) | assumption)
                 have q226 : x16_4 < (x10_3.length : Int) := of_decide_eq_true (by first | (with_reducible assumption) | assumption)
                 obtain ⟨ad226, e226, hx226_0⟩ := Kd.at_bool (Kd.R_reads' HO_10.out).2.2 x16_4 p226 q226
                 (try rw [← Nbq88.out] at hx226_0)
                 (try rw [← Nbq112.out] at hx226_0)
                 cases e226
                 replace p226 := eq_true p226
                 replace q226 := eq_true q226
                 have p231 : 0 ≤ (x16_4 : Int) := of_decide_eq_true (by first | (with_reducible assumption) | assumption)
                 have q231 : x16_4 < (x10_3.length : Int) := of_decide_eq_true (by first | (with_reducible assumption) | assumption)
                 obtain ⟨ad231, e231, hx231_0⟩ := Kd.at_bool (Kd.R_reads' HO_10.out).2.2 x16_4 p231 q231
                 (try rw [← Nbq88.out] at hx231_0)
                 (try rw [← Nbq112.out] at hx231_0)
                 obtain rfl : ad226 = ad231 := (by injection e231)
                 replace p231 := eq_true p231
                 replace q231 := eq_true q231
                 have p111 : 0 ≤ (x16_4 : Int) := of_decide_eq_true (by first | (with_reducible assumption) | assumption)
                 have q111 : (x16_4 : Int) < ((x15_4.length : Int) : Int) := of_decide_eq_true (by first | (with_reducible assumption) | assumption)
                 obtain ⟨go111, co111, eo111, gb111, gl111, cl111, HG111⟩ := Kd.R_form HO_15.out (by omega)
                 (first | cases eo111 | (injection eo111 with ea_ en_ ec_; (first | subst ea_ | (injection ea_ with ea_; subst ea_)); subst ec_; clear en_))
                 have GB111 := Aside0.mk gb111
                 have GG111 := Aside0.mk HG111
                 clear gb111 gl111 HG111
                 obtain ⟨hx111_0, hf111_0⟩ := Kd.R_celln false HO_15.out (x16_4 : Int) p111 q111
                 replace p111 := eq_true p111
                 replace q111 := eq_true q111
                 have HP115 := Kd.R_putg HO_15.out (x16_4 : Int) false
                 go_wp2_with (first|((with_reducible refine gate_store (t := 4) (p := 147) rfl ?_);refine store_event (t := 4) (p := 147) (v := ?vo_w116) (w1 := (wc.setCell ⟨go111, (x16_4 : Int).toNat, none⟩ (.bool false))) ?hg ?ho ?hn ?hr ?_;(case ho => rfl);(case hg => rfl);(case hn => rfl);(case hr => first|(go_simp;done)|(go_simp;rfl));intro w116 hw;have hg : wc.grownBy w116 (some go111) := (by rw [hw];exact HP115.2);have hp_ : Kd.R Kd.bool 4 w116 w.heap.size (fun k_ => some k_ ≠ (.slice (some ad225) x9_2.length co81 : Value).ownBlock ∧ some k_ ≠ (.slice (some ad226) x10_3.length co114 : Value).ownBlock) (.slice (some ⟨go111, 0, none⟩) x15_4.length co111) y232 := (by rw [hw, Ny232.out];exact HP115.1);clear HP115;have n0_ := Aside0.mk (Kd.R_over' (v := (.slice (some ⟨go111, 0, none⟩) x15_4.length co111)) (by (with_reducible repeat (first|apply Kd.R_alloc|apply Kd.R_drewN|apply Kd.R_drew));exact HO_5.out) (Kd.R_typed HO_15.out) (by decide) hg);have n1_ := Aside0.mk (Kd.R_after (v := (.slice (some ⟨go111, 0, none⟩) x15_4.length co111)) (v1 := (.slice (some ⟨go111, 0, none⟩) x15_4.length co111)) (ok := (fun k_ => some k_ ≠ (.slice (some ad226) x10_3.length co114 : Value).ownBlock)) (by (with_reducible repeat (first|apply Kd.R_alloc|apply Kd.R_drewN|apply Kd.R_drew));exact HO_9.out) hg (.inl rfl));have n2_ := Aside0.mk (Kd.R_after (v := (.slice (some ⟨go111, 0, none⟩) x15_4.length co111)) (v1 := (.slice (some ⟨go111, 0, none⟩) x15_4.length co111)) (ok := (fun k_ => some k_ ≠ (.slice (some ad225) x9_2.length co81 : Value).ownBlock)) (by (with_reducible repeat (first|apply Kd.R_alloc|apply Kd.R_drewN|apply Kd.R_drew));exact HO_10.out) hg (.inl rfl));have n3_ := Aside0.mk (hp_);have n4_ := Aside0.mk (blk_grown (g := gb189) (o := .cells #[.int .i64 0, .int .i64 0, .int .i64 0, .bool false] 31 (0, 0)) (by (with_reducible repeat (first|refine blk_drewN ?_ _|refine blk_drew ?_|refine blk_alloc ?_ _));exact BK189.out) hg (Kd.R_ne HO_15.out BK189.out (by decide)));have n5_ := Aside0.mk (blk_grown (g := gb221) (o := .cells #[.int .i64 x222000_79, .int .i64 x222001_4, .int .i64 x222002_4, .bool false] 31 (0, 0)) (by (with_reducible repeat (first|refine blk_drewN ?_ _|refine blk_drew ?_|refine blk_alloc ?_ _));exact BK221.out) hg (Kd.R_ne HO_15.out BK221.out (by decide)));have n6_ := Aside0.mk ((by rw [hw];exact below_set (HB.out) GB111.out : Below w.heap.size w w116));clear HO_5;clear HO_9;clear HO_10;clear HO_15;clear BK189;clear BK221;clear HB;have HO_5 := n0_;have HO_9 := n1_;have HO_10 := n2_;have HO_15 := n3_;have BK189 := n4_;have BK221 := n5_;have HB := n6_;clear n0_ n1_ n2_ n3_ n4_ n5_ n6_;clear hg hw hp_;have p233 : 0 ≤ (x16_4 : Int) := of_decide_eq_true (by first|(with_reducible assumption)|assumption);have q233 : x16_4 < (y232.length : Int) := (by have h_ : (x16_4 : Int) < ((x15_4.length : Int) : Int) := of_decide_eq_true (by first|(with_reducible assumption)|assumption);first|(have e_ := (Kd.R_reads' HO_15.out).1;omega)|simpa only [Ny232.out, List.length_set] using h_);have ql233 : ((x16_4 : Int) < ((x15_4.length : Int) : Int)) = True := eq_true (of_decide_eq_true (by first|(with_reducible assumption)|assumption));obtain ⟨ad233, e233, hx233_0⟩ := Kd.at_bool (Kd.R_reads' HO_15.out).2.2 x16_4 p233 q233;(try rw [← Nbq88.out] at hx233_0);(try rw [← Nbq112.out] at hx233_0);obtain rfl : (⟨go111, 0, none⟩ : Addr) = ad233 := (by injection e233);(first|simp only [add_plain] at hx233_0|simp only [add_at] at hx233_0|simp only [Addr.add, Nat.zero_add] at hx233_0|skip);replace p233 := eq_true p233;replace q233 := eq_true q233;have hnb117 := NB221_189.out;have hnc117 := NB189_221.out;have hcz118_0 : w116.cell? ⟨gb221, 0, none⟩ = some (.int .i64 x222000_79) := (blk_cell BK221.out 0).trans rfl;have hcz118_1 : w116.cell? ⟨gb221, 1, none⟩ = some (.int .i64 x222001_4) := (blk_cell BK221.out 1).trans rfl;have hcz118_2 : w116.cell? ⟨gb221, 2, none⟩ = some (.int .i64 x222002_4) := (blk_cell BK221.out 2).trans rfl;have hcz118_3 : w116.cell? ⟨gb221, 3, none⟩ = some (.bool false) := (blk_cell BK221.out 3).trans rfl;have hfz118_0 := blk_frozen BK221.out 0;have hfz118_1 := blk_frozen BK221.out 1;have hfz118_2 := blk_frozen BK221.out 2;have hfz118_3 := blk_frozen BK221.out 3))
                 go_roundg kj79
                 case measure => have := HK1.out; have := HK2.out; have := HK3.out; have := HK4.out; have := HJ79.out; omega
                 case rel => exact ⟨(y232), (wrap64 (x16_4 + 1)), (x222000_79), (x222001_4), (wrap64 (x222002_4 + 1)), (by first|rfl|(simp;done)|(simp [*];done)), H', ⟨by have := HK1.out;have := HK2.out;have := HK3.out;have := HK4.out;have := HJ79.out;omega⟩, ⟨by exact Kd.R_mono (Kd.R_far (p := ⟨gb221, 2, none⟩) (Kd.R_types HO_5.out BK221.out (by decide)) (fun _ hk => by first|trivial|exact hk.2) (.int .i64 (wrap64 (x222002_4 + 1)))) (fun _ hk => by first|trivial|exact trivial)⟩, ⟨by exact Kd.R_mono (Kd.R_far (p := ⟨gb221, 2, none⟩) (Kd.R_types HO_9.out BK221.out (by decide)) (fun _ hk => by first|trivial|exact hk.2) (.int .i64 (wrap64 (x222002_4 + 1)))) (fun _ hk => by first|trivial|exact ⟨hk.1.1, hk.1.2⟩)⟩, ⟨by exact Kd.R_mono (Kd.R_far (p := ⟨gb221, 2, none⟩) (Kd.R_types HO_10.out BK221.out (by decide)) (fun _ hk => by first|trivial|exact hk.2) (.int .i64 (wrap64 (x222002_4 + 1)))) (fun _ hk => by first|trivial|exact ⟨hk.1.1, hk.1.2⟩)⟩, ⟨by exact Kd.R_mono (Kd.R_far (p := ⟨gb221, 2, none⟩) (Kd.R_types HO_15.out BK221.out (by decide)) (fun _ hk => by first|trivial|exact hk.2) (.int .i64 (wrap64 (x222002_4 + 1)))) (fun _ hk => by first|trivial|exact ⟨hk.1.1, hk.1.2⟩)⟩, ⟨by (with_reducible repeat (first|refine blk_drewN ?_ _|refine blk_drew ?_|refine blk_alloc ?_ _));refine blk_far ?_ NB189_221.out _;(with_reducible repeat (first|refine blk_drewN ?_ _|refine blk_drew ?_|refine blk_alloc ?_ _));exact BK189.out⟩, ⟨by (with_reducible repeat (first|refine blk_drewN ?_ _|refine blk_drew ?_|refine blk_alloc ?_ _));refine blk_put (cs := #[.int .i64 x222000_79, .int .i64 x222001_4, .int .i64 x222002_4, .bool false]) ?_ 2 _ rfl;(with_reducible repeat (first|refine blk_drewN ?_ _|refine blk_drew ?_|refine blk_alloc ?_ _));exact BK221.out⟩, ⟨by repeat (first|(with_reducible first|exact HB.out|apply below_alloc|apply pw_below_drewN|apply below_drew1|refine below_set ?_ GE189.out|refine below_set ?_ GE221.out)|exact HB.out)⟩⟩
                ·replace c113 := Bool.eq_false_iff.mpr c113
                 subst c113
                 have H1 : (bibelotref07_Components.l5 kj79 l0 x5_1 (t190.length : Int) x9_2 x10_3 y232 (wrap64 (x16_4 + 1)) x222000_79 x222001_4 x222002_4 false) = some (r1, r2, r3, r4) := by rw [if_neg (show ¬ (false = true) by decide)] at H; exact H
                 clear H
                 have H := H1
                 clear H1
                 have H' := Aside0.mk H
                 clear H
                 obtain ⟨Ao119, co119, eo119⟩ := Kd.R_slice HO_10.out
                 subst eo119
                 have p226 : 0 ≤ (x16_4 : Int) := of_decide_eq_true (by first | (with_reducible assumption) | assumption)
                 have q226 : x16_4 < (x10_3.length : Int) := of_decide_eq_true (by first | (with_reducible assumption) | assumption)
                 obtain ⟨ad226, e226, hx226_0⟩ := Kd.at_bool (Kd.R_reads' HO_10.out).2.2 x16_4 p226 q226
                 (try rw [← Nbq88.out] at hx226_0)
                 (try rw [← Nbq112.out] at hx226_0)
                 cases e226
                 replace p226 := eq_true p226
                 replace q226 := eq_true q226
                 have p231 : 0 ≤ (x16_4 : Int) := of_decide_eq_true (by first | (with_reducible assumption) | assumption)
                 have q231 : x16_4 < (x10_3.length : Int) := of_decide_eq_true (by first | (with_reducible assumption) | assumption)
                 obtain ⟨ad231, e231, hx231_0⟩ := Kd.at_bool (Kd.R_reads' HO_10.out).2.2 x16_4 p231 q231
                 (try rw [← Nbq88.out] at hx231_0)
                 (try rw [← Nbq112.out] at hx231_0)
                 obtain rfl : ad226 = ad231 := (by injection e231)
                 replace p231 := eq_true p231
                 replace q231 := eq_true q231
                 have p111 : 0 ≤ (x16_4 : Int) := of_decide_eq_true (by first | (with_reducible assumption) | assumption)
                 have q111 : (x16_4 : Int) < ((x15_4.length : Int) : Int) := of_decide_eq_true (by first | (with_reducible assumption) | assumption)
                 obtain ⟨go111, co111, eo111, gb111, gl111, cl111, HG111⟩ := Kd.R_form HO_15.out (by omega)
                 (first | cases eo111 | (injection eo111 with ea_ en_ ec_; (first | subst ea_ | (injection ea_ with ea_; subst ea_)); subst ec_; clear en_))
                 have GB111 := Aside0.mk gb111
                 have GG111 := Aside0.mk HG111
                 clear gb111 gl111 HG111
                 obtain ⟨hx111_0, hf111_0⟩ := Kd.R_celln false HO_15.out (x16_4 : Int) p111 q111
                 replace p111 := eq_true p111
                 replace q111 := eq_true q111
                 have HP120 := Kd.R_putg HO_15.out (x16_4 : Int) false
                 go_wp2_with (first|((with_reducible refine gate_store (t := 4) (p := 147) rfl ?_);refine store_event (t := 4) (p := 147) (v := ?vo_w121) (w1 := (wc.setCell ⟨go111, (x16_4 : Int).toNat, none⟩ (.bool false))) ?hg ?ho ?hn ?hr ?_;(case ho => rfl);(case hg => rfl);(case hn => rfl);(case hr => first|(go_simp;done)|(go_simp;rfl));intro w121 hw;have hg : wc.grownBy w121 (some go111) := (by rw [hw];exact HP120.2);have hp_ : Kd.R Kd.bool 4 w121 w.heap.size (fun k_ => some k_ ≠ (.slice (some ad225) x9_2.length co81 : Value).ownBlock ∧ some k_ ≠ (.slice (some ad226) x10_3.length co119 : Value).ownBlock) (.slice (some ⟨go111, 0, none⟩) x15_4.length co111) y232 := (by rw [hw, Ny232.out];exact HP120.1);clear HP120;have n0_ := Aside0.mk (Kd.R_over' (v := (.slice (some ⟨go111, 0, none⟩) x15_4.length co111)) (by (with_reducible repeat (first|apply Kd.R_alloc|apply Kd.R_drewN|apply Kd.R_drew));exact HO_5.out) (Kd.R_typed HO_15.out) (by decide) hg);have n1_ := Aside0.mk (Kd.R_after (v := (.slice (some ⟨go111, 0, none⟩) x15_4.length co111)) (v1 := (.slice (some ⟨go111, 0, none⟩) x15_4.length co111)) (ok := (fun k_ => some k_ ≠ (.slice (some ad226) x10_3.length co119 : Value).ownBlock)) (by (with_reducible repeat (first|apply Kd.R_alloc|apply Kd.R_drewN|apply Kd.R_drew));exact HO_9.out) hg (.inl rfl));have n2_ := Aside0.mk (Kd.R_after (v := (.slice (some ⟨go111, 0, none⟩) x15_4.length co111)) (v1 := (.slice (some ⟨go111, 0, none⟩) x15_4.length co111)) (ok := (fun k_ => some k_ ≠ (.slice (some ad225) x9_2.length co81 : Value).ownBlock)) (by (with_reducible repeat (first|apply Kd.R_alloc|apply Kd.R_drewN|apply Kd.R_drew));exact HO_10.out) hg (.inl rfl));have n3_ := Aside0.mk (hp_);have n4_ := Aside0.mk (blk_grown (g := gb189) (o := .cells #[.int .i64 0, .int .i64 0, .int .i64 0, .bool false] 31 (0, 0)) (by (with_reducible repeat (first|refine blk_drewN ?_ _|refine blk_drew ?_|refine blk_alloc ?_ _));exact BK189.out) hg (Kd.R_ne HO_15.out BK189.out (by decide)));have n5_ := Aside0.mk (blk_grown (g := gb221) (o := .cells #[.int .i64 x222000_79, .int .i64 x222001_4, .int .i64 x222002_4, .bool false] 31 (0, 0)) (by (with_reducible repeat (first|refine blk_drewN ?_ _|refine blk_drew ?_|refine blk_alloc ?_ _));exact BK221.out) hg (Kd.R_ne HO_15.out BK221.out (by decide)));have n6_ := Aside0.mk ((by rw [hw];exact below_set (HB.out) GB111.out : Below w.heap.size w w121));clear HO_5;clear HO_9;clear HO_10;clear HO_15;clear BK189;clear BK221;clear HB;have HO_5 := n0_;have HO_9 := n1_;have HO_10 := n2_;have HO_15 := n3_;have BK189 := n4_;have BK221 := n5_;have HB := n6_;clear n0_ n1_ n2_ n3_ n4_ n5_ n6_;clear hg hw hp_;have p233 : 0 ≤ (x16_4 : Int) := of_decide_eq_true (by first|(with_reducible assumption)|assumption);have q233 : x16_4 < (y232.length : Int) := (by have h_ : (x16_4 : Int) < ((x15_4.length : Int) : Int) := of_decide_eq_true (by first|(with_reducible assumption)|assumption);first|(have e_ := (Kd.R_reads' HO_15.out).1;omega)|simpa only [Ny232.out, List.length_set] using h_);have ql233 : ((x16_4 : Int) < ((x15_4.length : Int) : Int)) = True := eq_true (of_decide_eq_true (by first|(with_reducible assumption)|assumption));obtain ⟨ad233, e233, hx233_0⟩ := Kd.at_bool (Kd.R_reads' HO_15.out).2.2 x16_4 p233 q233;(try rw [← Nbq88.out] at hx233_0);(try rw [← Nbq112.out] at hx233_0);obtain rfl : (⟨go111, 0, none⟩ : Addr) = ad233 := (by injection e233);(first|simp only [add_plain] at hx233_0|simp only [add_at] at hx233_0|simp only [Addr.add, Nat.zero_add] at hx233_0|skip);replace p233 := eq_true p233;replace q233 := eq_true q233))
                 go_roundg kj79
                 case measure => have := HK1.out; have := HK2.out; have := HK3.out; have := HK4.out; have := HJ79.out; omega
                 case rel => exact ⟨(y232), (wrap64 (x16_4 + 1)), (x222000_79), (x222001_4), (x222002_4), (by first | rfl | (simp; done) | (simp [*]; done)), H', ⟨by have := HK1.out; have := HK2.out; have := HK3.out; have := HK4.out; have := HJ79.out; omega⟩, ⟨by exact HO_5.out⟩, ⟨by exact HO_9.out⟩, ⟨by exact HO_10.out⟩, ⟨by exact HO_15.out⟩, ⟨by exact BK189.out⟩, ⟨by exact BK221.out⟩, ⟨by exact HB.out⟩⟩
            ·rw [if_neg c77] at H
             have c77b0 : decide (x16_4 < (t190.length : Int)) = false := decide_eq_false c77
             clear c77
             have H' := Aside0.mk H
             clear H
             have hnb122 := NB221_189.out
             have hnc122 := NB189_221.out
             have hcz123_0 : wr.cell? ⟨gb221, 0, none⟩ = some (.int .i64 x222000_4) := (blk_cell BK221.out 0).trans rfl
             have hcz123_1 : wr.cell? ⟨gb221, 1, none⟩ = some (.int .i64 x222001_4) := (blk_cell BK221.out 1).trans rfl
             have hcz123_2 : wr.cell? ⟨gb221, 2, none⟩ = some (.int .i64 x222002_4) := (blk_cell BK221.out 2).trans rfl
             have hcz123_3 : wr.cell? ⟨gb221, 3, none⟩ = some (.bool false) := (blk_cell BK221.out 3).trans rfl
             have hfz123_0 := blk_frozen BK221.out 0
             have hfz123_1 := blk_frozen BK221.out 1
             have hfz123_2 := blk_frozen BK221.out 2
             have hfz123_3 := blk_frozen BK221.out 3
             go_wp2
             go_loopg [17] k4 (fun kq v17 w' => ∃ (x10_5 : List Bool) (x15_5 : List Bool) (x17_5 : Int) (x222003_5 : Bool), v17 = .int .i64 x17_5 ∧ Aside0 (bibelotref07_Components.l6 kq l0 x5_1 (t190.length : Int) x10_5 x15_5 x17_5 x222000_4 x222001_4 x222002_4 x222003_5 = some (r1, r2, r3, r4)) ∧ Aside0 (kq ≤ k4) ∧ Aside0 (Kd.R (Kd.int .i64) 3 w' w.heap.size (fun _ => True) u5 x5_1) ∧ Aside0 (Kd.R Kd.bool 4 w' w.heap.size (fun k_ => some k_ ≠ (v223 : Value).ownBlock) v209 x10_5) ∧ Aside0 (Kd.R Kd.bool 4 w' w.heap.size (fun k_ => some k_ ≠ (v209 : Value).ownBlock) v223 x15_5) ∧ Aside0 (w'.heap[gb189]? = some (.cells #[.int .i64 0, .int .i64 0, .int .i64 0, .bool false] 31 (0, 0))) ∧ Aside0 (w'.heap[gb221]? = some (.cells #[.int .i64 x222000_4, .int .i64 x222001_4, .int .i64 x222002_4, .bool x222003_5] 31 (0, 0))) ∧ Aside0 (Below w.heap.size w w'))
             case atStart => exact ⟨(x10_3), (x15_4), (0), (((Int.tmod x222002_4 2) == 1)), (by first|rfl|(simp;done)|(simp [*];done)), H', ⟨Nat.le_refl _⟩, ⟨by exact Kd.R_mono (Kd.R_far (p := ⟨gb221, 3, none⟩) (Kd.R_types HO_5.out BK221.out (by decide)) (fun _ hk => by first|trivial|exact hk.2) (.bool ((Int.tmod x222002_4 2) == 1))) (fun _ hk => by first|trivial|exact trivial)⟩, ⟨by exact Kd.R_mono (Kd.R_far (p := ⟨gb221, 3, none⟩) (Kd.R_types HO_10.out BK221.out (by decide)) (fun _ hk => by first|trivial|exact hk.2) (.bool ((Int.tmod x222002_4 2) == 1))) (fun _ hk => by first|trivial|exact hk.1.2)⟩, ⟨by exact Kd.R_mono (Kd.R_far (p := ⟨gb221, 3, none⟩) (Kd.R_types HO_15.out BK221.out (by decide)) (fun _ hk => by first|trivial|exact hk.2) (.bool ((Int.tmod x222002_4 2) == 1))) (fun _ hk => by first|trivial|exact hk.1.2)⟩, ⟨by (with_reducible repeat (first|refine blk_drewN ?_ _|refine blk_drew ?_|refine blk_alloc ?_ _));refine blk_far ?_ NB189_221.out _;(with_reducible repeat (first|refine blk_drewN ?_ _|refine blk_drew ?_|refine blk_alloc ?_ _));exact BK189.out⟩, ⟨by (with_reducible repeat (first|refine blk_drewN ?_ _|refine blk_drew ?_|refine blk_alloc ?_ _));refine blk_put (cs := #[.int .i64 x222000_4, .int .i64 x222001_4, .int .i64 x222002_4, .bool false]) ?_ 3 _ rfl;(with_reducible repeat (first|refine blk_drewN ?_ _|refine blk_drew ?_|refine blk_alloc ?_ _));exact BK221.out⟩, ⟨by repeat (first|(with_reducible first|exact HB.out|apply below_alloc|apply pw_below_drewN|apply below_drew1|refine below_set ?_ GE189.out|refine below_set ?_ GE221.out)|exact HB.out)⟩⟩
             case round =>
              clear H'
              obtain ⟨x10_5, x15_5, x17_5, x222003_5, rfl, HA, HK5, HO_5, HO_10, HO_15, BK189, BK221, HB⟩ := hrel
              cases gk with
              | zero => exact absurd HA.out (by simp [bibelotref07_Components.l6])
              | succ k5 =>
               have H := HA.out
               clear HA
               simp only [bibelotref07_Components.l6] at H
               by_cases c124 : x17_5 < (t190.length : Int)
               ·rw [if_pos c124] at H
                have c124b0 : decide (x17_5 < (t190.length : Int)) = true := decide_eq_true c124
                clear c124
                by_cases c125 : 0 ≤ x17_5
                rotate_left
                ·rw [if_neg c125] at H
                 exact absurd H (by simp)
                rw [if_pos c125] at H
                have c125b0 : decide (0 ≤ x17_5) = true := decide_eq_true c125
                clear c125
                by_cases c126 : x17_5 < (x15_5.length : Int)
                rotate_left
                ·rw [if_neg c126] at H
                 exact absurd H (by simp)
                rw [if_pos c126] at H
                have c126b0 : decide (x17_5 < (x15_5.length : Int)) = true := decide_eq_true c126
                clear c126
                obtain ⟨bq127, hbq127⟩ : ∃ b_ : Bool, b_ = (rdOf false x15_5 x17_5) := ⟨_, rfl⟩
                replace H : (if bq127 = true then (if ([] : List Bool).length + x10_5.length < 140737488355328 then ((some (([] : List Bool) ++ x10_5 : List Bool)).bind fun y235 => (if x17_5 < (y235.length : Int) then (bibelotref07_Components.l7 k5 l0 x5_1 (t190.length : Int) x10_5 x15_5 x17_5 (y235.set (x17_5 : Int).toNat false) false 0 x222000_4 x222001_4 x222002_4 x222003_5) else (none))) else (none)) else (bibelotref07_Components.l6 k5 l0 x5_1 (t190.length : Int) x10_5 x15_5 (wrap64 (x17_5 + 1)) x222000_4 x222001_4 x222002_4 x222003_5)) = some (r1, r2, r3, r4) := by rw [← hbq127] at H; exact H
                have Nbq127 := Aside0.mk hbq127
                clear hbq127
                by_cases c128 : bq127 = true
                ·subst c128
                 have H1 : (if ([] : List Bool).length + x10_5.length < 140737488355328 then ((some (([] : List Bool) ++ x10_5 : List Bool)).bind fun y235 => (if x17_5 < (y235.length : Int) then (bibelotref07_Components.l7 k5 l0 x5_1 (t190.length : Int) x10_5 x15_5 x17_5 (y235.set (x17_5 : Int).toNat false) false 0 x222000_4 x222001_4 x222002_4 x222003_5) else (none))) else (none)) = some (r1, r2, r3, r4) := by rw [if_pos rfl] at H; exact H
                 clear H
                 have H := H1
                 clear H1
                 by_cases c129 : ([] : List Bool).length + x10_5.length < 140737488355328
                 rotate_left
                 ·rw [if_neg c129] at H
                  exact absurd H (by simp)
                 rw [if_pos c129] at H
                 have LMc129 := Aside0.mk c129
                 clear c129
                 obtain ⟨y235, hy235⟩ : ∃ y_ : List Bool, y_ = (([] : List Bool) ++ x10_5) := ⟨_, rfl⟩
                 replace H : (if x17_5 < (y235.length : Int) then (bibelotref07_Components.l7 k5 l0 x5_1 (t190.length : Int) x10_5 x15_5 x17_5 (y235.set (x17_5 : Int).toNat false) false 0 x222000_4 x222001_4 x222002_4 x222003_5) else (none)) = some (r1, r2, r3, r4) := by first | (rw [hy235]; with_reducible exact H) | (have H2_ := (Option.bind_some _ _).symm.trans H; rw [hy235]; with_reducible exact H2_) | (have H2_ := (Option.bind_some _ _).symm.trans H; with_reducible exact H2_) | with_reducible exact H | (rw [hy235]; exact H) | exact H
                 have Ny235 := Aside0.mk hy235
                 clear hy235
                 by_cases c130 : x17_5 < (y235.length : Int)
                 rotate_left
                 ·rw [if_neg c130] at H
                  exact absurd H (by simp)
                 rw [if_pos c130] at H
                 have c130b0 : decide (x17_5 < (y235.length : Int)) = true := decide_eq_true c130
                 clear c130
                 obtain ⟨y238, hy238⟩ : ∃ y_ : List Bool, y_ = (y235.set (x17_5 : Int).toNat false) := ⟨_, rfl⟩
                 replace H : (bibelotref07_Components.l7 k5 l0 x5_1 (t190.length : Int) x10_5 x15_5 x17_5 y238 false 0 x222000_4 x222001_4 x222002_4 x222003_5) = some (r1, r2, r3, r4) := by first | (rw [hy238]; with_reducible exact H) | (have H2_ := (Option.bind_some _ _).symm.trans H; rw [hy238]; with_reducible exact H2_) | (have H2_ := (Option.bind_some _ _).symm.trans H; with_reducible exact H2_) | with_reducible exact H | (rw [hy238]; exact H) | exact H
                 have Ny238 := Aside0.mk hy238
                 clear hy238
                 have H' := Aside0.mk H
                 clear H
                 obtain ⟨Ao132, co132, eo132⟩ := Kd.R_slice HO_15.out
                 subst eo132
                 have p234 : 0 ≤ (x17_5 : Int) := of_decide_eq_true (by first | (with_reducible assumption) | assumption)
                 have q234 : x17_5 < (x15_5.length : Int) := of_decide_eq_true (by first | (with_reducible assumption) | assumption)
                 obtain ⟨ad234, e234, hx234_0⟩ := Kd.at_bool (Kd.R_reads' HO_15.out).2.2 x17_5 p234 q234
                 (try rw [← Nbq127.out] at hx234_0)
                 cases e234
                 replace p234 := eq_true p234
                 replace q234 := eq_true q234
                 obtain ⟨Ao134, co134, eo134⟩ := Kd.R_slice HO_10.out
                 subst eo134
                 go_wp2_with (first|((with_reducible refine gate_builtin (b := .append) (xs := #[.tmp 171, .tmp 172]) rfl ?_);at_builtin;refine Kd.R_append_rows Kd.bool (w0 := w) w.heap.size rfl (.tmp 171) (.tmp 172) 62 4 (.bool false) 1 rfl Try.underlying62 info4 rfl (by decide) (by omega) (.slice none 0 0) ([] : List Bool) x10_5 _ _ _ (fun k_ => some k_ ≠ (.slice Ao134 x10_5.length co134 : Value).ownBlock ∧ some k_ ≠ (.slice (some ad234) x15_5.length co132 : Value).ownBlock) (fun _ => False) rfl rfl ?aO ?aR (fun _ _ h => h) (fun _ h => h.elim) ?aF ?aB ?aS ?aL ?_;(case aR => repeat (first|exact (Kd.R_reads' HO_10.out).2.2|(with_reducible refine Kd.C_alloc ?_ _)|(with_reducible refine Kd.C_drewN ?_ _)|(with_reducible refine Kd.C_drew ?_)));(case aB => exact (by repeat (first|(with_reducible first|exact HB.out|apply below_alloc|apply pw_below_drewN|apply below_drew1|refine below_set ?_ GE189.out|refine below_set ?_ GE221.out)|exact HB.out)));(case aF => exact (fun k_ hk => ⟨Kd.fresh' (Kd.R_lt (by (with_reducible repeat (first|apply Kd.R_alloc|apply Kd.R_drewN|apply Kd.R_drew));exact HO_10.out)) k_ hk, Kd.fresh' (Kd.R_lt (by (with_reducible repeat (first|apply Kd.R_alloc|apply Kd.R_drewN|apply Kd.R_drew));exact HO_15.out)) k_ hk⟩));(case aO => exact ((Kd.R_nil _ _ _ _ (fun k_ => some k_ ≠ (.slice Ao134 x10_5.length co134 : Value).ownBlock ∧ some k_ ≠ (.slice (some ad234) x15_5.length co132 : Value).ownBlock))));(case aS => exact (below_size (by repeat (first|(with_reducible first|exact HB.out|apply below_alloc|apply pw_below_drewN|apply below_drew1|refine below_set ?_ GE189.out|refine below_set ?_ GE221.out)|exact HB.out))));(case aL => have := LMc129.out;omega);intro v236 w133 ho hb hg hat;rw [← Ny235.out] at ho;have n0_ := Aside0.mk (Kd.R_grown (by (with_reducible repeat (first|apply Kd.R_alloc|apply Kd.R_drewN|apply Kd.R_drew));exact HO_5.out) hg (fun _ _ => by simp [Value.ownBlock]));have n1_ := Aside0.mk (Kd.R_after (Kd.R_apart_nil (by (with_reducible repeat (first|apply Kd.R_alloc|apply Kd.R_drewN|apply Kd.R_drew));exact HO_10.out)) hg hat);have n2_ := Aside0.mk (Kd.R_after (Kd.R_apart_nil (by (with_reducible repeat (first|apply Kd.R_alloc|apply Kd.R_drewN|apply Kd.R_drew));exact HO_15.out)) hg hat);have n3_ := Aside0.mk (blk_grown (g := gb189) (o := .cells #[.int .i64 0, .int .i64 0, .int .i64 0, .bool false] 31 (0, 0)) (by (with_reducible repeat (first|refine blk_drewN ?_ _|refine blk_drew ?_|refine blk_alloc ?_ _));exact BK189.out) hg (by simp [Value.ownBlock]));have n4_ := Aside0.mk (blk_grown (g := gb221) (o := .cells #[.int .i64 x222000_4, .int .i64 x222001_4, .int .i64 x222002_4, .bool x222003_5] 31 (0, 0)) (by (with_reducible repeat (first|refine blk_drewN ?_ _|refine blk_drew ?_|refine blk_alloc ?_ _));exact BK221.out) hg (by simp [Value.ownBlock]));have n5_ := Aside0.mk (hb);have n6_ := Aside0.mk (ho);clear HO_5;clear HO_10;clear HO_15;clear BK189;clear BK221;clear HB;have HO_5 := n0_;have HO_10 := n1_;have HO_15 := n2_;have BK189 := n3_;have BK221 := n4_;have HB := n5_;have HO237 := n6_;clear n0_ n1_ n2_ n3_ n4_ n5_ n6_;clear ho hb hg hat;have p131 : 0 ≤ (x17_5 : Int) := of_decide_eq_true (by first|(with_reducible assumption)|assumption);have q131 : (x17_5 : Int) < ((y235.length : Int) : Int) := of_decide_eq_true (by first|(with_reducible assumption)|assumption);obtain ⟨go131, co131, eo131, gb131, gl131, cl131, HG131⟩ := Kd.R_form HO237.out (by omega);(first|cases eo131|(injection eo131 with ea_ en_ ec_;(first|subst ea_|(injection ea_ with ea_;subst ea_));subst ec_;clear en_));have GB131 := Aside0.mk gb131;have GG131 := Aside0.mk HG131;clear gb131 gl131 HG131;obtain ⟨hx131_0, hf131_0⟩ := Kd.R_celln false HO237.out (x17_5 : Int) p131 q131;replace p131 := eq_true p131;replace q131 := eq_true q131;obtain ⟨hy135_, hz135_⟩ := Kd.R_celln false HO237.out (x17_5 : Int) (of_decide_eq_true (by first|(with_reducible assumption)|assumption)) (of_decide_eq_true (by first|(with_reducible assumption)|assumption));have HP135 := Kd.R_putg HO237.out (x17_5 : Int) false)|((with_reducible refine gate_store (t := 4) (p := 176) rfl ?_);refine store_event (t := 4) (p := 176) (v := ?vo_w136) (w1 := (w133.setCell ⟨go131, (x17_5 : Int).toNat, none⟩ (.bool false))) ?hg ?ho ?hn ?hr ?_;(case ho => rfl);(case hg => rfl);(case hn => rfl);(case hr => first|(go_simp;done)|(go_simp;rfl));intro w136 hw;have hg : w133.grownBy w136 (some go131) := (by rw [hw];exact HP135.2);have hp_ : Kd.R Kd.bool 4 w136 w.heap.size (fun k_ => some k_ ≠ (.slice Ao134 x10_5.length co134 : Value).ownBlock ∧ some k_ ≠ (.slice (some ad234) x15_5.length co132 : Value).ownBlock) (.slice (some ⟨go131, 0, none⟩) y235.length co131) y238 := (by rw [hw, Ny238.out];exact HP135.1);clear HP135;have n0_ := Aside0.mk (Kd.R_over' (v := (.slice (some ⟨go131, 0, none⟩) y235.length co131)) (by (with_reducible repeat (first|apply Kd.R_alloc|apply Kd.R_drewN|apply Kd.R_drew));exact HO_5.out) (Kd.R_typed HO237.out) (by decide) hg);have n1_ := Aside0.mk (Kd.R_after (v := (.slice (some ⟨go131, 0, none⟩) y235.length co131)) (v1 := (.slice (some ⟨go131, 0, none⟩) y235.length co131)) (ok := (fun k_ => some k_ ≠ (.slice (some ad234) x15_5.length co132 : Value).ownBlock)) (by (with_reducible repeat (first|apply Kd.R_alloc|apply Kd.R_drewN|apply Kd.R_drew));exact HO_10.out) hg (.inl rfl));have n2_ := Aside0.mk (Kd.R_after (v := (.slice (some ⟨go131, 0, none⟩) y235.length co131)) (v1 := (.slice (some ⟨go131, 0, none⟩) y235.length co131)) (ok := (fun k_ => some k_ ≠ (.slice Ao134 x10_5.length co134 : Value).ownBlock)) (by (with_reducible repeat (first|apply Kd.R_alloc|apply Kd.R_drewN|apply Kd.R_drew));exact HO_15.out) hg (.inl rfl));have n3_ := Aside0.mk (blk_grown (g := gb189) (o := .cells #[.int .i64 0, .int .i64 0, .int .i64 0, .bool false] 31 (0, 0)) (by (with_reducible repeat (first|refine blk_drewN ?_ _|refine blk_drew ?_|refine blk_alloc ?_ _));exact BK189.out) hg (Kd.R_ne HO237.out BK189.out (by decide)));have n4_ := Aside0.mk (blk_grown (g := gb221) (o := .cells #[.int .i64 x222000_4, .int .i64 x222001_4, .int .i64 x222002_4, .bool x222003_5] 31 (0, 0)) (by (with_reducible repeat (first|refine blk_drewN ?_ _|refine blk_drew ?_|refine blk_alloc ?_ _));exact BK221.out) hg (Kd.R_ne HO237.out BK221.out (by decide)));have n5_ := Aside0.mk (hp_);have n6_ := Aside0.mk ((by rw [hw];exact below_set (HB.out) GB131.out : Below w.heap.size w w136));clear HO_5;clear HO_10;clear HO_15;clear BK189;clear BK221;clear HO237;clear HB;have HO_5 := n0_;have HO_10 := n1_;have HO_15 := n2_;have BK189 := n3_;have BK221 := n4_;have HO237 := n5_;have HB := n6_;clear n0_ n1_ n2_ n3_ n4_ n5_ n6_;clear hg hw hp_))
                 go_loopg [19, 20] k5 (fun kq v19 v20 w' => ∃ (x19_6 : Bool) (x20_6 : Int), v19 = .bool x19_6 ∧ v20 = .int .i64 x20_6 ∧ Aside0 (bibelotref07_Components.l7 kq l0 x5_1 (t190.length : Int) x10_5 x15_5 x17_5 y238 x19_6 x20_6 x222000_4 x222001_4 x222002_4 x222003_5 = some (r1, r2, r3, r4)) ∧ Aside0 (kq ≤ k5) ∧ Aside0 (Kd.R (Kd.int .i64) 3 w' w.heap.size (fun _ => True) u5 x5_1) ∧ Aside0 (Kd.R Kd.bool 4 w' w.heap.size (fun k_ => some k_ ≠ ((.slice (some ad234) x15_5.length co132) : Value).ownBlock ∧ some k_ ≠ ((.slice (some ⟨go131, 0, none⟩) y235.length co131) : Value).ownBlock) (.slice Ao134 x10_5.length co134) x10_5) ∧ Aside0 (Kd.R Kd.bool 4 w' w.heap.size (fun k_ => some k_ ≠ ((.slice Ao134 x10_5.length co134) : Value).ownBlock ∧ some k_ ≠ ((.slice (some ⟨go131, 0, none⟩) y235.length co131) : Value).ownBlock) (.slice (some ad234) x15_5.length co132) x15_5) ∧ Aside0 (Kd.R Kd.bool 4 w' w.heap.size (fun k_ => some k_ ≠ ((.slice Ao134 x10_5.length co134) : Value).ownBlock ∧ some k_ ≠ ((.slice (some ad234) x15_5.length co132) : Value).ownBlock) (.slice (some ⟨go131, 0, none⟩) y235.length co131) y238) ∧ Aside0 (w'.heap[gb189]? = some (.cells #[.int .i64 0, .int .i64 0, .int .i64 0, .bool false] 31 (0, 0))) ∧ Aside0 (w'.heap[gb221]? = some (.cells #[.int .i64 x222000_4, .int .i64 x222001_4, .int .i64 x222002_4, .bool x222003_5] 31 (0, 0))) ∧ Aside0 (Below w.heap.size w w'))
                 case atStart => exact ⟨(false), (0), (by first | rfl | (simp; done) | (simp [*]; done)), (by first | rfl | (simp; done) | (simp [*]; done)), H', ⟨Nat.le_refl _⟩, ⟨by exact HO_5.out⟩, ⟨by exact HO_10.out⟩, ⟨by exact HO_15.out⟩, ⟨by exact HO237.out⟩, ⟨by exact BK189.out⟩, ⟨by exact BK221.out⟩, ⟨by exact HB.out⟩⟩
                 case round =>
                  clear H'
                  obtain ⟨x19_6, x20_6, rfl, rfl, HA, HK6, HO_5, HO_10, HO_15, HO_18, BK189, BK221, HB⟩ := hrel
                  have hl18_6 := (Kd.R_reads' HO_18.out).1
                  rw [hl18_6] at HO_18
                  (try simp only [hl18_6])
                  (try simp only [hl18_6] at BK189)
                  (try simp only [hl18_6] at BK221)
                  (try simp only [hl18_6] at HO_5)
                  (try simp only [hl18_6] at HO_10)
                  (try simp only [hl18_6] at HO_15)
                  cases gk with
                  | zero => exact absurd HA.out (by simp [bibelotref07_Components.l7])
                  | succ k6 =>
                   have H := HA.out
                   clear HA
                   simp only [bibelotref07_Components.l7] at H
                   by_cases c137 : x20_6 < (t190.length : Int)
                   ·rw [if_pos c137] at H
                    have c137b0 : decide (x20_6 < (t190.length : Int)) = true := decide_eq_true c137
                    clear c137
                    by_cases c138 : x19_6 = true
                    ·subst c138
                     have H1 : (bibelotref07_Components.l7 k6 l0 x5_1 (t190.length : Int) x10_5 x15_5 x17_5 y238 true (wrap64 (x20_6 + 1)) x222000_4 x222001_4 x222002_4 x222003_5) = some (r1, r2, r3, r4) := by rw [if_pos rfl] at H; exact H
                     clear H
                     have H := H1
                     clear H1
                     have H' := Aside0.mk H
                     clear H
                     go_wp2
                     (try simp only [← hl18_6])
                     go_roundg k6
                     case measure => have := HK1.out; have := HK2.out; have := HK3.out; have := HK4.out; have := HK5.out; have := HK6.out; omega
                     case rel => exact ⟨(true), (wrap64 (x20_6 + 1)), (by first|rfl|(simp;done)|(simp [*];done)), (by first|rfl|(simp;done)|(simp [*];done)), H', ⟨by have := HK1.out;have := HK2.out;have := HK3.out;have := HK4.out;have := HK5.out;have := HK6.out;omega⟩, ⟨by (try simp only [hl18_6]);(with_reducible repeat (first|apply Kd.R_alloc|apply Kd.R_drewN|apply Kd.R_drew));exact HO_5.out⟩, ⟨by (try simp only [hl18_6]);(with_reducible repeat (first|apply Kd.R_alloc|apply Kd.R_drewN|apply Kd.R_drew));exact HO_10.out⟩, ⟨by (try simp only [hl18_6]);(with_reducible repeat (first|apply Kd.R_alloc|apply Kd.R_drewN|apply Kd.R_drew));exact HO_15.out⟩, ⟨by (try simp only [hl18_6]);(with_reducible repeat (first|apply Kd.R_alloc|apply Kd.R_drewN|apply Kd.R_drew));exact HO_18.out⟩, ⟨by (try simp only [hl18_6]);(with_reducible repeat (first|refine blk_drewN ?_ _|refine blk_drew ?_|refine blk_alloc ?_ _));exact BK189.out⟩, ⟨by (try simp only [hl18_6]);(with_reducible repeat (first|refine blk_drewN ?_ _|refine blk_drew ?_|refine blk_alloc ?_ _));exact BK221.out⟩, ⟨by exact HB.out⟩⟩
                    ·replace c138 := Bool.eq_false_iff.mpr c138
                     subst c138
                     have H1 : (if 0 ≤ x20_6 then (if x20_6 < (y238.length : Int) then (if rdOf false y238 x20_6 = true then (if x20_6 < (x15_5.length : Int) then (if rdOf false x15_5 x20_6 = true then (bibelotref07_Components.l7 k6 l0 x5_1 (t190.length : Int) x10_5 x15_5 x17_5 y238 false (wrap64 (x20_6 + 1)) x222000_4 x222001_4 x222002_4 x222003_5) else ((bibelotref07_whole.f k6 l0 x5_1 y238 x20_6).bind fun t241 => (bibelotref07_Components.l7 k6 l0 x5_1 (t190.length : Int) x10_5 x15_5 x17_5 y238 t241 (wrap64 (x20_6 + 1)) x222000_4 x222001_4 x222002_4 x222003_5))) else (none)) else (bibelotref07_Components.l7 k6 l0 x5_1 (t190.length : Int) x10_5 x15_5 x17_5 y238 false (wrap64 (x20_6 + 1)) x222000_4 x222001_4 x222002_4 x222003_5)) else (none)) else (none)) = some (r1, r2, r3, r4) := by rw [if_neg (show ¬ (false = true) by decide)] at H;exact H
                     clear H
                     have H := H1
                     clear H1
                     by_cases c139 : 0 ≤ x20_6
                     rotate_left
                     ·rw [if_neg c139] at H
                      exact absurd H (by simp)
                     rw [if_pos c139] at H
                     have c139b0 : decide (0 ≤ x20_6) = true := decide_eq_true c139
                     clear c139
                     by_cases c140 : x20_6 < (y238.length : Int)
                     rotate_left
                     ·rw [if_neg c140] at H
                      exact absurd H (by simp)
                     rw [if_pos c140] at H
                     have c140b0 : decide (x20_6 < (y238.length : Int)) = true := decide_eq_true c140
                     clear c140
                     obtain ⟨bq141, hbq141⟩ : ∃ b_ : Bool, b_ = (rdOf false y238 x20_6) := ⟨_, rfl⟩
                     replace H : (if bq141 = true then (if x20_6 < (x15_5.length : Int) then (if rdOf false x15_5 x20_6 = true then (bibelotref07_Components.l7 k6 l0 x5_1 (t190.length : Int) x10_5 x15_5 x17_5 y238 false (wrap64 (x20_6 + 1)) x222000_4 x222001_4 x222002_4 x222003_5) else ((bibelotref07_whole.f k6 l0 x5_1 y238 x20_6).bind fun t241 => (bibelotref07_Components.l7 k6 l0 x5_1 (t190.length : Int) x10_5 x15_5 x17_5 y238 t241 (wrap64 (x20_6 + 1)) x222000_4 x222001_4 x222002_4 x222003_5))) else (none)) else (bibelotref07_Components.l7 k6 l0 x5_1 (t190.length : Int) x10_5 x15_5 x17_5 y238 false (wrap64 (x20_6 + 1)) x222000_4 x222001_4 x222002_4 x222003_5)) = some (r1, r2, r3, r4) := by rw [← hbq141] at H;exact H
                     have Nbq141 := Aside0.mk hbq141
                     clear hbq141
                     by_cases c142 : bq141 = true
                     ·subst c142
                      have H1 : (if x20_6 < (x15_5.length : Int) then (if rdOf false x15_5 x20_6 = true then (bibelotref07_Components.l7 k6 l0 x5_1 (t190.length : Int) x10_5 x15_5 x17_5 y238 false (wrap64 (x20_6 + 1)) x222000_4 x222001_4 x222002_4 x222003_5) else ((bibelotref07_whole.f k6 l0 x5_1 y238 x20_6).bind fun t241 => (bibelotref07_Components.l7 k6 l0 x5_1 (t190.length : Int) x10_5 x15_5 x17_5 y238 t241 (wrap64 (x20_6 + 1)) x222000_4 x222001_4 x222002_4 x222003_5))) else (none)) = some (r1, r2, r3, r4) := by rw [if_pos rfl] at H; exact H
                      clear H
                      have H := H1
                      clear H1
                      by_cases c143 : x20_6 < (x15_5.length : Int)
                      rotate_left
                      ·rw [if_neg c143] at H
                       exact absurd H (by simp)
                      rw [if_pos c143] at H
                      have c143b0 : decide (x20_6 < (x15_5.length : Int)) = true := decide_eq_true c143
                      clear c143
                      obtain ⟨bq144, hbq144⟩ : ∃ b_ : Bool, b_ = (rdOf false x15_5 x20_6) := ⟨_, rfl⟩
                      replace H : (if bq144 = true then (bibelotref07_Components.l7 k6 l0 x5_1 (t190.length : Int) x10_5 x15_5 x17_5 y238 false (wrap64 (x20_6 + 1)) x222000_4 x222001_4 x222002_4 x222003_5) else ((bibelotref07_whole.f k6 l0 x5_1 y238 x20_6).bind fun t241 => (bibelotref07_Components.l7 k6 l0 x5_1 (t190.length : Int) x10_5 x15_5 x17_5 y238 t241 (wrap64 (x20_6 + 1)) x222000_4 x222001_4 x222002_4 x222003_5))) = some (r1, r2, r3, r4) := by rw [← hbq144] at H; exact H
                      have Nbq144 := Aside0.mk hbq144
                      clear hbq144
                      by_cases c145 : bq144 = true
                      ·subst c145
                       have H1 : (bibelotref07_Components.l7 k6 l0 x5_1 (t190.length : Int) x10_5 x15_5 x17_5 y238 false (wrap64 (x20_6 + 1)) x222000_4 x222001_4 x222002_4 x222003_5) = some (r1, r2, r3, r4) := by rw [if_pos rfl] at H; exact H
                       clear H
                       have H := H1
                       clear H1
                       have H' := Aside0.mk H
                       clear H
                       have p239 : 0 ≤ (x20_6 : Int) := of_decide_eq_true (by first | (with_reducible assumption) | assumption)
                       have q239 : x20_6 < (y238.length : Int) := of_decide_eq_true (by first | (with_reducible assumption) | assumption)
                       obtain ⟨ad239, e239, hx239_0⟩ := Kd.at_bool (Kd.R_reads' HO_18.out).2.2 x20_6 p239 q239
                       (try rw [← Nbq127.out] at hx239_0)
                       (try rw [← Nbq141.out] at hx239_0)
                       (try rw [← Nbq144.out] at hx239_0)
                       obtain rfl : (⟨go131, 0, none⟩ : Addr) = ad239 := (by injection e239)
                       (first | simp only [add_plain] at hx239_0 | simp only [add_at] at hx239_0 | simp only [Addr.add, Nat.zero_add] at hx239_0 | skip)
                       replace p239 := eq_true p239
                       replace q239 := eq_true q239
                       have p240 : 0 ≤ (x20_6 : Int) := of_decide_eq_true (by first | (with_reducible assumption) | assumption)
                       have q240 : x20_6 < (x15_5.length : Int) := of_decide_eq_true (by first | (with_reducible assumption) | assumption)
                       obtain ⟨ad240, e240, hx240_0⟩ := Kd.at_bool (Kd.R_reads' HO_15.out).2.2 x20_6 p240 q240
                       (try rw [← Nbq127.out] at hx240_0)
                       (try rw [← Nbq141.out] at hx240_0)
                       (try rw [← Nbq144.out] at hx240_0)
                       obtain rfl : ad234 = ad240 := (by injection e240)
                       replace p240 := eq_true p240
                       replace q240 := eq_true q240
                       go_wp2
                       (try simp only [← hl18_6])
                       go_roundg k6
                       case measure => have := HK1.out; have := HK2.out; have := HK3.out; have := HK4.out; have := HK5.out; have := HK6.out; omega
                       case rel => exact ⟨(false), (wrap64 (x20_6 + 1)), (by first|rfl|(simp;done)|(simp [*];done)), (by first|rfl|(simp;done)|(simp [*];done)), H', ⟨by have := HK1.out;have := HK2.out;have := HK3.out;have := HK4.out;have := HK5.out;have := HK6.out;omega⟩, ⟨by (try simp only [hl18_6]);(with_reducible repeat (first|apply Kd.R_alloc|apply Kd.R_drewN|apply Kd.R_drew));exact HO_5.out⟩, ⟨by (try simp only [hl18_6]);(with_reducible repeat (first|apply Kd.R_alloc|apply Kd.R_drewN|apply Kd.R_drew));exact HO_10.out⟩, ⟨by (try simp only [hl18_6]);(with_reducible repeat (first|apply Kd.R_alloc|apply Kd.R_drewN|apply Kd.R_drew));exact HO_15.out⟩, ⟨by (try simp only [hl18_6]);(with_reducible repeat (first|apply Kd.R_alloc|apply Kd.R_drewN|apply Kd.R_drew));exact HO_18.out⟩, ⟨by (try simp only [hl18_6]);(with_reducible repeat (first|refine blk_drewN ?_ _|refine blk_drew ?_|refine blk_alloc ?_ _));exact BK189.out⟩, ⟨by (try simp only [hl18_6]);(with_reducible repeat (first|refine blk_drewN ?_ _|refine blk_drew ?_|refine blk_alloc ?_ _));exact BK221.out⟩, ⟨by exact HB.out⟩⟩
                      ·replace c145 := Bool.eq_false_iff.mpr c145
                       subst c145
                       have H1 : ((bibelotref07_whole.f k6 l0 x5_1 y238 x20_6).bind fun t241 => (bibelotref07_Components.l7 k6 l0 x5_1 (t190.length : Int) x10_5 x15_5 x17_5 y238 t241 (wrap64 (x20_6 + 1)) x222000_4 x222001_4 x222002_4 x222003_5)) = some (r1, r2, r3, r4) := by rw [if_neg (show ¬ (false = true) by decide)] at H; exact H
                       clear H
                       have H := H1
                       clear H1
                       replace H := Option.bind_eq_some_iff.mp H
                       obtain ⟨t241, A1460, H⟩ := H
                       replace H : (bibelotref07_Components.l7 k6 l0 x5_1 (t190.length : Int) x10_5 x15_5 x17_5 y238 t241 (wrap64 (x20_6 + 1)) x222000_4 x222001_4 x222002_4 x222003_5) = some (r1, r2, r3, r4) := H
                       have A146 := Aside0.mk A1460
                       clear A1460
                       have H' := Aside0.mk H
                       clear H
                       have p239 : 0 ≤ (x20_6 : Int) := of_decide_eq_true (by first | (with_reducible assumption) | assumption)
                       have q239 : x20_6 < (y238.length : Int) := of_decide_eq_true (by first | (with_reducible assumption) | assumption)
                       obtain ⟨ad239, e239, hx239_0⟩ := Kd.at_bool (Kd.R_reads' HO_18.out).2.2 x20_6 p239 q239
                       (try rw [← Nbq127.out] at hx239_0)
                       (try rw [← Nbq141.out] at hx239_0)
                       (try rw [← Nbq144.out] at hx239_0)
                       obtain rfl : (⟨go131, 0, none⟩ : Addr) = ad239 := (by injection e239)
                       (first | simp only [add_plain] at hx239_0 | simp only [add_at] at hx239_0 | simp only [Addr.add, Nat.zero_add] at hx239_0 | skip)
                       replace p239 := eq_true p239
                       replace q239 := eq_true q239
                       have p240 : 0 ≤ (x20_6 : Int) := of_decide_eq_true (by first | (with_reducible assumption) | assumption)
                       have q240 : x20_6 < (x15_5.length : Int) := of_decide_eq_true (by first | (with_reducible assumption) | assumption)
                       obtain ⟨ad240, e240, hx240_0⟩ := Kd.at_bool (Kd.R_reads' HO_15.out).2.2 x20_6 p240 q240
                       (try rw [← Nbq127.out] at hx240_0)
                       (try rw [← Nbq141.out] at hx240_0)
                       (try rw [← Nbq144.out] at hx240_0)
                       obtain rfl : ad234 = ad240 := (by injection e240)
                       replace p240 := eq_true p240
                       replace q240 := eq_true q240
                       obtain ⟨Ao147, co147, eo147⟩ := Kd.R_slice HO_5.out
                       subst eo147
                       go_wp2_with (first|(go_at_call 67;(with_reducible refine (bibelotref07_whole.calls k6 _ _ l0 _ _ x5_1 _ _ y238 x20_6 t241 _ ?side1 ?side2 ?side3 ?side4 ?side5 ?side6 A146.out).mono ?_);(case side1 => repeat (first|exact (Kd.C_below HR0.out HB.out)|(with_reducible refine Kd.C_alloc ?_ _)|(with_reducible refine Kd.C_drewN ?_ _)|(with_reducible refine Kd.C_drew ?_)));(case side2 => exact HC0.out);(case side3 => repeat (first|exact (Kd.R_reads' HO_5.out).2.2|(with_reducible refine Kd.C_alloc ?_ _)|(with_reducible refine Kd.C_drewN ?_ _)|(with_reducible refine Kd.C_drew ?_)));(case side4 => exact (Kd.R_reads' HO_5.out).2.1);(case side5 => repeat (first|exact (Kd.R_reads' HO_18.out).2.2|(with_reducible refine Kd.C_alloc ?_ _)|(with_reducible refine Kd.C_drewN ?_ _)|(with_reducible refine Kd.C_drew ?_)));(case side6 => exact (Kd.R_reads' HO_18.out).2.1);rintro e w148 ⟨rfl, hb⟩;have n0_ := Aside0.mk (Kd.R_below (by (with_reducible repeat (first|apply Kd.R_alloc|apply Kd.R_drewN|apply Kd.R_drew));exact HO_5.out) hb);have n1_ := Aside0.mk (Kd.R_below (by (with_reducible repeat (first|apply Kd.R_alloc|apply Kd.R_drewN|apply Kd.R_drew));exact HO_10.out) hb);have n2_ := Aside0.mk (Kd.R_below (by (with_reducible repeat (first|apply Kd.R_alloc|apply Kd.R_drewN|apply Kd.R_drew));exact HO_15.out) hb);have n3_ := Aside0.mk (Kd.R_below (by (with_reducible repeat (first|apply Kd.R_alloc|apply Kd.R_drewN|apply Kd.R_drew));exact HO_18.out) hb);have n4_ := Aside0.mk (blk_below (g := gb189) (o := .cells #[.int .i64 0, .int .i64 0, .int .i64 0, .bool false] 31 (0, 0)) (by (with_reducible repeat (first|refine blk_drewN ?_ _|refine blk_drew ?_|refine blk_alloc ?_ _));exact BK189.out) hb);have n5_ := Aside0.mk (blk_below (g := gb221) (o := .cells #[.int .i64 x222000_4, .int .i64 x222001_4, .int .i64 x222002_4, .bool x222003_5] 31 (0, 0)) (by (with_reducible repeat (first|refine blk_drewN ?_ _|refine blk_drew ?_|refine blk_alloc ?_ _));exact BK221.out) hb);have n6_ := Aside0.mk (below_step (by repeat (first|(with_reducible first|exact HB.out|apply below_alloc|apply pw_below_drewN|apply below_drew1|refine below_set ?_ GE189.out|refine below_set ?_ GE221.out)|exact HB.out)) hb);clear HO_5;clear HO_10;clear HO_15;clear HO_18;clear BK189;clear BK221;clear HB;have HO_5 := n0_;have HO_10 := n1_;have HO_15 := n2_;have HO_18 := n3_;have BK189 := n4_;have BK221 := n5_;have HB := n6_;clear n0_ n1_ n2_ n3_ n4_ n5_ n6_;(try clear hb)))
                       (try simp only [← hl18_6])
                       go_roundg k6
                       case measure => have := HK1.out; have := HK2.out; have := HK3.out; have := HK4.out; have := HK5.out; have := HK6.out; omega
                       case rel => exact ⟨(t241), (wrap64 (x20_6 + 1)), (by first|rfl|(simp;done)|(simp [*];done)), (by first|rfl|(simp;done)|(simp [*];done)), H', ⟨by have := HK1.out;have := HK2.out;have := HK3.out;have := HK4.out;have := HK5.out;have := HK6.out;omega⟩, ⟨by (try simp only [hl18_6]);(with_reducible repeat (first|apply Kd.R_alloc|apply Kd.R_drewN|apply Kd.R_drew));exact HO_5.out⟩, ⟨by (try simp only [hl18_6]);(with_reducible repeat (first|apply Kd.R_alloc|apply Kd.R_drewN|apply Kd.R_drew));exact HO_10.out⟩, ⟨by (try simp only [hl18_6]);(with_reducible repeat (first|apply Kd.R_alloc|apply Kd.R_drewN|apply Kd.R_drew));exact HO_15.out⟩, ⟨by (try simp only [hl18_6]);(with_reducible repeat (first|apply Kd.R_alloc|apply Kd.R_drewN|apply Kd.R_drew));exact HO_18.out⟩, ⟨by (try simp only [hl18_6]);(with_reducible repeat (first|refine blk_drewN ?_ _|refine blk_drew ?_|refine blk_alloc ?_ _));exact BK189.out⟩, ⟨by (try simp only [hl18_6]);(with_reducible repeat (first|refine blk_drewN ?_ _|refine blk_drew ?_|refine blk_alloc ?_ _));exact BK221.out⟩, ⟨by exact HB.out⟩⟩
                     ·replace c142 := Bool.eq_false_iff.mpr c142
                      subst c142
                      have H1 : (bibelotref07_Components.l7 k6 l0 x5_1 (t190.length : Int) x10_5 x15_5 x17_5 y238 false (wrap64 (x20_6 + 1)) x222000_4 x222001_4 x222002_4 x222003_5) = some (r1, r2, r3, r4) := by rw [if_neg (show ¬ (false = true) by decide)] at H; exact H
                      clear H
                      have H := H1
                      clear H1
                      have H' := Aside0.mk H
                      clear H
                      have p239 : 0 ≤ (x20_6 : Int) := of_decide_eq_true (by first | (with_reducible assumption) | assumption)
                      have q239 : x20_6 < (y238.length : Int) := of_decide_eq_true (by first | (with_reducible assumption) | assumption)
                      obtain ⟨ad239, e239, hx239_0⟩ := Kd.at_bool (Kd.R_reads' HO_18.out).2.2 x20_6 p239 q239
                      (try rw [← Nbq127.out] at hx239_0)
                      (try rw [← Nbq141.out] at hx239_0)
                      obtain rfl : (⟨go131, 0, none⟩ : Addr) = ad239 := (by injection e239)
                      (first | simp only [add_plain] at hx239_0 | simp only [add_at] at hx239_0 | simp only [Addr.add, Nat.zero_add] at hx239_0 | skip)
                      replace p239 := eq_true p239
                      replace q239 := eq_true q239
                      go_wp2
                      (try simp only [← hl18_6])
                      go_roundg k6
                      case measure => have := HK1.out; have := HK2.out; have := HK3.out; have := HK4.out; have := HK5.out; have := HK6.out; omega
                      case rel => exact ⟨(false), (wrap64 (x20_6 + 1)), (by first|rfl|(simp;done)|(simp [*];done)), (by first|rfl|(simp;done)|(simp [*];done)), H', ⟨by have := HK1.out;have := HK2.out;have := HK3.out;have := HK4.out;have := HK5.out;have := HK6.out;omega⟩, ⟨by (try simp only [hl18_6]);(with_reducible repeat (first|apply Kd.R_alloc|apply Kd.R_drewN|apply Kd.R_drew));exact HO_5.out⟩, ⟨by (try simp only [hl18_6]);(with_reducible repeat (first|apply Kd.R_alloc|apply Kd.R_drewN|apply Kd.R_drew));exact HO_10.out⟩, ⟨by (try simp only [hl18_6]);(with_reducible repeat (first|apply Kd.R_alloc|apply Kd.R_drewN|apply Kd.R_drew));exact HO_15.out⟩, ⟨by (try simp only [hl18_6]);(with_reducible repeat (first|apply Kd.R_alloc|apply Kd.R_drewN|apply Kd.R_drew));exact HO_18.out⟩, ⟨by (try simp only [hl18_6]);(with_reducible repeat (first|refine blk_drewN ?_ _|refine blk_drew ?_|refine blk_alloc ?_ _));exact BK189.out⟩, ⟨by (try simp only [hl18_6]);(with_reducible repeat (first|refine blk_drewN ?_ _|refine blk_drew ?_|refine blk_alloc ?_ _));exact BK221.out⟩, ⟨by exact HB.out⟩⟩
                   ·rw [if_neg c137] at H
                    have c137b0 : decide (x20_6 < (t190.length : Int)) = false := decide_eq_false c137
                    clear c137
                    by_cases c149 : x222003_5 = true
                    ·subst c149
                     have H1 : (bibelotref07_Components.l6 k6 l0 x5_1 (t190.length : Int) x10_5 x15_5 (wrap64 (x17_5 + 1)) x222000_4 x222001_4 x222002_4 x19_6) = some (r1, r2, r3, r4) := by rw [if_pos rfl] at H; exact H
                     clear H
                     have H := H1
                     clear H1
                     have H' := Aside0.mk H
                     clear H
                     have hnb150 := NB221_189.out
                     have hnc150 := NB189_221.out
                     have hcz151_0 : wr.cell? ⟨gb221, 0, none⟩ = some (.int .i64 x222000_4) := (blk_cell BK221.out 0).trans rfl
                     have hcz151_1 : wr.cell? ⟨gb221, 1, none⟩ = some (.int .i64 x222001_4) := (blk_cell BK221.out 1).trans rfl
                     have hcz151_2 : wr.cell? ⟨gb221, 2, none⟩ = some (.int .i64 x222002_4) := (blk_cell BK221.out 2).trans rfl
                     have hcz151_3 : wr.cell? ⟨gb221, 3, none⟩ = some (.bool true) := (blk_cell BK221.out 3).trans rfl
                     have hfz151_0 := blk_frozen BK221.out 0
                     have hfz151_1 := blk_frozen BK221.out 1
                     have hfz151_2 := blk_frozen BK221.out 2
                     have hfz151_3 := blk_frozen BK221.out 3
                     go_wp2
                     (try simp only [← hl18_6])
                     go_roundg k6
                     case measure => have := HK1.out; have := HK2.out; have := HK3.out; have := HK4.out; have := HK5.out; have := HK6.out; omega
                     case rel => exact ⟨(x10_5), (x15_5), (wrap64 (x17_5 + 1)), (x19_6), (by first|rfl|(simp;done)|(simp [*];done)), H', ⟨by have := HK1.out;have := HK2.out;have := HK3.out;have := HK4.out;have := HK5.out;have := HK6.out;omega⟩, ⟨by (try simp only [hl18_6]);(with_reducible repeat (first|apply Kd.R_alloc|apply Kd.R_drewN|apply Kd.R_drew));exact Kd.R_mono (Kd.R_far (p := ⟨gb221, 3, none⟩) (Kd.R_types HO_5.out BK221.out (by decide)) (fun _ hk => by first|trivial|exact hk.2) (.bool x19_6)) (fun _ hk => by first|trivial|exact trivial)⟩, ⟨by (try simp only [hl18_6]);(with_reducible repeat (first|apply Kd.R_alloc|apply Kd.R_drewN|apply Kd.R_drew));exact Kd.R_mono (Kd.R_far (p := ⟨gb221, 3, none⟩) (Kd.R_types HO_10.out BK221.out (by decide)) (fun _ hk => by first|trivial|exact hk.2) (.bool x19_6)) (fun _ hk => by first|trivial|exact hk.1.1)⟩, ⟨by (try simp only [hl18_6]);(with_reducible repeat (first|apply Kd.R_alloc|apply Kd.R_drewN|apply Kd.R_drew));exact Kd.R_mono (Kd.R_far (p := ⟨gb221, 3, none⟩) (Kd.R_types HO_15.out BK221.out (by decide)) (fun _ hk => by first|trivial|exact hk.2) (.bool x19_6)) (fun _ hk => by first|trivial|exact hk.1.1)⟩, ⟨by (try simp only [hl18_6]);(with_reducible repeat (first|refine blk_drewN ?_ _|refine blk_drew ?_|refine blk_alloc ?_ _));refine blk_far ?_ NB189_221.out _;(with_reducible repeat (first|refine blk_drewN ?_ _|refine blk_drew ?_|refine blk_alloc ?_ _));exact BK189.out⟩, ⟨by (try simp only [hl18_6]);(with_reducible repeat (first|refine blk_drewN ?_ _|refine blk_drew ?_|refine blk_alloc ?_ _));refine blk_put (cs := #[.int .i64 x222000_4, .int .i64 x222001_4, .int .i64 x222002_4, .bool true]) ?_ 3 _ rfl;(with_reducible repeat (first|refine blk_drewN ?_ _|refine blk_drew ?_|refine blk_alloc ?_ _));exact BK221.out⟩, ⟨by repeat (first|(with_reducible first|exact HB.out|apply below_alloc|apply pw_below_drewN|apply below_drew1|refine below_set ?_ GE189.out|refine below_set ?_ GE221.out)|exact HB.out)⟩⟩
                    ·replace c149 := Bool.eq_false_iff.mpr c149
                     subst c149
                     have H1 : (bibelotref07_Components.l6 k6 l0 x5_1 (t190.length : Int) x10_5 x15_5 (wrap64 (x17_5 + 1)) x222000_4 x222001_4 x222002_4 false) = some (r1, r2, r3, r4) := by rw [if_neg (show ¬ (false = true) by decide)] at H; exact H
                     clear H
                     have H := H1
                     clear H1
                     have H' := Aside0.mk H
                     clear H
                     have hnb152 := NB221_189.out
                     have hnc152 := NB189_221.out
                     have hcz153_0 : wr.cell? ⟨gb221, 0, none⟩ = some (.int .i64 x222000_4) := (blk_cell BK221.out 0).trans rfl
                     have hcz153_1 : wr.cell? ⟨gb221, 1, none⟩ = some (.int .i64 x222001_4) := (blk_cell BK221.out 1).trans rfl
                     have hcz153_2 : wr.cell? ⟨gb221, 2, none⟩ = some (.int .i64 x222002_4) := (blk_cell BK221.out 2).trans rfl
                     have hcz153_3 : wr.cell? ⟨gb221, 3, none⟩ = some (.bool false) := (blk_cell BK221.out 3).trans rfl
                     have hfz153_0 := blk_frozen BK221.out 0
                     have hfz153_1 := blk_frozen BK221.out 1
                     have hfz153_2 := blk_frozen BK221.out 2
                     have hfz153_3 := blk_frozen BK221.out 3
                     go_wp2
                     (try simp only [← hl18_6])
                     go_roundg k6
                     case measure => have := HK1.out; have := HK2.out; have := HK3.out; have := HK4.out; have := HK5.out; have := HK6.out; omega
                     case rel => exact ⟨(x10_5), (x15_5), (wrap64 (x17_5 + 1)), (false), (by first|rfl|(simp;done)|(simp [*];done)), H', ⟨by have := HK1.out;have := HK2.out;have := HK3.out;have := HK4.out;have := HK5.out;have := HK6.out;omega⟩, ⟨by (try simp only [hl18_6]);(with_reducible repeat (first|apply Kd.R_alloc|apply Kd.R_drewN|apply Kd.R_drew));exact Kd.R_mono (Kd.R_far (p := ⟨gb221, 3, none⟩) (Kd.R_types HO_5.out BK221.out (by decide)) (fun _ hk => by first|trivial|exact hk.2) (.bool false)) (fun _ hk => by first|trivial|exact trivial)⟩, ⟨by (try simp only [hl18_6]);(with_reducible repeat (first|apply Kd.R_alloc|apply Kd.R_drewN|apply Kd.R_drew));exact Kd.R_mono (Kd.R_far (p := ⟨gb221, 3, none⟩) (Kd.R_types HO_10.out BK221.out (by decide)) (fun _ hk => by first|trivial|exact hk.2) (.bool false)) (fun _ hk => by first|trivial|exact hk.1.1)⟩, ⟨by (try simp only [hl18_6]);(with_reducible repeat (first|apply Kd.R_alloc|apply Kd.R_drewN|apply Kd.R_drew));exact Kd.R_mono (Kd.R_far (p := ⟨gb221, 3, none⟩) (Kd.R_types HO_15.out BK221.out (by decide)) (fun _ hk => by first|trivial|exact hk.2) (.bool false)) (fun _ hk => by first|trivial|exact hk.1.1)⟩, ⟨by (try simp only [hl18_6]);(with_reducible repeat (first|refine blk_drewN ?_ _|refine blk_drew ?_|refine blk_alloc ?_ _));refine blk_far ?_ NB189_221.out _;(with_reducible repeat (first|refine blk_drewN ?_ _|refine blk_drew ?_|refine blk_alloc ?_ _));exact BK189.out⟩, ⟨by (try simp only [hl18_6]);(with_reducible repeat (first|refine blk_drewN ?_ _|refine blk_drew ?_|refine blk_alloc ?_ _));refine blk_put (cs := #[.int .i64 x222000_4, .int .i64 x222001_4, .int .i64 x222002_4, .bool false]) ?_ 3 _ rfl;(with_reducible repeat (first|refine blk_drewN ?_ _|refine blk_drew ?_|refine blk_alloc ?_ _));exact BK221.out⟩, ⟨by repeat (first|(with_reducible first|exact HB.out|apply below_alloc|apply pw_below_drewN|apply below_drew1|refine below_set ?_ GE189.out|refine below_set ?_ GE221.out)|exact HB.out)⟩⟩
                ·replace c128 := Bool.eq_false_iff.mpr c128
                 subst c128
                 have H1 : (bibelotref07_Components.l6 k5 l0 x5_1 (t190.length : Int) x10_5 x15_5 (wrap64 (x17_5 + 1)) x222000_4 x222001_4 x222002_4 x222003_5) = some (r1, r2, r3, r4) := by rw [if_neg (show ¬ (false = true) by decide)] at H; exact H
                 clear H
                 have H := H1
                 clear H1
                 have H' := Aside0.mk H
                 clear H
                 obtain ⟨Ao154, co154, eo154⟩ := Kd.R_slice HO_15.out
                 subst eo154
                 have p234 : 0 ≤ (x17_5 : Int) := of_decide_eq_true (by first | (with_reducible assumption) | assumption)
                 have q234 : x17_5 < (x15_5.length : Int) := of_decide_eq_true (by first | (with_reducible assumption) | assumption)
                 obtain ⟨ad234, e234, hx234_0⟩ := Kd.at_bool (Kd.R_reads' HO_15.out).2.2 x17_5 p234 q234
                 (try rw [← Nbq127.out] at hx234_0)
                 cases e234
                 replace p234 := eq_true p234
                 replace q234 := eq_true q234
                 go_wp2
                 go_roundg k5
                 case measure => have := HK1.out; have := HK2.out; have := HK3.out; have := HK4.out; have := HK5.out; omega
                 case rel => exact ⟨(x10_5), (x15_5), (wrap64 (x17_5 + 1)), (x222003_5), (by first | rfl | (simp; done) | (simp [*]; done)), H', ⟨by have := HK1.out; have := HK2.out; have := HK3.out; have := HK4.out; have := HK5.out; omega⟩, ⟨by exact HO_5.out⟩, ⟨by exact HO_10.out⟩, ⟨by exact HO_15.out⟩, ⟨by exact BK189.out⟩, ⟨by exact BK221.out⟩, ⟨by exact HB.out⟩⟩
               ·rw [if_neg c124] at H
                have c124b0 : decide (x17_5 < (t190.length : Int)) = false := decide_eq_false c124
                clear c124
                simp only [Option.some.injEq, Prod.mk.injEq] at H
                obtain ⟨rfl, rfl, rfl, rfl⟩ := H
                have hnb155 := NB221_189.out
                have hnc155 := NB189_221.out
                have hcz156_0 : wr.cell? ⟨gb221, 0, none⟩ = some (.int .i64 x222000_4) := (blk_cell BK221.out 0).trans rfl
                have hcz156_1 : wr.cell? ⟨gb221, 1, none⟩ = some (.int .i64 x222001_4) := (blk_cell BK221.out 1).trans rfl
                have hcz156_2 : wr.cell? ⟨gb221, 2, none⟩ = some (.int .i64 x222002_4) := (blk_cell BK221.out 2).trans rfl
                have hcz156_3 : wr.cell? ⟨gb221, 3, none⟩ = some (.bool x222003_5) := (blk_cell BK221.out 3).trans rfl
                have hfz156_0 := blk_frozen BK221.out 0
                have hfz156_1 := blk_frozen BK221.out 1
                have hfz156_2 := blk_frozen BK221.out 2
                have hfz156_3 := blk_frozen BK221.out 3
                have hcz157_0 : wr.cell? ⟨gb189, 0, none⟩ = some (.int .i64 0) := (blk_cell BK189.out 0).trans rfl
                have hcz157_1 : wr.cell? ⟨gb189, 1, none⟩ = some (.int .i64 0) := (blk_cell BK189.out 1).trans rfl
                have hcz157_2 : wr.cell? ⟨gb189, 2, none⟩ = some (.int .i64 0) := (blk_cell BK189.out 2).trans rfl
                have hcz157_3 : wr.cell? ⟨gb189, 3, none⟩ = some (.bool false) := (blk_cell BK189.out 3).trans rfl
                have hfz157_0 := blk_frozen BK189.out 0
                have hfz157_1 := blk_frozen BK189.out 1
                have hfz157_2 := blk_frozen BK189.out 2
                have hfz157_3 := blk_frozen BK189.out 3
                go_wp2
                refine bodyPost_ret (results_cell_row rfl _ _ gb189 31 #[.int .i64 x222000_4, .int .i64 x222001_4, .int .i64 x222002_4, .bool x222003_5] (0, 0) _ rfl (by (with_reducible repeat (first|refine blk_drewN ?_ _|refine blk_drew ?_|refine blk_alloc ?_ _));refine blk_put (cs := #[.int .i64 x222000_4, .int .i64 x222001_4, .int .i64 x222002_4, .bool false]) ?_ 3 _ rfl;(with_reducible repeat (first|refine blk_drewN ?_ _|refine blk_drew ?_|refine blk_alloc ?_ _));refine blk_put (cs := #[.int .i64 x222000_4, .int .i64 x222001_4, .int .i64 0, .bool false]) ?_ 2 _ rfl;(with_reducible repeat (first|refine blk_drewN ?_ _|refine blk_drew ?_|refine blk_alloc ?_ _));refine blk_put (cs := #[.int .i64 x222000_4, .int .i64 0, .int .i64 0, .bool false]) ?_ 1 _ rfl;(with_reducible repeat (first|refine blk_drewN ?_ _|refine blk_drew ?_|refine blk_alloc ?_ _));refine blk_put (cs := #[.int .i64 0, .int .i64 0, .int .i64 0, .bool false]) ?_ 0 _ rfl;(with_reducible repeat (first|refine blk_drewN ?_ _|refine blk_drew ?_|refine blk_alloc ?_ _));exact BK189.out) Try.underlying31 rfl (by kernel_rfl)) rfl ?_
                exact ⟨by first | rfl | (simp [errW_none, errW_some] <;> rfl) | (simp [*, errW_none, errW_some] <;> rfl), by repeat (first | (with_reducible first | exact HB.out | apply below_alloc | apply pw_below_drewN | apply below_drew1 | refine below_set ?_ GE189.out | refine below_set ?_ GE221.out) | exact HB.out)⟩
end Go.Proofs.Ytepjhdblmghckaa.Q
