/- PancakeOwn: results are new memory, and no function changes its arguments: the walk and the plain law, for every input. -/
import Derived.Test.YtepjhdblmghckaaA1
import Derived.Test.YtepjhdblmghckaaA2
import Derived.Test.YtepjhdblmghckaaC1
import Derived.Test.YtepjhdblmghckaaV2
namespace Go.Proofs.Ytepjhdblmghckaa.G
end Go.Proofs.Ytepjhdblmghckaa.G
namespace Go.Proofs.Ytepjhdblmghckaa.Q
set_option linter.unusedVariables false
set_option linter.unusedSimpArgs false
set_option linter.unusedSectionVars false
open Go.Proofs.Ytepjhdblmghckaa.G
open Go.RowKit Go.Proofs.YtepjhdblmghckaaW.PrintWords Go.Proofs.YtepjhdblmghckaaW.PrintLast Go.Proofs.YtepjhdblmghckaaW.PrintMore
attribute [local go_sem] max2_int min2_int max_two min_two max_three min_three max_four min_four   -- for this text's walks alone

/-! ### bibelotref07_Picture: function 38 -/
def bibelotref07_Picture.l0 : Nat → List Int → List Int → Int → Option (List Int)
 | 0, _, _, _ => none
 | k + 1, x0, x3, x4 => if x4 < (x0.length : Int) then (if 0 ≤ x4 then ((bibelotref07_Abs.f (rd x0 x4)).bind fun t105 => (if (rd x0 x4) > 0 then ((some (([wrap64 ((wrap64 (2 * t105)) - 1), wrap64 (2 * t105)] : List Int) : List Int)).bind fun y107 => (if x3.length + y107.length < 17592186044416 then (bibelotref07_Picture.l0 k x0 (x3 ++ y107) (wrap64 (x4 + 1))) else (none))) else ((some (([wrap64 (2 * t105), wrap64 ((wrap64 (2 * t105)) - 1)] : List Int) : List Int)).bind fun y113 => (if x3.length + y113.length < 17592186044416 then (bibelotref07_Picture.l0 k x0 (x3 ++ y113) (wrap64 (x4 + 1))) else (none))))) else (none)) else (if x3.length < 17592186044416 then (some (x3 ++ [wrap64 ((wrap64 (2 * (x0.length : Int))) + 1)])) else (none))
def bibelotref07_Picture.f (k : Nat) (l0 : List Int) : Option (List Int) := bibelotref07_Picture.l0 k l0 (([0] : List Int)) 0
theorem bibelotref07_Picture.mono_l : ∀ k, (∀ y0 y1 y2, LeO (bibelotref07_Picture.l0 k y0 y1 y2) (bibelotref07_Picture.l0 (k + 1) y0 y1 y2))
 | 0 => fun _ _ _ r h => by simp [bibelotref07_Picture.l0] at h
 | k + 1 => by
  have ih0 := bibelotref07_Picture.mono_l k
  ·intro y0 y1 y2
   unfold bibelotref07_Picture.l0
   repeat' first
   | (with_reducible exact ih0 _ _ _)
   | (with_reducible exact LeO.refl _)
   | (with_reducible exact LeO.none _)
   | (with_reducible refine LeO.ite ?_ ?_)
   | (with_reducible refine LeO.bind ?_ (fun _ => ?_))
   | exact ih0 _ _ _
   | exact LeO.none _
   | refine LeO.ite ?_ ?_
   | refine LeO.bind ?_ (fun _ => ?_)
theorem bibelotref07_Picture.mono : ∀ a0 k, LeO (bibelotref07_Picture.f k a0) (bibelotref07_Picture.f (k + 1) a0) := by
 intro a0 k
 have ih0 := bibelotref07_Picture.mono_l k
 unfold bibelotref07_Picture.f
 repeat' first
   | (with_reducible exact ih0 _ _ _)
   | (with_reducible exact LeO.refl _)
   | (with_reducible exact LeO.none _)
   | (with_reducible refine LeO.ite ?_ ?_)
   | (with_reducible refine LeO.bind ?_ (fun _ => ?_))
   | exact ih0 _ _ _
   | exact LeO.none _
   | refine LeO.ite ?_ ?_
   | refine LeO.bind ?_ (fun _ => ?_)
set_option maxHeartbeats 8000000 in
set_option maxRecDepth 100000 in
theorem bibelotref07_Picture.calls (k : Nat) (A0 : Option Addr) (c0 : Nat) (l0 : List Int) (r : List Int) (w : World) (hr0 : Kd.C (Kd.int .i64) w A0 l0.length l0) (hc0 : l0.length ≤ c0) (h : bibelotref07_Picture.f k l0 = some r) :
  Calls Try.prog 38 #[.slice A0 l0.length c0] w fun e w' => ∃ v0_ : Value, e = .returned (v0_) ∧ Kd.R (Kd.int .i64) 3 w' w.heap.size (fun _ => True) v0_ r ∧ Below w.heap.size w w' := by
 have HR0 := Aside0.mk hr0
 have HC0 := Aside0.mk hc0
 clear hr0 hc0
 have HB := Aside0.mk (Below.refl w.heap.size w)
 have H : (bibelotref07_Picture.l0 k l0 (([0] : List Int)) 0) = some r := h
 clear h
 obtain ⟨y101, hy101⟩ : ∃ y_ : List Int, y_ = (([0] : List Int)) := ⟨_, rfl⟩
 replace H : (bibelotref07_Picture.l0 k l0 y101 0) = some r := by first | (rw [hy101]; with_reducible exact H) | (have H2_ := (Option.bind_some _ _).symm.trans H; rw [hy101]; with_reducible exact H2_) | (have H2_ := (Option.bind_some _ _).symm.trans H; with_reducible exact H2_) | with_reducible exact H | (rw [hy101]; exact H) | exact H
 have Ny101 := Aside0.mk hy101
 clear hy101
 have H' := Aside0.mk H
 clear H
 go_enter Try.func38, Try.ntmps38
 go_wp2_with (first|((with_reducible refine gate_dst (N := 6) rfl ?_);refine Kd.R_lit (Kd.int .i64) _ 3 ?hg (N := 6) ?hd (xs := ([0] : List Int)) (inner := [.int .i64 0]) (ok := fun _ => True) (okp := fun _ => True) ?hr ?hp (fun _ hk => hk) trivial (Below.refl _ _) (Nat.le_refl _) (by simp) ?_;(case hd => rfl);(case hg => rfl);(case hr => first|(go_simp;done)|(go_simp;rfl));(case hp => exact (Reps.one (show Kd.M (Kd.int .i64) _ _ _ 0 [.int .i64 0] from rfl) (Reps.none _ _)));intro v102 w2 ho3 hb hg_ hnew_;clear hg_ hnew_;(first|rw [← Ny101.out] at ho3|(simp only [Int.reduceToNat] at ho3;rw [← Ny101.out] at ho3));have n0_ := Aside0.mk (Kd.R_lower ho3 (below_size (by repeat (first|(with_reducible first|exact HB.out|apply below_alloc|apply pw_below_drewN|apply below_drew1)|exact HB.out))));have n1_ := Aside0.mk (below_step (by repeat (first|(with_reducible first|exact HB.out|apply below_alloc|apply pw_below_drewN|apply below_drew1)|exact HB.out)) hb);clear HB;have HO103 := n0_;have HB := n1_;clear n0_ n1_;clear hb ho3))
 go_loopg [3, 4] k (fun kq v3 v4 w' => ∃ (x3_1 : List Int) (x4_1 : Int), v4 = .int .i64 x4_1 ∧ Aside0 (bibelotref07_Picture.l0 kq l0 x3_1 x4_1 = some r) ∧ Aside0 (kq ≤ k) ∧ Aside0 (Kd.R (Kd.int .i64) 3 w' w.heap.size (fun _ => True) v3 x3_1) ∧ Aside0 (Below w.heap.size w w'))
 case atStart => exact ⟨(y101), (0), (by first | rfl | (simp; done) | (simp [*]; done)), H', ⟨Nat.le_refl _⟩, ⟨by (with_reducible repeat (first | apply Kd.R_alloc | apply Kd.R_drewN | apply Kd.R_drew)); exact HO103.out⟩, ⟨by repeat (first | (with_reducible first | exact HB.out | apply below_alloc | apply pw_below_drewN | apply below_drew1) | exact HB.out)⟩⟩
 case round =>
  clear H'
  try clear p2
  try clear c3
  obtain ⟨x3_1, x4_1, rfl, HA, HK1, HO_3, HB⟩ := hrel
  cases gk with
  | zero => exact absurd HA.out (by simp [bibelotref07_Picture.l0])
  | succ k1 =>
   have H := HA.out
   clear HA
   simp only [bibelotref07_Picture.l0] at H
   by_cases c4 : x4_1 < (l0.length : Int)
   ·rw [if_pos c4] at H
    have c4b0 : decide (x4_1 < (l0.length : Int)) = true := decide_eq_true c4
    clear c4
    by_cases c5 : 0 ≤ x4_1
    ·rw [if_pos c5] at H
     have c5b0 : decide (0 ≤ x4_1) = true := decide_eq_true c5
     clear c5
     replace H := Option.bind_eq_some_iff.mp H
     obtain ⟨t105, A60, H⟩ := H
     replace H : (if (rd l0 x4_1) > 0 then ((some (([wrap64 ((wrap64 (2 * t105)) - 1), wrap64 (2 * t105)] : List Int) : List Int)).bind fun y107 => (if x3_1.length + y107.length < 17592186044416 then (bibelotref07_Picture.l0 k1 l0 (x3_1 ++ y107) (wrap64 (x4_1 + 1))) else (none))) else ((some (([wrap64 (2 * t105), wrap64 ((wrap64 (2 * t105)) - 1)] : List Int) : List Int)).bind fun y113 => (if x3_1.length + y113.length < 17592186044416 then (bibelotref07_Picture.l0 k1 l0 (x3_1 ++ y113) (wrap64 (x4_1 + 1))) else (none)))) = some r := H
     have A6 := Aside0.mk A60
     clear A60
     by_cases c7 : (rd l0 x4_1) > 0
     ·rw [if_pos c7] at H
      have c7b0 : decide (0 < (rd l0 x4_1)) = true := decide_eq_true c7
      clear c7
      obtain ⟨y107, hy107⟩ : ∃ y_ : List Int, y_ = (([wrap64 ((wrap64 (2 * t105)) - 1), wrap64 (2 * t105)] : List Int)) := ⟨_, rfl⟩
      replace H : (if x3_1.length + y107.length < 17592186044416 then (bibelotref07_Picture.l0 k1 l0 (x3_1 ++ y107) (wrap64 (x4_1 + 1))) else (none)) = some r := by first | (rw [hy107]; with_reducible exact H) | (have H2_ := (Option.bind_some _ _).symm.trans H; rw [hy107]; with_reducible exact H2_) | (have H2_ := (Option.bind_some _ _).symm.trans H; with_reducible exact H2_) | with_reducible exact H | (rw [hy107]; exact H) | exact H
      have Ny107 := Aside0.mk hy107
      clear hy107
      by_cases c8 : x3_1.length + y107.length < 17592186044416
      ·rw [if_pos c8] at H
       have LMc8 := Aside0.mk c8
       clear c8
       obtain ⟨y110, hy110⟩ : ∃ y_ : List Int, y_ = (x3_1 ++ y107) := ⟨_, rfl⟩
       replace H : (bibelotref07_Picture.l0 k1 l0 y110 (wrap64 (x4_1 + 1))) = some r := by first | (rw [hy110]; with_reducible exact H) | (have H2_ := (Option.bind_some _ _).symm.trans H; rw [hy110]; with_reducible exact H2_) | (have H2_ := (Option.bind_some _ _).symm.trans H; with_reducible exact H2_) | with_reducible exact H | (rw [hy110]; exact H) | exact H
       have Ny110 := Aside0.mk hy110
       clear hy110
       have H' := Aside0.mk H
       clear H
       have p104 : 0 ≤ (x4_1 : Int) := of_decide_eq_true (by first | (with_reducible assumption) | assumption)
       have q104 : x4_1 < (l0.length : Int) := of_decide_eq_true (by first | (with_reducible assumption) | assumption)
       obtain ⟨ad104, e104, hx104_0⟩ := Kd.at_int HR0.out x4_1 p104 q104
       cases e104
       replace hx104_0 := (HB.out.cell (World.block_lt_of_cell? w _ hx104_0)).trans hx104_0
       replace p104 := eq_true p104
       replace q104 := eq_true q104
       go_wp2_with (first|((with_reducible refine gate_callee (f := 40) rfl ?_);refine goesL_ (some 17) rfl rfl Try.func40 (by kernel_rfl) rfl #[.int .i64 (rd l0 x4_1)] rfl (by (try simp only [List.map_toArray, List.map_cons, List.map_nil]);first|done|rfl|(simp only [List.length_drop, List.length_take];rfl)) ?_;(with_reducible refine (bibelotref07_Abs.calls (rd l0 x4_1) t105 _ A6.out).mono ?_);rintro e w9 ⟨rfl, hb⟩;refine ⟨_, rfl, ?_⟩;have n0_ := Aside0.mk (Kd.R_below (by (with_reducible repeat (first|apply Kd.R_alloc|apply Kd.R_drewN|apply Kd.R_drew));exact HO_3.out) hb);have n1_ := Aside0.mk (below_step (by repeat (first|(with_reducible first|exact HB.out|apply below_alloc|apply pw_below_drewN|apply below_drew1)|exact HB.out)) hb);clear HO_3;clear HB;have HO_3 := n0_;have HB := n1_;clear n0_ n1_;(try clear hb);(try clear hb2);(try clear hk);(try clear hi);have p106 : 0 ≤ (x4_1 : Int) := of_decide_eq_true (by first|(with_reducible assumption)|assumption);have q106 : x4_1 < (l0.length : Int) := of_decide_eq_true (by first|(with_reducible assumption)|assumption);obtain ⟨ad106, e106, hx106_0⟩ := Kd.at_int HR0.out x4_1 p106 q106;obtain rfl : ad104 = ad106 := (by injection e106);replace hx106_0 := (HB.out.cell (World.block_lt_of_cell? w _ hx106_0)).trans hx106_0;replace p106 := eq_true p106;replace q106 := eq_true q106)|((with_reducible refine gate_dst (N := 29) rfl ?_);refine Kd.R_lit (Kd.int .i64) _ 3 ?hg (N := 29) ?hd (xs := ([wrap64 ((wrap64 (2 * t105)) - 1), wrap64 (2 * t105)] : List Int)) (inner := [.int .i64 (wrap64 ((wrap64 (2 * t105)) - 1)), .int .i64 (wrap64 (2 * t105))]) (ok := fun _ => True) (okp := fun _ => True) ?hr ?hp (fun _ hk => hk) trivial (Below.refl _ _) (Nat.le_refl _) (by simp) ?_;(case hd => rfl);(case hg => rfl);(case hr => first|(go_simp;done)|(go_simp;rfl));(case hp => exact (Reps.one (show Kd.M (Kd.int .i64) _ _ _ (wrap64 ((wrap64 (2 * t105)) - 1)) [.int .i64 (wrap64 ((wrap64 (2 * t105)) - 1))] from rfl) (Reps.one (show Kd.M (Kd.int .i64) _ _ _ (wrap64 (2 * t105)) [.int .i64 (wrap64 (2 * t105))] from rfl) (Reps.none _ _))));intro v108 w10 ho11 hb hg_ hnew_;clear hg_ hnew_;(first|rw [← Ny107.out] at ho11|(simp only [Int.reduceToNat] at ho11;rw [← Ny107.out] at ho11));have n0_ := Aside0.mk (Kd.R_elder' (by (with_reducible repeat (first|apply Kd.R_alloc|apply Kd.R_drewN|apply Kd.R_drew));exact HO_3.out) (Kd.R_base ho11) hb);have n1_ := Aside0.mk (Kd.R_lower (Kd.R_new' ho11 (Kd.R_lt (by (with_reducible repeat (first|apply Kd.R_alloc|apply Kd.R_drewN|apply Kd.R_drew));exact HO_3.out))) (below_size (by repeat (first|(with_reducible first|exact HB.out|apply below_alloc|apply pw_below_drewN|apply below_drew1)|exact HB.out))));have n2_ := Aside0.mk (below_step (by repeat (first|(with_reducible first|exact HB.out|apply below_alloc|apply pw_below_drewN|apply below_drew1)|exact HB.out)) hb);clear HO_3;clear HB;have HO_3 := n0_;have HO109 := n1_;have HB := n2_;clear n0_ n1_ n2_;clear hb ho11;obtain ⟨Ao13, co13, eo13⟩ := Kd.R_slice HO109.out;subst eo13)|((with_reducible refine gate_builtin (b := .append) (xs := #[.tmp 23, .tmp 29]) rfl ?_);at_builtin;refine Kd.R_append_rows (Kd.int .i64) (w0 := w) w.heap.size rfl (.tmp 23) (.tmp 29) 22 3 (.int .i64 0) 8 rfl Try.underlying22 info3 rfl (by decide) (by omega) u3 x3_1 y107 _ _ _ (fun k_ => some k_ ≠ (.slice Ao13 y107.length co13 : Value).ownBlock) (fun _ => False) rfl rfl ?aO ?aR (fun _ _ h => h) (fun _ h => h.elim) ?aF ?aB ?aS ?aL ?_;(case aR => repeat (first|exact (Kd.R_reads' HO109.out).2.2|(with_reducible refine Kd.C_alloc ?_ _)|(with_reducible refine Kd.C_drewN ?_ _)|(with_reducible refine Kd.C_drew ?_)));(case aB => exact (by repeat (first|(with_reducible first|exact HB.out|apply below_alloc|apply pw_below_drewN|apply below_drew1)|exact HB.out)));(case aF => exact (fun k_ hk => Kd.fresh' (Kd.R_lt (by (with_reducible repeat (first|apply Kd.R_alloc|apply Kd.R_drewN|apply Kd.R_drew));exact HO109.out)) k_ hk));(case aO => exact (by (with_reducible repeat (first|apply Kd.R_alloc|apply Kd.R_drewN|apply Kd.R_drew));exact Kd.R_mono HO_3.out (fun _ hk => hk.2)));(case aS => exact (below_size (by repeat (first|(with_reducible first|exact HB.out|apply below_alloc|apply pw_below_drewN|apply below_drew1)|exact HB.out))));(case aL => have := LMc8.out;omega);intro v111 w12 ho hb hg hat;rw [← Ny110.out] at ho;have n0_ := Aside0.mk (Kd.R_after (ok := (fun _ => True)) (by (with_reducible repeat (first|apply Kd.R_alloc|apply Kd.R_drewN|apply Kd.R_drew));exact HO109.out) hg hat);have n1_ := Aside0.mk (hb);have n2_ := Aside0.mk (ho);clear HO109;clear HB;clear HO_3;have HO109 := n0_;have HB := n1_;have HO112 := n2_;clear n0_ n1_ n2_;clear ho hb hg hat))
       go_roundg k1
       case measure => have := HK1.out; omega
       case rel => exact ⟨(y110), (wrap64 (x4_1 + 1)), (by first | rfl | (simp; done) | (simp [*]; done)), H', ⟨by have := HK1.out; omega⟩, ⟨by (with_reducible repeat (first | apply Kd.R_alloc | apply Kd.R_drewN | apply Kd.R_drew)); exact Kd.R_mono HO112.out (fun _ hk => trivial)⟩, ⟨by repeat (first | (with_reducible first | exact HB.out | apply below_alloc | apply pw_below_drewN | apply below_drew1) | exact HB.out)⟩⟩
      ·rw [if_neg c8] at H
       exact absurd H (by simp)
     ·rw [if_neg c7] at H
      have c7b0 : decide (0 < (rd l0 x4_1)) = false := decide_eq_false c7
      clear c7
      obtain ⟨y113, hy113⟩ : ∃ y_ : List Int, y_ = (([wrap64 (2 * t105), wrap64 ((wrap64 (2 * t105)) - 1)] : List Int)) := ⟨_, rfl⟩
      replace H : (if x3_1.length + y113.length < 17592186044416 then (bibelotref07_Picture.l0 k1 l0 (x3_1 ++ y113) (wrap64 (x4_1 + 1))) else (none)) = some r := by first | (rw [hy113]; with_reducible exact H) | (have H2_ := (Option.bind_some _ _).symm.trans H; rw [hy113]; with_reducible exact H2_) | (have H2_ := (Option.bind_some _ _).symm.trans H; with_reducible exact H2_) | with_reducible exact H | (rw [hy113]; exact H) | exact H
      have Ny113 := Aside0.mk hy113
      clear hy113
      by_cases c14 : x3_1.length + y113.length < 17592186044416
      ·rw [if_pos c14] at H
       have LMc14 := Aside0.mk c14
       clear c14
       obtain ⟨y116, hy116⟩ : ∃ y_ : List Int, y_ = (x3_1 ++ y113) := ⟨_, rfl⟩
       replace H : (bibelotref07_Picture.l0 k1 l0 y116 (wrap64 (x4_1 + 1))) = some r := by first | (rw [hy116]; with_reducible exact H) | (have H2_ := (Option.bind_some _ _).symm.trans H; rw [hy116]; with_reducible exact H2_) | (have H2_ := (Option.bind_some _ _).symm.trans H; with_reducible exact H2_) | with_reducible exact H | (rw [hy116]; exact H) | exact H
       have Ny116 := Aside0.mk hy116
       clear hy116
       have H' := Aside0.mk H
       clear H
       have p104 : 0 ≤ (x4_1 : Int) := of_decide_eq_true (by first | (with_reducible assumption) | assumption)
       have q104 : x4_1 < (l0.length : Int) := of_decide_eq_true (by first | (with_reducible assumption) | assumption)
       obtain ⟨ad104, e104, hx104_0⟩ := Kd.at_int HR0.out x4_1 p104 q104
       cases e104
       replace hx104_0 := (HB.out.cell (World.block_lt_of_cell? w _ hx104_0)).trans hx104_0
       replace p104 := eq_true p104
       replace q104 := eq_true q104
       go_wp2_with (first|((with_reducible refine gate_callee (f := 40) rfl ?_);refine goesL_ (some 17) rfl rfl Try.func40 (by kernel_rfl) rfl #[.int .i64 (rd l0 x4_1)] rfl (by (try simp only [List.map_toArray, List.map_cons, List.map_nil]);first|done|rfl|(simp only [List.length_drop, List.length_take];rfl)) ?_;(with_reducible refine (bibelotref07_Abs.calls (rd l0 x4_1) t105 _ A6.out).mono ?_);rintro e w15 ⟨rfl, hb⟩;refine ⟨_, rfl, ?_⟩;have n0_ := Aside0.mk (Kd.R_below (by (with_reducible repeat (first|apply Kd.R_alloc|apply Kd.R_drewN|apply Kd.R_drew));exact HO_3.out) hb);have n1_ := Aside0.mk (below_step (by repeat (first|(with_reducible first|exact HB.out|apply below_alloc|apply pw_below_drewN|apply below_drew1)|exact HB.out)) hb);clear HO_3;clear HB;have HO_3 := n0_;have HB := n1_;clear n0_ n1_;(try clear hb);(try clear hb2);(try clear hk);(try clear hi);have p106 : 0 ≤ (x4_1 : Int) := of_decide_eq_true (by first|(with_reducible assumption)|assumption);have q106 : x4_1 < (l0.length : Int) := of_decide_eq_true (by first|(with_reducible assumption)|assumption);obtain ⟨ad106, e106, hx106_0⟩ := Kd.at_int HR0.out x4_1 p106 q106;obtain rfl : ad104 = ad106 := (by injection e106);replace hx106_0 := (HB.out.cell (World.block_lt_of_cell? w _ hx106_0)).trans hx106_0;replace p106 := eq_true p106;replace q106 := eq_true q106)|((with_reducible refine gate_dst (N := 37) rfl ?_);refine Kd.R_lit (Kd.int .i64) _ 3 ?hg (N := 37) ?hd (xs := ([wrap64 (2 * t105), wrap64 ((wrap64 (2 * t105)) - 1)] : List Int)) (inner := [.int .i64 (wrap64 (2 * t105)), .int .i64 (wrap64 ((wrap64 (2 * t105)) - 1))]) (ok := fun _ => True) (okp := fun _ => True) ?hr ?hp (fun _ hk => hk) trivial (Below.refl _ _) (Nat.le_refl _) (by simp) ?_;(case hd => rfl);(case hg => rfl);(case hr => first|(go_simp;done)|(go_simp;rfl));(case hp => exact (Reps.one (show Kd.M (Kd.int .i64) _ _ _ (wrap64 (2 * t105)) [.int .i64 (wrap64 (2 * t105))] from rfl) (Reps.one (show Kd.M (Kd.int .i64) _ _ _ (wrap64 ((wrap64 (2 * t105)) - 1)) [.int .i64 (wrap64 ((wrap64 (2 * t105)) - 1))] from rfl) (Reps.none _ _))));intro v114 w16 ho17 hb hg_ hnew_;clear hg_ hnew_;(first|rw [← Ny113.out] at ho17|(simp only [Int.reduceToNat] at ho17;rw [← Ny113.out] at ho17));have n0_ := Aside0.mk (Kd.R_elder' (by (with_reducible repeat (first|apply Kd.R_alloc|apply Kd.R_drewN|apply Kd.R_drew));exact HO_3.out) (Kd.R_base ho17) hb);have n1_ := Aside0.mk (Kd.R_lower (Kd.R_new' ho17 (Kd.R_lt (by (with_reducible repeat (first|apply Kd.R_alloc|apply Kd.R_drewN|apply Kd.R_drew));exact HO_3.out))) (below_size (by repeat (first|(with_reducible first|exact HB.out|apply below_alloc|apply pw_below_drewN|apply below_drew1)|exact HB.out))));have n2_ := Aside0.mk (below_step (by repeat (first|(with_reducible first|exact HB.out|apply below_alloc|apply pw_below_drewN|apply below_drew1)|exact HB.out)) hb);clear HO_3;clear HB;have HO_3 := n0_;have HO115 := n1_;have HB := n2_;clear n0_ n1_ n2_;clear hb ho17;obtain ⟨Ao19, co19, eo19⟩ := Kd.R_slice HO115.out;subst eo19)|((with_reducible refine gate_builtin (b := .append) (xs := #[.tmp 31, .tmp 37]) rfl ?_);at_builtin;refine Kd.R_append_rows (Kd.int .i64) (w0 := w) w.heap.size rfl (.tmp 31) (.tmp 37) 22 3 (.int .i64 0) 8 rfl Try.underlying22 info3 rfl (by decide) (by omega) u3 x3_1 y113 _ _ _ (fun k_ => some k_ ≠ (.slice Ao19 y113.length co19 : Value).ownBlock) (fun _ => False) rfl rfl ?aO ?aR (fun _ _ h => h) (fun _ h => h.elim) ?aF ?aB ?aS ?aL ?_;(case aR => repeat (first|exact (Kd.R_reads' HO115.out).2.2|(with_reducible refine Kd.C_alloc ?_ _)|(with_reducible refine Kd.C_drewN ?_ _)|(with_reducible refine Kd.C_drew ?_)));(case aB => exact (by repeat (first|(with_reducible first|exact HB.out|apply below_alloc|apply pw_below_drewN|apply below_drew1)|exact HB.out)));(case aF => exact (fun k_ hk => Kd.fresh' (Kd.R_lt (by (with_reducible repeat (first|apply Kd.R_alloc|apply Kd.R_drewN|apply Kd.R_drew));exact HO115.out)) k_ hk));(case aO => exact (by (with_reducible repeat (first|apply Kd.R_alloc|apply Kd.R_drewN|apply Kd.R_drew));exact Kd.R_mono HO_3.out (fun _ hk => hk.2)));(case aS => exact (below_size (by repeat (first|(with_reducible first|exact HB.out|apply below_alloc|apply pw_below_drewN|apply below_drew1)|exact HB.out))));(case aL => have := LMc14.out;omega);intro v117 w18 ho hb hg hat;rw [← Ny116.out] at ho;have n0_ := Aside0.mk (Kd.R_after (ok := (fun _ => True)) (by (with_reducible repeat (first|apply Kd.R_alloc|apply Kd.R_drewN|apply Kd.R_drew));exact HO115.out) hg hat);have n1_ := Aside0.mk (hb);have n2_ := Aside0.mk (ho);clear HO115;clear HB;clear HO_3;have HO115 := n0_;have HB := n1_;have HO118 := n2_;clear n0_ n1_ n2_;clear ho hb hg hat))
       go_roundg k1
       case measure => have := HK1.out; omega
       case rel => exact ⟨(y116), (wrap64 (x4_1 + 1)), (by first | rfl | (simp; done) | (simp [*]; done)), H', ⟨by have := HK1.out; omega⟩, ⟨by (with_reducible repeat (first | apply Kd.R_alloc | apply Kd.R_drewN | apply Kd.R_drew)); exact Kd.R_mono HO118.out (fun _ hk => trivial)⟩, ⟨by repeat (first | (with_reducible first | exact HB.out | apply below_alloc | apply pw_below_drewN | apply below_drew1) | exact HB.out)⟩⟩
      ·rw [if_neg c14] at H
       exact absurd H (by simp)
    ·rw [if_neg c5] at H
     exact absurd H (by simp)
   ·rw [if_neg c4] at H
    have c4b0 : decide (x4_1 < (l0.length : Int)) = false := decide_eq_false c4
    clear c4
    by_cases c20 : x3_1.length < 17592186044416
    ·rw [if_pos c20] at H
     have LMc20 := Aside0.mk c20
     clear c20
     obtain ⟨y119, hy119⟩ : ∃ y_ : List Int, y_ = (x3_1 ++ [wrap64 ((wrap64 (2 * (l0.length : Int))) + 1)]) := ⟨_, rfl⟩
     replace H : (some y119) = some r := by first | (rw [hy119]; with_reducible exact H) | (have H2_ := (Option.bind_some _ _).symm.trans H; rw [hy119]; with_reducible exact H2_) | (have H2_ := (Option.bind_some _ _).symm.trans H; with_reducible exact H2_) | with_reducible exact H | (rw [hy119]; exact H) | exact H
     have Ny119 := Aside0.mk hy119
     clear hy119
     obtain rfl := Option.some.inj H
     go_wp2_with (first|((with_reducible refine gate_builtin (b := .append) (xs := #[.tmp 39, .tmp 44]) rfl ?_);at_builtin;refine Kd.R_append (Kd.int .i64) (w0 := w) w.heap.size rfl (.tmp 39) (.tmp 44) 22 3 (.int .i64 0) 8 rfl Try.underlying22 info3 rfl (by decide) (by omega) u3 x3_1 (wrap64 ((wrap64 (2 * (l0.length : Int))) + 1)) [.int .i64 (wrap64 ((wrap64 (2 * (l0.length : Int))) + 1))] (fun _ => True) (fun _ => False) rfl rfl ?aP (fun _ hk => hk.elim) ?aF ?aO ?aB ?aS ?aL ?_;(case aP => exact rfl);(case aB => exact (by repeat (first|(with_reducible first|exact HB.out|apply below_alloc|apply pw_below_drewN|apply below_drew1)|exact HB.out)));(case aF => exact (fun _ _ => trivial));(case aO => exact (by (with_reducible repeat (first|apply Kd.R_alloc|apply Kd.R_drewN|apply Kd.R_drew));exact HO_3.out));(case aS => exact (below_size (by repeat (first|(with_reducible first|exact HB.out|apply below_alloc|apply pw_below_drewN|apply below_drew1)|exact HB.out))));(case aL => have := LMc20.out;omega);intro v120 w21 ho hb hg hat;rw [← Ny119.out] at ho;have n0_ := Aside0.mk (hb);have n1_ := Aside0.mk (ho);clear HB;clear HO_3;have HB := n0_;have HO121 := n1_;clear n0_ n1_;clear ho hb hg hat))
     go_ret
     exact ⟨_, by first | rfl | (simp [errW_none, errW_some] <;> rfl) | (simp [*, errW_none, errW_some] <;> rfl), by (with_reducible repeat (first | apply Kd.R_alloc | apply Kd.R_drewN | apply Kd.R_drew)); exact HO121.out, by repeat (first | (with_reducible first | exact HB.out | apply below_alloc | apply pw_below_drewN | apply below_drew1) | exact HB.out)⟩
    ·rw [if_neg c20] at H
     exact absurd H (by simp)

end Go.Proofs.Ytepjhdblmghckaa.Q
/- PancakeOwn: the walk. -/
namespace Go.Proofs.Ytepjhdblmghckaa.G
set_option linter.unusedVariables false
set_option linter.unusedSimpArgs false
set_option linter.unusedSectionVars false
open Go.Proofs.Ytepjhdblmghckaa.Q Go.Proofs.Ytepjhdblmghckaa.K Go.Proofs.Ytepjhdblmghckaa.Bf
open Go.RowKit Go.Shelf Go.Proofs.YtepjhdblmghckaaW.PrintWords Go.Proofs.YtepjhdblmghckaaW.PrintLast Go.Proofs.YtepjhdblmghckaaW.PrintMore
/-- One row of those that are written over: its cells may be written, and lie neither below H nor in block g. -/
def RowOk (W : World) (H g : Nat) (A : Option Addr) (n cap : Nat) : Prop := n ≤ 1000000000 ∧ n ≤ cap ∧ ∀ j, j < n → ∃ b z, A = some ⟨b, 0, none⟩ ∧ W.cell? ⟨b, j, none⟩ = some (.int .i64 z) ∧ W.frozen? ⟨b, j, none⟩ = false ∧ H ≤ b ∧ b ≠ g
/-- The row of rows. -/
def AllRows (W : World) (H g N : Nat) : Prop := ∀ i, i < N → ∃ A n cap, W.cell? ⟨g, i, none⟩ = some (.slice A n cap) ∧ RowOk W H g A n cap
theorem RowOk.set {W : World} {H g : Nat} {A : Option Addr} {n cap : Nat} (h : RowOk W H g A n cap) (b j : Nat) (z y : Int) (hc : W.cell? ⟨b, j, none⟩ = some (.int .i64 y)) : RowOk (W.setCell ⟨b, j, none⟩ (.int .i64 z)) H g A n cap := by
 refine ⟨h.1, h.2.1, fun j' hj' => ?_⟩
 obtain ⟨b', z', h1, h2, h3, h4, h5⟩ := h.2.2 j' hj'
 by_cases e : (⟨b, j, none⟩ : Addr) = ⟨b', j', none⟩
 ·refine ⟨b', z, h1, ?_, by rw [World.frozen?_setCell]; exact h3, h4, h5⟩
  rw [← e]
  exact World.cell?_setCell_same (h := hc) ..
 ·exact ⟨b', z', h1, by rw [World.cell?_setCell_other (h := e) ..]; exact h2, by rw [World.frozen?_setCell]; exact h3, h4, h5⟩
theorem AllRows.set {W : World} {H g N : Nat} (h : AllRows W H g N) (b j : Nat) (z y : Int) (hb : b ≠ g) (hc : W.cell? ⟨b, j, none⟩ = some (.int .i64 y)) : AllRows (W.setCell ⟨b, j, none⟩ (.int .i64 z)) H g N := fun i hi => by
 obtain ⟨A, n, cap, h1, h2⟩ := h i hi
 exact ⟨A, n, cap, by rw [World.cell?_setCell_other (h := fun e => hb (by injection e)) ..]; exact h1, h2.set b j z y hc⟩
theorem rowOk_of {W : World} {H base : Nat} {A : Option Addr} {n cap : Nat} {xs : List Int} {ok : Nat → Prop} (h : (Kd.int .i64).R 3 W base ok (.slice A n cap) xs) (hH : H ≤ base) {g : Nat} (hg : ∃ cells, W.heap[g]? = some (.cells cells 22 (0, 0))) (hn : xs.length ≤ 1000000000) : RowOk W H g A n cap := by
 have hr := Kd.R_reads' h
 refine ⟨by omega, by omega, fun j hj => ?_⟩
 have hA : ∃ ad, A = some ad := by
  cases A with
  | some ad => exact ⟨ad, rfl⟩
  | none =>
   exfalso
   obtain ⟨ad, he, _⟩ := hr.2.2.2.2 (by omega)
   cases he
 obtain ⟨ad, rfl⟩ := hA
 obtain ⟨b, rfl⟩ := Kd.R_head h
 obtain ⟨c, hcl, hM, hcc, hfr⟩ := Kd.R_elem h 0 (j : Int) (by omega) (by omega)
 have hb := Kd.R_base h b rfl
 obtain ⟨cells, hc⟩ := Kd.R_typed h b rfl
 obtain ⟨cells', hc'⟩ := hg
 have e1 : c = [.int .i64 (xs.getD j 0)] := hM
 have e2 : (j : Int).toNat * (Kd.int .i64).sz + 0 = j := by show (j : Int).toNat * 1 + 0 = j; omega
 refine ⟨b, xs.getD j 0, rfl, ?_, ?_, by omega, fun e => ?_⟩
 ·have := hcc 0 (.int .i64 (xs.getD j 0)) (by rw [e1]; rfl)
  rw [e2] at this
  exact this
 ·have := hfr 0
  rw [e2] at this
  exact this
 ·rw [e, hc'] at hc
  cases hc
/-- The rows of a row of rows, by themselves. -/
theorem rows_of {W : World} {base : Nat} {ok : Nat → Prop} {v : Value} {c : List (List Int)} (h : (Kd.slice 3 (Kd.int .i64)).R 22 W base ok v c) : ∃ rows : List (List Value), rows.length = c.length ∧ (Kd.raw 1).R 22 W base (fun k => some k = v.ownBlock) v rows ∧ ∀ (j : Nat) (x : List Int) (cs : List Value), c[j]? = some x → rows[j]? = some cs → (Kd.slice 3 (Kd.int .i64)).M W base (fun k => ok k ∧ some k ≠ v.ownBlock) x cs := by
 obtain ⟨h0, inner, ho, hr⟩ := h
 refine ⟨Kd.chunks 1 c.length inner, Kd.chunks_length _ _ _, ⟨fun k hk => hk.symm, inner, by rw [Kd.chunks_length]; exact ho, Kd.reps_raw hr (fun x c hp => ⟨(Kd.slice 3 (Kd.int .i64)).K_len ((Kd.slice 3 (Kd.int .i64)).K_of_M hp), (Kd.slice 3 (Kd.int .i64)).K_one ((Kd.slice 3 (Kd.int .i64)).K_of_M hp)⟩)⟩, fun j x cs hx hc => ?_⟩
 rw [Kd.chunks_get hc]
 exact hr.2 j x hx
/-- What is joined: four rows, and the rows of a row of rows. -/
theorem allRows_of {W : World} {H base : Nat} {ok : Nat → Prop} {A8 A9 A10 A11 : Option Addr} {n8 n9 n10 n11 c8 c9 c10 c11 : Nat} {rows : List (List Value)} {g cap : Nat} (hR : (Kd.raw 1).R 22 W base ok (.slice (some ⟨g, 0, none⟩) ([[Value.slice A8 n8 c8], [Value.slice A9 n9 c9], [Value.slice A10 n10 c10], [Value.slice A11 n11 c11]] ++ rows).length cap) ([[Value.slice A8 n8 c8], [Value.slice A9 n9 c9], [Value.slice A10 n10 c10], [Value.slice A11 n11 c11]] ++ rows))
  (h8 : RowOk W H g A8 n8 c8) (h9 : RowOk W H g A9 n9 c9) (h10 : RowOk W H g A10 n10 c10) (h11 : RowOk W H g A11 n11 c11) (hrs : ∀ (j : Nat) (cs : List Value), rows[j]? = some cs → ∃ A n c, cs = [.slice A n c] ∧ RowOk W H g A n c) : AllRows W H g ([[Value.slice A8 n8 c8], [Value.slice A9 n9 c9], [Value.slice A10 n10 c10], [Value.slice A11 n11 c11]] ++ rows).length := fun i hi => by
 obtain ⟨cs, hcs⟩ : ∃ cs, ([[Value.slice A8 n8 c8], [Value.slice A9 n9 c9], [Value.slice A10 n10 c10], [Value.slice A11 n11 c11]] ++ rows)[i]? = some cs := ⟨_, List.getElem?_eq_getElem hi⟩
 have hform : ∃ A n c, cs = [.slice A n c] ∧ RowOk W H g A n c := by
  match i, hcs with
  | 0, h => cases h; exact ⟨_, _, _, rfl, h8⟩
  | 1, h => cases h; exact ⟨_, _, _, rfl, h9⟩
  | 2, h => cases h; exact ⟨_, _, _, rfl, h10⟩
  | 3, h => cases h; exact ⟨_, _, _, rfl, h11⟩
  | j + 4, h => exact hrs j cs (by simpa using h)
 obtain ⟨A, n, c, rfl, hok⟩ := hform
 obtain ⟨c', hcl, hM, hcc, _⟩ := Kd.R_elem hR [] (i : Int) (by omega) (by omega)
 have e1 : c' = [.slice A n c] := by
  have h2 := hM.1
  rw [List.getD_eq_getElem?_getD, Int.toNat_natCast, hcs] at h2
  exact h2
 have e2 : (i : Int).toNat * (Kd.raw 1).sz + 0 = i := by show (i : Int).toNat * 1 + 0 = i; omega
 have := hcc 0 (.slice A n c) (by rw [e1]; rfl)
 rw [e2] at this
 exact ⟨A, n, c, this, hok⟩
set_option maxRecDepth 100000 in
set_option maxHeartbeats 8000000 in
theorem own_calls (k : Nat) (a0 : Int) (A1 : Option Addr) (c1 : Nat) (l1 : List Int) (a2 : Int) (w : World) (hr1 : Kd.C (Kd.int .i64) w A1 l1.length l1) (hc1 : l1.length ≤ c1)
  (n m : Int) (x y p o q r t : List Int) (c : List (List Int)) (h1 : bibelotlaw07_many.f a0 6 = some n) (h2 : bibelotlaw07_row.f l1 n false = some x) (h3 : bibelotlaw07_row.f l1 n true = some y) (h4 : bibelotlaw07_own.f x = some x) (h5 : bibelotlaw07_own.f y = some y)
  (h6 : bibelotlaw07_many.f a2 (x.length : Int) = some m) (h7 : pancake_Flip.f k x m = some (p, 0)) (h8 : pancake_Order.f x = some (o, 0)) (h9 : pancake_Turn.f y 0 (wrap64 ((y.length : Int) - 1)) = some (q, 0)) (h10 : pancake_Picture.f y = some (r, 0)) (h11 : pancake_Circles.f y = some (c, 0)) (h12 : pancake_Flip.f k x 1 = some (t, 0))
  (h13 : bibelotlaw07_ints.f k x x = some true) (h14 : bibelotlaw07_ints.f k y y = some true) (h15 : bibelotref07_Picture.f k y = some r) (h16 : bibelotlaw07_ints.f k r r = some true) (h17 : bibelotlaw07_ints.f k t x = some true) (h18 : bibelotlaw07_awake.f = some true) (hls : p.length ≤ 1000 ∧ o.length ≤ 1000000000 ∧ q.length ≤ 1000 ∧ r.length ≤ 1000 ∧ c.length ≤ 1000 ∧ ∀ z, z ∈ c → z.length ≤ 1000) :
  Calls Try.prog 19 #[.int .i64 a0, .slice A1 l1.length c1, .int .i64 a2] w fun e w' => e = .returned (.bool true) ∧ Below w.heap.size w w' := by
 have HR1 := Aside0.mk hr1
 have HC1 := Aside0.mk hc1
 have HF1 := Aside0.mk h1
 have HF2 := Aside0.mk h2
 have HF3 := Aside0.mk h3
 have HF4 := Aside0.mk h4
 have HF5 := Aside0.mk h5
 have HF6 := Aside0.mk h6
 have HF7 := Aside0.mk h7
 have HF8 := Aside0.mk h8
 have HF9 := Aside0.mk h9
 have HF10 := Aside0.mk h10
 have HF11 := Aside0.mk h11
 have HF12 := Aside0.mk h12
 have HF13 := Aside0.mk h13
 have HF14 := Aside0.mk h14
 have HF15 := Aside0.mk h15
 have HF16 := Aside0.mk h16
 have HF17 := Aside0.mk h17
 clear hr1 hc1 h1 h2 h3 h4 h5 h6 h7 h8 h9 h10 h11 h12 h13 h14 h15 h16 h17
 go_enter Try.func19, Try.ntmps19
 go_wp2_with (go_at_call 21; refine stopper ?_)
 try unfold Hold
 refine (bibelotlaw07_many.calls a0 6 n w HF1.out).mono ?_
 rintro e w1 ⟨rfl, hd⟩
 have hb : Below w.heap.size w w1 := hd.below
 have HB1 := Aside0.mk hb
 have HR1_ := Aside0.mk (Kd.C_below HR1.out hb)
 clear HR1
 have HR1 := HR1_
 clear HR1_
 clear hb hd
 go_wp2_with (go_at_call 27; refine stopper ?_)
 try unfold Hold
 refine (bibelotlaw07_row.calls A1 c1 l1 n false x w1 HR1.out HC1.out HF2.out).mono ?_
 rintro e w2 ⟨v2, rfl, hv, hb⟩
 have HB2 := Aside0.mk (HB1.out.trans (hb.mono HB1.out.size))
 have HR1_ := Aside0.mk (Kd.C_below HR1.out hb)
 clear HR1
 have HR1 := HR1_
 clear HR1_
 obtain ⟨A2, c2, rfl⟩ := Kd.R_slice hv
 have HX := Aside0.mk (Kd.R_reads' hv).2.2
 have HXc := Aside0.mk (Kd.R_reads' hv).2.1
 clear hb hv
 go_wp2_with (go_at_call 21; refine stopper ?_)
 try unfold Hold
 refine (bibelotlaw07_many.calls a0 6 n w2 HF1.out).mono ?_
 rintro e w3 ⟨rfl, hd⟩
 have hb : Below w2.heap.size w2 w3 := hd.below
 have HB3 := Aside0.mk (HB2.out.trans (hb.mono HB2.out.size))
 have HR1_ := Aside0.mk (Kd.C_below HR1.out hb)
 clear HR1
 have HR1 := HR1_
 clear HR1_
 have HX_ := Aside0.mk (Kd.C_below HX.out hb)
 clear HX
 have HX := HX_
 clear HX_
 clear hb hd
 go_wp2_with (go_at_call 27; refine stopper ?_)
 try unfold Hold
 refine (bibelotlaw07_row.calls A1 c1 l1 n true y w3 HR1.out HC1.out HF3.out).mono ?_
 rintro e w4 ⟨v4, rfl, hv, hb⟩
 have HB4 := Aside0.mk (HB3.out.trans (hb.mono HB3.out.size))
 have HR1_ := Aside0.mk (Kd.C_below HR1.out hb)
 clear HR1
 have HR1 := HR1_
 clear HR1_
 have HX_ := Aside0.mk (Kd.C_below HX.out hb)
 clear HX
 have HX := HX_
 clear HX_
 obtain ⟨A4, c4, rfl⟩ := Kd.R_slice hv
 have HY := Aside0.mk (Kd.R_reads' hv).2.2
 have HYc := Aside0.mk (Kd.R_reads' hv).2.1
 clear hb hv
 go_wp2_with (go_at_call 54; refine stopper ?_)
 try unfold Hold
 refine (bibelotlaw07_own.calls A2 c2 x x w4 HX.out HXc.out HF4.out).mono ?_
 rintro e w5 ⟨v5, rfl, hv, hb⟩
 have HB5 := Aside0.mk (HB4.out.trans (hb.mono HB4.out.size))
 have HX_ := Aside0.mk (Kd.C_below HX.out hb)
 clear HX
 have HX := HX_
 clear HX_
 have HY_ := Aside0.mk (Kd.C_below HY.out hb)
 clear HY
 have HY := HY_
 clear HY_
 obtain ⟨A5, c5, rfl⟩ := Kd.R_slice hv
 have HA := Aside0.mk (Kd.R_reads' hv).2.2
 have HAc := Aside0.mk (Kd.R_reads' hv).2.1
 clear hb hv
 go_wp2_with (go_at_call 54; refine stopper ?_)
 try unfold Hold
 refine (bibelotlaw07_own.calls A4 c4 y y w5 HY.out HYc.out HF5.out).mono ?_
 rintro e w6 ⟨v6, rfl, hv, hb⟩
 have HB6 := Aside0.mk (HB5.out.trans (hb.mono HB5.out.size))
 have HX_ := Aside0.mk (Kd.C_below HX.out hb)
 clear HX
 have HX := HX_
 clear HX_
 have HY_ := Aside0.mk (Kd.C_below HY.out hb)
 clear HY
 have HY := HY_
 clear HY_
 have HA_ := Aside0.mk (Kd.C_below HA.out hb)
 clear HA
 have HA := HA_
 clear HA_
 obtain ⟨A6, c6, rfl⟩ := Kd.R_slice hv
 have HBb := Aside0.mk (Kd.R_reads' hv).2.2
 have HBbc := Aside0.mk (Kd.R_reads' hv).2.1
 clear hb hv
 have HX6 := HX
 have HY6 := HY
 have HA6 := HA
 have HBb6 := HBb
 obtain ⟨H, hH⟩ : ∃ H, w6.heap.size = H := ⟨_, rfl⟩
 have HH6 := Aside0.mk (show Below H w6 w6 from Below.refl _ _)
 have HHs := Aside0.mk hH
 clear hH
 go_wp2_with (go_at_call 21; refine stopper ?_)
 try unfold Hold
 refine (bibelotlaw07_many.calls a2 (x.length : Int) m w6 HF6.out).mono ?_
 rintro e w7 ⟨rfl, hd⟩
 have hb : Below w6.heap.size w6 w7 := hd.below
 have HB7 := Aside0.mk (HB6.out.trans (hb.mono HB6.out.size))
 have HH7 := Aside0.mk (HH6.out.trans (hb.mono (by have h0 := HH6.out.size; have h1 := HHs.out; omega)))
 have HX_ := Aside0.mk (Kd.C_below HX.out hb)
 clear HX
 have HX := HX_
 clear HX_
 have HY_ := Aside0.mk (Kd.C_below HY.out hb)
 clear HY
 have HY := HY_
 clear HY_
 have HA_ := Aside0.mk (Kd.C_below HA.out hb)
 clear HA
 have HA := HA_
 clear HA_
 have HBb_ := Aside0.mk (Kd.C_below HBb.out hb)
 clear HBb
 have HBb := HBb_
 clear HBb_
 clear hb hd
 go_wp2_with (go_at_call 32; refine stopper ?_)
 try unfold Hold
 refine (pancake_Flip.calls k A2 c2 x m p 0 w7 HX.out HXc.out HF7.out).mono ?_
 rintro e w8 ⟨v8, rfl, hv, hb⟩
 have HB8 := Aside0.mk (HB7.out.trans (hb.mono HB7.out.size))
 have HH8 := Aside0.mk (HH7.out.trans (hb.mono (by have h0 := HH7.out.size; have h1 := HHs.out; omega)))
 have HX_ := Aside0.mk (Kd.C_below HX.out hb)
 clear HX
 have HX := HX_
 clear HX_
 have HY_ := Aside0.mk (Kd.C_below HY.out hb)
 clear HY
 have HY := HY_
 clear HY_
 have HA_ := Aside0.mk (Kd.C_below HA.out hb)
 clear HA
 have HA := HA_
 clear HA_
 have HBb_ := Aside0.mk (Kd.C_below HBb.out hb)
 clear HBb
 have HBb := HBb_
 clear HBb_
 obtain ⟨A8, c8, rfl⟩ := Kd.R_slice hv
 have hq : H ≤ w7.heap.size := by have h0 := HH7.out.size; have h1 := HHs.out; omega
 have Rp := Aside0.mk (Kd.R_lower hv hq)
 clear hq
 clear hb hv
 go_wp2_with (go_at_call 47; refine stopper ?_)
 try unfold Hold
 refine (pancake_Order.calls A2 c2 x o 0 w8 HX.out HXc.out HF8.out).mono ?_
 rintro e w9 ⟨v9, rfl, hv, hb⟩
 have HB9 := Aside0.mk (HB8.out.trans (hb.mono HB8.out.size))
 have HH9 := Aside0.mk (HH8.out.trans (hb.mono (by have h0 := HH8.out.size; have h1 := HHs.out; omega)))
 have HX_ := Aside0.mk (Kd.C_below HX.out hb)
 clear HX
 have HX := HX_
 clear HX_
 have HY_ := Aside0.mk (Kd.C_below HY.out hb)
 clear HY
 have HY := HY_
 clear HY_
 have HA_ := Aside0.mk (Kd.C_below HA.out hb)
 clear HA
 have HA := HA_
 clear HA_
 have HBb_ := Aside0.mk (Kd.C_below HBb.out hb)
 clear HBb
 have HBb := HBb_
 clear HBb_
 have Rp_ := Aside0.mk (Kd.R_below Rp.out hb)
 clear Rp
 have Rp := Rp_
 clear Rp_
 obtain ⟨A9, c9, rfl⟩ := Kd.R_slice hv
 have hq : H ≤ w8.heap.size := by have h0 := HH8.out.size; have h1 := HHs.out; omega
 have Ro := Aside0.mk (Kd.R_lower hv hq)
 clear hq
 clear hb hv
 go_wp2_with (go_at_call 45; refine stopper ?_)
 try unfold Hold
 refine (pancake_Turn.calls A4 c4 y 0 (wrap64 ((y.length : Int) - 1)) q 0 w9 HY.out HYc.out HF9.out).mono ?_
 rintro e w10 ⟨v10, rfl, hv, hb⟩
 have HB10 := Aside0.mk (HB9.out.trans (hb.mono HB9.out.size))
 have HH10 := Aside0.mk (HH9.out.trans (hb.mono (by have h0 := HH9.out.size; have h1 := HHs.out; omega)))
 have HX_ := Aside0.mk (Kd.C_below HX.out hb)
 clear HX
 have HX := HX_
 clear HX_
 have HY_ := Aside0.mk (Kd.C_below HY.out hb)
 clear HY
 have HY := HY_
 clear HY_
 have HA_ := Aside0.mk (Kd.C_below HA.out hb)
 clear HA
 have HA := HA_
 clear HA_
 have HBb_ := Aside0.mk (Kd.C_below HBb.out hb)
 clear HBb
 have HBb := HBb_
 clear HBb_
 have Rp_ := Aside0.mk (Kd.R_below Rp.out hb)
 clear Rp
 have Rp := Rp_
 clear Rp_
 have Ro_ := Aside0.mk (Kd.R_below Ro.out hb)
 clear Ro
 have Ro := Ro_
 clear Ro_
 obtain ⟨A10, c10, rfl⟩ := Kd.R_slice hv
 have hq : H ≤ w9.heap.size := by have h0 := HH9.out.size; have h1 := HHs.out; omega
 have Rq := Aside0.mk (Kd.R_lower hv hq)
 clear hq
 clear hb hv
 go_wp2_with (go_at_call 35; refine stopper ?_)
 try unfold Hold
 refine (pancake_Picture.calls A4 c4 y r 0 w10 HY.out HYc.out HF10.out).mono ?_
 rintro e w11 ⟨v11, rfl, hv, hb⟩
 have HB11 := Aside0.mk (HB10.out.trans (hb.mono HB10.out.size))
 have HH11 := Aside0.mk (HH10.out.trans (hb.mono (by have h0 := HH10.out.size; have h1 := HHs.out; omega)))
 have HX_ := Aside0.mk (Kd.C_below HX.out hb)
 clear HX
 have HX := HX_
 clear HX_
 have HY_ := Aside0.mk (Kd.C_below HY.out hb)
 clear HY
 have HY := HY_
 clear HY_
 have HA_ := Aside0.mk (Kd.C_below HA.out hb)
 clear HA
 have HA := HA_
 clear HA_
 have HBb_ := Aside0.mk (Kd.C_below HBb.out hb)
 clear HBb
 have HBb := HBb_
 clear HBb_
 have Rp_ := Aside0.mk (Kd.R_below Rp.out hb)
 clear Rp
 have Rp := Rp_
 clear Rp_
 have Ro_ := Aside0.mk (Kd.R_below Ro.out hb)
 clear Ro
 have Ro := Ro_
 clear Ro_
 have Rq_ := Aside0.mk (Kd.R_below Rq.out hb)
 clear Rq
 have Rq := Rq_
 clear Rq_
 obtain ⟨A11, c11, rfl⟩ := Kd.R_slice hv
 have hq : H ≤ w10.heap.size := by have h0 := HH10.out.size; have h1 := HHs.out; omega
 have Rr := Aside0.mk (Kd.R_lower hv hq)
 clear hq
 clear hb hv
 go_wp2_with (go_at_call 36; refine stopper ?_)
 try unfold Hold
 refine (pancake_Circles.calls A4 c4 y c 0 w11 HY.out HYc.out HF11.out).mono ?_
 rintro e w12 ⟨v12, rfl, hv, hb⟩
 have HB12 := Aside0.mk (HB11.out.trans (hb.mono HB11.out.size))
 have HH12 := Aside0.mk (HH11.out.trans (hb.mono (by have h0 := HH11.out.size; have h1 := HHs.out; omega)))
 have HX_ := Aside0.mk (Kd.C_below HX.out hb)
 clear HX
 have HX := HX_
 clear HX_
 have HY_ := Aside0.mk (Kd.C_below HY.out hb)
 clear HY
 have HY := HY_
 clear HY_
 have HA_ := Aside0.mk (Kd.C_below HA.out hb)
 clear HA
 have HA := HA_
 clear HA_
 have HBb_ := Aside0.mk (Kd.C_below HBb.out hb)
 clear HBb
 have HBb := HBb_
 clear HBb_
 have Rp_ := Aside0.mk (Kd.R_below Rp.out hb)
 clear Rp
 have Rp := Rp_
 clear Rp_
 have Ro_ := Aside0.mk (Kd.R_below Ro.out hb)
 clear Ro
 have Ro := Ro_
 clear Ro_
 have Rq_ := Aside0.mk (Kd.R_below Rq.out hb)
 clear Rq
 have Rq := Rq_
 clear Rq_
 have Rr_ := Aside0.mk (Kd.R_below Rr.out hb)
 clear Rr
 have Rr := Rr_
 clear Rr_
 obtain ⟨A12, c12, rfl⟩ := Kd.S_slice hv
 have hq : H ≤ w11.heap.size := by have h0 := HH11.out.size; have h1 := HHs.out; omega
 have Rc := Aside0.mk (Kd.S_lower hv hq)
 clear hq
 clear hb hv
 have hq12 : H ≤ w12.heap.size := by have h0 := HH12.out.size; have h1 := HHs.out; omega
 go_wp2_with ((with_reducible refine gate_dst (N := 76) rfl ?_); refine stopper ?_)
 try unfold Hold
 refine Kd.R_lit (Kd.raw 1) w12.heap.size 22 ?hg (N := 76) ?hd (w0 := w12) (xs := [[.slice A8 p.length c8], [.slice A9 o.length c9], [.slice A10 q.length c10], [.slice A11 r.length c11]]) (inner := [.slice A8 p.length c8, .slice A9 o.length c9, .slice A10 q.length c10, .slice A11 r.length c11]) (ok := fun _ => True) (okp := fun _ => True) ?hr ?hp (fun _ _ => trivial) trivial (Below.refl _ _) (Nat.le_refl _) (by simp) ?_
 case hd => rfl
 case hg => rfl
 case hr => first | (go_simp; done) | (go_simp; rfl)
 case hp => exact Reps.one ⟨rfl, rfl, by simp [Value.oneCell']⟩ (Reps.one ⟨rfl, rfl, by simp [Value.oneCell']⟩ (Reps.one ⟨rfl, rfl, by simp [Value.oneCell']⟩ (Reps.one ⟨rfl, rfl, by simp [Value.oneCell']⟩ (Reps.none _ _))))
 intro v13 w13 hv13 hb13 hg13 hat13
 obtain ⟨rows, hrl, hrw, hrm⟩ := rows_of (Kd.S_R Rc.out)
 have hrc := Kd.C_below (Kd.R_reads' hrw).2.2 hb13
 go_wp2_with ((with_reducible refine gate_builtin (b := .append) (xs := #[.tmp 76, .tmp 77]) rfl ?_); at_builtin; refine stopper ?_)
 try unfold Hold
 refine Kd.R_append_rows (Kd.raw 1) (w0 := w12) w12.heap.size rfl (.tmp 76) (.tmp 77) 45 22 (.slice none 0 0) 24 rfl Try.underlying45 info22 rfl (by decide) (by omega) v13 _ rows A12 c.length c12 (fun _ => True) (fun _ => False) rfl rfl hv13 (by rw [← hrl]; exact hrc) (fun _ _ hk => hk) (fun _ hk => hk.elim) (fun _ _ => trivial) hb13 hb13.size (by simp; omega) ?_
 intro v14 w14 hv14 hb14 hg14 hat14
 obtain ⟨g, cap, rfl, hgb, hgl, hgc⟩ := Kd.R_form hv14 (by simp)
 have hAll : AllRows w14 H g ([[Value.slice A8 p.length c8], [Value.slice A9 o.length c9], [Value.slice A10 q.length c10], [Value.slice A11 r.length c11]] ++ rows).length := by
  refine allRows_of hv14 (rowOk_of (Kd.R_below Rp.out hb14) (Nat.le_refl _) hgc (by omega)) (rowOk_of (Kd.R_below Ro.out hb14) (Nat.le_refl _) hgc (by omega)) (rowOk_of (Kd.R_below Rq.out hb14) (Nat.le_refl _) hgc (by omega)) (rowOk_of (Kd.R_below Rr.out hb14) (Nat.le_refl _) hgc (by omega)) (fun j cs hcs => ?_)
  have hjl : j < c.length := by rw [← hrl]; exact (List.getElem?_eq_some_iff.1 hcs).1
  obtain ⟨v, rfl, hv⟩ := hrm j _ cs (List.getElem?_eq_getElem hjl) hcs
  obtain ⟨A, cc, rfl⟩ := Kd.R_slice hv
  have hz := hls.2.2.2.2.2 _ (List.getElem_mem hjl)
  exact ⟨A, _, cc, rfl, rowOk_of (Kd.R_below hv hb14) (Nat.le_refl _) hgc (by omega)⟩
 have hNs : ([[Value.slice A8 p.length c8], [Value.slice A9 o.length c9], [Value.slice A10 q.length c10], [Value.slice A11 r.length c11]] ++ rows).length ≤ 2000 := by simp; omega
 obtain ⟨N, hN⟩ : ∃ N, ([[Value.slice A8 p.length c8], [Value.slice A9 o.length c9], [Value.slice A10 q.length c10], [Value.slice A11 r.length c11]] ++ rows).length = N := ⟨_, rfl⟩
 rw [hN] at hAll hNs
 try rw [hN]
 have hcapN : N ≤ cap := by rw [← hN]; exact (Kd.R_reads' hv14).2.1
 have HALL := Aside0.mk hAll
 have HB14 := Aside0.mk (HB12.out.trans (hb14.mono HB12.out.size))
 have HH14 := Aside0.mk (HH12.out.trans (hb14.mono hq12))
 have hHw : H ≤ w14.heap.size := by have := HH14.out.size; have := HHs.out; omega
 clear hAll hN hv14 hb14 hg14 hat14 hgb hgl hgc hrc hrm hrw hrl hv13 hb13 hg13 hat13 HX HY HA HBb Rp Ro Rq Rr Rc
 go_wp2
 go_loopw [22] (fun u wr => ∃ i : Nat, i ≤ N ∧ u = .int .i64 (i : Int) ∧ Aside0 (AllRows wr H g N) ∧ Aside0 (Below H w6 wr) ∧ Aside0 (Below w.heap.size w wr)) (fun u _ => N - (intOf u).toNat)
 case atStart => exact ⟨0, Nat.zero_le _, rfl, HALL, HH14, HB14⟩
 case round =>
  obtain ⟨i, hi, rfl, RA, RH, RB⟩ := hrel
  by_cases hlt : i < N
  ·have c0 : (i : Int) < (N : Int) := by omega
   have c1 : (0 : Int) ≤ (i : Int) := by omega
   obtain ⟨A, n', cap', hce, hok⟩ := RA.out i hlt
   have hn' := hok.1
   have hcn := hok.2.1
   have HK0 := Aside0.mk hok
   have HC0 := Aside0.mk hce
   clear hok hce
   go_wp2
   go_loopw [23] (fun u wk => ∃ j : Nat, j ≤ n' ∧ u = .int .i64 (j : Int) ∧ Aside0 (AllRows wk H g N) ∧ Aside0 (wk.cell? ⟨g, i, none⟩ = some (.slice A n' cap')) ∧ Aside0 (RowOk wk H g A n' cap') ∧ Aside0 (Below H w6 wk) ∧ Aside0 (Below w.heap.size w wk)) (fun u _ => n' - (intOf u).toNat)
   case atStart => exact ⟨0, Nat.zero_le _, rfl, RA, HC0, HK0, RH, RB⟩
   case round =>
    obtain ⟨j, hj, rfl, SA, SC, SK, SH, SB⟩ := hrel
    have hcell := SC.out
    by_cases hjl : j < n'
    ·have d0 : (j : Int) < (n' : Int) := by omega
     have d1 : (0 : Int) ≤ (j : Int) := by omega
     obtain ⟨b, z, e, hcz, hfz, hHb, hbg⟩ := SK.out.2.2 j hjl
     subst e
     have hw : IntKind.i64.wrap ((j : Int) + 1) = ((j + 1 : Nat) : Int) := by rw [iw64 (by omega) (by omega)]; omega
     go_wp2
     go_roundw
     case rel => exact ⟨j + 1, by omega, rfl, ⟨SA.out.set b j (-77) z hbg hcz⟩, ⟨by rw [World.cell?_setCell_other (h := fun e => hbg (by injection e)) ..]; exact hcell⟩, ⟨SK.out.set b j (-77) z hcz⟩, ⟨SH.out.setCell hHb _⟩, ⟨SB.out.setCell (by have h0 := HB6.out.size; have h1 := HHs.out; simp only; omega) _⟩⟩
     case measure => simp [intOf]; omega
    ·obtain rfl : j = n' := by omega
     have d0 : ¬ (j : Int) < (j : Int) := by omega
     have hw : IntKind.i64.wrap ((i : Int) + 1) = ((i + 1 : Nat) : Int) := by rw [iw64 (by omega) (by omega)]; omega
     go_wp2
     go_roundw
     case rel => exact ⟨i + 1, by omega, rfl, SA, SH, SB⟩
     case measure => simp [intOf]; omega
  ·obtain rfl : i = N := by omega
   have c0 : ¬ (i : Int) < (i : Int) := by omega
   go_wp2_with (go_at_call 35; refine stopper ?_)
   try unfold Hold
   refine (pancake_Picture.calls A4 c4 y r 0 _ (Kd.C_below HY6.out (show Below w6.heap.size w6 _ by rw [HHs.out]; exact RH.out)) HYc.out HF10.out).mono ?_
   rintro e w15 ⟨v15, rfl, hv, hb⟩
   obtain ⟨A15, c15, rfl⟩ := Kd.R_slice hv
   have HS := Aside0.mk (Kd.R_reads' hv).2.2
   have HSc := Aside0.mk (Kd.R_reads' hv).2.1
   have hq15 := RH.out.size
   rw [HHs.out] at hq15
   have RH1 := Aside0.mk (RH.out.trans (hb.mono hq15))
   have RB1 := Aside0.mk (RB.out.trans (hb.mono RB.out.size))
   clear hv hb RH RB hq15
   have RH := RH1
   have RB := RB1
   clear RH1 RB1
   go_wp2_with (go_at_call 32; refine stopper ?_)
   try unfold Hold
   refine (pancake_Flip.calls k A2 c2 x 1 t 0 _ (Kd.C_below HX6.out (show Below w6.heap.size w6 _ by rw [HHs.out]; exact RH.out)) HXc.out HF12.out).mono ?_
   rintro e w16 ⟨v16, rfl, hv, hb⟩
   obtain ⟨A16, c16, rfl⟩ := Kd.R_slice hv
   have HT := Aside0.mk (Kd.R_reads' hv).2.2
   have HTc := Aside0.mk (Kd.R_reads' hv).2.1
   have HS1 := Aside0.mk (Kd.C_below HS.out hb)
   have hq15 := RH.out.size
   rw [HHs.out] at hq15
   have RH1 := Aside0.mk (RH.out.trans (hb.mono hq15))
   have RB1 := Aside0.mk (RB.out.trans (hb.mono RB.out.size))
   clear hv hb RH RB hq15 HS
   have RH := RH1
   have RB := RB1
   have HS := HS1
   clear RH1 RB1 HS1
   go_wp2_with (go_at_call 29; refine stopper ?_)
   try unfold Hold
   refine (bibelotlaw07_ints.calls k A2 c2 x A5 c5 x true _ (Kd.C_below HX6.out (show Below w6.heap.size w6 _ by rw [HHs.out]; exact RH.out)) HXc.out (Kd.C_below HA6.out (show Below w6.heap.size w6 _ by rw [HHs.out]; exact RH.out)) HAc.out HF13.out).mono ?_
   rintro e w17 ⟨rfl, hd⟩
   have hb := hd.below
   clear hd
   have hq15 := RH.out.size
   rw [HHs.out] at hq15
   have RH1 := Aside0.mk (RH.out.trans (hb.mono hq15))
   have RB1 := Aside0.mk (RB.out.trans (hb.mono RB.out.size))
   have HS1 := Aside0.mk (Kd.C_below HS.out hb)
   have HT1 := Aside0.mk (Kd.C_below HT.out hb)
   clear hb RH RB hq15 HS HT
   have RH := RH1
   have RB := RB1
   have HS := HS1
   have HT := HT1
   clear RH1 RB1 HS1 HT1
   go_wp2_with (go_at_call 29; refine stopper ?_)
   try unfold Hold
   refine (bibelotlaw07_ints.calls k A4 c4 y A6 c6 y true _ (Kd.C_below HY6.out (show Below w6.heap.size w6 _ by rw [HHs.out]; exact RH.out)) HYc.out (Kd.C_below HBb6.out (show Below w6.heap.size w6 _ by rw [HHs.out]; exact RH.out)) HBbc.out HF14.out).mono ?_
   rintro e w18 ⟨rfl, hd⟩
   have hb := hd.below
   clear hd
   have hq15 := RH.out.size
   rw [HHs.out] at hq15
   have RH1 := Aside0.mk (RH.out.trans (hb.mono hq15))
   have RB1 := Aside0.mk (RB.out.trans (hb.mono RB.out.size))
   have HS1 := Aside0.mk (Kd.C_below HS.out hb)
   have HT1 := Aside0.mk (Kd.C_below HT.out hb)
   clear hb RH RB hq15 HS HT
   have RH := RH1
   have RB := RB1
   have HS := HS1
   have HT := HT1
   clear RH1 RB1 HS1 HT1
   go_wp2_with (go_at_call 38; refine stopper ?_)
   try unfold Hold
   refine (bibelotref07_Picture.calls k A6 c6 y r _ (Kd.C_below HBb6.out (show Below w6.heap.size w6 _ by rw [HHs.out]; exact RH.out)) HBbc.out HF15.out).mono ?_
   rintro e w19 ⟨v19, rfl, hv, hb⟩
   obtain ⟨A19, c19, rfl⟩ := Kd.R_slice hv
   have HP := Aside0.mk (Kd.R_reads' hv).2.2
   have HPc := Aside0.mk (Kd.R_reads' hv).2.1
   clear hv
   have hq15 := RH.out.size
   rw [HHs.out] at hq15
   have RH1 := Aside0.mk (RH.out.trans (hb.mono hq15))
   have RB1 := Aside0.mk (RB.out.trans (hb.mono RB.out.size))
   have HS1 := Aside0.mk (Kd.C_below HS.out hb)
   have HT1 := Aside0.mk (Kd.C_below HT.out hb)
   clear hb RH RB hq15 HS HT
   have RH := RH1
   have RB := RB1
   have HS := HS1
   have HT := HT1
   clear RH1 RB1 HS1 HT1
   go_wp2_with (go_at_call 29; refine stopper ?_)
   try unfold Hold
   refine (bibelotlaw07_ints.calls k A15 c15 r A19 c19 r true _ HS.out HSc.out HP.out HPc.out HF16.out).mono ?_
   rintro e w20 ⟨rfl, hd⟩
   have hb := hd.below
   clear hd
   have hq15 := RH.out.size
   rw [HHs.out] at hq15
   have RH1 := Aside0.mk (RH.out.trans (hb.mono hq15))
   have RB1 := Aside0.mk (RB.out.trans (hb.mono RB.out.size))
   have HT1 := Aside0.mk (Kd.C_below HT.out hb)
   clear hb RH RB hq15 HT
   have RH := RH1
   have RB := RB1
   have HT := HT1
   clear RH1 RB1 HT1
   go_wp2_with (go_at_call 29; refine stopper ?_)
   try unfold Hold
   refine (bibelotlaw07_ints.calls k A16 c16 t A5 c5 x true _ HT.out HTc.out (Kd.C_below HA6.out (show Below w6.heap.size w6 _ by rw [HHs.out]; exact RH.out)) HAc.out HF17.out).mono ?_
   rintro e w21 ⟨rfl, hd⟩
   have hb := hd.below
   clear hd
   have hq15 := RH.out.size
   rw [HHs.out] at hq15
   have RH1 := Aside0.mk (RH.out.trans (hb.mono hq15))
   have RB1 := Aside0.mk (RB.out.trans (hb.mono RB.out.size))
   clear hb RH RB hq15 
   have RH := RH1
   have RB := RB1
   clear RH1 RB1 
   go_wp2_with (go_at_call 26; refine stopper ?_)
   try unfold Hold
   refine (bibelotlaw07_awake.calls true _ h18).mono ?_
   rintro e w22 ⟨rfl, hb⟩
   have hq15 := RH.out.size
   rw [HHs.out] at hq15
   have RH1 := Aside0.mk (RH.out.trans (hb.mono hq15))
   have RB1 := Aside0.mk (RB.out.trans (hb.mono RB.out.size))
   clear hb RH RB hq15 
   have RH := RH1
   have RB := RB1
   clear RH1 RB1 
   go_wp2
   go_ret
   exact ⟨rfl, RB.out⟩
end Go.Proofs.Ytepjhdblmghckaa.G
/- The document's picture. -/
namespace Go.Proofs.Ytepjhdblmghckaa.G
set_option linter.unusedVariables false
set_option linter.unusedSimpArgs false
set_option linter.unusedSectionVars false
open Go.Proofs.Ytepjhdblmghckaa.Q Go.Proofs.Ytepjhdblmghckaa.K Go.Proofs.Ytepjhdblmghckaa.Bf
open Go.RowKit Go.Proofs.YtepjhdblmghckaaW.PrintWords Go.Proofs.YtepjhdblmghckaaW.PrintLast Go.Proofs.YtepjhdblmghckaaW.PrintMore
theorem picTo_succ (l : List Int) (i : Nat) (h : i < l.length) : picTo (l.take (i + 1)) = picTo (l.take i) ++ pic1 (nth l i) := by
 unfold picTo
 rw [List.take_add_one, List.getElem?_eq_getElem h, List.flatMap_append, nth_get l i h]
 simp
theorem rpicture_l0 (l : List Int) (hl : l.length ≤ 1000) (hs : Smalls l) : ∀ d i : Nat, i + d = l.length → Ev (fun k => bibelotref07_Picture.l0 k l (picTo (l.take i)) (i : Int)) (picL l)
 | 0, i, h => by
  have hp := picTo_len l
  refine Ev.step (f := fun _ => some (picL l)) (fun k => ?_) (Ev.now _)
  rw [bibelotref07_Picture.l0, if_neg (by omega), List.take_of_length_le (by omega), if_pos (by omega), w64 (x := 2 * (l.length : Int)) (by omega) (by omega), w64 (by omega) (by omega)]
  rfl
 | d + 1, i, h => by
  have ih := rpicture_l0 l hl hs d (i + 1) (by omega)
  have hp := picTo_len (l.take i)
  rw [List.length_take] at hp
  have hv := hs i
  obtain ⟨v, hve⟩ : ∃ v, nth l i = v := ⟨_, rfl⟩
  rw [picTo_succ l i (by omega), hve] at ih
  rw [hve] at hv
  refine Ev.step (fun k => ?_) ih
  have hw : wrap64 ((i : Int) + 1) = ((i + 1 : Nat) : Int) := up1 i (by omega)
  rw [bibelotref07_Picture.l0, if_pos (by omega), if_pos (by omega), rd_nth, hve, abs_f _ (by omega), Option.bind_some, hw]
  by_cases hpos : v > 0
  ·have e : pic1 v = [wrap64 (wrap64 (2 * (v.natAbs : Int)) - 1), wrap64 (2 * (v.natAbs : Int))] := by
    unfold pic1
    rw [if_pos hpos, w64 (x := 2 * (v.natAbs : Int)) (by omega) (by omega), w64 (by omega) (by omega), show 2 * (v.natAbs : Int) = 2 * v by omega]
   rw [if_pos hpos, Option.bind_some, if_pos (by simp only [List.length_cons, List.length_nil]; omega), ← e]
  ·have e : pic1 v = [wrap64 (2 * (v.natAbs : Int)), wrap64 (wrap64 (2 * (v.natAbs : Int)) - 1)] := by
    unfold pic1
    rw [if_neg hpos, w64 (x := 2 * (v.natAbs : Int)) (by omega) (by omega), w64 (by omega) (by omega), show 2 * (v.natAbs : Int) = -2 * v by omega]
   rw [if_neg hpos, Option.bind_some, if_pos (by simp only [List.length_cons, List.length_nil]; omega), ← e]
theorem rpicture_ev (l : List Int) (hl : l.length ≤ 1000) (hs : Smalls l) : Ev (fun k => bibelotref07_Picture.f k l) (picL l) := rpicture_l0 l hl hs l.length 0 (by omega)
end Go.Proofs.Ytepjhdblmghckaa.G
/- PancakeOwn: what is reckoned, and the law. -/
namespace Go.Proofs.Ytepjhdblmghckaa.Pure
set_option linter.unusedVariables false
set_option linter.unusedSimpArgs false
set_option linter.unusedSectionVars false
open Go.Proofs.Ytepjhdblmghckaa.G Go.Proofs.Ytepjhdblmghckaa.K Go.Proofs.Ytepjhdblmghckaa.Bf
open Go.RowKit Go.Proofs.Ytepjhdblmghckaa.Q Go.Proofs.YtepjhdblmghckaaW.PrintWords Go.Proofs.YtepjhdblmghckaaW.PrintLast
theorem own_id {l : List Int} (h : l.length ≤ 41) : bibelotlaw07_own.f l = some l := by
 unfold bibelotlaw07_own.f
 rw [List.take_of_length_le h]
theorem sum_ge : ∀ (l : List (List Int)) (z : List Int), z ∈ l → z.length ≤ (l.map List.length).sum
 | a :: l, z, h => by
  rw [List.map_cons, List.sum_cons]
  rcases List.mem_cons.1 h with rfl | h
  ·omega
  ·have := sum_ge l z h; omega
theorem PancakeOwn_w (a0 : Int) (A1 : Option Addr) (c1 : Nat) (l1 : List Int) (a2 : Int) (w : World) (hr1 : Kd.C (Kd.int .i64) w A1 l1.length l1) (hc1 : l1.length ≤ c1) :
  Calls Try.prog 19 #[.int .i64 a0, .slice A1 l1.length c1, .int .i64 a2] w fun e w' => e = .returned (.bool true) ∧ Below w.heap.size w w' := by
 obtain ⟨n, hn1, hn, hne⟩ := many_f a0 6 (by decide) (by decide)
 have h6 : bibelotlaw07_many.f a0 6 = some (n : Int) := hne
 have hx := rowOf_stk l1 false n
 have hy := rowOf_stk l1 true n
 obtain ⟨x, hxe⟩ : ∃ x, rowOf l1 false n = x := ⟨_, rfl⟩
 obtain ⟨y, hye⟩ : ∃ y, rowOf l1 true n = y := ⟨_, rfl⟩
 rw [hxe] at hx
 rw [hye] at hy
 have hxl := hx.len
 have hyl := hy.len
 obtain ⟨m, hm1, hm, hme⟩ := many_f a2 n (by omega) (by omega)
 have f1 := pflip_ev hx hn1 (by omega) (m : Int)
 rw [if_neg (by omega)] at f1
 have f2 := pflip_ev hx hn1 (by omega) 1
 rw [if_neg (by omega)] at f2
 have e0 : (1 : Int).toNat - 1 = 0 := rfl
 rw [e0, flL_one] at f2
 have i1 := ints_ev x x (by omega)
 have i2 := ints_ev y y (by omega)
 have i3 := ints_ev (picL y) (picL y) (by rw [picL_len]; omega)
 rw [decide_eq_true rfl] at i1 i2 i3
 have p1 := rpicture_ev y (by omega) (hy.small (by omega))
 obtain ⟨K1, g1⟩ := f1
 obtain ⟨K2, g2⟩ := f2
 obtain ⟨K3, g3⟩ := i1
 obtain ⟨K4, g4⟩ := i2
 obtain ⟨K5, g5⟩ := i3
 obtain ⟨K6, g6⟩ := p1
 obtain ⟨K7, g7⟩ := awake_ev
 have hsy := isSt_stk (most := 40) hy hn1 (by omega)
 have ht : pancake_Turn.f y 0 (wrap64 ((y.length : Int) - 1)) = some (flL true y 0 (n - 1), 0) := by
  unfold pancake_Turn.f
  rw [if_pos hsy, w64 (by omega) (by omega), if_neg (by omega)]
  rw [show ((y.length : Int) - 1).toNat = n - 1 by omega]
  rfl
 have hp : pancake_Picture.f y = some (picL y, 0) := by unfold pancake_Picture.f; rw [if_pos hsy]
 have hc : pancake_Circles.f y = some (circL y, 0) := by unfold pancake_Circles.f; rw [if_pos hsy]
 have htot := circL_tot (s := y) (fun v hv => by have := hy.rng v hv; rw [hyl]; exact this)
 have hol := (ord_all (n := n) (by omega) hx).2.1
 have hgl := gap_lt (n := n) (by omega) false x (firstL n)
 have hme2 : bibelotlaw07_many.f a2 (x.length : Int) = some (m : Int) := by rw [hxl]; exact hme
 have hcl := htot.len
 refine own_calls (K1 + K2 + K3 + K4 + K5 + K6) a0 A1 c1 l1 a2 w hr1 hc1 (n : Int) (m : Int) x y _ _ _ (picL y) x (circL y) h6 (by rw [row_f l1 n false (by omega), hxe]) (by rw [row_f l1 n true (by omega), hye]) (own_id (by omega)) (own_id (by omega))
  hme2 (g1 _ (by omega)) (porder_ok (by omega) hx hn1) ht hp hc (g2 _ (by omega)) (g3 _ (by omega)) (g4 _ (by omega)) (g6 _ (by omega)) (g5 _ (by omega)) (g3 _ (by omega)) (g7 K7 (Nat.le_refl _)) ⟨by rw [flL_len]; omega, by rw [List.length_map, hol]; omega, by rw [flL_len]; omega, by rw [picL_len]; omega, by omega, fun z hz => ?_⟩
 have := sum_ge _ z hz
 have := htot.sum
 omega
end Go.Proofs.Ytepjhdblmghckaa.Pure
