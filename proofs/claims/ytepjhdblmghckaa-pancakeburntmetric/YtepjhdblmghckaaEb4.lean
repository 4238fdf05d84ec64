/- A part that the chapter's proofs share: contracts of the functions, and plain lemmas (part b4). -/
import Derived.Test.YtepjhdblmghckaaEb1
import Derived.Test.YtepjhdblmghckaaEb3
import Derived.Test.YtepjhdblmghckaaEb2
namespace Go.Proofs.Ytepjhdblmghckaa.G
end Go.Proofs.Ytepjhdblmghckaa.G
namespace Go.Proofs.Ytepjhdblmghckaa.Q
set_option linter.unusedVariables false
set_option linter.unusedSimpArgs false
set_option linter.unusedSectionVars false
open Go.Proofs.Ytepjhdblmghckaa.G
open Go.RowKit Go.Proofs.YtepjhdblmghckaaW.PrintWords Go.Proofs.YtepjhdblmghckaaW.PrintLast Go.Proofs.YtepjhdblmghckaaW.PrintMore
attribute [local go_sem] max2_int min2_int max_two min_two max_three min_three max_four min_four   -- for this text's walks alone

/-! ### bibelotref07_Stack: function 57 -/
def bibelotref07_Stack.l0 : Nat → List Int → Int → Option (Bool)
 | 0, _, _ => none
 | k + 1, x0, x3 => if x3 < (x0.length : Int) then (if 0 ≤ x3 then (if (rd x0 x3) < 1 then (some false) else (bibelotref07_Stack.l0 k x0 (wrap64 (x3 + 1)))) else (none)) else ((bibelotref07_Row.f k x0 7).bind fun t702 => (some t702))
def bibelotref07_Stack.f (k : Nat) (l0 : List Int) : Option (Bool) := bibelotref07_Stack.l0 k l0 0
theorem bibelotref07_Stack.mono_l : ∀ k, (∀ y0 y1, LeO (bibelotref07_Stack.l0 k y0 y1) (bibelotref07_Stack.l0 (k + 1) y0 y1))
 | 0 => fun _ _ r h => by simp [bibelotref07_Stack.l0] at h
 | k + 1 => by
  have ih0 := bibelotref07_Stack.mono_l k
  ·intro y0 y1
   unfold bibelotref07_Stack.l0
   repeat' first
   | (with_reducible exact ih0 _ _)
   | (with_reducible exact bibelotref07_Row.mono _ _ _)
   | (with_reducible exact LeO.refl _)
   | (with_reducible exact LeO.none _)
   | (with_reducible refine LeO.ite ?_ ?_)
   | (with_reducible refine LeO.bind ?_ (fun _ => ?_))
   | exact ih0 _ _
   | exact bibelotref07_Row.mono _ _ _
   | exact LeO.none _
   | refine LeO.ite ?_ ?_
   | refine LeO.bind ?_ (fun _ => ?_)
theorem bibelotref07_Stack.mono : ∀ a0 k, LeO (bibelotref07_Stack.f k a0) (bibelotref07_Stack.f (k + 1) a0) := by
 intro a0 k
 have ih0 := bibelotref07_Stack.mono_l k
 unfold bibelotref07_Stack.f
 repeat' first
   | (with_reducible exact ih0 _ _)
   | (with_reducible exact bibelotref07_Row.mono _ _ _)
   | (with_reducible exact LeO.refl _)
   | (with_reducible exact LeO.none _)
   | (with_reducible refine LeO.ite ?_ ?_)
   | (with_reducible refine LeO.bind ?_ (fun _ => ?_))
   | exact ih0 _ _
   | exact bibelotref07_Row.mono _ _ _
   | exact LeO.none _
   | refine LeO.ite ?_ ?_
   | refine LeO.bind ?_ (fun _ => ?_)
set_option maxHeartbeats 8000000 in
set_option maxRecDepth 100000 in
theorem bibelotref07_Stack.calls (k : Nat) (A0 : Option Addr) (c0 : Nat) (l0 : List Int) (r : Bool) (w : World) (hr0 : Kd.C (Kd.int .i64) w A0 l0.length l0) (hc0 : l0.length ≤ c0) (h : bibelotref07_Stack.f k l0 = some r) :
  Calls Try.prog 57 #[.slice A0 l0.length c0] w fun e w' => e = .returned (.bool r) ∧ Below w.heap.size w w' := by
 have HR0 := Aside0.mk hr0
 have HC0 := Aside0.mk hc0
 clear hr0 hc0
 have HB := Aside0.mk (Below.refl w.heap.size w)
 have H : (bibelotref07_Stack.l0 k l0 0) = some r := h
 clear h
 have H' := Aside0.mk H
 clear H
 go_enter Try.func57, Try.ntmps57
 go_wp2
 go_loopg [3] k (fun kq v3 w' => ∃ (x3_1 : Int), v3 = .int .i64 x3_1 ∧ Aside0 (bibelotref07_Stack.l0 kq l0 x3_1 = some r) ∧ Aside0 (kq ≤ k) ∧ Aside0 (Below w.heap.size w w'))
 case atStart => exact ⟨(0), (by first | rfl | (simp; done) | (simp [*]; done)), H', ⟨Nat.le_refl _⟩, ⟨by repeat (first | (with_reducible first | exact HB.out | apply below_alloc | apply pw_below_drewN | apply below_drew1) | exact HB.out)⟩⟩
 case round =>
  clear H'
  obtain ⟨x3_1, rfl, HA, HK1, HB⟩ := hrel
  cases gk with
  | zero => exact absurd HA.out (by simp [bibelotref07_Stack.l0])
  | succ k1 =>
   have H := HA.out
   clear HA
   simp only [bibelotref07_Stack.l0] at H
   by_cases c2 : x3_1 < (l0.length : Int)
   ·rw [if_pos c2] at H
    have c2b0 : decide (x3_1 < (l0.length : Int)) = true := decide_eq_true c2
    clear c2
    by_cases c3 : 0 ≤ x3_1
    ·rw [if_pos c3] at H
     have c3b0 : decide (0 ≤ x3_1) = true := decide_eq_true c3
     clear c3
     by_cases c4 : (rd l0 x3_1) < 1
     ·rw [if_pos c4] at H
      have c4b0 : decide ((rd l0 x3_1) < 1) = true := decide_eq_true c4
      clear c4
      obtain rfl := Option.some.inj H
      have p701 : 0 ≤ (x3_1 : Int) := of_decide_eq_true (by first | (with_reducible assumption) | assumption)
      have q701 : x3_1 < (l0.length : Int) := of_decide_eq_true (by first | (with_reducible assumption) | assumption)
      obtain ⟨ad701, e701, hx701_0⟩ := Kd.at_int HR0.out x3_1 p701 q701
      cases e701
      replace hx701_0 := (HB.out.cell (World.block_lt_of_cell? w _ hx701_0)).trans hx701_0
      replace p701 := eq_true p701
      replace q701 := eq_true q701
      go_wp2
      go_ret
      exact ⟨by first | rfl | (simp [errW_none, errW_some] <;> rfl) | (simp [*, errW_none, errW_some] <;> rfl), by repeat (first | (with_reducible first | exact HB.out | apply below_alloc | apply pw_below_drewN | apply below_drew1) | exact HB.out)⟩
     ·rw [if_neg c4] at H
      have c4b0 : decide ((rd l0 x3_1) < 1) = false := decide_eq_false c4
      clear c4
      have H' := Aside0.mk H
      clear H
      have p701 : 0 ≤ (x3_1 : Int) := of_decide_eq_true (by first | (with_reducible assumption) | assumption)
      have q701 : x3_1 < (l0.length : Int) := of_decide_eq_true (by first | (with_reducible assumption) | assumption)
      obtain ⟨ad701, e701, hx701_0⟩ := Kd.at_int HR0.out x3_1 p701 q701
      cases e701
      replace hx701_0 := (HB.out.cell (World.block_lt_of_cell? w _ hx701_0)).trans hx701_0
      replace p701 := eq_true p701
      replace q701 := eq_true q701
      go_wp2
      go_roundg k1
      case measure => have := HK1.out; omega
      case rel => exact ⟨(wrap64 (x3_1 + 1)), (by first | rfl | (simp; done) | (simp [*]; done)), H', ⟨by have := HK1.out; omega⟩, ⟨by repeat (first | (with_reducible first | exact HB.out | apply below_alloc | apply pw_below_drewN | apply below_drew1) | exact HB.out)⟩⟩
    ·rw [if_neg c3] at H
     exact absurd H (by simp)
   ·rw [if_neg c2] at H
    have c2b0 : decide (x3_1 < (l0.length : Int)) = false := decide_eq_false c2
    clear c2
    replace H := Option.bind_eq_some_iff.mp H
    obtain ⟨t702, A50, H⟩ := H
    replace H : (some t702) = some r := H
    have A5 := Aside0.mk A50
    clear A50
    obtain rfl := Option.some.inj H
    go_wp2_with (first|((with_reducible refine gate_callee (f := 56) rfl ?_);refine goesL_ (some 16) rfl rfl Try.func56 (by kernel_rfl) rfl #[.slice A0 l0.length c0, .int .i64 7] rfl (by (try simp only [List.map_toArray, List.map_cons, List.map_nil]);first|done|rfl|(simp only [List.length_drop, List.length_take];rfl)) ?_;(with_reducible refine (bibelotref07_Row.calls k1 _ _ l0 7 t702 _ ?side1 ?side2 A5.out).mono ?_);(case side1 => repeat (first|exact (Kd.C_below HR0.out HB.out)|(with_reducible refine Kd.C_alloc ?_ _)|(with_reducible refine Kd.C_drewN ?_ _)|(with_reducible refine Kd.C_drew ?_)));(case side2 => exact HC0.out);rintro e w6 ⟨rfl, hb⟩;refine ⟨_, rfl, ?_⟩;have n0_ := Aside0.mk (below_step (by repeat (first|(with_reducible first|exact HB.out|apply below_alloc|apply pw_below_drewN|apply below_drew1)|exact HB.out)) hb);clear HB;have HB := n0_;clear n0_;(try clear hb);(try clear hb2);(try clear hk);(try clear hi)))
    go_ret
    exact ⟨by first | rfl | (simp [errW_none, errW_some] <;> rfl) | (simp [*, errW_none, errW_some] <;> rfl), by repeat (first | (with_reducible first | exact HB.out | apply below_alloc | apply pw_below_drewN | apply below_drew1) | exact HB.out)⟩

end Go.Proofs.Ytepjhdblmghckaa.Q
namespace Go.Proofs.Ytepjhdblmghckaa.G
end Go.Proofs.Ytepjhdblmghckaa.G
namespace Go.Proofs.Ytepjhdblmghckaa.Q
set_option linter.unusedVariables false
set_option linter.unusedSimpArgs false
set_option linter.unusedSectionVars false
open Go.Proofs.Ytepjhdblmghckaa.G
open Go.RowKit Go.Proofs.YtepjhdblmghckaaW.PrintWords Go.Proofs.YtepjhdblmghckaaW.PrintLast Go.Proofs.YtepjhdblmghckaaW.PrintMore
attribute [local go_sem] max2_int min2_int max_two min_two max_three min_three max_four min_four   -- for this text's walks alone

/-! ### pancake_CheckRow: function 55 -/
def pancake_CheckRow.f (k : Nat) (l0 : List Int) : Option (Int) := (pancake_check.f k true 40 (([l0] : List (List Int)))).bind fun t657 => (some t657)
theorem pancake_CheckRow.mono : ∀ a0 k, LeO (pancake_CheckRow.f k a0) (pancake_CheckRow.f (k + 1) a0) := by
 intro a0 k
 unfold pancake_CheckRow.f
 repeat' first
   | (with_reducible exact pancake_check.mono _ _ _ _)
   | (with_reducible exact LeO.refl _)
   | (with_reducible exact LeO.none _)
   | (with_reducible refine LeO.ite ?_ ?_)
   | (with_reducible refine LeO.bind ?_ (fun _ => ?_))
   | exact pancake_check.mono _ _ _ _
   | exact LeO.none _
   | refine LeO.ite ?_ ?_
   | refine LeO.bind ?_ (fun _ => ?_)
set_option maxHeartbeats 8000000 in
set_option maxRecDepth 100000 in
theorem pancake_CheckRow.calls (k : Nat) (P0_ : Nat → Prop) (A0 : Option Addr) (c0 : Nat) (l0 : List Int) (r : Int) (w : World) (hs0 : Kd.V (Kd.int .i64) 3 w w.heap.size (fun k_ => P0_ k_) (.slice A0 l0.length c0) l0) (h : pancake_CheckRow.f k l0 = some r) :
  Calls Try.prog 55 #[.slice A0 l0.length c0] w fun e w' => e = .returned (.int .i64 r) ∧ Below w.heap.size w w' := by
 have HO0 := Aside0.mk (show Kd.V (Kd.int .i64) 3 w w.heap.size (fun k_ => (P0_ k_ ∨ w.heap.size ≤ k_)) (.slice A0 l0.length c0) l0 from Kd.V_mono hs0 (fun k_ hk => .inl hk))
 have HB := Aside0.mk (Below.refl w.heap.size w)
 have H : ((pancake_check.f k true 40 (([l0] : List (List Int)))).bind fun t657 => (some t657)) = some r := h
 clear h
 obtain ⟨y654, hy654⟩ : ∃ y_ : List (List Int), y_ = (([l0] : List (List Int))) := ⟨_, rfl⟩
 replace H : ((pancake_check.f k true 40 y654).bind fun t657 => (some t657)) = some r := by first | (rw [hy654]; with_reducible exact H) | (have H2_ := (Option.bind_some _ _).symm.trans H; rw [hy654]; with_reducible exact H2_) | (have H2_ := (Option.bind_some _ _).symm.trans H; with_reducible exact H2_) | with_reducible exact H | (rw [hy654]; exact H) | exact H
 have Ny654 := Aside0.mk hy654
 clear hy654
 replace H := Option.bind_eq_some_iff.mp H
 obtain ⟨t657, A20, H⟩ := H
 replace H : (some t657) = some r := H
 have A2 := Aside0.mk A20
 clear A20
 obtain rfl := Option.some.inj H
 go_enter Try.func55, Try.ntmps55
 go_wp2_with (first|((with_reducible refine gate_dst (N := 4) rfl ?_);refine Kd.N_lit (Kd.slice 3 (Kd.int .i64)) _ 22 ?hg (N' := 4) ?hd (xs := ([l0] : List (List Int))) (inner := [.slice A0 l0.length c0]) (ok := (fun k_ => (P0_ k_ ∨ w.heap.size ≤ k_))) (okp := (fun k_ => (P0_ k_ ∨ w.heap.size ≤ k_))) ?hr ?hp (fun _ hk => hk) ((show ∀ k_, w.heap.size ≤ k_ → (fun k_ => (P0_ k_ ∨ w.heap.size ≤ k_)) k_ from fun k_ hk => (.inr (Nat.le_trans (below_size (by repeat (first|(with_reducible first|exact HB.out|apply below_alloc|apply pw_below_drewN|apply below_drew1)|exact HB.out))) hk))) _ (Nat.le_refl _)) (Below.refl _ _) (Nat.le_refl _) (by simp) ?_;(case hd => rfl);(case hg => rfl);(case hr => first|(go_simp;done)|(go_simp;rfl));(case hp => exact (Reps.one (show Kd.FK (Kd.slice 3 (Kd.int .i64)) _ _ l0 [.slice A0 l0.length c0] from (Kd.FK_slice_mk (Kd.V_reads' (Kd.V_mono (ok' := (fun k_ => (P0_ k_ ∨ w.heap.size ≤ k_))) (HO0.out) (fun k_ hk => hk))).2.1 (Kd.V_F (Kd.V_mono (ok' := (fun k_ => (P0_ k_ ∨ w.heap.size ≤ k_))) (HO0.out) (fun k_ hk => hk))))) (Reps.none _ _)));intro v655 w3 ho4 hb hg_ hnew_;clear hg_ hnew_;(first|rw [← Ny654.out] at ho4|(simp only [Int.reduceToNat] at ho4;rw [← Ny654.out] at ho4));have n0_ := Aside0.mk (Kd.V_elder' (by (with_reducible repeat (first|apply Kd.V_alloc|apply Kd.V_drewN|apply Kd.V_drew));exact HO0.out) (Kd.N_base ho4) hb);have n1_ := Aside0.mk (Kd.N_lower ho4 (below_size (by repeat (first|(with_reducible first|exact HB.out|apply below_alloc|apply pw_below_drewN|apply below_drew1)|exact HB.out))));have n2_ := Aside0.mk (below_step (by repeat (first|(with_reducible first|exact HB.out|apply below_alloc|apply pw_below_drewN|apply below_drew1)|exact HB.out)) hb);clear HO0;clear HB;have HO0 := n0_;have HO656 := n1_;have HB := n2_;clear n0_ n1_ n2_;clear hb ho4;obtain ⟨Ao5, co5, eo5⟩ := Kd.N_slice HO656.out;subst eo5)|((with_reducible refine gate_callee (f := 68) rfl ?_);refine goesL_ (some 5) rfl rfl Try.func68 (by kernel_rfl) rfl #[.bool true, .int .i64 40, .slice Ao5 y654.length co5] rfl (by (try simp only [List.map_toArray, List.map_cons, List.map_nil]);first|done|rfl|(simp only [List.length_drop, List.length_take];rfl)) ?_;(with_reducible refine (pancake_check.calls k true 40 _ _ y654 t657 _ ?side1 ?side2 A2.out).mono ?_);(case side1 => repeat (first|exact (Kd.N_reads' HO656.out).2.2|(with_reducible refine Kd.C_alloc ?_ _)|(with_reducible refine Kd.C_drewN ?_ _)|(with_reducible refine Kd.C_drew ?_)));(case side2 => exact (Kd.N_reads' HO656.out).2.1);rintro e w6 ⟨rfl, hb⟩;refine ⟨_, rfl, ?_⟩;have n0_ := Aside0.mk (Kd.V_below (by (with_reducible repeat (first|apply Kd.V_alloc|apply Kd.V_drewN|apply Kd.V_drew));exact HO0.out) hb);have n1_ := Aside0.mk (Kd.N_below (by (with_reducible repeat (first|apply Kd.N_alloc|apply Kd.N_drewN|apply Kd.N_drew));exact HO656.out) hb);have n2_ := Aside0.mk (below_step (by repeat (first|(with_reducible first|exact HB.out|apply below_alloc|apply pw_below_drewN|apply below_drew1)|exact HB.out)) hb);clear HO0;clear HO656;clear HB;have HO0 := n0_;have HO656 := n1_;have HB := n2_;clear n0_ n1_ n2_;(try clear hb);(try clear hb2);(try clear hk);(try clear hi)))
 go_ret
 exact ⟨by first | rfl | (simp [errW_none, errW_some] <;> rfl) | (simp [*, errW_none, errW_some] <;> rfl), by repeat (first | (with_reducible first | exact HB.out | apply below_alloc | apply pw_below_drewN | apply below_drew1) | exact HB.out)⟩

end Go.Proofs.Ytepjhdblmghckaa.Q
namespace Go.Proofs.Ytepjhdblmghckaa.G
end Go.Proofs.Ytepjhdblmghckaa.G
namespace Go.Proofs.Ytepjhdblmghckaa.Q
set_option linter.unusedVariables false
set_option linter.unusedSimpArgs false
set_option linter.unusedSectionVars false
open Go.Proofs.Ytepjhdblmghckaa.G
open Go.RowKit Go.Proofs.YtepjhdblmghckaaW.PrintWords Go.Proofs.YtepjhdblmghckaaW.PrintLast Go.Proofs.YtepjhdblmghckaaW.PrintMore
attribute [local go_sem] max2_int min2_int max_two min_two max_three min_three max_four min_four   -- for this text's walks alone

/-! ### bibelotref07_Flip: function 34 -/
def bibelotref07_Flip.l0 : Nat → List Int → Int → Bool → List Int → Int → Option (List Int)
 | 0, _, _, _, _, _ => none
 | k + 1, x0, x1, x2, x7, x8 => if x8 < (x0.length : Int) then (if 0 ≤ x8 then (if x8 < x1 then (if 0 ≤ (wrap64 ((wrap64 (x1 - 1)) - x8)) then (if (wrap64 ((wrap64 (x1 - 1)) - x8)) < (x0.length : Int) then (if x2 = true then (if x7.length < 17592186044416 then (bibelotref07_Flip.l0 k x0 x1 x2 (x7 ++ [wrap64 (-(rd x0 (wrap64 ((wrap64 (x1 - 1)) - x8))))]) (wrap64 (x8 + 1))) else (none)) else (if x7.length < 17592186044416 then (bibelotref07_Flip.l0 k x0 x1 x2 (x7 ++ [rd x0 (wrap64 ((wrap64 (x1 - 1)) - x8))]) (wrap64 (x8 + 1))) else (none))) else (none)) else (none)) else (if x7.length < 17592186044416 then (bibelotref07_Flip.l0 k x0 x1 x2 (x7 ++ [rd x0 x8]) (wrap64 (x8 + 1))) else (none))) else (none)) else (some x7)
def bibelotref07_Flip.f (k : Nat) (l0 : List Int) (a1 : Int) (a2 : Bool) : Option (List Int) := bibelotref07_Flip.l0 k l0 a1 a2 ([] : List Int) 0
theorem bibelotref07_Flip.mono_l : ∀ k, (∀ y0 y1 y2 y3 y4, LeO (bibelotref07_Flip.l0 k y0 y1 y2 y3 y4) (bibelotref07_Flip.l0 (k + 1) y0 y1 y2 y3 y4))
 | 0 => fun _ _ _ _ _ r h => by simp [bibelotref07_Flip.l0] at h
 | k + 1 => by
  have ih0 := bibelotref07_Flip.mono_l k
  ·intro y0 y1 y2 y3 y4
   unfold bibelotref07_Flip.l0
   repeat' first
   | (with_reducible exact ih0 _ _ _ _ _)
   | (with_reducible exact LeO.refl _)
   | (with_reducible exact LeO.none _)
   | (with_reducible refine LeO.ite ?_ ?_)
   | (with_reducible refine LeO.bind ?_ (fun _ => ?_))
   | exact ih0 _ _ _ _ _
   | exact LeO.none _
   | refine LeO.ite ?_ ?_
   | refine LeO.bind ?_ (fun _ => ?_)
theorem bibelotref07_Flip.mono : ∀ a0 a1 a2 k, LeO (bibelotref07_Flip.f k a0 a1 a2) (bibelotref07_Flip.f (k + 1) a0 a1 a2) := by
 intro a0 a1 a2 k
 have ih0 := bibelotref07_Flip.mono_l k
 unfold bibelotref07_Flip.f
 repeat' first
   | (with_reducible exact ih0 _ _ _ _ _)
   | (with_reducible exact LeO.refl _)
   | (with_reducible exact LeO.none _)
   | (with_reducible refine LeO.ite ?_ ?_)
   | (with_reducible refine LeO.bind ?_ (fun _ => ?_))
   | exact ih0 _ _ _ _ _
   | exact LeO.none _
   | refine LeO.ite ?_ ?_
   | refine LeO.bind ?_ (fun _ => ?_)
set_option maxHeartbeats 8000000 in
set_option maxRecDepth 100000 in
theorem bibelotref07_Flip.calls (k : Nat) (A0 : Option Addr) (c0 : Nat) (l0 : List Int) (a1 : Int) (a2 : Bool) (r : List Int) (w : World) (hr0 : Kd.C (Kd.int .i64) w A0 l0.length l0) (hc0 : l0.length ≤ c0) (h : bibelotref07_Flip.f k l0 a1 a2 = some r) :
  Calls Try.prog 34 #[.slice A0 l0.length c0, .int .i64 a1, .bool a2] w fun e w' => ∃ v0_ : Value, e = .returned (v0_) ∧ Kd.R (Kd.int .i64) 3 w' w.heap.size (fun _ => True) v0_ r ∧ Below w.heap.size w w' := by
 have HR0 := Aside0.mk hr0
 have HC0 := Aside0.mk hc0
 clear hr0 hc0
 have HB := Aside0.mk (Below.refl w.heap.size w)
 have H : (bibelotref07_Flip.l0 k l0 a1 a2 ([] : List Int) 0) = some r := h
 clear h
 have H' := Aside0.mk H
 clear H
 go_enter Try.func34, Try.ntmps34
 go_wp2
 go_loopg [7, 8] k (fun kq v7 v8 w' => ∃ (x7_1 : List Int) (x8_1 : Int), v8 = .int .i64 x8_1 ∧ Aside0 (bibelotref07_Flip.l0 kq l0 a1 a2 x7_1 x8_1 = some r) ∧ Aside0 (kq ≤ k) ∧ Aside0 (Kd.R (Kd.int .i64) 3 w' w.heap.size (fun _ => True) v7 x7_1) ∧ Aside0 (Below w.heap.size w w'))
 case atStart => exact ⟨(([] : List Int)), (0), (by first | rfl | (simp; done) | (simp [*]; done)), H', ⟨Nat.le_refl _⟩, ⟨by first | exact Kd.R_nil _ _ _ _ _ | exact Kd.N_nil _ _ _ _ _ | exact Kd.V_nil _ _ _ _ _ | exact Kd.Q_nil _ _ _ _ _ | exact Kd.S_nil _ _ _ _ _⟩, ⟨by repeat (first | (with_reducible first | exact HB.out | apply below_alloc | apply pw_below_drewN | apply below_drew1) | exact HB.out)⟩⟩
 case round =>
  clear H'
  try clear p2
  try clear c3
  obtain ⟨x7_1, x8_1, rfl, HA, HK1, HO_7, HB⟩ := hrel
  cases gk with
  | zero => exact absurd HA.out (by simp [bibelotref07_Flip.l0])
  | succ k1 =>
   have H := HA.out
   clear HA
   simp only [bibelotref07_Flip.l0] at H
   by_cases c4 : x8_1 < (l0.length : Int)
   ·rw [if_pos c4] at H
    have c4b0 : decide (x8_1 < (l0.length : Int)) = true := decide_eq_true c4
    clear c4
    by_cases c5 : 0 ≤ x8_1
    ·rw [if_pos c5] at H
     have c5b0 : decide (0 ≤ x8_1) = true := decide_eq_true c5
     clear c5
     by_cases c6 : x8_1 < a1
     ·rw [if_pos c6] at H
      have c6b0 : decide (x8_1 < a1) = true := decide_eq_true c6
      clear c6
      obtain ⟨ji7, hji7⟩ : ∃ j_ : Int, (wrap64 ((wrap64 (a1 - 1)) - x8_1)) = j_ := ⟨_, rfl⟩
      replace H : (if 0 ≤ (ji7) then (if (ji7) < (l0.length : Int) then (if a2 = true then (if x7_1.length < 17592186044416 then (bibelotref07_Flip.l0 k1 l0 a1 a2 (x7_1 ++ [wrap64 (-(rd l0 (ji7)))]) (wrap64 (x8_1 + 1))) else (none)) else (if x7_1.length < 17592186044416 then (bibelotref07_Flip.l0 k1 l0 a1 a2 (x7_1 ++ [rd l0 (ji7)]) (wrap64 (x8_1 + 1))) else (none))) else (none)) else (none)) = some r := by first | (rw [hji7] at H; exact H) | (simp only [hji7] at H ⊢; exact H)
      have hji7w : (IntKind.i64.wrap ((wrap64 (a1 - 1)) - x8_1)) = ji7 := (i64_w _).trans hji7
      by_cases c8 : 0 ≤ (ji7)
      ·rw [if_pos c8] at H
       have c8b0 : decide (0 ≤ (ji7)) = true := decide_eq_true c8
       clear c8
       by_cases c9 : (ji7) < (l0.length : Int)
       ·rw [if_pos c9] at H
        have c9b0 : decide ((ji7) < (l0.length : Int)) = true := decide_eq_true c9
        clear c9
        by_cases c10 : a2 = true
        ·subst c10
         have H1 : (if x7_1.length < 17592186044416 then (bibelotref07_Flip.l0 k1 l0 a1 true (x7_1 ++ [wrap64 (-(rd l0 (ji7)))]) (wrap64 (x8_1 + 1))) else (none)) = some r := by rw [if_pos rfl] at H; exact H
         clear H
         have H := H1
         clear H1
         by_cases c11 : x7_1.length < 17592186044416
         ·rw [if_pos c11] at H
          have LMc11 := Aside0.mk c11
          clear c11
          obtain ⟨y255, hy255⟩ : ∃ y_ : List Int, y_ = (x7_1 ++ [wrap64 (-(rd l0 (ji7)))]) := ⟨_, rfl⟩
          replace H : (bibelotref07_Flip.l0 k1 l0 a1 true y255 (wrap64 (x8_1 + 1))) = some r := by first | (rw [hy255]; with_reducible exact H) | (have H2_ := (Option.bind_some _ _).symm.trans H; rw [hy255]; with_reducible exact H2_) | (have H2_ := (Option.bind_some _ _).symm.trans H; with_reducible exact H2_) | with_reducible exact H | (rw [hy255]; exact H) | exact H
          have Ny255 := Aside0.mk hy255
          clear hy255
          have H' := Aside0.mk H
          clear H
          have p253 : 0 ≤ (x8_1 : Int) := of_decide_eq_true (by first | (with_reducible assumption) | assumption)
          have q253 : x8_1 < (l0.length : Int) := of_decide_eq_true (by first | (with_reducible assumption) | assumption)
          obtain ⟨ad253, e253, hx253_0⟩ := Kd.at_int HR0.out x8_1 p253 q253
          cases e253
          replace hx253_0 := (HB.out.cell (World.block_lt_of_cell? w _ hx253_0)).trans hx253_0
          replace p253 := eq_true p253
          replace q253 := eq_true q253
          have p254 : 0 ≤ ((ji7) : Int) := of_decide_eq_true (by first | (with_reducible assumption) | assumption)
          have q254 : (ji7) < (l0.length : Int) := of_decide_eq_true (by first | (with_reducible assumption) | assumption)
          obtain ⟨ad254, e254, hx254_0⟩ := Kd.at_int HR0.out (ji7) p254 q254
          obtain rfl : ad253 = ad254 := (by injection e254)
          replace hx254_0 := (HB.out.cell (World.block_lt_of_cell? w _ hx254_0)).trans hx254_0
          replace p254 := eq_true p254
          replace q254 := eq_true q254
          go_wp2_with (first|((with_reducible refine gate_builtin (b := .append) (xs := #[.tmp 33, .tmp 35]) rfl ?_);at_builtin;refine Kd.R_append (Kd.int .i64) (w0 := w) w.heap.size rfl (.tmp 33) (.tmp 35) 22 3 (.int .i64 0) 8 rfl Try.underlying22 info3 rfl (by decide) (by omega) u7 x7_1 (wrap64 (-(rd l0 (ji7)))) [.int .i64 (wrap64 (-(rd l0 (ji7))))] (fun _ => True) (fun _ => False) rfl rfl ?aP (fun _ hk => hk.elim) ?aF ?aO ?aB ?aS ?aL ?_;(case aP => exact rfl);(case aB => exact (by repeat (first|(with_reducible first|exact HB.out|apply below_alloc|apply pw_below_drewN|apply below_drew1)|exact HB.out)));(case aF => exact (fun _ _ => trivial));(case aO => exact (by (with_reducible repeat (first|apply Kd.R_alloc|apply Kd.R_drewN|apply Kd.R_drew));exact HO_7.out));(case aS => exact (below_size (by repeat (first|(with_reducible first|exact HB.out|apply below_alloc|apply pw_below_drewN|apply below_drew1)|exact HB.out))));(case aL => have := LMc11.out;omega);intro v256 w12 ho hb hg hat;rw [← Ny255.out] at ho;have n0_ := Aside0.mk (hb);have n1_ := Aside0.mk (ho);clear HB;clear HO_7;have HB := n0_;have HO257 := n1_;clear n0_ n1_;clear ho hb hg hat))
          go_roundg k1
          case measure => have := HK1.out; omega
          case rel => exact ⟨(y255), (wrap64 (x8_1 + 1)), (by first | rfl | (simp; done) | (simp [*]; done)), H', ⟨by have := HK1.out; omega⟩, ⟨by (with_reducible repeat (first | apply Kd.R_alloc | apply Kd.R_drewN | apply Kd.R_drew)); exact HO257.out⟩, ⟨by repeat (first | (with_reducible first | exact HB.out | apply below_alloc | apply pw_below_drewN | apply below_drew1) | exact HB.out)⟩⟩
         ·rw [if_neg c11] at H
          exact absurd H (by simp)
        ·replace c10 := Bool.eq_false_iff.mpr c10
         subst c10
         have H1 : (if x7_1.length < 17592186044416 then (bibelotref07_Flip.l0 k1 l0 a1 false (x7_1 ++ [rd l0 (ji7)]) (wrap64 (x8_1 + 1))) else (none)) = some r := by rw [if_neg (show ¬ (false = true) by decide)] at H; exact H
         clear H
         have H := H1
         clear H1
         by_cases c13 : x7_1.length < 17592186044416
         ·rw [if_pos c13] at H
          have LMc13 := Aside0.mk c13
          clear c13
          obtain ⟨y258, hy258⟩ : ∃ y_ : List Int, y_ = (x7_1 ++ [rd l0 (ji7)]) := ⟨_, rfl⟩
          replace H : (bibelotref07_Flip.l0 k1 l0 a1 false y258 (wrap64 (x8_1 + 1))) = some r := by first | (rw [hy258]; with_reducible exact H) | (have H2_ := (Option.bind_some _ _).symm.trans H; rw [hy258]; with_reducible exact H2_) | (have H2_ := (Option.bind_some _ _).symm.trans H; with_reducible exact H2_) | with_reducible exact H | (rw [hy258]; exact H) | exact H
          have Ny258 := Aside0.mk hy258
          clear hy258
          have H' := Aside0.mk H
          clear H
          have p253 : 0 ≤ (x8_1 : Int) := of_decide_eq_true (by first | (with_reducible assumption) | assumption)
          have q253 : x8_1 < (l0.length : Int) := of_decide_eq_true (by first | (with_reducible assumption) | assumption)
          obtain ⟨ad253, e253, hx253_0⟩ := Kd.at_int HR0.out x8_1 p253 q253
          cases e253
          replace hx253_0 := (HB.out.cell (World.block_lt_of_cell? w _ hx253_0)).trans hx253_0
          replace p253 := eq_true p253
          replace q253 := eq_true q253
          have p254 : 0 ≤ ((ji7) : Int) := of_decide_eq_true (by first | (with_reducible assumption) | assumption)
          have q254 : (ji7) < (l0.length : Int) := of_decide_eq_true (by first | (with_reducible assumption) | assumption)
          obtain ⟨ad254, e254, hx254_0⟩ := Kd.at_int HR0.out (ji7) p254 q254
          obtain rfl : ad253 = ad254 := (by injection e254)
          replace hx254_0 := (HB.out.cell (World.block_lt_of_cell? w _ hx254_0)).trans hx254_0
          replace p254 := eq_true p254
          replace q254 := eq_true q254
          go_wp2_with (first|((with_reducible refine gate_builtin (b := .append) (xs := #[.tmp 33, .tmp 35]) rfl ?_);at_builtin;refine Kd.R_append (Kd.int .i64) (w0 := w) w.heap.size rfl (.tmp 33) (.tmp 35) 22 3 (.int .i64 0) 8 rfl Try.underlying22 info3 rfl (by decide) (by omega) u7 x7_1 (rd l0 (ji7)) [.int .i64 (rd l0 (ji7))] (fun _ => True) (fun _ => False) rfl rfl ?aP (fun _ hk => hk.elim) ?aF ?aO ?aB ?aS ?aL ?_;(case aP => exact rfl);(case aB => exact (by repeat (first|(with_reducible first|exact HB.out|apply below_alloc|apply pw_below_drewN|apply below_drew1)|exact HB.out)));(case aF => exact (fun _ _ => trivial));(case aO => exact (by (with_reducible repeat (first|apply Kd.R_alloc|apply Kd.R_drewN|apply Kd.R_drew));exact HO_7.out));(case aS => exact (below_size (by repeat (first|(with_reducible first|exact HB.out|apply below_alloc|apply pw_below_drewN|apply below_drew1)|exact HB.out))));(case aL => have := LMc13.out;omega);intro v259 w14 ho hb hg hat;rw [← Ny258.out] at ho;have n0_ := Aside0.mk (hb);have n1_ := Aside0.mk (ho);clear HB;clear HO_7;have HB := n0_;have HO260 := n1_;clear n0_ n1_;clear ho hb hg hat))
          go_roundg k1
          case measure => have := HK1.out; omega
          case rel => exact ⟨(y258), (wrap64 (x8_1 + 1)), (by first | rfl | (simp; done) | (simp [*]; done)), H', ⟨by have := HK1.out; omega⟩, ⟨by (with_reducible repeat (first | apply Kd.R_alloc | apply Kd.R_drewN | apply Kd.R_drew)); exact HO260.out⟩, ⟨by repeat (first | (with_reducible first | exact HB.out | apply below_alloc | apply pw_below_drewN | apply below_drew1) | exact HB.out)⟩⟩
         ·rw [if_neg c13] at H
          exact absurd H (by simp)
       ·rw [if_neg c9] at H
        exact absurd H (by simp)
      ·rw [if_neg c8] at H
       exact absurd H (by simp)
     ·rw [if_neg c6] at H
      have c6b0 : decide (x8_1 < a1) = false := decide_eq_false c6
      clear c6
      by_cases c15 : x7_1.length < 17592186044416
      ·rw [if_pos c15] at H
       have LMc15 := Aside0.mk c15
       clear c15
       obtain ⟨y261, hy261⟩ : ∃ y_ : List Int, y_ = (x7_1 ++ [rd l0 x8_1]) := ⟨_, rfl⟩
       replace H : (bibelotref07_Flip.l0 k1 l0 a1 a2 y261 (wrap64 (x8_1 + 1))) = some r := by first | (rw [hy261]; with_reducible exact H) | (have H2_ := (Option.bind_some _ _).symm.trans H; rw [hy261]; with_reducible exact H2_) | (have H2_ := (Option.bind_some _ _).symm.trans H; with_reducible exact H2_) | with_reducible exact H | (rw [hy261]; exact H) | exact H
       have Ny261 := Aside0.mk hy261
       clear hy261
       have H' := Aside0.mk H
       clear H
       have p253 : 0 ≤ (x8_1 : Int) := of_decide_eq_true (by first | (with_reducible assumption) | assumption)
       have q253 : x8_1 < (l0.length : Int) := of_decide_eq_true (by first | (with_reducible assumption) | assumption)
       obtain ⟨ad253, e253, hx253_0⟩ := Kd.at_int HR0.out x8_1 p253 q253
       cases e253
       replace hx253_0 := (HB.out.cell (World.block_lt_of_cell? w _ hx253_0)).trans hx253_0
       replace p253 := eq_true p253
       replace q253 := eq_true q253
       go_wp2_with (first|((with_reducible refine gate_builtin (b := .append) (xs := #[.tmp 33, .tmp 35]) rfl ?_);at_builtin;refine Kd.R_append (Kd.int .i64) (w0 := w) w.heap.size rfl (.tmp 33) (.tmp 35) 22 3 (.int .i64 0) 8 rfl Try.underlying22 info3 rfl (by decide) (by omega) u7 x7_1 (rd l0 x8_1) [.int .i64 (rd l0 x8_1)] (fun _ => True) (fun _ => False) rfl rfl ?aP (fun _ hk => hk.elim) ?aF ?aO ?aB ?aS ?aL ?_;(case aP => exact rfl);(case aB => exact (by repeat (first|(with_reducible first|exact HB.out|apply below_alloc|apply pw_below_drewN|apply below_drew1)|exact HB.out)));(case aF => exact (fun _ _ => trivial));(case aO => exact (by (with_reducible repeat (first|apply Kd.R_alloc|apply Kd.R_drewN|apply Kd.R_drew));exact HO_7.out));(case aS => exact (below_size (by repeat (first|(with_reducible first|exact HB.out|apply below_alloc|apply pw_below_drewN|apply below_drew1)|exact HB.out))));(case aL => have := LMc15.out;omega);intro v262 w16 ho hb hg hat;rw [← Ny261.out] at ho;have n0_ := Aside0.mk (hb);have n1_ := Aside0.mk (ho);clear HB;clear HO_7;have HB := n0_;have HO263 := n1_;clear n0_ n1_;clear ho hb hg hat))
       go_roundg k1
       case measure => have := HK1.out; omega
       case rel => exact ⟨(y261), (wrap64 (x8_1 + 1)), (by first | rfl | (simp; done) | (simp [*]; done)), H', ⟨by have := HK1.out; omega⟩, ⟨by (with_reducible repeat (first | apply Kd.R_alloc | apply Kd.R_drewN | apply Kd.R_drew)); exact HO263.out⟩, ⟨by repeat (first | (with_reducible first | exact HB.out | apply below_alloc | apply pw_below_drewN | apply below_drew1) | exact HB.out)⟩⟩
      ·rw [if_neg c15] at H
       exact absurd H (by simp)
    ·rw [if_neg c5] at H
     exact absurd H (by simp)
   ·rw [if_neg c4] at H
    have c4b0 : decide (x8_1 < (l0.length : Int)) = false := decide_eq_false c4
    clear c4
    obtain rfl := Option.some.inj H
    go_wp2
    go_ret
    exact ⟨_, by first | rfl | (simp [errW_none, errW_some] <;> rfl) | (simp [*, errW_none, errW_some] <;> rfl), by (with_reducible repeat (first | apply Kd.R_alloc | apply Kd.R_drewN | apply Kd.R_drew)); exact HO_7.out, by repeat (first | (with_reducible first | exact HB.out | apply below_alloc | apply pw_below_drewN | apply below_drew1) | exact HB.out)⟩

end Go.Proofs.Ytepjhdblmghckaa.Q
namespace Go.Proofs.Ytepjhdblmghckaa.G
end Go.Proofs.Ytepjhdblmghckaa.G
namespace Go.Proofs.Ytepjhdblmghckaa.Q
set_option linter.unusedVariables false
set_option linter.unusedSimpArgs false
set_option linter.unusedSectionVars false
open Go.Proofs.Ytepjhdblmghckaa.G
open Go.RowKit Go.Proofs.YtepjhdblmghckaaW.PrintWords Go.Proofs.YtepjhdblmghckaaW.PrintLast Go.Proofs.YtepjhdblmghckaaW.PrintMore
attribute [local go_sem] max2_int min2_int max_two min_two max_three min_three max_four min_four   -- for this text's walks alone

/-! ### bibelotref07_Turn: function 46 -/
def bibelotref07_Turn.l0 : Nat → List Int → Int → Int → List Int → Int → Option (List Int)
 | 0, _, _, _, _, _ => none
 | k + 1, x0, x1, x2, x7, x8 => if x8 < (x0.length : Int) then (if 0 ≤ x8 then (if x8 ≥ x1 then (if x8 ≤ x2 then (if 0 ≤ (wrap64 ((wrap64 (x1 + x2)) - x8)) then (if (wrap64 ((wrap64 (x1 + x2)) - x8)) < (x0.length : Int) then (if x7.length < 17592186044416 then (bibelotref07_Turn.l0 k x0 x1 x2 (x7 ++ [wrap64 (-(rd x0 (wrap64 ((wrap64 (x1 + x2)) - x8))))]) (wrap64 (x8 + 1))) else (none)) else (none)) else (none)) else (if x7.length < 17592186044416 then (bibelotref07_Turn.l0 k x0 x1 x2 (x7 ++ [rd x0 x8]) (wrap64 (x8 + 1))) else (none))) else (if x7.length < 17592186044416 then (bibelotref07_Turn.l0 k x0 x1 x2 (x7 ++ [rd x0 x8]) (wrap64 (x8 + 1))) else (none))) else (none)) else (some x7)
def bibelotref07_Turn.f (k : Nat) (l0 : List Int) (a1 : Int) (a2 : Int) : Option (List Int) := bibelotref07_Turn.l0 k l0 a1 a2 ([] : List Int) 0
theorem bibelotref07_Turn.mono_l : ∀ k, (∀ y0 y1 y2 y3 y4, LeO (bibelotref07_Turn.l0 k y0 y1 y2 y3 y4) (bibelotref07_Turn.l0 (k + 1) y0 y1 y2 y3 y4))
 | 0 => fun _ _ _ _ _ r h => by simp [bibelotref07_Turn.l0] at h
 | k + 1 => by
  have ih0 := bibelotref07_Turn.mono_l k
  ·intro y0 y1 y2 y3 y4
   unfold bibelotref07_Turn.l0
   repeat' first
   | (with_reducible exact ih0 _ _ _ _ _)
   | (with_reducible exact LeO.refl _)
   | (with_reducible exact LeO.none _)
   | (with_reducible refine LeO.ite ?_ ?_)
   | (with_reducible refine LeO.bind ?_ (fun _ => ?_))
   | exact ih0 _ _ _ _ _
   | exact LeO.none _
   | refine LeO.ite ?_ ?_
   | refine LeO.bind ?_ (fun _ => ?_)
theorem bibelotref07_Turn.mono : ∀ a0 a1 a2 k, LeO (bibelotref07_Turn.f k a0 a1 a2) (bibelotref07_Turn.f (k + 1) a0 a1 a2) := by
 intro a0 a1 a2 k
 have ih0 := bibelotref07_Turn.mono_l k
 unfold bibelotref07_Turn.f
 repeat' first
   | (with_reducible exact ih0 _ _ _ _ _)
   | (with_reducible exact LeO.refl _)
   | (with_reducible exact LeO.none _)
   | (with_reducible refine LeO.ite ?_ ?_)
   | (with_reducible refine LeO.bind ?_ (fun _ => ?_))
   | exact ih0 _ _ _ _ _
   | exact LeO.none _
   | refine LeO.ite ?_ ?_
   | refine LeO.bind ?_ (fun _ => ?_)
set_option maxHeartbeats 8000000 in
set_option maxRecDepth 100000 in
theorem bibelotref07_Turn.calls (k : Nat) (A0 : Option Addr) (c0 : Nat) (l0 : List Int) (a1 : Int) (a2 : Int) (r : List Int) (w : World) (hr0 : Kd.C (Kd.int .i64) w A0 l0.length l0) (hc0 : l0.length ≤ c0) (h : bibelotref07_Turn.f k l0 a1 a2 = some r) :
  Calls Try.prog 46 #[.slice A0 l0.length c0, .int .i64 a1, .int .i64 a2] w fun e w' => ∃ v0_ : Value, e = .returned (v0_) ∧ Kd.R (Kd.int .i64) 3 w' w.heap.size (fun _ => True) v0_ r ∧ Below w.heap.size w w' := by
 have HR0 := Aside0.mk hr0
 have HC0 := Aside0.mk hc0
 clear hr0 hc0
 have HB := Aside0.mk (Below.refl w.heap.size w)
 have H : (bibelotref07_Turn.l0 k l0 a1 a2 ([] : List Int) 0) = some r := h
 clear h
 have H' := Aside0.mk H
 clear H
 go_enter Try.func46, Try.ntmps46
 go_wp2
 go_loopg [7, 8] k (fun kq v7 v8 w' => ∃ (x7_1 : List Int) (x8_1 : Int), v8 = .int .i64 x8_1 ∧ Aside0 (bibelotref07_Turn.l0 kq l0 a1 a2 x7_1 x8_1 = some r) ∧ Aside0 (kq ≤ k) ∧ Aside0 (Kd.R (Kd.int .i64) 3 w' w.heap.size (fun _ => True) v7 x7_1) ∧ Aside0 (Below w.heap.size w w'))
 case atStart => exact ⟨(([] : List Int)), (0), (by first | rfl | (simp; done) | (simp [*]; done)), H', ⟨Nat.le_refl _⟩, ⟨by first | exact Kd.R_nil _ _ _ _ _ | exact Kd.N_nil _ _ _ _ _ | exact Kd.V_nil _ _ _ _ _ | exact Kd.Q_nil _ _ _ _ _ | exact Kd.S_nil _ _ _ _ _⟩, ⟨by repeat (first | (with_reducible first | exact HB.out | apply below_alloc | apply pw_below_drewN | apply below_drew1) | exact HB.out)⟩⟩
 case round =>
  clear H'
  try clear p2
  obtain ⟨x7_1, x8_1, rfl, HA, HK1, HO_7, HB⟩ := hrel
  cases gk with
  | zero => exact absurd HA.out (by simp [bibelotref07_Turn.l0])
  | succ k1 =>
   have H := HA.out
   clear HA
   simp only [bibelotref07_Turn.l0] at H
   by_cases c4 : x8_1 < (l0.length : Int)
   ·rw [if_pos c4] at H
    have c4b0 : decide (x8_1 < (l0.length : Int)) = true := decide_eq_true c4
    clear c4
    by_cases c5 : 0 ≤ x8_1
    ·rw [if_pos c5] at H
     have c5b0 : decide (0 ≤ x8_1) = true := decide_eq_true c5
     clear c5
     by_cases c6 : x8_1 ≥ a1
     ·rw [if_pos c6] at H
      have c6b0 : decide (a1 ≤ x8_1) = true := decide_eq_true c6
      clear c6
      by_cases c7 : x8_1 ≤ a2
      ·rw [if_pos c7] at H
       have c7b0 : decide (x8_1 ≤ a2) = true := decide_eq_true c7
       clear c7
       obtain ⟨ji8, hji8⟩ : ∃ j_ : Int, (wrap64 ((wrap64 (a1 + a2)) - x8_1)) = j_ := ⟨_, rfl⟩
       replace H : (if 0 ≤ (ji8) then (if (ji8) < (l0.length : Int) then (if x7_1.length < 17592186044416 then (bibelotref07_Turn.l0 k1 l0 a1 a2 (x7_1 ++ [wrap64 (-(rd l0 (ji8)))]) (wrap64 (x8_1 + 1))) else (none)) else (none)) else (none)) = some r := by first | (rw [hji8] at H; exact H) | (simp only [hji8] at H ⊢; exact H)
       have hji8w : (IntKind.i64.wrap ((wrap64 (a1 + a2)) - x8_1)) = ji8 := (i64_w _).trans hji8
       by_cases c9 : 0 ≤ (ji8)
       ·rw [if_pos c9] at H
        have c9b0 : decide (0 ≤ (ji8)) = true := decide_eq_true c9
        clear c9
        by_cases c10 : (ji8) < (l0.length : Int)
        ·rw [if_pos c10] at H
         have c10b0 : decide ((ji8) < (l0.length : Int)) = true := decide_eq_true c10
         clear c10
         by_cases c11 : x7_1.length < 17592186044416
         ·rw [if_pos c11] at H
          have LMc11 := Aside0.mk c11
          clear c11
          obtain ⟨y435, hy435⟩ : ∃ y_ : List Int, y_ = (x7_1 ++ [wrap64 (-(rd l0 (ji8)))]) := ⟨_, rfl⟩
          replace H : (bibelotref07_Turn.l0 k1 l0 a1 a2 y435 (wrap64 (x8_1 + 1))) = some r := by first | (rw [hy435]; with_reducible exact H) | (have H2_ := (Option.bind_some _ _).symm.trans H; rw [hy435]; with_reducible exact H2_) | (have H2_ := (Option.bind_some _ _).symm.trans H; with_reducible exact H2_) | with_reducible exact H | (rw [hy435]; exact H) | exact H
          have Ny435 := Aside0.mk hy435
          clear hy435
          have H' := Aside0.mk H
          clear H
          have p433 : 0 ≤ (x8_1 : Int) := of_decide_eq_true (by first | (with_reducible assumption) | assumption)
          have q433 : x8_1 < (l0.length : Int) := of_decide_eq_true (by first | (with_reducible assumption) | assumption)
          obtain ⟨ad433, e433, hx433_0⟩ := Kd.at_int HR0.out x8_1 p433 q433
          cases e433
          replace hx433_0 := (HB.out.cell (World.block_lt_of_cell? w _ hx433_0)).trans hx433_0
          replace p433 := eq_true p433
          replace q433 := eq_true q433
          have p434 : 0 ≤ ((ji8) : Int) := of_decide_eq_true (by first | (with_reducible assumption) | assumption)
          have q434 : (ji8) < (l0.length : Int) := of_decide_eq_true (by first | (with_reducible assumption) | assumption)
          obtain ⟨ad434, e434, hx434_0⟩ := Kd.at_int HR0.out (ji8) p434 q434
          obtain rfl : ad433 = ad434 := (by injection e434)
          replace hx434_0 := (HB.out.cell (World.block_lt_of_cell? w _ hx434_0)).trans hx434_0
          replace p434 := eq_true p434
          replace q434 := eq_true q434
          go_wp2_with (first|((with_reducible refine gate_builtin (b := .append) (xs := #[.tmp 37, .tmp 39]) rfl ?_);at_builtin;refine Kd.R_append (Kd.int .i64) (w0 := w) w.heap.size rfl (.tmp 37) (.tmp 39) 22 3 (.int .i64 0) 8 rfl Try.underlying22 info3 rfl (by decide) (by omega) u7 x7_1 (wrap64 (-(rd l0 (ji8)))) [.int .i64 (wrap64 (-(rd l0 (ji8))))] (fun _ => True) (fun _ => False) rfl rfl ?aP (fun _ hk => hk.elim) ?aF ?aO ?aB ?aS ?aL ?_;(case aP => exact rfl);(case aB => exact (by repeat (first|(with_reducible first|exact HB.out|apply below_alloc|apply pw_below_drewN|apply below_drew1)|exact HB.out)));(case aF => exact (fun _ _ => trivial));(case aO => exact (by (with_reducible repeat (first|apply Kd.R_alloc|apply Kd.R_drewN|apply Kd.R_drew));exact HO_7.out));(case aS => exact (below_size (by repeat (first|(with_reducible first|exact HB.out|apply below_alloc|apply pw_below_drewN|apply below_drew1)|exact HB.out))));(case aL => have := LMc11.out;omega);intro v436 w12 ho hb hg hat;rw [← Ny435.out] at ho;have n0_ := Aside0.mk (hb);have n1_ := Aside0.mk (ho);clear HB;clear HO_7;have HB := n0_;have HO437 := n1_;clear n0_ n1_;clear ho hb hg hat))
          go_roundg k1
          case measure => have := HK1.out; omega
          case rel => exact ⟨(y435), (wrap64 (x8_1 + 1)), (by first | rfl | (simp; done) | (simp [*]; done)), H', ⟨by have := HK1.out; omega⟩, ⟨by (with_reducible repeat (first | apply Kd.R_alloc | apply Kd.R_drewN | apply Kd.R_drew)); exact HO437.out⟩, ⟨by repeat (first | (with_reducible first | exact HB.out | apply below_alloc | apply pw_below_drewN | apply below_drew1) | exact HB.out)⟩⟩
         ·rw [if_neg c11] at H
          exact absurd H (by simp)
        ·rw [if_neg c10] at H
         exact absurd H (by simp)
       ·rw [if_neg c9] at H
        exact absurd H (by simp)
      ·rw [if_neg c7] at H
       have c7b0 : decide (x8_1 ≤ a2) = false := decide_eq_false c7
       clear c7
       by_cases c13 : x7_1.length < 17592186044416
       ·rw [if_pos c13] at H
        have LMc13 := Aside0.mk c13
        clear c13
        obtain ⟨y438, hy438⟩ : ∃ y_ : List Int, y_ = (x7_1 ++ [rd l0 x8_1]) := ⟨_, rfl⟩
        replace H : (bibelotref07_Turn.l0 k1 l0 a1 a2 y438 (wrap64 (x8_1 + 1))) = some r := by first | (rw [hy438]; with_reducible exact H) | (have H2_ := (Option.bind_some _ _).symm.trans H; rw [hy438]; with_reducible exact H2_) | (have H2_ := (Option.bind_some _ _).symm.trans H; with_reducible exact H2_) | with_reducible exact H | (rw [hy438]; exact H) | exact H
        have Ny438 := Aside0.mk hy438
        clear hy438
        have H' := Aside0.mk H
        clear H
        have p433 : 0 ≤ (x8_1 : Int) := of_decide_eq_true (by first | (with_reducible assumption) | assumption)
        have q433 : x8_1 < (l0.length : Int) := of_decide_eq_true (by first | (with_reducible assumption) | assumption)
        obtain ⟨ad433, e433, hx433_0⟩ := Kd.at_int HR0.out x8_1 p433 q433
        cases e433
        replace hx433_0 := (HB.out.cell (World.block_lt_of_cell? w _ hx433_0)).trans hx433_0
        replace p433 := eq_true p433
        replace q433 := eq_true q433
        go_wp2_with (first|((with_reducible refine gate_builtin (b := .append) (xs := #[.tmp 37, .tmp 39]) rfl ?_);at_builtin;refine Kd.R_append (Kd.int .i64) (w0 := w) w.heap.size rfl (.tmp 37) (.tmp 39) 22 3 (.int .i64 0) 8 rfl Try.underlying22 info3 rfl (by decide) (by omega) u7 x7_1 (rd l0 x8_1) [.int .i64 (rd l0 x8_1)] (fun _ => True) (fun _ => False) rfl rfl ?aP (fun _ hk => hk.elim) ?aF ?aO ?aB ?aS ?aL ?_;(case aP => exact rfl);(case aB => exact (by repeat (first|(with_reducible first|exact HB.out|apply below_alloc|apply pw_below_drewN|apply below_drew1)|exact HB.out)));(case aF => exact (fun _ _ => trivial));(case aO => exact (by (with_reducible repeat (first|apply Kd.R_alloc|apply Kd.R_drewN|apply Kd.R_drew));exact HO_7.out));(case aS => exact (below_size (by repeat (first|(with_reducible first|exact HB.out|apply below_alloc|apply pw_below_drewN|apply below_drew1)|exact HB.out))));(case aL => have := LMc13.out;omega);intro v439 w14 ho hb hg hat;rw [← Ny438.out] at ho;have n0_ := Aside0.mk (hb);have n1_ := Aside0.mk (ho);clear HB;clear HO_7;have HB := n0_;have HO440 := n1_;clear n0_ n1_;clear ho hb hg hat))
        go_roundg k1
        case measure => have := HK1.out; omega
        case rel => exact ⟨(y438), (wrap64 (x8_1 + 1)), (by first | rfl | (simp; done) | (simp [*]; done)), H', ⟨by have := HK1.out; omega⟩, ⟨by (with_reducible repeat (first | apply Kd.R_alloc | apply Kd.R_drewN | apply Kd.R_drew)); exact HO440.out⟩, ⟨by repeat (first | (with_reducible first | exact HB.out | apply below_alloc | apply pw_below_drewN | apply below_drew1) | exact HB.out)⟩⟩
       ·rw [if_neg c13] at H
        exact absurd H (by simp)
     ·rw [if_neg c6] at H
      have c6b0 : decide (a1 ≤ x8_1) = false := decide_eq_false c6
      clear c6
      by_cases c15 : x7_1.length < 17592186044416
      ·rw [if_pos c15] at H
       have LMc15 := Aside0.mk c15
       clear c15
       obtain ⟨y441, hy441⟩ : ∃ y_ : List Int, y_ = (x7_1 ++ [rd l0 x8_1]) := ⟨_, rfl⟩
       replace H : (bibelotref07_Turn.l0 k1 l0 a1 a2 y441 (wrap64 (x8_1 + 1))) = some r := by first | (rw [hy441]; with_reducible exact H) | (have H2_ := (Option.bind_some _ _).symm.trans H; rw [hy441]; with_reducible exact H2_) | (have H2_ := (Option.bind_some _ _).symm.trans H; with_reducible exact H2_) | with_reducible exact H | (rw [hy441]; exact H) | exact H
       have Ny441 := Aside0.mk hy441
       clear hy441
       have H' := Aside0.mk H
       clear H
       have p433 : 0 ≤ (x8_1 : Int) := of_decide_eq_true (by first | (with_reducible assumption) | assumption)
       have q433 : x8_1 < (l0.length : Int) := of_decide_eq_true (by first | (with_reducible assumption) | assumption)
       obtain ⟨ad433, e433, hx433_0⟩ := Kd.at_int HR0.out x8_1 p433 q433
       cases e433
       replace hx433_0 := (HB.out.cell (World.block_lt_of_cell? w _ hx433_0)).trans hx433_0
       replace p433 := eq_true p433
       replace q433 := eq_true q433
       go_wp2_with (first|((with_reducible refine gate_builtin (b := .append) (xs := #[.tmp 37, .tmp 39]) rfl ?_);at_builtin;refine Kd.R_append (Kd.int .i64) (w0 := w) w.heap.size rfl (.tmp 37) (.tmp 39) 22 3 (.int .i64 0) 8 rfl Try.underlying22 info3 rfl (by decide) (by omega) u7 x7_1 (rd l0 x8_1) [.int .i64 (rd l0 x8_1)] (fun _ => True) (fun _ => False) rfl rfl ?aP (fun _ hk => hk.elim) ?aF ?aO ?aB ?aS ?aL ?_;(case aP => exact rfl);(case aB => exact (by repeat (first|(with_reducible first|exact HB.out|apply below_alloc|apply pw_below_drewN|apply below_drew1)|exact HB.out)));(case aF => exact (fun _ _ => trivial));(case aO => exact (by (with_reducible repeat (first|apply Kd.R_alloc|apply Kd.R_drewN|apply Kd.R_drew));exact HO_7.out));(case aS => exact (below_size (by repeat (first|(with_reducible first|exact HB.out|apply below_alloc|apply pw_below_drewN|apply below_drew1)|exact HB.out))));(case aL => have := LMc15.out;omega);intro v442 w16 ho hb hg hat;rw [← Ny441.out] at ho;have n0_ := Aside0.mk (hb);have n1_ := Aside0.mk (ho);clear HB;clear HO_7;have HB := n0_;have HO443 := n1_;clear n0_ n1_;clear ho hb hg hat))
       go_roundg k1
       case measure => have := HK1.out; omega
       case rel => exact ⟨(y441), (wrap64 (x8_1 + 1)), (by first | rfl | (simp; done) | (simp [*]; done)), H', ⟨by have := HK1.out; omega⟩, ⟨by (with_reducible repeat (first | apply Kd.R_alloc | apply Kd.R_drewN | apply Kd.R_drew)); exact HO443.out⟩, ⟨by repeat (first | (with_reducible first | exact HB.out | apply below_alloc | apply pw_below_drewN | apply below_drew1) | exact HB.out)⟩⟩
      ·rw [if_neg c15] at H
       exact absurd H (by simp)
    ·rw [if_neg c5] at H
     exact absurd H (by simp)
   ·rw [if_neg c4] at H
    have c4b0 : decide (x8_1 < (l0.length : Int)) = false := decide_eq_false c4
    clear c4
    obtain rfl := Option.some.inj H
    go_wp2
    go_ret
    exact ⟨_, by first | rfl | (simp [errW_none, errW_some] <;> rfl) | (simp [*, errW_none, errW_some] <;> rfl), by (with_reducible repeat (first | apply Kd.R_alloc | apply Kd.R_drewN | apply Kd.R_drew)); exact HO_7.out, by repeat (first | (with_reducible first | exact HB.out | apply below_alloc | apply pw_below_drewN | apply below_drew1) | exact HB.out)⟩

end Go.Proofs.Ytepjhdblmghckaa.Q
namespace Go.Proofs.Ytepjhdblmghckaa.G
end Go.Proofs.Ytepjhdblmghckaa.G
namespace Go.Proofs.Ytepjhdblmghckaa.Q
set_option linter.unusedVariables false
set_option linter.unusedSimpArgs false
set_option linter.unusedSectionVars false
open Go.Proofs.Ytepjhdblmghckaa.G
open Go.RowKit Go.Proofs.YtepjhdblmghckaaW.PrintWords Go.Proofs.YtepjhdblmghckaaW.PrintLast Go.Proofs.YtepjhdblmghckaaW.PrintMore
attribute [local go_sem] max2_int min2_int max_two min_two max_three min_three max_four min_four   -- for this text's walks alone

/-! ### bibelotref07_First: function 49 -/
def bibelotref07_First.l0 : Nat → Int → List Int → Int → Option (List Int)
 | 0, _, _, _ => none
 | k + 1, x0, x3, x4 => if x4 ≤ x0 then (if x3.length < 17592186044416 then (bibelotref07_First.l0 k x0 (x3 ++ [x4]) (wrap64 (x4 + 1))) else (none)) else (some x3)
def bibelotref07_First.f (k : Nat) (a0 : Int) : Option (List Int) := bibelotref07_First.l0 k a0 ([] : List Int) 1
theorem bibelotref07_First.mono_l : ∀ k, (∀ y0 y1 y2, LeO (bibelotref07_First.l0 k y0 y1 y2) (bibelotref07_First.l0 (k + 1) y0 y1 y2))
 | 0 => fun _ _ _ r h => by simp [bibelotref07_First.l0] at h
 | k + 1 => by
  have ih0 := bibelotref07_First.mono_l k
  ·intro y0 y1 y2
   unfold bibelotref07_First.l0
   repeat' first
   | (with_reducible exact ih0 _ _ _)
   | (with_reducible exact LeO.refl _)
   | (with_reducible exact LeO.none _)
   | (with_reducible refine LeO.ite ?_ ?_)
   | (with_reducible refine LeO.bind ?_ (fun _ => ?_))
   | exact ih0 _ _ _
   | exact LeO.none _
   | refine LeO.ite ?_ ?_
   | refine LeO.bind ?_ (fun _ => ?_)
theorem bibelotref07_First.mono : ∀ a0 k, LeO (bibelotref07_First.f k a0) (bibelotref07_First.f (k + 1) a0) := by
 intro a0 k
 have ih0 := bibelotref07_First.mono_l k
 unfold bibelotref07_First.f
 repeat' first
   | (with_reducible exact ih0 _ _ _)
   | (with_reducible exact LeO.refl _)
   | (with_reducible exact LeO.none _)
   | (with_reducible refine LeO.ite ?_ ?_)
   | (with_reducible refine LeO.bind ?_ (fun _ => ?_))
   | exact ih0 _ _ _
   | exact LeO.none _
   | refine LeO.ite ?_ ?_
   | refine LeO.bind ?_ (fun _ => ?_)
set_option maxHeartbeats 8000000 in
set_option maxRecDepth 100000 in
theorem bibelotref07_First.calls (k : Nat) (a0 : Int) (r : List Int) (w : World) (h : bibelotref07_First.f k a0 = some r) :
  Calls Try.prog 49 #[.int .i64 a0] w fun e w' => ∃ v0_ : Value, e = .returned (v0_) ∧ Kd.R (Kd.int .i64) 3 w' w.heap.size (fun _ => True) v0_ r ∧ Below w.heap.size w w' := by
 have HB := Aside0.mk (Below.refl w.heap.size w)
 have H : (bibelotref07_First.l0 k a0 ([] : List Int) 1) = some r := h
 clear h
 have H' := Aside0.mk H
 clear H
 go_enter Try.func49, Try.ntmps49
 go_wp2
 go_loopg [3, 4] k (fun kq v3 v4 w' => ∃ (x3_1 : List Int) (x4_1 : Int), v4 = .int .i64 x4_1 ∧ Aside0 (bibelotref07_First.l0 kq a0 x3_1 x4_1 = some r) ∧ Aside0 (kq ≤ k) ∧ Aside0 (Kd.R (Kd.int .i64) 3 w' w.heap.size (fun _ => True) v3 x3_1) ∧ Aside0 (Below w.heap.size w w'))
 case atStart => exact ⟨(([] : List Int)), (1), (by first | rfl | (simp; done) | (simp [*]; done)), H', ⟨Nat.le_refl _⟩, ⟨by first | exact Kd.R_nil _ _ _ _ _ | exact Kd.N_nil _ _ _ _ _ | exact Kd.V_nil _ _ _ _ _ | exact Kd.Q_nil _ _ _ _ _ | exact Kd.S_nil _ _ _ _ _⟩, ⟨by repeat (first | (with_reducible first | exact HB.out | apply below_alloc | apply pw_below_drewN | apply below_drew1) | exact HB.out)⟩⟩
 case round =>
  clear H'
  obtain ⟨x3_1, x4_1, rfl, HA, HK1, HO_3, HB⟩ := hrel
  cases gk with
  | zero => exact absurd HA.out (by simp [bibelotref07_First.l0])
  | succ k1 =>
   have H := HA.out
   clear HA
   simp only [bibelotref07_First.l0] at H
   by_cases c2 : x4_1 ≤ a0
   ·rw [if_pos c2] at H
    have c2b0 : decide (x4_1 ≤ a0) = true := decide_eq_true c2
    clear c2
    by_cases c3 : x3_1.length < 17592186044416
    ·rw [if_pos c3] at H
     have LMc3 := Aside0.mk c3
     clear c3
     obtain ⟨y378, hy378⟩ : ∃ y_ : List Int, y_ = (x3_1 ++ [x4_1]) := ⟨_, rfl⟩
     replace H : (bibelotref07_First.l0 k1 a0 y378 (wrap64 (x4_1 + 1))) = some r := by first | (rw [hy378]; with_reducible exact H) | (have H2_ := (Option.bind_some _ _).symm.trans H; rw [hy378]; with_reducible exact H2_) | (have H2_ := (Option.bind_some _ _).symm.trans H; with_reducible exact H2_) | with_reducible exact H | (rw [hy378]; exact H) | exact H
     have Ny378 := Aside0.mk hy378
     clear hy378
     have H' := Aside0.mk H
     clear H
     go_wp2_with (first|((with_reducible refine gate_builtin (b := .append) (xs := #[.tmp 10, .tmp 12]) rfl ?_);at_builtin;refine Kd.R_append (Kd.int .i64) (w0 := w) w.heap.size rfl (.tmp 10) (.tmp 12) 22 3 (.int .i64 0) 8 rfl Try.underlying22 info3 rfl (by decide) (by omega) u3 x3_1 x4_1 [.int .i64 x4_1] (fun _ => True) (fun _ => False) rfl rfl ?aP (fun _ hk => hk.elim) ?aF ?aO ?aB ?aS ?aL ?_;(case aP => exact rfl);(case aB => exact (by repeat (first|(with_reducible first|exact HB.out|apply below_alloc|apply pw_below_drewN|apply below_drew1)|exact HB.out)));(case aF => exact (fun _ _ => trivial));(case aO => exact (by (with_reducible repeat (first|apply Kd.R_alloc|apply Kd.R_drewN|apply Kd.R_drew));exact HO_3.out));(case aS => exact (below_size (by repeat (first|(with_reducible first|exact HB.out|apply below_alloc|apply pw_below_drewN|apply below_drew1)|exact HB.out))));(case aL => have := LMc3.out;omega);intro v379 w4 ho hb hg hat;rw [← Ny378.out] at ho;have n0_ := Aside0.mk (hb);have n1_ := Aside0.mk (ho);clear HB;clear HO_3;have HB := n0_;have HO380 := n1_;clear n0_ n1_;clear ho hb hg hat))
     go_roundg k1
     case measure => have := HK1.out; omega
     case rel => exact ⟨(y378), (wrap64 (x4_1 + 1)), (by first | rfl | (simp; done) | (simp [*]; done)), H', ⟨by have := HK1.out; omega⟩, ⟨by (with_reducible repeat (first | apply Kd.R_alloc | apply Kd.R_drewN | apply Kd.R_drew)); exact HO380.out⟩, ⟨by repeat (first | (with_reducible first | exact HB.out | apply below_alloc | apply pw_below_drewN | apply below_drew1) | exact HB.out)⟩⟩
    ·rw [if_neg c3] at H
     exact absurd H (by simp)
   ·rw [if_neg c2] at H
    have c2b0 : decide (x4_1 ≤ a0) = false := decide_eq_false c2
    clear c2
    obtain rfl := Option.some.inj H
    go_wp2
    go_ret
    exact ⟨_, by first | rfl | (simp [errW_none, errW_some] <;> rfl) | (simp [*, errW_none, errW_some] <;> rfl), by (with_reducible repeat (first | apply Kd.R_alloc | apply Kd.R_drewN | apply Kd.R_drew)); exact HO_3.out, by repeat (first | (with_reducible first | exact HB.out | apply below_alloc | apply pw_below_drewN | apply below_drew1) | exact HB.out)⟩

end Go.Proofs.Ytepjhdblmghckaa.Q
/- Stacks and rows in plain words; the document's small functions. -/
namespace Go.Proofs.Ytepjhdblmghckaa.G
set_option linter.unusedVariables false
set_option linter.unusedSimpArgs false
set_option linter.unusedSectionVars false
open Go.Proofs.Ytepjhdblmghckaa.Q Go.Proofs.Ytepjhdblmghckaa.K Go.Proofs.Ytepjhdblmghckaa.Bf
open Go.RowKit Go.Proofs.YtepjhdblmghckaaW.PrintWords Go.Proofs.YtepjhdblmghckaaW.PrintLast Go.Proofs.YtepjhdblmghckaaW.PrintMore
/-- The numbers 1 to n, each once, with signs if sg is true. -/
structure Stk (sg : Bool) (n : Nat) (l : List Int) : Prop where
 len : l.length = n
 rng : ∀ x, x ∈ l → x ≠ 0 ∧ -(n : Int) ≤ x ∧ x ≤ n
 nd : (l.map Int.natAbs).Nodup
 pos : sg = false → ∀ x, x ∈ l → 0 < x
theorem isL_iff (sg : Bool) (n : Nat) : ∀ (l : List Int) (seen : Nat → Bool), isL sg n l seen = true ↔ (∀ x, x ∈ l → 1 ≤ absS sg n x ∧ absS sg n x ≤ n ∧ seen (absS sg n x).toNat = false) ∧ (l.map fun x => (absS sg n x).toNat).Nodup
 | [], seen => by simp [isL]
 | x :: r, seen => by
  rw [isL]
  by_cases hc : absS sg n x < 1 ∨ (n : Int) < absS sg n x ∨ seen (absS sg n x).toNat = true
  ·rw [if_pos hc]
   refine ⟨fun h => (by cases h), fun h => ?_⟩
   have := h.1 x (by simp)
   rcases hc with hc | hc | hc
   ·omega
   ·omega
   ·rw [hc] at this; exact absurd this.2.2 (by simp)
  ·rw [if_neg hc, isL_iff sg n r]
   have h1 : ¬ absS sg n x < 1 := fun h => hc (.inl h)
   have h2 : ¬ (n : Int) < absS sg n x := fun h => hc (.inr (.inl h))
   have h3 : seen (absS sg n x).toNat = false := by
    cases hq : seen (absS sg n x).toNat
    ·rfl
    ·exact absurd (.inr (.inr hq)) hc
   rw [List.map_cons, List.nodup_cons]
   constructor
   ·rintro ⟨h4, h5⟩
    refine ⟨fun y hy => ?_, fun hm => ?_, h5⟩
    ·rcases List.mem_cons.1 hy with rfl | hy
     ·exact ⟨by omega, by omega, h3⟩
     ·have := h4 y hy
      refine ⟨this.1, this.2.1, ?_⟩
      have h6 := this.2.2
      unfold upd at h6
      split at h6
      ·cases h6
      ·exact h6
    ·obtain ⟨y, hy, he⟩ := List.mem_map.1 hm
     have h6 := (h4 y hy).2.2
     rw [he] at h6
     simp [upd] at h6
   ·rintro ⟨h4, h5, h6⟩
    refine ⟨fun y hy => ?_, h6⟩
    have := h4 y (by simp [hy])
    refine ⟨this.1, this.2.1, ?_⟩
    unfold upd
    rw [if_neg (fun he => h5 (List.mem_map.2 ⟨y, hy, he⟩))]
    exact this.2.2
theorem absS_ok {sg : Bool} {n : Nat} {x : Int} : (1 ≤ absS sg n x ∧ absS sg n x ≤ n) ↔ (x ≠ 0 ∧ -(n : Int) ≤ x ∧ x ≤ n ∧ (sg = false → 0 < x)) := by
 unfold absS
 cases sg
 ·simp; omega
 ·simp only [true_and]
  split
  ·simp; omega
  ·simp; omega
theorem absS_nat {sg : Bool} {n : Nat} {x : Int} (h : x ≠ 0 ∧ -(n : Int) ≤ x ∧ x ≤ n ∧ (sg = false → 0 < x)) : (absS sg n x).toNat = x.natAbs := by
 unfold absS
 cases sg
 ·have := h.2.2.2 rfl
  simp; omega
 ·simp only [true_and]
  split <;> omega
theorem isSt_iff {sg : Bool} {most : Int} {l : List Int} : isSt sg most l = true ↔ (1 ≤ l.length ∧ (l.length : Int) ≤ most) ∧ Stk sg l.length l := by
 unfold isSt
 split
 ·rename_i h
  refine ⟨fun e => (by cases e), fun e => ?_⟩
  have := e.1
  omega
 ·rename_i h
  rw [isL_iff]
  constructor
  ·rintro ⟨h1, h2⟩
   have hr : ∀ x, x ∈ l → x ≠ 0 ∧ -(l.length : Int) ≤ x ∧ x ≤ l.length ∧ (sg = false → 0 < x) := fun x hx => absS_ok.1 ⟨(h1 x hx).1, (h1 x hx).2.1⟩
   refine ⟨by omega, ⟨rfl, fun x hx => ⟨(hr x hx).1, (hr x hx).2.1, (hr x hx).2.2.1⟩, ?_, fun hs x hx => (hr x hx).2.2.2 hs⟩⟩
   have e : l.map Int.natAbs = l.map fun x => (absS sg l.length x).toNat := List.map_congr_left (fun x hx => (absS_nat (hr x hx)).symm)
   rw [e]; exact h2
  ·rintro ⟨_, h2⟩
   have hr : ∀ x, x ∈ l → x ≠ 0 ∧ -(l.length : Int) ≤ x ∧ x ≤ l.length ∧ (sg = false → 0 < x) := fun x hx => ⟨(h2.rng x hx).1, (h2.rng x hx).2.1, (h2.rng x hx).2.2, fun hs => h2.pos hs x hx⟩
   refine ⟨fun x hx => ⟨(absS_ok.2 (hr x hx)).1, (absS_ok.2 (hr x hx)).2, rfl⟩, ?_⟩
   have e : (l.map fun x => (absS sg l.length x).toNat) = l.map Int.natAbs := List.map_congr_left (fun x hx => absS_nat (hr x hx))
   rw [e]; exact h2.nd
theorem isSt_stk {sg : Bool} {most : Int} {n : Nat} {l : List Int} (h : Stk sg n l) (h1 : 1 ≤ n) (h2 : (n : Int) ≤ most) : isSt sg most l = true := isSt_iff.2 ⟨⟨by rw [h.len]; exact h1, by rw [h.len]; exact h2⟩, by rw [h.len]; exact h⟩
theorem Stk.signed {sg : Bool} {n : Nat} {l : List Int} (h : Stk sg n l) : Stk true n l := ⟨h.len, h.rng, h.nd, fun e => by cases e⟩
/-! ### many, row, own -/
theorem many_f (a : Int) (m : Nat) (h1 : 1 ≤ m) (h2 : m ≤ 1000) : ∃ n : Nat, 1 ≤ n ∧ n ≤ m ∧ bibelotlaw07_many.f a (m : Int) = some (n : Int) := by
 have hu : IntKind.u64.wrap (m : Int) = (m : Int) := u64_small (by omega) (by omega)
 have hr : 0 ≤ Int.tmod (IntKind.u64.wrap a) (m : Int) ∧ Int.tmod (IntKind.u64.wrap a) (m : Int) < m := ⟨Int.tmod_nonneg _ (u64_nonneg a).1, Int.tmod_lt_of_pos _ (by omega)⟩
 refine ⟨(Int.tmod (IntKind.u64.wrap a) (m : Int)).toNat + 1, by omega, by omega, ?_⟩
 unfold bibelotlaw07_many.f
 rw [hu, if_neg (by omega), w64 (x := Int.tmod (IntKind.u64.wrap a) (m : Int)) (by omega) (by omega), w64 (by omega) (by omega)]
 congr 1
 omega
theorem mem_rowOf (l : List Int) (sg : Bool) : ∀ (x : Nat) (y : Int), y ∈ rowOf l sg x → y ≠ 0 ∧ -(x : Int) ≤ y ∧ y ≤ x ∧ (sg = false → 0 < y)
 | 0, y, h => by cases h
 | x + 1, y, h => by
  have ih := mem_rowOf l sg x
  have hs : rowSg l sg (x + 1) = 1 ∨ (rowSg l sg (x + 1) = -1 ∧ sg = true) := by
   unfold rowSg
   split
   ·rename_i h; exact .inr ⟨rfl, h.2.1⟩
   ·exact .inl rfl
  simp only [rowOf, List.mem_append, List.mem_singleton] at h
  rcases h with (h | h) | h
  ·have := ih y (List.mem_of_mem_take h); exact ⟨this.1, by omega, by omega, this.2.2.2⟩
  ·rcases hs with hs | ⟨hs, hg⟩
   ·rw [hs] at h; refine ⟨by omega, by omega, by omega, fun _ => by omega⟩
   ·rw [hs] at h; refine ⟨by omega, by omega, by omega, fun e => by rw [hg] at e; cases e⟩
  ·have := ih y (List.mem_of_mem_drop h); exact ⟨this.1, by omega, by omega, this.2.2.2⟩
theorem rowOf_nodup (l : List Int) (sg : Bool) : ∀ x : Nat, ((rowOf l sg x).map Int.natAbs).Nodup
 | 0 => List.nodup_nil
 | x + 1 => by
  have ih := rowOf_nodup l sg x
  have hs : (rowSg l sg (x + 1) * ((x + 1 : Nat) : Int)).natAbs = x + 1 := by
   unfold rowSg
   split <;> omega
  have hp : ((rowOf l sg (x + 1)).map Int.natAbs).Perm ((x + 1) :: (rowOf l sg x).map Int.natAbs) := by
   have h1 : (rowOf l sg (x + 1)).Perm (rowSg l sg (x + 1) * ((x + 1 : Nat) : Int) :: rowOf l sg x) := by
    simp only [rowOf]
    have e : rowOf l sg x = (rowOf l sg x).take (rowAt l (x + 1)) ++ (rowOf l sg x).drop (rowAt l (x + 1)) := (List.take_append_drop _ _).symm
    conv => rhs; rw [e]
    rw [List.append_assoc]
    exact List.perm_middle
   have h2 := h1.map Int.natAbs
   rw [List.map_cons, hs] at h2
   exact h2
  rw [hp.nodup_iff, List.nodup_cons]
  refine ⟨fun hm => ?_, ih⟩
  obtain ⟨y, hy, he⟩ := List.mem_map.1 hm
  have := mem_rowOf l sg x y hy
  omega
theorem rowOf_stk (l : List Int) (sg : Bool) (n : Nat) : Stk sg n (rowOf l sg n) :=
 ⟨rowOf_length l sg n, fun x hx => ⟨(mem_rowOf l sg n x hx).1, (mem_rowOf l sg n x hx).2.1, (mem_rowOf l sg n x hx).2.2.1⟩, rowOf_nodup l sg n, fun hs x hx => (mem_rowOf l sg n x hx).2.2.2 hs⟩
theorem row_f (l : List Int) (n : Nat) (sg : Bool) (hn : n ≤ 1000) : bibelotlaw07_row.f l (n : Int) sg = some (rowOf l sg n) := by
 unfold bibelotlaw07_row.f
 rw [if_pos (by omega), Int.toNat_natCast]
/-! ### ints -/
theorem ints_l0 (l m : List Int) (hl : l.length ≤ 1000000) (hm : l.length = m.length) : ∀ d i : Nat, i + d = l.length → Ev (fun k => bibelotlaw07_ints.l0 k l m (i : Int)) (decide (l.drop i = m.drop i))
 | 0, i, h => by
  refine Ev.step (f := fun _ => some (decide (l.drop i = m.drop i))) (fun k => ?_) (Ev.now _)
  rw [bibelotlaw07_ints.l0, if_neg (by omega), List.drop_of_length_le (by omega), List.drop_of_length_le (by omega)]
  rfl
 | d + 1, i, h => by
  have ih := ints_l0 l m hl hm d (i + 1) (by omega)
  have e1 := drop_nth l i (by omega)
  have e2 := drop_nth m i (by omega)
  by_cases he : nth l i = nth m i
  ·refine Ev.step (f := fun k => bibelotlaw07_ints.l0 k l m ((i + 1 : Nat) : Int)) (fun k => ?_) ?_
   ·rw [bibelotlaw07_ints.l0, if_pos (by omega), if_pos (by omega), if_pos (by omega), rd_nth, rd_nth, if_pos he, w64 (by omega) (by omega)]
    rfl
   ·have : decide (l.drop i = m.drop i) = decide (l.drop (i + 1) = m.drop (i + 1)) := decide_eq_decide.2 (by rw [e1, e2, List.cons.injEq]; exact ⟨fun h => h.2, fun h => ⟨he, h⟩⟩)
    rw [this]; exact ih
  ·refine Ev.step (f := fun _ => some (decide (l.drop i = m.drop i))) (fun k => ?_) (Ev.now _)
   rw [bibelotlaw07_ints.l0, if_pos (by omega), if_pos (by omega), if_pos (by omega), rd_nth, rd_nth, if_neg he, decide_eq_false (by rw [e1, e2, List.cons.injEq]; exact fun h => he h.1)]
theorem ints_ev (l m : List Int) (hl : l.length ≤ 1000000) : Ev (fun k => bibelotlaw07_ints.f k l m) (decide (l = m)) := by
 by_cases h : l.length = m.length
 ·have := ints_l0 l m hl h l.length 0 (by omega)
  refine Ev.congr (fun k => ?_) this
  unfold bibelotlaw07_ints.f
  rw [if_pos (by omega)]
  rfl
 ·rw [decide_eq_false (fun e => h (by rw [e]))]
  refine Ev.congr (fun k => ?_) (Ev.now false)
  unfold bibelotlaw07_ints.f
  rw [if_neg (by omega)]
/-! ### is a list a stack, a row? -/
theorem abs_f (x : Int) (h : -1000000000 ≤ x ∧ x ≤ 1000000000) : bibelotref07_Abs.f x = some (x.natAbs : Int) := by
 unfold bibelotref07_Abs.f mx
 rw [w64 (by omega) (by omega)]
 congr 1
 split <;> omega
theorem row_l0 (l : List Int) (n : Nat) (hn : n = l.length) (hl : n ≤ 1000000) : ∀ (d i : Nat) (seenL : List Bool) (seen : Nat → Bool), i + d = n → seenL.length = n + 1 → (∀ j, j ≤ n → seenL.getD j false = seen j) →
  Ev (fun k => bibelotref07_Row.l0 k l (n : Int) seenL (i : Int)) (isL true n (l.drop i) seen)
 | 0, i, seenL, seen, h, hs, hj => by
  refine Ev.step (f := fun _ => some (isL true n (l.drop i) seen)) (fun k => ?_) (Ev.now _)
  rw [bibelotref07_Row.l0, if_neg (by omega), List.drop_of_length_le (by omega)]
  rfl
 | d + 1, i, seenL, seen, h, hs, hj => by
  have e1 := drop_nth l i (by omega)
  rw [e1, isL]
  obtain ⟨x, hx⟩ : ∃ x, nth l i = x := ⟨_, rfl⟩
  rw [hx]
  have hwn : wrap64 (-(n : Int)) = -(n : Int) := w64 (by omega) (by omega)
  by_cases h1 : x < -(n : Int)
  ·refine Ev.step (f := fun _ => some false) (fun k => ?_) ?_
   ·rw [bibelotref07_Row.l0, if_pos (by omega), if_pos (by omega), if_pos (by omega), rd_nth, hx, hwn, if_pos h1]
   ·rw [if_pos (by left; unfold absS; rw [if_neg (by omega)]; omega)]; exact Ev.now _
  ·by_cases h2 : x > (n : Int)
   ·refine Ev.step (f := fun _ => some false) (fun k => ?_) ?_
    ·rw [bibelotref07_Row.l0, if_pos (by omega), if_pos (by omega), if_pos (by omega), rd_nth, hx, hwn, if_neg h1, if_pos h2]
    ·rw [if_pos (by right; left; unfold absS; rw [if_neg (by omega)]; omega)]; exact Ev.now _
   ·by_cases h3 : x = 0
    ·refine Ev.step (f := fun _ => some false) (fun k => ?_) ?_
     ·rw [bibelotref07_Row.l0, if_pos (by omega), if_pos (by omega), if_pos (by omega), rd_nth, hx, hwn, if_neg h1, if_neg h2, if_pos h3]
     ·rw [if_pos (by left; unfold absS; rw [if_neg (by omega)]; omega)]; exact Ev.now _
    ·have ha : (absS true n x).toNat = x.natAbs := absS_nat ⟨h3, by omega, by omega, fun e => by cases e⟩
     have hao := (absS_ok (sg := true) (n := n) (x := x)).2 ⟨h3, by omega, by omega, fun e => by cases e⟩
     have hab := abs_f x (by omega)
     have hrd : rdOf false seenL (x.natAbs : Int) = seen x.natAbs := by
      unfold rdOf
      rw [Int.toNat_natCast, hj _ (by omega)]
     by_cases h4 : seen x.natAbs = true
     ·refine Ev.step (f := fun _ => some false) (fun k => ?_) ?_
      ·rw [bibelotref07_Row.l0, if_pos (by omega), if_pos (by omega), if_pos (by omega), rd_nth, hx, hwn, if_neg h1, if_neg h2, if_neg h3, hab, Option.bind_some, if_pos (by omega), if_pos (by omega), hrd, if_pos h4]
      ·rw [if_pos (by right; right; rw [ha]; exact h4)]; exact Ev.now _
     ·refine Ev.step (f := fun k => bibelotref07_Row.l0 k l (n : Int) (seenL.set x.natAbs true) ((i + 1 : Nat) : Int)) (fun k => ?_) ?_
      ·rw [bibelotref07_Row.l0, if_pos (by omega), if_pos (by omega), if_pos (by omega), rd_nth, hx, hwn, if_neg h1, if_neg h2, if_neg h3, hab, Option.bind_some, if_pos (by omega), if_pos (by omega), hrd, if_neg h4, Option.bind_some, if_pos (by omega), if_pos (by omega), w64 (by omega) (by omega), Int.toNat_natCast]
       rfl
      ·rw [if_neg (by rintro (h | h | h) <;> first | omega | (rw [ha] at h; exact h4 h)), ha]
       refine row_l0 l n hn hl d (i + 1) _ _ (by omega) (by rw [List.length_set]; exact hs) (fun j hjn => ?_)
       unfold upd
       rw [List.getD_eq_getElem?_getD, List.getElem?_set]
       by_cases e : x.natAbs = j
       ·rw [if_pos e, if_pos (by omega), if_pos e.symm]; rfl
       ·rw [if_neg e, if_neg (fun h => e h.symm), ← List.getD_eq_getElem?_getD]; exact hj j hjn
theorem row_ev (l : List Int) (most : Int) (hl : l.length ≤ 1000000) : Ev (fun k => bibelotref07_Row.f k l most) (isSt true most l) := by
 unfold isSt
 by_cases h1 : l.length < 1
 ·rw [if_pos (.inl h1)]
  refine Ev.congr (f := fun k => bibelotref07_Row.j0 k l (l.length : Int) true) (fun k => ?_) (Ev.step (fun k => ?_) (Ev.now false))
  ·unfold bibelotref07_Row.f; rw [if_pos (by omega)]
  ·rw [bibelotref07_Row.j0, if_pos rfl]
 ·by_cases h2 : most < (l.length : Int)
  ·rw [if_pos (.inr h2)]
   refine Ev.congr (f := fun k => bibelotref07_Row.j0 k l (l.length : Int) true) (fun k => ?_) (Ev.step (fun k => ?_) (Ev.now false))
   ·unfold bibelotref07_Row.f; rw [if_neg (by omega), decide_eq_true h2]
   ·rw [bibelotref07_Row.j0, if_pos rfl]
  ·rw [if_neg (by omega)]
   refine Ev.congr (f := fun k => bibelotref07_Row.j0 k l (l.length : Int) false) (fun k => ?_) (Ev.step (fun k => ?_) (row_l0 l l.length rfl hl l.length 0 (List.replicate (l.length + 1) false) (fun _ => false) (by omega) (by simp) (fun j hj => by rw [List.getD_eq_getElem?_getD, List.getElem?_replicate]; split <;> rfl)))
   ·unfold bibelotref07_Row.f; rw [if_neg (by omega), decide_eq_false (by omega)]
   ·rw [bibelotref07_Row.j0, if_neg (by simp), w64 (by omega) (by omega), if_pos (by omega), if_pos (by omega), show ((l.length : Int) + 1).toNat = l.length + 1 by omega]
    rfl
theorem stack_l0 (l : List Int) (hl : l.length ≤ 1000000) : ∀ d i : Nat, i + d = l.length → Ev (fun k => bibelotref07_Stack.l0 k l (i : Int)) ((l.drop i).all (fun x => decide (0 < x)) && isSt true 7 l)
 | 0, i, h => by
  refine Ev.step (f := fun k => (bibelotref07_Row.f k l 7).bind fun t => some t) (fun k => ?_) ?_
  ·rw [bibelotref07_Stack.l0, if_neg (by omega)]
  ·rw [List.drop_of_length_le (by omega)]
   exact Ev.bind (row_ev l 7 hl) (Ev.now _)
 | d + 1, i, h => by
  have e1 := drop_nth l i (by omega)
  by_cases hx : nth l i < 1
  ·refine Ev.step (f := fun _ => some false) (fun k => ?_) ?_
   ·rw [bibelotref07_Stack.l0, if_pos (by omega), if_pos (by omega), rd_nth, if_pos hx]
   ·rw [e1, List.all_cons, decide_eq_false (by omega)]; exact Ev.now _
  ·refine Ev.step (f := fun k => bibelotref07_Stack.l0 k l ((i + 1 : Nat) : Int)) (fun k => ?_) ?_
   ·rw [bibelotref07_Stack.l0, if_pos (by omega), if_pos (by omega), rd_nth, if_neg hx, w64 (by omega) (by omega)]; rfl
   ·rw [e1, List.all_cons, decide_eq_true (by omega), Bool.true_and]; exact stack_l0 l hl d (i + 1) (by omega)
theorem isSt_pos (most : Int) (l : List Int) : (l.all (fun x => decide (0 < x)) && isSt true most l) = isSt false most l := by
 rw [Bool.eq_iff_iff, Bool.and_eq_true, isSt_iff, isSt_iff, List.all_eq_true]
 constructor
 ·rintro ⟨h1, h2, h3⟩
  exact ⟨h2, h3.len, h3.rng, h3.nd, fun _ x hx => by simpa using h1 x hx⟩
 ·rintro ⟨h2, h3⟩
  exact ⟨fun x hx => by simpa using h3.pos rfl x hx, h2, h3.signed⟩
theorem stack_ev (l : List Int) (hl : l.length ≤ 1000000) : Ev (fun k => bibelotref07_Stack.f k l) (isSt false 7 l) := by
 have h := stack_l0 l hl l.length 0 (by omega)
 rw [List.drop_zero, isSt_pos] at h
 exact h
/-! ### the program's checks -/
theorem chk_one (sg : Bool) (most : Int) (hm : most ≤ 40) (l : List Int) : Ev (fun k => pancake_check.f k sg most [l]) (if isSt sg most l = true then 0 else 70) := by
 have h := Ev.of (g := fun k => pancake_check.f k sg most [l]) (fun k => pancake_check.mono _ _ _ k) (chk1_f sg most hm l)
 unfold chk1 at h
 exact h
theorem check58_ev (l : List Int) : Ev (fun k => pancake_Check.f k l) (if isSt false 7 l = true then 0 else 70) := Ev.bind (chk_one false 7 (by decide) l) (Ev.now _)
theorem check59_ev (l : List Int) : Ev (fun k => pancake_CheckBurnt.f k l) (if isSt true 6 l = true then 0 else 70) := Ev.bind (chk_one true 6 (by decide) l) (Ev.now _)
theorem check55_ev (l : List Int) : Ev (fun k => pancake_CheckRow.f k l) (if isSt true 40 l = true then 0 else 70) := Ev.bind (chk_one true 40 (by decide) l) (Ev.now _)
end Go.Proofs.Ytepjhdblmghckaa.G
namespace Go.Proofs.Ytepjhdblmghckaa.G
end Go.Proofs.Ytepjhdblmghckaa.G
namespace Go.Proofs.Ytepjhdblmghckaa.Q
set_option linter.unusedVariables false
set_option linter.unusedSimpArgs false
set_option linter.unusedSectionVars false
open Go.Proofs.Ytepjhdblmghckaa.G
open Go.RowKit Go.Proofs.YtepjhdblmghckaaW.PrintWords Go.Proofs.YtepjhdblmghckaaW.PrintLast Go.Proofs.YtepjhdblmghckaaW.PrintMore
attribute [local go_sem] max2_int min2_int max_two min_two max_three min_three max_four min_four   -- for this text's walks alone

/-! ### bibelotref07_Gaps: function 31 -/
def bibelotref07_Gaps.l0 : Nat → List Int → Int → Int → Option (Int)
 | 0, _, _, _ => none
 | k + 1, x0, x3, x4 => if x4 < (x0.length : Int) then (if (wrap64 (x4 + 1)) < (x0.length : Int) then (if 0 ≤ (wrap64 (x4 + 1)) then (if 0 ≤ x4 then ((bibelotref07_Abs.f (wrap64 ((rd x0 x4) - (rd x0 (wrap64 (x4 + 1)))))).bind fun t236 => (if t236 > 1 then (bibelotref07_Gaps.l0 k x0 (wrap64 (x3 + 1)) (wrap64 (x4 + 1))) else (bibelotref07_Gaps.l0 k x0 x3 (wrap64 (x4 + 1))))) else (none)) else (none)) else (if 0 ≤ x4 then ((bibelotref07_Abs.f (wrap64 ((rd x0 x4) - (wrap64 ((x0.length : Int) + 1))))).bind fun t238 => (if t238 > 1 then (bibelotref07_Gaps.l0 k x0 (wrap64 (x3 + 1)) (wrap64 (x4 + 1))) else (bibelotref07_Gaps.l0 k x0 x3 (wrap64 (x4 + 1))))) else (none))) else (some x3)
def bibelotref07_Gaps.f (k : Nat) (l0 : List Int) : Option (Int) := bibelotref07_Gaps.l0 k l0 0 0
theorem bibelotref07_Gaps.mono_l : ∀ k, (∀ y0 y1 y2, LeO (bibelotref07_Gaps.l0 k y0 y1 y2) (bibelotref07_Gaps.l0 (k + 1) y0 y1 y2))
 | 0 => fun _ _ _ r h => by simp [bibelotref07_Gaps.l0] at h
 | k + 1 => by
  have ih0 := bibelotref07_Gaps.mono_l k
  ·intro y0 y1 y2
   unfold bibelotref07_Gaps.l0
   repeat' first
   | (with_reducible exact ih0 _ _ _)
   | (with_reducible exact LeO.refl _)
   | (with_reducible exact LeO.none _)
   | (with_reducible refine LeO.ite ?_ ?_)
   | (with_reducible refine LeO.bind ?_ (fun _ => ?_))
   | exact ih0 _ _ _
   | exact LeO.none _
   | refine LeO.ite ?_ ?_
   | refine LeO.bind ?_ (fun _ => ?_)
theorem bibelotref07_Gaps.mono : ∀ a0 k, LeO (bibelotref07_Gaps.f k a0) (bibelotref07_Gaps.f (k + 1) a0) := by
 intro a0 k
 have ih0 := bibelotref07_Gaps.mono_l k
 unfold bibelotref07_Gaps.f
 repeat' first
   | (with_reducible exact ih0 _ _ _)
   | (with_reducible exact LeO.refl _)
   | (with_reducible exact LeO.none _)
   | (with_reducible refine LeO.ite ?_ ?_)
   | (with_reducible refine LeO.bind ?_ (fun _ => ?_))
   | exact ih0 _ _ _
   | exact LeO.none _
   | refine LeO.ite ?_ ?_
   | refine LeO.bind ?_ (fun _ => ?_)
set_option maxHeartbeats 8000000 in
set_option maxRecDepth 100000 in
theorem bibelotref07_Gaps.calls (k : Nat) (A0 : Option Addr) (c0 : Nat) (l0 : List Int) (r : Int) (w : World) (hr0 : Kd.C (Kd.int .i64) w A0 l0.length l0) (hc0 : l0.length ≤ c0) (h : bibelotref07_Gaps.f k l0 = some r) :
  Calls Try.prog 31 #[.slice A0 l0.length c0] w fun e w' => e = .returned (.int .i64 r) ∧ Below w.heap.size w w' := by
 have HR0 := Aside0.mk hr0
 have HC0 := Aside0.mk hc0
 clear hr0 hc0
 have HB := Aside0.mk (Below.refl w.heap.size w)
 have H : (bibelotref07_Gaps.l0 k l0 0 0) = some r := h
 clear h
 have H' := Aside0.mk H
 clear H
 go_enter Try.func31, Try.ntmps31
 go_wp2
 go_loopg [3, 4] k (fun kq v3 v4 w' => ∃ (x3_1 : Int) (x4_1 : Int), v3 = .int .i64 x3_1 ∧ v4 = .int .i64 x4_1 ∧ Aside0 (bibelotref07_Gaps.l0 kq l0 x3_1 x4_1 = some r) ∧ Aside0 (kq ≤ k) ∧ Aside0 (Below w.heap.size w w'))
 case atStart => exact ⟨(0), (0), (by first | rfl | (simp; done) | (simp [*]; done)), (by first | rfl | (simp; done) | (simp [*]; done)), H', ⟨Nat.le_refl _⟩, ⟨by repeat (first | (with_reducible first | exact HB.out | apply below_alloc | apply pw_below_drewN | apply below_drew1) | exact HB.out)⟩⟩
 case round =>
  clear H'
  obtain ⟨x3_1, x4_1, rfl, rfl, HA, HK1, HB⟩ := hrel
  cases gk with
  | zero => exact absurd HA.out (by simp [bibelotref07_Gaps.l0])
  | succ k1 =>
   have H := HA.out
   clear HA
   simp only [bibelotref07_Gaps.l0] at H
   by_cases c2 : x4_1 < (l0.length : Int)
   ·rw [if_pos c2] at H
    have c2b0 : decide (x4_1 < (l0.length : Int)) = true := decide_eq_true c2
    clear c2
    by_cases c3 : (wrap64 (x4_1 + 1)) < (l0.length : Int)
    ·rw [if_pos c3] at H
     have c3b0 : decide ((wrap64 (x4_1 + 1)) < (l0.length : Int)) = true := decide_eq_true c3
     clear c3
     obtain ⟨ji4, hji4⟩ : ∃ j_ : Int, (wrap64 (x4_1 + 1)) = j_ := ⟨_, rfl⟩
     replace H : (if 0 ≤ (ji4) then (if 0 ≤ x4_1 then ((bibelotref07_Abs.f (wrap64 ((rd l0 x4_1) - (rd l0 (ji4))))).bind fun t236 => (if t236 > 1 then (bibelotref07_Gaps.l0 k1 l0 (wrap64 (x3_1 + 1)) ji4) else (bibelotref07_Gaps.l0 k1 l0 x3_1 ji4))) else (none)) else (none)) = some r := by first | (rw [hji4] at H; exact H) | (simp only [hji4] at H ⊢; exact H)
     (try rw [hji4] at c3b0)
     have hji4w : (IntKind.i64.wrap (x4_1 + 1)) = ji4 := (i64_w _).trans hji4
     by_cases c5 : 0 ≤ (ji4)
     ·rw [if_pos c5] at H
      have c5b0 : decide (0 ≤ (ji4)) = true := decide_eq_true c5
      clear c5
      by_cases c6 : 0 ≤ x4_1
      ·rw [if_pos c6] at H
       have c6b0 : decide (0 ≤ x4_1) = true := decide_eq_true c6
       clear c6
       replace H := Option.bind_eq_some_iff.mp H
       obtain ⟨t236, A70, H⟩ := H
       replace H : (if t236 > 1 then (bibelotref07_Gaps.l0 k1 l0 (wrap64 (x3_1 + 1)) ji4) else (bibelotref07_Gaps.l0 k1 l0 x3_1 ji4)) = some r := H
       have A7 := Aside0.mk A70
       clear A70
       by_cases c8 : t236 > 1
       ·rw [if_pos c8] at H
        have c8b0 : decide (1 < t236) = true := decide_eq_true c8
        clear c8
        have H' := Aside0.mk H
        clear H
        have p234 : 0 ≤ ((ji4) : Int) := of_decide_eq_true (by first | (with_reducible assumption) | assumption)
        have q234 : (ji4) < (l0.length : Int) := of_decide_eq_true (by first | (with_reducible assumption) | assumption)
        obtain ⟨ad234, e234, hx234_0⟩ := Kd.at_int HR0.out (ji4) p234 q234
        cases e234
        replace hx234_0 := (HB.out.cell (World.block_lt_of_cell? w _ hx234_0)).trans hx234_0
        replace p234 := eq_true p234
        replace q234 := eq_true q234
        have p235 : 0 ≤ (x4_1 : Int) := of_decide_eq_true (by first | (with_reducible assumption) | assumption)
        have q235 : x4_1 < (l0.length : Int) := of_decide_eq_true (by first | (with_reducible assumption) | assumption)
        obtain ⟨ad235, e235, hx235_0⟩ := Kd.at_int HR0.out x4_1 p235 q235
        obtain rfl : ad234 = ad235 := (by injection e235)
        replace hx235_0 := (HB.out.cell (World.block_lt_of_cell? w _ hx235_0)).trans hx235_0
        replace p235 := eq_true p235
        replace q235 := eq_true q235
        go_wp2_with (first|((with_reducible refine gate_callee (f := 40) rfl ?_);refine goesL_ (some 31) rfl rfl Try.func40 (by kernel_rfl) rfl #[.int .i64 (wrap64 ((rd l0 x4_1) - (rd l0 (ji4))))] rfl (by (try simp only [List.map_toArray, List.map_cons, List.map_nil]);first|done|(simp only [hji4];rfl)|rfl|(simp only [List.length_drop, List.length_take];rfl)) ?_;(with_reducible refine (bibelotref07_Abs.calls (wrap64 ((rd l0 x4_1) - (rd l0 (ji4)))) t236 _ A7.out).mono ?_);rintro e w9 ⟨rfl, hb⟩;refine ⟨_, rfl, ?_⟩;have n0_ := Aside0.mk (below_step (by repeat (first|(with_reducible first|exact HB.out|apply below_alloc|apply pw_below_drewN|apply below_drew1)|exact HB.out)) hb);clear HB;have HB := n0_;clear n0_;(try clear hb);(try clear hb2);(try clear hk);(try clear hi)))
        go_roundg k1
        case measure => have := HK1.out; omega
        case rel => exact ⟨(wrap64 (x3_1 + 1)), (ji4), (by first | rfl | (simp; done) | (simp [*]; done)), (by first | rfl | (simp; done) | (simp only [← hji4] <;> (first | rfl | simp)) | (simp [*]; done)), H', ⟨by have := HK1.out; omega⟩, ⟨by repeat (first | (with_reducible first | exact HB.out | apply below_alloc | apply pw_below_drewN | apply below_drew1) | exact HB.out)⟩⟩
       ·rw [if_neg c8] at H
        have c8b0 : decide (1 < t236) = false := decide_eq_false c8
        clear c8
        have H' := Aside0.mk H
        clear H
        have p234 : 0 ≤ ((ji4) : Int) := of_decide_eq_true (by first | (with_reducible assumption) | assumption)
        have q234 : (ji4) < (l0.length : Int) := of_decide_eq_true (by first | (with_reducible assumption) | assumption)
        obtain ⟨ad234, e234, hx234_0⟩ := Kd.at_int HR0.out (ji4) p234 q234
        cases e234
        replace hx234_0 := (HB.out.cell (World.block_lt_of_cell? w _ hx234_0)).trans hx234_0
        replace p234 := eq_true p234
        replace q234 := eq_true q234
        have p235 : 0 ≤ (x4_1 : Int) := of_decide_eq_true (by first | (with_reducible assumption) | assumption)
        have q235 : x4_1 < (l0.length : Int) := of_decide_eq_true (by first | (with_reducible assumption) | assumption)
        obtain ⟨ad235, e235, hx235_0⟩ := Kd.at_int HR0.out x4_1 p235 q235
        obtain rfl : ad234 = ad235 := (by injection e235)
        replace hx235_0 := (HB.out.cell (World.block_lt_of_cell? w _ hx235_0)).trans hx235_0
        replace p235 := eq_true p235
        replace q235 := eq_true q235
        go_wp2_with (first|((with_reducible refine gate_callee (f := 40) rfl ?_);refine goesL_ (some 31) rfl rfl Try.func40 (by kernel_rfl) rfl #[.int .i64 (wrap64 ((rd l0 x4_1) - (rd l0 (ji4))))] rfl (by (try simp only [List.map_toArray, List.map_cons, List.map_nil]);first|done|(simp only [hji4];rfl)|rfl|(simp only [List.length_drop, List.length_take];rfl)) ?_;(with_reducible refine (bibelotref07_Abs.calls (wrap64 ((rd l0 x4_1) - (rd l0 (ji4)))) t236 _ A7.out).mono ?_);rintro e w10 ⟨rfl, hb⟩;refine ⟨_, rfl, ?_⟩;have n0_ := Aside0.mk (below_step (by repeat (first|(with_reducible first|exact HB.out|apply below_alloc|apply pw_below_drewN|apply below_drew1)|exact HB.out)) hb);clear HB;have HB := n0_;clear n0_;(try clear hb);(try clear hb2);(try clear hk);(try clear hi)))
        go_roundg k1
        case measure => have := HK1.out; omega
        case rel => exact ⟨(x3_1), (ji4), (by first | rfl | (simp; done) | (simp [*]; done)), (by first | rfl | (simp; done) | (simp only [← hji4] <;> (first | rfl | simp)) | (simp [*]; done)), H', ⟨by have := HK1.out; omega⟩, ⟨by repeat (first | (with_reducible first | exact HB.out | apply below_alloc | apply pw_below_drewN | apply below_drew1) | exact HB.out)⟩⟩
      ·rw [if_neg c6] at H
       exact absurd H (by simp)
     ·rw [if_neg c5] at H
      exact absurd H (by simp)
    ·rw [if_neg c3] at H
     have c3b0 : decide ((wrap64 (x4_1 + 1)) < (l0.length : Int)) = false := decide_eq_false c3
     clear c3
     by_cases c11 : 0 ≤ x4_1
     ·rw [if_pos c11] at H
      have c11b0 : decide (0 ≤ x4_1) = true := decide_eq_true c11
      clear c11
      replace H := Option.bind_eq_some_iff.mp H
      obtain ⟨t238, A120, H⟩ := H
      replace H : (if t238 > 1 then (bibelotref07_Gaps.l0 k1 l0 (wrap64 (x3_1 + 1)) (wrap64 (x4_1 + 1))) else (bibelotref07_Gaps.l0 k1 l0 x3_1 (wrap64 (x4_1 + 1)))) = some r := H
      have A12 := Aside0.mk A120
      clear A120
      by_cases c13 : t238 > 1
      ·rw [if_pos c13] at H
       have c13b0 : decide (1 < t238) = true := decide_eq_true c13
       clear c13
       have H' := Aside0.mk H
       clear H
       have p237 : 0 ≤ (x4_1 : Int) := of_decide_eq_true (by first | (with_reducible assumption) | assumption)
       have q237 : x4_1 < (l0.length : Int) := of_decide_eq_true (by first | (with_reducible assumption) | assumption)
       obtain ⟨ad237, e237, hx237_0⟩ := Kd.at_int HR0.out x4_1 p237 q237
       cases e237
       replace hx237_0 := (HB.out.cell (World.block_lt_of_cell? w _ hx237_0)).trans hx237_0
       replace p237 := eq_true p237
       replace q237 := eq_true q237
       go_wp2_with (first|((with_reducible refine gate_callee (f := 40) rfl ?_);refine goesL_ (some 31) rfl rfl Try.func40 (by kernel_rfl) rfl #[.int .i64 (wrap64 ((rd l0 x4_1) - (wrap64 ((l0.length : Int) + 1))))] rfl (by (try simp only [List.map_toArray, List.map_cons, List.map_nil]);first|done|rfl|(simp only [List.length_drop, List.length_take];rfl)) ?_;(with_reducible refine (bibelotref07_Abs.calls (wrap64 ((rd l0 x4_1) - (wrap64 ((l0.length : Int) + 1)))) t238 _ A12.out).mono ?_);rintro e w14 ⟨rfl, hb⟩;refine ⟨_, rfl, ?_⟩;have n0_ := Aside0.mk (below_step (by repeat (first|(with_reducible first|exact HB.out|apply below_alloc|apply pw_below_drewN|apply below_drew1)|exact HB.out)) hb);clear HB;have HB := n0_;clear n0_;(try clear hb);(try clear hb2);(try clear hk);(try clear hi)))
       go_roundg k1
       case measure => have := HK1.out; omega
       case rel => exact ⟨(wrap64 (x3_1 + 1)), (wrap64 (x4_1 + 1)), (by first | rfl | (simp; done) | (simp [*]; done)), (by first | rfl | (simp; done) | (simp [*]; done)), H', ⟨by have := HK1.out; omega⟩, ⟨by repeat (first | (with_reducible first | exact HB.out | apply below_alloc | apply pw_below_drewN | apply below_drew1) | exact HB.out)⟩⟩
      ·rw [if_neg c13] at H
       have c13b0 : decide (1 < t238) = false := decide_eq_false c13
       clear c13
       have H' := Aside0.mk H
       clear H
       have p237 : 0 ≤ (x4_1 : Int) := of_decide_eq_true (by first | (with_reducible assumption) | assumption)
       have q237 : x4_1 < (l0.length : Int) := of_decide_eq_true (by first | (with_reducible assumption) | assumption)
       obtain ⟨ad237, e237, hx237_0⟩ := Kd.at_int HR0.out x4_1 p237 q237
       cases e237
       replace hx237_0 := (HB.out.cell (World.block_lt_of_cell? w _ hx237_0)).trans hx237_0
       replace p237 := eq_true p237
       replace q237 := eq_true q237
       go_wp2_with (first|((with_reducible refine gate_callee (f := 40) rfl ?_);refine goesL_ (some 31) rfl rfl Try.func40 (by kernel_rfl) rfl #[.int .i64 (wrap64 ((rd l0 x4_1) - (wrap64 ((l0.length : Int) + 1))))] rfl (by (try simp only [List.map_toArray, List.map_cons, List.map_nil]);first|done|rfl|(simp only [List.length_drop, List.length_take];rfl)) ?_;(with_reducible refine (bibelotref07_Abs.calls (wrap64 ((rd l0 x4_1) - (wrap64 ((l0.length : Int) + 1)))) t238 _ A12.out).mono ?_);rintro e w15 ⟨rfl, hb⟩;refine ⟨_, rfl, ?_⟩;have n0_ := Aside0.mk (below_step (by repeat (first|(with_reducible first|exact HB.out|apply below_alloc|apply pw_below_drewN|apply below_drew1)|exact HB.out)) hb);clear HB;have HB := n0_;clear n0_;(try clear hb);(try clear hb2);(try clear hk);(try clear hi)))
       go_roundg k1
       case measure => have := HK1.out; omega
       case rel => exact ⟨(x3_1), (wrap64 (x4_1 + 1)), (by first | rfl | (simp; done) | (simp [*]; done)), (by first | rfl | (simp; done) | (simp [*]; done)), H', ⟨by have := HK1.out; omega⟩, ⟨by repeat (first | (with_reducible first | exact HB.out | apply below_alloc | apply pw_below_drewN | apply below_drew1) | exact HB.out)⟩⟩
     ·rw [if_neg c11] at H
      exact absurd H (by simp)
   ·rw [if_neg c2] at H
    have c2b0 : decide (x4_1 < (l0.length : Int)) = false := decide_eq_false c2
    clear c2
    obtain rfl := Option.some.inj H
    go_wp2
    go_ret
    exact ⟨by first | rfl | (simp [errW_none, errW_some] <;> rfl) | (simp [*, errW_none, errW_some] <;> rfl), by repeat (first | (with_reducible first | exact HB.out | apply below_alloc | apply pw_below_drewN | apply below_drew1) | exact HB.out)⟩

end Go.Proofs.Ytepjhdblmghckaa.Q
namespace Go.Proofs.Ytepjhdblmghckaa.G
end Go.Proofs.Ytepjhdblmghckaa.G
namespace Go.Proofs.Ytepjhdblmghckaa.Q
set_option linter.unusedVariables false
set_option linter.unusedSimpArgs false
set_option linter.unusedSectionVars false
open Go.Proofs.Ytepjhdblmghckaa.G
open Go.RowKit Go.Proofs.YtepjhdblmghckaaW.PrintWords Go.Proofs.YtepjhdblmghckaaW.PrintLast Go.Proofs.YtepjhdblmghckaaW.PrintMore
attribute [local go_sem] max2_int min2_int max_two min_two max_three min_three max_four min_four   -- for this text's walks alone

/-! ### pancake_Flip: function 32 -/
def pancake_Flip.f (k : Nat) (l0 : List Int) (a1 : Int) : Option (List Int × Int) := (pancake_Check.f k l0).bind fun t239 => (if t239 = 0 then ((pancake_topFlipped.f l0 a1 false).bind fun bt240 => (some (bt240.1, bt240.2))) else (some (([] : List Int), t239)))
theorem pancake_Flip.mono : ∀ a0 a1 k, LeO (pancake_Flip.f k a0 a1) (pancake_Flip.f (k + 1) a0 a1) := by
 intro a0 a1 k
 unfold pancake_Flip.f
 repeat' first
   | (with_reducible exact pancake_Check.mono _ _)
   | (with_reducible exact LeO.refl _)
   | (with_reducible exact LeO.none _)
   | (with_reducible refine LeO.ite ?_ ?_)
   | (with_reducible refine LeO.bind ?_ (fun _ => ?_))
   | exact pancake_Check.mono _ _
   | exact LeO.none _
   | refine LeO.ite ?_ ?_
   | refine LeO.bind ?_ (fun _ => ?_)
set_option maxHeartbeats 8000000 in
set_option maxRecDepth 100000 in
theorem pancake_Flip.calls (k : Nat) (A0 : Option Addr) (c0 : Nat) (l0 : List Int) (a1 : Int) (r1 : List Int) (r2 : Int) (w : World) (hr0 : Kd.C (Kd.int .i64) w A0 l0.length l0) (hc0 : l0.length ≤ c0) (h : pancake_Flip.f k l0 a1 = some (r1, r2)) :
  Calls Try.prog 32 #[.slice A0 l0.length c0, .int .i64 a1] w fun e w' => ∃ v0_ : Value, e = .returned (.tuple #[v0_, .int .i64 r2]) ∧ Kd.R (Kd.int .i64) 3 w' w.heap.size (fun _ => True) v0_ r1 ∧ Below w.heap.size w w' := by
 have HR0 := Aside0.mk hr0
 have HC0 := Aside0.mk hc0
 clear hr0 hc0
 have HB := Aside0.mk (Below.refl w.heap.size w)
 have H : ((pancake_Check.f k l0).bind fun t239 => (if t239 = 0 then ((pancake_topFlipped.f l0 a1 false).bind fun bt240 => (some (bt240.1, bt240.2))) else (some (([] : List Int), t239)))) = some (r1, r2) := h
 clear h
 replace H := Option.bind_eq_some_iff.mp H
 obtain ⟨t239, A30, H⟩ := H
 replace H : (if t239 = 0 then ((pancake_topFlipped.f l0 a1 false).bind fun bt240 => (some (bt240.1, bt240.2))) else (some (([] : List Int), t239))) = some (r1, r2) := H
 have A3 := Aside0.mk A30
 clear A30
 by_cases c4 : t239 = 0
 ·rw [if_pos c4] at H
  have c4b0 : (t239 == 0) = true := beq_iff_eq.mpr c4
  have c4b1 : (t239 != 0) = false := bne_eq_false_iff_eq.mpr c4
  clear c4
  replace H := Option.bind_eq_some_iff.mp H
  obtain ⟨⟨t240, t241⟩, A50, H⟩ := H
  replace H : (some (t240, t241)) = some (r1, r2) := H
  have A5 := Aside0.mk A50
  clear A50
  simp only [Option.some.injEq, Prod.mk.injEq] at H
  obtain ⟨rfl, rfl⟩ := H
  go_enter Try.func32, Try.ntmps32
  go_wp2_with (first|((with_reducible refine gate_callee (f := 58) rfl ?_);refine goesL_ (some 8) rfl rfl Try.func58 (by kernel_rfl) rfl #[.slice A0 l0.length c0] rfl (by (try simp only [List.map_toArray, List.map_cons, List.map_nil]);first|done|rfl|(simp only [List.length_drop, List.length_take];rfl)) ?_;(with_reducible refine (pancake_Check.calls k (fun k_ => k_ < w.heap.size) _ _ l0 t239 _ ?side1 A3.out).mono ?_);(case side1 => exact Kd.V_mk HC0.out (Kd.F_below (Kd.C_F (Kd.heap_int .i64) HR0.out) (by repeat (first|(with_reducible first|exact HB.out|apply below_alloc|apply pw_below_drewN|apply below_drew1)|exact HB.out))));rintro e w6 ⟨rfl, hb⟩;refine ⟨_, rfl, ?_⟩;have n0_ := Aside0.mk (below_step (by repeat (first|(with_reducible first|exact HB.out|apply below_alloc|apply pw_below_drewN|apply below_drew1)|exact HB.out)) hb);clear HB;have HB := n0_;clear n0_;(try clear hb);(try clear hb2);(try clear hk);(try clear hi))|((with_reducible refine gate_callee (f := 71) rfl ?_);refine goesL_ (some 14) rfl rfl Try.func71 (by kernel_rfl) rfl #[.slice A0 l0.length c0, .int .i64 a1, .bool false] rfl (by (try simp only [List.map_toArray, List.map_cons, List.map_nil]);first|done|rfl|(simp only [List.length_drop, List.length_take];rfl)) ?_;(with_reducible refine (pancake_topFlipped.calls _ _ l0 a1 false t240 t241 _ ?side1 ?side2 A5.out).mono ?_);(case side1 => repeat (first|exact (Kd.C_below HR0.out HB.out)|(with_reducible refine Kd.C_alloc ?_ _)|(with_reducible refine Kd.C_drewN ?_ _)|(with_reducible refine Kd.C_drew ?_)));(case side2 => exact HC0.out);rintro e w7 ⟨v242, rfl, ho0, hb⟩;refine ⟨_, rfl, ?_⟩;have n0_ := Aside0.mk (Kd.R_lower ho0 (below_size (by repeat (first|(with_reducible first|exact HB.out|apply below_alloc|apply pw_below_drewN|apply below_drew1)|exact HB.out))));have n1_ := Aside0.mk (below_step (by repeat (first|(with_reducible first|exact HB.out|apply below_alloc|apply pw_below_drewN|apply below_drew1)|exact HB.out)) hb);clear HB;have HO243 := n0_;have HB := n1_;clear n0_ n1_;(try clear hb);(try clear hb2);(try clear hk);(try clear hi);(try clear ho0)))
  go_ret2
  exact ⟨_, by first | rfl | (simp [errW_none, errW_some] <;> rfl) | (simp [*, errW_none, errW_some] <;> rfl), by (with_reducible repeat (first | apply Kd.R_alloc | apply Kd.R_drewN | apply Kd.R_drew)); exact HO243.out, by repeat (first | (with_reducible first | exact HB.out | apply below_alloc | apply pw_below_drewN | apply below_drew1) | exact HB.out)⟩
 ·rw [if_neg c4] at H
  have c4b0 : (t239 == 0) = false := beq_eq_false_iff_ne.mpr c4
  have c4b1 : (t239 != 0) = true := bne_iff_ne.mpr c4
  simp only [Option.some.injEq, Prod.mk.injEq] at H
  obtain ⟨rfl, rfl⟩ := H
  go_enter Try.func32, Try.ntmps32
  go_wp2_with (first|((with_reducible refine gate_callee (f := 58) rfl ?_);refine goesL_ (some 8) rfl rfl Try.func58 (by kernel_rfl) rfl #[.slice A0 l0.length c0] rfl (by (try simp only [List.map_toArray, List.map_cons, List.map_nil]);first|done|rfl|(simp only [List.length_drop, List.length_take];rfl)) ?_;(with_reducible refine (pancake_Check.calls k (fun k_ => k_ < w.heap.size) _ _ l0 t239 _ ?side1 A3.out).mono ?_);(case side1 => exact Kd.V_mk HC0.out (Kd.F_below (Kd.C_F (Kd.heap_int .i64) HR0.out) (by repeat (first|(with_reducible first|exact HB.out|apply below_alloc|apply pw_below_drewN|apply below_drew1)|exact HB.out))));rintro e w8 ⟨rfl, hb⟩;refine ⟨_, rfl, ?_⟩;have n0_ := Aside0.mk (below_step (by repeat (first|(with_reducible first|exact HB.out|apply below_alloc|apply pw_below_drewN|apply below_drew1)|exact HB.out)) hb);clear HB;have HB := n0_;clear n0_;(try clear hb);(try clear hb2);(try clear hk);(try clear hi)))
  go_ret2
  exact ⟨_, by first | rfl | (simp [errW_none, errW_some] <;> rfl) | (simp [*, errW_none, errW_some] <;> rfl), by first | exact Kd.R_nil _ _ _ _ _ | exact Kd.N_nil _ _ _ _ _ | exact Kd.V_nil _ _ _ _ _ | exact Kd.Q_nil _ _ _ _ _ | exact Kd.S_nil _ _ _ _ _, by repeat (first | (with_reducible first | exact HB.out | apply below_alloc | apply pw_below_drewN | apply below_drew1) | exact HB.out)⟩

end Go.Proofs.Ytepjhdblmghckaa.Q
/- Gaps, flips, turns: the program's and the document's. -/
namespace Go.Proofs.Ytepjhdblmghckaa.G
set_option linter.unusedVariables false
set_option linter.unusedSimpArgs false
set_option linter.unusedSectionVars false
open Go.Proofs.Ytepjhdblmghckaa.Q Go.Proofs.Ytepjhdblmghckaa.K Go.Proofs.Ytepjhdblmghckaa.Bf
open Go.RowKit Go.Proofs.YtepjhdblmghckaaW.PrintWords Go.Proofs.YtepjhdblmghckaaW.PrintLast Go.Proofs.YtepjhdblmghckaaW.PrintMore
def belowOf (l : List Int) (i : Nat) : Int := if i + 1 < l.length then nth l (i + 1) else (l.length : Int) + 1
def gapAt (l : List Int) (i : Nat) : Bool := decide (1 < (belowOf l i - nth l i).natAbs)
def gapsN (l : List Int) (k : Nat) : Nat := (List.range k).countP (gapAt l)
theorem gapsN_step (l : List Int) (k : Nat) : gapsN l (k + 1) = gapsN l k + (if gapAt l k = true then 1 else 0) := by
 unfold gapsN
 rw [List.range_succ, List.countP_append, List.countP_singleton]
theorem gapsN_le (l : List Int) (k : Nat) : gapsN l k ≤ k := Nat.le_trans List.countP_le_length (by simp)
/-- Small numbers. -/
def Smalls (l : List Int) : Prop := ∀ i, -1000000 ≤ nth l i ∧ nth l i ≤ 1000000
theorem Stk.small {sg : Bool} {n : Nat} {l : List Int} (h : Stk sg n l) (hn : n ≤ 1000) : Smalls l := fun i => by
 by_cases hi : i < l.length
 ·have := h.rng (nth l i) (by unfold nth; rw [List.getD_eq_getElem?_getD, List.getElem?_eq_getElem hi]; exact List.getElem_mem hi)
  omega
 ·rw [nth_end _ _ (by omega)]; omega
theorem rgaps_l0 (l : List Int) (hl : l.length ≤ 1000) (hs : Smalls l) : ∀ d i : Nat, i + d = l.length → Ev (fun k => bibelotref07_Gaps.l0 k l (gapsN l i : Nat) (i : Int)) ((gapsN l l.length : Nat) : Int)
 | 0, i, h => by
  refine Ev.step (f := fun _ => some ((gapsN l l.length : Nat) : Int)) (fun k => ?_) (Ev.now _)
  rw [bibelotref07_Gaps.l0, if_neg (by omega), show i = l.length by omega]
 | d + 1, i, h => by
  have ih := rgaps_l0 l hl hs d (i + 1) (by omega)
  have h1 := hs i
  have h2 := hs (i + 1)
  have hg := gapsN_le l i
  have hst := gapsN_step l i
  refine Ev.step (fun k => ?_) ih
  rw [bibelotref07_Gaps.l0, if_pos (by omega), w64 (x := (i : Int) + 1) (by omega) (by omega)]
  have e1 : (i : Int) + 1 = ((i + 1 : Nat) : Int) := rfl
  by_cases hb : i + 1 < l.length
  ·have hbe : belowOf l i = nth l (i + 1) := if_pos hb
   rw [if_pos (by omega), if_pos (by omega), if_pos (by omega), e1, rd_nth, rd_nth, w64 (by omega) (by omega), abs_f _ (by omega), Option.bind_some]
   by_cases hga : gapAt l i = true
   ·rw [if_pos hga] at hst
    have : 1 < (belowOf l i - nth l i).natAbs := of_decide_eq_true hga
    rw [if_pos (by omega), w64 (by omega) (by omega), hst]
    rfl
   ·rw [if_neg hga] at hst
    have : ¬ 1 < (belowOf l i - nth l i).natAbs := fun h => hga (decide_eq_true h)
    rw [if_neg (by omega), hst]
    rfl
  ·have hbe : belowOf l i = (l.length : Int) + 1 := if_neg hb
   rw [if_neg (by omega), if_pos (by omega), rd_nth, w64 (x := (l.length : Int) + 1) (by omega) (by omega), w64 (by omega) (by omega), abs_f _ (by omega), Option.bind_some, e1]
   by_cases hga : gapAt l i = true
   ·rw [if_pos hga] at hst
    have : 1 < (belowOf l i - nth l i).natAbs := of_decide_eq_true hga
    rw [if_pos (by omega), w64 (by omega) (by omega), hst]
    rfl
   ·rw [if_neg hga] at hst
    have : ¬ 1 < (belowOf l i - nth l i).natAbs := fun h => hga (decide_eq_true h)
    rw [if_neg (by omega), hst]
    rfl
theorem rgaps_ev (l : List Int) (hl : l.length ≤ 1000) (hs : Smalls l) : Ev (fun k => bibelotref07_Gaps.f k l) ((gapsN l l.length : Nat) : Int) := rgaps_l0 l hl hs l.length 0 (by omega)
theorem pgaps_l0 (l : List Int) (hl : l.length ≤ 1000) (hs : Smalls l) : ∀ d i : Nat, i + d = l.length → Ev (fun k => pancake_Gaps.l0 k l (gapsN l i : Nat) l (l.length : Int) (i : Int)) (((gapsN l l.length : Nat) : Int), 0)
 | 0, i, h => by
  refine Ev.step (f := fun _ => some (((gapsN l l.length : Nat) : Int), 0)) (fun k => ?_) (Ev.now _)
  rw [pancake_Gaps.l0, if_neg (by omega), show i = l.length by omega]
 | d + 1, i, h => by
  have ih := pgaps_l0 l hl hs d (i + 1) (by omega)
  have h1 := hs i
  have h2 := hs (i + 1)
  have hg := gapsN_le l i
  have hst := gapsN_step l i
  refine Ev.step (fun k => ?_) ih
  rw [pancake_Gaps.l0, if_pos (by omega), if_pos (by omega), if_pos (by omega), w64 (x := (i : Int) + 1) (by omega) (by omega)]
  have e1 : (i : Int) + 1 = ((i + 1 : Nat) : Int) := rfl
  by_cases hb : i + 1 < l.length
  ·have hbe : belowOf l i = nth l (i + 1) := if_pos hb
   rw [if_pos (by omega), if_pos (by omega), e1, rd_nth, rd_nth, w64 (by omega) (by omega)]
   by_cases hga : gapAt l i = true
   ·rw [if_pos hga] at hst
    have : 1 < (belowOf l i - nth l i).natAbs := of_decide_eq_true hga
    rw [w64 (x := ((gapsN l i : Nat) : Int) + 1) (by omega) (by omega), hst]
    by_cases hp : nth l (i + 1) - nth l i > 1
    ·rw [if_pos hp]; rfl
    ·rw [if_neg hp, if_pos (by omega)]; rfl
   ·rw [if_neg hga] at hst
    have : ¬ 1 < (belowOf l i - nth l i).natAbs := fun h => hga (decide_eq_true h)
    rw [if_neg (by omega), if_neg (by omega), hst]
    rfl
  ·have hbe : belowOf l i = (l.length : Int) + 1 := if_neg hb
   rw [if_neg (by omega), rd_nth, w64 (x := (l.length : Int) + 1) (by omega) (by omega), w64 (x := (l.length : Int) + 1 - nth l i) (by omega) (by omega), e1]
   by_cases hga : gapAt l i = true
   ·rw [if_pos hga] at hst
    have : 1 < (belowOf l i - nth l i).natAbs := of_decide_eq_true hga
    rw [w64 (x := ((gapsN l i : Nat) : Int) + 1) (by omega) (by omega), hst]
    by_cases hp : (l.length : Int) + 1 - nth l i > 1
    ·rw [if_pos hp]; rfl
    ·rw [if_neg hp, if_pos (by omega)]; rfl
   ·rw [if_neg hga] at hst
    have : ¬ 1 < (belowOf l i - nth l i).natAbs := fun h => hga (decide_eq_true h)
    rw [if_neg (by omega), if_neg (by omega), hst]
    rfl
theorem pgaps_ev {l : List Int} (h : isSt false 7 l = true) : Ev (fun k => pancake_Gaps.f k l) (((gapsN l l.length : Nat) : Int), 0) := by
 have hs := isSt_iff.1 h
 have hc := check58_ev l
 rw [if_pos h] at hc
 refine Ev.bind hc (Ev.congr (fun k => ?_) (pgaps_l0 l (by omega) (hs.2.small (by omega)) l.length 0 (by omega)))
 rw [if_pos rfl]; rfl
theorem pgaps_no {l : List Int} (h : ¬ isSt false 7 l = true) : Ev (fun k => pancake_Gaps.f k l) (0, 70) := by
 have hc := check58_ev l
 rw [if_neg h] at hc
 exact Ev.bind hc (Ev.congr (fun k => by rw [if_neg (by decide)]) (Ev.now _))
theorem lst0_succ (n : Nat) (m : Nat → Int) : lst0 (n + 1) m = lst0 n m ++ [m n] := by
 unfold lst0; rw [List.range_succ, List.map_append]; rfl
theorem rflip_l0 (l : List Int) (hl : l.length ≤ 1000) (hs : Smalls l) (sg : Bool) (kk : Nat) (hk1 : 1 ≤ kk) (hk : kk ≤ l.length) : ∀ d i : Nat, i + d = l.length → Ev (fun k => bibelotref07_Flip.l0 k l (kk : Int) sg (lst0 i (fl sg (nth l) 0 kk)) (i : Int)) (lst0 l.length (fl sg (nth l) 0 kk))
 | 0, i, h => by
  refine Ev.step (f := fun _ => some (lst0 l.length (fl sg (nth l) 0 kk))) (fun k => ?_) (Ev.now _)
  rw [bibelotref07_Flip.l0, if_neg (by omega), show i = l.length by omega]
 | d + 1, i, h => by
  have ih := rflip_l0 l hl hs sg kk hk1 hk d (i + 1) (by omega)
  refine Ev.step (fun k => ?_) ih
  rw [lst0_succ, bibelotref07_Flip.l0, if_pos (by omega), if_pos (by omega), lst0_len, w64 (x := (i : Int) + 1) (by omega) (by omega)]
  by_cases hik : i < kk
  ·have e2 : (kk : Int) - 1 - (i : Int) = ((kk - 1 - i : Nat) : Int) := by omega
   have h1 := hs (kk - 1 - i)
   have e3 : 0 + kk - 1 - i = kk - 1 - i := by omega
   rw [if_pos (by omega), w64 (x := (kk : Int) - 1) (by omega) (by omega), w64 (x := (kk : Int) - 1 - (i : Int)) (by omega) (by omega), if_pos (by omega), if_pos (by omega), e2, rd_nth]
   cases sg
   ·rw [if_neg (by decide), if_pos (by omega)]
    have e4 : fl false (nth l) 0 kk i = nth l (kk - 1 - i) := by
     unfold fl rv
     rw [if_neg (by simp), if_pos ⟨Nat.zero_le _, hik⟩, e3]
    rw [e4]; rfl
   ·rw [if_pos rfl, if_pos (by omega), w64 (by omega) (by omega)]
    have e4 : fl true (nth l) 0 kk i = -(nth l (kk - 1 - i)) := by
     unfold fl rv
     rw [if_pos ⟨rfl, Nat.zero_le _, hik⟩, if_pos ⟨Nat.zero_le _, hik⟩, e3]
    rw [e4]; rfl
  ·have e4 : fl sg (nth l) 0 kk i = nth l i := by
    unfold fl rv
    rw [if_neg (fun h => hik h.2.2), if_neg (fun h => hik h.2)]
   rw [if_neg (by omega), if_pos (by omega), rd_nth, e4]
   rfl
theorem rflip_ev {l : List Int} (hl : l.length ≤ 1000) (hs : Smalls l) (sg : Bool) (kk : Nat) (hk1 : 1 ≤ kk) (hk : kk ≤ l.length) : Ev (fun k => bibelotref07_Flip.f k l (kk : Int) sg) (flL sg l 0 (kk - 1)) := by
 have h := rflip_l0 l hl hs sg kk hk1 hk l.length 0 (by omega)
 have e : flL sg l 0 (kk - 1) = lst0 l.length (fl sg (nth l) 0 kk) := by unfold flL; rw [show kk - 1 + 1 = kk by omega]
 rw [e]; exact h
theorem rturn_l0 (l : List Int) (hl : l.length ≤ 1000) (hs : Smalls l) (a b : Nat) (hab : a ≤ b) (hb : b < l.length) : ∀ d i : Nat, i + d = l.length → Ev (fun k => bibelotref07_Turn.l0 k l (a : Int) (b : Int) (lst0 i (fl true (nth l) a (b + 1))) (i : Int)) (lst0 l.length (fl true (nth l) a (b + 1)))
 | 0, i, h => by
  refine Ev.step (f := fun _ => some (lst0 l.length (fl true (nth l) a (b + 1)))) (fun k => ?_) (Ev.now _)
  rw [bibelotref07_Turn.l0, if_neg (by omega), show i = l.length by omega]
 | d + 1, i, h => by
  have ih := rturn_l0 l hl hs a b hab hb d (i + 1) (by omega)
  refine Ev.step (fun k => ?_) ih
  rw [lst0_succ, bibelotref07_Turn.l0, if_pos (by omega), if_pos (by omega), lst0_len, w64 (x := (i : Int) + 1) (by omega) (by omega)]
  by_cases hia : a ≤ i
  ·by_cases hib : i ≤ b
   ·have e2 : (a : Int) + (b : Int) - (i : Int) = ((a + b - i : Nat) : Int) := by omega
    have h1 := hs (a + b - i)
    have e3 : a + (b + 1) - 1 - i = a + b - i := by omega
    have e4 : fl true (nth l) a (b + 1) i = -(nth l (a + b - i)) := by
     unfold fl rv
     rw [if_pos ⟨rfl, hia, by omega⟩, if_pos ⟨hia, by omega⟩, e3]
    rw [if_pos (by omega), if_pos (by omega), w64 (x := (a : Int) + (b : Int)) (by omega) (by omega), w64 (x := (a : Int) + (b : Int) - (i : Int)) (by omega) (by omega), if_pos (by omega), if_pos (by omega), if_pos (by omega), e2, rd_nth, w64 (by omega) (by omega), e4]
    rfl
   ·have e4 : fl true (nth l) a (b + 1) i = nth l i := by
     unfold fl rv
     rw [if_neg (fun h => by have := h.2.2; omega), if_neg (fun h => by have := h.2; omega)]
    rw [if_pos (by omega), if_neg (by omega), if_pos (by omega), rd_nth, e4]
    rfl
  ·have e4 : fl true (nth l) a (b + 1) i = nth l i := by
    unfold fl rv
    rw [if_neg (fun h => by have := h.2.1; omega), if_neg (fun h => by have := h.1; omega)]
   rw [if_neg (by omega), if_pos (by omega), rd_nth, e4]
   rfl
theorem rturn_ev {l : List Int} (hl : l.length ≤ 1000) (hs : Smalls l) (a b : Nat) (hab : a ≤ b) (hb : b < l.length) : Ev (fun k => bibelotref07_Turn.f k l (a : Int) (b : Int)) (flL true l a b) := rturn_l0 l hl hs a b hab hb l.length 0 (by omega)
theorem small_of {sg : Bool} {n : Nat} {l : List Int} (h : Stk sg n l) (h1 : 1 ≤ n) (hn : n ≤ 40) : small l = true := by
 unfold small
 simp only [Bool.and_eq_true, decide_eq_true_eq, List.all_eq_true]
 refine ⟨⟨by rw [h.len]; omega, by rw [h.len]; omega⟩, fun x hx => ?_⟩
 have := h.rng x hx
 omega
theorem pflip_ev {n : Nat} {l : List Int} (h : Stk false n l) (h1 : 1 ≤ n) (hn : n ≤ 7) (a : Int) : Ev (fun k => pancake_Flip.f k l a) (if a < 1 ∨ (n : Int) < a then ([], 1) else (flL false l 0 (a.toNat - 1), 0)) := by
 have hc := check58_ev l
 rw [if_pos (isSt_stk h h1 (by omega))] at hc
 refine Ev.bind hc (Ev.congr (fun k => ?_) (Ev.now _))
 rw [if_pos rfl]
 unfold pancake_topFlipped.f
 rw [if_pos (small_of h h1 (by omega)), h.len]
 rfl
theorem pflipB_ev {n : Nat} {l : List Int} (h : Stk true n l) (h1 : 1 ≤ n) (hn : n ≤ 6) (a : Int) : Ev (fun k => pancake_FlipBurnt.f k l a) (if a < 1 ∨ (n : Int) < a then ([], 1) else (flL true l 0 (a.toNat - 1), 0)) := by
 have hc := check59_ev l
 rw [if_pos (isSt_stk h h1 (by omega))] at hc
 refine Ev.bind hc (Ev.congr (fun k => ?_) (Ev.now _))
 rw [if_pos rfl]
 unfold pancake_topFlipped.f
 rw [if_pos (small_of h h1 (by omega)), h.len]
 rfl
theorem awake_ev : Ev (fun _ : Nat => bibelotlaw07_awake.f) true := Ev.now true
end Go.Proofs.Ytepjhdblmghckaa.G
/- The document's codes of stacks: what they are, and that no two stacks have the same. -/
namespace Go.Proofs.Ytepjhdblmghckaa.G
set_option linter.unusedVariables false
set_option linter.unusedSimpArgs false
set_option linter.unusedSectionVars false
open Go.Proofs.Ytepjhdblmghckaa.Q Go.Proofs.Ytepjhdblmghckaa.K Go.Proofs.Ytepjhdblmghckaa.Bf
open Go.RowKit Go.Proofs.YtepjhdblmghckaaW.PrintWords Go.Proofs.YtepjhdblmghckaaW.PrintLast Go.Proofs.YtepjhdblmghckaaW.PrintMore
def lessH (x : Int) (t : List Int) : Nat := t.countP (fun y => decide (y.natAbs < x.natAbs))
theorem lessH_le (x : Int) (t : List Int) : lessH x t ≤ t.length := List.countP_le_length
theorem lessH_cons (x y : Int) (t : List Int) : lessH x (y :: t) = lessH x t + (if y.natAbs < x.natAbs then 1 else 0) := by
 unfold lessH
 rw [List.countP_cons]
 by_cases h : y.natAbs < x.natAbs <;> simp [h]
def lehm : Nat → List Int → Nat
 | c, [] => c
 | c, x :: t => lehm (c * (t.length + 1) + lessH x t) t
def sgnN : Nat → List Int → Nat
 | c, [] => c
 | c, x :: t => sgnN (2 * c + if x < 0 then 1 else 0) t
/-- The code of a stack. -/
def codeN (l : List Int) : Nat := sgnN (lehm 0 l) l
def fct : Nat → Nat
 | 0 => 1
 | k + 1 => (k + 1) * fct k
theorem fct_pos : ∀ k, 1 ≤ fct k
 | 0 => Nat.le_refl _
 | k + 1 => Nat.mul_pos (Nat.succ_pos k) (fct_pos k)
theorem fct_mono (k : Nat) : fct k ≤ fct (k + 1) := by
 show fct k ≤ (k + 1) * fct k
 exact Nat.le_mul_of_pos_left _ (Nat.succ_pos k)
theorem fct_le {k : Nat} : ∀ d, fct k ≤ fct (k + d)
 | 0 => Nat.le_refl _
 | d + 1 => Nat.le_trans (fct_le d) (fct_mono (k + d))
theorem fct7 {k : Nat} (h : k ≤ 7) : fct k ≤ 5040 := by
 have h1 := fct_le (k := k) (7 - k)
 rw [show k + (7 - k) = 7 by omega] at h1
 have h2 : fct 7 = 5040 := by decide
 omega
theorem lehm_lt : ∀ (l : List Int) (c : Nat), lehm c l + 1 ≤ (c + 1) * fct l.length
 | [], c => by simp [lehm, fct]
 | x :: t, c => by
  have ih := lehm_lt t (c * (t.length + 1) + lessH x t)
  have h1 := lessH_le x t
  have h2 : (c * (t.length + 1) + lessH x t + 1) * fct t.length ≤ ((c + 1) * (t.length + 1)) * fct t.length := Nat.mul_le_mul_right _ (by rw [Nat.succ_mul]; omega)
  rw [lehm]
  refine Nat.le_trans ih (Nat.le_trans h2 ?_)
  rw [List.length_cons, fct, Nat.mul_assoc]
  exact Nat.le_refl _
theorem sgnN_lt : ∀ (l : List Int) (c : Nat), sgnN c l + 1 ≤ (c + 1) * 2 ^ l.length
 | [], c => by simp [sgnN]
 | x :: t, c => by
  have ih := sgnN_lt t (2 * c + if x < 0 then 1 else 0)
  have h2 : (2 * c + (if x < 0 then 1 else 0) + 1) * 2 ^ t.length ≤ ((c + 1) * 2) * 2 ^ t.length := Nat.mul_le_mul_right _ (by split <;> omega)
  rw [sgnN]
  refine Nat.le_trans ih (Nat.le_trans h2 ?_)
  rw [List.length_cons, Nat.pow_succ, Nat.mul_assoc, Nat.mul_comm 2]
  exact Nat.le_refl _
theorem codeN_lt (l : List Int) : codeN l < fct l.length * 2 ^ l.length := by
 have h1 := lehm_lt l 0
 have h2 := sgnN_lt l (lehm 0 l)
 have h3 : (lehm 0 l + 1) * 2 ^ l.length ≤ fct l.length * 2 ^ l.length := Nat.mul_le_mul_right _ (by omega)
 unfold codeN
 omega
/-! ### No two have the same -/
def digs : List Int → List Nat
 | [] => []
 | x :: t => lessH x t :: digs t
theorem divmod_inj {a b m p q : Nat} (hp : p ≤ m) (hq : q ≤ m) (h : a * (m + 1) + p = b * (m + 1) + q) : a = b ∧ p = q := by
 have h1 : (a * (m + 1) + p) / (m + 1) = a := by rw [Nat.mul_comm, Nat.mul_add_div (by omega), Nat.div_eq_of_lt (by omega), Nat.add_zero]
 have h2 : (b * (m + 1) + q) / (m + 1) = b := by rw [Nat.mul_comm, Nat.mul_add_div (by omega), Nat.div_eq_of_lt (by omega), Nat.add_zero]
 rw [h] at h1
 have : a = b := h1.symm.trans h2
 subst this
 exact ⟨rfl, by omega⟩
theorem lehm_inj : ∀ (l m : List Int) (c e : Nat), l.length = m.length → lehm c l = lehm e m → c = e ∧ digs l = digs m
 | [], [], c, e, _, h => ⟨h, rfl⟩
 | x :: t, y :: u, c, e, hl, h => by
  have hl2 : t.length = u.length := by simpa using hl
  rw [lehm, lehm] at h
  obtain ⟨h1, h2⟩ := lehm_inj t u _ _ hl2 h
  rw [hl2] at h1
  have h3 := lessH_le x t
  obtain ⟨h4, h5⟩ := divmod_inj (by omega) (lessH_le y u) h1
  refine ⟨h4, ?_⟩
  rw [digs, digs, h5, h2]
 | [], y :: u, c, e, hl, h => by simp at hl
 | x :: t, [], c, e, hl, h => by simp at hl
theorem sgnN_inj : ∀ (l m : List Int) (c e : Nat), l.length = m.length → sgnN c l = sgnN e m → c = e ∧ l.map (fun x => decide (x < 0)) = m.map (fun x => decide (x < 0))
 | [], [], c, e, _, h => ⟨h, rfl⟩
 | x :: t, y :: u, c, e, hl, h => by
  rw [sgnN, sgnN] at h
  obtain ⟨h1, h2⟩ := sgnN_inj t u _ _ (by simpa using hl) h
  rw [List.map_cons, List.map_cons, h2]
  by_cases hx : x < 0 <;> by_cases hy : y < 0
  ·rw [if_pos hx, if_pos hy] at h1
   exact ⟨by omega, by rw [decide_eq_true hx, decide_eq_true hy]⟩
  ·rw [if_pos hx, if_neg hy] at h1; omega
  ·rw [if_neg hx, if_pos hy] at h1; omega
  ·rw [if_neg hx, if_neg hy] at h1
   exact ⟨by omega, by rw [decide_eq_false hx, decide_eq_false hy]⟩
 | [], y :: u, c, e, hl, h => by simp at hl
 | x :: t, [], c, e, hl, h => by simp at hl
theorem countP_lt {p q : Nat → Bool} (hpq : ∀ y, p y = true → q y = true) {x : Nat} (hp : p x = false) (hq : q x = true) : ∀ l : List Nat, x ∈ l → l.countP p < l.countP q
 | y :: l, h => by
  rw [List.countP_cons, List.countP_cons]
  rcases List.mem_cons.1 h with rfl | h
  ·have := List.countP_mono_left (p := p) (q := q) (l := l) (fun y _ => hpq y)
   rw [hp, hq]
   simp
   omega
  ·have := countP_lt hpq hp hq l h
   have h2 : (if p y = true then 1 else 0) ≤ (if q y = true then 1 else 0) := by
    by_cases h3 : p y = true
    ·rw [if_pos h3, if_pos (hpq y h3)]; exact Nat.le_refl _
    ·rw [if_neg h3]; exact Nat.zero_le _
   omega
theorem lessH_map (x : Int) (t : List Int) : lessH x t = (t.map Int.natAbs).countP (fun y => decide (y < x.natAbs)) := by
 unfold lessH
 rw [List.countP_map]; rfl
theorem digs_inj : ∀ (l m : List Int), (l.map Int.natAbs).Perm (m.map Int.natAbs) → digs l = digs m → l.map Int.natAbs = m.map Int.natAbs
 | [], [], _, _ => rfl
 | x :: t, y :: u, hp, h => by
  rw [digs, digs] at h
  injection h with h1 h2
  have e1 : lessH x t = ((x :: t).map Int.natAbs).countP (fun z => decide (z < x.natAbs)) := by rw [lessH_map, List.map_cons, List.countP_cons]; simp
  have e2 : lessH y u = ((x :: t).map Int.natAbs).countP (fun z => decide (z < y.natAbs)) := by rw [lessH_map, hp.countP_eq, List.map_cons, List.countP_cons]; simp
  have hxm : x.natAbs ∈ (x :: t).map Int.natAbs := by simp
  have hym : y.natAbs ∈ (x :: t).map Int.natAbs := hp.symm.subset (by simp)
  have hxy : x.natAbs = y.natAbs := by
   rcases Nat.lt_trichotomy x.natAbs y.natAbs with hlt | he | hlt
   ·have := countP_lt (p := fun z => decide (z < x.natAbs)) (q := fun z => decide (z < y.natAbs)) (fun z hz => by simp at hz ⊢; omega) (x := x.natAbs) (by simp) (by simpa using hlt) _ hxm
    omega
   ·exact he
   ·have := countP_lt (p := fun z => decide (z < y.natAbs)) (q := fun z => decide (z < x.natAbs)) (fun z hz => by simp at hz ⊢; omega) (x := y.natAbs) (by simp) (by simpa using hlt) _ hym
    omega
  rw [List.map_cons, List.map_cons] at hp ⊢
  rw [hxy] at hp ⊢
  rw [digs_inj t u hp.cons_inv h2]
 | [], y :: u, hp, h => by cases h
 | x :: t, [], hp, h => by cases h
theorem abs_sign : ∀ (l m : List Int), l.map Int.natAbs = m.map Int.natAbs → l.map (fun x => decide (x < 0)) = m.map (fun x => decide (x < 0)) → l = m
 | [], [], _, _ => rfl
 | x :: t, y :: u, h1, h2 => by
  rw [List.map_cons, List.map_cons] at h1 h2
  injection h1 with a1 a2
  injection h2 with b1 b2
  have : (x < 0) ↔ (y < 0) := by simpa using b1
  rw [abs_sign t u a2 b2, show x = y by omega]
 | [], y :: u, h, _ => by cases h
 | x :: t, [], h, _ => by cases h
/-- Each number from 1 to n is there. -/
theorem Stk.has {sg : Bool} {n : Nat} {l : List Int} (h : Stk sg n l) {a : Nat} (h1 : 1 ≤ a) (h2 : a ≤ n) : a ∈ l.map Int.natAbs := by
 by_cases hm : a ∈ l.map Int.natAbs
 ·exact hm
 ·have h3 := nodup_sub (a :: l.map Int.natAbs) ((List.range n).map (· + 1)) (List.nodup_cons.2 ⟨hm, h.nd⟩) (fun x hx => by
   rcases List.mem_cons.1 hx with rfl | hx
   ·exact List.mem_map.2 ⟨x - 1, List.mem_range.2 (by omega), by omega⟩
   ·obtain ⟨y, hy, rfl⟩ := List.mem_map.1 hx
    have := h.rng y hy
    exact List.mem_map.2 ⟨y.natAbs - 1, List.mem_range.2 (by omega), by omega⟩)
  simp only [List.length_cons, List.length_map, List.length_range, h.len] at h3
  omega
theorem Stk.perm {sg tg : Bool} {n : Nat} {l m : List Int} (h : Stk sg n l) (k : Stk tg n m) : (l.map Int.natAbs).Perm (m.map Int.natAbs) := by
 refine (List.perm_ext_iff_of_nodup h.nd k.nd).2 (fun a => ?_)
 constructor
 ·intro ha
  obtain ⟨y, hy, rfl⟩ := List.mem_map.1 ha
  have := h.rng y hy
  exact k.has (by omega) (by omega)
 ·intro ha
  obtain ⟨y, hy, rfl⟩ := List.mem_map.1 ha
  have := k.rng y hy
  exact h.has (by omega) (by omega)
theorem code_inj {sg tg : Bool} {n : Nat} {l m : List Int} (h : Stk sg n l) (k : Stk tg n m) (he : codeN l = codeN m) : l = m := by
 have hl : l.length = m.length := h.len.trans k.len.symm
 obtain ⟨h1, h2⟩ := sgnN_inj l m _ _ hl he
 exact abs_sign l m (digs_inj l m (h.perm k) (lehm_inj l m _ _ hl h1).2) h2
end Go.Proofs.Ytepjhdblmghckaa.G
/- Flips of stacks: they are stacks; each stack is reached from each; distances. -/
namespace Go.Proofs.Ytepjhdblmghckaa.G
set_option linter.unusedVariables false
set_option linter.unusedSimpArgs false
set_option linter.unusedSectionVars false
open Go.Proofs.Ytepjhdblmghckaa.Q Go.Proofs.Ytepjhdblmghckaa.K Go.Proofs.Ytepjhdblmghckaa.Bf
open Go.RowKit Go.Proofs.YtepjhdblmghckaaW.PrintWords Go.Proofs.YtepjhdblmghckaaW.PrintLast Go.Proofs.YtepjhdblmghckaaW.PrintMore
theorem nth_get (l : List Int) (p : Nat) (h : p < l.length) : nth l p = l[p] := by
 unfold nth; rw [List.getD_eq_getElem?_getD, List.getElem?_eq_getElem h]; rfl
theorem nth_in (l : List Int) (p : Nat) (h : p < l.length) : nth l p ∈ l := by
 rw [nth_get l p h]; exact List.getElem_mem h
theorem mem_nth {l : List Int} {x : Int} (h : x ∈ l) : ∃ p, p < l.length ∧ nth l p = x := by
 obtain ⟨p, hp, rfl⟩ := List.getElem_of_mem h
 exact ⟨p, hp, nth_get l p hp⟩
theorem stk_nth {sg : Bool} {n : Nat} {l : List Int} : Stk sg n l ↔ l.length = n ∧ (∀ p, p < n → nth l p ≠ 0 ∧ -(n : Int) ≤ nth l p ∧ nth l p ≤ n) ∧ (∀ p q, p < n → q < n → (nth l p).natAbs = (nth l q).natAbs → p = q) ∧ (sg = false → ∀ p, p < n → 0 < nth l p) := by
 constructor
 ·intro h
  refine ⟨h.len, fun p hp => h.rng _ (nth_in l p (by rw [h.len]; exact hp)), fun p q hp hq he => ?_, fun hs p hp => h.pos hs _ (nth_in l p (by rw [h.len]; exact hp))⟩
  have hnd := List.pairwise_iff_getElem.1 h.nd
  rcases Nat.lt_trichotomy p q with hlt | he2 | hlt
  ·have := hnd p q (by rw [List.length_map, h.len]; exact hp) (by rw [List.length_map, h.len]; exact hq) hlt
   rw [List.getElem_map, List.getElem_map, ← nth_get l p (by rw [h.len]; exact hp), ← nth_get l q (by rw [h.len]; exact hq)] at this
   exact absurd he this
  ·exact he2
  ·have := hnd q p (by rw [List.length_map, h.len]; exact hq) (by rw [List.length_map, h.len]; exact hp) hlt
   rw [List.getElem_map, List.getElem_map, ← nth_get l p (by rw [h.len]; exact hp), ← nth_get l q (by rw [h.len]; exact hq)] at this
   exact absurd he.symm this
 ·rintro ⟨h1, h2, h3, h4⟩
  refine ⟨h1, fun x hx => ?_, ?_, fun hs x hx => ?_⟩
  ·obtain ⟨p, hp, rfl⟩ := mem_nth hx
   exact h2 p (by omega)
  ·refine List.pairwise_iff_getElem.2 (fun p q hp hq hlt he => ?_)
   rw [List.length_map] at hp hq
   rw [List.getElem_map, List.getElem_map, ← nth_get l p hp, ← nth_get l q hq] at he
   have := h3 p q (by omega) (by omega) he
   omega
  ·obtain ⟨p, hp, rfl⟩ := mem_nth hx
   exact h4 hs p (by omega)
theorem fl_eq (sg : Bool) (m : Nat → Int) (i k p : Nat) : fl sg m i (k + 1) p = if i ≤ p ∧ p ≤ k then (if sg = true then -(m (i + k - p)) else m (i + k - p)) else m p := by
 unfold fl rv
 cases sg
 ·rw [if_neg (by simp)]
  by_cases h : i ≤ p ∧ p ≤ k
  ·rw [if_pos h, if_pos (by omega), if_neg (by decide)]; congr 1
  ·rw [if_neg h, if_neg (by omega)]
 ·by_cases h : i ≤ p ∧ p ≤ k
  ·rw [if_pos h, if_pos ⟨rfl, h.1, by omega⟩, if_pos ⟨h.1, by omega⟩, if_pos rfl]; congr 2
  ·rw [if_neg h, if_neg (fun h' => h ⟨h'.2.1, by omega⟩), if_neg (fun h' => h ⟨h'.1, by omega⟩)]
theorem flL_nth {l : List Int} (sg : Bool) (i k p : Nat) (hk : k < l.length) : nth (flL sg l i k) p = if i ≤ p ∧ p ≤ k then (if sg = true then -(nth l (i + k - p)) else nth l (i + k - p)) else nth l p := by
 rw [nth_flL sg l i k hk, fl_eq]
theorem stk_flL {sg tg : Bool} {n : Nat} {l : List Int} (h : Stk sg n l) (ht : tg = true → sg = true) (i k : Nat) (hik : i ≤ k) (hk : k < n) : Stk sg n (flL tg l i k) := by
 have hl := h.len
 obtain ⟨h1, h2, h3, h4⟩ := stk_nth.1 h
 have hab : ∀ p, (nth (flL tg l i k) p).natAbs = (nth l (if i ≤ p ∧ p ≤ k then i + k - p else p)).natAbs := fun p => by
  rw [flL_nth tg i k p (by omega)]
  by_cases hp : i ≤ p ∧ p ≤ k
  ·rw [if_pos hp, if_pos hp]
   split
   ·rw [Int.natAbs_neg]
   ·rfl
  ·rw [if_neg hp, if_neg hp]
 have hin : ∀ p, p < n → (if i ≤ p ∧ p ≤ k then i + k - p else p) < n := fun p hp => by split <;> omega
 refine stk_nth.2 ⟨by rw [flL_len, hl], fun p hp => ?_, fun p q hp hq he => ?_, fun hs p hp => ?_⟩
 ·have := h2 _ (hin p hp)
  have e := hab p
  omega
 ·rw [hab p, hab q] at he
  have := h3 _ _ (hin p hp) (hin q hq) he
  split at this <;> split at this <;> omega
 ·have htf : tg = false := by cases tg with
   | false => rfl
   | true => rw [ht rfl] at hs; cases hs
  have := h4 hs _ (hin p hp)
  rw [flL_nth tg i k p (by omega), htf]
  by_cases hpk : i ≤ p ∧ p ≤ k
  ·rw [if_pos hpk] at this ⊢; rw [if_neg (by decide)]; exact this
  ·rw [if_neg hpk] at this ⊢; exact this
theorem Stk.vs {sg : Bool} {n : Nat} {l : List Int} (h : Stk sg n l) (hn : n ≤ 7) : Vs n l := by
 refine ⟨h.len, fun j => ?_⟩
 by_cases hj : j < n
 ·have := (stk_nth.1 h).2.1 j hj; omega
 ·rw [nth_end _ _ (by rw [h.len]; omega)]; omega
theorem stk_firstL (sg : Bool) (n : Nat) : Stk sg n (firstL n) := by
 refine stk_nth.2 ⟨by simp [firstL], fun p hp => ?_, fun p q hp hq he => ?_, fun hs p hp => ?_⟩
 ·rw [nth_firstL]; unfold upTo; rw [if_pos hp]; omega
 ·rw [nth_firstL] at he; unfold upTo at he; rw [if_pos hp, if_pos hq] at he; omega
 ·rw [nth_firstL]; unfold upTo; rw [if_pos hp]; omega
/-! ### balls -/
section
variable {α : Type} [DecidableEq α] {next : α → List α}
theorem ball_cons {s y x : α} (hy : y ∈ next s) : ∀ k, x ∈ ball next y k → x ∈ ball next s (k + 1)
 | 0, h => by
  have : x = y := by simpa [ball] using h
  subst this
  exact ball_succ.2 (.inr ⟨s, by simp [ball], hy⟩)
 | k + 1, h => by
  rcases ball_succ.1 h with h | ⟨z, hz, hx⟩
  ·exact ball_mono (Nat.le_succ _) (ball_cons hy k h)
  ·exact ball_succ.2 (.inr ⟨z, ball_cons hy k hz, hx⟩)
theorem ball_trans {a b c : α} {i : Nat} (h1 : b ∈ ball next a i) : ∀ j, c ∈ ball next b j → c ∈ ball next a (i + j)
 | 0, h => by
  have : c = b := by simpa [ball] using h
  rw [this]; exact h1
 | j + 1, h => by
  rcases ball_succ.1 h with h | ⟨z, hz, hx⟩
  ·exact ball_mono (Nat.le_succ _) (ball_trans h1 j h)
  ·exact ball_succ.2 (.inr ⟨z, ball_trans h1 j hz, hx⟩)
theorem ball_exact {a b : α} : ∀ k, b ∈ ball next a k → ∃ d, d ≤ k ∧ Exact next a b d
 | 0, h => ⟨0, Nat.le_refl _, h, fun j hj => by omega⟩
 | k + 1, h => by
  by_cases hk : b ∈ ball next a k
  ·obtain ⟨d, h1, h2⟩ := ball_exact k hk
   exact ⟨d, by omega, h2⟩
  ·exact ⟨k + 1, Nat.le_refl _, h, fun j hj hj' => hk (ball_mono (by omega) hj')⟩
end
theorem ball_len {n : Nat} {sg an : Bool} {a b : List Int} (ha : a.length = n) : ∀ k, b ∈ ball (nextK n sg an) a k → b.length = n
 | 0, h => by
  have : b = a := by simpa [ball] using h
  rw [this]; exact ha
 | k + 1, h => by
  rcases ball_succ.1 h with h | ⟨z, hz, hx⟩
  ·exact ball_len ha k h
  ·obtain ⟨x, _, rfl⟩ := List.mem_map.1 hx
   rw [flL_len]; exact ball_len ha k hz
theorem ball_symm {n : Nat} {sg an : Bool} {a b : List Int} (ha : a.length = n) : ∀ k, b ∈ ball (nextK n sg an) a k → a ∈ ball (nextK n sg an) b k := by
 intro k
 induction k generalizing b with
 | zero =>
  intro h
  have : b = a := by simpa [ball] using h
  subst this
  simp [ball]
 | succ k ih =>
  intro h
  rcases ball_succ.1 h with h | ⟨z, hz, hx⟩
  ·exact ball_mono (Nat.le_succ _) (ih h)
  ·exact ball_cons (next_back (ball_len ha k hz) hx) k (ih hz)
theorem ball_stk {n : Nat} {sg an : Bool} {a b : List Int} (ha : Stk sg n a) : ∀ k, b ∈ ball (nextK n sg an) a k → Stk sg n b
 | 0, h => by
  have : b = a := by simpa [ball] using h
  rw [this]; exact ha
 | k + 1, h => by
  rcases ball_succ.1 h with h | ⟨z, hz, hx⟩
  ·exact ball_stk ha k h
  ·obtain ⟨x, hm, rfl⟩ := List.mem_map.1 hx
   have := mem_mv hm
   exact stk_flL (ball_stk ha k hz) (fun h => h) x.1 x.2 this.1 this.2.1
/-- b is reached from a. -/
def Rch (n : Nat) (sg : Bool) (a b : List Int) : Prop := ∃ k, b ∈ ball (nextK n sg false) a k
theorem Rch.refl (n : Nat) (sg : Bool) (a : List Int) : Rch n sg a a := ⟨0, by simp [ball]⟩
theorem Rch.trans {n : Nat} {sg : Bool} {a b c : List Int} (h : Rch n sg a b) (k : Rch n sg b c) : Rch n sg a c := by
 obtain ⟨i, hi⟩ := h
 obtain ⟨j, hj⟩ := k
 exact ⟨i + j, ball_trans hi j hj⟩
theorem Rch.symm {n : Nat} {sg : Bool} {a b : List Int} (ha : a.length = n) (h : Rch n sg a b) : Rch n sg b a := by
 obtain ⟨k, hk⟩ := h
 exact ⟨k, ball_symm ha k hk⟩
theorem flL_one (l : List Int) : flL false l 0 0 = l := by
 by_cases h : 0 < l.length
 ·apply List.ext_getElem (by rw [flL_len])
  intro p h1 h2
  rw [← nth_get _ p h1, ← nth_get l p h2, flL_nth false 0 0 p h]
  split
  ·rw [if_neg (by decide)]; congr 1; omega
  ·rfl
 ·have : l = [] := List.length_eq_zero_iff.1 (by omega)
  rw [this]; rfl
theorem Rch.flip {n : Nat} {sg : Bool} {l : List Int} (k : Nat) (hk : k < n) : Rch n sg l (flL sg l 0 k) := by
 by_cases h : sg = true ∨ k ≠ 0
 ·exact ⟨1, ball_succ.2 (.inr ⟨l, by simp [ball], List.mem_map.2 ⟨(0, k), mv_mem (Nat.zero_le _) hk h (.inr rfl), rfl⟩⟩)⟩
 ·have hk0 : k = 0 := by
   rcases Nat.eq_zero_or_pos k with h' | h'
   ·exact h'
   ·exact absurd (.inr (by omega)) h
  have hs : sg = false := by cases sg with
   | false => rfl
   | true => exact absurd (.inl rfl) h
  subst hk0; subst hs
  rw [flL_one]; exact Rch.refl _ _ _
theorem rch_first {n : Nat} {sg : Bool} : ∀ (m : Nat) (l : List Int), m ≤ n → Stk sg n l → (∀ p, m ≤ p → p < n → nth l p = (p : Int) + 1) → Rch n sg l (firstL n)
 | 0, l, _, h, hr => by
  have : l = firstL n := by
   apply List.ext_getElem (by rw [h.len]; simp [firstL])
   intro p h1 h2
   rw [← nth_get _ p h1, ← nth_get _ p h2, nth_firstL, hr p (Nat.zero_le _) (by rw [← h.len]; exact h1)]
   unfold upTo
   rw [if_pos (by rw [← h.len]; exact h1)]
   omega
  rw [this]; exact Rch.refl _ _ _
 | m + 1, l, hm, h, hr => by
  have hl := h.len
  obtain ⟨y, hy, he⟩ := List.mem_map.1 (h.has (a := m + 1) (by omega) hm)
  obtain ⟨p, hp, rfl⟩ := mem_nth hy
  have hpm : p ≤ m := by
   rcases Nat.lt_or_ge m p with h1 | h1
   ·have := hr p (by omega) (by omega); omega
   ·exact h1
  obtain ⟨l1, hl1⟩ : ∃ l1, flL sg l 0 p = l1 := ⟨_, rfl⟩
  have s1 : Stk sg n l1 := by rw [← hl1]; exact stk_flL h (fun h => h) 0 p (Nat.zero_le _) (by omega)
  have z1 : (nth l1 0).natAbs = m + 1 := by
   rw [← hl1, flL_nth sg 0 p 0 hp, if_pos ⟨Nat.le_refl _, Nat.zero_le _⟩]
   have e0 : 0 + p - 0 = p := by omega
   rw [e0]
   split
   ·rw [Int.natAbs_neg]; exact he
   ·exact he
  have r1 : ∀ q, m + 1 ≤ q → q < n → nth l1 q = (q : Int) + 1 := fun q h1 h2 => by
   rw [← hl1, flL_nth sg 0 p q hp, if_neg (by omega)]; exact hr q h1 h2
  have c1 : Rch n sg l l1 := by rw [← hl1]; exact Rch.flip p (by omega)
  obtain ⟨l2, s2, z2, r2, c2⟩ : ∃ l2, Stk sg n l2 ∧ nth l2 0 = (if sg = true then -((m : Int) + 1) else (m : Int) + 1) ∧ (∀ q, m + 1 ≤ q → q < n → nth l2 q = (q : Int) + 1) ∧ Rch n sg l1 l2 := by
   cases sg with
   | false =>
    refine ⟨l1, s1, ?_, r1, Rch.refl _ _ _⟩
    have := (stk_nth.1 s1).2.2.2 rfl 0 (by omega)
    rw [if_neg (by decide)]; omega
   | true =>
    rw [if_pos rfl]
    by_cases hneg : nth l1 0 < 0
    ·exact ⟨l1, s1, by omega, r1, Rch.refl _ _ _⟩
    ·refine ⟨flL true l1 0 0, stk_flL s1 (fun h => h) 0 0 (Nat.le_refl _) (by omega), ?_, fun q h1 h2 => ?_, Rch.flip 0 (by omega)⟩
     ·rw [flL_nth true 0 0 0 (by rw [s1.len]; omega), if_pos ⟨Nat.le_refl _, Nat.le_refl _⟩, if_pos rfl]
      have : nth l1 (0 + 0 - 0) = nth l1 0 := rfl
      omega
     ·rw [flL_nth true 0 0 q (by rw [s1.len]; omega), if_neg (by omega)]; exact r1 q h1 h2
  obtain ⟨l3, hl3⟩ : ∃ l3, flL sg l2 0 m = l3 := ⟨_, rfl⟩
  have s3 : Stk sg n l3 := by rw [← hl3]; exact stk_flL s2 (fun h => h) 0 m (Nat.zero_le _) (by omega)
  have c3 : Rch n sg l2 l3 := by rw [← hl3]; exact Rch.flip m (by omega)
  refine c1.trans (c2.trans (c3.trans (rch_first m l3 (by omega) s3 (fun q h1 h2 => ?_))))
  rw [← hl3, flL_nth sg 0 m q (by rw [s2.len]; omega)]
  by_cases hq : q = m
  ·subst hq
   rw [if_pos ⟨Nat.zero_le _, Nat.le_refl _⟩, show 0 + q - q = 0 by omega, z2]
   split
   ·omega
   ·rfl
  ·rw [if_neg (by omega)]; exact r2 q (by omega) h2
/-- Each stack is reached from each. -/
theorem rch_all {n : Nat} {sg : Bool} {a b : List Int} (ha : Stk sg n a) (hb : Stk sg n b) : Rch n sg a b :=
 (rch_first n a (Nat.le_refl _) ha (fun p h1 h2 => by omega)).trans ((rch_first n b (Nat.le_refl _) hb (fun p h1 h2 => by omega)).symm hb.len)
theorem gap_exact {n : Nat} (hn : n ≤ 7) {sg : Bool} {a b : List Int} (ha : Stk sg n a) (hb : Stk sg n b) : Exact (nextK n sg false) a b (gap n sg a b) := by
 have hF := bfs_fin sg false (ha.vs hn) none
 have hsm : (Sof (bfs n sg false none (15 ^ n) (ini a)).1 b).isSome = true := by
  cases hm : (bfs n sg false none (15 ^ n) (ini a)).1 b with
  | some e => unfold Sof; rw [hm]; rfl
  | none =>
   rcases hF.done with h | ⟨u, hu, _⟩
   ·obtain ⟨k, hk⟩ := rch_all ha hb
    exact absurd hk (h b hm k)
   ·cases hu
 obtain ⟨e, he⟩ := Option.isSome_iff_exists.1 hsm
 have h1 := hF.exact b e he
 have h2 := hF.found b e he
 unfold gap
 rw [h2]
 exact h1
theorem gap_eq {n : Nat} (hn : n ≤ 7) {sg : Bool} {a b : List Int} (ha : Stk sg n a) (hb : Stk sg n b) {d : Nat} (h : Exact (nextK n sg false) a b d) : gap n sg a b = d := (gap_exact hn ha hb).unique h
theorem gap_le {n : Nat} (hn : n ≤ 7) {sg : Bool} {a b : List Int} (ha : Stk sg n a) (hb : Stk sg n b) {d : Nat} (h : b ∈ ball (nextK n sg false) a d) : gap n sg a b ≤ d := by
 rcases Nat.lt_or_ge d (gap n sg a b) with h1 | h1
 ·exact absurd h ((gap_exact hn ha hb).2 d h1)
 ·exact h1
theorem gap_symm {n : Nat} (hn : n ≤ 7) {sg : Bool} {a b : List Int} (ha : Stk sg n a) (hb : Stk sg n b) : gap n sg a b = gap n sg b a :=
 Nat.le_antisymm (gap_le hn ha hb (ball_symm hb.len _ (gap_exact hn hb ha).1)) (gap_le hn hb ha (ball_symm ha.len _ (gap_exact hn ha hb).1))
theorem gap_tri {n : Nat} (hn : n ≤ 7) {sg : Bool} {a b c : List Int} (ha : Stk sg n a) (hb : Stk sg n b) (hc : Stk sg n c) : gap n sg a b ≤ gap n sg a c + gap n sg c b :=
 gap_le hn ha hb (ball_trans (gap_exact hn ha hc).1 _ (gap_exact hn hc hb).1)
theorem gap_zero {n : Nat} (hn : n ≤ 7) {sg : Bool} {a b : List Int} (ha : Stk sg n a) (hb : Stk sg n b) : gap n sg a b = 0 ↔ a = b := by
 constructor
 ·intro h
  have := (gap_exact hn ha hb).1
  rw [h] at this
  simp [ball] at this
  exact this.symm
 ·rintro rfl
  exact Nat.le_zero.1 (gap_le hn ha ha (by simp [ball]))
end Go.Proofs.Ytepjhdblmghckaa.G
/- What the search knows; the moves that order a stack; the program's Flips and Order. -/
namespace Go.Proofs.Ytepjhdblmghckaa.G
set_option linter.unusedVariables false
set_option linter.unusedSimpArgs false
set_option linter.unusedSectionVars false
open Go.Proofs.Ytepjhdblmghckaa.Q Go.Proofs.Ytepjhdblmghckaa.K Go.Proofs.Ytepjhdblmghckaa.Bf
open Go.RowKit Go.Proofs.YtepjhdblmghckaaW.PrintWords Go.Proofs.YtepjhdblmghckaaW.PrintLast Go.Proofs.YtepjhdblmghckaaW.PrintMore
theorem up1 (e : Nat) (h : e ≤ 1000000000) : wrap64 ((e : Int) + 1) = ((e + 1 : Nat) : Int) := by rw [w64 (by omega) (by omega)]; rfl
theorem firstL_succ (i : Nat) : firstL (i + 1) = firstL i ++ [((i + 1 : Nat) : Int)] := by
 unfold firstL; rw [List.range_succ, List.map_append]; rfl
theorem firstL_len (i : Nat) : (firstL i).length = i := by simp [firstL]
theorem rfirst_l0 (n : Nat) (hn : n ≤ 1000) : ∀ d i : Nat, i + d = n → Ev (fun k => bibelotref07_First.l0 k (n : Int) (firstL i) ((i + 1 : Nat) : Int)) (firstL n)
 | 0, i, h => by
  obtain rfl : i = n := h
  refine Ev.step (f := fun _ => some (firstL i)) (fun k => ?_) (Ev.now _)
  rw [bibelotref07_First.l0, if_neg (by omega)]
 | d + 1, i, h => by
  have ih := rfirst_l0 n hn d (i + 1) (by omega)
  refine Ev.step (fun k => ?_) ih
  rw [bibelotref07_First.l0, if_pos (by omega), if_pos (by rw [firstL_len]; omega), w64 (by omega) (by omega), firstL_succ]
  rfl
theorem rfirst_ev (n : Nat) (hn : n ≤ 1000) : Ev (fun k => bibelotref07_First.f k (n : Int)) (firstL n) := rfirst_l0 n hn n 0 (by omega)
theorem bfs_known {n : Nat} (hn : n ≤ 7) {sg : Bool} {s t : List Int} (hs : Stk sg n s) (ht : Stk sg n t) (U : Option (List Int)) (hU : U = none ∨ U = some t) : ∃ b, (bfs n sg false U (15 ^ n) (ini s)).1 t = some (b, gap n sg s t) := by
 have hF := bfs_fin sg false (hs.vs hn) U
 have hsm : ((bfs n sg false U (15 ^ n) (ini s)).1 t).isSome = true := by
  cases hm : (bfs n sg false U (15 ^ n) (ini s)).1 t with
  | some e => rfl
  | none =>
   rcases hF.done with h | ⟨u, hu, hq⟩
   ·obtain ⟨k, hk⟩ := rch_all hs ht
    exact absurd hk (h t hm k)
   ·rcases hU with h | h
    ·rw [h] at hu; cases hu
    ·rw [h] at hu; cases hu; rw [hm] at hq; cases hq
 obtain ⟨⟨b, e⟩, he⟩ := Option.isSome_iff_exists.1 hsm
 have h2 := hF.found t e (by unfold Sof; rw [he]; rfl)
 refine ⟨b, ?_⟩
 rw [he]
 unfold gap
 rw [h2]
/-! ### The moves that order a stack -/
theorem ord_all {n : Nat} (hn : n ≤ 7) {sg : Bool} {x : List Int} (hx : Stk sg n x) : ((knownOf n sg false x) x).isSome = true ∧ (ordL n sg false x).length = gap n sg x (firstL n) ∧ (∀ m, m ∈ ordL n sg false x → m ∈ mvL n sg false) ∧ (ordL n sg false x).foldl (fun t m => flL sg t m.1 m.2) x = firstL n := by
 obtain ⟨b, hb⟩ := bfs_known hn (stk_firstL sg n) hx (some x) (.inr rfl)
 have hF := bfs_fin sg false ((stk_firstL sg n).vs hn) (some x)
 have hkn : knownOf n sg false x x = some (b, gap n sg (firstL n) x) := hb
 have h1 := ordF_ok hF.by_ _ x b hb
 have h2 := ordF_len hF.by_ hF.exact _ x b hb
 have e : ordL n sg false x = ordF (knownOf n sg false x) n sg (gap n sg (firstL n) x).succ x := by unfold ordL; rw [hkn]; rfl
 rw [e]
 refine ⟨by rw [hkn]; rfl, ?_, h1.1, h1.2.2⟩
 rw [gap_symm hn hx (stk_firstL sg n)]
 exact h2
theorem gap_lt {n : Nat} (hn : n ≤ 7) (sg : Bool) (a b : List Int) : gap n sg a b ≤ 170859375 := by
 have := least_lt' (nextK n sg false) a b (15 ^ n)
 have h2 := p15 hn
 unfold gap
 omega
theorem chk2_ok {sg : Bool} {most : Int} {n : Nat} {x y : List Int} (hx : Stk sg n x) (hy : Stk sg n y) (h1 : 1 ≤ n) (h2 : (n : Int) ≤ most) : chk2 sg most x y = 0 := by
 unfold chk2
 rw [if_pos (isSt_stk hx h1 h2), if_pos (isSt_stk hy h1 h2), if_pos (hx.len.trans hy.len.symm)]
theorem pflips_ok {n : Nat} (hn : n ≤ 7) {x y : List Int} (hx : Stk false n x) (hy : Stk false n y) (h1 : 1 ≤ n) : pancake_Flips.f x y = some (((gap n false x y : Nat) : Int), 0) := by
 unfold pancake_Flips.f
 rw [if_pos (chk2_ok hx hy h1 (by omega)), hx.len, gap_symm hn hy hx]
theorem pflipsB_ok {n : Nat} (hn : n ≤ 6) {x y : List Int} (hx : Stk true n x) (hy : Stk true n y) (h1 : 1 ≤ n) : pancake_FlipsBurnt.f x y = some (((gap n true x y : Nat) : Int), 0) := by
 unfold pancake_FlipsBurnt.f
 rw [if_pos (chk2_ok hx hy h1 (by omega)), hx.len, gap_symm (by omega) hy hx]
theorem porder_ok {n : Nat} (hn : n ≤ 7) {x : List Int} (hx : Stk false n x) (h1 : 1 ≤ n) : pancake_Order.f x = some ((ordL n false false x).map (fun m => ((m.2 : Int) + 1)), 0) := by
 unfold pancake_Order.f
 rw [if_pos (isSt_stk hx h1 (by omega)), hx.len, if_pos (ord_all hn hx).1]
theorem porderB_ok {n : Nat} (hn : n ≤ 6) {x : List Int} (hx : Stk true n x) (h1 : 1 ≤ n) : pancake_OrderBurnt.f x = some ((ordL n true false x).map (fun m => ((m.2 : Int) + 1)), 0) := by
 unfold pancake_OrderBurnt.f
 rw [if_pos (isSt_stk hx h1 (by omega)), hx.len, if_pos (ord_all (by omega) hx).1]
end Go.Proofs.Ytepjhdblmghckaa.G
