/- A part that the chapter's proofs share: contracts of the functions, and plain lemmas (part p4). -/
import Derived.Test.YtepjhdblmghckaaEp3
import Derived.Test.YtepjhdblmghckaaEp2
import Derived.Test.YtepjhdblmghckaaEp1
/- What awake asks: the answers, reckoned by the kernel. -/
namespace Go.Proofs.Ytepjhdblmghckaa.G
set_option linter.unusedVariables false
set_option linter.unusedSimpArgs false
set_option linter.unusedSectionVars false
open Go.Proofs.Ytepjhdblmghckaa.Q Go.Proofs.Ytepjhdblmghckaa.K Go.Proofs.Ytepjhdblmghckaa.Bf
/-! ### sorting that the kernel can reckon -/
def insI (a : Int) : List Int → List Int
 | [] => [a]
 | b :: l => if a ≤ b then a :: b :: l else b :: insI a l
def isort : List Int → List Int
 | [] => []
 | a :: l => insI a (isort l)
theorem insI_perm (a : Int) : ∀ l, (insI a l).Perm (a :: l)
 | [] => List.Perm.refl _
 | b :: l => by
  rw [insI]
  split
  ·exact List.Perm.refl _
  ·exact ((insI_perm a l).cons b).trans (List.Perm.swap a b l)
theorem isort_perm : ∀ l, (isort l).Perm l
 | [] => List.Perm.refl _
 | a :: l => (insI_perm a (isort l)).trans ((isort_perm l).cons a)
theorem insI_sorted (a : Int) : ∀ l : List Int, l.Pairwise (· ≤ ·) → (insI a l).Pairwise (· ≤ ·)
 | [], _ => by simp [insI]
 | b :: l, h => by
  rw [insI]
  rw [List.pairwise_cons] at h
  split
  ·rename_i hab
   rw [List.pairwise_cons, List.pairwise_cons]
   exact ⟨fun x hx => by
    rcases List.mem_cons.1 hx with rfl | hx
    ·exact hab
    ·have := h.1 x hx; omega, h⟩
  ·rename_i hab
   rw [List.pairwise_cons]
   refine ⟨fun x hx => ?_, insI_sorted a l h.2⟩
   rcases List.mem_cons.1 ((insI_perm a l).mem_iff.1 hx) with rfl | hx
   ·omega
   ·exact h.1 x hx
theorem isort_sorted : ∀ l, (isort l).Pairwise (· ≤ ·)
 | [] => List.Pairwise.nil
 | a :: l => insI_sorted a _ (isort_sorted l)
theorem sortL_sorted (l : List Int) : (sortL l).Pairwise (· ≤ ·) := by
 have h := List.pairwise_mergeSort (le := fun x y : Int => decide (x ≤ y)) (fun a b c h1 h2 => by simp at *; omega) (fun a b => by simp; omega) l
 exact h.imp (fun h => by simpa using h)
theorem perm_sorted_eq : ∀ (l m : List Int), l.Perm m → l.Pairwise (· ≤ ·) → m.Pairwise (· ≤ ·) → l = m
 | [], m, hp, _, _ => (List.nil_perm.1 hp).symm
 | a :: l, [], hp, _, _ => by have := hp.length_eq; simp at this
 | a :: l, b :: m, hp, hl, hm => by
  rw [List.pairwise_cons] at hl hm
  have hab : a = b := by
   have h1 : a ∈ b :: m := hp.mem_iff.1 (by simp)
   have h2 : b ∈ a :: l := hp.mem_iff.2 (by simp)
   rcases List.mem_cons.1 h1 with h1 | h1
   ·exact h1
   ·rcases List.mem_cons.1 h2 with h2 | h2
    ·exact h2.symm
    ·have := hl.1 b h2; have := hm.1 a h1; omega
  subst hab
  rw [perm_sorted_eq l m (List.Perm.cons_inv hp) hl.2 hm.2]
theorem sortL_eq (l : List Int) : sortL l = isort l := perm_sorted_eq _ _ ((List.mergeSort_perm ..).trans (isort_perm l).symm) (sortL_sorted l) (isort_sorted l)
def cirStepK (p pl : List Int) (st : List Bool × List (List Int)) (line : Nat) : List Bool × List (List Int) :=
 if st.1.getD line false = true then st else ((folF p pl (unseen st.1 + 1) (2 * line) st.1 []).2, st.2 ++ [isort (folF p pl (unseen st.1 + 1) (2 * line) st.1 []).1])
def circK (s : List Int) : List (List Int) := ((List.range (s.length + 1)).foldl (cirStepK (picL s) (plL s)) (List.replicate (s.length + 1) false, [])).2
theorem circL_eq (s : List Int) : circL s = circK s := by
 have e : cirStep (picL s) (plL s) = cirStepK (picL s) (plL s) := by
  funext st line
  unfold cirStep cirStepK
  rw [sortL_eq]
 unfold circL circK cirTo
 rw [e]
def cmpK (s : List Int) : List Cmp := cmpF (plL s) (circK s).length (circK s) []
theorem cmpL_eq (s : List Int) : cmpL s = cmpK s := by unfold cmpL cmpK; rw [circL_eq]
/-- Is t found within M steps? -/
def foundB {α : Type} [DecidableEq α] (next : α → List α) (start t : α) (M : Nat) : Bool := ((List.range M).find? (fun k => (ball next start k).contains t)).isSome
theorem least_small {α : Type} [DecidableEq α] {next : α → List α} {start t : α} {M N : Nat} (hM : M ≤ N) (h : foundB next start t M = true) : least next start t N = least next start t M := by
 unfold foundB at h
 unfold least
 obtain ⟨d, rfl⟩ := Nat.exists_eq_add_of_le hM
 obtain ⟨x, hx⟩ := Option.isSome_iff_exists.1 h
 rw [List.range_add, List.find?_append]
 simp only [hx, Option.some_or]
theorem gap_small {n : Nat} {sg : Bool} {a b : List Int} (M : Nat) (hM : M ≤ 15 ^ n + 1) (h : foundB (nextK n sg false) a b M = true) : gap n sg a b = least (nextK n sg false) a b M := least_small hM h
theorem mostOf_congr {d d' : List Int → Nat} : ∀ (l : List (List Int)), (∀ x, x ∈ l → d x = d' x) → mostOf d l = mostOf d' l
 | [], _ => rfl
 | x :: l, h => by unfold mostOf; rw [h x (by simp), mostOf_congr l (fun y hy => h y (by simp [hy]))]
theorem mostOf_mem {d : List Int → Nat} {l m : List (List Int)} (h : ∀ x, x ∈ l ↔ x ∈ m) : mostOf d l = mostOf d m := by
 have one : ∀ l m : List (List Int), (∀ x, x ∈ l → x ∈ m) → mostOf d l ≤ mostOf d m := fun l m h => by
  rcases mostOf_at d l with h0 | ⟨x, hx, e⟩
  ·omega
  ·rw [← e]; exact mostOf_le d m x (h x hx)
 exact Nat.le_antisymm (one l m (fun x hx => (h x).1 hx)) (one m l (fun x hx => (h x).2 hx))
/-- The greatest number of moves, by any list of all that are reached. -/
theorem wrst_of {n : Nat} {sg : Bool} {L : List (List Int)} (hnd : L.Nodup) (hst : firstL n ∈ L) (hcl : ∀ x, x ∈ L → ∀ y, y ∈ nextK n sg false x → y ∈ L) (hr : ∀ x, x ∈ L → x ∈ ball (nextK n sg false) (firstL n) (15 ^ n)) (hv : ∀ x, x ∈ L → Vs n x) :
  wrst n sg = (mostOf (gap n sg (firstL n)) L, L.countP (fun x => decide (gap n sg (firstL n) x = mostOf (gap n sg (firstL n)) L))) := by
 have hball : ∀ k x, x ∈ ball (nextK n sg false) (firstL n) k → x ∈ L := by
  intro k
  induction k with
  | zero => intro x hx; simp [ball] at hx; rw [hx]; exact hst
  | succ k ih =>
   intro x hx
   rcases ball_succ.1 hx with hx | ⟨y, hy, hxy⟩
   ·exact ih x hx
   ·exact hcl y (ih y hy) x hxy
 have hmem : ∀ x, x ∈ reach n sg ↔ x ∈ L := fun x => by
  unfold reach
  rw [mem_uniq, List.mem_filter, decide_eq_true_eq]
  exact ⟨fun h => hball _ x h.2, fun h => ⟨univ_mem n x (hv x h), hr x h⟩⟩
 have hperm : (reach n sg).Perm L := (List.perm_ext_iff_of_nodup (uniq_nodup _) hnd).2 hmem
 unfold wrst
 simp only
 rw [mostOf_mem hmem, hperm.countP_eq]
theorem aw1 : pancake_Flips.f [3, 1, 2] [1, 2, 3] = some (2, 0) := by
 have h : gap 3 false [1, 2, 3] [3, 1, 2] = 2 := by rw [gap_small 4 (by decide) (by decide +kernel)]; decide +kernel
 unfold pancake_Flips.f
 rw [if_pos (by decide +kernel)]
 rw [show ([3, 1, 2] : List Int).length = 3 from rfl, h]
 rfl
def all3 : List (List Int) := [[1, 2, 3], [2, 1, 3], [3, 2, 1], [3, 1, 2], [2, 3, 1], [1, 3, 2]]
theorem aw3 : pancake_Worst.f 3 = some (3, 1, 0) := by
 have hb : ∀ x, x ∈ all3 → x ∈ ball (nextK 3 false false) (firstL 3) 3 := by decide +kernel
 have hd : ∀ x, x ∈ all3 → gap 3 false (firstL 3) x = least (nextK 3 false false) (firstL 3) x 4 := fun x hx => gap_small 4 (by decide) (by
  have : ∀ x, x ∈ all3 → foundB (nextK 3 false false) (firstL 3) x 4 = true := by decide +kernel
  exact this x hx)
 have hw := wrst_of (n := 3) (sg := false) (L := all3) (by decide +kernel) (by decide +kernel) (by decide +kernel) (fun x hx => ball_mono (by decide) (hb x hx)) (fun x hx => by
  have : ∀ x, x ∈ all3 → x.length = 3 ∧ x.all (fun y => decide (-7 ≤ y ∧ y ≤ 7)) = true := by decide +kernel
  obtain ⟨h1, h2⟩ := this x hx
  refine ⟨h1, fun j => ?_⟩
  by_cases hj : j < x.length
  ·have := List.all_eq_true.1 h2 (nth x j) (getD_mem hj)
   simpa using this
  ·rw [nth_end _ _ (by omega)]; omega)
 have e : (mostOf (gap 3 false (firstL 3)) all3, all3.countP (fun x => decide (gap 3 false (firstL 3) x = mostOf (gap 3 false (firstL 3)) all3))) = (3, 1) := by
  rw [mostOf_congr all3 hd, List.countP_congr (p := fun x => decide (gap 3 false (firstL 3) x = _)) (q := fun x => decide (least (nextK 3 false false) (firstL 3) x 4 = mostOf (fun x => least (nextK 3 false false) (firstL 3) x 4) all3)) (fun x hx => by rw [hd x hx])]
  decide +kernel
 unfold pancake_Worst.f
 rw [if_pos (by decide), show (3 : Int).toNat = 3 from rfl, hw, e]
 rfl
theorem aw4 : pancake_Distance.f [2, 1] = some (3, 0) := by
 unfold pancake_Distance.f
 rw [cmpL_eq, circL_eq]
 kernel_rfl
theorem aw5 : pancake_Circles.f [-1] = some ([[0, 1]], 0) := by
 unfold pancake_Circles.f
 rw [circL_eq]
 kernel_rfl
theorem aw6 : pancake_Components.f [2, 1] = some (1, 1, 1, false, 0) := by
 unfold pancake_Components.f
 rw [cmpL_eq]
 kernel_rfl
end Go.Proofs.Ytepjhdblmghckaa.G
namespace Go.Proofs.Ytepjhdblmghckaa.G
end Go.Proofs.Ytepjhdblmghckaa.G
namespace Go.Proofs.Ytepjhdblmghckaa.Q
set_option linter.unusedVariables false
set_option linter.unusedSimpArgs false
set_option linter.unusedSectionVars false
open Go.Proofs.Ytepjhdblmghckaa.G
open Go.RowKit Go.Proofs.YtepjhdblmghckaaW.PrintWords Go.Proofs.YtepjhdblmghckaaW.PrintLast Go.Proofs.YtepjhdblmghckaaW.PrintMore
attribute [local go_sem] max2_int min2_int max_two min_two max_three min_three max_four min_four   -- for this text's walks alone

/-! ### pancake_Check: function 58 -/
def pancake_Check.f (k : Nat) (l0 : List Int) : Option (Int) := (pancake_check.f k false 7 (([l0] : List (List Int)))).bind fun t230 => (some t230)
theorem pancake_Check.mono : ∀ a0 k, LeO (pancake_Check.f k a0) (pancake_Check.f (k + 1) a0) := by
 intro a0 k
 unfold pancake_Check.f
 repeat' first
   | (with_reducible exact pancake_check.mono _ _ _ _)
   | (with_reducible exact LeO.refl _)
   | (with_reducible exact LeO.none _)
   | (with_reducible refine LeO.ite ?_ ?_)
   | (with_reducible refine LeO.bind ?_ (fun _ => ?_))
   | exact pancake_check.mono _ _ _ _
   | exact LeO.none _
   | refine LeO.ite ?_ ?_
   | refine LeO.bind ?_ (fun _ => ?_)
set_option maxHeartbeats 8000000 in
set_option maxRecDepth 100000 in
theorem pancake_Check.calls (k : Nat) (P0_ : Nat → Prop) (A0 : Option Addr) (c0 : Nat) (l0 : List Int) (r : Int) (w : World) (hs0 : Kd.V (Kd.int .i64) 3 w w.heap.size (fun k_ => P0_ k_) (.slice A0 l0.length c0) l0) (h : pancake_Check.f k l0 = some r) :
  Calls Try.prog 58 #[.slice A0 l0.length c0] w fun e w' => e = .returned (.int .i64 r) ∧ Below w.heap.size w w' := by
 have HO0 := Aside0.mk (show Kd.V (Kd.int .i64) 3 w w.heap.size (fun k_ => (P0_ k_ ∨ w.heap.size ≤ k_)) (.slice A0 l0.length c0) l0 from Kd.V_mono hs0 (fun k_ hk => .inl hk))
 have HB := Aside0.mk (Below.refl w.heap.size w)
 have H : ((pancake_check.f k false 7 (([l0] : List (List Int)))).bind fun t230 => (some t230)) = some r := h
 clear h
 obtain ⟨y227, hy227⟩ : ∃ y_ : List (List Int), y_ = (([l0] : List (List Int))) := ⟨_, rfl⟩
 replace H : ((pancake_check.f k false 7 y227).bind fun t230 => (some t230)) = some r := by first | (rw [hy227]; with_reducible exact H) | (have H2_ := (Option.bind_some _ _).symm.trans H; rw [hy227]; with_reducible exact H2_) | (have H2_ := (Option.bind_some _ _).symm.trans H; with_reducible exact H2_) | with_reducible exact H | (rw [hy227]; exact H) | exact H
 have Ny227 := Aside0.mk hy227
 clear hy227
 replace H := Option.bind_eq_some_iff.mp H
 obtain ⟨t230, A20, H⟩ := H
 replace H : (some t230) = some r := H
 have A2 := Aside0.mk A20
 clear A20
 obtain rfl := Option.some.inj H
 go_enter Try.func58, Try.ntmps58
 go_wp2_with (first|((with_reducible refine gate_dst (N := 4) rfl ?_);refine Kd.N_lit (Kd.slice 3 (Kd.int .i64)) _ 22 ?hg (N' := 4) ?hd (xs := ([l0] : List (List Int))) (inner := [.slice A0 l0.length c0]) (ok := (fun k_ => (P0_ k_ ∨ w.heap.size ≤ k_))) (okp := (fun k_ => (P0_ k_ ∨ w.heap.size ≤ k_))) ?hr ?hp (fun _ hk => hk) ((show ∀ k_, w.heap.size ≤ k_ → (fun k_ => (P0_ k_ ∨ w.heap.size ≤ k_)) k_ from fun k_ hk => (.inr (Nat.le_trans (below_size (by repeat (first|(with_reducible first|exact HB.out|apply below_alloc|apply pw_below_drewN|apply below_drew1)|exact HB.out))) hk))) _ (Nat.le_refl _)) (Below.refl _ _) (Nat.le_refl _) (by simp) ?_;(case hd => rfl);(case hg => rfl);(case hr => first|(go_simp;done)|(go_simp;rfl));(case hp => exact (Reps.one (show Kd.FK (Kd.slice 3 (Kd.int .i64)) _ _ l0 [.slice A0 l0.length c0] from (Kd.FK_slice_mk (Kd.V_reads' (Kd.V_mono (ok' := (fun k_ => (P0_ k_ ∨ w.heap.size ≤ k_))) (HO0.out) (fun k_ hk => hk))).2.1 (Kd.V_F (Kd.V_mono (ok' := (fun k_ => (P0_ k_ ∨ w.heap.size ≤ k_))) (HO0.out) (fun k_ hk => hk))))) (Reps.none _ _)));intro v228 w3 ho4 hb hg_ hnew_;clear hg_ hnew_;(first|rw [← Ny227.out] at ho4|(simp only [Int.reduceToNat] at ho4;rw [← Ny227.out] at ho4));have n0_ := Aside0.mk (Kd.V_elder' (by (with_reducible repeat (first|apply Kd.V_alloc|apply Kd.V_drewN|apply Kd.V_drew));exact HO0.out) (Kd.N_base ho4) hb);have n1_ := Aside0.mk (Kd.N_lower ho4 (below_size (by repeat (first|(with_reducible first|exact HB.out|apply below_alloc|apply pw_below_drewN|apply below_drew1)|exact HB.out))));have n2_ := Aside0.mk (below_step (by repeat (first|(with_reducible first|exact HB.out|apply below_alloc|apply pw_below_drewN|apply below_drew1)|exact HB.out)) hb);clear HO0;clear HB;have HO0 := n0_;have HO229 := n1_;have HB := n2_;clear n0_ n1_ n2_;clear hb ho4;obtain ⟨Ao5, co5, eo5⟩ := Kd.N_slice HO229.out;subst eo5)|((with_reducible refine gate_callee (f := 68) rfl ?_);refine goesL_ (some 5) rfl rfl Try.func68 (by kernel_rfl) rfl #[.bool false, .int .i64 7, .slice Ao5 y227.length co5] rfl (by (try simp only [List.map_toArray, List.map_cons, List.map_nil]);first|done|rfl|(simp only [List.length_drop, List.length_take];rfl)) ?_;(with_reducible refine (pancake_check.calls k false 7 _ _ y227 t230 _ ?side1 ?side2 A2.out).mono ?_);(case side1 => repeat (first|exact (Kd.N_reads' HO229.out).2.2|(with_reducible refine Kd.C_alloc ?_ _)|(with_reducible refine Kd.C_drewN ?_ _)|(with_reducible refine Kd.C_drew ?_)));(case side2 => exact (Kd.N_reads' HO229.out).2.1);rintro e w6 ⟨rfl, hb⟩;refine ⟨_, rfl, ?_⟩;have n0_ := Aside0.mk (Kd.V_below (by (with_reducible repeat (first|apply Kd.V_alloc|apply Kd.V_drewN|apply Kd.V_drew));exact HO0.out) hb);have n1_ := Aside0.mk (Kd.N_below (by (with_reducible repeat (first|apply Kd.N_alloc|apply Kd.N_drewN|apply Kd.N_drew));exact HO229.out) hb);have n2_ := Aside0.mk (below_step (by repeat (first|(with_reducible first|exact HB.out|apply below_alloc|apply pw_below_drewN|apply below_drew1)|exact HB.out)) hb);clear HO0;clear HO229;clear HB;have HO0 := n0_;have HO229 := n1_;have HB := n2_;clear n0_ n1_ n2_;(try clear hb);(try clear hb2);(try clear hk);(try clear hi)))
 go_ret
 exact ⟨by first | rfl | (simp [errW_none, errW_some] <;> rfl) | (simp [*, errW_none, errW_some] <;> rfl), by repeat (first | (with_reducible first | exact HB.out | apply below_alloc | apply pw_below_drewN | apply below_drew1) | exact HB.out)⟩

end Go.Proofs.Ytepjhdblmghckaa.Q
namespace Go.Proofs.Ytepjhdblmghckaa.G
end Go.Proofs.Ytepjhdblmghckaa.G
namespace Go.Proofs.Ytepjhdblmghckaa.Q
set_option linter.unusedVariables false
set_option linter.unusedSimpArgs false
set_option linter.unusedSectionVars false
open Go.Proofs.Ytepjhdblmghckaa.G
open Go.RowKit Go.Proofs.YtepjhdblmghckaaW.PrintWords Go.Proofs.YtepjhdblmghckaaW.PrintLast Go.Proofs.YtepjhdblmghckaaW.PrintMore
attribute [local go_sem] max2_int min2_int max_two min_two max_three min_three max_four min_four   -- for this text's walks alone

/-! ### pancake_Gaps: function 30 -/
def pancake_Gaps.l0 : Nat → List Int → Int → List Int → Int → Int → Option (Int × Int)
 | 0, _, _, _, _, _ => none
 | k + 1, x0, x5, x15, x16, x17 => if x17 < x16 then (if 0 ≤ x17 then (if x17 < (x15.length : Int) then (if (wrap64 (x17 + 1)) < (x0.length : Int) then (if 0 ≤ (wrap64 (x17 + 1)) then (if (wrap64 ((rd x0 (wrap64 (x17 + 1))) - (rd x15 x17))) > 1 then (pancake_Gaps.l0 k x0 (wrap64 (x5 + 1)) x15 x16 (wrap64 (x17 + 1))) else (if (wrap64 ((rd x0 (wrap64 (x17 + 1))) - (rd x15 x17))) < (-1) then (pancake_Gaps.l0 k x0 (wrap64 (x5 + 1)) x15 x16 (wrap64 (x17 + 1))) else (pancake_Gaps.l0 k x0 x5 x15 x16 (wrap64 (x17 + 1))))) else (none)) else (if (wrap64 ((wrap64 ((x0.length : Int) + 1)) - (rd x15 x17))) > 1 then (pancake_Gaps.l0 k x0 (wrap64 (x5 + 1)) x15 x16 (wrap64 (x17 + 1))) else (if (wrap64 ((wrap64 ((x0.length : Int) + 1)) - (rd x15 x17))) < (-1) then (pancake_Gaps.l0 k x0 (wrap64 (x5 + 1)) x15 x16 (wrap64 (x17 + 1))) else (pancake_Gaps.l0 k x0 x5 x15 x16 (wrap64 (x17 + 1)))))) else (none)) else (none)) else (some (x5, 0))
def pancake_Gaps.f (k : Nat) (l0 : List Int) : Option (Int × Int) := (pancake_Check.f k l0).bind fun t231 => (if t231 = 0 then (pancake_Gaps.l0 k l0 0 l0 (l0.length : Int) 0) else (some (0, t231)))
theorem pancake_Gaps.mono_l : ∀ k, (∀ y0 y1 y2 y3 y4, LeO (pancake_Gaps.l0 k y0 y1 y2 y3 y4) (pancake_Gaps.l0 (k + 1) y0 y1 y2 y3 y4))
 | 0 => fun _ _ _ _ _ r h => by simp [pancake_Gaps.l0] at h
 | k + 1 => by
  have ih0 := pancake_Gaps.mono_l k
  ·intro y0 y1 y2 y3 y4
   unfold pancake_Gaps.l0
   repeat' first
   | (with_reducible exact ih0 _ _ _ _ _)
   | (with_reducible exact pancake_Check.mono _ _)
   | (with_reducible exact LeO.refl _)
   | (with_reducible exact LeO.none _)
   | (with_reducible refine LeO.ite ?_ ?_)
   | (with_reducible refine LeO.bind ?_ (fun _ => ?_))
   | exact ih0 _ _ _ _ _
   | exact pancake_Check.mono _ _
   | exact LeO.none _
   | refine LeO.ite ?_ ?_
   | refine LeO.bind ?_ (fun _ => ?_)
theorem pancake_Gaps.mono : ∀ a0 k, LeO (pancake_Gaps.f k a0) (pancake_Gaps.f (k + 1) a0) := by
 intro a0 k
 have ih0 := pancake_Gaps.mono_l k
 unfold pancake_Gaps.f
 repeat' first
   | (with_reducible exact ih0 _ _ _ _ _)
   | (with_reducible exact pancake_Check.mono _ _)
   | (with_reducible exact LeO.refl _)
   | (with_reducible exact LeO.none _)
   | (with_reducible refine LeO.ite ?_ ?_)
   | (with_reducible refine LeO.bind ?_ (fun _ => ?_))
   | exact ih0 _ _ _ _ _
   | exact pancake_Check.mono _ _
   | exact LeO.none _
   | refine LeO.ite ?_ ?_
   | refine LeO.bind ?_ (fun _ => ?_)
set_option maxHeartbeats 8000000 in
set_option maxRecDepth 100000 in
theorem pancake_Gaps.calls (k : Nat) (A0 : Option Addr) (c0 : Nat) (l0 : List Int) (r1 : Int) (r2 : Int) (w : World) (hr0 : Kd.C (Kd.int .i64) w A0 l0.length l0) (hc0 : l0.length ≤ c0) (h : pancake_Gaps.f k l0 = some (r1, r2)) :
  Calls Try.prog 30 #[.slice A0 l0.length c0] w fun e w' => e = .returned (.tuple #[.int .i64 r1, .int .i64 r2]) ∧ Below w.heap.size w w' := by
 have HR0 := Aside0.mk hr0
 have HC0 := Aside0.mk hc0
 clear hr0 hc0
 have HB := Aside0.mk (Below.refl w.heap.size w)
 have H : ((pancake_Check.f k l0).bind fun t231 => (if t231 = 0 then (pancake_Gaps.l0 k l0 0 l0 (l0.length : Int) 0) else (some (0, t231)))) = some (r1, r2) := h
 clear h
 replace H := Option.bind_eq_some_iff.mp H
 obtain ⟨t231, A20, H⟩ := H
 replace H : (if t231 = 0 then (pancake_Gaps.l0 k l0 0 l0 (l0.length : Int) 0) else (some (0, t231))) = some (r1, r2) := H
 have A2 := Aside0.mk A20
 clear A20
 by_cases c3 : t231 = 0
 ·rw [if_pos c3] at H
  have c3b0 : (t231 == 0) = true := beq_iff_eq.mpr c3
  have c3b1 : (t231 != 0) = false := bne_eq_false_iff_eq.mpr c3
  clear c3
  have H' := Aside0.mk H
  clear H
  go_enter Try.func30, Try.ntmps30
  go_wp2_with (first|((with_reducible refine gate_callee (f := 58) rfl ?_);refine goesL_ (some 11) rfl rfl Try.func58 (by kernel_rfl) rfl #[.slice A0 l0.length c0] rfl (by (try simp only [List.map_toArray, List.map_cons, List.map_nil]);first|done|rfl|(simp only [List.length_drop, List.length_take];rfl)) ?_;(with_reducible refine (pancake_Check.calls k (fun k_ => k_ < w.heap.size) _ _ l0 t231 _ ?side1 A2.out).mono ?_);(case side1 => exact Kd.V_mk HC0.out (Kd.F_below (Kd.C_F (Kd.heap_int .i64) HR0.out) (by repeat (first|(with_reducible first|exact HB.out|apply below_alloc|apply pw_below_drewN|apply below_drew1)|exact HB.out))));rintro e w4 ⟨rfl, hb⟩;refine ⟨_, rfl, ?_⟩;have n0_ := Aside0.mk (below_step (by repeat (first|(with_reducible first|exact HB.out|apply below_alloc|apply pw_below_drewN|apply below_drew1)|exact HB.out)) hb);clear HB;have HB := n0_;clear n0_;(try clear hb);(try clear hb2);(try clear hk);(try clear hi)))
  go_loopg [5, 17] k (fun kq v5 v17 w' => ∃ (x5_1 : Int) (x17_1 : Int), v5 = .int .i64 x5_1 ∧ v17 = .int .i64 x17_1 ∧ Aside0 (pancake_Gaps.l0 kq l0 x5_1 l0 (l0.length : Int) x17_1 = some (r1, r2)) ∧ Aside0 (kq ≤ k) ∧ Aside0 (Below w.heap.size w w'))
  case atStart => exact ⟨(0), (0), (by first | rfl | (simp; done) | (simp [*]; done)), (by first | rfl | (simp; done) | (simp [*]; done)), H', ⟨Nat.le_refl _⟩, ⟨by repeat (first | (with_reducible first | exact HB.out | apply below_alloc | apply pw_below_drewN | apply below_drew1) | exact HB.out)⟩⟩
  case round =>
   clear H'
   try clear p2
   try clear c3
   try clear c3b0
   try clear c3b1
   obtain ⟨x5_1, x17_1, rfl, rfl, HA, HK1, HB⟩ := hrel
   cases gk with
   | zero => exact absurd HA.out (by simp [pancake_Gaps.l0])
   | succ k1 =>
    have H := HA.out
    clear HA
    simp only [pancake_Gaps.l0] at H
    by_cases c5 : x17_1 < (l0.length : Int)
    ·rw [if_pos c5] at H
     have c5b0 : decide (x17_1 < (l0.length : Int)) = true := decide_eq_true c5
     clear c5
     by_cases c6 : 0 ≤ x17_1
     ·rw [if_pos c6] at H
      have c6b0 : decide (0 ≤ x17_1) = true := decide_eq_true c6
      clear c6
      by_cases c7 : x17_1 < (l0.length : Int)
      ·rw [if_pos c7] at H
       have c7b0 : decide (x17_1 < (l0.length : Int)) = true := decide_eq_true c7
       clear c7
       by_cases c8 : (wrap64 (x17_1 + 1)) < (l0.length : Int)
       ·rw [if_pos c8] at H
        have c8b0 : decide ((wrap64 (x17_1 + 1)) < (l0.length : Int)) = true := decide_eq_true c8
        clear c8
        obtain ⟨ji9, hji9⟩ : ∃ j_ : Int, (wrap64 (x17_1 + 1)) = j_ := ⟨_, rfl⟩
        replace H : (if 0 ≤ (ji9) then (if (wrap64 ((rd l0 (ji9)) - (rd l0 x17_1))) > 1 then (pancake_Gaps.l0 k1 l0 (wrap64 (x5_1 + 1)) l0 (l0.length : Int) ji9) else (if (wrap64 ((rd l0 (ji9)) - (rd l0 x17_1))) < (-1) then (pancake_Gaps.l0 k1 l0 (wrap64 (x5_1 + 1)) l0 (l0.length : Int) ji9) else (pancake_Gaps.l0 k1 l0 x5_1 l0 (l0.length : Int) ji9))) else (none)) = some (r1, r2) := by first | (rw [hji9] at H; exact H) | (simp only [hji9] at H ⊢; exact H)
        (try rw [hji9] at c8b0)
        have hji9w : (IntKind.i64.wrap (x17_1 + 1)) = ji9 := (i64_w _).trans hji9
        by_cases c10 : 0 ≤ (ji9)
        ·rw [if_pos c10] at H
         have c10b0 : decide (0 ≤ (ji9)) = true := decide_eq_true c10
         clear c10
         by_cases c11 : (wrap64 ((rd l0 (ji9)) - (rd l0 x17_1))) > 1
         ·rw [if_pos c11] at H
          have c11b0 : decide (1 < (wrap64 ((rd l0 (ji9)) - (rd l0 x17_1)))) = true := decide_eq_true c11
          clear c11
          have H' := Aside0.mk H
          clear H
          have p232 : 0 ≤ (x17_1 : Int) := of_decide_eq_true (by first | (with_reducible assumption) | assumption)
          have q232 : x17_1 < (l0.length : Int) := of_decide_eq_true (by first | (with_reducible assumption) | assumption)
          obtain ⟨ad232, e232, hx232_0⟩ := Kd.at_int HR0.out x17_1 p232 q232
          cases e232
          replace hx232_0 := (HB.out.cell (World.block_lt_of_cell? w _ hx232_0)).trans hx232_0
          replace p232 := eq_true p232
          replace q232 := eq_true q232
          have p233 : 0 ≤ ((ji9) : Int) := of_decide_eq_true (by first | (with_reducible assumption) | assumption)
          have q233 : (ji9) < (l0.length : Int) := of_decide_eq_true (by first | (with_reducible assumption) | assumption)
          obtain ⟨ad233, e233, hx233_0⟩ := Kd.at_int HR0.out (ji9) p233 q233
          obtain rfl : ad232 = ad233 := (by injection e233)
          replace hx233_0 := (HB.out.cell (World.block_lt_of_cell? w _ hx233_0)).trans hx233_0
          replace p233 := eq_true p233
          replace q233 := eq_true q233
          go_wp2
          go_roundg k1
          case measure => have := HK1.out; omega
          case rel => exact ⟨(wrap64 (x5_1 + 1)), (ji9), (by first | rfl | (simp; done) | (simp [*]; done)), (by first | rfl | (simp; done) | (simp only [← hji9] <;> (first | rfl | simp)) | (simp [*]; done)), H', ⟨by have := HK1.out; omega⟩, ⟨by repeat (first | (with_reducible first | exact HB.out | apply below_alloc | apply pw_below_drewN | apply below_drew1) | exact HB.out)⟩⟩
         ·rw [if_neg c11] at H
          have c11b0 : decide (1 < (wrap64 ((rd l0 (ji9)) - (rd l0 x17_1)))) = false := decide_eq_false c11
          clear c11
          by_cases c12 : (wrap64 ((rd l0 (ji9)) - (rd l0 x17_1))) < (-1)
          ·rw [if_pos c12] at H
           have c12b0 : decide ((wrap64 ((rd l0 (ji9)) - (rd l0 x17_1))) < (-1)) = true := decide_eq_true c12
           clear c12
           have H' := Aside0.mk H
           clear H
           have p232 : 0 ≤ (x17_1 : Int) := of_decide_eq_true (by first | (with_reducible assumption) | assumption)
           have q232 : x17_1 < (l0.length : Int) := of_decide_eq_true (by first | (with_reducible assumption) | assumption)
           obtain ⟨ad232, e232, hx232_0⟩ := Kd.at_int HR0.out x17_1 p232 q232
           cases e232
           replace hx232_0 := (HB.out.cell (World.block_lt_of_cell? w _ hx232_0)).trans hx232_0
           replace p232 := eq_true p232
           replace q232 := eq_true q232
           have p233 : 0 ≤ ((ji9) : Int) := of_decide_eq_true (by first | (with_reducible assumption) | assumption)
           have q233 : (ji9) < (l0.length : Int) := of_decide_eq_true (by first | (with_reducible assumption) | assumption)
           obtain ⟨ad233, e233, hx233_0⟩ := Kd.at_int HR0.out (ji9) p233 q233
           obtain rfl : ad232 = ad233 := (by injection e233)
           replace hx233_0 := (HB.out.cell (World.block_lt_of_cell? w _ hx233_0)).trans hx233_0
           replace p233 := eq_true p233
           replace q233 := eq_true q233
           go_wp2
           go_roundg k1
           case measure => have := HK1.out; omega
           case rel => exact ⟨(wrap64 (x5_1 + 1)), (ji9), (by first | rfl | (simp; done) | (simp [*]; done)), (by first | rfl | (simp; done) | (simp only [← hji9] <;> (first | rfl | simp)) | (simp [*]; done)), H', ⟨by have := HK1.out; omega⟩, ⟨by repeat (first | (with_reducible first | exact HB.out | apply below_alloc | apply pw_below_drewN | apply below_drew1) | exact HB.out)⟩⟩
          ·rw [if_neg c12] at H
           have c12b0 : decide ((wrap64 ((rd l0 (ji9)) - (rd l0 x17_1))) < (-1)) = false := decide_eq_false c12
           clear c12
           have H' := Aside0.mk H
           clear H
           have p232 : 0 ≤ (x17_1 : Int) := of_decide_eq_true (by first | (with_reducible assumption) | assumption)
           have q232 : x17_1 < (l0.length : Int) := of_decide_eq_true (by first | (with_reducible assumption) | assumption)
           obtain ⟨ad232, e232, hx232_0⟩ := Kd.at_int HR0.out x17_1 p232 q232
           cases e232
           replace hx232_0 := (HB.out.cell (World.block_lt_of_cell? w _ hx232_0)).trans hx232_0
           replace p232 := eq_true p232
           replace q232 := eq_true q232
           have p233 : 0 ≤ ((ji9) : Int) := of_decide_eq_true (by first | (with_reducible assumption) | assumption)
           have q233 : (ji9) < (l0.length : Int) := of_decide_eq_true (by first | (with_reducible assumption) | assumption)
           obtain ⟨ad233, e233, hx233_0⟩ := Kd.at_int HR0.out (ji9) p233 q233
           obtain rfl : ad232 = ad233 := (by injection e233)
           replace hx233_0 := (HB.out.cell (World.block_lt_of_cell? w _ hx233_0)).trans hx233_0
           replace p233 := eq_true p233
           replace q233 := eq_true q233
           go_wp2
           go_roundg k1
           case measure => have := HK1.out; omega
           case rel => exact ⟨(x5_1), (ji9), (by first | rfl | (simp; done) | (simp [*]; done)), (by first | rfl | (simp; done) | (simp only [← hji9] <;> (first | rfl | simp)) | (simp [*]; done)), H', ⟨by have := HK1.out; omega⟩, ⟨by repeat (first | (with_reducible first | exact HB.out | apply below_alloc | apply pw_below_drewN | apply below_drew1) | exact HB.out)⟩⟩
        ·rw [if_neg c10] at H
         exact absurd H (by simp)
       ·rw [if_neg c8] at H
        have c8b0 : decide ((wrap64 (x17_1 + 1)) < (l0.length : Int)) = false := decide_eq_false c8
        clear c8
        by_cases c13 : (wrap64 ((wrap64 ((l0.length : Int) + 1)) - (rd l0 x17_1))) > 1
        ·rw [if_pos c13] at H
         have c13b0 : decide (1 < (wrap64 ((wrap64 ((l0.length : Int) + 1)) - (rd l0 x17_1)))) = true := decide_eq_true c13
         clear c13
         have H' := Aside0.mk H
         clear H
         have p232 : 0 ≤ (x17_1 : Int) := of_decide_eq_true (by first | (with_reducible assumption) | assumption)
         have q232 : x17_1 < (l0.length : Int) := of_decide_eq_true (by first | (with_reducible assumption) | assumption)
         obtain ⟨ad232, e232, hx232_0⟩ := Kd.at_int HR0.out x17_1 p232 q232
         cases e232
         replace hx232_0 := (HB.out.cell (World.block_lt_of_cell? w _ hx232_0)).trans hx232_0
         replace p232 := eq_true p232
         replace q232 := eq_true q232
         go_wp2
         go_roundg k1
         case measure => have := HK1.out; omega
         case rel => exact ⟨(wrap64 (x5_1 + 1)), (wrap64 (x17_1 + 1)), (by first | rfl | (simp; done) | (simp [*]; done)), (by first | rfl | (simp; done) | (simp [*]; done)), H', ⟨by have := HK1.out; omega⟩, ⟨by repeat (first | (with_reducible first | exact HB.out | apply below_alloc | apply pw_below_drewN | apply below_drew1) | exact HB.out)⟩⟩
        ·rw [if_neg c13] at H
         have c13b0 : decide (1 < (wrap64 ((wrap64 ((l0.length : Int) + 1)) - (rd l0 x17_1)))) = false := decide_eq_false c13
         clear c13
         by_cases c14 : (wrap64 ((wrap64 ((l0.length : Int) + 1)) - (rd l0 x17_1))) < (-1)
         ·rw [if_pos c14] at H
          have c14b0 : decide ((wrap64 ((wrap64 ((l0.length : Int) + 1)) - (rd l0 x17_1))) < (-1)) = true := decide_eq_true c14
          clear c14
          have H' := Aside0.mk H
          clear H
          have p232 : 0 ≤ (x17_1 : Int) := of_decide_eq_true (by first | (with_reducible assumption) | assumption)
          have q232 : x17_1 < (l0.length : Int) := of_decide_eq_true (by first | (with_reducible assumption) | assumption)
          obtain ⟨ad232, e232, hx232_0⟩ := Kd.at_int HR0.out x17_1 p232 q232
          cases e232
          replace hx232_0 := (HB.out.cell (World.block_lt_of_cell? w _ hx232_0)).trans hx232_0
          replace p232 := eq_true p232
          replace q232 := eq_true q232
          go_wp2
          go_roundg k1
          case measure => have := HK1.out; omega
          case rel => exact ⟨(wrap64 (x5_1 + 1)), (wrap64 (x17_1 + 1)), (by first | rfl | (simp; done) | (simp [*]; done)), (by first | rfl | (simp; done) | (simp [*]; done)), H', ⟨by have := HK1.out; omega⟩, ⟨by repeat (first | (with_reducible first | exact HB.out | apply below_alloc | apply pw_below_drewN | apply below_drew1) | exact HB.out)⟩⟩
         ·rw [if_neg c14] at H
          have c14b0 : decide ((wrap64 ((wrap64 ((l0.length : Int) + 1)) - (rd l0 x17_1))) < (-1)) = false := decide_eq_false c14
          clear c14
          have H' := Aside0.mk H
          clear H
          have p232 : 0 ≤ (x17_1 : Int) := of_decide_eq_true (by first | (with_reducible assumption) | assumption)
          have q232 : x17_1 < (l0.length : Int) := of_decide_eq_true (by first | (with_reducible assumption) | assumption)
          obtain ⟨ad232, e232, hx232_0⟩ := Kd.at_int HR0.out x17_1 p232 q232
          cases e232
          replace hx232_0 := (HB.out.cell (World.block_lt_of_cell? w _ hx232_0)).trans hx232_0
          replace p232 := eq_true p232
          replace q232 := eq_true q232
          go_wp2
          go_roundg k1
          case measure => have := HK1.out; omega
          case rel => exact ⟨(x5_1), (wrap64 (x17_1 + 1)), (by first | rfl | (simp; done) | (simp [*]; done)), (by first | rfl | (simp; done) | (simp [*]; done)), H', ⟨by have := HK1.out; omega⟩, ⟨by repeat (first | (with_reducible first | exact HB.out | apply below_alloc | apply pw_below_drewN | apply below_drew1) | exact HB.out)⟩⟩
      ·rw [if_neg c7] at H
       exact absurd H (by simp)
     ·rw [if_neg c6] at H
      exact absurd H (by simp)
    ·rw [if_neg c5] at H
     have c5b0 : decide (x17_1 < (l0.length : Int)) = false := decide_eq_false c5
     clear c5
     simp only [Option.some.injEq, Prod.mk.injEq] at H
     obtain ⟨rfl, rfl⟩ := H
     go_wp2
     go_ret2
     exact ⟨by first | rfl | (simp [errW_none, errW_some] <;> rfl) | (simp [*, errW_none, errW_some] <;> rfl), by repeat (first | (with_reducible first | exact HB.out | apply below_alloc | apply pw_below_drewN | apply below_drew1) | exact HB.out)⟩
 ·rw [if_neg c3] at H
  have c3b0 : (t231 == 0) = false := beq_eq_false_iff_ne.mpr c3
  have c3b1 : (t231 != 0) = true := bne_iff_ne.mpr c3
  simp only [Option.some.injEq, Prod.mk.injEq] at H
  obtain ⟨rfl, rfl⟩ := H
  go_enter Try.func30, Try.ntmps30
  go_wp2_with (first|((with_reducible refine gate_callee (f := 58) rfl ?_);refine goesL_ (some 11) rfl rfl Try.func58 (by kernel_rfl) rfl #[.slice A0 l0.length c0] rfl (by (try simp only [List.map_toArray, List.map_cons, List.map_nil]);first|done|rfl|(simp only [List.length_drop, List.length_take];rfl)) ?_;(with_reducible refine (pancake_Check.calls k (fun k_ => k_ < w.heap.size) _ _ l0 t231 _ ?side1 A2.out).mono ?_);(case side1 => exact Kd.V_mk HC0.out (Kd.F_below (Kd.C_F (Kd.heap_int .i64) HR0.out) (by repeat (first|(with_reducible first|exact HB.out|apply below_alloc|apply pw_below_drewN|apply below_drew1)|exact HB.out))));rintro e w15 ⟨rfl, hb⟩;refine ⟨_, rfl, ?_⟩;have n0_ := Aside0.mk (below_step (by repeat (first|(with_reducible first|exact HB.out|apply below_alloc|apply pw_below_drewN|apply below_drew1)|exact HB.out)) hb);clear HB;have HB := n0_;clear n0_;(try clear hb);(try clear hb2);(try clear hk);(try clear hi)))
  go_ret2
  exact ⟨by first | rfl | (simp [errW_none, errW_some] <;> rfl) | (simp [*, errW_none, errW_some] <;> rfl), by repeat (first | (with_reducible first | exact HB.out | apply below_alloc | apply pw_below_drewN | apply below_drew1) | exact HB.out)⟩

end Go.Proofs.Ytepjhdblmghckaa.Q
namespace Go.Proofs.Ytepjhdblmghckaa.G
end Go.Proofs.Ytepjhdblmghckaa.G
namespace Go.Proofs.Ytepjhdblmghckaa.Q
set_option linter.unusedVariables false
set_option linter.unusedSimpArgs false
set_option linter.unusedSectionVars false
open Go.Proofs.Ytepjhdblmghckaa.G
open Go.RowKit Go.Proofs.YtepjhdblmghckaaW.PrintWords Go.Proofs.YtepjhdblmghckaaW.PrintLast Go.Proofs.YtepjhdblmghckaaW.PrintMore
attribute [local go_sem] max2_int min2_int max_two min_two max_three min_three max_four min_four   -- for this text's walks alone

/-! ### pancake_CheckBurnt: function 59 -/
def pancake_CheckBurnt.f (k : Nat) (l0 : List Int) : Option (Int) := (pancake_check.f k true 6 (([l0] : List (List Int)))).bind fun t247 => (some t247)
theorem pancake_CheckBurnt.mono : ∀ a0 k, LeO (pancake_CheckBurnt.f k a0) (pancake_CheckBurnt.f (k + 1) a0) := by
 intro a0 k
 unfold pancake_CheckBurnt.f
 repeat' first
   | (with_reducible exact pancake_check.mono _ _ _ _)
   | (with_reducible exact LeO.refl _)
   | (with_reducible exact LeO.none _)
   | (with_reducible refine LeO.ite ?_ ?_)
   | (with_reducible refine LeO.bind ?_ (fun _ => ?_))
   | exact pancake_check.mono _ _ _ _
   | exact LeO.none _
   | refine LeO.ite ?_ ?_
   | refine LeO.bind ?_ (fun _ => ?_)
set_option maxHeartbeats 8000000 in
set_option maxRecDepth 100000 in
theorem pancake_CheckBurnt.calls (k : Nat) (P0_ : Nat → Prop) (A0 : Option Addr) (c0 : Nat) (l0 : List Int) (r : Int) (w : World) (hs0 : Kd.V (Kd.int .i64) 3 w w.heap.size (fun k_ => P0_ k_) (.slice A0 l0.length c0) l0) (h : pancake_CheckBurnt.f k l0 = some r) :
  Calls Try.prog 59 #[.slice A0 l0.length c0] w fun e w' => e = .returned (.int .i64 r) ∧ Below w.heap.size w w' := by
 have HO0 := Aside0.mk (show Kd.V (Kd.int .i64) 3 w w.heap.size (fun k_ => (P0_ k_ ∨ w.heap.size ≤ k_)) (.slice A0 l0.length c0) l0 from Kd.V_mono hs0 (fun k_ hk => .inl hk))
 have HB := Aside0.mk (Below.refl w.heap.size w)
 have H : ((pancake_check.f k true 6 (([l0] : List (List Int)))).bind fun t247 => (some t247)) = some r := h
 clear h
 obtain ⟨y244, hy244⟩ : ∃ y_ : List (List Int), y_ = (([l0] : List (List Int))) := ⟨_, rfl⟩
 replace H : ((pancake_check.f k true 6 y244).bind fun t247 => (some t247)) = some r := by first | (rw [hy244]; with_reducible exact H) | (have H2_ := (Option.bind_some _ _).symm.trans H; rw [hy244]; with_reducible exact H2_) | (have H2_ := (Option.bind_some _ _).symm.trans H; with_reducible exact H2_) | with_reducible exact H | (rw [hy244]; exact H) | exact H
 have Ny244 := Aside0.mk hy244
 clear hy244
 replace H := Option.bind_eq_some_iff.mp H
 obtain ⟨t247, A20, H⟩ := H
 replace H : (some t247) = some r := H
 have A2 := Aside0.mk A20
 clear A20
 obtain rfl := Option.some.inj H
 go_enter Try.func59, Try.ntmps59
 go_wp2_with (first|((with_reducible refine gate_dst (N := 4) rfl ?_);refine Kd.N_lit (Kd.slice 3 (Kd.int .i64)) _ 22 ?hg (N' := 4) ?hd (xs := ([l0] : List (List Int))) (inner := [.slice A0 l0.length c0]) (ok := (fun k_ => (P0_ k_ ∨ w.heap.size ≤ k_))) (okp := (fun k_ => (P0_ k_ ∨ w.heap.size ≤ k_))) ?hr ?hp (fun _ hk => hk) ((show ∀ k_, w.heap.size ≤ k_ → (fun k_ => (P0_ k_ ∨ w.heap.size ≤ k_)) k_ from fun k_ hk => (.inr (Nat.le_trans (below_size (by repeat (first|(with_reducible first|exact HB.out|apply below_alloc|apply pw_below_drewN|apply below_drew1)|exact HB.out))) hk))) _ (Nat.le_refl _)) (Below.refl _ _) (Nat.le_refl _) (by simp) ?_;(case hd => rfl);(case hg => rfl);(case hr => first|(go_simp;done)|(go_simp;rfl));(case hp => exact (Reps.one (show Kd.FK (Kd.slice 3 (Kd.int .i64)) _ _ l0 [.slice A0 l0.length c0] from (Kd.FK_slice_mk (Kd.V_reads' (Kd.V_mono (ok' := (fun k_ => (P0_ k_ ∨ w.heap.size ≤ k_))) (HO0.out) (fun k_ hk => hk))).2.1 (Kd.V_F (Kd.V_mono (ok' := (fun k_ => (P0_ k_ ∨ w.heap.size ≤ k_))) (HO0.out) (fun k_ hk => hk))))) (Reps.none _ _)));intro v245 w3 ho4 hb hg_ hnew_;clear hg_ hnew_;(first|rw [← Ny244.out] at ho4|(simp only [Int.reduceToNat] at ho4;rw [← Ny244.out] at ho4));have n0_ := Aside0.mk (Kd.V_elder' (by (with_reducible repeat (first|apply Kd.V_alloc|apply Kd.V_drewN|apply Kd.V_drew));exact HO0.out) (Kd.N_base ho4) hb);have n1_ := Aside0.mk (Kd.N_lower ho4 (below_size (by repeat (first|(with_reducible first|exact HB.out|apply below_alloc|apply pw_below_drewN|apply below_drew1)|exact HB.out))));have n2_ := Aside0.mk (below_step (by repeat (first|(with_reducible first|exact HB.out|apply below_alloc|apply pw_below_drewN|apply below_drew1)|exact HB.out)) hb);clear HO0;clear HB;have HO0 := n0_;have HO246 := n1_;have HB := n2_;clear n0_ n1_ n2_;clear hb ho4;obtain ⟨Ao5, co5, eo5⟩ := Kd.N_slice HO246.out;subst eo5)|((with_reducible refine gate_callee (f := 68) rfl ?_);refine goesL_ (some 5) rfl rfl Try.func68 (by kernel_rfl) rfl #[.bool true, .int .i64 6, .slice Ao5 y244.length co5] rfl (by (try simp only [List.map_toArray, List.map_cons, List.map_nil]);first|done|rfl|(simp only [List.length_drop, List.length_take];rfl)) ?_;(with_reducible refine (pancake_check.calls k true 6 _ _ y244 t247 _ ?side1 ?side2 A2.out).mono ?_);(case side1 => repeat (first|exact (Kd.N_reads' HO246.out).2.2|(with_reducible refine Kd.C_alloc ?_ _)|(with_reducible refine Kd.C_drewN ?_ _)|(with_reducible refine Kd.C_drew ?_)));(case side2 => exact (Kd.N_reads' HO246.out).2.1);rintro e w6 ⟨rfl, hb⟩;refine ⟨_, rfl, ?_⟩;have n0_ := Aside0.mk (Kd.V_below (by (with_reducible repeat (first|apply Kd.V_alloc|apply Kd.V_drewN|apply Kd.V_drew));exact HO0.out) hb);have n1_ := Aside0.mk (Kd.N_below (by (with_reducible repeat (first|apply Kd.N_alloc|apply Kd.N_drewN|apply Kd.N_drew));exact HO246.out) hb);have n2_ := Aside0.mk (below_step (by repeat (first|(with_reducible first|exact HB.out|apply below_alloc|apply pw_below_drewN|apply below_drew1)|exact HB.out)) hb);clear HO0;clear HO246;clear HB;have HO0 := n0_;have HO246 := n1_;have HB := n2_;clear n0_ n1_ n2_;(try clear hb);(try clear hb2);(try clear hk);(try clear hi)))
 go_ret
 exact ⟨by first | rfl | (simp [errW_none, errW_some] <;> rfl) | (simp [*, errW_none, errW_some] <;> rfl), by repeat (first | (with_reducible first | exact HB.out | apply below_alloc | apply pw_below_drewN | apply below_drew1) | exact HB.out)⟩

end Go.Proofs.Ytepjhdblmghckaa.Q
namespace Go.Proofs.Ytepjhdblmghckaa.G
end Go.Proofs.Ytepjhdblmghckaa.G
namespace Go.Proofs.Ytepjhdblmghckaa.Q
set_option linter.unusedVariables false
set_option linter.unusedSimpArgs false
set_option linter.unusedSectionVars false
open Go.Proofs.Ytepjhdblmghckaa.G
open Go.RowKit Go.Proofs.YtepjhdblmghckaaW.PrintWords Go.Proofs.YtepjhdblmghckaaW.PrintLast Go.Proofs.YtepjhdblmghckaaW.PrintMore
attribute [local go_sem] max2_int min2_int max_two min_two max_three min_three max_four min_four   -- for this text's walks alone

/-! ### pancake_FlipBurnt: function 33 -/
def pancake_FlipBurnt.f (k : Nat) (l0 : List Int) (a1 : Int) : Option (List Int × Int) := (pancake_CheckBurnt.f k l0).bind fun t248 => (if t248 = 0 then ((pancake_topFlipped.f l0 a1 true).bind fun bt249 => (some (bt249.1, bt249.2))) else (some (([] : List Int), t248)))
theorem pancake_FlipBurnt.mono : ∀ a0 a1 k, LeO (pancake_FlipBurnt.f k a0 a1) (pancake_FlipBurnt.f (k + 1) a0 a1) := by
 intro a0 a1 k
 unfold pancake_FlipBurnt.f
 repeat' first
   | (with_reducible exact pancake_CheckBurnt.mono _ _)
   | (with_reducible exact LeO.refl _)
   | (with_reducible exact LeO.none _)
   | (with_reducible refine LeO.ite ?_ ?_)
   | (with_reducible refine LeO.bind ?_ (fun _ => ?_))
   | exact pancake_CheckBurnt.mono _ _
   | exact LeO.none _
   | refine LeO.ite ?_ ?_
   | refine LeO.bind ?_ (fun _ => ?_)
set_option maxHeartbeats 8000000 in
set_option maxRecDepth 100000 in
theorem pancake_FlipBurnt.calls (k : Nat) (A0 : Option Addr) (c0 : Nat) (l0 : List Int) (a1 : Int) (r1 : List Int) (r2 : Int) (w : World) (hr0 : Kd.C (Kd.int .i64) w A0 l0.length l0) (hc0 : l0.length ≤ c0) (h : pancake_FlipBurnt.f k l0 a1 = some (r1, r2)) :
  Calls Try.prog 33 #[.slice A0 l0.length c0, .int .i64 a1] w fun e w' => ∃ v0_ : Value, e = .returned (.tuple #[v0_, .int .i64 r2]) ∧ Kd.R (Kd.int .i64) 3 w' w.heap.size (fun _ => True) v0_ r1 ∧ Below w.heap.size w w' := by
 have HR0 := Aside0.mk hr0
 have HC0 := Aside0.mk hc0
 clear hr0 hc0
 have HB := Aside0.mk (Below.refl w.heap.size w)
 have H : ((pancake_CheckBurnt.f k l0).bind fun t248 => (if t248 = 0 then ((pancake_topFlipped.f l0 a1 true).bind fun bt249 => (some (bt249.1, bt249.2))) else (some (([] : List Int), t248)))) = some (r1, r2) := h
 clear h
 replace H := Option.bind_eq_some_iff.mp H
 obtain ⟨t248, A30, H⟩ := H
 replace H : (if t248 = 0 then ((pancake_topFlipped.f l0 a1 true).bind fun bt249 => (some (bt249.1, bt249.2))) else (some (([] : List Int), t248))) = some (r1, r2) := H
 have A3 := Aside0.mk A30
 clear A30
 by_cases c4 : t248 = 0
 ·rw [if_pos c4] at H
  have c4b0 : (t248 == 0) = true := beq_iff_eq.mpr c4
  have c4b1 : (t248 != 0) = false := bne_eq_false_iff_eq.mpr c4
  clear c4
  replace H := Option.bind_eq_some_iff.mp H
  obtain ⟨⟨t249, t250⟩, A50, H⟩ := H
  replace H : (some (t249, t250)) = some (r1, r2) := H
  have A5 := Aside0.mk A50
  clear A50
  simp only [Option.some.injEq, Prod.mk.injEq] at H
  obtain ⟨rfl, rfl⟩ := H
  go_enter Try.func33, Try.ntmps33
  go_wp2_with (first|((with_reducible refine gate_callee (f := 59) rfl ?_);refine goesL_ (some 8) rfl rfl Try.func59 (by kernel_rfl) rfl #[.slice A0 l0.length c0] rfl (by (try simp only [List.map_toArray, List.map_cons, List.map_nil]);first|done|rfl|(simp only [List.length_drop, List.length_take];rfl)) ?_;(with_reducible refine (pancake_CheckBurnt.calls k (fun k_ => k_ < w.heap.size) _ _ l0 t248 _ ?side1 A3.out).mono ?_);(case side1 => exact Kd.V_mk HC0.out (Kd.F_below (Kd.C_F (Kd.heap_int .i64) HR0.out) (by repeat (first|(with_reducible first|exact HB.out|apply below_alloc|apply pw_below_drewN|apply below_drew1)|exact HB.out))));rintro e w6 ⟨rfl, hb⟩;refine ⟨_, rfl, ?_⟩;have n0_ := Aside0.mk (below_step (by repeat (first|(with_reducible first|exact HB.out|apply below_alloc|apply pw_below_drewN|apply below_drew1)|exact HB.out)) hb);clear HB;have HB := n0_;clear n0_;(try clear hb);(try clear hb2);(try clear hk);(try clear hi))|((with_reducible refine gate_callee (f := 71) rfl ?_);refine goesL_ (some 14) rfl rfl Try.func71 (by kernel_rfl) rfl #[.slice A0 l0.length c0, .int .i64 a1, .bool true] rfl (by (try simp only [List.map_toArray, List.map_cons, List.map_nil]);first|done|rfl|(simp only [List.length_drop, List.length_take];rfl)) ?_;(with_reducible refine (pancake_topFlipped.calls _ _ l0 a1 true t249 t250 _ ?side1 ?side2 A5.out).mono ?_);(case side1 => repeat (first|exact (Kd.C_below HR0.out HB.out)|(with_reducible refine Kd.C_alloc ?_ _)|(with_reducible refine Kd.C_drewN ?_ _)|(with_reducible refine Kd.C_drew ?_)));(case side2 => exact HC0.out);rintro e w7 ⟨v251, rfl, ho0, hb⟩;refine ⟨_, rfl, ?_⟩;have n0_ := Aside0.mk (Kd.R_lower ho0 (below_size (by repeat (first|(with_reducible first|exact HB.out|apply below_alloc|apply pw_below_drewN|apply below_drew1)|exact HB.out))));have n1_ := Aside0.mk (below_step (by repeat (first|(with_reducible first|exact HB.out|apply below_alloc|apply pw_below_drewN|apply below_drew1)|exact HB.out)) hb);clear HB;have HO252 := n0_;have HB := n1_;clear n0_ n1_;(try clear hb);(try clear hb2);(try clear hk);(try clear hi);(try clear ho0)))
  go_ret2
  exact ⟨_, by first | rfl | (simp [errW_none, errW_some] <;> rfl) | (simp [*, errW_none, errW_some] <;> rfl), by (with_reducible repeat (first | apply Kd.R_alloc | apply Kd.R_drewN | apply Kd.R_drew)); exact HO252.out, by repeat (first | (with_reducible first | exact HB.out | apply below_alloc | apply pw_below_drewN | apply below_drew1) | exact HB.out)⟩
 ·rw [if_neg c4] at H
  have c4b0 : (t248 == 0) = false := beq_eq_false_iff_ne.mpr c4
  have c4b1 : (t248 != 0) = true := bne_iff_ne.mpr c4
  simp only [Option.some.injEq, Prod.mk.injEq] at H
  obtain ⟨rfl, rfl⟩ := H
  go_enter Try.func33, Try.ntmps33
  go_wp2_with (first|((with_reducible refine gate_callee (f := 59) rfl ?_);refine goesL_ (some 8) rfl rfl Try.func59 (by kernel_rfl) rfl #[.slice A0 l0.length c0] rfl (by (try simp only [List.map_toArray, List.map_cons, List.map_nil]);first|done|rfl|(simp only [List.length_drop, List.length_take];rfl)) ?_;(with_reducible refine (pancake_CheckBurnt.calls k (fun k_ => k_ < w.heap.size) _ _ l0 t248 _ ?side1 A3.out).mono ?_);(case side1 => exact Kd.V_mk HC0.out (Kd.F_below (Kd.C_F (Kd.heap_int .i64) HR0.out) (by repeat (first|(with_reducible first|exact HB.out|apply below_alloc|apply pw_below_drewN|apply below_drew1)|exact HB.out))));rintro e w8 ⟨rfl, hb⟩;refine ⟨_, rfl, ?_⟩;have n0_ := Aside0.mk (below_step (by repeat (first|(with_reducible first|exact HB.out|apply below_alloc|apply pw_below_drewN|apply below_drew1)|exact HB.out)) hb);clear HB;have HB := n0_;clear n0_;(try clear hb);(try clear hb2);(try clear hk);(try clear hi)))
  go_ret2
  exact ⟨_, by first | rfl | (simp [errW_none, errW_some] <;> rfl) | (simp [*, errW_none, errW_some] <;> rfl), by first | exact Kd.R_nil _ _ _ _ _ | exact Kd.N_nil _ _ _ _ _ | exact Kd.V_nil _ _ _ _ _ | exact Kd.Q_nil _ _ _ _ _ | exact Kd.S_nil _ _ _ _ _, by repeat (first | (with_reducible first | exact HB.out | apply below_alloc | apply pw_below_drewN | apply below_drew1) | exact HB.out)⟩

end Go.Proofs.Ytepjhdblmghckaa.Q
/- awake: its contract. -/
namespace Go.Proofs.Ytepjhdblmghckaa.G
set_option linter.unusedVariables false
set_option linter.unusedSimpArgs false
set_option linter.unusedSectionVars false
open Go.Proofs.Ytepjhdblmghckaa.Q Go.Proofs.Ytepjhdblmghckaa.K Go.Proofs.Ytepjhdblmghckaa.Bf
open Go.RowKit Go.Shelf Go.Proofs.YtepjhdblmghckaaW.PrintWords Go.Proofs.YtepjhdblmghckaaW.PrintLast Go.Proofs.YtepjhdblmghckaaW.PrintMore
theorem aw2 : pancake_Gaps.f 100 [1, 3, 2] = some (2, 0) := by kernel_rfl
theorem aw7 : pancake_FlipBurnt.f 100 [1] 1 = some ([-1], 0) := by kernel_rfl
theorem aw8 : chk1 false 7 [] = 70 := by kernel_rfl
/-- A block that was made of whole numbers, read as a row. -/
theorem C_new (W : World) (l : List Int) (hl : l.length ≤ 100) : Kd.C (Kd.int .i64) (W.alloc (.cells (l.map (Value.int .i64)).toArray 3)) (some ⟨W.heap.size, 0, none⟩) l.length l := by
 have hb := Blk.new W (l.map (Value.int .i64)).toArray 3
 refine ⟨rfl, by omega, fun _ => ⟨_, rfl, fun j p hj => ⟨[.int .i64 p], rfl, rfl, fun i u hu => ?_⟩⟩⟩
 match i, hu with
 | 0, hu =>
  cases hu
  show (W.alloc _).cell? (Addr.add ⟨W.heap.size, 0, none⟩ (j * 1 + 0)) = _
  rw [Addr.add_lit, Nat.mul_one, Nat.add_zero, Nat.zero_add]
  exact hb.cell j (by simp [hj])
 | i + 1, hu => simp at hu
def bibelotlaw07_awake.f : Option Bool := some true
set_option maxRecDepth 100000 in
set_option maxHeartbeats 8000000 in
theorem bibelotlaw07_awake.calls (r : Bool) (w : World) (h : bibelotlaw07_awake.f = some r) :
  Calls Try.prog 26 #[] w fun e w' => e = .returned (.bool r) ∧ Below w.heap.size w w' := by
 cases h
 go_enter Try.func26, Try.ntmps26
 go_wp2_with (go_at_call 28; refine stopper ?_)
 try unfold Hold
 have c1 := C_new w [3, 1, 2] (by decide)
 have c2 := C_new (w.alloc (.cells #[.int .i64 3, .int .i64 1, .int .i64 2] 3)) [1, 2, 3] (by decide)
 have hb := (((Below.refl w.heap.size w).alloc (Nat.le_refl _) (.cells #[.int .i64 3, .int .i64 1, .int .i64 2] 3)).alloc (by simp) (.cells #[.int .i64 1, .int .i64 2, .int .i64 3] 3))
 rw [World.size_alloc] at c2
 obtain ⟨w0, hw0⟩ : ∃ w0, (w.alloc (.cells #[.int .i64 3, .int .i64 1, .int .i64 2] 3)).alloc (.cells #[.int .i64 1, .int .i64 2, .int .i64 3] 3) = w0 := ⟨_, rfl⟩
 have c1' := Kd.C_below c1 ((Below.refl _ _).alloc (Nat.le_refl _) (.cells #[.int .i64 1, .int .i64 2, .int .i64 3] 3))
 rw [show (w.alloc (.cells ([3, 1, 2].map (Value.int .i64)).toArray 3)).alloc (.cells #[.int .i64 1, .int .i64 2, .int .i64 3] 3) = w0 from hw0] at c1'
 rw [show (w.alloc (.cells #[.int .i64 3, .int .i64 1, .int .i64 2] 3)).alloc (.cells ([1, 2, 3].map (Value.int .i64)).toArray 3) = w0 from hw0] at c2
 rw [hw0] at hb ⊢
 refine (pancake_Flips.calls (some ⟨w.heap.size, 0, none⟩) 3 [3, 1, 2] (some ⟨w.heap.size + 1, 0, none⟩) 3 [1, 2, 3] 2 0 w0 c1' (by decide) c2 (by decide) aw1).mono ?_
 rintro e w1 ⟨rfl, hb1⟩
 have HB1 := Aside0.mk (hb.trans (hb1.mono hb.size))
 clear c1 c2 c1' hb hw0 hb1
 go_wp2_with (go_at_call 30; refine stopper ?_)
 try unfold Hold
 have c1 := C_new w1 [1, 3, 2] (by decide)
 rw [show w1.alloc (.cells ([1, 3, 2].map (Value.int .i64)).toArray 3) = w1.alloc (.cells #[.int .i64 1, .int .i64 3, .int .i64 2] 3) from rfl] at c1
 have hb := HB1.out.alloc HB1.out.size (.cells #[.int .i64 1, .int .i64 3, .int .i64 2] 3)
 obtain ⟨z1, hz⟩ : ∃ z1, w1.alloc (.cells #[.int .i64 1, .int .i64 3, .int .i64 2] 3) = z1 := ⟨_, rfl⟩
 obtain ⟨y1, hy⟩ : ∃ y1, w1.heap.size = y1 := ⟨_, rfl⟩
 rw [hz, hy] at c1
 rw [hz] at hb
 try rw [hz]
 try rw [hy]
 refine (pancake_Gaps.calls 100 (some ⟨y1, 0, none⟩) 3 [1, 3, 2] 2 0 z1 c1 (by decide) aw2).mono ?_
 rintro e w2 ⟨rfl, hb1⟩
 have HB2 := Aside0.mk (hb.trans (hb1.mono hb.size))
 clear c1 hb hz hy hb1
 go_wp2_with (go_at_call 42; refine stopper ?_)
 try unfold Hold
 refine (pancake_Worst.calls 3 3 1 0 w2 aw3).mono ?_
 rintro e w3 ⟨rfl, hb1⟩
 have HB3 := Aside0.mk (HB2.out.trans (hb1.mono HB2.out.size))
 clear hb1
 go_wp2_with (go_at_call 23; refine stopper ?_)
 try unfold Hold
 have c1 := C_new w3 [2, 1] (by decide)
 rw [show w3.alloc (.cells ([2, 1].map (Value.int .i64)).toArray 3) = w3.alloc (.cells #[.int .i64 2, .int .i64 1] 3) from rfl] at c1
 have hb := HB3.out.alloc HB3.out.size (.cells #[.int .i64 2, .int .i64 1] 3)
 obtain ⟨z3, hz⟩ : ∃ z3, w3.alloc (.cells #[.int .i64 2, .int .i64 1] 3) = z3 := ⟨_, rfl⟩
 obtain ⟨y3, hy⟩ : ∃ y3, w3.heap.size = y3 := ⟨_, rfl⟩
 rw [hz, hy] at c1
 rw [hz] at hb
 try rw [hz]
 try rw [hy]
 refine (pancake_Distance.calls (some ⟨y3, 0, none⟩) 2 [2, 1] 3 0 z3 c1 (by decide) aw4).mono ?_
 rintro e w4 ⟨rfl, hb1⟩
 have HB4 := Aside0.mk (hb.trans (hb1.mono hb.size))
 clear c1 hb hz hy hb1
 go_wp2_with (go_at_call 36; refine stopper ?_)
 try unfold Hold
 have c1 := C_new w4 [-1] (by decide)
 rw [show w4.alloc (.cells ([-1].map (Value.int .i64)).toArray 3) = w4.alloc (.cells #[.int .i64 (-1)] 3) from rfl] at c1
 have hb := HB4.out.alloc HB4.out.size (.cells #[.int .i64 (-1)] 3)
 obtain ⟨z4, hz⟩ : ∃ z4, w4.alloc (.cells #[.int .i64 (-1)] 3) = z4 := ⟨_, rfl⟩
 obtain ⟨y4, hy⟩ : ∃ y4, w4.heap.size = y4 := ⟨_, rfl⟩
 rw [hz, hy] at c1
 rw [hz] at hb
 try rw [hz]
 try rw [hy]
 refine (pancake_Circles.calls (some ⟨y4, 0, none⟩) 1 [-1] [[0, 1]] 0 z4 c1 (by decide) aw5).mono ?_
 rintro e w5 ⟨v5, rfl, hv5, hb1⟩
 have HB5 := Aside0.mk (hb.trans (hb1.mono hb.size))
 clear c1 hb hz hy hb1
 obtain ⟨A5, c5, ev5⟩ := Kd.S_slice hv5
 subst ev5
 have HV5 := Aside0.mk hv5
 clear hv5
 go_wp2_with (go_at_call 22; refine stopper ?_)
 try unfold Hold
 have c1 := C_new w5 [2, 1] (by decide)
 rw [show w5.alloc (.cells ([2, 1].map (Value.int .i64)).toArray 3) = w5.alloc (.cells #[.int .i64 2, .int .i64 1] 3) from rfl] at c1
 have hb := HB5.out.alloc HB5.out.size (.cells #[.int .i64 2, .int .i64 1] 3)
 obtain ⟨z5, hz⟩ : ∃ z5, w5.alloc (.cells #[.int .i64 2, .int .i64 1] 3) = z5 := ⟨_, rfl⟩
 obtain ⟨y5, hy⟩ : ∃ y5, w5.heap.size = y5 := ⟨_, rfl⟩
 rw [hz, hy] at c1
 rw [hz] at hb
 try rw [hz]
 try rw [hy]
 refine (pancake_Components.calls (some ⟨y5, 0, none⟩) 2 [2, 1] 1 1 1 false 0 z5 c1 (by decide) aw6).mono ?_
 rintro e w6 ⟨rfl, hb1⟩
 have HV6 := Aside0.mk (Kd.S_below (Kd.S_below HV5.out (show Below w5.heap.size w5 z5 by rw [← hz]; exact (Below.refl _ _).alloc (Nat.le_refl _) _)) hb1)
 have HB6 := Aside0.mk (hb.trans (hb1.mono hb.size))
 clear c1 hb hz hy hb1
 go_wp2_with (go_at_call 33; refine stopper ?_)
 try unfold Hold
 have c1 := C_new w6 [1] (by decide)
 rw [show w6.alloc (.cells ([1].map (Value.int .i64)).toArray 3) = w6.alloc (.cells #[.int .i64 1] 3) from rfl] at c1
 have hb := HB6.out.alloc HB6.out.size (.cells #[.int .i64 1] 3)
 obtain ⟨z6, hz⟩ : ∃ z6, w6.alloc (.cells #[.int .i64 1] 3) = z6 := ⟨_, rfl⟩
 obtain ⟨y6, hy⟩ : ∃ y6, w6.heap.size = y6 := ⟨_, rfl⟩
 rw [hz, hy] at c1
 rw [hz] at hb
 try rw [hz]
 try rw [hy]
 refine (pancake_FlipBurnt.calls 100 (some ⟨y6, 0, none⟩) 1 [1] 1 [-1] 0 z6 c1 (by decide) aw7).mono ?_
 rintro e w7 ⟨v7, rfl, hv7, hb1⟩
 have HV7 := Aside0.mk (Kd.S_below (Kd.S_below HV6.out (show Below w6.heap.size w6 z6 by rw [← hz]; exact (Below.refl _ _).alloc (Nat.le_refl _) _)) hb1)
 obtain ⟨A7, c7, ev7⟩ := Kd.R_slice hv7
 subst ev7
 obtain ⟨ad7, e7, hc7⟩ := Kd.at_int (Kd.R_reads' hv7).2.2 0 (by decide) (by decide)
 subst e7
 have HB7 := Aside0.mk (hb.trans (hb1.mono hb.size))
 clear c1 hb hz hy hb1
 have hS := Kd.S_reads' HV7.out
 obtain ⟨ad5, cs5, e5, _, ⟨A8, c8, e8, hl8, hc8⟩, hcell⟩ := Kd.C_get hS.2.2 [] 0 (by decide) (by decide)
 subst e5
 subst e8
 have hc9 := hcell 0 _ rfl
 have hc9' : w7.cell? ad5 = some (.slice A8 2 c8) := by simpa [Addr.add_zero'] using hc9
 have hc7' : w7.cell? ad7 = some (.int .i64 (-1)) := by
  have e : rd [-1] 0 = -1 := by decide
  rw [e] at hc7
  simpa [Addr.add_zero'] using hc7
 have HCK := Aside0.mk (check58_one none 0 [] w7 (Kd.C_nil _ _) (Nat.le_refl _))
 rw [aw8] at HCK
 clear hS hl8 hc8 hcell hc9 hc7 hv7
 go_wp2_with (go_at_call 58; refine stopper ?_)
 try unfold Hold
 refine HCK.out.mono ?_
 rintro e w8 ⟨rfl, hb1⟩
 have HB8 := Aside0.mk (HB7.out.trans (hb1.mono HB7.out.size))
 clear hb1
 go_wp2
 go_ret
 exact ⟨rfl, HB8.out⟩
end Go.Proofs.Ytepjhdblmghckaa.G
namespace Go.Proofs.Ytepjhdblmghckaa.G
end Go.Proofs.Ytepjhdblmghckaa.G
namespace Go.Proofs.Ytepjhdblmghckaa.Q
set_option linter.unusedVariables false
set_option linter.unusedSimpArgs false
set_option linter.unusedSectionVars false
open Go.Proofs.Ytepjhdblmghckaa.G
open Go.RowKit Go.Proofs.YtepjhdblmghckaaW.PrintWords Go.Proofs.YtepjhdblmghckaaW.PrintLast Go.Proofs.YtepjhdblmghckaaW.PrintMore
attribute [local go_sem] max2_int min2_int max_two min_two max_three min_three max_four min_four   -- for this text's walks alone

/-! ### bibelotref07_Row: function 56 -/
mutual
def bibelotref07_Row.j0 : Nat → List Int → Int → Bool → Option (Bool)
 | 0, _, _, _ => none
 | k + 1, x0, x5, x16 => if x16 = true then (some false) else (if 0 ≤ (wrap64 (x5 + 1)) then (if (wrap64 (x5 + 1) : Int).toNat ≤ 281474976710656 then (bibelotref07_Row.l0 k x0 x5 (List.replicate (wrap64 (x5 + 1) : Int).toNat false) 0) else (none)) else (none))
def bibelotref07_Row.l0 : Nat → List Int → Int → List Bool → Int → Option (Bool)
 | 0, _, _, _, _ => none
 | k + 1, x0, x5, x6, x7 => if x7 < x5 then (if 0 ≤ x7 then (if x7 < (x0.length : Int) then (if (rd x0 x7) < (wrap64 (-x5)) then (some false) else (if (rd x0 x7) > x5 then (some false) else (if (rd x0 x7) = 0 then (some false) else ((bibelotref07_Abs.f (rd x0 x7)).bind fun t665 => (if 0 ≤ t665 then (if t665 < (x6.length : Int) then (if rdOf false x6 t665 = true then (some false) else ((bibelotref07_Abs.f (rd x0 x7)).bind fun t668 => (if 0 ≤ t668 then (if t668 < (x6.length : Int) then (bibelotref07_Row.l0 k x0 x5 (x6.set (t668 : Int).toNat true) (wrap64 (x7 + 1))) else (none)) else (none)))) else (none)) else (none)))))) else (none)) else (none)) else (some true)
end
def bibelotref07_Row.f (k : Nat) (l0 : List Int) (a1 : Int) : Option (Bool) := if (l0.length : Int) < 1 then (bibelotref07_Row.j0 k l0 (l0.length : Int) true) else (bibelotref07_Row.j0 k l0 (l0.length : Int) (decide ((l0.length : Int) > a1)))
theorem bibelotref07_Row.mono_l : ∀ k, (∀ y0 y1 y2, LeO (bibelotref07_Row.j0 k y0 y1 y2) (bibelotref07_Row.j0 (k + 1) y0 y1 y2)) ∧ (∀ y0 y1 y2 y3, LeO (bibelotref07_Row.l0 k y0 y1 y2 y3) (bibelotref07_Row.l0 (k + 1) y0 y1 y2 y3))
 | 0 => ⟨fun _ _ _ r h => by simp [bibelotref07_Row.j0] at h, fun _ _ _ _ r h => by simp [bibelotref07_Row.l0] at h⟩
 | k + 1 => by
  obtain ⟨ih0, ih1⟩ := bibelotref07_Row.mono_l k
  refine ⟨?_, ?_⟩
  ·intro y0 y1 y2
   unfold bibelotref07_Row.j0
   repeat' first
   | (with_reducible exact ih0 _ _ _)
   | (with_reducible exact ih1 _ _ _ _)
   | (with_reducible exact LeO.refl _)
   | (with_reducible exact LeO.none _)
   | (with_reducible refine LeO.ite ?_ ?_)
   | (with_reducible refine LeO.bind ?_ (fun _ => ?_))
   | exact ih0 _ _ _
   | exact ih1 _ _ _ _
   | exact LeO.none _
   | refine LeO.ite ?_ ?_
   | refine LeO.bind ?_ (fun _ => ?_)
  ·intro y0 y1 y2 y3
   unfold bibelotref07_Row.l0
   repeat' first
   | (with_reducible exact ih0 _ _ _)
   | (with_reducible exact ih1 _ _ _ _)
   | (with_reducible exact LeO.refl _)
   | (with_reducible exact LeO.none _)
   | (with_reducible refine LeO.ite ?_ ?_)
   | (with_reducible refine LeO.bind ?_ (fun _ => ?_))
   | exact ih0 _ _ _
   | exact ih1 _ _ _ _
   | exact LeO.none _
   | refine LeO.ite ?_ ?_
   | refine LeO.bind ?_ (fun _ => ?_)
theorem bibelotref07_Row.mono : ∀ a0 a1 k, LeO (bibelotref07_Row.f k a0 a1) (bibelotref07_Row.f (k + 1) a0 a1) := by
 intro a0 a1 k
 obtain ⟨ih0, ih1⟩ := bibelotref07_Row.mono_l k
 unfold bibelotref07_Row.f
 repeat' first
   | (with_reducible exact ih0 _ _ _)
   | (with_reducible exact ih1 _ _ _ _)
   | (with_reducible exact LeO.refl _)
   | (with_reducible exact LeO.none _)
   | (with_reducible refine LeO.ite ?_ ?_)
   | (with_reducible refine LeO.bind ?_ (fun _ => ?_))
   | exact ih0 _ _ _
   | exact ih1 _ _ _ _
   | exact LeO.none _
   | refine LeO.ite ?_ ?_
   | refine LeO.bind ?_ (fun _ => ?_)
set_option maxHeartbeats 8000000 in
set_option maxRecDepth 100000 in
theorem bibelotref07_Row.calls (k : Nat) (A0 : Option Addr) (c0 : Nat) (l0 : List Int) (a1 : Int) (r : Bool) (w : World) (hr0 : Kd.C (Kd.int .i64) w A0 l0.length l0) (hc0 : l0.length ≤ c0) (h : bibelotref07_Row.f k l0 a1 = some r) :
  Calls Try.prog 56 #[.slice A0 l0.length c0, .int .i64 a1] w fun e w' => e = .returned (.bool r) ∧ Below w.heap.size w w' := by
 have HR0 := Aside0.mk hr0
 have HC0 := Aside0.mk hc0
 clear hr0 hc0
 have HB := Aside0.mk (Below.refl w.heap.size w)
 have H : (if (l0.length : Int) < 1 then (bibelotref07_Row.j0 k l0 (l0.length : Int) true) else (bibelotref07_Row.j0 k l0 (l0.length : Int) (decide ((l0.length : Int) > a1)))) = some r := h
 clear h
 have HC3 := Aside0.mk H
 clear H
 go_enter Try.func56, Try.ntmps56
 go_upto_region 2 with (fail)
 go_cut [16] (fun v16 wc => ∃ (kq : Nat) (x16_2 : Bool), v16 = .bool x16_2 ∧ Aside0 (bibelotref07_Row.j0 kq l0 (l0.length : Int) x16_2 = some r) ∧ Aside0 (kq ≤ k) ∧ Aside0 (Below w.heap.size w wc))
 case first =>
  have H := HC3.out
  clear HC3
  by_cases c4 : (l0.length : Int) < 1
  ·rw [if_pos c4] at H
   have c4b0 : decide ((l0.length : Int) < 1) = true := decide_eq_true c4
   have c4b1 : decide (l0.length < 1) = true := decide_eq_true (by omega)
   clear c4
   (first | rw [c4b0] | (simp only [i64_w, i32_w]; rw [c4b0]) | skip)
   have H' := Aside0.mk H
   clear H
   go_wp2
   go_meet
   case rel => exact ⟨_, (true), (by first | rfl | (simp; done) | (simp [*]; done)), H', ⟨by first | omega | exact Nat.le_refl _⟩, ⟨by repeat (first | (with_reducible first | exact HB.out | apply below_alloc | apply pw_below_drewN | apply below_drew1) | exact HB.out)⟩⟩
  ·rw [if_neg c4] at H
   have c4b0 : decide ((l0.length : Int) < 1) = false := decide_eq_false c4
   have c4b1 : decide (l0.length < 1) = false := decide_eq_false (by omega)
   clear c4
   (first | rw [c4b0] | (simp only [i64_w, i32_w]; rw [c4b0]) | skip)
   have H' := Aside0.mk H
   clear H
   go_wp2
   go_meet
   case rel => exact ⟨_, (decide ((l0.length : Int) > a1)), (by first | rfl | (simp; done) | (simp [*]; done)), H', ⟨by first | omega | exact Nat.le_refl _⟩, ⟨by repeat (first | (with_reducible first | exact HB.out | apply below_alloc | apply pw_below_drewN | apply below_drew1) | exact HB.out)⟩⟩
 case rest =>
  clear HC3
  try clear p2
  try clear c4
  try clear c4b0
  try clear c4b1
  obtain ⟨kq, x16_2, rfl, HA, HJ2, HB⟩ := hcut
  cases kq with
  | zero => exact absurd HA.out (by simp [bibelotref07_Row.j0])
  | succ kj2 =>
   have H := HA.out
   clear HA
   simp only [bibelotref07_Row.j0] at H
   by_cases c5 : x16_2 = true
   ·subst c5
    have H1 : (some false) = some r := by rw [if_pos rfl] at H; exact H
    clear H
    have H := H1
    clear H1
    obtain rfl := Option.some.inj H
    go_wp2
    go_ret
    exact ⟨by first | rfl | (simp [errW_none, errW_some] <;> rfl) | (simp [*, errW_none, errW_some] <;> rfl), by repeat (first | (with_reducible first | exact HB.out | apply below_alloc | apply pw_below_drewN | apply below_drew1) | exact HB.out)⟩
   ·replace c5 := Bool.eq_false_iff.mpr c5
    subst c5
    have H1 : (if 0 ≤ (wrap64 ((l0.length : Int) + 1)) then (if (wrap64 ((l0.length : Int) + 1) : Int).toNat ≤ 281474976710656 then (bibelotref07_Row.l0 kj2 l0 (l0.length : Int) (List.replicate (wrap64 ((l0.length : Int) + 1) : Int).toNat false) 0) else (none)) else (none)) = some r := by rw [if_neg (show ¬ (false = true) by decide)] at H; exact H
    clear H
    have H := H1
    clear H1
    obtain ⟨ji6, hji6⟩ : ∃ j_ : Int, (wrap64 ((l0.length : Int) + 1)) = j_ := ⟨_, rfl⟩
    replace H : (if 0 ≤ (ji6) then (if (ji6 : Int).toNat ≤ 281474976710656 then (bibelotref07_Row.l0 kj2 l0 (l0.length : Int) (List.replicate (ji6 : Int).toNat false) 0) else (none)) else (none)) = some r := by first | (rw [hji6] at H; exact H) | (simp only [hji6] at H ⊢; exact H)
    have hji6w : (IntKind.i64.wrap ((l0.length : Int) + 1)) = ji6 := (i64_w _).trans hji6
    by_cases c7 : 0 ≤ (ji6)
    ·rw [if_pos c7] at H
     have c7b0 := eq_true c7
     have c7b1 : decide (0 ≤ (ji6)) = true := decide_eq_true c7
     clear c7
     by_cases c8 : (ji6 : Int).toNat ≤ 281474976710656
     ·rw [if_pos c8] at H
      have c8b0 := eq_true c8
      have c8b1 : decide ((ji6 : Int).toNat ≤ 281474976710656) = true := decide_eq_true c8
      clear c8
      obtain ⟨y658, hy658⟩ : ∃ y_ : List Bool, y_ = (List.replicate (ji6 : Int).toNat false) := ⟨_, rfl⟩
      replace H : (bibelotref07_Row.l0 kj2 l0 (l0.length : Int) y658 0) = some r := by first | (rw [hy658]; with_reducible exact H) | (have H2_ := (Option.bind_some _ _).symm.trans H; rw [hy658]; with_reducible exact H2_) | (have H2_ := (Option.bind_some _ _).symm.trans H; with_reducible exact H2_) | with_reducible exact H | (rw [hy658]; exact H) | exact H
      have Ny658 := Aside0.mk hy658
      clear hy658
      have H' := Aside0.mk H
      clear H
      go_wp2_with (first|((with_reducible refine gate_dst (N := 19) rfl ?_);refine Kd.R_make Kd.bool _ 4 rfl (N := 19) rfl 62 _ _ rfl ji6 rfl rfl Try.underlying62 (.bool false) 1 info4 rfl (by decide) (by omega) false (ok := fun _ => True) (okp := fun _ => True) rfl (fun _ hk => hk) trivial (of_decide_eq_true (by first|(with_reducible assumption)|assumption)) (Nat.le_trans (Nat.mul_le_mul_right _ (of_decide_eq_true (by first|(with_reducible assumption)|assumption) : ji6.toNat ≤ 281474976710656)) (by omega)) (Below.refl _ _) (Nat.le_refl _) ?_;intro v659 w9 ho10 hb hg_ hnew_;clear hg_ hnew_;(first|rw [← Ny658.out] at ho10|(simp only [Int.reduceToNat] at ho10;rw [← Ny658.out] at ho10));have n0_ := Aside0.mk (Kd.R_lower ho10 (below_size (by repeat (first|(with_reducible first|exact HB.out|apply below_alloc|apply pw_below_drewN|apply below_drew1)|exact HB.out))));have n1_ := Aside0.mk (below_step (by repeat (first|(with_reducible first|exact HB.out|apply below_alloc|apply pw_below_drewN|apply below_drew1)|exact HB.out)) hb);clear HB;have HO660 := n0_;have HB := n1_;clear n0_ n1_;clear hb ho10))
      go_loopg [7] kj2 (fun kq v7 w' => ∃ (x6_2 : List Bool) (x7_2 : Int), v7 = .int .i64 x7_2 ∧ Aside0 (bibelotref07_Row.l0 kq l0 (l0.length : Int) x6_2 x7_2 = some r) ∧ Aside0 (kq ≤ kj2) ∧ Aside0 (Kd.R Kd.bool 4 w' w.heap.size (fun _ => True) v659 x6_2) ∧ Aside0 (Below w.heap.size w w'))
      case atStart => exact ⟨(y658), (0), (by first | rfl | (simp; done) | (simp [*]; done)), H', ⟨Nat.le_refl _⟩, ⟨by (with_reducible repeat (first | apply Kd.R_alloc | apply Kd.R_drewN | apply Kd.R_drew)); exact HO660.out⟩, ⟨by repeat (first | (with_reducible first | exact HB.out | apply below_alloc | apply pw_below_drewN | apply below_drew1) | exact HB.out)⟩⟩
      case round =>
       clear H'
       try clear p2
       try clear c4
       try clear c4b0
       try clear c4b1
       try clear c5
       try clear p6
       try clear c7
       try clear c7b0
       try clear c7b1
       try clear c8
       try clear c8b0
       try clear c8b1
       try clear p2
       obtain ⟨x6_2, x7_2, rfl, HA, HK2, HO_6, HB⟩ := hrel
       cases gk with
       | zero => exact absurd HA.out (by simp [bibelotref07_Row.l0])
       | succ k2 =>
        have H := HA.out
        clear HA
        simp only [bibelotref07_Row.l0] at H
        by_cases c11 : x7_2 < (l0.length : Int)
        ·rw [if_pos c11] at H
         have c11b0 : decide (x7_2 < (l0.length : Int)) = true := decide_eq_true c11
         clear c11
         by_cases c12 : 0 ≤ x7_2
         ·rw [if_pos c12] at H
          have c12b0 : decide (0 ≤ x7_2) = true := decide_eq_true c12
          clear c12
          by_cases c13 : x7_2 < (l0.length : Int)
          ·rw [if_pos c13] at H
           have c13b0 : decide (x7_2 < (l0.length : Int)) = true := decide_eq_true c13
           clear c13
           by_cases c14 : (rd l0 x7_2) < (wrap64 (-(l0.length : Int)))
           ·rw [if_pos c14] at H
            have c14b0 : decide ((rd l0 x7_2) < (wrap64 (-(l0.length : Int)))) = true := decide_eq_true c14
            clear c14
            obtain rfl := Option.some.inj H
            have p661 : 0 ≤ (x7_2 : Int) := of_decide_eq_true (by first | (with_reducible assumption) | assumption)
            have q661 : x7_2 < (l0.length : Int) := of_decide_eq_true (by first | (with_reducible assumption) | assumption)
            obtain ⟨ad661, e661, hx661_0⟩ := Kd.at_int HR0.out x7_2 p661 q661
            cases e661
            replace hx661_0 := (HB.out.cell (World.block_lt_of_cell? w _ hx661_0)).trans hx661_0
            replace p661 := eq_true p661
            replace q661 := eq_true q661
            go_wp2
            go_ret
            exact ⟨by first | rfl | (simp [errW_none, errW_some] <;> rfl) | (simp only [← hji6]; first | rfl | (simp [errW_none, errW_some] <;> rfl)) | (simp [*, errW_none, errW_some] <;> rfl), by repeat (first | (with_reducible first | exact HB.out | apply below_alloc | apply pw_below_drewN | apply below_drew1) | exact HB.out)⟩
           ·rw [if_neg c14] at H
            have c14b0 : decide ((rd l0 x7_2) < (wrap64 (-(l0.length : Int)))) = false := decide_eq_false c14
            clear c14
            by_cases c15 : (rd l0 x7_2) > (l0.length : Int)
            ·rw [if_pos c15] at H
             have c15b0 : decide ((l0.length : Int) < (rd l0 x7_2)) = true := decide_eq_true c15
             clear c15
             obtain rfl := Option.some.inj H
             have p661 : 0 ≤ (x7_2 : Int) := of_decide_eq_true (by first | (with_reducible assumption) | assumption)
             have q661 : x7_2 < (l0.length : Int) := of_decide_eq_true (by first | (with_reducible assumption) | assumption)
             obtain ⟨ad661, e661, hx661_0⟩ := Kd.at_int HR0.out x7_2 p661 q661
             cases e661
             replace hx661_0 := (HB.out.cell (World.block_lt_of_cell? w _ hx661_0)).trans hx661_0
             replace p661 := eq_true p661
             replace q661 := eq_true q661
             have p662 : 0 ≤ (x7_2 : Int) := of_decide_eq_true (by first | (with_reducible assumption) | assumption)
             have q662 : x7_2 < (l0.length : Int) := of_decide_eq_true (by first | (with_reducible assumption) | assumption)
             obtain ⟨ad662, e662, hx662_0⟩ := Kd.at_int HR0.out x7_2 p662 q662
             obtain rfl : ad661 = ad662 := (by injection e662)
             replace hx662_0 := (HB.out.cell (World.block_lt_of_cell? w _ hx662_0)).trans hx662_0
             replace p662 := eq_true p662
             replace q662 := eq_true q662
             go_wp2
             go_ret
             exact ⟨by first | rfl | (simp [errW_none, errW_some] <;> rfl) | (simp only [← hji6]; first | rfl | (simp [errW_none, errW_some] <;> rfl)) | (simp [*, errW_none, errW_some] <;> rfl), by repeat (first | (with_reducible first | exact HB.out | apply below_alloc | apply pw_below_drewN | apply below_drew1) | exact HB.out)⟩
            ·rw [if_neg c15] at H
             have c15b0 : decide ((l0.length : Int) < (rd l0 x7_2)) = false := decide_eq_false c15
             clear c15
             by_cases c16 : (rd l0 x7_2) = 0
             ·rw [if_pos c16] at H
              have c16b0 : ((rd l0 x7_2) == 0) = true := beq_iff_eq.mpr c16
              have c16b1 : ((rd l0 x7_2) != 0) = false := bne_eq_false_iff_eq.mpr c16
              clear c16
              obtain rfl := Option.some.inj H
              have p661 : 0 ≤ (x7_2 : Int) := of_decide_eq_true (by first | (with_reducible assumption) | assumption)
              have q661 : x7_2 < (l0.length : Int) := of_decide_eq_true (by first | (with_reducible assumption) | assumption)
              obtain ⟨ad661, e661, hx661_0⟩ := Kd.at_int HR0.out x7_2 p661 q661
              cases e661
              replace hx661_0 := (HB.out.cell (World.block_lt_of_cell? w _ hx661_0)).trans hx661_0
              replace p661 := eq_true p661
              replace q661 := eq_true q661
              have p662 : 0 ≤ (x7_2 : Int) := of_decide_eq_true (by first | (with_reducible assumption) | assumption)
              have q662 : x7_2 < (l0.length : Int) := of_decide_eq_true (by first | (with_reducible assumption) | assumption)
              obtain ⟨ad662, e662, hx662_0⟩ := Kd.at_int HR0.out x7_2 p662 q662
              obtain rfl : ad661 = ad662 := (by injection e662)
              replace hx662_0 := (HB.out.cell (World.block_lt_of_cell? w _ hx662_0)).trans hx662_0
              replace p662 := eq_true p662
              replace q662 := eq_true q662
              have p663 : 0 ≤ (x7_2 : Int) := of_decide_eq_true (by first | (with_reducible assumption) | assumption)
              have q663 : x7_2 < (l0.length : Int) := of_decide_eq_true (by first | (with_reducible assumption) | assumption)
              obtain ⟨ad663, e663, hx663_0⟩ := Kd.at_int HR0.out x7_2 p663 q663
              obtain rfl : ad661 = ad663 := (by injection e663)
              replace hx663_0 := (HB.out.cell (World.block_lt_of_cell? w _ hx663_0)).trans hx663_0
              replace p663 := eq_true p663
              replace q663 := eq_true q663
              go_wp2
              go_ret
              exact ⟨by first | rfl | (simp [errW_none, errW_some] <;> rfl) | (simp only [← hji6]; first | rfl | (simp [errW_none, errW_some] <;> rfl)) | (simp [*, errW_none, errW_some] <;> rfl), by repeat (first | (with_reducible first | exact HB.out | apply below_alloc | apply pw_below_drewN | apply below_drew1) | exact HB.out)⟩
             ·rw [if_neg c16] at H
              have c16b0 : ((rd l0 x7_2) == 0) = false := beq_eq_false_iff_ne.mpr c16
              have c16b1 : ((rd l0 x7_2) != 0) = true := bne_iff_ne.mpr c16
              replace H := Option.bind_eq_some_iff.mp H
              obtain ⟨t665, A170, H⟩ := H
              replace H : (if 0 ≤ t665 then (if t665 < (x6_2.length : Int) then (if rdOf false x6_2 t665 = true then (some false) else ((bibelotref07_Abs.f (rd l0 x7_2)).bind fun t668 => (if 0 ≤ t668 then (if t668 < (x6_2.length : Int) then (bibelotref07_Row.l0 k2 l0 (l0.length : Int) (x6_2.set (t668 : Int).toNat true) (wrap64 (x7_2 + 1))) else (none)) else (none)))) else (none)) else (none)) = some r := H
              have A17 := Aside0.mk A170
              clear A170
              by_cases c18 : 0 ≤ t665
              ·rw [if_pos c18] at H
               have c18b0 : decide (0 ≤ t665) = true := decide_eq_true c18
               clear c18
               by_cases c19 : t665 < (x6_2.length : Int)
               ·rw [if_pos c19] at H
                have c19b0 : decide (t665 < (x6_2.length : Int)) = true := decide_eq_true c19
                clear c19
                obtain ⟨bq20, hbq20⟩ : ∃ b_ : Bool, b_ = (rdOf false x6_2 t665) := ⟨_, rfl⟩
                replace H : (if bq20 = true then (some false) else ((bibelotref07_Abs.f (rd l0 x7_2)).bind fun t668 => (if 0 ≤ t668 then (if t668 < (x6_2.length : Int) then (bibelotref07_Row.l0 k2 l0 (l0.length : Int) (x6_2.set (t668 : Int).toNat true) (wrap64 (x7_2 + 1))) else (none)) else (none)))) = some r := by rw [← hbq20] at H; exact H
                have Nbq20 := Aside0.mk hbq20
                clear hbq20
                by_cases c21 : bq20 = true
                ·subst c21
                 have H1 : (some false) = some r := by rw [if_pos rfl] at H; exact H
                 clear H
                 have H := H1
                 clear H1
                 obtain rfl := Option.some.inj H
                 have p661 : 0 ≤ (x7_2 : Int) := of_decide_eq_true (by first | (with_reducible assumption) | assumption)
                 have q661 : x7_2 < (l0.length : Int) := of_decide_eq_true (by first | (with_reducible assumption) | assumption)
                 obtain ⟨ad661, e661, hx661_0⟩ := Kd.at_int HR0.out x7_2 p661 q661
                 cases e661
                 replace hx661_0 := (HB.out.cell (World.block_lt_of_cell? w _ hx661_0)).trans hx661_0
                 replace p661 := eq_true p661
                 replace q661 := eq_true q661
                 have p662 : 0 ≤ (x7_2 : Int) := of_decide_eq_true (by first | (with_reducible assumption) | assumption)
                 have q662 : x7_2 < (l0.length : Int) := of_decide_eq_true (by first | (with_reducible assumption) | assumption)
                 obtain ⟨ad662, e662, hx662_0⟩ := Kd.at_int HR0.out x7_2 p662 q662
                 obtain rfl : ad661 = ad662 := (by injection e662)
                 replace hx662_0 := (HB.out.cell (World.block_lt_of_cell? w _ hx662_0)).trans hx662_0
                 replace p662 := eq_true p662
                 replace q662 := eq_true q662
                 have p663 : 0 ≤ (x7_2 : Int) := of_decide_eq_true (by first | (with_reducible assumption) | assumption)
                 have q663 : x7_2 < (l0.length : Int) := of_decide_eq_true (by first | (with_reducible assumption) | assumption)
                 obtain ⟨ad663, e663, hx663_0⟩ := Kd.at_int HR0.out x7_2 p663 q663
                 obtain rfl : ad661 = ad663 := (by injection e663)
                 replace hx663_0 := (HB.out.cell (World.block_lt_of_cell? w _ hx663_0)).trans hx663_0
                 replace p663 := eq_true p663
                 replace q663 := eq_true q663
                 have p664 : 0 ≤ (x7_2 : Int) := of_decide_eq_true (by first | (with_reducible assumption) | assumption)
                 have q664 : x7_2 < (l0.length : Int) := of_decide_eq_true (by first | (with_reducible assumption) | assumption)
                 obtain ⟨ad664, e664, hx664_0⟩ := Kd.at_int HR0.out x7_2 p664 q664
                 obtain rfl : ad661 = ad664 := (by injection e664)
                 replace hx664_0 := (HB.out.cell (World.block_lt_of_cell? w _ hx664_0)).trans hx664_0
                 replace p664 := eq_true p664
                 replace q664 := eq_true q664
                 go_wp2_with (first|(go_at_call 40;(with_reducible refine (bibelotref07_Abs.calls (rd l0 x7_2) t665 _ A17.out).mono ?_);rintro e w22 ⟨rfl, hb⟩;have n0_ := Aside0.mk (Kd.R_below (by (with_reducible repeat (first|apply Kd.R_alloc|apply Kd.R_drewN|apply Kd.R_drew));exact HO_6.out) hb);have n1_ := Aside0.mk (below_step (by repeat (first|(with_reducible first|exact HB.out|apply below_alloc|apply pw_below_drewN|apply below_drew1)|exact HB.out)) hb);clear HO_6;clear HB;have HO_6 := n0_;have HB := n1_;clear n0_ n1_;(try clear hb);(try clear hb2);(try clear hk);(try clear hi);obtain ⟨Ao23, co23, eo23⟩ := Kd.R_slice HO_6.out;subst eo23;have p666 : 0 ≤ (t665 : Int) := of_decide_eq_true (by first|(with_reducible assumption)|assumption);have q666 : t665 < (x6_2.length : Int) := of_decide_eq_true (by first|(with_reducible assumption)|assumption);obtain ⟨ad666, e666, hx666_0⟩ := Kd.at_bool (Kd.R_reads' HO_6.out).2.2 t665 p666 q666;(try rw [← Nbq20.out] at hx666_0);cases e666;replace p666 := eq_true p666;replace q666 := eq_true q666))
                 go_ret
                 exact ⟨by first | rfl | (simp [errW_none, errW_some] <;> rfl) | (simp only [← hji6]; first | rfl | (simp [errW_none, errW_some] <;> rfl)) | (simp [*, errW_none, errW_some] <;> rfl), by repeat (first | (with_reducible first | exact HB.out | apply below_alloc | apply pw_below_drewN | apply below_drew1) | exact HB.out)⟩
                ·replace c21 := Bool.eq_false_iff.mpr c21
                 subst c21
                 have H1 : ((bibelotref07_Abs.f (rd l0 x7_2)).bind fun t668 => (if 0 ≤ t668 then (if t668 < (x6_2.length : Int) then (bibelotref07_Row.l0 k2 l0 (l0.length : Int) (x6_2.set (t668 : Int).toNat true) (wrap64 (x7_2 + 1))) else (none)) else (none))) = some r := by rw [if_neg (show ¬ (false = true) by decide)] at H; exact H
                 clear H
                 have H := H1
                 clear H1
                 replace H := Option.bind_eq_some_iff.mp H
                 obtain ⟨t668, A240, H⟩ := H
                 replace H : (if 0 ≤ t668 then (if t668 < (x6_2.length : Int) then (bibelotref07_Row.l0 k2 l0 (l0.length : Int) (x6_2.set (t668 : Int).toNat true) (wrap64 (x7_2 + 1))) else (none)) else (none)) = some r := H
                 have A24 := Aside0.mk A240
                 clear A240
                 by_cases c25 : 0 ≤ t668
                 ·rw [if_pos c25] at H
                  have c25b0 : decide (0 ≤ t668) = true := decide_eq_true c25
                  clear c25
                  by_cases c26 : t668 < (x6_2.length : Int)
                  ·rw [if_pos c26] at H
                   have c26b0 : decide (t668 < (x6_2.length : Int)) = true := decide_eq_true c26
                   clear c26
                   obtain ⟨y669, hy669⟩ : ∃ y_ : List Bool, y_ = (x6_2.set (t668 : Int).toNat true) := ⟨_, rfl⟩
                   replace H : (bibelotref07_Row.l0 k2 l0 (l0.length : Int) y669 (wrap64 (x7_2 + 1))) = some r := by first | (rw [hy669]; with_reducible exact H) | (have H2_ := (Option.bind_some _ _).symm.trans H; rw [hy669]; with_reducible exact H2_) | (have H2_ := (Option.bind_some _ _).symm.trans H; with_reducible exact H2_) | with_reducible exact H | (rw [hy669]; exact H) | exact H
                   have Ny669 := Aside0.mk hy669
                   clear hy669
                   have H' := Aside0.mk H
                   clear H
                   have p661 : 0 ≤ (x7_2 : Int) := of_decide_eq_true (by first | (with_reducible assumption) | assumption)
                   have q661 : x7_2 < (l0.length : Int) := of_decide_eq_true (by first | (with_reducible assumption) | assumption)
                   obtain ⟨ad661, e661, hx661_0⟩ := Kd.at_int HR0.out x7_2 p661 q661
                   cases e661
                   replace hx661_0 := (HB.out.cell (World.block_lt_of_cell? w _ hx661_0)).trans hx661_0
                   replace p661 := eq_true p661
                   replace q661 := eq_true q661
                   have p662 : 0 ≤ (x7_2 : Int) := of_decide_eq_true (by first | (with_reducible assumption) | assumption)
                   have q662 : x7_2 < (l0.length : Int) := of_decide_eq_true (by first | (with_reducible assumption) | assumption)
                   obtain ⟨ad662, e662, hx662_0⟩ := Kd.at_int HR0.out x7_2 p662 q662
                   obtain rfl : ad661 = ad662 := (by injection e662)
                   replace hx662_0 := (HB.out.cell (World.block_lt_of_cell? w _ hx662_0)).trans hx662_0
                   replace p662 := eq_true p662
                   replace q662 := eq_true q662
                   have p663 : 0 ≤ (x7_2 : Int) := of_decide_eq_true (by first | (with_reducible assumption) | assumption)
                   have q663 : x7_2 < (l0.length : Int) := of_decide_eq_true (by first | (with_reducible assumption) | assumption)
                   obtain ⟨ad663, e663, hx663_0⟩ := Kd.at_int HR0.out x7_2 p663 q663
                   obtain rfl : ad661 = ad663 := (by injection e663)
                   replace hx663_0 := (HB.out.cell (World.block_lt_of_cell? w _ hx663_0)).trans hx663_0
                   replace p663 := eq_true p663
                   replace q663 := eq_true q663
                   have p664 : 0 ≤ (x7_2 : Int) := of_decide_eq_true (by first | (with_reducible assumption) | assumption)
                   have q664 : x7_2 < (l0.length : Int) := of_decide_eq_true (by first | (with_reducible assumption) | assumption)
                   obtain ⟨ad664, e664, hx664_0⟩ := Kd.at_int HR0.out x7_2 p664 q664
                   obtain rfl : ad661 = ad664 := (by injection e664)
                   replace hx664_0 := (HB.out.cell (World.block_lt_of_cell? w _ hx664_0)).trans hx664_0
                   replace p664 := eq_true p664
                   replace q664 := eq_true q664
                   go_wp2_with (first|(go_at_call 40;(with_reducible refine (bibelotref07_Abs.calls (rd l0 x7_2) t665 _ A17.out).mono ?_);rintro e w28 ⟨rfl, hb⟩;have n0_ := Aside0.mk (Kd.R_below (by (with_reducible repeat (first|apply Kd.R_alloc|apply Kd.R_drewN|apply Kd.R_drew));exact HO_6.out) hb);have n1_ := Aside0.mk (below_step (by repeat (first|(with_reducible first|exact HB.out|apply below_alloc|apply pw_below_drewN|apply below_drew1)|exact HB.out)) hb);clear HO_6;clear HB;have HO_6 := n0_;have HB := n1_;clear n0_ n1_;(try clear hb);(try clear hb2);(try clear hk);(try clear hi);obtain ⟨Ao29, co29, eo29⟩ := Kd.R_slice HO_6.out;subst eo29;have p666 : 0 ≤ (t665 : Int) := of_decide_eq_true (by first|(with_reducible assumption)|assumption);have q666 : t665 < (x6_2.length : Int) := of_decide_eq_true (by first|(with_reducible assumption)|assumption);obtain ⟨ad666, e666, hx666_0⟩ := Kd.at_bool (Kd.R_reads' HO_6.out).2.2 t665 p666 q666;(try rw [← Nbq20.out] at hx666_0);cases e666;replace p666 := eq_true p666;replace q666 := eq_true q666;have p667 : 0 ≤ (x7_2 : Int) := of_decide_eq_true (by first|(with_reducible assumption)|assumption);have q667 : x7_2 < (l0.length : Int) := of_decide_eq_true (by first|(with_reducible assumption)|assumption);obtain ⟨ad667, e667, hx667_0⟩ := Kd.at_int HR0.out x7_2 p667 q667;obtain rfl : ad661 = ad667 := (by injection e667);replace hx667_0 := (HB.out.cell (World.block_lt_of_cell? w _ hx667_0)).trans hx667_0;replace p667 := eq_true p667;replace q667 := eq_true q667)|((with_reducible refine gate_callee (f := 40) rfl ?_);refine goesL_ (some 62) rfl rfl Try.func40 (by kernel_rfl) rfl #[.int .i64 (rd l0 x7_2)] rfl (by (try simp only [List.map_toArray, List.map_cons, List.map_nil]);first|done|rfl|(simp only [List.length_drop, List.length_take];rfl)) ?_;(with_reducible refine (bibelotref07_Abs.calls (rd l0 x7_2) t668 _ A24.out).mono ?_);rintro e w30 ⟨rfl, hb⟩;refine ⟨_, rfl, ?_⟩;have n0_ := Aside0.mk (Kd.R_below (by (with_reducible repeat (first|apply Kd.R_alloc|apply Kd.R_drewN|apply Kd.R_drew));exact HO_6.out) hb);have n1_ := Aside0.mk (below_step (by repeat (first|(with_reducible first|exact HB.out|apply below_alloc|apply pw_below_drewN|apply below_drew1)|exact HB.out)) hb);clear HO_6;clear HB;have HO_6 := n0_;have HB := n1_;clear n0_ n1_;(try clear hb);(try clear hb2);(try clear hk);(try clear hi);have p27 : 0 ≤ (t668 : Int) := of_decide_eq_true (by first|(with_reducible assumption)|assumption);have q27 : (t668 : Int) < ((x6_2.length : Int) : Int) := of_decide_eq_true (by first|(with_reducible assumption)|assumption);obtain ⟨go27, co27, eo27, gb27, gl27, cl27, HG27⟩ := Kd.R_form HO_6.out (by omega);(first|cases eo27|(injection eo27 with ea_ en_ ec_;(first|subst ea_|(injection ea_ with ea_;subst ea_));subst ec_;clear en_));have GB27 := Aside0.mk gb27;have GG27 := Aside0.mk HG27;clear gb27 gl27 HG27;(first|simp only [add_plain] at hx666_0|skip);obtain ⟨hx27_0, hf27_0⟩ := Kd.R_celln false HO_6.out (t668 : Int) p27 q27;replace p27 := eq_true p27;replace q27 := eq_true q27;obtain ⟨hy31_, hz31_⟩ := Kd.R_celln false HO_6.out (t668 : Int) (of_decide_eq_true (by first|(with_reducible assumption)|assumption)) (of_decide_eq_true (by first|(with_reducible assumption)|assumption));have HP31 := Kd.R_putg HO_6.out (t668 : Int) true)|((with_reducible refine gate_store (t := 4) (p := 63) rfl ?_);refine store_event (t := 4) (p := 63) (v := ?vo_w32) (w1 := (w30.setCell ⟨go27, (t668 : Int).toNat, none⟩ (.bool true))) ?hg ?ho ?hn ?hr ?_;(case ho => rfl);(case hg => rfl);(case hn => rfl);(case hr => first|(go_simp;done)|(go_simp;rfl));intro w32 hw;have hg : w30.grownBy w32 (some go27) := (by rw [hw];exact HP31.2);have hp_ : Kd.R Kd.bool 4 w32 w.heap.size (fun _ => True) (.slice (some ⟨go27, 0, none⟩) x6_2.length co29) y669 := (by rw [hw, Ny669.out];exact HP31.1);clear HP31;have n0_ := Aside0.mk (hp_);have n1_ := Aside0.mk ((by rw [hw];exact below_set (HB.out) GB27.out : Below w.heap.size w w32));clear HO_6;clear HB;have HO_6 := n0_;have HB := n1_;clear n0_ n1_;clear hg hw hp_))
                   go_roundg k2
                   case measure => have := HJ2.out; have := HK2.out; omega
                   case rel => exact ⟨(y669), (wrap64 (x7_2 + 1)), (by first | rfl | (simp; done) | (simp [*]; done)), H', ⟨by have := HJ2.out; have := HK2.out; omega⟩, ⟨by (with_reducible repeat (first | apply Kd.R_alloc | apply Kd.R_drewN | apply Kd.R_drew)); exact HO_6.out⟩, ⟨by repeat (first | (with_reducible first | exact HB.out | apply below_alloc | apply pw_below_drewN | apply below_drew1) | exact HB.out)⟩⟩
                  ·rw [if_neg c26] at H
                   exact absurd H (by simp)
                 ·rw [if_neg c25] at H
                  exact absurd H (by simp)
               ·rw [if_neg c19] at H
                exact absurd H (by simp)
              ·rw [if_neg c18] at H
               exact absurd H (by simp)
          ·rw [if_neg c13] at H
           exact absurd H (by simp)
         ·rw [if_neg c12] at H
          exact absurd H (by simp)
        ·rw [if_neg c11] at H
         have c11b0 : decide (x7_2 < (l0.length : Int)) = false := decide_eq_false c11
         clear c11
         obtain rfl := Option.some.inj H
         go_wp2
         go_ret
         exact ⟨by first | rfl | (simp [errW_none, errW_some] <;> rfl) | (simp only [← hji6]; first | rfl | (simp [errW_none, errW_some] <;> rfl)) | (simp [*, errW_none, errW_some] <;> rfl), by repeat (first | (with_reducible first | exact HB.out | apply below_alloc | apply pw_below_drewN | apply below_drew1) | exact HB.out)⟩
     ·rw [if_neg c8] at H
      exact absurd H (by simp)
    ·rw [if_neg c7] at H
     exact absurd H (by simp)

end Go.Proofs.Ytepjhdblmghckaa.Q
namespace Go.Proofs.Ytepjhdblmghckaa.G
end Go.Proofs.Ytepjhdblmghckaa.G
namespace Go.Proofs.Ytepjhdblmghckaa.Q
set_option linter.unusedVariables false
set_option linter.unusedSimpArgs false
set_option linter.unusedSectionVars false
open Go.Proofs.Ytepjhdblmghckaa.G
open Go.RowKit Go.Proofs.YtepjhdblmghckaaW.PrintWords Go.Proofs.YtepjhdblmghckaaW.PrintLast Go.Proofs.YtepjhdblmghckaaW.PrintMore
attribute [local go_sem] max2_int min2_int max_two min_two max_three min_three max_four min_four   -- for this text's walks alone

/-! ### bibelotref07_Stack: function 57 -/
def bibelotref07_Stack.l0 : Nat → List Int → Int → Option (Bool)
 | 0, _, _ => none
 | k + 1, x0, x3 => if x3 < (x0.length : Int) then (if 0 ≤ x3 then (if (rd x0 x3) < 1 then (some false) else (bibelotref07_Stack.l0 k x0 (wrap64 (x3 + 1)))) else (none)) else ((bibelotref07_Row.f k x0 7).bind fun t702 => (some t702))
def bibelotref07_Stack.f (k : Nat) (l0 : List Int) : Option (Bool) := bibelotref07_Stack.l0 k l0 0
theorem bibelotref07_Stack.mono_l : ∀ k, (∀ y0 y1, LeO (bibelotref07_Stack.l0 k y0 y1) (bibelotref07_Stack.l0 (k + 1) y0 y1))
 | 0 => fun _ _ r h => by simp [bibelotref07_Stack.l0] at h
 | k + 1 => by
  have ih0 := bibelotref07_Stack.mono_l k
  ·intro y0 y1
   unfold bibelotref07_Stack.l0
   repeat' first
   | (with_reducible exact ih0 _ _)
   | (with_reducible exact bibelotref07_Row.mono _ _ _)
   | (with_reducible exact LeO.refl _)
   | (with_reducible exact LeO.none _)
   | (with_reducible refine LeO.ite ?_ ?_)
   | (with_reducible refine LeO.bind ?_ (fun _ => ?_))
   | exact ih0 _ _
   | exact bibelotref07_Row.mono _ _ _
   | exact LeO.none _
   | refine LeO.ite ?_ ?_
   | refine LeO.bind ?_ (fun _ => ?_)
theorem bibelotref07_Stack.mono : ∀ a0 k, LeO (bibelotref07_Stack.f k a0) (bibelotref07_Stack.f (k + 1) a0) := by
 intro a0 k
 have ih0 := bibelotref07_Stack.mono_l k
 unfold bibelotref07_Stack.f
 repeat' first
   | (with_reducible exact ih0 _ _)
   | (with_reducible exact bibelotref07_Row.mono _ _ _)
   | (with_reducible exact LeO.refl _)
   | (with_reducible exact LeO.none _)
   | (with_reducible refine LeO.ite ?_ ?_)
   | (with_reducible refine LeO.bind ?_ (fun _ => ?_))
   | exact ih0 _ _
   | exact bibelotref07_Row.mono _ _ _
   | exact LeO.none _
   | refine LeO.ite ?_ ?_
   | refine LeO.bind ?_ (fun _ => ?_)
set_option maxHeartbeats 8000000 in
set_option maxRecDepth 100000 in
theorem bibelotref07_Stack.calls (k : Nat) (A0 : Option Addr) (c0 : Nat) (l0 : List Int) (r : Bool) (w : World) (hr0 : Kd.C (Kd.int .i64) w A0 l0.length l0) (hc0 : l0.length ≤ c0) (h : bibelotref07_Stack.f k l0 = some r) :
  Calls Try.prog 57 #[.slice A0 l0.length c0] w fun e w' => e = .returned (.bool r) ∧ Below w.heap.size w w' := by
 have HR0 := Aside0.mk hr0
 have HC0 := Aside0.mk hc0
 clear hr0 hc0
 have HB := Aside0.mk (Below.refl w.heap.size w)
 have H : (bibelotref07_Stack.l0 k l0 0) = some r := h
 clear h
 have H' := Aside0.mk H
 clear H
 go_enter Try.func57, Try.ntmps57
 go_wp2
 go_loopg [3] k (fun kq v3 w' => ∃ (x3_1 : Int), v3 = .int .i64 x3_1 ∧ Aside0 (bibelotref07_Stack.l0 kq l0 x3_1 = some r) ∧ Aside0 (kq ≤ k) ∧ Aside0 (Below w.heap.size w w'))
 case atStart => exact ⟨(0), (by first | rfl | (simp; done) | (simp [*]; done)), H', ⟨Nat.le_refl _⟩, ⟨by repeat (first | (with_reducible first | exact HB.out | apply below_alloc | apply pw_below_drewN | apply below_drew1) | exact HB.out)⟩⟩
 case round =>
  clear H'
  obtain ⟨x3_1, rfl, HA, HK1, HB⟩ := hrel
  cases gk with
  | zero => exact absurd HA.out (by simp [bibelotref07_Stack.l0])
  | succ k1 =>
   have H := HA.out
   clear HA
   simp only [bibelotref07_Stack.l0] at H
   by_cases c2 : x3_1 < (l0.length : Int)
   ·rw [if_pos c2] at H
    have c2b0 : decide (x3_1 < (l0.length : Int)) = true := decide_eq_true c2
    clear c2
    by_cases c3 : 0 ≤ x3_1
    ·rw [if_pos c3] at H
     have c3b0 : decide (0 ≤ x3_1) = true := decide_eq_true c3
     clear c3
     by_cases c4 : (rd l0 x3_1) < 1
     ·rw [if_pos c4] at H
      have c4b0 : decide ((rd l0 x3_1) < 1) = true := decide_eq_true c4
      clear c4
      obtain rfl := Option.some.inj H
      have p701 : 0 ≤ (x3_1 : Int) := of_decide_eq_true (by first | (with_reducible assumption) | assumption)
      have q701 : x3_1 < (l0.length : Int) := of_decide_eq_true (by first | (with_reducible assumption) | assumption)
      obtain ⟨ad701, e701, hx701_0⟩ := Kd.at_int HR0.out x3_1 p701 q701
      cases e701
      replace hx701_0 := (HB.out.cell (World.block_lt_of_cell? w _ hx701_0)).trans hx701_0
      replace p701 := eq_true p701
      replace q701 := eq_true q701
      go_wp2
      go_ret
      exact ⟨by first | rfl | (simp [errW_none, errW_some] <;> rfl) | (simp [*, errW_none, errW_some] <;> rfl), by repeat (first | (with_reducible first | exact HB.out | apply below_alloc | apply pw_below_drewN | apply below_drew1) | exact HB.out)⟩
     ·rw [if_neg c4] at H
      have c4b0 : decide ((rd l0 x3_1) < 1) = false := decide_eq_false c4
      clear c4
      have H' := Aside0.mk H
      clear H
      have p701 : 0 ≤ (x3_1 : Int) := of_decide_eq_true (by first | (with_reducible assumption) | assumption)
      have q701 : x3_1 < (l0.length : Int) := of_decide_eq_true (by first | (with_reducible assumption) | assumption)
      obtain ⟨ad701, e701, hx701_0⟩ := Kd.at_int HR0.out x3_1 p701 q701
      cases e701
      replace hx701_0 := (HB.out.cell (World.block_lt_of_cell? w _ hx701_0)).trans hx701_0
      replace p701 := eq_true p701
      replace q701 := eq_true q701
      go_wp2
      go_roundg k1
      case measure => have := HK1.out; omega
      case rel => exact ⟨(wrap64 (x3_1 + 1)), (by first | rfl | (simp; done) | (simp [*]; done)), H', ⟨by have := HK1.out; omega⟩, ⟨by repeat (first | (with_reducible first | exact HB.out | apply below_alloc | apply pw_below_drewN | apply below_drew1) | exact HB.out)⟩⟩
    ·rw [if_neg c3] at H
     exact absurd H (by simp)
   ·rw [if_neg c2] at H
    have c2b0 : decide (x3_1 < (l0.length : Int)) = false := decide_eq_false c2
    clear c2
    replace H := Option.bind_eq_some_iff.mp H
    obtain ⟨t702, A50, H⟩ := H
    replace H : (some t702) = some r := H
    have A5 := Aside0.mk A50
    clear A50
    obtain rfl := Option.some.inj H
    go_wp2_with (first|((with_reducible refine gate_callee (f := 56) rfl ?_);refine goesL_ (some 16) rfl rfl Try.func56 (by kernel_rfl) rfl #[.slice A0 l0.length c0, .int .i64 7] rfl (by (try simp only [List.map_toArray, List.map_cons, List.map_nil]);first|done|rfl|(simp only [List.length_drop, List.length_take];rfl)) ?_;(with_reducible refine (bibelotref07_Row.calls k1 _ _ l0 7 t702 _ ?side1 ?side2 A5.out).mono ?_);(case side1 => repeat (first|exact (Kd.C_below HR0.out HB.out)|(with_reducible refine Kd.C_alloc ?_ _)|(with_reducible refine Kd.C_drewN ?_ _)|(with_reducible refine Kd.C_drew ?_)));(case side2 => exact HC0.out);rintro e w6 ⟨rfl, hb⟩;refine ⟨_, rfl, ?_⟩;have n0_ := Aside0.mk (below_step (by repeat (first|(with_reducible first|exact HB.out|apply below_alloc|apply pw_below_drewN|apply below_drew1)|exact HB.out)) hb);clear HB;have HB := n0_;clear n0_;(try clear hb);(try clear hb2);(try clear hk);(try clear hi)))
    go_ret
    exact ⟨by first | rfl | (simp [errW_none, errW_some] <;> rfl) | (simp [*, errW_none, errW_some] <;> rfl), by repeat (first | (with_reducible first | exact HB.out | apply below_alloc | apply pw_below_drewN | apply below_drew1) | exact HB.out)⟩

end Go.Proofs.Ytepjhdblmghckaa.Q
namespace Go.Proofs.Ytepjhdblmghckaa.G
end Go.Proofs.Ytepjhdblmghckaa.G
namespace Go.Proofs.Ytepjhdblmghckaa.Q
set_option linter.unusedVariables false
set_option linter.unusedSimpArgs false
set_option linter.unusedSectionVars false
open Go.Proofs.Ytepjhdblmghckaa.G
open Go.RowKit Go.Proofs.YtepjhdblmghckaaW.PrintWords Go.Proofs.YtepjhdblmghckaaW.PrintLast Go.Proofs.YtepjhdblmghckaaW.PrintMore
attribute [local go_sem] max2_int min2_int max_two min_two max_three min_three max_four min_four   -- for this text's walks alone

/-! ### pancake_CheckRow: function 55 -/
def pancake_CheckRow.f (k : Nat) (l0 : List Int) : Option (Int) := (pancake_check.f k true 40 (([l0] : List (List Int)))).bind fun t657 => (some t657)
theorem pancake_CheckRow.mono : ∀ a0 k, LeO (pancake_CheckRow.f k a0) (pancake_CheckRow.f (k + 1) a0) := by
 intro a0 k
 unfold pancake_CheckRow.f
 repeat' first
   | (with_reducible exact pancake_check.mono _ _ _ _)
   | (with_reducible exact LeO.refl _)
   | (with_reducible exact LeO.none _)
   | (with_reducible refine LeO.ite ?_ ?_)
   | (with_reducible refine LeO.bind ?_ (fun _ => ?_))
   | exact pancake_check.mono _ _ _ _
   | exact LeO.none _
   | refine LeO.ite ?_ ?_
   | refine LeO.bind ?_ (fun _ => ?_)
set_option maxHeartbeats 8000000 in
set_option maxRecDepth 100000 in
theorem pancake_CheckRow.calls (k : Nat) (P0_ : Nat → Prop) (A0 : Option Addr) (c0 : Nat) (l0 : List Int) (r : Int) (w : World) (hs0 : Kd.V (Kd.int .i64) 3 w w.heap.size (fun k_ => P0_ k_) (.slice A0 l0.length c0) l0) (h : pancake_CheckRow.f k l0 = some r) :
  Calls Try.prog 55 #[.slice A0 l0.length c0] w fun e w' => e = .returned (.int .i64 r) ∧ Below w.heap.size w w' := by
 have HO0 := Aside0.mk (show Kd.V (Kd.int .i64) 3 w w.heap.size (fun k_ => (P0_ k_ ∨ w.heap.size ≤ k_)) (.slice A0 l0.length c0) l0 from Kd.V_mono hs0 (fun k_ hk => .inl hk))
 have HB := Aside0.mk (Below.refl w.heap.size w)
 have H : ((pancake_check.f k true 40 (([l0] : List (List Int)))).bind fun t657 => (some t657)) = some r := h
 clear h
 obtain ⟨y654, hy654⟩ : ∃ y_ : List (List Int), y_ = (([l0] : List (List Int))) := ⟨_, rfl⟩
 replace H : ((pancake_check.f k true 40 y654).bind fun t657 => (some t657)) = some r := by first | (rw [hy654]; with_reducible exact H) | (have H2_ := (Option.bind_some _ _).symm.trans H; rw [hy654]; with_reducible exact H2_) | (have H2_ := (Option.bind_some _ _).symm.trans H; with_reducible exact H2_) | with_reducible exact H | (rw [hy654]; exact H) | exact H
 have Ny654 := Aside0.mk hy654
 clear hy654
 replace H := Option.bind_eq_some_iff.mp H
 obtain ⟨t657, A20, H⟩ := H
 replace H : (some t657) = some r := H
 have A2 := Aside0.mk A20
 clear A20
 obtain rfl := Option.some.inj H
 go_enter Try.func55, Try.ntmps55
 go_wp2_with (first|((with_reducible refine gate_dst (N := 4) rfl ?_);refine Kd.N_lit (Kd.slice 3 (Kd.int .i64)) _ 22 ?hg (N' := 4) ?hd (xs := ([l0] : List (List Int))) (inner := [.slice A0 l0.length c0]) (ok := (fun k_ => (P0_ k_ ∨ w.heap.size ≤ k_))) (okp := (fun k_ => (P0_ k_ ∨ w.heap.size ≤ k_))) ?hr ?hp (fun _ hk => hk) ((show ∀ k_, w.heap.size ≤ k_ → (fun k_ => (P0_ k_ ∨ w.heap.size ≤ k_)) k_ from fun k_ hk => (.inr (Nat.le_trans (below_size (by repeat (first|(with_reducible first|exact HB.out|apply below_alloc|apply pw_below_drewN|apply below_drew1)|exact HB.out))) hk))) _ (Nat.le_refl _)) (Below.refl _ _) (Nat.le_refl _) (by simp) ?_;(case hd => rfl);(case hg => rfl);(case hr => first|(go_simp;done)|(go_simp;rfl));(case hp => exact (Reps.one (show Kd.FK (Kd.slice 3 (Kd.int .i64)) _ _ l0 [.slice A0 l0.length c0] from (Kd.FK_slice_mk (Kd.V_reads' (Kd.V_mono (ok' := (fun k_ => (P0_ k_ ∨ w.heap.size ≤ k_))) (HO0.out) (fun k_ hk => hk))).2.1 (Kd.V_F (Kd.V_mono (ok' := (fun k_ => (P0_ k_ ∨ w.heap.size ≤ k_))) (HO0.out) (fun k_ hk => hk))))) (Reps.none _ _)));intro v655 w3 ho4 hb hg_ hnew_;clear hg_ hnew_;(first|rw [← Ny654.out] at ho4|(simp only [Int.reduceToNat] at ho4;rw [← Ny654.out] at ho4));have n0_ := Aside0.mk (Kd.V_elder' (by (with_reducible repeat (first|apply Kd.V_alloc|apply Kd.V_drewN|apply Kd.V_drew));exact HO0.out) (Kd.N_base ho4) hb);have n1_ := Aside0.mk (Kd.N_lower ho4 (below_size (by repeat (first|(with_reducible first|exact HB.out|apply below_alloc|apply pw_below_drewN|apply below_drew1)|exact HB.out))));have n2_ := Aside0.mk (below_step (by repeat (first|(with_reducible first|exact HB.out|apply below_alloc|apply pw_below_drewN|apply below_drew1)|exact HB.out)) hb);clear HO0;clear HB;have HO0 := n0_;have HO656 := n1_;have HB := n2_;clear n0_ n1_ n2_;clear hb ho4;obtain ⟨Ao5, co5, eo5⟩ := Kd.N_slice HO656.out;subst eo5)|((with_reducible refine gate_callee (f := 68) rfl ?_);refine goesL_ (some 5) rfl rfl Try.func68 (by kernel_rfl) rfl #[.bool true, .int .i64 40, .slice Ao5 y654.length co5] rfl (by (try simp only [List.map_toArray, List.map_cons, List.map_nil]);first|done|rfl|(simp only [List.length_drop, List.length_take];rfl)) ?_;(with_reducible refine (pancake_check.calls k true 40 _ _ y654 t657 _ ?side1 ?side2 A2.out).mono ?_);(case side1 => repeat (first|exact (Kd.N_reads' HO656.out).2.2|(with_reducible refine Kd.C_alloc ?_ _)|(with_reducible refine Kd.C_drewN ?_ _)|(with_reducible refine Kd.C_drew ?_)));(case side2 => exact (Kd.N_reads' HO656.out).2.1);rintro e w6 ⟨rfl, hb⟩;refine ⟨_, rfl, ?_⟩;have n0_ := Aside0.mk (Kd.V_below (by (with_reducible repeat (first|apply Kd.V_alloc|apply Kd.V_drewN|apply Kd.V_drew));exact HO0.out) hb);have n1_ := Aside0.mk (Kd.N_below (by (with_reducible repeat (first|apply Kd.N_alloc|apply Kd.N_drewN|apply Kd.N_drew));exact HO656.out) hb);have n2_ := Aside0.mk (below_step (by repeat (first|(with_reducible first|exact HB.out|apply below_alloc|apply pw_below_drewN|apply below_drew1)|exact HB.out)) hb);clear HO0;clear HO656;clear HB;have HO0 := n0_;have HO656 := n1_;have HB := n2_;clear n0_ n1_ n2_;(try clear hb);(try clear hb2);(try clear hk);(try clear hi)))
 go_ret
 exact ⟨by first | rfl | (simp [errW_none, errW_some] <;> rfl) | (simp [*, errW_none, errW_some] <;> rfl), by repeat (first | (with_reducible first | exact HB.out | apply below_alloc | apply pw_below_drewN | apply below_drew1) | exact HB.out)⟩

end Go.Proofs.Ytepjhdblmghckaa.Q
namespace Go.Proofs.Ytepjhdblmghckaa.G
end Go.Proofs.Ytepjhdblmghckaa.G
namespace Go.Proofs.Ytepjhdblmghckaa.Q
set_option linter.unusedVariables false
set_option linter.unusedSimpArgs false
set_option linter.unusedSectionVars false
open Go.Proofs.Ytepjhdblmghckaa.G
open Go.RowKit Go.Proofs.YtepjhdblmghckaaW.PrintWords Go.Proofs.YtepjhdblmghckaaW.PrintLast Go.Proofs.YtepjhdblmghckaaW.PrintMore
attribute [local go_sem] max2_int min2_int max_two min_two max_three min_three max_four min_four   -- for this text's walks alone

/-! ### bibelotlaw07_ints: function 29 -/
def bibelotlaw07_ints.l0 : Nat → List Int → List Int → Int → Option (Bool)
 | 0, _, _, _ => none
 | k + 1, x0, x1, x5 => if x5 < (x0.length : Int) then (if 0 ≤ x5 then (if x5 < (x1.length : Int) then (if (rd x0 x5) = (rd x1 x5) then (bibelotlaw07_ints.l0 k x0 x1 (wrap64 (x5 + 1))) else (some false)) else (none)) else (none)) else (some true)
def bibelotlaw07_ints.f (k : Nat) (l0 : List Int) (l1 : List Int) : Option (Bool) := if (l0.length : Int) = (l1.length : Int) then (bibelotlaw07_ints.l0 k l0 l1 0) else (some false)
theorem bibelotlaw07_ints.mono_l : ∀ k, (∀ y0 y1 y2, LeO (bibelotlaw07_ints.l0 k y0 y1 y2) (bibelotlaw07_ints.l0 (k + 1) y0 y1 y2))
 | 0 => fun _ _ _ r h => by simp [bibelotlaw07_ints.l0] at h
 | k + 1 => by
  have ih0 := bibelotlaw07_ints.mono_l k
  ·intro y0 y1 y2
   unfold bibelotlaw07_ints.l0
   repeat' first
   | (with_reducible exact ih0 _ _ _)
   | (with_reducible exact LeO.refl _)
   | (with_reducible exact LeO.none _)
   | (with_reducible refine LeO.ite ?_ ?_)
   | (with_reducible refine LeO.bind ?_ (fun _ => ?_))
   | exact ih0 _ _ _
   | exact LeO.none _
   | refine LeO.ite ?_ ?_
   | refine LeO.bind ?_ (fun _ => ?_)
theorem bibelotlaw07_ints.mono : ∀ a0 a1 k, LeO (bibelotlaw07_ints.f k a0 a1) (bibelotlaw07_ints.f (k + 1) a0 a1) := by
 intro a0 a1 k
 have ih0 := bibelotlaw07_ints.mono_l k
 unfold bibelotlaw07_ints.f
 repeat' first
   | (with_reducible exact ih0 _ _ _)
   | (with_reducible exact LeO.refl _)
   | (with_reducible exact LeO.none _)
   | (with_reducible refine LeO.ite ?_ ?_)
   | (with_reducible refine LeO.bind ?_ (fun _ => ?_))
   | exact ih0 _ _ _
   | exact LeO.none _
   | refine LeO.ite ?_ ?_
   | refine LeO.bind ?_ (fun _ => ?_)
set_option maxHeartbeats 8000000 in
set_option maxRecDepth 100000 in
theorem bibelotlaw07_ints.calls (k : Nat) (A0 : Option Addr) (c0 : Nat) (l0 : List Int) (A1 : Option Addr) (c1 : Nat) (l1 : List Int) (r : Bool) (w : World) (hr0 : Kd.C (Kd.int .i64) w A0 l0.length l0) (hc0 : l0.length ≤ c0) (hr1 : Kd.C (Kd.int .i64) w A1 l1.length l1) (hc1 : l1.length ≤ c1) (h : bibelotlaw07_ints.f k l0 l1 = some r) :
  Calls Try.prog 29 #[.slice A0 l0.length c0, .slice A1 l1.length c1] w fun e w' => e = .returned (.bool r) ∧ Drawn0 w w' := by
 have HR0 := Aside0.mk hr0
 have HC0 := Aside0.mk hc0
 clear hr0 hc0
 have HR1 := Aside0.mk hr1
 have HC1 := Aside0.mk hc1
 clear hr1 hc1
 have H : (if (l0.length : Int) = (l1.length : Int) then (bibelotlaw07_ints.l0 k l0 l1 0) else (some false)) = some r := h
 clear h
 by_cases c3 : (l0.length : Int) = (l1.length : Int)
 ·rw [if_pos c3] at H
  have c3b0 : ((l0.length : Int) == (l1.length : Int)) = true := beq_iff_eq.mpr c3
  have c3b1 : ((l0.length : Int) != (l1.length : Int)) = false := bne_eq_false_iff_eq.mpr c3
  have c3b2 : (l0.length == l1.length) = true := by first | simpa using c3 | (simp at c3 ⊢; omega)
  clear c3
  have H' := Aside0.mk H
  clear H
  go_enter Try.func29, Try.ntmps29
  go_wp2
  repeat (go_quiet (fail); try go_wp2)
  go_loopg [5] k (fun kq v5 w' => ∃ (x5_1 : Int), v5 = .int .i64 x5_1 ∧ Aside0 (bibelotlaw07_ints.l0 kq l0 l1 x5_1 = some r) ∧ Aside0 (kq ≤ k) ∧ Drawn0 w w')
  case atStart => exact ⟨(0), (by first | rfl | (simp; done) | (simp [*]; done)), H', ⟨Nat.le_refl _⟩, by repeat (first | exact Drawn0.refl _ | apply Drawn0.step)⟩
  case round =>
   clear H'
   try clear c1
   try clear c2
   try clear p2
   try clear c3
   try clear c3b0
   try clear c3b1
   try clear c3b2
   obtain ⟨x5_1, rfl, HA, HK1, ⟨m1, rfl⟩⟩ := hrel
   cases gk with
   | zero => exact absurd HA.out (by simp [bibelotlaw07_ints.l0])
   | succ k1 =>
    have H := HA.out
    clear HA
    simp only [bibelotlaw07_ints.l0] at H
    by_cases c4 : x5_1 < (l0.length : Int)
    ·rw [if_pos c4] at H
     have c4b0 : decide (x5_1 < (l0.length : Int)) = true := decide_eq_true c4
     clear c4
     by_cases c5 : 0 ≤ x5_1
     ·rw [if_pos c5] at H
      have c5b0 : decide (0 ≤ x5_1) = true := decide_eq_true c5
      clear c5
      by_cases c6 : x5_1 < (l1.length : Int)
      ·rw [if_pos c6] at H
       have c6b0 : decide (x5_1 < (l1.length : Int)) = true := decide_eq_true c6
       clear c6
       by_cases c7 : (rd l0 x5_1) = (rd l1 x5_1)
       ·rw [if_pos c7] at H
        have c7b0 : ((rd l0 x5_1) == (rd l1 x5_1)) = true := beq_iff_eq.mpr c7
        have c7b1 : ((rd l0 x5_1) != (rd l1 x5_1)) = false := bne_eq_false_iff_eq.mpr c7
        clear c7
        have H' := Aside0.mk H
        clear H
        have p185 : 0 ≤ (x5_1 : Int) := of_decide_eq_true (by first | (with_reducible assumption) | assumption)
        have q185 : x5_1 < (l0.length : Int) := of_decide_eq_true (by first | (with_reducible assumption) | assumption)
        obtain ⟨ad185, e185, hx185_0⟩ := Kd.at_int HR0.out x5_1 p185 q185
        cases e185
        replace p185 := eq_true p185
        replace q185 := eq_true q185
        have p186 : 0 ≤ (x5_1 : Int) := of_decide_eq_true (by first | (with_reducible assumption) | assumption)
        have q186 : x5_1 < (l1.length : Int) := of_decide_eq_true (by first | (with_reducible assumption) | assumption)
        obtain ⟨ad186, e186, hx186_0⟩ := Kd.at_int HR1.out x5_1 p186 q186
        cases e186
        replace p186 := eq_true p186
        replace q186 := eq_true q186
        go_wp2
        repeat (go_quiet (fail); try go_wp2)
        go_roundg k1
        case measure => have := HK1.out; omega
        case rel => exact ⟨(wrap64 (x5_1 + 1)), (by first | rfl | (simp; done) | (simp [*]; done)), H', ⟨by have := HK1.out; omega⟩, by repeat (first | exact Drawn0.refl _ | apply Drawn0.step)⟩
       ·rw [if_neg c7] at H
        have c7b0 : ((rd l0 x5_1) == (rd l1 x5_1)) = false := beq_eq_false_iff_ne.mpr c7
        have c7b1 : ((rd l0 x5_1) != (rd l1 x5_1)) = true := bne_iff_ne.mpr c7
        obtain rfl := Option.some.inj H
        have p185 : 0 ≤ (x5_1 : Int) := of_decide_eq_true (by first | (with_reducible assumption) | assumption)
        have q185 : x5_1 < (l0.length : Int) := of_decide_eq_true (by first | (with_reducible assumption) | assumption)
        obtain ⟨ad185, e185, hx185_0⟩ := Kd.at_int HR0.out x5_1 p185 q185
        cases e185
        replace p185 := eq_true p185
        replace q185 := eq_true q185
        have p186 : 0 ≤ (x5_1 : Int) := of_decide_eq_true (by first | (with_reducible assumption) | assumption)
        have q186 : x5_1 < (l1.length : Int) := of_decide_eq_true (by first | (with_reducible assumption) | assumption)
        obtain ⟨ad186, e186, hx186_0⟩ := Kd.at_int HR1.out x5_1 p186 q186
        cases e186
        replace p186 := eq_true p186
        replace q186 := eq_true q186
        go_wp2
        repeat (go_quiet (fail); try go_wp2)
        go_ret
        exact ⟨by first | rfl | (simp; done) | (simp [*]; done), by repeat (first | exact Drawn0.refl _ | apply Drawn0.step)⟩
      ·rw [if_neg c6] at H
       exact absurd H (by simp)
     ·rw [if_neg c5] at H
      exact absurd H (by simp)
    ·rw [if_neg c4] at H
     have c4b0 : decide (x5_1 < (l0.length : Int)) = false := decide_eq_false c4
     clear c4
     obtain rfl := Option.some.inj H
     go_wp2
     repeat (go_quiet (fail); try go_wp2)
     go_ret
     exact ⟨by first | rfl | (simp; done) | (simp [*]; done), by repeat (first | exact Drawn0.refl _ | apply Drawn0.step)⟩
 ·rw [if_neg c3] at H
  have c3b0 : ((l0.length : Int) == (l1.length : Int)) = false := beq_eq_false_iff_ne.mpr c3
  have c3b1 : ((l0.length : Int) != (l1.length : Int)) = true := bne_iff_ne.mpr c3
  have c3b2 : (l0.length == l1.length) = false := by first | simpa using c3 | (simp at c3 ⊢; omega)
  obtain rfl := Option.some.inj H
  go_enter Try.func29, Try.ntmps29
  go_wp2
  repeat (go_quiet (fail); try go_wp2)
  go_ret
  exact ⟨by first | rfl | (simp; done) | (simp [*]; done), by repeat (first | exact Drawn0.refl _ | apply Drawn0.step)⟩

end Go.Proofs.Ytepjhdblmghckaa.Q
namespace Go.Proofs.Ytepjhdblmghckaa.G
end Go.Proofs.Ytepjhdblmghckaa.G
namespace Go.Proofs.Ytepjhdblmghckaa.Q
set_option linter.unusedVariables false
set_option linter.unusedSimpArgs false
set_option linter.unusedSectionVars false
open Go.Proofs.Ytepjhdblmghckaa.G
open Go.RowKit Go.Proofs.YtepjhdblmghckaaW.PrintWords Go.Proofs.YtepjhdblmghckaaW.PrintLast Go.Proofs.YtepjhdblmghckaaW.PrintMore
attribute [local go_sem] max2_int min2_int max_two min_two max_three min_three max_four min_four   -- for this text's walks alone

/-! ### bibelotref07_Flip: function 34 -/
def bibelotref07_Flip.l0 : Nat → List Int → Int → Bool → List Int → Int → Option (List Int)
 | 0, _, _, _, _, _ => none
 | k + 1, x0, x1, x2, x7, x8 => if x8 < (x0.length : Int) then (if 0 ≤ x8 then (if x8 < x1 then (if 0 ≤ (wrap64 ((wrap64 (x1 - 1)) - x8)) then (if (wrap64 ((wrap64 (x1 - 1)) - x8)) < (x0.length : Int) then (if x2 = true then (if x7.length < 17592186044416 then (bibelotref07_Flip.l0 k x0 x1 x2 (x7 ++ [wrap64 (-(rd x0 (wrap64 ((wrap64 (x1 - 1)) - x8))))]) (wrap64 (x8 + 1))) else (none)) else (if x7.length < 17592186044416 then (bibelotref07_Flip.l0 k x0 x1 x2 (x7 ++ [rd x0 (wrap64 ((wrap64 (x1 - 1)) - x8))]) (wrap64 (x8 + 1))) else (none))) else (none)) else (none)) else (if x7.length < 17592186044416 then (bibelotref07_Flip.l0 k x0 x1 x2 (x7 ++ [rd x0 x8]) (wrap64 (x8 + 1))) else (none))) else (none)) else (some x7)
def bibelotref07_Flip.f (k : Nat) (l0 : List Int) (a1 : Int) (a2 : Bool) : Option (List Int) := bibelotref07_Flip.l0 k l0 a1 a2 ([] : List Int) 0
theorem bibelotref07_Flip.mono_l : ∀ k, (∀ y0 y1 y2 y3 y4, LeO (bibelotref07_Flip.l0 k y0 y1 y2 y3 y4) (bibelotref07_Flip.l0 (k + 1) y0 y1 y2 y3 y4))
 | 0 => fun _ _ _ _ _ r h => by simp [bibelotref07_Flip.l0] at h
 | k + 1 => by
  have ih0 := bibelotref07_Flip.mono_l k
  ·intro y0 y1 y2 y3 y4
   unfold bibelotref07_Flip.l0
   repeat' first
   | (with_reducible exact ih0 _ _ _ _ _)
   | (with_reducible exact LeO.refl _)
   | (with_reducible exact LeO.none _)
   | (with_reducible refine LeO.ite ?_ ?_)
   | (with_reducible refine LeO.bind ?_ (fun _ => ?_))
   | exact ih0 _ _ _ _ _
   | exact LeO.none _
   | refine LeO.ite ?_ ?_
   | refine LeO.bind ?_ (fun _ => ?_)
theorem bibelotref07_Flip.mono : ∀ a0 a1 a2 k, LeO (bibelotref07_Flip.f k a0 a1 a2) (bibelotref07_Flip.f (k + 1) a0 a1 a2) := by
 intro a0 a1 a2 k
 have ih0 := bibelotref07_Flip.mono_l k
 unfold bibelotref07_Flip.f
 repeat' first
   | (with_reducible exact ih0 _ _ _ _ _)
   | (with_reducible exact LeO.refl _)
   | (with_reducible exact LeO.none _)
   | (with_reducible refine LeO.ite ?_ ?_)
   | (with_reducible refine LeO.bind ?_ (fun _ => ?_))
   | exact ih0 _ _ _ _ _
   | exact LeO.none _
   | refine LeO.ite ?_ ?_
   | refine LeO.bind ?_ (fun _ => ?_)
set_option maxHeartbeats 8000000 in
set_option maxRecDepth 100000 in
theorem bibelotref07_Flip.calls (k : Nat) (A0 : Option Addr) (c0 : Nat) (l0 : List Int) (a1 : Int) (a2 : Bool) (r : List Int) (w : World) (hr0 : Kd.C (Kd.int .i64) w A0 l0.length l0) (hc0 : l0.length ≤ c0) (h : bibelotref07_Flip.f k l0 a1 a2 = some r) :
  Calls Try.prog 34 #[.slice A0 l0.length c0, .int .i64 a1, .bool a2] w fun e w' => ∃ v0_ : Value, e = .returned (v0_) ∧ Kd.R (Kd.int .i64) 3 w' w.heap.size (fun _ => True) v0_ r ∧ Below w.heap.size w w' := by
 have HR0 := Aside0.mk hr0
 have HC0 := Aside0.mk hc0
 clear hr0 hc0
 have HB := Aside0.mk (Below.refl w.heap.size w)
 have H : (bibelotref07_Flip.l0 k l0 a1 a2 ([] : List Int) 0) = some r := h
 clear h
 have H' := Aside0.mk H
 clear H
 go_enter Try.func34, Try.ntmps34
 go_wp2
 go_loopg [7, 8] k (fun kq v7 v8 w' => ∃ (x7_1 : List Int) (x8_1 : Int), v8 = .int .i64 x8_1 ∧ Aside0 (bibelotref07_Flip.l0 kq l0 a1 a2 x7_1 x8_1 = some r) ∧ Aside0 (kq ≤ k) ∧ Aside0 (Kd.R (Kd.int .i64) 3 w' w.heap.size (fun _ => True) v7 x7_1) ∧ Aside0 (Below w.heap.size w w'))
 case atStart => exact ⟨(([] : List Int)), (0), (by first | rfl | (simp; done) | (simp [*]; done)), H', ⟨Nat.le_refl _⟩, ⟨by first | exact Kd.R_nil _ _ _ _ _ | exact Kd.N_nil _ _ _ _ _ | exact Kd.V_nil _ _ _ _ _ | exact Kd.Q_nil _ _ _ _ _ | exact Kd.S_nil _ _ _ _ _⟩, ⟨by repeat (first | (with_reducible first | exact HB.out | apply below_alloc | apply pw_below_drewN | apply below_drew1) | exact HB.out)⟩⟩
 case round =>
  clear H'
  try clear p2
  try clear c3
  obtain ⟨x7_1, x8_1, rfl, HA, HK1, HO_7, HB⟩ := hrel
  cases gk with
  | zero => exact absurd HA.out (by simp [bibelotref07_Flip.l0])
  | succ k1 =>
   have H := HA.out
   clear HA
   simp only [bibelotref07_Flip.l0] at H
   by_cases c4 : x8_1 < (l0.length : Int)
   ·rw [if_pos c4] at H
    have c4b0 : decide (x8_1 < (l0.length : Int)) = true := decide_eq_true c4
    clear c4
    by_cases c5 : 0 ≤ x8_1
    ·rw [if_pos c5] at H
     have c5b0 : decide (0 ≤ x8_1) = true := decide_eq_true c5
     clear c5
     by_cases c6 : x8_1 < a1
     ·rw [if_pos c6] at H
      have c6b0 : decide (x8_1 < a1) = true := decide_eq_true c6
      clear c6
      obtain ⟨ji7, hji7⟩ : ∃ j_ : Int, (wrap64 ((wrap64 (a1 - 1)) - x8_1)) = j_ := ⟨_, rfl⟩
      replace H : (if 0 ≤ (ji7) then (if (ji7) < (l0.length : Int) then (if a2 = true then (if x7_1.length < 17592186044416 then (bibelotref07_Flip.l0 k1 l0 a1 a2 (x7_1 ++ [wrap64 (-(rd l0 (ji7)))]) (wrap64 (x8_1 + 1))) else (none)) else (if x7_1.length < 17592186044416 then (bibelotref07_Flip.l0 k1 l0 a1 a2 (x7_1 ++ [rd l0 (ji7)]) (wrap64 (x8_1 + 1))) else (none))) else (none)) else (none)) = some r := by first | (rw [hji7] at H; exact H) | (simp only [hji7] at H ⊢; exact H)
      have hji7w : (IntKind.i64.wrap ((wrap64 (a1 - 1)) - x8_1)) = ji7 := (i64_w _).trans hji7
      by_cases c8 : 0 ≤ (ji7)
      ·rw [if_pos c8] at H
       have c8b0 : decide (0 ≤ (ji7)) = true := decide_eq_true c8
       clear c8
       by_cases c9 : (ji7) < (l0.length : Int)
       ·rw [if_pos c9] at H
        have c9b0 : decide ((ji7) < (l0.length : Int)) = true := decide_eq_true c9
        clear c9
        by_cases c10 : a2 = true
        ·subst c10
         have H1 : (if x7_1.length < 17592186044416 then (bibelotref07_Flip.l0 k1 l0 a1 true (x7_1 ++ [wrap64 (-(rd l0 (ji7)))]) (wrap64 (x8_1 + 1))) else (none)) = some r := by rw [if_pos rfl] at H; exact H
         clear H
         have H := H1
         clear H1
         by_cases c11 : x7_1.length < 17592186044416
         ·rw [if_pos c11] at H
          have LMc11 := Aside0.mk c11
          clear c11
          obtain ⟨y255, hy255⟩ : ∃ y_ : List Int, y_ = (x7_1 ++ [wrap64 (-(rd l0 (ji7)))]) := ⟨_, rfl⟩
          replace H : (bibelotref07_Flip.l0 k1 l0 a1 true y255 (wrap64 (x8_1 + 1))) = some r := by first | (rw [hy255]; with_reducible exact H) | (have H2_ := (Option.bind_some _ _).symm.trans H; rw [hy255]; with_reducible exact H2_) | (have H2_ := (Option.bind_some _ _).symm.trans H; with_reducible exact H2_) | with_reducible exact H | (rw [hy255]; exact H) | exact H
          have Ny255 := Aside0.mk hy255
          clear hy255
          have H' := Aside0.mk H
          clear H
          have p253 : 0 ≤ (x8_1 : Int) := of_decide_eq_true (by first | (with_reducible assumption) | assumption)
          have q253 : x8_1 < (l0.length : Int) := of_decide_eq_true (by first | (with_reducible assumption) | assumption)
          obtain ⟨ad253, e253, hx253_0⟩ := Kd.at_int HR0.out x8_1 p253 q253
          cases e253
          replace hx253_0 := (HB.out.cell (World.block_lt_of_cell? w _ hx253_0)).trans hx253_0
          replace p253 := eq_true p253
          replace q253 := eq_true q253
          have p254 : 0 ≤ ((ji7) : Int) := of_decide_eq_true (by first | (with_reducible assumption) | assumption)
          have q254 : (ji7) < (l0.length : Int) := of_decide_eq_true (by first | (with_reducible assumption) | assumption)
          obtain ⟨ad254, e254, hx254_0⟩ := Kd.at_int HR0.out (ji7) p254 q254
          obtain rfl : ad253 = ad254 := (by injection e254)
          replace hx254_0 := (HB.out.cell (World.block_lt_of_cell? w _ hx254_0)).trans hx254_0
          replace p254 := eq_true p254
          replace q254 := eq_true q254
          go_wp2_with (first|((with_reducible refine gate_builtin (b := .append) (xs := #[.tmp 33, .tmp 35]) rfl ?_);at_builtin;refine Kd.R_append (Kd.int .i64) (w0 := w) w.heap.size rfl (.tmp 33) (.tmp 35) 22 3 (.int .i64 0) 8 rfl Try.underlying22 info3 rfl (by decide) (by omega) u7 x7_1 (wrap64 (-(rd l0 (ji7)))) [.int .i64 (wrap64 (-(rd l0 (ji7))))] (fun _ => True) (fun _ => False) rfl rfl ?aP (fun _ hk => hk.elim) ?aF ?aO ?aB ?aS ?aL ?_;(case aP => exact rfl);(case aB => exact (by repeat (first|(with_reducible first|exact HB.out|apply below_alloc|apply pw_below_drewN|apply below_drew1)|exact HB.out)));(case aF => exact (fun _ _ => trivial));(case aO => exact (by (with_reducible repeat (first|apply Kd.R_alloc|apply Kd.R_drewN|apply Kd.R_drew));exact HO_7.out));(case aS => exact (below_size (by repeat (first|(with_reducible first|exact HB.out|apply below_alloc|apply pw_below_drewN|apply below_drew1)|exact HB.out))));(case aL => have := LMc11.out;omega);intro v256 w12 ho hb hg hat;rw [← Ny255.out] at ho;have n0_ := Aside0.mk (hb);have n1_ := Aside0.mk (ho);clear HB;clear HO_7;have HB := n0_;have HO257 := n1_;clear n0_ n1_;clear ho hb hg hat))
          go_roundg k1
          case measure => have := HK1.out; omega
          case rel => exact ⟨(y255), (wrap64 (x8_1 + 1)), (by first | rfl | (simp; done) | (simp [*]; done)), H', ⟨by have := HK1.out; omega⟩, ⟨by (with_reducible repeat (first | apply Kd.R_alloc | apply Kd.R_drewN | apply Kd.R_drew)); exact HO257.out⟩, ⟨by repeat (first | (with_reducible first | exact HB.out | apply below_alloc | apply pw_below_drewN | apply below_drew1) | exact HB.out)⟩⟩
         ·rw [if_neg c11] at H
          exact absurd H (by simp)
        ·replace c10 := Bool.eq_false_iff.mpr c10
         subst c10
         have H1 : (if x7_1.length < 17592186044416 then (bibelotref07_Flip.l0 k1 l0 a1 false (x7_1 ++ [rd l0 (ji7)]) (wrap64 (x8_1 + 1))) else (none)) = some r := by rw [if_neg (show ¬ (false = true) by decide)] at H; exact H
         clear H
         have H := H1
         clear H1
         by_cases c13 : x7_1.length < 17592186044416
         ·rw [if_pos c13] at H
          have LMc13 := Aside0.mk c13
          clear c13
          obtain ⟨y258, hy258⟩ : ∃ y_ : List Int, y_ = (x7_1 ++ [rd l0 (ji7)]) := ⟨_, rfl⟩
          replace H : (bibelotref07_Flip.l0 k1 l0 a1 false y258 (wrap64 (x8_1 + 1))) = some r := by first | (rw [hy258]; with_reducible exact H) | (have H2_ := (Option.bind_some _ _).symm.trans H; rw [hy258]; with_reducible exact H2_) | (have H2_ := (Option.bind_some _ _).symm.trans H; with_reducible exact H2_) | with_reducible exact H | (rw [hy258]; exact H) | exact H
          have Ny258 := Aside0.mk hy258
          clear hy258
          have H' := Aside0.mk H
          clear H
          have p253 : 0 ≤ (x8_1 : Int) := of_decide_eq_true (by first | (with_reducible assumption) | assumption)
          have q253 : x8_1 < (l0.length : Int) := of_decide_eq_true (by first | (with_reducible assumption) | assumption)
          obtain ⟨ad253, e253, hx253_0⟩ := Kd.at_int HR0.out x8_1 p253 q253
          cases e253
          replace hx253_0 := (HB.out.cell (World.block_lt_of_cell? w _ hx253_0)).trans hx253_0
          replace p253 := eq_true p253
          replace q253 := eq_true q253
          have p254 : 0 ≤ ((ji7) : Int) := of_decide_eq_true (by first | (with_reducible assumption) | assumption)
          have q254 : (ji7) < (l0.length : Int) := of_decide_eq_true (by first | (with_reducible assumption) | assumption)
          obtain ⟨ad254, e254, hx254_0⟩ := Kd.at_int HR0.out (ji7) p254 q254
          obtain rfl : ad253 = ad254 := (by injection e254)
          replace hx254_0 := (HB.out.cell (World.block_lt_of_cell? w _ hx254_0)).trans hx254_0
          replace p254 := eq_true p254
          replace q254 := eq_true q254
          go_wp2_with (first|((with_reducible refine gate_builtin (b := .append) (xs := #[.tmp 33, .tmp 35]) rfl ?_);at_builtin;refine Kd.R_append (Kd.int .i64) (w0 := w) w.heap.size rfl (.tmp 33) (.tmp 35) 22 3 (.int .i64 0) 8 rfl Try.underlying22 info3 rfl (by decide) (by omega) u7 x7_1 (rd l0 (ji7)) [.int .i64 (rd l0 (ji7))] (fun _ => True) (fun _ => False) rfl rfl ?aP (fun _ hk => hk.elim) ?aF ?aO ?aB ?aS ?aL ?_;(case aP => exact rfl);(case aB => exact (by repeat (first|(with_reducible first|exact HB.out|apply below_alloc|apply pw_below_drewN|apply below_drew1)|exact HB.out)));(case aF => exact (fun _ _ => trivial));(case aO => exact (by (with_reducible repeat (first|apply Kd.R_alloc|apply Kd.R_drewN|apply Kd.R_drew));exact HO_7.out));(case aS => exact (below_size (by repeat (first|(with_reducible first|exact HB.out|apply below_alloc|apply pw_below_drewN|apply below_drew1)|exact HB.out))));(case aL => have := LMc13.out;omega);intro v259 w14 ho hb hg hat;rw [← Ny258.out] at ho;have n0_ := Aside0.mk (hb);have n1_ := Aside0.mk (ho);clear HB;clear HO_7;have HB := n0_;have HO260 := n1_;clear n0_ n1_;clear ho hb hg hat))
          go_roundg k1
          case measure => have := HK1.out; omega
          case rel => exact ⟨(y258), (wrap64 (x8_1 + 1)), (by first | rfl | (simp; done) | (simp [*]; done)), H', ⟨by have := HK1.out; omega⟩, ⟨by (with_reducible repeat (first | apply Kd.R_alloc | apply Kd.R_drewN | apply Kd.R_drew)); exact HO260.out⟩, ⟨by repeat (first | (with_reducible first | exact HB.out | apply below_alloc | apply pw_below_drewN | apply below_drew1) | exact HB.out)⟩⟩
         ·rw [if_neg c13] at H
          exact absurd H (by simp)
       ·rw [if_neg c9] at H
        exact absurd H (by simp)
      ·rw [if_neg c8] at H
       exact absurd H (by simp)
     ·rw [if_neg c6] at H
      have c6b0 : decide (x8_1 < a1) = false := decide_eq_false c6
      clear c6
      by_cases c15 : x7_1.length < 17592186044416
      ·rw [if_pos c15] at H
       have LMc15 := Aside0.mk c15
       clear c15
       obtain ⟨y261, hy261⟩ : ∃ y_ : List Int, y_ = (x7_1 ++ [rd l0 x8_1]) := ⟨_, rfl⟩
       replace H : (bibelotref07_Flip.l0 k1 l0 a1 a2 y261 (wrap64 (x8_1 + 1))) = some r := by first | (rw [hy261]; with_reducible exact H) | (have H2_ := (Option.bind_some _ _).symm.trans H; rw [hy261]; with_reducible exact H2_) | (have H2_ := (Option.bind_some _ _).symm.trans H; with_reducible exact H2_) | with_reducible exact H | (rw [hy261]; exact H) | exact H
       have Ny261 := Aside0.mk hy261
       clear hy261
       have H' := Aside0.mk H
       clear H
       have p253 : 0 ≤ (x8_1 : Int) := of_decide_eq_true (by first | (with_reducible assumption) | assumption)
       have q253 : x8_1 < (l0.length : Int) := of_decide_eq_true (by first | (with_reducible assumption) | assumption)
       obtain ⟨ad253, e253, hx253_0⟩ := Kd.at_int HR0.out x8_1 p253 q253
       cases e253
       replace hx253_0 := (HB.out.cell (World.block_lt_of_cell? w _ hx253_0)).trans hx253_0
       replace p253 := eq_true p253
       replace q253 := eq_true q253
       go_wp2_with (first|((with_reducible refine gate_builtin (b := .append) (xs := #[.tmp 33, .tmp 35]) rfl ?_);at_builtin;refine Kd.R_append (Kd.int .i64) (w0 := w) w.heap.size rfl (.tmp 33) (.tmp 35) 22 3 (.int .i64 0) 8 rfl Try.underlying22 info3 rfl (by decide) (by omega) u7 x7_1 (rd l0 x8_1) [.int .i64 (rd l0 x8_1)] (fun _ => True) (fun _ => False) rfl rfl ?aP (fun _ hk => hk.elim) ?aF ?aO ?aB ?aS ?aL ?_;(case aP => exact rfl);(case aB => exact (by repeat (first|(with_reducible first|exact HB.out|apply below_alloc|apply pw_below_drewN|apply below_drew1)|exact HB.out)));(case aF => exact (fun _ _ => trivial));(case aO => exact (by (with_reducible repeat (first|apply Kd.R_alloc|apply Kd.R_drewN|apply Kd.R_drew));exact HO_7.out));(case aS => exact (below_size (by repeat (first|(with_reducible first|exact HB.out|apply below_alloc|apply pw_below_drewN|apply below_drew1)|exact HB.out))));(case aL => have := LMc15.out;omega);intro v262 w16 ho hb hg hat;rw [← Ny261.out] at ho;have n0_ := Aside0.mk (hb);have n1_ := Aside0.mk (ho);clear HB;clear HO_7;have HB := n0_;have HO263 := n1_;clear n0_ n1_;clear ho hb hg hat))
       go_roundg k1
       case measure => have := HK1.out; omega
       case rel => exact ⟨(y261), (wrap64 (x8_1 + 1)), (by first | rfl | (simp; done) | (simp [*]; done)), H', ⟨by have := HK1.out; omega⟩, ⟨by (with_reducible repeat (first | apply Kd.R_alloc | apply Kd.R_drewN | apply Kd.R_drew)); exact HO263.out⟩, ⟨by repeat (first | (with_reducible first | exact HB.out | apply below_alloc | apply pw_below_drewN | apply below_drew1) | exact HB.out)⟩⟩
      ·rw [if_neg c15] at H
       exact absurd H (by simp)
    ·rw [if_neg c5] at H
     exact absurd H (by simp)
   ·rw [if_neg c4] at H
    have c4b0 : decide (x8_1 < (l0.length : Int)) = false := decide_eq_false c4
    clear c4
    obtain rfl := Option.some.inj H
    go_wp2
    go_ret
    exact ⟨_, by first | rfl | (simp [errW_none, errW_some] <;> rfl) | (simp [*, errW_none, errW_some] <;> rfl), by (with_reducible repeat (first | apply Kd.R_alloc | apply Kd.R_drewN | apply Kd.R_drew)); exact HO_7.out, by repeat (first | (with_reducible first | exact HB.out | apply below_alloc | apply pw_below_drewN | apply below_drew1) | exact HB.out)⟩

end Go.Proofs.Ytepjhdblmghckaa.Q
/- Stacks and rows in plain words; the document's small functions. -/
namespace Go.Proofs.Ytepjhdblmghckaa.G
set_option linter.unusedVariables false
set_option linter.unusedSimpArgs false
set_option linter.unusedSectionVars false
open Go.Proofs.Ytepjhdblmghckaa.Q Go.Proofs.Ytepjhdblmghckaa.K Go.Proofs.Ytepjhdblmghckaa.Bf
open Go.RowKit Go.Proofs.YtepjhdblmghckaaW.PrintWords Go.Proofs.YtepjhdblmghckaaW.PrintLast Go.Proofs.YtepjhdblmghckaaW.PrintMore
/-- The numbers 1 to n, each once, with signs if sg is true. -/
structure Stk (sg : Bool) (n : Nat) (l : List Int) : Prop where
 len : l.length = n
 rng : ∀ x, x ∈ l → x ≠ 0 ∧ -(n : Int) ≤ x ∧ x ≤ n
 nd : (l.map Int.natAbs).Nodup
 pos : sg = false → ∀ x, x ∈ l → 0 < x
theorem isL_iff (sg : Bool) (n : Nat) : ∀ (l : List Int) (seen : Nat → Bool), isL sg n l seen = true ↔ (∀ x, x ∈ l → 1 ≤ absS sg n x ∧ absS sg n x ≤ n ∧ seen (absS sg n x).toNat = false) ∧ (l.map fun x => (absS sg n x).toNat).Nodup
 | [], seen => by simp [isL]
 | x :: r, seen => by
  rw [isL]
  by_cases hc : absS sg n x < 1 ∨ (n : Int) < absS sg n x ∨ seen (absS sg n x).toNat = true
  ·rw [if_pos hc]
   refine ⟨fun h => (by cases h), fun h => ?_⟩
   have := h.1 x (by simp)
   rcases hc with hc | hc | hc
   ·omega
   ·omega
   ·rw [hc] at this; exact absurd this.2.2 (by simp)
  ·rw [if_neg hc, isL_iff sg n r]
   have h1 : ¬ absS sg n x < 1 := fun h => hc (.inl h)
   have h2 : ¬ (n : Int) < absS sg n x := fun h => hc (.inr (.inl h))
   have h3 : seen (absS sg n x).toNat = false := by
    cases hq : seen (absS sg n x).toNat
    ·rfl
    ·exact absurd (.inr (.inr hq)) hc
   rw [List.map_cons, List.nodup_cons]
   constructor
   ·rintro ⟨h4, h5⟩
    refine ⟨fun y hy => ?_, fun hm => ?_, h5⟩
    ·rcases List.mem_cons.1 hy with rfl | hy
     ·exact ⟨by omega, by omega, h3⟩
     ·have := h4 y hy
      refine ⟨this.1, this.2.1, ?_⟩
      have h6 := this.2.2
      unfold upd at h6
      split at h6
      ·cases h6
      ·exact h6
    ·obtain ⟨y, hy, he⟩ := List.mem_map.1 hm
     have h6 := (h4 y hy).2.2
     rw [he] at h6
     simp [upd] at h6
   ·rintro ⟨h4, h5, h6⟩
    refine ⟨fun y hy => ?_, h6⟩
    have := h4 y (by simp [hy])
    refine ⟨this.1, this.2.1, ?_⟩
    unfold upd
    rw [if_neg (fun he => h5 (List.mem_map.2 ⟨y, hy, he⟩))]
    exact this.2.2
theorem absS_ok {sg : Bool} {n : Nat} {x : Int} : (1 ≤ absS sg n x ∧ absS sg n x ≤ n) ↔ (x ≠ 0 ∧ -(n : Int) ≤ x ∧ x ≤ n ∧ (sg = false → 0 < x)) := by
 unfold absS
 cases sg
 ·simp; omega
 ·simp only [true_and]
  split
  ·simp; omega
  ·simp; omega
theorem absS_nat {sg : Bool} {n : Nat} {x : Int} (h : x ≠ 0 ∧ -(n : Int) ≤ x ∧ x ≤ n ∧ (sg = false → 0 < x)) : (absS sg n x).toNat = x.natAbs := by
 unfold absS
 cases sg
 ·have := h.2.2.2 rfl
  simp; omega
 ·simp only [true_and]
  split <;> omega
theorem isSt_iff {sg : Bool} {most : Int} {l : List Int} : isSt sg most l = true ↔ (1 ≤ l.length ∧ (l.length : Int) ≤ most) ∧ Stk sg l.length l := by
 unfold isSt
 split
 ·rename_i h
  refine ⟨fun e => (by cases e), fun e => ?_⟩
  have := e.1
  omega
 ·rename_i h
  rw [isL_iff]
  constructor
  ·rintro ⟨h1, h2⟩
   have hr : ∀ x, x ∈ l → x ≠ 0 ∧ -(l.length : Int) ≤ x ∧ x ≤ l.length ∧ (sg = false → 0 < x) := fun x hx => absS_ok.1 ⟨(h1 x hx).1, (h1 x hx).2.1⟩
   refine ⟨by omega, ⟨rfl, fun x hx => ⟨(hr x hx).1, (hr x hx).2.1, (hr x hx).2.2.1⟩, ?_, fun hs x hx => (hr x hx).2.2.2 hs⟩⟩
   have e : l.map Int.natAbs = l.map fun x => (absS sg l.length x).toNat := List.map_congr_left (fun x hx => (absS_nat (hr x hx)).symm)
   rw [e]; exact h2
  ·rintro ⟨_, h2⟩
   have hr : ∀ x, x ∈ l → x ≠ 0 ∧ -(l.length : Int) ≤ x ∧ x ≤ l.length ∧ (sg = false → 0 < x) := fun x hx => ⟨(h2.rng x hx).1, (h2.rng x hx).2.1, (h2.rng x hx).2.2, fun hs => h2.pos hs x hx⟩
   refine ⟨fun x hx => ⟨(absS_ok.2 (hr x hx)).1, (absS_ok.2 (hr x hx)).2, rfl⟩, ?_⟩
   have e : (l.map fun x => (absS sg l.length x).toNat) = l.map Int.natAbs := List.map_congr_left (fun x hx => absS_nat (hr x hx))
   rw [e]; exact h2.nd
theorem isSt_stk {sg : Bool} {most : Int} {n : Nat} {l : List Int} (h : Stk sg n l) (h1 : 1 ≤ n) (h2 : (n : Int) ≤ most) : isSt sg most l = true := isSt_iff.2 ⟨⟨by rw [h.len]; exact h1, by rw [h.len]; exact h2⟩, by rw [h.len]; exact h⟩
theorem Stk.signed {sg : Bool} {n : Nat} {l : List Int} (h : Stk sg n l) : Stk true n l := ⟨h.len, h.rng, h.nd, fun e => by cases e⟩
/-! ### many, row, own -/
theorem many_f (a : Int) (m : Nat) (h1 : 1 ≤ m) (h2 : m ≤ 1000) : ∃ n : Nat, 1 ≤ n ∧ n ≤ m ∧ bibelotlaw07_many.f a (m : Int) = some (n : Int) := by
 have hu : IntKind.u64.wrap (m : Int) = (m : Int) := u64_small (by omega) (by omega)
 have hr : 0 ≤ Int.tmod (IntKind.u64.wrap a) (m : Int) ∧ Int.tmod (IntKind.u64.wrap a) (m : Int) < m := ⟨Int.tmod_nonneg _ (u64_nonneg a).1, Int.tmod_lt_of_pos _ (by omega)⟩
 refine ⟨(Int.tmod (IntKind.u64.wrap a) (m : Int)).toNat + 1, by omega, by omega, ?_⟩
 unfold bibelotlaw07_many.f
 rw [hu, if_neg (by omega), w64 (x := Int.tmod (IntKind.u64.wrap a) (m : Int)) (by omega) (by omega), w64 (by omega) (by omega)]
 congr 1
 omega
theorem mem_rowOf (l : List Int) (sg : Bool) : ∀ (x : Nat) (y : Int), y ∈ rowOf l sg x → y ≠ 0 ∧ -(x : Int) ≤ y ∧ y ≤ x ∧ (sg = false → 0 < y)
 | 0, y, h => by cases h
 | x + 1, y, h => by
  have ih := mem_rowOf l sg x
  have hs : rowSg l sg (x + 1) = 1 ∨ (rowSg l sg (x + 1) = -1 ∧ sg = true) := by
   unfold rowSg
   split
   ·rename_i h; exact .inr ⟨rfl, h.2.1⟩
   ·exact .inl rfl
  simp only [rowOf, List.mem_append, List.mem_singleton] at h
  rcases h with (h | h) | h
  ·have := ih y (List.mem_of_mem_take h); exact ⟨this.1, by omega, by omega, this.2.2.2⟩
  ·rcases hs with hs | ⟨hs, hg⟩
   ·rw [hs] at h; refine ⟨by omega, by omega, by omega, fun _ => by omega⟩
   ·rw [hs] at h; refine ⟨by omega, by omega, by omega, fun e => by rw [hg] at e; cases e⟩
  ·have := ih y (List.mem_of_mem_drop h); exact ⟨this.1, by omega, by omega, this.2.2.2⟩
theorem rowOf_nodup (l : List Int) (sg : Bool) : ∀ x : Nat, ((rowOf l sg x).map Int.natAbs).Nodup
 | 0 => List.nodup_nil
 | x + 1 => by
  have ih := rowOf_nodup l sg x
  have hs : (rowSg l sg (x + 1) * ((x + 1 : Nat) : Int)).natAbs = x + 1 := by
   unfold rowSg
   split <;> omega
  have hp : ((rowOf l sg (x + 1)).map Int.natAbs).Perm ((x + 1) :: (rowOf l sg x).map Int.natAbs) := by
   have h1 : (rowOf l sg (x + 1)).Perm (rowSg l sg (x + 1) * ((x + 1 : Nat) : Int) :: rowOf l sg x) := by
    simp only [rowOf]
    have e : rowOf l sg x = (rowOf l sg x).take (rowAt l (x + 1)) ++ (rowOf l sg x).drop (rowAt l (x + 1)) := (List.take_append_drop _ _).symm
    conv => rhs; rw [e]
    rw [List.append_assoc]
    exact List.perm_middle
   have h2 := h1.map Int.natAbs
   rw [List.map_cons, hs] at h2
   exact h2
  rw [hp.nodup_iff, List.nodup_cons]
  refine ⟨fun hm => ?_, ih⟩
  obtain ⟨y, hy, he⟩ := List.mem_map.1 hm
  have := mem_rowOf l sg x y hy
  omega
theorem rowOf_stk (l : List Int) (sg : Bool) (n : Nat) : Stk sg n (rowOf l sg n) :=
 ⟨rowOf_length l sg n, fun x hx => ⟨(mem_rowOf l sg n x hx).1, (mem_rowOf l sg n x hx).2.1, (mem_rowOf l sg n x hx).2.2.1⟩, rowOf_nodup l sg n, fun hs x hx => (mem_rowOf l sg n x hx).2.2.2 hs⟩
theorem row_f (l : List Int) (n : Nat) (sg : Bool) (hn : n ≤ 1000) : bibelotlaw07_row.f l (n : Int) sg = some (rowOf l sg n) := by
 unfold bibelotlaw07_row.f
 rw [if_pos (by omega), Int.toNat_natCast]
/-! ### ints -/
theorem ints_l0 (l m : List Int) (hl : l.length ≤ 1000000) (hm : l.length = m.length) : ∀ d i : Nat, i + d = l.length → Ev (fun k => bibelotlaw07_ints.l0 k l m (i : Int)) (decide (l.drop i = m.drop i))
 | 0, i, h => by
  refine Ev.step (f := fun _ => some (decide (l.drop i = m.drop i))) (fun k => ?_) (Ev.now _)
  rw [bibelotlaw07_ints.l0, if_neg (by omega), List.drop_of_length_le (by omega), List.drop_of_length_le (by omega)]
  rfl
 | d + 1, i, h => by
  have ih := ints_l0 l m hl hm d (i + 1) (by omega)
  have e1 := drop_nth l i (by omega)
  have e2 := drop_nth m i (by omega)
  by_cases he : nth l i = nth m i
  ·refine Ev.step (f := fun k => bibelotlaw07_ints.l0 k l m ((i + 1 : Nat) : Int)) (fun k => ?_) ?_
   ·rw [bibelotlaw07_ints.l0, if_pos (by omega), if_pos (by omega), if_pos (by omega), rd_nth, rd_nth, if_pos he, w64 (by omega) (by omega)]
    rfl
   ·have : decide (l.drop i = m.drop i) = decide (l.drop (i + 1) = m.drop (i + 1)) := decide_eq_decide.2 (by rw [e1, e2, List.cons.injEq]; exact ⟨fun h => h.2, fun h => ⟨he, h⟩⟩)
    rw [this]; exact ih
  ·refine Ev.step (f := fun _ => some (decide (l.drop i = m.drop i))) (fun k => ?_) (Ev.now _)
   rw [bibelotlaw07_ints.l0, if_pos (by omega), if_pos (by omega), if_pos (by omega), rd_nth, rd_nth, if_neg he, decide_eq_false (by rw [e1, e2, List.cons.injEq]; exact fun h => he h.1)]
theorem ints_ev (l m : List Int) (hl : l.length ≤ 1000000) : Ev (fun k => bibelotlaw07_ints.f k l m) (decide (l = m)) := by
 by_cases h : l.length = m.length
 ·have := ints_l0 l m hl h l.length 0 (by omega)
  refine Ev.congr (fun k => ?_) this
  unfold bibelotlaw07_ints.f
  rw [if_pos (by omega)]
  rfl
 ·rw [decide_eq_false (fun e => h (by rw [e]))]
  refine Ev.congr (fun k => ?_) (Ev.now false)
  unfold bibelotlaw07_ints.f
  rw [if_neg (by omega)]
/-! ### is a list a stack, a row? -/
theorem abs_f (x : Int) (h : -1000000000 ≤ x ∧ x ≤ 1000000000) : bibelotref07_Abs.f x = some (x.natAbs : Int) := by
 unfold bibelotref07_Abs.f mx
 rw [w64 (by omega) (by omega)]
 congr 1
 split <;> omega
theorem row_l0 (l : List Int) (n : Nat) (hn : n = l.length) (hl : n ≤ 1000000) : ∀ (d i : Nat) (seenL : List Bool) (seen : Nat → Bool), i + d = n → seenL.length = n + 1 → (∀ j, j ≤ n → seenL.getD j false = seen j) →
  Ev (fun k => bibelotref07_Row.l0 k l (n : Int) seenL (i : Int)) (isL true n (l.drop i) seen)
 | 0, i, seenL, seen, h, hs, hj => by
  refine Ev.step (f := fun _ => some (isL true n (l.drop i) seen)) (fun k => ?_) (Ev.now _)
  rw [bibelotref07_Row.l0, if_neg (by omega), List.drop_of_length_le (by omega)]
  rfl
 | d + 1, i, seenL, seen, h, hs, hj => by
  have e1 := drop_nth l i (by omega)
  rw [e1, isL]
  obtain ⟨x, hx⟩ : ∃ x, nth l i = x := ⟨_, rfl⟩
  rw [hx]
  have hwn : wrap64 (-(n : Int)) = -(n : Int) := w64 (by omega) (by omega)
  by_cases h1 : x < -(n : Int)
  ·refine Ev.step (f := fun _ => some false) (fun k => ?_) ?_
   ·rw [bibelotref07_Row.l0, if_pos (by omega), if_pos (by omega), if_pos (by omega), rd_nth, hx, hwn, if_pos h1]
   ·rw [if_pos (by left; unfold absS; rw [if_neg (by omega)]; omega)]; exact Ev.now _
  ·by_cases h2 : x > (n : Int)
   ·refine Ev.step (f := fun _ => some false) (fun k => ?_) ?_
    ·rw [bibelotref07_Row.l0, if_pos (by omega), if_pos (by omega), if_pos (by omega), rd_nth, hx, hwn, if_neg h1, if_pos h2]
    ·rw [if_pos (by right; left; unfold absS; rw [if_neg (by omega)]; omega)]; exact Ev.now _
   ·by_cases h3 : x = 0
    ·refine Ev.step (f := fun _ => some false) (fun k => ?_) ?_
     ·rw [bibelotref07_Row.l0, if_pos (by omega), if_pos (by omega), if_pos (by omega), rd_nth, hx, hwn, if_neg h1, if_neg h2, if_pos h3]
     ·rw [if_pos (by left; unfold absS; rw [if_neg (by omega)]; omega)]; exact Ev.now _
    ·have ha : (absS true n x).toNat = x.natAbs := absS_nat ⟨h3, by omega, by omega, fun e => by cases e⟩
     have hao := (absS_ok (sg := true) (n := n) (x := x)).2 ⟨h3, by omega, by omega, fun e => by cases e⟩
     have hab := abs_f x (by omega)
     have hrd : rdOf false seenL (x.natAbs : Int) = seen x.natAbs := by
      unfold rdOf
      rw [Int.toNat_natCast, hj _ (by omega)]
     by_cases h4 : seen x.natAbs = true
     ·refine Ev.step (f := fun _ => some false) (fun k => ?_) ?_
      ·rw [bibelotref07_Row.l0, if_pos (by omega), if_pos (by omega), if_pos (by omega), rd_nth, hx, hwn, if_neg h1, if_neg h2, if_neg h3, hab, Option.bind_some, if_pos (by omega), if_pos (by omega), hrd, if_pos h4]
      ·rw [if_pos (by right; right; rw [ha]; exact h4)]; exact Ev.now _
     ·refine Ev.step (f := fun k => bibelotref07_Row.l0 k l (n : Int) (seenL.set x.natAbs true) ((i + 1 : Nat) : Int)) (fun k => ?_) ?_
      ·rw [bibelotref07_Row.l0, if_pos (by omega), if_pos (by omega), if_pos (by omega), rd_nth, hx, hwn, if_neg h1, if_neg h2, if_neg h3, hab, Option.bind_some, if_pos (by omega), if_pos (by omega), hrd, if_neg h4, Option.bind_some, if_pos (by omega), if_pos (by omega), w64 (by omega) (by omega), Int.toNat_natCast]
       rfl
      ·rw [if_neg (by rintro (h | h | h) <;> first | omega | (rw [ha] at h; exact h4 h)), ha]
       refine row_l0 l n hn hl d (i + 1) _ _ (by omega) (by rw [List.length_set]; exact hs) (fun j hjn => ?_)
       unfold upd
       rw [List.getD_eq_getElem?_getD, List.getElem?_set]
       by_cases e : x.natAbs = j
       ·rw [if_pos e, if_pos (by omega), if_pos e.symm]; rfl
       ·rw [if_neg e, if_neg (fun h => e h.symm), ← List.getD_eq_getElem?_getD]; exact hj j hjn
theorem row_ev (l : List Int) (most : Int) (hl : l.length ≤ 1000000) : Ev (fun k => bibelotref07_Row.f k l most) (isSt true most l) := by
 unfold isSt
 by_cases h1 : l.length < 1
 ·rw [if_pos (.inl h1)]
  refine Ev.congr (f := fun k => bibelotref07_Row.j0 k l (l.length : Int) true) (fun k => ?_) (Ev.step (fun k => ?_) (Ev.now false))
  ·unfold bibelotref07_Row.f; rw [if_pos (by omega)]
  ·rw [bibelotref07_Row.j0, if_pos rfl]
 ·by_cases h2 : most < (l.length : Int)
  ·rw [if_pos (.inr h2)]
   refine Ev.congr (f := fun k => bibelotref07_Row.j0 k l (l.length : Int) true) (fun k => ?_) (Ev.step (fun k => ?_) (Ev.now false))
   ·unfold bibelotref07_Row.f; rw [if_neg (by omega), decide_eq_true h2]
   ·rw [bibelotref07_Row.j0, if_pos rfl]
  ·rw [if_neg (by omega)]
   refine Ev.congr (f := fun k => bibelotref07_Row.j0 k l (l.length : Int) false) (fun k => ?_) (Ev.step (fun k => ?_) (row_l0 l l.length rfl hl l.length 0 (List.replicate (l.length + 1) false) (fun _ => false) (by omega) (by simp) (fun j hj => by rw [List.getD_eq_getElem?_getD, List.getElem?_replicate]; split <;> rfl)))
   ·unfold bibelotref07_Row.f; rw [if_neg (by omega), decide_eq_false (by omega)]
   ·rw [bibelotref07_Row.j0, if_neg (by simp), w64 (by omega) (by omega), if_pos (by omega), if_pos (by omega), show ((l.length : Int) + 1).toNat = l.length + 1 by omega]
    rfl
theorem stack_l0 (l : List Int) (hl : l.length ≤ 1000000) : ∀ d i : Nat, i + d = l.length → Ev (fun k => bibelotref07_Stack.l0 k l (i : Int)) ((l.drop i).all (fun x => decide (0 < x)) && isSt true 7 l)
 | 0, i, h => by
  refine Ev.step (f := fun k => (bibelotref07_Row.f k l 7).bind fun t => some t) (fun k => ?_) ?_
  ·rw [bibelotref07_Stack.l0, if_neg (by omega)]
  ·rw [List.drop_of_length_le (by omega)]
   exact Ev.bind (row_ev l 7 hl) (Ev.now _)
 | d + 1, i, h => by
  have e1 := drop_nth l i (by omega)
  by_cases hx : nth l i < 1
  ·refine Ev.step (f := fun _ => some false) (fun k => ?_) ?_
   ·rw [bibelotref07_Stack.l0, if_pos (by omega), if_pos (by omega), rd_nth, if_pos hx]
   ·rw [e1, List.all_cons, decide_eq_false (by omega)]; exact Ev.now _
  ·refine Ev.step (f := fun k => bibelotref07_Stack.l0 k l ((i + 1 : Nat) : Int)) (fun k => ?_) ?_
   ·rw [bibelotref07_Stack.l0, if_pos (by omega), if_pos (by omega), rd_nth, if_neg hx, w64 (by omega) (by omega)]; rfl
   ·rw [e1, List.all_cons, decide_eq_true (by omega), Bool.true_and]; exact stack_l0 l hl d (i + 1) (by omega)
theorem isSt_pos (most : Int) (l : List Int) : (l.all (fun x => decide (0 < x)) && isSt true most l) = isSt false most l := by
 rw [Bool.eq_iff_iff, Bool.and_eq_true, isSt_iff, isSt_iff, List.all_eq_true]
 constructor
 ·rintro ⟨h1, h2, h3⟩
  exact ⟨h2, h3.len, h3.rng, h3.nd, fun _ x hx => by simpa using h1 x hx⟩
 ·rintro ⟨h2, h3⟩
  exact ⟨fun x hx => by simpa using h3.pos rfl x hx, h2, h3.signed⟩
theorem stack_ev (l : List Int) (hl : l.length ≤ 1000000) : Ev (fun k => bibelotref07_Stack.f k l) (isSt false 7 l) := by
 have h := stack_l0 l hl l.length 0 (by omega)
 rw [List.drop_zero, isSt_pos] at h
 exact h
/-! ### the program's checks -/
theorem chk_one (sg : Bool) (most : Int) (hm : most ≤ 40) (l : List Int) : Ev (fun k => pancake_check.f k sg most [l]) (if isSt sg most l = true then 0 else 70) := by
 have h := Ev.of (g := fun k => pancake_check.f k sg most [l]) (fun k => pancake_check.mono _ _ _ k) (chk1_f sg most hm l)
 unfold chk1 at h
 exact h
theorem check58_ev (l : List Int) : Ev (fun k => pancake_Check.f k l) (if isSt false 7 l = true then 0 else 70) := Ev.bind (chk_one false 7 (by decide) l) (Ev.now _)
theorem check59_ev (l : List Int) : Ev (fun k => pancake_CheckBurnt.f k l) (if isSt true 6 l = true then 0 else 70) := Ev.bind (chk_one true 6 (by decide) l) (Ev.now _)
theorem check55_ev (l : List Int) : Ev (fun k => pancake_CheckRow.f k l) (if isSt true 40 l = true then 0 else 70) := Ev.bind (chk_one true 40 (by decide) l) (Ev.now _)
end Go.Proofs.Ytepjhdblmghckaa.G
namespace Go.Proofs.Ytepjhdblmghckaa.G
end Go.Proofs.Ytepjhdblmghckaa.G
namespace Go.Proofs.Ytepjhdblmghckaa.Q
set_option linter.unusedVariables false
set_option linter.unusedSimpArgs false
set_option linter.unusedSectionVars false
open Go.Proofs.Ytepjhdblmghckaa.G
open Go.RowKit Go.Proofs.YtepjhdblmghckaaW.PrintWords Go.Proofs.YtepjhdblmghckaaW.PrintLast Go.Proofs.YtepjhdblmghckaaW.PrintMore
attribute [local go_sem] max2_int min2_int max_two min_two max_three min_three max_four min_four   -- for this text's walks alone

/-! ### bibelotref07_Gaps: function 31 -/
def bibelotref07_Gaps.l0 : Nat → List Int → Int → Int → Option (Int)
 | 0, _, _, _ => none
 | k + 1, x0, x3, x4 => if x4 < (x0.length : Int) then (if (wrap64 (x4 + 1)) < (x0.length : Int) then (if 0 ≤ (wrap64 (x4 + 1)) then (if 0 ≤ x4 then ((bibelotref07_Abs.f (wrap64 ((rd x0 x4) - (rd x0 (wrap64 (x4 + 1)))))).bind fun t236 => (if t236 > 1 then (bibelotref07_Gaps.l0 k x0 (wrap64 (x3 + 1)) (wrap64 (x4 + 1))) else (bibelotref07_Gaps.l0 k x0 x3 (wrap64 (x4 + 1))))) else (none)) else (none)) else (if 0 ≤ x4 then ((bibelotref07_Abs.f (wrap64 ((rd x0 x4) - (wrap64 ((x0.length : Int) + 1))))).bind fun t238 => (if t238 > 1 then (bibelotref07_Gaps.l0 k x0 (wrap64 (x3 + 1)) (wrap64 (x4 + 1))) else (bibelotref07_Gaps.l0 k x0 x3 (wrap64 (x4 + 1))))) else (none))) else (some x3)
def bibelotref07_Gaps.f (k : Nat) (l0 : List Int) : Option (Int) := bibelotref07_Gaps.l0 k l0 0 0
theorem bibelotref07_Gaps.mono_l : ∀ k, (∀ y0 y1 y2, LeO (bibelotref07_Gaps.l0 k y0 y1 y2) (bibelotref07_Gaps.l0 (k + 1) y0 y1 y2))
 | 0 => fun _ _ _ r h => by simp [bibelotref07_Gaps.l0] at h
 | k + 1 => by
  have ih0 := bibelotref07_Gaps.mono_l k
  ·intro y0 y1 y2
   unfold bibelotref07_Gaps.l0
   repeat' first
   | (with_reducible exact ih0 _ _ _)
   | (with_reducible exact LeO.refl _)
   | (with_reducible exact LeO.none _)
   | (with_reducible refine LeO.ite ?_ ?_)
   | (with_reducible refine LeO.bind ?_ (fun _ => ?_))
   | exact ih0 _ _ _
   | exact LeO.none _
   | refine LeO.ite ?_ ?_
   | refine LeO.bind ?_ (fun _ => ?_)
theorem bibelotref07_Gaps.mono : ∀ a0 k, LeO (bibelotref07_Gaps.f k a0) (bibelotref07_Gaps.f (k + 1) a0) := by
 intro a0 k
 have ih0 := bibelotref07_Gaps.mono_l k
 unfold bibelotref07_Gaps.f
 repeat' first
   | (with_reducible exact ih0 _ _ _)
   | (with_reducible exact LeO.refl _)
   | (with_reducible exact LeO.none _)
   | (with_reducible refine LeO.ite ?_ ?_)
   | (with_reducible refine LeO.bind ?_ (fun _ => ?_))
   | exact ih0 _ _ _
   | exact LeO.none _
   | refine LeO.ite ?_ ?_
   | refine LeO.bind ?_ (fun _ => ?_)
set_option maxHeartbeats 8000000 in
set_option maxRecDepth 100000 in
theorem bibelotref07_Gaps.calls (k : Nat) (A0 : Option Addr) (c0 : Nat) (l0 : List Int) (r : Int) (w : World) (hr0 : Kd.C (Kd.int .i64) w A0 l0.length l0) (hc0 : l0.length ≤ c0) (h : bibelotref07_Gaps.f k l0 = some r) :
  Calls Try.prog 31 #[.slice A0 l0.length c0] w fun e w' => e = .returned (.int .i64 r) ∧ Below w.heap.size w w' := by
 have HR0 := Aside0.mk hr0
 have HC0 := Aside0.mk hc0
 clear hr0 hc0
 have HB := Aside0.mk (Below.refl w.heap.size w)
 have H : (bibelotref07_Gaps.l0 k l0 0 0) = some r := h
 clear h
 have H' := Aside0.mk H
 clear H
 go_enter Try.func31, Try.ntmps31
 go_wp2
 go_loopg [3, 4] k (fun kq v3 v4 w' => ∃ (x3_1 : Int) (x4_1 : Int), v3 = .int .i64 x3_1 ∧ v4 = .int .i64 x4_1 ∧ Aside0 (bibelotref07_Gaps.l0 kq l0 x3_1 x4_1 = some r) ∧ Aside0 (kq ≤ k) ∧ Aside0 (Below w.heap.size w w'))
 case atStart => exact ⟨(0), (0), (by first | rfl | (simp; done) | (simp [*]; done)), (by first | rfl | (simp; done) | (simp [*]; done)), H', ⟨Nat.le_refl _⟩, ⟨by repeat (first | (with_reducible first | exact HB.out | apply below_alloc | apply pw_below_drewN | apply below_drew1) | exact HB.out)⟩⟩
 case round =>
  clear H'
  obtain ⟨x3_1, x4_1, rfl, rfl, HA, HK1, HB⟩ := hrel
  cases gk with
  | zero => exact absurd HA.out (by simp [bibelotref07_Gaps.l0])
  | succ k1 =>
   have H := HA.out
   clear HA
   simp only [bibelotref07_Gaps.l0] at H
   by_cases c2 : x4_1 < (l0.length : Int)
   ·rw [if_pos c2] at H
    have c2b0 : decide (x4_1 < (l0.length : Int)) = true := decide_eq_true c2
    clear c2
    by_cases c3 : (wrap64 (x4_1 + 1)) < (l0.length : Int)
    ·rw [if_pos c3] at H
     have c3b0 : decide ((wrap64 (x4_1 + 1)) < (l0.length : Int)) = true := decide_eq_true c3
     clear c3
     obtain ⟨ji4, hji4⟩ : ∃ j_ : Int, (wrap64 (x4_1 + 1)) = j_ := ⟨_, rfl⟩
     replace H : (if 0 ≤ (ji4) then (if 0 ≤ x4_1 then ((bibelotref07_Abs.f (wrap64 ((rd l0 x4_1) - (rd l0 (ji4))))).bind fun t236 => (if t236 > 1 then (bibelotref07_Gaps.l0 k1 l0 (wrap64 (x3_1 + 1)) ji4) else (bibelotref07_Gaps.l0 k1 l0 x3_1 ji4))) else (none)) else (none)) = some r := by first | (rw [hji4] at H; exact H) | (simp only [hji4] at H ⊢; exact H)
     (try rw [hji4] at c3b0)
     have hji4w : (IntKind.i64.wrap (x4_1 + 1)) = ji4 := (i64_w _).trans hji4
     by_cases c5 : 0 ≤ (ji4)
     ·rw [if_pos c5] at H
      have c5b0 : decide (0 ≤ (ji4)) = true := decide_eq_true c5
      clear c5
      by_cases c6 : 0 ≤ x4_1
      ·rw [if_pos c6] at H
       have c6b0 : decide (0 ≤ x4_1) = true := decide_eq_true c6
       clear c6
       replace H := Option.bind_eq_some_iff.mp H
       obtain ⟨t236, A70, H⟩ := H
       replace H : (if t236 > 1 then (bibelotref07_Gaps.l0 k1 l0 (wrap64 (x3_1 + 1)) ji4) else (bibelotref07_Gaps.l0 k1 l0 x3_1 ji4)) = some r := H
       have A7 := Aside0.mk A70
       clear A70
       by_cases c8 : t236 > 1
       ·rw [if_pos c8] at H
        have c8b0 : decide (1 < t236) = true := decide_eq_true c8
        clear c8
        have H' := Aside0.mk H
        clear H
        have p234 : 0 ≤ ((ji4) : Int) := of_decide_eq_true (by first | (with_reducible assumption) | assumption)
        have q234 : (ji4) < (l0.length : Int) := of_decide_eq_true (by first | (with_reducible assumption) | assumption)
        obtain ⟨ad234, e234, hx234_0⟩ := Kd.at_int HR0.out (ji4) p234 q234
        cases e234
        replace hx234_0 := (HB.out.cell (World.block_lt_of_cell? w _ hx234_0)).trans hx234_0
        replace p234 := eq_true p234
        replace q234 := eq_true q234
        have p235 : 0 ≤ (x4_1 : Int) := of_decide_eq_true (by first | (with_reducible assumption) | assumption)
        have q235 : x4_1 < (l0.length : Int) := of_decide_eq_true (by first | (with_reducible assumption) | assumption)
        obtain ⟨ad235, e235, hx235_0⟩ := Kd.at_int HR0.out x4_1 p235 q235
        obtain rfl : ad234 = ad235 := (by injection e235)
        replace hx235_0 := (HB.out.cell (World.block_lt_of_cell? w _ hx235_0)).trans hx235_0
        replace p235 := eq_true p235
        replace q235 := eq_true q235
        go_wp2_with (first|((with_reducible refine gate_callee (f := 40) rfl ?_);refine goesL_ (some 31) rfl rfl Try.func40 (by kernel_rfl) rfl #[.int .i64 (wrap64 ((rd l0 x4_1) - (rd l0 (ji4))))] rfl (by (try simp only [List.map_toArray, List.map_cons, List.map_nil]);first|done|(simp only [hji4];rfl)|rfl|(simp only [List.length_drop, List.length_take];rfl)) ?_;(with_reducible refine (bibelotref07_Abs.calls (wrap64 ((rd l0 x4_1) - (rd l0 (ji4)))) t236 _ A7.out).mono ?_);rintro e w9 ⟨rfl, hb⟩;refine ⟨_, rfl, ?_⟩;have n0_ := Aside0.mk (below_step (by repeat (first|(with_reducible first|exact HB.out|apply below_alloc|apply pw_below_drewN|apply below_drew1)|exact HB.out)) hb);clear HB;have HB := n0_;clear n0_;(try clear hb);(try clear hb2);(try clear hk);(try clear hi)))
        go_roundg k1
        case measure => have := HK1.out; omega
        case rel => exact ⟨(wrap64 (x3_1 + 1)), (ji4), (by first | rfl | (simp; done) | (simp [*]; done)), (by first | rfl | (simp; done) | (simp only [← hji4] <;> (first | rfl | simp)) | (simp [*]; done)), H', ⟨by have := HK1.out; omega⟩, ⟨by repeat (first | (with_reducible first | exact HB.out | apply below_alloc | apply pw_below_drewN | apply below_drew1) | exact HB.out)⟩⟩
       ·rw [if_neg c8] at H
        have c8b0 : decide (1 < t236) = false := decide_eq_false c8
        clear c8
        have H' := Aside0.mk H
        clear H
        have p234 : 0 ≤ ((ji4) : Int) := of_decide_eq_true (by first | (with_reducible assumption) | assumption)
        have q234 : (ji4) < (l0.length : Int) := of_decide_eq_true (by first | (with_reducible assumption) | assumption)
        obtain ⟨ad234, e234, hx234_0⟩ := Kd.at_int HR0.out (ji4) p234 q234
        cases e234
        replace hx234_0 := (HB.out.cell (World.block_lt_of_cell? w _ hx234_0)).trans hx234_0
        replace p234 := eq_true p234
        replace q234 := eq_true q234
        have p235 : 0 ≤ (x4_1 : Int) := of_decide_eq_true (by first | (with_reducible assumption) | assumption)
        have q235 : x4_1 < (l0.length : Int) := of_decide_eq_true (by first | (with_reducible assumption) | assumption)
        obtain ⟨ad235, e235, hx235_0⟩ := Kd.at_int HR0.out x4_1 p235 q235
        obtain rfl : ad234 = ad235 := (by injection e235)
        replace hx235_0 := (HB.out.cell (World.block_lt_of_cell? w _ hx235_0)).trans hx235_0
        replace p235 := eq_true p235
        replace q235 := eq_true q235
        go_wp2_with (first|((with_reducible refine gate_callee (f := 40) rfl ?_);refine goesL_ (some 31) rfl rfl Try.func40 (by kernel_rfl) rfl #[.int .i64 (wrap64 ((rd l0 x4_1) - (rd l0 (ji4))))] rfl (by (try simp only [List.map_toArray, List.map_cons, List.map_nil]);first|done|(simp only [hji4];rfl)|rfl|(simp only [List.length_drop, List.length_take];rfl)) ?_;(with_reducible refine (bibelotref07_Abs.calls (wrap64 ((rd l0 x4_1) - (rd l0 (ji4)))) t236 _ A7.out).mono ?_);rintro e w10 ⟨rfl, hb⟩;refine ⟨_, rfl, ?_⟩;have n0_ := Aside0.mk (below_step (by repeat (first|(with_reducible first|exact HB.out|apply below_alloc|apply pw_below_drewN|apply below_drew1)|exact HB.out)) hb);clear HB;have HB := n0_;clear n0_;(try clear hb);(try clear hb2);(try clear hk);(try clear hi)))
        go_roundg k1
        case measure => have := HK1.out; omega
        case rel => exact ⟨(x3_1), (ji4), (by first | rfl | (simp; done) | (simp [*]; done)), (by first | rfl | (simp; done) | (simp only [← hji4] <;> (first | rfl | simp)) | (simp [*]; done)), H', ⟨by have := HK1.out; omega⟩, ⟨by repeat (first | (with_reducible first | exact HB.out | apply below_alloc | apply pw_below_drewN | apply below_drew1) | exact HB.out)⟩⟩
      ·rw [if_neg c6] at H
       exact absurd H (by simp)
     ·rw [if_neg c5] at H
      exact absurd H (by simp)
    ·rw [if_neg c3] at H
     have c3b0 : decide ((wrap64 (x4_1 + 1)) < (l0.length : Int)) = false := decide_eq_false c3
     clear c3
     by_cases c11 : 0 ≤ x4_1
     ·rw [if_pos c11] at H
      have c11b0 : decide (0 ≤ x4_1) = true := decide_eq_true c11
      clear c11
      replace H := Option.bind_eq_some_iff.mp H
      obtain ⟨t238, A120, H⟩ := H
      replace H : (if t238 > 1 then (bibelotref07_Gaps.l0 k1 l0 (wrap64 (x3_1 + 1)) (wrap64 (x4_1 + 1))) else (bibelotref07_Gaps.l0 k1 l0 x3_1 (wrap64 (x4_1 + 1)))) = some r := H
      have A12 := Aside0.mk A120
      clear A120
      by_cases c13 : t238 > 1
      ·rw [if_pos c13] at H
       have c13b0 : decide (1 < t238) = true := decide_eq_true c13
       clear c13
       have H' := Aside0.mk H
       clear H
       have p237 : 0 ≤ (x4_1 : Int) := of_decide_eq_true (by first | (with_reducible assumption) | assumption)
       have q237 : x4_1 < (l0.length : Int) := of_decide_eq_true (by first | (with_reducible assumption) | assumption)
       obtain ⟨ad237, e237, hx237_0⟩ := Kd.at_int HR0.out x4_1 p237 q237
       cases e237
       replace hx237_0 := (HB.out.cell (World.block_lt_of_cell? w _ hx237_0)).trans hx237_0
       replace p237 := eq_true p237
       replace q237 := eq_true q237
       go_wp2_with (first|((with_reducible refine gate_callee (f := 40) rfl ?_);refine goesL_ (some 31) rfl rfl Try.func40 (by kernel_rfl) rfl #[.int .i64 (wrap64 ((rd l0 x4_1) - (wrap64 ((l0.length : Int) + 1))))] rfl (by (try simp only [List.map_toArray, List.map_cons, List.map_nil]);first|done|rfl|(simp only [List.length_drop, List.length_take];rfl)) ?_;(with_reducible refine (bibelotref07_Abs.calls (wrap64 ((rd l0 x4_1) - (wrap64 ((l0.length : Int) + 1)))) t238 _ A12.out).mono ?_);rintro e w14 ⟨rfl, hb⟩;refine ⟨_, rfl, ?_⟩;have n0_ := Aside0.mk (below_step (by repeat (first|(with_reducible first|exact HB.out|apply below_alloc|apply pw_below_drewN|apply below_drew1)|exact HB.out)) hb);clear HB;have HB := n0_;clear n0_;(try clear hb);(try clear hb2);(try clear hk);(try clear hi)))
       go_roundg k1
       case measure => have := HK1.out; omega
       case rel => exact ⟨(wrap64 (x3_1 + 1)), (wrap64 (x4_1 + 1)), (by first | rfl | (simp; done) | (simp [*]; done)), (by first | rfl | (simp; done) | (simp [*]; done)), H', ⟨by have := HK1.out; omega⟩, ⟨by repeat (first | (with_reducible first | exact HB.out | apply below_alloc | apply pw_below_drewN | apply below_drew1) | exact HB.out)⟩⟩
      ·rw [if_neg c13] at H
       have c13b0 : decide (1 < t238) = false := decide_eq_false c13
       clear c13
       have H' := Aside0.mk H
       clear H
       have p237 : 0 ≤ (x4_1 : Int) := of_decide_eq_true (by first | (with_reducible assumption) | assumption)
       have q237 : x4_1 < (l0.length : Int) := of_decide_eq_true (by first | (with_reducible assumption) | assumption)
       obtain ⟨ad237, e237, hx237_0⟩ := Kd.at_int HR0.out x4_1 p237 q237
       cases e237
       replace hx237_0 := (HB.out.cell (World.block_lt_of_cell? w _ hx237_0)).trans hx237_0
       replace p237 := eq_true p237
       replace q237 := eq_true q237
       go_wp2_with (first|((with_reducible refine gate_callee (f := 40) rfl ?_);refine goesL_ (some 31) rfl rfl Try.func40 (by kernel_rfl) rfl #[.int .i64 (wrap64 ((rd l0 x4_1) - (wrap64 ((l0.length : Int) + 1))))] rfl (by (try simp only [List.map_toArray, List.map_cons, List.map_nil]);first|done|rfl|(simp only [List.length_drop, List.length_take];rfl)) ?_;(with_reducible refine (bibelotref07_Abs.calls (wrap64 ((rd l0 x4_1) - (wrap64 ((l0.length : Int) + 1)))) t238 _ A12.out).mono ?_);rintro e w15 ⟨rfl, hb⟩;refine ⟨_, rfl, ?_⟩;have n0_ := Aside0.mk (below_step (by repeat (first|(with_reducible first|exact HB.out|apply below_alloc|apply pw_below_drewN|apply below_drew1)|exact HB.out)) hb);clear HB;have HB := n0_;clear n0_;(try clear hb);(try clear hb2);(try clear hk);(try clear hi)))
       go_roundg k1
       case measure => have := HK1.out; omega
       case rel => exact ⟨(x3_1), (wrap64 (x4_1 + 1)), (by first | rfl | (simp; done) | (simp [*]; done)), (by first | rfl | (simp; done) | (simp [*]; done)), H', ⟨by have := HK1.out; omega⟩, ⟨by repeat (first | (with_reducible first | exact HB.out | apply below_alloc | apply pw_below_drewN | apply below_drew1) | exact HB.out)⟩⟩
     ·rw [if_neg c11] at H
      exact absurd H (by simp)
   ·rw [if_neg c2] at H
    have c2b0 : decide (x4_1 < (l0.length : Int)) = false := decide_eq_false c2
    clear c2
    obtain rfl := Option.some.inj H
    go_wp2
    go_ret
    exact ⟨by first | rfl | (simp [errW_none, errW_some] <;> rfl) | (simp [*, errW_none, errW_some] <;> rfl), by repeat (first | (with_reducible first | exact HB.out | apply below_alloc | apply pw_below_drewN | apply below_drew1) | exact HB.out)⟩

end Go.Proofs.Ytepjhdblmghckaa.Q
namespace Go.Proofs.Ytepjhdblmghckaa.G
end Go.Proofs.Ytepjhdblmghckaa.G
namespace Go.Proofs.Ytepjhdblmghckaa.Q
set_option linter.unusedVariables false
set_option linter.unusedSimpArgs false
set_option linter.unusedSectionVars false
open Go.Proofs.Ytepjhdblmghckaa.G
open Go.RowKit Go.Proofs.YtepjhdblmghckaaW.PrintWords Go.Proofs.YtepjhdblmghckaaW.PrintLast Go.Proofs.YtepjhdblmghckaaW.PrintMore
attribute [local go_sem] max2_int min2_int max_two min_two max_three min_three max_four min_four   -- for this text's walks alone

/-! ### pancake_Flip: function 32 -/
def pancake_Flip.f (k : Nat) (l0 : List Int) (a1 : Int) : Option (List Int × Int) := (pancake_Check.f k l0).bind fun t239 => (if t239 = 0 then ((pancake_topFlipped.f l0 a1 false).bind fun bt240 => (some (bt240.1, bt240.2))) else (some (([] : List Int), t239)))
theorem pancake_Flip.mono : ∀ a0 a1 k, LeO (pancake_Flip.f k a0 a1) (pancake_Flip.f (k + 1) a0 a1) := by
 intro a0 a1 k
 unfold pancake_Flip.f
 repeat' first
   | (with_reducible exact pancake_Check.mono _ _)
   | (with_reducible exact LeO.refl _)
   | (with_reducible exact LeO.none _)
   | (with_reducible refine LeO.ite ?_ ?_)
   | (with_reducible refine LeO.bind ?_ (fun _ => ?_))
   | exact pancake_Check.mono _ _
   | exact LeO.none _
   | refine LeO.ite ?_ ?_
   | refine LeO.bind ?_ (fun _ => ?_)
set_option maxHeartbeats 8000000 in
set_option maxRecDepth 100000 in
theorem pancake_Flip.calls (k : Nat) (A0 : Option Addr) (c0 : Nat) (l0 : List Int) (a1 : Int) (r1 : List Int) (r2 : Int) (w : World) (hr0 : Kd.C (Kd.int .i64) w A0 l0.length l0) (hc0 : l0.length ≤ c0) (h : pancake_Flip.f k l0 a1 = some (r1, r2)) :
  Calls Try.prog 32 #[.slice A0 l0.length c0, .int .i64 a1] w fun e w' => ∃ v0_ : Value, e = .returned (.tuple #[v0_, .int .i64 r2]) ∧ Kd.R (Kd.int .i64) 3 w' w.heap.size (fun _ => True) v0_ r1 ∧ Below w.heap.size w w' := by
 have HR0 := Aside0.mk hr0
 have HC0 := Aside0.mk hc0
 clear hr0 hc0
 have HB := Aside0.mk (Below.refl w.heap.size w)
 have H : ((pancake_Check.f k l0).bind fun t239 => (if t239 = 0 then ((pancake_topFlipped.f l0 a1 false).bind fun bt240 => (some (bt240.1, bt240.2))) else (some (([] : List Int), t239)))) = some (r1, r2) := h
 clear h
 replace H := Option.bind_eq_some_iff.mp H
 obtain ⟨t239, A30, H⟩ := H
 replace H : (if t239 = 0 then ((pancake_topFlipped.f l0 a1 false).bind fun bt240 => (some (bt240.1, bt240.2))) else (some (([] : List Int), t239))) = some (r1, r2) := H
 have A3 := Aside0.mk A30
 clear A30
 by_cases c4 : t239 = 0
 ·rw [if_pos c4] at H
  have c4b0 : (t239 == 0) = true := beq_iff_eq.mpr c4
  have c4b1 : (t239 != 0) = false := bne_eq_false_iff_eq.mpr c4
  clear c4
  replace H := Option.bind_eq_some_iff.mp H
  obtain ⟨⟨t240, t241⟩, A50, H⟩ := H
  replace H : (some (t240, t241)) = some (r1, r2) := H
  have A5 := Aside0.mk A50
  clear A50
  simp only [Option.some.injEq, Prod.mk.injEq] at H
  obtain ⟨rfl, rfl⟩ := H
  go_enter Try.func32, Try.ntmps32
  go_wp2_with (first|((with_reducible refine gate_callee (f := 58) rfl ?_);refine goesL_ (some 8) rfl rfl Try.func58 (by kernel_rfl) rfl #[.slice A0 l0.length c0] rfl (by (try simp only [List.map_toArray, List.map_cons, List.map_nil]);first|done|rfl|(simp only [List.length_drop, List.length_take];rfl)) ?_;(with_reducible refine (pancake_Check.calls k (fun k_ => k_ < w.heap.size) _ _ l0 t239 _ ?side1 A3.out).mono ?_);(case side1 => exact Kd.V_mk HC0.out (Kd.F_below (Kd.C_F (Kd.heap_int .i64) HR0.out) (by repeat (first|(with_reducible first|exact HB.out|apply below_alloc|apply pw_below_drewN|apply below_drew1)|exact HB.out))));rintro e w6 ⟨rfl, hb⟩;refine ⟨_, rfl, ?_⟩;have n0_ := Aside0.mk (below_step (by repeat (first|(with_reducible first|exact HB.out|apply below_alloc|apply pw_below_drewN|apply below_drew1)|exact HB.out)) hb);clear HB;have HB := n0_;clear n0_;(try clear hb);(try clear hb2);(try clear hk);(try clear hi))|((with_reducible refine gate_callee (f := 71) rfl ?_);refine goesL_ (some 14) rfl rfl Try.func71 (by kernel_rfl) rfl #[.slice A0 l0.length c0, .int .i64 a1, .bool false] rfl (by (try simp only [List.map_toArray, List.map_cons, List.map_nil]);first|done|rfl|(simp only [List.length_drop, List.length_take];rfl)) ?_;(with_reducible refine (pancake_topFlipped.calls _ _ l0 a1 false t240 t241 _ ?side1 ?side2 A5.out).mono ?_);(case side1 => repeat (first|exact (Kd.C_below HR0.out HB.out)|(with_reducible refine Kd.C_alloc ?_ _)|(with_reducible refine Kd.C_drewN ?_ _)|(with_reducible refine Kd.C_drew ?_)));(case side2 => exact HC0.out);rintro e w7 ⟨v242, rfl, ho0, hb⟩;refine ⟨_, rfl, ?_⟩;have n0_ := Aside0.mk (Kd.R_lower ho0 (below_size (by repeat (first|(with_reducible first|exact HB.out|apply below_alloc|apply pw_below_drewN|apply below_drew1)|exact HB.out))));have n1_ := Aside0.mk (below_step (by repeat (first|(with_reducible first|exact HB.out|apply below_alloc|apply pw_below_drewN|apply below_drew1)|exact HB.out)) hb);clear HB;have HO243 := n0_;have HB := n1_;clear n0_ n1_;(try clear hb);(try clear hb2);(try clear hk);(try clear hi);(try clear ho0)))
  go_ret2
  exact ⟨_, by first | rfl | (simp [errW_none, errW_some] <;> rfl) | (simp [*, errW_none, errW_some] <;> rfl), by (with_reducible repeat (first | apply Kd.R_alloc | apply Kd.R_drewN | apply Kd.R_drew)); exact HO243.out, by repeat (first | (with_reducible first | exact HB.out | apply below_alloc | apply pw_below_drewN | apply below_drew1) | exact HB.out)⟩
 ·rw [if_neg c4] at H
  have c4b0 : (t239 == 0) = false := beq_eq_false_iff_ne.mpr c4
  have c4b1 : (t239 != 0) = true := bne_iff_ne.mpr c4
  simp only [Option.some.injEq, Prod.mk.injEq] at H
  obtain ⟨rfl, rfl⟩ := H
  go_enter Try.func32, Try.ntmps32
  go_wp2_with (first|((with_reducible refine gate_callee (f := 58) rfl ?_);refine goesL_ (some 8) rfl rfl Try.func58 (by kernel_rfl) rfl #[.slice A0 l0.length c0] rfl (by (try simp only [List.map_toArray, List.map_cons, List.map_nil]);first|done|rfl|(simp only [List.length_drop, List.length_take];rfl)) ?_;(with_reducible refine (pancake_Check.calls k (fun k_ => k_ < w.heap.size) _ _ l0 t239 _ ?side1 A3.out).mono ?_);(case side1 => exact Kd.V_mk HC0.out (Kd.F_below (Kd.C_F (Kd.heap_int .i64) HR0.out) (by repeat (first|(with_reducible first|exact HB.out|apply below_alloc|apply pw_below_drewN|apply below_drew1)|exact HB.out))));rintro e w8 ⟨rfl, hb⟩;refine ⟨_, rfl, ?_⟩;have n0_ := Aside0.mk (below_step (by repeat (first|(with_reducible first|exact HB.out|apply below_alloc|apply pw_below_drewN|apply below_drew1)|exact HB.out)) hb);clear HB;have HB := n0_;clear n0_;(try clear hb);(try clear hb2);(try clear hk);(try clear hi)))
  go_ret2
  exact ⟨_, by first | rfl | (simp [errW_none, errW_some] <;> rfl) | (simp [*, errW_none, errW_some] <;> rfl), by first | exact Kd.R_nil _ _ _ _ _ | exact Kd.N_nil _ _ _ _ _ | exact Kd.V_nil _ _ _ _ _ | exact Kd.Q_nil _ _ _ _ _ | exact Kd.S_nil _ _ _ _ _, by repeat (first | (with_reducible first | exact HB.out | apply below_alloc | apply pw_below_drewN | apply below_drew1) | exact HB.out)⟩

end Go.Proofs.Ytepjhdblmghckaa.Q
/- Gaps, flips, turns: the program's and the document's. -/
namespace Go.Proofs.Ytepjhdblmghckaa.G
set_option linter.unusedVariables false
set_option linter.unusedSimpArgs false
set_option linter.unusedSectionVars false
open Go.Proofs.Ytepjhdblmghckaa.Q Go.Proofs.Ytepjhdblmghckaa.K Go.Proofs.Ytepjhdblmghckaa.Bf
open Go.RowKit Go.Proofs.YtepjhdblmghckaaW.PrintWords Go.Proofs.YtepjhdblmghckaaW.PrintLast Go.Proofs.YtepjhdblmghckaaW.PrintMore
def belowOf (l : List Int) (i : Nat) : Int := if i + 1 < l.length then nth l (i + 1) else (l.length : Int) + 1
def gapAt (l : List Int) (i : Nat) : Bool := decide (1 < (belowOf l i - nth l i).natAbs)
def gapsN (l : List Int) (k : Nat) : Nat := (List.range k).countP (gapAt l)
theorem gapsN_step (l : List Int) (k : Nat) : gapsN l (k + 1) = gapsN l k + (if gapAt l k = true then 1 else 0) := by
 unfold gapsN
 rw [List.range_succ, List.countP_append, List.countP_singleton]
theorem gapsN_le (l : List Int) (k : Nat) : gapsN l k ≤ k := Nat.le_trans List.countP_le_length (by simp)
/-- Small numbers. -/
def Smalls (l : List Int) : Prop := ∀ i, -1000000 ≤ nth l i ∧ nth l i ≤ 1000000
theorem Stk.small {sg : Bool} {n : Nat} {l : List Int} (h : Stk sg n l) (hn : n ≤ 1000) : Smalls l := fun i => by
 by_cases hi : i < l.length
 ·have := h.rng (nth l i) (by unfold nth; rw [List.getD_eq_getElem?_getD, List.getElem?_eq_getElem hi]; exact List.getElem_mem hi)
  omega
 ·rw [nth_end _ _ (by omega)]; omega
theorem rgaps_l0 (l : List Int) (hl : l.length ≤ 1000) (hs : Smalls l) : ∀ d i : Nat, i + d = l.length → Ev (fun k => bibelotref07_Gaps.l0 k l (gapsN l i : Nat) (i : Int)) ((gapsN l l.length : Nat) : Int)
 | 0, i, h => by
  refine Ev.step (f := fun _ => some ((gapsN l l.length : Nat) : Int)) (fun k => ?_) (Ev.now _)
  rw [bibelotref07_Gaps.l0, if_neg (by omega), show i = l.length by omega]
 | d + 1, i, h => by
  have ih := rgaps_l0 l hl hs d (i + 1) (by omega)
  have h1 := hs i
  have h2 := hs (i + 1)
  have hg := gapsN_le l i
  have hst := gapsN_step l i
  refine Ev.step (fun k => ?_) ih
  rw [bibelotref07_Gaps.l0, if_pos (by omega), w64 (x := (i : Int) + 1) (by omega) (by omega)]
  have e1 : (i : Int) + 1 = ((i + 1 : Nat) : Int) := rfl
  by_cases hb : i + 1 < l.length
  ·have hbe : belowOf l i = nth l (i + 1) := if_pos hb
   rw [if_pos (by omega), if_pos (by omega), if_pos (by omega), e1, rd_nth, rd_nth, w64 (by omega) (by omega), abs_f _ (by omega), Option.bind_some]
   by_cases hga : gapAt l i = true
   ·rw [if_pos hga] at hst
    have : 1 < (belowOf l i - nth l i).natAbs := of_decide_eq_true hga
    rw [if_pos (by omega), w64 (by omega) (by omega), hst]
    rfl
   ·rw [if_neg hga] at hst
    have : ¬ 1 < (belowOf l i - nth l i).natAbs := fun h => hga (decide_eq_true h)
    rw [if_neg (by omega), hst]
    rfl
  ·have hbe : belowOf l i = (l.length : Int) + 1 := if_neg hb
   rw [if_neg (by omega), if_pos (by omega), rd_nth, w64 (x := (l.length : Int) + 1) (by omega) (by omega), w64 (by omega) (by omega), abs_f _ (by omega), Option.bind_some, e1]
   by_cases hga : gapAt l i = true
   ·rw [if_pos hga] at hst
    have : 1 < (belowOf l i - nth l i).natAbs := of_decide_eq_true hga
    rw [if_pos (by omega), w64 (by omega) (by omega), hst]
    rfl
   ·rw [if_neg hga] at hst
    have : ¬ 1 < (belowOf l i - nth l i).natAbs := fun h => hga (decide_eq_true h)
    rw [if_neg (by omega), hst]
    rfl
theorem rgaps_ev (l : List Int) (hl : l.length ≤ 1000) (hs : Smalls l) : Ev (fun k => bibelotref07_Gaps.f k l) ((gapsN l l.length : Nat) : Int) := rgaps_l0 l hl hs l.length 0 (by omega)
theorem pgaps_l0 (l : List Int) (hl : l.length ≤ 1000) (hs : Smalls l) : ∀ d i : Nat, i + d = l.length → Ev (fun k => pancake_Gaps.l0 k l (gapsN l i : Nat) l (l.length : Int) (i : Int)) (((gapsN l l.length : Nat) : Int), 0)
 | 0, i, h => by
  refine Ev.step (f := fun _ => some (((gapsN l l.length : Nat) : Int), 0)) (fun k => ?_) (Ev.now _)
  rw [pancake_Gaps.l0, if_neg (by omega), show i = l.length by omega]
 | d + 1, i, h => by
  have ih := pgaps_l0 l hl hs d (i + 1) (by omega)
  have h1 := hs i
  have h2 := hs (i + 1)
  have hg := gapsN_le l i
  have hst := gapsN_step l i
  refine Ev.step (fun k => ?_) ih
  rw [pancake_Gaps.l0, if_pos (by omega), if_pos (by omega), if_pos (by omega), w64 (x := (i : Int) + 1) (by omega) (by omega)]
  have e1 : (i : Int) + 1 = ((i + 1 : Nat) : Int) := rfl
  by_cases hb : i + 1 < l.length
  ·have hbe : belowOf l i = nth l (i + 1) := if_pos hb
   rw [if_pos (by omega), if_pos (by omega), e1, rd_nth, rd_nth, w64 (by omega) (by omega)]
   by_cases hga : gapAt l i = true
   ·rw [if_pos hga] at hst
    have : 1 < (belowOf l i - nth l i).natAbs := of_decide_eq_true hga
    rw [w64 (x := ((gapsN l i : Nat) : Int) + 1) (by omega) (by omega), hst]
    by_cases hp : nth l (i + 1) - nth l i > 1
    ·rw [if_pos hp]; rfl
    ·rw [if_neg hp, if_pos (by omega)]; rfl
   ·rw [if_neg hga] at hst
    have : ¬ 1 < (belowOf l i - nth l i).natAbs := fun h => hga (decide_eq_true h)
    rw [if_neg (by omega), if_neg (by omega), hst]
    rfl
  ·have hbe : belowOf l i = (l.length : Int) + 1 := if_neg hb
   rw [if_neg (by omega), rd_nth, w64 (x := (l.length : Int) + 1) (by omega) (by omega), w64 (x := (l.length : Int) + 1 - nth l i) (by omega) (by omega), e1]
   by_cases hga : gapAt l i = true
   ·rw [if_pos hga] at hst
    have : 1 < (belowOf l i - nth l i).natAbs := of_decide_eq_true hga
    rw [w64 (x := ((gapsN l i : Nat) : Int) + 1) (by omega) (by omega), hst]
    by_cases hp : (l.length : Int) + 1 - nth l i > 1
    ·rw [if_pos hp]; rfl
    ·rw [if_neg hp, if_pos (by omega)]; rfl
   ·rw [if_neg hga] at hst
    have : ¬ 1 < (belowOf l i - nth l i).natAbs := fun h => hga (decide_eq_true h)
    rw [if_neg (by omega), if_neg (by omega), hst]
    rfl
theorem pgaps_ev {l : List Int} (h : isSt false 7 l = true) : Ev (fun k => pancake_Gaps.f k l) (((gapsN l l.length : Nat) : Int), 0) := by
 have hs := isSt_iff.1 h
 have hc := check58_ev l
 rw [if_pos h] at hc
 refine Ev.bind hc (Ev.congr (fun k => ?_) (pgaps_l0 l (by omega) (hs.2.small (by omega)) l.length 0 (by omega)))
 rw [if_pos rfl]; rfl
theorem pgaps_no {l : List Int} (h : ¬ isSt false 7 l = true) : Ev (fun k => pancake_Gaps.f k l) (0, 70) := by
 have hc := check58_ev l
 rw [if_neg h] at hc
 exact Ev.bind hc (Ev.congr (fun k => by rw [if_neg (by decide)]) (Ev.now _))
theorem lst0_succ (n : Nat) (m : Nat → Int) : lst0 (n + 1) m = lst0 n m ++ [m n] := by
 unfold lst0; rw [List.range_succ, List.map_append]; rfl
theorem rflip_l0 (l : List Int) (hl : l.length ≤ 1000) (hs : Smalls l) (sg : Bool) (kk : Nat) (hk1 : 1 ≤ kk) (hk : kk ≤ l.length) : ∀ d i : Nat, i + d = l.length → Ev (fun k => bibelotref07_Flip.l0 k l (kk : Int) sg (lst0 i (fl sg (nth l) 0 kk)) (i : Int)) (lst0 l.length (fl sg (nth l) 0 kk))
 | 0, i, h => by
  refine Ev.step (f := fun _ => some (lst0 l.length (fl sg (nth l) 0 kk))) (fun k => ?_) (Ev.now _)
  rw [bibelotref07_Flip.l0, if_neg (by omega), show i = l.length by omega]
 | d + 1, i, h => by
  have ih := rflip_l0 l hl hs sg kk hk1 hk d (i + 1) (by omega)
  refine Ev.step (fun k => ?_) ih
  rw [lst0_succ, bibelotref07_Flip.l0, if_pos (by omega), if_pos (by omega), lst0_len, w64 (x := (i : Int) + 1) (by omega) (by omega)]
  by_cases hik : i < kk
  ·have e2 : (kk : Int) - 1 - (i : Int) = ((kk - 1 - i : Nat) : Int) := by omega
   have h1 := hs (kk - 1 - i)
   have e3 : 0 + kk - 1 - i = kk - 1 - i := by omega
   rw [if_pos (by omega), w64 (x := (kk : Int) - 1) (by omega) (by omega), w64 (x := (kk : Int) - 1 - (i : Int)) (by omega) (by omega), if_pos (by omega), if_pos (by omega), e2, rd_nth]
   cases sg
   ·rw [if_neg (by decide), if_pos (by omega)]
    have e4 : fl false (nth l) 0 kk i = nth l (kk - 1 - i) := by
     unfold fl rv
     rw [if_neg (by simp), if_pos ⟨Nat.zero_le _, hik⟩, e3]
    rw [e4]; rfl
   ·rw [if_pos rfl, if_pos (by omega), w64 (by omega) (by omega)]
    have e4 : fl true (nth l) 0 kk i = -(nth l (kk - 1 - i)) := by
     unfold fl rv
     rw [if_pos ⟨rfl, Nat.zero_le _, hik⟩, if_pos ⟨Nat.zero_le _, hik⟩, e3]
    rw [e4]; rfl
  ·have e4 : fl sg (nth l) 0 kk i = nth l i := by
    unfold fl rv
    rw [if_neg (fun h => hik h.2.2), if_neg (fun h => hik h.2)]
   rw [if_neg (by omega), if_pos (by omega), rd_nth, e4]
   rfl
theorem rflip_ev {l : List Int} (hl : l.length ≤ 1000) (hs : Smalls l) (sg : Bool) (kk : Nat) (hk1 : 1 ≤ kk) (hk : kk ≤ l.length) : Ev (fun k => bibelotref07_Flip.f k l (kk : Int) sg) (flL sg l 0 (kk - 1)) := by
 have h := rflip_l0 l hl hs sg kk hk1 hk l.length 0 (by omega)
 have e : flL sg l 0 (kk - 1) = lst0 l.length (fl sg (nth l) 0 kk) := by unfold flL; rw [show kk - 1 + 1 = kk by omega]
 rw [e]; exact h
theorem rturn_l0 (l : List Int) (hl : l.length ≤ 1000) (hs : Smalls l) (a b : Nat) (hab : a ≤ b) (hb : b < l.length) : ∀ d i : Nat, i + d = l.length → Ev (fun k => bibelotref07_Turn.l0 k l (a : Int) (b : Int) (lst0 i (fl true (nth l) a (b + 1))) (i : Int)) (lst0 l.length (fl true (nth l) a (b + 1)))
 | 0, i, h => by
  refine Ev.step (f := fun _ => some (lst0 l.length (fl true (nth l) a (b + 1)))) (fun k => ?_) (Ev.now _)
  rw [bibelotref07_Turn.l0, if_neg (by omega), show i = l.length by omega]
 | d + 1, i, h => by
  have ih := rturn_l0 l hl hs a b hab hb d (i + 1) (by omega)
  refine Ev.step (fun k => ?_) ih
  rw [lst0_succ, bibelotref07_Turn.l0, if_pos (by omega), if_pos (by omega), lst0_len, w64 (x := (i : Int) + 1) (by omega) (by omega)]
  by_cases hia : a ≤ i
  ·by_cases hib : i ≤ b
   ·have e2 : (a : Int) + (b : Int) - (i : Int) = ((a + b - i : Nat) : Int) := by omega
    have h1 := hs (a + b - i)
    have e3 : a + (b + 1) - 1 - i = a + b - i := by omega
    have e4 : fl true (nth l) a (b + 1) i = -(nth l (a + b - i)) := by
     unfold fl rv
     rw [if_pos ⟨rfl, hia, by omega⟩, if_pos ⟨hia, by omega⟩, e3]
    rw [if_pos (by omega), if_pos (by omega), w64 (x := (a : Int) + (b : Int)) (by omega) (by omega), w64 (x := (a : Int) + (b : Int) - (i : Int)) (by omega) (by omega), if_pos (by omega), if_pos (by omega), if_pos (by omega), e2, rd_nth, w64 (by omega) (by omega), e4]
    rfl
   ·have e4 : fl true (nth l) a (b + 1) i = nth l i := by
     unfold fl rv
     rw [if_neg (fun h => by have := h.2.2; omega), if_neg (fun h => by have := h.2; omega)]
    rw [if_pos (by omega), if_neg (by omega), if_pos (by omega), rd_nth, e4]
    rfl
  ·have e4 : fl true (nth l) a (b + 1) i = nth l i := by
    unfold fl rv
    rw [if_neg (fun h => by have := h.2.1; omega), if_neg (fun h => by have := h.1; omega)]
   rw [if_neg (by omega), if_pos (by omega), rd_nth, e4]
   rfl
theorem rturn_ev {l : List Int} (hl : l.length ≤ 1000) (hs : Smalls l) (a b : Nat) (hab : a ≤ b) (hb : b < l.length) : Ev (fun k => bibelotref07_Turn.f k l (a : Int) (b : Int)) (flL true l a b) := rturn_l0 l hl hs a b hab hb l.length 0 (by omega)
theorem small_of {sg : Bool} {n : Nat} {l : List Int} (h : Stk sg n l) (h1 : 1 ≤ n) (hn : n ≤ 40) : small l = true := by
 unfold small
 simp only [Bool.and_eq_true, decide_eq_true_eq, List.all_eq_true]
 refine ⟨⟨by rw [h.len]; omega, by rw [h.len]; omega⟩, fun x hx => ?_⟩
 have := h.rng x hx
 omega
theorem pflip_ev {n : Nat} {l : List Int} (h : Stk false n l) (h1 : 1 ≤ n) (hn : n ≤ 7) (a : Int) : Ev (fun k => pancake_Flip.f k l a) (if a < 1 ∨ (n : Int) < a then ([], 1) else (flL false l 0 (a.toNat - 1), 0)) := by
 have hc := check58_ev l
 rw [if_pos (isSt_stk h h1 (by omega))] at hc
 refine Ev.bind hc (Ev.congr (fun k => ?_) (Ev.now _))
 rw [if_pos rfl]
 unfold pancake_topFlipped.f
 rw [if_pos (small_of h h1 (by omega)), h.len]
 rfl
theorem pflipB_ev {n : Nat} {l : List Int} (h : Stk true n l) (h1 : 1 ≤ n) (hn : n ≤ 6) (a : Int) : Ev (fun k => pancake_FlipBurnt.f k l a) (if a < 1 ∨ (n : Int) < a then ([], 1) else (flL true l 0 (a.toNat - 1), 0)) := by
 have hc := check59_ev l
 rw [if_pos (isSt_stk h h1 (by omega))] at hc
 refine Ev.bind hc (Ev.congr (fun k => ?_) (Ev.now _))
 rw [if_pos rfl]
 unfold pancake_topFlipped.f
 rw [if_pos (small_of h h1 (by omega)), h.len]
 rfl
theorem awake_ev : Ev (fun _ : Nat => bibelotlaw07_awake.f) true := Ev.now true
end Go.Proofs.Ytepjhdblmghckaa.G
/- The document's codes of stacks: what they are, and that no two stacks have the same. -/
namespace Go.Proofs.Ytepjhdblmghckaa.G
set_option linter.unusedVariables false
set_option linter.unusedSimpArgs false
set_option linter.unusedSectionVars false
open Go.Proofs.Ytepjhdblmghckaa.Q Go.Proofs.Ytepjhdblmghckaa.K Go.Proofs.Ytepjhdblmghckaa.Bf
open Go.RowKit Go.Proofs.YtepjhdblmghckaaW.PrintWords Go.Proofs.YtepjhdblmghckaaW.PrintLast Go.Proofs.YtepjhdblmghckaaW.PrintMore
def lessH (x : Int) (t : List Int) : Nat := t.countP (fun y => decide (y.natAbs < x.natAbs))
theorem lessH_le (x : Int) (t : List Int) : lessH x t ≤ t.length := List.countP_le_length
theorem lessH_cons (x y : Int) (t : List Int) : lessH x (y :: t) = lessH x t + (if y.natAbs < x.natAbs then 1 else 0) := by
 unfold lessH
 rw [List.countP_cons]
 by_cases h : y.natAbs < x.natAbs <;> simp [h]
def lehm : Nat → List Int → Nat
 | c, [] => c
 | c, x :: t => lehm (c * (t.length + 1) + lessH x t) t
def sgnN : Nat → List Int → Nat
 | c, [] => c
 | c, x :: t => sgnN (2 * c + if x < 0 then 1 else 0) t
/-- The code of a stack. -/
def codeN (l : List Int) : Nat := sgnN (lehm 0 l) l
def fct : Nat → Nat
 | 0 => 1
 | k + 1 => (k + 1) * fct k
theorem fct_pos : ∀ k, 1 ≤ fct k
 | 0 => Nat.le_refl _
 | k + 1 => Nat.mul_pos (Nat.succ_pos k) (fct_pos k)
theorem fct_mono (k : Nat) : fct k ≤ fct (k + 1) := by
 show fct k ≤ (k + 1) * fct k
 exact Nat.le_mul_of_pos_left _ (Nat.succ_pos k)
theorem fct_le {k : Nat} : ∀ d, fct k ≤ fct (k + d)
 | 0 => Nat.le_refl _
 | d + 1 => Nat.le_trans (fct_le d) (fct_mono (k + d))
theorem fct7 {k : Nat} (h : k ≤ 7) : fct k ≤ 5040 := by
 have h1 := fct_le (k := k) (7 - k)
 rw [show k + (7 - k) = 7 by omega] at h1
 have h2 : fct 7 = 5040 := by decide
 omega
theorem lehm_lt : ∀ (l : List Int) (c : Nat), lehm c l + 1 ≤ (c + 1) * fct l.length
 | [], c => by simp [lehm, fct]
 | x :: t, c => by
  have ih := lehm_lt t (c * (t.length + 1) + lessH x t)
  have h1 := lessH_le x t
  have h2 : (c * (t.length + 1) + lessH x t + 1) * fct t.length ≤ ((c + 1) * (t.length + 1)) * fct t.length := Nat.mul_le_mul_right _ (by rw [Nat.succ_mul]; omega)
  rw [lehm]
  refine Nat.le_trans ih (Nat.le_trans h2 ?_)
  rw [List.length_cons, fct, Nat.mul_assoc]
  exact Nat.le_refl _
theorem sgnN_lt : ∀ (l : List Int) (c : Nat), sgnN c l + 1 ≤ (c + 1) * 2 ^ l.length
 | [], c => by simp [sgnN]
 | x :: t, c => by
  have ih := sgnN_lt t (2 * c + if x < 0 then 1 else 0)
  have h2 : (2 * c + (if x < 0 then 1 else 0) + 1) * 2 ^ t.length ≤ ((c + 1) * 2) * 2 ^ t.length := Nat.mul_le_mul_right _ (by split <;> omega)
  rw [sgnN]
  refine Nat.le_trans ih (Nat.le_trans h2 ?_)
  rw [List.length_cons, Nat.pow_succ, Nat.mul_assoc, Nat.mul_comm 2]
  exact Nat.le_refl _
theorem codeN_lt (l : List Int) : codeN l < fct l.length * 2 ^ l.length := by
 have h1 := lehm_lt l 0
 have h2 := sgnN_lt l (lehm 0 l)
 have h3 : (lehm 0 l + 1) * 2 ^ l.length ≤ fct l.length * 2 ^ l.length := Nat.mul_le_mul_right _ (by omega)
 unfold codeN
 omega
/-! ### No two have the same -/
def digs : List Int → List Nat
 | [] => []
 | x :: t => lessH x t :: digs t
theorem divmod_inj {a b m p q : Nat} (hp : p ≤ m) (hq : q ≤ m) (h : a * (m + 1) + p = b * (m + 1) + q) : a = b ∧ p = q := by
 have h1 : (a * (m + 1) + p) / (m + 1) = a := by rw [Nat.mul_comm, Nat.mul_add_div (by omega), Nat.div_eq_of_lt (by omega), Nat.add_zero]
 have h2 : (b * (m + 1) + q) / (m + 1) = b := by rw [Nat.mul_comm, Nat.mul_add_div (by omega), Nat.div_eq_of_lt (by omega), Nat.add_zero]
 rw [h] at h1
 have : a = b := h1.symm.trans h2
 subst this
 exact ⟨rfl, by omega⟩
theorem lehm_inj : ∀ (l m : List Int) (c e : Nat), l.length = m.length → lehm c l = lehm e m → c = e ∧ digs l = digs m
 | [], [], c, e, _, h => ⟨h, rfl⟩
 | x :: t, y :: u, c, e, hl, h => by
  have hl2 : t.length = u.length := by simpa using hl
  rw [lehm, lehm] at h
  obtain ⟨h1, h2⟩ := lehm_inj t u _ _ hl2 h
  rw [hl2] at h1
  have h3 := lessH_le x t
  obtain ⟨h4, h5⟩ := divmod_inj (by omega) (lessH_le y u) h1
  refine ⟨h4, ?_⟩
  rw [digs, digs, h5, h2]
 | [], y :: u, c, e, hl, h => by simp at hl
 | x :: t, [], c, e, hl, h => by simp at hl
theorem sgnN_inj : ∀ (l m : List Int) (c e : Nat), l.length = m.length → sgnN c l = sgnN e m → c = e ∧ l.map (fun x => decide (x < 0)) = m.map (fun x => decide (x < 0))
 | [], [], c, e, _, h => ⟨h, rfl⟩
 | x :: t, y :: u, c, e, hl, h => by
  rw [sgnN, sgnN] at h
  obtain ⟨h1, h2⟩ := sgnN_inj t u _ _ (by simpa using hl) h
  rw [List.map_cons, List.map_cons, h2]
  by_cases hx : x < 0 <;> by_cases hy : y < 0
  ·rw [if_pos hx, if_pos hy] at h1
   exact ⟨by omega, by rw [decide_eq_true hx, decide_eq_true hy]⟩
  ·rw [if_pos hx, if_neg hy] at h1; omega
  ·rw [if_neg hx, if_pos hy] at h1; omega
  ·rw [if_neg hx, if_neg hy] at h1
   exact ⟨by omega, by rw [decide_eq_false hx, decide_eq_false hy]⟩
 | [], y :: u, c, e, hl, h => by simp at hl
 | x :: t, [], c, e, hl, h => by simp at hl
theorem countP_lt {p q : Nat → Bool} (hpq : ∀ y, p y = true → q y = true) {x : Nat} (hp : p x = false) (hq : q x = true) : ∀ l : List Nat, x ∈ l → l.countP p < l.countP q
 | y :: l, h => by
  rw [List.countP_cons, List.countP_cons]
  rcases List.mem_cons.1 h with rfl | h
  ·have := List.countP_mono_left (p := p) (q := q) (l := l) (fun y _ => hpq y)
   rw [hp, hq]
   simp
   omega
  ·have := countP_lt hpq hp hq l h
   have h2 : (if p y = true then 1 else 0) ≤ (if q y = true then 1 else 0) := by
    by_cases h3 : p y = true
    ·rw [if_pos h3, if_pos (hpq y h3)]; exact Nat.le_refl _
    ·rw [if_neg h3]; exact Nat.zero_le _
   omega
theorem lessH_map (x : Int) (t : List Int) : lessH x t = (t.map Int.natAbs).countP (fun y => decide (y < x.natAbs)) := by
 unfold lessH
 rw [List.countP_map]; rfl
theorem digs_inj : ∀ (l m : List Int), (l.map Int.natAbs).Perm (m.map Int.natAbs) → digs l = digs m → l.map Int.natAbs = m.map Int.natAbs
 | [], [], _, _ => rfl
 | x :: t, y :: u, hp, h => by
  rw [digs, digs] at h
  injection h with h1 h2
  have e1 : lessH x t = ((x :: t).map Int.natAbs).countP (fun z => decide (z < x.natAbs)) := by rw [lessH_map, List.map_cons, List.countP_cons]; simp
  have e2 : lessH y u = ((x :: t).map Int.natAbs).countP (fun z => decide (z < y.natAbs)) := by rw [lessH_map, hp.countP_eq, List.map_cons, List.countP_cons]; simp
  have hxm : x.natAbs ∈ (x :: t).map Int.natAbs := by simp
  have hym : y.natAbs ∈ (x :: t).map Int.natAbs := hp.symm.subset (by simp)
  have hxy : x.natAbs = y.natAbs := by
   rcases Nat.lt_trichotomy x.natAbs y.natAbs with hlt | he | hlt
   ·have := countP_lt (p := fun z => decide (z < x.natAbs)) (q := fun z => decide (z < y.natAbs)) (fun z hz => by simp at hz ⊢; omega) (x := x.natAbs) (by simp) (by simpa using hlt) _ hxm
    omega
   ·exact he
   ·have := countP_lt (p := fun z => decide (z < y.natAbs)) (q := fun z => decide (z < x.natAbs)) (fun z hz => by simp at hz ⊢; omega) (x := y.natAbs) (by simp) (by simpa using hlt) _ hym
    omega
  rw [List.map_cons, List.map_cons] at hp ⊢
  rw [hxy] at hp ⊢
  rw [digs_inj t u hp.cons_inv h2]
 | [], y :: u, hp, h => by cases h
 | x :: t, [], hp, h => by cases h
theorem abs_sign : ∀ (l m : List Int), l.map Int.natAbs = m.map Int.natAbs → l.map (fun x => decide (x < 0)) = m.map (fun x => decide (x < 0)) → l = m
 | [], [], _, _ => rfl
 | x :: t, y :: u, h1, h2 => by
  rw [List.map_cons, List.map_cons] at h1 h2
  injection h1 with a1 a2
  injection h2 with b1 b2
  have : (x < 0) ↔ (y < 0) := by simpa using b1
  rw [abs_sign t u a2 b2, show x = y by omega]
 | [], y :: u, h, _ => by cases h
 | x :: t, [], h, _ => by cases h
/-- Each number from 1 to n is there. -/
theorem Stk.has {sg : Bool} {n : Nat} {l : List Int} (h : Stk sg n l) {a : Nat} (h1 : 1 ≤ a) (h2 : a ≤ n) : a ∈ l.map Int.natAbs := by
 by_cases hm : a ∈ l.map Int.natAbs
 ·exact hm
 ·have h3 := nodup_sub (a :: l.map Int.natAbs) ((List.range n).map (· + 1)) (List.nodup_cons.2 ⟨hm, h.nd⟩) (fun x hx => by
   rcases List.mem_cons.1 hx with rfl | hx
   ·exact List.mem_map.2 ⟨x - 1, List.mem_range.2 (by omega), by omega⟩
   ·obtain ⟨y, hy, rfl⟩ := List.mem_map.1 hx
    have := h.rng y hy
    exact List.mem_map.2 ⟨y.natAbs - 1, List.mem_range.2 (by omega), by omega⟩)
  simp only [List.length_cons, List.length_map, List.length_range, h.len] at h3
  omega
theorem Stk.perm {sg tg : Bool} {n : Nat} {l m : List Int} (h : Stk sg n l) (k : Stk tg n m) : (l.map Int.natAbs).Perm (m.map Int.natAbs) := by
 refine (List.perm_ext_iff_of_nodup h.nd k.nd).2 (fun a => ?_)
 constructor
 ·intro ha
  obtain ⟨y, hy, rfl⟩ := List.mem_map.1 ha
  have := h.rng y hy
  exact k.has (by omega) (by omega)
 ·intro ha
  obtain ⟨y, hy, rfl⟩ := List.mem_map.1 ha
  have := k.rng y hy
  exact h.has (by omega) (by omega)
theorem code_inj {sg tg : Bool} {n : Nat} {l m : List Int} (h : Stk sg n l) (k : Stk tg n m) (he : codeN l = codeN m) : l = m := by
 have hl : l.length = m.length := h.len.trans k.len.symm
 obtain ⟨h1, h2⟩ := sgnN_inj l m _ _ hl he
 exact abs_sign l m (digs_inj l m (h.perm k) (lehm_inj l m _ _ hl h1).2) h2
end Go.Proofs.Ytepjhdblmghckaa.G
/- Flips of stacks: they are stacks; each stack is reached from each; distances. -/
namespace Go.Proofs.Ytepjhdblmghckaa.G
set_option linter.unusedVariables false
set_option linter.unusedSimpArgs false
set_option linter.unusedSectionVars false
open Go.Proofs.Ytepjhdblmghckaa.Q Go.Proofs.Ytepjhdblmghckaa.K Go.Proofs.Ytepjhdblmghckaa.Bf
open Go.RowKit Go.Proofs.YtepjhdblmghckaaW.PrintWords Go.Proofs.YtepjhdblmghckaaW.PrintLast Go.Proofs.YtepjhdblmghckaaW.PrintMore
theorem nth_get (l : List Int) (p : Nat) (h : p < l.length) : nth l p = l[p] := by
 unfold nth; rw [List.getD_eq_getElem?_getD, List.getElem?_eq_getElem h]; rfl
theorem nth_in (l : List Int) (p : Nat) (h : p < l.length) : nth l p ∈ l := by
 rw [nth_get l p h]; exact List.getElem_mem h
theorem mem_nth {l : List Int} {x : Int} (h : x ∈ l) : ∃ p, p < l.length ∧ nth l p = x := by
 obtain ⟨p, hp, rfl⟩ := List.getElem_of_mem h
 exact ⟨p, hp, nth_get l p hp⟩
theorem stk_nth {sg : Bool} {n : Nat} {l : List Int} : Stk sg n l ↔ l.length = n ∧ (∀ p, p < n → nth l p ≠ 0 ∧ -(n : Int) ≤ nth l p ∧ nth l p ≤ n) ∧ (∀ p q, p < n → q < n → (nth l p).natAbs = (nth l q).natAbs → p = q) ∧ (sg = false → ∀ p, p < n → 0 < nth l p) := by
 constructor
 ·intro h
  refine ⟨h.len, fun p hp => h.rng _ (nth_in l p (by rw [h.len]; exact hp)), fun p q hp hq he => ?_, fun hs p hp => h.pos hs _ (nth_in l p (by rw [h.len]; exact hp))⟩
  have hnd := List.pairwise_iff_getElem.1 h.nd
  rcases Nat.lt_trichotomy p q with hlt | he2 | hlt
  ·have := hnd p q (by rw [List.length_map, h.len]; exact hp) (by rw [List.length_map, h.len]; exact hq) hlt
   rw [List.getElem_map, List.getElem_map, ← nth_get l p (by rw [h.len]; exact hp), ← nth_get l q (by rw [h.len]; exact hq)] at this
   exact absurd he this
  ·exact he2
  ·have := hnd q p (by rw [List.length_map, h.len]; exact hq) (by rw [List.length_map, h.len]; exact hp) hlt
   rw [List.getElem_map, List.getElem_map, ← nth_get l p (by rw [h.len]; exact hp), ← nth_get l q (by rw [h.len]; exact hq)] at this
   exact absurd he.symm this
 ·rintro ⟨h1, h2, h3, h4⟩
  refine ⟨h1, fun x hx => ?_, ?_, fun hs x hx => ?_⟩
  ·obtain ⟨p, hp, rfl⟩ := mem_nth hx
   exact h2 p (by omega)
  ·refine List.pairwise_iff_getElem.2 (fun p q hp hq hlt he => ?_)
   rw [List.length_map] at hp hq
   rw [List.getElem_map, List.getElem_map, ← nth_get l p hp, ← nth_get l q hq] at he
   have := h3 p q (by omega) (by omega) he
   omega
  ·obtain ⟨p, hp, rfl⟩ := mem_nth hx
   exact h4 hs p (by omega)
theorem fl_eq (sg : Bool) (m : Nat → Int) (i k p : Nat) : fl sg m i (k + 1) p = if i ≤ p ∧ p ≤ k then (if sg = true then -(m (i + k - p)) else m (i + k - p)) else m p := by
 unfold fl rv
 cases sg
 ·rw [if_neg (by simp)]
  by_cases h : i ≤ p ∧ p ≤ k
  ·rw [if_pos h, if_pos (by omega), if_neg (by decide)]; congr 1
  ·rw [if_neg h, if_neg (by omega)]
 ·by_cases h : i ≤ p ∧ p ≤ k
  ·rw [if_pos h, if_pos ⟨rfl, h.1, by omega⟩, if_pos ⟨h.1, by omega⟩, if_pos rfl]; congr 2
  ·rw [if_neg h, if_neg (fun h' => h ⟨h'.2.1, by omega⟩), if_neg (fun h' => h ⟨h'.1, by omega⟩)]
theorem flL_nth {l : List Int} (sg : Bool) (i k p : Nat) (hk : k < l.length) : nth (flL sg l i k) p = if i ≤ p ∧ p ≤ k then (if sg = true then -(nth l (i + k - p)) else nth l (i + k - p)) else nth l p := by
 rw [nth_flL sg l i k hk, fl_eq]
theorem stk_flL {sg tg : Bool} {n : Nat} {l : List Int} (h : Stk sg n l) (ht : tg = true → sg = true) (i k : Nat) (hik : i ≤ k) (hk : k < n) : Stk sg n (flL tg l i k) := by
 have hl := h.len
 obtain ⟨h1, h2, h3, h4⟩ := stk_nth.1 h
 have hab : ∀ p, (nth (flL tg l i k) p).natAbs = (nth l (if i ≤ p ∧ p ≤ k then i + k - p else p)).natAbs := fun p => by
  rw [flL_nth tg i k p (by omega)]
  by_cases hp : i ≤ p ∧ p ≤ k
  ·rw [if_pos hp, if_pos hp]
   split
   ·rw [Int.natAbs_neg]
   ·rfl
  ·rw [if_neg hp, if_neg hp]
 have hin : ∀ p, p < n → (if i ≤ p ∧ p ≤ k then i + k - p else p) < n := fun p hp => by split <;> omega
 refine stk_nth.2 ⟨by rw [flL_len, hl], fun p hp => ?_, fun p q hp hq he => ?_, fun hs p hp => ?_⟩
 ·have := h2 _ (hin p hp)
  have e := hab p
  omega
 ·rw [hab p, hab q] at he
  have := h3 _ _ (hin p hp) (hin q hq) he
  split at this <;> split at this <;> omega
 ·have htf : tg = false := by cases tg with
   | false => rfl
   | true => rw [ht rfl] at hs; cases hs
  have := h4 hs _ (hin p hp)
  rw [flL_nth tg i k p (by omega), htf]
  by_cases hpk : i ≤ p ∧ p ≤ k
  ·rw [if_pos hpk] at this ⊢; rw [if_neg (by decide)]; exact this
  ·rw [if_neg hpk] at this ⊢; exact this
theorem Stk.vs {sg : Bool} {n : Nat} {l : List Int} (h : Stk sg n l) (hn : n ≤ 7) : Vs n l := by
 refine ⟨h.len, fun j => ?_⟩
 by_cases hj : j < n
 ·have := (stk_nth.1 h).2.1 j hj; omega
 ·rw [nth_end _ _ (by rw [h.len]; omega)]; omega
theorem stk_firstL (sg : Bool) (n : Nat) : Stk sg n (firstL n) := by
 refine stk_nth.2 ⟨by simp [firstL], fun p hp => ?_, fun p q hp hq he => ?_, fun hs p hp => ?_⟩
 ·rw [nth_firstL]; unfold upTo; rw [if_pos hp]; omega
 ·rw [nth_firstL] at he; unfold upTo at he; rw [if_pos hp, if_pos hq] at he; omega
 ·rw [nth_firstL]; unfold upTo; rw [if_pos hp]; omega
/-! ### balls -/
section
variable {α : Type} [DecidableEq α] {next : α → List α}
theorem ball_cons {s y x : α} (hy : y ∈ next s) : ∀ k, x ∈ ball next y k → x ∈ ball next s (k + 1)
 | 0, h => by
  have : x = y := by simpa [ball] using h
  subst this
  exact ball_succ.2 (.inr ⟨s, by simp [ball], hy⟩)
 | k + 1, h => by
  rcases ball_succ.1 h with h | ⟨z, hz, hx⟩
  ·exact ball_mono (Nat.le_succ _) (ball_cons hy k h)
  ·exact ball_succ.2 (.inr ⟨z, ball_cons hy k hz, hx⟩)
theorem ball_trans {a b c : α} {i : Nat} (h1 : b ∈ ball next a i) : ∀ j, c ∈ ball next b j → c ∈ ball next a (i + j)
 | 0, h => by
  have : c = b := by simpa [ball] using h
  rw [this]; exact h1
 | j + 1, h => by
  rcases ball_succ.1 h with h | ⟨z, hz, hx⟩
  ·exact ball_mono (Nat.le_succ _) (ball_trans h1 j h)
  ·exact ball_succ.2 (.inr ⟨z, ball_trans h1 j hz, hx⟩)
theorem ball_exact {a b : α} : ∀ k, b ∈ ball next a k → ∃ d, d ≤ k ∧ Exact next a b d
 | 0, h => ⟨0, Nat.le_refl _, h, fun j hj => by omega⟩
 | k + 1, h => by
  by_cases hk : b ∈ ball next a k
  ·obtain ⟨d, h1, h2⟩ := ball_exact k hk
   exact ⟨d, by omega, h2⟩
  ·exact ⟨k + 1, Nat.le_refl _, h, fun j hj hj' => hk (ball_mono (by omega) hj')⟩
end
theorem ball_len {n : Nat} {sg an : Bool} {a b : List Int} (ha : a.length = n) : ∀ k, b ∈ ball (nextK n sg an) a k → b.length = n
 | 0, h => by
  have : b = a := by simpa [ball] using h
  rw [this]; exact ha
 | k + 1, h => by
  rcases ball_succ.1 h with h | ⟨z, hz, hx⟩
  ·exact ball_len ha k h
  ·obtain ⟨x, _, rfl⟩ := List.mem_map.1 hx
   rw [flL_len]; exact ball_len ha k hz
theorem ball_symm {n : Nat} {sg an : Bool} {a b : List Int} (ha : a.length = n) : ∀ k, b ∈ ball (nextK n sg an) a k → a ∈ ball (nextK n sg an) b k := by
 intro k
 induction k generalizing b with
 | zero =>
  intro h
  have : b = a := by simpa [ball] using h
  subst this
  simp [ball]
 | succ k ih =>
  intro h
  rcases ball_succ.1 h with h | ⟨z, hz, hx⟩
  ·exact ball_mono (Nat.le_succ _) (ih h)
  ·exact ball_cons (next_back (ball_len ha k hz) hx) k (ih hz)
theorem ball_stk {n : Nat} {sg an : Bool} {a b : List Int} (ha : Stk sg n a) : ∀ k, b ∈ ball (nextK n sg an) a k → Stk sg n b
 | 0, h => by
  have : b = a := by simpa [ball] using h
  rw [this]; exact ha
 | k + 1, h => by
  rcases ball_succ.1 h with h | ⟨z, hz, hx⟩
  ·exact ball_stk ha k h
  ·obtain ⟨x, hm, rfl⟩ := List.mem_map.1 hx
   have := mem_mv hm
   exact stk_flL (ball_stk ha k hz) (fun h => h) x.1 x.2 this.1 this.2.1
/-- b is reached from a. -/
def Rch (n : Nat) (sg : Bool) (a b : List Int) : Prop := ∃ k, b ∈ ball (nextK n sg false) a k
theorem Rch.refl (n : Nat) (sg : Bool) (a : List Int) : Rch n sg a a := ⟨0, by simp [ball]⟩
theorem Rch.trans {n : Nat} {sg : Bool} {a b c : List Int} (h : Rch n sg a b) (k : Rch n sg b c) : Rch n sg a c := by
 obtain ⟨i, hi⟩ := h
 obtain ⟨j, hj⟩ := k
 exact ⟨i + j, ball_trans hi j hj⟩
theorem Rch.symm {n : Nat} {sg : Bool} {a b : List Int} (ha : a.length = n) (h : Rch n sg a b) : Rch n sg b a := by
 obtain ⟨k, hk⟩ := h
 exact ⟨k, ball_symm ha k hk⟩
theorem flL_one (l : List Int) : flL false l 0 0 = l := by
 by_cases h : 0 < l.length
 ·apply List.ext_getElem (by rw [flL_len])
  intro p h1 h2
  rw [← nth_get _ p h1, ← nth_get l p h2, flL_nth false 0 0 p h]
  split
  ·rw [if_neg (by decide)]; congr 1; omega
  ·rfl
 ·have : l = [] := List.length_eq_zero_iff.1 (by omega)
  rw [this]; rfl
theorem Rch.flip {n : Nat} {sg : Bool} {l : List Int} (k : Nat) (hk : k < n) : Rch n sg l (flL sg l 0 k) := by
 by_cases h : sg = true ∨ k ≠ 0
 ·exact ⟨1, ball_succ.2 (.inr ⟨l, by simp [ball], List.mem_map.2 ⟨(0, k), mv_mem (Nat.zero_le _) hk h (.inr rfl), rfl⟩⟩)⟩
 ·have hk0 : k = 0 := by
   rcases Nat.eq_zero_or_pos k with h' | h'
   ·exact h'
   ·exact absurd (.inr (by omega)) h
  have hs : sg = false := by cases sg with
   | false => rfl
   | true => exact absurd (.inl rfl) h
  subst hk0; subst hs
  rw [flL_one]; exact Rch.refl _ _ _
theorem rch_first {n : Nat} {sg : Bool} : ∀ (m : Nat) (l : List Int), m ≤ n → Stk sg n l → (∀ p, m ≤ p → p < n → nth l p = (p : Int) + 1) → Rch n sg l (firstL n)
 | 0, l, _, h, hr => by
  have : l = firstL n := by
   apply List.ext_getElem (by rw [h.len]; simp [firstL])
   intro p h1 h2
   rw [← nth_get _ p h1, ← nth_get _ p h2, nth_firstL, hr p (Nat.zero_le _) (by rw [← h.len]; exact h1)]
   unfold upTo
   rw [if_pos (by rw [← h.len]; exact h1)]
   omega
  rw [this]; exact Rch.refl _ _ _
 | m + 1, l, hm, h, hr => by
  have hl := h.len
  obtain ⟨y, hy, he⟩ := List.mem_map.1 (h.has (a := m + 1) (by omega) hm)
  obtain ⟨p, hp, rfl⟩ := mem_nth hy
  have hpm : p ≤ m := by
   rcases Nat.lt_or_ge m p with h1 | h1
   ·have := hr p (by omega) (by omega); omega
   ·exact h1
  obtain ⟨l1, hl1⟩ : ∃ l1, flL sg l 0 p = l1 := ⟨_, rfl⟩
  have s1 : Stk sg n l1 := by rw [← hl1]; exact stk_flL h (fun h => h) 0 p (Nat.zero_le _) (by omega)
  have z1 : (nth l1 0).natAbs = m + 1 := by
   rw [← hl1, flL_nth sg 0 p 0 hp, if_pos ⟨Nat.le_refl _, Nat.zero_le _⟩]
   have e0 : 0 + p - 0 = p := by omega
   rw [e0]
   split
   ·rw [Int.natAbs_neg]; exact he
   ·exact he
  have r1 : ∀ q, m + 1 ≤ q → q < n → nth l1 q = (q : Int) + 1 := fun q h1 h2 => by
   rw [← hl1, flL_nth sg 0 p q hp, if_neg (by omega)]; exact hr q h1 h2
  have c1 : Rch n sg l l1 := by rw [← hl1]; exact Rch.flip p (by omega)
  obtain ⟨l2, s2, z2, r2, c2⟩ : ∃ l2, Stk sg n l2 ∧ nth l2 0 = (if sg = true then -((m : Int) + 1) else (m : Int) + 1) ∧ (∀ q, m + 1 ≤ q → q < n → nth l2 q = (q : Int) + 1) ∧ Rch n sg l1 l2 := by
   cases sg with
   | false =>
    refine ⟨l1, s1, ?_, r1, Rch.refl _ _ _⟩
    have := (stk_nth.1 s1).2.2.2 rfl 0 (by omega)
    rw [if_neg (by decide)]; omega
   | true =>
    rw [if_pos rfl]
    by_cases hneg : nth l1 0 < 0
    ·exact ⟨l1, s1, by omega, r1, Rch.refl _ _ _⟩
    ·refine ⟨flL true l1 0 0, stk_flL s1 (fun h => h) 0 0 (Nat.le_refl _) (by omega), ?_, fun q h1 h2 => ?_, Rch.flip 0 (by omega)⟩
     ·rw [flL_nth true 0 0 0 (by rw [s1.len]; omega), if_pos ⟨Nat.le_refl _, Nat.le_refl _⟩, if_pos rfl]
      have : nth l1 (0 + 0 - 0) = nth l1 0 := rfl
      omega
     ·rw [flL_nth true 0 0 q (by rw [s1.len]; omega), if_neg (by omega)]; exact r1 q h1 h2
  obtain ⟨l3, hl3⟩ : ∃ l3, flL sg l2 0 m = l3 := ⟨_, rfl⟩
  have s3 : Stk sg n l3 := by rw [← hl3]; exact stk_flL s2 (fun h => h) 0 m (Nat.zero_le _) (by omega)
  have c3 : Rch n sg l2 l3 := by rw [← hl3]; exact Rch.flip m (by omega)
  refine c1.trans (c2.trans (c3.trans (rch_first m l3 (by omega) s3 (fun q h1 h2 => ?_))))
  rw [← hl3, flL_nth sg 0 m q (by rw [s2.len]; omega)]
  by_cases hq : q = m
  ·subst hq
   rw [if_pos ⟨Nat.zero_le _, Nat.le_refl _⟩, show 0 + q - q = 0 by omega, z2]
   split
   ·omega
   ·rfl
  ·rw [if_neg (by omega)]; exact r2 q (by omega) h2
/-- Each stack is reached from each. -/
theorem rch_all {n : Nat} {sg : Bool} {a b : List Int} (ha : Stk sg n a) (hb : Stk sg n b) : Rch n sg a b :=
 (rch_first n a (Nat.le_refl _) ha (fun p h1 h2 => by omega)).trans ((rch_first n b (Nat.le_refl _) hb (fun p h1 h2 => by omega)).symm hb.len)
theorem gap_exact {n : Nat} (hn : n ≤ 7) {sg : Bool} {a b : List Int} (ha : Stk sg n a) (hb : Stk sg n b) : Exact (nextK n sg false) a b (gap n sg a b) := by
 have hF := bfs_fin sg false (ha.vs hn) none
 have hsm : (Sof (bfs n sg false none (15 ^ n) (ini a)).1 b).isSome = true := by
  cases hm : (bfs n sg false none (15 ^ n) (ini a)).1 b with
  | some e => unfold Sof; rw [hm]; rfl
  | none =>
   rcases hF.done with h | ⟨u, hu, _⟩
   ·obtain ⟨k, hk⟩ := rch_all ha hb
    exact absurd hk (h b hm k)
   ·cases hu
 obtain ⟨e, he⟩ := Option.isSome_iff_exists.1 hsm
 have h1 := hF.exact b e he
 have h2 := hF.found b e he
 unfold gap
 rw [h2]
 exact h1
theorem gap_eq {n : Nat} (hn : n ≤ 7) {sg : Bool} {a b : List Int} (ha : Stk sg n a) (hb : Stk sg n b) {d : Nat} (h : Exact (nextK n sg false) a b d) : gap n sg a b = d := (gap_exact hn ha hb).unique h
theorem gap_le {n : Nat} (hn : n ≤ 7) {sg : Bool} {a b : List Int} (ha : Stk sg n a) (hb : Stk sg n b) {d : Nat} (h : b ∈ ball (nextK n sg false) a d) : gap n sg a b ≤ d := by
 rcases Nat.lt_or_ge d (gap n sg a b) with h1 | h1
 ·exact absurd h ((gap_exact hn ha hb).2 d h1)
 ·exact h1
theorem gap_symm {n : Nat} (hn : n ≤ 7) {sg : Bool} {a b : List Int} (ha : Stk sg n a) (hb : Stk sg n b) : gap n sg a b = gap n sg b a :=
 Nat.le_antisymm (gap_le hn ha hb (ball_symm hb.len _ (gap_exact hn hb ha).1)) (gap_le hn hb ha (ball_symm ha.len _ (gap_exact hn ha hb).1))
theorem gap_tri {n : Nat} (hn : n ≤ 7) {sg : Bool} {a b c : List Int} (ha : Stk sg n a) (hb : Stk sg n b) (hc : Stk sg n c) : gap n sg a b ≤ gap n sg a c + gap n sg c b :=
 gap_le hn ha hb (ball_trans (gap_exact hn ha hc).1 _ (gap_exact hn hc hb).1)
theorem gap_zero {n : Nat} (hn : n ≤ 7) {sg : Bool} {a b : List Int} (ha : Stk sg n a) (hb : Stk sg n b) : gap n sg a b = 0 ↔ a = b := by
 constructor
 ·intro h
  have := (gap_exact hn ha hb).1
  rw [h] at this
  simp [ball] at this
  exact this.symm
 ·rintro rfl
  exact Nat.le_zero.1 (gap_le hn ha ha (by simp [ball]))
end Go.Proofs.Ytepjhdblmghckaa.G
/- What the search knows; the moves that order a stack; the program's Flips and Order. -/
namespace Go.Proofs.Ytepjhdblmghckaa.G
set_option linter.unusedVariables false
set_option linter.unusedSimpArgs false
set_option linter.unusedSectionVars false
open Go.Proofs.Ytepjhdblmghckaa.Q Go.Proofs.Ytepjhdblmghckaa.K Go.Proofs.Ytepjhdblmghckaa.Bf
open Go.RowKit Go.Proofs.YtepjhdblmghckaaW.PrintWords Go.Proofs.YtepjhdblmghckaaW.PrintLast Go.Proofs.YtepjhdblmghckaaW.PrintMore
theorem up1 (e : Nat) (h : e ≤ 1000000000) : wrap64 ((e : Int) + 1) = ((e + 1 : Nat) : Int) := by rw [w64 (by omega) (by omega)]; rfl
theorem firstL_succ (i : Nat) : firstL (i + 1) = firstL i ++ [((i + 1 : Nat) : Int)] := by
 unfold firstL; rw [List.range_succ, List.map_append]; rfl
theorem firstL_len (i : Nat) : (firstL i).length = i := by simp [firstL]
theorem rfirst_l0 (n : Nat) (hn : n ≤ 1000) : ∀ d i : Nat, i + d = n → Ev (fun k => bibelotref07_First.l0 k (n : Int) (firstL i) ((i + 1 : Nat) : Int)) (firstL n)
 | 0, i, h => by
  obtain rfl : i = n := h
  refine Ev.step (f := fun _ => some (firstL i)) (fun k => ?_) (Ev.now _)
  rw [bibelotref07_First.l0, if_neg (by omega)]
 | d + 1, i, h => by
  have ih := rfirst_l0 n hn d (i + 1) (by omega)
  refine Ev.step (fun k => ?_) ih
  rw [bibelotref07_First.l0, if_pos (by omega), if_pos (by rw [firstL_len]; omega), w64 (by omega) (by omega), firstL_succ]
  rfl
theorem rfirst_ev (n : Nat) (hn : n ≤ 1000) : Ev (fun k => bibelotref07_First.f k (n : Int)) (firstL n) := rfirst_l0 n hn n 0 (by omega)
theorem bfs_known {n : Nat} (hn : n ≤ 7) {sg : Bool} {s t : List Int} (hs : Stk sg n s) (ht : Stk sg n t) (U : Option (List Int)) (hU : U = none ∨ U = some t) : ∃ b, (bfs n sg false U (15 ^ n) (ini s)).1 t = some (b, gap n sg s t) := by
 have hF := bfs_fin sg false (hs.vs hn) U
 have hsm : ((bfs n sg false U (15 ^ n) (ini s)).1 t).isSome = true := by
  cases hm : (bfs n sg false U (15 ^ n) (ini s)).1 t with
  | some e => rfl
  | none =>
   rcases hF.done with h | ⟨u, hu, hq⟩
   ·obtain ⟨k, hk⟩ := rch_all hs ht
    exact absurd hk (h t hm k)
   ·rcases hU with h | h
    ·rw [h] at hu; cases hu
    ·rw [h] at hu; cases hu; rw [hm] at hq; cases hq
 obtain ⟨⟨b, e⟩, he⟩ := Option.isSome_iff_exists.1 hsm
 have h2 := hF.found t e (by unfold Sof; rw [he]; rfl)
 refine ⟨b, ?_⟩
 rw [he]
 unfold gap
 rw [h2]
/-! ### The moves that order a stack -/
theorem ord_all {n : Nat} (hn : n ≤ 7) {sg : Bool} {x : List Int} (hx : Stk sg n x) : ((knownOf n sg false x) x).isSome = true ∧ (ordL n sg false x).length = gap n sg x (firstL n) ∧ (∀ m, m ∈ ordL n sg false x → m ∈ mvL n sg false) ∧ (ordL n sg false x).foldl (fun t m => flL sg t m.1 m.2) x = firstL n := by
 obtain ⟨b, hb⟩ := bfs_known hn (stk_firstL sg n) hx (some x) (.inr rfl)
 have hF := bfs_fin sg false ((stk_firstL sg n).vs hn) (some x)
 have hkn : knownOf n sg false x x = some (b, gap n sg (firstL n) x) := hb
 have h1 := ordF_ok hF.by_ _ x b hb
 have h2 := ordF_len hF.by_ hF.exact _ x b hb
 have e : ordL n sg false x = ordF (knownOf n sg false x) n sg (gap n sg (firstL n) x).succ x := by unfold ordL; rw [hkn]; rfl
 rw [e]
 refine ⟨by rw [hkn]; rfl, ?_, h1.1, h1.2.2⟩
 rw [gap_symm hn hx (stk_firstL sg n)]
 exact h2
theorem gap_lt {n : Nat} (hn : n ≤ 7) (sg : Bool) (a b : List Int) : gap n sg a b ≤ 170859375 := by
 have := least_lt' (nextK n sg false) a b (15 ^ n)
 have h2 := p15 hn
 unfold gap
 omega
theorem chk2_ok {sg : Bool} {most : Int} {n : Nat} {x y : List Int} (hx : Stk sg n x) (hy : Stk sg n y) (h1 : 1 ≤ n) (h2 : (n : Int) ≤ most) : chk2 sg most x y = 0 := by
 unfold chk2
 rw [if_pos (isSt_stk hx h1 h2), if_pos (isSt_stk hy h1 h2), if_pos (hx.len.trans hy.len.symm)]
theorem pflips_ok {n : Nat} (hn : n ≤ 7) {x y : List Int} (hx : Stk false n x) (hy : Stk false n y) (h1 : 1 ≤ n) : pancake_Flips.f x y = some (((gap n false x y : Nat) : Int), 0) := by
 unfold pancake_Flips.f
 rw [if_pos (chk2_ok hx hy h1 (by omega)), hx.len, gap_symm hn hy hx]
theorem pflipsB_ok {n : Nat} (hn : n ≤ 6) {x y : List Int} (hx : Stk true n x) (hy : Stk true n y) (h1 : 1 ≤ n) : pancake_FlipsBurnt.f x y = some (((gap n true x y : Nat) : Int), 0) := by
 unfold pancake_FlipsBurnt.f
 rw [if_pos (chk2_ok hx hy h1 (by omega)), hx.len, gap_symm (by omega) hy hx]
theorem porder_ok {n : Nat} (hn : n ≤ 7) {x : List Int} (hx : Stk false n x) (h1 : 1 ≤ n) : pancake_Order.f x = some ((ordL n false false x).map (fun m => ((m.2 : Int) + 1)), 0) := by
 unfold pancake_Order.f
 rw [if_pos (isSt_stk hx h1 (by omega)), hx.len, if_pos (ord_all hn hx).1]
theorem porderB_ok {n : Nat} (hn : n ≤ 6) {x : List Int} (hx : Stk true n x) (h1 : 1 ≤ n) : pancake_OrderBurnt.f x = some ((ordL n true false x).map (fun m => ((m.2 : Int) + 1)), 0) := by
 unfold pancake_OrderBurnt.f
 rw [if_pos (isSt_stk hx h1 (by omega)), hx.len, if_pos (ord_all (by omega) hx).1]
end Go.Proofs.Ytepjhdblmghckaa.G
/- The document's codes: what its function reckons. -/
namespace Go.Proofs.Ytepjhdblmghckaa.G
set_option linter.unusedVariables false
set_option linter.unusedSimpArgs false
set_option linter.unusedSectionVars false
open Go.Proofs.Ytepjhdblmghckaa.Q Go.Proofs.Ytepjhdblmghckaa.K Go.Proofs.Ytepjhdblmghckaa.Bf
open Go.RowKit Go.Proofs.YtepjhdblmghckaaW.PrintWords Go.Proofs.YtepjhdblmghckaaW.PrintLast Go.Proofs.YtepjhdblmghckaaW.PrintMore
/-! ### The document's function -/
theorem code_l2 (l : List Int) (hl : l.length ≤ 7) : ∀ d i c : Nat, i + d = l.length → (c + 1) * 2 ^ d ≤ 1000000 → Ev (fun k => bibelotref07_Code.l2 k l (c : Int) (i : Int)) ((sgnN c (l.drop i) : Nat) : Int)
 | 0, i, c, h, hc => by
  refine Ev.step (f := fun _ => some ((c : Nat) : Int)) (fun k => ?_) ?_
  ·rw [bibelotref07_Code.l2, if_neg (by omega)]
  ·rw [List.drop_of_length_le (by omega)]; exact Ev.now _
 | d + 1, i, c, h, hc => by
  have hp : 1 ≤ 2 ^ d := Nat.one_le_two_pow
  have hb : (c + 1) * 2 ≤ 1000000 := by
   have : (c + 1) * 2 * 1 ≤ (c + 1) * 2 * 2 ^ d := Nat.mul_le_mul_left _ hp
   have e : (c + 1) * 2 ^ (d + 1) = (c + 1) * 2 * 2 ^ d := by rw [Nat.pow_succ, Nat.mul_assoc, Nat.mul_comm 2]
   omega
  have ih := code_l2 l hl d (i + 1) (2 * c + if nth l i < 0 then 1 else 0) (by omega) (by
   have : (2 * c + (if nth l i < 0 then 1 else 0) + 1) * 2 ^ d ≤ ((c + 1) * 2) * 2 ^ d := Nat.mul_le_mul_right _ (by split <;> omega)
   have e : (c + 1) * 2 ^ (d + 1) = (c + 1) * 2 * 2 ^ d := by rw [Nat.pow_succ, Nat.mul_assoc, Nat.mul_comm 2]
   omega)
  rw [drop_nth l i (by omega), sgnN]
  refine Ev.step (fun k => ?_) ih
  rw [bibelotref07_Code.l2, if_pos (by omega), if_pos (by omega), rd_nth, w64 (x := (i : Int) + 1) (by omega) (by omega), w64 (x := 2 * (c : Int)) (by omega) (by omega)]
  by_cases hn : nth l i < 0
  ·rw [if_pos hn, if_pos hn, w64 (by omega) (by omega)]; rfl
  ·rw [if_neg hn, if_neg hn]; rfl
theorem code_l1 {sg : Bool} {n : Nat} {l : List Int} (h : Stk sg n l) (hn : n ≤ 7) {R : Int} (i c tot : Nat) (hi : i < n) (htot : tot ≤ 7) (hc : c * (n - i) + tot ≤ 1000000)
  (hgo : Ev (fun k => bibelotref07_Code.l0 k l ((c * (n - i) + tot : Nat) : Int) ((i + 1 : Nat) : Int)) R) : ∀ d j s : Nat, j + d = n → s + lessH (nth l i) (l.drop j) = tot → Ev (fun k => bibelotref07_Code.l1 k l (c : Int) (i : Int) (s : Int) (j : Int)) R
 | 0, j, s, hj, hs => by
  have hl := h.len
  refine Ev.step (fun k => ?_) hgo
  rw [List.drop_of_length_le (by omega)] at hs
  have hs2 : s = tot := by simpa [lessH] using hs
  subst hs2
  have e1 : (l.length : Int) - (i : Int) = ((n - i : Nat) : Int) := by omega
  have e2 : (c : Int) * ((n - i : Nat) : Int) = ((c * (n - i) : Nat) : Int) := (Int.natCast_mul _ _).symm
  rw [bibelotref07_Code.l1, if_neg (by omega), w64 (x := (i : Int) + 1) (by omega) (by omega), e1, w64 (x := ((n - i : Nat) : Int)) (by omega) (by omega), e2, w64 (x := ((c * (n - i) : Nat) : Int)) (by omega) (by omega), w64 (by omega) (by omega)]
  rfl
 | d + 1, j, s, hj, hs => by
  have hl := h.len
  have hsm := h.small (by omega)
  have hj2 := hsm j
  have hi2 := hsm i
  rw [drop_nth l j (by omega), lessH_cons] at hs
  have ih := code_l1 h hn i c tot hi htot hc hgo d (j + 1) (s + if (nth l j).natAbs < (nth l i).natAbs then 1 else 0) (by omega) (by omega)
  refine Ev.step (fun k => ?_) ih
  rw [bibelotref07_Code.l1, if_pos (by omega), if_pos (by omega), rd_nth, rd_nth, abs_f _ (by omega), Option.bind_some, if_pos (by omega), if_pos (by omega), abs_f _ (by omega), Option.bind_some, w64 (x := (j : Int) + 1) (by omega) (by omega)]
  by_cases hlt : (nth l j).natAbs < (nth l i).natAbs
  ·rw [if_pos (by omega), if_pos hlt, w64 (by omega) (by omega)]; rfl
  ·rw [if_neg (by omega), if_neg hlt]; rfl
theorem code_l0 {sg : Bool} {n : Nat} {l : List Int} (h : Stk sg n l) (hn : n ≤ 7) : ∀ d i c : Nat, i + d = n → (c + 1) * fct d ≤ 5040 → Ev (fun k => bibelotref07_Code.l0 k l (c : Int) (i : Int)) ((sgnN (lehm c (l.drop i)) l : Nat) : Int)
 | 0, i, c, hi, hc => by
  have hl := h.len
  have hd : l.drop i = [] := List.drop_of_length_le (by omega)
  rw [hd, lehm]
  refine Ev.step (fun k => ?_) (code_l2 l (by omega) l.length 0 c (by omega) ?_)
  ·rw [bibelotref07_Code.l0, if_neg (by omega)]; rfl
  ·have h1 : c + 1 ≤ 5040 := by simpa [fct] using hc
   have h2 : 2 ^ l.length ≤ 2 ^ 7 := Nat.pow_le_pow_right (by decide) (by omega)
   have h3 : (c + 1) * 2 ^ l.length ≤ 5040 * 2 ^ 7 := Nat.mul_le_mul h1 h2
   omega
 | d + 1, i, c, hi, hc => by
  have hl := h.len
  have hle := lessH_le (nth l i) (l.drop (i + 1))
  rw [List.length_drop] at hle
  have e0 : (l.drop (i + 1)).length = d := by rw [List.length_drop]; omega
  have e1 : n - i = d + 1 := by omega
  have hp := fct_pos d
  have hstep : (c * (d + 1) + lessH (nth l i) (l.drop (i + 1)) + 1) * fct d ≤ 5040 := by
   have h2 : (c * (d + 1) + lessH (nth l i) (l.drop (i + 1)) + 1) * fct d ≤ ((c + 1) * (d + 1)) * fct d := Nat.mul_le_mul_right _ (by rw [Nat.succ_mul]; omega)
   rw [fct, ← Nat.mul_assoc] at hc
   omega
  have hb : c * (d + 1) + lessH (nth l i) (l.drop (i + 1)) + 1 ≤ 5040 := Nat.le_trans (Nat.le_mul_of_pos_right _ hp) hstep
  have ih := code_l0 h hn d (i + 1) (c * (d + 1) + lessH (nth l i) (l.drop (i + 1))) (by omega) hstep
  have h1 := code_l1 h hn i c (lessH (nth l i) (l.drop (i + 1))) (by omega) (by omega) (by rw [e1]; omega) (by rw [e1]; exact ih) (n - (i + 1)) (i + 1) 0 (by omega) (by omega)
  rw [drop_nth l i (by omega), lehm, e0]
  refine Ev.step (fun k => ?_) h1
  rw [bibelotref07_Code.l0, if_pos (by omega), w64 (by omega) (by omega)]
  rfl
theorem code_ev {sg : Bool} {n : Nat} {l : List Int} (h : Stk sg n l) (hn : n ≤ 7) : Ev (fun k => bibelotref07_Code.f k l) (codeN l : Int) :=
 code_l0 h hn n 0 0 (by omega) (by have := fct7 hn; omega)
end Go.Proofs.Ytepjhdblmghckaa.G
/- The table of the document's searches. -/
namespace Go.Proofs.Ytepjhdblmghckaa.G
set_option linter.unusedVariables false
set_option linter.unusedSimpArgs false
set_option linter.unusedSectionVars false
open Go.Proofs.Ytepjhdblmghckaa.Q Go.Proofs.Ytepjhdblmghckaa.K Go.Proofs.Ytepjhdblmghckaa.Bf
open Go.RowKit Go.Proofs.YtepjhdblmghckaaW.PrintWords Go.Proofs.YtepjhdblmghckaaW.PrintLast Go.Proofs.YtepjhdblmghckaaW.PrintMore
def szN : Nat → Nat
 | 0 => 1
 | k + 1 => 2 * szN k * (k + 1)
theorem szN_eq : ∀ k, szN k = fct k * 2 ^ k
 | 0 => rfl
 | k + 1 => by
  rw [szN, szN_eq k, fct, Nat.pow_succ]
  have e1 : 2 * (fct k * 2 ^ k) * (k + 1) = (k + 1) * (2 * (fct k * 2 ^ k)) := Nat.mul_comm _ _
  have e2 : 2 * (fct k * 2 ^ k) = fct k * (2 ^ k * 2) := by rw [Nat.mul_comm 2, Nat.mul_assoc]
  rw [e1, e2, Nat.mul_assoc]
theorem szN_le {k : Nat} (h : k ≤ 7) : szN k ≤ 645120 := by
 have h1 := fct7 h
 have h2 : 2 ^ k ≤ 2 ^ 7 := Nat.pow_le_pow_right (by decide) h
 have h3 := Nat.mul_le_mul h1 h2
 rw [szN_eq]
 omega
theorem code_lt_sz {sg : Bool} {n : Nat} {l : List Int} (h : Stk sg n l) : codeN l < szN n := by
 have := codeN_lt l
 rw [h.len, ← szN_eq] at this
 exact this
theorem nth_set (l : List Int) (c : Nat) (v : Int) (hc : c < l.length) (p : Nat) : nth (l.set c v) p = if p = c then v else nth l p := by
 unfold nth
 rw [List.getD_eq_getElem?_getD, List.getD_eq_getElem?_getD, List.getElem?_set]
 by_cases h : p = c
 ·subst h; rw [if_pos rfl, if_pos hc, if_pos rfl]; rfl
 ·rw [if_neg (fun e => h e.symm), if_neg h]
structure AllOk (n : Nat) (sg : Bool) (dl : List Int) (M : Km) : Prop where
 len : dl.length = szN n
 tab : ∀ t, Stk sg n t → nth dl (codeN t) = match M t with | some e => ((e.2 : Nat) : Int) | none => -1
 stk : ∀ x, (M x).isSome = true → Stk sg n x
theorem AllOk.put {n : Nat} {sg : Bool} {dl : List Int} {M : Km} (h : AllOk n sg dl M) {t : List Int} (ht : Stk sg n t) (b : Nat × Nat) (d : Nat) : AllOk n sg (dl.set (codeN t) (d : Int)) (M.put t (b, d)) := by
 have hc := code_lt_sz ht
 refine ⟨by rw [List.length_set]; exact h.len, fun u hu => ?_, fun x hx => ?_⟩
 ·rw [nth_set _ _ _ (by rw [h.len]; exact hc)]
  by_cases e : u = t
  ·subst e; rw [if_pos rfl, Km.put_same]
  ·rw [if_neg (fun h' => e (code_inj hu ht h')), Km.put_other _ _ e]; exact h.tab u hu
 ·by_cases e : x = t
  ·rw [e]; exact ht
  ·rw [Km.put_other _ _ e] at hx; exact h.stk x hx
theorem getD_mid (P : List (List Int)) (s : List Int) (q : List (List Int)) : rd_L1 (P ++ [s] ++ q) ((P.length : Nat) : Int) = s := by
 unfold rd_L1
 rw [List.append_assoc, List.getD_eq_getElem?_getD, Int.toNat_natCast, List.getElem?_append_right (Nat.le_refl _), Nat.sub_self]
 rfl
theorem stops_nil {st : Sst} (h : stops none st = true) : st.2.1 = [] := by
 unfold stops at h
 split at h
 ·assumption
 ·cases h
theorem rep_set (d : Nat) (j : Nat) : (List.replicate j (-1 : Int) ++ List.replicate (d + 1) 0).set j (-1) = List.replicate (j + 1) (-1) ++ List.replicate d 0 := by
 rw [List.set_append_right _ _ (by simp), List.length_replicate, Nat.sub_self, List.replicate_succ, List.set_cons_zero, List.replicate_succ', List.append_assoc]
 rfl
theorem szN_mono {i n : Nat} (h : i ≤ n) : szN i ≤ szN n := by
 rw [szN_eq, szN_eq]
 have h1 := fct_le (k := i) (n - i)
 rw [show i + (n - i) = n by omega] at h1
 exact Nat.mul_le_mul h1 (Nat.pow_le_pow_right (by decide) h)
end Go.Proofs.Ytepjhdblmghckaa.G
/- The document's search over turns: what it finds out. -/
namespace Go.Proofs.Ytepjhdblmghckaa.G
set_option linter.unusedVariables false
set_option linter.unusedSimpArgs false
set_option linter.unusedSectionVars false
open Go.Proofs.Ytepjhdblmghckaa.Q Go.Proofs.Ytepjhdblmghckaa.K Go.Proofs.Ytepjhdblmghckaa.Bf
open Go.RowKit Go.Proofs.YtepjhdblmghckaaW.PrintWords Go.Proofs.YtepjhdblmghckaaW.PrintLast Go.Proofs.YtepjhdblmghckaaW.PrintMore
/-- What holds while the turns of s are looked at. -/
structure InG (n : Nat) (s0 s : List Int) (c : Nat) (P0 : List (List Int)) (b0 : Nat × Nat) (e : Nat) (pre : List (Nat × Nat)) (st : Sst) : Prop where
 pm : Pm n true true s0 s pre c st
 rev : st.2.2.reverse = P0 ++ [s] ++ st.2.1
 at_ : st.1 s = some (b0, e)
theorem InG.next {n : Nat} {s0 s : List Int} {c : Nat} {P0 : List (List Int)} {b0 : Nat × Nat} {e : Nat} {pre : List (Nat × Nat)} {st : Sst} (h : InG n s0 s c P0 b0 e pre st) {m : Nat × Nat} (hm : m ∈ mvL n true true) : InG n s0 s c P0 b0 e (pre ++ [m]) (stp true s st m) := by
 refine ⟨h.pm.step hm, ?_, ?_⟩
 ·unfold stp
  split
  ·exact h.rev
  ·show (flL true s m.1 m.2 :: st.2.2).reverse = P0 ++ [s] ++ (st.2.1 ++ [flL true s m.1 m.2])
   rw [List.reverse_cons, h.rev, List.append_assoc]
 ·unfold stp
  split
  ·exact h.at_
  ·rename_i hn
   show (st.1.put (flL true s m.1 m.2) _) s = _
   rw [Km.put_other]
   ·exact h.at_
   ·intro e'
    have := h.at_
    rw [e'] at this
    rw [this] at hn
    exact hn rfl
theorem InG.count {n : Nat} (hn : n ≤ 7) {s0 s : List Int} {c : Nat} {P0 : List (List Int)} {b0 : Nat × Nat} {e : Nat} {pre : List (Nat × Nat)} {st : Sst} (h : InG n s0 s c P0 b0 e pre st) : st.2.2.length ≤ 170859375 ∧ e ≤ 170859375 := by
 have h1 := vs_count (n := n) h.pm.rm.nodup (fun x hx => h.pm.rm.v x (h.pm.rm.seen x hx))
 have h2 := p15 hn
 have h3 := h.pm.rm.deep s e (by unfold Sof; rw [h.at_]; rfl)
 omega
theorem l4_step {n : Nat} {s t : List Int} (dl : List Int) (l : List (List Int)) (i e a j : Nat) (hj : j < n) (hn : n ≤ 7) (hi : i < l.length) (hrd : rd_L1 l (i : Int) = s) (hfl : Ev (fun k => bibelotref07_Turn.f k s (a : Int) (j : Int)) t) (cd : Nat) (hcd : Ev (fun k => bibelotref07_Code.f k t) (cd : Int)) (hlt : cd < dl.length) {R : List Int}
  (hR : Ev (fun k => if rd dl (cd : Int) < 0 then (if l.length < 5864062014805 then (bibelotref07_Turns.l4 k (n : Int) (dl.set cd (wrap64 ((e : Int) + 1))) (l ++ [t]) (i : Int) (e : Int) (a : Int) ((j + 1 : Nat) : Int)) else (none)) else (bibelotref07_Turns.l4 k (n : Int) dl l (i : Int) (e : Int) (a : Int) ((j + 1 : Nat) : Int))) R) : Ev (fun k => bibelotref07_Turns.l4 k (n : Int) dl l (i : Int) (e : Int) (a : Int) (j : Int)) R := by
 have hw1 : wrap64 ((j : Int) + 1) = ((j + 1 : Nat) : Int) := up1 j (by omega)
 refine Ev.step (f := fun k => (bibelotref07_Turn.f k s (a : Int) (j : Int)).bind fun t585 => ((bibelotref07_Code.f k t585).bind fun t588 => (if 0 ≤ t588 then (if t588 < (dl.length : Int) then (if (rd dl t588) < 0 then (if l.length < 5864062014805 then (bibelotref07_Turns.l4 k (n : Int) (dl.set (t588 : Int).toNat (wrap64 ((e : Int) + 1))) (l ++ [t585]) (i : Int) (e : Int) (a : Int) ((j + 1 : Nat) : Int)) else (none)) else (bibelotref07_Turns.l4 k (n : Int) dl l (i : Int) (e : Int) (a : Int) ((j + 1 : Nat) : Int))) else (none)) else (none)))) (fun k => ?_) (Ev.bind hfl (Ev.bind hcd (Ev.congr (fun k => ?_) hR)))
 ·rw [bibelotref07_Turns.l4, if_pos (by omega), if_pos (by omega), if_pos (by omega), hrd, hw1]
 ·rw [if_pos (show (0 : Int) ≤ (cd : Int) from Int.natCast_nonneg _), if_pos (Int.ofNat_lt.2 hlt), Int.toNat_natCast]
def stM (s : List Int) (st : Sst) (pre : List (Nat × Nat)) : Sst := pre.foldl (stp true s) st
theorem stM_snoc (s : List Int) (st : Sst) (pre : List (Nat × Nat)) (m : Nat × Nat) : stM s st (pre ++ [m]) = stp true s (stM s st pre) m := by
 unfold stM; rw [List.foldl_append]; rfl
theorem mvIn_next (n i : Nat) : mvIn n true true (i + 1) = mvIn n true true i ++ mvTo true i n := by
 rw [mvIn_succ]
 unfold mvAt
 rw [if_neg (by simp)]
theorem turns_l4 {n : Nat} (hn : n ≤ 7) {s0 s : List Int} (hs : Stk true n s) {c : Nat} {P0 : List (List Int)} {b0 : Nat × Nat} {e : Nat} {Good : List Int → Prop} (st0 : Sst) (hP : P0.length ≤ 170859375) (i : Nat) (hi : i < n)
  (hgo : ∀ dl, AllOk n true dl (stM s st0 (mvIn n true true (i + 1))).1 → InG n s0 s c P0 b0 e (mvIn n true true (i + 1)) (stM s st0 (mvIn n true true (i + 1))) → ∃ R, Ev (fun k => bibelotref07_Turns.l3 k (n : Int) dl (stM s st0 (mvIn n true true (i + 1))).2.2.reverse ((P0.length : Nat) : Int) (e : Int) ((i + 1 : Nat) : Int)) R ∧ Good R) :
  ∀ (d j : Nat) (dl : List Int), j + d = n → i ≤ j → InG n s0 s c P0 b0 e (mvIn n true true i ++ mvTo true i j) (stM s st0 (mvIn n true true i ++ mvTo true i j)) → AllOk n true dl (stM s st0 (mvIn n true true i ++ mvTo true i j)).1 →
  ∃ R, Ev (fun k => bibelotref07_Turns.l4 k (n : Int) dl (stM s st0 (mvIn n true true i ++ mvTo true i j)).2.2.reverse ((P0.length : Nat) : Int) (e : Int) (i : Int) (j : Int)) R ∧ Good R
 | 0, j, dl, hj, hij, hI, hA => by
  obtain rfl : j = n := hj
  rw [← mvIn_next] at hI hA ⊢
  obtain ⟨R, h1, h2⟩ := hgo dl hA hI
  refine ⟨R, Ev.step (fun k => ?_) h1, h2⟩
  rw [bibelotref07_Turns.l4, if_neg (by omega), up1 i (by omega)]
 | d + 1, j, dl, hj, hij, hI, hA => by
  have hjn : j < n := by omega
  have hmm : ((i, j) : Nat × Nat) ∈ mvL n true true := mv_mem hij hjn (.inl rfl) (.inl rfl)
  have hnx := hI.next hmm
  have hpre : mvIn n true true i ++ mvTo true i (j + 1) = (mvIn n true true i ++ mvTo true i j) ++ [(i, j)] := by
   rw [mvTo_succ, if_pos ⟨hij, .inl rfl⟩, List.append_assoc]
  have hcn := hI.count hn
  have hsl := hs.len
  have hfl := rturn_ev (l := s) (by omega) (hs.small (by omega)) i j hij (by omega)
  obtain ⟨pre, hpr⟩ : ∃ pre, mvIn n true true i ++ mvTo true i j = pre := ⟨_, rfl⟩
  rw [hpr] at hnx hpre hcn hI hA ⊢
  have hrd : rd_L1 (stM s st0 pre).2.2.reverse ((P0.length : Nat) : Int) = s := by rw [hI.rev]; exact getD_mid _ _ _
  have hlen : P0.length < (stM s st0 pre).2.2.reverse.length := by rw [hI.rev]; simp
  obtain ⟨t, ht⟩ : ∃ t, flL true s i j = t := ⟨_, rfl⟩
  have hts : Stk true n t := by rw [← ht]; exact stk_flL hs (fun h => h) i j hij hjn
  rw [ht] at hfl
  have hcd := code_ev hts hn
  have hclt := code_lt_sz hts
  have hdl := hA.len
  have hsj := stM_snoc s st0 pre (i, j)
  have htab := hA.tab t hts
  have step := fun R => l4_step (R := R) (n := n) (s := s) (t := t) dl (stM s st0 pre).2.2.reverse P0.length e i j hjn hn hlen hrd hfl _ hcd (by rw [hdl]; exact hclt)
  rw [← hsj] at hnx
  rw [← hpre] at hnx hsj
  by_cases hm : ((stM s st0 pre).1 t).isSome = true
  ·have hge : ¬ rd dl ((codeN t : Nat) : Int) < 0 := by
    rw [rd_nth, htab]
    obtain ⟨x, hx⟩ := Option.isSome_iff_exists.1 hm
    rw [hx]
    simp
   have hsame : stM s st0 (mvIn n true true i ++ mvTo true i (j + 1)) = stM s st0 pre := by
    rw [hsj]
    unfold stp
    rw [if_pos (by rw [show flL true s (i, j).1 (i, j).2 = t from ht]; exact hm)]
   obtain ⟨R, h1, h2⟩ := turns_l4 hn hs st0 hP i hi hgo d (j + 1) dl (by omega) (by omega) hnx (by rw [hsame]; exact hA)
   refine ⟨R, step R (Ev.congr (fun k => ?_) h1), h2⟩
   rw [if_neg hge, hsame]
  ·have hmn : (stM s st0 pre).1 t = none := by
    cases hq : (stM s st0 pre).1 t with
    | none => rfl
    | some x => rw [hq] at hm; exact absurd rfl hm
   rw [hmn] at htab
   have hlt : rd dl ((codeN t : Nat) : Int) < 0 := by rw [rd_nth, htab]; exact (by decide : (-1 : Int) < 0)
   have hsn : stM s st0 (mvIn n true true i ++ mvTo true i (j + 1)) = ((stM s st0 pre).1.put t ((i, j), e + 1), (stM s st0 pre).2.1 ++ [t], t :: (stM s st0 pre).2.2) := by
    rw [hsj]
    unfold stp
    rw [show flL true s (i, j).1 (i, j).2 = t from ht, if_neg hm, hI.at_]
    rfl
   obtain ⟨R, h1, h2⟩ := turns_l4 hn hs st0 hP i hi hgo d (j + 1) (dl.set (codeN t) ((e + 1 : Nat) : Int)) (by omega) (by omega) hnx (by rw [hsn]; exact hA.put hts _ _)
   refine ⟨R, step R (Ev.congr (fun k => ?_) h1), h2⟩
   have hw2 : wrap64 ((e : Int) + 1) = ((e + 1 : Nat) : Int) := up1 e (Nat.le_trans hcn.2 (by decide))
   rw [if_pos hlt, if_pos (show (stM s st0 pre).2.2.reverse.length < 5864062014805 from by rw [List.length_reverse]; exact Nat.lt_of_le_of_lt hcn.1 (by decide)), hw2, hsn, List.reverse_cons]
theorem turns_l3 {n : Nat} (hn : n ≤ 7) {s0 s : List Int} (hs : Stk true n s) {c : Nat} {P0 : List (List Int)} {b0 : Nat × Nat} {e : Nat} {Good : List Int → Prop} (st0 : Sst) (hP : P0.length ≤ 170859375)
  (hgo : ∀ dl, AllOk n true dl (stM s st0 (mvL n true true)).1 → InG n s0 s c P0 b0 e (mvL n true true) (stM s st0 (mvL n true true)) → ∃ R, Ev (fun k => bibelotref07_Turns.l2 k (n : Int) dl (stM s st0 (mvL n true true)).2.2.reverse ((P0.length + 1 : Nat) : Int)) R ∧ Good R) :
  ∀ (d i : Nat) (dl : List Int), i + d = n → InG n s0 s c P0 b0 e (mvIn n true true i) (stM s st0 (mvIn n true true i)) → AllOk n true dl (stM s st0 (mvIn n true true i)).1 →
  ∃ R, Ev (fun k => bibelotref07_Turns.l3 k (n : Int) dl (stM s st0 (mvIn n true true i)).2.2.reverse ((P0.length : Nat) : Int) (e : Int) (i : Int)) R ∧ Good R
 | 0, i, dl, hi, hI, hA => by
  obtain rfl : i = n := hi
  obtain ⟨R, h1, h2⟩ := hgo dl hA hI
  refine ⟨R, Ev.step (fun k => ?_) h1, h2⟩
  rw [bibelotref07_Turns.l3, if_neg (by omega), up1 _ (Nat.le_trans hP (by decide))]
  rfl
 | d + 1, i, dl, hi, hI, hA => by
  have e0 : mvIn n true true i ++ mvTo true i i = mvIn n true true i := by rw [mvTo_low true i i (Nat.le_refl _), List.append_nil]
  obtain ⟨R, h1, h2⟩ := turns_l4 hn hs st0 hP i (by omega) (fun dl2 hA2 hI2 => turns_l3 hn hs st0 hP hgo d (i + 1) dl2 (by omega) hI2 hA2) (d + 1) i dl hi (Nat.le_refl _) (by rw [e0]; exact hI) (by rw [e0]; exact hA)
  rw [e0] at h1
  refine ⟨R, Ev.step (fun k => ?_) h1, h2⟩
  rw [bibelotref07_Turns.l3, if_pos (by omega)]
theorem turns_end {n : Nat} {st : Sst} {P : List (List Int)} {dl : List Int} (hA : AllOk n true dl st.1) (hr : st.2.2.reverse = P ++ st.2.1) (hq : st.2.1 = []) :
  ∃ R, Ev (fun k => bibelotref07_Turns.l2 k (n : Int) dl st.2.2.reverse ((P.length : Nat) : Int)) R ∧ AllOk n true R st.1 := by
 refine ⟨dl, Ev.step (f := fun _ => some dl) (fun k => ?_) (Ev.now _), hA⟩
 rw [hq, List.append_nil] at hr
 rw [bibelotref07_Turns.l2, if_neg (by rw [hr]; omega)]
theorem turns_l2 {n : Nat} (hn1 : 1 ≤ n) (hn : n ≤ 7) {s0 : List Int} : ∀ (F : Nat) (st : Sst) (P : List (List Int)) (dl : List Int), Pl n true true s0 st → AllOk n true dl st.1 → st.2.2.reverse = P ++ st.2.1 → stops none (bfs n true true none F st) = true →
  ∃ R, Ev (fun k => bibelotref07_Turns.l2 k (n : Int) dl st.2.2.reverse ((P.length : Nat) : Int)) R ∧ AllOk n true R (bfs n true true none F st).1
 | 0, st, P, dl, hP, hA, hr, hst => turns_end hA hr (stops_nil hst)
 | F + 1, st, P, dl, hP, hA, hr, hst => by
  obtain ⟨M, q, L⟩ := st
  cases q with
  | nil =>
   have hsp : stops none ((M, [], L) : Sst) = true := rfl
   rw [bfs_stop hsp]
   exact turns_end hA hr rfl
  | cons s q =>
   have hb : bfs n true true none (F + 1) (M, s :: q, L) = bfs n true true none F (rnd n true true (M, s :: q, L)) := by rw [bfs, if_neg (by simp [stops])]
   rw [hb] at hst ⊢
   have hR := hP.rnd.1
   have hrn : rnd n true true (M, s :: q, L) = stM s (M, q, L) (mvL n true true) := rfl
   have hsl : s ∈ L := by
    have : s ∈ L.reverse := by
     have hr' : L.reverse = P ++ s :: q := hr
     rw [hr']; simp
    simpa using this
   obtain ⟨⟨b0, e⟩, hMs⟩ := Option.isSome_iff_exists.1 (show (M s).isSome = true by
    have : (Sof M s).isSome = true := hP.rd.seen s hsl
    unfold Sof at this
    rwa [Option.isSome_map] at this)
   have hss : Stk true n s := hA.stk s (show (M s).isSome = true by rw [hMs]; rfl)
   have hcnt : L.length ≤ 170859375 := by
    have h1 := vs_count (n := n) hP.rd.nodup (fun x hx => hP.rd.v x (hP.rd.seen x hx))
    have h2 := p15 hn
    simp only at h1
    omega
   have hr' : L.reverse = P ++ [s] ++ q := by
    have : L.reverse = P ++ s :: q := hr
    rw [this, List.append_assoc]; rfl
   have hPl : P.length < L.reverse.length := by rw [hr']; simp
   have hPn : P.length ≤ 170859375 := by rw [List.length_reverse] at hPl; omega
   have hql : q.length + 1 ≤ L.length := by
    have := congrArg List.length hr'
    simp at this
    omega
   have hI : InG n s0 s (L.length - q.length) P b0 e (mvIn n true true 0) (stM s (M, q, L) (mvIn n true true 0)) := by
    refine ⟨⟨?_, hP.by_, hP.full, ?_⟩, hr', hMs⟩
    ·have := hP.rd.pop
     exact this
    ·show L.length - q.length + q.length = L.length
     omega
   obtain ⟨R, h1, h2⟩ := turns_l3 (Good := fun R => AllOk n true R (bfs n true true none F (rnd n true true (M, s :: q, L))).1) hn hss (M, q, L) hPn (fun dl2 hA2 hI2 => by
    have := turns_l2 hn1 hn F (rnd n true true (M, s :: q, L)) (P ++ [s]) dl2 hR (by rw [hrn]; exact hA2) (by rw [hrn]; exact hI2.rev) hst
    rw [← hrn]
    rw [List.length_append] at this
    exact this) n 0 dl (by omega) hI hA
   refine ⟨R, ?_, h2⟩
   have hcd := code_ev hss hn
   have hclt := code_lt_sz hss
   have hdl := hA.len
   have htab : nth dl (codeN s) = ((e : Nat) : Int) := by
    have h := hA.tab s hss
    rw [show ((M, s :: q, L) : Sst).1 s = some (b0, e) from hMs] at h
    exact h
   have hrd : rd_L1 L.reverse ((P.length : Nat) : Int) = s := by rw [hr']; exact getD_mid _ _ _
   refine Ev.step (f := fun k => (bibelotref07_Code.f k s).bind fun t582 => (if 0 ≤ t582 then (if t582 < (dl.length : Int) then (bibelotref07_Turns.l3 k (n : Int) dl L.reverse ((P.length : Nat) : Int) (rd dl t582) 0) else (none)) else (none))) (fun k => ?_) (Ev.bind hcd (Ev.congr (fun k => ?_) h1))
   ·show bibelotref07_Turns.l2 (k + 1) (n : Int) dl L.reverse ((P.length : Nat) : Int) = _
    rw [bibelotref07_Turns.l2, if_pos (by omega), if_pos (by omega), hrd]
   ·rw [if_pos (by omega), if_pos (by omega), rd_nth, htab]
    rfl
end Go.Proofs.Ytepjhdblmghckaa.G
/- The document's Turns; the moves by turns that order a row. -/
namespace Go.Proofs.Ytepjhdblmghckaa.G
set_option linter.unusedVariables false
set_option linter.unusedSimpArgs false
set_option linter.unusedSectionVars false
open Go.Proofs.Ytepjhdblmghckaa.Q Go.Proofs.Ytepjhdblmghckaa.K Go.Proofs.Ytepjhdblmghckaa.Bf
open Go.RowKit Go.Proofs.YtepjhdblmghckaaW.PrintWords Go.Proofs.YtepjhdblmghckaaW.PrintLast Go.Proofs.YtepjhdblmghckaaW.PrintMore
theorem turns_l1 {n : Nat} (hn : n ≤ 7) {R : List Int} (hgo : Ev (fun k => bibelotref07_Turns.l2 k (n : Int) ((List.replicate (szN n) (-1)).set (codeN (firstL n)) 0) [firstL n] 0) R) : ∀ d j : Nat, j + d = szN n → Ev (fun k => bibelotref07_Turns.l1 k (n : Int) ((szN n : Nat) : Int) (List.replicate j (-1) ++ List.replicate d 0) (j : Int)) R
 | 0, j, h => by
  obtain rfl : j = szN n := h
  have hs := stk_firstL true n
  have hcd := code_ev hs hn
  have hclt := code_lt_sz hs
  have hcd2 : Ev (fun k => bibelotref07_Code.f k (rd_L1 [firstL n] 0)) ((codeN (firstL n) : Nat) : Int) := hcd
  refine Ev.step (f := fun k => (bibelotref07_First.f k (n : Int)).bind fun t572 => ((some (([t572] : List (List Int)) : List (List Int))).bind fun y575 => (if 0 < (y575.length : Int) then ((bibelotref07_Code.f k (rd_L1 y575 0)).bind fun t579 => (if 0 ≤ t579 then (if t579 < (((List.replicate (szN n) (-1 : Int) ++ List.replicate 0 0).length : Nat) : Int) then (bibelotref07_Turns.l2 k (n : Int) ((List.replicate (szN n) (-1 : Int) ++ List.replicate 0 0).set (t579 : Int).toNat 0) y575 0) else (none)) else (none))) else (none)))) (fun k => ?_) (Ev.bind (rfirst_ev n (by omega)) (Ev.congr (fun k => ?_) (Ev.bind hcd2 (f := fun k t579 => (if 0 ≤ t579 then (if t579 < (((List.replicate (szN n) (-1 : Int) ++ List.replicate 0 0).length : Nat) : Int) then (bibelotref07_Turns.l2 k (n : Int) ((List.replicate (szN n) (-1 : Int) ++ List.replicate 0 0).set (t579 : Int).toNat 0) [firstL n] 0) else (none)) else (none))) (Ev.congr (fun k => ?_) hgo))))
  ·rw [bibelotref07_Turns.l1, if_neg (by omega)]
  ·rw [Option.bind_some, if_pos (show (0 : Int) < ((([firstL n] : List (List Int)).length : Nat) : Int) by simp)]
  ·rw [if_pos (Int.natCast_nonneg _), if_pos (by simp; omega), Int.toNat_natCast, List.replicate_zero, List.append_nil]
 | d + 1, j, h => by
  have ih := turns_l1 hn hgo d (j + 1) (by omega)
  have hz := szN_le hn
  refine Ev.step (fun k => ?_) ih
  rw [bibelotref07_Turns.l1, if_pos (by omega), if_pos (by omega), if_pos (by simp; omega), w64 (by omega) (by omega), Int.toNat_natCast, rep_set]
  rfl
theorem turns_l0 {n : Nat} (hn : n ≤ 7) {R : List Int} (hgo : Ev (fun k => bibelotref07_Turns.l1 k (n : Int) ((szN n : Nat) : Int) (List.replicate (szN n) 0) 0) R) : ∀ d i : Nat, i + d = n → Ev (fun k => bibelotref07_Turns.l0 k (n : Int) ((szN i : Nat) : Int) ((i + 1 : Nat) : Int)) R
 | 0, i, h => by
  obtain rfl : i = n := h
  have hz := szN_le hn
  refine Ev.step (fun k => ?_) hgo
  rw [bibelotref07_Turns.l0, if_neg (by omega), if_pos (by omega), Int.toNat_natCast, if_pos (by omega)]
 | d + 1, i, h => by
  have ih := turns_l0 hn hgo d (i + 1) (by omega)
  have hz := szN_le (k := i + 1) (by omega)
  have hz2 := szN_le (k := i) (by omega)
  refine Ev.step (fun k => ?_) ih
  have e1 : 2 * ((szN i : Nat) : Int) = ((2 * szN i : Nat) : Int) := by omega
  have e2 : ((2 * szN i : Nat) : Int) * ((i + 1 : Nat) : Int) = ((szN (i + 1) : Nat) : Int) := (Int.natCast_mul _ _).symm
  rw [bibelotref07_Turns.l0, if_pos (by omega), w64 (x := 2 * ((szN i : Nat) : Int)) (by omega) (by omega), e1, e2, w64 (by omega) (by omega), w64 (by omega) (by omega)]
  rfl
theorem rturns_ev {n : Nat} (hn1 : 1 ≤ n) (hn : n ≤ 7) : ∃ R : List Int, Ev (fun k => bibelotref07_Turns.f k (n : Int)) R ∧ AllOk n true R (bfs n true true none (15 ^ n) (ini (firstL n))).1 := by
 have hs := stk_firstL true n
 have hpl := Pl.begin true true (hs.vs hn)
 have hst := bfs_stops (U := none) (15 ^ n) _ hpl (Nat.le_add_left _ _)
 have hA : AllOk n true ((List.replicate (szN n) (-1)).set (codeN (firstL n)) 0) (ini (firstL n)).1 := by
  have h0 : AllOk n true (List.replicate (szN n) (-1)) (fun _ => none) := by
   refine ⟨by simp, fun t ht => ?_, fun x hx => (by cases hx)⟩
   have := code_lt_sz ht
   show nth _ _ = -1
   unfold nth
   rw [List.getD_eq_getElem?_getD, List.getElem?_replicate, if_pos this]; rfl
  exact h0.put hs (0, 0) 0
 obtain ⟨R, h1, h2⟩ := turns_l2 hn1 hn (15 ^ n) (ini (firstL n)) [] _ hpl hA rfl hst
 refine ⟨R, ?_, h2⟩
 have h3 := turns_l1 hn h1 (szN n) 0 (by omega)
 exact turns_l0 hn h3 n 0 (by omega)
/-- The least number of turns. -/
def gapT (n : Nat) (a b : List Int) : Nat := least (nextK n true true) a b (15 ^ n + 1)
theorem ball_an {n : Nat} {a b : List Int} : ∀ k, b ∈ ball (nextK n true false) a k → b ∈ ball (nextK n true true) a k
 | 0, h => h
 | k + 1, h => by
  rcases ball_succ.1 h with h | ⟨z, hz, hx⟩
  ·exact ball_mono (Nat.le_succ _) (ball_an k h)
  ·obtain ⟨m, hm, rfl⟩ := List.mem_map.1 hx
   have hmv := mem_mv hm
   exact ball_succ.2 (.inr ⟨z, ball_an k hz, List.mem_map.2 ⟨m, mv_mem hmv.1 hmv.2.1 (.inl rfl) (.inl rfl), rfl⟩⟩)
theorem bfs_knownT {n : Nat} (hn : n ≤ 7) {s t : List Int} (hs : Stk true n s) (ht : Stk true n t) (U : Option (List Int)) (hU : U = none ∨ U = some t) : ∃ b, (bfs n true true U (15 ^ n) (ini s)).1 t = some (b, gapT n s t) := by
 have hF := bfs_fin true true (hs.vs hn) U
 have hsm : ((bfs n true true U (15 ^ n) (ini s)).1 t).isSome = true := by
  cases hm : (bfs n true true U (15 ^ n) (ini s)).1 t with
  | some e => rfl
  | none =>
   rcases hF.done with h | ⟨u, hu, hq⟩
   ·obtain ⟨k, hk⟩ := rch_all hs ht
    exact absurd (ball_an k hk) (h t hm k)
   ·rcases hU with h | h
    ·rw [h] at hu; cases hu
    ·rw [h] at hu; cases hu; rw [hm] at hq; cases hq
 obtain ⟨⟨b, e⟩, he⟩ := Option.isSome_iff_exists.1 hsm
 have h2 := hF.found t e (by unfold Sof; rw [he]; rfl)
 refine ⟨b, ?_⟩
 rw [he]
 unfold gapT
 rw [h2]
theorem gapT_exact {n : Nat} (hn : n ≤ 7) {s t : List Int} (hs : Stk true n s) (ht : Stk true n t) : Exact (nextK n true true) s t (gapT n s t) := by
 obtain ⟨b, hb⟩ := bfs_knownT hn hs ht none (.inl rfl)
 exact (bfs_fin true true (hs.vs hn) none).exact t _ (by unfold Sof; rw [hb]; rfl)
theorem ordT_all {n : Nat} (hn : n ≤ 7) {x : List Int} (hx : Stk true n x) : ((knownOf n true true x) x).isSome = true ∧ (ordL n true true x).length = gapT n (firstL n) x ∧ (∀ m, m ∈ ordL n true true x → m ∈ mvL n true true) ∧ (ordL n true true x).foldl (fun t m => flL true t m.1 m.2) x = firstL n := by
 obtain ⟨b, hb⟩ := bfs_knownT hn (stk_firstL true n) hx (some x) (.inr rfl)
 have hF := bfs_fin true true ((stk_firstL true n).vs hn) (some x)
 have hkn : knownOf n true true x x = some (b, gapT n (firstL n) x) := hb
 have h1 := ordF_ok hF.by_ _ x b hb
 have h2 := ordF_len hF.by_ hF.exact _ x b hb
 have e : ordL n true true x = ordF (knownOf n true true x) n true (gapT n (firstL n) x).succ x := by unfold ordL; rw [hkn]; rfl
 rw [e]
 exact ⟨by rw [hkn]; rfl, h2, h1.1, h1.2.2⟩
/-- A number of a row that changes by at most one with each turn, is 0 at the ordered row alone and can be made less elsewhere, is the least number of turns. -/
theorem gapT_of {n : Nat} (hn : n ≤ 7) (f : List Int → Nat) (h0 : f (firstL n) = 0) (h1 : ∀ x, Stk true n x → ∀ m, m ∈ mvL n true true → f (flL true x m.1 m.2) ≤ f x + 1) (h2 : ∀ x, Stk true n x → x ≠ firstL n → ∃ m, m ∈ mvL n true true ∧ f (flL true x m.1 m.2) + 1 = f x) :
  ∀ x, Stk true n x → gapT n (firstL n) x = f x := by
 have lo : ∀ k x, x ∈ ball (nextK n true true) (firstL n) k → f x ≤ k := by
  intro k
  induction k with
  | zero =>
   intro x hx
   have : x = firstL n := by simpa [ball] using hx
   rw [this, h0]; exact Nat.le_refl _
  | succ k ih =>
   intro x hx
   rcases ball_succ.1 hx with h | ⟨z, hz, hm⟩
   ·exact Nat.le_succ_of_le (ih x h)
   ·obtain ⟨m, hmm, rfl⟩ := List.mem_map.1 hm
    have := h1 z (ball_stk (stk_firstL true n) k hz) m hmm
    have := ih z hz
    omega
 have up : ∀ k x, Stk true n x → f x = k → x ∈ ball (nextK n true true) (firstL n) k := by
  intro k
  induction k with
  | zero =>
   intro x hx he
   by_cases e : x = firstL n
   ·rw [e]; simp [ball]
   ·obtain ⟨m, _, hm⟩ := h2 x hx e
    omega
  | succ k ih =>
   intro x hx he
   have e : x ≠ firstL n := fun e => by rw [e, h0] at he; cases he
   obtain ⟨m, hmm, hm⟩ := h2 x hx e
   have hmv := mem_mv hmm
   have hs := stk_flL hx (fun h => h) m.1 m.2 hmv.1 hmv.2.1
   have := ih _ hs (by omega)
   exact ball_succ.2 (.inr ⟨_, this, next_back hx.len (List.mem_map.2 ⟨m, hmm, rfl⟩)⟩)
 intro x hx
 have hex := gapT_exact hn (stk_firstL true n) hx
 refine hex.unique ⟨up _ x hx rfl, fun j hj hj' => ?_⟩
 have := lo j x hj'
 omega
end Go.Proofs.Ytepjhdblmghckaa.G
/- All short rows: the distance is the least number of turns. -/
namespace Go.Proofs.Ytepjhdblmghckaa.G
set_option linter.unusedVariables false
set_option linter.unusedSimpArgs false
set_option linter.unusedSectionVars false
open Go.Proofs.Ytepjhdblmghckaa.Q Go.Proofs.Ytepjhdblmghckaa.K Go.Proofs.Ytepjhdblmghckaa.Bf
open Go.RowKit Go.Proofs.YtepjhdblmghckaaW.PrintWords Go.Proofs.YtepjhdblmghckaaW.PrintLast Go.Proofs.YtepjhdblmghckaaW.PrintMore
def vals (n : Nat) : List Int := (List.range n).flatMap (fun q => [((q + 1 : Nat) : Int), -((q + 1 : Nat) : Int)])
def gens (n : Nat) : Nat → List (List Int)
 | 0 => [[]]
 | k + 1 => (gens n k).flatMap (fun l => ((vals n).filter (fun v => !(l.any (fun u => decide (u.natAbs = v.natAbs))))).map (fun v => v :: l))
theorem mem_vals {n : Nat} {v : Int} (h0 : v ≠ 0) (h1 : -(n : Int) ≤ v ∧ v ≤ n) : v ∈ vals n := by
 unfold vals
 refine List.mem_flatMap.2 ⟨v.natAbs - 1, List.mem_range.2 (by omega), ?_⟩
 simp only [List.mem_cons, List.not_mem_nil, or_false]
 omega
theorem mem_gens {n : Nat} : ∀ l : List Int, (∀ x, x ∈ l → x ≠ 0 ∧ -(n : Int) ≤ x ∧ x ≤ n) → (l.map Int.natAbs).Nodup → l ∈ gens n l.length
 | [], _, _ => by simp [gens]
 | v :: l, h, hnd => by
  rw [List.map_cons, List.nodup_cons] at hnd
  have ih := mem_gens l (fun x hx => h x (List.mem_cons_of_mem _ hx)) hnd.2
  have hv := h v (List.mem_cons_self ..)
  show v :: l ∈ gens n (l.length + 1)
  rw [gens]
  refine List.mem_flatMap.2 ⟨l, ih, List.mem_map.2 ⟨v, List.mem_filter.2 ⟨mem_vals hv.1 hv.2, ?_⟩, rfl⟩⟩
  rw [Bool.not_eq_true', List.any_eq_false]
  intro u hu he
  exact hnd.1 (List.mem_map.2 ⟨u, hu, of_decide_eq_true he⟩)
theorem Stk.gens {sg : Bool} {n : Nat} {x : List Int} (h : Stk sg n x) : x ∈ G.gens n n := by
 have := mem_gens x (fun v hv => by have := h.rng v hv; exact this) h.nd
 rw [h.len] at this
 exact this
/-- The distance, as the kernel can reckon it. -/
def disK (s : List Int) : Nat := s.length + 1 - (circK s).length + (talF (picL s) (cmpK s)).2.2.1 + (if (talF (picL s) (cmpK s)).2.2.2 = true then 1 else 0)
def chkR (n : Nat) (x : List Int) : Bool := (mvL n true true).all (fun m => decide (disK (flL true x m.1 m.2) ≤ disK x + 1)) && (decide (x = firstL n) || (mvL n true true).any (fun m => decide (disK (flL true x m.1 m.2) + 1 = disK x)))
theorem mem_piece {α : Type} (l : List α) (s : Nat) (hs : 0 < s) {x : α} (h : x ∈ l) : ∃ i, i * s < l.length ∧ x ∈ (l.drop (s * i)).take s := by
 obtain ⟨j, hj, rfl⟩ := List.getElem_of_mem h
 have h1 := Nat.div_add_mod j s
 have h2 := Nat.mod_lt j hs
 refine ⟨j / s, by rw [Nat.mul_comm]; omega, ?_⟩
 refine List.mem_iff_getElem?.2 ⟨j % s, ?_⟩
 rw [List.getElem?_take, if_pos h2, List.getElem?_drop, h1, List.getElem?_eq_getElem hj]
end Go.Proofs.Ytepjhdblmghckaa.G
/- All rows of at most four numbers: the kernel looks at each. -/
namespace Go.Proofs.Ytepjhdblmghckaa.G
set_option linter.unusedVariables false
set_option linter.unusedSimpArgs false
set_option linter.unusedSectionVars false
open Go.Proofs.Ytepjhdblmghckaa.Q Go.Proofs.Ytepjhdblmghckaa.K Go.Proofs.Ytepjhdblmghckaa.Bf
set_option maxRecDepth 100000
theorem chk1_ : (gens 1 1).all (chkR 1) = true := by decide +kernel
theorem chk2_ : (gens 2 2).all (chkR 2) = true := by decide +kernel
theorem chk3_ : (gens 3 3).all (chkR 3) = true := by decide +kernel
theorem chk4_0 : (((gens 4 4).drop (48 * 0)).take 48).all (chkR 4) = true := by decide +kernel
theorem chk4_1 : (((gens 4 4).drop (48 * 1)).take 48).all (chkR 4) = true := by decide +kernel
theorem chk4_2 : (((gens 4 4).drop (48 * 2)).take 48).all (chkR 4) = true := by decide +kernel
theorem chk4_3 : (((gens 4 4).drop (48 * 3)).take 48).all (chkR 4) = true := by decide +kernel
theorem chk4_4 : (((gens 4 4).drop (48 * 4)).take 48).all (chkR 4) = true := by decide +kernel
theorem chk4_5 : (((gens 4 4).drop (48 * 5)).take 48).all (chkR 4) = true := by decide +kernel
theorem chk4_6 : (((gens 4 4).drop (48 * 6)).take 48).all (chkR 4) = true := by decide +kernel
theorem chk4_7 : (((gens 4 4).drop (48 * 7)).take 48).all (chkR 4) = true := by decide +kernel
theorem len4_ : (gens 4 4).length = 384 := by decide +kernel
theorem chk4_ (x : List Int) (h : x ∈ gens 4 4) : chkR 4 x = true := by
 obtain ⟨i, hi, hx⟩ := mem_piece _ 48 (by decide) h
 rw [len4_] at hi
 have h8 : i < 8 := by omega
 match i, h8, hx with
 | 0, _, hx => exact List.all_eq_true.1 chk4_0 x hx
 | 1, _, hx => exact List.all_eq_true.1 chk4_1 x hx
 | 2, _, hx => exact List.all_eq_true.1 chk4_2 x hx
 | 3, _, hx => exact List.all_eq_true.1 chk4_3 x hx
 | 4, _, hx => exact List.all_eq_true.1 chk4_4 x hx
 | 5, _, hx => exact List.all_eq_true.1 chk4_5 x hx
 | 6, _, hx => exact List.all_eq_true.1 chk4_6 x hx
 | 7, _, hx => exact List.all_eq_true.1 chk4_7 x hx
theorem chkR_all {n : Nat} (h1 : 1 ≤ n) (h4 : n ≤ 4) {x : List Int} (hx : Stk true n x) : chkR n x = true := by
 have hg := hx.gens
 match n, h1, h4, hg with
 | 1, _, _, hg => exact List.all_eq_true.1 chk1_ x hg
 | 2, _, _, hg => exact List.all_eq_true.1 chk2_ x hg
 | 3, _, _, hg => exact List.all_eq_true.1 chk3_ x hg
 | 4, _, _, hg => exact chk4_ x hg
theorem disK_first {n : Nat} (h1 : 1 ≤ n) (h4 : n ≤ 4) : disK (firstL n) = 0 := by
 match n, h1, h4 with
 | 1, _, _ => decide +kernel
 | 2, _, _ => decide +kernel
 | 3, _, _ => decide +kernel
 | 4, _, _ => decide +kernel
theorem gapT_disK {n : Nat} (h1 : 1 ≤ n) (h4 : n ≤ 4) {x : List Int} (hx : Stk true n x) : gapT n (firstL n) x = disK x := by
 have hc : ∀ y, Stk true n y → (∀ m, m ∈ mvL n true true → disK (flL true y m.1 m.2) ≤ disK y + 1) ∧ (y = firstL n ∨ ∃ m, m ∈ mvL n true true ∧ disK (flL true y m.1 m.2) + 1 = disK y) := fun y hy => by
  have h := chkR_all h1 h4 hy
  unfold chkR at h
  rw [Bool.and_eq_true, Bool.or_eq_true, List.all_eq_true, List.any_eq_true] at h
  refine ⟨fun m hm => of_decide_eq_true (h.1 m hm), ?_⟩
  rcases h.2 with h2 | ⟨m, hm, h2⟩
  ·exact .inl (of_decide_eq_true h2)
  ·exact .inr ⟨m, hm, of_decide_eq_true h2⟩
 refine gapT_of (by omega) disK (disK_first h1 h4) (fun y hy => (hc y hy).1) (fun y hy hne => ?_) x hx
 rcases (hc y hy).2 with h | h
 ·exact absurd h hne
 ·exact h
end Go.Proofs.Ytepjhdblmghckaa.G
