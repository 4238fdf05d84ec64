/- PancakeSmall: the components and the distance of any short row: a part of the proof (6 of 6): contracts of the functions, and plain lemmas. -/
import Derived.Test.YtepjhdblmghckaaUr
import Derived.Test.YtepjhdblmghckaaEr1
import Derived.Test.YtepjhdblmghckaaEr2
import Derived.Test.YtepjhdblmghckaaEr3
import Derived.Test.YtepjhdblmghckaaEr4
import Derived.Test.YtepjhdblmghckaaEr5
set_option linter.unusedVariables false
set_option linter.unusedSimpArgs false

namespace Go.Proofs.Ytepjhdblmghckaa.G
open Go.Proofs.Ytepjhdblmghckaa.Q Go.Proofs.Ytepjhdblmghckaa.K Go.Proofs.Ytepjhdblmghckaa.Bf
open Go.RowKit Go.Proofs.YtepjhdblmghckaaW.PrintWords Go.Proofs.YtepjhdblmghckaaW.PrintLast Go.Proofs.YtepjhdblmghckaaW.PrintMore
set_option linter.unusedVariables false
def cntB (f : Nat → Bool) (k : Nat) : Nat := (List.range k).countP f
theorem cntB_succ (f : Nat → Bool) (k : Nat) : cntB f (k + 1) = cntB f k + if f k = true then 1 else 0 := by unfold cntB; rw [List.range_succ, List.countP_append, List.countP_singleton]
theorem cntB_le (f : Nat → Bool) (k : Nat) : cntB f k ≤ k := Nat.le_trans List.countP_le_length (by simp)
def hurG (p g : List Int) (m : Nat) (bad : Nat → Bool) (q : Nat) : Bool := bad q && wholeB p g (flg m bad) (q : Int)
def lessG (bad : Nat → Bool) (i q : Nat) : Bool := bad q && !decide (q = i)
def newG (p g : List Int) (m : Nat) (bad : Nat → Bool) (i k : Nat) : Bool := lessG bad i k && !hurG p g m bad k && wholeB p g (flg m (lessG bad i)) (k : Int)
def superG (p g : List Int) (m : Nat) (bad : Nat → Bool) (i k : Nat) : Bool := (List.range k).any (newG p g m bad i)
def fortG (p g : List Int) (m : Nat) (bad : Nat → Bool) : Nat → Bool
 | 0 => decide (cntB (hurG p g m bad) m % 2 = 1)
 | i + 1 => if hurG p g m bad i = true then fortG p g m bad i && superG p g m bad i m else fortG p g m bad i
theorem hur_set (p g : List Int) (m : Nat) (bad : Nat → Bool) (i : Nat) (hi : i < m) (b : Bool) (hb : hurG p g m bad i = b) : (flg m (fun q => decide (q < i) && hurG p g m bad q)).set i b = flg m (fun q => decide (q < i + 1) && hurG p g m bad q) := by
 have hl := flg_len m (fun q => decide (q < i) && hurG p g m bad q)
 refine flg_of (by rw [List.length_set, hl]) (fun q hq => ?_)
 rw [set_at _ _ _ _ (by omega), flg_at _ hq]
 by_cases eq : q = i
 ·rw [if_pos eq, eq, hb]; simp
 ·rw [if_neg eq]
  by_cases h1 : q < i
  ·simp [h1, show q < i + 1 by omega]
  ·simp [h1, show ¬ q < i + 1 by omega]
section
variable (s p g : List Int) (m : Nat) (hm : m ≤ 1000) (hg : g.length = m) (is_ bad : Nat → Bool)
 (W : ∀ (f : Nat → Bool) (z : Int), Ev (fun k => bibelotref07_whole.f k s g (flg m f) z) (wholeB p g (flg m f) z)) (res : Int × Int × Int × Bool)
include hm hg W
theorem com_l7 (i : Nat) (hi : i < m) (b : Bool) (A B C : Int) (cont : Ev (fun k => bibelotref07_Components.l6 k s g (m : Int) (flg m bad) (flg m (hurG p g m bad)) ((i + 1 : Nat) : Int) A B C (b && superG p g m bad i m)) res) :
  ∀ d k : Nat, k + d = m → Ev (fun kk => bibelotref07_Components.l7 kk s g (m : Int) (flg m bad) (flg m (hurG p g m bad)) (i : Int) (flg m (lessG bad i)) (superG p g m bad i k) (k : Int) A B C b) res
 | 0, k, h => by
  have e : k = m := by omega
  subst e
  refine Ev.step (fun kk => ?_) cont
  rw [bibelotref07_Components.l7, if_neg (by omega), up1 i (by omega)]
  cases b
  ·rw [if_neg (by decide), Bool.false_and]
  ·rw [if_pos rfl, Bool.true_and]
 | d + 1, k, h => by
  have ih := com_l7 i hi b A B C cont d (k + 1) (by omega)
  have hl1 := flg_len m (lessG bad i)
  have hl2 := flg_len m (hurG p g m bad)
  have hsu : superG p g m bad i (k + 1) = (superG p g m bad i k || newG p g m bad i k) := by unfold superG; exact any_succ _ _
  rw [hsu] at ih
  by_cases e0 : superG p g m bad i k = true
  ·rw [e0, Bool.true_or] at ih
   refine Ev.step (fun kk => ?_) ih
   rw [bibelotref07_Components.l7, if_pos (by omega), if_pos e0, up1 k (by omega)]
  ·rw [Bool.eq_false_iff.2 e0, Bool.false_or] at ih
   have hkl : (k : Int).toNat = k := Int.toNat_natCast k
   have a1 : rdOf false (flg m (lessG bad i)) (k : Int) = lessG bad i k := by unfold rdOf; rw [hkl]; exact flg_at _ (by omega)
   have a2 : rdOf false (flg m (hurG p g m bad)) (k : Int) = hurG p g m bad k := by unfold rdOf; rw [hkl]; exact flg_at _ (by omega)
   by_cases e1 : lessG bad i k = true
   ·by_cases e2 : hurG p g m bad k = true
    ·have en : newG p g m bad i k = false := by unfold newG; rw [e2]; simp
     rw [en] at ih
     refine Ev.step (fun kk => ?_) ih
     rw [bibelotref07_Components.l7, if_pos (by omega), if_neg e0, if_pos (by omega), if_pos (by omega), a1, if_pos e1, if_pos (by omega), a2, if_pos e2, up1 k (by omega)]
    ·have en : newG p g m bad i k = wholeB p g (flg m (lessG bad i)) (k : Int) := by unfold newG; rw [e1, Bool.eq_false_iff.2 e2]; simp
     rw [en] at ih
     refine Ev.step (fun kk => ?_) (Ev.bind (f := fun kk t => bibelotref07_Components.l7 kk s g (m : Int) (flg m bad) (flg m (hurG p g m bad)) (i : Int) (flg m (lessG bad i)) t ((k + 1 : Nat) : Int) A B C b) (W (lessG bad i) (k : Int)) ih)
     rw [bibelotref07_Components.l7, if_pos (by omega), if_neg e0, if_pos (by omega), if_pos (by omega), a1, if_pos e1, if_pos (by omega), a2, if_neg e2, up1 k (by omega)]
   ·have en : newG p g m bad i k = false := by unfold newG; rw [Bool.eq_false_iff.2 e1]; simp
    rw [en] at ih
    refine Ev.step (fun kk => ?_) ih
    rw [bibelotref07_Components.l7, if_pos (by omega), if_neg e0, if_pos (by omega), if_pos (by omega), a1, if_neg e1, up1 k (by omega)]
theorem com_l6 (A B C : Int) : ∀ d i : Nat, i + d = m → Ev (fun kk => bibelotref07_Components.l6 kk s g (m : Int) (flg m bad) (flg m (hurG p g m bad)) (i : Int) A B C (fortG p g m bad i)) (A, B, C, fortG p g m bad m)
 | 0, i, h => by
  have e : i = m := by omega
  subst e
  refine Ev.step (f := fun _ => some (A, B, C, fortG p g i bad i)) (fun kk => ?_) (Ev.now _)
  rw [bibelotref07_Components.l6, if_neg (by omega)]
 | d + 1, i, h => by
  have ih := com_l6 A B C d (i + 1) (by omega)
  have hl2 := flg_len m (hurG p g m bad)
  have hl3 := flg_len m bad
  have a2 : rdOf false (flg m (hurG p g m bad)) (i : Int) = hurG p g m bad i := by unfold rdOf; rw [Int.toNat_natCast]; exact flg_at _ (by omega)
  by_cases e2 : hurG p g m bad i = true
  ·have ef : fortG p g m bad (i + 1) = (fortG p g m bad i && superG p g m bad i m) := by rw [fortG, if_pos e2]
   rw [ef] at ih
   have h7 := com_l7 s p g m hm hg bad W (A, B, C, fortG p g m bad m) i (by omega) (fortG p g m bad i) A B C ih m 0 (by omega)
   have es : (flg m bad).set i false = flg m (lessG bad i) := by
    refine flg_of (by rw [List.length_set, hl3]) (fun q hq => ?_)
    rw [set_at _ _ _ _ (by omega), flg_at _ hq]
    unfold lessG
    by_cases eq : q = i
    ·rw [if_pos eq]; simp [eq]
    ·rw [if_neg eq]; simp [eq]
   rw [← es] at h7
   refine Ev.step (fun kk => ?_) h7
   rw [bibelotref07_Components.l6, if_pos (by omega), if_pos (by omega), if_pos (by omega), a2, if_pos e2, if_pos (by simp only [List.length_nil]; omega), Option.bind_some, List.nil_append, if_pos (by omega), Int.toNat_natCast]
   rfl
  ·have ef : fortG p g m bad (i + 1) = fortG p g m bad i := by rw [fortG, if_neg e2]
   rw [ef] at ih
   refine Ev.step (fun kk => ?_) ih
   rw [bibelotref07_Components.l6, if_pos (by omega), if_pos (by omega), if_pos (by omega), a2, if_neg e2, up1 i (by omega)]
theorem com_j6 (i : Nat) (hi : i < m) (A : Int) (cont : Ev (fun k => bibelotref07_Components.l5 k s g (m : Int) (flg m is_) (flg m bad) (flg m (fun q => decide (q < i + 1) && hurG p g m bad q)) ((i + 1 : Nat) : Int) A ((cntB bad (i + 1) : Nat) : Int) ((cntB (hurG p g m bad) (i + 1) : Nat) : Int) false) res) :
  Ev (fun kk => bibelotref07_Components.j6 kk s g (m : Int) (flg m is_) (flg m bad) (flg m (fun q => decide (q < i) && hurG p g m bad q)) (i : Int) A ((cntB bad i : Nat) : Int) ((cntB (hurG p g m bad) i : Nat) : Int) false) res := by
 have hl1 := flg_len m bad
 have hl2 := flg_len m (fun q => decide (q < i) && hurG p g m bad q)
 have b1 := cntB_le bad i
 have b2 := cntB_le (hurG p g m bad) i
 have a1 : rdOf false (flg m bad) (i : Int) = bad i := by unfold rdOf; rw [Int.toNat_natCast]; exact flg_at _ (by omega)
 have a3 : rdOf false (flg m (fun q => decide (q < i + 1) && hurG p g m bad q)) (i : Int) = hurG p g m bad i := by unfold rdOf; rw [Int.toNat_natCast, flg_at _ (by omega)]; simp
 rw [cntB_succ, cntB_succ] at cont
 by_cases e1 : bad i = true
 ·have eh : hurG p g m bad i = wholeB p g (flg m bad) (i : Int) := by unfold hurG; rw [e1, Bool.true_and]
  have hset := hur_set p g m bad i hi _ eh
  refine Ev.step (f := fun kk => (bibelotref07_whole.f kk s g (flg m bad) (i : Int)).bind (fun t => if (i : Int) < ((flg m (fun q => decide (q < i) && hurG p g m bad q)).length : Int) then ((some ((flg m (fun q => decide (q < i) && hurG p g m bad q)).set (i : Int).toNat t : List Bool)).bind fun y229 => (if rdOf false y229 (i : Int) = true then (bibelotref07_Components.l5 kk s g (m : Int) (flg m is_) (flg m bad) y229 (wrap64 ((i : Int) + 1)) A (wrap64 (((cntB bad i : Nat) : Int) + 1)) (wrap64 (((cntB (hurG p g m bad) i : Nat) : Int) + 1)) false) else (bibelotref07_Components.l5 kk s g (m : Int) (flg m is_) (flg m bad) y229 (wrap64 ((i : Int) + 1)) A (wrap64 (((cntB bad i : Nat) : Int) + 1)) ((cntB (hurG p g m bad) i : Nat) : Int) false))) else none)) (fun kk => ?_) (Ev.bind (W bad (i : Int)) ?_)
  ·rw [bibelotref07_Components.j6, if_pos (by omega), if_pos (by omega), a1, if_pos e1]
  ·refine Ev.congr (fun kk => ?_) cont
   rw [if_pos (by omega), Option.bind_some, Int.toNat_natCast, hset, a3, up1 i (by omega), up1 _ (by omega), if_pos e1]
   by_cases e2 : hurG p g m bad i = true
   ·rw [if_pos e2, if_pos e2, up1 _ (by omega)]
   ·rw [if_neg e2, if_neg e2]
    rfl
 ·have eh : hurG p g m bad i = false := by unfold hurG; rw [Bool.eq_false_iff.2 e1, Bool.false_and]
  have hset := hur_set p g m bad i hi _ eh
  rw [if_neg e1, eh, if_neg (by decide)] at cont
  refine Ev.step (fun kk => ?_) cont
  rw [bibelotref07_Components.j6, if_pos (by omega), if_pos (by omega), a1, if_neg e1, if_pos (by omega), Option.bind_some, Int.toNat_natCast, hset, a3, eh, if_neg (by decide), up1 i (by omega)]
  rfl
theorem com_l5 (hfin : Ev (fun k => bibelotref07_Components.l6 k s g (m : Int) (flg m bad) (flg m (hurG p g m bad)) 0 ((cntB is_ m : Nat) : Int) ((cntB bad m : Nat) : Int) ((cntB (hurG p g m bad) m : Nat) : Int) (fortG p g m bad 0)) res) :
  ∀ d i : Nat, i + d = m → Ev (fun kk => bibelotref07_Components.l5 kk s g (m : Int) (flg m is_) (flg m bad) (flg m (fun q => decide (q < i) && hurG p g m bad q)) (i : Int) ((cntB is_ i : Nat) : Int) ((cntB bad i : Nat) : Int) ((cntB (hurG p g m bad) i : Nat) : Int) false) res
 | 0, i, h => by
  have e : i = m := by omega
  subst e
  have hf : flg i (fun q => decide (q < i) && hurG p g i bad q) = flg i (hurG p g i bad) := by
   unfold flg
   refine List.map_congr_left (fun q hq => ?_)
   rw [List.mem_range] at hq
   simp [hq]
  have hb : (Int.tmod ((cntB (hurG p g i bad) i : Nat) : Int) 2 == 1) = fortG p g i bad 0 := by
   unfold fortG
   rw [Int.tmod_eq_emod_of_nonneg (by omega)]
   by_cases h1 : cntB (hurG p g i bad) i % 2 = 1
   ·rw [decide_eq_true h1]; exact beq_iff_eq.2 (by omega)
   ·rw [decide_eq_false h1]; exact beq_eq_false_iff_ne.2 (by omega)
  rw [← hb] at hfin
  rw [hf]
  refine Ev.step (fun kk => ?_) hfin
  rw [bibelotref07_Components.l5, if_neg (by omega)]
 | d + 1, i, h => by
  have ih := com_l5 hfin d (i + 1) (by omega)
  have hl := flg_len m is_
  have b1 := cntB_le is_ i
  have a1 : rdOf false (flg m is_) (i : Int) = is_ i := by unfold rdOf; rw [Int.toNat_natCast]; exact flg_at _ (by omega)
  rw [cntB_succ is_] at ih
  by_cases e : is_ i = true
  ·rw [if_pos e] at ih
   refine Ev.step (fun kk => ?_) (com_j6 s p g m hm hg is_ bad W res i (by omega) _ ih)
   rw [bibelotref07_Components.l5, if_pos (by omega), if_pos (by omega), if_pos (by omega), a1, if_pos e, up1 _ (by omega)]
  ·rw [if_neg e] at ih
   refine Ev.step (fun kk => ?_) (com_j6 s p g m hm hg is_ bad W res i (by omega) _ ih)
   rw [bibelotref07_Components.l5, if_pos (by omega), if_pos (by omega), if_pos (by omega), a1, if_neg e]
   rfl
end
def grpL (s : List Int) : List Int := mergeL (allE (plL s) (s.length + 1)) (rndL s)
def badD (s : List Int) : Nat → Bool := badG (plL s) (rndL s) (grpL s) (s.length + 1)
def comD (s : List Int) : Int × Int × Int × Bool := (((cntB (isG (grpL s) (s.length + 1)) (s.length + 1) : Nat) : Int), ((cntB (badD s) (s.length + 1) : Nat) : Int), ((cntB (hurG (picL s) (grpL s) (s.length + 1) (badD s)) (s.length + 1) : Nat) : Int), fortG (picL s) (grpL s) (s.length + 1) (badD s) (s.length + 1))
theorem mergeL_in {N : Nat} : ∀ (E : List (Nat × Nat)) {g : List Int}, (∀ q, 0 ≤ nth g q ∧ nth g q < (N : Int)) → ∀ q, 0 ≤ nth (mergeL E g) q ∧ nth (mergeL E g) q < (N : Int)
 | [], _, h, q => h q
 | e :: E, g, h, q => mergeL_in E (g := joinN g e.1 e.2) (fun q => by
   by_cases hq : q < g.length
   ·rw [nth_joinN _ _ hq]
    split
    ·exact h _
    ·exact h _
   ·rw [nth_end _ _ (by rw [joinN_len]; omega)]
    have := h q
    rw [nth_end _ _ (by omega)] at this
    exact this) q
theorem idL_in (n : Nat) (q : Nat) : 0 ≤ nth (idL (n + 1)) q ∧ nth (idL (n + 1)) q < ((n + 1 : Nat) : Int) := by
 by_cases h : q < n + 1
 ·rw [nth_idL h]; omega
 ·rw [nth_end _ _ (by rw [idL_len]; omega)]; omega
theorem rndL_in (s : List Int) (q : Nat) : 0 ≤ nth (rndL s) q ∧ nth (rndL s) q < ((s.length + 1 : Nat) : Int) := by
 unfold rndL rndTo
 exact mergeL_in _ (idL_in s.length) q
theorem grpL_in (s : List Int) (q : Nat) : 0 ≤ nth (grpL s) q ∧ nth (grpL s) q < ((s.length + 1 : Nat) : Int) := mergeL_in _ (rndL_in s) q
theorem grpL_len (s : List Int) : (grpL s).length = s.length + 1 := by unfold grpL; rw [mergeL_len, rndL_len]
theorem rcomponents_ev {s : List Int} (hn : s.length ≤ 40) (hm : ∀ x, x ∈ s → x ≠ 0 ∧ -(s.length : Int) ≤ x ∧ x ≤ s.length) (hs : Smalls s) : Ev (fun k => bibelotref07_Components.f k s) (comD s) := by
 unfold bibelotref07_Components.f
 refine Ev.bind (lines_ev hn hm hs) (Ev.bind (round_ev hn hm hs) (Ev.bind (round_ev hn hm hs) ?_))
 have hc := rndL_len s
 have hg := grpL_len s
 have hgr := grpL_in s
 have W : ∀ (f : Nat → Bool) (z : Int), Ev (fun k => bibelotref07_whole.f k s (grpL s) (flg (s.length + 1) f) z) (wholeB (picL s) (grpL s) (flg (s.length + 1) f) z) := fun f z => whole_ev hn hm hs hg (fun q => by rw [flg_len]; exact hgr q) z
 have h6 := com_l6 s (picL s) (grpL s) (s.length + 1) (by omega) hg (badD s) W ((cntB (isG (grpL s) (s.length + 1)) (s.length + 1) : Nat) : Int) ((cntB (badD s) (s.length + 1) : Nat) : Int) ((cntB (hurG (picL s) (grpL s) (s.length + 1) (badD s)) (s.length + 1) : Nat) : Int) (s.length + 1) 0 (by omega)
 have h5 := com_l5 s (picL s) (grpL s) (s.length + 1) (by omega) hg (isG (grpL s) (s.length + 1)) (badD s) W (comD s) h6 (s.length + 1) 0 (by omega)
 have ef : flg (s.length + 1) (fun q => decide (q < 0) && hurG (picL s) (grpL s) (s.length + 1) (badD s) q) = List.replicate (s.length + 1) false := (flg_of (by simp) (fun q hq => by
  rw [List.getD_eq_getElem?_getD, List.getElem?_replicate, if_pos hq]; simp)).symm
 rw [ef] at h5
 have h4 := com_l4 s (plL s) (rndL s) (grpL s) (s.length + 1) (by omega) hc hg (fun q _ => hgr q) (comD s) (fun q => by have := plL_range s q; omega) h5 (s.length + 1) 0 (by omega)
 have ef2 : flg (s.length + 1) (fun q => twoG (rndL s) (grpL s) (s.length + 1) q && !turnG (plL s) (grpL s) 0 q) = flg (s.length + 1) (twoG (rndL s) (grpL s) (s.length + 1)) := congrArg (flg _) (funext fun q => by unfold turnG; simp)
 rw [ef2] at h4
 have h2 := com_l2 s (plL s) (rndL s) (grpL s) (s.length + 1) (by omega) hc hg (fun q _ => hgr q) (comD s) h4 (s.length + 1) 0 (by omega)
 have ef3 : flg (s.length + 1) (isG (grpL s) 0) = List.replicate (s.length + 1) false := (flg_of (by simp) (fun q hq => by
  rw [List.getD_eq_getElem?_getD, List.getElem?_replicate, if_pos hq]; simp [isG])).symm
 have ef4 : flg (s.length + 1) (twoG (rndL s) (grpL s) 0) = List.replicate (s.length + 1) false := (flg_of (by simp) (fun q hq => by
  rw [List.getD_eq_getElem?_getD, List.getElem?_replicate, if_pos hq]; simp [twoG])).symm
 rw [ef3, ef4] at h2
 exact com_l0 s (plL s) (rndL s) (s.length + 1) (by omega) hc (comD s) h2 (s.length + 1) 0 (by omega)
def disD (s : List Int) : Int := (s.length : Int) + 1 - ((clsTo (rndL s) (s.length + 1)).length : Int) + (comD s).2.2.1 + if (comD s).2.2.2 = true then 1 else 0
theorem rdistance_ev {s : List Int} (hn : s.length ≤ 40) (hm : ∀ x, x ∈ s → x ≠ 0 ∧ -(s.length : Int) ≤ x ∧ x ≤ s.length) (hs : Smalls s) : Ev (fun k => bibelotref07_Distance.f k s) (disD s) := by
 unfold bibelotref07_Distance.f
 refine Ev.bind (rcomponents_ev hn hm hs) (Ev.bind (rcircles_ev hn hm hs) ?_)
 have h1 := clsTo_le (rndL s) (s.length + 1)
 have h2 := cntB_le (hurG (picL s) (grpL s) (s.length + 1) (badD s)) (s.length + 1)
 have e3 : (comD s).2.2.1 = ((cntB (hurG (picL s) (grpL s) (s.length + 1) (badD s)) (s.length + 1) : Nat) : Int) := rfl
 refine Ev.congr (fun k => ?_) (Ev.now (disD s))
 unfold disD
 rw [e3]
 obtain ⟨H, hH⟩ : ∃ H, cntB (hurG (picL s) (grpL s) (s.length + 1) (badD s)) (s.length + 1) = H := ⟨_, rfl⟩
 rw [hH] at h2 ⊢
 obtain ⟨C, hC⟩ : ∃ C, (clsTo (rndL s) (s.length + 1)).length = C := ⟨_, rfl⟩
 rw [hC] at h1 ⊢
 obtain ⟨n, hn'⟩ : ∃ n, s.length = n := ⟨_, rfl⟩
 rw [hn'] at h1 h2 hn ⊢
 by_cases hb : (comD s).2.2.2 = true
 ·rw [if_pos hb, if_pos hb, w64 (x := (n : Int) + 1) (by omega) (by omega), w64 (x := (n : Int) + 1 - (C : Int)) (by omega) (by omega), w64 (x := (n : Int) + 1 - (C : Int) + (H : Int)) (by omega) (by omega), w64 (by omega) (by omega)]
 ·rw [if_neg hb, if_neg hb, w64 (x := (n : Int) + 1) (by omega) (by omega), w64 (x := (n : Int) + 1 - (C : Int)) (by omega) (by omega), w64 (x := (n : Int) + 1 - (C : Int) + (H : Int)) (by omega) (by omega), Int.add_zero]
end Go.Proofs.Ytepjhdblmghckaa.G


namespace Go.Proofs.Ytepjhdblmghckaa.G
open Go.Proofs.Ytepjhdblmghckaa.Q Go.Proofs.Ytepjhdblmghckaa.K Go.Proofs.Ytepjhdblmghckaa.Bf
open Go.RowKit Go.Proofs.YtepjhdblmghckaaW.PrintWords Go.Proofs.YtepjhdblmghckaaW.PrintLast Go.Proofs.YtepjhdblmghckaaW.PrintMore
set_option linter.unusedVariables false
structure LinP (m : Nat) (pl : List Int) : Prop where
 pos : ∀ x, x < 2 * m → 0 ≤ nth pl x ∧ nth pl x ≤ 1000000
 inj : ∀ x y, x < 2 * m → y < 2 * m → nth pl x = nth pl y → x = y
theorem lin_of {n : Nat} {p pl : List Int} (hn : n ≤ 40) (P : PicP (2 * n + 2) p pl) (h0 : ∀ q, 0 ≤ nth pl q ∧ nth pl q ≤ 1000000) : LinP (n + 1) pl := by
 refine ⟨fun x _ => h0 x, fun x y hx hy h => ?_⟩
 have e1 := P.pp x (by omega)
 have e2 := P.pp y (by omega)
 rw [h, e2] at e1
 exact e1.symm
def crossN (pl : List Int) (i k : Nat) : Bool := crossD (linOf pl i) (linOf pl k)
theorem cross_plain (a b c d : Int) (hab : a ≠ b) (hcd : c ≠ d) (h1 : a ≠ c) (h2 : a ≠ d) (h3 : b ≠ c) (h4 : b ≠ d) :
  (crossD ⟨min a b, max a b⟩ ⟨min c d, max c d⟩ = true ↔ (min a b < min c d ∧ min c d < max a b ∧ max a b < max c d) ∨ (min c d < min a b ∧ min a b < max c d ∧ max c d < max a b)) := by
 show ((decide (min c d < min a b) && decide (min a b < max c d)) != (decide (min c d < max a b) && decide (max a b < max c d))) = true ↔ _
 rw [bne_iff_ne, ne_eq, Bool.eq_iff_iff, Bool.and_eq_true, Bool.and_eq_true, decide_eq_true_eq, decide_eq_true_eq, decide_eq_true_eq, decide_eq_true_eq]
 have e1 : (min a b = a ∧ max a b = b ∧ a < b) ∨ (min a b = b ∧ max a b = a ∧ b < a) := by omega
 have e2 : (min c d = c ∧ max c d = d ∧ c < d) ∨ (min c d = d ∧ max c d = c ∧ d < c) := by omega
 rcases e1 with ⟨p1, p2, p3⟩ | ⟨p1, p2, p3⟩ <;> rcases e2 with ⟨q1, q2, q3⟩ | ⟨q1, q2, q3⟩ <;> rw [p1, p2, q1, q2] <;> omega
theorem cross_self (pl : List Int) (i : Nat) : crossN pl i i = false := by
 unfold crossN crossD linOf spanOf
 simp
theorem cross_iff {m : Nat} {pl : List Int} (L : LinP m pl) {i k : Nat} (hi : i < m) (hk : k < m) : (crossN pl i k = true ↔ crossB (spanOf pl i) (spanOf pl k) = true) := by
 by_cases e : i = k
 ·subst e
  rw [cross_self]
  unfold crossB
  simp
 ·have ne : ∀ x y, x < 2 * m → y < 2 * m → x ≠ y → nth pl x ≠ nth pl y := fun x y hx hy h he => h (L.inj x y hx hy he)
  have h := cross_plain (nth pl (2 * i)) (nth pl (2 * i + 1)) (nth pl (2 * k)) (nth pl (2 * k + 1)) (ne _ _ (by omega) (by omega) (by omega)) (ne _ _ (by omega) (by omega) (by omega)) (ne _ _ (by omega) (by omega) (by omega)) (ne _ _ (by omega) (by omega) (by omega)) (ne _ _ (by omega) (by omega) (by omega)) (ne _ _ (by omega) (by omega) (by omega))
  refine Iff.trans h ?_
  unfold crossB spanOf
  simp only [Bool.and_eq_true, Bool.or_eq_true, Bool.not_eq_true', decide_eq_true_eq, Bool.and_eq_false_iff, beq_eq_false_iff_ne]
  constructor
  ·intro h
   refine ⟨?_, ?_⟩
   ·rcases h with h | h <;> exact .inl (by omega)
   ·rcases h with ⟨h1, h2, h3⟩ | ⟨h1, h2, h3⟩
    ·exact .inl ⟨⟨h1, h2⟩, h3⟩
    ·exact .inr ⟨⟨h1, h2⟩, h3⟩
  ·rintro ⟨_, ⟨⟨h1, h2⟩, h3⟩ | ⟨⟨h1, h2⟩, h3⟩⟩
   ·exact .inl ⟨h1, h2, h3⟩
   ·exact .inr ⟨h1, h2, h3⟩
theorem cross_symm {m : Nat} {pl : List Int} (L : LinP m pl) {i k : Nat} (hi : i < m) (hk : k < m) (h : crossN pl i k = true) : crossN pl k i = true := by
 by_cases e : i = k
 ·subst e; exact h
 ·have ne : ∀ x y, x < 2 * m → y < 2 * m → x ≠ y → nth pl x ≠ nth pl y := fun x y hx hy h he => h (L.inj x y hx hy he)
  have h1 := cross_plain (nth pl (2 * i)) (nth pl (2 * i + 1)) (nth pl (2 * k)) (nth pl (2 * k + 1)) (ne _ _ (by omega) (by omega) (by omega)) (ne _ _ (by omega) (by omega) (by omega)) (ne _ _ (by omega) (by omega) (by omega)) (ne _ _ (by omega) (by omega) (by omega)) (ne _ _ (by omega) (by omega) (by omega)) (ne _ _ (by omega) (by omega) (by omega))
  have h2 := cross_plain (nth pl (2 * k)) (nth pl (2 * k + 1)) (nth pl (2 * i)) (nth pl (2 * i + 1)) (ne _ _ (by omega) (by omega) (by omega)) (ne _ _ (by omega) (by omega) (by omega)) (ne _ _ (by omega) (by omega) (by omega)) (ne _ _ (by omega) (by omega) (by omega)) (ne _ _ (by omega) (by omega) (by omega)) (ne _ _ (by omega) (by omega) (by omega))
  exact h2.2 (by have := h1.1 h; omega)
structure CompG (m : Nat) (pl c g : List Int) : Prop where
 len : g.length = m
 clen : c.length = m
 same : ∀ i k, i < m → k < m → nth c i = nth c k → nth g i = nth g k
 cross : ∀ i k, i < m → k < m → crossN pl i k = true → nth g i = nth g k
 least : ∀ S : Nat → Prop, (∀ i k, i < m → k < m → nth c i = nth c k → S i → S k) → (∀ i k, i < m → k < m → crossN pl i k = true → S i → S k) → Resp S g
theorem mem_allE {pl : List Int} {m : Nat} {e : Nat × Nat} : e ∈ allE pl m ↔ e.1 < m ∧ e.2 < e.1 ∧ crossN pl e.1 e.2 = true := by
 unfold allE crossE
 rw [List.mem_flatMap]
 constructor
 ·rintro ⟨i, hi, he⟩
  obtain ⟨q, hq, rfl⟩ := List.mem_map.1 he
  rw [List.mem_filter, List.mem_range] at hq
  exact ⟨List.mem_range.1 hi, hq.1, hq.2⟩
 ·rintro ⟨h1, h2, h3⟩
  exact ⟨e.1, List.mem_range.2 h1, List.mem_map.2 ⟨e.2, List.mem_filter.2 ⟨List.mem_range.2 h2, h3⟩, rfl⟩⟩
theorem grp_comp {m : Nat} {pl c : List Int} (L : LinP m pl) (hc : c.length = m) : CompG m pl c (mergeL (allE pl m) c) := by
 have hE : ∀ e, e ∈ allE pl m → e.1 < c.length ∧ e.2 < c.length := fun e he => by
  have := mem_allE.1 he
  omega
 refine ⟨by rw [mergeL_len, hc], hc, fun i k hi hk h => mergeL_keep _ (by omega) (by omega) h, fun i k hi hk h => ?_, fun S h1 h2 => ?_⟩
 ·by_cases e : i = k
  ·rw [e]
  ·by_cases hlt : k < i
   ·exact mergeL_pair _ hE (i, k) (mem_allE.2 ⟨hi, hlt, h⟩)
   ·exact (mergeL_pair _ hE (k, i) (mem_allE.2 ⟨hk, (by show i < k; omega), cross_symm L hi hk h⟩)).symm
 ·refine mergeL_resp _ (fun e he => ⟨(hE e he).1, (hE e he).2, ?_⟩) (fun a b ha hb h => h1 a b (by omega) (by omega) h)
  have := mem_allE.1 he
  exact ⟨h2 _ _ this.1 (by omega) this.2.2, h2 _ _ (by omega) this.1 (cross_symm L this.1 (by omega) this.2.2)⟩
def InCs (cs : List (List Int)) (j : Nat) : Prop := ∃ a, a ∈ cs ∧ (j : Int) ∈ a
theorem joined_iff {m : Nat} {pl : List Int} (L : LinP m pl) {own a : List Int} (ho : ∀ z, z ∈ own → ∃ j, j < m ∧ z = (j : Int)) (ha : ∀ z, z ∈ a → ∃ j, j < m ∧ z = (j : Int)) :
  joinedB pl own a = true ↔ ∃ i k, i < m ∧ k < m ∧ (i : Int) ∈ own ∧ (k : Int) ∈ a ∧ crossN pl i k = true := by
 unfold joinedB crossL
 rw [List.any_eq_true]
 constructor
 ·rintro ⟨x, hx, h⟩
  rw [List.any_eq_true] at h
  obtain ⟨y, hy, h⟩ := h
  obtain ⟨i, hi, rfl⟩ := ho x hx
  obtain ⟨k, hk, rfl⟩ := ha y hy
  exact ⟨i, k, hi, hk, hx, hy, (cross_iff L hi hk).2 h⟩
 ·rintro ⟨i, k, hi, hk, hx, hy, h⟩
  exact ⟨i, hx, List.any_eq_true.2 ⟨k, hy, (cross_iff L hi hk).1 h⟩⟩
structure Gi (m : Nat) (pl c g : List Int) (T : Nat → Prop) (i0 : Nat) (own : List Int) (b : Bool) (cs : List (List Int)) : Prop where
 lin : ∀ z, z ∈ own → ∃ j, j < m ∧ z = (j : Int)
 fst : (i0 : Int) ∈ own
 cls : ∀ i k, i < m → k < m → nth c i = nth c k → (i : Int) ∈ own → (k : Int) ∈ own
 bad : b = true ↔ ∃ i k, i < m ∧ k < i ∧ (i : Int) ∈ own ∧ (k : Int) ∈ own ∧ nth c i = nth c k
 grp : ∀ j, j < m → (j : Int) ∈ own → nth g j = nth g i0
 cir : ∀ a, a ∈ cs → ∃ i, i < m ∧ a = clsOf c i
 dis : cs.Pairwise (fun a b => ∀ x, x ∈ a → x ∉ b)
 apart : ∀ j, j < m → (j : Int) ∈ own → ¬ InCs cs j
 tot : ∀ j, j < m → (T j ↔ (j : Int) ∈ own ∨ InCs cs j)
section
variable {m : Nat} {pl c g : List Int} (L : LinP m pl) (C : CompG m pl c g)
theorem cls_lin (hc : c.length = m) {i : Nat} : ∀ z, z ∈ clsOf c i → ∃ j, j < m ∧ z = (j : Int) := fun z hz => by
 obtain ⟨q, hq, _, e⟩ := mem_clsOf.1 hz
 exact ⟨q, by omega, e⟩
theorem cls_two (hc : c.length = m) {i0 : Nat} (h0 : i0 < m) : (1 < (clsOf c i0).length ↔ ∃ i k, i < m ∧ k < i ∧ (i : Int) ∈ clsOf c i0 ∧ (k : Int) ∈ clsOf c i0 ∧ nth c i = nth c k) := by
 constructor
 ·intro h
  match hl : clsOf c i0, h with
  | x :: y :: r, _ =>
   have hs := clsUp_sorted c i0 c.length
   rw [show clsUp c i0 c.length = clsOf c i0 from rfl, hl] at hs
   have hxy : x < y := (List.pairwise_cons.1 hs).1 y (by simp)
   obtain ⟨q, hq, e1, rfl⟩ := mem_clsOf.1 (show x ∈ clsOf c i0 by rw [hl]; simp)
   obtain ⟨q', hq', e2, rfl⟩ := mem_clsOf.1 (show y ∈ clsOf c i0 by rw [hl]; simp)
   exact ⟨q', q, by omega, by omega, by simp, by simp, by rw [e1, e2]⟩
 ·rintro ⟨i, k, hi, hk, h1, h2, _⟩
  match hl : clsOf c i0, h1, h2 with
  | [x], h1, h2 =>
   rw [List.mem_singleton] at h1 h2
   omega
  | x :: y :: r, _, _ => simp
include L C
theorem grow_run {T : Nat → Prop} {i0 : Nat} : ∀ (fuel : Nat) (own : List Int) (b : Bool) (cs : List (List Int)), Gi m pl c g T i0 own b cs → cs.length ≤ fuel →
  ∃ own' b' cs', growF pl fuel (own, b) cs = ((own', b'), cs') ∧ Gi m pl c g T i0 own' b' cs' ∧ cs'.length ≤ cs.length ∧ ∀ a, a ∈ cs' → ¬ joinedB pl own' a = true
 | 0, own, b, cs, h, hl => by
  have e : cs = [] := List.eq_nil_of_length_eq_zero (by omega)
  subst e
  exact ⟨own, b, [], rfl, h, Nat.le_refl _, fun a ha => by cases ha⟩
 | fuel + 1, own, b, cs, h, hl => by
  rw [growF]
  by_cases hi : idxI (joinedB pl own) cs < 0
  ·rw [if_pos hi]
   refine ⟨own, b, cs, rfl, h, Nat.le_refl _, fun a ha hj => ?_⟩
   have : cs.any (joinedB pl own) = true := List.any_eq_true.2 ⟨a, ha, hj⟩
   unfold idxI at hi
   rw [if_pos this] at hi
   omega
  ·rw [if_neg hi]
   obtain ⟨hlt, hidx⟩ := idxI_lt hi
   obtain ⟨q, hq⟩ : ∃ q, (idxI (joinedB pl own) cs).toNat = q := ⟨_, rfl⟩
   rw [hq] at hlt hidx ⊢
   have hmem : cs.getD q [] ∈ cs := getD_mem hlt
   have hjoin : joinedB pl own (cs.getD q []) = true := by
    unfold idxI at hidx
    by_cases hany : cs.any (joinedB pl own) = true
    ·rw [if_pos hany] at hidx
     have hfi : cs.findIdx (joinedB pl own) = q := by omega
     have := List.findIdx_getElem (p := joinedB pl own) (w := by rw [hfi]; exact hlt)
     simp only [hfi] at this
     rw [List.getD_eq_getElem?_getD, List.getElem?_eq_getElem hlt]
     exact this
    ·rw [if_neg hany] at hidx; omega
   obtain ⟨a, hae⟩ : ∃ a, cs.getD q [] = a := ⟨_, rfl⟩
   rw [hae] at hmem hjoin ⊢
   obtain ⟨ia, hia, hac⟩ := h.cir a hmem
   have hal : ∀ z, z ∈ a → ∃ j, j < m ∧ z = (j : Int) := by rw [hac]; exact cls_lin C.clen
   obtain ⟨x, y, hx, hy, hxo, hya, hxy⟩ := (joined_iff L h.lin hal).1 hjoin
   have hsub : ∀ d, d ∈ cs.eraseIdx q → d ∈ cs := fun d hd => List.mem_of_mem_eraseIdx hd
   have hsplit : ∀ d, d ∈ cs → d = a ∨ d ∈ cs.eraseIdx q := fun d hd => by
    obtain ⟨k, hk, rfl⟩ := List.getElem_of_mem hd
    by_cases e : k = q
    ·left; subst e; rw [← hae, List.getD_eq_getElem?_getD, List.getElem?_eq_getElem hk]; rfl
    ·right
     exact List.mem_eraseIdx_iff_getElem.2 ⟨k, hk, e, rfl⟩
   have hgrpa : ∀ j, j < m → (j : Int) ∈ a → nth g j = nth g i0 := fun j hj hja => by
    rw [hac] at hja hya
    obtain ⟨q1, _, e1, hz1⟩ := mem_clsOf.1 hja
    obtain ⟨q2, _, e2, hz2⟩ := mem_clsOf.1 hya
    have h1 : nth g j = nth g y := C.same j y hj hy (by
     have a1 : q1 = j := by omega
     have a2 : q2 = y := by omega
     rw [← a1, ← a2, e1, e2])
    rw [h1, ← C.cross x y hx hy hxy]
    exact h.grp x hx hxo
   have hdisa : ∀ d, d ∈ cs.eraseIdx q → ∀ z, z ∈ a → z ∉ d := fun d hd z hz hzd => by
    obtain ⟨k, hk, hne, rfl⟩ := List.mem_eraseIdx_iff_getElem.1 hd
    have hp := List.pairwise_iff_getElem.1 h.dis
    have hqa : cs[q] = a := by rw [← hae, List.getD_eq_getElem?_getD, List.getElem?_eq_getElem hlt]; rfl
    rcases Nat.lt_or_gt_of_ne hne with hh | hh
    ·exact hp k q hk hlt hh z hzd (by rw [hqa]; exact hz)
    ·exact hp q k hlt hk hh z (by rw [hqa]; exact hz) hzd
   have hnew : Gi m pl c g T i0 (own ++ a) (b || decide (1 < a.length)) (cs.eraseIdx q) := by
    refine ⟨fun z hz => ?_, List.mem_append_left _ h.fst, fun i k hi hk hc hio => ?_, ?_, fun j hj hjo => ?_, fun d hd => h.cir d (hsub d hd), h.dis.sublist (List.eraseIdx_sublist ..), fun j hj hjo => ?_, fun j hj => ?_⟩
    ·rcases List.mem_append.1 hz with hz | hz
     ·exact h.lin z hz
     ·exact hal z hz
    ·rcases List.mem_append.1 hio with hio | hio
     ·exact List.mem_append_left _ (h.cls i k hi hk hc hio)
     ·refine List.mem_append_right _ ?_
      rw [hac] at hio ⊢
      obtain ⟨q1, _, e1, hz1⟩ := mem_clsOf.1 hio
      refine mem_clsOf.2 ⟨k, by rw [C.clen]; exact hk, ?_, rfl⟩
      have a1 : q1 = i := by omega
      rw [← hc, ← a1, e1]
    ·rw [Bool.or_eq_true, decide_eq_true_eq, h.bad, hac, cls_two C.clen hia]
     constructor
     ·rintro (⟨i, k, h1, h2, h3, h4, h5⟩ | ⟨i, k, h1, h2, h3, h4, h5⟩)
      ·exact ⟨i, k, h1, h2, List.mem_append_left _ h3, List.mem_append_left _ h4, h5⟩
      ·exact ⟨i, k, h1, h2, List.mem_append_right _ h3, List.mem_append_right _ h4, h5⟩
     ·rintro ⟨i, k, h1, h2, h3, h4, h5⟩
      rcases List.mem_append.1 h3 with h3 | h3
      ·exact .inl ⟨i, k, h1, h2, h3, h.cls i k h1 (by omega) h5 h3, h5⟩
      ·refine .inr ⟨i, k, h1, h2, h3, ?_, h5⟩
       obtain ⟨q1, _, e1, hz1⟩ := mem_clsOf.1 h3
       refine mem_clsOf.2 ⟨k, by rw [C.clen]; omega, ?_, rfl⟩
       have a1 : q1 = i := by omega
       rw [← h5, ← a1, e1]
    ·rcases List.mem_append.1 hjo with hjo | hjo
     ·exact h.grp j hj hjo
     ·exact hgrpa j hj hjo
    ·rintro ⟨d, hd, hjd⟩
     rcases List.mem_append.1 hjo with hjo | hjo
     ·exact h.apart j hj hjo ⟨d, hsub d hd, hjd⟩
     ·exact hdisa d hd _ hjo hjd
    ·rw [h.tot j hj]
     constructor
     ·rintro (h1 | ⟨d, hd, hjd⟩)
      ·exact .inl (List.mem_append_left _ h1)
      ·rcases hsplit d hd with rfl | hd
       ·exact .inl (List.mem_append_right _ hjd)
       ·exact .inr ⟨d, hd, hjd⟩
     ·rintro (h1 | ⟨d, hd, hjd⟩)
      ·rcases List.mem_append.1 h1 with h1 | h1
       ·exact .inl h1
       ·exact .inr ⟨a, hmem, h1⟩
      ·exact .inr ⟨d, hsub d hd, hjd⟩
   have hle : (cs.eraseIdx q).length ≤ fuel := by rw [List.length_eraseIdx_of_lt hlt]; omega
   obtain ⟨own', b', cs', h1, h2, h3, h4⟩ := grow_run fuel _ _ _ hnew hle
   exact ⟨own', b', cs', h1, h2, by rw [List.length_eraseIdx_of_lt hlt] at h3; omega, h4⟩
end
end Go.Proofs.Ytepjhdblmghckaa.G


namespace Go.Proofs.Ytepjhdblmghckaa.G
open Go.Proofs.Ytepjhdblmghckaa.Q Go.Proofs.Ytepjhdblmghckaa.K Go.Proofs.Ytepjhdblmghckaa.Bf
open Go.RowKit Go.Proofs.YtepjhdblmghckaaW.PrintWords Go.Proofs.YtepjhdblmghckaaW.PrintLast Go.Proofs.YtepjhdblmghckaaW.PrintMore
set_option linter.unusedVariables false
def IsComp (m : Nat) (pl c g : List Int) (o : Cmp) (i : Nat) : Prop := i < m ∧ (∀ z, z ∈ o.1 ↔ ∃ j, j < m ∧ nth g j = nth g i ∧ z = (j : Int)) ∧ o.2 = badG pl c g m (nth g i).toNat
theorem turned_even {m : Nat} {pl : List Int} (L : LinP m pl) {j : Nat} (hj : j < m) : turnedB pl (j : Int) = evenL pl j := by
 unfold turnedB evenL linOf
 have h1 := L.pos (2 * j) (by omega)
 have h2 := L.pos (2 * j + 1) (by omega)
 rw [Int.toNat_natCast]
 unfold spanOf
 dsimp only
 rw [Int.tmod_eq_emod_of_nonneg (by omega), Int.tmod_eq_emod_of_nonneg (by omega)]
 exact decide_eq_decide.2 (by omega)
structure St (m : Nat) (pl c g : List Int) (cs : List (List Int)) (out : List Cmp) : Prop where
 cir : ∀ a, a ∈ cs → ∃ i, i < m ∧ a = clsOf c i
 dis : cs.Pairwise (fun a b => ∀ x, x ∈ a → x ∉ b)
 outc : ∀ o, o ∈ out → ∃ i, IsComp m pl c g o i
 outd : out.Pairwise (fun a b => ∀ x, x ∈ a.1 → x ∉ b.1)
 use : ∀ j, j < m → (InCs cs j ↔ ¬ ∃ o, o ∈ out ∧ (j : Int) ∈ o.1)
theorem St.cross {m : Nat} {pl c g : List Int} (C : CompG m pl c g) {cs : List (List Int)} {out : List Cmp} (h : St m pl c g cs out) {i k : Nat} (hi : i < m) (hk : k < m) (hx : crossN pl i k = true) (hin : InCs cs i) : InCs cs k := by
 rw [h.use k hk]
 rintro ⟨o, ho, hko⟩
 obtain ⟨i1, _, hcl, _⟩ := h.outc o ho
 obtain ⟨j, hj, e, ez⟩ := (hcl _).1 hko
 have ejk : k = j := by omega
 refine (h.use i hi).1 hin ⟨o, ho, (hcl _).2 ⟨i, hi, ?_, rfl⟩⟩
 rw [C.cross i k hi hk hx, ejk, e]
section
variable {m : Nat} {pl c g : List Int} (L : LinP m pl) (C : CompG m pl c g) (hg0 : ∀ q, 0 ≤ nth g q)
include L C hg0
theorem cmp_step {a : List Int} {r : List (List Int)} {out : List Cmp} (h : St m pl c g (a :: r) out) :
  ∃ own b cs', growF pl r.length (a, decide (1 < a.length)) r = ((own, b), cs') ∧ cs'.length ≤ r.length ∧ St m pl c g cs' (out ++ [(own, b && !own.any (turnedB pl))]) := by
 obtain ⟨i0, hi0, ha⟩ := h.cir a (List.mem_cons_self ..)
 have hal : ∀ z, z ∈ a → ∃ j, j < m ∧ z = (j : Int) := by rw [ha]; exact cls_lin C.clen
 have hpw := List.pairwise_cons.1 h.dis
 have hma : ∀ j, j < m → ((j : Int) ∈ a ↔ nth c j = nth c i0) := fun j hj => by
  rw [ha]
  constructor
  ·intro hz
   obtain ⟨q1, _, e1, hz1⟩ := mem_clsOf.1 hz
   have a1 : q1 = j := by omega
   rw [← a1]; exact e1
  ·intro e
   exact mem_clsOf.2 ⟨j, by rw [C.clen]; exact hj, e, rfl⟩
 have hG : Gi m pl c g (InCs (a :: r)) i0 a (decide (1 < a.length)) r := by
  refine ⟨hal, (hma i0 hi0).2 rfl, fun i k hi hk hc hio => (hma k hk).2 (by rw [← hc]; exact (hma i hi).1 hio), ?_, fun j hj hjo => C.same j i0 hj hi0 ((hma j hj).1 hjo), fun d hd => h.cir d (List.mem_cons_of_mem _ hd), hpw.2, fun j hj hjo => ?_, fun j hj => ?_⟩
  ·rw [decide_eq_true_eq, ha]
   exact cls_two C.clen hi0
  ·rintro ⟨d, hd, hjd⟩
   exact hpw.1 d hd _ hjo hjd
  ·constructor
   ·rintro ⟨d, hd, hjd⟩
    rcases List.mem_cons.1 hd with rfl | hd
    ·exact .inl hjd
    ·exact .inr ⟨d, hd, hjd⟩
   ·rintro (hj | ⟨d, hd, hjd⟩)
    ·exact ⟨a, List.mem_cons_self .., hj⟩
    ·exact ⟨d, List.mem_cons_of_mem _ hd, hjd⟩
 obtain ⟨own, b, cs', hgr, hG', hle, hno⟩ := grow_run L C r.length a (decide (1 < a.length)) r hG (Nat.le_refl _)
 refine ⟨own, b, cs', hgr, hle, ?_⟩
 have hcr : ∀ i k, i < m → k < m → crossN pl i k = true → (i : Int) ∈ own → (k : Int) ∈ own := fun i k hi hk hx hio => by
  have hT := h.cross C hi hk hx ((hG'.tot i hi).2 (.inl hio))
  rcases (hG'.tot k hk).1 hT with hko | ⟨d, hd, hkd⟩
  ·exact hko
  ·exfalso
   obtain ⟨i1, hi1, hd1⟩ := hG'.cir d hd
   exact hno d hd ((joined_iff L hG'.lin (by rw [hd1]; exact cls_lin C.clen)).2 ⟨i, k, hi, hk, hio, hkd, hx⟩)
 have hR := C.least (fun j => (j : Int) ∈ own) (fun i k hi hk hc hio => hG'.cls i k hi hk hc hio) hcr
 have hmem : ∀ z, z ∈ own ↔ ∃ j, j < m ∧ nth g j = nth g i0 ∧ z = (j : Int) := fun z => by
  constructor
  ·intro hz
   obtain ⟨j, hj, rfl⟩ := hG'.lin z hz
   exact ⟨j, hj, hG'.grp j hj hz, rfl⟩
  ·rintro ⟨j, hj, e, rfl⟩
   exact hR i0 j (by rw [C.len]; exact hi0) (by rw [C.len]; exact hj) e.symm hG'.fst
 have hq : ∀ j, j < m → ((nth g j).toNat = (nth g i0).toNat ↔ (j : Int) ∈ own) := fun j hj => by
  rw [hmem]
  have h1 := hg0 j
  have h2 := hg0 i0
  constructor
  ·intro e; exact ⟨j, hj, by omega, rfl⟩
  ·rintro ⟨j', hj', e, ez⟩
   have : j = j' := by omega
   rw [this, e]
 have hbad : (b && !own.any (turnedB pl)) = badG pl c g m (nth g i0).toNat := by
  unfold badG
  have e1 : b = twoG c g m (nth g i0).toNat := by
   rw [Bool.eq_iff_iff, hG'.bad]
   unfold twoG
   rw [List.any_eq_true]
   constructor
   ·rintro ⟨i, k, hi, hk, hio, hko, hc⟩
    exact ⟨i, List.mem_range.2 hi, by rw [Bool.and_eq_true, decide_eq_true_eq, List.any_eq_true]; exact ⟨(hq i hi).2 hio, k, List.mem_range.2 hk, decide_eq_true hc⟩⟩
   ·rintro ⟨i, hi, hh⟩
    rw [List.mem_range] at hi
    rw [Bool.and_eq_true, decide_eq_true_eq, List.any_eq_true] at hh
    obtain ⟨hiq, k, hk, hc⟩ := hh
    rw [List.mem_range] at hk
    have hio := (hq i hi).1 hiq
    exact ⟨i, k, hi, hk, hio, hG'.cls i k hi (by omega) (of_decide_eq_true hc) hio, of_decide_eq_true hc⟩
  have e2 : own.any (turnedB pl) = turnG pl g m (nth g i0).toNat := by
   rw [Bool.eq_iff_iff]
   unfold turnG
   rw [List.any_eq_true, List.any_eq_true]
   constructor
   ·rintro ⟨z, hz, ht⟩
    obtain ⟨j, hj, rfl⟩ := hG'.lin z hz
    exact ⟨j, List.mem_range.2 hj, by rw [Bool.and_eq_true, decide_eq_true_eq]; exact ⟨(hq j hj).2 hz, by rw [← turned_even L hj]; exact ht⟩⟩
   ·rintro ⟨j, hj, hh⟩
    rw [List.mem_range] at hj
    rw [Bool.and_eq_true, decide_eq_true_eq] at hh
    exact ⟨(j : Int), (hq j hj).1 hh.1, by rw [turned_even L hj]; exact hh.2⟩
  rw [e1, e2]
 refine ⟨hG'.cir, hG'.dis, fun o ho => ?_, ?_, fun j hj => ?_⟩
 ·rcases List.mem_append.1 ho with ho | ho
  ·exact h.outc o ho
  ·rw [List.mem_singleton] at ho
   subst ho
   exact ⟨i0, hi0, hmem, hbad⟩
 ·rw [List.pairwise_append]
  refine ⟨h.outd, List.pairwise_singleton _ _, fun o ho o' ho' x hx hx' => ?_⟩
  rw [List.mem_singleton] at ho'
  subst ho'
  obtain ⟨j, hj, rfl⟩ := hG'.lin x hx'
  exact (h.use j hj).1 ((hG'.tot j hj).2 (.inl hx')) ⟨o, ho, hx⟩
 ·constructor
  ·rintro hin ⟨o, ho, hjo⟩
   rcases List.mem_append.1 ho with ho | ho
   ·exact (h.use j hj).1 ((hG'.tot j hj).2 (.inr hin)) ⟨o, ho, hjo⟩
   ·rw [List.mem_singleton] at ho
    subst ho
    exact hG'.apart j hj hjo hin
  ·intro hn
   have hT : InCs (a :: r) j := (h.use j hj).2 (fun ⟨o, ho, hjo⟩ => hn ⟨o, List.mem_append_left _ ho, hjo⟩)
   rcases (hG'.tot j hj).1 hT with hjo | hin
   ·exact absurd ⟨_, List.mem_append_right _ (List.mem_singleton.2 rfl), hjo⟩ hn
   ·exact hin
theorem cmp_run : ∀ (fuel : Nat) (cs : List (List Int)) (out : List Cmp), St m pl c g cs out → cs.length ≤ fuel → St m pl c g [] (cmpF pl fuel cs out)
 | 0, cs, out, h, hl => by
  have e : cs = [] := List.eq_nil_of_length_eq_zero (by omega)
  subst e
  exact h
 | fuel + 1, [], out, h, _ => h
 | fuel + 1, a :: r, out, h, hl => by
  obtain ⟨own, b, cs', hgr, hle, hS⟩ := cmp_step L C hg0 h
  rw [cmpF, hgr]
  exact cmp_run fuel cs' _ hS (by rw [List.length_cons] at hl; omega)
end
structure AllC (m : Nat) (pl c g : List Int) (l : List Cmp) : Prop where
 outc : ∀ o, o ∈ l → ∃ i, IsComp m pl c g o i
 outd : l.Pairwise (fun a b => ∀ x, x ∈ a.1 → x ∉ b.1)
 all : ∀ j, j < m → ∃ o, o ∈ l ∧ (j : Int) ∈ o.1
theorem cls_cover {c : List Int} {m : Nat} (hc : c.length = m) : ∀ k, k ≤ m → ∀ j, j < m → (InCs (clsTo c k) j ↔ ∃ i, i < k ∧ nth c i = nth c j)
 | 0, _, j, _ => by
  constructor
  ·rintro ⟨a, ha, _⟩; cases ha
  ·rintro ⟨i, hi, _⟩; omega
 | k + 1, hk, j, hj => by
  have ih := cls_cover hc k (by omega) j hj
  rw [clsTo_succ]
  by_cases hf : firstIn c k = true
  ·rw [if_pos hf]
   constructor
   ·rintro ⟨a, ha, hja⟩
    rcases List.mem_append.1 ha with ha | ha
    ·obtain ⟨i, hi, e⟩ := ih.1 ⟨a, ha, hja⟩
     exact ⟨i, by omega, e⟩
    ·rw [List.mem_singleton] at ha
     subst ha
     obtain ⟨q, _, e, hz⟩ := mem_clsOf.1 hja
     have : q = j := by omega
     exact ⟨k, by omega, by rw [← this, e]⟩
   ·rintro ⟨i, hi, e⟩
    by_cases hik : i = k
    ·exact ⟨clsOf c k, List.mem_append_right _ (List.mem_singleton.2 rfl), mem_clsOf.2 ⟨j, by omega, by rw [← e, hik], rfl⟩⟩
    ·obtain ⟨a, ha, hja⟩ := ih.2 ⟨i, by omega, e⟩
     exact ⟨a, List.mem_append_left _ ha, hja⟩
  ·rw [if_neg hf, ih]
   constructor
   ·rintro ⟨i, hi, e⟩; exact ⟨i, by omega, e⟩
   ·rintro ⟨i, hi, e⟩
    by_cases hik : i = k
    ·rw [firstIn_iff] at hf
     have hn : ∃ j', j' < k ∧ nth c j' = nth c k := by
      refine Classical.byContradiction (fun hn => hf (fun j' hj' he => hn ⟨j', hj', he⟩))
     obtain ⟨j', hj', he⟩ := hn
     exact ⟨j', hj', by rw [he, ← e, hik]⟩
    ·exact ⟨i, by omega, e⟩
theorem cls_dis' (c : List Int) : ∀ k, k ≤ c.length → (clsTo c k).Pairwise (fun a b => ∀ x, x ∈ a → x ∉ b)
 | 0, _ => List.Pairwise.nil
 | k + 1, hk => by
  rw [clsTo_succ]
  by_cases hf : firstIn c k = true
  ·rw [if_pos hf, List.pairwise_append]
   refine ⟨cls_dis' c k (by omega), List.pairwise_singleton _ _, fun a ha b hb x hx hx' => ?_⟩
   rw [List.mem_singleton] at hb
   subst hb
   obtain ⟨q, hq, e, rfl⟩ := mem_clsOf.1 hx'
   obtain ⟨i, hi, e2⟩ := (cls_cover (c := c) rfl k (by omega) q hq).1 ⟨a, ha, hx⟩
   exact (firstIn_iff c k).1 hf i hi (by rw [e2, e])
  ·rw [if_neg hf]; exact cls_dis' c k (by omega)
theorem cls_cir (c : List Int) (k : Nat) : ∀ a, a ∈ clsTo c k → ∃ i, i < k ∧ a = clsOf c i := fun a ha => by
 unfold clsTo at ha
 obtain ⟨i, hi, rfl⟩ := List.mem_map.1 ha
 rw [List.mem_filter, List.mem_range] at hi
 exact ⟨i, hi.1, rfl⟩
theorem cmpL_all {s : List Int} {n : Nat} (hn : n ≤ 40) (hs : Stk true n s) : LinP (n + 1) (plL s) ∧ CompG (n + 1) (plL s) (rndL s) (grpL s) ∧ AllC (n + 1) (plL s) (rndL s) (grpL s) (cmpL s) := by
 have hl := hs.len
 have L := lin_of hn (pic_ok hs) (fun q => by have := plL_range s q; omega)
 have hc : (rndL s).length = n + 1 := by rw [rndL_len, hl]
 have C := grp_comp L hc
 have eg : grpL s = mergeL (allE (plL s) (n + 1)) (rndL s) := by unfold grpL; rw [hl]
 rw [← eg] at C
 have hS : St (n + 1) (plL s) (rndL s) (grpL s) (circL s) [] := by
  rw [circL_cls hn hs]
  refine ⟨cls_cir _ _, cls_dis' _ _ (by omega), (fun o ho => by cases ho), List.Pairwise.nil, fun j hj => ?_⟩
  rw [cls_cover hc (n + 1) (Nat.le_refl _) j hj]
  exact ⟨(fun _ ⟨o, ho, _⟩ => by cases ho), fun _ => ⟨j, hj, rfl⟩⟩
 have h := cmp_run L C (fun q => (grpL_in s q).1) (circL s).length (circL s) [] hS (Nat.le_refl _)
 refine ⟨L, C, h.outc, h.outd, fun j hj => ?_⟩
 refine Classical.byContradiction (fun hh => ?_)
 obtain ⟨a, ha, _⟩ := (h.use j hj).2 hh
 cases ha
end Go.Proofs.Ytepjhdblmghckaa.G


namespace Go.Proofs.Ytepjhdblmghckaa.G
open Go.Proofs.Ytepjhdblmghckaa.Q Go.Proofs.Ytepjhdblmghckaa.K Go.Proofs.Ytepjhdblmghckaa.Bf
open Go.RowKit Go.Proofs.YtepjhdblmghckaaW.PrintWords Go.Proofs.YtepjhdblmghckaaW.PrintLast Go.Proofs.YtepjhdblmghckaaW.PrintMore
set_option linter.unusedVariables false
def sqStep (row : List Int) (i : Int) : List Int := if row.getLast? = some i then row else row ++ [i]
def sqTo (A : List Int) (k : Nat) : List Int := (A.take k).foldl sqStep []
theorem sqTo_succ {A : List Int} {k : Nat} (h : k < A.length) : sqTo A (k + 1) = sqStep (sqTo A k) (nth A k) := by
 unfold sqTo
 rw [List.take_succ_eq_append_getElem h, List.foldl_append, nth_get A k h]
 rfl
def begL (A : List Int) (a : Int) (k : Nat) : Nat := (List.range k).countP (fun i => decide (nth A i = a) && (decide (i = 0) || decide (nth A (i - 1) ≠ a)))
theorem begL_step (A : List Int) (a : Int) (k : Nat) : begL A a (k + 1) = begL A a k + if nth A k = a ∧ (k = 0 ∨ nth A (k - 1) ≠ a) then 1 else 0 := by
 unfold begL
 rw [List.range_succ, List.countP_append, List.countP_singleton]
 congr 1
 by_cases h : nth A k = a ∧ (k = 0 ∨ nth A (k - 1) ≠ a)
 ·rw [if_pos h, if_pos (by simpa using h)]
 ·rw [if_neg h, if_neg (by simpa using h)]
theorem sqTo_spec (A : List Int) (a : Int) : ∀ k, k ≤ A.length → (sqTo A k).getLast? = (if k = 0 then none else some (nth A (k - 1))) ∧ (sqTo A k).count a = begL A a k ∧ (0 < k → nth (sqTo A k) 0 = nth A 0 ∧ 0 < (sqTo A k).length) ∧ ∀ z, z ∈ sqTo A k ↔ z ∈ A.take k
 | 0, _ => ⟨rfl, rfl, fun h => absurd h (by omega), fun z => by simp [sqTo]⟩
 | k + 1, hk => by
  obtain ⟨h1, h2, h3, h4⟩ := sqTo_spec A a k (by omega)
  rw [sqTo_succ (by omega), begL_step]
  have ht : A.take (k + 1) = A.take k ++ [nth A k] := by rw [List.take_succ_eq_append_getElem (by omega), nth_get A k (by omega)]
  unfold sqStep
  by_cases e : (sqTo A k).getLast? = some (nth A k)
  ·rw [if_pos e]
   rw [e] at h1
   have hk0 : k ≠ 0 := fun h => by rw [if_pos h] at h1; cases h1
   rw [if_neg hk0] at h1
   injection h1 with h1
   refine ⟨by rw [if_neg (by omega), e]; rfl, ?_, fun _ => h3 (by omega), fun z => ?_⟩
   ·rw [h2, if_neg (fun h => ?_)]
    ·rfl
    ·rcases h.2 with h' | h'
     ·exact hk0 h'
     ·exact h' (by rw [← h1]; exact h.1)
   ·rw [h4, ht, List.mem_append, List.mem_singleton]
    constructor
    ·exact .inl
    ·rintro (h | h)
     ·exact h
     ·rw [← h4, h]
      exact List.mem_of_getLast? e
  ·rw [if_neg e]
   have hne : k = 0 ∨ nth A (k - 1) ≠ nth A k := by
    by_cases hk0 : k = 0
    ·exact .inl hk0
    ·rw [h1, if_neg hk0] at e
     exact .inr (fun h => e (by rw [h]))
   refine ⟨by rw [if_neg (by omega), List.getLast?_append]; rfl, ?_, fun _ => ⟨?_, by simp⟩, fun z => ?_⟩
   ·rw [List.count_append, h2, List.count_singleton]
    congr 1
    by_cases ha : nth A k = a
    ·rw [if_pos (by simpa using ha), if_pos ⟨ha, by rw [← ha]; exact hne⟩]
    ·rw [if_neg (by simpa using ha), if_neg (fun h => ha h.1)]
   ·by_cases hk0 : k = 0
    ·subst hk0
     rfl
    ·obtain ⟨h5, h6⟩ := h3 (by omega)
     rw [nth_app, if_pos h6, h5]
   ·rw [List.mem_append, h4, ht, List.mem_append]
theorem begN_begL (A : List Int) (a : Int) : ∀ k, k + 1 ≤ A.length → begN A a (k + 1) + (if nth A 0 = a ∧ nth A (A.length - 1) = a then 1 else 0) = begL A a (k + 1)
 | 0, hk => by
  rw [begN_step, begL_step]
  have e : ahead A 0 = nth A (A.length - 1) := by unfold ahead; rw [Nat.zero_add, Nat.mod_eq_of_lt (by omega)]
  have b0 : begN A a 0 = 0 := rfl
  have b1 : begL A a 0 = 0 := rfl
  rw [e, b0, b1]
  by_cases h1 : nth A 0 = a
  ·by_cases h2 : nth A (A.length - 1) = a
   ·rw [if_neg (fun h => h.2 h2), if_pos ⟨h1, h2⟩, if_pos ⟨h1, .inl rfl⟩]
   ·rw [if_pos ⟨h1, h2⟩, if_neg (fun h => h2 h.2), if_pos ⟨h1, .inl rfl⟩]
  ·rw [if_neg (fun h => h1 h.1), if_neg (fun h => h1 h.1), if_neg (fun h => h1 h.1)]
 | k + 1, hk => by
  have ih := begN_begL A a k (by omega)
  rw [begN_step, begL_step]
  have e : ahead A (k + 1) = nth A k := by
   unfold ahead
   rw [show k + 1 + A.length - 1 = k + A.length by omega, Nat.add_mod_right, Nat.mod_eq_of_lt (by omega)]
  rw [e, show k + 1 - 1 = k by omega]
  by_cases h : nth A (k + 1) = a ∧ nth A k ≠ a
  ·rw [if_pos h, if_pos (show nth A (k + 1) = a ∧ (k + 1 = 0 ∨ nth A k ≠ a) from ⟨h.1, .inr h.2⟩)]; omega
  ·rw [if_neg h, if_neg (show ¬ (nth A (k + 1) = a ∧ (k + 1 = 0 ∨ nth A k ≠ a)) from fun h' => h ⟨h'.1, h'.2.resolve_left (by omega)⟩)]; omega
theorem count_tail (l : List Int) (a : Int) (h : 0 < l.length) : l.count a = l.tail.count a + if nth l 0 = a then 1 else 0 := by
 match l, h with
 | x :: t, _ =>
  rw [List.tail_cons, List.count_cons]
  congr 1
  by_cases e : x = a
  ·rw [if_pos (by simpa using e), if_pos (by exact e)]
  ·rw [if_neg (by simpa using e), if_neg (by exact e)]
theorem nth_last {l : List Int} {z : Int} (h : l.getLast? = some z) : nth l (l.length - 1) = z ∧ 0 < l.length := by
 rw [List.getLast?_eq_getElem?] at h
 obtain ⟨hl, he⟩ := List.getElem?_eq_some_iff.1 h
 exact ⟨by rw [nth_get l _ hl, he], by omega⟩
theorem one_run {A : List Int} {a : Int} (ha : a ∈ A) : ((rowCut (sqTo A A.length)).count a = 1 ↔ begN A a A.length ≤ 1) := by
 have hlen : 0 < A.length := List.length_pos_of_mem ha
 obtain ⟨h1, h2, h3, h4⟩ := sqTo_spec A a A.length (Nat.le_refl _)
 rw [if_neg (by omega)] at h1
 obtain ⟨h5, h6⟩ := h3 hlen
 have hb := begN_begL A a (A.length - 1) (by omega)
 rw [show A.length - 1 + 1 = A.length by omega] at hb
 have hmem : a ∈ sqTo A A.length := (h4 a).2 (by rw [List.take_length]; exact ha)
 have hpos : 0 < (sqTo A A.length).count a := List.count_pos_iff.2 hmem
 obtain ⟨h7, _⟩ := nth_last h1
 obtain ⟨q, hq⟩ : ∃ q, sqTo A A.length = q := ⟨_, rfl⟩
 rw [hq] at h1 h2 h5 h6 hmem hpos h7 ⊢
 have hct := count_tail q a h6
 unfold rowCut
 by_cases hc : 1 < q.length ∧ nth q 0 = nth q (q.length - 1)
 ·rw [if_pos hc]
  rw [h5, h7] at hc
  rw [h5] at hct
  by_cases h0 : nth A 0 = a
  ·rw [if_pos ⟨h0, by rw [← hc.2, h0]⟩] at hb
   rw [if_pos h0] at hct
   have : 0 < q.tail.count a := by
    refine List.count_pos_iff.2 ?_
    match q, hc.1, h7 with
    | x :: y :: t, _, h7 =>
     have e : nth (x :: y :: t) ((x :: y :: t).length - 1) = nth (y :: t) ((y :: t).length - 1) := by
      simp only [List.length_cons]
      rfl
     rw [e, ← hc.2, h0] at h7
     rw [List.tail_cons, ← h7]
     exact nth_in _ _ (by simp)
   omega
  ·rw [if_neg (fun h => h0 h.1)] at hb
   rw [if_neg h0] at hct
   omega
 ·rw [if_neg hc]
  by_cases hl1 : 1 < q.length
  ·have hne : ¬ (nth A 0 = a ∧ nth A (A.length - 1) = a) := fun h => hc ⟨hl1, by rw [h5, h7, h.1, h.2]⟩
   rw [if_neg hne] at hb
   omega
  ·have hq1 : q.length = 1 := by omega
   match q, hq1 with
   | [x], _ =>
    rw [List.mem_singleton] at hmem
    subst hmem
    have h0 : nth A 0 = a := h5.symm
    have hL : nth A (A.length - 1) = a := h7.symm
    rw [if_pos ⟨h0, hL⟩] at hb
    have : [a].count a = 1 := by simp
    omega
theorem outTo_at {row : List Int} {N : Nat} (hr : ∀ i, i ∈ row → 0 ≤ i ∧ i < (N : Int)) {a : Nat} (ha : a < N) : ∀ k, k ≤ row.length → (outTo row N k).length = N ∧ (outTo row N k).getD a false = (decide ((a : Int) ∈ row.take k) && decide (row.count (a : Int) = 1))
 | 0, _ => by
  refine ⟨by simp [outTo], ?_⟩
  have : outTo row N 0 = List.replicate N false := rfl
  rw [this, List.getD_eq_getElem?_getD, List.getElem?_replicate, if_pos ha]
  simp
 | k + 1, hk => by
  obtain ⟨h1, h2⟩ := outTo_at hr ha k (by omega)
  have ht : row.take (k + 1) = row.take k ++ [nth row k] := by rw [List.take_succ_eq_append_getElem (by omega), nth_get row k (by omega)]
  have hs : outTo row N (k + 1) = (outTo row N k).set (nth row k).toNat (decide (row.count (nth row k) = 1)) := by
   unfold outTo; rw [ht, List.foldl_append]; rfl
  have hv := hr (nth row k) (nth_in row k (by omega))
  rw [hs]
  refine ⟨by rw [List.length_set, h1], ?_⟩
  rw [set_at _ _ _ _ (by omega), ht]
  by_cases e : a = (nth row k).toNat
  ·have e2 : nth row k = (a : Int) := by omega
   rw [if_pos e, e2]
   simp
  ·rw [if_neg e, h2]
   have e2 : (a : Int) ≠ nth row k := by omega
   congr 1
   exact decide_eq_decide.2 (by rw [List.mem_append, List.mem_singleton]; exact ⟨.inl, fun h => h.resolve_right e2⟩)
theorem rowCut_mem {row : List Int} {z : Int} (h : z ∈ rowCut row) : z ∈ row := by
 unfold rowCut at h
 split at h
 ·exact List.mem_of_mem_tail h
 ·exact h
theorem rowTo_sq (M : Im) : ∀ (p row : List Int), p.foldl (rowStep M) row = (p.filterMap M).foldl sqStep row
 | [], _ => rfl
 | x :: p, row => by
  rw [List.foldl_cons, rowTo_sq M p]
  cases h : M x with
  | none => rw [List.filterMap_cons_none h]; unfold rowStep; rw [h]
  | some i => rw [List.filterMap_cons_some h, List.foldl_cons]; unfold rowStep sqStep; rw [h]
theorem rowTo_letters (M : Im) (p : List Int) : rowTo M p p.length = sqTo (p.filterMap M) (p.filterMap M).length := by
 unfold rowTo sqTo
 rw [List.take_length, List.take_length, rowTo_sq]
end Go.Proofs.Ytepjhdblmghckaa.G


namespace Go.Proofs.Ytepjhdblmghckaa.G
open Go.Proofs.Ytepjhdblmghckaa.Q Go.Proofs.Ytepjhdblmghckaa.K Go.Proofs.Ytepjhdblmghckaa.Bf
open Go.RowKit Go.Proofs.YtepjhdblmghckaaW.PrintWords Go.Proofs.YtepjhdblmghckaaW.PrintLast Go.Proofs.YtepjhdblmghckaaW.PrintMore
set_option linter.unusedVariables false
abbrev cA (l : List Cmp) (a : Nat) : Cmp := l.getD a ([], false)
def labL (g : List Int) (l : List Cmp) (a : Nat) : Nat := (nth g (nth (cA l a).1 0).toNat).toNat
structure Lb (m : Nat) (pl c g : List Int) (l : List Cmp) : Prop where
 lt : ∀ a, a < l.length → labL g l a < m ∧ isG g m (labL g l a) = true
 bad : ∀ a, a < l.length → (cA l a).2 = badG pl c g m (labL g l a)
 lin : ∀ a, a < l.length → ∀ z, z ∈ (cA l a).1 ↔ ∃ j, j < m ∧ (nth g j).toNat = labL g l a ∧ z = (j : Int)
 inj : ∀ a b, a < l.length → b < l.length → labL g l a = labL g l b → a = b
 sur : ∀ q, isG g m q = true → ∃ a, a < l.length ∧ labL g l a = q
theorem isG_iff {g : List Int} {m q : Nat} : isG g m q = true ↔ ∃ j, j < m ∧ (nth g j).toNat = q := by
 unfold isG
 rw [List.any_eq_true]
 exact ⟨fun ⟨j, hj, h⟩ => ⟨j, List.mem_range.1 hj, of_decide_eq_true h⟩, fun ⟨j, hj, h⟩ => ⟨j, List.mem_range.2 hj, decide_eq_true h⟩⟩
theorem lab_ok {m : Nat} {pl c g : List Int} {l : List Cmp} (A : AllC m pl c g l) (hg : ∀ q, 0 ≤ nth g q ∧ nth g q < (m : Int)) : Lb m pl c g l := by
 have key : ∀ a, a < l.length → ∃ i, IsComp m pl c g (cA l a) i ∧ labL g l a = (nth g i).toNat := fun a ha => by
  obtain ⟨i, hi, h1, h2⟩ := A.outc (cA l a) (getD_mem ha)
  refine ⟨i, ⟨hi, h1, h2⟩, ?_⟩
  have hmem : (i : Int) ∈ (cA l a).1 := (h1 _).2 ⟨i, hi, rfl, rfl⟩
  have hpos : 0 < (cA l a).1.length := List.length_pos_of_mem hmem
  obtain ⟨j, hj, e, ez⟩ := (h1 _).1 (nth_in (cA l a).1 0 hpos)
  unfold labL
  rw [ez, Int.toNat_natCast, e]
 have lin : ∀ a, a < l.length → ∀ z, z ∈ (cA l a).1 ↔ ∃ j, j < m ∧ (nth g j).toNat = labL g l a ∧ z = (j : Int) := fun a ha z => by
  obtain ⟨i, ⟨hi, h1, h2⟩, hl⟩ := key a ha
  rw [h1]
  have gi := hg i
  constructor
  ·rintro ⟨j, hj, e, ez⟩; exact ⟨j, hj, by rw [hl, e], ez⟩
  ·rintro ⟨j, hj, e, ez⟩
   have gj := hg j
   exact ⟨j, hj, by omega, ez⟩
 refine ⟨fun a ha => ?_, fun a ha => ?_, lin, fun a b ha hb h => ?_, fun q hq => ?_⟩
 ·obtain ⟨i, ⟨hi, h1, h2⟩, hl⟩ := key a ha
  have gi := hg i
  exact ⟨by omega, isG_iff.2 ⟨i, hi, hl.symm⟩⟩
 ·obtain ⟨i, ⟨hi, h1, h2⟩, hl⟩ := key a ha
  rw [hl]; exact h2
 ·obtain ⟨i, ⟨hi, h1, h2⟩, hl⟩ := key a ha
  have ma : (i : Int) ∈ (cA l a).1 := (h1 _).2 ⟨i, hi, rfl, rfl⟩
  have mb : (i : Int) ∈ (cA l b).1 := (lin b hb _).2 ⟨i, hi, by rw [← h, hl], rfl⟩
  have hp := List.pairwise_iff_getElem.1 A.outd
  have ga : ∀ a (ha : a < l.length), cA l a = l[a] := fun a ha => by unfold cA; rw [List.getD_eq_getElem?_getD, List.getElem?_eq_getElem ha]; rfl
  rw [ga a ha] at ma
  rw [ga b hb] at mb
  rcases Nat.lt_trichotomy a b with hh | hh | hh
  ·exact absurd mb (hp a b ha hb hh _ ma)
  ·exact hh
  ·exact absurd ma (hp b a hb ha hh _ mb)
 ·obtain ⟨j, hj, e⟩ := isG_iff.1 hq
  obtain ⟨o, ho, hjo⟩ := A.all j hj
  obtain ⟨a, ha, rfl⟩ := List.getElem_of_mem ho
  have ga : cA l a = l[a] := by unfold cA; rw [List.getD_eq_getElem?_getD, List.getElem?_eq_getElem ha]; rfl
  rw [← ga] at hjo
  obtain ⟨j', hj', e', ez⟩ := (lin a ha _).1 hjo
  have : j = j' := by omega
  exact ⟨a, ha, by rw [← e', ← this, e]⟩
theorem cnt_bij {m N : Nat} (lab : Nat → Nat) (f : Nat → Bool) (hlt : ∀ a, a < N → lab a < m) (hinj : ∀ a b, a < N → b < N → lab a = lab b → a = b) (hsur : ∀ q, q < m → f q = true → ∃ a, a < N ∧ lab a = q) : cntB f m = cntB (fun a => f (lab a)) N := by
 unfold cntB
 rw [List.countP_eq_length_filter, List.countP_eq_length_filter, show ((List.range N).filter (fun a => f (lab a))).length = (((List.range N).filter (fun a => f (lab a))).map lab).length from (List.length_map ..).symm]
 refine List.Perm.length_eq ?_
 have nd : (((List.range N).filter (fun a => f (lab a))).map lab).Nodup := by
  have h0 : ((List.range N).filter (fun a => f (lab a))).Pairwise (· < ·) := List.pairwise_lt_range.filter _
  rw [List.Nodup, List.pairwise_map]
  refine List.Pairwise.imp_of_mem (fun {a b} ha hb h e => ?_) h0
  rw [List.mem_filter, List.mem_range] at ha hb
  have := hinj a b ha.1 hb.1 e
  omega
 refine (List.perm_ext_iff_of_nodup (List.nodup_range.filter _) nd).2 (fun q => ?_)
 rw [List.mem_filter, List.mem_range, List.mem_map]
 constructor
 ·rintro ⟨h1, h2⟩
  obtain ⟨a, ha, rfl⟩ := hsur q h1 h2
  exact ⟨a, by rw [List.mem_filter, List.mem_range]; exact ⟨ha, h2⟩, rfl⟩
 ·rintro ⟨a, ha, rfl⟩
  rw [List.mem_filter, List.mem_range] at ha
  exact ⟨hlt a ha.1, ha.2⟩
theorem lineTo_at (i : Int) : ∀ (xs : List Int) (M : Im) (y : Int), lineTo M i xs y = if y / 2 ∈ xs then some i else M y
 | [], M, y => by simp [lineTo]
 | x :: xs, M, y => by
  have h := lineTo_at i xs ((M.put (2 * x) i).put (2 * x + 1) i) y
  have e : lineTo M i (x :: xs) y = lineTo ((M.put (2 * x) i).put (2 * x + 1) i) i xs y := rfl
  rw [e, h]
  by_cases h1 : y / 2 ∈ xs
  ·rw [if_pos h1, if_pos (List.mem_cons_of_mem _ h1)]
  ·rw [if_neg h1]
   unfold Im.put
   by_cases h2 : y / 2 = x
   ·rw [if_pos (List.mem_cons.2 (.inl h2))]
    by_cases h3 : y = 2 * x + 1
    ·rw [if_pos h3]
    ·rw [if_neg h3, if_pos (by omega)]
   ·rw [if_neg (by omega), if_neg (by omega), if_neg (fun h => (List.mem_cons.1 h).elim h2 h1)]
section
variable {m : Nat} {pl c g : List Int} {l : List Cmp} (B : Lb m pl c g l) (hg : ∀ q, 0 ≤ nth g q ∧ nth g q < (m : Int)) (wo : Int)
def lf (l : List Cmp) (wo : Int) (a : Nat) : Bool := (cA l a).2 && !decide ((a : Int) = wo)
include B
theorem who_at (y : Int) : ∀ k, k ≤ l.length → ∀ v, (whoTo l wo k y = some v ↔ ∃ a, a < k ∧ v = (a : Int) ∧ lf l wo a = true ∧ y / 2 ∈ (cA l a).1)
 | 0, _, v => by
  constructor
  ·intro h; cases h
  ·rintro ⟨a, ha, _⟩; omega
 | k + 1, hk, v => by
  have ih := who_at y k (by omega)
  rw [whoTo_step]
  unfold whoStep
  by_cases h1 : (l.getD k ([], false)).2 = true ∧ (k : Int) ≠ wo
  ·have hlf : lf l wo k = true := by unfold lf; rw [h1.1]; simp [h1.2]
   rw [if_pos h1, lineTo_at]
   by_cases h2 : y / 2 ∈ (l.getD k ([], false)).1
   ·rw [if_pos h2]
    constructor
    ·intro h; injection h with h; exact ⟨k, by omega, h.symm, hlf, h2⟩
    ·rintro ⟨a, ha, e, _, hy⟩
     obtain ⟨j, hj, e1, ez⟩ := (B.lin k (by omega) _).1 h2
     obtain ⟨j', hj', e2, ez'⟩ := (B.lin a (by omega) _).1 hy
     have ejj : j = j' := by omega
     have := B.inj a k (by omega) (by omega) (by rw [← e2, ← ejj, e1])
     rw [e, this]
   ·rw [if_neg h2, ih]
    constructor
    ·rintro ⟨a, ha, h⟩; exact ⟨a, by omega, h⟩
    ·rintro ⟨a, ha, e, hl, hy⟩
     by_cases eak : a = k
     ·subst eak; exact absurd hy h2
     ·exact ⟨a, by omega, e, hl, hy⟩
  ·rw [if_neg h1, ih]
   constructor
   ·rintro ⟨a, ha, h⟩; exact ⟨a, by omega, h⟩
   ·rintro ⟨a, ha, e, hl, hy⟩
    by_cases eak : a = k
    ·subst eak
     exfalso
     unfold lf at hl
     rw [Bool.and_eq_true, Bool.not_eq_true', decide_eq_false_iff_not] at hl
     exact h1 hl
    ·exact ⟨a, by omega, e, hl, hy⟩
include hg
theorem lets_eq (D : Nat → Bool) (hD : ∀ a, a < l.length → D (labL g l a) = lf l wo a) : ∀ p : List Int, (∀ x, x ∈ p → 0 ≤ x ∧ x < 2 * (m : Int)) →
  (p.map (fun x => nth g (x.toNat / 2))).filter (fun z => (flg m D).getD z.toNat false) = (p.filterMap (whoTo l wo l.length)).map (fun a => ((labL g l a.toNat : Nat) : Int))
 | [], _ => rfl
 | x :: p, hp => by
  have ih := lets_eq D hD p (fun y hy => hp y (List.mem_cons_of_mem _ hy))
  have hx := hp x (List.mem_cons_self ..)
  have hgx := hg (x.toNat / 2)
  have hj : x.toNat / 2 < m := by omega
  have ej : x / 2 = ((x.toNat / 2 : Nat) : Int) := by omega
  obtain ⟨a, ha, hla⟩ := B.sur _ (isG_iff.2 ⟨x.toNat / 2, hj, rfl⟩)
  have hD' : (flg m D).getD (nth g (x.toNat / 2)).toNat false = lf l wo a := by rw [flg_at _ (by omega), ← hla, hD a ha]
  have hline : x / 2 ∈ (cA l a).1 := (B.lin a ha _).2 ⟨x.toNat / 2, hj, hla.symm, ej⟩
  rw [List.map_cons, List.filter_cons, hD', ih]
  by_cases e : lf l wo a = true
  ·have hM : whoTo l wo l.length x = some (a : Int) := (who_at B wo x l.length (Nat.le_refl _) _).2 ⟨a, ha, rfl, e, hline⟩
   rw [if_pos e, List.filterMap_cons_some hM, List.map_cons, Int.toNat_natCast, hla]
   congr 1
   omega
  ·have hM : whoTo l wo l.length x = none := by
    cases h : whoTo l wo l.length x with
    | none => rfl
    | some v =>
     exfalso
     obtain ⟨a', ha', _, e', hy⟩ := (who_at B wo x l.length (Nat.le_refl _) _).1 h
     obtain ⟨j', hj', e2, ez'⟩ := (B.lin a' ha' _).1 hy
     have ejj : x.toNat / 2 = j' := by omega
     have := B.inj a a' ha ha' (by rw [hla, ← e2, ejj])
     rw [this] at e
     exact e e'
   rw [if_neg e, List.filterMap_cons_none hM]
theorem hurd_at (D : Nat → Bool) (hD : ∀ a, a < l.length → D (labL g l a) = lf l wo a) (p : List Int) (hp : ∀ x, x ∈ p → 0 ≤ x ∧ x < 2 * (m : Int)) (hall : ∀ j, j < m → ∃ x, x ∈ p ∧ x.toNat / 2 = j) {a : Nat} (ha : a < l.length) :
  (hurdF p l wo).getD a false = (D (labL g l a) && wholeB p g (flg m D) ((labL g l a : Nat) : Int)) := by
 obtain ⟨M, hM⟩ : ∃ M, whoTo l wo l.length = M := ⟨_, rfl⟩
 obtain ⟨A, hA⟩ : ∃ A, p.filterMap M = A := ⟨_, rfl⟩
 have hin : ∀ z, z ∈ A → 0 ≤ z ∧ z < (l.length : Int) ∧ lf l wo z.toNat = true := fun z hz => by
  rw [← hA] at hz
  obtain ⟨x, hx, e⟩ := List.mem_filterMap.1 hz
  rw [← hM] at e
  obtain ⟨b, hb, rfl, hl, _⟩ := (who_at B wo x l.length (Nat.le_refl _) _).1 e
  exact ⟨by omega, by omega, by rw [Int.toNat_natCast]; exact hl⟩
 have hrow : rowTo (whoTo l wo l.length) p p.length = sqTo A A.length := by rw [rowTo_letters, hM, hA]
 have hsub : ∀ z, z ∈ rowCut (sqTo A A.length) → z ∈ A := fun z hz => by
  have := ((sqTo_spec A z A.length (Nat.le_refl _)).2.2.2 z).1 (rowCut_mem hz)
  rw [List.take_length] at this
  exact this
 have hout := (outTo_at (row := rowCut (sqTo A A.length)) (N := l.length) (fun z hz => ⟨(hin z (hsub z hz)).1, (hin z (hsub z hz)).2.1⟩) ha _ (Nat.le_refl _)).2
 unfold hurdF
 rw [hrow, hout, List.take_length, hD a ha]
 have hlets : lets p g (flg m D) p.length = A.map (fun a => ((labL g l a.toNat : Nat) : Int)) := by
  unfold lets
  rw [List.take_length, lets_eq B hg wo D hD p hp, hM, hA]
 by_cases e : lf l wo a = true
 ·rw [e, Bool.true_and]
  have haA : (a : Int) ∈ A := by
   obtain ⟨j, hj, e1⟩ := isG_iff.1 (B.lt a ha).2
   obtain ⟨x, hx, ex⟩ := hall j hj
   have hx0 := hp x hx
   rw [← hA]
   refine List.mem_filterMap.2 ⟨x, hx, ?_⟩
   rw [← hM]
   exact (who_at B wo x l.length (Nat.le_refl _) _).2 ⟨a, ha, rfl, e, (B.lin a ha _).2 ⟨j, hj, e1, by omega⟩⟩
  have hone := one_run haA
  have hbeg : begN (A.map (fun a => ((labL g l a.toNat : Nat) : Int))) ((labL g l a : Nat) : Int) A.length = begN A (a : Int) A.length := by
   unfold begN
   have hnm : ∀ i, i < A.length → nth (A.map (fun a => ((labL g l a.toNat : Nat) : Int))) i = ((labL g l (nth A i).toNat : Nat) : Int) := fun i hi => by
    rw [nth_get _ i (by rw [List.length_map]; exact hi), List.getElem_map, nth_get A i hi]
   have hiff : ∀ i, i < A.length → ((nth (A.map (fun a => ((labL g l a.toNat : Nat) : Int))) i = ((labL g l a : Nat) : Int)) ↔ nth A i = (a : Int)) := fun i hi => by
    rw [hnm i hi]
    have hz := hin _ (nth_in A i hi)
    constructor
    ·intro h
     have := B.inj (nth A i).toNat a (by omega) ha (by omega)
     omega
    ·intro h; rw [h, Int.toNat_natCast]
   refine List.countP_congr (fun i hi => ?_)
   rw [List.mem_range] at hi
   have hmod : (i + A.length - 1) % A.length < A.length := Nat.mod_lt _ (by omega)
   unfold ahead
   rw [List.length_map, Bool.and_eq_true, Bool.and_eq_true, decide_eq_true_eq, decide_eq_true_eq, decide_eq_true_eq, decide_eq_true_eq, hiff i hi, Ne, Ne, hiff _ hmod]
  unfold wholeB
  rw [hlets, List.length_map, hbeg]
  by_cases h1 : (rowCut (sqTo A A.length)).count (a : Int) = 1
  ·have hmem : (a : Int) ∈ rowCut (sqTo A A.length) := List.count_pos_iff.1 (by omega)
   rw [decide_eq_true h1, decide_eq_true hmem, decide_eq_true (hone.1 h1)]
   rfl
  ·rw [decide_eq_false h1, decide_eq_false (fun h => h1 (hone.2 h)), Bool.and_false]
 ·have hnot : (a : Int) ∉ rowCut (sqTo A A.length) := fun h => by
   have := (hin _ (hsub _ h)).2.2
   rw [Int.toNat_natCast] at this
   exact e this
  rw [decide_eq_false hnot, Bool.false_and, Bool.eq_false_iff.2 e, Bool.false_and]
end
end Go.Proofs.Ytepjhdblmghckaa.G


namespace Go.Proofs.Ytepjhdblmghckaa.G
open Go.Proofs.Ytepjhdblmghckaa.Q Go.Proofs.Ytepjhdblmghckaa.K Go.Proofs.Ytepjhdblmghckaa.Bf
open Go.RowKit Go.Proofs.YtepjhdblmghckaaW.PrintWords Go.Proofs.YtepjhdblmghckaaW.PrintLast Go.Proofs.YtepjhdblmghckaaW.PrintMore
set_option linter.unusedVariables false
theorem count_and (a b : Nat → Bool) : ∀ L : List Nat, L.countP (fun i => a i && b i) ≤ L.countP a ∧ (L.countP (fun i => a i && b i) = L.countP a ↔ ∀ i, i ∈ L → a i = true → b i = true)
 | [] => ⟨Nat.le_refl _, fun _ i hi => (by cases hi), fun _ => rfl⟩
 | x :: L => by
  obtain ⟨h1, h2⟩ := count_and a b L
  rw [List.countP_cons, List.countP_cons]
  cases ha : a x with
  | false =>
   refine ⟨by simp; exact h1, ?_⟩
   simp only [Bool.false_and, if_neg (show ¬ (false = true) by decide), Nat.add_zero]
   rw [h2]
   constructor
   ·intro h i hi hai
    rcases List.mem_cons.1 hi with rfl | hi
    ·rw [ha] at hai; cases hai
    ·exact h i hi hai
   ·intro h i hi; exact h i (List.mem_cons_of_mem _ hi)
  | true =>
   cases hb : b x with
   | false =>
    simp only [Bool.true_and, if_neg (show ¬ (false = true) by decide), if_true]
    refine ⟨by omega, ⟨fun h => by omega, fun h => ?_⟩⟩
    have := h x (List.mem_cons_self ..) ha
    rw [hb] at this; cases this
   | true =>
    simp only [Bool.true_and, if_true]
    refine ⟨by omega, ?_⟩
    rw [Nat.add_right_cancel_iff, h2]
    constructor
    ·intro h i hi hai
     rcases List.mem_cons.1 hi with rfl | hi
     ·exact hb
     ·exact h i hi hai
    ·intro h i hi; exact h i (List.mem_cons_of_mem _ hi)
theorem fort_iff (p g : List Int) (m : Nat) (bad : Nat → Bool) : ∀ k, (fortG p g m bad k = true ↔ cntB (hurG p g m bad) m % 2 = 1 ∧ ∀ i, i < k → hurG p g m bad i = true → superG p g m bad i m = true)
 | 0 => by
  unfold fortG
  rw [decide_eq_true_eq]
  exact ⟨fun h => ⟨h, fun i hi => absurd hi (by omega)⟩, fun h => h.1⟩
 | k + 1 => by
  have ih := fort_iff p g m bad k
  rw [fortG]
  by_cases h : hurG p g m bad k = true
  ·rw [if_pos h, Bool.and_eq_true, ih]
   constructor
   ·rintro ⟨⟨h1, h2⟩, h3⟩
    refine ⟨h1, fun i hi hh => ?_⟩
    by_cases e : i = k
    ·rw [e]; exact h3
    ·exact h2 i (by omega) hh
   ·rintro ⟨h1, h2⟩
    exact ⟨⟨h1, fun i hi hh => h2 i (by omega) hh⟩, h2 k (by omega) h⟩
  ·rw [if_neg h, ih]
   constructor
   ·rintro ⟨h1, h2⟩
    refine ⟨h1, fun i hi hh => ?_⟩
    by_cases e : i = k
    ·rw [e] at hh; exact absurd hh h
    ·exact h2 i (by omega) hh
   ·rintro ⟨h1, h2⟩
    exact ⟨h1, fun i hi hh => h2 i (by omega) hh⟩
theorem bad_is {pl c g : List Int} {m q : Nat} (h : badG pl c g m q = true) : isG g m q = true := by
 unfold badG at h
 rw [Bool.and_eq_true] at h
 have h1 := h.1
 unfold twoG at h1
 rw [List.any_eq_true] at h1
 obtain ⟨j, hj, hh⟩ := h1
 rw [Bool.and_eq_true] at hh
 exact isG_iff.2 ⟨j, List.mem_range.1 hj, of_decide_eq_true hh.1⟩
theorem tal_com {s : List Int} {n : Nat} (hn : n ≤ 40) (hs : Stk true n s) : comD s = ((((talF (picL s) (cmpL s)).1 : Nat) : Int), (((talF (picL s) (cmpL s)).2.1 : Nat) : Int), (((talF (picL s) (cmpL s)).2.2.1 : Nat) : Int), (talF (picL s) (cmpL s)).2.2.2) := by
 have hl := hs.len
 obtain ⟨Ln, Cm, Al⟩ := cmpL_all hn hs
 have P := pic_ok hs
 have hg : ∀ q, 0 ≤ nth (grpL s) q ∧ nth (grpL s) q < ((n + 1 : Nat) : Int) := fun q => by have := grpL_in s q; rw [hl] at this; exact this
 have B := lab_ok Al hg
 have hrng := picL_range s (fun x hx => by have := hs.rng x hx; rw [hl]; exact this)
 have hlen : (picL s).length = 2 * n + 2 := by rw [picL_len, hl]
 have hp : ∀ x, x ∈ picL s → 0 ≤ x ∧ x < 2 * ((n + 1 : Nat) : Int) := fun x hx => by
  obtain ⟨q, hq, rfl⟩ := mem_nth hx
  have := hrng q
  rw [hl] at this
  omega
 have hall : ∀ j, j < n + 1 → ∃ x, x ∈ picL s ∧ x.toNat / 2 = j := fun j hj => by
  have h1 := P.l_lt (2 * j) (by omega)
  exact ⟨nth (picL s) (nth (plL s) (2 * j)).toNat, nth_in _ _ (by omega), by rw [P.pp (2 * j) (by omega)]; omega⟩
 have eb : badD s = badG (plL s) (rndL s) (grpL s) (n + 1) := by unfold badD; rw [hl]
 unfold comD
 rw [hl]
 obtain ⟨bad, hbe⟩ : ∃ bad, badD s = bad := ⟨_, rfl⟩
 rw [hbe] at eb ⊢
 obtain ⟨p, hpe⟩ : ∃ p, picL s = p := ⟨_, rfl⟩
 rw [hpe] at hp hall ⊢
 obtain ⟨l, hle⟩ : ∃ l, cmpL s = l := ⟨_, rfl⟩
 rw [hle] at B ⊢
 obtain ⟨g, hge⟩ : ∃ g, grpL s = g := ⟨_, rfl⟩
 rw [hge] at B hg eb ⊢
 have hlb : ∀ a, a < l.length → labL g l a < n + 1 := fun a ha => (B.lt a ha).1
 have hbad : ∀ a, a < l.length → (cA l a).2 = bad (labL g l a) := fun a ha => by rw [eb]; exact B.bad a ha
 have hbi : ∀ q, bad q = true → isG g (n + 1) q = true := fun q h => by rw [eb] at h; exact bad_is h
 have his : ∀ a, a < l.length → (hurdF p l (-1)).getD a false = hurG p g (n + 1) bad (labL g l a) := fun a ha => hurd_at B hg (-1) bad (fun a ha => by
  rw [← hbad a ha]
  unfold lf
  rw [decide_eq_false (by omega : ¬ (a : Int) = -1)]
  simp) p hp hall ha
 have hnow : ∀ i, i < l.length → ∀ a, a < l.length → (hurdF p l (i : Int)).getD a false = (lessG bad (labL g l i) (labL g l a) && wholeB p g (flg (n + 1) (lessG bad (labL g l i))) ((labL g l a : Nat) : Int)) := fun i hi a ha => hurd_at B hg (i : Int) (lessG bad (labL g l i)) (fun a ha => by
  unfold lf lessG
  rw [hbad a ha]
  congr 2
  exact decide_eq_decide.2 ⟨fun h => by rw [B.inj a i ha hi h], fun h => by rw [show a = i by omega]⟩) p hp hall ha
 have hany : ∀ i, i < l.length → anyNew (hurdF p l (i : Int)) (hurdF p l (-1)) = superG p g (n + 1) bad (labL g l i) (n + 1) := fun i hi => by
  rw [Bool.eq_iff_iff]
  unfold anyNew superG
  rw [hurdF_len, List.any_eq_true, List.any_eq_true]
  constructor
  ·rintro ⟨k, hk, h⟩
   rw [List.mem_range] at hk
   rw [hnow i hi k hk, his k hk] at h
   refine ⟨labL g l k, List.mem_range.2 (hlb k hk), ?_⟩
   unfold newG
   simp only [Bool.and_eq_true] at h ⊢
   exact ⟨⟨h.1.1, h.2⟩, h.1.2⟩
  ·rintro ⟨q, hq, h⟩
   unfold newG at h
   simp only [Bool.and_eq_true] at h
   have hbq : bad q = true := by
    have := h.1.1
    unfold lessG at this
    rw [Bool.and_eq_true] at this
    exact this.1
   obtain ⟨k, hk, rfl⟩ := B.sur q (hbi q hbq)
   refine ⟨k, List.mem_range.2 hk, ?_⟩
   rw [hnow i hi k hk, his k hk]
   simp only [Bool.and_eq_true]
   exact ⟨⟨h.1.1, h.2⟩, h.1.2⟩
 have e1 : cntB (isG g (n + 1)) (n + 1) = l.length := by
  rw [cnt_bij (labL g l) (isG g (n + 1)) hlb B.inj (fun q _ h => B.sur q h)]
  unfold cntB
  rw [List.countP_eq_length.2 (fun a ha => (B.lt a (List.mem_range.1 ha)).2), List.length_range]
 have e2 : cntB bad (n + 1) = badN l l.length := by
  rw [cnt_bij (labL g l) bad hlb B.inj (fun q _ h => B.sur q (hbi q h))]
  unfold cntB badN
  refine List.countP_congr (fun a ha => ?_)
  rw [← hbad a (List.mem_range.1 ha)]
 have hhi : ∀ q, hurG p g (n + 1) bad q = true → bad q = true := fun q h => by
  unfold hurG at h
  rw [Bool.and_eq_true] at h
  exact h.1
 have e3 : cntB (hurG p g (n + 1) bad) (n + 1) = hurN (hurdF p l (-1)) l.length := by
  rw [cnt_bij (labL g l) (hurG p g (n + 1) bad) hlb B.inj (fun q _ h => B.sur q (hbi q (hhi q h)))]
  unfold cntB hurN
  refine List.countP_congr (fun a ha => ?_)
  rw [his a (List.mem_range.1 ha)]
 have e4 : fortG p g (n + 1) bad (n + 1) = (decide (hurN (hurdF p l (-1)) l.length % 2 = 1) && decide (supN p l (hurdF p l (-1)) l.length = hurN (hurdF p l (-1)) l.length)) := by
  rw [Bool.eq_iff_iff, fort_iff, Bool.and_eq_true, decide_eq_true_eq, decide_eq_true_eq, e3]
  refine and_congr_right (fun _ => ?_)
  have hc := (count_and (fun i => (hurdF p l (-1)).getD i false) (fun i => anyNew (hurdF p l (i : Int)) (hurdF p l (-1))) (List.range l.length)).2
  refine Iff.trans ?_ hc.symm
  constructor
  ·intro h i hi hh
   rw [List.mem_range] at hi
   have hh2 := his i hi
   rw [hh] at hh2
   show anyNew (hurdF p l (i : Int)) (hurdF p l (-1)) = true
   rw [hany i hi]
   exact h _ (hlb i hi) hh2.symm
  ·intro h q hq hh
   obtain ⟨i, hi, rfl⟩ := B.sur q (hbi q (hhi q hh))
   have := h i (List.mem_range.2 hi) (by show (hurdF p l (-1)).getD i false = true; rw [his i hi]; exact hh)
   rw [← hany i hi]
   exact this
 rw [e1, e2, e3, e4]
 rfl
theorem dis_com {s : List Int} {n : Nat} (hn : n ≤ 40) (hs : Stk true n s) : disD s = (s.length : Int) + 1 - ((circL s).length : Int) + (((talF (picL s) (cmpL s)).2.2.1 : Nat) : Int) + (if (talF (picL s) (cmpL s)).2.2.2 = true then 1 else 0) := by
 unfold disD
 rw [tal_com hn hs, circL_cls hn hs, hs.len]
end Go.Proofs.Ytepjhdblmghckaa.G


namespace Go.Proofs.Ytepjhdblmghckaa.Pure
open Go.Proofs.Ytepjhdblmghckaa.G Go.Proofs.Ytepjhdblmghckaa.K Go.Proofs.Ytepjhdblmghckaa.Bf
open Go.RowKit Go.Proofs.Ytepjhdblmghckaa.Q Go.Proofs.YtepjhdblmghckaaW.PrintWords Go.Proofs.YtepjhdblmghckaaW.PrintLast
set_option linter.unusedVariables false
theorem Ev.all {α : Type} {F : Nat → Nat → Option α} {r : Nat → α} : ∀ N : Nat, (∀ i, i < N → Ev (F i) (r i)) → ∃ K, ∀ k, K ≤ k → ∀ i, i < N → F i k = some (r i)
 | 0, _ => ⟨0, fun _ _ i hi => absurd hi (by omega)⟩
 | N + 1, h => by
  obtain ⟨K, hK⟩ := Ev.all N (fun i hi => h i (by omega))
  obtain ⟨K2, hK2⟩ := h N (by omega)
  refine ⟨K + K2, fun k hk i hi => ?_⟩
  by_cases e : i = N
  ·rw [e]; exact hK2 k (by omega)
  ·exact hK k (by omega) i (by omega)
theorem PancakePictures_w (a0 : Int) (A1 : Option Addr) (c1 : Nat) (l1 : List Int) (w : World) (hr1 : Kd.C (Kd.int .i64) w A1 l1.length l1) (hc1 : l1.length ≤ c1) :
  Calls Try.prog 6 #[.int .i64 a0, .slice A1 l1.length c1] w fun e w' => e = .returned (.bool true) ∧ Below w.heap.size w w' := by
 obtain ⟨n, hn1, hn, hne⟩ := many_f a0 40 (by decide) (by decide)
 have h40 : bibelotlaw07_many.f a0 40 = some (n : Int) := hne
 have hx := rowOf_stk l1 true n
 have hrow := row_f l1 n true (by omega)
 obtain ⟨x, hxe⟩ : ∃ x, rowOf l1 true n = x := ⟨_, rfl⟩
 rw [hxe] at hx hrow
 have hxl := hx.len
 have hs := isSt_stk (most := 40) hx hn1 (by omega)
 have hm : ∀ v, v ∈ x → v ≠ 0 ∧ -(x.length : Int) ≤ v ∧ v ≤ x.length := fun v hv => by rw [hxl]; exact hx.rng v hv
 have hsm := hx.small (by omega : n ≤ 1000)
 have hpic : pancake_Picture.f x = some (picL x, 0) := by unfold pancake_Picture.f; rw [if_pos hs]
 have hcir : pancake_Circles.f x = some (circL x, 0) := by unfold pancake_Circles.f; rw [if_pos hs]
 have hdis : pancake_Distance.f x = some (disD x, 0) := by unfold pancake_Distance.f; rw [if_pos hs, dis_com hn hx]
 have hcom : pancake_Components.f x = some ((comD x).1, (comD x).2.1, (comD x).2.2.1, (comD x).2.2.2, 0) := by unfold pancake_Components.f; rw [if_pos hs, tal_com hn hx]
 have ec := circL_cls hn hx
 have e1 := rcircles_ev (by omega) hm hsm
 rw [hxl, ← ec] at e1
 have e2 := rcomponents_ev (by omega) hm hsm
 have e3 := rpicture_ev x (by omega) hsm
 have e4 := ints_ev (picL x) (picL x) (by rw [picL_len]; omega)
 rw [decide_eq_true rfl] at e4
 have e5 := rdistance_ev (by omega) hm hsm
 have hle := clsTo_le (rndL x) (n + 1)
 rw [← ec] at hle
 have hal : ∀ a, a ∈ circL x → a.length ≤ 1000000 := fun a ha => by
  rw [ec] at ha
  obtain ⟨i, hi, rfl⟩ := cls_cir _ _ a ha
  have := clsUp_le (rndL x) i (rndL x).length
  rw [rndL_len] at this
  unfold clsOf
  rw [rndL_len]
  omega
 have e6 := Ev.all (F := fun i k => bibelotlaw07_ints.f k (rd_L1 (circL x) (i : Int)) (rd_L1 (circL x) (i : Int))) (r := fun _ => true) (circL x).length (fun i hi => by
  have hmm : rd_L1 (circL x) (i : Int) ∈ circL x := by
   unfold rd_L1
   rw [Int.toNat_natCast]
   exact getD_mem hi
  have := ints_ev (rd_L1 (circL x) (i : Int)) (rd_L1 (circL x) (i : Int)) (hal _ hmm)
  rw [decide_eq_true rfl] at this
  exact this)
 obtain ⟨K1, g1⟩ := e1
 obtain ⟨K2, g2⟩ := e2
 obtain ⟨K3, g3⟩ := e3
 obtain ⟨K4, g4⟩ := e4
 obtain ⟨K5, g5⟩ := e5
 obtain ⟨K6, g6⟩ := e6
 obtain ⟨K7, g7⟩ := awake_ev
 exact pictures_calls (K1 + K2 + K3 + K4 + K5 + K6) a0 A1 c1 l1 w hr1 hc1 (n : Int) x (picL x) (circL x) (disD x) (comD x).1 (comD x).2.1 (comD x).2.2.1 (comD x).2.2.2 h40 hrow hpic hcir hdis hcom (g1 _ (by omega)) (g2 _ (by omega)) (g3 _ (by omega)) (g4 _ (by omega)) (g5 _ (by omega)) (fun i hi => g6 _ (by omega) i hi) (g7 K7 (Nat.le_refl _)) (by omega)
end Go.Proofs.Ytepjhdblmghckaa.Pure


namespace Go.Proofs.Ytepjhdblmghckaa.Pure
open Go.Proofs.Ytepjhdblmghckaa.G Go.Proofs.Ytepjhdblmghckaa.K Go.Proofs.Ytepjhdblmghckaa.Bf
open Go.RowKit Go.Shelf Go.Proofs.Ytepjhdblmghckaa.Q Go.Proofs.YtepjhdblmghckaaW.PrintWords Go.Proofs.YtepjhdblmghckaaW.PrintLast Go.Proofs.YtepjhdblmghckaaW.PrintMore
set_option linter.unusedVariables false
set_option maxRecDepth 100000 in
set_option maxHeartbeats 4000000 in
theorem PancakeSmall_w (a0 : Int) (A1 : Option Addr) (c1 : Nat) (l1 : List Int) (w : World) (hr1 : Kd.C (Kd.int .i64) w A1 l1.length l1) (hc1 : l1.length ≤ c1) :
  Calls Try.prog 7 #[.int .i64 a0, .slice A1 l1.length c1] w fun e w' => e = .returned (.bool true) ∧ Below w.heap.size w w' := by
 obtain ⟨n, hn1, hn, hne⟩ := many_f a0 6 (by decide) (by decide)
 have h6 : bibelotlaw07_many.f a0 6 = some (n : Int) := hne
 have HR1 := Aside0.mk hr1
 have HC1 := Aside0.mk hc1
 have HF1 := Aside0.mk h6
 clear hr1 hc1 h6 hne
 go_enter Try.func7, Try.ntmps7
 go_wp2_with (go_at_call 21; refine stopper ?_)
 try unfold Hold
 refine (bibelotlaw07_many.calls a0 6 (n : Int) w HF1.out).mono ?_
 rintro e w1 ⟨rfl, hd⟩
 have hb := hd.below
 have HB1 := Aside0.mk hb
 have HR2 := Aside0.mk (Kd.C_below HR1.out hb)
 clear hb hd HR1
 go_wp2_with (go_at_call 6; refine stopper ?_)
 try unfold Hold
 refine (PancakePictures_w _ A1 c1 l1 w1 HR2.out HC1.out).mono ?_
 rintro e w2 ⟨rfl, hb⟩
 have HB2 := Aside0.mk (HB1.out.trans (hb.mono HB1.out.size))
 go_wp2
 go_ret
 exact ⟨rfl, HB2.out⟩
end Go.Proofs.Ytepjhdblmghckaa.Pure
