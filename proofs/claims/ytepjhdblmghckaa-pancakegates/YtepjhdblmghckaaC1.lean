/- A part that the chapter's proofs share: contracts of the functions, and plain lemmas (part C1). -/
import Derived.Test.YtepjhdblmghckaaA4
import Derived.Test.YtepjhdblmghckaaA2
/- The document's codes of stacks: what they are, and that no two stacks have the same. -/
namespace Go.Proofs.Ytepjhdblmghckaa.G
set_option linter.unusedVariables false
set_option linter.unusedSimpArgs false
set_option linter.unusedSectionVars false
open Go.Proofs.Ytepjhdblmghckaa.Q Go.Proofs.Ytepjhdblmghckaa.K Go.Proofs.Ytepjhdblmghckaa.Bf
open Go.RowKit Go.Proofs.YtepjhdblmghckaaW.PrintWords Go.Proofs.YtepjhdblmghckaaW.PrintLast Go.Proofs.YtepjhdblmghckaaW.PrintMore
def lessH (x : Int) (t : List Int) : Nat := t.countP (fun y => decide (y.natAbs < x.natAbs))
theorem lessH_le (x : Int) (t : List Int) : lessH x t ≤ t.length := List.countP_le_length
theorem lessH_cons (x y : Int) (t : List Int) : lessH x (y :: t) = lessH x t + (if y.natAbs < x.natAbs then 1 else 0) := by
 unfold lessH
 rw [List.countP_cons]
 by_cases h : y.natAbs < x.natAbs <;> simp [h]
def lehm : Nat → List Int → Nat
 | c, [] => c
 | c, x :: t => lehm (c * (t.length + 1) + lessH x t) t
def sgnN : Nat → List Int → Nat
 | c, [] => c
 | c, x :: t => sgnN (2 * c + if x < 0 then 1 else 0) t
/-- The code of a stack. -/
def codeN (l : List Int) : Nat := sgnN (lehm 0 l) l
def fct : Nat → Nat
 | 0 => 1
 | k + 1 => (k + 1) * fct k
theorem fct_pos : ∀ k, 1 ≤ fct k
 | 0 => Nat.le_refl _
 | k + 1 => Nat.mul_pos (Nat.succ_pos k) (fct_pos k)
theorem fct_mono (k : Nat) : fct k ≤ fct (k + 1) := by
 show fct k ≤ (k + 1) * fct k
 exact Nat.le_mul_of_pos_left _ (Nat.succ_pos k)
theorem fct_le {k : Nat} : ∀ d, fct k ≤ fct (k + d)
 | 0 => Nat.le_refl _
 | d + 1 => Nat.le_trans (fct_le d) (fct_mono (k + d))
theorem fct7 {k : Nat} (h : k ≤ 7) : fct k ≤ 5040 := by
 have h1 := fct_le (k := k) (7 - k)
 rw [show k + (7 - k) = 7 by omega] at h1
 have h2 : fct 7 = 5040 := by decide
 omega
theorem lehm_lt : ∀ (l : List Int) (c : Nat), lehm c l + 1 ≤ (c + 1) * fct l.length
 | [], c => by simp [lehm, fct]
 | x :: t, c => by
  have ih := lehm_lt t (c * (t.length + 1) + lessH x t)
  have h1 := lessH_le x t
  have h2 : (c * (t.length + 1) + lessH x t + 1) * fct t.length ≤ ((c + 1) * (t.length + 1)) * fct t.length := Nat.mul_le_mul_right _ (by rw [Nat.succ_mul]; omega)
  rw [lehm]
  refine Nat.le_trans ih (Nat.le_trans h2 ?_)
  rw [List.length_cons, fct, Nat.mul_assoc]
  exact Nat.le_refl _
theorem sgnN_lt : ∀ (l : List Int) (c : Nat), sgnN c l + 1 ≤ (c + 1) * 2 ^ l.length
 | [], c => by simp [sgnN]
 | x :: t, c => by
  have ih := sgnN_lt t (2 * c + if x < 0 then 1 else 0)
  have h2 : (2 * c + (if x < 0 then 1 else 0) + 1) * 2 ^ t.length ≤ ((c + 1) * 2) * 2 ^ t.length := Nat.mul_le_mul_right _ (by split <;> omega)
  rw [sgnN]
  refine Nat.le_trans ih (Nat.le_trans h2 ?_)
  rw [List.length_cons, Nat.pow_succ, Nat.mul_assoc, Nat.mul_comm 2]
  exact Nat.le_refl _
theorem codeN_lt (l : List Int) : codeN l < fct l.length * 2 ^ l.length := by
 have h1 := lehm_lt l 0
 have h2 := sgnN_lt l (lehm 0 l)
 have h3 : (lehm 0 l + 1) * 2 ^ l.length ≤ fct l.length * 2 ^ l.length := Nat.mul_le_mul_right _ (by omega)
 unfold codeN
 omega
/-! ### No two have the same -/
def digs : List Int → List Nat
 | [] => []
 | x :: t => lessH x t :: digs t
theorem divmod_inj {a b m p q : Nat} (hp : p ≤ m) (hq : q ≤ m) (h : a * (m + 1) + p = b * (m + 1) + q) : a = b ∧ p = q := by
 have h1 : (a * (m + 1) + p) / (m + 1) = a := by rw [Nat.mul_comm, Nat.mul_add_div (by omega), Nat.div_eq_of_lt (by omega), Nat.add_zero]
 have h2 : (b * (m + 1) + q) / (m + 1) = b := by rw [Nat.mul_comm, Nat.mul_add_div (by omega), Nat.div_eq_of_lt (by omega), Nat.add_zero]
 rw [h] at h1
 have : a = b := h1.symm.trans h2
 subst this
 exact ⟨rfl, by omega⟩
theorem lehm_inj : ∀ (l m : List Int) (c e : Nat), l.length = m.length → lehm c l = lehm e m → c = e ∧ digs l = digs m
 | [], [], c, e, _, h => ⟨h, rfl⟩
 | x :: t, y :: u, c, e, hl, h => by
  have hl2 : t.length = u.length := by simpa using hl
  rw [lehm, lehm] at h
  obtain ⟨h1, h2⟩ := lehm_inj t u _ _ hl2 h
  rw [hl2] at h1
  have h3 := lessH_le x t
  obtain ⟨h4, h5⟩ := divmod_inj (by omega) (lessH_le y u) h1
  refine ⟨h4, ?_⟩
  rw [digs, digs, h5, h2]
 | [], y :: u, c, e, hl, h => by simp at hl
 | x :: t, [], c, e, hl, h => by simp at hl
theorem sgnN_inj : ∀ (l m : List Int) (c e : Nat), l.length = m.length → sgnN c l = sgnN e m → c = e ∧ l.map (fun x => decide (x < 0)) = m.map (fun x => decide (x < 0))
 | [], [], c, e, _, h => ⟨h, rfl⟩
 | x :: t, y :: u, c, e, hl, h => by
  rw [sgnN, sgnN] at h
  obtain ⟨h1, h2⟩ := sgnN_inj t u _ _ (by simpa using hl) h
  rw [List.map_cons, List.map_cons, h2]
  by_cases hx : x < 0 <;> by_cases hy : y < 0
  ·rw [if_pos hx, if_pos hy] at h1
   exact ⟨by omega, by rw [decide_eq_true hx, decide_eq_true hy]⟩
  ·rw [if_pos hx, if_neg hy] at h1; omega
  ·rw [if_neg hx, if_pos hy] at h1; omega
  ·rw [if_neg hx, if_neg hy] at h1
   exact ⟨by omega, by rw [decide_eq_false hx, decide_eq_false hy]⟩
 | [], y :: u, c, e, hl, h => by simp at hl
 | x :: t, [], c, e, hl, h => by simp at hl
theorem countP_lt {p q : Nat → Bool} (hpq : ∀ y, p y = true → q y = true) {x : Nat} (hp : p x = false) (hq : q x = true) : ∀ l : List Nat, x ∈ l → l.countP p < l.countP q
 | y :: l, h => by
  rw [List.countP_cons, List.countP_cons]
  rcases List.mem_cons.1 h with rfl | h
  ·have := List.countP_mono_left (p := p) (q := q) (l := l) (fun y _ => hpq y)
   rw [hp, hq]
   simp
   omega
  ·have := countP_lt hpq hp hq l h
   have h2 : (if p y = true then 1 else 0) ≤ (if q y = true then 1 else 0) := by
    by_cases h3 : p y = true
    ·rw [if_pos h3, if_pos (hpq y h3)]; exact Nat.le_refl _
    ·rw [if_neg h3]; exact Nat.zero_le _
   omega
theorem lessH_map (x : Int) (t : List Int) : lessH x t = (t.map Int.natAbs).countP (fun y => decide (y < x.natAbs)) := by
 unfold lessH
 rw [List.countP_map]; rfl
theorem digs_inj : ∀ (l m : List Int), (l.map Int.natAbs).Perm (m.map Int.natAbs) → digs l = digs m → l.map Int.natAbs = m.map Int.natAbs
 | [], [], _, _ => rfl
 | x :: t, y :: u, hp, h => by
  rw [digs, digs] at h
  injection h with h1 h2
  have e1 : lessH x t = ((x :: t).map Int.natAbs).countP (fun z => decide (z < x.natAbs)) := by rw [lessH_map, List.map_cons, List.countP_cons]; simp
  have e2 : lessH y u = ((x :: t).map Int.natAbs).countP (fun z => decide (z < y.natAbs)) := by rw [lessH_map, hp.countP_eq, List.map_cons, List.countP_cons]; simp
  have hxm : x.natAbs ∈ (x :: t).map Int.natAbs := by simp
  have hym : y.natAbs ∈ (x :: t).map Int.natAbs := hp.symm.subset (by simp)
  have hxy : x.natAbs = y.natAbs := by
   rcases Nat.lt_trichotomy x.natAbs y.natAbs with hlt | he | hlt
   ·have := countP_lt (p := fun z => decide (z < x.natAbs)) (q := fun z => decide (z < y.natAbs)) (fun z hz => by simp at hz ⊢; omega) (x := x.natAbs) (by simp) (by simpa using hlt) _ hxm
    omega
   ·exact he
   ·have := countP_lt (p := fun z => decide (z < y.natAbs)) (q := fun z => decide (z < x.natAbs)) (fun z hz => by simp at hz ⊢; omega) (x := y.natAbs) (by simp) (by simpa using hlt) _ hym
    omega
  rw [List.map_cons, List.map_cons] at hp ⊢
  rw [hxy] at hp ⊢
  rw [digs_inj t u hp.cons_inv h2]
 | [], y :: u, hp, h => by cases h
 | x :: t, [], hp, h => by cases h
theorem abs_sign : ∀ (l m : List Int), l.map Int.natAbs = m.map Int.natAbs → l.map (fun x => decide (x < 0)) = m.map (fun x => decide (x < 0)) → l = m
 | [], [], _, _ => rfl
 | x :: t, y :: u, h1, h2 => by
  rw [List.map_cons, List.map_cons] at h1 h2
  injection h1 with a1 a2
  injection h2 with b1 b2
  have : (x < 0) ↔ (y < 0) := by simpa using b1
  rw [abs_sign t u a2 b2, show x = y by omega]
 | [], y :: u, h, _ => by cases h
 | x :: t, [], h, _ => by cases h
/-- Each number from 1 to n is there. -/
theorem Stk.has {sg : Bool} {n : Nat} {l : List Int} (h : Stk sg n l) {a : Nat} (h1 : 1 ≤ a) (h2 : a ≤ n) : a ∈ l.map Int.natAbs := by
 by_cases hm : a ∈ l.map Int.natAbs
 ·exact hm
 ·have h3 := nodup_sub (a :: l.map Int.natAbs) ((List.range n).map (· + 1)) (List.nodup_cons.2 ⟨hm, h.nd⟩) (fun x hx => by
   rcases List.mem_cons.1 hx with rfl | hx
   ·exact List.mem_map.2 ⟨x - 1, List.mem_range.2 (by omega), by omega⟩
   ·obtain ⟨y, hy, rfl⟩ := List.mem_map.1 hx
    have := h.rng y hy
    exact List.mem_map.2 ⟨y.natAbs - 1, List.mem_range.2 (by omega), by omega⟩)
  simp only [List.length_cons, List.length_map, List.length_range, h.len] at h3
  omega
theorem Stk.perm {sg tg : Bool} {n : Nat} {l m : List Int} (h : Stk sg n l) (k : Stk tg n m) : (l.map Int.natAbs).Perm (m.map Int.natAbs) := by
 refine (List.perm_ext_iff_of_nodup h.nd k.nd).2 (fun a => ?_)
 constructor
 ·intro ha
  obtain ⟨y, hy, rfl⟩ := List.mem_map.1 ha
  have := h.rng y hy
  exact k.has (by omega) (by omega)
 ·intro ha
  obtain ⟨y, hy, rfl⟩ := List.mem_map.1 ha
  have := k.rng y hy
  exact h.has (by omega) (by omega)
theorem code_inj {sg tg : Bool} {n : Nat} {l m : List Int} (h : Stk sg n l) (k : Stk tg n m) (he : codeN l = codeN m) : l = m := by
 have hl : l.length = m.length := h.len.trans k.len.symm
 obtain ⟨h1, h2⟩ := sgnN_inj l m _ _ hl he
 exact abs_sign l m (digs_inj l m (h.perm k) (lehm_inj l m _ _ hl h1).2) h2
end Go.Proofs.Ytepjhdblmghckaa.G
/- Flips of stacks: they are stacks; each stack is reached from each; distances. -/
namespace Go.Proofs.Ytepjhdblmghckaa.G
set_option linter.unusedVariables false
set_option linter.unusedSimpArgs false
set_option linter.unusedSectionVars false
open Go.Proofs.Ytepjhdblmghckaa.Q Go.Proofs.Ytepjhdblmghckaa.K Go.Proofs.Ytepjhdblmghckaa.Bf
open Go.RowKit Go.Proofs.YtepjhdblmghckaaW.PrintWords Go.Proofs.YtepjhdblmghckaaW.PrintLast Go.Proofs.YtepjhdblmghckaaW.PrintMore
theorem nth_get (l : List Int) (p : Nat) (h : p < l.length) : nth l p = l[p] := by
 unfold nth; rw [List.getD_eq_getElem?_getD, List.getElem?_eq_getElem h]; rfl
theorem nth_in (l : List Int) (p : Nat) (h : p < l.length) : nth l p ∈ l := by
 rw [nth_get l p h]; exact List.getElem_mem h
theorem mem_nth {l : List Int} {x : Int} (h : x ∈ l) : ∃ p, p < l.length ∧ nth l p = x := by
 obtain ⟨p, hp, rfl⟩ := List.getElem_of_mem h
 exact ⟨p, hp, nth_get l p hp⟩
theorem stk_nth {sg : Bool} {n : Nat} {l : List Int} : Stk sg n l ↔ l.length = n ∧ (∀ p, p < n → nth l p ≠ 0 ∧ -(n : Int) ≤ nth l p ∧ nth l p ≤ n) ∧ (∀ p q, p < n → q < n → (nth l p).natAbs = (nth l q).natAbs → p = q) ∧ (sg = false → ∀ p, p < n → 0 < nth l p) := by
 constructor
 ·intro h
  refine ⟨h.len, fun p hp => h.rng _ (nth_in l p (by rw [h.len]; exact hp)), fun p q hp hq he => ?_, fun hs p hp => h.pos hs _ (nth_in l p (by rw [h.len]; exact hp))⟩
  have hnd := List.pairwise_iff_getElem.1 h.nd
  rcases Nat.lt_trichotomy p q with hlt | he2 | hlt
  ·have := hnd p q (by rw [List.length_map, h.len]; exact hp) (by rw [List.length_map, h.len]; exact hq) hlt
   rw [List.getElem_map, List.getElem_map, ← nth_get l p (by rw [h.len]; exact hp), ← nth_get l q (by rw [h.len]; exact hq)] at this
   exact absurd he this
  ·exact he2
  ·have := hnd q p (by rw [List.length_map, h.len]; exact hq) (by rw [List.length_map, h.len]; exact hp) hlt
   rw [List.getElem_map, List.getElem_map, ← nth_get l p (by rw [h.len]; exact hp), ← nth_get l q (by rw [h.len]; exact hq)] at this
   exact absurd he.symm this
 ·rintro ⟨h1, h2, h3, h4⟩
  refine ⟨h1, fun x hx => ?_, ?_, fun hs x hx => ?_⟩
  ·obtain ⟨p, hp, rfl⟩ := mem_nth hx
   exact h2 p (by omega)
  ·refine List.pairwise_iff_getElem.2 (fun p q hp hq hlt he => ?_)
   rw [List.length_map] at hp hq
   rw [List.getElem_map, List.getElem_map, ← nth_get l p hp, ← nth_get l q hq] at he
   have := h3 p q (by omega) (by omega) he
   omega
  ·obtain ⟨p, hp, rfl⟩ := mem_nth hx
   exact h4 hs p (by omega)
theorem fl_eq (sg : Bool) (m : Nat → Int) (i k p : Nat) : fl sg m i (k + 1) p = if i ≤ p ∧ p ≤ k then (if sg = true then -(m (i + k - p)) else m (i + k - p)) else m p := by
 unfold fl rv
 cases sg
 ·rw [if_neg (by simp)]
  by_cases h : i ≤ p ∧ p ≤ k
  ·rw [if_pos h, if_pos (by omega), if_neg (by decide)]; congr 1
  ·rw [if_neg h, if_neg (by omega)]
 ·by_cases h : i ≤ p ∧ p ≤ k
  ·rw [if_pos h, if_pos ⟨rfl, h.1, by omega⟩, if_pos ⟨h.1, by omega⟩, if_pos rfl]; congr 2
  ·rw [if_neg h, if_neg (fun h' => h ⟨h'.2.1, by omega⟩), if_neg (fun h' => h ⟨h'.1, by omega⟩)]
theorem flL_nth {l : List Int} (sg : Bool) (i k p : Nat) (hk : k < l.length) : nth (flL sg l i k) p = if i ≤ p ∧ p ≤ k then (if sg = true then -(nth l (i + k - p)) else nth l (i + k - p)) else nth l p := by
 rw [nth_flL sg l i k hk, fl_eq]
theorem stk_flL {sg tg : Bool} {n : Nat} {l : List Int} (h : Stk sg n l) (ht : tg = true → sg = true) (i k : Nat) (hik : i ≤ k) (hk : k < n) : Stk sg n (flL tg l i k) := by
 have hl := h.len
 obtain ⟨h1, h2, h3, h4⟩ := stk_nth.1 h
 have hab : ∀ p, (nth (flL tg l i k) p).natAbs = (nth l (if i ≤ p ∧ p ≤ k then i + k - p else p)).natAbs := fun p => by
  rw [flL_nth tg i k p (by omega)]
  by_cases hp : i ≤ p ∧ p ≤ k
  ·rw [if_pos hp, if_pos hp]
   split
   ·rw [Int.natAbs_neg]
   ·rfl
  ·rw [if_neg hp, if_neg hp]
 have hin : ∀ p, p < n → (if i ≤ p ∧ p ≤ k then i + k - p else p) < n := fun p hp => by split <;> omega
 refine stk_nth.2 ⟨by rw [flL_len, hl], fun p hp => ?_, fun p q hp hq he => ?_, fun hs p hp => ?_⟩
 ·have := h2 _ (hin p hp)
  have e := hab p
  omega
 ·rw [hab p, hab q] at he
  have := h3 _ _ (hin p hp) (hin q hq) he
  split at this <;> split at this <;> omega
 ·have htf : tg = false := by cases tg with
   | false => rfl
   | true => rw [ht rfl] at hs; cases hs
  have := h4 hs _ (hin p hp)
  rw [flL_nth tg i k p (by omega), htf]
  by_cases hpk : i ≤ p ∧ p ≤ k
  ·rw [if_pos hpk] at this ⊢; rw [if_neg (by decide)]; exact this
  ·rw [if_neg hpk] at this ⊢; exact this
theorem Stk.vs {sg : Bool} {n : Nat} {l : List Int} (h : Stk sg n l) (hn : n ≤ 7) : Vs n l := by
 refine ⟨h.len, fun j => ?_⟩
 by_cases hj : j < n
 ·have := (stk_nth.1 h).2.1 j hj; omega
 ·rw [nth_end _ _ (by rw [h.len]; omega)]; omega
theorem stk_firstL (sg : Bool) (n : Nat) : Stk sg n (firstL n) := by
 refine stk_nth.2 ⟨by simp [firstL], fun p hp => ?_, fun p q hp hq he => ?_, fun hs p hp => ?_⟩
 ·rw [nth_firstL]; unfold upTo; rw [if_pos hp]; omega
 ·rw [nth_firstL] at he; unfold upTo at he; rw [if_pos hp, if_pos hq] at he; omega
 ·rw [nth_firstL]; unfold upTo; rw [if_pos hp]; omega
/-! ### balls -/
section
variable {α : Type} [DecidableEq α] {next : α → List α}
theorem ball_cons {s y x : α} (hy : y ∈ next s) : ∀ k, x ∈ ball next y k → x ∈ ball next s (k + 1)
 | 0, h => by
  have : x = y := by simpa [ball] using h
  subst this
  exact ball_succ.2 (.inr ⟨s, by simp [ball], hy⟩)
 | k + 1, h => by
  rcases ball_succ.1 h with h | ⟨z, hz, hx⟩
  ·exact ball_mono (Nat.le_succ _) (ball_cons hy k h)
  ·exact ball_succ.2 (.inr ⟨z, ball_cons hy k hz, hx⟩)
theorem ball_trans {a b c : α} {i : Nat} (h1 : b ∈ ball next a i) : ∀ j, c ∈ ball next b j → c ∈ ball next a (i + j)
 | 0, h => by
  have : c = b := by simpa [ball] using h
  rw [this]; exact h1
 | j + 1, h => by
  rcases ball_succ.1 h with h | ⟨z, hz, hx⟩
  ·exact ball_mono (Nat.le_succ _) (ball_trans h1 j h)
  ·exact ball_succ.2 (.inr ⟨z, ball_trans h1 j hz, hx⟩)
theorem ball_exact {a b : α} : ∀ k, b ∈ ball next a k → ∃ d, d ≤ k ∧ Exact next a b d
 | 0, h => ⟨0, Nat.le_refl _, h, fun j hj => by omega⟩
 | k + 1, h => by
  by_cases hk : b ∈ ball next a k
  ·obtain ⟨d, h1, h2⟩ := ball_exact k hk
   exact ⟨d, by omega, h2⟩
  ·exact ⟨k + 1, Nat.le_refl _, h, fun j hj hj' => hk (ball_mono (by omega) hj')⟩
end
theorem ball_len {n : Nat} {sg an : Bool} {a b : List Int} (ha : a.length = n) : ∀ k, b ∈ ball (nextK n sg an) a k → b.length = n
 | 0, h => by
  have : b = a := by simpa [ball] using h
  rw [this]; exact ha
 | k + 1, h => by
  rcases ball_succ.1 h with h | ⟨z, hz, hx⟩
  ·exact ball_len ha k h
  ·obtain ⟨x, _, rfl⟩ := List.mem_map.1 hx
   rw [flL_len]; exact ball_len ha k hz
theorem ball_symm {n : Nat} {sg an : Bool} {a b : List Int} (ha : a.length = n) : ∀ k, b ∈ ball (nextK n sg an) a k → a ∈ ball (nextK n sg an) b k := by
 intro k
 induction k generalizing b with
 | zero =>
  intro h
  have : b = a := by simpa [ball] using h
  subst this
  simp [ball]
 | succ k ih =>
  intro h
  rcases ball_succ.1 h with h | ⟨z, hz, hx⟩
  ·exact ball_mono (Nat.le_succ _) (ih h)
  ·exact ball_cons (next_back (ball_len ha k hz) hx) k (ih hz)
theorem ball_stk {n : Nat} {sg an : Bool} {a b : List Int} (ha : Stk sg n a) : ∀ k, b ∈ ball (nextK n sg an) a k → Stk sg n b
 | 0, h => by
  have : b = a := by simpa [ball] using h
  rw [this]; exact ha
 | k + 1, h => by
  rcases ball_succ.1 h with h | ⟨z, hz, hx⟩
  ·exact ball_stk ha k h
  ·obtain ⟨x, hm, rfl⟩ := List.mem_map.1 hx
   have := mem_mv hm
   exact stk_flL (ball_stk ha k hz) (fun h => h) x.1 x.2 this.1 this.2.1
/-- b is reached from a. -/
def Rch (n : Nat) (sg : Bool) (a b : List Int) : Prop := ∃ k, b ∈ ball (nextK n sg false) a k
theorem Rch.refl (n : Nat) (sg : Bool) (a : List Int) : Rch n sg a a := ⟨0, by simp [ball]⟩
theorem Rch.trans {n : Nat} {sg : Bool} {a b c : List Int} (h : Rch n sg a b) (k : Rch n sg b c) : Rch n sg a c := by
 obtain ⟨i, hi⟩ := h
 obtain ⟨j, hj⟩ := k
 exact ⟨i + j, ball_trans hi j hj⟩
theorem Rch.symm {n : Nat} {sg : Bool} {a b : List Int} (ha : a.length = n) (h : Rch n sg a b) : Rch n sg b a := by
 obtain ⟨k, hk⟩ := h
 exact ⟨k, ball_symm ha k hk⟩
theorem flL_one (l : List Int) : flL false l 0 0 = l := by
 by_cases h : 0 < l.length
 ·apply List.ext_getElem (by rw [flL_len])
  intro p h1 h2
  rw [← nth_get _ p h1, ← nth_get l p h2, flL_nth false 0 0 p h]
  split
  ·rw [if_neg (by decide)]; congr 1; omega
  ·rfl
 ·have : l = [] := List.length_eq_zero_iff.1 (by omega)
  rw [this]; rfl
theorem Rch.flip {n : Nat} {sg : Bool} {l : List Int} (k : Nat) (hk : k < n) : Rch n sg l (flL sg l 0 k) := by
 by_cases h : sg = true ∨ k ≠ 0
 ·exact ⟨1, ball_succ.2 (.inr ⟨l, by simp [ball], List.mem_map.2 ⟨(0, k), mv_mem (Nat.zero_le _) hk h (.inr rfl), rfl⟩⟩)⟩
 ·have hk0 : k = 0 := by
   rcases Nat.eq_zero_or_pos k with h' | h'
   ·exact h'
   ·exact absurd (.inr (by omega)) h
  have hs : sg = false := by cases sg with
   | false => rfl
   | true => exact absurd (.inl rfl) h
  subst hk0; subst hs
  rw [flL_one]; exact Rch.refl _ _ _
theorem rch_first {n : Nat} {sg : Bool} : ∀ (m : Nat) (l : List Int), m ≤ n → Stk sg n l → (∀ p, m ≤ p → p < n → nth l p = (p : Int) + 1) → Rch n sg l (firstL n)
 | 0, l, _, h, hr => by
  have : l = firstL n := by
   apply List.ext_getElem (by rw [h.len]; simp [firstL])
   intro p h1 h2
   rw [← nth_get _ p h1, ← nth_get _ p h2, nth_firstL, hr p (Nat.zero_le _) (by rw [← h.len]; exact h1)]
   unfold upTo
   rw [if_pos (by rw [← h.len]; exact h1)]
   omega
  rw [this]; exact Rch.refl _ _ _
 | m + 1, l, hm, h, hr => by
  have hl := h.len
  obtain ⟨y, hy, he⟩ := List.mem_map.1 (h.has (a := m + 1) (by omega) hm)
  obtain ⟨p, hp, rfl⟩ := mem_nth hy
  have hpm : p ≤ m := by
   rcases Nat.lt_or_ge m p with h1 | h1
   ·have := hr p (by omega) (by omega); omega
   ·exact h1
  obtain ⟨l1, hl1⟩ : ∃ l1, flL sg l 0 p = l1 := ⟨_, rfl⟩
  have s1 : Stk sg n l1 := by rw [← hl1]; exact stk_flL h (fun h => h) 0 p (Nat.zero_le _) (by omega)
  have z1 : (nth l1 0).natAbs = m + 1 := by
   rw [← hl1, flL_nth sg 0 p 0 hp, if_pos ⟨Nat.le_refl _, Nat.zero_le _⟩]
   have e0 : 0 + p - 0 = p := by omega
   rw [e0]
   split
   ·rw [Int.natAbs_neg]; exact he
   ·exact he
  have r1 : ∀ q, m + 1 ≤ q → q < n → nth l1 q = (q : Int) + 1 := fun q h1 h2 => by
   rw [← hl1, flL_nth sg 0 p q hp, if_neg (by omega)]; exact hr q h1 h2
  have c1 : Rch n sg l l1 := by rw [← hl1]; exact Rch.flip p (by omega)
  obtain ⟨l2, s2, z2, r2, c2⟩ : ∃ l2, Stk sg n l2 ∧ nth l2 0 = (if sg = true then -((m : Int) + 1) else (m : Int) + 1) ∧ (∀ q, m + 1 ≤ q → q < n → nth l2 q = (q : Int) + 1) ∧ Rch n sg l1 l2 := by
   cases sg with
   | false =>
    refine ⟨l1, s1, ?_, r1, Rch.refl _ _ _⟩
    have := (stk_nth.1 s1).2.2.2 rfl 0 (by omega)
    rw [if_neg (by decide)]; omega
   | true =>
    rw [if_pos rfl]
    by_cases hneg : nth l1 0 < 0
    ·exact ⟨l1, s1, by omega, r1, Rch.refl _ _ _⟩
    ·refine ⟨flL true l1 0 0, stk_flL s1 (fun h => h) 0 0 (Nat.le_refl _) (by omega), ?_, fun q h1 h2 => ?_, Rch.flip 0 (by omega)⟩
     ·rw [flL_nth true 0 0 0 (by rw [s1.len]; omega), if_pos ⟨Nat.le_refl _, Nat.le_refl _⟩, if_pos rfl]
      have : nth l1 (0 + 0 - 0) = nth l1 0 := rfl
      omega
     ·rw [flL_nth true 0 0 q (by rw [s1.len]; omega), if_neg (by omega)]; exact r1 q h1 h2
  obtain ⟨l3, hl3⟩ : ∃ l3, flL sg l2 0 m = l3 := ⟨_, rfl⟩
  have s3 : Stk sg n l3 := by rw [← hl3]; exact stk_flL s2 (fun h => h) 0 m (Nat.zero_le _) (by omega)
  have c3 : Rch n sg l2 l3 := by rw [← hl3]; exact Rch.flip m (by omega)
  refine c1.trans (c2.trans (c3.trans (rch_first m l3 (by omega) s3 (fun q h1 h2 => ?_))))
  rw [← hl3, flL_nth sg 0 m q (by rw [s2.len]; omega)]
  by_cases hq : q = m
  ·subst hq
   rw [if_pos ⟨Nat.zero_le _, Nat.le_refl _⟩, show 0 + q - q = 0 by omega, z2]
   split
   ·omega
   ·rfl
  ·rw [if_neg (by omega)]; exact r2 q (by omega) h2
/-- Each stack is reached from each. -/
theorem rch_all {n : Nat} {sg : Bool} {a b : List Int} (ha : Stk sg n a) (hb : Stk sg n b) : Rch n sg a b :=
 (rch_first n a (Nat.le_refl _) ha (fun p h1 h2 => by omega)).trans ((rch_first n b (Nat.le_refl _) hb (fun p h1 h2 => by omega)).symm hb.len)
theorem gap_exact {n : Nat} (hn : n ≤ 7) {sg : Bool} {a b : List Int} (ha : Stk sg n a) (hb : Stk sg n b) : Exact (nextK n sg false) a b (gap n sg a b) := by
 have hF := bfs_fin sg false (ha.vs hn) none
 have hsm : (Sof (bfs n sg false none (15 ^ n) (ini a)).1 b).isSome = true := by
  cases hm : (bfs n sg false none (15 ^ n) (ini a)).1 b with
  | some e => unfold Sof; rw [hm]; rfl
  | none =>
   rcases hF.done with h | ⟨u, hu, _⟩
   ·obtain ⟨k, hk⟩ := rch_all ha hb
    exact absurd hk (h b hm k)
   ·cases hu
 obtain ⟨e, he⟩ := Option.isSome_iff_exists.1 hsm
 have h1 := hF.exact b e he
 have h2 := hF.found b e he
 unfold gap
 rw [h2]
 exact h1
theorem gap_eq {n : Nat} (hn : n ≤ 7) {sg : Bool} {a b : List Int} (ha : Stk sg n a) (hb : Stk sg n b) {d : Nat} (h : Exact (nextK n sg false) a b d) : gap n sg a b = d := (gap_exact hn ha hb).unique h
theorem gap_le {n : Nat} (hn : n ≤ 7) {sg : Bool} {a b : List Int} (ha : Stk sg n a) (hb : Stk sg n b) {d : Nat} (h : b ∈ ball (nextK n sg false) a d) : gap n sg a b ≤ d := by
 rcases Nat.lt_or_ge d (gap n sg a b) with h1 | h1
 ·exact absurd h ((gap_exact hn ha hb).2 d h1)
 ·exact h1
theorem gap_symm {n : Nat} (hn : n ≤ 7) {sg : Bool} {a b : List Int} (ha : Stk sg n a) (hb : Stk sg n b) : gap n sg a b = gap n sg b a :=
 Nat.le_antisymm (gap_le hn ha hb (ball_symm hb.len _ (gap_exact hn hb ha).1)) (gap_le hn hb ha (ball_symm ha.len _ (gap_exact hn ha hb).1))
theorem gap_tri {n : Nat} (hn : n ≤ 7) {sg : Bool} {a b c : List Int} (ha : Stk sg n a) (hb : Stk sg n b) (hc : Stk sg n c) : gap n sg a b ≤ gap n sg a c + gap n sg c b :=
 gap_le hn ha hb (ball_trans (gap_exact hn ha hc).1 _ (gap_exact hn hc hb).1)
theorem gap_zero {n : Nat} (hn : n ≤ 7) {sg : Bool} {a b : List Int} (ha : Stk sg n a) (hb : Stk sg n b) : gap n sg a b = 0 ↔ a = b := by
 constructor
 ·intro h
  have := (gap_exact hn ha hb).1
  rw [h] at this
  simp [ball] at this
  exact this.symm
 ·rintro rfl
  exact Nat.le_zero.1 (gap_le hn ha ha (by simp [ball]))
end Go.Proofs.Ytepjhdblmghckaa.G
/- What the search knows; the moves that order a stack; the program's Flips and Order. -/
namespace Go.Proofs.Ytepjhdblmghckaa.G
set_option linter.unusedVariables false
set_option linter.unusedSimpArgs false
set_option linter.unusedSectionVars false
open Go.Proofs.Ytepjhdblmghckaa.Q Go.Proofs.Ytepjhdblmghckaa.K Go.Proofs.Ytepjhdblmghckaa.Bf
open Go.RowKit Go.Proofs.YtepjhdblmghckaaW.PrintWords Go.Proofs.YtepjhdblmghckaaW.PrintLast Go.Proofs.YtepjhdblmghckaaW.PrintMore
theorem up1 (e : Nat) (h : e ≤ 1000000000) : wrap64 ((e : Int) + 1) = ((e + 1 : Nat) : Int) := by rw [w64 (by omega) (by omega)]; rfl
theorem firstL_succ (i : Nat) : firstL (i + 1) = firstL i ++ [((i + 1 : Nat) : Int)] := by
 unfold firstL; rw [List.range_succ, List.map_append]; rfl
theorem firstL_len (i : Nat) : (firstL i).length = i := by simp [firstL]
theorem rfirst_l0 (n : Nat) (hn : n ≤ 1000) : ∀ d i : Nat, i + d = n → Ev (fun k => bibelotref07_First.l0 k (n : Int) (firstL i) ((i + 1 : Nat) : Int)) (firstL n)
 | 0, i, h => by
  obtain rfl : i = n := h
  refine Ev.step (f := fun _ => some (firstL i)) (fun k => ?_) (Ev.now _)
  rw [bibelotref07_First.l0, if_neg (by omega)]
 | d + 1, i, h => by
  have ih := rfirst_l0 n hn d (i + 1) (by omega)
  refine Ev.step (fun k => ?_) ih
  rw [bibelotref07_First.l0, if_pos (by omega), if_pos (by rw [firstL_len]; omega), w64 (by omega) (by omega), firstL_succ]
  rfl
theorem rfirst_ev (n : Nat) (hn : n ≤ 1000) : Ev (fun k => bibelotref07_First.f k (n : Int)) (firstL n) := rfirst_l0 n hn n 0 (by omega)
theorem bfs_known {n : Nat} (hn : n ≤ 7) {sg : Bool} {s t : List Int} (hs : Stk sg n s) (ht : Stk sg n t) (U : Option (List Int)) (hU : U = none ∨ U = some t) : ∃ b, (bfs n sg false U (15 ^ n) (ini s)).1 t = some (b, gap n sg s t) := by
 have hF := bfs_fin sg false (hs.vs hn) U
 have hsm : ((bfs n sg false U (15 ^ n) (ini s)).1 t).isSome = true := by
  cases hm : (bfs n sg false U (15 ^ n) (ini s)).1 t with
  | some e => rfl
  | none =>
   rcases hF.done with h | ⟨u, hu, hq⟩
   ·obtain ⟨k, hk⟩ := rch_all hs ht
    exact absurd hk (h t hm k)
   ·rcases hU with h | h
    ·rw [h] at hu; cases hu
    ·rw [h] at hu; cases hu; rw [hm] at hq; cases hq
 obtain ⟨⟨b, e⟩, he⟩ := Option.isSome_iff_exists.1 hsm
 have h2 := hF.found t e (by unfold Sof; rw [he]; rfl)
 refine ⟨b, ?_⟩
 rw [he]
 unfold gap
 rw [h2]
/-! ### The moves that order a stack -/
theorem ord_all {n : Nat} (hn : n ≤ 7) {sg : Bool} {x : List Int} (hx : Stk sg n x) : ((knownOf n sg false x) x).isSome = true ∧ (ordL n sg false x).length = gap n sg x (firstL n) ∧ (∀ m, m ∈ ordL n sg false x → m ∈ mvL n sg false) ∧ (ordL n sg false x).foldl (fun t m => flL sg t m.1 m.2) x = firstL n := by
 obtain ⟨b, hb⟩ := bfs_known hn (stk_firstL sg n) hx (some x) (.inr rfl)
 have hF := bfs_fin sg false ((stk_firstL sg n).vs hn) (some x)
 have hkn : knownOf n sg false x x = some (b, gap n sg (firstL n) x) := hb
 have h1 := ordF_ok hF.by_ _ x b hb
 have h2 := ordF_len hF.by_ hF.exact _ x b hb
 have e : ordL n sg false x = ordF (knownOf n sg false x) n sg (gap n sg (firstL n) x).succ x := by unfold ordL; rw [hkn]; rfl
 rw [e]
 refine ⟨by rw [hkn]; rfl, ?_, h1.1, h1.2.2⟩
 rw [gap_symm hn hx (stk_firstL sg n)]
 exact h2
theorem gap_lt {n : Nat} (hn : n ≤ 7) (sg : Bool) (a b : List Int) : gap n sg a b ≤ 170859375 := by
 have := least_lt' (nextK n sg false) a b (15 ^ n)
 have h2 := p15 hn
 unfold gap
 omega
theorem chk2_ok {sg : Bool} {most : Int} {n : Nat} {x y : List Int} (hx : Stk sg n x) (hy : Stk sg n y) (h1 : 1 ≤ n) (h2 : (n : Int) ≤ most) : chk2 sg most x y = 0 := by
 unfold chk2
 rw [if_pos (isSt_stk hx h1 h2), if_pos (isSt_stk hy h1 h2), if_pos (hx.len.trans hy.len.symm)]
theorem pflips_ok {n : Nat} (hn : n ≤ 7) {x y : List Int} (hx : Stk false n x) (hy : Stk false n y) (h1 : 1 ≤ n) : pancake_Flips.f x y = some (((gap n false x y : Nat) : Int), 0) := by
 unfold pancake_Flips.f
 rw [if_pos (chk2_ok hx hy h1 (by omega)), hx.len, gap_symm hn hy hx]
theorem pflipsB_ok {n : Nat} (hn : n ≤ 6) {x y : List Int} (hx : Stk true n x) (hy : Stk true n y) (h1 : 1 ≤ n) : pancake_FlipsBurnt.f x y = some (((gap n true x y : Nat) : Int), 0) := by
 unfold pancake_FlipsBurnt.f
 rw [if_pos (chk2_ok hx hy h1 (by omega)), hx.len, gap_symm (by omega) hy hx]
theorem porder_ok {n : Nat} (hn : n ≤ 7) {x : List Int} (hx : Stk false n x) (h1 : 1 ≤ n) : pancake_Order.f x = some ((ordL n false false x).map (fun m => ((m.2 : Int) + 1)), 0) := by
 unfold pancake_Order.f
 rw [if_pos (isSt_stk hx h1 (by omega)), hx.len, if_pos (ord_all hn hx).1]
theorem porderB_ok {n : Nat} (hn : n ≤ 6) {x : List Int} (hx : Stk true n x) (h1 : 1 ≤ n) : pancake_OrderBurnt.f x = some ((ordL n true false x).map (fun m => ((m.2 : Int) + 1)), 0) := by
 unfold pancake_OrderBurnt.f
 rw [if_pos (isSt_stk hx h1 (by omega)), hx.len, if_pos (ord_all (by omega) hx).1]
end Go.Proofs.Ytepjhdblmghckaa.G
