/- PancakeSteps: without the reference: a turn changes the distance by at most 1, the number of circles by at most 1, and turned again it is what it was; the circles have all grey lines: a part of the proof (4 of 4): contracts of the functions, and plain lemmas. -/
import Derived.Test.YtepjhdblmghckaaUt
import Derived.Test.YtepjhdblmghckaaEt1
import Derived.Test.YtepjhdblmghckaaEt2
import Derived.Test.YtepjhdblmghckaaEt3
set_option linter.unusedVariables false
set_option linter.unusedSimpArgs false

namespace Go.Proofs.Ytepjhdblmghckaa.G
open Go.Proofs.Ytepjhdblmghckaa.Q Go.Proofs.Ytepjhdblmghckaa.K Go.Proofs.Ytepjhdblmghckaa.Bf
open Go.RowKit Go.Proofs.YtepjhdblmghckaaW.PrintWords Go.Proofs.YtepjhdblmghckaaW.PrintLast Go.Proofs.YtepjhdblmghckaaW.PrintMore
set_option linter.unusedVariables false
theorem nth_get (l : List Int) (p : Nat) (h : p < l.length) : nth l p = l[p] := by
 unfold nth; rw [List.getD_eq_getElem?_getD, List.getElem?_eq_getElem h]; rfl
theorem nth_in (l : List Int) (p : Nat) (h : p < l.length) : nth l p ∈ l := by
 rw [nth_get l p h]; exact List.getElem_mem h
theorem mem_nth {l : List Int} {x : Int} (h : x ∈ l) : ∃ p, p < l.length ∧ nth l p = x := by
 obtain ⟨p, hp, rfl⟩ := List.getElem_of_mem h
 exact ⟨p, hp, nth_get l p hp⟩
theorem stk_nth {sg : Bool} {n : Nat} {l : List Int} : Stk sg n l ↔ l.length = n ∧ (∀ p, p < n → nth l p ≠ 0 ∧ -(n : Int) ≤ nth l p ∧ nth l p ≤ n) ∧ (∀ p q, p < n → q < n → (nth l p).natAbs = (nth l q).natAbs → p = q) ∧ (sg = false → ∀ p, p < n → 0 < nth l p) := by
 constructor
 ·intro h
  refine ⟨h.len, fun p hp => h.rng _ (nth_in l p (by rw [h.len]; exact hp)), fun p q hp hq he => ?_, fun hs p hp => h.pos hs _ (nth_in l p (by rw [h.len]; exact hp))⟩
  have hnd := List.pairwise_iff_getElem.1 h.nd
  rcases Nat.lt_trichotomy p q with hlt | he2 | hlt
  ·have := hnd p q (by rw [List.length_map, h.len]; exact hp) (by rw [List.length_map, h.len]; exact hq) hlt
   rw [List.getElem_map, List.getElem_map, ← nth_get l p (by rw [h.len]; exact hp), ← nth_get l q (by rw [h.len]; exact hq)] at this
   exact absurd he this
  ·exact he2
  ·have := hnd q p (by rw [List.length_map, h.len]; exact hq) (by rw [List.length_map, h.len]; exact hp) hlt
   rw [List.getElem_map, List.getElem_map, ← nth_get l p (by rw [h.len]; exact hp), ← nth_get l q (by rw [h.len]; exact hq)] at this
   exact absurd he.symm this
 ·rintro ⟨h1, h2, h3, h4⟩
  refine ⟨h1, fun x hx => ?_, ?_, fun hs x hx => ?_⟩
  ·obtain ⟨p, hp, rfl⟩ := mem_nth hx
   exact h2 p (by omega)
  ·refine List.pairwise_iff_getElem.2 (fun p q hp hq hlt he => ?_)
   rw [List.length_map] at hp hq
   rw [List.getElem_map, List.getElem_map, ← nth_get l p hp, ← nth_get l q hq] at he
   have := h3 p q (by omega) (by omega) he
   omega
  ·obtain ⟨p, hp, rfl⟩ := mem_nth hx
   exact h4 hs p (by omega)
theorem fl_eq (sg : Bool) (m : Nat → Int) (i k p : Nat) : fl sg m i (k + 1) p = if i ≤ p ∧ p ≤ k then (if sg = true then -(m (i + k - p)) else m (i + k - p)) else m p := by
 unfold fl rv
 cases sg
 ·rw [if_neg (by simp)]
  by_cases h : i ≤ p ∧ p ≤ k
  ·rw [if_pos h, if_pos (by omega), if_neg (by decide)]; congr 1
  ·rw [if_neg h, if_neg (by omega)]
 ·by_cases h : i ≤ p ∧ p ≤ k
  ·rw [if_pos h, if_pos ⟨rfl, h.1, by omega⟩, if_pos ⟨h.1, by omega⟩, if_pos rfl]; congr 2
  ·rw [if_neg h, if_neg (fun h' => h ⟨h'.2.1, by omega⟩), if_neg (fun h' => h ⟨h'.1, by omega⟩)]
theorem flL_nth {l : List Int} (sg : Bool) (i k p : Nat) (hk : k < l.length) : nth (flL sg l i k) p = if i ≤ p ∧ p ≤ k then (if sg = true then -(nth l (i + k - p)) else nth l (i + k - p)) else nth l p := by
 rw [nth_flL sg l i k hk, fl_eq]
theorem stk_flL {sg tg : Bool} {n : Nat} {l : List Int} (h : Stk sg n l) (ht : tg = true → sg = true) (i k : Nat) (hik : i ≤ k) (hk : k < n) : Stk sg n (flL tg l i k) := by
 have hl := h.len
 obtain ⟨h1, h2, h3, h4⟩ := stk_nth.1 h
 have hab : ∀ p, (nth (flL tg l i k) p).natAbs = (nth l (if i ≤ p ∧ p ≤ k then i + k - p else p)).natAbs := fun p => by
  rw [flL_nth tg i k p (by omega)]
  by_cases hp : i ≤ p ∧ p ≤ k
  ·rw [if_pos hp, if_pos hp]
   split
   ·rw [Int.natAbs_neg]
   ·rfl
  ·rw [if_neg hp, if_neg hp]
 have hin : ∀ p, p < n → (if i ≤ p ∧ p ≤ k then i + k - p else p) < n := fun p hp => by split <;> omega
 refine stk_nth.2 ⟨by rw [flL_len, hl], fun p hp => ?_, fun p q hp hq he => ?_, fun hs p hp => ?_⟩
 ·have := h2 _ (hin p hp)
  have e := hab p
  omega
 ·rw [hab p, hab q] at he
  have := h3 _ _ (hin p hp) (hin q hq) he
  split at this <;> split at this <;> omega
 ·have htf : tg = false := by cases tg with
   | false => rfl
   | true => rw [ht rfl] at hs; cases hs
  have := h4 hs _ (hin p hp)
  rw [flL_nth tg i k p (by omega), htf]
  by_cases hpk : i ≤ p ∧ p ≤ k
  ·rw [if_pos hpk] at this ⊢; rw [if_neg (by decide)]; exact this
  ·rw [if_neg hpk] at this ⊢; exact this
section
variable {α : Type} [DecidableEq α] {next : α → List α}
end
end Go.Proofs.Ytepjhdblmghckaa.G


namespace Go.Proofs.Ytepjhdblmghckaa.G
open Go.Proofs.Ytepjhdblmghckaa.Q Go.Proofs.Ytepjhdblmghckaa.K Go.Proofs.Ytepjhdblmghckaa.Bf
open Go.RowKit Go.Proofs.YtepjhdblmghckaaW.PrintWords Go.Proofs.YtepjhdblmghckaaW.PrintLast Go.Proofs.YtepjhdblmghckaaW.PrintMore
set_option linter.unusedVariables false
theorem up1 (e : Nat) (h : e ≤ 1000000000) : wrap64 ((e : Int) + 1) = ((e + 1 : Nat) : Int) := by rw [w64 (by omega) (by omega)]; rfl
end Go.Proofs.Ytepjhdblmghckaa.G


namespace Go.Proofs.Ytepjhdblmghckaa.G
open Go.Proofs.Ytepjhdblmghckaa.Q Go.Proofs.Ytepjhdblmghckaa.K Go.Proofs.Ytepjhdblmghckaa.Bf
open Go.RowKit Go.Proofs.YtepjhdblmghckaaW.PrintWords Go.Proofs.YtepjhdblmghckaaW.PrintLast Go.Proofs.YtepjhdblmghckaaW.PrintMore
set_option linter.unusedVariables false
def joinN (g : List Int) (a b : Nat) : List Int := g.map (fun z => if z = nth g b then nth g a else z)
theorem joinN_len (g : List Int) (a b : Nat) : (joinN g a b).length = g.length := List.length_map ..
theorem nth_joinN {g : List Int} (a b : Nat) {i : Nat} (h : i < g.length) : nth (joinN g a b) i = if nth g i = nth g b then nth g a else nth g i := by
 rw [nth_get _ i (by rw [joinN_len]; exact h), nth_get g i h]
 unfold joinN
 rw [List.getElem_map]
def mergeL (E : List (Nat × Nat)) (g : List Int) : List Int := E.foldl (fun g e => joinN g e.1 e.2) g
theorem mergeL_len : ∀ (E : List (Nat × Nat)) (g : List Int), (mergeL E g).length = g.length
 | [], _ => rfl
 | e :: E, g => by
  show (mergeL E (joinN g e.1 e.2)).length = _
  rw [mergeL_len E, joinN_len]
theorem joinN_keep {g : List Int} (x y : Nat) {a b : Nat} (ha : a < g.length) (hb : b < g.length) (h : nth g a = nth g b) : nth (joinN g x y) a = nth (joinN g x y) b := by
 rw [nth_joinN x y ha, nth_joinN x y hb, h]
theorem mergeL_keep : ∀ (E : List (Nat × Nat)) {g : List Int} {a b : Nat}, a < g.length → b < g.length → nth g a = nth g b → nth (mergeL E g) a = nth (mergeL E g) b
 | [], _, _, _, _, _, h => h
 | e :: E, g, a, b, ha, hb, h => by
  show nth (mergeL E (joinN g e.1 e.2)) a = nth (mergeL E (joinN g e.1 e.2)) b
  exact mergeL_keep E (by rw [joinN_len]; exact ha) (by rw [joinN_len]; exact hb) (joinN_keep _ _ ha hb h)
theorem mergeL_pair : ∀ (E : List (Nat × Nat)) {g : List Int}, (∀ e, e ∈ E → e.1 < g.length ∧ e.2 < g.length) → ∀ e, e ∈ E → nth (mergeL E g) e.1 = nth (mergeL E g) e.2
 | e0 :: E, g, hE, e, he => by
  show nth (mergeL E (joinN g e0.1 e0.2)) e.1 = nth (mergeL E (joinN g e0.1 e0.2)) e.2
  rcases List.mem_cons.1 he with rfl | he
  ·have hb := hE e (List.mem_cons_self ..)
   refine mergeL_keep E (by rw [joinN_len]; exact hb.1) (by rw [joinN_len]; exact hb.2) ?_
   rw [nth_joinN _ _ hb.1, nth_joinN _ _ hb.2, if_pos (Eq.refl (nth g e.2))]
   split <;> rfl
  ·exact mergeL_pair E (fun z hz => by rw [joinN_len]; exact hE z (List.mem_cons_of_mem _ hz)) e he
def Resp (S : Nat → Prop) (g : List Int) : Prop := ∀ a b, a < g.length → b < g.length → nth g a = nth g b → S a → S b
theorem mergeL_resp {S : Nat → Prop} : ∀ (E : List (Nat × Nat)) {g : List Int}, (∀ e, e ∈ E → e.1 < g.length ∧ e.2 < g.length ∧ (S e.1 ↔ S e.2)) → Resp S g → Resp S (mergeL E g)
 | [], _, _, h => h
 | e :: E, g, hE, h => by
  show Resp S (mergeL E (joinN g e.1 e.2))
  have he := hE e (List.mem_cons_self ..)
  refine mergeL_resp E (fun z hz => by rw [joinN_len]; exact hE z (List.mem_cons_of_mem _ hz)) (fun a b ha hb hab hS => ?_)
  rw [joinN_len] at ha hb
  rw [nth_joinN _ _ ha, nth_joinN _ _ hb] at hab
  by_cases h1 : nth g a = nth g e.2
  ·have s2 : S e.2 := h a e.2 ha he.2.1 h1 hS
   by_cases h2 : nth g b = nth g e.2
   ·exact h e.2 b he.2.1 hb h2.symm s2
   ·rw [if_pos h1, if_neg h2] at hab
    exact h e.1 b he.1 hb hab (he.2.2.2 s2)
  ·rw [if_neg h1] at hab
   by_cases h2 : nth g b = nth g e.2
   ·rw [if_pos h2] at hab
    exact h e.2 b he.2.1 hb h2.symm (he.2.2.1 (h a e.1 ha he.1 hab hS))
   ·rw [if_neg h2] at hab
    exact h a b ha hb hab hS
def idL (m : Nat) : List Int := (List.range m).map (fun (k : Nat) => (k : Int))
theorem idL_len (m : Nat) : (idL m).length = m := by simp [idL]
theorem nth_idL {m i : Nat} (h : i < m) : nth (idL m) i = (i : Int) := by
 rw [nth_get _ i (by rw [idL_len]; exact h)]
 unfold idL
 simp
theorem idL_resp (S : Nat → Prop) (m : Nat) : Resp S (idL m) := fun a b ha hb h hS => by
 rw [idL_len] at ha hb
 rw [nth_idL ha, nth_idL hb] at h
 have : a = b := by omega
 rw [← this]; exact hS
def blackE (p : List Int) (j : Nat) : Nat × Nat := ((nth p (2 * j)).toNat / 2, (nth p (2 * j + 1)).toNat / 2)
def rndTo (p : List Int) (n j : Nat) : List Int := mergeL ((List.range j).map (blackE p)) (idL (n + 1))
def rndL (s : List Int) : List Int := rndTo (picL s) s.length (s.length + 1)
theorem rndTo_len (p : List Int) (n j : Nat) : (rndTo p n j).length = n + 1 := by unfold rndTo; rw [mergeL_len, idL_len]
theorem rndL_len (s : List Int) : (rndL s).length = s.length + 1 := rndTo_len ..
def firstIn (g : List Int) (i : Nat) : Bool := (List.range i).all (fun j => decide (nth g j ≠ nth g i))
def clsUp (g : List Int) (i k : Nat) : List Int := ((List.range k).filter (fun q => decide (nth g q = nth g i))).map (fun (q : Nat) => (q : Int))
def clsOf (g : List Int) (i : Nat) : List Int := clsUp g i g.length
def clsTo (g : List Int) (i : Nat) : List (List Int) := ((List.range i).filter (firstIn g)).map (clsOf g)
theorem firstIn_iff (g : List Int) (i : Nat) : firstIn g i = true ↔ ∀ j, j < i → nth g j ≠ nth g i := by
 unfold firstIn
 rw [List.all_eq_true]
 exact ⟨fun h j hj => of_decide_eq_true (h j (List.mem_range.2 hj)), fun h j hj => decide_eq_true (h j (List.mem_range.1 hj))⟩
theorem clsTo_succ (g : List Int) (i : Nat) : clsTo g (i + 1) = if firstIn g i = true then clsTo g i ++ [clsOf g i] else clsTo g i := by
 unfold clsTo
 rw [List.range_succ, List.filter_append]
 by_cases h : firstIn g i = true
 ·rw [if_pos h]; simp [h]
 ·rw [if_neg h]; simp [h]
theorem clsTo_le (g : List Int) (i : Nat) : (clsTo g i).length ≤ i := by
 unfold clsTo
 rw [List.length_map]
 exact Nat.le_trans (List.length_filter_le _ _) (by simp)
theorem getD_set (l : List Bool) (k q : Nat) (h : k < l.length) : (l.set k true).getD q false = if q = k then true else l.getD q false := by
 rw [List.getD_eq_getElem?_getD, List.getD_eq_getElem?_getD, List.getElem?_set]
 by_cases e : q = k
 ·rw [if_pos e, if_pos e.symm, if_pos h]; rfl
 ·rw [if_neg e, if_neg (fun h => e h.symm)]
end Go.Proofs.Ytepjhdblmghckaa.G


namespace Go.Proofs.Ytepjhdblmghckaa.G
open Go.Proofs.Ytepjhdblmghckaa.Q Go.Proofs.Ytepjhdblmghckaa.K Go.Proofs.Ytepjhdblmghckaa.Bf
open Go.RowKit Go.Proofs.YtepjhdblmghckaaW.PrintWords Go.Proofs.YtepjhdblmghckaaW.PrintLast Go.Proofs.YtepjhdblmghckaaW.PrintMore
set_option linter.unusedVariables false
theorem nth_app (a b : List Int) (j : Nat) : nth (a ++ b) j = if j < a.length then nth a j else nth b (j - a.length) := by
 unfold nth
 rw [List.getD_eq_getElem?_getD, List.getElem?_append]
 split
 ·rw [List.getD_eq_getElem?_getD]
 ·rw [List.getD_eq_getElem?_getD]
theorem pic1_len (v : Int) : (pic1 v).length = 2 := by unfold pic1; split <;> rfl
theorem nth_flat : ∀ (s : List Int) (i e : Nat), i < s.length → e < 2 → nth (s.flatMap pic1) (2 * i + e) = nth (pic1 (nth s i)) e
 | x :: l, 0, e, _, he => by
  rw [List.flatMap_cons, nth_app, pic1_len, if_pos (by omega), Nat.mul_zero, Nat.zero_add]
  rfl
 | x :: l, i + 1, e, hi, he => by
  rw [List.flatMap_cons, nth_app, pic1_len, if_neg (by omega), show 2 * (i + 1) + e - 2 = 2 * i + e by omega, nth_flat l i e (by simpa using hi) he]
  rfl
theorem picL_mid (s : List Int) (i e : Nat) (hi : i < s.length) (he : e < 2) : nth (picL s) (2 * i + 1 + e) = if nth s i > 0 then 2 * nth s i - 1 + e else -2 * nth s i - e := by
 unfold picL
 rw [nth_app, picTo_len, if_pos (by omega)]
 have : nth (picTo s) (2 * i + 1 + e) = nth (s.flatMap pic1) (2 * i + e) := by
  unfold picTo nth
  rw [show 2 * i + 1 + e = (2 * i + e) + 1 by omega]
  rfl
 rw [this, nth_flat s i e hi he]
 unfold pic1
 match e, he with
 | 0, _ => split <;> simp [nth]
 | 1, _ => split <;> simp [nth]
theorem picL_last (s : List Int) : nth (picL s) (2 * s.length + 1) = 2 * (s.length : Int) + 1 := by
 unfold picL
 rw [nth_app, picTo_len, if_neg (by omega), show 2 * s.length + 1 - (1 + 2 * s.length) = 0 by omega]
 rfl
structure PicP (N : Nat) (p pl : List Int) : Prop where
 p_lt : ∀ q, q < N → (nth p q).toNat < N
 l_lt : ∀ x, x < N → (nth pl x).toNat < N
 pp : ∀ x, x < N → (nth p (nth pl x).toNat).toNat = x
 lp : ∀ q, q < N → (nth pl (nth p q).toNat).toNat = q
theorem pl_set (l : List Int) (a : Nat) (v : Int) (x : Nat) (h : a < l.length) : nth (l.set a v) x = if x = a then v else nth l x := by
 unfold nth
 rw [List.getD_eq_getElem?_getD, List.getElem?_set]
 by_cases e : x = a
 ·rw [if_pos e, if_pos e.symm, if_pos h]; rfl
 ·rw [if_neg e, if_neg (fun h => e h.symm), List.getD_eq_getElem?_getD]
theorem plTo_at {p : List Int} {N : Nat} (hN : p.length = N) (hlt : ∀ q, q < N → (nth p q).toNat < N) (hinj : ∀ q q', q < N → q' < N → (nth p q).toNat = (nth p q').toNat → q = q') : ∀ k, k ≤ N → ∀ q, q < k → nth (plTo p k) (nth p q).toNat = (q : Int)
 | 0, _, q, hq => by omega
 | k + 1, hk, q, hq => by
  rw [plTo_step, pl_set _ _ _ _ (by rw [plTo_len, hN]; exact hlt k (by omega))]
  by_cases e : q = k
  ·rw [e, if_pos rfl]
  ·rw [if_neg (fun h => e (hinj q k (by omega) (by omega) h))]
   exact plTo_at hN hlt hinj k (by omega) q (by omega)
theorem stk_has {s : List Int} {n : Nat} (hs : Stk true n s) {w : Nat} (h1 : 1 ≤ w) (h2 : w ≤ n) : ∃ i, i < n ∧ (nth s i).natAbs = w := by
 by_cases hw : w ∈ s.map Int.natAbs
 ·obtain ⟨v, hv, e⟩ := List.mem_map.1 hw
  obtain ⟨i, hi, e2⟩ := mem_nth hv
  exact ⟨i, by rw [← hs.len]; exact hi, by rw [e2, e]⟩
 ·exfalso
  have hnd : (w :: s.map Int.natAbs).Nodup := List.nodup_cons.2 ⟨hw, hs.nd⟩
  have hsub : (w :: s.map Int.natAbs) ⊆ (List.range n).map (· + 1) := by
   intro z hz
   rcases List.mem_cons.1 hz with rfl | hz
   ·exact List.mem_map.2 ⟨z - 1, List.mem_range.2 (by omega), by omega⟩
   ·obtain ⟨v, hv, rfl⟩ := List.mem_map.1 hz
    have := hs.rng v hv
    exact List.mem_map.2 ⟨v.natAbs - 1, List.mem_range.2 (by omega), by omega⟩
  have := hnd.length_le_of_subset hsub
  rw [List.length_cons, List.length_map, List.length_map, List.length_range, hs.len] at this
  omega
theorem pic_pos {s : List Int} {n : Nat} (hs : Stk true n s) (q : Nat) (hq : q < 2 * n + 2) : (q = 0 ∧ (nth (picL s) q).toNat = 0) ∨ (q = 2 * n + 1 ∧ (nth (picL s) q).toNat = 2 * n + 1) ∨
  ∃ i e, i < n ∧ e < 2 ∧ q = 2 * i + 1 + e ∧ ((0 < nth s i ∧ (nth (picL s) q).toNat = 2 * (nth s i).natAbs - 1 + e) ∨ (nth s i < 0 ∧ (nth (picL s) q).toNat = 2 * (nth s i).natAbs - e)) := by
 have hl := hs.len
 by_cases h0 : q = 0
 ·exact .inl ⟨h0, by rw [h0]; rfl⟩
 ·by_cases h1 : q = 2 * n + 1
  ·refine .inr (.inl ⟨h1, ?_⟩)
   rw [h1, ← hl, picL_last]
   omega
  ·refine .inr (.inr ⟨(q - 1) / 2, (q - 1) % 2, by omega, by omega, by omega, ?_⟩)
   have hm := picL_mid s ((q - 1) / 2) ((q - 1) % 2) (by omega) (by omega)
   rw [show 2 * ((q - 1) / 2) + 1 + (q - 1) % 2 = q by omega] at hm
   have hv := hs.rng (nth s ((q - 1) / 2)) (nth_in s _ (by omega))
   rw [hm]
   by_cases hp : nth s ((q - 1) / 2) > 0
   ·rw [if_pos hp]; exact .inl ⟨hp, by omega⟩
   ·rw [if_neg hp]; exact .inr ⟨by omega, by omega⟩
theorem pic_ok {s : List Int} {n : Nat} (hs : Stk true n s) : PicP (2 * n + 2) (picL s) (plL s) := by
 have hl := hs.len
 have hlen : (picL s).length = 2 * n + 2 := by rw [picL_len, hl]
 have hr : ∀ i, i < n → 1 ≤ (nth s i).natAbs ∧ (nth s i).natAbs ≤ n := fun i hi => by
  have hv := hs.rng (nth s i) (nth_in s i (by omega))
  omega
 have hnd := (stk_nth.1 hs).2.2.1
 have hlt : ∀ q, q < 2 * n + 2 → (nth (picL s) q).toNat < 2 * n + 2 := fun q hq => by
  rcases pic_pos hs q hq with ⟨_, h⟩ | ⟨_, h⟩ | ⟨i, e, hi, he, _, ⟨_, h⟩ | ⟨_, h⟩⟩
  ·omega
  ·omega
  ·have := hr i hi; omega
  ·have := hr i hi; omega
 have hinj : ∀ q q', q < 2 * n + 2 → q' < 2 * n + 2 → (nth (picL s) q).toNat = (nth (picL s) q').toNat → q = q' := fun q q' hq hq' he => by
  rcases pic_pos hs q hq with ⟨e0, h⟩ | ⟨e0, h⟩ | ⟨i, e, hi, hee, e0, h⟩
  ·rcases pic_pos hs q' hq' with ⟨e1, h'⟩ | ⟨e1, h'⟩ | ⟨i', e', hi', hee', e1, h'⟩
   ·omega
   ·omega
   ·have := hr i' hi'
    rcases h' with ⟨_, h'⟩ | ⟨_, h'⟩ <;> omega
  ·rcases pic_pos hs q' hq' with ⟨e1, h'⟩ | ⟨e1, h'⟩ | ⟨i', e', hi', hee', e1, h'⟩
   ·omega
   ·omega
   ·have := hr i' hi'
    rcases h' with ⟨_, h'⟩ | ⟨_, h'⟩ <;> omega
  ·have h1 := hr i hi
   rcases pic_pos hs q' hq' with ⟨e1, h'⟩ | ⟨e1, h'⟩ | ⟨i', e', hi', hee', e1, h'⟩
   ·rcases h with ⟨_, h⟩ | ⟨_, h⟩ <;> omega
   ·rcases h with ⟨_, h⟩ | ⟨_, h⟩ <;> omega
   ·have h2 := hr i' hi'
    have hab : (nth s i).natAbs = (nth s i').natAbs := by rcases h with ⟨_, h⟩ | ⟨_, h⟩ <;> rcases h' with ⟨_, h'⟩ | ⟨_, h'⟩ <;> omega
    have hii := hnd i i' hi hi' hab
    subst hii
    rcases h with ⟨s1, h⟩ | ⟨s1, h⟩ <;> rcases h' with ⟨s2, h'⟩ | ⟨s2, h'⟩ <;> omega
 have hat : ∀ q, q < 2 * n + 2 → nth (plL s) (nth (picL s) q).toNat = (q : Int) := fun q hq => by
  unfold plL
  rw [hlen]
  exact plTo_at hlen hlt hinj (2 * n + 2) (Nat.le_refl _) q hq
 have hsur : ∀ x, x < 2 * n + 2 → ∃ q, q < 2 * n + 2 ∧ (nth (picL s) q).toNat = x := fun x hx => by
  by_cases h0 : x = 0
  ·exact ⟨0, by omega, by rw [h0]; rfl⟩
  ·by_cases h1 : x = 2 * n + 1
   ·refine ⟨2 * n + 1, by omega, ?_⟩
    rw [← hl, picL_last]; omega
   ·obtain ⟨i, hi, hw⟩ := stk_has hs (w := (x + 1) / 2) (by omega) (by omega)
    have hv := hs.rng (nth s i) (nth_in s i (by omega))
    by_cases hp : nth s i > 0
    ·refine ⟨2 * i + 1 + (x + 1) % 2, by omega, ?_⟩
     rw [picL_mid s i _ (by omega) (by omega), if_pos hp]
     omega
    ·refine ⟨2 * i + 1 + x % 2, by omega, ?_⟩
     rw [picL_mid s i _ (by omega) (by omega), if_neg hp]
     omega
 refine ⟨hlt, fun x hx => ?_, fun x hx => ?_, fun q hq => ?_⟩
 ·obtain ⟨q, hq, e⟩ := hsur x hx
  rw [← e, hat q hq]; omega
 ·obtain ⟨q, hq, e⟩ := hsur x hx
  rw [← e, hat q hq, Int.toNat_natCast]
 ·rw [hat q hq, Int.toNat_natCast]
theorem x1 : ∀ x, x < 128 → x ^^^ 1 = if x % 2 = 0 then x + 1 else x - 1 := by decide +kernel
def beta (p pl : List Int) (x : Nat) : Nat := (nth p ((nth pl x).toNat ^^^ 1)).toNat
theorem x1_lt {n : Nat} (hn : n ≤ 40) {x : Nat} (hx : x < 2 * n + 2) : x ^^^ 1 < 2 * n + 2 ∧ (x ^^^ 1) ^^^ 1 = x ∧ (x ^^^ 1) / 2 = x / 2 ∧ x ^^^ 1 ≠ x := by
 have h := x1 x (by omega)
 have h2 := x1 (x ^^^ 1) (by rw [h]; split <;> omega)
 rw [h2]
 rw [h]
 by_cases e : x % 2 = 0
 ·rw [if_pos e]
  refine ⟨by omega, ?_, by omega, by omega⟩
  rw [if_neg (by omega)]; omega
 ·rw [if_neg e]
  refine ⟨by omega, ?_, by omega, by omega⟩
  rw [if_pos (by omega)]; omega
theorem half_same {n : Nat} (hn : n ≤ 40) {x y : Nat} (hx : x < 2 * n + 2) (hy : y < 2 * n + 2) (h : x / 2 = y / 2) : x = y ∨ x = y ^^^ 1 := by
 have h1 := x1 y (by omega)
 rw [h1]
 split <;> omega
def it (p pl : List Int) (x0 : Nat) : Nat → Nat
 | 0 => x0
 | i + 1 => hop p pl (it p pl x0 i)
def outs (p pl : List Int) (x0 K : Nat) : List Int := (List.range K).map (fun t => ((it p pl x0 t / 2 : Nat) : Int))
theorem outs_succ (p pl : List Int) (x0 K : Nat) : outs p pl x0 (K + 1) = outs p pl x0 K ++ [((it p pl x0 K / 2 : Nat) : Int)] := by unfold outs; rw [List.range_succ, List.map_append]; rfl
def Fresh (p pl : List Int) (S0 : Nat → Prop) (x0 K : Nat) : Prop := ∀ t, t < K → ¬ S0 (it p pl x0 t / 2) ∧ ∀ u, u < t → it p pl x0 u / 2 ≠ it p pl x0 t / 2
section
variable {n : Nat} {p pl : List Int} (hn : n ≤ 40) (P : PicP (2 * n + 2) p pl)
include hn P
theorem beta_lt {x : Nat} (hx : x < 2 * n + 2) : beta p pl x < 2 * n + 2 := P.p_lt _ (x1_lt hn (P.l_lt x hx)).1
theorem beta_inv {x : Nat} (hx : x < 2 * n + 2) : beta p pl (beta p pl x) = x := by
 have h := x1_lt hn (P.l_lt x hx)
 show (nth p ((nth pl (nth p ((nth pl x).toNat ^^^ 1)).toNat).toNat ^^^ 1)).toNat = x
 rw [P.lp _ h.1, h.2.1, P.pp x hx]
theorem beta_ne {x : Nat} (hx : x < 2 * n + 2) : beta p pl x ≠ x := fun e => by
 have h := x1_lt hn (P.l_lt x hx)
 have h2 : (nth pl (beta p pl x)).toNat = (nth pl x).toNat ^^^ 1 := P.lp _ h.1
 rw [e] at h2
 exact h.2.2.2 h2.symm
theorem it_lt {x0 : Nat} (h0 : x0 < 2 * n + 2) : ∀ i, it p pl x0 i < 2 * n + 2
 | 0 => h0
 | i + 1 => beta_lt hn P (x1_lt hn (it_lt h0 i)).1
theorem fol_run (S0 : Nat → Prop) {x0 : Nat} (h0 : x0 < 2 * n + 2) : ∀ (fuel i : Nat) (seen : List Bool), seen.length = n + 1 → (∀ j, j < n + 1 → (seen.getD j false = true ↔ S0 j ∨ ∃ t, t < i ∧ it p pl x0 t / 2 = j)) → Fresh p pl S0 x0 i → unseen seen < fuel →
  ∃ K seen', i ≤ K ∧ folF p pl fuel (it p pl x0 i) seen (outs p pl x0 i) = (outs p pl x0 K, seen') ∧ seen'.length = n + 1 ∧ (∀ j, j < n + 1 → (seen'.getD j false = true ↔ S0 j ∨ ∃ t, t < K ∧ it p pl x0 t / 2 = j)) ∧ Fresh p pl S0 x0 K ∧ (S0 (it p pl x0 K / 2) ∨ ∃ t, t < K ∧ it p pl x0 t / 2 = it p pl x0 K / 2)
 | 0, i, seen, _, _, _, hf => by omega
 | fuel + 1, i, seen, hl, hs, hfr, hf => by
  have hlt := it_lt hn P h0 i
  have hi2 : it p pl x0 i / 2 < n + 1 := by omega
  rw [folF]
  by_cases h : seen.getD (it p pl x0 i / 2) false = true
  ·rw [if_pos h]
   exact ⟨i, seen, Nat.le_refl _, rfl, hl, hs, hfr, (hs _ hi2).1 h⟩
  ·rw [if_neg h, ← outs_succ]
   have hne : ¬ (S0 (it p pl x0 i / 2) ∨ ∃ t, t < i ∧ it p pl x0 t / 2 = it p pl x0 i / 2) := fun hh => h ((hs _ hi2).2 hh)
   have hu := unseen_set (seen := seen) (j := it p pl x0 i / 2) (by omega) (by simpa using h)
   obtain ⟨K, seen', hK, he, hr⟩ := fol_run S0 h0 fuel (i + 1) (seen.set (it p pl x0 i / 2) true) (by rw [List.length_set]; exact hl) (fun j hj => by
    rw [getD_set _ _ _ (by omega)]
    by_cases e : j = it p pl x0 i / 2
    ·rw [if_pos e]
     exact ⟨fun _ => .inr ⟨i, by omega, e.symm⟩, fun _ => rfl⟩
    ·rw [if_neg e, hs j hj]
     constructor
     ·rintro (h | ⟨t, ht, e2⟩)
      ·exact .inl h
      ·exact .inr ⟨t, by omega, e2⟩
     ·rintro (h | ⟨t, ht, e2⟩)
      ·exact .inl h
      ·by_cases et : t = i
       ·rw [et] at e2; exact absurd e2.symm e
       ·exact .inr ⟨t, by omega, e2⟩) (fun t ht => by
    by_cases et : t = i
    ·subst et
     exact ⟨fun h => hne (.inl h), fun u hu e => hne (.inr ⟨u, hu, e⟩)⟩
    ·exact hfr t (by omega)) (by omega)
   exact ⟨K, seen', by omega, he, hr⟩
theorem fol_ring {S0 : Nat → Prop} (hS : ∀ x, x < 2 * n + 2 → S0 (x / 2) → S0 (beta p pl x / 2)) {x0 K : Nat} (h0 : x0 < 2 * n + 2) (hx0 : ¬ S0 (x0 / 2)) (hfr : Fresh p pl S0 x0 K) (hit : S0 (it p pl x0 K / 2) ∨ ∃ t, t < K ∧ it p pl x0 t / 2 = it p pl x0 K / 2) : 0 < K ∧ it p pl x0 K = x0 := by
 match K, hfr, hit with
 | 0, _, hit =>
  rcases hit with h | ⟨t, ht, _⟩
  ·exact absurd h hx0
  ·omega
 | K + 1, hfr, hit =>
  refine ⟨by omega, ?_⟩
  have hlt := it_lt hn P h0
  have hxK := x1_lt hn (hlt K)
  have hnext : it p pl x0 (K + 1) = beta p pl (it p pl x0 K ^^^ 1) := rfl
  have hback : beta p pl (it p pl x0 (K + 1)) = it p pl x0 K ^^^ 1 := by rw [hnext, beta_inv hn P hxK.1]
  rcases hit with h | ⟨j, hj, e⟩
  ·have := hS _ (hlt (K + 1)) h
   rw [hback, hxK.2.2.1] at this
   exact absurd this (hfr K (by omega)).1
  ·rcases half_same hn (hlt (K + 1)) (hlt j) e.symm with h | h
   ·match j, hj, h with
    | 0, _, h => exact h
    | j + 1, hj, h =>
     exfalso
     have h2 : beta p pl (it p pl x0 (K + 1)) = beta p pl (it p pl x0 (j + 1)) := by rw [h]
     have hxj := x1_lt hn (hlt j)
     rw [hback, show it p pl x0 (j + 1) = beta p pl (it p pl x0 j ^^^ 1) from rfl, beta_inv hn P hxj.1] at h2
     have h3 : it p pl x0 K / 2 = it p pl x0 j / 2 := by rw [← hxK.2.2.1, h2, hxj.2.2.1]
     exact (hfr K (by omega)).2 j (by omega) h3.symm
   ·exfalso
    have hxj := x1_lt hn (hlt j)
    have h2 : it p pl x0 K ^^^ 1 = it p pl x0 (j + 1) := by rw [← hback, h]; rfl
    have h3 : it p pl x0 (j + 1) / 2 = it p pl x0 K / 2 := by rw [← h2, hxK.2.2.1]
    by_cases e1 : j + 1 = K
    ·rw [e1] at h2; exact hxK.2.2.2 h2
    ·by_cases e2 : j = K
     ·subst e2
      exact beta_ne hn P hxK.1 (by rw [← hnext]; exact h)
     ·exact (hfr K (by omega)).2 (j + 1) (by omega) h3
theorem fol_closed {x0 K : Nat} (h0 : x0 < 2 * n + 2) (hK : 0 < K) (hr : it p pl x0 K = x0) {x : Nat} (hx : x < 2 * n + 2) (h : ∃ t, t < K ∧ it p pl x0 t / 2 = x / 2) : ∃ t, t < K ∧ it p pl x0 t / 2 = beta p pl x / 2 := by
 have hlt := it_lt hn P h0
 obtain ⟨t, ht, e⟩ := h
 have hnext : ∀ i, it p pl x0 (i + 1) = beta p pl (it p pl x0 i ^^^ 1) := fun _ => rfl
 have hback : ∀ i, beta p pl (it p pl x0 (i + 1)) = it p pl x0 i ^^^ 1 := fun i => by rw [hnext, beta_inv hn P (x1_lt hn (hlt i)).1]
 rcases half_same hn hx (hlt t) e.symm with h | h
 ·match t, ht, h with
  | 0, _, h =>
   obtain ⟨k, rfl⟩ : ∃ k, K = k + 1 := ⟨K - 1, by omega⟩
   refine ⟨k, by omega, ?_⟩
   rw [h, show it p pl x0 0 = it p pl x0 (k + 1) from hr.symm, hback, (x1_lt hn (hlt k)).2.2.1]
  | t + 1, ht, h => exact ⟨t, by omega, by rw [h, hback, (x1_lt hn (hlt t)).2.2.1]⟩
 ·by_cases e1 : t + 1 = K
  ·exact ⟨0, hK, by rw [h, ← hnext, e1, hr]; rfl⟩
  ·exact ⟨t + 1, by omega, by rw [h, ← hnext]⟩
end
end Go.Proofs.Ytepjhdblmghckaa.G


namespace Go.Proofs.Ytepjhdblmghckaa.G
open Go.Proofs.Ytepjhdblmghckaa.Q Go.Proofs.Ytepjhdblmghckaa.K Go.Proofs.Ytepjhdblmghckaa.Bf
open Go.RowKit Go.Proofs.YtepjhdblmghckaaW.PrintWords Go.Proofs.YtepjhdblmghckaaW.PrintLast Go.Proofs.YtepjhdblmghckaaW.PrintMore
set_option linter.unusedVariables false
structure BlackG (n : Nat) (p pl g : List Int) : Prop where
 len : g.length = n + 1
 same : ∀ x, x < 2 * n + 2 → nth g (beta p pl x / 2) = nth g (x / 2)
 least : ∀ S : Nat → Prop, (∀ x, x < 2 * n + 2 → S (x / 2) → S (beta p pl x / 2)) → Resp S g
theorem beta_even {n : Nat} (hn : n ≤ 40) {p pl : List Int} (P : PicP (2 * n + 2) p pl) {j : Nat} (hj : j < n + 1) : beta p pl (nth p (2 * j)).toNat = (nth p (2 * j + 1)).toNat ∧ beta p pl (nth p (2 * j + 1)).toNat = (nth p (2 * j)).toNat := by
 have h1 := x1 (2 * j) (by omega)
 have h2 := x1 (2 * j + 1) (by omega)
 rw [if_pos (by omega)] at h1
 rw [if_neg (by omega), show 2 * j + 1 - 1 = 2 * j by omega] at h2
 unfold beta
 rw [P.lp _ (by omega), P.lp _ (by omega), h1, h2]
 exact ⟨rfl, rfl⟩
theorem round_black {s : List Int} {n : Nat} (hn : n ≤ 40) (hs : Stk true n s) : BlackG n (picL s) (plL s) (rndL s) := by
 have P := pic_ok hs
 have hl := hs.len
 have hE : ∀ e, e ∈ (List.range (n + 1)).map (blackE (picL s)) → e.1 < (idL (n + 1)).length ∧ e.2 < (idL (n + 1)).length := fun e he => by
  obtain ⟨j, hj, rfl⟩ := List.mem_map.1 he
  rw [List.mem_range] at hj
  have h1 := P.p_lt (2 * j) (by omega)
  have h2 := P.p_lt (2 * j + 1) (by omega)
  rw [idL_len]
  unfold blackE
  dsimp only
  omega
 have hg : rndL s = mergeL ((List.range (n + 1)).map (blackE (picL s))) (idL (n + 1)) := by unfold rndL rndTo; rw [hl]
 refine ⟨by rw [rndL_len, hl], fun x hx => ?_, fun S hS => ?_⟩
 ·have hq := P.l_lt x hx
  have hp := P.pp x hx
  obtain ⟨q, hqe⟩ : ∃ q, (nth (plL s) x).toNat = q := ⟨_, rfl⟩
  rw [hqe] at hq hp
  have hm := mergeL_pair _ hE (blackE (picL s) (q / 2)) (List.mem_map.2 ⟨q / 2, List.mem_range.2 (by omega), rfl⟩)
  rw [← hg] at hm
  have hb := beta_even hn P (j := q / 2) (by omega)
  unfold blackE at hm
  by_cases e : q % 2 = 0
  ·rw [show 2 * (q / 2) = q by omega] at hm hb
   rw [hp] at hm hb
   rw [hb.1]
   exact hm.symm
  ·rw [show 2 * (q / 2) + 1 = q by omega] at hm hb
   rw [hp] at hm hb
   rw [hb.2]
   exact hm
 ·rw [hg]
  refine mergeL_resp _ (fun e he => ⟨(hE e he).1, (hE e he).2, ?_⟩) (idL_resp S _)
  obtain ⟨j, hj, rfl⟩ := List.mem_map.1 he
  rw [List.mem_range] at hj
  have hb := beta_even hn P (j := j) hj
  have s1 := hS (nth (picL s) (2 * j)).toNat (P.p_lt _ (by omega))
  have s2 := hS (nth (picL s) (2 * j + 1)).toNat (P.p_lt _ (by omega))
  rw [hb.1] at s1
  rw [hb.2] at s2
  exact ⟨s1, s2⟩
theorem outs_nodup (p pl : List Int) (S0 : Nat → Prop) (x0 : Nat) : ∀ K, Fresh p pl S0 x0 K → (outs p pl x0 K).Nodup
 | 0, _ => by simp [outs]
 | K + 1, h => by
  rw [outs_succ, List.nodup_append]
  refine ⟨outs_nodup p pl S0 x0 K (fun t ht => h t (by omega)), by simp, fun a ha b hb => ?_⟩
  rw [List.mem_singleton] at hb
  subst hb
  unfold outs at ha
  obtain ⟨u, hu, rfl⟩ := List.mem_map.1 ha
  have := (h K (by omega)).2 u (List.mem_range.1 hu)
  omega
theorem clsUp_sorted (g : List Int) (i k : Nat) : (clsUp g i k).Pairwise (· < ·) := by
 unfold clsUp
 rw [List.pairwise_map]
 exact (List.pairwise_lt_range.filter _).imp (fun h => by omega)
theorem mem_clsOf {g : List Int} {i : Nat} {z : Int} : z ∈ clsOf g i ↔ ∃ q, q < g.length ∧ nth g q = nth g i ∧ z = (q : Int) := by
 unfold clsOf clsUp
 rw [List.mem_map]
 constructor
 ·rintro ⟨q, hq, rfl⟩
  rw [List.mem_filter, List.mem_range, decide_eq_true_eq] at hq
  exact ⟨q, hq.1, hq.2, rfl⟩
 ·rintro ⟨q, h1, h2, rfl⟩
  exact ⟨q, by rw [List.mem_filter, List.mem_range, decide_eq_true_eq]; exact ⟨h1, h2⟩, rfl⟩
theorem fol_group {n : Nat} (hn : n ≤ 40) {p pl g : List Int} (P : PicP (2 * n + 2) p pl) (B : BlackG n p pl g) {l : Nat} (hl : l < n + 1) {seen : List Bool} (hsl : seen.length = n + 1) (hs : ∀ j, j < n + 1 → (seen.getD j false = true ↔ ∃ i, i < l ∧ nth g i = nth g j)) (hnl : seen.getD l false = false) :
  ∃ L seen', folF p pl (unseen seen + 1) (2 * l) seen [] = (L, seen') ∧ sortL L = clsOf g l ∧ seen'.length = n + 1 ∧ ∀ j, j < n + 1 → (seen'.getD j false = true ↔ ∃ i, i < l + 1 ∧ nth g i = nth g j) := by
 have h0 : 2 * l < 2 * n + 2 := by omega
 have hx0 : ¬ ∃ i, i < l ∧ nth g i = nth g (2 * l / 2) := fun h => by
  rw [show 2 * l / 2 = l by omega] at h
  have := (hs l hl).2 h
  rw [hnl] at this; cases this
 have hS : ∀ x, x < 2 * n + 2 → (∃ i, i < l ∧ nth g i = nth g (x / 2)) → ∃ i, i < l ∧ nth g i = nth g (beta p pl x / 2) := fun x hx => by
  rintro ⟨i, hi, e⟩
  exact ⟨i, hi, by rw [B.same x hx]; exact e⟩
 obtain ⟨K, seen', _, he, hsl', hs', hfr, hit⟩ := fol_run hn P (fun j => ∃ i, i < l ∧ nth g i = nth g j) h0 (unseen seen + 1) 0 seen hsl (fun j hj => by
  rw [hs j hj]
  exact ⟨.inl, fun h => h.elim id (fun ⟨t, ht, _⟩ => absurd ht (by omega))⟩) (fun t ht => absurd ht (by omega)) (by omega)
 obtain ⟨hK, hring⟩ := fol_ring hn P hS h0 hx0 hfr hit
 have hgrp : ∀ t, nth g (it p pl (2 * l) t / 2) = nth g l := by
  intro t
  induction t with
  | zero => show nth g (2 * l / 2) = nth g l; rw [show 2 * l / 2 = l by omega]
  | succ t ih =>
   have hx := x1_lt hn (it_lt hn P h0 t)
   show nth g (beta p pl (it p pl (2 * l) t ^^^ 1) / 2) = nth g l
   rw [B.same _ hx.1, hx.2.2.1, ih]
 have hmem : ∀ j, j < n + 1 → ((∃ t, t < K ∧ it p pl (2 * l) t / 2 = j) ↔ nth g j = nth g l) := fun j hj => by
  constructor
  ·rintro ⟨t, _, e⟩
   rw [← e]; exact hgrp t
  ·intro e
   have hR := B.least (fun j => ∃ t, t < K ∧ it p pl (2 * l) t / 2 = j) (fun x hx h => fol_closed hn P h0 hK hring hx h)
   exact hR l j (by rw [B.len]; exact hl) (by rw [B.len]; exact hj) e.symm ⟨0, hK, by show 2 * l / 2 = l; omega⟩
 refine ⟨outs p pl (2 * l) K, seen', he, ?_, hsl', fun j hj => ?_⟩
 ·refine perm_sorted_eq _ _ ?_ (sortL_sorted _) ((clsUp_sorted g l _).imp (fun h => by omega))
  refine (List.mergeSort_perm ..).trans ((List.perm_ext_iff_of_nodup (outs_nodup p pl _ _ K hfr) ((clsUp_sorted g l _).imp (fun h => by omega))).2 (fun z => ?_))
  rw [show clsUp g l g.length = clsOf g l from rfl, mem_clsOf]
  unfold outs
  rw [List.mem_map]
  constructor
  ·rintro ⟨t, ht, rfl⟩
   have := it_lt hn P h0 t
   exact ⟨it p pl (2 * l) t / 2, by rw [B.len]; omega, hgrp t, rfl⟩
  ·rintro ⟨q, hq, e, rfl⟩
   rw [B.len] at hq
   obtain ⟨t, ht, e2⟩ := (hmem q hq).2 e
   exact ⟨t, List.mem_range.2 ht, by rw [e2]⟩
 ·rw [hs' j hj, hmem j hj]
  constructor
  ·rintro (⟨i, hi, e⟩ | e)
   ·exact ⟨i, by omega, e⟩
   ·exact ⟨l, by omega, e.symm⟩
  ·rintro ⟨i, hi, e⟩
   by_cases e2 : i = l
   ·rw [e2] at e; exact .inr e.symm
   ·exact .inl ⟨i, by omega, e⟩
theorem cir_to {n : Nat} (hn : n ≤ 40) {p pl g : List Int} (P : PicP (2 * n + 2) p pl) (B : BlackG n p pl g) : ∀ k, k ≤ n + 1 → (cirTo p pl n k).1.length = n + 1 ∧ (∀ j, j < n + 1 → ((cirTo p pl n k).1.getD j false = true ↔ ∃ i, i < k ∧ nth g i = nth g j)) ∧ (cirTo p pl n k).2 = clsTo g k
 | 0, _ => by
  refine ⟨by simp [cirTo], fun j hj => ⟨fun h => ?_, fun ⟨i, hi, _⟩ => absurd hi (by omega)⟩, rfl⟩
  have : (List.replicate (n + 1) false).getD j false = true := h
  rw [List.getD_eq_getElem?_getD, List.getElem?_replicate] at this
  split at this <;> cases this
 | k + 1, hk => by
  obtain ⟨h1, h2, h3⟩ := cir_to hn P B k (by omega)
  rw [cirTo_step]
  unfold cirStep
  rw [clsTo_succ]
  by_cases hd : (cirTo p pl n k).1.getD k false = true
  ·have hf : ¬ firstIn g k = true := fun hf => by
    obtain ⟨j, hj, he⟩ := (h2 k (by omega)).1 hd
    exact (firstIn_iff g k).1 hf j hj he
   rw [if_pos hd, if_neg hf]
   refine ⟨h1, fun j hj => ?_, h3⟩
   rw [h2 j hj]
   constructor
   ·rintro ⟨i, hi, e⟩; exact ⟨i, by omega, e⟩
   ·rintro ⟨i, hi, e⟩
    by_cases ei : i = k
    ·obtain ⟨i', hi', e'⟩ := (h2 k (by omega)).1 hd
     exact ⟨i', hi', by rw [e', ← e, ei]⟩
    ·exact ⟨i, by omega, e⟩
  ·have hf : firstIn g k = true := (firstIn_iff g k).2 (fun j hj he => hd ((h2 k (by omega)).2 ⟨j, hj, he⟩))
   rw [if_neg hd, if_pos hf]
   obtain ⟨L, seen', he, hL, hl', hs'⟩ := fol_group hn P B (l := k) (by omega) h1 h2 (by simpa using hd)
   rw [he]
   exact ⟨hl', hs', by rw [h3, hL]⟩
theorem circL_cls {s : List Int} {n : Nat} (hn : n ≤ 40) (hs : Stk true n s) : circL s = clsTo (rndL s) (n + 1) := by
 have h := (cir_to hn (pic_ok hs) (round_black hn hs) (n + 1) (Nat.le_refl _)).2.2
 unfold circL
 rw [hs.len]
 exact h
end Go.Proofs.Ytepjhdblmghckaa.G


namespace Go.Proofs.Ytepjhdblmghckaa.G
open Go.Proofs.Ytepjhdblmghckaa.Q Go.Proofs.Ytepjhdblmghckaa.K Go.Proofs.Ytepjhdblmghckaa.Bf
open Go.RowKit Go.Proofs.YtepjhdblmghckaaW.PrintWords Go.Proofs.YtepjhdblmghckaaW.PrintLast Go.Proofs.YtepjhdblmghckaaW.PrintMore
set_option linter.unusedVariables false
def linOf (pl : List Int) (i : Nat) : S57 := ⟨(spanOf pl i).1, (spanOf pl i).2⟩
theorem mn_eq (a b : Int) : mn a b = min a b := by unfold mn; split <;> omega
theorem mx_eq (a b : Int) : mx a b = max a b := by unfold mx; split <;> omega
def crossD (a b : S57) : Bool := (decide (b.f0 < a.f0) && decide (a.f0 < b.f1)) != (decide (b.f0 < a.f1) && decide (a.f1 < b.f1))
def lets (p g : List Int) (left : List Bool) (k : Nat) : List Int := ((p.take k).map (fun x => nth g (x.toNat / 2))).filter (fun z => left.getD z.toNat false)
def ahead (l : List Int) (i : Nat) : Int := nth l ((i + l.length - 1) % l.length)
def begN (l : List Int) (g : Int) (k : Nat) : Nat := (List.range k).countP (fun i => decide (nth l i = g) && decide (ahead l i ≠ g))
theorem begN_step (l : List Int) (g : Int) (k : Nat) : begN l g (k + 1) = begN l g k + if nth l k = g ∧ ahead l k ≠ g then 1 else 0 := by
 unfold begN
 rw [List.range_succ, List.countP_append, List.countP_singleton]
 congr 1
 by_cases h : nth l k = g ∧ ahead l k ≠ g
 ·rw [if_pos h, if_pos (by simp [h])]
 ·rw [if_neg h, if_neg (by simpa using h)]
def wholeB (p g : List Int) (left : List Bool) (z : Int) : Bool := decide (begN (lets p g left p.length) z (lets p g left p.length).length ≤ 1)
end Go.Proofs.Ytepjhdblmghckaa.G


namespace Go.Proofs.Ytepjhdblmghckaa.G
open Go.Proofs.Ytepjhdblmghckaa.Q Go.Proofs.Ytepjhdblmghckaa.K Go.Proofs.Ytepjhdblmghckaa.Bf
open Go.RowKit Go.Proofs.YtepjhdblmghckaaW.PrintWords Go.Proofs.YtepjhdblmghckaaW.PrintLast Go.Proofs.YtepjhdblmghckaaW.PrintMore
set_option linter.unusedVariables false
def crossE (pl : List Int) (i k : Nat) : List (Nat × Nat) := ((List.range k).filter (fun q => crossD (linOf pl i) (linOf pl q))).map (fun q => (i, q))
def allE (pl : List Int) (i : Nat) : List (Nat × Nat) := (List.range i).flatMap (fun i => crossE pl i i)
section
variable (s pl c : List Int) (m : Nat) (hm : m ≤ 1000) (hc : c.length = m) (res : Int × Int × Int × Bool)
include hm hc
end
def flg (m : Nat) (f : Nat → Bool) : List Bool := (List.range m).map f
theorem flg_at {m q : Nat} (f : Nat → Bool) (h : q < m) : (flg m f).getD q false = f q := by simp [flg, h]
theorem set_at (l : List Bool) (k q : Nat) (b : Bool) (h : k < l.length) : (l.set k b).getD q false = if q = k then b else l.getD q false := by
 rw [List.getD_eq_getElem?_getD, List.getD_eq_getElem?_getD, List.getElem?_set]
 by_cases e : q = k
 ·rw [if_pos e, if_pos e.symm, if_pos h]; rfl
 ·rw [if_neg e, if_neg (fun h => e h.symm)]
def isG (g : List Int) (i q : Nat) : Bool := (List.range i).any (fun j => decide ((nth g j).toNat = q))
def twoG (c g : List Int) (i q : Nat) : Bool := (List.range i).any (fun j => decide ((nth g j).toNat = q) && (List.range j).any (fun k => decide (nth c j = nth c k)))
def evenL (pl : List Int) (j : Nat) : Bool := decide (((linOf pl j).f0 + (linOf pl j).f1).tmod 2 = 0)
def turnG (pl g : List Int) (i q : Nat) : Bool := (List.range i).any (fun j => decide ((nth g j).toNat = q) && evenL pl j)
def badG (pl c g : List Int) (m q : Nat) : Bool := twoG c g m q && !turnG pl g m q
section
variable (s pl c g : List Int) (m : Nat) (hm : m ≤ 1000) (hc : c.length = m) (hg : g.length = m) (hgr : ∀ q, q < m → 0 ≤ nth g q ∧ nth g q < (m : Int)) (res : Int × Int × Int × Bool)
include hm hc hg hgr
end
end Go.Proofs.Ytepjhdblmghckaa.G


namespace Go.Proofs.Ytepjhdblmghckaa.G
open Go.Proofs.Ytepjhdblmghckaa.Q Go.Proofs.Ytepjhdblmghckaa.K Go.Proofs.Ytepjhdblmghckaa.Bf
open Go.RowKit Go.Proofs.YtepjhdblmghckaaW.PrintWords Go.Proofs.YtepjhdblmghckaaW.PrintLast Go.Proofs.YtepjhdblmghckaaW.PrintMore
set_option linter.unusedVariables false
def cntB (f : Nat → Bool) (k : Nat) : Nat := (List.range k).countP f
theorem cntB_le (f : Nat → Bool) (k : Nat) : cntB f k ≤ k := Nat.le_trans List.countP_le_length (by simp)
def hurG (p g : List Int) (m : Nat) (bad : Nat → Bool) (q : Nat) : Bool := bad q && wholeB p g (flg m bad) (q : Int)
def lessG (bad : Nat → Bool) (i q : Nat) : Bool := bad q && !decide (q = i)
def newG (p g : List Int) (m : Nat) (bad : Nat → Bool) (i k : Nat) : Bool := lessG bad i k && !hurG p g m bad k && wholeB p g (flg m (lessG bad i)) (k : Int)
def superG (p g : List Int) (m : Nat) (bad : Nat → Bool) (i k : Nat) : Bool := (List.range k).any (newG p g m bad i)
def fortG (p g : List Int) (m : Nat) (bad : Nat → Bool) : Nat → Bool
 | 0 => decide (cntB (hurG p g m bad) m % 2 = 1)
 | i + 1 => if hurG p g m bad i = true then fortG p g m bad i && superG p g m bad i m else fortG p g m bad i
def grpL (s : List Int) : List Int := mergeL (allE (plL s) (s.length + 1)) (rndL s)
def badD (s : List Int) : Nat → Bool := badG (plL s) (rndL s) (grpL s) (s.length + 1)
def comD (s : List Int) : Int × Int × Int × Bool := (((cntB (isG (grpL s) (s.length + 1)) (s.length + 1) : Nat) : Int), ((cntB (badD s) (s.length + 1) : Nat) : Int), ((cntB (hurG (picL s) (grpL s) (s.length + 1) (badD s)) (s.length + 1) : Nat) : Int), fortG (picL s) (grpL s) (s.length + 1) (badD s) (s.length + 1))
theorem mergeL_in {N : Nat} : ∀ (E : List (Nat × Nat)) {g : List Int}, (∀ q, 0 ≤ nth g q ∧ nth g q < (N : Int)) → ∀ q, 0 ≤ nth (mergeL E g) q ∧ nth (mergeL E g) q < (N : Int)
 | [], _, h, q => h q
 | e :: E, g, h, q => mergeL_in E (g := joinN g e.1 e.2) (fun q => by
   by_cases hq : q < g.length
   ·rw [nth_joinN _ _ hq]
    split
    ·exact h _
    ·exact h _
   ·rw [nth_end _ _ (by rw [joinN_len]; omega)]
    have := h q
    rw [nth_end _ _ (by omega)] at this
    exact this) q
theorem idL_in (n : Nat) (q : Nat) : 0 ≤ nth (idL (n + 1)) q ∧ nth (idL (n + 1)) q < ((n + 1 : Nat) : Int) := by
 by_cases h : q < n + 1
 ·rw [nth_idL h]; omega
 ·rw [nth_end _ _ (by rw [idL_len]; omega)]; omega
theorem rndL_in (s : List Int) (q : Nat) : 0 ≤ nth (rndL s) q ∧ nth (rndL s) q < ((s.length + 1 : Nat) : Int) := by
 unfold rndL rndTo
 exact mergeL_in _ (idL_in s.length) q
theorem grpL_in (s : List Int) (q : Nat) : 0 ≤ nth (grpL s) q ∧ nth (grpL s) q < ((s.length + 1 : Nat) : Int) := mergeL_in _ (rndL_in s) q
def disD (s : List Int) : Int := (s.length : Int) + 1 - ((clsTo (rndL s) (s.length + 1)).length : Int) + (comD s).2.2.1 + if (comD s).2.2.2 = true then 1 else 0
end Go.Proofs.Ytepjhdblmghckaa.G


namespace Go.Proofs.Ytepjhdblmghckaa.G
open Go.Proofs.Ytepjhdblmghckaa.Q Go.Proofs.Ytepjhdblmghckaa.K Go.Proofs.Ytepjhdblmghckaa.Bf
open Go.RowKit Go.Proofs.YtepjhdblmghckaaW.PrintWords Go.Proofs.YtepjhdblmghckaaW.PrintLast Go.Proofs.YtepjhdblmghckaaW.PrintMore
set_option linter.unusedVariables false
structure LinP (m : Nat) (pl : List Int) : Prop where
 pos : ∀ x, x < 2 * m → 0 ≤ nth pl x ∧ nth pl x ≤ 1000000
 inj : ∀ x y, x < 2 * m → y < 2 * m → nth pl x = nth pl y → x = y
theorem lin_of {n : Nat} {p pl : List Int} (hn : n ≤ 40) (P : PicP (2 * n + 2) p pl) (h0 : ∀ q, 0 ≤ nth pl q ∧ nth pl q ≤ 1000000) : LinP (n + 1) pl := by
 refine ⟨fun x _ => h0 x, fun x y hx hy h => ?_⟩
 have e1 := P.pp x (by omega)
 have e2 := P.pp y (by omega)
 rw [h, e2] at e1
 exact e1.symm
def crossN (pl : List Int) (i k : Nat) : Bool := crossD (linOf pl i) (linOf pl k)
theorem cross_plain (a b c d : Int) (hab : a ≠ b) (hcd : c ≠ d) (h1 : a ≠ c) (h2 : a ≠ d) (h3 : b ≠ c) (h4 : b ≠ d) :
  (crossD ⟨min a b, max a b⟩ ⟨min c d, max c d⟩ = true ↔ (min a b < min c d ∧ min c d < max a b ∧ max a b < max c d) ∨ (min c d < min a b ∧ min a b < max c d ∧ max c d < max a b)) := by
 show ((decide (min c d < min a b) && decide (min a b < max c d)) != (decide (min c d < max a b) && decide (max a b < max c d))) = true ↔ _
 rw [bne_iff_ne, ne_eq, Bool.eq_iff_iff, Bool.and_eq_true, Bool.and_eq_true, decide_eq_true_eq, decide_eq_true_eq, decide_eq_true_eq, decide_eq_true_eq]
 have e1 : (min a b = a ∧ max a b = b ∧ a < b) ∨ (min a b = b ∧ max a b = a ∧ b < a) := by omega
 have e2 : (min c d = c ∧ max c d = d ∧ c < d) ∨ (min c d = d ∧ max c d = c ∧ d < c) := by omega
 rcases e1 with ⟨p1, p2, p3⟩ | ⟨p1, p2, p3⟩ <;> rcases e2 with ⟨q1, q2, q3⟩ | ⟨q1, q2, q3⟩ <;> rw [p1, p2, q1, q2] <;> omega
theorem cross_self (pl : List Int) (i : Nat) : crossN pl i i = false := by
 unfold crossN crossD linOf spanOf
 simp
theorem cross_iff {m : Nat} {pl : List Int} (L : LinP m pl) {i k : Nat} (hi : i < m) (hk : k < m) : (crossN pl i k = true ↔ crossB (spanOf pl i) (spanOf pl k) = true) := by
 by_cases e : i = k
 ·subst e
  rw [cross_self]
  unfold crossB
  simp
 ·have ne : ∀ x y, x < 2 * m → y < 2 * m → x ≠ y → nth pl x ≠ nth pl y := fun x y hx hy h he => h (L.inj x y hx hy he)
  have h := cross_plain (nth pl (2 * i)) (nth pl (2 * i + 1)) (nth pl (2 * k)) (nth pl (2 * k + 1)) (ne _ _ (by omega) (by omega) (by omega)) (ne _ _ (by omega) (by omega) (by omega)) (ne _ _ (by omega) (by omega) (by omega)) (ne _ _ (by omega) (by omega) (by omega)) (ne _ _ (by omega) (by omega) (by omega)) (ne _ _ (by omega) (by omega) (by omega))
  refine Iff.trans h ?_
  unfold crossB spanOf
  simp only [Bool.and_eq_true, Bool.or_eq_true, Bool.not_eq_true', decide_eq_true_eq, Bool.and_eq_false_iff, beq_eq_false_iff_ne]
  constructor
  ·intro h
   refine ⟨?_, ?_⟩
   ·rcases h with h | h <;> exact .inl (by omega)
   ·rcases h with ⟨h1, h2, h3⟩ | ⟨h1, h2, h3⟩
    ·exact .inl ⟨⟨h1, h2⟩, h3⟩
    ·exact .inr ⟨⟨h1, h2⟩, h3⟩
  ·rintro ⟨_, ⟨⟨h1, h2⟩, h3⟩ | ⟨⟨h1, h2⟩, h3⟩⟩
   ·exact .inl ⟨h1, h2, h3⟩
   ·exact .inr ⟨h1, h2, h3⟩
theorem cross_symm {m : Nat} {pl : List Int} (L : LinP m pl) {i k : Nat} (hi : i < m) (hk : k < m) (h : crossN pl i k = true) : crossN pl k i = true := by
 by_cases e : i = k
 ·subst e; exact h
 ·have ne : ∀ x y, x < 2 * m → y < 2 * m → x ≠ y → nth pl x ≠ nth pl y := fun x y hx hy h he => h (L.inj x y hx hy he)
  have h1 := cross_plain (nth pl (2 * i)) (nth pl (2 * i + 1)) (nth pl (2 * k)) (nth pl (2 * k + 1)) (ne _ _ (by omega) (by omega) (by omega)) (ne _ _ (by omega) (by omega) (by omega)) (ne _ _ (by omega) (by omega) (by omega)) (ne _ _ (by omega) (by omega) (by omega)) (ne _ _ (by omega) (by omega) (by omega)) (ne _ _ (by omega) (by omega) (by omega))
  have h2 := cross_plain (nth pl (2 * k)) (nth pl (2 * k + 1)) (nth pl (2 * i)) (nth pl (2 * i + 1)) (ne _ _ (by omega) (by omega) (by omega)) (ne _ _ (by omega) (by omega) (by omega)) (ne _ _ (by omega) (by omega) (by omega)) (ne _ _ (by omega) (by omega) (by omega)) (ne _ _ (by omega) (by omega) (by omega)) (ne _ _ (by omega) (by omega) (by omega))
  exact h2.2 (by have := h1.1 h; omega)
structure CompG (m : Nat) (pl c g : List Int) : Prop where
 len : g.length = m
 clen : c.length = m
 same : ∀ i k, i < m → k < m → nth c i = nth c k → nth g i = nth g k
 cross : ∀ i k, i < m → k < m → crossN pl i k = true → nth g i = nth g k
 least : ∀ S : Nat → Prop, (∀ i k, i < m → k < m → nth c i = nth c k → S i → S k) → (∀ i k, i < m → k < m → crossN pl i k = true → S i → S k) → Resp S g
theorem mem_allE {pl : List Int} {m : Nat} {e : Nat × Nat} : e ∈ allE pl m ↔ e.1 < m ∧ e.2 < e.1 ∧ crossN pl e.1 e.2 = true := by
 unfold allE crossE
 rw [List.mem_flatMap]
 constructor
 ·rintro ⟨i, hi, he⟩
  obtain ⟨q, hq, rfl⟩ := List.mem_map.1 he
  rw [List.mem_filter, List.mem_range] at hq
  exact ⟨List.mem_range.1 hi, hq.1, hq.2⟩
 ·rintro ⟨h1, h2, h3⟩
  exact ⟨e.1, List.mem_range.2 h1, List.mem_map.2 ⟨e.2, List.mem_filter.2 ⟨List.mem_range.2 h2, h3⟩, rfl⟩⟩
theorem grp_comp {m : Nat} {pl c : List Int} (L : LinP m pl) (hc : c.length = m) : CompG m pl c (mergeL (allE pl m) c) := by
 have hE : ∀ e, e ∈ allE pl m → e.1 < c.length ∧ e.2 < c.length := fun e he => by
  have := mem_allE.1 he
  omega
 refine ⟨by rw [mergeL_len, hc], hc, fun i k hi hk h => mergeL_keep _ (by omega) (by omega) h, fun i k hi hk h => ?_, fun S h1 h2 => ?_⟩
 ·by_cases e : i = k
  ·rw [e]
  ·by_cases hlt : k < i
   ·exact mergeL_pair _ hE (i, k) (mem_allE.2 ⟨hi, hlt, h⟩)
   ·exact (mergeL_pair _ hE (k, i) (mem_allE.2 ⟨hk, (by show i < k; omega), cross_symm L hi hk h⟩)).symm
 ·refine mergeL_resp _ (fun e he => ⟨(hE e he).1, (hE e he).2, ?_⟩) (fun a b ha hb h => h1 a b (by omega) (by omega) h)
  have := mem_allE.1 he
  exact ⟨h2 _ _ this.1 (by omega) this.2.2, h2 _ _ (by omega) this.1 (cross_symm L this.1 (by omega) this.2.2)⟩
def InCs (cs : List (List Int)) (j : Nat) : Prop := ∃ a, a ∈ cs ∧ (j : Int) ∈ a
theorem joined_iff {m : Nat} {pl : List Int} (L : LinP m pl) {own a : List Int} (ho : ∀ z, z ∈ own → ∃ j, j < m ∧ z = (j : Int)) (ha : ∀ z, z ∈ a → ∃ j, j < m ∧ z = (j : Int)) :
  joinedB pl own a = true ↔ ∃ i k, i < m ∧ k < m ∧ (i : Int) ∈ own ∧ (k : Int) ∈ a ∧ crossN pl i k = true := by
 unfold joinedB crossL
 rw [List.any_eq_true]
 constructor
 ·rintro ⟨x, hx, h⟩
  rw [List.any_eq_true] at h
  obtain ⟨y, hy, h⟩ := h
  obtain ⟨i, hi, rfl⟩ := ho x hx
  obtain ⟨k, hk, rfl⟩ := ha y hy
  exact ⟨i, k, hi, hk, hx, hy, (cross_iff L hi hk).2 h⟩
 ·rintro ⟨i, k, hi, hk, hx, hy, h⟩
  exact ⟨i, hx, List.any_eq_true.2 ⟨k, hy, (cross_iff L hi hk).1 h⟩⟩
structure Gi (m : Nat) (pl c g : List Int) (T : Nat → Prop) (i0 : Nat) (own : List Int) (b : Bool) (cs : List (List Int)) : Prop where
 lin : ∀ z, z ∈ own → ∃ j, j < m ∧ z = (j : Int)
 fst : (i0 : Int) ∈ own
 cls : ∀ i k, i < m → k < m → nth c i = nth c k → (i : Int) ∈ own → (k : Int) ∈ own
 bad : b = true ↔ ∃ i k, i < m ∧ k < i ∧ (i : Int) ∈ own ∧ (k : Int) ∈ own ∧ nth c i = nth c k
 grp : ∀ j, j < m → (j : Int) ∈ own → nth g j = nth g i0
 cir : ∀ a, a ∈ cs → ∃ i, i < m ∧ a = clsOf c i
 dis : cs.Pairwise (fun a b => ∀ x, x ∈ a → x ∉ b)
 apart : ∀ j, j < m → (j : Int) ∈ own → ¬ InCs cs j
 tot : ∀ j, j < m → (T j ↔ (j : Int) ∈ own ∨ InCs cs j)
section
variable {m : Nat} {pl c g : List Int} (L : LinP m pl) (C : CompG m pl c g)
theorem cls_lin (hc : c.length = m) {i : Nat} : ∀ z, z ∈ clsOf c i → ∃ j, j < m ∧ z = (j : Int) := fun z hz => by
 obtain ⟨q, hq, _, e⟩ := mem_clsOf.1 hz
 exact ⟨q, by omega, e⟩
theorem cls_two (hc : c.length = m) {i0 : Nat} (h0 : i0 < m) : (1 < (clsOf c i0).length ↔ ∃ i k, i < m ∧ k < i ∧ (i : Int) ∈ clsOf c i0 ∧ (k : Int) ∈ clsOf c i0 ∧ nth c i = nth c k) := by
 constructor
 ·intro h
  match hl : clsOf c i0, h with
  | x :: y :: r, _ =>
   have hs := clsUp_sorted c i0 c.length
   rw [show clsUp c i0 c.length = clsOf c i0 from rfl, hl] at hs
   have hxy : x < y := (List.pairwise_cons.1 hs).1 y (by simp)
   obtain ⟨q, hq, e1, rfl⟩ := mem_clsOf.1 (show x ∈ clsOf c i0 by rw [hl]; simp)
   obtain ⟨q', hq', e2, rfl⟩ := mem_clsOf.1 (show y ∈ clsOf c i0 by rw [hl]; simp)
   exact ⟨q', q, by omega, by omega, by simp, by simp, by rw [e1, e2]⟩
 ·rintro ⟨i, k, hi, hk, h1, h2, _⟩
  match hl : clsOf c i0, h1, h2 with
  | [x], h1, h2 =>
   rw [List.mem_singleton] at h1 h2
   omega
  | x :: y :: r, _, _ => simp
include L C
theorem grow_run {T : Nat → Prop} {i0 : Nat} : ∀ (fuel : Nat) (own : List Int) (b : Bool) (cs : List (List Int)), Gi m pl c g T i0 own b cs → cs.length ≤ fuel →
  ∃ own' b' cs', growF pl fuel (own, b) cs = ((own', b'), cs') ∧ Gi m pl c g T i0 own' b' cs' ∧ cs'.length ≤ cs.length ∧ ∀ a, a ∈ cs' → ¬ joinedB pl own' a = true
 | 0, own, b, cs, h, hl => by
  have e : cs = [] := List.eq_nil_of_length_eq_zero (by omega)
  subst e
  exact ⟨own, b, [], rfl, h, Nat.le_refl _, fun a ha => by cases ha⟩
 | fuel + 1, own, b, cs, h, hl => by
  rw [growF]
  by_cases hi : idxI (joinedB pl own) cs < 0
  ·rw [if_pos hi]
   refine ⟨own, b, cs, rfl, h, Nat.le_refl _, fun a ha hj => ?_⟩
   have : cs.any (joinedB pl own) = true := List.any_eq_true.2 ⟨a, ha, hj⟩
   unfold idxI at hi
   rw [if_pos this] at hi
   omega
  ·rw [if_neg hi]
   obtain ⟨hlt, hidx⟩ := idxI_lt hi
   obtain ⟨q, hq⟩ : ∃ q, (idxI (joinedB pl own) cs).toNat = q := ⟨_, rfl⟩
   rw [hq] at hlt hidx ⊢
   have hmem : cs.getD q [] ∈ cs := getD_mem hlt
   have hjoin : joinedB pl own (cs.getD q []) = true := by
    unfold idxI at hidx
    by_cases hany : cs.any (joinedB pl own) = true
    ·rw [if_pos hany] at hidx
     have hfi : cs.findIdx (joinedB pl own) = q := by omega
     have := List.findIdx_getElem (p := joinedB pl own) (w := by rw [hfi]; exact hlt)
     simp only [hfi] at this
     rw [List.getD_eq_getElem?_getD, List.getElem?_eq_getElem hlt]
     exact this
    ·rw [if_neg hany] at hidx; omega
   obtain ⟨a, hae⟩ : ∃ a, cs.getD q [] = a := ⟨_, rfl⟩
   rw [hae] at hmem hjoin ⊢
   obtain ⟨ia, hia, hac⟩ := h.cir a hmem
   have hal : ∀ z, z ∈ a → ∃ j, j < m ∧ z = (j : Int) := by rw [hac]; exact cls_lin C.clen
   obtain ⟨x, y, hx, hy, hxo, hya, hxy⟩ := (joined_iff L h.lin hal).1 hjoin
   have hsub : ∀ d, d ∈ cs.eraseIdx q → d ∈ cs := fun d hd => List.mem_of_mem_eraseIdx hd
   have hsplit : ∀ d, d ∈ cs → d = a ∨ d ∈ cs.eraseIdx q := fun d hd => by
    obtain ⟨k, hk, rfl⟩ := List.getElem_of_mem hd
    by_cases e : k = q
    ·left; subst e; rw [← hae, List.getD_eq_getElem?_getD, List.getElem?_eq_getElem hk]; rfl
    ·right
     exact List.mem_eraseIdx_iff_getElem.2 ⟨k, hk, e, rfl⟩
   have hgrpa : ∀ j, j < m → (j : Int) ∈ a → nth g j = nth g i0 := fun j hj hja => by
    rw [hac] at hja hya
    obtain ⟨q1, _, e1, hz1⟩ := mem_clsOf.1 hja
    obtain ⟨q2, _, e2, hz2⟩ := mem_clsOf.1 hya
    have h1 : nth g j = nth g y := C.same j y hj hy (by
     have a1 : q1 = j := by omega
     have a2 : q2 = y := by omega
     rw [← a1, ← a2, e1, e2])
    rw [h1, ← C.cross x y hx hy hxy]
    exact h.grp x hx hxo
   have hdisa : ∀ d, d ∈ cs.eraseIdx q → ∀ z, z ∈ a → z ∉ d := fun d hd z hz hzd => by
    obtain ⟨k, hk, hne, rfl⟩ := List.mem_eraseIdx_iff_getElem.1 hd
    have hp := List.pairwise_iff_getElem.1 h.dis
    have hqa : cs[q] = a := by rw [← hae, List.getD_eq_getElem?_getD, List.getElem?_eq_getElem hlt]; rfl
    rcases Nat.lt_or_gt_of_ne hne with hh | hh
    ·exact hp k q hk hlt hh z hzd (by rw [hqa]; exact hz)
    ·exact hp q k hlt hk hh z (by rw [hqa]; exact hz) hzd
   have hnew : Gi m pl c g T i0 (own ++ a) (b || decide (1 < a.length)) (cs.eraseIdx q) := by
    refine ⟨fun z hz => ?_, List.mem_append_left _ h.fst, fun i k hi hk hc hio => ?_, ?_, fun j hj hjo => ?_, fun d hd => h.cir d (hsub d hd), h.dis.sublist (List.eraseIdx_sublist ..), fun j hj hjo => ?_, fun j hj => ?_⟩
    ·rcases List.mem_append.1 hz with hz | hz
     ·exact h.lin z hz
     ·exact hal z hz
    ·rcases List.mem_append.1 hio with hio | hio
     ·exact List.mem_append_left _ (h.cls i k hi hk hc hio)
     ·refine List.mem_append_right _ ?_
      rw [hac] at hio ⊢
      obtain ⟨q1, _, e1, hz1⟩ := mem_clsOf.1 hio
      refine mem_clsOf.2 ⟨k, by rw [C.clen]; exact hk, ?_, rfl⟩
      have a1 : q1 = i := by omega
      rw [← hc, ← a1, e1]
    ·rw [Bool.or_eq_true, decide_eq_true_eq, h.bad, hac, cls_two C.clen hia]
     constructor
     ·rintro (⟨i, k, h1, h2, h3, h4, h5⟩ | ⟨i, k, h1, h2, h3, h4, h5⟩)
      ·exact ⟨i, k, h1, h2, List.mem_append_left _ h3, List.mem_append_left _ h4, h5⟩
      ·exact ⟨i, k, h1, h2, List.mem_append_right _ h3, List.mem_append_right _ h4, h5⟩
     ·rintro ⟨i, k, h1, h2, h3, h4, h5⟩
      rcases List.mem_append.1 h3 with h3 | h3
      ·exact .inl ⟨i, k, h1, h2, h3, h.cls i k h1 (by omega) h5 h3, h5⟩
      ·refine .inr ⟨i, k, h1, h2, h3, ?_, h5⟩
       obtain ⟨q1, _, e1, hz1⟩ := mem_clsOf.1 h3
       refine mem_clsOf.2 ⟨k, by rw [C.clen]; omega, ?_, rfl⟩
       have a1 : q1 = i := by omega
       rw [← h5, ← a1, e1]
    ·rcases List.mem_append.1 hjo with hjo | hjo
     ·exact h.grp j hj hjo
     ·exact hgrpa j hj hjo
    ·rintro ⟨d, hd, hjd⟩
     rcases List.mem_append.1 hjo with hjo | hjo
     ·exact h.apart j hj hjo ⟨d, hsub d hd, hjd⟩
     ·exact hdisa d hd _ hjo hjd
    ·rw [h.tot j hj]
     constructor
     ·rintro (h1 | ⟨d, hd, hjd⟩)
      ·exact .inl (List.mem_append_left _ h1)
      ·rcases hsplit d hd with rfl | hd
       ·exact .inl (List.mem_append_right _ hjd)
       ·exact .inr ⟨d, hd, hjd⟩
     ·rintro (h1 | ⟨d, hd, hjd⟩)
      ·rcases List.mem_append.1 h1 with h1 | h1
       ·exact .inl h1
       ·exact .inr ⟨a, hmem, h1⟩
      ·exact .inr ⟨d, hsub d hd, hjd⟩
   have hle : (cs.eraseIdx q).length ≤ fuel := by rw [List.length_eraseIdx_of_lt hlt]; omega
   obtain ⟨own', b', cs', h1, h2, h3, h4⟩ := grow_run fuel _ _ _ hnew hle
   exact ⟨own', b', cs', h1, h2, by rw [List.length_eraseIdx_of_lt hlt] at h3; omega, h4⟩
end
end Go.Proofs.Ytepjhdblmghckaa.G


namespace Go.Proofs.Ytepjhdblmghckaa.G
open Go.Proofs.Ytepjhdblmghckaa.Q Go.Proofs.Ytepjhdblmghckaa.K Go.Proofs.Ytepjhdblmghckaa.Bf
open Go.RowKit Go.Proofs.YtepjhdblmghckaaW.PrintWords Go.Proofs.YtepjhdblmghckaaW.PrintLast Go.Proofs.YtepjhdblmghckaaW.PrintMore
set_option linter.unusedVariables false
def IsComp (m : Nat) (pl c g : List Int) (o : Cmp) (i : Nat) : Prop := i < m ∧ (∀ z, z ∈ o.1 ↔ ∃ j, j < m ∧ nth g j = nth g i ∧ z = (j : Int)) ∧ o.2 = badG pl c g m (nth g i).toNat
theorem turned_even {m : Nat} {pl : List Int} (L : LinP m pl) {j : Nat} (hj : j < m) : turnedB pl (j : Int) = evenL pl j := by
 unfold turnedB evenL linOf
 have h1 := L.pos (2 * j) (by omega)
 have h2 := L.pos (2 * j + 1) (by omega)
 rw [Int.toNat_natCast]
 unfold spanOf
 dsimp only
 rw [Int.tmod_eq_emod_of_nonneg (by omega), Int.tmod_eq_emod_of_nonneg (by omega)]
 exact decide_eq_decide.2 (by omega)
structure St (m : Nat) (pl c g : List Int) (cs : List (List Int)) (out : List Cmp) : Prop where
 cir : ∀ a, a ∈ cs → ∃ i, i < m ∧ a = clsOf c i
 dis : cs.Pairwise (fun a b => ∀ x, x ∈ a → x ∉ b)
 outc : ∀ o, o ∈ out → ∃ i, IsComp m pl c g o i
 outd : out.Pairwise (fun a b => ∀ x, x ∈ a.1 → x ∉ b.1)
 use : ∀ j, j < m → (InCs cs j ↔ ¬ ∃ o, o ∈ out ∧ (j : Int) ∈ o.1)
theorem St.cross {m : Nat} {pl c g : List Int} (C : CompG m pl c g) {cs : List (List Int)} {out : List Cmp} (h : St m pl c g cs out) {i k : Nat} (hi : i < m) (hk : k < m) (hx : crossN pl i k = true) (hin : InCs cs i) : InCs cs k := by
 rw [h.use k hk]
 rintro ⟨o, ho, hko⟩
 obtain ⟨i1, _, hcl, _⟩ := h.outc o ho
 obtain ⟨j, hj, e, ez⟩ := (hcl _).1 hko
 have ejk : k = j := by omega
 refine (h.use i hi).1 hin ⟨o, ho, (hcl _).2 ⟨i, hi, ?_, rfl⟩⟩
 rw [C.cross i k hi hk hx, ejk, e]
section
variable {m : Nat} {pl c g : List Int} (L : LinP m pl) (C : CompG m pl c g) (hg0 : ∀ q, 0 ≤ nth g q)
include L C hg0
theorem cmp_step {a : List Int} {r : List (List Int)} {out : List Cmp} (h : St m pl c g (a :: r) out) :
  ∃ own b cs', growF pl r.length (a, decide (1 < a.length)) r = ((own, b), cs') ∧ cs'.length ≤ r.length ∧ St m pl c g cs' (out ++ [(own, b && !own.any (turnedB pl))]) := by
 obtain ⟨i0, hi0, ha⟩ := h.cir a (List.mem_cons_self ..)
 have hal : ∀ z, z ∈ a → ∃ j, j < m ∧ z = (j : Int) := by rw [ha]; exact cls_lin C.clen
 have hpw := List.pairwise_cons.1 h.dis
 have hma : ∀ j, j < m → ((j : Int) ∈ a ↔ nth c j = nth c i0) := fun j hj => by
  rw [ha]
  constructor
  ·intro hz
   obtain ⟨q1, _, e1, hz1⟩ := mem_clsOf.1 hz
   have a1 : q1 = j := by omega
   rw [← a1]; exact e1
  ·intro e
   exact mem_clsOf.2 ⟨j, by rw [C.clen]; exact hj, e, rfl⟩
 have hG : Gi m pl c g (InCs (a :: r)) i0 a (decide (1 < a.length)) r := by
  refine ⟨hal, (hma i0 hi0).2 rfl, fun i k hi hk hc hio => (hma k hk).2 (by rw [← hc]; exact (hma i hi).1 hio), ?_, fun j hj hjo => C.same j i0 hj hi0 ((hma j hj).1 hjo), fun d hd => h.cir d (List.mem_cons_of_mem _ hd), hpw.2, fun j hj hjo => ?_, fun j hj => ?_⟩
  ·rw [decide_eq_true_eq, ha]
   exact cls_two C.clen hi0
  ·rintro ⟨d, hd, hjd⟩
   exact hpw.1 d hd _ hjo hjd
  ·constructor
   ·rintro ⟨d, hd, hjd⟩
    rcases List.mem_cons.1 hd with rfl | hd
    ·exact .inl hjd
    ·exact .inr ⟨d, hd, hjd⟩
   ·rintro (hj | ⟨d, hd, hjd⟩)
    ·exact ⟨a, List.mem_cons_self .., hj⟩
    ·exact ⟨d, List.mem_cons_of_mem _ hd, hjd⟩
 obtain ⟨own, b, cs', hgr, hG', hle, hno⟩ := grow_run L C r.length a (decide (1 < a.length)) r hG (Nat.le_refl _)
 refine ⟨own, b, cs', hgr, hle, ?_⟩
 have hcr : ∀ i k, i < m → k < m → crossN pl i k = true → (i : Int) ∈ own → (k : Int) ∈ own := fun i k hi hk hx hio => by
  have hT := h.cross C hi hk hx ((hG'.tot i hi).2 (.inl hio))
  rcases (hG'.tot k hk).1 hT with hko | ⟨d, hd, hkd⟩
  ·exact hko
  ·exfalso
   obtain ⟨i1, hi1, hd1⟩ := hG'.cir d hd
   exact hno d hd ((joined_iff L hG'.lin (by rw [hd1]; exact cls_lin C.clen)).2 ⟨i, k, hi, hk, hio, hkd, hx⟩)
 have hR := C.least (fun j => (j : Int) ∈ own) (fun i k hi hk hc hio => hG'.cls i k hi hk hc hio) hcr
 have hmem : ∀ z, z ∈ own ↔ ∃ j, j < m ∧ nth g j = nth g i0 ∧ z = (j : Int) := fun z => by
  constructor
  ·intro hz
   obtain ⟨j, hj, rfl⟩ := hG'.lin z hz
   exact ⟨j, hj, hG'.grp j hj hz, rfl⟩
  ·rintro ⟨j, hj, e, rfl⟩
   exact hR i0 j (by rw [C.len]; exact hi0) (by rw [C.len]; exact hj) e.symm hG'.fst
 have hq : ∀ j, j < m → ((nth g j).toNat = (nth g i0).toNat ↔ (j : Int) ∈ own) := fun j hj => by
  rw [hmem]
  have h1 := hg0 j
  have h2 := hg0 i0
  constructor
  ·intro e; exact ⟨j, hj, by omega, rfl⟩
  ·rintro ⟨j', hj', e, ez⟩
   have : j = j' := by omega
   rw [this, e]
 have hbad : (b && !own.any (turnedB pl)) = badG pl c g m (nth g i0).toNat := by
  unfold badG
  have e1 : b = twoG c g m (nth g i0).toNat := by
   rw [Bool.eq_iff_iff, hG'.bad]
   unfold twoG
   rw [List.any_eq_true]
   constructor
   ·rintro ⟨i, k, hi, hk, hio, hko, hc⟩
    exact ⟨i, List.mem_range.2 hi, by rw [Bool.and_eq_true, decide_eq_true_eq, List.any_eq_true]; exact ⟨(hq i hi).2 hio, k, List.mem_range.2 hk, decide_eq_true hc⟩⟩
   ·rintro ⟨i, hi, hh⟩
    rw [List.mem_range] at hi
    rw [Bool.and_eq_true, decide_eq_true_eq, List.any_eq_true] at hh
    obtain ⟨hiq, k, hk, hc⟩ := hh
    rw [List.mem_range] at hk
    have hio := (hq i hi).1 hiq
    exact ⟨i, k, hi, hk, hio, hG'.cls i k hi (by omega) (of_decide_eq_true hc) hio, of_decide_eq_true hc⟩
  have e2 : own.any (turnedB pl) = turnG pl g m (nth g i0).toNat := by
   rw [Bool.eq_iff_iff]
   unfold turnG
   rw [List.any_eq_true, List.any_eq_true]
   constructor
   ·rintro ⟨z, hz, ht⟩
    obtain ⟨j, hj, rfl⟩ := hG'.lin z hz
    exact ⟨j, List.mem_range.2 hj, by rw [Bool.and_eq_true, decide_eq_true_eq]; exact ⟨(hq j hj).2 hz, by rw [← turned_even L hj]; exact ht⟩⟩
   ·rintro ⟨j, hj, hh⟩
    rw [List.mem_range] at hj
    rw [Bool.and_eq_true, decide_eq_true_eq] at hh
    exact ⟨(j : Int), (hq j hj).1 hh.1, by rw [turned_even L hj]; exact hh.2⟩
  rw [e1, e2]
 refine ⟨hG'.cir, hG'.dis, fun o ho => ?_, ?_, fun j hj => ?_⟩
 ·rcases List.mem_append.1 ho with ho | ho
  ·exact h.outc o ho
  ·rw [List.mem_singleton] at ho
   subst ho
   exact ⟨i0, hi0, hmem, hbad⟩
 ·rw [List.pairwise_append]
  refine ⟨h.outd, List.pairwise_singleton _ _, fun o ho o' ho' x hx hx' => ?_⟩
  rw [List.mem_singleton] at ho'
  subst ho'
  obtain ⟨j, hj, rfl⟩ := hG'.lin x hx'
  exact (h.use j hj).1 ((hG'.tot j hj).2 (.inl hx')) ⟨o, ho, hx⟩
 ·constructor
  ·rintro hin ⟨o, ho, hjo⟩
   rcases List.mem_append.1 ho with ho | ho
   ·exact (h.use j hj).1 ((hG'.tot j hj).2 (.inr hin)) ⟨o, ho, hjo⟩
   ·rw [List.mem_singleton] at ho
    subst ho
    exact hG'.apart j hj hjo hin
  ·intro hn
   have hT : InCs (a :: r) j := (h.use j hj).2 (fun ⟨o, ho, hjo⟩ => hn ⟨o, List.mem_append_left _ ho, hjo⟩)
   rcases (hG'.tot j hj).1 hT with hjo | hin
   ·exact absurd ⟨_, List.mem_append_right _ (List.mem_singleton.2 rfl), hjo⟩ hn
   ·exact hin
theorem cmp_run : ∀ (fuel : Nat) (cs : List (List Int)) (out : List Cmp), St m pl c g cs out → cs.length ≤ fuel → St m pl c g [] (cmpF pl fuel cs out)
 | 0, cs, out, h, hl => by
  have e : cs = [] := List.eq_nil_of_length_eq_zero (by omega)
  subst e
  exact h
 | fuel + 1, [], out, h, _ => h
 | fuel + 1, a :: r, out, h, hl => by
  obtain ⟨own, b, cs', hgr, hle, hS⟩ := cmp_step L C hg0 h
  rw [cmpF, hgr]
  exact cmp_run fuel cs' _ hS (by rw [List.length_cons] at hl; omega)
end
structure AllC (m : Nat) (pl c g : List Int) (l : List Cmp) : Prop where
 outc : ∀ o, o ∈ l → ∃ i, IsComp m pl c g o i
 outd : l.Pairwise (fun a b => ∀ x, x ∈ a.1 → x ∉ b.1)
 all : ∀ j, j < m → ∃ o, o ∈ l ∧ (j : Int) ∈ o.1
theorem cls_cover {c : List Int} {m : Nat} (hc : c.length = m) : ∀ k, k ≤ m → ∀ j, j < m → (InCs (clsTo c k) j ↔ ∃ i, i < k ∧ nth c i = nth c j)
 | 0, _, j, _ => by
  constructor
  ·rintro ⟨a, ha, _⟩; cases ha
  ·rintro ⟨i, hi, _⟩; omega
 | k + 1, hk, j, hj => by
  have ih := cls_cover hc k (by omega) j hj
  rw [clsTo_succ]
  by_cases hf : firstIn c k = true
  ·rw [if_pos hf]
   constructor
   ·rintro ⟨a, ha, hja⟩
    rcases List.mem_append.1 ha with ha | ha
    ·obtain ⟨i, hi, e⟩ := ih.1 ⟨a, ha, hja⟩
     exact ⟨i, by omega, e⟩
    ·rw [List.mem_singleton] at ha
     subst ha
     obtain ⟨q, _, e, hz⟩ := mem_clsOf.1 hja
     have : q = j := by omega
     exact ⟨k, by omega, by rw [← this, e]⟩
   ·rintro ⟨i, hi, e⟩
    by_cases hik : i = k
    ·exact ⟨clsOf c k, List.mem_append_right _ (List.mem_singleton.2 rfl), mem_clsOf.2 ⟨j, by omega, by rw [← e, hik], rfl⟩⟩
    ·obtain ⟨a, ha, hja⟩ := ih.2 ⟨i, by omega, e⟩
     exact ⟨a, List.mem_append_left _ ha, hja⟩
  ·rw [if_neg hf, ih]
   constructor
   ·rintro ⟨i, hi, e⟩; exact ⟨i, by omega, e⟩
   ·rintro ⟨i, hi, e⟩
    by_cases hik : i = k
    ·rw [firstIn_iff] at hf
     have hn : ∃ j', j' < k ∧ nth c j' = nth c k := by
      refine Classical.byContradiction (fun hn => hf (fun j' hj' he => hn ⟨j', hj', he⟩))
     obtain ⟨j', hj', he⟩ := hn
     exact ⟨j', hj', by rw [he, ← e, hik]⟩
    ·exact ⟨i, by omega, e⟩
theorem cls_dis' (c : List Int) : ∀ k, k ≤ c.length → (clsTo c k).Pairwise (fun a b => ∀ x, x ∈ a → x ∉ b)
 | 0, _ => List.Pairwise.nil
 | k + 1, hk => by
  rw [clsTo_succ]
  by_cases hf : firstIn c k = true
  ·rw [if_pos hf, List.pairwise_append]
   refine ⟨cls_dis' c k (by omega), List.pairwise_singleton _ _, fun a ha b hb x hx hx' => ?_⟩
   rw [List.mem_singleton] at hb
   subst hb
   obtain ⟨q, hq, e, rfl⟩ := mem_clsOf.1 hx'
   obtain ⟨i, hi, e2⟩ := (cls_cover (c := c) rfl k (by omega) q hq).1 ⟨a, ha, hx⟩
   exact (firstIn_iff c k).1 hf i hi (by rw [e2, e])
  ·rw [if_neg hf]; exact cls_dis' c k (by omega)
theorem cls_cir (c : List Int) (k : Nat) : ∀ a, a ∈ clsTo c k → ∃ i, i < k ∧ a = clsOf c i := fun a ha => by
 unfold clsTo at ha
 obtain ⟨i, hi, rfl⟩ := List.mem_map.1 ha
 rw [List.mem_filter, List.mem_range] at hi
 exact ⟨i, hi.1, rfl⟩
theorem cmpL_all {s : List Int} {n : Nat} (hn : n ≤ 40) (hs : Stk true n s) : LinP (n + 1) (plL s) ∧ CompG (n + 1) (plL s) (rndL s) (grpL s) ∧ AllC (n + 1) (plL s) (rndL s) (grpL s) (cmpL s) := by
 have hl := hs.len
 have L := lin_of hn (pic_ok hs) (fun q => by have := plL_range s q; omega)
 have hc : (rndL s).length = n + 1 := by rw [rndL_len, hl]
 have C := grp_comp L hc
 have eg : grpL s = mergeL (allE (plL s) (n + 1)) (rndL s) := by unfold grpL; rw [hl]
 rw [← eg] at C
 have hS : St (n + 1) (plL s) (rndL s) (grpL s) (circL s) [] := by
  rw [circL_cls hn hs]
  refine ⟨cls_cir _ _, cls_dis' _ _ (by omega), (fun o ho => by cases ho), List.Pairwise.nil, fun j hj => ?_⟩
  rw [cls_cover hc (n + 1) (Nat.le_refl _) j hj]
  exact ⟨(fun _ ⟨o, ho, _⟩ => by cases ho), fun _ => ⟨j, hj, rfl⟩⟩
 have h := cmp_run L C (fun q => (grpL_in s q).1) (circL s).length (circL s) [] hS (Nat.le_refl _)
 refine ⟨L, C, h.outc, h.outd, fun j hj => ?_⟩
 refine Classical.byContradiction (fun hh => ?_)
 obtain ⟨a, ha, _⟩ := (h.use j hj).2 hh
 cases ha
end Go.Proofs.Ytepjhdblmghckaa.G


namespace Go.Proofs.Ytepjhdblmghckaa.G
open Go.Proofs.Ytepjhdblmghckaa.Q Go.Proofs.Ytepjhdblmghckaa.K Go.Proofs.Ytepjhdblmghckaa.Bf
open Go.RowKit Go.Proofs.YtepjhdblmghckaaW.PrintWords Go.Proofs.YtepjhdblmghckaaW.PrintLast Go.Proofs.YtepjhdblmghckaaW.PrintMore
set_option linter.unusedVariables false
def sqStep (row : List Int) (i : Int) : List Int := if row.getLast? = some i then row else row ++ [i]
def sqTo (A : List Int) (k : Nat) : List Int := (A.take k).foldl sqStep []
theorem sqTo_succ {A : List Int} {k : Nat} (h : k < A.length) : sqTo A (k + 1) = sqStep (sqTo A k) (nth A k) := by
 unfold sqTo
 rw [List.take_succ_eq_append_getElem h, List.foldl_append, nth_get A k h]
 rfl
def begL (A : List Int) (a : Int) (k : Nat) : Nat := (List.range k).countP (fun i => decide (nth A i = a) && (decide (i = 0) || decide (nth A (i - 1) ≠ a)))
theorem begL_step (A : List Int) (a : Int) (k : Nat) : begL A a (k + 1) = begL A a k + if nth A k = a ∧ (k = 0 ∨ nth A (k - 1) ≠ a) then 1 else 0 := by
 unfold begL
 rw [List.range_succ, List.countP_append, List.countP_singleton]
 congr 1
 by_cases h : nth A k = a ∧ (k = 0 ∨ nth A (k - 1) ≠ a)
 ·rw [if_pos h, if_pos (by simpa using h)]
 ·rw [if_neg h, if_neg (by simpa using h)]
theorem sqTo_spec (A : List Int) (a : Int) : ∀ k, k ≤ A.length → (sqTo A k).getLast? = (if k = 0 then none else some (nth A (k - 1))) ∧ (sqTo A k).count a = begL A a k ∧ (0 < k → nth (sqTo A k) 0 = nth A 0 ∧ 0 < (sqTo A k).length) ∧ ∀ z, z ∈ sqTo A k ↔ z ∈ A.take k
 | 0, _ => ⟨rfl, rfl, fun h => absurd h (by omega), fun z => by simp [sqTo]⟩
 | k + 1, hk => by
  obtain ⟨h1, h2, h3, h4⟩ := sqTo_spec A a k (by omega)
  rw [sqTo_succ (by omega), begL_step]
  have ht : A.take (k + 1) = A.take k ++ [nth A k] := by rw [List.take_succ_eq_append_getElem (by omega), nth_get A k (by omega)]
  unfold sqStep
  by_cases e : (sqTo A k).getLast? = some (nth A k)
  ·rw [if_pos e]
   rw [e] at h1
   have hk0 : k ≠ 0 := fun h => by rw [if_pos h] at h1; cases h1
   rw [if_neg hk0] at h1
   injection h1 with h1
   refine ⟨by rw [if_neg (by omega), e]; rfl, ?_, fun _ => h3 (by omega), fun z => ?_⟩
   ·rw [h2, if_neg (fun h => ?_)]
    ·rfl
    ·rcases h.2 with h' | h'
     ·exact hk0 h'
     ·exact h' (by rw [← h1]; exact h.1)
   ·rw [h4, ht, List.mem_append, List.mem_singleton]
    constructor
    ·exact .inl
    ·rintro (h | h)
     ·exact h
     ·rw [← h4, h]
      exact List.mem_of_getLast? e
  ·rw [if_neg e]
   have hne : k = 0 ∨ nth A (k - 1) ≠ nth A k := by
    by_cases hk0 : k = 0
    ·exact .inl hk0
    ·rw [h1, if_neg hk0] at e
     exact .inr (fun h => e (by rw [h]))
   refine ⟨by rw [if_neg (by omega), List.getLast?_append]; rfl, ?_, fun _ => ⟨?_, by simp⟩, fun z => ?_⟩
   ·rw [List.count_append, h2, List.count_singleton]
    congr 1
    by_cases ha : nth A k = a
    ·rw [if_pos (by simpa using ha), if_pos ⟨ha, by rw [← ha]; exact hne⟩]
    ·rw [if_neg (by simpa using ha), if_neg (fun h => ha h.1)]
   ·by_cases hk0 : k = 0
    ·subst hk0
     rfl
    ·obtain ⟨h5, h6⟩ := h3 (by omega)
     rw [nth_app, if_pos h6, h5]
   ·rw [List.mem_append, h4, ht, List.mem_append]
theorem begN_begL (A : List Int) (a : Int) : ∀ k, k + 1 ≤ A.length → begN A a (k + 1) + (if nth A 0 = a ∧ nth A (A.length - 1) = a then 1 else 0) = begL A a (k + 1)
 | 0, hk => by
  rw [begN_step, begL_step]
  have e : ahead A 0 = nth A (A.length - 1) := by unfold ahead; rw [Nat.zero_add, Nat.mod_eq_of_lt (by omega)]
  have b0 : begN A a 0 = 0 := rfl
  have b1 : begL A a 0 = 0 := rfl
  rw [e, b0, b1]
  by_cases h1 : nth A 0 = a
  ·by_cases h2 : nth A (A.length - 1) = a
   ·rw [if_neg (fun h => h.2 h2), if_pos ⟨h1, h2⟩, if_pos ⟨h1, .inl rfl⟩]
   ·rw [if_pos ⟨h1, h2⟩, if_neg (fun h => h2 h.2), if_pos ⟨h1, .inl rfl⟩]
  ·rw [if_neg (fun h => h1 h.1), if_neg (fun h => h1 h.1), if_neg (fun h => h1 h.1)]
 | k + 1, hk => by
  have ih := begN_begL A a k (by omega)
  rw [begN_step, begL_step]
  have e : ahead A (k + 1) = nth A k := by
   unfold ahead
   rw [show k + 1 + A.length - 1 = k + A.length by omega, Nat.add_mod_right, Nat.mod_eq_of_lt (by omega)]
  rw [e, show k + 1 - 1 = k by omega]
  by_cases h : nth A (k + 1) = a ∧ nth A k ≠ a
  ·rw [if_pos h, if_pos (show nth A (k + 1) = a ∧ (k + 1 = 0 ∨ nth A k ≠ a) from ⟨h.1, .inr h.2⟩)]; omega
  ·rw [if_neg h, if_neg (show ¬ (nth A (k + 1) = a ∧ (k + 1 = 0 ∨ nth A k ≠ a)) from fun h' => h ⟨h'.1, h'.2.resolve_left (by omega)⟩)]; omega
theorem count_tail (l : List Int) (a : Int) (h : 0 < l.length) : l.count a = l.tail.count a + if nth l 0 = a then 1 else 0 := by
 match l, h with
 | x :: t, _ =>
  rw [List.tail_cons, List.count_cons]
  congr 1
  by_cases e : x = a
  ·rw [if_pos (by simpa using e), if_pos (by exact e)]
  ·rw [if_neg (by simpa using e), if_neg (by exact e)]
theorem nth_last {l : List Int} {z : Int} (h : l.getLast? = some z) : nth l (l.length - 1) = z ∧ 0 < l.length := by
 rw [List.getLast?_eq_getElem?] at h
 obtain ⟨hl, he⟩ := List.getElem?_eq_some_iff.1 h
 exact ⟨by rw [nth_get l _ hl, he], by omega⟩
theorem one_run {A : List Int} {a : Int} (ha : a ∈ A) : ((rowCut (sqTo A A.length)).count a = 1 ↔ begN A a A.length ≤ 1) := by
 have hlen : 0 < A.length := List.length_pos_of_mem ha
 obtain ⟨h1, h2, h3, h4⟩ := sqTo_spec A a A.length (Nat.le_refl _)
 rw [if_neg (by omega)] at h1
 obtain ⟨h5, h6⟩ := h3 hlen
 have hb := begN_begL A a (A.length - 1) (by omega)
 rw [show A.length - 1 + 1 = A.length by omega] at hb
 have hmem : a ∈ sqTo A A.length := (h4 a).2 (by rw [List.take_length]; exact ha)
 have hpos : 0 < (sqTo A A.length).count a := List.count_pos_iff.2 hmem
 obtain ⟨h7, _⟩ := nth_last h1
 obtain ⟨q, hq⟩ : ∃ q, sqTo A A.length = q := ⟨_, rfl⟩
 rw [hq] at h1 h2 h5 h6 hmem hpos h7 ⊢
 have hct := count_tail q a h6
 unfold rowCut
 by_cases hc : 1 < q.length ∧ nth q 0 = nth q (q.length - 1)
 ·rw [if_pos hc]
  rw [h5, h7] at hc
  rw [h5] at hct
  by_cases h0 : nth A 0 = a
  ·rw [if_pos ⟨h0, by rw [← hc.2, h0]⟩] at hb
   rw [if_pos h0] at hct
   have : 0 < q.tail.count a := by
    refine List.count_pos_iff.2 ?_
    match q, hc.1, h7 with
    | x :: y :: t, _, h7 =>
     have e : nth (x :: y :: t) ((x :: y :: t).length - 1) = nth (y :: t) ((y :: t).length - 1) := by
      simp only [List.length_cons]
      rfl
     rw [e, ← hc.2, h0] at h7
     rw [List.tail_cons, ← h7]
     exact nth_in _ _ (by simp)
   omega
  ·rw [if_neg (fun h => h0 h.1)] at hb
   rw [if_neg h0] at hct
   omega
 ·rw [if_neg hc]
  by_cases hl1 : 1 < q.length
  ·have hne : ¬ (nth A 0 = a ∧ nth A (A.length - 1) = a) := fun h => hc ⟨hl1, by rw [h5, h7, h.1, h.2]⟩
   rw [if_neg hne] at hb
   omega
  ·have hq1 : q.length = 1 := by omega
   match q, hq1 with
   | [x], _ =>
    rw [List.mem_singleton] at hmem
    subst hmem
    have h0 : nth A 0 = a := h5.symm
    have hL : nth A (A.length - 1) = a := h7.symm
    rw [if_pos ⟨h0, hL⟩] at hb
    have : [a].count a = 1 := by simp
    omega
theorem outTo_at {row : List Int} {N : Nat} (hr : ∀ i, i ∈ row → 0 ≤ i ∧ i < (N : Int)) {a : Nat} (ha : a < N) : ∀ k, k ≤ row.length → (outTo row N k).length = N ∧ (outTo row N k).getD a false = (decide ((a : Int) ∈ row.take k) && decide (row.count (a : Int) = 1))
 | 0, _ => by
  refine ⟨by simp [outTo], ?_⟩
  have : outTo row N 0 = List.replicate N false := rfl
  rw [this, List.getD_eq_getElem?_getD, List.getElem?_replicate, if_pos ha]
  simp
 | k + 1, hk => by
  obtain ⟨h1, h2⟩ := outTo_at hr ha k (by omega)
  have ht : row.take (k + 1) = row.take k ++ [nth row k] := by rw [List.take_succ_eq_append_getElem (by omega), nth_get row k (by omega)]
  have hs : outTo row N (k + 1) = (outTo row N k).set (nth row k).toNat (decide (row.count (nth row k) = 1)) := by
   unfold outTo; rw [ht, List.foldl_append]; rfl
  have hv := hr (nth row k) (nth_in row k (by omega))
  rw [hs]
  refine ⟨by rw [List.length_set, h1], ?_⟩
  rw [set_at _ _ _ _ (by omega), ht]
  by_cases e : a = (nth row k).toNat
  ·have e2 : nth row k = (a : Int) := by omega
   rw [if_pos e, e2]
   simp
  ·rw [if_neg e, h2]
   have e2 : (a : Int) ≠ nth row k := by omega
   congr 1
   exact decide_eq_decide.2 (by rw [List.mem_append, List.mem_singleton]; exact ⟨.inl, fun h => h.resolve_right e2⟩)
theorem rowCut_mem {row : List Int} {z : Int} (h : z ∈ rowCut row) : z ∈ row := by
 unfold rowCut at h
 split at h
 ·exact List.mem_of_mem_tail h
 ·exact h
theorem rowTo_sq (M : Im) : ∀ (p row : List Int), p.foldl (rowStep M) row = (p.filterMap M).foldl sqStep row
 | [], _ => rfl
 | x :: p, row => by
  rw [List.foldl_cons, rowTo_sq M p]
  cases h : M x with
  | none => rw [List.filterMap_cons_none h]; unfold rowStep; rw [h]
  | some i => rw [List.filterMap_cons_some h, List.foldl_cons]; unfold rowStep sqStep; rw [h]
theorem rowTo_letters (M : Im) (p : List Int) : rowTo M p p.length = sqTo (p.filterMap M) (p.filterMap M).length := by
 unfold rowTo sqTo
 rw [List.take_length, List.take_length, rowTo_sq]
end Go.Proofs.Ytepjhdblmghckaa.G


namespace Go.Proofs.Ytepjhdblmghckaa.G
open Go.Proofs.Ytepjhdblmghckaa.Q Go.Proofs.Ytepjhdblmghckaa.K Go.Proofs.Ytepjhdblmghckaa.Bf
open Go.RowKit Go.Proofs.YtepjhdblmghckaaW.PrintWords Go.Proofs.YtepjhdblmghckaaW.PrintLast Go.Proofs.YtepjhdblmghckaaW.PrintMore
set_option linter.unusedVariables false
abbrev cA (l : List Cmp) (a : Nat) : Cmp := l.getD a ([], false)
def labL (g : List Int) (l : List Cmp) (a : Nat) : Nat := (nth g (nth (cA l a).1 0).toNat).toNat
structure Lb (m : Nat) (pl c g : List Int) (l : List Cmp) : Prop where
 lt : ∀ a, a < l.length → labL g l a < m ∧ isG g m (labL g l a) = true
 bad : ∀ a, a < l.length → (cA l a).2 = badG pl c g m (labL g l a)
 lin : ∀ a, a < l.length → ∀ z, z ∈ (cA l a).1 ↔ ∃ j, j < m ∧ (nth g j).toNat = labL g l a ∧ z = (j : Int)
 inj : ∀ a b, a < l.length → b < l.length → labL g l a = labL g l b → a = b
 sur : ∀ q, isG g m q = true → ∃ a, a < l.length ∧ labL g l a = q
theorem isG_iff {g : List Int} {m q : Nat} : isG g m q = true ↔ ∃ j, j < m ∧ (nth g j).toNat = q := by
 unfold isG
 rw [List.any_eq_true]
 exact ⟨fun ⟨j, hj, h⟩ => ⟨j, List.mem_range.1 hj, of_decide_eq_true h⟩, fun ⟨j, hj, h⟩ => ⟨j, List.mem_range.2 hj, decide_eq_true h⟩⟩
theorem lab_ok {m : Nat} {pl c g : List Int} {l : List Cmp} (A : AllC m pl c g l) (hg : ∀ q, 0 ≤ nth g q ∧ nth g q < (m : Int)) : Lb m pl c g l := by
 have key : ∀ a, a < l.length → ∃ i, IsComp m pl c g (cA l a) i ∧ labL g l a = (nth g i).toNat := fun a ha => by
  obtain ⟨i, hi, h1, h2⟩ := A.outc (cA l a) (getD_mem ha)
  refine ⟨i, ⟨hi, h1, h2⟩, ?_⟩
  have hmem : (i : Int) ∈ (cA l a).1 := (h1 _).2 ⟨i, hi, rfl, rfl⟩
  have hpos : 0 < (cA l a).1.length := List.length_pos_of_mem hmem
  obtain ⟨j, hj, e, ez⟩ := (h1 _).1 (nth_in (cA l a).1 0 hpos)
  unfold labL
  rw [ez, Int.toNat_natCast, e]
 have lin : ∀ a, a < l.length → ∀ z, z ∈ (cA l a).1 ↔ ∃ j, j < m ∧ (nth g j).toNat = labL g l a ∧ z = (j : Int) := fun a ha z => by
  obtain ⟨i, ⟨hi, h1, h2⟩, hl⟩ := key a ha
  rw [h1]
  have gi := hg i
  constructor
  ·rintro ⟨j, hj, e, ez⟩; exact ⟨j, hj, by rw [hl, e], ez⟩
  ·rintro ⟨j, hj, e, ez⟩
   have gj := hg j
   exact ⟨j, hj, by omega, ez⟩
 refine ⟨fun a ha => ?_, fun a ha => ?_, lin, fun a b ha hb h => ?_, fun q hq => ?_⟩
 ·obtain ⟨i, ⟨hi, h1, h2⟩, hl⟩ := key a ha
  have gi := hg i
  exact ⟨by omega, isG_iff.2 ⟨i, hi, hl.symm⟩⟩
 ·obtain ⟨i, ⟨hi, h1, h2⟩, hl⟩ := key a ha
  rw [hl]; exact h2
 ·obtain ⟨i, ⟨hi, h1, h2⟩, hl⟩ := key a ha
  have ma : (i : Int) ∈ (cA l a).1 := (h1 _).2 ⟨i, hi, rfl, rfl⟩
  have mb : (i : Int) ∈ (cA l b).1 := (lin b hb _).2 ⟨i, hi, by rw [← h, hl], rfl⟩
  have hp := List.pairwise_iff_getElem.1 A.outd
  have ga : ∀ a (ha : a < l.length), cA l a = l[a] := fun a ha => by unfold cA; rw [List.getD_eq_getElem?_getD, List.getElem?_eq_getElem ha]; rfl
  rw [ga a ha] at ma
  rw [ga b hb] at mb
  rcases Nat.lt_trichotomy a b with hh | hh | hh
  ·exact absurd mb (hp a b ha hb hh _ ma)
  ·exact hh
  ·exact absurd ma (hp b a hb ha hh _ mb)
 ·obtain ⟨j, hj, e⟩ := isG_iff.1 hq
  obtain ⟨o, ho, hjo⟩ := A.all j hj
  obtain ⟨a, ha, rfl⟩ := List.getElem_of_mem ho
  have ga : cA l a = l[a] := by unfold cA; rw [List.getD_eq_getElem?_getD, List.getElem?_eq_getElem ha]; rfl
  rw [← ga] at hjo
  obtain ⟨j', hj', e', ez⟩ := (lin a ha _).1 hjo
  have : j = j' := by omega
  exact ⟨a, ha, by rw [← e', ← this, e]⟩
theorem cnt_bij {m N : Nat} (lab : Nat → Nat) (f : Nat → Bool) (hlt : ∀ a, a < N → lab a < m) (hinj : ∀ a b, a < N → b < N → lab a = lab b → a = b) (hsur : ∀ q, q < m → f q = true → ∃ a, a < N ∧ lab a = q) : cntB f m = cntB (fun a => f (lab a)) N := by
 unfold cntB
 rw [List.countP_eq_length_filter, List.countP_eq_length_filter, show ((List.range N).filter (fun a => f (lab a))).length = (((List.range N).filter (fun a => f (lab a))).map lab).length from (List.length_map ..).symm]
 refine List.Perm.length_eq ?_
 have nd : (((List.range N).filter (fun a => f (lab a))).map lab).Nodup := by
  have h0 : ((List.range N).filter (fun a => f (lab a))).Pairwise (· < ·) := List.pairwise_lt_range.filter _
  rw [List.Nodup, List.pairwise_map]
  refine List.Pairwise.imp_of_mem (fun {a b} ha hb h e => ?_) h0
  rw [List.mem_filter, List.mem_range] at ha hb
  have := hinj a b ha.1 hb.1 e
  omega
 refine (List.perm_ext_iff_of_nodup (List.nodup_range.filter _) nd).2 (fun q => ?_)
 rw [List.mem_filter, List.mem_range, List.mem_map]
 constructor
 ·rintro ⟨h1, h2⟩
  obtain ⟨a, ha, rfl⟩ := hsur q h1 h2
  exact ⟨a, by rw [List.mem_filter, List.mem_range]; exact ⟨ha, h2⟩, rfl⟩
 ·rintro ⟨a, ha, rfl⟩
  rw [List.mem_filter, List.mem_range] at ha
  exact ⟨hlt a ha.1, ha.2⟩
theorem lineTo_at (i : Int) : ∀ (xs : List Int) (M : Im) (y : Int), lineTo M i xs y = if y / 2 ∈ xs then some i else M y
 | [], M, y => by simp [lineTo]
 | x :: xs, M, y => by
  have h := lineTo_at i xs ((M.put (2 * x) i).put (2 * x + 1) i) y
  have e : lineTo M i (x :: xs) y = lineTo ((M.put (2 * x) i).put (2 * x + 1) i) i xs y := rfl
  rw [e, h]
  by_cases h1 : y / 2 ∈ xs
  ·rw [if_pos h1, if_pos (List.mem_cons_of_mem _ h1)]
  ·rw [if_neg h1]
   unfold Im.put
   by_cases h2 : y / 2 = x
   ·rw [if_pos (List.mem_cons.2 (.inl h2))]
    by_cases h3 : y = 2 * x + 1
    ·rw [if_pos h3]
    ·rw [if_neg h3, if_pos (by omega)]
   ·rw [if_neg (by omega), if_neg (by omega), if_neg (fun h => (List.mem_cons.1 h).elim h2 h1)]
section
variable {m : Nat} {pl c g : List Int} {l : List Cmp} (B : Lb m pl c g l) (hg : ∀ q, 0 ≤ nth g q ∧ nth g q < (m : Int)) (wo : Int)
def lf (l : List Cmp) (wo : Int) (a : Nat) : Bool := (cA l a).2 && !decide ((a : Int) = wo)
include B
theorem who_at (y : Int) : ∀ k, k ≤ l.length → ∀ v, (whoTo l wo k y = some v ↔ ∃ a, a < k ∧ v = (a : Int) ∧ lf l wo a = true ∧ y / 2 ∈ (cA l a).1)
 | 0, _, v => by
  constructor
  ·intro h; cases h
  ·rintro ⟨a, ha, _⟩; omega
 | k + 1, hk, v => by
  have ih := who_at y k (by omega)
  rw [whoTo_step]
  unfold whoStep
  by_cases h1 : (l.getD k ([], false)).2 = true ∧ (k : Int) ≠ wo
  ·have hlf : lf l wo k = true := by unfold lf; rw [h1.1]; simp [h1.2]
   rw [if_pos h1, lineTo_at]
   by_cases h2 : y / 2 ∈ (l.getD k ([], false)).1
   ·rw [if_pos h2]
    constructor
    ·intro h; injection h with h; exact ⟨k, by omega, h.symm, hlf, h2⟩
    ·rintro ⟨a, ha, e, _, hy⟩
     obtain ⟨j, hj, e1, ez⟩ := (B.lin k (by omega) _).1 h2
     obtain ⟨j', hj', e2, ez'⟩ := (B.lin a (by omega) _).1 hy
     have ejj : j = j' := by omega
     have := B.inj a k (by omega) (by omega) (by rw [← e2, ← ejj, e1])
     rw [e, this]
   ·rw [if_neg h2, ih]
    constructor
    ·rintro ⟨a, ha, h⟩; exact ⟨a, by omega, h⟩
    ·rintro ⟨a, ha, e, hl, hy⟩
     by_cases eak : a = k
     ·subst eak; exact absurd hy h2
     ·exact ⟨a, by omega, e, hl, hy⟩
  ·rw [if_neg h1, ih]
   constructor
   ·rintro ⟨a, ha, h⟩; exact ⟨a, by omega, h⟩
   ·rintro ⟨a, ha, e, hl, hy⟩
    by_cases eak : a = k
    ·subst eak
     exfalso
     unfold lf at hl
     rw [Bool.and_eq_true, Bool.not_eq_true', decide_eq_false_iff_not] at hl
     exact h1 hl
    ·exact ⟨a, by omega, e, hl, hy⟩
include hg
theorem lets_eq (D : Nat → Bool) (hD : ∀ a, a < l.length → D (labL g l a) = lf l wo a) : ∀ p : List Int, (∀ x, x ∈ p → 0 ≤ x ∧ x < 2 * (m : Int)) →
  (p.map (fun x => nth g (x.toNat / 2))).filter (fun z => (flg m D).getD z.toNat false) = (p.filterMap (whoTo l wo l.length)).map (fun a => ((labL g l a.toNat : Nat) : Int))
 | [], _ => rfl
 | x :: p, hp => by
  have ih := lets_eq D hD p (fun y hy => hp y (List.mem_cons_of_mem _ hy))
  have hx := hp x (List.mem_cons_self ..)
  have hgx := hg (x.toNat / 2)
  have hj : x.toNat / 2 < m := by omega
  have ej : x / 2 = ((x.toNat / 2 : Nat) : Int) := by omega
  obtain ⟨a, ha, hla⟩ := B.sur _ (isG_iff.2 ⟨x.toNat / 2, hj, rfl⟩)
  have hD' : (flg m D).getD (nth g (x.toNat / 2)).toNat false = lf l wo a := by rw [flg_at _ (by omega), ← hla, hD a ha]
  have hline : x / 2 ∈ (cA l a).1 := (B.lin a ha _).2 ⟨x.toNat / 2, hj, hla.symm, ej⟩
  rw [List.map_cons, List.filter_cons, hD', ih]
  by_cases e : lf l wo a = true
  ·have hM : whoTo l wo l.length x = some (a : Int) := (who_at B wo x l.length (Nat.le_refl _) _).2 ⟨a, ha, rfl, e, hline⟩
   rw [if_pos e, List.filterMap_cons_some hM, List.map_cons, Int.toNat_natCast, hla]
   congr 1
   omega
  ·have hM : whoTo l wo l.length x = none := by
    cases h : whoTo l wo l.length x with
    | none => rfl
    | some v =>
     exfalso
     obtain ⟨a', ha', _, e', hy⟩ := (who_at B wo x l.length (Nat.le_refl _) _).1 h
     obtain ⟨j', hj', e2, ez'⟩ := (B.lin a' ha' _).1 hy
     have ejj : x.toNat / 2 = j' := by omega
     have := B.inj a a' ha ha' (by rw [hla, ← e2, ejj])
     rw [this] at e
     exact e e'
   rw [if_neg e, List.filterMap_cons_none hM]
theorem hurd_at (D : Nat → Bool) (hD : ∀ a, a < l.length → D (labL g l a) = lf l wo a) (p : List Int) (hp : ∀ x, x ∈ p → 0 ≤ x ∧ x < 2 * (m : Int)) (hall : ∀ j, j < m → ∃ x, x ∈ p ∧ x.toNat / 2 = j) {a : Nat} (ha : a < l.length) :
  (hurdF p l wo).getD a false = (D (labL g l a) && wholeB p g (flg m D) ((labL g l a : Nat) : Int)) := by
 obtain ⟨M, hM⟩ : ∃ M, whoTo l wo l.length = M := ⟨_, rfl⟩
 obtain ⟨A, hA⟩ : ∃ A, p.filterMap M = A := ⟨_, rfl⟩
 have hin : ∀ z, z ∈ A → 0 ≤ z ∧ z < (l.length : Int) ∧ lf l wo z.toNat = true := fun z hz => by
  rw [← hA] at hz
  obtain ⟨x, hx, e⟩ := List.mem_filterMap.1 hz
  rw [← hM] at e
  obtain ⟨b, hb, rfl, hl, _⟩ := (who_at B wo x l.length (Nat.le_refl _) _).1 e
  exact ⟨by omega, by omega, by rw [Int.toNat_natCast]; exact hl⟩
 have hrow : rowTo (whoTo l wo l.length) p p.length = sqTo A A.length := by rw [rowTo_letters, hM, hA]
 have hsub : ∀ z, z ∈ rowCut (sqTo A A.length) → z ∈ A := fun z hz => by
  have := ((sqTo_spec A z A.length (Nat.le_refl _)).2.2.2 z).1 (rowCut_mem hz)
  rw [List.take_length] at this
  exact this
 have hout := (outTo_at (row := rowCut (sqTo A A.length)) (N := l.length) (fun z hz => ⟨(hin z (hsub z hz)).1, (hin z (hsub z hz)).2.1⟩) ha _ (Nat.le_refl _)).2
 unfold hurdF
 rw [hrow, hout, List.take_length, hD a ha]
 have hlets : lets p g (flg m D) p.length = A.map (fun a => ((labL g l a.toNat : Nat) : Int)) := by
  unfold lets
  rw [List.take_length, lets_eq B hg wo D hD p hp, hM, hA]
 by_cases e : lf l wo a = true
 ·rw [e, Bool.true_and]
  have haA : (a : Int) ∈ A := by
   obtain ⟨j, hj, e1⟩ := isG_iff.1 (B.lt a ha).2
   obtain ⟨x, hx, ex⟩ := hall j hj
   have hx0 := hp x hx
   rw [← hA]
   refine List.mem_filterMap.2 ⟨x, hx, ?_⟩
   rw [← hM]
   exact (who_at B wo x l.length (Nat.le_refl _) _).2 ⟨a, ha, rfl, e, (B.lin a ha _).2 ⟨j, hj, e1, by omega⟩⟩
  have hone := one_run haA
  have hbeg : begN (A.map (fun a => ((labL g l a.toNat : Nat) : Int))) ((labL g l a : Nat) : Int) A.length = begN A (a : Int) A.length := by
   unfold begN
   have hnm : ∀ i, i < A.length → nth (A.map (fun a => ((labL g l a.toNat : Nat) : Int))) i = ((labL g l (nth A i).toNat : Nat) : Int) := fun i hi => by
    rw [nth_get _ i (by rw [List.length_map]; exact hi), List.getElem_map, nth_get A i hi]
   have hiff : ∀ i, i < A.length → ((nth (A.map (fun a => ((labL g l a.toNat : Nat) : Int))) i = ((labL g l a : Nat) : Int)) ↔ nth A i = (a : Int)) := fun i hi => by
    rw [hnm i hi]
    have hz := hin _ (nth_in A i hi)
    constructor
    ·intro h
     have := B.inj (nth A i).toNat a (by omega) ha (by omega)
     omega
    ·intro h; rw [h, Int.toNat_natCast]
   refine List.countP_congr (fun i hi => ?_)
   rw [List.mem_range] at hi
   have hmod : (i + A.length - 1) % A.length < A.length := Nat.mod_lt _ (by omega)
   unfold ahead
   rw [List.length_map, Bool.and_eq_true, Bool.and_eq_true, decide_eq_true_eq, decide_eq_true_eq, decide_eq_true_eq, decide_eq_true_eq, hiff i hi, Ne, Ne, hiff _ hmod]
  unfold wholeB
  rw [hlets, List.length_map, hbeg]
  by_cases h1 : (rowCut (sqTo A A.length)).count (a : Int) = 1
  ·have hmem : (a : Int) ∈ rowCut (sqTo A A.length) := List.count_pos_iff.1 (by omega)
   rw [decide_eq_true h1, decide_eq_true hmem, decide_eq_true (hone.1 h1)]
   rfl
  ·rw [decide_eq_false h1, decide_eq_false (fun h => h1 (hone.2 h)), Bool.and_false]
 ·have hnot : (a : Int) ∉ rowCut (sqTo A A.length) := fun h => by
   have := (hin _ (hsub _ h)).2.2
   rw [Int.toNat_natCast] at this
   exact e this
  rw [decide_eq_false hnot, Bool.false_and, Bool.eq_false_iff.2 e, Bool.false_and]
end
end Go.Proofs.Ytepjhdblmghckaa.G


namespace Go.Proofs.Ytepjhdblmghckaa.G
open Go.Proofs.Ytepjhdblmghckaa.Q Go.Proofs.Ytepjhdblmghckaa.K Go.Proofs.Ytepjhdblmghckaa.Bf
open Go.RowKit Go.Proofs.YtepjhdblmghckaaW.PrintWords Go.Proofs.YtepjhdblmghckaaW.PrintLast Go.Proofs.YtepjhdblmghckaaW.PrintMore
set_option linter.unusedVariables false
theorem count_and (a b : Nat → Bool) : ∀ L : List Nat, L.countP (fun i => a i && b i) ≤ L.countP a ∧ (L.countP (fun i => a i && b i) = L.countP a ↔ ∀ i, i ∈ L → a i = true → b i = true)
 | [] => ⟨Nat.le_refl _, fun _ i hi => (by cases hi), fun _ => rfl⟩
 | x :: L => by
  obtain ⟨h1, h2⟩ := count_and a b L
  rw [List.countP_cons, List.countP_cons]
  cases ha : a x with
  | false =>
   refine ⟨by simp; exact h1, ?_⟩
   simp only [Bool.false_and, if_neg (show ¬ (false = true) by decide), Nat.add_zero]
   rw [h2]
   constructor
   ·intro h i hi hai
    rcases List.mem_cons.1 hi with rfl | hi
    ·rw [ha] at hai; cases hai
    ·exact h i hi hai
   ·intro h i hi; exact h i (List.mem_cons_of_mem _ hi)
  | true =>
   cases hb : b x with
   | false =>
    simp only [Bool.true_and, if_neg (show ¬ (false = true) by decide), if_true]
    refine ⟨by omega, ⟨fun h => by omega, fun h => ?_⟩⟩
    have := h x (List.mem_cons_self ..) ha
    rw [hb] at this; cases this
   | true =>
    simp only [Bool.true_and, if_true]
    refine ⟨by omega, ?_⟩
    rw [Nat.add_right_cancel_iff, h2]
    constructor
    ·intro h i hi hai
     rcases List.mem_cons.1 hi with rfl | hi
     ·exact hb
     ·exact h i hi hai
    ·intro h i hi; exact h i (List.mem_cons_of_mem _ hi)
theorem fort_iff (p g : List Int) (m : Nat) (bad : Nat → Bool) : ∀ k, (fortG p g m bad k = true ↔ cntB (hurG p g m bad) m % 2 = 1 ∧ ∀ i, i < k → hurG p g m bad i = true → superG p g m bad i m = true)
 | 0 => by
  unfold fortG
  rw [decide_eq_true_eq]
  exact ⟨fun h => ⟨h, fun i hi => absurd hi (by omega)⟩, fun h => h.1⟩
 | k + 1 => by
  have ih := fort_iff p g m bad k
  rw [fortG]
  by_cases h : hurG p g m bad k = true
  ·rw [if_pos h, Bool.and_eq_true, ih]
   constructor
   ·rintro ⟨⟨h1, h2⟩, h3⟩
    refine ⟨h1, fun i hi hh => ?_⟩
    by_cases e : i = k
    ·rw [e]; exact h3
    ·exact h2 i (by omega) hh
   ·rintro ⟨h1, h2⟩
    exact ⟨⟨h1, fun i hi hh => h2 i (by omega) hh⟩, h2 k (by omega) h⟩
  ·rw [if_neg h, ih]
   constructor
   ·rintro ⟨h1, h2⟩
    refine ⟨h1, fun i hi hh => ?_⟩
    by_cases e : i = k
    ·rw [e] at hh; exact absurd hh h
    ·exact h2 i (by omega) hh
   ·rintro ⟨h1, h2⟩
    exact ⟨h1, fun i hi hh => h2 i (by omega) hh⟩
theorem bad_is {pl c g : List Int} {m q : Nat} (h : badG pl c g m q = true) : isG g m q = true := by
 unfold badG at h
 rw [Bool.and_eq_true] at h
 have h1 := h.1
 unfold twoG at h1
 rw [List.any_eq_true] at h1
 obtain ⟨j, hj, hh⟩ := h1
 rw [Bool.and_eq_true] at hh
 exact isG_iff.2 ⟨j, List.mem_range.1 hj, of_decide_eq_true hh.1⟩
theorem tal_com {s : List Int} {n : Nat} (hn : n ≤ 40) (hs : Stk true n s) : comD s = ((((talF (picL s) (cmpL s)).1 : Nat) : Int), (((talF (picL s) (cmpL s)).2.1 : Nat) : Int), (((talF (picL s) (cmpL s)).2.2.1 : Nat) : Int), (talF (picL s) (cmpL s)).2.2.2) := by
 have hl := hs.len
 obtain ⟨Ln, Cm, Al⟩ := cmpL_all hn hs
 have P := pic_ok hs
 have hg : ∀ q, 0 ≤ nth (grpL s) q ∧ nth (grpL s) q < ((n + 1 : Nat) : Int) := fun q => by have := grpL_in s q; rw [hl] at this; exact this
 have B := lab_ok Al hg
 have hrng := picL_range s (fun x hx => by have := hs.rng x hx; rw [hl]; exact this)
 have hlen : (picL s).length = 2 * n + 2 := by rw [picL_len, hl]
 have hp : ∀ x, x ∈ picL s → 0 ≤ x ∧ x < 2 * ((n + 1 : Nat) : Int) := fun x hx => by
  obtain ⟨q, hq, rfl⟩ := mem_nth hx
  have := hrng q
  rw [hl] at this
  omega
 have hall : ∀ j, j < n + 1 → ∃ x, x ∈ picL s ∧ x.toNat / 2 = j := fun j hj => by
  have h1 := P.l_lt (2 * j) (by omega)
  exact ⟨nth (picL s) (nth (plL s) (2 * j)).toNat, nth_in _ _ (by omega), by rw [P.pp (2 * j) (by omega)]; omega⟩
 have eb : badD s = badG (plL s) (rndL s) (grpL s) (n + 1) := by unfold badD; rw [hl]
 unfold comD
 rw [hl]
 obtain ⟨bad, hbe⟩ : ∃ bad, badD s = bad := ⟨_, rfl⟩
 rw [hbe] at eb ⊢
 obtain ⟨p, hpe⟩ : ∃ p, picL s = p := ⟨_, rfl⟩
 rw [hpe] at hp hall ⊢
 obtain ⟨l, hle⟩ : ∃ l, cmpL s = l := ⟨_, rfl⟩
 rw [hle] at B ⊢
 obtain ⟨g, hge⟩ : ∃ g, grpL s = g := ⟨_, rfl⟩
 rw [hge] at B hg eb ⊢
 have hlb : ∀ a, a < l.length → labL g l a < n + 1 := fun a ha => (B.lt a ha).1
 have hbad : ∀ a, a < l.length → (cA l a).2 = bad (labL g l a) := fun a ha => by rw [eb]; exact B.bad a ha
 have hbi : ∀ q, bad q = true → isG g (n + 1) q = true := fun q h => by rw [eb] at h; exact bad_is h
 have his : ∀ a, a < l.length → (hurdF p l (-1)).getD a false = hurG p g (n + 1) bad (labL g l a) := fun a ha => hurd_at B hg (-1) bad (fun a ha => by
  rw [← hbad a ha]
  unfold lf
  rw [decide_eq_false (by omega : ¬ (a : Int) = -1)]
  simp) p hp hall ha
 have hnow : ∀ i, i < l.length → ∀ a, a < l.length → (hurdF p l (i : Int)).getD a false = (lessG bad (labL g l i) (labL g l a) && wholeB p g (flg (n + 1) (lessG bad (labL g l i))) ((labL g l a : Nat) : Int)) := fun i hi a ha => hurd_at B hg (i : Int) (lessG bad (labL g l i)) (fun a ha => by
  unfold lf lessG
  rw [hbad a ha]
  congr 2
  exact decide_eq_decide.2 ⟨fun h => by rw [B.inj a i ha hi h], fun h => by rw [show a = i by omega]⟩) p hp hall ha
 have hany : ∀ i, i < l.length → anyNew (hurdF p l (i : Int)) (hurdF p l (-1)) = superG p g (n + 1) bad (labL g l i) (n + 1) := fun i hi => by
  rw [Bool.eq_iff_iff]
  unfold anyNew superG
  rw [hurdF_len, List.any_eq_true, List.any_eq_true]
  constructor
  ·rintro ⟨k, hk, h⟩
   rw [List.mem_range] at hk
   rw [hnow i hi k hk, his k hk] at h
   refine ⟨labL g l k, List.mem_range.2 (hlb k hk), ?_⟩
   unfold newG
   simp only [Bool.and_eq_true] at h ⊢
   exact ⟨⟨h.1.1, h.2⟩, h.1.2⟩
  ·rintro ⟨q, hq, h⟩
   unfold newG at h
   simp only [Bool.and_eq_true] at h
   have hbq : bad q = true := by
    have := h.1.1
    unfold lessG at this
    rw [Bool.and_eq_true] at this
    exact this.1
   obtain ⟨k, hk, rfl⟩ := B.sur q (hbi q hbq)
   refine ⟨k, List.mem_range.2 hk, ?_⟩
   rw [hnow i hi k hk, his k hk]
   simp only [Bool.and_eq_true]
   exact ⟨⟨h.1.1, h.2⟩, h.1.2⟩
 have e1 : cntB (isG g (n + 1)) (n + 1) = l.length := by
  rw [cnt_bij (labL g l) (isG g (n + 1)) hlb B.inj (fun q _ h => B.sur q h)]
  unfold cntB
  rw [List.countP_eq_length.2 (fun a ha => (B.lt a (List.mem_range.1 ha)).2), List.length_range]
 have e2 : cntB bad (n + 1) = badN l l.length := by
  rw [cnt_bij (labL g l) bad hlb B.inj (fun q _ h => B.sur q (hbi q h))]
  unfold cntB badN
  refine List.countP_congr (fun a ha => ?_)
  rw [← hbad a (List.mem_range.1 ha)]
 have hhi : ∀ q, hurG p g (n + 1) bad q = true → bad q = true := fun q h => by
  unfold hurG at h
  rw [Bool.and_eq_true] at h
  exact h.1
 have e3 : cntB (hurG p g (n + 1) bad) (n + 1) = hurN (hurdF p l (-1)) l.length := by
  rw [cnt_bij (labL g l) (hurG p g (n + 1) bad) hlb B.inj (fun q _ h => B.sur q (hbi q (hhi q h)))]
  unfold cntB hurN
  refine List.countP_congr (fun a ha => ?_)
  rw [his a (List.mem_range.1 ha)]
 have e4 : fortG p g (n + 1) bad (n + 1) = (decide (hurN (hurdF p l (-1)) l.length % 2 = 1) && decide (supN p l (hurdF p l (-1)) l.length = hurN (hurdF p l (-1)) l.length)) := by
  rw [Bool.eq_iff_iff, fort_iff, Bool.and_eq_true, decide_eq_true_eq, decide_eq_true_eq, e3]
  refine and_congr_right (fun _ => ?_)
  have hc := (count_and (fun i => (hurdF p l (-1)).getD i false) (fun i => anyNew (hurdF p l (i : Int)) (hurdF p l (-1))) (List.range l.length)).2
  refine Iff.trans ?_ hc.symm
  constructor
  ·intro h i hi hh
   rw [List.mem_range] at hi
   have hh2 := his i hi
   rw [hh] at hh2
   show anyNew (hurdF p l (i : Int)) (hurdF p l (-1)) = true
   rw [hany i hi]
   exact h _ (hlb i hi) hh2.symm
  ·intro h q hq hh
   obtain ⟨i, hi, rfl⟩ := B.sur q (hbi q (hhi q hh))
   have := h i (List.mem_range.2 hi) (by show (hurdF p l (-1)).getD i false = true; rw [his i hi]; exact hh)
   rw [← hany i hi]
   exact this
 rw [e1, e2, e3, e4]
 rfl
theorem dis_com {s : List Int} {n : Nat} (hn : n ≤ 40) (hs : Stk true n s) : disD s = (s.length : Int) + 1 - ((circL s).length : Int) + (((talF (picL s) (cmpL s)).2.2.1 : Nat) : Int) + (if (talF (picL s) (cmpL s)).2.2.2 = true then 1 else 0) := by
 unfold disD
 rw [tal_com hn hs, circL_cls hn hs, hs.len]
end Go.Proofs.Ytepjhdblmghckaa.G


namespace Go.Proofs.Ytepjhdblmghckaa.G
open Go.Proofs.Ytepjhdblmghckaa.Q Go.Proofs.Ytepjhdblmghckaa.K Go.Proofs.Ytepjhdblmghckaa.Bf
open Go.RowKit Go.Proofs.YtepjhdblmghckaaW.PrintWords Go.Proofs.YtepjhdblmghckaaW.PrintLast Go.Proofs.YtepjhdblmghckaaW.PrintMore
set_option linter.unusedVariables false
def labP (p g : List Int) (u : Nat) : Nat := (nth g ((nth p u).toNat / 2)).toNat
def plcs (M : Nat) (lab : Nat → Nat) (D : Nat → Bool) : List Nat := (List.range M).filter (fun u => D (lab u))
theorem lets_plcs {m : Nat} {p g : List Int} (hp : p.length = 2 * m) (hg : ∀ q, 0 ≤ nth g q ∧ nth g q < (m : Int)) (D : Nat → Bool) : lets p g (flg m D) p.length = (plcs (2 * m) (labP p g) D).map (fun u => ((labP p g u : Nat) : Int)) := by
 unfold lets plcs
 rw [List.take_length]
 have e : p = (List.range (2 * m)).map (nth p) := by
  apply List.ext_getElem (by simp [hp])
  intro i h1 h2
  rw [List.getElem_map, List.getElem_range, nth_get p i h1]
 conv => lhs; rw [e]
 rw [List.map_map, List.filter_map]
 have e2 : ∀ u, ((fun x => nth g (x.toNat / 2)) ∘ nth p) u = ((labP p g u : Nat) : Int) := fun u => by
  have := hg ((nth p u).toNat / 2)
  unfold labP
  simp only [Function.comp_apply]
  omega
 rw [show ((fun x => nth g (x.toNat / 2)) ∘ nth p) = (fun u => ((labP p g u : Nat) : Int)) from funext e2]
 congr 1
 refine List.filter_congr (fun u _ => ?_)
 have := hg ((nth p u).toNat / 2)
 simp only [Function.comp_apply, Int.toNat_natCast]
 rw [flg_at _ (by unfold labP; omega)]
theorem two_count {p : Nat → Bool} {k a b : Nat} (ha : a < k) (hb : b < k) (hne : a ≠ b) (pa : p a = true) (pb : p b = true) : 2 ≤ (List.range k).countP p := by
 rw [List.countP_eq_length_filter]
 have hnd : [a, b].Nodup := by simp [hne]
 have := hnd.length_le_of_subset (l₂ := (List.range k).filter p) (fun x hx => by
  rcases List.mem_cons.1 hx with rfl | hx
  ·exact List.mem_filter.2 ⟨List.mem_range.2 ha, pa⟩
  ·rw [List.mem_singleton] at hx; rw [hx]; exact List.mem_filter.2 ⟨List.mem_range.2 hb, pb⟩)
 exact this
theorem count_two {p : Nat → Bool} {k : Nat} (h : 2 ≤ (List.range k).countP p) : ∃ a b, a < b ∧ b < k ∧ p a = true ∧ p b = true := by
 rw [List.countP_eq_length_filter] at h
 have hp : ((List.range k).filter p).Pairwise (· < ·) := List.pairwise_lt_range.filter _
 have hlt := List.pairwise_iff_getElem.1 hp 0 1 (by omega) (by omega) (by omega)
 have m0 := List.mem_filter.1 (List.getElem_mem (l := (List.range k).filter p) (show 0 < _ by omega))
 have m1 := List.mem_filter.1 (List.getElem_mem (l := (List.range k).filter p) (show 1 < _ by omega))
 exact ⟨_, _, hlt, List.mem_range.1 m1.1, m0.2, m1.2⟩
theorem run_begin (l : List Int) (z : Int) {a b : Nat} (hab : a < b) (ha : nth l a ≠ z) (hb : nth l b = z) : ∃ i, a < i ∧ i ≤ b ∧ nth l i = z ∧ nth l (i - 1) ≠ z := by
 obtain ⟨i, ⟨h1, h2, h3⟩, hmin⟩ := least_of (fun i => a < i ∧ i ≤ b ∧ nth l i = z) ⟨b, hab, Nat.le_refl _, hb⟩
 refine ⟨i, h1, h2, h3, fun he => ?_⟩
 by_cases e : i - 1 = a
 ·rw [e] at he; exact ha he
 ·exact hmin (i - 1) (by omega) ⟨by omega, by omega, he⟩
theorem ahead_pos {l : List Int} {i : Nat} (h : 0 < i) (hi : i < l.length) : ahead l i = nth l (i - 1) := by
 unfold ahead
 rw [show i + l.length - 1 = (i - 1) + l.length by omega, Nat.add_mod_right, Nat.mod_eq_of_lt (by omega)]
theorem ahead_zero {l : List Int} (h : 0 < l.length) : ahead l 0 = nth l (l.length - 1) := by
 unfold ahead
 rw [Nat.zero_add, Nat.mod_eq_of_lt (by omega)]
theorem whole_hd {m : Nat} {p g : List Int} (hp : p.length = 2 * m) (hg : ∀ q, 0 ≤ nth g q ∧ nth g q < (m : Int)) (D : Nat → Bool) (z : Nat) (hz : D z = true) :
  (wholeB p g (flg m D) (z : Int) = true ↔ Hrd (2 * m) (labP p g) (fun x => D x = true) z) := by
 unfold wholeB
 rw [decide_eq_true_eq, lets_plcs hp hg D]
 obtain ⟨P, hP⟩ : ∃ P, plcs (2 * m) (labP p g) D = P := ⟨_, rfl⟩
 rw [hP]
 have hmem : ∀ u, u ∈ P ↔ u < 2 * m ∧ D (labP p g u) = true := fun u => by rw [← hP]; unfold plcs; rw [List.mem_filter, List.mem_range]
 have hpw : P.Pairwise (· < ·) := by rw [← hP]; unfold plcs; exact List.pairwise_lt_range.filter _
 obtain ⟨l, hl⟩ : ∃ l, P.map (fun u => ((labP p g u : Nat) : Int)) = l := ⟨_, rfl⟩
 rw [hl]
 have hlen : l.length = P.length := by rw [← hl, List.length_map]
 obtain ⟨pl, hpl⟩ : ∃ pl : Nat → Nat, ∀ i, (hi : i < P.length) → pl i = P[i] := ⟨fun i => P.getD i 0, fun i hi => by simp [List.getD_eq_getElem?_getD, hi]⟩
 have hnl : ∀ i, i < P.length → nth l i = ((labP p g (pl i) : Nat) : Int) := fun i hi => by
  rw [nth_get l i (by omega), hpl i hi]
  subst hl
  rw [List.getElem_map]
 have hlt : ∀ i j, i < j → j < P.length → pl i < pl j := fun i j h hj => by
  rw [hpl i (by omega), hpl j hj]
  exact List.pairwise_iff_getElem.1 hpw i j (by omega) hj h
 have hin : ∀ i, i < P.length → pl i < 2 * m ∧ D (labP p g (pl i)) = true := fun i hi => by rw [hpl i hi]; exact (hmem _).1 (List.getElem_mem hi)
 have hix : ∀ u, u < 2 * m → D (labP p g u) = true → ∃ i, i < P.length ∧ pl i = u := fun u h1 h2 => by
  obtain ⟨i, hi, e⟩ := List.getElem_of_mem ((hmem u).2 ⟨h1, h2⟩)
  exact ⟨i, hi, by rw [hpl i hi, e]⟩
 have hlt' : ∀ i j, i < P.length → j < P.length → pl i < pl j → i < j := fun i j hi hj h => by
  rcases Nat.lt_trichotomy i j with h' | h' | h'
  ·exact h'
  ·rw [h'] at h; omega
  ·have := hlt j i h' hi; omega
 have hz2 : ∀ i, i < P.length → (nth l i = (z : Int) ↔ labP p g (pl i) = z) := fun i hi => by rw [hnl i hi]; omega
 constructor
 ·intro hb
  refine ⟨hz, ?_⟩
  have key : ∀ u v, u < 2 * m → v < 2 * m → D (labP p g u) = true → D (labP p g v) = true → labP p g u ≠ z → labP p g v ≠ z → ¬ Pt (2 * m) (labP p g) z u v := by
   rintro u v hu hv su sv nu nv ⟨⟨y, y1, y2, y3⟩, y', y4, y5, y6⟩
   obtain ⟨iu, hiu, rfl⟩ := hix u hu su
   obtain ⟨iv, hiv, rfl⟩ := hix v hv sv
   obtain ⟨iy, hiy, rfl⟩ := hix y (by omega) (by rw [y3]; exact hz)
   obtain ⟨ix, hix', rfl⟩ := hix y' y4 (by rw [y6]; exact hz)
   have o1 := hlt' _ _ hiu hiy y1
   have o2 := hlt' _ _ hiy hiv y2
   have nlu : nth l iu ≠ (z : Int) := fun e => nu ((hz2 iu hiu).1 e)
   have nlv : nth l iv ≠ (z : Int) := fun e => nv ((hz2 iv hiv).1 e)
   have ly := (hz2 iy hiy).2 y3
   have lx := (hz2 ix hix').2 y6
   obtain ⟨i1, a1, a2, a3, a4⟩ := run_begin l (z : Int) o1 nlu ly
   have other : ∃ i2, i2 < P.length ∧ i2 ≠ i1 ∧ nth l i2 = (z : Int) ∧ ahead l i2 ≠ (z : Int) := by
    rcases y5 with y5 | y5
    ·have o3 := hlt' _ _ hix' hiu y5
     by_cases hrun : ∃ i, 0 < i ∧ i ≤ ix ∧ nth l i = (z : Int) ∧ nth l (i - 1) ≠ (z : Int)
     ·obtain ⟨i, b1, b2, b3, b4⟩ := hrun
      exact ⟨i, by omega, by omega, b3, by rw [ahead_pos b1 (by omega)]; exact b4⟩
     ·have l0 : nth l 0 = (z : Int) := by
       refine Classical.byContradiction (fun h0 => hrun ?_)
       by_cases e : ix = 0
       ·rw [e] at lx; exact absurd lx h0
       ·obtain ⟨i, b1, b2, b3, b4⟩ := run_begin l (z : Int) (show 0 < ix by omega) h0 lx
        exact ⟨i, b1, b2, b3, b4⟩
      by_cases hlast : nth l (l.length - 1) = (z : Int)
      ·have : iv ≠ l.length - 1 := fun e => nlv (by rw [e]; exact hlast)
       obtain ⟨i, b1, b2, b3, b4⟩ := run_begin l (z : Int) (show iv < l.length - 1 by omega) nlv hlast
       exact ⟨i, by omega, by omega, b3, by rw [ahead_pos (by omega) (by omega)]; exact b4⟩
      ·exact ⟨0, by omega, by omega, l0, by rw [ahead_zero (by omega)]; exact hlast⟩
    ·have o3 := hlt' _ _ hiv hix' y5
     obtain ⟨i, b1, b2, b3, b4⟩ := run_begin l (z : Int) o3 nlv lx
     exact ⟨i, by omega, by omega, b3, by rw [ahead_pos (by omega) (by omega)]; exact b4⟩
   obtain ⟨i2, c1, c2, c3, c4⟩ := other
   have h2 : 2 ≤ begN l (z : Int) l.length := by
    unfold begN
    exact two_count (show i1 < l.length by omega) (show i2 < l.length by omega) (fun e => c2 e.symm) (by simp only [Bool.and_eq_true, decide_eq_true_eq]; exact ⟨a3, by rw [ahead_pos (by omega) (by omega)]; exact a4⟩) (by simp only [Bool.and_eq_true, decide_eq_true_eq]; exact ⟨c3, c4⟩)
   omega
  exact fun u v hu hv su sv nu nv => ⟨key u v hu hv su sv nu nv, key v u hv hu sv su nv nu⟩
 ·intro hH
  refine Classical.byContradiction (fun hn => ?_)
  have h2 : 2 ≤ begN l (z : Int) l.length := by omega
  unfold begN at h2
  obtain ⟨i1, i2, h12, hi2, p1, p2⟩ := count_two h2
  simp only [Bool.and_eq_true, decide_eq_true_eq] at p1 p2
  have e1 := (hz2 i1 (by omega)).1 p1.1
  have e2 := (hz2 i2 (by omega)).1 p2.1
  have a2 := p2.2
  rw [ahead_pos (by omega) hi2] at a2
  have n2 : labP p g (pl (i2 - 1)) ≠ z := fun e => a2 ((hz2 (i2 - 1) (by omega)).2 e)
  have h3 : i1 ≠ i2 - 1 := fun e => n2 (by rw [← e]; exact e1)
  by_cases hz0 : i1 = 0
  ·have a1 := p1.2
   rw [hz0, ahead_zero (by omega)] at a1
   have n1 : labP p g (pl (l.length - 1)) ≠ z := fun e => a1 ((hz2 (l.length - 1) (by omega)).2 e)
   have h4 : i2 ≠ l.length - 1 := fun e => n1 (by rw [← e]; exact e2)
   have hs := hH.2 (pl (i2 - 1)) (pl (l.length - 1)) (hin _ (by omega)).1 (hin _ (by omega)).1 (hin _ (by omega)).2 (hin _ (by omega)).2 n2 n1
   exact hs.1 ⟨⟨pl i2, hlt _ _ (by omega) (by omega), hlt _ _ (by omega) (by omega), e2⟩, pl 0, (hin 0 (by omega)).1, .inl (hlt _ _ (by omega) (by omega)), by rw [← hz0]; exact e1⟩
  ·have a1 := p1.2
   rw [ahead_pos (by omega) (by omega)] at a1
   have n1 : labP p g (pl (i1 - 1)) ≠ z := fun e => a1 ((hz2 (i1 - 1) (by omega)).2 e)
   have hs := hH.2 (pl (i1 - 1)) (pl (i2 - 1)) (hin _ (by omega)).1 (hin _ (by omega)).1 (hin _ (by omega)).2 (hin _ (by omega)).2 n1 n2
   exact hs.1 ⟨⟨pl i1, hlt _ _ (by omega) (by omega), hlt _ _ (by omega) (by omega), e1⟩, pl i2, (hin i2 (by omega)).1, .inr (hlt _ _ (by omega) (by omega)), e2⟩
end Go.Proofs.Ytepjhdblmghckaa.G


namespace Go.Proofs.Ytepjhdblmghckaa.G
open Go.Proofs.Ytepjhdblmghckaa.Q Go.Proofs.Ytepjhdblmghckaa.K Go.Proofs.Ytepjhdblmghckaa.Bf
open Go.RowKit Go.Proofs.YtepjhdblmghckaaW.PrintWords Go.Proofs.YtepjhdblmghckaaW.PrintLast Go.Proofs.YtepjhdblmghckaaW.PrintMore
set_option linter.unusedVariables false
theorem hrd_congr {M : Nat} {lab : Nat → Nat} {S S' : Nat → Prop} (h : ∀ x, S x ↔ S' x) (z : Nat) : Hrd M lab S z ↔ Hrd M lab S' z := by
 have : S = S' := funext fun x => propext (h x)
 rw [this]
def labS (s : List Int) : Nat → Nat := labP (picL s) (grpL s)
def badS (s : List Int) : Nat → Prop := fun x => badD s x = true
theorem place_of {s : List Int} {n : Nat} (hs : Stk true n s) {j : Nat} (hj : j < n + 1) : ∃ u, u < 2 * (n + 1) ∧ (nth (picL s) u).toNat / 2 = j := by
 have P := pic_ok hs
 have h1 := P.l_lt (2 * j) (by omega)
 exact ⟨(nth (plL s) (2 * j)).toNat, by omega, by rw [P.pp (2 * j) (by omega)]; omega⟩
theorem cost_doc {s : List Int} {n : Nat} (hn : n ≤ 40) (hs : Stk true n s) : (comD s).2.2.1 = (((reps (2 * (n + 1)) (labS s) (badS s)).length : Nat) : Int) ∧ ((comD s).2.2.2 = true ↔ Fo (2 * (n + 1)) (labS s) (badS s)) := by
 have hl := hs.len
 have hg : ∀ q, 0 ≤ nth (grpL s) q ∧ nth (grpL s) q < ((n + 1 : Nat) : Int) := fun q => by have := grpL_in s q; rw [hl] at this; exact this
 have hp : (picL s).length = 2 * (n + 1) := by rw [picL_len, hl]; omega
 have hP := pic_ok hs
 have eb : badD s = badG (plL s) (rndL s) (grpL s) (n + 1) := by unfold badD; rw [hl]
 have hbi : ∀ q, badD s q = true → isG (grpL s) (n + 1) q = true := fun q h => by rw [eb] at h; exact bad_is h
 have hplc : ∀ q, badD s q = true → q < n + 1 ∧ ∃ u, u < 2 * (n + 1) ∧ labS s u = q := fun q h => by
  obtain ⟨j, hj, e⟩ := isG_iff.1 (hbi q h)
  obtain ⟨u, hu, e2⟩ := place_of hs hj
  have := hg j
  exact ⟨by omega, u, hu, by unfold labS labP; rw [e2, e]⟩
 have hlabm : ∀ u, labS s u < n + 1 := fun u => by
  have := hg ((nth (picL s) u).toNat / 2)
  unfold labS labP
  omega
 have hW : ∀ (D : Nat → Bool) (z : Nat), D z = true → (wholeB (picL s) (grpL s) (flg (n + 1) D) (z : Int) = true ↔ Hrd (2 * (n + 1)) (labS s) (fun x => D x = true) z) := fun D z hz => whole_hd hp hg D z hz
 have hur : ∀ q, (hurG (picL s) (grpL s) (n + 1) (badD s) q = true ↔ Hrd (2 * (n + 1)) (labS s) (badS s) q) := fun q => by
  unfold hurG
  rw [Bool.and_eq_true]
  constructor
  ·rintro ⟨h1, h2⟩
   exact (hW (badD s) q h1).1 h2
  ·intro h
   exact ⟨h.1, (hW (badD s) q h.1).2 h⟩
 have hsup : ∀ q, (superG (picL s) (grpL s) (n + 1) (badD s) q (n + 1) = true ↔ Sup (2 * (n + 1)) (labS s) (badS s) q) := fun q => by
  unfold superG
  rw [List.any_eq_true]
  have hless : ∀ x, (lessG (badD s) q x = true ↔ badS s x ∧ x ≠ q) := fun x => by
   unfold lessG badS
   rw [Bool.and_eq_true, Bool.not_eq_true', decide_eq_false_iff_not]
  constructor
  ·rintro ⟨k, hk, h⟩
   unfold newG at h
   simp only [Bool.and_eq_true, Bool.not_eq_true'] at h
   obtain ⟨⟨h1, h2⟩, h3⟩ := h
   have h1' := (hless k).1 h1
   obtain ⟨_, u, hu, e⟩ := hplc k h1'.1
   refine ⟨u, hu, by rw [e]; exact h1'.1, (by rw [e]; exact fun hh => (by rw [(hur k).2 hh] at h2; cases h2)), (by rw [e]; exact h1'.2), ?_⟩
   rw [e]
   exact (hrd_congr hless k).1 ((hW (lessG (badD s) q) k h1).1 h3)
  ·rintro ⟨y, hy, hS, hn', hne, hH⟩
   have h1 : lessG (badD s) q (labS s y) = true := (hless _).2 ⟨hS, hne⟩
   refine ⟨labS s y, List.mem_range.2 (hlabm y), ?_⟩
   unfold newG
   simp only [Bool.and_eq_true, Bool.not_eq_true']
   refine ⟨⟨h1, ?_⟩, (hW (lessG (badD s) q) _ h1).2 ((hrd_congr hless _).2 hH)⟩
   cases hh : hurG (picL s) (grpL s) (n + 1) (badD s) (labS s y) with
   | false => rfl
   | true => exact absurd ((hur _).1 hh) hn'
 have hcnt : cntB (hurG (picL s) (grpL s) (n + 1) (badD s)) (n + 1) = (reps (2 * (n + 1)) (labS s) (badS s)).length := by
  unfold cntB
  rw [List.countP_eq_length_filter, show (reps (2 * (n + 1)) (labS s) (badS s)).length = ((reps (2 * (n + 1)) (labS s) (badS s)).map (labS s)).length from (List.length_map ..).symm]
  refine List.Perm.length_eq ?_
  have nd : ((reps (2 * (n + 1)) (labS s) (badS s)).map (labS s)).Nodup := by
   have h0 : (reps (2 * (n + 1)) (labS s) (badS s)).Pairwise (· < ·) := by unfold reps; exact List.pairwise_lt_range.filter _
   rw [List.Nodup, List.pairwise_map]
   refine List.Pairwise.imp_of_mem (fun {a b} ha hb h e => ?_) h0
   exact (mem_reps.1 hb).2.2 a h e
  refine (List.perm_ext_iff_of_nodup (List.nodup_range.filter _) nd).2 (fun q => ?_)
  rw [List.mem_filter, List.mem_range, List.mem_map]
  constructor
  ·rintro ⟨h1, h2⟩
   have hH := (hur q).1 h2
   obtain ⟨_, u, hu, e⟩ := hplc q hH.1
   obtain ⟨v, hv, ev, hf⟩ := first_place (labS s) u
   exact ⟨v, mem_reps.2 ⟨by omega, by rw [ev, e]; exact hH, hf⟩, by rw [ev, e]⟩
  ·rintro ⟨u, hu, rfl⟩
   exact ⟨hlabm u, (hur _).2 (mem_reps.1 hu).2.1⟩
 have e3 : (comD s).2.2.1 = ((cntB (hurG (picL s) (grpL s) (n + 1) (badD s)) (n + 1) : Nat) : Int) := by unfold comD; rw [hl]
 have e4 : (comD s).2.2.2 = fortG (picL s) (grpL s) (n + 1) (badD s) (n + 1) := by unfold comD; rw [hl]
 refine ⟨by rw [e3, hcnt], ?_⟩
 rw [e4, fort_iff, hcnt]
 unfold Fo
 refine and_congr_right (fun _ => ?_)
 constructor
 ·intro h a ha hH
  exact (hsup _).1 (h _ (hlabm a) ((hur _).2 hH))
 ·intro h i hi hh
  have hH := (hur i).1 hh
  obtain ⟨_, u, hu, e⟩ := hplc i hH.1
  rw [← e] at hH ⊢
  exact (hsup _).2 (h u hu hH)
end Go.Proofs.Ytepjhdblmghckaa.G


namespace Go.Proofs.Ytepjhdblmghckaa.G
open Go.Proofs.Ytepjhdblmghckaa.Q Go.Proofs.Ytepjhdblmghckaa.K Go.Proofs.Ytepjhdblmghckaa.Bf
open Go.RowKit Go.Proofs.YtepjhdblmghckaaW.PrintWords Go.Proofs.YtepjhdblmghckaaW.PrintLast Go.Proofs.YtepjhdblmghckaaW.PrintMore
set_option linter.unusedVariables false
def plN (pl : List Int) (x : Nat) : Nat := (nth pl x).toNat
structure Pcs (n : Nat) (p pl c g : List Int) : Prop where
 P : PicP (2 * n + 2) p pl
 pl0 : ∀ q, 0 ≤ nth pl q
 B : BlackG n p pl c
 C : CompG (n + 1) pl c g
 L : LinP (n + 1) pl
 gin : ∀ q, 0 ≤ nth g q ∧ nth g q < ((n + 1 : Nat) : Int)
theorem pcs_ok {s : List Int} {n : Nat} (hn : n ≤ 40) (hs : Stk true n s) : Pcs n (picL s) (plL s) (rndL s) (grpL s) := by
 obtain ⟨L, C, _⟩ := cmpL_all hn hs
 exact ⟨pic_ok hs, fun q => (plL_range s q).1, round_black hn hs, C, L, fun q => by have := grpL_in s q; rw [hs.len] at this; exact this⟩
theorem cross_pl {n : Nat} {p pl c g : List Int} (H : Pcs n p pl c g) {i k : Nat} (hi : i < n + 1) (hk : k < n + 1) (hne : i ≠ k) :
  (crossN pl i k = true ↔ (min (plN pl (2 * i)) (plN pl (2 * i + 1)) < min (plN pl (2 * k)) (plN pl (2 * k + 1)) ∧ min (plN pl (2 * k)) (plN pl (2 * k + 1)) < max (plN pl (2 * i)) (plN pl (2 * i + 1)) ∧ max (plN pl (2 * i)) (plN pl (2 * i + 1)) < max (plN pl (2 * k)) (plN pl (2 * k + 1))) ∨
   (min (plN pl (2 * k)) (plN pl (2 * k + 1)) < min (plN pl (2 * i)) (plN pl (2 * i + 1)) ∧ min (plN pl (2 * i)) (plN pl (2 * i + 1)) < max (plN pl (2 * k)) (plN pl (2 * k + 1)) ∧ max (plN pl (2 * k)) (plN pl (2 * k + 1)) < max (plN pl (2 * i)) (plN pl (2 * i + 1)))) := by
 have ne : ∀ x y, x < 2 * (n + 1) → y < 2 * (n + 1) → x ≠ y → nth pl x ≠ nth pl y := fun x y hx hy h he => h (H.L.inj x y hx hy he)
 have h := cross_plain (nth pl (2 * i)) (nth pl (2 * i + 1)) (nth pl (2 * k)) (nth pl (2 * k + 1)) (ne _ _ (by omega) (by omega) (by omega)) (ne _ _ (by omega) (by omega) (by omega)) (ne _ _ (by omega) (by omega) (by omega)) (ne _ _ (by omega) (by omega) (by omega)) (ne _ _ (by omega) (by omega) (by omega)) (ne _ _ (by omega) (by omega) (by omega))
 refine Iff.trans h ?_
 have a := H.pl0 (2 * i)
 have b := H.pl0 (2 * i + 1)
 have d := H.pl0 (2 * k)
 have e := H.pl0 (2 * k + 1)
 unfold plN
 omega
section
variable {n : Nat} {p pl c g : List Int} (hn : n ≤ 40) (H : Pcs n p pl c g)
include H
theorem pl_inj {x y : Nat} (hx : x < 2 * n + 2) (hy : y < 2 * n + 2) (h : plN pl x = plN pl y) : x = y := by
 have e1 := H.P.pp x hx
 have e2 := H.P.pp y hy
 unfold plN at h
 rw [h, e2] at e1
 exact e1.symm
theorem pl_lt {x : Nat} (hx : x < 2 * n + 2) : plN pl x < 2 * (n + 1) := by have := H.P.l_lt x hx; unfold plN; omega
theorem lab_pl {x : Nat} (hx : x < 2 * n + 2) : labP p g (plN pl x) = (nth g (x / 2)).toNat := by
 unfold labP plN
 rw [H.P.pp x hx]
theorem lab_eq {u v : Nat} : (labP p g u = labP p g v ↔ nth g ((nth p u).toNat / 2) = nth g ((nth p v).toNat / 2)) := by
 have a := H.gin ((nth p u).toNat / 2)
 have b := H.gin ((nth p v).toNat / 2)
 unfold labP
 omega
theorem c_g {j k : Nat} (hj : j < n + 1) (hk : k < n + 1) (h : nth c j = nth c k) : nth g j = nth g k := H.C.same j k hj hk h
theorem closed_g (S : Nat → Prop) (h1 : ∀ x, x < 2 * n + 2 → S (x / 2) → S (beta p pl x / 2)) (h2 : ∀ i k, i < n + 1 → k < n + 1 → crossN pl i k = true → S i → S k) : ∀ j k, j < n + 1 → k < n + 1 → nth g j = nth g k → S j → S k := by
 have hR := H.B.least S h1
 have hG := H.C.least S (fun i k hi hk h hS => hR i k (by rw [H.B.len]; exact hi) (by rw [H.B.len]; exact hk) h hS) h2
 exact fun j k hj hk h hS => hG j k (by rw [H.C.len]; exact hj) (by rw [H.C.len]; exact hk) h hS
include hn
theorem pl_beta {x : Nat} (hx : x < 2 * n + 2) : plN pl (beta p pl x) = plN pl x ^^^ 1 := by
 have h := x1_lt hn (H.P.l_lt x hx)
 unfold plN beta
 exact H.P.lp _ h.1
theorem g_beta {x : Nat} (hx : x < 2 * n + 2) : nth g (beta p pl x / 2) = nth g (x / 2) := by
 have hb := beta_lt hn H.P hx
 exact H.C.same _ _ (by omega) (by omega) (H.B.same x hx)
theorem chord_side {l : Nat} (hl : l < n + 1) {Y : Nat} (hY : (nth g l).toNat ≠ Y) : Smg (2 * (n + 1)) (labP p g) Y (plN pl (2 * l)) (plN pl (2 * l + 1)) := by
 obtain ⟨s, hs⟩ : ∃ s, min (plN pl (2 * l)) (plN pl (2 * l + 1)) = s := ⟨_, rfl⟩
 obtain ⟨t, ht⟩ : ∃ t, max (plN pl (2 * l)) (plN pl (2 * l + 1)) = t := ⟨_, rfl⟩
 have hne : plN pl (2 * l) ≠ plN pl (2 * l + 1) := fun e => by have := pl_inj H (show 2 * l < 2 * n + 2 by omega) (show 2 * l + 1 < 2 * n + 2 by omega) e; omega
 have hst : s < t := by omega
 have key : ¬ Pt (2 * (n + 1)) (labP p g) Y s t := by
  rintro ⟨⟨y, y1, y2, y3⟩, y', y4, y5, y6⟩
  obtain ⟨In, hIn⟩ : ∃ In : Nat → Prop, ∀ j, In j ↔ (s < plN pl (2 * j) ∧ plN pl (2 * j) < t ∧ s < plN pl (2 * j + 1) ∧ plN pl (2 * j + 1) < t) := ⟨_, fun _ => Iff.rfl⟩
  have hdist : ∀ j, j < n + 1 → (nth g j).toNat = Y → ∀ x, x = 2 * j ∨ x = 2 * j + 1 → plN pl x ≠ s ∧ plN pl x ≠ t := fun j hj hjY x hx => by
   have hjl : j ≠ l := fun e => hY (by rw [← e]; exact hjY)
   have n1 : plN pl x ≠ plN pl (2 * l) := fun e => by have := pl_inj H (show x < 2 * n + 2 by omega) (show 2 * l < 2 * n + 2 by omega) e; omega
   have n2 : plN pl x ≠ plN pl (2 * l + 1) := fun e => by have := pl_inj H (show x < 2 * n + 2 by omega) (show 2 * l + 1 < 2 * n + 2 by omega) e; omega
   omega
  have hside : ∀ j, j < n + 1 → (nth g j).toNat = Y → ∀ x, (x = 2 * j ∨ x = 2 * j + 1) → s < plN pl x → plN pl x < t → In j := fun j hj hjY x hx h1 h2 => by
   have hjl : j ≠ l := fun e => hY (by rw [← e]; exact hjY)
   have d1 := hdist j hj hjY (2 * j) (.inl rfl)
   have d2 := hdist j hj hjY (2 * j + 1) (.inr rfl)
   rw [hIn]
   refine Classical.byContradiction (fun hno => ?_)
   have hc : crossN pl j l = true := (cross_pl H hj hl hjl).2 (by rcases hx with rfl | rfl <;> omega)
   have := H.C.cross j l hj hl hc
   exact hY (by rw [← this]; exact hjY)
  have hall := closed_g H (fun j => (nth g j).toNat = Y → In j) (fun x hx hS hY' => by
   have hb := beta_lt hn H.P hx
   have hg := g_beta hn H hx
   have hin := (hIn _).1 (hS (by rw [← hg]; exact hY'))
   have hx2 : x = 2 * (x / 2) ∨ x = 2 * (x / 2) + 1 := by omega
   have hpx : s < plN pl x ∧ plN pl x < t := by
    rcases hx2 with e | e
    ·rw [e]; exact ⟨hin.1, hin.2.1⟩
    ·rw [e]; exact ⟨hin.2.2.1, hin.2.2.2⟩
   have hbx : beta p pl x = 2 * (beta p pl x / 2) ∨ beta p pl x = 2 * (beta p pl x / 2) + 1 := by omega
   have hd := hdist (beta p pl x / 2) (by omega) hY' _ hbx
   have hadj := pl_beta hn H hx
   have h1 := x1 (plN pl x) (by have := pl_lt H hx; omega)
   rw [h1] at hadj
   refine hside (beta p pl x / 2) (by omega) hY' _ hbx ?_ ?_
   ·split at hadj <;> omega
   ·split at hadj <;> omega) (fun i k hi hk hc hS hY' => by
   have hg := H.C.cross i k hi hk hc
   have hiY : (nth g i).toNat = Y := by rw [hg]; exact hY'
   have hin := (hIn _).1 (hS hiY)
   by_cases hik : i = k
   ·rw [← hik, hIn]; exact hin
   ·have hcc := (cross_pl H hi hk hik).1 hc
    have d1 := hdist k hk hY' (2 * k) (.inl rfl)
    have d2 := hdist k hk hY' (2 * k + 1) (.inr rfl)
    by_cases hm : s < plN pl (2 * k) ∧ plN pl (2 * k) < t
    ·exact hside k hk hY' _ (.inl rfl) hm.1 hm.2
    ·refine hside k hk hY' _ (.inr rfl) ?_ ?_ <;> omega)
  have t1 := pl_lt H (show 2 * l < 2 * n + 2 by omega)
  have t2 := pl_lt H (show 2 * l + 1 < 2 * n + 2 by omega)
  have hyl := H.P.p_lt y (by omega)
  have hyl' := H.P.p_lt y' (by omega)
  have ey : plN pl (nth p y).toNat = y := H.P.lp y (by omega)
  have ey' : plN pl (nth p y').toNat = y' := H.P.lp y' (by omega)
  have hYy : (nth g ((nth p y).toNat / 2)).toNat = Y := y3
  have hYy' : (nth g ((nth p y').toNat / 2)).toNat = Y := y6
  have hin : In ((nth p y).toNat / 2) := hside _ (by omega) hYy (nth p y).toNat (by omega) (by omega) (by omega)
  have a := H.gin ((nth p y).toNat / 2)
  have b := H.gin ((nth p y').toNat / 2)
  have h2 := (hIn _).1 (hall ((nth p y).toNat / 2) ((nth p y').toNat / 2) (by omega) (by omega) (by omega) (fun _ => hin) hYy')
  have hx2 : (nth p y').toNat = 2 * ((nth p y').toNat / 2) ∨ (nth p y').toNat = 2 * ((nth p y').toNat / 2) + 1 := by omega
  rcases hx2 with e | e
  ·rw [← e, ey'] at h2; omega
  ·have := h2.2.2; rw [← e, ey'] at this; omega
 by_cases ho : plN pl (2 * l) < plN pl (2 * l + 1)
 ·have e1 : plN pl (2 * l) = s := by omega
  have e2 : plN pl (2 * l + 1) = t := by omega
  rw [e1, e2]; exact sm_of_lt hst key
 ·have e1 : plN pl (2 * l) = t := by omega
  have e2 : plN pl (2 * l + 1) = s := by omega
  rw [e1, e2]; exact (sm_of_lt hst key).symm
theorem lam_ok : Lam (2 * (n + 1)) (labP p g) := by
 intro a b d e hab hbd hde he h1 h2
 refine Classical.byContradiction (fun hne => ?_)
 obtain ⟨Y, hY⟩ : ∃ Y, labP p g b = Y := ⟨_, rfl⟩
 have hla : labP p g a ≠ Y := by rw [← hY]; exact hne
 have hpa := H.P.p_lt a (by omega)
 have hpd := H.P.p_lt d (by omega)
 have ea : plN pl (nth p a).toNat = a := H.P.lp a (by omega)
 have ed : plN pl (nth p d).toNat = d := H.P.lp d (by omega)
 have hga : (nth g ((nth p a).toNat / 2)).toNat ≠ Y := hla
 obtain ⟨ga, hgae⟩ : ∃ ga, nth g ((nth p a).toNat / 2) = ga := ⟨_, rfl⟩
 rw [hgae] at hga
 have lab_of : ∀ x, x < 2 * n + 2 → nth g (x / 2) = ga → labP p g (plN pl x) ≠ Y := fun x hx e => by rw [lab_pl H hx, e]; exact hga
 have hall := closed_g H (fun j => nth g j = ga → ∀ x, (x = 2 * j ∨ x = 2 * j + 1) → Smg (2 * (n + 1)) (labP p g) Y a (plN pl x)) (fun x hx hS hg x' hx' => by
  have hb := beta_lt hn H.P hx
  have hg2 : nth g (x / 2) = ga := by rw [← g_beta hn H hx]; exact hg
  have s1 := hS hg2 x (by omega)
  have hadj := pl_beta hn H hx
  have h1 := x1 (plN pl x) (by have := pl_lt H hx; omega)
  rw [h1] at hadj
  have s2 : Smg (2 * (n + 1)) (labP p g) Y (plN pl x) (plN pl (beta p pl x)) := ⟨fun ⟨⟨t, t1, t2, _⟩, _⟩ => by split at hadj <;> omega, fun ⟨⟨t, t1, t2, _⟩, _⟩ => by split at hadj <;> omega⟩
  have lb := lab_of (beta p pl x) hb hg
  have s3 : Smg (2 * (n + 1)) (labP p g) Y a (plN pl (beta p pl x)) := Smg.trans (by omega) (pl_lt H hx) (pl_lt H hb) hla (lab_of x hx hg2) lb s1 s2
  have hcs := chord_side hn H (l := beta p pl x / 2) (by omega) (Y := Y) (by rw [hg]; exact hga)
  have hx2 : x' < 2 * n + 2 := by omega
  have hgx : nth g (x' / 2) = ga := by rw [show x' / 2 = beta p pl x / 2 by omega]; exact hg
  by_cases e : x' = beta p pl x
  ·rw [e]; exact s3
  ·refine Smg.trans (by omega) (pl_lt H hb) (pl_lt H hx2) hla lb (lab_of x' hx2 hgx) s3 ?_
   rcases hx' with e1 | e1
   ·have e2 : beta p pl x = 2 * (beta p pl x / 2) + 1 := by omega
    rw [e1]; rw [show plN pl (beta p pl x) = plN pl (2 * (beta p pl x / 2) + 1) by rw [← e2]]; exact hcs.symm
   ·have e2 : beta p pl x = 2 * (beta p pl x / 2) := by omega
    rw [e1]; rw [show plN pl (beta p pl x) = plN pl (2 * (beta p pl x / 2)) by rw [← e2]]; exact hcs) (fun i k hi hk hc hS hg x' hx' => by
  have hgi : nth g i = ga := by rw [H.C.cross i k hi hk hc]; exact hg
  by_cases hik : i = k
  ·subst hik; exact hS hg x' hx'
  ·have hcc := (cross_pl H hi hk hik).1 hc
   have ci := chord_side hn H (l := i) hi (Y := Y) (by rw [hgi]; exact hga)
   have ck := chord_side hn H (l := k) hk (Y := Y) (by rw [hg]; exact hga)
   have li : ∀ x, (x = 2 * i ∨ x = 2 * i + 1) → plN pl x < 2 * (n + 1) ∧ labP p g (plN pl x) ≠ Y := fun x hx => ⟨pl_lt H (by omega), lab_of x (by omega) (by rw [show x / 2 = i by omega]; exact hgi)⟩
   have lk : ∀ x, (x = 2 * k ∨ x = 2 * k + 1) → plN pl x < 2 * (n + 1) ∧ labP p g (plN pl x) ≠ Y := fun x hx => ⟨pl_lt H (by omega), lab_of x (by omega) (by rw [show x / 2 = k by omega]; exact hg)⟩
   have near1 : ∃ xi xk, (xi = 2 * i ∨ xi = 2 * i + 1) ∧ (xk = 2 * k ∨ xk = 2 * k + 1) ∧ Smg (2 * (n + 1)) (labP p g) Y (plN pl xi) (plN pl xk) := by
    have ni := pl_inj H (show 2 * i < 2 * n + 2 by omega) (show 2 * i + 1 < 2 * n + 2 by omega)
    have pick : ∀ j, ∃ lo hi, ((lo = 2 * j ∧ hi = 2 * j + 1) ∨ (lo = 2 * j + 1 ∧ hi = 2 * j)) ∧ plN pl lo = min (plN pl (2 * j)) (plN pl (2 * j + 1)) ∧ plN pl hi = max (plN pl (2 * j)) (plN pl (2 * j + 1)) := fun j => by
     by_cases h : plN pl (2 * j) ≤ plN pl (2 * j + 1)
     ·exact ⟨2 * j, 2 * j + 1, .inl ⟨rfl, rfl⟩, by omega, by omega⟩
     ·exact ⟨2 * j + 1, 2 * j, .inr ⟨rfl, rfl⟩, by omega, by omega⟩
    obtain ⟨l1, h1, o1, m1, M1⟩ := pick i
    obtain ⟨l2, h2, o2, m2, M2⟩ := pick k
    have cil : Smg (2 * (n + 1)) (labP p g) Y (plN pl l1) (plN pl h1) := by
     rcases o1 with ⟨e, e'⟩ | ⟨e, e'⟩ <;> rw [e, e']
     ·exact ci
     ·exact ci.symm
    have ckl : Smg (2 * (n + 1)) (labP p g) Y (plN pl l2) (plN pl h2) := by
     rcases o2 with ⟨e, e'⟩ | ⟨e, e'⟩ <;> rw [e, e']
     ·exact ck
     ·exact ck.symm
    rw [← m1, ← m2, ← M1, ← M2] at hcc
    have q1 := li l1 (by omega)
    have q2 := li h1 (by omega)
    have q3 := lk l2 (by omega)
    have q4 := lk h2 (by omega)
    rcases hcc with ⟨c1, c2, c3⟩ | ⟨c1, c2, c3⟩
    ·exact ⟨l1, l2, by omega, by omega, sm_cross c1 c2 c3 q4.1 q1.2 q3.2 q2.2 q4.2 cil ckl⟩
    ·exact ⟨l1, l2, by omega, by omega, (sm_cross c1 c2 c3 q2.1 q3.2 q1.2 q4.2 q2.2 ckl cil).symm⟩
   obtain ⟨xi, xk, hxi, hxk, hs⟩ := near1
   have s1 := hS hgi xi hxi
   have s2 : Smg (2 * (n + 1)) (labP p g) Y a (plN pl xk) := Smg.trans (by omega) (li xi hxi).1 (lk xk hxk).1 hla (li xi hxi).2 (lk xk hxk).2 s1 hs
   by_cases e : x' = xk
   ·rw [e]; exact s2
   ·refine Smg.trans (by omega) (lk xk hxk).1 (lk x' hx').1 hla (lk xk hxk).2 (lk x' hx').2 s2 ?_
    rcases hxk with e1 | e1 <;> rcases hx' with e2 | e2
    ·exact absurd (by rw [e1, e2]) e
    ·rw [e1, e2]; exact ck
    ·rw [e1, e2]; exact ck.symm
    ·exact absurd (by rw [e1, e2]) e)
 have hstart : nth g ((nth p a).toNat / 2) = ga → ∀ x, (x = 2 * ((nth p a).toNat / 2) ∨ x = 2 * ((nth p a).toNat / 2) + 1) → Smg (2 * (n + 1)) (labP p g) Y a (plN pl x) := fun _ x hx => by
  have hcs := chord_side hn H (l := (nth p a).toNat / 2) (by omega) (Y := Y) (by rw [hgae]; exact hga)
  by_cases e : x = (nth p a).toNat
  ·rw [e, ea]; exact Smg.refl ..
  ·rcases hx with e1 | e1
   ·have e2 : (nth p a).toNat = 2 * ((nth p a).toNat / 2) + 1 := by omega
    rw [e1]
    have : plN pl (2 * ((nth p a).toNat / 2) + 1) = a := by rw [← e2, ea]
    rw [this] at hcs
    exact hcs.symm
   ·have e2 : (nth p a).toNat = 2 * ((nth p a).toNat / 2) := by omega
    rw [e1]
    have : plN pl (2 * ((nth p a).toNat / 2)) = a := by rw [← e2, ea]
    rw [this] at hcs
    exact hcs
 have hgd : nth g ((nth p d).toNat / 2) = ga := by rw [← hgae]; exact ((lab_eq H).1 h1).symm
 have hfin := hall ((nth p a).toNat / 2) ((nth p d).toNat / 2) (by omega) (by omega) (by rw [hgae, hgd]) hstart hgd (nth p d).toNat (by omega)
 rw [ed] at hfin
 exact hfin.1 ⟨⟨b, hab, hbd, hY⟩, e, he, .inr hde, by rw [← h2]; exact hY⟩
end
end Go.Proofs.Ytepjhdblmghckaa.G


namespace Go.Proofs.Ytepjhdblmghckaa.G
open Go.Proofs.Ytepjhdblmghckaa.Q Go.Proofs.Ytepjhdblmghckaa.K Go.Proofs.Ytepjhdblmghckaa.Bf
open Go.RowKit Go.Proofs.YtepjhdblmghckaaW.PrintWords Go.Proofs.YtepjhdblmghckaaW.PrintLast Go.Proofs.YtepjhdblmghckaaW.PrintMore
set_option linter.unusedVariables false
def rho (i k q : Nat) : Nat := if 2 * i + 1 ≤ q ∧ q ≤ 2 * k + 2 then 2 * i + 2 * k + 3 - q else q
theorem rho_rho {i k : Nat} (hik : i ≤ k) (q : Nat) : rho i k (rho i k q) = q := by
 by_cases h : 2 * i + 1 ≤ q ∧ q ≤ 2 * k + 2
 ·have e : rho i k q = 2 * i + 2 * k + 3 - q := if_pos h
  rw [e]; unfold rho; rw [if_pos (by omega)]; omega
 ·have e : rho i k q = q := if_neg h
  rw [e, e]
theorem rho_lt {i k n q : Nat} (hik : i ≤ k) (hk : k < n) (hq : q < 2 * n + 2) : rho i k q < 2 * n + 2 := by unfold rho; split <;> omega
theorem rho_cases (i k q : Nat) : (2 * i + 1 ≤ q ∧ q ≤ 2 * k + 2 ∧ rho i k q = 2 * i + 2 * k + 3 - q) ∨ ((q < 2 * i + 1 ∨ 2 * k + 2 < q) ∧ rho i k q = q) := by unfold rho; split <;> omega
theorem x1_or {q : Nat} (hq : q < 128) : (q % 2 = 0 ∧ q ^^^ 1 = q + 1) ∨ (q % 2 = 1 ∧ q ^^^ 1 = q - 1) := by
 rw [x1 q hq]
 by_cases h : q % 2 = 0
 ·rw [if_pos h]; exact .inl ⟨h, rfl⟩
 ·rw [if_neg h]; exact .inr ⟨by omega, rfl⟩
theorem rho_x1 {i k n q : Nat} (hik : i ≤ k) (hk : k < n) (hn : n ≤ 40) (hq : q < 2 * n + 2) (h1 : q ≠ 2 * i) (h2 : q ≠ 2 * i + 1) (h3 : q ≠ 2 * k + 2) (h4 : q ≠ 2 * k + 3) : rho i k (rho i k q ^^^ 1) = q ^^^ 1 := by
 have hr := rho_lt hik hk hq
 have a := rho_cases i k q
 have b := x1_or (q := rho i k q) (by omega)
 have d := x1_or (q := q) (by omega)
 have e := rho_cases i k (rho i k q ^^^ 1)
 obtain ⟨r, hre⟩ : ∃ r, rho i k q = r := ⟨_, rfl⟩
 rw [hre] at a b e hr ⊢
 obtain ⟨r', hr'⟩ : ∃ r', r ^^^ 1 = r' := ⟨_, rfl⟩
 rw [hr'] at b e ⊢
 obtain ⟨q', hq'⟩ : ∃ q', q ^^^ 1 = q' := ⟨_, rfl⟩
 rw [hq'] at d ⊢
 omega
theorem cross_bt {a b d e : Nat} (n1 : a ≠ d) (n2 : a ≠ e) (n3 : b ≠ d) (n4 : b ≠ e) (n5 : a ≠ b) (n6 : d ≠ e) :
  ((min a b < min d e ∧ min d e < max a b ∧ max a b < max d e) ∨ (min d e < min a b ∧ min a b < max d e ∧ max d e < max a b)) ↔ ((min a b < d ∧ d < max a b) ↔ ¬ (min a b < e ∧ e < max a b)) := by
 rcases Nat.lt_or_gt_of_ne n5 with h | h <;> rcases Nat.lt_or_gt_of_ne n6 with h' | h'
 ·rw [Nat.min_eq_left (Nat.le_of_lt h), Nat.max_eq_right (Nat.le_of_lt h), Nat.min_eq_left (Nat.le_of_lt h'), Nat.max_eq_right (Nat.le_of_lt h')]; omega
 ·rw [Nat.min_eq_left (Nat.le_of_lt h), Nat.max_eq_right (Nat.le_of_lt h), Nat.min_eq_right (Nat.le_of_lt h'), Nat.max_eq_left (Nat.le_of_lt h')]; omega
 ·rw [Nat.min_eq_right (Nat.le_of_lt h), Nat.max_eq_left (Nat.le_of_lt h), Nat.min_eq_left (Nat.le_of_lt h'), Nat.max_eq_right (Nat.le_of_lt h')]; omega
 ·rw [Nat.min_eq_right (Nat.le_of_lt h), Nat.max_eq_left (Nat.le_of_lt h), Nat.min_eq_right (Nat.le_of_lt h'), Nat.max_eq_left (Nat.le_of_lt h')]; omega
theorem rho_bt {i k a b d : Nat} (hik : i ≤ k) (n1 : a ≠ d) (n3 : b ≠ d) (hs : (2 * i + 1 ≤ a ∧ a ≤ 2 * k + 2 ∧ 2 * i + 1 ≤ b ∧ b ≤ 2 * k + 2) ∨ ((a < 2 * i + 1 ∨ 2 * k + 2 < a) ∧ (b < 2 * i + 1 ∨ 2 * k + 2 < b))) :
  (min (rho i k a) (rho i k b) < rho i k d ∧ rho i k d < max (rho i k a) (rho i k b)) ↔ (min a b < d ∧ d < max a b) := by
 have ea := rho_cases i k a
 have eb := rho_cases i k b
 have ed := rho_cases i k d
 generalize rho i k a = a' at *
 generalize rho i k b = b' at *
 generalize rho i k d = d' at *
 rcases hs with ⟨s1, s2, s3, s4⟩ | ⟨s1, s2⟩
 ·have ea' : a' = 2 * i + 2 * k + 3 - a := by omega
  have eb' : b' = 2 * i + 2 * k + 3 - b := by omega
  subst ea' eb'
  clear ea eb
  rcases ed with ⟨d1, d2, rfl⟩ | ⟨d1, rfl⟩ <;> omega
 ·have ea' : a' = a := by omega
  have eb' : b' = b := by omega
  subst ea' eb'
  clear ea eb
  rcases ed with ⟨d1, d2, rfl⟩ | ⟨d1, rfl⟩ <;> omega
theorem picL_turn {x : List Int} {n i k : Nat} (hx : Stk true n x) (hik : i ≤ k) (hk : k < n) (q : Nat) (hq : q < 2 * n + 2) : nth (picL (flL true x i k)) q = nth (picL x) (rho i k q) := by
 have hl := hx.len
 have hly : (flL true x i k).length = n := by rw [flL_len, hl]
 by_cases h0 : q = 0
 ·have e : rho i k q = 0 := by unfold rho; rw [if_neg (by omega)]; exact h0
  rw [e, h0]; rfl
 ·by_cases h1 : q = 2 * n + 1
  ·have e : rho i k q = 2 * n + 1 := by unfold rho; rw [if_neg (by omega)]; exact h1
   rw [e, h1]
   have a := picL_last (flL true x i k)
   have b := picL_last x
   rw [hly] at a
   rw [hl] at b
   rw [a, b]
  ·have hm := picL_mid (flL true x i k) ((q - 1) / 2) ((q - 1) % 2) (by omega) (by omega)
   rw [show 2 * ((q - 1) / 2) + 1 + (q - 1) % 2 = q by omega] at hm
   rw [hm, flL_nth true i k ((q - 1) / 2) (by omega)]
   by_cases hin : 2 * i + 1 ≤ q ∧ q ≤ 2 * k + 2
   ·have hm2 := picL_mid x (i + k - (q - 1) / 2) (1 - (q - 1) % 2) (by omega) (by omega)
    have e : rho i k q = 2 * (i + k - (q - 1) / 2) + 1 + (1 - (q - 1) % 2) := by unfold rho; rw [if_pos hin]; omega
    have hv := hx.rng (nth x (i + k - (q - 1) / 2)) (nth_in x _ (by omega))
    rw [e, hm2, if_pos (show i ≤ (q - 1) / 2 ∧ (q - 1) / 2 ≤ k by omega), if_pos rfl]
    by_cases hp : nth x (i + k - (q - 1) / 2) > 0
    ·rw [if_neg (by omega), if_pos hp]; omega
    ·rw [if_pos (by omega), if_neg hp]; omega
   ·have hm2 := picL_mid x ((q - 1) / 2) ((q - 1) % 2) (by omega) (by omega)
    have e : rho i k q = 2 * ((q - 1) / 2) + 1 + (q - 1) % 2 := by unfold rho; rw [if_neg hin]; omega
    rw [e, hm2, if_neg (show ¬ (i ≤ (q - 1) / 2 ∧ (q - 1) / 2 ≤ k) by omega)]
structure Trn (n i k : Nat) (p pl c g p' pl' c' g' : List Int) : Prop where
 hn : n ≤ 40
 hik : i ≤ k
 hk : k < n
 X : Pcs n p pl c g
 Y : Pcs n p' pl' c' g'
 pt : ∀ q, q < 2 * n + 2 → (nth p' q).toNat = (nth p (rho i k q)).toNat
theorem trn_ok {x : List Int} {n i k : Nat} (hn : n ≤ 40) (hx : Stk true n x) (hik : i ≤ k) (hk : k < n) : Trn n i k (picL x) (plL x) (rndL x) (grpL x) (picL (flL true x i k)) (plL (flL true x i k)) (rndL (flL true x i k)) (grpL (flL true x i k)) :=
 ⟨hn, hik, hk, pcs_ok hn hx, pcs_ok hn (stk_flL hx (fun h => h) i k hik hk), fun q hq => by rw [picL_turn hx hik hk q hq]⟩
section
variable {n i k : Nat} {p pl c g p' pl' c' g' : List Int} (T : Trn n i k p pl c g p' pl' c' g')
include T
theorem Trn.plt {v : Nat} (hv : v < 2 * n + 2) : plN pl' v = rho i k (plN pl v) := by
 have h1 := T.X.P.l_lt v hv
 have h2 := rho_lt T.hik T.hk h1
 have h3 := T.Y.P.lp _ h2
 rw [T.pt _ h2, rho_rho T.hik, T.X.P.pp v hv] at h3
 exact h3
theorem Trn.beta_same {x : Nat} (hx : x < 2 * n + 2) (h1 : plN pl x ≠ 2 * i) (h2 : plN pl x ≠ 2 * i + 1) (h3 : plN pl x ≠ 2 * k + 2) (h4 : plN pl x ≠ 2 * k + 3) : beta p' pl' x = beta p pl x := by
 have hu := T.X.P.l_lt x hx
 have hik := T.hik
 have hkn := T.hk
 have hnn := T.hn
 have e1 : (nth pl' x).toNat = rho i k (plN pl x) := T.plt hx
 have hlt := (x1_lt T.hn (rho_lt T.hik T.hk hu)).1
 show (nth p' ((nth pl' x).toNat ^^^ 1)).toNat = (nth p ((nth pl x).toNat ^^^ 1)).toNat
 rw [e1]
 have hlt2 : rho i k (plN pl x) ^^^ 1 < 2 * n + 2 := hlt
 rw [T.pt _ hlt2]
 have e3 : rho i k (rho i k (plN pl x) ^^^ 1) = plN pl x ^^^ 1 := rho_x1 T.hik T.hk T.hn hu h1 h2 h3 h4
 rw [e3]
 rfl
theorem Trn.cross_same {j l : Nat} (hj : j < n + 1) (hl : l < n + 1) (hne : j ≠ l)
  (hs : (2 * i + 1 ≤ plN pl (2 * j) ∧ plN pl (2 * j) ≤ 2 * k + 2 ∧ 2 * i + 1 ≤ plN pl (2 * j + 1) ∧ plN pl (2 * j + 1) ≤ 2 * k + 2) ∨ ((plN pl (2 * j) < 2 * i + 1 ∨ 2 * k + 2 < plN pl (2 * j)) ∧ (plN pl (2 * j + 1) < 2 * i + 1 ∨ 2 * k + 2 < plN pl (2 * j + 1)))) :
  (crossN pl' j l = true ↔ crossN pl j l = true) := by
 rw [cross_pl T.X hj hl hne, cross_pl T.Y hj hl hne, T.plt (by omega), T.plt (by omega), T.plt (by omega), T.plt (by omega)]
 have i1 := pl_inj T.X (show 2 * j < 2 * n + 2 by omega) (show 2 * l < 2 * n + 2 by omega)
 have i2 := pl_inj T.X (show 2 * j < 2 * n + 2 by omega) (show 2 * l + 1 < 2 * n + 2 by omega)
 have i3 := pl_inj T.X (show 2 * j + 1 < 2 * n + 2 by omega) (show 2 * l < 2 * n + 2 by omega)
 have i4 := pl_inj T.X (show 2 * j + 1 < 2 * n + 2 by omega) (show 2 * l + 1 < 2 * n + 2 by omega)
 have i5 := pl_inj T.X (show 2 * j < 2 * n + 2 by omega) (show 2 * j + 1 < 2 * n + 2 by omega)
 have i6 := pl_inj T.X (show 2 * l < 2 * n + 2 by omega) (show 2 * l + 1 < 2 * n + 2 by omega)
 obtain ⟨a, ha⟩ : ∃ a, plN pl (2 * j) = a := ⟨_, rfl⟩
 obtain ⟨b, hb⟩ : ∃ b, plN pl (2 * j + 1) = b := ⟨_, rfl⟩
 obtain ⟨d, hd⟩ : ∃ d, plN pl (2 * l) = d := ⟨_, rfl⟩
 obtain ⟨e, he⟩ : ∃ e, plN pl (2 * l + 1) = e := ⟨_, rfl⟩
 rw [ha, hb] at hs
 rw [ha, hd] at i1
 rw [ha, he] at i2
 rw [hb, hd] at i3
 rw [hb, he] at i4
 rw [ha, hb] at i5
 rw [hd, he] at i6
 rw [ha, hb, hd, he]
 have n1 : a ≠ d := fun h => by have := i1 h; omega
 have n2 : a ≠ e := fun h => by have := i2 h; omega
 have n3 : b ≠ d := fun h => by have := i3 h; omega
 have n4 : b ≠ e := fun h => by have := i4 h; omega
 have n5 : a ≠ b := fun h => by have := i5 h; omega
 have n6 : d ≠ e := fun h => by have := i6 h; omega
 have hik := T.hik
 have r : ∀ u v : Nat, u ≠ v → rho i k u ≠ rho i k v := fun u v h e => h (by rw [← rho_rho hik u, e, rho_rho hik])
 rw [cross_bt (r a d n1) (r a e n2) (r b d n3) (r b e n4) (r a b n5) (r d e n6), cross_bt n1 n2 n3 n4 n5 n6, rho_bt hik n1 n3 hs, rho_bt hik n2 n4 hs]
theorem Trn.lab_a : labP p g (2 * i) = labP p g (2 * i + 1) := by
 have hk := T.hk
 have hik := T.hik
 have hx := T.X.P.p_lt (2 * i + 1) (by omega)
 have hg := g_beta T.hn T.X hx
 have hb := (beta_even T.hn T.X.P (j := i) (by omega)).2
 rw [hb] at hg
 unfold labP
 rw [hg]
theorem Trn.lab_b : labP p g (2 * k + 3) = labP p g (2 * k + 2) := by
 have hk := T.hk
 have hx := T.X.P.p_lt (2 * k + 2) (by omega)
 have hg := g_beta T.hn T.X hx
 have hb := (beta_even T.hn T.X.P (j := k + 1) (by omega)).1
 rw [show 2 * (k + 1) = 2 * k + 2 by omega] at hb
 rw [hb] at hg
 unfold labP
 rw [show 2 * k + 3 = 2 * k + 2 + 1 by omega, hg]
end
def Unt (n i k : Nat) (p g : List Int) (z : Nat) : Prop := z ≠ labP p g (2 * i + 1) ∧ z ≠ labP p g (2 * k + 2) ∧ Smg (2 * (n + 1)) (labP p g) z (2 * i + 1) (2 * k + 2)
section
variable {n i k : Nat} {p pl c g p' pl' c' g' : List Int} (T : Trn n i k p pl c g p' pl' c' g')
include T
theorem Trn.side {z : Nat} (hz : Unt n i k p g z) : (∀ q, q < 2 * (n + 1) → labP p g q = z → 2 * i + 1 < q ∧ q < 2 * k + 2) ∨ (∀ q, q < 2 * (n + 1) → labP p g q = z → q < 2 * i ∨ 2 * k + 3 < q) := by
 have la := T.lab_a
 have lb := T.lab_b
 have hne : ∀ q, labP p g q = z → q ≠ 2 * i ∧ q ≠ 2 * i + 1 ∧ q ≠ 2 * k + 2 ∧ q ≠ 2 * k + 3 := fun q e => by
  refine ⟨fun h => hz.1 ?_, fun h => hz.1 ?_, fun h => hz.2.1 ?_, fun h => hz.2.1 ?_⟩
  ·rw [← e, h, la]
  ·rw [← e, h]
  ·rw [← e, h]
  ·rw [← e, h, lb]
 by_cases h : ∃ q, q < 2 * (n + 1) ∧ labP p g q = z ∧ 2 * i + 1 < q ∧ q < 2 * k + 2
 ·obtain ⟨q0, q1, q2, q3, q4⟩ := h
  refine .inl (fun q hq e => ?_)
  have := hne q e
  refine Classical.byContradiction (fun hno => hz.2.2.1 ⟨⟨q0, q3, q4, q2⟩, q, hq, by omega, e⟩)
 ·refine .inr (fun q hq e => ?_)
  have := hne q e
  refine Classical.byContradiction (fun hno => h ⟨q, hq, e, by omega, by omega⟩)
end
end Go.Proofs.Ytepjhdblmghckaa.G


namespace Go.Proofs.Ytepjhdblmghckaa.G
open Go.Proofs.Ytepjhdblmghckaa.Q Go.Proofs.Ytepjhdblmghckaa.K Go.Proofs.Ytepjhdblmghckaa.Bf
open Go.RowKit Go.Proofs.YtepjhdblmghckaaW.PrintWords Go.Proofs.YtepjhdblmghckaaW.PrintLast Go.Proofs.YtepjhdblmghckaaW.PrintMore
set_option linter.unusedVariables false
section
variable {n i k : Nat} {p pl c g p' pl' c' g' : List Int} (T : Trn n i k p pl c g p' pl' c' g') {z : Nat} (hz : Unt n i k p g z)
include T hz
theorem unt_pt {x : Nat} (hx : x < 2 * n + 2) (h : (nth g (x / 2)).toNat = z) : (∀ q, q < 2 * (n + 1) → labP p g q = z → 2 * i + 1 < q ∧ q < 2 * k + 2) ∧ (2 * i + 1 < plN pl x ∧ plN pl x < 2 * k + 2) ∨ (∀ q, q < 2 * (n + 1) → labP p g q = z → q < 2 * i ∨ 2 * k + 3 < q) ∧ (plN pl x < 2 * i ∨ 2 * k + 3 < plN pl x) := by
 have hl := lab_pl T.X hx
 rw [h] at hl
 have hp := pl_lt T.X hx
 rcases T.side hz with hs | hs
 ·exact .inl ⟨hs, hs _ hp hl⟩
 ·exact .inr ⟨hs, hs _ hp hl⟩
theorem unt_beta {x : Nat} (hx : x < 2 * n + 2) (h : (nth g (x / 2)).toNat = z) : beta p' pl' x = beta p pl x := by
 have hik := T.hik
 rcases unt_pt T hz hx h with ⟨_, h⟩ | ⟨_, h⟩
 ·exact T.beta_same hx (by omega) (by omega) (by omega) (by omega)
 ·exact T.beta_same hx (by omega) (by omega) (by omega) (by omega)
theorem unt_line {j : Nat} (hj : j < n + 1) (h : (nth g j).toNat = z) : (2 * i + 1 ≤ plN pl (2 * j) ∧ plN pl (2 * j) ≤ 2 * k + 2 ∧ 2 * i + 1 ≤ plN pl (2 * j + 1) ∧ plN pl (2 * j + 1) ≤ 2 * k + 2) ∨ ((plN pl (2 * j) < 2 * i + 1 ∨ 2 * k + 2 < plN pl (2 * j)) ∧ (plN pl (2 * j + 1) < 2 * i + 1 ∨ 2 * k + 2 < plN pl (2 * j + 1))) := by
 have e1 : 2 * j / 2 = j := by omega
 have e2 : (2 * j + 1) / 2 = j := by omega
 have l1 := lab_pl T.X (show 2 * j < 2 * n + 2 by omega)
 have l2 := lab_pl T.X (show 2 * j + 1 < 2 * n + 2 by omega)
 rw [e1, h] at l1
 rw [e2, h] at l2
 have p1 := pl_lt T.X (show 2 * j < 2 * n + 2 by omega)
 have p2 := pl_lt T.X (show 2 * j + 1 < 2 * n + 2 by omega)
 rcases T.side hz with hs | hs
 ·have a := hs _ p1 l1
  have b := hs _ p2 l2
  exact .inl ⟨by omega, by omega, by omega, by omega⟩
 ·have a := hs _ p1 l1
  have b := hs _ p2 l2
  exact .inr ⟨by omega, by omega⟩
theorem unt_cross {j l : Nat} (hj : j < n + 1) (hl : l < n + 1) (h : (nth g j).toNat = z) : crossN pl' j l = true ↔ crossN pl j l = true := by
 by_cases e : j = l
 ·subst e; rw [cross_self, cross_self]
 ·exact T.cross_same hj hl e (unt_line T hz hj h)
theorem unt_g {j l : Nat} (hj : j < n + 1) (hl : l < n + 1) (h : (nth g j).toNat = z) : nth g' l = nth g' j ↔ nth g l = nth g j := by
 constructor
 ·intro e
  have hc := closed_g T.Y (fun j => (nth g j).toNat = z) (fun x hx hS => by
   rw [unt_beta T hz hx hS, g_beta T.hn T.X hx]; exact hS) (fun a b ha hb hx hS => by
   rw [← T.X.C.cross a b ha hb ((unt_cross T hz ha hb hS).1 hx)]; exact hS) j l hj hl e.symm h
  have a := T.X.gin j
  have b := T.X.gin l
  omega
 ·intro e
  exact closed_g T.X (fun b => (nth g b).toNat = z → nth g' b = nth g' j) (fun x hx hS hb => by
   have hgx : (nth g (x / 2)).toNat = z := by rw [← g_beta T.hn T.X hx]; exact hb
   rw [← unt_beta T hz hx hgx, g_beta T.hn T.Y hx]
   exact hS hgx) (fun a b ha hb hx hS hbz => by
   have hga : (nth g a).toNat = z := by rw [T.X.C.cross a b ha hb hx]; exact hbz
   rw [← T.Y.C.cross a b ha hb ((unt_cross T hz ha hb hga).2 hx)]
   exact hS hga) j l hj hl e.symm (fun _ => rfl) (by rw [e]; exact h)
theorem unt_c {j l : Nat} (hj : j < n + 1) (hl : l < n + 1) (h : (nth g j).toNat = z) : nth c' l = nth c' j ↔ nth c l = nth c j := by
 have hz2 : ∀ x, x < 2 * n + 2 → nth c (x / 2) = nth c j → (nth g (x / 2)).toNat = z := fun x hx e => by
  rw [c_g T.X (show x / 2 < n + 1 by omega) hj e]; exact h
 constructor
 ·intro e
  exact T.Y.B.least (fun b => nth c b = nth c j) (fun x hx hS => by
   rw [unt_beta T hz hx (hz2 x hx hS), T.X.B.same x hx]; exact hS) j l (by rw [T.Y.B.len]; exact hj) (by rw [T.Y.B.len]; exact hl) e.symm rfl
 ·intro e
  exact T.X.B.least (fun b => nth c b = nth c j → nth c' b = nth c' j) (fun x hx hS hb => by
   have hcx : nth c (x / 2) = nth c j := by rw [← T.X.B.same x hx]; exact hb
   rw [← unt_beta T hz hx (hz2 x hx hcx), T.Y.B.same x hx]
   exact hS hcx) j l (by rw [T.X.B.len]; exact hj) (by rw [T.X.B.len]; exact hl) e.symm (fun _ => rfl) e
theorem unt_even {j : Nat} (hj : j < n + 1) (h : (nth g j).toNat = z) : evenL pl' j = evenL pl j := by
 have hl := unt_line T hz hj h
 have e1 : nth pl' (2 * j) = ((rho i k (plN pl (2 * j)) : Nat) : Int) := by have := T.plt (v := 2 * j) (by omega); have := T.Y.pl0 (2 * j); unfold plN at *; omega
 have e2 : nth pl' (2 * j + 1) = ((rho i k (plN pl (2 * j + 1)) : Nat) : Int) := by have := T.plt (v := 2 * j + 1) (by omega); have := T.Y.pl0 (2 * j + 1); unfold plN at *; omega
 have f1 : nth pl (2 * j) = ((plN pl (2 * j) : Nat) : Int) := by have := T.X.pl0 (2 * j); unfold plN; omega
 have f2 : nth pl (2 * j + 1) = ((plN pl (2 * j + 1) : Nat) : Int) := by have := T.X.pl0 (2 * j + 1); unfold plN; omega
 unfold evenL linOf spanOf
 dsimp only
 rw [e1, e2, f1, f2]
 have r1 := rho_cases i k (plN pl (2 * j))
 have r2 := rho_cases i k (plN pl (2 * j + 1))
 generalize plN pl (2 * j) = a at *
 generalize plN pl (2 * j + 1) = b at *
 generalize rho i k a = a' at *
 generalize rho i k b = b' at *
 rw [Int.tmod_eq_emod_of_nonneg (by omega), Int.tmod_eq_emod_of_nonneg (by omega)]
 refine decide_eq_decide.2 ?_
 clear e1 e2 f1 f2
 omega
theorem unt_bad {j : Nat} (hj : j < n + 1) (h : (nth g j).toNat = z) : badG pl' c' g' (n + 1) (nth g' j).toNat = badG pl c g (n + 1) z := by
 have hlab : ∀ a, a < n + 1 → ((nth g' a).toNat = (nth g' j).toNat ↔ (nth g a).toNat = z) := fun a ha => by
  have := unt_g T hz hj ha h
  have x1 := T.X.gin a
  have x2 := T.X.gin j
  have x3 := T.Y.gin a
  have x4 := T.Y.gin j
  rw [← h]
  constructor
  ·intro e
   have := this.1 (by omega)
   omega
  ·intro e
   have := this.2 (by omega)
   omega
 have e1 : twoG c' g' (n + 1) (nth g' j).toNat = twoG c g (n + 1) z := by
  unfold twoG
  rw [Bool.eq_iff_iff, List.any_eq_true, List.any_eq_true]
  refine exists_congr (fun a => and_congr_right (fun ha => ?_))
  rw [List.mem_range] at ha
  rw [Bool.and_eq_true, Bool.and_eq_true, decide_eq_true_eq, decide_eq_true_eq, hlab a ha, List.any_eq_true, List.any_eq_true]
  refine and_congr_right (fun hga => exists_congr (fun b => and_congr_right (fun hb => ?_)))
  rw [List.mem_range] at hb
  rw [decide_eq_true_eq, decide_eq_true_eq]
  have := unt_c T hz ha (show b < n + 1 by omega) hga
  exact ⟨fun e => (this.1 e.symm).symm, fun e => (this.2 e.symm).symm⟩
 have e2 : turnG pl' g' (n + 1) (nth g' j).toNat = turnG pl g (n + 1) z := by
  unfold turnG
  rw [Bool.eq_iff_iff, List.any_eq_true, List.any_eq_true]
  refine exists_congr (fun a => and_congr_right (fun ha => ?_))
  rw [List.mem_range] at ha
  rw [Bool.and_eq_true, Bool.and_eq_true, decide_eq_true_eq, decide_eq_true_eq, hlab a ha]
  refine and_congr_right (fun hga => ?_)
  rw [unt_even T hz ha hga]
 unfold badG
 rw [e1, e2]
theorem unt_lab {u v : Nat} (hu : u < 2 * (n + 1)) (hv : v < 2 * (n + 1)) (h : labP p g u = z) : labP p' g' (rho i k v) = labP p' g' (rho i k u) ↔ labP p g v = z := by
 have ru := T.pt (rho i k u) (rho_lt T.hik T.hk (by omega))
 have rv := T.pt (rho i k v) (rho_lt T.hik T.hk (by omega))
 rw [rho_rho T.hik] at ru rv
 have hpu := T.X.P.p_lt u (by omega)
 have hpv := T.X.P.p_lt v (by omega)
 have hgu : (nth g ((nth p u).toNat / 2)).toNat = z := h
 have hg := unt_g T hz (j := (nth p u).toNat / 2) (l := (nth p v).toNat / 2) (by omega) (by omega) hgu
 rw [lab_eq T.Y, ru, rv, hg, ← lab_eq T.X, h]
end
end Go.Proofs.Ytepjhdblmghckaa.G


namespace Go.Proofs.Ytepjhdblmghckaa.G
open Go.Proofs.Ytepjhdblmghckaa.Q Go.Proofs.Ytepjhdblmghckaa.K Go.Proofs.Ytepjhdblmghckaa.Bf
open Go.RowKit Go.Proofs.YtepjhdblmghckaaW.PrintWords Go.Proofs.YtepjhdblmghckaaW.PrintLast Go.Proofs.YtepjhdblmghckaaW.PrintMore
set_option linter.unusedVariables false
theorem between_turn {i k a b t s : Nat} (hik : i ≤ k) (h1 : a < t) (h2 : t < b) (h3 : s < a ∨ b < s)
  (hs : (2 * i + 1 < rho i k t ∧ rho i k t < 2 * k + 2 ∧ 2 * i + 1 < rho i k s ∧ rho i k s < 2 * k + 2) ∨ ((rho i k t < 2 * i ∨ 2 * k + 3 < rho i k t) ∧ (rho i k s < 2 * i ∨ 2 * k + 3 < rho i k s))) :
  (rho i k a < rho i k b ∧ ((rho i k a < rho i k t ∧ rho i k t < rho i k b ∧ (rho i k s < rho i k a ∨ rho i k b < rho i k s)) ∨ (rho i k a < rho i k s ∧ rho i k s < rho i k b ∧ (rho i k t < rho i k a ∨ rho i k b < rho i k t)))) ∨
  (rho i k b < rho i k a ∧ ((rho i k b < rho i k t ∧ rho i k t < rho i k a ∧ (rho i k s < rho i k b ∨ rho i k a < rho i k s)) ∨ (rho i k b < rho i k s ∧ rho i k s < rho i k a ∧ (rho i k t < rho i k b ∨ rho i k a < rho i k t)))) := by
 have ea := rho_cases i k a
 have eb := rho_cases i k b
 have et := rho_cases i k t
 have es := rho_cases i k s
 generalize rho i k a = a' at *
 generalize rho i k b = b' at *
 generalize rho i k t = t' at *
 generalize rho i k s = s' at *
 rcases hs with hs | hs
 ·have et' : t' = 2 * i + 2 * k + 3 - t ∧ 2 * i + 1 ≤ t ∧ t ≤ 2 * k + 2 := by omega
  have es' : s' = 2 * i + 2 * k + 3 - s ∧ 2 * i + 1 ≤ s ∧ s ≤ 2 * k + 2 := by omega
  clear et es
  rcases ea with ea | ea <;> rcases eb with eb | eb <;> omega
 ·have et' : t' = t ∧ (t < 2 * i + 1 ∨ 2 * k + 2 < t) := by omega
  have es' : s' = s ∧ (s < 2 * i + 1 ∨ 2 * k + 2 < s) := by omega
  clear et es
  rcases ea with ea | ea <;> rcases eb with eb | eb <;> omega
theorem pt_turn {n i k z z' a b : Nat} {lab lab' : Nat → Nat} (hik : i ≤ k) (hk : k < n) (ha : a < 2 * (n + 1)) (hb : b < 2 * (n + 1)) (hside : (∀ q, q < 2 * (n + 1) → lab q = z → 2 * i + 1 < q ∧ q < 2 * k + 2) ∨ (∀ q, q < 2 * (n + 1) → lab q = z → q < 2 * i ∨ 2 * k + 3 < q)) (hl : ∀ t, t < 2 * (n + 1) → lab' t = z' → lab (rho i k t) = z)
  (h : Pt (2 * (n + 1)) lab' z' a b) : ¬ Smg (2 * (n + 1)) lab z (rho i k a) (rho i k b) := by
 obtain ⟨⟨t, t1, t2, t3⟩, s, s1, s2, s3⟩ := h
 have lt := hl t (by omega) t3
 have ls := hl s s1 s3
 have rt : rho i k t < 2 * (n + 1) := by have := rho_lt (n := n) hik hk (show t < 2 * n + 2 by omega); omega
 have rs : rho i k s < 2 * (n + 1) := by have := rho_lt (n := n) hik hk (show s < 2 * n + 2 by omega); omega
 have hs : (2 * i + 1 < rho i k t ∧ rho i k t < 2 * k + 2 ∧ 2 * i + 1 < rho i k s ∧ rho i k s < 2 * k + 2) ∨ ((rho i k t < 2 * i ∨ 2 * k + 3 < rho i k t) ∧ (rho i k s < 2 * i ∨ 2 * k + 3 < rho i k s)) := by
  rcases hside with hh | hh
  ·have a1 := hh _ rt lt
   have a2 := hh _ rs ls
   exact .inl ⟨a1.1, a1.2, a2.1, a2.2⟩
  ·exact .inr ⟨hh _ rt lt, hh _ rs ls⟩
 rcases between_turn hik t1 t2 s2 hs with ⟨o, ⟨c1, c2, c3⟩ | ⟨c1, c2, c3⟩⟩ | ⟨o, ⟨c1, c2, c3⟩ | ⟨c1, c2, c3⟩⟩
 ·exact fun h => h.1 ⟨⟨_, c1, c2, lt⟩, _, rs, c3, ls⟩
 ·exact fun h => h.1 ⟨⟨_, c1, c2, ls⟩, _, rt, c3, lt⟩
 ·exact fun h => h.2 ⟨⟨_, c1, c2, lt⟩, _, rs, c3, ls⟩
 ·exact fun h => h.2 ⟨⟨_, c1, c2, ls⟩, _, rt, c3, lt⟩
open Classical in
noncomputable def costS (M : Nat) (lab : Nat → Nat) (S : Nat → Prop) : Nat := (reps M lab S).length + if Fo M lab S then 1 else 0
section
variable {n i k : Nat} {p pl c g p' pl' c' g' : List Int} (T : Trn n i k p pl c g p' pl' c' g')
include T
theorem cov_unt {one : List Nat} {two : List (Nat × Nat)} (h1 : ∀ u, u ∈ one → u < 2 * (n + 1)) (h2 : ∀ e, e ∈ two → e.1 < 2 * (n + 1) ∧ e.2 < 2 * (n + 1)) (hc : ∀ y, y < 2 * (n + 1) → badG pl' c' g' (n + 1) (labP p' g' y) = true → Cov (2 * (n + 1)) (labP p' g') one two (labP p' g' y))
  {v : Nat} (hv : v < 2 * (n + 1)) (hz : Unt n i k p g (labP p g v)) (hS : badG pl c g (n + 1) (labP p g v) = true) :
  (∃ u, u ∈ one ∧ labP p g (rho i k u) = labP p g v) ∨ ∃ e, e ∈ two ∧ (labP p g (rho i k e.1) = labP p g v ∨ labP p g (rho i k e.2) = labP p g v ∨ ¬ Smg (2 * (n + 1)) (labP p g) (labP p g v) (rho i k e.1) (rho i k e.2)) := by
 have hrl : ∀ u, u < 2 * (n + 1) → rho i k u < 2 * (n + 1) := fun u hu => by have := rho_lt T.hik T.hk (show u < 2 * n + 2 by omega); omega
 have hrv := T.pt (rho i k v) (rho_lt T.hik T.hk (by omega))
 rw [rho_rho T.hik] at hrv
 have hpv := T.X.P.p_lt v (by omega)
 have hbad := unt_bad T hz (j := (nth p v).toNat / 2) (by omega) rfl
 have hlv : labP p' g' (rho i k v) = (nth g' ((nth p v).toNat / 2)).toNat := by unfold labP; rw [hrv]
 have hiff : ∀ u, u < 2 * (n + 1) → (labP p' g' u = labP p' g' (rho i k v) ↔ labP p g (rho i k u) = labP p g v) := fun u hu => by
  have := unt_lab T hz hv (hrl u hu) rfl
  rw [rho_rho T.hik] at this
  exact this
 rcases hc (rho i k v) (hrl v hv) (by rw [hlv, hbad]; exact hS) with ⟨u, hu, e⟩ | ⟨e, he, h⟩
 ·exact .inl ⟨u, hu, (hiff u (h1 u hu)).1 e⟩
 ·refine .inr ⟨e, he, ?_⟩
  obtain ⟨e1, e2⟩ := h2 e he
  rcases h with h | h | h
  ·exact .inl ((hiff _ e1).1 h)
  ·exact .inr (.inl ((hiff _ e2).1 h))
  ·refine .inr (.inr ?_)
   rcases not_sm h with h | h
   ·exact pt_turn T.hik T.hk e1 e2 (T.side hz) (fun t ht e => (hiff t ht).1 e) h
   ·exact fun s => pt_turn T.hik T.hk e2 e1 (T.side hz) (fun t ht e => (hiff t ht).1 e) h s.symm
theorem cost_turn (x1 : List Nat) (x2 : List (Nat × Nat)) (hx1 : ∀ u, u ∈ x1 → u < 2 * (n + 1)) (hx2 : ∀ e, e ∈ x2 → e.1 < 2 * (n + 1) ∧ e.2 < 2 * (n + 1)) (hx : ∀ v, v < 2 * (n + 1) → badG pl c g (n + 1) (labP p g v) = true → Unt n i k p g (labP p g v) ∨ Cov (2 * (n + 1)) (labP p g) x1 x2 (labP p g v)) :
  costS (2 * (n + 1)) (labP p g) (fun z => badG pl c g (n + 1) z = true) ≤ costS (2 * (n + 1)) (labP p' g') (fun z => badG pl' c' g' (n + 1) z = true) + x1.length + 2 * x2.length := by
 have L := lam_ok T.hn T.X
 have L' := lam_ok T.hn T.Y
 have hrl : ∀ u, u < 2 * (n + 1) → rho i k u < 2 * (n + 1) := fun u hu => by have := rho_lt T.hik T.hk (show u < 2 * n + 2 by omega); omega
 obtain ⟨one, two, h1, h2, hc, hcost⟩ := cov_up (S := fun z => badG pl' c' g' (n + 1) z = true) L'
 have hlow := cov_low (S := fun z => badG pl c g (n + 1) z = true) L (one.map (rho i k) ++ x1) (two.map (fun e => (rho i k e.1, rho i k e.2)) ++ x2) (fun u hu => by
  rcases List.mem_append.1 hu with hu | hu
  ·obtain ⟨u', hu', rfl⟩ := List.mem_map.1 hu
   exact hrl _ (h1 u' hu')
  ·exact hx1 u hu) (fun e he => by
  rcases List.mem_append.1 he with he | he
  ·obtain ⟨e', he', rfl⟩ := List.mem_map.1 he
   exact ⟨hrl _ (h2 e' he').1, hrl _ (h2 e' he').2⟩
  ·exact hx2 e he) (fun v hv hS => by
  rcases hx v hv hS with hz | hcv
  ·rcases cov_unt T h1 h2 hc hv hz hS with ⟨u, hu, e⟩ | ⟨e, he, h⟩
   ·exact .inl ⟨_, List.mem_append_left _ (List.mem_map.2 ⟨u, hu, rfl⟩), e⟩
   ·exact .inr ⟨_, List.mem_append_left _ (List.mem_map.2 ⟨e, he, rfl⟩), h⟩
  ·rcases hcv with ⟨u, hu, e⟩ | ⟨e, he, h⟩
   ·exact .inl ⟨u, List.mem_append_right _ hu, e⟩
   ·exact .inr ⟨e, List.mem_append_right _ he, h⟩)
 rw [List.length_append, List.length_append, List.length_map, List.length_map] at hlow
 unfold costS
 omega
theorem cost_two : costS (2 * (n + 1)) (labP p g) (fun z => badG pl c g (n + 1) z = true) ≤ costS (2 * (n + 1)) (labP p' g') (fun z => badG pl' c' g' (n + 1) z = true) + 2 := by
 have hik := T.hik
 have hk := T.hk
 have := cost_turn T [] [(2 * i + 1, 2 * k + 2)] (fun u hu => by cases hu) (fun e he => by rw [List.mem_singleton] at he; rw [he]; exact ⟨by omega, by omega⟩) (fun v hv hS => by
  by_cases h1 : labP p g v = labP p g (2 * i + 1)
  ·exact .inr (.inr ⟨_, List.mem_singleton.2 rfl, .inl h1.symm⟩)
  ·by_cases h2 : labP p g v = labP p g (2 * k + 2)
   ·exact .inr (.inr ⟨_, List.mem_singleton.2 rfl, .inr (.inl h2.symm)⟩)
   ·by_cases h3 : Smg (2 * (n + 1)) (labP p g) (labP p g v) (2 * i + 1) (2 * k + 2)
    ·exact .inl ⟨h1, h2, h3⟩
    ·exact .inr (.inr ⟨_, List.mem_singleton.2 rfl, .inr (.inr h3)⟩))
 simpa using this
theorem cost_one (hK : labP p g (2 * i + 1) = labP p g (2 * k + 2)) : costS (2 * (n + 1)) (labP p g) (fun z => badG pl c g (n + 1) z = true) ≤ costS (2 * (n + 1)) (labP p' g') (fun z => badG pl' c' g' (n + 1) z = true) + 1 := by
 have hik := T.hik
 have hk := T.hk
 have := cost_turn T [2 * i + 1] [] (fun u hu => by rw [List.mem_singleton] at hu; omega) (fun e he => by cases he) (fun v hv hS => by
  by_cases h1 : labP p g v = labP p g (2 * i + 1)
  ·exact .inr (.inl ⟨_, List.mem_singleton.2 rfl, h1.symm⟩)
  ·exact .inl ⟨h1, by rw [← hK]; exact h1, lam_one (lam_ok T.hn T.X) (by omega) (by omega) hK (fun e => h1 e.symm)⟩)
 simpa using this
theorem cost_none (hK : labP p g (2 * i + 1) = labP p g (2 * k + 2)) (hg : ¬ badG pl c g (n + 1) (labP p g (2 * i + 1)) = true) : costS (2 * (n + 1)) (labP p g) (fun z => badG pl c g (n + 1) z = true) ≤ costS (2 * (n + 1)) (labP p' g') (fun z => badG pl' c' g' (n + 1) z = true) := by
 have hik := T.hik
 have hk := T.hk
 have := cost_turn T [] [] (fun u hu => by cases hu) (fun e he => by cases he) (fun v hv hS => by
  have h1 : labP p g v ≠ labP p g (2 * i + 1) := fun e => hg (by rw [← e]; exact hS)
  exact .inl ⟨h1, by rw [← hK]; exact h1, lam_one (lam_ok T.hn T.X) (by omega) (by omega) hK (fun e => h1 e.symm)⟩)
 simpa using this
end
end Go.Proofs.Ytepjhdblmghckaa.G


namespace Go.Proofs.Ytepjhdblmghckaa.G
open Go.Proofs.Ytepjhdblmghckaa.Q Go.Proofs.Ytepjhdblmghckaa.K Go.Proofs.Ytepjhdblmghckaa.Bf
open Go.RowKit Go.Proofs.YtepjhdblmghckaaW.PrintWords Go.Proofs.YtepjhdblmghckaaW.PrintLast Go.Proofs.YtepjhdblmghckaaW.PrintMore
set_option linter.unusedVariables false
def nC (c : List Int) (m : Nat) : Nat := (List.range m).countP (firstIn c)
theorem nC_len (c : List Int) (m : Nat) : (clsTo c m).length = nC c m := by unfold clsTo nC; rw [List.length_map, List.countP_eq_length_filter]
theorem countP_le_of {p q : Nat → Bool} : ∀ {L : List Nat}, (∀ x, x ∈ L → p x = true → q x = true) → L.countP p ≤ L.countP q
 | [], _ => Nat.le_refl _
 | z :: L, h => by
  have := countP_le_of (L := L) (fun x hx => h x (List.mem_cons_of_mem _ hx))
  rw [List.countP_cons, List.countP_cons]
  by_cases hz : p z = true
  ·rw [if_pos hz, if_pos (h z (List.mem_cons_self ..) hz)]; omega
  ·rw [if_neg hz]; split <;> omega
theorem countP_le_one {p q : Nat → Bool} : ∀ {L : List Nat}, L.Nodup → (∀ x y, x ∈ L → y ∈ L → p x = true → q x = false → p y = true → q y = false → x = y) → L.countP p ≤ L.countP q + 1
 | [], _, _ => by simp
 | z :: L, hnd, h => by
  rw [List.nodup_cons] at hnd
  rw [List.countP_cons, List.countP_cons]
  by_cases hz : p z = true ∧ q z = false
  ·have := countP_le_of (p := p) (q := q) (L := L) (fun x hx hp => by
    cases hq : q x with
    | true => rfl
    | false => exact absurd (by rw [← h x z (List.mem_cons_of_mem _ hx) (List.mem_cons_self ..) hp hq hz.1 hz.2]; exact hx) hnd.1)
   rw [if_pos hz.1]; split <;> omega
  ·have := countP_le_one hnd.2 (fun x y hx hy => h x y (List.mem_cons_of_mem _ hx) (List.mem_cons_of_mem _ hy))
   by_cases hp : p z = true
   ·have hq : q z = true := by cases hq : q z with
     | true => rfl
     | false => exact absurd ⟨hp, hq⟩ hz
    rw [if_pos hp, if_pos hq]; omega
   ·rw [if_neg hp]; split <;> omega
theorem nC_fine {c c' : List Int} {m : Nat} (h : ∀ j l, j < m → l < m → nth c j = nth c l → nth c' j = nth c' l) : nC c' m ≤ nC c m := by
 unfold nC
 refine countP_le_of (fun t ht hf => ?_)
 rw [List.mem_range] at ht
 rw [firstIn_iff] at hf ⊢
 exact fun j hj e => hf j hj (h j t (by omega) ht e)
theorem nC_less {c c' : List Int} {m : Nat} (h : ∀ j l, j < m → l < m → nth c j = nth c l → nth c' j = nth c' l) {u v : Nat} (hu : u < m) (hv : v < m) (h1 : nth c u ≠ nth c v) (h2 : nth c' u = nth c' v) : nC c' m + 1 ≤ nC c m := by
 have first : ∀ u, u < m → ∃ u0, u0 < m ∧ nth c u0 = nth c u ∧ firstIn c u0 = true := fun u hu => by
  obtain ⟨u0, e, hf⟩ := least_of (fun t => nth c t = nth c u) ⟨u, rfl⟩
  have hle : u0 ≤ u := Nat.le_of_not_lt (fun hlt => hf u hlt rfl)
  exact ⟨u0, by omega, e, (firstIn_iff c u0).2 (fun j hj e2 => hf j hj (by rw [e2, e]))⟩
 obtain ⟨u0, hu0, eu, fu⟩ := first u hu
 obtain ⟨v0, hv0, ev, fv⟩ := first v hv
 have hne : u0 ≠ v0 := fun e => h1 (by rw [← eu, ← ev, e])
 have hsame : nth c' u0 = nth c' v0 := by rw [h u0 u hu0 hu eu, h v0 v hv0 hv ev, h2]
 unfold nC
 refine countP_ltx (fun t ht hf => ?_) ?_
 ·rw [List.mem_range] at ht
  rw [firstIn_iff] at hf ⊢
  exact fun j hj e => hf j hj (h j t (by omega) ht e)
 ·rcases Nat.lt_or_gt_of_ne hne with hlt | hlt
  ·exact ⟨v0, List.mem_range.2 hv0, fv, Bool.eq_false_iff.2 (fun hf => (firstIn_iff c' v0).1 hf u0 hlt hsame)⟩
  ·exact ⟨u0, List.mem_range.2 hu0, fu, Bool.eq_false_iff.2 (fun hf => (firstIn_iff c' u0).1 hf v0 hlt hsame.symm)⟩
section
variable {n i k : Nat} {p pl c g p' pl' c' g' : List Int} (T : Trn n i k p pl c g p' pl' c' g')
def qa (p : List Int) (i : Nat) : Nat := (nth p (2 * i)).toNat
def qb (p : List Int) (i : Nat) : Nat := (nth p (2 * i + 1)).toNat
def qd (p : List Int) (k : Nat) : Nat := (nth p (2 * k + 2)).toNat
def qe (p : List Int) (k : Nat) : Nat := (nth p (2 * k + 3)).toNat
include T
theorem cut_lt : qa p i < 2 * n + 2 ∧ qb p i < 2 * n + 2 ∧ qd p k < 2 * n + 2 ∧ qe p k < 2 * n + 2 := by
 have hik := T.hik
 have hk := T.hk
 exact ⟨T.X.P.p_lt _ (by omega), T.X.P.p_lt _ (by omega), T.X.P.p_lt _ (by omega), T.X.P.p_lt _ (by omega)⟩
theorem cut_pl : plN pl (qa p i) = 2 * i ∧ plN pl (qb p i) = 2 * i + 1 ∧ plN pl (qd p k) = 2 * k + 2 ∧ plN pl (qe p k) = 2 * k + 3 := by
 have hik := T.hik
 have hk := T.hk
 exact ⟨T.X.P.lp _ (by omega), T.X.P.lp _ (by omega), T.X.P.lp _ (by omega), T.X.P.lp _ (by omega)⟩
theorem cut_beta : beta p pl (qa p i) = qb p i ∧ beta p pl (qb p i) = qa p i ∧ beta p pl (qd p k) = qe p k ∧ beta p pl (qe p k) = qd p k := by
 have hik := T.hik
 have hk := T.hk
 have h1 := beta_even T.hn T.X.P (j := i) (by omega)
 have h2 := beta_even T.hn T.X.P (j := k + 1) (by omega)
 exact ⟨h1.1, h1.2, h2.1, h2.2⟩
theorem cut_beta' : beta p' pl' (qa p i) = qd p k ∧ beta p' pl' (qb p i) = qe p k := by
 have hik := T.hik
 have hk := T.hk
 have h1 := (beta_even T.hn T.Y.P (j := i) (by omega)).1
 have h2 := (beta_even T.hn T.Y.P (j := k + 1) (by omega)).1
 rw [T.pt _ (by omega), T.pt _ (by omega)] at h1 h2
 have e1 : rho i k (2 * i) = 2 * i := by unfold rho; rw [if_neg (by omega)]
 have e2 : rho i k (2 * i + 1) = 2 * k + 2 := by unfold rho; rw [if_pos (by omega)]; omega
 have e3 : rho i k (2 * (k + 1)) = 2 * i + 1 := by unfold rho; rw [if_pos (by omega)]; omega
 have e4 : rho i k (2 * (k + 1) + 1) = 2 * k + 3 := by unfold rho; rw [if_neg (by omega)]; omega
 rw [e1, e2] at h1
 rw [e3, e4] at h2
 exact ⟨h1, h2⟩
theorem cut_c' : nth c' (qa p i / 2) = nth c' (qd p k / 2) ∧ nth c' (qb p i / 2) = nth c' (qe p k / 2) := by
 obtain ⟨a, b, _, _⟩ := cut_lt T
 obtain ⟨h1, h2⟩ := cut_beta' T
 have e1 := T.Y.B.same _ a
 have e2 := T.Y.B.same _ b
 rw [h1] at e1
 rw [h2] at e2
 exact ⟨e1.symm, e2.symm⟩
theorem cut_other {x : Nat} (hx : x < 2 * n + 2) (h1 : x ≠ qa p i) (h2 : x ≠ qb p i) (h3 : x ≠ qd p k) (h4 : x ≠ qe p k) : beta p' pl' x = beta p pl x := by
 obtain ⟨a, b, d, e⟩ := cut_lt T
 obtain ⟨pa, pb, pd, pe⟩ := cut_pl T
 exact T.beta_same hx (fun h => h1 (pl_inj T.X hx a (by rw [pa]; exact h))) (fun h => h2 (pl_inj T.X hx b (by rw [pb]; exact h))) (fun h => h3 (pl_inj T.X hx d (by rw [pd]; exact h))) (fun h => h4 (pl_inj T.X hx e (by rw [pe]; exact h)))
theorem c_coarse {j l : Nat} (hj : j < n + 1) (hl : l < n + 1) (h : nth c j = nth c l) : nth c' j = nth c' l ∨ ((nth c' j = nth c' (qa p i / 2) ∨ nth c' j = nth c' (qb p i / 2)) ∧ (nth c' l = nth c' (qa p i / 2) ∨ nth c' l = nth c' (qb p i / 2))) := by
 obtain ⟨b1, b2, b3, b4⟩ := cut_beta T
 obtain ⟨e1, e2⟩ := cut_c' T
 refine T.X.B.least (fun t => nth c' j = nth c' t ∨ ((nth c' j = nth c' (qa p i / 2) ∨ nth c' j = nth c' (qb p i / 2)) ∧ (nth c' t = nth c' (qa p i / 2) ∨ nth c' t = nth c' (qb p i / 2)))) (fun x hx hS => ?_) j l (by rw [T.X.B.len]; exact hj) (by rw [T.X.B.len]; exact hl) h (.inl rfl)
 by_cases xa : x = qa p i
 ·rw [xa, b1]
  rw [xa] at hS
  rcases hS with h | ⟨h, _⟩
  ·exact .inr ⟨.inl h, .inr rfl⟩
  ·exact .inr ⟨h, .inr rfl⟩
 ·by_cases xb : x = qb p i
  ·rw [xb, b2]
   rw [xb] at hS
   rcases hS with h | ⟨h, _⟩
   ·exact .inr ⟨.inr h, .inl rfl⟩
   ·exact .inr ⟨h, .inl rfl⟩
  ·by_cases xd : x = qd p k
   ·rw [xd, b3]
    rw [xd, ← e1] at hS
    rcases hS with h | ⟨h, _⟩
    ·exact .inr ⟨.inl h, .inr e2.symm⟩
    ·exact .inr ⟨h, .inr e2.symm⟩
   ·by_cases xe : x = qe p k
    ·rw [xe, b4]
     rw [xe, ← e2] at hS
     rcases hS with h | ⟨h, _⟩
     ·exact .inr ⟨.inr h, .inl e1.symm⟩
     ·exact .inr ⟨h, .inl e1.symm⟩
    ·have := T.Y.B.same x hx
     rw [cut_other T hx xa xb xd xe] at this
     rw [this]
     exact hS
theorem nC_more : nC c' (n + 1) ≤ nC c (n + 1) + 1 := by
 unfold nC
 refine countP_le_one List.nodup_range (fun x y hx hy px qx py qy => ?_)
 rw [List.mem_range] at hx hy
 have two : ∀ t, t < n + 1 → firstIn c' t = true → firstIn c t = false → ∃ j, j < t ∧ nth c' j ≠ nth c' t ∧ (nth c' j = nth c' (qa p i / 2) ∨ nth c' j = nth c' (qb p i / 2)) ∧ (nth c' t = nth c' (qa p i / 2) ∨ nth c' t = nth c' (qb p i / 2)) := fun t ht hp hq => by
  have : ∃ j, j < t ∧ nth c j = nth c t := Classical.byContradiction (fun hn => by
   have : firstIn c t = true := (firstIn_iff c t).2 (fun j hj e => hn ⟨j, hj, e⟩)
   rw [this] at hq; cases hq)
  obtain ⟨j, hj, e⟩ := this
  have hne := (firstIn_iff c' t).1 hp j hj
  rcases c_coarse T (show j < n + 1 by omega) ht e with h | h
  ·exact absurd h hne
  ·exact ⟨j, hj, hne, h⟩
 obtain ⟨j1, l1, n1, o1, q1⟩ := two x hx px qx
 obtain ⟨j2, l2, n2, o2, q2⟩ := two y hy py qy
 have fx := (firstIn_iff c' x).1 px
 have fy := (firstIn_iff c' y).1 py
 rcases Nat.lt_trichotomy x y with h | h | h
 ·exfalso
  have hxy := fy x h
  have hjy := fy j1 (by omega)
  generalize nth c' (qa p i / 2) = α at *
  generalize nth c' (qb p i / 2) = β at *
  rcases o1 with o1 | o1 <;> rcases q1 with q1 | q1 <;> rcases q2 with q2 | q2 <;> simp_all
 ·exact h
 ·exfalso
  have hxy := fx y h
  have hjy := fx j2 (by omega)
  generalize nth c' (qa p i / 2) = α at *
  generalize nth c' (qb p i / 2) = β at *
  rcases o2 with u1 | u1 <;> rcases q2 with u2 | u2 <;> rcases q1 with u3 | u3 <;> simp_all
theorem cut_path : ∃ t, (it p pl (qb p i) t ^^^ 1 = qa p i ∨ it p pl (qb p i) t ^^^ 1 = qd p k ∨ it p pl (qb p i) t ^^^ 1 = qe p k) ∧ nth c' (qb p i / 2) = nth c' (it p pl (qb p i) t / 2) := by
 obtain ⟨a, b, d, e⟩ := cut_lt T
 obtain ⟨b1, b2, b3, b4⟩ := cut_beta T
 have hlt := it_lt T.hn T.X.P b
 obtain ⟨K, seen', _, _, _, _, hfr, hit⟩ := fol_run T.hn T.X.P (fun _ => False) b (unseen (List.replicate (n + 1) false) + 1) 0 (List.replicate (n + 1) false) (by simp) (fun j hj => by
  rw [List.getD_eq_getElem?_getD, List.getElem?_replicate, if_pos hj]
  constructor
  ·intro h; cases h
  ·rintro (h | ⟨t, ht, _⟩)
   ·exact h.elim
   ·omega) (fun t ht => absurd ht (by omega)) (by omega)
 obtain ⟨hK, hring⟩ := fol_ring T.hn T.X.P (S0 := fun _ => False) (fun x hx h => h.elim) b (fun h => h) hfr hit
 have hlast : it p pl (qb p i) (K - 1) ^^^ 1 = qa p i := by
  have h1 : it p pl (qb p i) (K - 1 + 1) = beta p pl (it p pl (qb p i) (K - 1) ^^^ 1) := rfl
  rw [show K - 1 + 1 = K by omega, hring] at h1
  have h2 := beta_inv T.hn T.X.P (x1_lt T.hn (hlt (K - 1))).1
  rw [← h1, b2] at h2
  exact h2.symm
 obtain ⟨t, ht, hmin⟩ := least_of (fun t => it p pl (qb p i) t ^^^ 1 = qa p i ∨ it p pl (qb p i) t ^^^ 1 = qd p k ∨ it p pl (qb p i) t ^^^ 1 = qe p k) ⟨K - 1, .inl hlast⟩
 have htK : t ≤ K - 1 := Nat.le_of_not_lt (fun h => hmin (K - 1) h (.inl hlast))
 refine ⟨t, ht, ?_⟩
 have key : ∀ s, s ≤ t → nth c' (qb p i / 2) = nth c' (it p pl (qb p i) s / 2) := by
  intro s
  induction s with
  | zero => intro _; rfl
  | succ s ih =>
   intro hs
   rw [ih (by omega)]
   have hx := x1_lt T.hn (hlt s)
   have hm := hmin s (by omega)
   have hnb : it p pl (qb p i) s ^^^ 1 ≠ qb p i := fun h => by
    have h2 : it p pl (qb p i) s / 2 = it p pl (qb p i) 0 / 2 := by rw [← hx.2.2.1, h]; rfl
    by_cases hs0 : s = 0
    ·subst hs0
     exact hx.2.2.2 h
    ·exact (hfr s (by omega)).2 0 (by omega) h2.symm
   have hb := cut_other T hx.1 (fun h => hm (.inl h)) hnb (fun h => hm (.inr (.inl h))) (fun h => hm (.inr (.inr h)))
   have hsm := T.Y.B.same _ hx.1
   rw [hb, hx.2.2.1] at hsm
   exact hsm.symm
 exact key t (Nat.le_refl _)
theorem it_c (t : Nat) : nth c (it p pl (qb p i) t / 2) = nth c (qb p i / 2) := by
 have hlt := it_lt T.hn T.X.P (cut_lt T).2.1
 induction t with
 | zero => rfl
 | succ t ih =>
  have hx := x1_lt T.hn (hlt t)
  show nth c (beta p pl (it p pl (qb p i) t ^^^ 1) / 2) = _
  rw [T.X.B.same _ hx.1, hx.2.2.1, ih]
theorem c_fine (h : nth c' (qa p i / 2) = nth c' (qb p i / 2)) {j l : Nat} (hj : j < n + 1) (hl : l < n + 1) (e : nth c j = nth c l) : nth c' j = nth c' l := by
 rcases c_coarse T hj hl e with h1 | ⟨h1, h2⟩
 ·exact h1
 ·rw [← h] at h1 h2
  rw [h1.elim id id, h2.elim id id]
theorem nC_two (h : nth c (qb p i / 2) ≠ nth c (qd p k / 2)) : nC c' (n + 1) + 1 ≤ nC c (n + 1) := by
 obtain ⟨a, b, d, e⟩ := cut_lt T
 obtain ⟨b1, b2, b3, b4⟩ := cut_beta T
 obtain ⟨e1, e2⟩ := cut_c' T
 obtain ⟨t, ht, hc⟩ := cut_path T
 have hx := x1_lt T.hn (it_lt T.hn T.X.P b t)
 have hct := it_c T t
 have hde : nth c (qe p k / 2) = nth c (qd p k / 2) := by have := T.X.B.same _ d; rw [b3] at this; exact this
 have ha : it p pl (qb p i) t ^^^ 1 = qa p i := by
  rcases ht with ht | ht | ht
  ·exact ht
  ·exact absurd (by rw [← hct, ← hx.2.2.1, ht]) h
  ·exact absurd (by rw [← hct, ← hx.2.2.1, ht, hde]) h
 have hab : nth c' (qa p i / 2) = nth c' (qb p i / 2) := by rw [hc, ← ha, hx.2.2.1]
 exact nC_less (fun j l hj hl e => c_fine T hab hj hl e) (show qb p i / 2 < n + 1 by omega) (show qd p k / 2 < n + 1 by omega) h (by rw [← hab, e1])
theorem nC_one (hev : ∀ j, j < n + 1 → nth g j = nth g (qb p i / 2) → evenL pl j = false) : nC c' (n + 1) ≤ nC c (n + 1) := by
 obtain ⟨a, b, d, e⟩ := cut_lt T
 obtain ⟨pa, pb, pd, pe⟩ := cut_pl T
 obtain ⟨b1, b2, b3, b4⟩ := cut_beta T
 obtain ⟨e1, e2⟩ := cut_c' T
 obtain ⟨t, ht, hc⟩ := cut_path T
 have hlt := it_lt T.hn T.X.P b
 have hx := x1_lt T.hn (hlt t)
 have hgt : ∀ s, nth g (it p pl (qb p i) s / 2) = nth g (qb p i / 2) := fun s => c_g T.X (by have := hlt s; omega) (by omega) (it_c T s)
 have ends : ∀ x, x < 2 * n + 2 → evenL pl (x / 2) = false → plN pl (x ^^^ 1) % 2 ≠ plN pl x % 2 := fun x hx he h => by
  unfold evenL linOf spanOf at he
  dsimp only at he
  have f1 : nth pl (2 * (x / 2)) = ((plN pl (2 * (x / 2)) : Nat) : Int) := by have := T.X.pl0 (2 * (x / 2)); unfold plN; omega
  have f2 : nth pl (2 * (x / 2) + 1) = ((plN pl (2 * (x / 2) + 1) : Nat) : Int) := by have := T.X.pl0 (2 * (x / 2) + 1); unfold plN; omega
  rw [f1, f2, Int.tmod_eq_emod_of_nonneg (by omega), decide_eq_false_iff_not] at he
  have hn := T.hn
  have h1 := x1 x (by omega)
  by_cases ev : x % 2 = 0
  ·rw [if_pos ev] at h1
   rw [h1] at h
   rw [show 2 * (x / 2) = x by omega] at he
   omega
  ·rw [if_neg ev] at h1
   rw [h1] at h
   rw [show 2 * (x / 2) + 1 = x by omega, show 2 * (x / 2) = x - 1 by omega] at he
   omega
 have odd : ∀ s, plN pl (it p pl (qb p i) s) % 2 = 1 := by
  intro s
  induction s with
  | zero => show plN pl (qb p i) % 2 = 1; rw [pb]; omega
  | succ s ih =>
   have hxs := x1_lt T.hn (hlt s)
   have he := ends _ (hlt s) (hev _ (by have := hlt s; omega) (hgt s))
   have hp := pl_beta T.hn T.X hxs.1
   have hq := x1_or (q := plN pl (it p pl (qb p i) s ^^^ 1)) (by have := pl_lt T.X hxs.1; have := T.hn; omega)
   show plN pl (beta p pl (it p pl (qb p i) s ^^^ 1)) % 2 = 1
   rw [hp]
   omega
 have hne : it p pl (qb p i) t ^^^ 1 ≠ qe p k := fun h => by
  have he := ends _ (hlt t) (hev _ (by have := hlt t; omega) (hgt t))
  have ho := odd t
  rw [h, pe] at he
  omega
 have hab : nth c' (qa p i / 2) = nth c' (qb p i / 2) := by
  rcases ht with ht | ht | ht
  ·rw [hc, ← ht, hx.2.2.1]
  ·rw [hc, e1, ← ht, hx.2.2.1]
  ·exact absurd ht hne
 exact nC_fine (fun j l hj hl e => c_fine T hab hj hl e)
end
end Go.Proofs.Ytepjhdblmghckaa.G


namespace Go.Proofs.Ytepjhdblmghckaa.G
open Go.Proofs.Ytepjhdblmghckaa.Q Go.Proofs.Ytepjhdblmghckaa.K Go.Proofs.Ytepjhdblmghckaa.Bf
open Go.RowKit Go.Proofs.YtepjhdblmghckaaW.PrintWords Go.Proofs.YtepjhdblmghckaaW.PrintLast Go.Proofs.YtepjhdblmghckaaW.PrintMore
set_option linter.unusedVariables false
theorem dis_cost {s : List Int} {n : Nat} (hn : n ≤ 40) (hs : Stk true n s) : disD s = (n : Int) + 1 - ((nC (rndL s) (n + 1) : Nat) : Int) + ((costS (2 * (n + 1)) (labP (picL s) (grpL s)) (fun z => badG (plL s) (rndL s) (grpL s) (n + 1) z = true) : Nat) : Int) := by
 have hl := hs.len
 obtain ⟨h1, h2⟩ := cost_doc hn hs
 have e1 : labS s = labP (picL s) (grpL s) := rfl
 have e2 : badS s = (fun z => badG (plL s) (rndL s) (grpL s) (n + 1) z = true) := by unfold badS badD; rw [hl]
 rw [e1, e2] at h1 h2
 unfold disD costS
 rw [h1, nC_len, hl]
 by_cases hF : Fo (2 * (n + 1)) (labP (picL s) (grpL s)) (fun z => badG (plL s) (rndL s) (grpL s) (n + 1) z = true)
 ·rw [if_pos (h2.2 hF), if_pos hF]; omega
 ·rw [if_neg (fun h => hF (h2.1 h)), if_neg hF]; omega
theorem circ_len {s : List Int} {n : Nat} (hn : n ≤ 40) (hs : Stk true n s) : (circL s).length = nC (rndL s) (n + 1) := by
 rw [circL_cls hn hs, nC_len]
theorem dis_step {x : List Int} {n i k : Nat} (hn : n ≤ 40) (hx : Stk true n x) (hik : i ≤ k) (hk : k < n) : disD x ≤ disD (flL true x i k) + 1 ∧ (circL (flL true x i k)).length ≤ (circL x).length + 1 := by
 have T := trn_ok hn hx hik hk
 have hy := stk_flL hx (fun h => h) i k hik hk
 refine ⟨?_, by rw [circ_len hn hx, circ_len hn hy]; exact nC_more T⟩
 rw [dis_cost hn hx, dis_cost hn hy]
 have hb := (cut_lt T).2.1
 have hd := (cut_lt T).2.2.1
 have la : labP (picL x) (grpL x) (2 * i + 1) = (nth (grpL x) (qb (picL x) i / 2)).toNat := rfl
 have lb : labP (picL x) (grpL x) (2 * k + 2) = (nth (grpL x) (qd (picL x) k / 2)).toNat := rfl
 have h2 := cost_two T
 have hm := nC_more T
 by_cases h : nth (rndL x) (qb (picL x) i / 2) = nth (rndL x) (qd (picL x) k / 2)
 ·have hK : labP (picL x) (grpL x) (2 * i + 1) = labP (picL x) (grpL x) (2 * k + 2) := by rw [la, lb, c_g T.X (by omega) (by omega) h]
  by_cases hbad : badG (plL x) (rndL x) (grpL x) (n + 1) (labP (picL x) (grpL x) (2 * i + 1)) = true
  ·have h1 := cost_one T hK
   have hc := nC_one T (fun j hj hg => by
    unfold badG at hbad
    rw [Bool.and_eq_true, Bool.not_eq_true'] at hbad
    have ht := hbad.2
    unfold turnG at ht
    rw [List.any_eq_false] at ht
    have := ht j (List.mem_range.2 hj)
    rw [Bool.and_eq_true, decide_eq_true_eq] at this
    cases he : evenL (plL x) j with
    | false => rfl
    | true => exact absurd ⟨by rw [la, hg], he⟩ this)
   omega
  ·have h1 := cost_none T hK hbad
   omega
 ·have hc := nC_two T h
  omega
theorem dis_turn {x : List Int} {n i k : Nat} (hn : n ≤ 40) (hx : Stk true n x) (hik : i ≤ k) (hk : k < n) : disD x ≤ disD (flL true x i k) + 1 ∧ disD (flL true x i k) ≤ disD x + 1 ∧ (circL (flL true x i k)).length ≤ (circL x).length + 1 ∧ (circL x).length ≤ (circL (flL true x i k)).length + 1 := by
 have hy := stk_flL hx (fun h => h) i k hik hk
 have a := dis_step hn hx hik hk
 have b := dis_step hn hy hik hk
 rw [flL_flL true x i k (by rw [hx.len]; exact hk)] at b
 exact ⟨a.1, b.1, a.2, b.2⟩
end Go.Proofs.Ytepjhdblmghckaa.G


namespace Go.Proofs.Ytepjhdblmghckaa.Pure
open Go.Proofs.Ytepjhdblmghckaa.G Go.Proofs.Ytepjhdblmghckaa.K
open Go.RowKit Go.Proofs.Ytepjhdblmghckaa.Q Go.Proofs.YtepjhdblmghckaaW.PrintWords Go.Proofs.YtepjhdblmghckaaW.PrintLast
set_option linter.unusedVariables false
def preL (cs : List (List Int)) (ci ei : Nat) : List Int := (cs.take ci).flatten ++ (cs.getD ci []).take ei
theorem preL_next {cs : List (List Int)} {ci : Nat} (h : ci < cs.length) : preL cs ci (cs.getD ci []).length = preL cs (ci + 1) 0 := by
 unfold preL
 rw [List.take_length, List.take_zero, List.append_nil, List.take_succ_eq_append_getElem h, List.flatten_append]
 congr 1
 rw [List.getD_eq_getElem?_getD, List.getElem?_eq_getElem h]
 simp
theorem preL_step {cs : List (List Int)} {ci ei : Nat} (h : ei < (cs.getD ci []).length) : preL cs ci (ei + 1) = preL cs ci ei ++ [nth (cs.getD ci []) ei] := by
 unfold preL
 rw [List.take_succ_eq_append_getElem h, List.append_assoc, nth_get _ _ h]
theorem preL_sub {cs : List (List Int)} {ci ei : Nat} (h : ci < cs.length) : (preL cs ci ei).Sublist cs.flatten := by
 have e : cs.flatten = (cs.take ci).flatten ++ (cs.drop ci).flatten := by rw [← List.flatten_append, List.take_append_drop]
 rw [e]
 unfold preL
 refine List.Sublist.append (List.Sublist.refl _) ?_
 rw [List.drop_eq_getElem_cons h, List.flatten_cons, List.getD_eq_getElem?_getD, List.getElem?_eq_getElem h]
 exact (List.take_sublist _ _).trans (List.sublist_append_left _ _)
theorem steps_l1 (n : Nat) (hn : n ≤ 40) (cs : List (List Int)) (hcs : cs.length ≤ 1000) (hnd : cs.flatten.Nodup) (hr : ∀ v, v ∈ cs.flatten → 0 ≤ v ∧ v ≤ (n : Int)) (hlen : cs.flatten.length = n + 1) (ci : Nat) (hci : ci < cs.length)
  (cont : ∀ met : List Bool, met.length = n + 1 → (∀ q : Nat, q < n + 1 → (met.getD q false = true ↔ (q : Int) ∈ preL cs (ci + 1) 0)) → Ev (fun k => bibelotlaw07_PancakeSteps.l0 k (n : Int) cs met ((preL cs (ci + 1) 0).length : Int) ((ci + 1 : Nat) : Int)) true) :
  ∀ (d ei : Nat) (met : List Bool), ei + d = (cs.getD ci []).length → met.length = n + 1 → (∀ q : Nat, q < n + 1 → (met.getD q false = true ↔ (q : Int) ∈ preL cs ci ei)) → Ev (fun k => bibelotlaw07_PancakeSteps.l1 k (n : Int) cs met ((preL cs ci ei).length : Int) (ci : Int) (ei : Int)) true
 | 0, ei, met, h, hm, hq => by
  have e : ei = (cs.getD ci []).length := by omega
  subst e
  rw [preL_next hci] at hq ⊢
  refine Ev.step (fun k => ?_) (cont met hm hq)
  have erd : rd_L1 cs (ci : Int) = cs.getD ci [] := by unfold rd_L1; rw [Int.toNat_natCast]
  rw [bibelotlaw07_PancakeSteps.l1, if_pos (by omega), if_pos (by omega), erd, if_neg (by omega), up1 ci (by omega)]
 | d + 1, ei, met, h, hm, hq => by
  have hlt : ei < (cs.getD ci []).length := by omega
  have hst := preL_step hlt
  have hsub := preL_sub (ei := ei + 1) hci
  have hnd2 := hnd.sublist hsub
  have hle := hsub.length_le
  rw [hst] at hsub hnd2 hle
  rw [List.length_append, List.length_singleton] at hle
  have hei : ei ≤ (preL cs ci ei).length := by unfold preL; rw [List.length_append, List.length_take]; omega
  have hv := hr (nth (cs.getD ci []) ei) (hsub.subset (List.mem_append_right _ (List.mem_singleton.2 rfl)))
  obtain ⟨v, hve⟩ : ∃ v, nth (cs.getD ci []) ei = v := ⟨_, rfl⟩
  rw [hve] at hv hst hnd2
  have hni : v ∉ preL cs ci ei := fun hm => (List.nodup_append.1 hnd2).2.2 v hm v (List.mem_singleton.2 rfl) rfl
  have ih := steps_l1 n hn cs hcs hnd hr hlen ci hci cont d (ei + 1) (met.set v.toNat true) (by omega) (by rw [List.length_set]; exact hm) (fun q hql => by
   rw [getD_set _ _ _ (by omega), hst, List.mem_append, List.mem_singleton]
   by_cases e : q = v.toNat
   ·rw [if_pos e]; exact ⟨fun _ => .inr (by omega), fun _ => rfl⟩
   ·rw [if_neg e, hq q hql]
    exact ⟨.inl, fun h => h.resolve_right (by omega)⟩)
  rw [hst, List.length_append, List.length_singleton] at ih
  have hnot : ¬ met.getD v.toNat false = true := fun h => hni (by have := (hq v.toNat (by omega)).1 h; rw [show ((v.toNat : Nat) : Int) = v by omega] at this; exact this)
  refine Ev.step (fun k => ?_) ih
  have erd : rd_L1 cs (ci : Int) = cs.getD ci [] := by unfold rd_L1; rw [Int.toNat_natCast]
  rw [bibelotlaw07_PancakeSteps.l1, if_pos (by omega), if_pos (by omega), erd, if_pos (by omega), if_pos (by omega), rd_nth, hve, if_neg (by omega), if_neg (by omega), if_pos (by omega), if_pos (by omega)]
  unfold rdOf
  rw [if_neg hnot, up1 _ (by omega), up1 ei (by omega)]
theorem steps_l0 (n : Nat) (hn : n ≤ 40) (cs : List (List Int)) (hcs : cs.length ≤ 1000) (hnd : cs.flatten.Nodup) (hr : ∀ v, v ∈ cs.flatten → 0 ≤ v ∧ v ≤ (n : Int)) (hlen : cs.flatten.length = n + 1) :
  ∀ (d ci : Nat) (met : List Bool), ci + d = cs.length → met.length = n + 1 → (∀ q : Nat, q < n + 1 → (met.getD q false = true ↔ (q : Int) ∈ preL cs ci 0)) → Ev (fun k => bibelotlaw07_PancakeSteps.l0 k (n : Int) cs met ((preL cs ci 0).length : Int) (ci : Int)) true
 | 0, ci, met, h, hm, hq => by
  have e : ci = cs.length := by omega
  subst e
  have hpl : (preL cs cs.length 0).length = n + 1 := by unfold preL; rw [List.take_length, List.take_zero, List.append_nil, hlen]
  refine Ev.step (f := fun _ => (bibelotlaw07_awake.f).bind fun t => some t) (fun k => ?_) (Ev.bind awake_ev (Ev.now _))
  rw [bibelotlaw07_PancakeSteps.l0, if_neg (by omega), hpl, if_pos (up1 n (by omega)).symm]
 | d + 1, ci, met, h, hm, hq => by
  refine Ev.step (fun k => ?_) (steps_l1 n hn cs hcs hnd hr hlen ci (by omega) (fun met' hm' hq' => steps_l0 n hn cs hcs hnd hr hlen d (ci + 1) met' (by omega) hm' hq') (cs.getD ci []).length 0 met (by omega) hm hq)
  rw [bibelotlaw07_PancakeSteps.l0, if_pos (by omega)]
  rfl
theorem flat_nodup : ∀ cs : List (List Int), (∀ a, a ∈ cs → a.Nodup) → cs.Pairwise (fun a b => ∀ x, x ∈ a → x ∉ b) → cs.flatten.Nodup
 | [], _, _ => List.Pairwise.nil
 | a :: r, h1, h2 => by
  rw [List.pairwise_cons] at h2
  rw [List.flatten_cons, List.nodup_append]
  refine ⟨h1 a (List.mem_cons_self ..), flat_nodup r (fun b hb => h1 b (List.mem_cons_of_mem _ hb)) h2.2, fun x hx y hy e => ?_⟩
  obtain ⟨b, hb, hyb⟩ := List.mem_flatten.1 hy
  exact h2.1 b hb x hx (by rw [e]; exact hyb)
theorem circ_flat {x : List Int} {n : Nat} (hn : n ≤ 40) (hx : Stk true n x) : (circL x).flatten.Nodup ∧ (∀ v, v ∈ (circL x).flatten → 0 ≤ v ∧ v ≤ (n : Int)) ∧ (circL x).flatten.length = n + 1 := by
 have hc : (rndL x).length = n + 1 := by rw [rndL_len, hx.len]
 rw [circL_cls hn hx]
 have hnd : (clsTo (rndL x) (n + 1)).flatten.Nodup := flat_nodup _ (fun a ha => by
  obtain ⟨i, _, rfl⟩ := cls_cir _ _ a ha
  exact (clsUp_sorted (rndL x) i _).imp (fun h => by omega)) (cls_dis' _ _ (by omega))
 have hmem : ∀ v, v ∈ (clsTo (rndL x) (n + 1)).flatten ↔ v ∈ idL (n + 1) := fun v => by
  constructor
  ·intro hv
   obtain ⟨a, ha, hva⟩ := List.mem_flatten.1 hv
   obtain ⟨i, _, rfl⟩ := cls_cir _ _ a ha
   obtain ⟨q, hq, _, rfl⟩ := mem_clsOf.1 hva
   exact List.mem_map.2 ⟨q, List.mem_range.2 (by omega), rfl⟩
  ·intro hv
   obtain ⟨q, hq, rfl⟩ := List.mem_map.1 hv
   rw [List.mem_range] at hq
   obtain ⟨a, ha, hqa⟩ := (cls_cover hc (n + 1) (Nat.le_refl _) q hq).2 ⟨q, hq, rfl⟩
   exact List.mem_flatten.2 ⟨a, ha, hqa⟩
 have hid : (idL (n + 1)).Nodup := by
  unfold idL
  rw [List.Nodup, List.pairwise_map]
  exact List.pairwise_lt_range.imp (fun h => by omega)
 refine ⟨hnd, fun v hv => ?_, ?_⟩
 ·obtain ⟨q, hq, rfl⟩ := List.mem_map.1 ((hmem v).1 hv)
  rw [List.mem_range] at hq
  omega
 ·rw [((List.perm_ext_iff_of_nodup hnd hid).2 hmem).length_eq, idL_len]
theorem PancakeSteps_f (a0 : Int) (l1 : List Int) (o1 o2 : Int) : ∃ k, bibelotlaw07_PancakeSteps.f k a0 l1 o1 o2 = some true := by
 obtain ⟨n, hn1, hn, hne⟩ := many_f a0 40 (by decide) (by decide)
 have h40 : bibelotlaw07_many.f a0 40 = some (n : Int) := hne
 have hx := rowOf_stk l1 true n
 have hrow := row_f l1 n true (by omega)
 obtain ⟨x, hxe⟩ : ∃ x, rowOf l1 true n = x := ⟨_, rfl⟩
 rw [hxe] at hx hrow
 have hxl := hx.len
 have hu : IntKind.u64.wrap (n : Int) = (n : Int) := u64_small (by omega) (by omega)
 have one : ∀ o : Int, ∃ a : Nat, a < n ∧ wrap64 (Int.tmod (IntKind.u64.wrap o) (IntKind.u64.wrap (n : Int))) = (a : Int) := fun o => by
  have h0 := (u64_nonneg o).1
  rw [hu, Int.tmod_eq_emod_of_nonneg h0]
  have h1 := Int.emod_nonneg (IntKind.u64.wrap o) (show (n : Int) ≠ 0 by omega)
  have h2 := Int.emod_lt_of_pos (IntKind.u64.wrap o) (show (0 : Int) < (n : Int) by omega)
  exact ⟨(IntKind.u64.wrap o % (n : Int)).toNat, by omega, by rw [w64 (by omega) (by omega)]; omega⟩
 obtain ⟨a, ha, ea⟩ := one o1
 obtain ⟨b, hb, eb⟩ := one o2
 have emn : mn (a : Int) (b : Int) = ((min a b : Nat) : Int) := by rw [mn_eq]; omega
 have emx : mx (a : Int) (b : Int) = ((max a b : Nat) : Int) := by rw [mx_eq]; omega
 obtain ⟨i, hi⟩ : ∃ i, min a b = i := ⟨_, rfl⟩
 obtain ⟨q, hq⟩ : ∃ q, max a b = q := ⟨_, rfl⟩
 rw [hi] at emn
 rw [hq] at emx
 have hiq : i ≤ q := by omega
 have hqn : q < n := by omega
 have hs := isSt_stk (most := 40) hx hn1 (by omega)
 have hy := stk_flL hx (fun h => h) i q hiq hqn
 have hsy := isSt_stk (most := 40) hy hn1 (by omega)
 have hyl := hy.len
 have hd := dis_turn hn hx hiq hqn
 have t1 : pancake_Turn.f x (i : Int) (q : Int) = some (flL true x i q, 0) := by
  unfold pancake_Turn.f
  rw [if_pos hs, if_neg (by omega), Int.toNat_natCast, Int.toNat_natCast]
 have hback := flL_flL true x i q (by omega)
 obtain ⟨y, hye⟩ : ∃ y, flL true x i q = y := ⟨_, rfl⟩
 rw [hye] at t1 hy hsy hyl hd hback
 have t2 : pancake_Turn.f y (i : Int) (q : Int) = some (x, 0) := by
  unfold pancake_Turn.f
  rw [if_pos hsy, if_neg (by omega), Int.toNat_natCast, Int.toNat_natCast, hback]
 have d1 : pancake_Distance.f x = some (disD x, 0) := by unfold pancake_Distance.f; rw [if_pos hs, dis_com hn hx]
 have d2 : pancake_Distance.f y = some (disD y, 0) := by unfold pancake_Distance.f; rw [if_pos hsy, dis_com hn hy]
 have c1 : pancake_Circles.f x = some (circL x, 0) := by unfold pancake_Circles.f; rw [if_pos hs]
 have c2 : pancake_Circles.f y = some (circL y, 0) := by unfold pancake_Circles.f; rw [if_pos hsy]
 have e4 := ints_ev x x (by omega)
 rw [decide_eq_true rfl] at e4
 obtain ⟨f1, f2, f3⟩ := circ_flat hn hx
 have hcl : (circL x).length ≤ 1000 := by rw [circL_cls hn hx]; have := clsTo_le (rndL x) (n + 1); omega
 have hcl2 : (circL y).length ≤ 1000 := by rw [circL_cls hn hy]; have := clsTo_le (rndL y) (n + 1); omega
 have hb1 : disD x = ((disD x).toNat : Int) ∨ -1000 ≤ disD x := by
  have := dis_cost hn hx
  have hc := nC_len (rndL x) (n + 1)
  have := clsTo_le (rndL x) (n + 1)
  right
  omega
 have hdx : -1000 ≤ disD x ∧ disD x ≤ 1000 := by
  have h1 := clsTo_le (rndL x) (n + 1)
  have h2 := cntB_le (hurG (picL x) (grpL x) (x.length + 1) (badD x)) (x.length + 1)
  have e3 : (comD x).2.2.1 = ((cntB (hurG (picL x) (grpL x) (x.length + 1) (badD x)) (x.length + 1) : Nat) : Int) := rfl
  unfold disD
  rw [e3, hxl] at *
  split <;> omega
 have l0 := steps_l0 n hn (circL x) hcl f1 f2 f3 (circL x).length 0 (List.replicate (n + 1) false) (by omega) (by simp) (fun q hq => by
  rw [List.getD_eq_getElem?_getD, List.getElem?_replicate, if_pos hq]
  unfold preL
  simp)
 have j0 : Ev (fun k => bibelotlaw07_PancakeSteps.j0 k (n : Int) (circL x) false) true := by
  refine Ev.step (fun k => ?_) l0
  rw [bibelotlaw07_PancakeSteps.j0, if_neg (by decide), up1 n (by omega), if_pos (by omega), if_pos (by omega), Int.toNat_natCast]
  rfl
 have main : Ev (fun k => (bibelotlaw07_ints.f k x x).bind fun t565 => (if t565 = true then (if disD y < (wrap64 (disD x - 1)) then (bibelotlaw07_PancakeSteps.j0 k (n : Int) (circL x) true) else (if disD y > (wrap64 (disD x + 1)) then (bibelotlaw07_PancakeSteps.j0 k (n : Int) (circL x) true) else (if (wrap64 (((circL x).length : Int) - ((circL y).length : Int))) > 1 then (bibelotlaw07_PancakeSteps.j0 k (n : Int) (circL x) true) else (bibelotlaw07_PancakeSteps.j0 k (n : Int) (circL x) (decide ((wrap64 (((circL y).length : Int) - ((circL x).length : Int))) > 1)))))) else (bibelotlaw07_PancakeSteps.j0 k (n : Int) (circL x) true))) true := by
  refine Ev.bind e4 (Ev.congr (fun k => ?_) j0)
  rw [if_pos rfl, w64 (x := disD x - 1) (by omega) (by omega), w64 (x := disD x + 1) (by omega) (by omega), w64 (x := ((circL x).length : Int) - ((circL y).length : Int)) (by omega) (by omega), w64 (x := ((circL y).length : Int) - ((circL x).length : Int)) (by omega) (by omega), if_neg (by omega), if_neg (by omega), if_neg (by omega), decide_eq_false (by omega)]
 refine Ev.rounds (Ev.congr (fun k => ?_) main)
 unfold bibelotlaw07_PancakeSteps.f
 rw [h40, Option.bind_some, hrow, Option.bind_some, ea, eb, emn, emx, hu, if_neg (by omega), t1, Option.bind_some, t2, Option.bind_some, d1, Option.bind_some, d2, Option.bind_some, c1, Option.bind_some, c2, Option.bind_some]
 simp only [if_true]
end Go.Proofs.Ytepjhdblmghckaa.Pure
