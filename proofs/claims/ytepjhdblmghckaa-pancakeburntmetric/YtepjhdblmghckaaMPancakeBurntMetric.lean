/- PancakeBurntMetric: without the reference: the same for burnt stacks, whose signs are changed in both, too; without the signs no more flips are needed than with them, but for one number: the walk and the plain law, for every input. -/
import Derived.Test.YtepjhdblmghckaaLPancakeBurntMetric
import Derived.Test.YtepjhdblmghckaaEb4
/- PancakeBurntMetric: the plain law. -/
namespace Go.Proofs.Ytepjhdblmghckaa.Pure
set_option linter.unusedVariables false
set_option linter.unusedSimpArgs false
set_option linter.unusedSectionVars false
open Go.Proofs.Ytepjhdblmghckaa.G Go.Proofs.Ytepjhdblmghckaa.K Go.Proofs.Ytepjhdblmghckaa.Bf
open Go.RowKit Go.Proofs.Ytepjhdblmghckaa.Q Go.Proofs.YtepjhdblmghckaaW.PrintWords Go.Proofs.YtepjhdblmghckaaW.PrintLast
theorem nth_mapB (f : Int → Int) (l : List Int) (p : Nat) (h : p < l.length) : nth (l.map f) p = f (nth l p) := by
 rw [nth_get _ p (by rw [List.length_map]; exact h), nth_get l p h, List.getElem_map]
theorem flL_mapB (f : Int → Int) (sg tg : Bool) (hf : ∀ v, f (if sg = true then -v else v) = if tg = true then -(f v) else f v) (l : List Int) (i k : Nat) (hk : k < l.length) : flL tg (l.map f) i k = (flL sg l i k).map f := by
 apply List.ext_getElem (by rw [flL_len, List.length_map, List.length_map, flL_len])
 intro p h1 h2
 rw [flL_len, List.length_map] at h1
 rw [← nth_get, ← nth_get, flL_nth tg i k p (by rw [List.length_map]; exact hk), nth_mapB f (flL sg l i k) p (by rw [flL_len]; exact h1), flL_nth sg i k p hk]
 by_cases h : i ≤ p ∧ p ≤ k
 ·rw [if_pos h, if_pos h, nth_mapB f l _ (by omega), hf]
 ·rw [if_neg h, if_neg h, nth_mapB f l p h1]
/-- The number with its sign changed, if its bit is set. -/
def chg (a : Int) (v : Int) : Int := if Int.tmod (shr .i64 a (v.natAbs : Int)) 2 = 0 then v else -v
theorem chg_abs (a v : Int) : (chg a v).natAbs = v.natAbs := by
 unfold chg
 split
 ·rfl
 ·rw [Int.natAbs_neg]
theorem chg_neg (a v : Int) : chg a (-v) = -(chg a v) := by
 unfold chg
 rw [Int.natAbs_neg]
 split <;> omega
theorem chg_inj (a : Int) {v w : Int} (h : chg a v = chg a w) : v = w := by
 have h1 : v.natAbs = w.natAbs := by rw [← chg_abs a v, ← chg_abs a w, h]
 unfold chg at h
 rw [h1] at h
 split at h <;> omega
theorem changed_f (a v : Int) (hv : -1000000 ≤ v ∧ v ≤ 1000000) : bibelotlaw07_changed.f v a = some (chg a v) := by
 unfold bibelotlaw07_changed.f chg
 rw [abs_f _ (by omega), Option.bind_some, if_pos (Int.natCast_nonneg _), w64 (x := -v) (by omega) (by omega)]
 split <;> rfl
def absI (v : Int) : Int := (v.natAbs : Int)
theorem map_inj {f : Int → Int} (hf : ∀ v w, f v = f w → v = w) : ∀ (x y : List Int), x.map f = y.map f → x = y
 | [], [], _ => rfl
 | a :: x, b :: y, h => by
  rw [List.map_cons, List.map_cons] at h
  injection h with h1 h2
  rw [hf a b h1, map_inj hf x y h2]
 | [], b :: y, h => by cases h
 | a :: x, [], h => by cases h
theorem stk_of_abs {sg tg : Bool} {n : Nat} {x : List Int} (f : Int → Int) (hf : ∀ v, (f v).natAbs = v.natAbs) (ht : tg = false → ∀ v, 0 ≤ f v) (h : Stk sg n x) : Stk tg n (x.map f) := by
 have hl := h.len
 have hab : ∀ p, p < n → (nth (x.map f) p).natAbs = (nth x p).natAbs := fun p hp => by rw [nth_mapB f x p (by omega), hf]
 obtain ⟨h1, h2, h3, h4⟩ := stk_nth.1 h
 refine stk_nth.2 ⟨by rw [List.length_map, hl], fun p hp => ?_, fun p q hp hq he => ?_, fun hs p hp => ?_⟩
 ·have := h2 p hp
  have := hab p hp
  omega
 ·exact h3 p q hp hq (by rw [← hab p hp, ← hab q hq]; exact he)
 ·have := h2 p hp
  have := hab p hp
  have := ht hs (nth x p)
  rw [nth_mapB f x p (by omega)] at *
  omega
theorem ball_chg {n : Nat} {x : List Int} {a : Int} (hx : Stk true n x) : ∀ (k : Nat) (q : List Int), q ∈ ball (nextK n true false) (x.map (chg a)) k ↔ ∃ y, y ∈ ball (nextK n true false) x k ∧ q = y.map (chg a)
 | 0, q => by simp [ball]
 | k + 1, q => by
  have hf : ∀ v, chg a (if true = true then -v else v) = if true = true then -(chg a v) else chg a v := fun v => by rw [if_pos rfl, if_pos rfl, chg_neg]
  rw [ball_succ]
  constructor
  ·rintro (h | ⟨z, hz, hq⟩)
   ·obtain ⟨y, hy, e⟩ := (ball_chg hx k q).1 h
    exact ⟨y, ball_succ.2 (.inl hy), e⟩
   ·obtain ⟨y, hy, rfl⟩ := (ball_chg hx k z).1 hz
    obtain ⟨m, hm, rfl⟩ := List.mem_map.1 hq
    have hmv := mem_mv hm
    have hyl := ball_len hx.len k hy
    exact ⟨flL true y m.1 m.2, ball_succ.2 (.inr ⟨y, hy, List.mem_map.2 ⟨m, hm, rfl⟩⟩), flL_mapB _ true true hf _ _ _ (by omega)⟩
  ·rintro ⟨y, hy, rfl⟩
   rcases ball_succ.1 hy with h | ⟨z, hz, hq⟩
   ·exact .inl ((ball_chg hx k _).2 ⟨y, h, rfl⟩)
   ·obtain ⟨m, hm, rfl⟩ := List.mem_map.1 hq
    have hmv := mem_mv hm
    have hzl := ball_len hx.len k hz
    exact .inr ⟨z.map (chg a), (ball_chg hx k _).2 ⟨z, hz, rfl⟩, List.mem_map.2 ⟨m, hm, flL_mapB _ true true hf _ _ _ (by omega)⟩⟩
theorem ball_absI {n : Nat} {x : List Int} (hx : Stk true n x) : ∀ (k : Nat) (y : List Int), y ∈ ball (nextK n true false) x k → y.map absI ∈ ball (nextK n false false) (x.map absI) k
 | 0, y, h => by
  have : y = x := by simpa [ball] using h
  rw [this]; simp [ball]
 | k + 1, y, h => by
  have hf : ∀ v, absI (if true = true then -v else v) = if false = true then -(absI v) else absI v := fun v => by
   rw [if_pos rfl, if_neg (by decide)]; unfold absI; rw [Int.natAbs_neg]
  rcases ball_succ.1 h with h | ⟨z, hz, hq⟩
  ·exact ball_mono (Nat.le_succ _) (ball_absI hx k y h)
  ·obtain ⟨m, hm, rfl⟩ := List.mem_map.1 hq
   have hmv := mem_mv hm
   have hzl := ball_len hx.len k hz
   have ih := ball_absI hx k z hz
   rw [← flL_mapB absI true false hf z m.1 m.2 (by omega)]
   have h1 : m.1 = 0 := by
    rcases hmv.2.2.2 with h' | h'
    ·cases h'
    ·exact h'
   by_cases h2 : m.2 = 0
   ·rw [h1, h2, flL_one]
    exact ball_mono (Nat.le_succ _) ih
   ·exact ball_succ.2 (.inr ⟨_, ih, List.mem_map.2 ⟨m, by
     obtain ⟨m1, m2⟩ := m
     exact mv_mem hmv.1 hmv.2.1 (.inr (by simp only at h1 h2 ⊢; omega)) (.inr h1), rfl⟩⟩)
theorem gap_chg {n : Nat} (hn7 : n ≤ 7) (a : Int) {x y : List Int} (hx : Stk true n x) (hy : Stk true n y) : gap n true (x.map (chg a)) (y.map (chg a)) = gap n true x y := by
 refine gap_eq hn7 (stk_of_abs _ (chg_abs a) (fun h => by cases h) hx) (stk_of_abs _ (chg_abs a) (fun h => by cases h) hy) ⟨?_, fun j hj hm => ?_⟩
 ·exact (ball_chg hx _ _).2 ⟨y, (gap_exact hn7 hx hy).1, rfl⟩
 ·obtain ⟨y', h1, h2⟩ := (ball_chg hx j _).1 hm
  rw [← map_inj (fun _ _ h => chg_inj a h) _ _ h2] at h1
  exact (gap_exact hn7 hx hy).2 j hj h1
theorem stk_absI {n : Nat} {x : List Int} (hx : Stk true n x) : Stk false n (x.map absI) := stk_of_abs absI (fun v => by unfold absI; rw [Int.natAbs_natCast]) (fun _ v => Int.natCast_nonneg _) hx
theorem gap_absI {n : Nat} (hn7 : n ≤ 7) {x y : List Int} (hx : Stk true n x) (hy : Stk true n y) : gap n false (x.map absI) (y.map absI) ≤ gap n true x y :=
 gap_le hn7 (stk_absI hx) (stk_absI hy) (ball_absI hx _ _ (gap_exact hn7 hx hy).1)
theorem bmetric_end {n : Nat} (hn1 : 1 ≤ n) (hn : n ≤ 4) (a : Int) {x y z : List Int} (hx : Stk true n x) (hy : Stk true n y) (hz : Stk true n z) :
  Ev (fun k => bibelotlaw07_PancakeBurntMetric.l0 k (n : Int) a x y z (x.map (chg a)) (y.map (chg a)) (x.map absI) (y.map absI) (n : Int)) true := by
 have hi := ints_ev x y (by rw [hx.len]; omega)
 have hp := stk_of_abs (tg := true) _ (chg_abs a) (fun h => by cases h) hx
 have hq := stk_of_abs (tg := true) _ (chg_abs a) (fun h => by cases h) hy
 have hu := stk_absI hx
 have hv := stk_absI hy
 have h6 : n ≤ 6 := by omega
 have h7 : n ≤ 7 := by omega
 have hg := gap_chg h7 a hx hy
 have hle := gap_absI h7 hx hy
 have ht := gap_tri h7 hx hy hz
 have hb1 := gap_lt h7 true x z
 have hb2 := gap_lt h7 true z y
 have hsy := gap_symm h7 hx hy
 have hzr := gap_zero h7 hx hy
 have e1 : (((gap n true x y : Nat) : Int) == 0) = decide (x = y) := by
  by_cases h : x = y
  ·rw [decide_eq_true h, hzr.2 h]; rfl
  ·rw [decide_eq_false h]
   have : gap n true x y ≠ 0 := fun h' => h (hzr.1 h')
   rw [beq_eq_false_iff_ne]
   omega
 refine Ev.step (f := fun k => (bibelotlaw07_ints.f k x y).bind fun t376 => (if ((((gap n true x y : Nat) : Int) == 0) == t376) = true then (if ((gap n true x y : Nat) : Int) = ((gap n true x y : Nat) : Int) then (if ((gap n false (x.map absI) (y.map absI) : Nat) : Int) ≤ ((gap n true x y : Nat) : Int) then ((bibelotlaw07_awake.f).bind fun t377 => (some t377)) else (some false)) else (some false)) else (some false))) (fun k => ?_) (Ev.bind hi (Ev.congr (fun k => ?_) (Ev.bind awake_ev (Ev.now true))))
 ·rw [bibelotlaw07_PancakeBurntMetric.l0, if_neg (by omega), pflipsB_ok h6 hx hy hn1, Option.bind_some, pflipsB_ok h6 hy hx hn1, Option.bind_some, pflipsB_ok h6 hx hz hn1, Option.bind_some, pflipsB_ok h6 hz hy hn1, Option.bind_some, pflipsB_ok h6 hp hq hn1, Option.bind_some, pflips_ok h7 hu hv hn1, Option.bind_some, hg, ← hsy, if_pos rfl, if_pos rfl, if_pos rfl, if_pos rfl, if_pos rfl, if_pos rfl, if_pos rfl, if_pos (by rw [w64 (by omega) (by omega)]; omega)]
 ·rw [e1, if_pos (by simp), if_pos rfl, if_pos (by omega)]
theorem take_mapB (f : Int → Int) (l : List Int) (i : Nat) (h : i < l.length) : (l.take (i + 1)).map f = (l.take i).map f ++ [f (nth l i)] := by
 rw [List.take_add_one, List.getElem?_eq_getElem h, List.map_append, nth_get l i h]; rfl
theorem bmetric_l0 {n : Nat} (hn1 : 1 ≤ n) (hn : n ≤ 4) (a : Int) {x y z : List Int} (hx : Stk true n x) (hy : Stk true n y) (hz : Stk true n z) : ∀ d i : Nat, i + d = n →
  Ev (fun k => bibelotlaw07_PancakeBurntMetric.l0 k (n : Int) a x y z ((x.take i).map (chg a)) ((y.take i).map (chg a)) ((x.take i).map absI) ((y.take i).map absI) (i : Int)) true
 | 0, i, h => by
  obtain rfl : i = n := h
  rw [List.take_of_length_le (by rw [hx.len]; exact Nat.le_refl _), List.take_of_length_le (by rw [hy.len]; exact Nat.le_refl _)]
  exact bmetric_end hn1 hn a hx hy hz
 | d + 1, i, h => by
  have ih := bmetric_l0 hn1 hn a hx hy hz d (i + 1) (by omega)
  have hxl := hx.len
  have hyl := hy.len
  have h1 := hx.small (by omega) i
  have h2 := hy.small (by omega) i
  rw [take_mapB _ x i (by omega), take_mapB _ y i (by omega), take_mapB _ x i (by omega), take_mapB _ y i (by omega)] at ih
  refine Ev.step (fun k => ?_) ih
  have a1 : bibelotref07_Abs.f (nth x i) = some (absI (nth x i)) := abs_f _ (by omega)
  have a2 : bibelotref07_Abs.f (nth y i) = some (absI (nth y i)) := abs_f _ (by omega)
  rw [bibelotlaw07_PancakeBurntMetric.l0, if_pos (by omega), if_pos (by omega), if_pos (by omega), rd_nth, rd_nth, changed_f a _ h1, Option.bind_some, if_pos (by rw [List.length_map, List.length_take]; omega), if_pos (by omega), changed_f a _ h2, Option.bind_some, if_pos (by rw [List.length_map, List.length_take]; omega), a1, Option.bind_some, if_pos (by rw [List.length_map, List.length_take]; omega), a2, Option.bind_some, if_pos (by rw [List.length_map, List.length_take]; omega), up1 i (by omega)]
theorem PancakeBurntMetric_f (a0 : Int) (l0 l1 l2 : List Int) (a : Int) : ∃ k, bibelotlaw07_PancakeBurntMetric.f k a0 l0 l1 l2 a = some true := by
 obtain ⟨n, hn1, hn, hne⟩ := many_f a0 4 (by decide) (by decide)
 have h4 : bibelotlaw07_many.f a0 4 = some (n : Int) := hne
 refine Ev.rounds (Ev.congr (fun k => ?_) (bmetric_l0 hn1 hn a (rowOf_stk l0 true n) (rowOf_stk l1 true n) (rowOf_stk l2 true n) n 0 (by omega)))
 unfold bibelotlaw07_PancakeBurntMetric.f
 rw [h4, Option.bind_some, row_f l0 n true (by omega), Option.bind_some, row_f l1 n true (by omega), Option.bind_some, row_f l2 n true (by omega), Option.bind_some]
 rfl
end Go.Proofs.Ytepjhdblmghckaa.Pure
