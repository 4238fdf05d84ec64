/- TopTowers, the plain law of its stacks: a stack with larger pancakes below, in their order, needs no more flips; none needs more than the worst. -/
import Derived.Test.YtbadfjogakhhbaaDoorPe
namespace Go.Proofs.YtbadfjogakhhbaaDoor.G
open Go.Proofs.YtbadfjogakhhbaaDoor.Q Go.Proofs.YtbadfjogakhhbaaDoor.K Go.Proofs.YtbadfjogakhhbaaDoor.Bf
open Go.RowKit Go.Proofs.YtbadfjogakhhbaaDoorW.PrintWords
set_option linter.unusedVariables false
set_option maxRecDepth 100000
/-- What the law's steps may build: n + 1 put into any place but the last. -/
def gensP : Nat → List (List Int)
  | 0 => [[]]
  | n + 1 => (gensP n).flatMap fun l => (List.range (n + 1)).map fun a => l.take a ++ ((n + 1 : Nat) : Int) :: l.drop a
theorem gensP_mem {n a : Nat} {l : List Int} (h : l ∈ gensP n) (ha : a < n + 1) : l.take a ++ ((n + 1 : Nat) : Int) :: l.drop a ∈ gensP (n + 1) :=
  List.mem_flatMap.2 ⟨l, h, List.mem_map.2 ⟨a, List.mem_range.2 ha, rfl⟩⟩
def tailL (n : Nat) : List Int := (List.range (7 - n)).map fun j => ((n + 1 + j : Nat) : Int)
def idx (v : Int) : List Int → Nat
  | [] => 0
  | x :: l => if x = v then 0 else idx v l + 1
/-- Flips that bring a stack into order. -/
def srtF : Nat → List Int → List Nat
  | 0, _ => []
  | i + 1, l =>
    let p := idx ((i + 1 : Nat) : Int) l
    if p = i then srtF i l
    else if p = 0 then i :: srtF i (flL false l 0 i)
    else p :: i :: srtF i (flL false (flL false l 0 p) 0 i)
def runF (ks : List Nat) (l : List Int) : List Int := ks.foldl (fun l k => flL false l 0 k) l
def chkP (n : Nat) (l : List Int) : Bool := let ks := srtF n l
  ks.all (fun k => decide (k ≠ 0) && decide (k < n)) && (decide (runF ks l = firstL n) && (decide (ks.length ≤ 10) && (isSt false 7 (l ++ tailL n) && (isSt false 7 l && (decide (l.length = n) && (decide (firstL n ++ tailL n = firstL 7) && isSt false 7 (firstL n)))))))
theorem look1 : (gensP 1).all (chkP 1) = true := by kernel_rfl
theorem look2 : (gensP 2).all (chkP 2) = true := by kernel_rfl
theorem look3 : (gensP 3).all (chkP 3) = true := by kernel_rfl
theorem look4 : (gensP 4).all (chkP 4) = true := by kernel_rfl
theorem look5 : (gensP 5).all (chkP 5) = true := by kernel_rfl
theorem look7 : isSt false 7 (firstL 7) = true := by kernel_rfl
theorem back {n : Nat} {t start : List Int} {j : Nat} (ht : t ∈ ball (nextK n false false) start j) : ∀ (ks : List Nat) (l : List Int), (∀ k ∈ ks, k ≠ 0 ∧ k < n) → l.length = n → runF ks l = t → l ∈ ball (nextK n false false) start (j + ks.length)
  | [], l, _, _, h => by
    have h : l = t := h
    rw [h]; exact ht
  | k :: ks, l, hk, hl, h => by
    have h1 := hk k List.mem_cons_self
    have ih := back ht ks (flL false l 0 k) (fun x hx => hk x (List.mem_cons_of_mem _ hx)) (by rw [flL_len]; exact hl) h
    refine ball_succ.2 (.inr ⟨_, ih, next_back hl ?_⟩)
    exact List.mem_map.2 ⟨(0, k), mv_mem (Nat.zero_le _) h1.2 (.inr h1.1) (.inr rfl), rfl⟩
theorem nth_app {l m : List Int} {p : Nat} (h : p < l.length) : nth (l ++ m) p = nth l p := by
  unfold nth
  rw [List.getD_eq_getElem?_getD, List.getD_eq_getElem?_getD, List.getElem?_append_left h]
theorem flL_app (l m : List Int) (k : Nat) (hk : k < l.length) : flL false (l ++ m) 0 k = flL false l 0 k ++ m := by
  have hl := flL_len false l 0 k
  apply List.ext_getElem (by rw [flL_len, List.length_append, List.length_append, hl])
  intro p h1 h2
  rw [flL_len, List.length_append] at h1
  have e1 : ∀ (x : List Int) (hp : p < x.length), x[p] = nth x p := fun x hp => by
    unfold nth
    rw [List.getD_eq_getElem?_getD, List.getElem?_eq_getElem hp]; rfl
  rw [e1, e1, nth_flL _ _ _ _ (by rw [List.length_append]; omega)]
  by_cases hp : p < l.length
  · rw [nth_app (by rw [hl]; exact hp), nth_flL _ _ _ _ hk]
    unfold fl rv
    simp only [Bool.false_eq_true, false_and, if_false]
    split
    · exact nth_app (by omega)
    · exact nth_app hp
  · have : nth (flL false l 0 k ++ m) p = nth (l ++ m) p := by
      unfold nth
      rw [List.getD_eq_getElem?_getD, List.getD_eq_getElem?_getD, List.getElem?_append_right (by rw [hl]; omega), List.getElem?_append_right (by omega), hl]
    rw [this]
    unfold fl rv
    simp only [Bool.false_eq_true, false_and, if_false]
    rw [if_neg (by omega)]
theorem lift {n N : Nat} {start m : List Int} (hN : n ≤ N) (hs : start.length = n) : ∀ (j : Nat) (l : List Int), l ∈ ball (nextK n false false) start j → l.length = n ∧ l ++ m ∈ ball (nextK N false false) (start ++ m) j
  | 0, l, h => by
    have h : l = start := by simpa [ball] using h
    subst h
    exact ⟨hs, by simp [ball]⟩
  | j + 1, l, h => by
    rcases ball_succ.1 h with h | ⟨y, h1, h2⟩
    · obtain ⟨a, b⟩ := lift hN hs j l h
      exact ⟨a, ball_mono (Nat.le_succ j) b⟩
    · obtain ⟨a, b⟩ := lift hN hs j y h1
      obtain ⟨x, hx, rfl⟩ := List.mem_map.1 h2
      obtain ⟨q1, q2, q3, q4⟩ := mem_mv hx
      have q4 : x.1 = 0 := by simpa using q4
      refine ⟨by rw [flL_len]; exact a, ball_succ.2 (.inr ⟨_, b, ?_⟩)⟩
      refine List.mem_map.2 ⟨x, mv_mem q1 (by omega) q3 (.inr q4), ?_⟩
      rw [q4]
      exact flL_app y m x.2 (by omega)
theorem least_found {α : Type} [DecidableEq α] {next : α → List α} {start t : α} {j N : Nat} (h : t ∈ ball next start j) (hj : j < N) : t ∈ ball next start (least next start t N) ∧ least next start t N ≤ j := by
  unfold least
  cases hf : (List.range N).find? (fun k => (ball next start k).contains t) with
  | none =>
    rw [List.find?_eq_none] at hf
    exact absurd h (by simpa using hf j (List.mem_range.2 hj))
  | some k =>
    have hf' := hf
    rw [List.find?_range_eq_some] at hf'
    obtain ⟨h1, h2, h3⟩ := hf'
    refine ⟨by simpa using h1, ?_⟩
    show k ≤ j
    rcases Nat.lt_or_ge j k with hlt | hge
    · exact absurd h (by simpa using h3 j hlt)
    · exact hge
theorem towers_plain {n : Nat} (h1 : 1 ≤ n) (hn : n ≤ 5) {l : List Int} (hl : l ∈ gensP n) : l.length = n ∧ firstL n ++ tailL n = firstL 7 ∧ ∃ (w1 w2 d k : Int), pancake_Worst.f n = some (w1, w2, 0) ∧ pancake_Flips.f (l ++ tailL n) (firstL 7) = some (d, 0) ∧ pancake_Flips.f l (firstL n) = some (k, 0) ∧ d ≤ k ∧ k ≤ w1 := by
  have hch : chkP n l = true := by
    have key : ∀ {m : Nat}, m = n → (gensP m).all (chkP m) = true → chkP n l = true := by
      rintro m rfl h
      exact List.all_eq_true.1 h l hl
    rcases (show n = 1 ∨ n = 2 ∨ n = 3 ∨ n = 4 ∨ n = 5 by omega) with e | e | e | e | e
    · exact key e.symm look1
    · exact key e.symm look2
    · exact key e.symm look3
    · exact key e.symm look4
    · exact key e.symm look5
  unfold chkP at hch
  simp only [Bool.and_eq_true, decide_eq_true_eq, List.all_eq_true] at hch
  obtain ⟨c1, c2, c3, c4, c5, c6, c7, c8⟩ := hch
  have hf : (firstL n).length = n := by simp [firstL]
  have hf7 : (firstL 7).length = 7 := by simp [firstL]
  have hb : l ∈ ball (nextK n false false) (firstL n) (0 + (srtF n l).length) := back (by simp [ball]) _ l c1 c6 c2
  rw [Nat.zero_add] at hb
  have p1 : 15 ≤ 15 ^ n := by
    have := Nat.pow_le_pow_right (show 1 ≤ 15 by omega) h1
    simpa using this
  obtain ⟨g1, g2⟩ := least_found hb (show (srtF n l).length < 15 ^ n + 1 by omega)
  have p2 : 15 ^ n ≤ 15 ^ 7 := Nat.pow_le_pow_right (by omega) (by omega)
  obtain ⟨-, g3⟩ := lift (N := 7) (m := tailL n) (by omega) hf _ _ g1
  rw [c7] at g3
  obtain ⟨-, g4⟩ := least_found g3 (show _ < 15 ^ 7 + 1 by
    have : least (nextK n false false) (firstL n) l (15 ^ n + 1) ≤ 10 := Nat.le_trans g2 c3
    omega)
  have t7 : (l ++ tailL n).length = 7 := by
    rw [List.length_append, c6, ← hf7, ← c7, List.length_append, hf]
  have hr : l ∈ reach n false := (mem_uniq _ _).2 (List.mem_filter.2 ⟨univ_mem n l (by rw [← c6]; exact isSt_vs c5 (by decide)), by
    rw [decide_eq_true_eq]; exact ball_mono (by omega) hb⟩)
  have e1 : chk2 false 7 (l ++ tailL n) (firstL 7) = 0 := by unfold chk2; rw [if_pos c4, if_pos look7, if_pos (by rw [t7, hf7])]
  have e2 : chk2 false 7 l (firstL n) = 0 := by unfold chk2; rw [if_pos c5, if_pos c8, if_pos (by rw [c6, hf])]
  refine ⟨c6, c7, _, _, _, _, by unfold pancake_Worst.f; rw [if_pos (by omega)], by unfold pancake_Flips.f; rw [if_pos e1], by unfold pancake_Flips.f; rw [if_pos e2], ?_, ?_⟩
  · rw [t7, c6]
    unfold gap
    omega
  · rw [c6]
    have := mostOf_le (gap n false (firstL n)) (reach n false) l hr
    unfold wrst
    simp only [Int.toNat_natCast]
    omega
end Go.Proofs.YtbadfjogakhhbaaDoor.G
