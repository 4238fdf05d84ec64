/- HanoiFrameWays: a way whose number of moves is Frame's number, or ErrArg: the walk and the plain law, for every input. -/
import Derived.Test.YtnaaomhmoamfpaaDoorLHanoiFrameWays
import Derived.Test.YtnaaomhmoamfpaaDoorA4
/- FrameWay's moves can be made, over any pegs; the document's Play makes them. -/
namespace Go.Proofs.YtnaaomhmoamfpaaDoor.G
set_option linter.unusedVariables false
set_option linter.unusedSimpArgs false
set_option linter.unusedSectionVars false
open Go.Proofs.YtnaaomhmoamfpaaDoor.Q Go.Proofs.YtnaaomhmoamfpaaDoor.Hn Go.Proofs.YtnaaomhmoamfpaaDoor.K
open Go.RowKit Go.Proofs.YtnaaomhmoamfpaaDoorW.PrintWords Go.Proofs.YtnaaomhmoamfpaaDoorW.PrintLast Go.Proofs.YtnaaomhmoamfpaaDoorW.PrintMore

structure CanG (P : Nat) (d : List Int) (j : Nat) (q : Int) : Prop where
  lt : j < d.length
  peg : 0 ≤ q ∧ q < P
  ne : nth d j ≠ q
  free : ∀ i, i < j → nth d i ≠ nth d j ∧ nth d i ≠ q
def LegG (P : Nat) : List Int → List (Nat × Int) → Prop
  | _, [] => True
  | d, m :: ms => CanG P d m.1 m.2 ∧ LegG P (d.set m.1 m.2) ms
theorem legG_append (P : Nat) : ∀ (a : List (Nat × Int)) (d : List Int) (b : List (Nat × Int)), LegG P d (a ++ b) ↔ LegG P d a ∧ LegG P (runI d a) b
  | [], d, b => by simp [LegG, run_nil]
  | m :: a, d, b => by
    rw [List.cons_append, LegG, LegG, run_cons, legG_append P a, and_assoc]
theorem canG_B {P : Nat} {d : List Int} {j : Nat} {q : Int} (h : CanG P d j q) : canB d j q = true := by
  unfold canB
  have hj := h.lt
  have hne : q ≠ nth d j := fun e => h.ne e.symm
  rw [(cov_no d (nth d j) j (by omega)).2 (fun i hi => (h.free i hi).1), (cov_no d q j (by omega)).2 (fun i hi => (h.free i hi).2), decide_eq_true hne]
  rfl
theorem canG_ev {P : Nat} {d : List Int} {j : Nat} {q : Int} (h : CanG P d j q) (hl : d.length ≤ 1000) : Ev (fun k => bibelotref03_Can.f k d (j : Int) q (P : Int)) true := by
  have hp := h.peg
  obtain ⟨p, hpq⟩ := Int.eq_ofNat_of_zero_le hp.1
  have hB := canG_B h
  rw [hpq] at hB ⊢
  have := can_ev d j p P h.lt hl (by omega)
  rw [hB] at this
  exact this
theorem rd_midG (a b : List (Nat × Int)) (m : Nat × Int) : rd_T52 ((a ++ m :: b).map mkI) (a.length : Int) = mkI m := by simp [rd_T52]
theorem gplay_loop (P : Nat) (d : List Int) (hd : d.length ≤ 1000) : ∀ (b a : List (Nat × Int)), LegG P (runI d a) b → (a ++ b).length ≤ 1000000 →
    Ev (fun k => bibelotref03_Play.l0 k ((a ++ b).map mkI) (P : Int) (runI d a) (a.length : Int)) (runI d (a ++ b), ((a ++ b).length : Int))
  | [], a, _, h => by
    refine Ev.step (fun k => ?_) (Ev.now _)
    rw [bibelotref03_Play.l0, if_neg (by simp), List.length_map, List.append_nil]
  | m :: b, a, hl, h => by
    obtain ⟨hc, hl⟩ := hl
    have e1 : a ++ m :: b = (a ++ [m]) ++ b := by simp
    have e2 : runI d (a ++ [m]) = (runI d a).set m.1 m.2 := by rw [run_append]; rfl
    have ih := gplay_loop P d hd b (a ++ [m]) (by rw [e2]; exact hl) (by rw [← e1]; exact h)
    rw [← e1, e2] at ih
    have hlen := run_len a d
    have hlt := hc.lt
    rw [List.length_append, List.length_cons] at h
    refine Ev.step (f := fun k => (bibelotref03_Can.f k (runI d a) (m.1 : Int) m.2 (P : Int)).bind fun t => if t = true then bibelotref03_Play.l0 k ((a ++ m :: b).map mkI) (P : Int) ((runI d a).set m.1 m.2) ((a ++ [m]).length : Int) else some (runI d a, (a.length : Int))) (fun k => ?_) (Ev.bind (canG_ev hc (by omega)) ?_)
    · rw [bibelotref03_Play.l0, if_pos (by simp; omega), if_pos (by omega), rd_midG, w64 (by omega) (by omega)]
      show (bibelotref03_Can.f k (runI d a) (m.1 : Int) m.2 (P : Int)).bind _ = _
      congr 1
      funext t
      have h1 : (0 : Int) ≤ (mkI m).f0 := by show (0 : Int) ≤ (m.1 : Int); omega
      have h2 : (mkI m).f0 < ((runI d a).length : Int) := by show (m.1 : Int) < _; omega
      rw [if_pos h1, if_pos h2]
      simp only [List.length_append, List.length_singleton, Int.natCast_add, Int.natCast_one]
      rfl
    · simp only [if_true]
      exact ih
theorem gplay_ev (P : Nat) (d : List Int) (ms : List (Nat × Int)) (hd : d.length ≤ 1000) (hl : LegG P d ms) (h : ms.length ≤ 1000000) : Ev (fun k => bibelotref03_Play.f k d (ms.map mkI) (P : Int)) (runI d ms, (ms.length : Int)) := by
  have := gplay_loop P d hd ms [] hl (by simpa using h)
  unfold bibelotref03_Play.f
  have hc : ([] : List Int).length + d.length < 17592186044416 := by simp; omega
  simp only [hc, if_true]
  exact this

theorem split3 (on : List Int) (h : 3 ≤ on.length) : ∃ a b m c, on = a :: b :: (m ++ [c]) := by
  match on, h with
  | a :: b :: x :: r, _ =>
    refine ⟨a, b, (x :: r).dropLast, (x :: r).getLast (by simp), ?_⟩
    rw [List.dropLast_concat_getLast]
theorem split2 (on : List Int) (h : 2 ≤ on.length) : ∃ a m c, on = a :: (m ++ [c]) := by
  match on, h with
  | a :: x :: r, _ =>
    refine ⟨a, (x :: r).dropLast, (x :: r).getLast (by simp), ?_⟩
    rw [List.dropLast_concat_getLast]
theorem nth_last (m : List Int) (c : Int) : nth (m ++ [c]) m.length = c := by simp [nth]
/-- Discs f to f + n go from the first peg of on to the last: all the moves can be made, and nothing else is moved. -/
theorem car_good (P : Nat) : ∀ (g f n : Nat) (on d : List Int), n ≤ g → 2 ≤ on.length → (2 ≤ n → 3 ≤ on.length) → on.Nodup → (∀ x, x ∈ on → 0 ≤ x ∧ x < P) → f + n ≤ d.length → (∀ i, f ≤ i → i < f + n → nth d i = nth on 0) → (∀ i, i < f → nth d i ∉ on) →
    LegG P d (carL g f n on) ∧ (∀ i, f ≤ i → i < f + n → nth (runI d (carL g f n on)) i = nth on (on.length - 1)) ∧ (∀ i, i < f ∨ f + n ≤ i → nth (runI d (carL g f n on)) i = nth d i)
  | 0, f, n, on, d, h, _, _, _, _, _, _, _ => ⟨trivial, fun i h1 h2 => by omega, fun _ _ => rfl⟩
  | g + 1, f, n, on, d, hg, h2, h3, hnd, hpg, hfn, hon, hlow => by
    rw [carL]
    by_cases c0 : n = 0
    · rw [if_pos c0]
      exact ⟨trivial, fun i h1 h2 => by omega, fun _ _ => rfl⟩
    · rw [if_neg c0]
      by_cases c1 : n = 1
      · subst c1
        rw [if_pos rfl]
        obtain ⟨a, m, c, rfl⟩ := split2 on h2
        have hl : nth (a :: (m ++ [c])) ((a :: (m ++ [c])).length - 1) = c := by simp [nth]
        have h0 : nth (a :: (m ++ [c])) 0 = a := rfl
        have hac : a ≠ c := fun e => by subst e; simp at hnd
        rw [hl]
        rw [h0] at hon
        have hf := hon f (Nat.le_refl _) (by omega)
        refine ⟨⟨⟨by show f < d.length; omega, hpg c (by simp), by show nth d f ≠ c; rw [hf]; exact hac, fun i hi => ?_⟩, trivial⟩, fun i i1 i2 => ?_, fun i hi => ?_⟩
        · have hi : i < f := hi
          have hn := hlow i hi
          show nth d i ≠ nth d f ∧ nth d i ≠ c
          rw [hf]
          exact ⟨fun e => hn (by rw [e]; simp), fun e => hn (by rw [e]; simp)⟩
        · obtain rfl : i = f := by omega
          exact nth_set_self d i c (by omega)
        · exact nth_set_ne d f i c (by omega)
      · rw [if_neg c1]
        obtain ⟨a, b, m, c, rfl⟩ := split3 on (h3 (by omega))
        obtain ⟨k1, k2⟩ := kOf_bd n (a :: b :: (m ++ [c])).length (by omega)
        have hk3 : 2 ≤ n - kOf n (a :: b :: (m ++ [c])).length → 3 ≤ (a :: b :: (m ++ [c])).length - 1 := fun h => by
          unfold kOf at h
          split at h <;> omega
        generalize kOf n (a :: b :: (m ++ [c])).length = k at *
        have q0 : nth (a :: b :: (m ++ [c])) 0 = a := rfl
        have q1 : nth (a :: b :: (m ++ [c])) 1 = b := rfl
        have ql : nth (a :: b :: (m ++ [c])) ((a :: b :: (m ++ [c])).length - 1) = c := by simp [nth]
        have qd : (a :: b :: (m ++ [c])).drop 2 = m ++ [c] := rfl
        have qt : ((a :: b :: (m ++ [c])).take ((a :: b :: (m ++ [c])).length - 1)).drop 2 = m := by
          rw [List.drop_take]
          show (m ++ [c]).take _ = m
          have : (a :: b :: (m ++ [c])).length - 1 - 2 = m.length := by simp
          rw [this, List.take_left]
        rw [q0, q1, ql, qd, qt]
        rw [q0] at hon
        simp only [List.nodup_cons, List.mem_cons, List.mem_append, List.mem_singleton, not_or, List.nodup_append, List.not_mem_nil, not_false_eq_true, List.nodup_nil, and_true, ne_eq] at hnd
        obtain ⟨⟨nab, nam, nac⟩, ⟨nbm, nbc⟩, nm, -, nmc⟩ := hnd
        have hmem : ∀ x, x ∈ a :: b :: (m ++ [c]) ↔ x = a ∨ x = b ∨ x ∈ m ∨ x = c := fun x => by simp
        have e1 : [a] ++ (m ++ [c]) ++ [b] = a :: (m ++ [c] ++ [b]) := by simp
        have L1 : ([a] ++ (m ++ [c]) ++ [b]).length = (a :: b :: (m ++ [c])).length := by simp <;> omega
        have L2 : ([a] ++ (m ++ [c])).length = (a :: b :: (m ++ [c])).length - 1 := by simp
        have L3 : ([b, a] ++ m ++ [c]).length = (a :: b :: (m ++ [c])).length := by simp <;> omega
        have M1 : ∀ x, x ∈ [a] ++ (m ++ [c]) ++ [b] ↔ x = a ∨ x = b ∨ x ∈ m ∨ x = c := fun x => by simp <;> grind
        have M2 : ∀ x, x ∈ [a] ++ (m ++ [c]) ↔ x = a ∨ x ∈ m ∨ x = c := fun x => by simp
        have M3 : ∀ x, x ∈ [b, a] ++ m ++ [c] ↔ x = a ∨ x = b ∨ x ∈ m ∨ x = c := fun x => by simp <;> grind
        have l1 : nth ([a] ++ (m ++ [c]) ++ [b]) (([a] ++ (m ++ [c]) ++ [b]).length - 1) = b := by
          have : ([a] ++ (m ++ [c]) ++ [b]).length - 1 = ([a] ++ (m ++ [c])).length := by simp
          rw [this, nth_last]
        have l2 : nth ([a] ++ (m ++ [c])) (([a] ++ (m ++ [c])).length - 1) = c := by
          have : ([a] ++ (m ++ [c])).length - 1 = ([a] ++ m).length := by simp
          rw [this, ← List.append_assoc, nth_last]
        have l3 : nth ([b, a] ++ m ++ [c]) (([b, a] ++ m ++ [c]).length - 1) = c := by
          have : ([b, a] ++ m ++ [c]).length - 1 = ([b, a] ++ m).length := by simp
          rw [this, nth_last]
        obtain ⟨r1, r2, r3⟩ := car_good P g f k ([a] ++ (m ++ [c]) ++ [b]) d (by omega) (by omega) (fun _ => by omega) (by
            simp only [List.nodup_cons, List.cons_append, List.nil_append, List.mem_cons, List.mem_append, List.mem_singleton, not_or, List.nodup_append, List.not_mem_nil, not_false_eq_true, List.nodup_nil, and_true, ne_eq]
            grind) (fun x hx => hpg x ((hmem x).2 ((M1 x).1 hx))) (by omega) (fun i i1 i2 => hon i i1 (by omega)) (fun i hi hx => hlow i hi ((hmem _).2 ((M1 _).1 hx)))
        generalize carL g f k ([a] ++ (m ++ [c]) ++ [b]) = p1 at *
        have hd1 : (runI d p1).length = d.length := run_len _ _
        obtain ⟨s1, s2, s3⟩ := car_good P g (f + k) (n - k) ([a] ++ (m ++ [c])) (runI d p1) (by omega) (by omega) (fun h => by have := hk3 h; omega) (by simp only [List.nodup_cons, List.cons_append, List.nil_append, List.mem_cons, List.mem_append, List.mem_singleton, not_or, List.nodup_append, List.not_mem_nil, not_false_eq_true, List.nodup_nil, and_true, ne_eq]; grind) (fun x hx => hpg x ((hmem x).2 (by have := (M2 x).1 hx; grind))) (by omega) (fun i i1 i2 => by rw [r3 i (.inr (by omega))]; exact hon i (by omega) (by omega)) (fun i hi hx => by
            by_cases c : i < f
            · rw [r3 i (.inl c)] at hx
              exact hlow i c ((hmem _).2 (by have := (M2 _).1 hx; grind))
            · rw [r2 i (by omega) (by omega), l1] at hx
              have := (M2 _).1 hx
              grind)
        generalize carL g (f + k) (n - k) ([a] ++ (m ++ [c])) = p2 at *
        have hd2 : (runI (runI d p1) p2).length = d.length := by rw [run_len, hd1]
        obtain ⟨t1, t2, t3⟩ := car_good P g f k ([b, a] ++ m ++ [c]) (runI (runI d p1) p2) (by omega) (by omega) (fun _ => by omega) (by simp only [List.nodup_cons, List.cons_append, List.nil_append, List.mem_cons, List.mem_append, List.mem_singleton, not_or, List.nodup_append, List.not_mem_nil, not_false_eq_true, List.nodup_nil, and_true, ne_eq]; grind) (fun x hx => hpg x ((hmem x).2 ((M3 x).1 hx))) (by omega) (fun i i1 i2 => by rw [s3 i (.inl (by omega)), r2 i i1 (by omega), l1]; rfl) (fun i hi hx => by
            rw [s3 i (.inl (by omega)), r3 i (.inl hi)] at hx
            exact hlow i hi ((hmem _).2 ((M3 _).1 hx)))
        generalize carL g f k ([b, a] ++ m ++ [c]) = p3 at *
        refine ⟨?_, fun i i1 i2 => ?_, fun i hi => ?_⟩
        · rw [legG_append, run_append, legG_append]
          exact ⟨⟨r1, s1⟩, t1⟩
        · rw [run_append, run_append]
          by_cases c : i < f + k
          · rw [t2 i i1 c, l3]
          · rw [t3 i (.inr (by omega)), s2 i (by omega) (by omega), l2]
        · rw [run_append, run_append]
          rw [t3 i (by omega), s3 i (by omega), r3 i (by omega)]
end Go.Proofs.YtnaaomhmoamfpaaDoor.G
/- The document's Frame: what it comes to. -/
namespace Go.Proofs.YtnaaomhmoamfpaaDoor.Pure
set_option linter.unusedVariables false
set_option linter.unusedSimpArgs false
set_option linter.unusedSectionVars false
open Go.Proofs.YtnaaomhmoamfpaaDoor.G Go.Proofs.YtnaaomhmoamfpaaDoor.Hn
open Go.RowKit Go.Proofs.YtnaaomhmoamfpaaDoor.Q Go.Proofs.YtnaaomhmoamfpaaDoorW.PrintWords Go.Proofs.YtnaaomhmoamfpaaDoorW.PrintLast Go.Proofs.YtnaaomhmoamfpaaDoorW.PrintMore

/-- The first numbers of a row. -/
def tbl (m n : Nat) : List Int := (List.range n).map (fr m)
theorem tbl_len (m n : Nat) : (tbl m n).length = n := by simp [tbl]
theorem tbl_rd (m n j : Nat) (h : j < n) : rd (tbl m n) (j : Int) = fr m j := by rw [rd_nth]; simp [nth, tbl, h]
theorem tbl_succ (m n : Nat) : tbl m n ++ [fr m n] = tbl m (n + 1) := by simp [tbl, List.range_succ]
theorem tbl_two (m : Nat) : tbl m 2 = [0, 1] := by simp [tbl, List.range_succ, fr_zero, fr_one]
theorem fr_40 (m d : Nat) (hd : d ≤ 40) : 0 ≤ fr m d ∧ fr m d ≤ 1099511627776 := by
  have h := fr_bound m d
  have := pow_le hd
  have := p40
  omega
def bst (m d i : Nat) : Int := if i = 1 then 1152921504606846976 else (bl (fx m d) (i - 1)).1
theorem bst_step (m d i : Nat) (h1 : 1 ≤ i) (hid : i ≤ d) (hd : d ≤ 40) : mn (bst m d i) (fx m d i) = bst m d (i + 1) := by
  have a := fr_40 (m + 1) i (by omega)
  have b := fr_40 m (d - i) (by omega)
  have hf : fx m d i = 2 * fr (m + 1) i + fr m (d - i) := rfl
  unfold bst mn
  rw [if_neg (show ¬ i + 1 = 1 by omega), Nat.add_sub_cancel]
  by_cases e : i = 1
  · subst e
    rw [if_pos rfl, if_pos (by omega)]
    simp [bl]
  · rw [if_neg e]
    obtain ⟨j, rfl⟩ : ∃ j, i = j + 1 := ⟨i - 1, by omega⟩
    rw [Nat.add_sub_cancel]
    conv => rhs; unfold bl
    by_cases h : fx m d (j + 1) < (bl (fx m d) j).1
    · rw [if_pos h, if_pos (.inr h)]
    · rw [if_neg h, if_neg (by omega)]

section
variable (n P : Nat) (hn : n ≤ 40) (hP3 : 3 ≤ P) (hP8 : P ≤ 8)
include hn hP3 hP8
theorem frm_l3 (m d R : Nat) (hm : m ≤ 8) (hd2 : 2 ≤ d) (hd : d ≤ n) (hR : n < R) (r : Int) (hc : Ev (fun k => bibelotref03_Frame.l2 k (n : Int) (P : Int) (tbl m R) ((m + 4 : Nat) : Int) (tbl (m + 1) (d + 1)) ((d + 1 : Nat) : Int)) r) :
    ∀ e i, 1 ≤ i → i + e = d → Ev (fun k => bibelotref03_Frame.l3 k (n : Int) (P : Int) (tbl m R) ((m + 4 : Nat) : Int) (tbl (m + 1) d) (d : Int) (bst m d i) (i : Int)) r
  | 0, i, h1, h => by
    obtain rfl : i = d := by omega
    refine Ev.step (fun k => ?_) hc
    have e : bst m i i = fr (m + 1) i := by rw [bst, if_neg (by omega), fr_step m i hd2]
    rw [bibelotref03_Frame.l3, if_neg (by omega), if_pos (by rw [tbl_len]; omega), e, tbl_succ, w64 (by omega) (by omega)]
    rfl
  | e + 1, i, h1, h => by
    refine Ev.step (fun k => ?_) (frm_l3 m d R hm hd2 hd hR r hc e (i + 1) (by omega) (by omega))
    have a := fr_40 (m + 1) i (by omega)
    have b := fr_40 m (d - i) (by omega)
    have e1 : wrap64 ((d : Int) - (i : Int)) = ((d - i : Nat) : Int) := by rw [w64 (by omega) (by omega)]; omega
    rw [bibelotref03_Frame.l3, if_pos (by omega), if_pos (by omega), tbl_len, if_pos (by omega), e1, if_pos (by omega), tbl_len, if_pos (by omega), tbl_rd _ _ _ (by omega), tbl_rd _ _ _ (by omega), w64 (x := 2 * fr (m + 1) i) (by omega) (by omega),
      w64 (x := 2 * fr (m + 1) i + fr m (d - i)) (by omega) (by omega), w64 (by omega) (by omega)]
    have e2 : mn (bst m d i) (2 * fr (m + 1) i + fr m (d - i)) = bst m d (i + 1) := bst_step m d i h1 (by omega) (by omega)
    rw [e2]
    rfl
theorem frm_l2 (m R : Nat) (hm : m ≤ 8) (hR : n < R) (r : Int) (hc : ∀ R', n < R' → R' ≤ 42 → Ev (fun k => bibelotref03_Frame.l1 k (n : Int) (P : Int) (tbl (m + 1) R') ((m + 5 : Nat) : Int)) r) :
    ∀ e j, 2 ≤ j → j ≤ 42 → (e = 0 → n < j) → (0 < e → j + e = n + 1) → Ev (fun k => bibelotref03_Frame.l2 k (n : Int) (P : Int) (tbl m R) ((m + 4 : Nat) : Int) (tbl (m + 1) j) (j : Int)) r
  | 0, j, h1, h2, h3, h4 => by
    refine Ev.step (fun k => ?_) (hc j (h3 rfl) h2)
    have := h3 rfl
    rw [bibelotref03_Frame.l2, if_neg (by omega), w64 (by omega) (by omega)]
    rfl
  | e + 1, j, h1, h2, h3, h4 => by
    have := h4 (by omega)
    refine Ev.step (fun k => ?_) (frm_l3 n P hn hP3 hP8 m j R hm h1 (by omega) hR r (frm_l2 m R hm hR r hc e (j + 1) (by omega) (by omega) (fun _ => by omega) (fun _ => by omega)) (j - 1) 1 (Nat.le_refl _) (by omega))
    rw [bibelotref03_Frame.l2, if_pos (by omega)]
    rfl
theorem frm_l1 : ∀ e m R, m + e + 3 = P → n < R → R ≤ 42 → Ev (fun k => bibelotref03_Frame.l1 k (n : Int) (P : Int) (tbl m R) ((m + 4 : Nat) : Int)) (fr (P - 3) n)
  | 0, m, R, h, h1, h2 => by
    refine Ev.step (fun k => ?_) (Ev.now _)
    have e : P - 3 = m := by omega
    rw [bibelotref03_Frame.l1, if_neg (by omega), if_pos (by omega), tbl_len, if_pos (by omega), tbl_rd _ _ _ h1, e]
  | e + 1, m, R, h, h1, h2 => by
    refine Ev.step (fun k => ?_) (frm_l2 n P hn hP3 hP8 m R (by omega) h1 _ (fun R' g1 g2 => frm_l1 e (m + 1) R' (by omega) g1 g2) (n + 1 - 2) 2 (Nat.le_refl _) (by omega) (fun _ => by omega) (fun _ => by omega))
    rw [bibelotref03_Frame.l1, if_pos (by omega), tbl_two]
    rfl
theorem frm_l0 : ∀ e i, i + e = n + 1 → Ev (fun k => bibelotref03_Frame.l0 k (n : Int) (P : Int) (tbl 0 i) (i : Int)) (fr (P - 3) n)
  | 0, i, h => by
    obtain rfl : i = n + 1 := by omega
    refine Ev.step (fun k => ?_) (frm_l1 n P hn hP3 hP8 (P - 3) 0 (n + 1) (by omega) (by omega) (by omega))
    rw [bibelotref03_Frame.l0, if_neg (by omega)]
    rfl
  | e + 1, i, h => by
    refine Ev.step (fun k => ?_) (frm_l0 e (i + 1) (by omega))
    have hp := pow_pos' i
    have hp2 := pow_le (show i ≤ 40 by omega)
    have hp3 := p40
    have e1 : (2 : Int) ^ i - 1 = fr 0 i := rfl
    rw [bibelotref03_Frame.l0, if_pos (by omega), if_pos (by omega), if_pos (by rw [tbl_len]; omega), shl1 i (by omega), w64 (x := 2 ^ i - 1) (by omega) (by omega), e1, tbl_succ, w64 (by omega) (by omega)]
    rfl
theorem frame_ev : Ev (fun k => bibelotref03_Frame.f k (n : Int) (P : Int)) (fr (P - 3) n) := frm_l0 n P hn hP3 hP8 (n + 1) 0 (by omega)
end

end Go.Proofs.YtnaaomhmoamfpaaDoor.Pure
/- HanoiFrameWays: a way with Frame's number of moves leads to the last peg, or ErrArg. -/
namespace Go.Proofs.YtnaaomhmoamfpaaDoor.Pure
set_option linter.unusedVariables false
set_option linter.unusedSimpArgs false
set_option linter.unusedSectionVars false
open Go.Proofs.YtnaaomhmoamfpaaDoor.G Go.Proofs.YtnaaomhmoamfpaaDoor.Hn
open Go.RowKit Go.Proofs.YtnaaomhmoamfpaaDoor.Q Go.Proofs.YtnaaomhmoamfpaaDoorW.PrintWords Go.Proofs.YtnaaomhmoamfpaaDoorW.PrintLast Go.Proofs.YtnaaomhmoamfpaaDoorW.PrintMore

theorem nth_rep (n : Nat) (x : Int) (i : Nat) (h : i < n) : nth (List.replicate n x) i = x := by simp [nth, h]
theorem nth_onL (p i : Nat) (h : i < p) : nth (onL p) i = (i : Int) := by simp [nth, onL, h]
/-- The way of FrameWay can be made, and ends on the last peg. -/
theorem fw_good (n p : Nat) (hp : 3 ≤ p) : LegG p (List.replicate n 0) (fwL n p) ∧ ∀ i, i < n → nth (runI (List.replicate n 0) (fwL n p)) i = (p : Int) - 1 := by
  obtain ⟨h1, h2, _⟩ := car_good p n 0 n (onL p) (List.replicate n 0) (Nat.le_refl _) (by rw [onL_len]; omega) (fun _ => by rw [onL_len]; omega)
    (by
      unfold onL
      rw [List.nodup_iff_pairwise_ne, List.pairwise_map]
      exact (List.nodup_iff_pairwise_ne.1 List.nodup_range).imp (fun h e => h (Int.ofNat.inj e)))
    (fun x hx => by
      unfold onL at hx
      obtain ⟨i, hi, rfl⟩ := List.mem_map.1 hx
      have := List.mem_range.1 hi
      exact ⟨Int.natCast_nonneg i, Int.ofNat_lt.2 this⟩)
    (by rw [List.length_replicate]; omega) (fun i _ hi => by rw [nth_rep n 0 i (by omega), nth_onL p 0 (by omega)]; rfl) (fun i hi => by omega)
  refine ⟨h1, fun i hi => ?_⟩
  have h3 := h2 i (Nat.zero_le _) (by omega)
  rw [onL_len, nth_onL p (p - 1) (by omega)] at h3
  show nth (runI (List.replicate n 0) (carL n 0 n (onL p))) i = _
  rw [h3]
  omega

section
variable (n p : Nat) (hn : n ≤ 40) (hp3 : 3 ≤ p) (hp8 : p ≤ 8) (x5 : Int) (hx : x5 = 0 ∨ x5 = 1) (h : Ev (fun k => bibelotlaw03_HanoiFrameWays.l0 k (umod (n : Int) 25) (3 + umod (p : Int) 6) (x5 + 1)) true)
include hn hp3 hp8 hx h
theorem fw_l2 (e : List Int) (hl : e.length = n) (he : ∀ i, i < n → nth e i = (p : Int) - 1) : ∀ d i, i + d = n → Ev (fun k => bibelotlaw03_HanoiFrameWays.l2 k (n : Int) (p : Int) x5 e (i : Int)) true
  | 0, i, hi => by
    have b0 := umod_bd (n : Int) 25 (by omega)
    have b1 := umod_bd (p : Int) 6 (by omega)
    have w0 : wrap64 (Int.tmod (IntKind.u64.wrap (n : Int)) 25) = umod (n : Int) 25 := by rw [utmod, w64 (by omega) (by omega)]
    have w1 : wrap64 (3 + wrap64 (Int.tmod (IntKind.u64.wrap (p : Int)) 6)) = 3 + umod (p : Int) 6 := by rw [utmod, w64 (x := umod (p : Int) 6) (by omega) (by omega), w64 (by omega) (by omega)]
    refine Ev.step (fun k => ?_) h
    rw [bibelotlaw03_HanoiFrameWays.l2, if_neg (by omega), w0, w1, w64 (x := x5 + 1) (by omega) (by omega)]
  | d + 1, i, hi => by
    refine Ev.step (fun k => ?_) (fw_l2 e hl he d (i + 1) (by omega))
    rw [bibelotlaw03_HanoiFrameWays.l2, if_pos (by omega), if_pos (by omega), if_pos (by omega), rd_nth, he i (by omega), w64 (x := (p : Int) - 1) (by omega) (by omega), if_pos rfl, w64 (by omega) (by omega)]
    rfl
theorem fw_l1 (hs : fr (p - 3) n ≤ 5000) : ∀ d i, i + d = n → Ev (fun k => bibelotlaw03_HanoiFrameWays.l1 k (n : Int) (p : Int) x5 ((fwL n p).map mkI) 0 (List.replicate i 0) (i : Int)) true
  | 0, i, hi => by
    obtain rfl : i = n := by omega
    have hlen := fwL_len i p hp3
    obtain ⟨g1, g2⟩ := fw_good i p hp3
    refine Ev.step (f := fun k => (bibelotref03_Frame.f k (i : Int) (p : Int)).bind fun t => bibelotlaw03_HanoiFrameWays.j4 k (i : Int) (p : Int) x5 ((fwL i p).map mkI) (List.replicate i 0) ((((fwL i p).map mkI).length : Int) != t)) (fun k => ?_) (Ev.bind (frame_ev i p hn hp3 hp8) ?_)
    · rw [bibelotlaw03_HanoiFrameWays.l1, if_neg (by omega), if_pos rfl]
    · rw [List.length_map, hlen, bne_self_eq_false]
      refine Ev.step (fun k => by rw [bibelotlaw03_HanoiFrameWays.j4, if_neg (by simp)]) (Ev.bind (gplay_ev p (List.replicate i 0) (fwL i p) (by rw [List.length_replicate]; omega) g1 (by omega)) ?_)
      simp only [List.length_map, if_true]
      exact fw_l2 i p hn hp3 hp8 x5 hx h _ (by rw [run_len, List.length_replicate]) g2 i 0 (by omega)
  | d + 1, i, hi => by
    refine Ev.step (fun k => ?_) (fw_l1 hs d (i + 1) (by omega))
    rw [bibelotlaw03_HanoiFrameWays.l1, if_pos (by omega), if_pos (by rw [List.length_replicate]; omega), w64 (by omega) (by omega), ← List.replicate_succ']
    rfl
end
theorem fw_round (x0 x1 x5 : Int) (hx : x5 = 0 ∨ x5 = 1) (h : Ev (fun k => bibelotlaw03_HanoiFrameWays.l0 k (umod x0 25) (3 + umod x1 6) (x5 + 1)) true) : Ev (fun k => bibelotlaw03_HanoiFrameWays.l0 k x0 x1 x5) true := by
  have hw : wrap64 (x5 + 1) = x5 + 1 := w64 (by omega) (by omega)
  have b0 := umod_bd x0 25 (by omega)
  have b1 := umod_bd x1 6 (by omega)
  have w0 : wrap64 (Int.tmod (IntKind.u64.wrap x0) 25) = umod x0 25 := by rw [utmod, w64 (by omega) (by omega)]
  have w1 : wrap64 (3 + wrap64 (Int.tmod (IntKind.u64.wrap x1) 6)) = 3 + umod x1 6 := by rw [utmod, w64 (x := umod x1 6) (by omega) (by omega), w64 (by omega) (by omega)]
  have bad : Ev (fun k => bibelotlaw03_HanoiFrameWays.j2 k x0 x1 x5 [] 1 true) true := by
    refine Ev.step (fun k => ?_) h
    have hl : (([] : List S52).length : Int) = 0 := rfl
    rw [bibelotlaw03_HanoiFrameWays.j2, if_pos rfl, if_pos rfl, if_pos hl, w0, w1, hw]
  by_cases ha : asked x0 x1 = true
  · obtain ⟨h1, h2, h3, h4⟩ := (asked_iff x0 x1).1 ha
    obtain ⟨n, rfl⟩ := Int.eq_ofNat_of_zero_le h1
    obtain ⟨P, rfl⟩ := Int.eq_ofNat_of_zero_le (show 0 ≤ x1 by omega)
    have hfe := frame_ev n P (by omega) (by omega) (by omega)
    by_cases hs : 5000 < fr (P - 3) n
    · have hF : hanoi_FrameWay.f (n : Int) (P : Int) = some ([], 1) := by unfold hanoi_FrameWay.f; rw [if_pos ha]; exact if_pos hs
      refine Ev.step (f := fun k => bibelotlaw03_HanoiFrameWays.j1 k (n : Int) (P : Int) x5 [] 1 false) (fun k => ?_) (Ev.step (fun k => by rw [bibelotlaw03_HanoiFrameWays.j1, if_neg (by simp)]) (Ev.bind hfe ?_))
      · rw [bibelotlaw03_HanoiFrameWays.l0, if_pos (by omega), hF, Option.bind_some, if_neg (by omega), if_neg (by omega), if_neg (by omega), decide_eq_false (show ¬ (P : Int) > 8 by omega)]
      · rw [decide_eq_true (show fr (P - 3) n > 5000 from hs)]
        exact bad
    · have hF : hanoi_FrameWay.f (n : Int) (P : Int) = some ((fwL n P).map mkI, 0) := by unfold hanoi_FrameWay.f; rw [if_pos ha]; exact if_neg hs
      refine Ev.step (f := fun k => bibelotlaw03_HanoiFrameWays.j1 k (n : Int) (P : Int) x5 ((fwL n P).map mkI) 0 false) (fun k => ?_) (Ev.step (fun k => by rw [bibelotlaw03_HanoiFrameWays.j1, if_neg (by simp)]) (Ev.bind hfe ?_))
      · rw [bibelotlaw03_HanoiFrameWays.l0, if_pos (by omega), hF, Option.bind_some, if_neg (by omega), if_neg (by omega), if_neg (by omega), decide_eq_false (show ¬ (P : Int) > 8 by omega)]
      · rw [decide_eq_false (show ¬ fr (P - 3) n > 5000 from hs)]
        exact Ev.step (fun k => by rw [bibelotlaw03_HanoiFrameWays.j2, if_neg (by simp)]; rfl) (fw_l1 n P (by omega) (by omega) (by omega) x5 hx h (by omega) n 0 (by omega))
  · have hF : hanoi_FrameWay.f x0 x1 = some ([], 1) := by unfold hanoi_FrameWay.f; rw [if_neg ha]
    have ha2 : ¬ (0 ≤ x0 ∧ x0 ≤ 40 ∧ 3 ≤ x1 ∧ x1 ≤ 8) := fun hh => ha ((asked_iff x0 x1).2 hh)
    refine Ev.step (f := fun k => bibelotlaw03_HanoiFrameWays.j1 k x0 x1 x5 [] 1 true) (fun k => ?_) (Ev.step (fun k => by rw [bibelotlaw03_HanoiFrameWays.j1, if_pos rfl]) bad)
    rw [bibelotlaw03_HanoiFrameWays.l0, if_pos (by omega), hF, Option.bind_some]
    by_cases h1 : x0 < 0
    · rw [if_pos h1]
    · rw [if_neg h1]
      by_cases h2 : x0 > 40
      · rw [if_pos h2]
      · rw [if_neg h2]
        by_cases h3 : x1 < 3
        · rw [if_pos h3]
        · rw [if_neg h3, decide_eq_true (show x1 > 8 by omega)]
theorem HanoiFrameWays : bibelotlaw03_HanoiFrameWays.Pure := by
  intro a0 a1 _ _
  refine Ev.rounds (fw_round a0 a1 0 (.inl rfl) (fw_round _ _ 1 (.inr rfl) ?_))
  refine Ev.step (f := fun k => (bibelotlaw03_awake.f k).bind fun t => some t) (fun k => ?_) (Ev.bind awake_ev (Ev.now true))
  rw [bibelotlaw03_HanoiFrameWays.l0, if_neg (by omega)]
end Go.Proofs.YtnaaomhmoamfpaaDoor.Pure
