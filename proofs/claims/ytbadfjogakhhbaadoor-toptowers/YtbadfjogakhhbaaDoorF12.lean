/- The small machine: regions whose order is drawn come to what they come to in order. -/
import Derived.Test.YtbadfjogakhhbaaDoorF11
namespace Go.Proofs.YtbadfjogakhhbaaDoor.Re
open Go Go.RowKit
set_option linter.unusedVariables false
set_option linter.unusedSimpArgs false
set_option linter.unusedSectionVars false
variable [Sig]
section
variable {P : Program} {G : Nat → Option Obj} {B : Nat → Prop} {K : Orc} {rec : Rec} {ops : Array Oper}
def evE (P : Program) (G : Nat → Option Obj) (K : Orc) (rec : Rec) (st : St) (fr : Fr) (o : Oper) : Option (V × St) := match opE P st fr o with
  | some r => some r
  | none => callOp P G K rec st fr o
/-- What an entry tells of its operation; s': what holds behind it. -/
def EntOK (P : Program) (G : Nat → Option Obj) (K : Orc) (rec : Rec) (ops : Array Oper) (o : Oper) (e : Ent) (s' : St) : Prop :=
  (e.c = 3 ∧ wantB ops e.fr o = some false ∧ e.v = .raw undef ∧ s' = e.st) ∨
  (wantB ops e.fr o = some true ∧ ((e.c = 0 ∧ opP P e.fr o = some e.v ∧ s' = e.st) ∨ (e.c = 1 ∧ opL P G e.st e.fr o = some e.v ∧ s' = e.st) ∨ (e.c = 2 ∧ evE P G K rec e.st e.fr o = some (e.v, s'))))
theorem evK_ok {st : St} {fr : Fr} {o : Oper} {c : Nat} {v : V} {s' : St} (h : evK P G K rec st fr o = some (c, v, s')) :
    (c = 0 ∧ opP P fr o = some v ∧ s' = st) ∨ (c = 1 ∧ opL P G st fr o = some v ∧ s' = st) ∨ (c = 2 ∧ evE P G K rec st fr o = some (v, s')) := by
  unfold evK at h
  split at h
  · rename_i u hu
    injection h with h; injection h with h1 h2; injection h2 with h2 h3
    subst h1 h2 h3
    exact .inl ⟨rfl, hu, rfl⟩
  · split at h
    · rename_i u hu
      injection h with h; injection h with h1 h2; injection h2 with h2 h3
      subst h1 h2 h3
      exact .inr (.inl ⟨rfl, hu, rfl⟩)
    · split at h
      · rename_i u s hu
        injection h with h; injection h with h1 h2; injection h2 with h2 h3
        subst h1 h2 h3
        exact .inr (.inr ⟨rfl, by simp [evE, hu]⟩)
      · rename_i hn
        split at h
        · rename_i u s hu
          injection h with h; injection h with h1 h2; injection h2 with h2 h3
          subst h1 h2 h3
          exact .inr (.inr ⟨rfl, by simp [evE, hn, hu]⟩)
        · cases h
def frs (log : List Ent) (f : Fr) : List Fr := log.map Ent.fr ++ [f]
def sts (log : List Ent) (s : St) : List St := log.map Ent.st ++ [s]
theorem logR_spec : ∀ (l : List Oper) (fr : Fr) (st : St) (log : List Ent) (f : Fr) (s : St), logR P G K rec ops l fr st = some (log, f, s) →
    log.length = l.length ∧ (frs log f)[0]? = some fr ∧ (sts log s)[0]? = some st ∧
    ∀ i o e, l[i]? = some o → log[i]? = some e → ∃ f' s', (frs log f)[i + 1]? = some f' ∧ (sts log s)[i + 1]? = some s' ∧ putT e.fr o.dst e.v = some f' ∧ EntOK P G K rec ops o e s'
  | [], fr, st, log, f, s, h => by
    simp only [logR] at h
    injection h with h; injection h with h1 h2; injection h2 with h2 h3
    subst h1 h2 h3
    exact ⟨rfl, rfl, rfl, fun i o e hl => by simp at hl⟩
  | o :: l, fr, st, log, f, s, h => by
    have key : ∀ (c : Nat) (v : V) (fr' : Fr) (s' : St) (log' : List Ent), logR P G K rec ops l fr' s' = some (log', f, s) → log = ⟨fr, st, c, v⟩ :: log' → putT fr o.dst v = some fr' → EntOK P G K rec ops o ⟨fr, st, c, v⟩ s' →
        log.length = (o :: l).length ∧ (frs log f)[0]? = some fr ∧ (sts log s)[0]? = some st ∧
        ∀ i o' e, (o :: l)[i]? = some o' → log[i]? = some e → ∃ f' s', (frs log f)[i + 1]? = some f' ∧ (sts log s)[i + 1]? = some s' ∧ putT e.fr o'.dst e.v = some f' ∧ EntOK P G K rec ops o' e s' := by
      intro c v fr' s' log' hl he hp hE
      obtain ⟨i1, i2, i3, i4⟩ := logR_spec l fr' s' log' f s hl
      subst he
      refine ⟨by simp [i1], rfl, rfl, ?_⟩
      intro i o' e hi he
      cases i with
      | zero =>
        simp at hi he
        subst hi he
        exact ⟨fr', s', by simpa [frs] using i2, by simpa [sts] using i3, hp, hE⟩
      | succ i =>
        simp at hi he
        obtain ⟨f', s'', q1, q2, q3, q4⟩ := i4 i o' e hi he
        exact ⟨f', s'', by simpa [frs] using q1, by simpa [sts] using q2, q3, q4⟩
    simp only [logR] at h
    split at h
    · rename_i hw
      split at h
      · rename_i c v s' hev
        split at h
        · rename_i fr' hp
          split at h
          · rename_i log' f' s'' hl
            injection h with h; injection h with h1 h2; injection h2 with h2 h3
            subst h2 h3
            exact key c v fr' s' log' hl h1.symm hp (.inr ⟨hw, evK_ok hev⟩)
          · cases h
        · cases h
      · cases h
    · rename_i hw
      split at h
      · rename_i fr' hp
        split at h
        · rename_i log' f' s'' hl
          injection h with h; injection h with h1 h2; injection h2 with h2 h3
          subst h2 h3
          exact key 3 (.raw undef) fr' st log' hl h1.symm hp (.inl ⟨rfl, hw, rfl, rfl⟩)
        · cases h
      · cases h
    · cases h
theorem okDst_ok : ∀ {l : List Oper}, okDst l = true → ∀ {i j : Nat} {oi oj : Oper} {t : Nat}, l[i]? = some oi → l[j]? = some oj → oi.dst = some t → oj.dst = some t → i = j
  | [], _, i, j, oi, oj, t, hi, _, _, _ => by simp at hi
  | o :: l, h, i, j, oi, oj, t, hi, hj, ti, tj => by
    simp only [okDst, Bool.and_eq_true] at h
    have clash : ∀ (k : Nat) (ok : Oper), l[k]? = some ok → ok.dst = some t → o.dst = some t → False := fun k ok hk ht ho => by
      have h1 := h.1
      rw [ho] at h1
      have := List.all_eq_true.1 h1 ok (List.mem_of_getElem? hk)
      simp [dstIs, ht] at this
    cases i with
    | zero =>
      cases j with
      | zero => rfl
      | succ j =>
        simp at hi hj
        subst hi
        exact (clash j oj hj tj ti).elim
    | succ i =>
      cases j with
      | zero =>
        simp at hi hj
        subst hj
        exact (clash i oi hi ti tj).elim
      | succ j =>
        simp at hi hj
        rw [okDst_ok h.2 hi hj ti tj]
theorem okEdges_ok : ∀ {l : List Oper} {b : Nat}, okEdges l b = true → ∀ {i : Nat} {o : Oper}, l[i]? = some o → ∀ e ∈ o.after.toList, Region.binds .any e = true → e.on < b + i
  | [], b, _, i, o, hi => by simp at hi
  | o :: l, b, h, i, o', hi => by
    simp only [okEdges, Bool.and_eq_true] at h
    intro e he hb
    cases i with
    | zero =>
      simp at hi
      subst hi
      have := List.all_eq_true.1 h.1 e he
      rw [hb] at this
      simp at this
      omega
    | succ i =>
      simp at hi
      have := okEdges_ok h.2 hi e he hb
      omega
theorem mem_tmpsOf : ∀ {l : List Operand} {t : Nat}, Operand.tmp t ∈ l → t ∈ tmpsOf l
  | [], t, h => by cases h
  | x :: l, t, h => by
    cases h with
    | head => simp [tmpsOf]
    | tail _ h =>
      cases x <;> simp only [tmpsOf] <;> first | exact mem_tmpsOf h | exact List.mem_cons_of_mem _ (mem_tmpsOf h)
theorem okRead_ok {m : List Nat} {j : Nat} {ts : List Nat} : ∀ {l : List Oper} {b : Nat}, okRead ops m j ts l b = true → ∀ {i : Nat} {o : Oper}, l[i]? = some o → ∀ t ∈ ts, o.dst = some t → b + i = j ∨ (m.getD j 0).testBit (b + i) = true ∨ (m.getD (b + i) 0).testBit j = true
  | [], b, _, i, o, hi => by simp at hi
  | o :: l, b, h, i, o', hi => by
    simp only [okRead, Bool.and_eq_true, Bool.or_eq_true] at h
    intro t ht hd
    cases i with
    | zero =>
      simp at hi
      subst hi
      rcases h.1 with h1 | h1
      · exact .inl (by simpa using Nat.eq_of_beq_eq_true h1)
      · have := List.all_eq_true.1 h1 t ht
        simp [dstIs, hd] at this
        exact .inr this
    | succ i =>
      simp at hi
      have := okRead_ok h.2 hi t ht hd
      rw [show b + (i + 1) = b + 1 + i by omega]
      exact this
theorem okReads_ok {m : List Nat} {all : List Oper} : ∀ {l : List Oper} {b : Nat}, okReads ops m all l b = true → ∀ {j : Nat} {o : Oper}, l[j]? = some o → okRead ops m (b + j) (tmpsOf (looksL ops o)) all 0 = true
  | [], b, _, i, o, hi => by simp at hi
  | o :: l, b, h, j, o', hj => by
    simp only [okReads, Bool.and_eq_true] at h
    cases j with
    | zero => simp at hj; subst hj; exact h.1
    | succ j =>
      simp at hj
      have := okReads_ok h.2 hj
      rw [show b + (j + 1) = b + 1 + j by omega]
      exact this
theorem okEff_ok {m : List Nat} : ∀ {l : List Nat}, okEff m l = true → ∀ {p q : Nat} {i j : Nat}, p < q → l[p]? = some i → l[q]? = some j → (m.getD j 0).testBit i = true
  | [], _, p, q, i, j, _, hp, _ => by simp at hp
  | x :: l, h, p, q, i, j, hpq, hp, hq => by
    simp only [okEff, Bool.and_eq_true] at h
    cases q with
    | zero => omega
    | succ q =>
      simp at hq
      cases p with
      | zero =>
        simp at hp
        subst hp
        exact List.all_eq_true.1 h.1 j (List.mem_of_getElem? hq)
      | succ p =>
        simp at hp
        exact okEff_ok h.2 (by omega) hp hq
theorem okEffF_ok {m : List Nat} {f : Nat} : ∀ {l : List Nat}, okEffF m f l = true → ∀ {p q : Nat} {i j : Nat}, p < q → l[p]? = some i → l[q]? = some j → (m.getD j 0).testBit i = true ∨ j = f
  | [], _, p, q, i, j, _, hp, _ => by simp at hp
  | x :: l, h, p, q, i, j, hpq, hp, hq => by
    simp only [okEffF, Bool.and_eq_true] at h
    cases q with
    | zero => omega
    | succ q =>
      simp at hq
      cases p with
      | zero =>
        simp at hp
        subst hp
        have := List.all_eq_true.1 h.1 j (List.mem_of_getElem? hq)
        simp only [Bool.or_eq_true] at this
        exact this.imp id Nat.eq_of_beq_eq_true
      | succ p =>
        simp at hp
        exact okEffF_ok h.2 (by omega) hp hq
theorem prevOf_ok {f x : Nat} : ∀ {l : List Nat}, prevOf f l = some x → ∃ p, l[p]? = some x ∧ l[p + 1]? = some f
  | [], h => by simp [prevOf] at h
  | [_], h => by simp [prevOf] at h
  | a :: b :: r, h => by
    unfold prevOf at h
    split at h
    · rename_i hb
      injection h with h
      exact ⟨0, by simp [h], by simp [Nat.eq_of_beq_eq_true hb]⟩
    · obtain ⟨p, h1, h2⟩ := prevOf_ok h
      exact ⟨p + 1, by simpa using h1, by simpa using h2⟩
theorem okRdF_ok {m : List Nat} {x t : Nat} : ∀ {l : List Oper} {b : Nat}, okRdF ops m x t l b = true → ∀ {j : Nat} {o : Oper}, l[j]? = some o → t ∈ tmpsOf (looksL ops o) → (m.getD (b + j) 0).testBit x = true
  | [], b, _, j, o, hj, _ => by simp at hj
  | o :: l, b, h, j, o', hj, ht => by
    simp only [okRdF, Bool.and_eq_true, Bool.or_eq_true] at h
    cases j with
    | zero =>
      simp at hj
      subst hj
      rcases h.1 with h1 | h1
      · have : ((tmpsOf (looksL ops o)).any fun u => Nat.beq t u) = true := List.any_eq_true.2 ⟨t, ht, Nat.beq_refl t⟩
        rw [this] at h1
        cases h1
      · exact h1
    | succ j =>
      simp at hj
      have := okRdF_ok h.2 hj ht
      rw [show b + (j + 1) = b + 1 + j by omega]
      exact this
def kOf (log : List Ent) (i : Nat) : Nat := ((log.take i).filter isEff).length
theorem kOf_succ {log : List Ent} {i : Nat} {e : Ent} (h : log[i]? = some e) : kOf log (i + 1) = match isEff e with | true => kOf log i + 1 | false => kOf log i := by
  unfold kOf
  rw [List.take_add_one, h, List.filter_append]
  cases he : isEff e <;> simp [he]
theorem heaps_at : ∀ (log : List Ent) (s : St), (∀ i e s', log[i]? = some e → isEff e = false → (sts log s)[i + 1]? = some s' → s' = e.st) → ∀ i, i ≤ log.length → (heaps log s)[kOf log i]? = (sts log s)[i]?
  | [], s, h, i, hi => by
    have : i = 0 := by simpa using hi
    subst this
    rfl
  | e :: r, s, h, i, hi => by
    have ih := heaps_at r s (fun i e' s' h1 h2 h3 => h (i + 1) e' s' (by simpa using h1) h2 (by simpa [sts] using h3))
    cases i with
    | zero =>
      cases he : isEff e with
      | true => simp [heaps, he, kOf, sts]
      | false =>
        have h0 := ih 0 (Nat.zero_le _)
        have hs : (sts (e :: r) s)[0 + 1]? = (sts r s)[0]? := by simp [sts]
        have hsome : ∃ s', (sts r s)[0]? = some s' := by
          cases r with
          | nil => exact ⟨s, rfl⟩
          | cons e' r => exact ⟨e'.st, rfl⟩
        obtain ⟨s', hs'⟩ := hsome
        have := h 0 e s' rfl he (by rw [hs]; exact hs')
        subst this
        simp only [heaps, he]
        rw [show kOf (e :: r) 0 = kOf r 0 by simp [kOf], h0, hs']
        rfl
    | succ i =>
      have h0 := ih i (by simpa using hi)
      have hk : kOf (e :: r) (i + 1) = match isEff e with | true => kOf r i + 1 | false => kOf r i := by
        unfold kOf
        cases he : isEff e <;> simp [he]
      have hs : (sts (e :: r) s)[i + 1]? = (sts r s)[i]? := by simp [sts]
      rw [hk, hs, ← h0]
      cases he : isEff e <;> simp [heaps, he]
theorem effsF_get : ∀ (log : List Ent) (b p i : Nat), (effsF log b)[p]? = some i → ∃ k e, i = b + k ∧ log[k]? = some e ∧ isEff e = true ∧ kOf log k = p
  | [], b, p, i, h => by simp [effsF] at h
  | e :: r, b, p, i, h => by
    cases he : isEff e with
    | true =>
      simp only [effsF, he] at h
      cases p with
      | zero => simp at h; exact ⟨0, e, by omega, rfl, he, rfl⟩
      | succ p =>
        simp at h
        obtain ⟨k, e', h1, h2, h3, h4⟩ := effsF_get r (b + 1) p i h
        exact ⟨k + 1, e', by omega, by simpa using h2, h3, by unfold kOf at *; simp [he, h4]⟩
    | false =>
      simp only [effsF, he] at h
      obtain ⟨k, e', h1, h2, h3, h4⟩ := effsF_get r (b + 1) p i h
      exact ⟨k + 1, e', by omega, by simpa using h2, h3, by unfold kOf at *; simp [he, h4]⟩
theorem effsF_of : ∀ (log : List Ent) (b k : Nat) (e : Ent), log[k]? = some e → isEff e = true → (effsF log b)[kOf log k]? = some (b + k)
  | [], b, k, e, h, _ => by simp at h
  | x :: r, b, k, e, h, he => by
    cases k with
    | zero =>
      simp at h
      subst h
      simp [effsF, he, kOf]
    | succ k =>
      simp at h
      have ih := effsF_of r (b + 1) k e h he
      have hk : kOf (x :: r) (k + 1) = match isEff x with | true => kOf r k + 1 | false => kOf r k := by
        unfold kOf
        cases hx : isEff x <;> simp [hx]
      rw [hk]
      cases hx : isEff x with
      | true => simp only [effsF, hx, List.getElem?_cons_succ]; rw [ih]; congr 1; omega
      | false => simp only [effsF, hx]; rw [ih]; congr 1; omega
theorem effsF_len : ∀ (log : List Ent) (b : Nat), (effsF log b).length = kOf log log.length
  | [], b => rfl
  | e :: r, b => by
    have ih := effsF_len r (b + 1)
    unfold kOf at *
    cases he : isEff e <;> simp [effsF, he, ih]
theorem okAt_ok {f : Nat} {m : List Nat} {i k : Nat} {e : Ent} {o : Oper} {effs : List Nat} : ∀ {hs : List St} {b : Nat}, okAt P G f m i k e o effs hs b = true → ∀ {p : Nat} {s : St}, hs[p]? = some s →
    b + p = k ∨ (∃ x ∈ effs.drop (b + p), (m.getD i 0).testBit x = true ∧ x ≠ f) ∨ (∃ x ∈ effs.take (b + p), (m.getD x 0).testBit i = true) ∨ opL P G s e.fr o = some e.v
  | [], b, _, p, s, hp => by simp at hp
  | s0 :: r, b, h, p, s, hp => by
    simp only [okAt, Bool.and_eq_true] at h
    cases p with
    | zero =>
      simp at hp
      subst hp
      simp only [Bool.or_eq_true] at h
      rcases h.1 with ((h1 | h1) | h1) | h1
      · exact .inl (Nat.eq_of_beq_eq_true h1)
      · exact .inr (.inl (by obtain ⟨x, hx, hx2⟩ := List.any_eq_true.1 h1; simp only [Bool.and_eq_true] at hx2; exact ⟨x, hx, hx2.1, fun e => by have h3 := hx2.2; rw [e, Nat.beq_refl] at h3; cases h3⟩))
      · exact .inr (.inr (.inl (by obtain ⟨x, hx, hx2⟩ := List.any_eq_true.1 h1; exact ⟨x, hx, hx2⟩)))
      · refine .inr (.inr (.inr ?_))
        split at h1
        · rename_i v hv; rw [hv, vSame_ok h1]
        · cases h1
    | succ p =>
      simp at hp
      rw [show b + (p + 1) = b + 1 + p by omega]
      exact okAt_ok h.2 hp
theorem okLoads_ok {f : Nat} {m : List Nat} {effs : List Nat} {hs : List St} : ∀ {log : List Ent} {l : List Oper} {b k : Nat}, okLoads P G f m effs hs log l b k = true → ∀ {i : Nat} {e : Ent} {o : Oper}, log[i]? = some e → l[i]? = some o → e.c = 1 → okAt P G f m (b + i) (k + kOf log i) e o effs hs 0 = true
  | [], l, b, k, _, i, e, o, h, _, _ => by simp at h
  | x :: r, [], b, k, _, i, e, o, _, h, _ => by simp at h
  | x :: r, y :: l, b, k, h, i, e, o, hi, ho, hc => by
    simp only [okLoads, Bool.and_eq_true] at h
    cases i with
    | zero =>
      simp at hi ho
      subst hi ho
      have h1 := h.1
      rw [hc] at h1
      simpa [kOf] using h1
    | succ i =>
      simp at hi ho
      have := okLoads_ok h.2 hi ho hc
      have hk : kOf (x :: r) (i + 1) = match isEff x with | true => kOf r i + 1 | false => kOf r i := by
        unfold kOf
        cases hx : isEff x <;> simp [hx]
      rw [hk, show b + (i + 1) = b + 1 + i by omega]
      cases hx : isEff x with
      | true => rw [hx] at this; simp only at this ⊢; rw [show k + (kOf r i + 1) = k + 1 + kOf r i by omega]; exact this
      | false => rw [hx] at this; exact this
end
end Go.Proofs.YtbadfjogakhhbaaDoor.Re
