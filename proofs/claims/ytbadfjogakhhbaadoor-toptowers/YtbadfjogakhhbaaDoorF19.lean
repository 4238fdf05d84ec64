/- The small machine: facts about calls with memory as an oracle. -/
import Derived.Test.YtbadfjogakhhbaaDoorF18
namespace Go.Proofs.YtbadfjogakhhbaaDoor.Re
open Go Go.RowKit
set_option linter.unusedVariables false
set_option linter.unusedSimpArgs false
set_option linter.unusedSectionVars false
variable [Sig]
def preOK (g : Nat → Option Nat) (h : T LO) : List Nat → Nat → List (List V × TypeId) → Bool
  | [], _, [] => true
  | b :: bs, i, (l, ty) :: r => match h.get b, g b with
    | some (.cells k ty'), some i' => match mapVs g k with
      | some k' => vsSame k' l && Nat.beq ty ty' && Nat.beq i i' && preOK g h bs (Nat.succ i) r
      | none => false
    | _, _ => false
  | _, _, _ => false
theorem preOK_get {g : Nat → Option Nat} {h : T LO} : ∀ {bs : List Nat} {i : Nat} {pre : List (List V × TypeId)}, preOK g h bs i pre = true → bs.length = pre.length ∧ ∀ (j : Nat) (l : List V) (ty : TypeId), pre[j]? = some (l, ty) → ∃ b k, bs[j]? = some b ∧ h.get b = some (.cells k ty) ∧ mapVs g k = some l ∧ g b = some (i + j)
  | [], i, [], hh => ⟨rfl, fun j l ty hj => by simp at hj⟩
  | [], i, _ :: _, hh => by simp [preOK] at hh
  | _ :: _, i, [], hh => by simp [preOK] at hh
  | b :: bs, i, (l, ty) :: r, hh => by
    unfold preOK at hh
    split at hh
    · rename_i k ty' i' hb hg
      split at hh
      · rename_i k' hk
        simp only [Bool.and_eq_true] at hh
        obtain ⟨⟨⟨h1, h2⟩, h3⟩, h4⟩ := hh
        have h1 := vsSame_ok h1
        have h2 := Nat.eq_of_beq_eq_true h2
        have h3 := Nat.eq_of_beq_eq_true h3
        subst h1 h2 h3
        obtain ⟨e1, e2⟩ := preOK_get h4
        refine ⟨by simp [e1], fun j l2 ty2 hj => ?_⟩
        cases j with
        | zero =>
          simp at hj
          obtain ⟨rfl, rfl⟩ := hj
          exact ⟨b, k, rfl, hb, hk, by simpa using hg⟩
        | succ j =>
          obtain ⟨b2, k2, q1, q2, q3, q4⟩ := e2 j l2 ty2 (by simpa using hj)
          exact ⟨b2, k2, by simpa using q1, q2, q3, by rw [q4]; congr 1; omega⟩
      · cases hh
    · cases hh
def tgt (bs : List Nat) (n : Nat) (j : Nat) : Nat := match bs[j]? with
  | some b => b
  | none => n + (j - bs.length)
def graftL (g : Nat → Option Nat) (tg : Nat → Nat) : List (List V × TypeId) → Nat → T LO → Option (T LO)
  | [], _, h => some h
  | (l, ty) :: r, j, h => match mapVs g l with
    | some l' => match h.set fuelT (tg j) (some (.cells l' ty)) with
      | some h' => graftL g tg r (Nat.succ j) h'
      | none => none
    | none => none
theorem graftL_get {g : Nat → Option Nat} {tg : Nat → Nat} : ∀ {p : List (List V × TypeId)} {j : Nat} {h h' : T LO}, graftL g tg p j h = some h' → ∀ m o, h'.get m = some o →
    (∃ i l ty l', p[i]? = some (l, ty) ∧ m = tg (j + i) ∧ mapVs g l = some l' ∧ o = LO.cells l' ty) ∨ (h.get m = some o ∧ ∀ i, i < p.length → m ≠ tg (j + i))
  | [], j, h, h', hh, m, o, ho => by simp only [graftL] at hh; injection hh with hh; subst hh; exact .inr ⟨ho, fun i hi => by simp at hi⟩
  | (l, ty) :: r, j, h, h', hh, m, o, ho => by
    simp only [graftL] at hh
    split at hh
    · rename_i l' hl
      split at hh
      · rename_i h1 hs
        rcases graftL_get hh m o ho with ⟨i, l2, ty2, l2', q1, q2, q3, q4⟩ | ⟨q1, q2⟩
        · exact .inl ⟨i + 1, l2, ty2, l2', by simpa using q1, by rw [q2]; congr 1; omega, q3, q4⟩
        · rw [T.get_set _ _ _ _ _ hs] at q1
          by_cases e : m = tg j
          · rw [if_pos e] at q1
            injection q1 with q1
            exact .inl ⟨0, l, ty, l', rfl, e, hl, q1.symm⟩
          · rw [if_neg e] at q1
            refine .inr ⟨q1, fun i hi => ?_⟩
            cases i with
            | zero => exact e
            | succ i => have := q2 i (by simpa using hi); rw [show j + (i + 1) = j + 1 + i by omega]; exact this
      · cases hh
    · cases hh
end Go.Proofs.YtbadfjogakhhbaaDoor.Re
