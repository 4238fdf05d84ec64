/- The small machine: facts out of runs in pieces; two oracles in one. -/
import Derived.Test.YtbadfjogakhhbaaDoorF20
import Derived.Test.YtbadfjogakhhbaaDoorF17
namespace Go.Proofs.YtbadfjogakhhbaaDoor.Re
open Go Go.RowKit
set_option linter.unusedVariables false
set_option linter.unusedSimpArgs false
set_option linter.unusedSectionVars false
variable [Sig]
def orK (K L : Orc) : Orc := fun f args st => match K f args st with
  | some r => some r
  | none => L f args st
/-- What is kept between two pieces: temporaries and blocks. -/
structure Lit where
  sz : Nat
  ts : List (Nat × V)
  bl : List (List V × TypeId)
def litT : List (Nat × V) → T V → Option (T V)
  | [], t => some t
  | (i, v) :: l, t => match t.set fuelT i (some v) with
    | some t' => litT l t'
    | none => none
def litS (l : Lit) : Option (Fr × St) := match litT l.ts .leaf, stBl l.bl with
  | some t, some s => some (⟨t, l.sz, []⟩, s)
  | _, _ => none
def litR (l : Lit) : Option (LX × Fr × St) := match litS l with
  | some (fr, st) => some (.nor, fr, st)
  | none => none
def half (P : Program) (G : Nat → Option Obj) (K : Orc) (k m n : Nat) (ts : List Nat) (f : FuncId) (args : List V) (pre : List (List V × TypeId)) : Option (LX × Fr × St) := match callInfo P f with
  | some (fn, c) => match initFr args fn.ntmps, stBl pre with
    | some fr, some st => runP P G K k m ts (cutA n c) fr st
    | _, _ => none
  | none => none
def midR (P : Program) (G : Nat → Option Obj) (K : Orc) (k m n n2 : Nat) (ts : List Nat) (f : FuncId) (l : Lit) : Option (LX × Fr × St) := match callInfo P f with
  | some (fn, c) => match litS l with
    | some (fr, st) => runP P G K k m ts (cutA n2 (cutB n c)) fr st
    | none => none
  | none => none
def rest (P : Program) (G : Nat → Option Obj) (K : Orc) (k m n : Nat) (f : FuncId) (l : Lit) : Option (V × St) := match callInfo P f with
  | some (fn, c) => match litS l with
    | some (fr, st) => match code P G K k none (cutB n c) fr st with
      | some (.ext _, _, _) => none
      | some (_, fr', st') => match fr'.d with
        | [] => match resV P G st' fr' fn.results.toList with
          | some r => pruneS m (packR r) st'
          | none => none
        | _ :: _ => none
      | none => none
    | none => none
  | none => none
def endR (t : SFact) : Option (V × St) := match stBl t.post with
  | some s => some (t.v, s)
  | none => none
theorem cutB_cutB : ∀ (n m : Nat) (c : Code), cutB m (cutB n c) = cutB (n + m + 1) c
  | 0, m, c => by
    cases c with
    | seq x y => rw [show 0 + m + 1 = m + 1 by omega]; rfl
    | _ => cases m <;> rfl
  | n + 1, m, c => by
    cases c with
    | seq x y => rw [show n + 1 + m + 1 = (n + m + 1) + 1 by omega]; exact cutB_cutB n m y
    | _ => cases m <;> rfl
section
variable {P : Program} {G : Nat → Option Obj} {B : Nat → Prop}
theorem orK_ok {K L : Orc} (hK : OrcOK P G B K) (hL : OrcOK P G B L) : OrcOK P G B (orK K L) := fun f args st v st' h => by
  unfold orK at h
  split at h
  · rename_i r hr
    injection h with h
    subst h
    exact hK f args st v st' hr
  · exact hL f args st v st' h
/-- The rest of a function's run, from a cut on. -/
def RestOK (P : Program) (G : Nat → Option Obj) (n : Nat) (t : SFact) (l : Lit) : Prop := ∃ fn c, callInfo P t.f = some (fn, c) ∧ ∃ fr st, litS l = some (fr, st) ∧
  ∃ x fr' st' r st1, (∀ B, Goes P G B t.pre.length (cutB n c) fr st x fr' st') ∧ (x = .nor ∨ x = .ret) ∧ fr'.d = [] ∧ resV P G st' fr' fn.results.toList = some r ∧ pruneS t.pre.length (packR r) st' = some (t.v, st1) ∧ stBl t.post = some st1
theorem rest_ok (hm : P.follows .mixedOrders = true) {K : Orc} (hK : ∀ B, OrcOK P G B K) {k n : Nat} {t : SFact} {l : Lit} (h : rest P G K k t.pre.length n t.f l = endR t) (hs : (endR t).isSome = true) : RestOK P G n t l := by
  unfold endR at h hs
  split at h
  · rename_i s hst
    unfold rest at h
    split at h
    · rename_i fn c hci
      split at h
      · rename_i fr st hl
        split at h
        · cases h
        · rename_i x fr' st' hne hc
          split at h
          · rename_i hd
            split at h
            · rename_i r hr
              refine ⟨fn, c, hci, fr, st, hl, x, fr', st', r, s, fun B => ?_, ?_, hd, hr, h, hst⟩
              · intro E a w hw hf hmn Q hQ
                refine code_sound hm hK k B none _ fr st x fr' st' hc E a w hw hf (fun l hl => by cases hl) Q ?_
                intro E1 a1 w1 g1 g2 g3 g4
                exact hQ E1 a1 w1 (g1.up hmn) g2 g3 g4
              · cases x with
                | nor => exact .inl rfl
                | ret => exact .inr rfl
                | ext i => exact (hne i rfl).elim
            · cases h
          · cases h
        · cases h
      · cases h
    · cases h
  · rename_i hn
    rw [hn] at hs
    cases hs
theorem mid_ok (hm : P.follows .mixedOrders = true) {K : Orc} (hK : ∀ B, OrcOK P G B K) {k n n2 : Nat} {ts : List Nat} {t : SFact} {l l2 : Lit} (h : midR P G K k t.pre.length n n2 ts t.f l = litR l2) (hs : (litR l2).isSome = true) (h2 : RestOK P G (n + n2 + 1) t l2) : RestOK P G n t l := by
  obtain ⟨fn, c, hci, fr2, st2, hl2, x, fr', st', r, st1, q1, q2⟩ := h2
  unfold litR at h
  rw [hl2] at h
  unfold midR at h
  rw [hci] at h
  simp only at h
  split at h
  · rename_i fr st hl
    refine ⟨fn, c, hci, fr, st, hl, x, fr', st', r, st1, fun B => ?_, q2⟩
    refine Goes.cut hm hK n2 k h ?_
    rw [cutB_cutB]
    exact q1 B
  · cases h
theorem sfact_cut (hm : P.follows .mixedOrders = true) {K : Orc} (hK : ∀ B, OrcOK P G B K) {k n : Nat} {ts : List Nat} {t : SFact} {l : Lit} (h : half P G K k t.pre.length n ts t.f t.args t.pre = litR l) (h2 : RestOK P G n t l) : SFactOK P G t := by
  obtain ⟨fn, c, hci, fr1, st1, hl, x, fr', st', r, st2, q1, q2, q3, q4, q5, q6⟩ := h2
  unfold litR at h
  rw [hl] at h
  unfold half at h
  rw [hci] at h
  simp only at h
  split at h
  · rename_i fr st0 hfr hst0
    refine ⟨⟨fn, c, hci⟩, fun B E w us s0 h0 hw hv => ?_⟩
    rw [hst0] at h0
    injection h0 with h0
    subst h0
    have hn : t.pre.length ≤ E.n := by rw [hw.n, (stBl_get hst0).1]; exact Nat.le_refl _
    refine CallsIn.mono ((Goes.cut hm hK n k h (q1 B)).calls hci hfr hv hw hn q2 q3 q4) ?_
    rintro _ w' ⟨y, E', rfl, g0, g1, g2, g3⟩
    obtain ⟨E2, r0, r1, r2, r3⟩ := pruneS_ok q5 g0.1 g1 g2
    refine ⟨y, E2, st2, q6, rfl, ⟨?_, fun b hb => ?_⟩, r2, r3, g3⟩
    · rw [hw.n, (stBl_get hst0).1]; exact r0
    · have hb' : b < t.pre.length := by rw [hw.n, (stBl_get hst0).1] at hb; exact hb
      exact ⟨(r1 b hb').1.trans (g0.2 b hb').1, (r1 b hb').2.trans (g0.2 b hb').2⟩
  · cases h
end
/-- For this program. -/
theorem scut {K K2 : Orc} (hK : ∀ B, OrcOK Tryd.prog GT B K) (hK2 : ∀ B, OrcOK Tryd.prog GT B K2) {k k2 n : Nat} {ts : List Nat} {t : SFact} (l : Lit) (h : half Tryd.prog GT K k t.pre.length n ts t.f t.args t.pre = litR l) (h2 : rest Tryd.prog GT K2 k2 t.pre.length n t.f l = endR t) (hs : (endR t).isSome = true) : SFactOK Tryd.prog GT t :=
  sfact_cut mixed hK h (rest_ok mixed hK2 h2 hs)
theorem sfact2 {K : Orc} (hK : ∀ B, OrcOK Tryd.prog GT B K) (k : Nat) (t : SFact) (h : runS Tryd.prog GT K k t.f t.args t.pre = endR t) (hs : (endR t).isSome = true) : SFactOK Tryd.prog GT t := by
  unfold endR at h hs
  split at h
  · rename_i s hst
    exact sfact_of_run mixed hK t h hst
  · rename_i hn
    rw [hn] at hs
    cases hs
end Go.Proofs.YtbadfjogakhhbaaDoor.Re
