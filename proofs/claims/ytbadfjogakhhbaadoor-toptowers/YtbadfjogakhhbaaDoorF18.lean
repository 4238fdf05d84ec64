/- The small machine: facts about calls whose arguments name blocks. -/
import Derived.Test.YtbadfjogakhhbaaDoorF16
namespace Go.Proofs.YtbadfjogakhhbaaDoor.Re
open Go Go.RowKit
set_option linter.unusedVariables false
set_option linter.unusedSimpArgs false
set_option linter.unusedSectionVars false
variable [Sig]
structure SFact where
  f : FuncId
  args : List V
  pre : List (List V × TypeId)
  v : V
  post : List (List V × TypeId)
def SFactOK (P : Program) (G : Nat → Option Obj) (t : SFact) : Prop := (∃ fn c, callInfo P t.f = some (fn, c)) ∧
  ∀ (B : Nat → Prop) (E : Env) (w : World) (us : List Value) (st0 : St), stBl t.pre = some st0 → WR G B E st0 w → VRs E t.args us →
    CallsIn Fence.wide 0 P t.f us.toArray w fun e w' => ∃ x E' st1, stBl t.post = some st1 ∧ e = .returned x ∧ E.le E' ∧ WR G B E' st1 w' ∧ VR E' t.v x ∧ Keep B w w'
/-- What is kept of a run's end: the blocks that it began with, and what the result names. -/
def addBs : List Nat → List Nat → List Nat
  | [], l => l
  | b :: r, l => addBs r (addB b l)
def pruneS (n : Nat) (v : V) (st : St) : Option (V × St) := match reachB st.h 40 0 (blocksV v (List.range n)) with
  | bs => match mapV (fun b => idxB b bs 0) v, pruneB bs st.h with
    | some v', some st' => some (v', st')
    | _, _ => none
section
variable {P : Program} {G : Nat → Option Obj} {B : Nat → Prop} {E : Env} {st : St} {w : World}
theorem pruneS_ok {n : Nat} {v v' : V} {st' : St} {x : Value} (h : pruneS n v st = some (v', st')) (hn : n ≤ E.n) (hw : WR G B E st w) (hx : VR E v x) : ∃ E', n ≤ E'.n ∧ (∀ b, b < n → E'.ρ b = E.ρ b ∧ E'.sz b = E.sz b) ∧ WR G B E' st' w ∧ VR E' v' x := by
  unfold pruneS at h
  simp only at h
  split at h
  · rename_i v1 s1 h1 h2
    injection h with h; injection h with e1 e2
    subst e1 e2
    have hpre : ∀ b, b < n → (reachB st.h 40 0 (blocksV v (List.range n)))[b]? = some b := fun b hb => reachB_pre (blocksV_pre v (by simp [hb]))
    refine ⟨_, ?_, fun b hb => ?_, pruneB_ok h2 hw, mapV_ok (gok_pick E _) v v1 x h1 hx⟩
    · show n ≤ (reachB st.h 40 0 (blocksV v (List.range n))).length
      by_cases h0 : n = 0
      · omega
      · have := (List.getElem?_eq_some_iff.1 (hpre (n - 1) (by omega))).1
        omega
    · have e : (reachB st.h 40 0 (blocksV v (List.range n))).getD b 0 = b := by rw [List.getD_eq_getElem?_getD, hpre b hb]; rfl
      simp only [Env.pick, e]
      exact ⟨trivial, trivial⟩
  · cases h
def runS (P : Program) (G : Nat → Option Obj) (K : Orc) (k : Nat) (f : FuncId) (args : List V) (pre : List (List V × TypeId)) : Option (V × St) := match stBl pre with
  | some st0 => match runFn P G (code P G K k) f args st0 with
    | some (v, st) => pruneS pre.length v st
    | none => none
  | none => none
theorem sfact_of_run (hm : P.follows .mixedOrders = true) {K : Orc} (hK : ∀ B, OrcOK P G B K) {k : Nat} (t : SFact) {st' : St} (h : runS P G K k t.f t.args t.pre = some (t.v, st')) (hs : stBl t.post = some st') : SFactOK P G t := by
  unfold runS at h
  split at h
  · rename_i st0 hst0
    split at h
    · rename_i v st hrun
      have hci : ∃ fn c, callInfo P t.f = some (fn, c) := by
        unfold runFn at hrun
        split at hrun
        · rename_i fn c hci; exact ⟨fn, c, hci⟩
        · cases hrun
      refine ⟨hci, fun B E w us st1 h1 hw hv => ?_⟩
      rw [hst0] at h1
      injection h1 with h1
      subst h1
      have hn : E.n = t.pre.length := by
        rw [hw.n]
        unfold stBl at hst0
        split at hst0
        · injection hst0 with hst0
          subst hst0
          rfl
        · cases hst0
      obtain ⟨g1, _⟩ := runFn_ok (code_sound hm hK k B) hrun hw hv
      refine CallsIn.mono (g1 none) ?_
      rintro _ w' ⟨x, E', rfl, q1, q2, q3, q4⟩
      obtain ⟨E2, r0, r1, r2, r3⟩ := pruneS_ok h (by rw [← hn]; exact q1.1) q2 q3
      refine ⟨x, E2, st', hs, rfl, ⟨by rw [hn]; exact r0, fun b hb => ?_⟩, r2, r3, q4⟩
      have hb' : b < t.pre.length := by omega
      exact ⟨(r1 b hb').1.trans (q1.2 b hb).1, (r1 b hb').2.trans (q1.2 b hb).2⟩
    · cases h
  · cases h
end
end Go.Proofs.YtbadfjogakhhbaaDoor.Re
