/- Signatures with two tables; facts and states in other words. -/
import Derived.Test.YtbadfjogakhhbaaDoorF26
namespace Go.Proofs.YtbadfjogakhhbaaDoor.Re
open Go Go.RowKit
set_option linter.unusedVariables false
set_option linter.unusedSimpArgs false
set_option linter.unusedSectionVars false
def S (n : Nat) : V := .sym n
def O (b : Bool) : V := .raw (.bool b)
theorem gn {α : Type} {Q : α → Prop} : ∀ t ∈ ([] : List α), Q t := fun _ h => by cases h
theorem ga {α : Type} {Q : α → Prop} {a : α} {l : List α} (h : Q a) (k : ∀ t ∈ l, Q t) : ∀ t ∈ a :: l, Q t := List.forall_mem_cons.2 ⟨h, k⟩
abbrev MO (σ : Nat → Int) (val : Nat → Value) (gf : Nat → Option Obj) (e : Row) : Prop := MOK σ val gf e.1 e.2.1 e.2.2.1 e.2.2.2
theorem mbL_ok {σ : Nat → Int} {val : Nat → Value} {gf : Nat → Option Obj} : ∀ {l : List Row}, (∀ e ∈ l, MO σ val gf e) → ∀ (n : Nat) (v u r : V), tbL l n v u = some r → MOK σ val gf n v u r
  | [], _, n, v, u, r, h => by cases h
  | (k, v0, u0, r0) :: l, hl, n, v, u, r, h => by
    unfold tbL at h
    split at h
    · rename_i hb
      simp only [Bool.and_eq_true] at hb
      injection h with h
      have e1 := Nat.eq_of_beq_eq_true hb.1.1
      letI : Sig := ⟨fun _ => 0, 0, 0, fun _ _ _ => none, fun _ _ _ _ h => (by cases h), fun _ => undef, fun _ => none, fun _ _ _ => none, fun _ _ _ _ h => (by cases h)⟩
      have e2 := vSame_ok hb.1.2
      have e3 := vSame_ok hb.2
      subst e1 e2 e3 h
      exact hl (k, v0, u0, r0) (by simp)
    · exact mbL_ok (fun e he => hl e (by simp [he])) n v u r h
/-- A signature with both tables. -/
abbrev SX (σ : Nat → Int) (gt gw : TypeId) (val : Nat → Value) (gf : Nat → Option Obj) (l m : List Row) (ok : ∀ e ∈ l, EOK σ e) (mok : ∀ e ∈ m, MO σ val gf e) : Sig := ⟨σ, gt, gw, tbOf l, tbOf_ok ok, val, gf, fun k v u => tbL m k v u, mbL_ok mok⟩
theorem nm_of (ρ τ : Nat → Nat) (S : Sig) (l m : List Row) (ok : ∀ e ∈ l, EOK (fun i => S.σ (ρ i)) e) (mok : ∀ e ∈ m, MO (fun i => S.σ (ρ i)) (fun j => S.val (τ j)) S.gf e) : Nm ρ τ S (SX (fun i => S.σ (ρ i)) S.gt S.gw (fun j => S.val (τ j)) S.gf l m ok mok) := ⟨fun _ => rfl, fun _ => rfl, rfl, rfl, rfl⟩
variable [Sig]
/-- Blocks that say the same in other words. -/
inductive Imp : List (List V × TypeId) → List (List V × TypeId) → Prop
  | nil : Imp [] []
  | cons {l l' : List V} {t : TypeId} {r r' : List (List V × TypeId)} (h : ∀ E us, VRs E l us → VRs E l' us) (k : Imp r r') : Imp ((l, t) :: r) ((l', t) :: r')
theorem Imp.refl : ∀ (l : List (List V × TypeId)), Imp l l
  | [] => .nil
  | (l, t) :: r => .cons (fun _ _ h => h) (Imp.refl r)
theorem Imp.len {l l' : List (List V × TypeId)} (h : Imp l l') : l'.length = l.length := by
  induction h with
  | nil => rfl
  | cons _ _ ih => simp [ih]
theorem Imp.get {l l' : List (List V × TypeId)} (h : Imp l l') : ∀ {i : Nat} {c' : List V} {t : TypeId}, l'[i]? = some (c', t) → ∃ c, l[i]? = some (c, t) ∧ ∀ E us, VRs E c us → VRs E c' us := by
  induction h with
  | nil => intro i c' t h; simp at h
  | cons h k ih =>
    intro i c' t hi
    cases i with
    | zero => simp at hi; obtain ⟨rfl, rfl⟩ := hi; exact ⟨_, rfl, h⟩
    | succ i => simpa using ih (by simpa using hi)
theorem WR.words {P : Program} {G : Nat → Option Obj} {B : Nat → Prop} {E : Env} {w : World} {bl bl' : List (List V × TypeId)} {st st' : St} (hw : WR G B E st w) (h : stBl bl = some st) (h' : stBl bl' = some st') (hi : Imp bl bl') : WR G B E st' w := by
  obtain ⟨p1, p2, p3⟩ := stBl_get h
  obtain ⟨q1, q2, q3⟩ := stBl_get h'
  have bw : ∀ b o, st'.h.get b = some o → ∃ l ty l', o = .cells l' ty ∧ st.h.get b = some (.cells l ty) ∧ ∀ E us, VRs E l us → VRs E l' us := fun b o hb => by
    obtain ⟨l', ty, e1, rfl⟩ := q3 b o hb
    obtain ⟨l, e2, e3⟩ := hi.get e1
    exact ⟨l, ty, l', rfl, p2 b l ty e2, e3⟩
  refine ⟨by rw [q1, hi.len, ← p1]; exact hw.n, fun b o hb => ?_, fun b b' o o' hb hb' he => ?_, fun b o hb => ?_, hw.size, hw.glob⟩
  · obtain ⟨l, ty, l', rfl, e, hl⟩ := bw b o hb
    obtain ⟨h1, c, c1, c2, us, rest, c3, c4⟩ := hw.live b _ e
    exact ⟨by rw [q1, hi.len, ← p1]; exact h1, c, c1, c2, us, rest, c3, hl _ _ c4⟩
  · obtain ⟨l, ty, l', rfl, e, hl⟩ := bw b o hb
    obtain ⟨l2, ty2, l2', rfl, e2, hl2⟩ := bw b' o' hb'
    exact hw.inj b b' _ _ e e2 he
  · obtain ⟨l, ty, l', rfl, e, hl⟩ := bw b o hb
    exact hw.base b _ e
theorem FOK.words2 {t t' : Fact} (h : FOK t) (hf : t'.f = t.f) (ha : ∀ E us, VRs E t'.args us → VRs E t.args us) (hv : ∀ E x, VR E t.v x → VR E t'.v x) (hb : Imp t.bl t'.bl) (hs : (stBl t'.bl).isSome = true) : FOK t' := by
  obtain ⟨h1, h2⟩ := h
  obtain ⟨st2, hst2⟩ := Option.isSome_iff_exists.1 hs
  refine ⟨by rw [hf]; exact h1, fun w E us hG hus => ?_⟩
  rw [hf]
  refine CallsIn.mono (h2 w E us hG (ha E us hus)) ?_
  rintro _ w' ⟨x, E', st', q1, q2, q3, q4, q5, q6⟩
  exact ⟨x, E', st2, hst2, q2, q3, q4.words (P := Tryd.prog) q1 hst2 hb, hv _ _ q5, q6⟩
theorem SOK.words2 {t t' : SFact} (h : SOK t) (hf : t'.f = t.f) (ha : ∀ E us, VRs E t'.args us → VRs E t.args us) (hp : Imp t'.pre t.pre) (hv : ∀ E x, VR E t.v x → VR E t'.v x) (hb : Imp t.post t'.post) (h0 : (stBl t'.pre).isSome = true) (hs : (stBl t'.post).isSome = true) : SOK t' := by
  obtain ⟨⟨h1, h2⟩, h3⟩ := h
  obtain ⟨st2, hst2⟩ := Option.isSome_iff_exists.1 hs
  obtain ⟨st1, hst1⟩ := Option.isSome_iff_exists.1 h3
  refine ⟨⟨by rw [hf]; exact h1, fun B E w us st0 hst0 hw hus => ?_⟩, h0⟩
  rw [hf]
  refine CallsIn.mono (h2 B E w us st1 hst1 (hw.words (P := Tryd.prog) hst0 hst1 hp) (ha E us hus)) ?_
  rintro _ w' ⟨x, E', st', q1, q2, q3, q4, q5, q6⟩
  exact ⟨x, E', st2, hst2, q2, q3, q4.words (P := Tryd.prog) q1 hst2 hb, hv _ _ q5, q6⟩
/-- Words one by one. -/
theorem w_nil {E : Env} {us : List Value} (h : VRs E [] us) : VRs E [] us := h
theorem w_cons {v v' : V} {l l' : List V} (h : ∀ E x, VR E v x → VR E v' x) (k : ∀ E us, VRs E l us → VRs E l' us) : ∀ E us, VRs E (v :: l) us → VRs E (v' :: l') us := fun E us ⟨u, r, h1, h2, h3⟩ => ⟨u, r, h1, h _ _ h2, k _ _ h3⟩
theorem w_nil' : ∀ E us, VRs E [] us → VRs E [] us := fun _ _ h => h
theorem w_id {v : V} : ∀ E x, VR E v x → VR E v x := fun _ _ h => h
theorem w_num {v v' : V} {a : Int} (h : cI Sig.σ v = some a) (h' : cI Sig.σ v' = some a) : ∀ E x, VR E v x → VR E v' x := fun E x hx => by
  rw [cI_ok h hx]; exact cI_VR h'
end Go.Proofs.YtbadfjogakhhbaaDoor.Re
