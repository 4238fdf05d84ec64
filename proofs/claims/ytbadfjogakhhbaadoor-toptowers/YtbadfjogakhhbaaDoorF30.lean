/- Pieces of a run under another table; in other words; loops, blocks. -/
import Derived.Test.YtbadfjogakhhbaaDoorF29
namespace Go.Proofs.YtbadfjogakhhbaaDoor.Re
open Go Go.RowKit
set_option linter.unusedVariables false
set_option linter.unusedSimpArgs false
set_option linter.unusedSectionVars false
mutual
theorem ren_id : ∀ (v : V), ren id id v = v
  | .raw u => rfl
  | .ptr b o => rfl
  | .sl b o l c => rfl
  | .gs b o l s => rfl
  | .agg l => by rw [ren, rens_id l]
  | .tup l => by rw [ren, rens_id l]
  | .clo f a c => by rw [ren, rens_id a, rens_id c]
  | .yld b => rfl
  | .sym i => rfl
  | .mp b => rfl
  | .any => rfl
  | .val j => rfl
theorem rens_id : ∀ (l : List V), rens id id l = l
  | [] => rfl
  | v :: l => by rw [rens, ren_id v, rens_id l]
end
theorem renB_id : ∀ (l : List (List V × TypeId)), renB id id l = l
  | [] => rfl
  | (l, t) :: r => by rw [renB, rens_id l, renB_id r]
/-- Another table, the same names. -/
theorem SOK_same {S' T : Sig} (H : Nm id id S' T) {t : SFact} (h : @SOK T t) (hs : (stBl t.post).isSome = true) : @SOK S' t := by
  have h2 := SOK_ren H h (by rw [renB_id]; exact h.2) (by rw [renB_id]; exact hs)
  have e : t.ren id id = t := by unfold SFact.ren; rw [rens_id, renB_id, ren_id, renB_id]
  rw [e] at h2
  exact h2
section
variable {S' T : Sig} (H : Nm id id S' T)
include H
theorem VR_same {E : Env} {v : V} {x : Value} : @VR T E v x ↔ @VR S' E v x := by
  have := VR_ren H (E := E) v x
  rw [ren_id] at this
  exact this
theorem VRs_same {E : Env} {l : List V} {us : List Value} : @VRs T E l us ↔ @VRs S' E l us := by
  have := VRs_ren H (E := E) l us
  rw [rens_id] at this
  exact this
theorem TR_same {E : Env} {t : Re.T V} {a : Array Value} : @TR T E t a ↔ @TR S' E t a :=
  ⟨fun h i v hv => let ⟨x, h1, h2⟩ := h i v hv; ⟨x, h1, (VR_same H).1 h2⟩, fun h i v hv => let ⟨x, h1, h2⟩ := h i v hv; ⟨x, h1, (VR_same H).2 h2⟩⟩
theorem FR_same {E : Env} {fr : Fr} {a : Act} : @FR T E fr a ↔ @FR S' E fr a := by
  constructor
  · rintro ⟨h1, h2, h3, h4⟩; exact @FR.mk S' _ _ _ h1 ((TR_same H).1 h2) h3 h4
  · rintro ⟨h1, h2, h3, h4⟩; exact @FR.mk T _ _ _ h1 ((TR_same H).2 h2) h3 h4
theorem OR_same {E : Env} {b : Nat} {w : World} {o : LO} : @OR T E b w o ↔ @OR S' E b w o := by
  cases o with
  | cells l t => exact ⟨fun ⟨c, a1, a2, us, rest, a3, a4⟩ => ⟨c, a1, a2, us, rest, a3, (VRs_same H).1 a4⟩, fun ⟨c, a1, a2, us, rest, a3, a4⟩ => ⟨c, a1, a2, us, rest, a3, (VRs_same H).2 a4⟩⟩
  | obj o => exact Iff.rfl
  | loop r => exact ⟨fun ⟨fn, tm, a1, a2, a3, a4⟩ => ⟨fn, tm, a1, a2, a3, (TR_same H).1 a4⟩, fun ⟨fn, tm, a1, a2, a3, a4⟩ => ⟨fn, tm, a1, a2, a3, (TR_same H).2 a4⟩⟩
theorem WR_same {B : Nat → Prop} {E : Env} {st : St} {w : World} : @WR T (@GT T) B E st w ↔ @WR S' (@GT S') B E st w := by
  constructor
  · rintro ⟨h1, h2, h3, h4, h5, h6⟩
    exact @WR.mk S' _ _ _ _ _ h1 (fun b o hb => ⟨(h2 b o hb).1, (OR_same H).1 (h2 b o hb).2⟩) h3 h4 h5 (fun g o hg => h6 g o (by rw [GT_ren H, H.gf]; exact hg))
  · rintro ⟨h1, h2, h3, h4, h5, h6⟩
    exact @WR.mk T _ _ _ _ _ h1 (fun b o hb => ⟨(h2 b o hb).1, (OR_same H).2 (h2 b o hb).2⟩) h3 h4 h5 (fun g o hg => h6 g o (by rw [GT_ren H, H.gf] at hg; exact hg))
theorem Goes_same {B : Nat → Prop} {m : Nat} {c : Code} {fr fr' : Fr} {st st' : St} {x : LX} (h : @Goes T Tryd.prog (@GT T) B m c fr st x fr' st') : @Goes S' Tryd.prog (@GT S') B m c fr st x fr' st' := by
  intro E a w hw hf hm Q hQ
  exact h E a w ((WR_same H).2 hw) ((FR_same H).2 hf) hm Q (fun E' a' w' g0 g1 g2 g3 => hQ E' a' w' g0 ((WR_same H).1 g1) ((FR_same H).1 g2) g3)
end
theorem resV_same {P : Program} {G G' : Nat → Option Obj} {st : St} {fr : Fr} : ∀ {rs : List ResultVar} {r : List V}, resV P G st fr rs = some r → resV P G' st fr rs = some r
  | [], r, h => h
  | .tmp t :: rs, r, h => by
    simp only [resV] at h ⊢
    split at h
    · rename_i v l h1 h2
      rw [h1, resV_same h2]
      exact h
    · cases h
  | .cell a t :: rs, r, h => by
    simp only [resV] at h ⊢
    split at h
    · rename_i g i b off h1 h2 h3
      split at h
      · rename_i l hl
        split at h
        · rename_i v k h4 h5
          rw [h4, resV_same h5]
          exact h
        · cases h
      · cases h
    · cases h
theorem RestOK_same {S' T : Sig} (H : Nm id id S' T) {n : Nat} {t : SFact} {l : Lit} (h : @RestOK T Tryd.prog (@GT T) n t l) : @RestOK S' Tryd.prog (@GT S') n t l := by
  obtain ⟨fn, c, h1, fr, st, h2, x, fr', st', r, st1, h3, h4, h5, h6, h7, h8⟩ := h
  exact ⟨fn, c, h1, fr, st, h2, x, fr', st', r, st1, fun B => Goes_same H (h3 B), h4, h5, resV_same h6, h7, h8⟩
theorem Goes.words [Sig] {B : Nat → Prop} {m : Nat} {c : Code} {fr fr' : Fr} {st st' st'' : St} {x : LX} {bl bl' : List (List V × TypeId)} (h : Goes Tryd.prog GT B m c fr st x fr' st') (h1 : stBl bl = some st') (h2 : stBl bl' = some st'') (hi : Imp bl bl') : Goes Tryd.prog GT B m c fr st x fr' st'' := by
  intro E a w hw hf hm Q hQ
  exact h E a w hw hf hm Q (fun E' a' w' g0 g1 g2 g3 => hQ E' a' w' g0 (g1.words (P := Tryd.prog) h1 h2 hi) g2 g3)
theorem FOK_same {S' T : Sig} (H : Nm id id S' T) {t : Fact} (h : @FOK T t) (hs : (stBl t.bl).isSome = true) : @FOK S' t := by
  have h2 := FOK_ren H h (by rw [renB_id]; exact hs)
  have e : t.ren id id = t := by unfold Fact.ren; rw [rens_id, renB_id, ren_id]
  rw [e] at h2
  exact h2
theorem nm_X (S' : Sig) (l m : List Row) (ok : ∀ e ∈ l, EOK S'.σ e) (mok : ∀ e ∈ m, MO S'.σ S'.val S'.gf e) : Nm id id S' (SX S'.σ S'.gt S'.gw S'.val S'.gf l m ok mok) := ⟨fun _ => rfl, fun _ => rfl, rfl, rfl, rfl⟩
theorem nm_Y (S' : Sig) (l m : List Row) (ok : ∀ e ∈ l, EOK S'.σ e) (mok : ∀ e ∈ m, MO S'.σ S'.val S'.gf e) : Nm id id (SX S'.σ S'.gt S'.gw S'.val S'.gf l m ok mok) S' := ⟨fun _ => rfl, fun _ => rfl, rfl, rfl, rfl⟩
def frL (l : Lit) : Fr := match litS l with
  | some (f, _) => f
  | none => ⟨.leaf, 0, []⟩
def stL (l : Lit) : St := match litS l with
  | some (_, s) => s
  | none => ⟨.leaf, 0⟩
theorem litS_eq {l : Lit} (h : (litS l).isSome = true) : litS l = some (frL l, stL l) := by
  obtain ⟨⟨f, s⟩, h⟩ := Option.isSome_iff_exists.1 h
  rw [h]
  simp [frL, stL, h]
theorem litS_parts {l : Lit} {f : Fr} {s : St} (h : litS l = some (f, s)) : ∃ t, litT l.ts .leaf = some t ∧ f = ⟨t, l.sz, []⟩ ∧ stBl l.bl = some s := by
  unfold litS at h
  split at h
  · rename_i t s' h1 h2
    injection h with h; injection h with h3 h4
    subst h3 h4
    exact ⟨t, h1, rfl, h2⟩
  · cases h
section
variable [Sig]
theorem Imp.app {a a' b b' : List (List V × TypeId)} (h : Imp a a') (k : Imp b b') : Imp (a ++ b) (a' ++ b') := by
  induction h with
  | nil => exact k
  | cons h _ ih => exact .cons h ih
end
section
variable [Sig] {P : Program} {G : Nat → Option Obj} {B : Nat → Prop} {st : St}
theorem Goes.block {m id : Nat} {c : Code} {fr fr' : Fr} {st st' : St} {x y : LX} (h : Goes P G B m c fr st x fr' st') (hy : (match x with | .ext i => (match Nat.beq i id with | true => LX.nor | false => .ext i) | z => z) = y) : Goes P G B m (.block id c) fr st y fr' st' := by
  intro E a w hw hf hm Q hQ
  subst hy
  refine wpIn_block (h E a w hw hf hm _ ?_)
  intro E1 a1 w1 g0 g1 g2 g3
  have := hQ E1 a1 w1 g0 g1 g2 g3
  cases x with
  | nor => exact this
  | ret => exact this
  | ext i =>
    show (if i = id then Q .normal a1 w1 else Q (.exit i) a1 w1)
    by_cases hb : i = id
    · subst hb
      rw [if_pos rfl]
      simpa [LX.exit] using this
    · rw [if_neg hb]
      have hf : Nat.beq i id = false := by
        cases e : Nat.beq i id with
        | true => exact absurd (Nat.eq_of_beq_eq_true e) hb
        | false => rfl
      simpa [hf, LX.exit] using this
/-- Rounds of a loop. -/
theorem Goes.loop {m : Nat} {c : Code} {x : LX} {fr' : Fr} {st' : St} (hx : x.isNor = false) (n : Nat) (fr : Nat → Fr) (st : Nat → St) (hstep : ∀ j, j < n → Goes P G B m c (fr (j + 1)) (st (j + 1)) .nor (fr j) (st j)) (hlast : Goes P G B m c (fr 0) (st 0) x fr' st') : Goes P G B m (.loop c) (fr n) (st n) x fr' st' := by
  intro E a w hw hf hm Q hQ
  refine loop_sound (I := fun j a1 w1 => j ≤ n ∧ ∃ E1, Env.up m E E1 ∧ WR G B E1 (st j) w1 ∧ FR E1 (fr j) a1 ∧ Keep B w w1) (k := n) ⟨Nat.le_refl n, E, ⟨hm, fun _ _ => ⟨rfl, rfl⟩⟩, hw, hf, Keep.refl B w⟩ ?_
  rintro j a1 w1 ⟨hj, E1, g0, g1, g2, g3⟩
  cases j with
  | zero =>
    refine hlast E1 a1 w1 g1 g2 g0.1 _ ?_
    intro E2 a2 w2 k0 k1 k2 k3
    have := hQ E2 a2 w2 (g0.trans k0) k1 k2 (g3.trans k3)
    cases x with
    | nor => cases hx
    | ret => exact this
    | ext i => exact this
  | succ j =>
    refine hstep j (by omega) E1 a1 w1 g1 g2 g0.1 _ ?_
    intro E2 a2 w2 k0 k1 k2 k3
    exact ⟨j, Nat.lt_succ_self j, by omega, E2, g0.trans k0, k1, k2, g3.trans k3⟩
end
def nilS : V := .raw (.slice none 0 0)
theorem mo0 {gf : Nat → Option Obj} {σ : Nat → Int} {val : Nat → Value} : ∀ e ∈ ([] : List Row), MO σ val gf e := gn
def litX (x : LX) (l : Lit) : Option (LX × Fr × St) := match litS l with
  | some (fr, st) => some (x, fr, st)
  | none => none
theorem litX_nor (l : Lit) : litX .nor l = litR l := by unfold litX litR; rfl
end Go.Proofs.YtbadfjogakhhbaaDoor.Re
