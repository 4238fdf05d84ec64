/- Pieces of a run under another table; in other words. TopTastes: names for its first loop. -/
import Derived.Test.YtbadfjogakhhbaaGreatDoorF32
namespace Go.Proofs.YtbadfjogakhhbaaGreatDoor.Re
open Go Go.RowKit
set_option linter.unusedVariables false
set_option linter.unusedSimpArgs false
set_option linter.unusedSectionVars false
section
variable {S' T : Sig} (H : Nm id id S' T)
include H
theorem VR_same {E : Env} {v : V} {x : Value} : @VR T E v x ↔ @VR S' E v x := by
  have := VR_ren H (E := E) v x
  rw [ren_id] at this
  exact this
theorem VRs_same {E : Env} {l : List V} {us : List Value} : @VRs T E l us ↔ @VRs S' E l us := by
  have := VRs_ren H (E := E) l us
  rw [rens_id] at this
  exact this
theorem TR_same {E : Env} {t : Re.T V} {a : Array Value} : @TR T E t a ↔ @TR S' E t a :=
  ⟨fun h i v hv => let ⟨x, h1, h2⟩ := h i v hv; ⟨x, h1, (VR_same H).1 h2⟩, fun h i v hv => let ⟨x, h1, h2⟩ := h i v hv; ⟨x, h1, (VR_same H).2 h2⟩⟩
theorem FR_same {E : Env} {fr : Fr} {a : Act} : @FR T E fr a ↔ @FR S' E fr a := by
  constructor
  · rintro ⟨h1, h2, h3, h4⟩; exact @FR.mk S' _ _ _ h1 ((TR_same H).1 h2) h3 h4
  · rintro ⟨h1, h2, h3, h4⟩; exact @FR.mk T _ _ _ h1 ((TR_same H).2 h2) h3 h4
theorem OR_same {E : Env} {b : Nat} {w : World} {o : LO} : @OR T E b w o ↔ @OR S' E b w o := by
  cases o with
  | cells l t => exact ⟨fun ⟨c, a1, a2, us, rest, a3, a4⟩ => ⟨c, a1, a2, us, rest, a3, (VRs_same H).1 a4⟩, fun ⟨c, a1, a2, us, rest, a3, a4⟩ => ⟨c, a1, a2, us, rest, a3, (VRs_same H).2 a4⟩⟩
  | obj o => exact Iff.rfl
  | loop r => exact ⟨fun ⟨fn, tm, a1, a2, a3, a4⟩ => ⟨fn, tm, a1, a2, a3, (TR_same H).1 a4⟩, fun ⟨fn, tm, a1, a2, a3, a4⟩ => ⟨fn, tm, a1, a2, a3, (TR_same H).2 a4⟩⟩
theorem WR_same {B : Nat → Prop} {E : Env} {st : St} {w : World} : @WR T (@GT T) B E st w ↔ @WR S' (@GT S') B E st w := by
  constructor
  · rintro ⟨h1, h2, h3, h4, h5, h6⟩
    exact @WR.mk S' _ _ _ _ _ h1 (fun b o hb => ⟨(h2 b o hb).1, (OR_same H).1 (h2 b o hb).2⟩) h3 h4 h5 (fun g o hg => h6 g o (by rw [GT_ren H, H.gf]; exact hg))
  · rintro ⟨h1, h2, h3, h4, h5, h6⟩
    exact @WR.mk T _ _ _ _ _ h1 (fun b o hb => ⟨(h2 b o hb).1, (OR_same H).2 (h2 b o hb).2⟩) h3 h4 h5 (fun g o hg => h6 g o (by rw [GT_ren H, H.gf] at hg; exact hg))
theorem Goes_same {B : Nat → Prop} {m : Nat} {c : Code} {fr fr' : Fr} {st st' : St} {x : LX} (h : @Goes T Tryz.prog (@GT T) B m c fr st x fr' st') : @Goes S' Tryz.prog (@GT S') B m c fr st x fr' st' := by
  intro E a w hw hf hm Q hQ
  exact h E a w ((WR_same H).2 hw) ((FR_same H).2 hf) hm Q (fun E' a' w' g0 g1 g2 g3 => hQ E' a' w' g0 ((WR_same H).1 g1) ((FR_same H).1 g2) g3)
end
theorem resV_same {P : Program} {G G' : Nat → Option Obj} {st : St} {fr : Fr} : ∀ {rs : List ResultVar} {r : List V}, resV P G st fr rs = some r → resV P G' st fr rs = some r
  | [], r, h => h
  | .tmp t :: rs, r, h => by
    simp only [resV] at h ⊢
    split at h
    · rename_i v l h1 h2
      rw [h1, resV_same h2]
      exact h
    · cases h
  | .cell a t :: rs, r, h => by
    simp only [resV] at h ⊢
    split at h
    · rename_i g i b off h1 h2 h3
      split at h
      · rename_i l hl
        split at h
        · rename_i v k h4 h5
          rw [h4, resV_same h5]
          exact h
        · cases h
      · cases h
    · cases h
theorem RestOK_same {S' T : Sig} (H : Nm id id S' T) {n : Nat} {t : SFact} {l : Lit} (h : @RestOK T Tryz.prog (@GT T) n t l) : @RestOK S' Tryz.prog (@GT S') n t l := by
  obtain ⟨fn, c, h1, fr, st, h2, x, fr', st', r, st1, h3, h4, h5, h6, h7, h8⟩ := h
  exact ⟨fn, c, h1, fr, st, h2, x, fr', st', r, st1, fun B => Goes_same H (h3 B), h4, h5, resV_same h6, h7, h8⟩
theorem Goes.words [Sig] {B : Nat → Prop} {m : Nat} {c : Code} {fr fr' : Fr} {st st' st'' : St} {x : LX} {bl bl' : List (List V × TypeId)} (h : Goes Tryz.prog GT B m c fr st x fr' st') (h1 : stBl bl = some st') (h2 : stBl bl' = some st'') (hi : Imp bl bl') : Goes Tryz.prog GT B m c fr st x fr' st'' := by
  intro E a w hw hf hm Q hQ
  exact h E a w hw hf hm Q (fun E' a' w' g0 g1 g2 g3 => hQ E' a' w' g0 (g1.words (P := Tryz.prog) h1 h2 hi) g2 g3)
def nilS : V := .raw (.slice none 0 0)
def bks (n : Nat) (P Q : Nat → List V) : List (List V × TypeId) := (((List.range n).flatMap fun i => [V.gs (2 + 2 * i) 0 3 1, V.gs (3 + 2 * i) 0 3 1]), 27) :: ((up n fun i => V.gs (2 + 2 * n + i) 0 3 1), 24) :: (((List.range n).flatMap fun i => [(P i, 3), (Q i, 3)]) ++ up n fun i => (qL i, 3))
def lp (n : Nat) (P Q : Nat → List V) : Lit := match n with
  | 0 => ⟨203, [(0, Vl 0), (3, nilS), (4, nilS), (5, I 0)], []⟩
  | k + 1 => ⟨203, [(0, Vl 0), (3, .gs 0 0 (k + 1) 2), (4, .gs 1 0 (k + 1) 1), (5, I (k + 1))], bks (k + 1) P Q⟩
def put (i : Nat) (x : List V) (f : Nat → List V) (j : Nat) : List V := match Nat.beq j i with
  | true => x
  | false => f j
def mix : Nat → Nat → List V
  | 0, i => [I 1, I 1, I 1]
  | 1, i => [pS i 0, I 1, I 1]
  | 2, i => [pS i 0, pS i 1, I 1]
  | _, i => pL i
def dS (i j : Nat) : V := S (100 * (i + 1) + j)
def dDm (k i : Nat) : SFact := ⟨5, [.gs 0 0 3 1, I 3, I 60], [(mix k i, 3)], .gs 1 0 3 1, [(mix k i, 3), (qL i, 3)]⟩
def tabG (i k : Nat) (x : Bool) : List Row := (4, I i, S 90, O true) :: (4, I 1, pS i 0, O x) :: (up k fun j => (1, I 1, dS i j, pS i j)) ++ up k fun j => (4, pS i j, pS i 0, O false)
def memG (i : Nat) : List Row := [(30, Vl 0, Vl 0, S 90), (31, Vl 0, I i, Vl (10 + i)), (32, Vl (10 + i), Vl (10 + i), Vl (20 + i))]
noncomputable def loopX : Code := match callInfo Tryz.prog 3 with
  | some (_, c) => match cutB 2 c with
    | .seq (.seq _ (.block _ (.loop x))) _ => x
    | _ => .ret
  | none => .ret
noncomputable def rdR [Sig] (K : Orc) (ts : List Nat) (l : Lit) : Option (LX × Fr × St) := match litS l with
  | some (fr, st) => runP Tryz.prog GT K 4000 0 ts loopX fr st
  | none => none
def litX (x : LX) (l : Lit) : Option (LX × Fr × St) := match litS l with
  | some (fr, st) => some (x, fr, st)
  | none => none
end Go.Proofs.YtbadfjogakhhbaaGreatDoor.Re
