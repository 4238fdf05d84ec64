/- The small machine: a run in pieces: what is kept of a state between two of them; facts about calls as an oracle. -/
import Derived.Test.YtbadfjogakhhbaaDoorF14
namespace Go.Proofs.YtbadfjogakhhbaaDoor.Re
open Go Go.RowKit
set_option linter.unusedVariables false
set_option linter.unusedSimpArgs false
set_option linter.unusedSectionVars false
variable [Sig]
mutual
def mapV (g : Nat → Option Nat) : V → Option V
  | .raw u => some (.raw u)
  | .sym i => some (.sym i)
  | .ptr b off => match g b with | some b' => some (.ptr b' off) | none => none
  | .sl b off len cap => match g b with | some b' => some (.sl b' off len cap) | none => none
  | .gs b off len s => match g b with | some b' => some (.gs b' off len s) | none => none
  | .agg l => match mapVs g l with | some l' => some (.agg l') | none => none
  | .tup l => match mapVs g l with | some l' => some (.tup l') | none => none
  | .clo f a c => match mapVs g a, mapVs g c with | some a', some c' => some (.clo f a' c') | _, _ => none
  | .yld _ => none
  | .mp _ => none
  | .any => some .any
  | .val j => some (.val j)
def mapVs (g : Nat → Option Nat) : List V → Option (List V)
  | [] => some []
  | v :: l => match mapV g v, mapVs g l with | some v', some l' => some (v' :: l') | _, _ => none
end
def GOK (g : Nat → Option Nat) (E E' : Env) : Prop := ∀ b b', g b = some b' → b < E.n → b' < E'.n ∧ E'.ρ b' = E.ρ b ∧ E'.sz b' = E.sz b
mutual
theorem mapV_ok {g : Nat → Option Nat} {E E' : Env} (hg : GOK g E E') : ∀ (v v' : V) (x : Value), mapV g v = some v' → VR E v x → VR E' v' x
  | .raw u, v', x, h, hx => by simp only [mapV] at h; injection h with h; subst h; exact hx
  | .sym i, v', x, h, hx => by simp only [mapV] at h; injection h with h; subst h; exact hx
  | .ptr b off, v', x, h, hx => by
    simp only [mapV] at h
    split at h
    · rename_i b' hb
      injection h with h; subst h
      obtain ⟨h1, h2, h3⟩ := hg b b' hb hx.1
      exact ⟨h1, by rw [h2]; exact hx.2⟩
    · cases h
  | .sl b off len cap, v', x, h, hx => by
    simp only [mapV] at h
    split at h
    · rename_i b' hb
      injection h with h; subst h
      obtain ⟨h1, h2, h3⟩ := hg b b' hb hx.1
      exact ⟨h1, by rw [h2]; exact hx.2⟩
    · cases h
  | .gs b off len s, v', x, h, hx => by
    simp only [mapV] at h
    split at h
    · rename_i b' hb
      injection h with h; subst h
      obtain ⟨h0, cap, e, h4⟩ := hx
      obtain ⟨h1, h2, h3⟩ := hg b b' hb h0
      exact ⟨h1, cap, by rw [h2]; exact e, by rw [h3]; exact h4⟩
    · cases h
  | .agg l, v', x, h, hx => by
    simp only [mapV] at h
    split at h
    · rename_i l' hl
      injection h with h; subst h
      obtain ⟨us, h1, h2⟩ := hx
      exact ⟨us, h1, mapVs_ok hg l l' _ hl h2⟩
    · cases h
  | .tup l, v', x, h, hx => by
    simp only [mapV] at h
    split at h
    · rename_i l' hl
      injection h with h; subst h
      obtain ⟨us, h1, h2⟩ := hx
      exact ⟨us, h1, mapVs_ok hg l l' _ hl h2⟩
    · cases h
  | .clo f a c, v', x, h, hx => by
    simp only [mapV] at h
    split at h
    · rename_i a' c' ha hc
      injection h with h; subst h
      obtain ⟨us, vs, h1, h2, h3⟩ := hx
      exact ⟨us, vs, h1, mapVs_ok hg a a' _ ha h2, mapVs_ok hg c c' _ hc h3⟩
    · cases h
  | .yld b, v', x, h, hx => by simp [mapV] at h
  | .mp b, v', x, h, hx => by simp [mapV] at h
  | .any, v', x, h, hx => by simp only [mapV] at h; injection h with h; subst h; exact hx
  | .val j, v', x, h, hx => by simp only [mapV] at h; injection h with h; subst h; exact hx
theorem mapVs_ok {g : Nat → Option Nat} {E E' : Env} (hg : GOK g E E') : ∀ (l l' : List V) (us : List Value), mapVs g l = some l' → VRs E l us → VRs E' l' us
  | [], l', us, h, hx => by simp only [mapVs] at h; injection h with h; subst h; exact hx
  | v :: l, l', us, h, hx => by
    simp only [mapVs] at h
    split at h
    · rename_i v' k hv hk
      injection h with h; subst h
      obtain ⟨u, r, h1, h2, h3⟩ := hx
      exact ⟨u, r, h1, mapV_ok hg v v' u hv h2, mapVs_ok hg l k r hk h3⟩
    · cases h
end
/-- Which blocks a value names. -/
def addB (b : Nat) : List Nat → List Nat
  | [] => [b]
  | c :: l => match Nat.beq b c with | true => c :: l | false => c :: addB b l
mutual
def blocksV : V → List Nat → List Nat
  | .ptr b _, l => addB b l
  | .sl b _ _ _, l => addB b l
  | .gs b _ _ _, l => addB b l
  | .agg k, l => blocksVs k l
  | .tup k, l => blocksVs k l
  | .clo _ a c, l => blocksVs c (blocksVs a l)
  | _, l => l
def blocksVs : List V → List Nat → List Nat
  | [], l => l
  | v :: k, l => blocksVs k (blocksV v l)
end
theorem addB_pre {b : Nat} : ∀ {l : List Nat} {i : Nat} {c : Nat}, l[i]? = some c → (addB b l)[i]? = some c
  | [], i, c, h => by simp at h
  | d :: l, i, c, h => by
    unfold addB
    split
    · exact h
    · cases i with
      | zero => simpa using h
      | succ i => simpa using addB_pre (by simpa using h)
mutual
theorem blocksV_pre : ∀ (v : V) {l : List Nat} {i : Nat} {c : Nat}, l[i]? = some c → (blocksV v l)[i]? = some c
  | .raw _, _, _, _, h => h
  | .sym _, _, _, _, h => h
  | .ptr b _, _, _, _, h => addB_pre h
  | .sl b _ _ _, _, _, _, h => addB_pre h
  | .gs b _ _ _, _, _, _, h => addB_pre h
  | .agg k, _, _, _, h => blocksVs_pre k h
  | .tup k, _, _, _, h => blocksVs_pre k h
  | .clo _ a c, _, _, _, h => blocksVs_pre c (blocksVs_pre a h)
  | .yld _, _, _, _, h => h
  | .mp _, _, _, _, h => h
  | .any, _, _, _, h => h
  | .val _, _, _, _, h => h
theorem blocksVs_pre : ∀ (k : List V) {l : List Nat} {i : Nat} {c : Nat}, l[i]? = some c → (blocksVs k l)[i]? = some c
  | [], _, _, _, h => h
  | v :: k, _, _, _, h => blocksVs_pre k (blocksV_pre v h)
end
def idxB (b : Nat) : List Nat → Nat → Option Nat
  | [], _ => none
  | c :: l, i => match Nat.beq b c with | true => some i | false => idxB b l (Nat.succ i)
theorem idxB_ok {b : Nat} : ∀ {l : List Nat} {i j : Nat}, idxB b l i = some j → i ≤ j ∧ j < i + l.length ∧ l[j - i]? = some b
  | [], i, j, h => by simp [idxB] at h
  | c :: l, i, j, h => by
    simp only [idxB] at h
    split at h
    · rename_i hb
      have hb := Nat.eq_of_beq_eq_true hb
      injection h with h
      subst h hb
      exact ⟨Nat.le_refl _, by simp, by simp⟩
    · obtain ⟨h1, h2, h3⟩ := idxB_ok h
      refine ⟨by omega, by simp only [List.length_cons]; omega, ?_⟩
      rw [show j - i = (j - (i + 1)) + 1 by omega]
      simpa using h3
def keepB (g : Nat → Option Nat) (h : T LO) : List Nat → Nat → T LO → Option (T LO)
  | [], _, t => some t
  | b :: r, i, t => match h.get b with
    | some (.cells l ty) => match g b, mapVs g l with
      | some i', some l' => match Nat.beq i i' with
        | true => match t.set fuelT i (some (.cells l' ty)) with
          | some t' => keepB g h r (Nat.succ i) t'
          | none => none
        | false => none
      | _, _ => none
    | _ => none
theorem keepB_ok {g : Nat → Option Nat} {h : T LO} : ∀ {l : List Nat} {i : Nat} {t t' : T LO}, keepB g h l i t = some t' → ∀ j o, t'.get j = some o →
    t.get j = some o ∨ ∃ b k ty k', g b = some j ∧ h.get b = some (.cells k ty) ∧ mapVs g k = some k' ∧ o = .cells k' ty
  | [], i, t, t', hh, j, o, ho => by simp only [keepB] at hh; injection hh with hh; subst hh; exact .inl ho
  | b :: r, i, t, t', hh, j, o, ho => by
    simp only [keepB] at hh
    split at hh
    · rename_i k ty hb
      split at hh
      · rename_i i' k' hg hk
        split at hh
        · rename_i hi
          have hi := Nat.eq_of_beq_eq_true hi
          subst hi
          split at hh
          · rename_i t1 ht
            rcases keepB_ok hh j o ho with h1 | h1
            · rw [T.get_set _ _ _ _ _ ht] at h1
              by_cases e : j = i
              · subst e
                rw [if_pos rfl] at h1
                injection h1 with h1
                exact .inr ⟨b, k, ty, k', hg, hb, hk, h1.symm⟩
              · rw [if_neg e] at h1
                exact .inl h1
            · exact .inr h1
          · cases hh
        · cases hh
      · cases hh
    · cases hh
def keepT (g : Nat → Option Nat) (t : T V) : List Nat → T V → Option (T V)
  | [], r => some r
  | i :: l, r => match t.get i with
    | some v => match mapV g v with
      | some v' => match r.set fuelT i (some v') with
        | some r' => keepT g t l r'
        | none => none
      | none => none
    | none => none
theorem keepT_ok {g : Nat → Option Nat} {t : T V} : ∀ {l : List Nat} {r r' : T V}, keepT g t l r = some r' → ∀ i v, r'.get i = some v → r.get i = some v ∨ ∃ u, t.get i = some u ∧ mapV g u = some v
  | [], r, r', h, i, v, hv => by simp only [keepT] at h; injection h with h; subst h; exact .inl hv
  | k :: l, r, r', h, i, v, hv => by
    simp only [keepT] at h
    split at h
    · rename_i u hu
      split at h
      · rename_i u' hm
        split at h
        · rename_i r1 hr
          rcases keepT_ok h i v hv with h1 | h1
          · rw [T.get_set _ _ _ _ _ hr] at h1
            by_cases e : i = k
            · subst e
              rw [if_pos rfl] at h1
              injection h1 with h1
              subst h1
              exact .inr ⟨u, hu, hm⟩
            · rw [if_neg e] at h1
              exact .inl h1
          · exact .inr h1
        · cases h
      · cases h
    · cases h
def tmpBs (t : T V) : List Nat → List Nat → List Nat
  | [], l => l
  | i :: r, l => match t.get i with
    | some v => tmpBs t r (blocksV v l)
    | none => tmpBs t r l
theorem tmpBs_pre {t : T V} : ∀ {ts : List Nat} {l : List Nat} {i c : Nat}, l[i]? = some c → (tmpBs t ts l)[i]? = some c
  | [], l, i, c, h => h
  | k :: ts, l, i, c, h => by
    unfold tmpBs
    split
    · exact tmpBs_pre (blocksV_pre _ h)
    · exact tmpBs_pre h
/-- All blocks that are reached from some. -/
def reachB (h : T LO) : Nat → Nat → List Nat → List Nat
  | 0, _, bs => bs
  | k + 1, i, bs => match bs[i]? with
    | none => bs
    | some b => match h.get b with
      | some (.cells l _) => reachB h k (Nat.succ i) (blocksVs l bs)
      | _ => bs
theorem reachB_pre {h : T LO} : ∀ {k n : Nat} {l : List Nat} {i c : Nat}, l[i]? = some c → (reachB h k n l)[i]? = some c
  | 0, _, _, _, _, hc => hc
  | k + 1, n, l, i, c, hc => by
    unfold reachB
    split
    · exact hc
    · split
      · exact reachB_pre (blocksVs_pre _ hc)
      · exact hc
/-- The first m blocks stay where they are. -/
def Env.up (m : Nat) (E E' : Env) : Prop := m ≤ E'.n ∧ ∀ b, b < m → E'.ρ b = E.ρ b ∧ E'.sz b = E.sz b
theorem Env.up.trans {m : Nat} {A B C : Env} (h : Env.up m A B) (k : Env.up m B C) : Env.up m A C :=
  ⟨k.1, fun b hb => ⟨(k.2 b hb).1.trans (h.2 b hb).1, (k.2 b hb).2.trans (h.2 b hb).2⟩⟩
theorem Env.le.up {m : Nat} {A B : Env} (h : A.le B) (hm : m ≤ A.n) : Env.up m A B := ⟨Nat.le_trans hm h.1, fun b hb => h.2 b (Nat.lt_of_lt_of_le hb hm)⟩
/-- A state with what is named alone; the blocks numbered anew. -/
def pruneB (bs : List Nat) (h : T LO) : Option St := match keepB (fun b => idxB b bs 0) h bs 0 .leaf with
  | some t => some ⟨t, bs.length⟩
  | none => none
def prune (m : Nat) (ts : List Nat) (fr : Fr) (st : St) : Option (Fr × St) := match fr, st with
  | ⟨t, sz, d⟩, ⟨h, _⟩ => match d with
    | [] => match reachB h 40 0 (tmpBs t ts (List.range m)) with
      | bs => match keepT (fun b => idxB b bs 0) t ts .leaf, pruneB bs h with
        | some t', some st' => some (⟨t', sz, []⟩, st')
        | _, _ => none
    | _ :: _ => none
def pruneV (v : V) (st : St) : Option (V × St) := match reachB st.h 40 0 (blocksV v []) with
  | bs => match mapV (fun b => idxB b bs 0) v, pruneB bs st.h with
    | some v', some st' => some (v', st')
    | _, _ => none
def Env.pick (E : Env) (bs : List Nat) : Env := ⟨bs.length, fun i => E.ρ (bs.getD i 0), fun i => E.sz (bs.getD i 0)⟩
section
variable {P : Program} {G : Nat → Option Obj} {B : Nat → Prop} {E : Env} {st : St} {w : World}
theorem gok_pick (E : Env) (bs : List Nat) : GOK (fun b => idxB b bs 0) E (E.pick bs) := fun b b' h _ => by
  obtain ⟨_, h1, h2⟩ := idxB_ok h
  rw [Nat.sub_zero] at h2
  have e : bs.getD b' 0 = b := by rw [List.getD_eq_getElem?_getD, h2]; rfl
  exact ⟨by simpa [Env.pick] using h1, by simp only [Env.pick, e], by simp only [Env.pick, e]⟩
theorem pruneB_ok {bs : List Nat} {st' : St} (h : pruneB bs st.h = some st') (hw : WR G B E st w) : WR G B (E.pick bs) st' w := by
  unfold pruneB at h
  split at h
  · rename_i t ht
    injection h with h
    subst h
    have hk := keepB_ok ht
    have hk' : ∀ j o, t.get j = some o → ∃ b k ty k', idxB b bs 0 = some j ∧ st.h.get b = some (.cells k ty) ∧ mapVs (fun b => idxB b bs 0) k = some k' ∧ o = .cells k' ty := fun j o ho => by
      rcases hk j o ho with h1 | h1
      · simp [T.get] at h1
      · exact h1
    have hlive : ∀ b k ty, st.h.get b = some (.cells k ty) → b < E.n := fun b k ty hb => by rw [hw.n]; exact (hw.live b _ hb).1
    refine ⟨rfl, fun j o ho => ?_, fun j j' o o' ho ho' he => ?_, fun j o ho => ?_, hw.size, hw.glob⟩
    · obtain ⟨b, k, ty, k', h1, h2, h3, rfl⟩ := hk' j o ho
      obtain ⟨g1, g2, g3⟩ := gok_pick E bs b j h1 (hlive b k ty h2)
      obtain ⟨c, c1, c2, us, rest, c3, c4⟩ := (hw.live b _ h2).2
      exact ⟨g1, c, by rw [g2]; exact c1, by rw [g3]; exact c2, us, rest, c3, mapVs_ok (gok_pick E bs) k k' us h3 c4⟩
    · obtain ⟨b, k, ty, k', h1, h2, h3, _⟩ := hk' j o ho
      obtain ⟨b', k2, ty', k2', h1', h2', h3', _⟩ := hk' j' o' ho'
      have e1 := (gok_pick E bs b j h1 (hlive b k ty h2)).2.1
      have e2 := (gok_pick E bs b' j' h1' (hlive b' k2 ty' h2')).2.1
      have e3 := hw.inj b b' _ _ h2 h2' (by rw [← e1, ← e2]; exact he)
      subst e3
      rw [h1] at h1'
      exact Option.some.inj h1'
    · obtain ⟨b, k, ty, k', h1, h2, h3, _⟩ := hk' j o ho
      rw [(gok_pick E bs b j h1 (hlive b k ty h2)).2.1]
      exact hw.base b _ h2
  · cases h
theorem prune_ok {m : Nat} {ts : List Nat} {fr fr' : Fr} {st' : St} {a : Act} (h : prune m ts fr st = some (fr', st')) (hm : m ≤ E.n) (hw : WR G B E st w) (hf : FR E fr a) : ∃ E', Env.up m E E' ∧ WR G B E' st' w ∧ FR E' fr' a := by
  cases fr with
  | mk t sz d =>
    cases hst : st with
    | mk hh n =>
      rw [hst] at h
      unfold prune at h
      simp only at h
      split at h
      · split at h
        · rename_i t' s' h1 h2
          injection h with h; injection h with e1 e2
          subst e1 e2
          have hpre : ∀ b, b < m → (reachB hh 40 0 (tmpBs t ts (List.range m)))[b]? = some b := fun b hb => reachB_pre (tmpBs_pre (by simp [hb]))
          have hw2 : WR G B (E.pick (reachB hh 40 0 (tmpBs t ts (List.range m)))) s' w := pruneB_ok (st := st) (by rw [hst]; exact h2) hw
          refine ⟨_, ⟨?_, fun b hb => ?_⟩, hw2, hf.sz, fun i v hv => ?_, hf.d, fun b hb => by cases hb⟩
          · show m ≤ (reachB hh 40 0 (tmpBs t ts (List.range m))).length
            by_cases h0 : m = 0
            · omega
            · have := (List.getElem?_eq_some_iff.1 (hpre (m - 1) (by omega))).1
              omega
          · have e : (reachB hh 40 0 (tmpBs t ts (List.range m))).getD b 0 = b := by rw [List.getD_eq_getElem?_getD, hpre b hb]; rfl
            simp only [Env.pick, e]
            exact ⟨trivial, trivial⟩
          · rcases keepT_ok h1 i v hv with h3 | ⟨u, h3, h4⟩
            · simp [T.get] at h3
            · obtain ⟨x, x1, x2⟩ := hf.t i u h3
              exact ⟨x, x1, mapV_ok (gok_pick E _) u v x h4 x2⟩
        · cases h
      · cases h
theorem pruneV_ok {v v' : V} {st' : St} {x : Value} (h : pruneV v st = some (v', st')) (hw : WR G B E st w) (hx : VR E v x) : ∃ E', WR G B E' st' w ∧ VR E' v' x := by
  unfold pruneV at h
  simp only at h
  split at h
  · rename_i v1 s1 h1 h2
    injection h with h; injection h with e1 e2
    subst e1 e2
    exact ⟨_, pruneB_ok h2 hw, mapV_ok (gok_pick E _) v v1 x h1 hx⟩
  · cases h
end
end Go.Proofs.YtbadfjogakhhbaaDoor.Re
