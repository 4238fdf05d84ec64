/- The small machine: facts about calls with memory as an oracle: soundness. -/
import Derived.Test.YtbadfjogakhhbaaDoorF19
namespace Go.Proofs.YtbadfjogakhhbaaDoor.Re
open Go Go.RowKit
set_option linter.unusedVariables false
set_option linter.unusedSimpArgs false
set_option linter.unusedSectionVars false
variable [Sig]
def sCall (t : SFact) (args : List V) (st : St) : Option (V × St) := match st with
  | ⟨h, n⟩ => match reachB h 40 0 (blocksVs args []) with
    | bs => match mapVs (fun b => idxB b bs 0) args with
      | some as => match vsSame as t.args && preOK (fun b => idxB b bs 0) h bs 0 t.pre with
        | true => match mapV (fun j => some (tgt bs n j)) t.v, graftL (fun j => some (tgt bs n j)) (tgt bs n) t.post 0 h with
          | some v', some h' => some (v', ⟨h', n + (t.post.length - bs.length)⟩)
          | _, _ => none
        | false => none
      | none => none
section
variable {P : Program} {G : Nat → Option Obj} {B : Nat → Prop} {E : Env} {w : World}
theorem stBl_get {bl : List (List V × TypeId)} {st : St} (h : stBl bl = some st) : st.n = bl.length ∧ (∀ i l ty, bl[i]? = some (l, ty) → st.h.get i = some (.cells l ty)) ∧ ∀ i o, st.h.get i = some o → ∃ l ty, bl[i]? = some (l, ty) ∧ o = LO.cells l ty := by
  unfold stBl at h
  split at h
  · rename_i t ht
    injection h with h
    subst h
    refine ⟨rfl, fun i l ty hi => ?_, fun i o ho => ?_⟩
    · have hlt : i < bl.length := (List.getElem?_eq_some_iff.1 hi).1
      rw [show (St.h ⟨t, bl.length⟩) = t from rfl, setL_get ht i, if_pos (by simp [celL, hlt])]
      simp [celL, hi]
    · rw [show (St.h ⟨t, bl.length⟩) = t from rfl, setL_get ht i] at ho
      split at ho
      · simp only [celL, Nat.sub_zero, List.getElem?_map, Option.map_eq_some_iff] at ho
        obtain ⟨⟨l, ty⟩, h1, h2⟩ := ho
        exact ⟨l, ty, h1, h2.symm⟩
      · simp [T.get] at ho
  · cases h
theorem sCall_ok {t : SFact} (ht : SFactOK P G t) {args : List V} {h : T LO} {n : Nat} {v' : V} {st' : St} (hc : sCall t args ⟨h, n⟩ = some (v', st')) (hw : WR G B E ⟨h, n⟩ w) {us : List Value} (hv : VRs E args us) (hst : (stBl t.pre).isSome = true) :
    CallsIn Fence.wide 0 P t.f us.toArray w fun e w' => ∃ x E', e = .returned x ∧ E.le E' ∧ WR G B E' st' w' ∧ VR E' v' x ∧ Keep B w w' := by
  obtain ⟨st0, hst0⟩ := Option.isSome_iff_exists.1 hst
  obtain ⟨p1, p2, p3⟩ := stBl_get hst0
  have hn : E.n = n := hw.n
  unfold sCall at hc
  simp only at hc
  split at hc
  · rename_i as has
    split at hc
    · rename_i hb
      simp only [Bool.and_eq_true] at hb
      have e1 := vsSame_ok hb.1
      subst e1
      obtain ⟨l1, l2⟩ := preOK_get hb.2
      have hgp := gok_pick E (reachB h 40 0 (blocksVs args []))
      generalize hbs : reachB h 40 0 (blocksVs args []) = bs at *
      have hargs : VRs (E.pick bs) t.args us := mapVs_ok hgp _ _ _ has hv
      let B' : Nat → Prop := fun a => B a ∨ (a < w.heap.size ∧ ∀ b ∈ bs, a ≠ E.ρ b)
      have hB' : ∀ a, B a → B' a := fun a ha => .inl ha
      have hpre : ∀ i l ty, t.pre[i]? = some (l, ty) → ∃ b k, bs[i]? = some b ∧ h.get b = some (.cells k ty) ∧ mapVs (fun b => idxB b bs 0) k = some l ∧ idxB b bs 0 = some i ∧ (E.pick bs).ρ i = E.ρ b ∧ (E.pick bs).sz i = E.sz b := fun i l ty hi => by
        obtain ⟨b, k, q1, q2, q3, q4⟩ := l2 i l ty hi
        have e : bs.getD i 0 = b := by rw [List.getD_eq_getElem?_getD, q1]; rfl
        exact ⟨b, k, q1, q2, q3, by simpa using q4, by simp only [Env.pick, e], by simp only [Env.pick, e]⟩
      have hw0 : WR G B' (E.pick bs) st0 w := by
        refine ⟨by rw [p1]; exact l1, fun i o ho => ?_, fun i j o o' ho ho' he => ?_, fun i o ho => ?_, fun k hk => hk.elim (hw.size k) (fun q => q.1), fun g o hg => ⟨.inl (hw.glob g o hg).1, (hw.glob g o hg).2⟩⟩
        · obtain ⟨l, ty, hi, rfl⟩ := p3 i o ho
          obtain ⟨b, k, q1, q2, q3, q4, q5, q6⟩ := hpre i l ty hi
          obtain ⟨c, c1, c2, us1, rest, c3, c4⟩ := (hw.live b _ q2).2
          refine ⟨by rw [p1]; exact (List.getElem?_eq_some_iff.1 hi).1, c, by rw [q5]; exact c1, by rw [q6]; exact c2, us1, rest, c3, mapVs_ok hgp _ _ _ q3 c4⟩
        · obtain ⟨l, ty, hi, rfl⟩ := p3 i o ho
          obtain ⟨m, ty', hj, rfl⟩ := p3 j o' ho'
          obtain ⟨b, k, q1, q2, q3, q4, q5, q6⟩ := hpre i l ty hi
          obtain ⟨b', k', r1, r2, r3, r4, r5, r6⟩ := hpre j m ty' hj
          have := hw.inj b b' _ _ q2 r2 (by rw [← q5, ← r5]; exact he)
          subst this
          rw [q4] at r4
          exact Option.some.inj r4
        · obtain ⟨l, ty, hi, rfl⟩ := p3 i o ho
          obtain ⟨b, k, q1, q2, q3, q4, q5, q6⟩ := hpre i l ty hi
          rw [q5]
          rintro (hh | ⟨_, hh⟩)
          · exact hw.base b _ q2 hh
          · exact hh b (List.mem_of_getElem? q1) rfl
      split at hc
      · rename_i v2 h' hv2 hg2
        injection hc with hc; injection hc with e1 e2
        subst e1 e2
        refine CallsIn.mono (ht.2 B' (E.pick bs) w us st0 hst0 hw0 hargs) ?_
        rintro _ w' ⟨x, E', st1, s1, rfl, s2, s3, s4, s5⟩
        obtain ⟨u1, u2, u3⟩ := stBl_get s1
        have hE1 : E'.n = t.post.length := s3.n.trans u1
        have hk : bs.length ≤ E'.n := s2.1
        let E2 : Env := ⟨n + (E'.n - bs.length), fun b => if b < n then E.ρ b else E'.ρ (bs.length + (b - n)), fun b => if b < n then E.sz b else E'.sz (bs.length + (b - n))⟩
        have hle : E.le E2 := ⟨by show E.n ≤ n + _; omega, fun b hb => by
          have : b < n := by omega
          exact ⟨by show (if b < n then _ else _) = _; rw [if_pos this], by show (if b < n then _ else _) = _; rw [if_pos this]⟩⟩
        have hbn : ∀ i b, bs[i]? = some b → i < t.pre.length → b < n := fun i b hi hlt => by
          obtain ⟨b', k, q1, q2, _⟩ := hpre i _ _ (List.getElem?_eq_getElem hlt)
          rw [hi] at q1
          injection q1 with q1
          subst q1
          exact (hw.live b _ q2).1
        have htg : ∀ j, j < E'.n → tgt bs n j < E2.n ∧ E2.ρ (tgt bs n j) = E'.ρ j ∧ E2.sz (tgt bs n j) = E'.sz j := fun j hj => by
          unfold tgt
          split
          · rename_i b hb
            have hjl : j < bs.length := (List.getElem?_eq_some_iff.1 hb).1
            have hb' := hbn j b hb (by omega)
            have e : bs.getD j 0 = b := by rw [List.getD_eq_getElem?_getD, hb]; rfl
            have q := s2.2 j hjl
            refine ⟨by show b < n + _; omega, ?_, ?_⟩
            · show (if b < n then _ else _) = _; rw [if_pos hb', q.1]; simp only [Env.pick, e]
            · show (if b < n then _ else _) = _; rw [if_pos hb', q.2]; simp only [Env.pick, e]
          · rename_i hb
            have hjl : bs.length ≤ j := by simpa using hb
            have h0 : ¬ n + (j - bs.length) < n := by omega
            have h1 : bs.length + (n + (j - bs.length) - n) = j := by omega
            refine ⟨by show n + (j - bs.length) < n + _; omega, ?_, ?_⟩
            · show (if n + (j - bs.length) < n then _ else _) = _; rw [if_neg h0, h1]
            · show (if n + (j - bs.length) < n then _ else _) = _; rw [if_neg h0, h1]
        have hG2 : GOK (fun j => some (tgt bs n j)) E' E2 := fun b b' hb hlt => by
          injection hb with hb
          subst hb
          exact htg b hlt
        have hget := graftL_get hg2
        have hold : ∀ m o, h.get m = some o → (∀ i, i < t.post.length → m ≠ tgt bs n (0 + i)) → m < n ∧ B' (E.ρ m) ∧ E2.ρ m = E.ρ m ∧ OR E m w o := fun m o hm hne => by
          have hl := hw.live m o hm
          have hmn : m < n := hl.1
          refine ⟨hmn, .inr ⟨hl.2.lt, fun b hb he => ?_⟩, by show (if m < n then _ else _) = _; rw [if_pos hmn], hl.2⟩
          obtain ⟨i, hi⟩ := List.getElem?_of_mem hb
          have hil : i < bs.length := (List.getElem?_eq_some_iff.1 hi).1
          obtain ⟨b', k, q1, q2, _⟩ := hpre i _ _ (List.getElem?_eq_getElem (show i < t.pre.length by omega))
          rw [hi] at q1
          injection q1 with q1
          subst q1
          have e := hw.inj m b _ _ hm q2 he
          refine hne i (by omega) ?_
          rw [Nat.zero_add, e]
          simp only [tgt, hi]
        have hnew : ∀ i l ty, t.post[i]? = some (l, ty) → i < E'.n ∧ st1.h.get i = some (.cells l ty) := fun i l ty hi => ⟨by rw [hE1]; exact (List.getElem?_eq_some_iff.1 hi).1, u2 i l ty hi⟩
        refine ⟨x, E2, rfl, hle, ⟨by show n + (E'.n - bs.length) = n + _; rw [hE1], fun m o ho => ?_, fun m m' o o' ho ho' he => ?_, fun m o ho => ?_, fun k hk => Nat.lt_of_lt_of_le (hw.size k hk) s5.size, fun g o hg => ⟨(hw.glob g o hg).1, (s3.glob g o hg).2⟩⟩, mapV_ok hG2 _ _ x hv2 s4, s5.mono hB'⟩
        · rcases hget m o ho with ⟨i, l, ty, l', q1, rfl, q3, rfl⟩ | ⟨q1, q2⟩
          · rw [Nat.zero_add]
            obtain ⟨r1, r2⟩ := hnew i l ty q1
            obtain ⟨g1, g2, g3⟩ := htg i r1
            obtain ⟨c, c1, c2, us1, rest, c3, c4⟩ := (s3.live i _ r2).2
            exact ⟨by have : E2.n = n + (t.post.length - bs.length) := by (show n + (E'.n - bs.length) = _; rw [hE1])
                      rw [this] at g1; exact g1, c, by rw [g2]; exact c1, by rw [g3]; exact c2, us1, rest, c3, mapVs_ok hG2 _ _ _ q3 c4⟩
          · obtain ⟨g1, g2, g3, g4⟩ := hold m o q1 q2
            exact ⟨by show m < n + _; omega, g4.keep hle (by omega) (s5.block _ g2)⟩
        · rcases hget m o ho with ⟨i, l, ty, l', q1, rfl, q3, rfl⟩ | ⟨q1, q2⟩ <;> rcases hget m' o' ho' with ⟨j, k, ty', k', r1, rfl, r3, rfl⟩ | ⟨r1, r2⟩
          · rw [Nat.zero_add, Nat.zero_add] at he ⊢
            obtain ⟨a1, a2⟩ := hnew i l ty q1
            obtain ⟨b1, b2⟩ := hnew j k ty' r1
            rw [(htg i a1).2.1, (htg j b1).2.1] at he
            rw [s3.inj i j _ _ a2 b2 he]
          · rw [Nat.zero_add] at he ⊢
            obtain ⟨a1, a2⟩ := hnew i l ty q1
            obtain ⟨g1, g2, g3, g4⟩ := hold m' o' r1 r2
            rw [(htg i a1).2.1, g3] at he
            exact absurd (by rw [he]; exact g2) (s3.base i _ a2)
          · rw [Nat.zero_add] at he ⊢
            obtain ⟨b1, b2⟩ := hnew j k ty' r1
            obtain ⟨g1, g2, g3, g4⟩ := hold m o q1 q2
            rw [(htg j b1).2.1, g3] at he
            exact absurd (by rw [← he]; exact g2) (s3.base j _ b2)
          · obtain ⟨g1, g2, g3, g4⟩ := hold m o q1 q2
            obtain ⟨k1, k2, k3, k4⟩ := hold m' o' r1 r2
            rw [g3, k3] at he
            exact hw.inj m m' o o' q1 r1 he
        · rcases hget m o ho with ⟨i, l, ty, l', q1, rfl, q3, rfl⟩ | ⟨q1, q2⟩
          · rw [Nat.zero_add]
            obtain ⟨a1, a2⟩ := hnew i l ty q1
            rw [(htg i a1).2.1]
            exact fun hh => s3.base i _ a2 (.inl hh)
          · obtain ⟨g1, g2, g3, g4⟩ := hold m o q1 q2
            rw [g3]
            exact hw.base m o q1
      · cases hc
    · cases hc
  · cases hc
def sfactsK : List SFact → Orc
  | [], _, _, _ => none
  | t :: r, f, args, st => match Nat.beq f t.f with
    | true => match sCall t args st with
      | some x => some x
      | none => sfactsK r f args st
    | false => sfactsK r f args st
theorem sfactsK_ok : ∀ {ts : List SFact}, (∀ t ∈ ts, SFactOK P G t ∧ (stBl t.pre).isSome = true) → OrcOK P G B (sfactsK ts)
  | [], hts => fun f args st v st' hh => by simp [sfactsK] at hh
  | t :: r, hts => fun f args st v st' hh E w us hw hv => by
    have hrec := fun hh => sfactsK_ok (ts := r) (fun t' ht' => hts t' (by simp [ht'])) f args st v st' hh E w us hw hv
    unfold sfactsK at hh
    split at hh
    · rename_i hf
      have hf := Nat.eq_of_beq_eq_true hf
      split at hh
      · rename_i q hq
        injection hh with hh
        subst hh hf
        obtain ⟨q1, q2⟩ := hts t (by simp)
        refine ⟨fun ro => ?_, q1.1⟩
        show CallsIn Fence.wide 0 P t.f us.toArray w _
        exact sCall_ok q1 (h := st.h) (n := st.n) hq hw hv q2
      · exact hrec hh
    · exact hrec hh
end
end Go.Proofs.YtbadfjogakhhbaaDoor.Re
