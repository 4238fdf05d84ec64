/- The small machine: facts about calls as an oracle; a run that is put together out of pieces. -/
import Derived.Test.YtbadfjogakhhbaaDoorF15
namespace Go.Proofs.YtbadfjogakhhbaaDoor.Re
open Go Go.RowKit
set_option linter.unusedVariables false
set_option linter.unusedSimpArgs false
set_option linter.unusedSectionVars false
variable [Sig]
def setL (t : T LO) (n : Nat) : List LO → Option (T LO)
  | [] => some t
  | o :: r => match t.set fuelT n (some o) with
    | some t' => setL t' (Nat.succ n) r
    | none => none
theorem setL_get : ∀ {l : List LO} {t t' : T LO} {n : Nat}, setL t n l = some t' → ∀ j, t'.get j = if n ≤ j ∧ j < n + l.length then l[j - n]? else t.get j
  | [], t, t', n, h, j => by
    simp only [setL] at h; injection h with h; subst h
    rw [if_neg (by simp only [List.length_nil]; omega)]
  | o :: r, t, t', n, h, j => by
    simp only [setL] at h
    split at h
    · rename_i t1 ht
      rw [setL_get h j, T.get_set _ _ _ _ _ ht]
      by_cases e : j = n
      · subst e
        rw [if_neg (by omega), if_pos rfl, if_pos (by simp only [List.length_cons]; omega), Nat.sub_self]
        rfl
      · rw [if_neg e]
        by_cases e2 : n + 1 ≤ j ∧ j < n + 1 + r.length
        · rw [if_pos e2, if_pos (by simp only [List.length_cons]; omega), show j - n = (j - (n + 1)) + 1 by omega]
          rfl
        · rw [if_neg e2, if_neg (by simp only [List.length_cons]; omega)]
    · cases h
structure Fact where
  f : FuncId
  args : List V
  v : V
  bl : List (List V × TypeId)
def celL (bl : List (List V × TypeId)) : List LO := bl.map fun p => .cells p.1 p.2
def stBl (bl : List (List V × TypeId)) : Option St := match setL .leaf 0 (celL bl) with
  | some t => some ⟨t, bl.length⟩
  | none => none
def mapBl (g : Nat → Option Nat) : List (List V × TypeId) → Option (List LO)
  | [] => some []
  | (l, ty) :: r => match mapVs g l, mapBl g r with
    | some l', some r' => some (.cells l' ty :: r')
    | _, _ => none
theorem mapBl_ok {g : Nat → Option Nat} : ∀ {bl : List (List V × TypeId)} {r : List LO}, mapBl g bl = some r → r.length = bl.length ∧ ∀ (i : Nat) (o : LO), r[i]? = some o → ∃ l ty l', bl[i]? = some (l, ty) ∧ mapVs g l = some l' ∧ o = LO.cells l' ty
  | [], r, h => by simp only [mapBl] at h; injection h with h; subst h; exact ⟨rfl, fun i o ho => by simp at ho⟩
  | (l, ty) :: bl, r, h => by
    simp only [mapBl] at h
    split at h
    · rename_i l' r' hl hr
      injection h with h
      subst h
      obtain ⟨h1, h2⟩ := mapBl_ok hr
      refine ⟨by simp [h1], fun i o ho => ?_⟩
      cases i with
      | zero => simp at ho; subst ho; exact ⟨l, ty, l', rfl, hl, rfl⟩
      | succ i => simpa using h2 i o (by simpa using ho)
    · cases h
/-- The result of a call, in the state at hand. -/
def adopt (st : St) (v : V) (bl : List (List V × TypeId)) : Option (V × St) := match st with
  | ⟨h, n⟩ => match mapV (fun b => some (n + b)) v, mapBl (fun b => some (n + b)) bl with
    | some v', some los => match setL h n los with
      | some h' => some (v', ⟨h', n + los.length⟩)
      | none => none
    | _, _ => none
def Env.both (E E' : Env) : Env := ⟨E.n + E'.n, fun b => if b < E.n then E.ρ b else E'.ρ (b - E.n), fun b => if b < E.n then E.sz b else E'.sz (b - E.n)⟩
section
variable {P : Program} {G : Nat → Option Obj} {B : Nat → Prop} {E E' : Env} {st st1 : St} {w w' : World}
theorem Env.le_both (E E' : Env) : E.le (E.both E') := ⟨Nat.le_add_right _ _, fun b hb => by simp [Env.both, hb]⟩
theorem gok_both (E E' : Env) : GOK (fun b => some (E.n + b)) E' (E.both E') := fun b b' h hb => by
  injection h with h
  subst h
  have h0 : ¬ E.n + b < E.n := by omega
  exact ⟨by simp only [Env.both]; omega, by simp [Env.both, h0], by simp [Env.both, h0]⟩
theorem adopt_ok (hw : WR G B E st w) (hb : Keep (fun k => k < w.heap.size) w w') (hsz : w.heap.size ≤ w'.heap.size) {bl : List (List V × TypeId)} (hst : stBl bl = some st1) (hw1 : WR G (fun k => k < w.heap.size) E' st1 w') {v v' : V} {st2 : St} {x : Value} (hx : VR E' v x) (h : adopt st v bl = some (v', st2)) :
    WR G B (E.both E') st2 w' ∧ VR (E.both E') v' x := by
  have hn := hw.n
  cases hs : st with
  | mk hh n =>
    rw [hs] at h hn
    simp only at hn
    unfold adopt at h
    simp only at h
    split at h
    · rename_i v1 los hv hl
      split at h
      · rename_i h' hset
        injection h with h; injection h with e1 e2
        subst e1 e2
        have hg := gok_both E E'
        rw [hn] at hg
        obtain ⟨hlen, hlos⟩ := mapBl_ok hl
        have hget := setL_get hset
        have hst1 : st1.n = bl.length ∧ ∀ i l ty, bl[i]? = some (l, ty) → st1.h.get i = some (.cells l ty) := by
          unfold stBl at hst
          split at hst
          · rename_i t ht
            injection hst with hst
            subst hst
            refine ⟨rfl, fun i l ty hi => ?_⟩
            have := setL_get ht i
            have hlt : i < bl.length := (List.getElem?_eq_some_iff.1 hi).1
            rw [show (St.h ⟨t, bl.length⟩) = t from rfl, this, if_pos (by simp [celL, hlt])]
            simp [celL, hi]
          · cases hst
        have hE1 : E'.n = bl.length := hw1.n.trans hst1.1
        have hold : ∀ b o, hh.get b = some o → b < n ∧ OR E b w o := fun b o hb => by
          have := hw.live b o (by rw [hs]; exact hb)
          rw [hs] at this
          exact this
        have hcase : ∀ j o, h'.get j = some o → (hh.get j = some o ∧ j < n) ∨ ∃ i l ty l', j = n + i ∧ bl[i]? = some (l, ty) ∧ st1.h.get i = some (.cells l ty) ∧ mapVs (fun b => some (n + b)) l = some l' ∧ o = .cells l' ty := fun j o ho => by
          rw [hget j] at ho
          by_cases hc : n ≤ j ∧ j < n + los.length
          · rw [if_pos hc] at ho
            obtain ⟨l, ty, l', h1, h2, h3⟩ := hlos _ o ho
            exact .inr ⟨j - n, l, ty, l', by omega, h1, hst1.2 _ _ _ h1, h2, h3⟩
          · rw [if_neg hc] at ho
            exact .inl ⟨ho, (hold j o ho).1⟩
        have hlow : ∀ b o, hh.get b = some o → E.ρ b < w.heap.size := fun b o hb => (hold b o hb).2.lt
        have eρ1 : ∀ b, b < n → (E.both E').ρ b = E.ρ b := fun b hb => by simp [Env.both, hn, hb]
        have eρ2 : ∀ i, (E.both E').ρ (n + i) = E'.ρ i := fun i => by simp [Env.both, hn, show ¬ n + i < n by omega]
        have esz2 : ∀ i, (E.both E').sz (n + i) = E'.sz i := fun i => by simp [Env.both, hn, show ¬ n + i < n by omega]
        refine ⟨⟨by simp only [Env.both]; omega, fun j o ho => ?_, fun j j' o o' ho ho' he => ?_, fun j o ho => ?_, fun k hk => Nat.lt_of_lt_of_le (hw.size k hk) hsz, fun g o hgo => ?_⟩, mapV_ok hg v v1 x hv hx⟩
        · rcases hcase j o ho with ⟨h1, h2⟩ | ⟨i, l, ty, l', rfl, h1, h2, h3, rfl⟩
          · refine ⟨by show j < n + los.length; omega, (hold j o h1).2.keep (Env.le_both E E') (by omega) ?_⟩
            exact hb.block _ (hlow j o h1)
          · have hi : i < bl.length := (List.getElem?_eq_some_iff.1 h1).1
            refine ⟨by show n + i < n + los.length; omega, ?_⟩
            obtain ⟨c, c1, c2, us, rest, c3, c4⟩ := (hw1.live i _ h2).2
            exact ⟨c, by rw [eρ2]; exact c1, by rw [esz2]; exact c2, us, rest, c3, mapVs_ok hg l l' us h3 c4⟩
        · rcases hcase j o ho with ⟨h1, h2⟩ | ⟨i, l, ty, l', rfl, h1, h2, h3, rfl⟩ <;> rcases hcase j' o' ho' with ⟨h1', h2'⟩ | ⟨i', l2, ty', l2', rfl, h1', h2', h3', rfl⟩
          · rw [eρ1 j h2, eρ1 j' h2'] at he
            exact hw.inj j j' o o' (by rw [hs]; exact h1) (by rw [hs]; exact h1') he
          · rw [eρ1 j h2, eρ2] at he
            have := hlow j o h1
            have := hw1.base i' _ h2'
            omega
          · rw [eρ1 j' h2', eρ2] at he
            have := hlow j' o' h1'
            have := hw1.base i _ h2
            omega
          · rw [eρ2, eρ2] at he
            rw [hw1.inj i i' _ _ h2 h2' he]
        · rcases hcase j o ho with ⟨h1, h2⟩ | ⟨i, l, ty, l', rfl, h1, h2, h3, rfl⟩
          · rw [eρ1 j h2]
            exact hw.base j o (by rw [hs]; exact h1)
          · rw [eρ2]
            exact fun hh => hw1.base i _ h2 (hw.size _ hh)
        · have hgo' := hw.glob g o hgo
          exact ⟨hgo'.1, by rw [hb.block g (hw.size g hgo'.1)]; exact hgo'.2⟩
      · cases h
    · cases h
/-- What a fact says. -/
def FactOK (P : Program) (G : Nat → Option Obj) (t : Fact) : Prop := (∃ fn c, callInfo P t.f = some (fn, c)) ∧
  ∀ (w : World) (E : Env) (us : List Value), (∀ g o, (G g = some o ∨ Sig.gf g = some o) → g < w.heap.size ∧ w.heap[g]? = some o) → VRs E t.args us →
    CallsIn Fence.wide 0 P t.f us.toArray w fun e w' => ∃ x E' st', stBl t.bl = some st' ∧ e = .returned x ∧ w.heap.size ≤ w'.heap.size ∧ WR G (fun k => k < w.heap.size) E' st' w' ∧ VR E' t.v x ∧ Keep (fun k => k < w.heap.size) w w'
def factsK : List Fact → Orc
  | [], _, _, _ => none
  | t :: r, f, args, st => match Nat.beq f t.f && vsSame args t.args with
    | true => adopt st t.v t.bl
    | false => factsK r f args st
theorem factsK_ok : ∀ {ts : List Fact}, (∀ t ∈ ts, FactOK P G t) → OrcOK P G B (factsK ts)
  | [], h => fun f args st v st' hh => by simp [factsK] at hh
  | t :: r, h => fun f args st v st' hh E w us hw hv => by
    unfold factsK at hh
    split at hh
    · rename_i hc
      simp only [Bool.and_eq_true] at hc
      have e1 := Nat.eq_of_beq_eq_true hc.1
      have e2 := vsSame_ok hc.2
      subst e1 e2
      obtain ⟨q1, q2⟩ := h t (by simp)
      refine ⟨fun ro => ?_, q1⟩
      show CallsIn Fence.wide 0 P t.f us.toArray w _
      refine CallsIn.mono (q2 w E us (fun g o hg => ⟨hw.size g (hw.glob g o hg).1, (hw.glob g o hg).2⟩) hv) ?_
      rintro _ w' ⟨x, E', st1, h1, rfl, h2, h3, h4, h5⟩
      obtain ⟨r1, r2⟩ := adopt_ok hw h5 h2 h1 h3 h4 hh
      exact ⟨x, E.both E', rfl, Env.le_both E E', r1, r2, h5.mono hw.size⟩
    · exact factsK_ok (fun t' ht' => h t' (by simp [ht'])) f args st v st' hh E w us hw hv
/-- A fact out of a run. -/
def runV (P : Program) (G : Nat → Option Obj) (K : Orc) (k : Nat) (f : FuncId) (args : List V) : Option (V × St) := match runFn P G (code P G K k) f args ⟨.leaf, 0⟩ with
  | some (v, st) => pruneV v st
  | none => none
theorem fact_of_run (hm : P.follows .mixedOrders = true) {K : Orc} (hK : ∀ B, OrcOK P G B K) {k : Nat} (t : Fact) (hp : mapVs (fun _ => none) t.args = some t.args) {st' : St} (h : runV P G K k t.f t.args = some (t.v, st')) (hs : stBl t.bl = some st') : FactOK P G t := by
  unfold runV at h
  split at h
  · rename_i v st hrun
    have hw0 : ∀ w : World, (∀ g o, (G g = some o ∨ Sig.gf g = some o) → g < w.heap.size ∧ w.heap[g]? = some o) → WR G (fun k => k < w.heap.size) ⟨0, fun _ => 0, fun _ => 0⟩ ⟨.leaf, 0⟩ w := fun w hG =>
      ⟨rfl, fun b o hb => by simp [T.get] at hb, fun b b' o o' hb => by simp [T.get] at hb, fun b o hb => by simp [T.get] at hb, fun k hk => hk, hG⟩
    have hci : ∃ fn c, callInfo P t.f = some (fn, c) := by
      unfold runFn at hrun
      split at hrun
      · rename_i fn c hci; exact ⟨fn, c, hci⟩
      · cases hrun
    refine ⟨hci, fun w E us hG hv => ?_⟩
    have hv0 : VRs ⟨0, fun _ => 0, fun _ => 0⟩ t.args us := mapVs_ok (fun b b' hb => by cases hb) _ _ _ hp hv
    obtain ⟨h1, _⟩ := runFn_ok (code_sound hm hK k _) hrun (hw0 w hG) hv0
    refine CallsIn.mono (h1 none) ?_
    rintro _ w' ⟨x, E', rfl, q1, q2, q3, q4⟩
    obtain ⟨E2, r1, r2⟩ := pruneV_ok h q2 q3
    exact ⟨x, E2, st', hs, rfl, q4.size, r1, r2, q4⟩
  · cases h
/-- A run of a piece of code, what is kept of its end; the first m blocks keep their numbers. -/
def Goes (P : Program) (G : Nat → Option Obj) (B : Nat → Prop) (m : Nat) (c : Code) (fr : Fr) (st : St) (x : LX) (fr' : Fr) (st' : St) : Prop := ∀ E a w, WR G B E st w → FR E fr a → m ≤ E.n →
  ∀ Q : Exit → Act → World → Prop, (∀ E' a' w', Env.up m E E' → WR G B E' st' w' → FR E' fr' a' → Keep B w w' → Q x.exit a' w') → c.wpIn Fence.wide 0 P Q a w
def runP (P : Program) (G : Nat → Option Obj) (K : Orc) (k m : Nat) (ts : List Nat) (c : Code) (fr : Fr) (st : St) : Option (LX × Fr × St) := match code P G K k none c fr st with
  | some (x, f, s) => match prune m ts f s with
    | some (f', s') => some (x, f', s')
    | none => none
  | none => none
theorem Goes.of_run (hm : P.follows .mixedOrders = true) {K : Orc} (hK : ∀ B, OrcOK P G B K) {k m : Nat} {ts : List Nat} {c : Code} {fr fr' : Fr} {st st' : St} {x : LX} (h : runP P G K k m ts c fr st = some (x, fr', st')) : Goes P G B m c fr st x fr' st' := by
  intro E a w hw hf hmn Q hQ
  unfold runP at h
  split at h
  · rename_i y f s hc
    split at h
    · rename_i f' s' hp
      injection h with h; injection h with e1 e2; injection e2 with e2 e3
      subst e1 e2 e3
      refine code_sound hm hK k B none c fr st y f s hc E a w hw hf (fun l hl => by cases hl) Q ?_
      intro E1 a1 w1 g1 g2 g3 g4
      obtain ⟨E2, r0, r1, r2⟩ := prune_ok hp (Nat.le_trans hmn g1.1) g2 g3
      exact hQ E2 a1 w1 ((g1.up hmn).trans r0) r1 r2 g4
    · cases h
  · cases h
/-- The first parts of a row of pieces; the rest. -/
def cutA : Nat → Code → Code
  | 0, .seq x _ => x
  | n + 1, .seq x y => .seq x (cutA n y)
  | _, _ => .ret
def cutB : Nat → Code → Code
  | 0, .seq _ y => y
  | n + 1, .seq _ y => cutB n y
  | _, _ => .skip
theorem code_ret {K : Orc} {k : Nat} {ro : Option Nat} {fr fr1 : Fr} {st st1 : St} (h : code P G K k ro .ret fr st = some (.nor, fr1, st1)) : False := by
  cases k with
  | zero => simp [code] at h
  | succ k => simp [code, codeF] at h
theorem run_cut (hm : P.follows .mixedOrders = true) {K : Orc} (hK : ∀ B, OrcOK P G B K) : ∀ (n k : Nat) (c : Code) (fr : Fr) (st : St) (fr1 : Fr) (st1 : St), code P G K k none (cutA n c) fr st = some (.nor, fr1, st1) → ∀ E a w, WR G B E st w → FR E fr a →
    ∀ Q : Exit → Act → World → Prop, (∀ E' a' w', E.le E' → WR G B E' st1 w' → FR E' fr1 a' → Keep B w w' → (cutB n c).wpIn Fence.wide 0 P Q a' w') → c.wpIn Fence.wide 0 P Q a w
  | 0, k, c, fr, st, fr1, st1, h, E, a, w, hw, hf, Q, hQ => by
    cases c with
    | seq x y =>
      refine wpIn_seq (code_sound hm hK k B none x fr st .nor fr1 st1 h E a w hw hf (fun l hl => by cases hl) _ ?_)
      intro E1 a1 w1 g1 g2 g3 g4
      exact hQ E1 a1 w1 g1 g2 g3 g4
    | _ => exact (code_ret (show code P G K k none .ret fr st = some (.nor, fr1, st1) from h)).elim
  | n + 1, k, c, fr, st, fr1, st1, h, E, a, w, hw, hf, Q, hQ => by
    cases c with
    | seq x y =>
      have h : code P G K k none (.seq x (cutA n y)) fr st = some (.nor, fr1, st1) := h
      cases k with
      | zero => simp [code] at h
      | succ k =>
        simp only [code, codeF] at h
        split at h
        · rename_i fr2 st2 h1
          refine wpIn_seq (code_sound hm hK k B none x fr st .nor fr2 st2 h1 E a w hw hf (fun l hl => by cases hl) _ ?_)
          intro E1 a1 w1 g1 g2 g3 g4
          refine run_cut hm hK n k y fr2 st2 fr1 st1 h E1 a1 w1 g2 g3 Q ?_
          intro E2 a2 w2 k1 k2 k3 k4
          exact hQ E2 a2 w2 (g1.trans k1) k2 k3 (g4.trans k4)
        · cases h
        · cases h
        · cases h
    | _ => exact (code_ret (show code P G K k none .ret fr st = some (.nor, fr1, st1) from h)).elim
theorem Goes.cut (hm : P.follows .mixedOrders = true) {K : Orc} (hK : ∀ B, OrcOK P G B K) (n k : Nat) {m : Nat} {ts : List Nat} {c : Code} {fr fr1 fr' : Fr} {st st1 st' : St} {x : LX} (h : runP P G K k m ts (cutA n c) fr st = some (.nor, fr1, st1)) (h2 : Goes P G B m (cutB n c) fr1 st1 x fr' st') : Goes P G B m c fr st x fr' st' := by
  intro E a w hw hf hmn Q hQ
  unfold runP at h
  split at h
  · rename_i y f s hc
    split at h
    · rename_i f' s' hp
      injection h with h; injection h with e1 e2; injection e2 with e2 e3
      subst e1 e2 e3
      refine run_cut hm hK n k c fr st f s hc E a w hw hf Q ?_
      intro E1 a1 w1 g1 g2 g3 g4
      obtain ⟨E2, r0, r1, r2⟩ := prune_ok hp (Nat.le_trans hmn g1.1) g2 g3
      refine h2 E2 a1 w1 r1 r2 r0.1 Q ?_
      intro E3 a3 w3 k1 k2 k3 k4
      exact hQ E3 a3 w3 (((g1.up hmn).trans r0).trans k1) k2 k3 (g4.trans k4)
    · cases h
  · cases h
theorem Goes.seq {m : Nat} {c d : Code} {fr fr1 fr' : Fr} {st st1 st' : St} {x : LX} (h1 : Goes P G B m c fr st .nor fr1 st1) (h2 : Goes P G B m d fr1 st1 x fr' st') : Goes P G B m (c.seq d) fr st x fr' st' := by
  intro E a w hw hf hmn Q hQ
  refine wpIn_seq (h1 E a w hw hf hmn _ ?_)
  intro E1 a1 w1 g0 g1 g2 g3
  exact h2 E1 a1 w1 g1 g2 g0.1 Q (fun E2 a2 w2 k0 k1 k2 k3 => hQ E2 a2 w2 (g0.trans k0) k1 k2 (g3.trans k3))
/-- A function whose code goes so. -/
theorem Goes.calls {m : Nat} {f : FuncId} {fn : Func} {c : Code} (hci : callInfo P f = some (fn, c)) {args : List V} {us : List Value} {fr fr' : Fr} {st' : St} {x : LX} (hfr : initFr args fn.ntmps = some fr) (hv : VRs E args us) (hw : WR G B E st w) (hmn : m ≤ E.n) (h : Goes P G B m c fr st x fr' st') (hx : x = .nor ∨ x = .ret) (hd : fr'.d = []) {l : List V} (hl : resV P G st' fr' fn.results.toList = some l) :
    CallsIn Fence.wide 0 P f us.toArray w fun e w' => ∃ y E', e = .returned y ∧ Env.up m E E' ∧ WR G B E' st' w' ∧ VR E' (packR l) y ∧ Keep B w w' := by
  obtain ⟨hf, hb, _⟩ := callInfo_run hci
  refine callsIn_of_wp_marks hf hb trivial ?_ rfl
  refine h E _ w hw (initFr_ok (E := E) hfr hv) hmn _ ?_
  intro E' a' w' g0 g1 g2 g3
  have key : LeavesInM Fence.wide 0 P fn a'.tmps (fun e w'' => ∃ y E'', e = .returned y ∧ Env.up m E E'' ∧ WR G B E'' st' w'' ∧ VR E'' (packR l) y ∧ Keep B w w'') a'.defers .returning w' := by
    rw [g2.d, hd]
    obtain ⟨y, h1, h2⟩ := results_ok g1 g2 hl
    exact ⟨y, h2, y, E', rfl, g0, g1, h1, g3⟩
  rcases hx with rfl | rfl
  · exact key
  · exact key
end
end Go.Proofs.YtbadfjogakhhbaaDoor.Re
