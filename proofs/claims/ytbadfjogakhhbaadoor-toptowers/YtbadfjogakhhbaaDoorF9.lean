/- The small machine: code, calls, ranges over functions. -/
import Derived.Test.YtbadfjogakhhbaaDoorF8
namespace Go.Proofs.YtbadfjogakhhbaaDoor.Re
open Go Go.RowKit
set_option linter.unusedVariables false
set_option linter.unusedSimpArgs false
set_option linter.unusedSectionVars false
variable [Sig]
inductive LX where
  | nor
  | ext (id : Nat)
  | ret
def LX.exit : LX → Exit
  | .nor => .normal
  | .ext i => .exit i
  | .ret => .ret
def LX.jump : LX → Option Code
  | .nor => none
  | .ext i => some (.exit i)
  | .ret => some .ret
def LX.isNor : LX → Bool
  | .nor => true
  | _ => false
abbrev Rec := Option Nat → Code → Fr → St → Option (LX × Fr × St)
def Fn (ro : Option Nat) : Fence := { Fence.wide with round := ro }
def putT (fr : Fr) (d : Option Tmp) (v : V) : Option Fr := match d with
  | none => some fr
  | some t => match fr with
    | ⟨ft, sz, fd⟩ => match Nat.blt t sz with
      | true => match ft.set fuelT t (some v) with
        | some t' => some ⟨t', sz, fd⟩
        | none => none
      | false => none
theorem putT_eq (fr : Fr) (d : Option Tmp) (v : V) : putT fr d v = match d with
  | none => some fr
  | some t => match Nat.blt t fr.sz with
    | true => match fr.t.set fuelT t (some v) with
      | some t' => some { fr with t := t' }
      | none => none
    | false => none := by cases fr; rfl
section
variable {P : Program} {G : Nat → Option Obj} {B : Nat → Prop} {E : Env} {st : St} {w : World}
theorem TR.set {t t' : T V} {n f : Nat} {v : V} {x : Value} {a : Array Value} (h : TR E t a) (hs : t.set f n (some v) = some t') (hn : n < a.size) (hv : VR E v x) : TR E t' (a.setIfInBounds n x) := by
  intro i u hi
  rw [T.get_set _ _ _ _ _ hs] at hi
  by_cases e : i = n
  · subst e
    rw [if_pos rfl] at hi
    injection hi with hi
    subst hi
    exact ⟨x, by simp [hn], hv⟩
  · rw [if_neg e] at hi
    obtain ⟨y, h1, h2⟩ := h i u hi
    exact ⟨y, by rw [Array.getElem?_setIfInBounds_ne (fun h => e h.symm)]; exact h1, h2⟩
theorem putT_ok {fr fr' : Fr} {a : Act} {d : Option Tmp} {v : V} {x : Value} (h : FR E fr a) (hp : putT fr d v = some fr') (hv : VR E v x) : FR E fr' (a.put d x) := by
  cases d with
  | none => simp only [putT_eq] at hp; injection hp with hp; subst hp; exact h
  | some t =>
    simp only [putT_eq] at hp
    split at hp
    · rename_i hlt
      have hlt : t < fr.sz := Nat.le_of_ble_eq_true hlt
      split at hp
      · rename_i t' ht
        injection hp with hp
        subst hp
        exact ⟨by simp [Act.put, h.sz], h.t.set ht (by rw [h.sz]; exact hlt) hv, h.d, h.dn⟩
      · cases hp
    · cases hp
/-- Guards. -/
def gOp (ops : Array Oper) (o : Oper) : Option Operand := match o.guard with
  | none => none
  | some (j, _) => match ops[j]? with
    | some oj => match oj.dst with
      | some t => some (.tmp t)
      | none => none
    | none => none
def wantB (ops : Array Oper) (fr : Fr) (o : Oper) : Option Bool := match o.guard with
  | none => some true
  | some (_, want) => match gOp ops o with
    | some x => match opd fr x with
      | some (.raw (.bool b)) => some (b == want)
      | some (.raw (.tuple _)) => some false
      | _ => none
    | none => none
theorem wantB_ok {ops : Array Oper} {fr : Fr} {a : Act} {o : Oper} {b : Bool} (h : wantB ops fr o = some b) (hs : Sees E fr a (gOp ops o).toList) : Region.wanted o (yielded ops a.tmps) = b := by
  unfold wantB at h
  unfold Region.wanted
  split at h
  · rename_i hg; rw [hg]; simpa using h
  · rename_i j want hg
    rw [hg]
    simp only
    split at h
    · rename_i x hx
      have hx0 := hx
      unfold gOp at hx
      rw [hg] at hx
      simp only at hx
      split at hx
      · rename_i oj hoj
        split at hx
        · rename_i t ht
          injection hx with hx
          subst hx
          have hy : yielded ops a.tmps j = match a.tmps[t]? with | some (.bool b) => some b | _ => none := by
            unfold yielded
            simp only [hoj, Option.bind_some, ht]
            rfl
          rw [hy]
          split at h
          · rename_i c hc
            injection h with h
            have := hs (.tmp t) (by simp [hx0]) _ hc
            have e : a.tmps.getD t undef = .bool c := this
            rw [Array.getD_eq_getD_getElem?] at e
            cases ht2 : a.tmps[t]? with
            | none => rw [ht2] at e; simp [undef] at e
            | some y => rw [ht2] at e; simp at e; subst e; simp [← h]
          · rename_i us hc
            injection h with h
            have := hs (.tmp t) (by simp [hx0]) _ hc
            have e : a.tmps.getD t undef = .tuple us := this
            rw [Array.getD_eq_getD_getElem?] at e
            cases ht2 : a.tmps[t]? with
            | none => simp [← h]
            | some y => rw [ht2] at e; simp at e; subst e; simp [← h]
          · cases h
        · cases hx
      · cases hx
    · cases h
/-- Functions. -/
def callInfo (P : Program) (f : FuncId) : Option (Func × Code) := match P.funcs[f]? with
  | some fn => match fn.body, fn.name == "runtime.NumGoroutine" with
    | some c, false => some (fn, c)
    | _, _ => none
  | none => none
theorem callInfo_run {f : FuncId} {fn : Func} {c : Code} (h : callInfo P f = some (fn, c)) : P.funcs[f]? = some fn ∧ fn.body = some c ∧ ∀ args w, (callFunc f args).run P w = .ok (.enter f args) w := by
  unfold callInfo at h
  split at h
  · rename_i g hg
    split at h
    · rename_i c' hb hn
      injection h with h; injection h with h1 h2
      subst h1 h2
      have hn' : g.name ≠ "runtime.NumGoroutine" := by simpa using hn
      exact ⟨hg, hb, fun args w => by simp [callFunc, hg, hb, hn']⟩
    · cases h
  · cases h
def setAll : T V → List Nat → List V → Nat → Option (T V)
  | t, [], _, _ => some t
  | t, _ :: _, [], _ => some t
  | t, p :: ps, v :: vs, sz => match Nat.blt p sz with
    | true => match t.set fuelT p (some v) with
      | some t' => setAll t' ps vs sz
      | none => none
    | false => none
theorem setAll_ok : ∀ (ps : List Nat) (vs : List V) (us : List Value) (t t' : T V) (sz : Nat) (a : Array Value), setAll t ps vs sz = some t' → VRs E vs us → a.size = sz → TR E t a →
    TR E t' ((ps.zip us).foldl (fun tmps (p : Nat × Value) => tmps.setIfInBounds p.1 p.2) a) ∧ ((ps.zip us).foldl (fun tmps (p : Nat × Value) => tmps.setIfInBounds p.1 p.2) a).size = sz
  | [], vs, us, t, t', sz, a, h, hv, ha, ht => by
    simp only [setAll] at h; injection h with h; subst h; exact ⟨by simpa using ht, by simpa using ha⟩
  | p :: ps, [], us, t, t', sz, a, h, hv, ha, ht => by
    simp only [setAll] at h; injection h with h; subst h
    rw [show us = [] from hv]
    exact ⟨by simpa using ht, by simpa using ha⟩
  | p :: ps, v :: vs, us, t, t', sz, a, h, hv, ha, ht => by
    obtain ⟨u, r, rfl, h1, h2⟩ := hv
    simp only [setAll] at h
    split at h
    · rename_i hlt
      have hlt : p < sz := Nat.le_of_ble_eq_true hlt
      split at h
      · rename_i t1 h3
        exact setAll_ok ps vs r t1 t' sz _ h h2 (by simpa using ha) (ht.set h3 (by omega) h1)
      · cases h
    · cases h
def initFr (args : List V) (ntmps : Nat) : Option Fr := match setAll .leaf (List.range args.length) args (args.length + (ntmps - args.length)) with
  | some t => some ⟨t, args.length + (ntmps - args.length), []⟩
  | none => none
theorem foldl_range (us : List Value) (k : Nat) : ∀ (l : List Value) (j : Nat) (a : Array Value), a.toList.take j = us.take j → l = us.drop j → us.length ≤ a.size → a.toList.drop us.length = List.replicate k undef →
    (((List.range' j l.length).zip l).foldl (fun tmps (p : Nat × Value) => tmps.setIfInBounds p.1 p.2) a).toList = us ++ List.replicate k undef
  | [], j, a, h1, h2, h3, h4 => by
    have hj : us.length ≤ j := by
      have := congrArg List.length h2
      simp at this
      omega
    have e1 : a.toList.take us.length = us := by
      have := congrArg (List.take us.length) h1
      rw [List.take_take, List.take_take, Nat.min_eq_left hj] at this
      simpa using this
    simp only [List.length_nil, List.range'_zero, List.zip_nil_left, List.foldl_nil]
    rw [← h4]
    have := List.take_append_drop us.length a.toList
    rw [e1] at this
    exact this.symm
  | v :: l, j, a, h1, h2, h3, h4 => by
    have hj : j < us.length := by
      have := congrArg List.length h2
      simp at this
      omega
    rw [List.drop_eq_getElem_cons hj] at h2
    injection h2 with e1 e2
    simp only [List.length_cons, List.range'_succ, List.zip_cons_cons, List.foldl_cons]
    refine foldl_range us k l (j + 1) _ ?_ e2 (by simpa using h3) ?_
    · rw [Array.toList_setIfInBounds, List.take_add_one, List.take_set_of_le (Nat.le_refl _), h1, List.take_add_one]
      simp [show j < a.size by omega, e1, hj]
    · rw [Array.toList_setIfInBounds, List.drop_set_of_lt (by omega)]
      exact h4
theorem initFr_ok {args : List V} {ntmps : Nat} {fr : Fr} {us : List Value} (h : initFr args ntmps = some fr) (hv : VRs E args us) :
    FR E fr { tmps := us.toArray ++ Array.replicate (ntmps - us.toArray.size) undef, defers := [] } := by
  unfold initFr at h
  split at h
  · rename_i t ht
    injection h with h
    subst h
    have hl := hv.len
    obtain ⟨h1, h2⟩ := setAll_ok (E := E) _ _ us _ _ _ (Array.replicate (args.length + (ntmps - args.length)) undef) ht hv (by simp) (fun i v hi => by simp [T.get] at hi)
    have := foldl_range us (ntmps - args.length) us 0 (Array.replicate (args.length + (ntmps - args.length)) undef) (by simp) (by simp) (by simp; omega) (by simp [hl])
    rw [List.range_eq_range', ← hl] at h1 h2
    rw [← hl] at this
    have e : ((List.range' 0 us.length).zip us).foldl (fun tmps (p : Nat × Value) => tmps.setIfInBounds p.1 p.2) (Array.replicate (us.length + (ntmps - us.length)) undef) = us.toArray ++ Array.replicate (ntmps - us.toArray.size) undef := by
      apply Array.ext'
      rw [this]
      simp
    rw [e] at h1 h2
    exact ⟨by rw [h2, hl], h1, rfl, fun b hb => by cases hb⟩
  · cases h
def resV (P : Program) (G : Nat → Option Obj) (st : St) (fr : Fr) : List ResultVar → Option (List V)
  | [] => some []
  | .tmp t :: r => match fr.t.get t, resV P G st fr r with
    | some v, some l => some (v :: l)
    | _, _ => none
  | .cell a t :: r => match aggT P t, P.info? t, fr.t.get a with
    | some g, some i, some (.ptr b off) => match loadL st b off (nOf g i) with
      | some l => match pack g l, resV P G st fr r with
        | some v, some k => some (v :: k)
        | _, _ => none
      | none => none
    | _, _, _ => none
def resF (tmps : Array Value) (rv : ResultVar) : Sem Value := match rv with
  | .tmp t => pure (tmps.getD t undef)
  | .cell c t => do loadVar t (← asAddr (tmps.getD c undef))
theorem results_eq (fn : Func) (tmps : Array Value) : results fn tmps = (fn.results.mapM (resF tmps) >>= fun vs => pure (if h : vs.size = 1 then vs[0] else .tuple vs)) := rfl
theorem resV_ok (hw : WR G B E st w) {fr : Fr} {a : Act} (hf : FR E fr a) : ∀ (l : List ResultVar) (r : List V), resV P G st fr l = some r →
    ∃ us, VRs E r us ∧ (l.mapM (resF a.tmps)).run P w = .ok us w
  | [], r, h => by
    simp only [resV] at h; injection h with h; subst h
    exact ⟨[], rfl, by simp⟩
  | .tmp t :: l, r, h => by
    simp only [resV] at h
    split at h
    · rename_i v k hv hk
      injection h with h; subst h
      obtain ⟨us, h1, h2⟩ := resV_ok hw hf l k hk
      obtain ⟨x, h3, h4⟩ := hf.t t v hv
      exact ⟨x :: us, ⟨x, us, rfl, h4, h1⟩, by simp [resF, h2, Array.getD_eq_getD_getElem?, h3]⟩
    · cases h
  | .cell c t :: l, r, h => by
    simp only [resV] at h
    split at h
    · rename_i g i b off hg hi hc
      split at h
      · rename_i k0 hk0
        split at h
        · rename_i v k hv hk
          injection h with h; subst h
          obtain ⟨us, h1, h2⟩ := resV_ok hw hf l k hk
          obtain ⟨x, h3, h4⟩ := hf.t c _ hc
          obtain ⟨vs, q1, q2, _, q4⟩ := loadL_ok (P := P) hw hk0
          obtain ⟨y, h5, h6⟩ := loadVar_of (P := P) (w := w) (A := ⟨E.ρ b, off, none⟩) hg hi q1 q2 (fun j u hj => by rw [add_plain]; exact q4 j u hj) hv
          refine ⟨y :: us, ⟨y, us, rfl, h5, h1⟩, ?_⟩
          have h7 : a.tmps.getD c undef = .pointer (some ⟨E.ρ b, off, none⟩) := by simp [Array.getD_eq_getD_getElem?, h3, h4.2]
          simp [resF, h2, h7, asAddr, h6]
        · cases h
      · cases h
    · cases h
def packR : List V → V
  | [v] => v
  | l => .tup l
theorem results_ok (hw : WR G B E st w) {fr : Fr} {a : Act} (hf : FR E fr a) {fn : Func} {r : List V} (h : resV P G st fr fn.results.toList = some r) : ∃ x, VR E (packR r) x ∧ (results fn a.tmps).run P w = .ok x w := by
  obtain ⟨us, h1, h2⟩ := resV_ok hw hf _ r h
  have hl := h1.len
  have hrun : (fn.results.mapM (resF a.tmps)).run P w = .ok us.toArray w := by
    rw [Array.mapM_eq_mapM_toList]
    simp [h2]
  match r, h1, hl with
  | [], h1, hl =>
    have : us = [] := List.length_eq_zero_iff.1 hl
    subst this
    exact ⟨.tuple #[], ⟨_, rfl, rfl⟩, by rw [results_eq, Sem.run_bind, hrun]; rfl⟩
  | [v], h1, hl =>
    obtain ⟨u, s, rfl, h3, h4⟩ := h1
    have : s = [] := h4
    subst this
    exact ⟨u, h3, by rw [results_eq, Sem.run_bind, hrun]; rfl⟩
  | v :: v' :: l, h1, hl =>
    refine ⟨.tuple us.toArray, ⟨_, rfl, by simpa using h1⟩, ?_⟩
    rw [results_eq, Sem.run_bind, hrun]
    have : ¬ us.toArray.size = 1 := by simp; simp at hl; omega
    simp only [Result.andThen_ok]
    rw [dif_neg this]
    rfl
/-- Marks of ranges, at a function's end. -/
def takeD (st : St) : List Nat → Option St
  | [] => some st
  | b :: r => match st.h.get b with
    | some (.obj (.deferred (some []))) => match putB st b (.obj (.deferred none)) with
      | some st' => takeD st' r
      | none => none
    | _ => none
theorem below_putObj {r : Nat} (hr : ¬ B r) (o : Obj) : Keep B w (w.putObj r o) := ⟨rfl, rfl, rfl, by simp, fun k hk => World.putObj_heap_other (fun e => hr (e ▸ hk))⟩
theorem WR.putObj (hw : WR G B E st w) {b : Nat} {o0 o : LO} {st' : St} (hb : st.h.get b = some o0) (hp : putB st b o = some st') (ob : Obj) (ho : OR E b (w.putObj (E.ρ b) ob) o) : WR G B E st' (w.putObj (E.ρ b) ob) ∧ Keep B w (w.putObj (E.ρ b) ob) := by
  have hbase := hw.base b _ hb
  exact ⟨hw.write hb hp (below_putObj hbase ob) (fun k hk _ => World.putObj_heap_other hk) ho, below_putObj hbase ob⟩
theorem takeD_ok {fn : Func} {tmps : Array Value} {R : Ending → World → Prop} {n : Nat} : ∀ (l : List Nat) (st st' : St) (w : World), takeD st l = some st' → WR G B E st w → (∀ b ∈ l, b < E.n) →
    (∀ w', WR G B E st' w' → Keep B w w' → ∃ v, (results fn tmps).run P w' = .ok v w' ∧ R (.returned v) w') → LeavesInM Fence.wide n P fn tmps R (marks E l) .returning w
  | [], st, st', w, h, hw, hl, hR => by
    simp only [takeD] at h; injection h with h; subst h
    exact hR w hw (Keep.refl B w)
  | b :: l, st, st', w, h, hw, hl, hR => by
    simp only [takeD] at h
    split at h
    · rename_i hb
      split at h
      · rename_i st1 hp
        have ho := (hw.live b _ hb).2
        have hlt := ho.lt
        obtain ⟨h1, h2⟩ := hw.putObj hb hp (.deferred none) ⟨World.putObj_heap_same hlt, rfl⟩
        refine ⟨by simp, .inl ⟨E.ρ b, _, rfl, run_takeDeferred ho.1, ?_⟩⟩
        exact takeD_ok l st1 st' _ h h1 (fun b' hb' => hl b' (by simp [hb'])) (fun w' hw' hbel => hR w' hw' (h2.trans hbel))
      · cases h
    · cases h
def runFn (P : Program) (G : Nat → Option Obj) (rec : Rec) (f : FuncId) (args : List V) (st : St) : Option (V × St) := match callInfo P f with
  | some (fn, c) => match initFr args fn.ntmps with
    | some fr => match rec none c fr st with
      | some (.ext _, _, _) => none
      | some (_, fr', st') => match takeD st' fr'.d with
        | some st'' => match resV P G st'' fr' fn.results.toList with
          | some l => some (packR l, st'')
          | none => none
        | none => none
      | none => none
    | none => none
  | none => none
/-- What is asked of the walk of a piece of code. -/
def Sound (P : Program) (G : Nat → Option Obj) (B : Nat → Prop) (rec : Rec) : Prop := ∀ ro c fr st x fr' st', rec ro c fr st = some (x, fr', st') → ∀ E a w, WR G B E st w → FR E fr a → (∀ l, ro = some l → l < E.n) →
  ∀ Q : Exit → Act → World → Prop, (∀ E' a' w', E.le E' → WR G B E' st' w' → FR E' fr' a' → Keep B w w' → Q x.exit a' w') → c.wpIn (Fn (ro.map E.ρ)) 0 P Q a w
def CallOK (P : Program) (G : Nat → Option Obj) (B : Nat → Prop) (E : Env) (w : World) (f : FuncId) (us : List Value) (v : V) (st' : St) : Prop :=
  ∀ ro, CallsIn (Fn ro) 0 P f us.toArray w fun e w' => ∃ x E', e = .returned x ∧ E.le E' ∧ WR G B E' st' w' ∧ VR E' v x ∧ Keep B w w'
theorem runFn_ok {rec : Rec} (hr : Sound P G B rec) {f : FuncId} {args : List V} {us : List Value} {v : V} {st' : St} (h : runFn P G rec f args st = some (v, st')) (hw : WR G B E st w) (hv : VRs E args us) :
    CallOK P G B E w f us v st' ∧ ∃ fn c, callInfo P f = some (fn, c) := by
  unfold runFn at h
  split at h
  · rename_i fn c hci
    refine ⟨fun ro => ?_, fn, c, hci⟩
    obtain ⟨hf, hb, _⟩ := callInfo_run hci
    show CallsIn Fence.wide 0 P f us.toArray w _
    split at h
    · rename_i fr hfr
      have hfr := initFr_ok (E := E) hfr hv
      refine callsIn_of_wp_marks hf hb trivial ?_ rfl
      have fin : ∀ (x : LX) (fr' : Fr) (st1 : St), rec none c fr st = some (x, fr', st1) → (x = .nor ∨ x = .ret) → (match takeD st1 fr'.d with
          | some st'' => match resV P G st'' fr' fn.results.toList with
            | some l => some (packR l, st'')
            | none => none
          | none => none) = some (v, st') →
          c.wpIn Fence.wide 0 P (bodyPostM Fence.wide 0 P fn fun e w' => ∃ x E', e = .returned x ∧ E.le E' ∧ WR G B E' st' w' ∧ VR E' v x ∧ Keep B w w') { tmps := us.toArray ++ Array.replicate (fn.ntmps - us.toArray.size) undef, defers := [] } w := by
        intro x fr' st1 hrec hx hh
        split at hh
        · rename_i st2 htk
          split at hh
          · rename_i l hl
            injection hh with hh; injection hh with e1 e2
            subst e1 e2
            refine hr none c fr st x fr' st1 hrec E _ w hw hfr (fun l hl => by cases hl) _ ?_
            intro E' a' w' hle hw' hfr' hbel
            have key : LeavesInM Fence.wide 0 P fn a'.tmps (fun e w'' => ∃ x E'', e = .returned x ∧ E.le E'' ∧ WR G B E'' st2 w'' ∧ VR E'' (packR l) x ∧ Keep B w w'') a'.defers .returning w' := by
              rw [hfr'.d]
              refine takeD_ok fr'.d st1 st2 w' htk hw' hfr'.dn (fun w2 hw2 hb2 => ?_)
              obtain ⟨y, h1, h2⟩ := results_ok hw2 hfr' hl
              exact ⟨y, h2, y, E', rfl, hle, hw2, h1, hbel.trans hb2⟩
            rcases hx with rfl | rfl
            · exact key
            · exact key
          · cases hh
        · cases hh
      split at h
      · cases h
      · rename_i x fr' st1 hne hrec
        refine fin x fr' st1 hrec ?_ h
        cases x with
        | nor => exact .inl rfl
        | ret => exact .inr rfl
        | ext i => exact absurd rfl (hne i)
      · cases h
    · cases h
  · cases h
end
end Go.Proofs.YtbadfjogakhhbaaDoor.Re
