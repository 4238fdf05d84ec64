/- The small machine: calls, rounds, ranges over functions, regions in order. -/
import Derived.Test.YtbadfjogakhhbaaDoorF9
namespace Go.Proofs.YtbadfjogakhhbaaDoor.Re
open Go Go.RowKit
set_option linter.unusedVariables false
set_option linter.unusedSimpArgs false
set_option linter.unusedSectionVars false
variable [Sig]
def stOf : Bool → LoopState
  | true => .ready
  | false => .done
def runYield (rec : Rec) (b : Nat) (args : List V) (st : St) : Option (V × St) := match st.h.get b with
  | some (.loop r) => match Nat.beq args.length r.params.size with
    | true => match setAll r.t r.params.toList args r.sz with
      | some t => match rec (some b) r.assign ⟨t, r.sz, []⟩ st with
        | some (.nor, fr1, st1) => match st1.h.get b with
          | some (.loop r1) => match r1.state with
            | .ready => match putB st1 b (.loop { r1 with state := .busy }) with
              | some st2 => match rec (some b) r.body fr1 st2 with
                | some (x, _, st3) => match st3.h.get b with
                  | some (.loop r3) => match putB st3 b (.loop { r3 with state := stOf x.isNor, pend := x.jump }) with
                    | some st4 => some (.raw (.bool x.isNor), st4)
                    | none => none
                  | _ => none
                | none => none
              | none => none
            | _ => none
          | _ => none
        | _ => none
      | none => none
    | false => none
  | _ => none
section
variable {P : Program} {G : Nat → Option Obj} {B : Nat → Prop} {E : Env} {st : St} {w : World}
theorem Fn_inRound (ro : Option Nat) (l : Nat) : (Fn ro).inRound l = Fn (some l) := rfl
theorem no_depth (ro : Option Nat) (n : Nat) : (Fn ro).depth.isSome = true → 1 ≤ n := fun h => by simp [Fn, Fence.wide] at h
theorem jump_isNone (x : LX) : x.jump.isNone = x.isNor := by cases x <;> rfl
theorem loop_put (hw : WR G B E st w) {b : Nat} {r r' : LL} {st' : St} (hb : st.h.get b = some (.loop r)) (hp : putB st b (.loop r') = some st') (h1 : r'.t = r.t) (h2 : r'.sz = r.sz) (h3 : r'.params = r.params) (h4 : r'.assign = r.assign) (h5 : r'.body = r.body) (h6 : r'.dfr = r.dfr) {rr : Loop} (hh : w.heap[E.ρ b]? = some (.loop rr)) :
    WR G B E st' (w.putObj (E.ρ b) (.loop { rr with state := r'.state, pending := r'.pend })) ∧ Keep B w (w.putObj (E.ρ b) (.loop { rr with state := r'.state, pending := r'.pend })) := by
  have ho := (hw.live b _ hb).2
  obtain ⟨fn, tm, g1, g2, g3, g4⟩ := ho
  rw [g1] at hh
  injection hh with hh
  injection hh with hh
  subst hh
  refine hw.putObj hb hp _ ⟨fn, tm, ?_, by rw [h6]; exact g2, by rw [h2]; exact g3, by rw [h1]; exact g4⟩
  rw [World.putObj_heap_same (Array.getElem?_eq_some_iff.1 g1).1, h3, h4, h5, h6]
theorem runYield_ok {rec : Rec} (hr : Sound P G B rec) {b : Nat} {args : List V} {us : List Value} {v : V} {st' : St} (h : runYield rec b args st = some (v, st')) (hw : WR G B E st w) (hv : VRs E args us) (hbn : b < E.n) :
    ∃ l f tmps assign body, (Instr.yield (E.ρ b) us.toArray).run P w = .ok (.round l f tmps assign body) w ∧ ∀ ro, RoundIn (Fn ro) 0 P l f tmps assign body w fun e w' => ∃ x E', e = .returned x ∧ E.le E' ∧ WR G B E' st' w' ∧ VR E' v x ∧ Keep B w w' := by
  unfold runYield at h
  split at h
  · rename_i r hb
    obtain ⟨fn, tm, g1, g2, g3, g4⟩ := (hw.live b _ hb).2
    split at h
    · rename_i hlen
      have hlen := Nat.eq_of_beq_eq_true hlen
      have hul := hv.len
      split at h
      · rename_i t ht
        obtain ⟨s1, s2⟩ := setAll_ok (E := E) _ _ us _ _ _ tm ht hv g3 g4
        split at h
        · rename_i fr1 st1 hrec1
          split at h
          · rename_i r1 hb1
            split at h
            · rename_i hready
              split at h
              · rename_i st2 hp2
                split at h
                · rename_i x fr2 st3 hrec2
                  split at h
                  · rename_i r3 hb3
                    split at h
                    · rename_i st4 hp4
                      injection h with h; injection h with e1 e2
                      subst e1 e2
                      have hy := run_yield (P := P) (args := us.toArray) g1 (by simp; omega)
                      refine ⟨_, _, _, _, _, hy, fun ro => ?_⟩
                      have hfold : (r.params.zip us.toArray).foldl (fun tmps (p : Nat × Value) => tmps.setIfInBounds p.1 p.2) tm = (r.params.toList.zip us).foldl (fun tmps (p : Nat × Value) => tmps.setIfInBounds p.1 p.2) tm := by
                        rw [← Array.foldl_toList, Array.toList_zip]
                      refine roundIn_of_wpIn trivial ?_
                      rw [Fn_inRound]
                      refine hr (some b) _ _ _ _ _ _ hrec1 E _ w hw ⟨?_, ?_, rfl, fun b hb => by cases hb⟩ (fun l hl => by injection hl with hl; subst hl; exact hbn) _ ?_
                      · show Array.size _ = _
                        exact (congrArg Array.size hfold).trans s2
                      · show TR E t _
                        have := s1
                        rw [← hfold] at this
                        exact this
                      · intro E1 a1 w1 hle1 hw1 hfr1 hbel1
                        show ∃ w₂, _ ∧ _
                        obtain ⟨fn1, tm1, k1, k2, k3, k4⟩ := (hw1.live b _ hb1).2
                        have eb1 : E1.ρ b = E.ρ b := (hle1.2 b hbn).1
                        have q1 := loop_put hw1 hb1 hp2 rfl rfl rfl rfl rfl rfl k1
                        rw [eb1] at k1 q1
                        refine ⟨_, run_beginRound k1 hready, ?_⟩
                        have eq1 : (Fn (some (E.ρ b))) = Fn ((some b).map E1.ρ) := by rw [Option.map_some, eb1]
                        rw [eq1]
                        refine hr (some b) _ _ _ _ _ _ hrec2 E1 _ _ q1.1 hfr1 (fun l hl => by injection hl with hl; subst hl; exact Nat.lt_of_lt_of_le hbn hle1.1) _ ?_
                        intro E3 a3 w3 hle3 hw3 hfr3 hbel3
                        obtain ⟨fn3, tm3, m1, m2, m3, m4⟩ := (hw3.live b _ hb3).2
                        have eb3 : E3.ρ b = E.ρ b := ((hle1.trans hle3).2 b hbn).1
                        have q3 := loop_put hw3 hb3 hp4 rfl rfl rfl rfl rfl rfl m1
                        rw [eb3] at m1 q3
                        have hend := run_endRound (P := P) x.jump m1
                        rw [jump_isNone] at hend
                        have hst : (if x.isNor = true then LoopState.ready else LoopState.done) = stOf x.isNor := by cases x.isNor <;> rfl
                        rw [hst] at hend
                        have hfin : ∃ y E', (Ending.returned (Value.bool x.isNor)) = .returned y ∧ E.le E' ∧ WR G B E' st4 (w3.putObj (E.ρ b) (.loop { state := stOf x.isNor, pending := x.jump, fn := fn3, tmps := tm3, params := r3.params, assign := r3.assign, body := r3.body, defers := E3.ρ r3.dfr })) ∧ VR E' (.raw (.bool x.isNor)) y ∧ Keep B w (w3.putObj (E.ρ b) (.loop { state := stOf x.isNor, pending := x.jump, fn := fn3, tmps := tm3, params := r3.params, assign := r3.assign, body := r3.body, defers := E3.ρ r3.dfr })) :=
                          ⟨_, E3, rfl, hle1.trans hle3, q3.1, rfl, (hbel1.trans q1.2).trans (hbel3.trans q3.2)⟩
                        cases x with
                        | nor => exact ⟨_, _, hend, hfin⟩
                        | ext i => exact ⟨_, _, hend, hfin⟩
                        | ret => exact ⟨_, _, hend, hfin⟩
                    · cases h
                  · cases h
                · cases h
              · cases h
            · cases h
          · cases h
        · cases h
      · cases h
    · cases h
  · cases h
/-- A function value: what is called, with what ahead of and behind the arguments. -/
def cloV : V → Option (FuncId × List V × List V)
  | .raw (.func (.func g) p q) => some (g, p.toList.map V.raw, q.toList.map V.raw)
  | .clo g p q => some (g, p, q)
  | _ => none
theorem cloV_ok {v : V} {x : Value} {g : FuncId} {p q : List V} (h : cloV v = some (g, p, q)) (hx : VR E v x) : ∃ us vs, x = .func (.func g) us vs ∧ VRs E p us.toList ∧ VRs E q vs.toList := by
  unfold cloV at h
  split at h
  · injection h with h; injection h with h1 h2; injection h2 with h2 h3
    subst h1 h2 h3
    exact ⟨_, _, hx, VRs.raws _, VRs.raws _⟩
  · injection h with h; injection h with h1 h2; injection h2 with h2 h3
    subst h1 h2 h3
    exact hx
  · cases h
/-- Functions whose contract is taken as given. -/
abbrev Orc := FuncId → List V → St → Option (V × St)
def OrcOK (P : Program) (G : Nat → Option Obj) (B : Nat → Prop) (K : Orc) : Prop := ∀ f args st v st', K f args st = some (v, st') → ∀ E w us, WR G B E st w → VRs E args us → CallOK P G B E w f us v st' ∧ ∃ fn c, callInfo P f = some (fn, c)
def callF (P : Program) (G : Nat → Option Obj) (K : Orc) (rec : Rec) (f : FuncId) (args : List V) (st : St) : Option (V × St) := match K f args st with
  | some r => some r
  | none => runFn P G rec f args st
theorem callF_ok {rec : Rec} (hr : Sound P G B rec) {K : Orc} (hK : OrcOK P G B K) {f : FuncId} {args : List V} {us : List Value} {v : V} {st' : St} (h : callF P G K rec f args st = some (v, st')) (hw : WR G B E st w) (hv : VRs E args us) :
    CallOK P G B E w f us v st' ∧ ∃ fn c, callInfo P f = some (fn, c) := by
  unfold callF at h
  split at h
  · rename_i r hr'
    injection h with h
    subst h
    exact hK _ _ _ _ _ hr' E w us hw hv
  · exact runFn_ok hr h hw hv
def callOp (P : Program) (G : Nat → Option Obj) (K : Orc) (rec : Rec) (st : St) (fr : Fr) (o : Oper) : Option (V × St) := match o.op with
  | .call { callee := .value f, args := args, .. } => match opd fr f, opds fr args.toList with
    | some (.yld b), some vs => runYield rec b vs st
    | some fv, some vs => match cloV fv with
      | some (g, p, q) => callF P G K rec g (p ++ vs ++ q) st
      | none => none
    | _, _ => none
  | _ => none
def evOp (P : Program) (G : Nat → Option Obj) (K : Orc) (rec : Rec) (st : St) (fr : Fr) (o : Oper) : Option (V × St) := match opP P fr o with
  | some v => some (v, st)
  | none => match opL P G st fr o with
    | some v => some (v, st)
    | none => match opE P st fr o with
      | some r => some r
      | none => callOp P G K rec st fr o
/-- What is asked of the walk of an operation. -/
def OpOK (P : Program) (G : Nat → Option Obj) (B : Nat → Prop) (E : Env) (a : Act) (w : World) (o : Oper) (v : V) (st' : St) : Prop :=
  ∀ ro (next : Act → World → Prop) Q, (∀ E' x w', E.le E' → WR G B E' st' w' → VR E' v x → Keep B w w' → next (a.put o.dst x) w') → o.wpIn (Fn ro) 0 P a w next Q
def notDefer : Op → Bool
  | .defer _ => false
  | _ => true
theorem wpIn_of_run {a : Act} {o : Oper} {ro : Option Nat} {next : Act → World → Prop} {Q : Exit → Act → World → Prop} (hd : notDefer o.op = true) {x : Value} {w' : World} (h : (execOp a.eval o).run P w = .ok (.value x) w' ∨ (x = undef ∧ (execOp a.eval o).run P w = .ok .skip w')) (hn : next (a.put o.dst x) w') :
    o.wpIn (Fn ro) 0 P a w next Q := by
  refine ⟨fun _ _ => trivial, ?_⟩
  rw [Oper.semAt_eq _ _ _ (fun c e => by rw [e] at hd; cases hd)]
  rcases h with h | ⟨rfl, h⟩
  · rw [h]; exact hn
  · rw [h]; exact hn
theorem opP_notDefer {fr : Fr} {o : Oper} {v : V} (h : opP P fr o = some v) : notDefer o.op = true := by
  unfold opP at h
  cases e : o.op <;> first | rfl | (rw [e] at h; simp at h)
theorem opL_notDefer {fr : Fr} {o : Oper} {v : V} (h : opL P G st fr o = some v) : notDefer o.op = true := by
  unfold opL at h
  cases e : o.op <;> first | rfl | (rw [e] at h; simp at h)
theorem opE_notDefer {fr : Fr} {o : Oper} {v : V × St} (h : opE P st fr o = some v) : notDefer o.op = true := by
  unfold opE at h
  cases e : o.op <;> first | rfl | (rw [e] at h; simp at h)
theorem opP_OK {fr : Fr} {a : Act} {o : Oper} {v : V} (hw : WR G B E st w) (h : opP P fr o = some v) (hs : Sees E fr a o.op.operands.toList) : OpOK P G B E a w o v st := by
  intro ro next Q hn
  obtain ⟨x, h1, h2⟩ := opP_ok h hs
  exact wpIn_of_run (opP_notDefer h) (h2 w) (hn E x w (Env.le.refl E) hw h1 (Keep.refl B w))
theorem opL_OK {fr : Fr} {a : Act} {o : Oper} {v : V} (hw : WR G B E st w) (h : opL P G st fr o = some v) (hs : Sees E fr a o.op.operands.toList) : OpOK P G B E a w o v st := by
  intro ro next Q hn
  obtain ⟨x, h1, h2⟩ := opL_ok (P := P) hw h hs
  exact wpIn_of_run (opL_notDefer h) (.inl h2) (hn E x w (Env.le.refl E) hw h1 (Keep.refl B w))
theorem callOp_OK {rec : Rec} (hr : Sound P G B rec) {K : Orc} (hK : OrcOK P G B K) {fr : Fr} {a : Act} {o : Oper} {v : V} {st' : St} (hw : WR G B E st w) (h : callOp P G K rec st fr o = some (v, st')) (hs : Sees E fr a o.op.operands.toList) : OpOK P G B E a w o v st' := by
  intro ro next Q hn
  unfold callOp at h
  split at h
  · rename_i f args ts ho
    have hsem : (o.semAt (Fn ro).round a.eval) = (do let d ← Deferred.ofValue (a.eval f) (args.map a.eval); invoke d.target d.args) := by
      rw [Oper.semAt_eq _ _ _ (fun c e => by rw [e] at ho; cases ho)]
      unfold execOp
      rw [ho]
      rfl
    have hso : Sees E fr a (f :: args.toList) := fun y hy => hs y (by rw [ho]; simpa [Op.operands, Call.operands] using hy)
    refine ⟨fun _ _ => trivial, ?_⟩
    rw [hsem]
    split at h
    · rename_i b vs hf hvs
      have hf := hso f (by simp) _ hf
      have hvs := opds_ok hvs (fun y hy => hso y (by simp [hy]))
      obtain ⟨l, g, tmps, assign, body, h1, h2⟩ := runYield_ok hr h hw hvs hf.1
      have e : (args.map a.eval) = (args.toList.map a.eval).toArray := by apply Array.ext'; simp
      rw [hf.2, Sem.run_bind]
      simp only [Deferred.ofValue, Sem.run_pure, Result.andThen_ok, invoke, Array.empty_append]
      rw [e, h1]
      refine ⟨no_depth ro 0, RoundIn.mono (h2 ro) ?_⟩
      rintro _ w' ⟨x, E', rfl, q1, q2, q3, q4⟩
      exact hn E' x w' q1 q2 q3 q4
    · rename_i fv vs _ hf hvs
      have hf := hso f (by simp) _ hf
      have hvs := opds_ok hvs (fun y hy => hso y (by simp [hy]))
      split at h
      · rename_i g p q hc
        obtain ⟨us, zs, e1, e2, e3⟩ := cloV_ok hc hf
        have hargs : VRs E (p ++ vs ++ q) (us.toList ++ args.toList.map a.eval ++ zs.toList) := (e2.append hvs).append e3
        obtain ⟨h1, fn, c, hci⟩ := callF_ok hr hK h hw hargs
        obtain ⟨_, _, hcall⟩ := callInfo_run hci
        have e : us ++ args.map a.eval ++ zs = (us.toList ++ args.toList.map a.eval ++ zs.toList).toArray := by apply Array.ext'; simp
        rw [e1, Sem.run_bind]
        simp only [Deferred.ofValue, Sem.run_pure, Result.andThen_ok, invoke]
        rw [hcall, e]
        refine ⟨no_depth ro 0, CallsIn.mono (h1 ro) ?_⟩
        rintro _ w' ⟨x, E', rfl, q1, q2, q3, q4⟩
        exact hn E' x w' q1 q2 q3 q4
      · cases h
    · cases h
  · cases h
theorem evOp_OK {rec : Rec} (hr : Sound P G B rec) {K : Orc} (hK : OrcOK P G B K) {fr : Fr} {a : Act} {o : Oper} {v : V} {st' : St} (hw : WR G B E st w) (h : evOp P G K rec st fr o = some (v, st')) (hs : Sees E fr a o.op.operands.toList) : OpOK P G B E a w o v st' := by
  unfold evOp at h
  split at h
  · rename_i u hu
    injection h with h; injection h with h1 h2
    subst h1 h2
    exact opP_OK hw hu hs
  · split at h
    · rename_i u hu
      injection h with h; injection h with h1 h2
      subst h1 h2
      exact opL_OK hw hu hs
    · split at h
      · rename_i r hu
        injection h with h
        subst h
        intro ro next Q hn
        obtain ⟨E', x, w', h1, h2, h3, h4, h5⟩ := opE_ok hw hu hs
        exact wpIn_of_run (opE_notDefer hu) h1 (hn E' x w' h2 h3 h4 h5)
      · exact callOp_OK hr hK hw h hs
/-- A region, its operations one after the other. -/
def seqR (P : Program) (G : Nat → Option Obj) (K : Orc) (rec : Rec) (ops : Array Oper) : List Oper → Fr → St → Option (Fr × St)
  | [], fr, st => some (fr, st)
  | o :: r, fr, st => match wantB ops fr o with
    | some true => match evOp P G K rec st fr o with
      | some (v, st') => match putT fr o.dst v with
        | some fr' => seqR P G K rec ops r fr' st'
        | none => none
      | none => none
    | some false => match putT fr o.dst (.raw undef) with
      | some fr' => seqR P G K rec ops r fr' st
      | none => none
    | none => none
theorem seqR_ok {rec : Rec} (hr : Sound P G B rec) {K : Orc} (hK : OrcOK P G B K) {ops : Array Oper} {ro : Option Nat} {Q : Exit → Act → World → Prop} {fr' : Fr} {st' : St} : ∀ (l : List Oper) (k : Nat) (E : Env) (fr : Fr) (st : St) (a : Act) (w : World), ops.toList.drop k = l → seqR P G K rec ops l fr st = some (fr', st') → WR G B E st w → FR E fr a →
    (∀ E' a' w', E.le E' → WR G B E' st' w' → FR E' fr' a' → Keep B w w' → Q .normal a' w') → wpOpsIn (Fn ro) 0 P ops Q (List.range' k l.length) a w
  | [], k, E, fr, st, a, w, hl, h, hw, hf, hQ => by
    simp only [seqR] at h
    injection h with h; injection h with h1 h2
    subst h1 h2
    exact hQ E a w (Env.le.refl E) hw hf (Keep.refl B w)
  | o :: r, k, E, fr, st, a, w, hl, h, hw, hf, hQ => by
    have ho : ops[k]? = some o := by
      rw [← Array.getElem?_toList]
      have := congrArg (fun l => l[0]?) hl
      simpa using this
    have hr2 : ops.toList.drop (k + 1) = r := by
      have := congrArg (List.drop 1) hl
      simpa [List.drop_drop] using this
    simp only [seqR] at h
    simp only [List.length_cons, List.range'_succ, wpOpsIn, ho]
    split at h
    · rename_i hwant
      rw [wantB_ok hwant (hf.sees _), if_pos rfl]
      split at h
      · rename_i v st1 hev
        split at h
        · rename_i fr1 hput
          refine evOp_OK hr hK hw hev (hf.sees _) ro _ Q ?_
          intro E' x w' hle hw' hv hbel
          exact seqR_ok hr hK r (k + 1) E' fr1 st1 _ w' hr2 h hw' (putT_ok (hf.mono hle) hput hv) (fun E2 a2 w2 hle2 hw2 hf2 hb2 => hQ E2 a2 w2 (hle.trans hle2) hw2 hf2 (hbel.trans hb2))
        · cases h
      · cases h
    · rename_i hwant
      rw [wantB_ok hwant (hf.sees _), if_neg (by simp)]
      split at h
      · rename_i fr1 hput
        refine ⟨fun _ _ => trivial, ?_⟩
        exact seqR_ok hr hK r (k + 1) E fr1 st _ w hr2 h hw (putT_ok hf hput rfl) hQ
      · cases h
    · cases h
end
end Go.Proofs.YtbadfjogakhhbaaDoor.Re
