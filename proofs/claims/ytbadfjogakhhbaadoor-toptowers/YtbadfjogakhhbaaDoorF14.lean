/- The small machine: all code; what a run with known arguments comes to. -/
import Derived.Test.YtbadfjogakhhbaaDoorF13
import Derived.WalkMore
namespace Go.Proofs.YtbadfjogakhhbaaDoor.Re
open Go Go.RowKit
set_option linter.unusedVariables false
set_option linter.unusedSimpArgs false
set_option linter.unusedSectionVars false
variable [Sig]
section
variable {F : Fence} {n : Nat} {P : Program} {Q : Exit → Act → World → Prop} {a : Act} {w : World} {b : Frame} {k : List Item} {cs : List Frame}

theorem stepR_scope {c : Code} : step P (lone (b.atR a (.code (.scope c) :: k)) cs w) = .next (lone (b.atR a (.code c :: .inScope c :: k)) cs w) :=
  step_lone_go (by simp [stepG, stepG.exec, Frame.atR])
theorem stepR_inScope {c : Code} : step P (lone (b.atR a (.inScope c :: k)) cs w) = .next (lone (b.atR a k) cs w) :=
  step_lone_go (by simp [stepG, stepG.exec, Frame.atR])

theorem wpIn_scope {c : Code} (h : c.wpIn F n P (Exit.noGoto Q) a w) : (Code.scope c).wpIn F n P Q a w := by
  intro b k cs hro hb hr
  have h0 : (lone (b.atR a (.code (.scope c) :: k)) cs w).fenced P F := fenced_calm hb hr rfl
  obtain ⟨e, a₁, w₁, hq, harr⟩ := h b (.inScope c :: k) cs hro hb hr
  cases e with
  | normal => exact ⟨.normal, a₁, w₁, hq, .head h0 stepR_scope (StepsIn.trans harr (.one (fenced_calm hb hr rfl) stepR_inScope))⟩
  | exit id =>
    have hx : exitTo id (.inScope c :: k) = exitTo id k := by simp [exitTo]
    exact ⟨.exit id, a₁, w₁, hq, fun k' hk => .head h0 stepR_scope (harr.1 k' (by rw [hx]; exact hk)),
      fun hr' hk => let ⟨k₁, h1, h2⟩ := harr.2 hr' (by rw [hx]; exact hk); ⟨k₁, h1, .head h0 stepR_scope h2⟩⟩
  | goto l => exact hq.elim
  | ret => exact ⟨_, a₁, w₁, hq, .of_steps (.one h0 stepR_scope) harr⟩
  | panic ch => exact ⟨_, a₁, w₁, hq, .of_steps (.one h0 stepR_scope) harr⟩
  | outgrown => exact ⟨_, a₁, w₁, hq, .of_steps (.one h0 stepR_scope) harr⟩
end
def notBusy : LoopState → Bool
  | .busy => false
  | _ => true
def rangeGo (P : Program) (G : Nat → Option Obj) (rec : Rec) (ro : Option Nat) (f : Operand) (ps : Array Tmp) (assign body : Code) (fr : Fr) (d' : List Nat) (dfr : Nat) (st : St) : Option (LX × Fr × St) :=
  match newB st (.loop { state := .ready, pend := none, t := fr.t, sz := fr.sz, params := ps, assign := assign, body := body, dfr := dfr }) with
  | some (bl, st2) => match opd fr f with
    | some fv => match cloV fv with
      | some (g, p, q) => match runFn P G rec g (p ++ [.yld bl] ++ q) st2 with
        | some (_, st3) => match st3.h.get bl with
          | some (.loop r) => match notBusy r.state, putB st3 bl (.loop { r with state := .exhausted }) with
            | true, some st4 => match r.pend with
              | none => some (.nor, { fr with d := d' }, st4)
              | some c => rec ro c { fr with d := d' } st4
            | _, _ => none
          | _ => none
        | none => none
      | none => none
    | none => none
  | none => none
def rangeR (P : Program) (G : Nat → Option Obj) (rec : Rec) (ro : Option Nat) (f : Operand) (ps : Array Tmp) (assign body : Code) (fr : Fr) (st : St) : Option (LX × Fr × St) := match ro with
  | none => match newB st (.obj (.deferred (some []))) with
    | some (bd, st1) => rangeGo P G rec ro f ps assign body fr (bd :: fr.d) bd st1
    | none => none
  | some l0 => match st.h.get l0 with
    | some (.loop r0) => rangeGo P G rec ro f ps assign body fr fr.d r0.dfr st
    | _ => none
def codeF (P : Program) (G : Nat → Option Obj) (K : Orc) (rec : Rec) : Rec := fun ro c fr st => match c with
  | .skip => some (.nor, fr, st)
  | .label _ => some (.nor, fr, st)
  | .seq x y => match rec ro x fr st with
    | some (.nor, fr', st') => rec ro y fr' st'
    | some (.ext i, fr', st') => some (.ext i, fr', st')
    | some (.ret, fr', st') => some (.ret, fr', st')
    | none => none
  | .cond c x y => match opd fr c with
    | some (.raw (.bool true)) => rec ro x fr st
    | some (.raw (.bool false)) => rec ro y fr st
    | _ => none
  | .block id x => match rec ro x fr st with
    | some (.nor, fr', st') => some (.nor, fr', st')
    | some (.ext i, fr', st') => match Nat.beq i id with
      | true => some (.nor, fr', st')
      | false => some (.ext i, fr', st')
    | some (.ret, fr', st') => some (.ret, fr', st')
    | none => none
  | .loop x => match rec ro x fr st with
    | some (.nor, fr', st') => rec ro (.loop x) fr' st'
    | some (.ext i, fr', st') => some (.ext i, fr', st')
    | some (.ret, fr', st') => some (.ret, fr', st')
    | none => none
  | .scope x => rec ro x fr st
  | .exit id => some (.ext id, fr, st)
  | .ret => some (.ret, fr, st)
  | .region _ ops draw => match draw with
    | true => match drawR P G K rec ops fr st with
      | some (fr', st') => some (.nor, fr', st')
      | none => none
    | false => match seqR P G K rec ops ops.toList fr st with
      | some (fr', st') => some (.nor, fr', st')
      | none => none
  | .rangeFunc f ps assign body => rangeR P G rec ro f ps assign body fr st
  | _ => none
def code (P : Program) (G : Nat → Option Obj) (K : Orc) : Nat → Rec
  | 0 => fun _ _ _ _ => none
  | k + 1 => codeF P G K (code P G K k)
section
variable {P : Program} {G : Nat → Option Obj} {B : Nat → Prop} {E : Env} {st : St} {w : World}
theorem newB_id {st st' : St} {o : LO} {b : Nat} (h : newB st o = some (b, st')) : b = st.n := by
  rw [newB_eq] at h
  split at h
  · injection h with h; injection h with h1 h2; exact h1.symm
  · cases h
theorem alloc_obj (hw : WR G B E st w) {o : Obj} (hn : notCells o = true) {b : Nat} {st' : St} (h : newB st (.obj o) = some (b, st')) :
    ∃ E', E.le E' ∧ WR G B E' st' (w.alloc o) ∧ Keep B w (w.alloc o) ∧ b < E'.n ∧ E'.ρ b = w.heap.size := by
  have hb := newB_id h
  have hρ : (E.new w.heap.size 0).ρ b = w.heap.size := by simp [Env.new, hb, hw.n]
  obtain ⟨h1, h2, h3, h4⟩ := hw.alloc h o 0 (by
    refine ⟨?_, hn⟩
    rw [hρ]
    exact World.alloc_heap_new w o)
  exact ⟨_, h2, h3, h4, by rw [h1]; exact Nat.lt_succ_self _, hρ⟩
theorem alloc_loop (hw : WR G B E st w) {r : LL} {b : Nat} {st' : St} (h : newB st (.loop r) = some (b, st')) (fn : FuncId) (tm : Array Value) (hd : r.dfr < E.n) (hs : tm.size = r.sz) (ht : TR E r.t tm) :
    ∃ E', E.le E' ∧ WR G B E' st' (w.alloc (.loop { state := r.state, pending := r.pend, fn := fn, tmps := tm, params := r.params, assign := r.assign, body := r.body, defers := E.ρ r.dfr })) ∧ Keep B w (w.alloc (.loop { state := r.state, pending := r.pend, fn := fn, tmps := tm, params := r.params, assign := r.assign, body := r.body, defers := E.ρ r.dfr })) ∧ b < E'.n ∧ E'.ρ b = w.heap.size := by
  have hb := newB_id h
  have hρ : (E.new w.heap.size 0).ρ b = w.heap.size := by simp [Env.new, hb, hw.n]
  have hle := Env.le_new E w.heap.size 0
  obtain ⟨h1, h2, h3, h4⟩ := hw.alloc h (.loop { state := r.state, pending := r.pend, fn := fn, tmps := tm, params := r.params, assign := r.assign, body := r.body, defers := E.ρ r.dfr }) 0 (by
    refine ⟨fn, tm, ?_, Nat.lt_of_lt_of_le hd hle.1, hs, ht.mono hle⟩
    rw [hρ, (hle.2 _ hd).1]
    exact World.alloc_heap_new w _)
  exact ⟨_, h2, h3, h4, by rw [h1]; exact Nat.lt_succ_self _, hρ⟩
theorem run_enterLoop_inner (fn : FuncId) (tmps : Array Value) (ps : Array Tmp) (assign body : Code) {l : Nat} {r : Loop} (h : w.heap[l]? = some (.loop r)) :
    (Instr.enterLoop fn tmps ps assign body (some l)).run P w = .ok (w.heap.size, []) (w.alloc (.loop { state := .ready, pending := none, fn, tmps, params := ps, assign, body, defers := r.defers })) := by
  unfold Instr.enterLoop
  simp [Sem.run_bind, run_getLoop h]
/-- The statement behind the entering. -/
theorem rangeGo_ok {rec : Rec} (hr : Sound P G B rec) {ro : Option Nat} {f : Operand} {ps : Array Tmp} {assign body : Code} {fr fr' : Fr} {d' : List Nat} {dfr : Nat} {st' : St} {x : LX} (h : rangeGo P G rec ro f ps assign body fr d' dfr st = some (x, fr', st')) {a : Act} {w0 : World}
    (hw : WR G B E st w) (hf : FR E fr a) (hd : dfr < E.n) (hd' : ∀ b ∈ d', b < E.n) (hro : ∀ l, ro = some l → l < E.n) (hb0 : Keep B w0 w) (mark : List Deferred) (hmark : mark ++ a.defers = marks E d') (fn : FuncId)
    {Q : Exit → Act → World → Prop} (hQ : ∀ E' a' w', E.le E' → WR G B E' st' w' → FR E' fr' a' → Keep B w0 w' → Q x.exit a' w') :
    ∃ (d : Deferred) (g : FuncId) (args : Array Value),
      let w₁ := w.alloc (.loop { state := .ready, pending := none, fn := fn, tmps := a.tmps, params := ps, assign := assign, body := body, defers := E.ρ dfr })
      (resolve a.eval (rangeCall f w.heap.size) 0).run P w₁ = .ok d w₁ ∧ (invoke d.target d.args).run P w₁ = .ok (.enter g args) w₁ ∧
      CallsIn (Fn (ro.map E.ρ)) 0 P g args w₁ (rangePost (Fn (ro.map E.ρ)) 0 P w.heap.size Q { a with defers := mark ++ a.defers }) := by
  unfold rangeGo at h
  split at h
  · rename_i bl st2 hbl
    split at h
    · rename_i fv hfv
      split at h
      · rename_i g p q hc
        split at h
        · rename_i v st3 hrun
          split at h
          · rename_i r hr3
            split at h
            · rename_i st4 hnb hp4
              obtain ⟨E1, e1, e2, e3, e4, e5⟩ := alloc_loop hw hbl fn a.tmps hd hf.sz hf.t
              have hfx := hf.sees [f] f (by simp) _ hfv
              obtain ⟨us, zs, hx, u1, u2⟩ := cloV_ok hc (VR.mono e1 _ _ hfx)
              have hy : VRs E1 [V.yld bl] [.func (.yield w.heap.size) #[] #[]] := ⟨_, [], rfl, ⟨e4, by rw [e5]⟩, rfl⟩
              have hargs : VRs E1 (p ++ [.yld bl] ++ q) (us.toList ++ [.func (.yield w.heap.size) #[] #[]] ++ zs.toList) := (u1.append hy).append u2
              obtain ⟨h1, fn2, c2, hci⟩ := runFn_ok hr hrun e2 hargs
              obtain ⟨_, _, hcall⟩ := callInfo_run hci
              refine ⟨{ target := .fn (.func g) zs, args := us ++ #[Value.func (.yield w.heap.size) #[] #[]] }, g, (us.toList ++ [Value.func (.yield w.heap.size) #[] #[]] ++ zs.toList).toArray, ?_, ?_, ?_⟩
              · have e : #[Operand.const (.func (.yield w.heap.size) #[] #[])].map a.eval = #[Value.func (.yield w.heap.size) #[] #[]] := by simp [Act.eval]
                simp only [resolve, rangeCall, hx, Deferred.ofValue, e]
                rfl
              · have e : us ++ #[Value.func (.yield w.heap.size) #[] #[]] ++ zs = (us.toList ++ [Value.func (.yield w.heap.size) #[] #[]] ++ zs.toList).toArray := by apply Array.ext'; simp
                simp only [invoke]
                rw [hcall, e]
              · refine CallsIn.mono (h1 _) ?_
                rintro _ w3 ⟨y, E3, rfl, k1, k2, k3, k4⟩
                obtain ⟨fn3, tm3, m1, m2, m3, m4⟩ := (k2.live bl _ hr3).2
                have eb3 : E3.ρ bl = w.heap.size := by rw [(k1.2 bl e4).1, e5]
                have q3 := loop_put k2 hr3 hp4 rfl rfl rfl rfl rfl rfl m1
                rw [eb3] at m1 q3
                have hle3 : E.le E3 := e1.trans k1
                have hend := run_endLoop (P := P) m1 (by
                  show r.state ≠ .busy
                  intro hh
                  rw [hh] at hnb
                  cases hnb)
                have hfr3 : FR E3 { fr with d := d' } { a with defers := mark ++ a.defers } := by
                  refine ⟨hf.sz, hf.t.mono hle3, ?_, fun b hb => Nat.lt_of_lt_of_le (hd' b hb) hle3.1⟩
                  show mark ++ a.defers = marks E3 d'
                  rw [hmark, marks_mono hle3 hd']
                have hbel3 : Keep B w0 (w3.putObj w.heap.size (.loop { state := .exhausted, pending := r.pend, fn := fn3, tmps := tm3, params := r.params, assign := r.assign, body := r.body, defers := E3.ρ r.dfr })) := ((hb0.trans e3).trans k4).trans q3.2
                refine ⟨r.pend, _, hend, ?_⟩
                cases hpend : r.pend with
                | none =>
                  rw [hpend] at h
                  simp only at h
                  injection h with h; injection h with h2 h3; injection h3 with h3 h4
                  subst h2 h3 h4
                  show Q .normal _ _
                  rw [hpend] at q3 hbel3
                  exact hQ E3 _ _ hle3 q3.1 hfr3 hbel3
                | some c =>
                  rw [hpend] at h
                  simp only at h
                  have hro3 : ro.map E.ρ = ro.map E3.ρ := by
                    cases ro with
                    | none => rfl
                    | some l => simp [(hle3.2 l (hro l rfl)).1]
                  show c.wpIn (Fn (ro.map E.ρ)) 0 P Q _ _
                  rw [hro3]
                  rw [hpend] at q3 hbel3
                  exact hr ro c _ _ x fr' st' h E3 _ _ q3.1 hfr3 (fun l hl => Nat.lt_of_lt_of_le (hro l hl) hle3.1) Q (fun E' a' w' g1 g2 g3 g4 => hQ E' a' w' (hle3.trans g1) g2 g3 (hbel3.trans g4))
            · cases h
          · cases h
        · cases h
      · cases h
    · cases h
  · cases h
theorem loop_sound {x : Code} {F : Fence} {n : Nat} {Q : Exit → Act → World → Prop} {a : Act} {w : World}
    (I : Nat → Act → World → Prop) (k : Nat) (h0 : I k a w) (round : ∀ k a w, I k a w → x.wpIn F n P (Exit.then (fun a' w' => ∃ j, j < k ∧ I j a' w') Q) a w) : (Code.loop x).wpIn F n P Q a w := by
  classical
  have ex : ∀ a w, (∃ k, I k a w) → ∃ k, I k a w ∧ ∀ j, I j a w → k ≤ j := fun a w h => by
    obtain ⟨k, hk⟩ := h
    induction k using Nat.strongRecOn with
    | _ k ih =>
      by_cases hh : ∃ j, j < k ∧ I j a w
      · obtain ⟨j, hj, hI⟩ := hh; exact ih j hj hI
      · exact ⟨k, hk, fun j hj => Nat.le_of_not_lt (fun hlt => hh ⟨j, hlt, hj⟩)⟩
  refine wpIn_loop (fun a w => ∃ k, I k a w) (fun a w => if h : ∃ k, I k a w then Classical.choose (ex a w h) else 0) ⟨k, h0⟩ ?_
  intro a w hI
  obtain ⟨g1, g2⟩ := Classical.choose_spec (ex a w hI)
  refine wpIn_mono (round _ a w g1) ?_
  intro e a' w' hq
  cases e with
  | normal =>
    obtain ⟨j, hj, hIj⟩ := hq
    refine ⟨⟨j, hIj⟩, ?_⟩
    have hI' : ∃ k, I k a' w' := ⟨j, hIj⟩
    obtain ⟨g3, g4⟩ := Classical.choose_spec (ex a' w' hI')
    simp only [dif_pos hI, dif_pos hI']
    exact Nat.lt_of_le_of_lt (g4 j hIj) hj
  | _ => exact hq
theorem code_sound (hm : P.follows .mixedOrders = true) {K : Orc} (hK0 : ∀ B, OrcOK P G B K) : ∀ k B, Sound P G B (code P G K k) := by
  intro k
  induction k using Nat.strongRecOn with
  | _ k ih =>
    intro B ro c fr st x fr' st' h E a w hw hf hro Q hQ
    cases k with
    | zero => cases h
    | succ k =>
      have hrA := ih k (Nat.lt_succ_self k)
      have hr := hrA B
      have hK := hK0 B
      have hroE : ∀ {E' : Env}, E.le E' → ro.map E.ρ = ro.map E'.ρ := fun {E'} hle => by
        cases ro with
        | none => rfl
        | some l => simp [(hle.2 l (hro l rfl)).1]
      unfold code codeF at h
      cases c with
      | skip =>
        simp only at h
        injection h with h; injection h with h1 h2; injection h2 with h2 h3
        subst h1 h2 h3
        exact wpIn_skip (hQ E a w (Env.le.refl E) hw hf (Keep.refl B w))
      | label l =>
        simp only at h
        injection h with h; injection h with h1 h2; injection h2 with h2 h3
        subst h1 h2 h3
        exact wpIn_label (hQ E a w (Env.le.refl E) hw hf (Keep.refl B w))
      | seq y z =>
        simp only at h
        refine wpIn_seq ?_
        split at h
        · rename_i fr1 st1 h1
          refine hr ro y fr st _ fr1 st1 h1 E a w hw hf hro _ ?_
          intro E1 a1 w1 hle1 hw1 hf1 hb1
          show z.wpIn (Fn (ro.map E.ρ)) 0 P Q a1 w1
          rw [hroE hle1]
          exact hr ro z fr1 st1 x fr' st' h E1 a1 w1 hw1 hf1 (fun l hl => Nat.lt_of_lt_of_le (hro l hl) hle1.1) Q (fun E2 a2 w2 g1 g2 g3 g4 => hQ E2 a2 w2 (hle1.trans g1) g2 g3 (hb1.trans g4))
        · rename_i i fr1 st1 h1
          injection h with h; injection h with e1 e2; injection e2 with e2 e3
          subst e1 e2 e3
          exact hr ro y fr st _ fr1 st1 h1 E a w hw hf hro _ hQ
        · rename_i fr1 st1 h1
          injection h with h; injection h with e1 e2; injection e2 with e2 e3
          subst e1 e2 e3
          exact hr ro y fr st _ fr1 st1 h1 E a w hw hf hro _ hQ
        · cases h
      | cond c y z =>
        simp only at h
        split at h
        · rename_i hc
          exact wpIn_cond_true (hf.sees [c] c (by simp) _ hc) (hr ro y fr st x fr' st' h E a w hw hf hro Q hQ)
        · rename_i hc
          exact wpIn_cond_false (hf.sees [c] c (by simp) _ hc) (hr ro z fr st x fr' st' h E a w hw hf hro Q hQ)
        · cases h
      | block id y =>
        simp only at h
        refine wpIn_block ?_
        split at h
        · rename_i fr1 st1 h1
          injection h with h; injection h with e1 e2; injection e2 with e2 e3
          subst e1 e2 e3
          exact hr ro y fr st _ fr1 st1 h1 E a w hw hf hro _ hQ
        · rename_i i fr1 st1 h1
          split at h
          · rename_i hb
            have hb := Nat.eq_of_beq_eq_true hb
            injection h with h; injection h with e1 e2; injection e2 with e2 e3
            subst e1 e2 e3
            refine hr ro y fr st _ fr1 st1 h1 E a w hw hf hro _ ?_
            intro E1 a1 w1 g1 g2 g3 g4
            show (if i = id then Q .normal a1 w1 else Q (.exit i) a1 w1)
            rw [if_pos hb]
            exact hQ E1 a1 w1 g1 g2 g3 g4
          · rename_i hb
            injection h with h; injection h with e1 e2; injection e2 with e2 e3
            subst e1 e2 e3
            refine hr ro y fr st _ fr1 st1 h1 E a w hw hf hro _ ?_
            intro E1 a1 w1 g1 g2 g3 g4
            show (if i = id then Q .normal a1 w1 else Q (.exit i) a1 w1)
            rw [if_neg (fun e => by rw [e, Nat.beq_refl] at hb; cases hb)]
            exact hQ E1 a1 w1 g1 g2 g3 g4
        · rename_i fr1 st1 h1
          injection h with h; injection h with e1 e2; injection e2 with e2 e3
          subst e1 e2 e3
          exact hr ro y fr st _ fr1 st1 h1 E a w hw hf hro _ hQ
        · cases h
      | loop y =>
        simp only at h
        -- round after round
        refine loop_sound (I := fun j a1 w1 => ∃ E1 fr1 st1, E.le E1 ∧ WR G B E1 st1 w1 ∧ FR E1 fr1 a1 ∧ Keep B w w1 ∧ j ≤ k + 1 ∧ code P G K j ro (.loop y) fr1 st1 = some (x, fr', st')) (k := k + 1)
          ⟨E, fr, st, Env.le.refl E, hw, hf, Keep.refl B w, Nat.le_refl _, by unfold code codeF; exact h⟩ ?_
        rintro j a1 w1 ⟨E1, fr1, st1, hle1, hw1, hf1, hb1, hj, hc⟩
        cases j with
        | zero => cases hc
        | succ j =>
          have hrj := ih j (by omega) B
          unfold code codeF at hc
          simp only at hc
          rw [hroE hle1]
          have hro1 : ∀ l, ro = some l → l < E1.n := fun l hl => Nat.lt_of_lt_of_le (hro l hl) hle1.1
          split at hc
          · rename_i fr2 st2 h2
            refine hrj ro y fr1 st1 _ fr2 st2 h2 E1 a1 w1 hw1 hf1 hro1 _ ?_
            intro E2 a2 w2 g1 g2 g3 g4
            exact ⟨j, Nat.lt_succ_self j, E2, fr2, st2, hle1.trans g1, g2, g3, hb1.trans g4, by omega, hc⟩
          · rename_i i fr2 st2 h2
            injection hc with hc; injection hc with e1 e2; injection e2 with e2 e3
            subst e1 e2 e3
            exact hrj ro y fr1 st1 _ fr2 st2 h2 E1 a1 w1 hw1 hf1 hro1 _ (fun E2 a2 w2 g1 g2 g3 g4 => hQ E2 a2 w2 (hle1.trans g1) g2 g3 (hb1.trans g4))
          · rename_i fr2 st2 h2
            injection hc with hc; injection hc with e1 e2; injection e2 with e2 e3
            subst e1 e2 e3
            exact hrj ro y fr1 st1 _ fr2 st2 h2 E1 a1 w1 hw1 hf1 hro1 _ (fun E2 a2 w2 g1 g2 g3 g4 => hQ E2 a2 w2 (hle1.trans g1) g2 g3 (hb1.trans g4))
          · cases hc
      | scope y =>
        simp only at h
        refine wpIn_scope (hr ro y fr st x fr' st' h E a w hw hf hro _ ?_)
        intro E1 a1 w1 g1 g2 g3 g4
        have := hQ E1 a1 w1 g1 g2 g3 g4
        cases x <;> exact this
      | exit id =>
        simp only at h
        injection h with h; injection h with h1 h2; injection h2 with h2 h3
        subst h1 h2 h3
        exact wpIn_exit (hQ E a w (Env.le.refl E) hw hf (Keep.refl B w))
      | ret =>
        simp only at h
        injection h with h; injection h with h1 h2; injection h2 with h2 h3
        subst h1 h2 h3
        exact wpIn_ret (hQ E a w (Env.le.refl E) hw hf (Keep.refl B w))
      | region id ops draw =>
        simp only at h
        cases draw with
        | true =>
          simp only at h
          split at h
          · rename_i fr1 st1 h1
            injection h with h; injection h with e1 e2; injection e2 with e2 e3
            subst e1 e2 e3
            refine wpIn_region_any hm ?_
            exact drawR_ok hrA hK0 (w := w.drew) h1 hw.drew hf (fun E' a' w' g1 g2 g3 g4 => hQ E' a' w' g1 g2 g3 ((Keep.drew' w).trans g4))
          · cases h
        | false =>
          simp only at h
          split at h
          · rename_i fr1 st1 h1
            injection h with h; injection h with e1 e2; injection e2 with e2 e3
            subst e1 e2 e3
            refine wpIn_region ?_
            have := seqR_ok hr hK (ro := ro.map E.ρ) ops.toList 0 E fr st a w (by simp) h1 hw hf hQ
            rw [List.range_eq_range']
            simpa using this
          · cases h
      | rangeFunc f ps assign body =>
        simp only at h
        refine wpIn_rangeFunc ?_
        intro fn _
        unfold rangeR at h
        cases ro with
        | none =>
          simp only at h
          split at h
          · rename_i bd st1 hbd
            obtain ⟨E1, e1, e2, e3, e4, e5⟩ := alloc_obj hw (o := .deferred (some [])) rfl hbd
            obtain ⟨d, g, args, h1, h2, h3⟩ := rangeGo_ok hr h e2 (hf.mono e1) e4 (fun b hb => by
              rcases List.mem_cons.1 hb with rfl | hb
              · exact e4
              · exact Nat.lt_of_lt_of_le (hf.dn b hb) e1.1) (fun l hl => by cases hl) e3 [{ target := .collected w.heap.size, args := #[] }] (by
                show _ :: a.defers = marks E1 (bd :: fr.d)
                rw [(hf.mono e1).d]
                unfold marks
                rw [List.map_cons, e5]) fn (Q := Q) (fun E' a' w' g1 g2 g3 g4 => hQ E' a' w' (e1.trans g1) g2 g3 g4)
            have hent := run_enterLoop_outer (P := P) (w := w) fn a.tmps ps assign body
            rw [e5] at h1 h2 h3
            have hsz : (w.alloc (.deferred (some []))).heap.size = w.heap.size + 1 := by simp
            rw [hsz] at h1 h3
            exact ⟨_, _, _, d, _, g, args, _, hent, h1, fun _ _ => trivial, h2, no_depth _ _, h3⟩
          · cases h
        | some l0 =>
          simp only at h
          split at h
          · rename_i r0 hr0
            obtain ⟨fn0, tm0, m1, m2, m3, m4⟩ := (hw.live l0 _ hr0).2
            obtain ⟨d, g, args, h1, h2, h3⟩ := rangeGo_ok hr h hw hf m2 hf.dn hro (Keep.refl B w) [] (by simp [hf.d]) fn (Q := Q) hQ
            have hent := run_enterLoop_inner (P := P) fn a.tmps ps assign body m1
            exact ⟨_, _, _, d, _, g, args, _, hent, h1, fun _ _ => trivial, h2, no_depth _ _, h3⟩
          · cases h
      | _ => simp at h
/-- A call with known arguments: what the small machine comes to is what the call comes to, in every world. -/
def noK : Orc := fun _ _ _ => none
theorem noK_ok : OrcOK P G B noK := fun f args st v st' h => by cases h
theorem closed (hm : P.follows .mixedOrders = true) {K : Orc} {k : Nat} {f : FuncId} {args : List Value} {v : V} {n : Nat} {st' : St} (h : runFn P G (code P G K k) f (args.map V.raw) ⟨.leaf, 0⟩ = some (v, st')) (w : World) (hG : ∀ g o, (G g = some o ∨ Sig.gf g = some o) → g < w.heap.size ∧ w.heap[g]? = some o) (hK : ∀ B, OrcOK P G B K) :
    Calls P f args.toArray w fun e w' => ∃ x E', e = .returned x ∧ WR G (fun k => k < w.heap.size) E' st' w' ∧ VR E' v x ∧ Below w.heap.size w w' := by
  have hw : WR G (fun k => k < w.heap.size) ⟨0, fun _ => 0, fun _ => 0⟩ ⟨.leaf, 0⟩ w := ⟨rfl, fun b o hb => by simp [T.get] at hb, fun b b' o o' hb => by simp [T.get] at hb, fun b o hb => by simp [T.get] at hb, fun k hk => hk, hG⟩
  obtain ⟨h1, _⟩ := runFn_ok (code_sound hm hK k _) h hw (VRs.raws args)
  refine callsIn_wide.1 (CallsIn.mono (h1 none) ?_)
  rintro _ w' ⟨x, E', rfl, q1, q2, q3, q4⟩
  exact ⟨x, E', rfl, q2, q3, q4.below⟩
end
end Go.Proofs.YtbadfjogakhhbaaDoor.Re
