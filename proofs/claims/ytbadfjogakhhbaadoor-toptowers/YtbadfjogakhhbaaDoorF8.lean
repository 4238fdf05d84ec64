/- The small machine: operations that write or lay blocks. -/
import Derived.Test.YtbadfjogakhhbaaDoorF7
namespace Go.Proofs.YtbadfjogakhhbaaDoor.Re
open Go Go.RowKit
set_option linter.unusedVariables false
set_option linter.unusedSimpArgs false
set_option linter.unusedSectionVars false
variable [Sig]
section
variable {P : Program} {G : Nat → Option Obj} {B : Nat → Prop} {E : Env} {st : St} {w : World}
/-- What an operation leaves. -/
def Does (G : Nat → Option Obj) (B : Nat → Prop) (P : Program) (E : Env) (a : Act) (w : World) (o : Oper) (v : V) (st' : St) : Prop :=
  ∃ E' x w', ((execOp a.eval o).run P w = .ok (.value x) w' ∨ (x = undef ∧ (execOp a.eval o).run P w = .ok .skip w')) ∧ E.le E' ∧ WR G B E' st' w' ∧ VR E' v x ∧ Keep B w w'
theorem Does.of {a : Act} {o : Oper} {v : V} {st' : St} {s : Sem Value} (ho : execOp a.eval o = s >>= fun x => pure (.value x)) (h : Did G B P E w s v st') : Does G B P E a w o v st' := by
  obtain ⟨E', x, w', h1, h2⟩ := h.ex
  exact ⟨E', x, w', .inl (by rw [ho, Sem.run_bind, h1]; rfl), h2⟩
def boxL (st : St) (e : TypeId) (l : List V) : Option (V × St) := match newB st (.cells l e) with
  | some (b, st') => some (.ptr b 0, st')
  | none => none
theorem boxL_ok (hw : WR G B E st w) {e : TypeId} {l : List V} {x v : Value} {p : V} {st' : St} (h : boxL st e l = some (p, st')) (hl : VRs E l x.cells.toList) : Did G B P E w (do pure (.pointer (some (← newVar e x)))) p st' := by
  unfold boxL at h
  split at h
  · rename_i b st1 hb
    injection h with h; injection h with h1 h2
    subst h1 h2
    obtain ⟨h1, h2, h3, h4, h5, h6, h7⟩ := newCells hw hb [] hl x.cells (by simp)
    refine ⟨_, .pointer (some ⟨w.heap.size, 0, none⟩), _, ?_, h2, h3, ⟨h5, by rw [h6]⟩, h4⟩
    simp [newVar, newRow]
  · cases h
/-- copy(d, s). -/
def rowN (st : St) (size n : Nat) : V → Option (List V)
  | .sl b off len _ => match Nat.ble n len with
    | true => loadL st b off (n * size)
    | false => none
  | .gs b off len _ => match Nat.ble n len with
    | true => loadL st b off (n * size)
    | false => none
  | _ => none
def lenN : V → Option Nat
  | .sl _ _ n _ => some n
  | .gs _ _ n _ => some n
  | _ => none
def copyL (P : Program) (st : St) (t : TypeId) (d s : V) : Option (V × St) := match P.underlying t with
  | some (.slice e) => match P.info? e, d, lenN s with
    | some i, .sl b off len _, some m => match rowN st i.size (Nat.min m len) s with
      | some l => match storeL st b off l with
        | some st' => some (.raw (.int .i64 (Nat.min m len)), st')
        | none => none
      | none => none
    | some i, .gs b off len _, some m => match rowN st i.size (Nat.min m len) s with
      | some l => match storeL st b off l with
        | some st' => some (.raw (.int .i64 (Nat.min m len)), st')
        | none => none
      | none => none
    | _, _, _ => none
  | _ => none
theorem rowN_ok (hw : WR G B E st w) {size n m : Nat} {v : V} {x : Value} {l : List V} (h : rowN st size n v = some l) (hm : lenN v = some m) (hx : VR E v x) :
    ∃ us, VRs E l us ∧ (Builtin.firstCells size n x).run P w = .ok us.toArray w ∧ (Builtin.lenOf x).run P w = .ok m w := by
  unfold rowN at h
  split at h
  · split at h
    · obtain ⟨us, q1, q2, q3, q4⟩ := loadL_ok (P := P) hw h
      injection hm with hm
      subst hm
      rw [hx.2]
      exact ⟨us, q1, by simp [Builtin.firstCells, q3], rfl⟩
    · cases h
  · split at h
    · obtain ⟨us, q1, q2, q3, q4⟩ := loadL_ok (P := P) hw h
      injection hm with hm
      subst hm
      obtain ⟨_, cap, e, _⟩ := hx
      rw [e]
      exact ⟨us, q1, by simp [Builtin.firstCells, q3], rfl⟩
    · cases h
  · cases h
theorem copyL_ok (hw : WR G B E st w) {t ty : TypeId} {ts : Array TypeId} {d s v : V} {y z : Value} {st' : St} (h : copyL P st t d s = some (v, st')) (hts : ts[0]? = some t) (hd : VR E d y) (hs : VR E s z) :
    Did G B P E w (Builtin.copy_ ts ty #[y, z]) v st' := by
  unfold copyL at h
  split at h
  · rename_i e hu
    split at h
    · rename_i i b off len _ m hi hm
      split at h
      · rename_i l hl
        split at h
        · rename_i st1 hst
          injection h with h; injection h with h1 h2
          subst h1 h2
          obtain ⟨us, q1, q2, q3⟩ := rowN_ok (P := P) hw hl hm hs
          obtain ⟨w', r1, r2, r3⟩ := storeL_ok (P := P) hw hst q1
          refine ⟨E, _, w', ?_, Env.le.refl E, r2, rfl, r3⟩
          rw [hd.2]
          simp [Builtin.copy_, hts, run_underlying hu, q3, run_sizeOf hi, q2, r1, goInt]
        · cases h
      · cases h
    · rename_i i b off len _ m hi hm
      split at h
      · rename_i l hl
        split at h
        · rename_i st1 hst
          injection h with h; injection h with h1 h2
          subst h1 h2
          obtain ⟨us, q1, q2, q3⟩ := rowN_ok (P := P) hw hl hm hs
          obtain ⟨w', r1, r2, r3⟩ := storeL_ok (P := P) hw hst q1
          obtain ⟨_, cap, e2, _⟩ := hd
          refine ⟨E, _, w', ?_, Env.le.refl E, r2, rfl, r3⟩
          rw [e2]
          simp [Builtin.copy_, hts, run_underlying hu, q3, run_sizeOf hi, q2, r1, goInt]
        · cases h
      · cases h
    · cases h
  · cases h
/-- Maps: what is held is raw. -/
def rawOf : Option V → Option Value
  | some v => v.raw?
  | none => none
def updM (P : Program) (kt : TypeId) (es : Array MapEntry) (clock : Nat) (key val : Value) : Option Obj := match ev0 P (Instr.checkKey false 10000 kt key) with
  | some _ => match ev0 P (Instr.findKey kt key es.toList) with
    | some none => some (.map (es.push { key := key, val := val, born := clock }) (clock + 1))
    | some (some (i, _)) => match ev0 P (Instr.keyThatStays (((es[i]?).map (·.key)).getD key) key) with
      | some key' => some (.map (es.modify i fun e => { e with key := key', val := val }) clock)
      | none => none
    | none => none
  | none => none
def lookM (P : Program) (kt et : TypeId) (es : Array MapEntry) (key : Value) (ok : Bool) : Option Value := match ev0 P (Instr.checkKey es.isEmpty 10000 kt key) with
  | some _ => match ev0 P (Instr.findKey kt key es.toList) with
    | some (some (_, v)) => some (if ok then .tuple #[v, .bool true] else v)
    | some none => match ev0 P (zeroValue et) with
      | some v => some (if ok then .tuple #[v, .bool false] else v)
      | none => none
    | none => none
  | none => none
theorem run_getObj' {r : Nat} {es : Array MapEntry} {clock : Nat} (h : w.heap[r]? = some (.map es clock)) : (getObj r).run P w = .ok (.map es clock) w := by simp [getObj, Sem.run, h]
theorem run_setObj' {r : Nat} {es : Array MapEntry} {clock : Nat} {o' : Obj} (h : w.heap[r]? = some (.map es clock)) : (setObj r o').run P w = .ok () (w.putObj r o') := by simp [setObj, Sem.run, h, World.putObj]
theorem below_putM {b : Nat} (hb : ¬ B b) (o : Obj) : Keep B w (w.putObj b o) := ⟨rfl, rfl, rfl, by simp [World.putObj], fun k hk => World.putObj_heap_other (fun e => hb (e ▸ hk))⟩
theorem updM_ok {t kt et : TypeId} (hu : P.underlying t = some (.map kt et)) {r : Nat} {es : Array MapEntry} {clock : Nat} {key val : Value} {o : Obj} (h : updM P kt es clock key val = some o) (hh : w.heap[r]? = some (.map es clock)) : (Instr.mapUpdate t (.map (some r)) key val).run P w = .ok () (w.putObj r o) := by
  unfold updM at h
  split at h
  · rename_i z hz
    have hz := ev0_run P _ _ hz w
    have hset : ∀ o', (setObj r o').run P w = .ok () (w.putObj r o') := fun o' => run_setObj' hh
    split at h
    · rename_i hf
      have hf := ev0_run P _ _ hf w
      injection h with h; subst h
      simp [Instr.mapUpdate, Sem.run_bind, run_underlying hu, run_getObj' hh, hz, hf, hset]
    · rename_i i v hf
      have hf := ev0_run P _ _ hf w
      split at h
      · rename_i key' hk
        have hk := ev0_run P _ _ hk w
        injection h with h; subst h
        simp [Instr.mapUpdate, Sem.run_bind, run_underlying hu, run_getObj' hh, hz, hf, hk, hset]
      · cases h
    · cases h
  · cases h
theorem lookM_ok {t kt et : TypeId} (hu : P.underlying t = some (.map kt et)) {r : Nat} {es : Array MapEntry} {clock : Nat} {key v : Value} {ok : Bool} (h : lookM P kt et es key ok = some v) (hh : w.heap[r]? = some (.map es clock)) : (Instr.lookup t (.map (some r)) key ok).run P w = .ok v w := by
  unfold lookM at h
  split at h
  · rename_i z hz
    have hz := ev0_run P _ _ hz w
    split at h
    · rename_i u v' hf
      have hf := ev0_run P _ _ hf w
      injection h with h; subst h
      simp [Instr.lookup, Sem.run_bind, run_underlying hu, run_getObj' hh, hz, hf]
    · rename_i hf
      have hf := ev0_run P _ _ hf w
      split at h
      · rename_i v' hv
        have hv := ev0_run P _ _ hv w
        injection h with h; subst h
        simp [Instr.lookup, Sem.run_bind, run_underlying hu, run_getObj' hh, hz, hf, hv]
      · cases h
    · cases h
  · cases h
theorem updM_obj {P : Program} {kt : TypeId} {es : Array MapEntry} {clock : Nat} {key val : Value} {o : Obj} (h : updM P kt es clock key val = some o) : notCells o = true := by
  unfold updM at h
  split at h
  · split at h
    · injection h with h; subst h; rfl
    · split at h
      · injection h with h; subst h; rfl
      · cases h
    · cases h
  · cases h
def putM (P : Program) (st : St) (t : TypeId) (m k x : Option V) : Option (V × St) := match P.underlying t, m with
  | some (.map kt _), some (.mp b) => match st.h.get b with
    | some (.obj (.map es clock)) => match rawOf k, rawOf x with
      | some key, some val => match updM P kt es clock key val with
        | some o => match putB st b (.obj o) with
          | some st' => some (.raw undef, st')
          | none => none
        | none => none
      | _, _ => none
    | _ => none
  | _, _ => none
def getM (P : Program) (st : St) (t : TypeId) (m k : Option V) (ok : Bool) : Option (V × St) := match P.underlying t, m with
  | some (.map kt et), some (.mp b) => match st.h.get b with
    | some (.obj (.map es _)) => match rawOf k with
      | some key => match lookM P kt et es key ok with
        | some v => some (.raw v, st)
        | none => none
      | none => none
    | _ => none
  | _, _ => none
theorem rawOf_ok {v : Option V} {u x : Value} (h : rawOf v = some u) (hx : ∀ y, v = some y → VR E y x) : x = u := by
  cases v with
  | none => cases h
  | some y => exact V.raw_spec y u x h (hx y rfl)
theorem putM_ok {t : TypeId} {m k x : Option V} {v : V} {st' : St} (hw : WR G B E st w) (h : putM P st t m k x = some (v, st')) {mm kk xx : Value} (hm : ∀ y, m = some y → VR E y mm) (hk : ∀ y, k = some y → VR E y kk) (hx : ∀ y, x = some y → VR E y xx) : v = .raw undef ∧ ∃ w', (Instr.mapUpdate t mm kk xx).run P w = .ok () w' ∧ WR G B E st' w' ∧ Keep B w w' := by
  unfold putM at h
  split at h
  · rename_i kt et b hu
    split at h
    · rename_i es clock hb
      split at h
      · rename_i key val hkey hval
        split at h
        · rename_i o ho
          split at h
          · rename_i st1 hp
            injection h with h; injection h with h1 h2
            subst h1 h2
            have hm := hm _ rfl
            have hheap := (hw.live b _ hb).2.1
            have e1 := rawOf_ok hkey hk
            have e2 := rawOf_ok hval hx
            subst e1 e2
            have hbase := hw.base b _ hb
            refine ⟨rfl, w.putObj (E.ρ b) o, by rw [hm.2]; exact updM_ok hu ho hheap, ?_, ?_⟩
            · refine hw.write hb hp ?_ (fun k hk _ => World.putObj_heap_other hk) ⟨World.putObj_heap_same (Array.getElem?_eq_some_iff.1 hheap).1, updM_obj ho⟩
              exact below_putM hbase o
            · exact below_putM hbase o
          · cases h
        · cases h
      · cases h
    · cases h
  · cases h
theorem getM_ok {t : TypeId} {m k : Option V} {ok : Bool} {v : V} {st' : St} (hw : WR G B E st w) (h : getM P st t m k ok = some (v, st')) {mm kk : Value} (hm : ∀ y, m = some y → VR E y mm) (hk : ∀ y, k = some y → VR E y kk) : st' = st ∧ ∃ u, v = .raw u ∧ (Instr.lookup t mm kk ok).run P w = .ok u w := by
  unfold getM at h
  split at h
  · rename_i kt et b hu
    split at h
    · rename_i es clock hb
      split at h
      · rename_i key hkey
        split at h
        · rename_i u hl
          injection h with h; injection h with h1 h2
          subst h1 h2
          have hm := hm _ rfl
          have hheap := (hw.live b _ hb).2.1
          have e1 := rawOf_ok hkey hk
          subst e1
          exact ⟨rfl, u, rfl, by rw [hm.2]; exact lookM_ok hu hl hheap⟩
        · cases h
      · cases h
    · cases h
  · cases h
def opE (P : Program) (st : St) (fr : Fr) (o : Oper) : Option (V × St) := match o.op with
  | .alloc e => match P.info? e with
    | some i => match i.zero with
      | some z => boxL st e (z.cells.toList.map V.raw)
      | none => none
    | none => none
  | .box e x => match opd fr x with
    | some v => boxL st e v.cells
    | none => none
  | .buildSlice t n ps => match partsV fr ps.toList with
    | some l => sliceLit P st t n l
    | none => none
  | .store t x y => match P.info? t, opd fr x, opd fr y with
    | some i, some (.ptr b off), some v => match Nat.beq v.cells.length i.size with
      | true => match storeL st b off v.cells with
        | some st' => some (.raw undef, st')
        | none => none
      | false => none
    | _, _, _ => none
  | .makeSlice t x y => match opd fr x, opd fr y with
    | some n, some c => makeL P st t n c
    | _, _ => none
  | .makeMap t none => match newB st (.obj (.map #[] 0)) with
    | some (b, st') => some (.mp b, st')
    | none => none
  | .insert t m k x => putM P st t (opd fr m) (opd fr k) (opd fr x)
  | .mapUpdate t m k x => putM P st t (opd fr m) (opd fr k) (opd fr x)
  | .lookup t m k ok => getM P st t (opd fr m) (opd fr k) ok
  | .call { callee := .builtin .append, args := args, argTypes := ts } => match args.toList, ts.toList with
    | [x, y], [t, t'] => match opd fr x, opd fr y with
      | some s, some v => appA P st t t' s v
      | _, _ => none
    | _, _ => none
  | .call { callee := .builtin .copy, args := args, argTypes := ts } => match args.toList, ts.toList with
    | [x, y], t :: _ => match opd fr x, opd fr y with
      | some s, some v => copyL P st t s v
      | _, _ => none
    | _, _ => none
  | _ => none
theorem toList3 {α : Type} {l : Array α} {r : List α} (h : l.toList = r) : l = r.toArray := by apply Array.ext'; simpa using h
theorem exec_append (ρ : Operand → Value) (x y : Operand) (t t' type : TypeId) (dst : Option Tmp) (pos : String) (after : Array Edge) (guard : Option (Nat × Bool)) :
    execOp ρ { dst := dst, op := .call { callee := .builtin .append, args := [x, y].toArray, argTypes := [t, t'].toArray }, type := type, pos := pos, after := after, guard := guard } = Builtin.append_ #[t, t'] type #[ρ x, ρ y] >>= fun v => pure (.value v) := by
  simp [execOp, resolve, invoke, builtin]
theorem exec_copy (ρ : Operand → Value) (x y : Operand) (ts : Array TypeId) (type : TypeId) (dst : Option Tmp) (pos : String) (after : Array Edge) (guard : Option (Nat × Bool)) :
    execOp ρ { dst := dst, op := .call { callee := .builtin .copy, args := [x, y].toArray, argTypes := ts }, type := type, pos := pos, after := after, guard := guard } = Builtin.copy_ ts type #[ρ x, ρ y] >>= fun v => pure (.value v) := by
  simp [execOp, resolve, invoke, builtin]
set_option maxHeartbeats 1600000 in
theorem opE_ok {fr : Fr} {a : Act} {o : Oper} {v : V} {st' : St} (hw : WR G B E st w) (h : opE P st fr o = some (v, st')) (hs : Sees E fr a o.op.operands.toList) : Does G B P E a w o v st' := by
  unfold opE at h
  obtain ⟨dst, op, type, pos, after, guard⟩ := o
  cases op with
  | alloc e =>
    simp only at h
    split at h
    · rename_i i hi
      split at h
      · rename_i z hz
        have := boxL_ok (P := P) (v := z) (x := z) hw h (VRs.raws _)
        refine Does.of (s := Instr.alloc e true (.tuple #[])) rfl ?_
        obtain ⟨E', x, w', h1, h2⟩ := this.ex
        exact ⟨E', x, w', by simpa [Instr.alloc, zeroValue, run_typeInfo hi, hz] using h1, h2⟩
      · cases h
    · cases h
  | box e x =>
    simp only at h
    split at h
    · rename_i u hu
      have hu := hs x (by simp [Op.operands]) _ hu
      exact Does.of (s := Instr.box e (a.eval x)) rfl (boxL_ok (v := a.eval x) hw h hu.cells)
    · cases h
  | buildSlice t n ps =>
    simp only at h
    split at h
    · rename_i l hl
      have hp := partsV_ok hl (fun y hy => hs y (by simpa [Op.operands] using hy))
      exact Does.of (s := Instr.buildSlice t n (ps.map fun (i, x) => (i, a.eval x))) rfl (sliceLit_ok hw h (by simpa using hp))
    · cases h
  | store t x y =>
    simp only at h
    split at h
    · rename_i i b off u hi hx hy
      have hx := hs x (by simp [Op.operands]) _ hx
      have hy := hs y (by simp [Op.operands]) _ hy
      split at h
      · rename_i hlen
        have hlen := Nat.eq_of_beq_eq_true hlen
        split at h
        · rename_i st1 hst
          injection h with h; injection h with h1 h2
          subst h1 h2
          obtain ⟨w', r1, r2, r3⟩ := storeL_ok (P := P) hw hst hy.cells
          refine ⟨E, undef, w', .inr ⟨rfl, ?_⟩, Env.le.refl E, r2, rfl, r3⟩
          have hl2 : (a.eval y).cells.size = i.size := by
            have := hy.cells.len
            simp at this
            omega
          show (Instr.storeAt t (a.eval x) (a.eval y) >>= fun _ => pure Next.skip).run P w = _
          simp [Instr.storeAt, hx.2, Instr.sureAddr, storeVar, run_sizeOf hi, hl2, r1]
        · cases h
      · cases h
    · cases h
  | makeMap t r =>
    cases r with
    | some _ => simp at h
    | none =>
      simp only at h
      split at h
      · rename_i b st1 hb
        injection h with h; injection h with h1 h2
        subst h1 h2
        have hid : b = st.n := by
          rw [newB_eq] at hb
          split at hb
          · injection hb with hb; injection hb with h1 h2; exact h1.symm
          · cases hb
        have hρ : (E.new w.heap.size 0).ρ b = w.heap.size := by simp [Env.new, hid, hw.n]
        obtain ⟨h1, h2, h3, h4⟩ := hw.alloc hb (.map #[] 0) 0 ⟨by rw [hρ]; exact World.alloc_heap_new w _, rfl⟩
        refine ⟨_, .map (some w.heap.size), _, .inl ?_, h2, h3, ⟨by rw [h1]; exact Nat.lt_succ_self _, by rw [hρ]⟩, h4⟩
        show (Instr.makeMap t none >>= fun x => pure (Next.value x)).run P w = _
        rw [Sem.run_bind]
        rfl
      · cases h
  | insert t m k x =>
    simp only at h
    obtain ⟨rfl, w', h1, h2, h3⟩ := putM_ok hw h (fun y hy => hs m (by simp [Op.operands]) y hy) (fun y hy => hs k (by simp [Op.operands]) y hy) (fun y hy => hs x (by simp [Op.operands]) y hy)
    refine ⟨E, undef, w', .inr ⟨rfl, ?_⟩, Env.le.refl E, h2, rfl, h3⟩
    show (Instr.mapUpdate t (a.eval m) (a.eval k) (a.eval x) >>= fun _ => pure Next.skip).run P w = _
    rw [Sem.run_bind, h1]
    rfl
  | mapUpdate t m k x =>
    simp only at h
    obtain ⟨rfl, w', h1, h2, h3⟩ := putM_ok hw h (fun y hy => hs m (by simp [Op.operands]) y hy) (fun y hy => hs k (by simp [Op.operands]) y hy) (fun y hy => hs x (by simp [Op.operands]) y hy)
    refine ⟨E, undef, w', .inr ⟨rfl, ?_⟩, Env.le.refl E, h2, rfl, h3⟩
    show (Instr.mapUpdate t (a.eval m) (a.eval k) (a.eval x) >>= fun _ => pure Next.skip).run P w = _
    rw [Sem.run_bind, h1]
    rfl
  | lookup t m k ok =>
    simp only at h
    obtain ⟨rfl, u, rfl, h1⟩ := getM_ok hw h (fun y hy => hs m (by simp [Op.operands]) y hy) (fun y hy => hs k (by simp [Op.operands]) y hy)
    refine ⟨E, u, w, .inl ?_, Env.le.refl E, hw, rfl, Keep.refl B w⟩
    show (Instr.lookup t (a.eval m) (a.eval k) ok >>= fun x => pure (Next.value x)).run P w = _
    rw [Sem.run_bind, h1]
    rfl
  | makeSlice t x y =>
    simp only at h
    split at h
    · rename_i n c hn hc
      exact Does.of (s := Instr.makeSlice t (a.eval x) (a.eval y)) rfl (makeL_ok hw h (hs x (by simp [Op.operands]) _ hn) (hs y (by simp [Op.operands]) _ hc))
    · cases h
  | call c =>
    obtain ⟨callee, args, ts⟩ := c
    cases callee with
    | builtin b =>
      cases b <;> try (simp at h; done)
      case append =>
        simp only at h
        split at h
        · rename_i x y t t' hx ht
          have hx := toList3 hx
          have ht := toList3 ht
          subst hx ht
          split at h
          · rename_i s u hs' hu
            exact Does.of (s := Builtin.append_ #[t, t'] type #[a.eval x, a.eval y]) (exec_append _ _ _ _ _ _ _ _ _ _) (appA_ok hw h (hs x (by simp [Op.operands, Call.operands]) _ hs') (hs y (by simp [Op.operands, Call.operands]) _ hu))
          · cases h
        · cases h
      case copy =>
        simp only at h
        split at h
        · rename_i x y t r hx ht
          have hx := toList3 hx
          have ht := toList3 ht
          subst hx ht
          split at h
          · rename_i s u hs' hu
            exact Does.of (s := Builtin.copy_ (t :: r).toArray type #[a.eval x, a.eval y]) (exec_copy _ _ _ _ _ _ _ _ _) (copyL_ok hw h (by simp) (hs x (by simp [Op.operands, Call.operands]) _ hs') (hs y (by simp [Op.operands, Call.operands]) _ hu))
          · cases h
        · cases h
    | _ => simp at h
  | _ => simp at h
end
end Go.Proofs.YtbadfjogakhhbaaDoor.Re
