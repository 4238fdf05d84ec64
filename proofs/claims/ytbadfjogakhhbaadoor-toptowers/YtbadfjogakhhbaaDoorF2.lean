/- The small machine: operations that touch no memory. -/
import Derived.Test.YtbadfjogakhhbaaDoorF1
namespace Go.Proofs.YtbadfjogakhhbaaDoor.Re
open Go Go.RowKit
set_option linter.unusedVariables false
set_option linter.unusedSimpArgs false
set_option linter.unusedSectionVars false
variable [Sig]
def ev0 {α : Type} (P : Program) : Sem α → Option α
  | .pure a => some a
  | .program k => ev0 P (k P)
  | .mark _ k => ev0 P k
  | _ => none
theorem ev0_run {α : Type} (P : Program) : ∀ (s : Sem α) (a : α), ev0 P s = some a → ∀ w, s.run P w = .ok a w := by
  intro s
  induction s with
  | pure b => intro a h w; simp only [ev0] at h; injection h with h; subst h; rfl
  | program k ih => intro a h w; exact ih P a h w
  | mark m k ih => intro a h w; exact ih a h w
  | _ => intro a h; simp [ev0] at h
def opd (fr : Fr) : Operand → Option V
  | .tmp t => fr.t.get t
  | .const v => some (.raw v)
  | .global g => some (.raw (.pointer (some ⟨g, 0, none⟩)))
  | .func f => some (.raw (.func (.func f) #[] #[]))
def Sees (E : Env) (fr : Fr) (a : Act) (l : List Operand) : Prop := ∀ x ∈ l, ∀ v, opd fr x = some v → VR E v (a.eval x)
theorem FR.sees {E : Env} {fr : Fr} {a : Act} (h : FR E fr a) (l : List Operand) : Sees E fr a l := by
  intro x _ v hv
  cases x with
  | tmp t =>
    obtain ⟨y, h1, h2⟩ := h.t t v hv
    simpa [Act.eval, Array.getD_eq_getD_getElem?, h1] using h2
  | const c => simp only [opd] at hv; injection hv with hv; subst hv; rfl
  | global g => simp only [opd] at hv; injection hv with hv; subst hv; rfl
  | func f => simp only [opd] at hv; injection hv with hv; subst hv; rfl
def rawO (fr : Fr) (x : Operand) : Option Value := match opd fr x with
  | some v => v.raw?
  | none => none
def rawRho (fr : Fr) (x : Operand) : Value := match rawO fr x with
  | some u => u
  | none => undef
def allRaw (fr : Fr) : List Operand → Bool
  | [] => true
  | x :: l => match rawO fr x with
    | some _ => allRaw fr l
    | none => false
theorem allRaw_spec {fr : Fr} : ∀ {l : List Operand}, allRaw fr l = true → ∀ x ∈ l, ∃ u, rawO fr x = some u
  | [], _, x, hx => by cases hx
  | y :: l, h, x, hx => by
    simp only [allRaw] at h
    split at h
    · rename_i u hu
      cases hx with
      | head => exact ⟨u, hu⟩
      | tail _ hx => exact allRaw_spec h x hx
    · cases h
theorem rawO_spec {E : Env} {fr : Fr} {a : Act} {l : List Operand} (h : Sees E fr a l) {x : Operand} (hx : x ∈ l) {u : Value} (hu : rawO fr x = some u) : a.eval x = u := by
  unfold rawO at hu
  split at hu
  · rename_i v hv
    exact V.raw_spec v u _ hu (h x hx v hv)
  · cases hu
/-- What an operation without memory gives. -/
def Gives (P : Program) (E : Env) (a : Act) (o : Oper) (v : V) : Prop := ∃ x, VR E v x ∧ ∀ w, (execOp a.eval o).run P w = .ok (.value x) w ∨ (x = undef ∧ (execOp a.eval o).run P w = .ok .skip w)
def noSel : Op → Bool
  | .select .. => false
  | _ => true
/-- A number, written out. -/
def nrmI : Int → Int
  | .ofNat m => match m with
    | 0 => .ofNat 0
    | p + 1 => .ofNat (Nat.succ p)
  | .negSucc m => match m with
    | 0 => .negSucc 0
    | p + 1 => .negSucc (Nat.succ p)
theorem nrmI_eq (n : Int) : nrmI n = n := by
  unfold nrmI
  split <;> split <;> rfl
def nrm : Value → Value
  | .int k n => match nrmI n with
    | .ofNat m => .int k (.ofNat m)
    | .negSucc m => .int k (.negSucc m)
  | .bool b => match b with
    | true => .bool true
    | false => .bool false
  | u => u
theorem nrm_eq (u : Value) : nrm u = u := by
  cases u with
  | int k n =>
    have h := nrmI_eq n
    simp only [nrm]
    cases hn : nrmI n <;> rw [hn] at h <;> subst h <;> rfl
  | bool b => cases b <;> rfl
  | _ => rfl
def rawOp (P : Program) (fr : Fr) (o : Oper) : Option V :=
  match allRaw fr o.op.operands.toList && noSel o.op with
  | true => match ev0 P (execOp (rawRho fr) o) with
    | some (.value u) => match nrm u with
      | .int k n => some (.raw (.int k n))
      | .bool b => some (.raw (.bool b))
      | u => some (.raw u)
    | some .skip => some (.raw undef)
    | _ => none
  | false => none
theorem rawOp_ok {P : Program} {E : Env} {fr : Fr} {a : Act} {o : Oper} {v : V} (h : rawOp P fr o = some v) (hs : Sees E fr a o.op.operands.toList) : Gives P E a o v := by
  unfold rawOp at h
  split at h
  · rename_i hb
    simp only [Bool.and_eq_true] at hb
    have hall := allRaw_spec hb.1
    have e : execOp a.eval o = execOp (rawRho fr) o := by
      refine execOp_congr o (fun cs b e => by rw [e] at hb; simp [noSel] at hb) (fun x hx => ?_)
      obtain ⟨u, hu⟩ := hall x (by simpa using hx)
      rw [rawO_spec hs (by simpa using hx) hu, rawRho, hu]
    split at h
    · rename_i u hu
      rw [nrm_eq] at h
      have h : some (V.raw u) = some v := by
        rw [← h]
        cases u <;> rfl
      injection h with h
      subst h
      exact ⟨u, rfl, fun w => .inl (by rw [e]; exact ev0_run P _ _ hu w)⟩
    · rename_i hu
      injection h with h
      subst h
      exact ⟨undef, rfl, fun w => .inr ⟨rfl, by rw [e]; exact ev0_run P _ _ hu w⟩⟩
    · cases h
  · cases h
theorem Gives.of {P : Program} {E : Env} {a : Act} {o : Oper} {v : V} {s : Sem Value} (ho : execOp a.eval o = s >>= fun x => pure (.value x)) (h : ∃ x, VR E v x ∧ ∀ w, s.run P w = .ok x w) : Gives P E a o v := by
  obtain ⟨x, h1, h2⟩ := h
  exact ⟨x, h1, fun w => .inl (by rw [ho, Sem.run_bind, h2 w]; rfl)⟩
section
variable {P : Program} {E : Env}
@[simp] theorem run_underlying {t : TypeId} {d : TypeDesc} (h : P.underlying t = some d) (w : World) : (underlying t).run P w = .ok d w := by simp [underlying, h]
@[simp] theorem run_typeInfo {t : TypeId} {d : TypeInfo} (h : P.info? t = some d) (w : World) : (typeInfo t).run P w = .ok d w := by simp [typeInfo, h]
theorem run_sizeOf {t : TypeId} {d : TypeInfo} (h : P.info? t = some d) (w : World) : (sizeOf t).run P w = .ok d.size w := by simp [sizeOf, run_typeInfo h]
def aggT (P : Program) (t : TypeId) : Option Bool := match P.underlying t with
  | some (.struct _) => some true
  | some (.array _ _) => some true
  | some _ => some false
  | none => none
theorem run_isAgg {t : TypeId} {b : Bool} (h : aggT P t = some b) (w : World) : (isAgg t).run P w = .ok b w := by
  unfold aggT at h
  split at h <;> rename_i hu
  · injection h with h; subst h; simp [isAgg, run_underlying hu]
  · injection h with h; subst h; simp [isAgg, run_underlying hu]
  · rename_i d h1 h2
    injection h with h
    subst h
    cases d <;> simp_all [isAgg, run_underlying hu]
  · cases h
/-- The address of a field. -/
def fieldA (P : Program) (s f : Nat) : V → Option V
  | .ptr b off => match P.underlying s with
    | some (.struct fs) => match fs[f]? with
      | some fd => match P.info? fd.type with
        | some i => match i.size with
          | 0 => none
          | _ + 1 => some (.ptr b (off + fd.offset))
        | none => none
      | none => none
    | _ => none
  | _ => none
theorem add_plain (b off n : Nat) : (⟨b, off, none⟩ : Addr).add n = ⟨b, off + n, none⟩ := by
  unfold Addr.add
  split
  · subst_vars; rfl
  · rfl
theorem fieldA_ok {s f : Nat} {v v' : V} {x : Value} (h : fieldA P s f v = some v') (hx : VR E v x) : ∃ x', VR E v' x' ∧ ∀ w, (Instr.fieldAt s x f).run P w = .ok x' w := by
  unfold fieldA at h
  repeat' split at h
  all_goals first | (cases h; done) | skip
  rename_i b off _ fs hu _ fd hf _ i hi _ k hk
  injection h with h
  subst h
  obtain ⟨h1, rfl⟩ := hx
  refine ⟨_, ⟨h1, rfl⟩, fun w => ?_⟩
  simp [Instr.fieldAt, run_underlying hu, hf, Instr.sureAddr, fieldPlace, run_sizeOf hi, hk, add_plain]
/-- Some cells as a value. -/
def pack (agg : Bool) (l : List V) : Option V := match agg with
  | true => some (.agg l)
  | false => match l with
    | [v] => some v
    | _ => none
def seg (l : List V) (off n : Nat) : Option (List V) := match Nat.ble (off + n) l.length with
  | true => some ((l.drop off).take n)
  | false => none
def partV (P : Program) (t : TypeId) (l : List V) (off : Nat) : Option V :=
  match aggT P t, P.info? t with
  | some g, some i => match seg l off (match g with | true => i.size | false => 1) with
    | some k => pack g k
    | none => none
  | _, _ => none
theorem seg_ok {l k : List V} {off n : Nat} {us : List Value} (h : seg l off n = some k) (hl : VRs E l us) : VRs E k ((us.drop off).take n) ∧ off + n ≤ us.length := by
  unfold seg at h
  split at h
  · rename_i hb
    injection h with h
    subst h
    exact ⟨(hl.drop off).take n, by rw [hl.len]; exact Nat.le_of_ble_eq_true hb⟩
  · cases h
theorem partV_ok {t : TypeId} {l : List V} {off : Nat} {v : V} {cs : Array Value} (h : partV P t l off = some v) (hl : VRs E l cs.toList) : ∃ x, VR E v x ∧ ∀ w, (part t cs off).run P w = .ok x w := by
  unfold partV at h
  split at h
  · rename_i g i hg hi
    split at h
    · rename_i k hk
      obtain ⟨h1, h2⟩ := seg_ok hk hl
      cases g with
      | true =>
        simp only [pack] at h
        injection h with h
        subst h
        refine ⟨.agg (cs.extract off (off + i.size)), ⟨_, rfl, ?_⟩, fun w => ?_⟩
        · simpa [List.extract_eq_take_drop] using h1
        · simp [part, run_isAgg hg, run_sizeOf hi]
      | false =>
        simp only [pack] at h
        split at h
        · rename_i u hu
          injection h with h
          subst h
          obtain ⟨y, r, e1, e2, e3⟩ := h1
          have hlt : off < cs.toList.length := by dsimp only at h2; omega
          rw [List.drop_eq_getElem_cons hlt] at e1
          simp at e1
          obtain ⟨e1, _⟩ := e1
          refine ⟨y, e2, fun w => ?_⟩
          have : cs[off]? = some y := by
            rw [Array.getElem?_eq_getElem (by simpa using hlt), e1]
          simp [part, run_isAgg hg, this]
        · cases h
    · cases h
  · cases h
def fieldV (P : Program) (t f : Nat) : V → Option V
  | .agg l => match P.underlying t with
    | some (.struct fs) => match fs[f]? with
      | some fd => partV P fd.type l fd.offset
      | none => none
    | _ => none
  | _ => none
theorem fieldV_ok {t f : Nat} {v v' : V} {x : Value} (h : fieldV P t f v = some v') (hx : VR E v x) : ∃ x', VR E v' x' ∧ ∀ w, (Instr.field t x f).run P w = .ok x' w := by
  unfold fieldV at h
  repeat' split at h
  all_goals first | (cases h; done) | skip
  rename_i l _ fs hu _ fd hf
  obtain ⟨us, rfl, h2⟩ := hx
  obtain ⟨y, h3, h4⟩ := partV_ok h h2
  exact ⟨y, h3, fun w => by simp [Instr.field, run_underlying hu, hf, asAgg, h4]⟩
/-- The address of an element. -/
def inB (i : Int) (n : Nat) : Option Nat := match i with
  | .ofNat k => match Nat.blt k n with
    | true => some k
    | false => none
  | _ => none
theorem inB_ok {i : Int} {n k : Nat} (h : inB i n = some k) : i = (k : Int) ∧ k < n := by
  unfold inB at h
  repeat' split at h
  all_goals first | (cases h; done) | skip
  rename_i j hj
  injection h with h
  subst h
  exact ⟨rfl, Nat.le_of_ble_eq_true hj⟩
def indexA (P : Program) (t : TypeId) : V → V → Option V
  | x, .raw (.int _ i) => match P.underlying t, x with
    | some (.array n e), .ptr b off => match P.info? e, inB i n with
      | some j, some k => some (.ptr b (off + k * j.size))
      | _, _ => none
    | some (.slice e), .sl b off len _ => match P.info? e, inB i len with
      | some j, some k => some (.ptr b (off + k * j.size))
      | _, _ => none
    | some (.slice e), .gs b off len _ => match P.info? e, inB i len with
      | some j, some k => some (.ptr b (off + k * j.size))
      | _, _ => none
    | _, _ => none
  | _, _ => none
theorem indexA_ok {t : TypeId} {v u v' : V} {x y : Value} (h : indexA P t v u = some v') (hx : VR E v x) (hy : VR E u y) : ∃ x', VR E v' x' ∧ ∀ w, (Instr.indexAt t x y).run P w = .ok x' w := by
  unfold indexA at h
  repeat' split at h
  all_goals first | (cases h; done) | skip
  · rename_i q i _ _ n e b off hu _ _ j k hj hk
    injection h with h
    subst h
    obtain ⟨h1, rfl⟩ := hx
    have hy : y = .int q i := hy
    subst hy
    obtain ⟨rfl, hlt⟩ := inB_ok hk
    refine ⟨_, ⟨h1, rfl⟩, fun w => ?_⟩
    simp [Instr.indexAt, asIntOf, run_underlying hu, Instr.sureAddr, run_sizeOf hj, add_plain, hlt]
  · rename_i q i _ _ e b off len cap hu _ _ j k hj hk
    injection h with h
    subst h
    obtain ⟨h1, rfl⟩ := hx
    have hy : y = .int q i := hy
    subst hy
    obtain ⟨rfl, hlt⟩ := inB_ok hk
    refine ⟨_, ⟨h1, rfl⟩, fun w => ?_⟩
    simp [Instr.indexAt, asIntOf, run_underlying hu, Instr.sureAddr, run_sizeOf hj, add_plain, hlt]
  · rename_i q i _ _ e b off len s hu _ _ j k hj hk
    injection h with h
    subst h
    obtain ⟨h1, cap, rfl, _⟩ := hx
    have hy : y = .int q i := hy
    subst hy
    obtain ⟨rfl, hlt⟩ := inB_ok hk
    refine ⟨_, ⟨h1, rfl⟩, fun w => ?_⟩
    simp [Instr.indexAt, asIntOf, run_underlying hu, Instr.sureAddr, run_sizeOf hj, add_plain, hlt]
end
end Go.Proofs.YtbadfjogakhhbaaDoor.Re
