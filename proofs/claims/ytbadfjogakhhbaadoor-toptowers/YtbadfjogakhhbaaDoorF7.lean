/- The small machine: all operations but calls, in three kinds: no memory; reads; writes. -/
import Derived.Test.YtbadfjogakhhbaaDoorF6
namespace Go.Proofs.YtbadfjogakhhbaaDoor.Re
open Go Go.RowKit
set_option linter.unusedVariables false
set_option linter.unusedSimpArgs false
set_option linter.unusedSectionVars false
variable [Sig]
def V.asAgg : V → V
  | .raw (.agg us) => .agg (us.toList.map V.raw)
  | v => v
def opds (fr : Fr) : List Operand → Option (List V)
  | [] => some []
  | x :: r => match opd fr x, opds fr r with
    | some v, some l => some (v :: l)
    | _, _ => none
section
variable {P : Program} {G : Nat → Option Obj} {B : Nat → Prop} {E : Env} {st : St} {w : World}
theorem VR.asAgg {v : V} {x : Value} (h : VR E v x) : VR E v.asAgg x := by
  unfold V.asAgg
  split
  · exact ⟨_, h, VRs.raws _⟩
  · exact h
theorem opds_ok {fr : Fr} {a : Act} : ∀ {l : List Operand} {r : List V}, opds fr l = some r → Sees E fr a l → VRs E r (l.map a.eval)
  | [], r, h, hs => by simp only [opds] at h; injection h with h; subst h; rfl
  | x :: l, r, h, hs => by
    simp only [opds] at h
    split at h
    · rename_i v k hv hk
      injection h with h
      subst h
      exact ⟨_, _, rfl, hs x (by simp) v hv, opds_ok hk (fun y hy => hs y (by simp [hy]))⟩
    · cases h
def isPtr : TypeDesc → Bool
  | .pointer _ => true
  | _ => false
def isSl : TypeDesc → Bool
  | .slice _ => true
  | _ => false
def isFn : TypeDesc → Bool
  | .func .. => true
  | _ => false
/-- Something that is there, held against nil. -/
def eqNil (P : Program) (t : TypeId) : V → V → Bool
  | .ptr _ _, .raw (.pointer none) => match P.underlying t with
    | some d => isPtr d
    | none => false
  | .sl _ _ _ _, .raw (.slice none _ _) => match P.underlying t with
    | some d => isSl d
    | none => false
  | .gs _ _ _ _, .raw (.slice none _ _) => match P.underlying t with
    | some d => isSl d
    | none => false
  | .clo _ _ _, .raw .nilFunc => match P.underlying t with
    | some d => isFn d
    | none => false
  | _, _ => false
theorem binOp_eq {t : TypeId} {x y : Value} (hx : (∃ A, x = .pointer (some A) ∧ y = .pointer none) ∨ (∃ A n c m k, x = .slice (some A) n c ∧ y = .slice none m k) ∨ (∃ f p q, x = .func f p q ∧ y = .nilFunc)) :
    binOp .eql t x y = (do pure (.bool (← Op.equal t x y))) ∧ binOp .neq t x y = (do pure (.bool (!(← Op.equal t x y)))) ∧ ∀ op a b, eqGuard op t a b x y = pure () := by
  rcases hx with ⟨A, rfl, rfl⟩ | ⟨A, n, c, m, k, rfl, rfl⟩ | ⟨f, p, q, rfl, rfl⟩
  · exact ⟨rfl, rfl, fun op a b => by cases op <;> rfl⟩
  · exact ⟨rfl, rfl, fun op a b => by cases op <;> rfl⟩
  · exact ⟨rfl, rfl, fun op a b => by cases op <;> rfl⟩
theorem eq_ptr {t e : TypeId} (hu : P.underlying t = some (.pointer e)) (A : Addr) (d : Nat) : (Op.equalIn (d + 1) t (.pointer (some A)) (.pointer none)).run P w = .ok false w := by
  rw [Op.equalIn]
  simp only [Sem.run_bind, run_underlying hu, Result.andThen_ok]
  rfl
theorem eq_sl {t e : TypeId} (hu : P.underlying t = some (.slice e)) (A : Addr) (n c m k d : Nat) : (Op.equalIn (d + 1) t (.slice (some A) n c) (.slice none m k)).run P w = .ok false w := by
  rw [Op.equalIn]
  simp only [Sem.run_bind, run_underlying hu, Result.andThen_ok]
  rfl
theorem eq_fn {t : TypeId} {ps rs : Array TypeId} {vr : Bool} (hu : P.underlying t = some (.func ps rs vr)) (f : Fn) (p q : Array Value) (d : Nat) : (Op.equalIn (d + 1) t (.func f p q) .nilFunc).run P w = .ok false w := by
  rw [Op.equalIn]
  simp only [Sem.run_bind, run_underlying hu, Result.andThen_ok]
  rfl
theorem eqNil_ok {t : TypeId} {v u : V} {x y : Value} (h : eqNil P t v u = true) (hx : VR E v x) (hy : VR E u y) (w : World) :
    (Op.equal t x y).run P w = .ok false w ∧ binOp .eql t x y = (do pure (.bool (← Op.equal t x y))) ∧ binOp .neq t x y = (do pure (.bool (!(← Op.equal t x y)))) ∧ ∀ op a b, eqGuard op t a b x y = pure () := by
  unfold Op.equal Op.maxDepth
  unfold eqNil at h
  split at h
  · rename_i b off
    obtain ⟨_, rfl⟩ := hx
    have hy : y = .pointer none := hy
    subst hy
    split at h
    · rename_i d hu
      cases d <;> simp [isPtr] at h
      exact ⟨eq_ptr hu _ 9999, binOp_eq (.inl ⟨_, rfl, rfl⟩)⟩
    · cases h
  · rename_i b off len cap _ _
    obtain ⟨_, rfl⟩ := hx
    have hy : y = .slice none _ _ := hy
    subst hy
    split at h
    · rename_i d hu
      cases d <;> simp [isSl] at h
      exact ⟨eq_sl hu _ _ _ _ _ 9999, binOp_eq (.inr (.inl ⟨_, _, _, _, _, rfl, rfl⟩))⟩
    · cases h
  · rename_i b off len s _ _
    obtain ⟨_, cap, rfl, _⟩ := hx
    have hy : y = .slice none _ _ := hy
    subst hy
    split at h
    · rename_i d hu
      cases d <;> simp [isSl] at h
      exact ⟨eq_sl hu _ _ _ _ _ 9999, binOp_eq (.inr (.inl ⟨_, _, _, _, _, rfl, rfl⟩))⟩
    · cases h
  · rename_i f p q
    obtain ⟨us, vs, rfl, _⟩ := hx
    have hy : y = .nilFunc := hy
    subst hy
    split at h
    · rename_i d hu
      cases d <;> simp [isFn] at h
      exact ⟨eq_fn hu _ _ _ 9999, binOp_eq (.inr (.inr ⟨_, _, _, rfl, rfl⟩))⟩
    · cases h
  · cases h
def indexV (P : Program) (t : TypeId) : V → V → Option V
  | .agg l, .raw (.int _ i) => match P.underlying t with
    | some (.array n e) => match inB i n, P.info? e with
      | some k, some j => partV P e l (k * j.size)
      | _, _ => none
    | _ => none
  | _, _ => none
theorem indexV_ok {t : TypeId} {v u v' : V} {x y : Value} (h : indexV P t v u = some v') (hx : VR E v x) (hy : VR E u y) : ∃ x', VR E v' x' ∧ ∀ w, (Instr.index t x y).run P w = .ok x' w := by
  unfold indexV at h
  repeat' split at h
  all_goals first | (cases h; done) | skip
  rename_i l q i _ n e hu _ _ k j hk hj
  obtain ⟨us, rfl, h2⟩ := hx
  have hy : y = .int q i := hy
  subst hy
  obtain ⟨rfl, hlt⟩ := inB_ok hk
  obtain ⟨z, h3, h4⟩ := partV_ok h h2
  exact ⟨z, h3, fun w => by simp [Instr.index, asIntOf, run_underlying hu, hlt, run_sizeOf hj, h4]⟩
def lenV (P : Program) (t : TypeId) (v : V) : Option V := match P.underlying t with
  | some (.slice _) => match v with
    | .sl _ _ n _ => some (.raw (.int .i64 n))
    | .gs _ _ n _ => some (.raw (.int .i64 n))
    | .raw (.slice none n _) => some (.raw (.int .i64 n))
    | _ => none
  | _ => none
def capV (P : Program) (t : TypeId) (v : V) : Option V := match P.underlying t with
  | some (.slice _) => match v with
    | .sl _ _ _ n => some (.raw (.int .i64 n))
    | .raw (.slice none _ n) => some (.raw (.int .i64 n))
    | _ => none
  | _ => none
/-- Two small numbers. -/
def natI (m : Nat) : V := match m with
  | 0 => .raw (.int .i64 (.ofNat 0))
  | p + 1 => .raw (.int .i64 (.ofNat (Nat.succ p)))
def boolV (b : Bool) : V := match b with
  | true => .raw (.bool true)
  | false => .raw (.bool false)
theorem natI_eq (m : Nat) : natI m = .raw (.int .i64 (m : Int)) := by cases m <;> rfl
theorem boolV_eq (b : Bool) : boolV b = .raw (.bool b) := by cases b <;> rfl
def lim (m : Nat) : Option V := match Nat.ble m 1000000 with
  | true => some (natI m)
  | false => none
def fastB (op : BinOp) : V → V → Option V
  | .raw (.int .i64 (.ofNat a)), .raw (.int .i64 (.ofNat b)) => match op with
    | .add => lim (a + b)
    | .sub => match Nat.ble b a with
      | true => lim (a - b)
      | false => none
    | .mul => lim (a * b)
    | .lss => some (boolV (Nat.blt a b))
    | .leq => some (boolV (Nat.ble a b))
    | .gtr => some (boolV (Nat.blt b a))
    | .geq => some (boolV (Nat.ble b a))
    | .eql => some (boolV (Nat.beq a b))
    | .neq => some (boolV (!(Nat.beq a b)))
    | _ => none
  | _, _ => none
theorem lim_ok {m : Nat} {v : V} (h : lim m = some v) : v = .raw (.int .i64 (m : Int)) ∧ m ≤ 1000000 := by
  unfold lim at h
  split at h
  · rename_i hb
    injection h with h
    rw [← h, natI_eq]
    exact ⟨rfl, Nat.le_of_ble_eq_true hb⟩
  · cases h
theorem beq_nat (a b : Nat) : Nat.beq a b = decide (a = b) := by
  cases h : Nat.beq a b with
  | true => simp [Nat.eq_of_beq_eq_true h]
  | false => simp [Nat.ne_of_beq_eq_false h]
theorem ble_nat (a b : Nat) : Nat.ble a b = decide (a ≤ b) := by
  cases h : Nat.ble a b with
  | true => simp [Nat.le_of_ble_eq_true h]
  | false =>
    have : ¬ a ≤ b := fun hh => by rw [Nat.ble_eq_true_of_le hh] at h; cases h
    simp [this]
theorem blt_nat (a b : Nat) : Nat.blt a b = decide (a < b) := ble_nat (a + 1) b
theorem int_beq (a b : Nat) : ((a : Int) == (b : Int)) = decide (a = b) := by
  by_cases h : a = b
  · simp [h]
  · have : ¬ (a : Int) = b := by omega
    simp [h, this]
theorem fastB_ok {op : BinOp} {v u r : V} (h : fastB op v u = some r) {x y : Value} (hx : VR E v x) (hy : VR E u y) (t : TypeId) (p q : Operand) :
    ∃ z, r = .raw z ∧ ∀ w, (do eqGuard op t p q x y; binOp op t x y : Sem Value).run P w = .ok z w := by
  unfold fastB at h
  split at h
  · rename_i a b
    have hx : x = .int .i64 (a : Int) := hx
    have hy : y = .int .i64 (b : Int) := hy
    subst hx hy
    have hg : ∀ w, (eqGuard op t p q (.int .i64 (a : Int)) (.int .i64 (b : Int))).run P w = .ok () w := fun w => by cases op <;> rfl
    have cmp : ∀ (o : BinOp) (c : Bool), op = o → binOp o t (.int .i64 (a : Int)) (.int .i64 (b : Int)) = pure (.bool c) → r = boolV c → ∃ z, r = .raw z ∧ ∀ w, (do eqGuard op t p q (.int .i64 (a : Int)) (.int .i64 (b : Int)); binOp op t (.int .i64 (a : Int)) (.int .i64 (b : Int)) : Sem Value).run P w = .ok z w := by
      intro o c ho hb hr
      subst ho
      rw [boolV_eq] at hr
      subst hr
      exact ⟨_, rfl, fun w => by rw [Sem.run_bind, hg]; simp only [Result.andThen_ok, hb]; rfl⟩
    have ari : ∀ (o : BinOp) (m : Nat), op = o → binOp o t (.int .i64 (a : Int)) (.int .i64 (b : Int)) = pure (.int .i64 (IntKind.i64.wrap (m : Int))) → lim m = some r → ∃ z, r = .raw z ∧ ∀ w, (do eqGuard op t p q (.int .i64 (a : Int)) (.int .i64 (b : Int)); binOp op t (.int .i64 (a : Int)) (.int .i64 (b : Int)) : Sem Value).run P w = .ok z w := by
      intro o m ho hb hr
      subst ho
      obtain ⟨h1, h2⟩ := lim_ok hr
      subst h1
      exact ⟨_, rfl, fun w => by rw [Sem.run_bind, hg]; simp only [Result.andThen_ok, hb, wrap_small h2]; rfl⟩
    cases op with
    | add => exact ari .add _ rfl (by simp [binOp, Op.intArith]) h
    | sub =>
      simp only at h
      split at h
      · rename_i hb
        have hb := Nat.le_of_ble_eq_true hb
        exact ari .sub _ rfl (by simp [binOp, Op.intArith, Int.ofNat_sub hb]) h
      · cases h
    | mul => exact ari .mul _ rfl (by simp [binOp, Op.intArith]) h
    | lss => exact cmp .lss (Nat.blt a b) rfl (by simp [binOp, Op.intCmp, beq_nat, ble_nat, blt_nat, bne]) (by injection h with h; exact h.symm)
    | leq => exact cmp .leq (Nat.ble a b) rfl (by simp [binOp, Op.intCmp, beq_nat, ble_nat, blt_nat, bne]) (by injection h with h; exact h.symm)
    | gtr => exact cmp .gtr (Nat.blt b a) rfl (by simp [binOp, Op.intCmp, beq_nat, ble_nat, blt_nat, bne]) (by injection h with h; exact h.symm)
    | geq => exact cmp .geq (Nat.ble b a) rfl (by simp [binOp, Op.intCmp, beq_nat, ble_nat, blt_nat, bne]) (by injection h with h; exact h.symm)
    | eql => exact cmp .eql (Nat.beq a b) rfl (by simp [binOp, Op.intCmp, beq_nat, int_beq]) (by injection h with h; exact h.symm)
    | neq => exact cmp .neq (!(Nat.beq a b)) rfl (by simp [binOp, Op.intCmp, beq_nat, bne, int_beq]) (by injection h with h; exact h.symm)
    | _ => simp at h
  · cases h
/-- Words of 64 bits. -/
def w64 (k : IntKind) : Option Nat := match k with
  | .u64 => some 18446744073709551616
  | .i64 => some 9223372036854775808
  | _ => none
def sameK (k k' : IntKind) : Bool := match k, k' with
  | .u64, .u64 => true
  | .i64, .i64 => true
  | _, _ => false
def fitN (k : IntKind) (m top : Nat) : Option V := match Nat.blt m top with
  | true => match m with
    | 0 => some (.raw (.int k (.ofNat 0)))
    | p + 1 => some (.raw (.int k (.ofNat (Nat.succ p))))
  | false => none
def fastC (op : BinOp) : V → V → Option V
  | .raw (.int k (.ofNat a)), .raw (.int k' (.ofNat b)) => match w64 k with
    | some top => match Nat.blt a top && Nat.blt b top with
      | true => match op with
        | .shr => match Nat.ble b 64 with
          | true => fitN k (a / 2 ^ b) top
          | false => none
        | .shl => match Nat.ble b 64 with
          | true => match k with
            | .u64 => fitN .u64 (a * 2 ^ b % 18446744073709551616) top
            | _ => fitN k (a * 2 ^ b) top
          | false => none
        | _ => match sameK k k' with
          | true => match op with
            | .and => fitN k (Nat.land a b) top
            | .or => fitN k (Nat.lor a b) top
            | .xor => fitN k (Nat.xor a b) top
            | .andNot => fitN k (Nat.xor a (Nat.land a b)) top
            | .lss => some (boolV (Nat.blt a b))
            | .leq => some (boolV (Nat.ble a b))
            | .gtr => some (boolV (Nat.blt b a))
            | .geq => some (boolV (Nat.ble b a))
            | .eql => some (boolV (Nat.beq a b))
            | .neq => some (boolV (!(Nat.beq a b)))
            | .add => match k with
              | .u64 => fitN .u64 ((a + b) % 18446744073709551616) top
              | _ => fitN k (a + b) top
            | .mul => match k with
              | .u64 => fitN .u64 (a * b % 18446744073709551616) top
              | _ => fitN k (a * b) top
            | .sub => match k with
              | .u64 => fitN .u64 ((a + (18446744073709551616 - b)) % 18446744073709551616) top
              | _ => none
            | _ => none
          | false => none
      | false => none
    | none => none
  | _, _ => none
theorem fitN_ok {k : IntKind} {m top : Nat} {v : V} (h : fitN k m top = some v) : v = .raw (.int k (m : Int)) ∧ m < top := by
  unfold fitN at h
  split at h
  · rename_i hb
    refine ⟨?_, Nat.le_of_ble_eq_true hb⟩
    split at h
    · injection h with h; rw [← h]; rfl
    · injection h with h; rw [← h]; rfl
  · cases h
theorem wrap_u64 {m : Nat} (h : m < 18446744073709551616) : IntKind.u64.wrap (m : Int) = m := by
  simp only [IntKind.wrap, IntKind.signed, IntKind.bits]
  simp
  omega
theorem wrap_i64 {m : Nat} (h : m < 9223372036854775808) : IntKind.i64.wrap (m : Int) = m := by
  rw [IntKind.wrap_i64]; omega
theorem wrap_u64m (m : Nat) : IntKind.u64.wrap (m : Int) = ((m % 18446744073709551616 : Nat) : Int) := by
  simp only [IntKind.wrap, IntKind.signed, IntKind.bits]
  simp
theorem top_of {k : IntKind} {top : Nat} (h : w64 k = some top) : k.bits = 64 ∧ top ≤ 18446744073709551616 ∧ ∀ m : Nat, m < top → k.wrap (m : Int) = m := by
  cases k <;> simp [w64] at h <;> subst h
  · exact ⟨rfl, by omega, fun m hm => wrap_i64 hm⟩
  · exact ⟨rfl, by omega, fun m hm => wrap_u64 hm⟩
theorem guard_int (op : BinOp) (t : TypeId) (p q : Operand) (k k' : IntKind) (a b : Int) (w : World) : (eqGuard op t p q (.int k a) (.int k' b)).run P w = .ok () w := by
  unfold eqGuard
  cases op <;> simp
theorem nat_of_int {k : IntKind} (hk : k.bits = 64) {a : Nat} (h : a < 18446744073709551616) : (BitVec.ofInt k.bits (a : Int)).toNat = a := by
  rw [BitVec.toNat_ofInt, hk]
  have : (a : Int) % (2 ^ 64 : Nat) = a := by omega
  rw [this]
  rfl
theorem andNot_nat {a b : Nat} (ha : a < 18446744073709551616) (hb : b < 18446744073709551616) : Nat.land a (18446744073709551616 - 1 - b) = Nat.xor a (Nat.land a b) := by
  show a &&& (18446744073709551616 - 1 - b) = a ^^^ (a &&& b)
  apply Nat.eq_of_testBit_eq
  intro i
  rw [show 18446744073709551616 - 1 - b = 2 ^ 64 - (b + 1) by omega, Nat.testBit_and, Nat.testBit_two_pow_sub_succ (by omega), Nat.testBit_xor, Nat.testBit_and]
  by_cases hi : i < 64
  · simp [hi]; cases a.testBit i <;> cases b.testBit i <;> rfl
  · have : a.testBit i = false := Nat.testBit_lt_two_pow (Nat.lt_of_lt_of_le ha (by have := Nat.pow_le_pow_right (n := 2) (by omega) (Nat.le_of_not_lt hi); omega))
    simp [this]
theorem sameK_ok {k k' : IntKind} (h : sameK k k' = true) : k = k' := by
  cases k <;> cases k' <;> simp [sameK] at h <;> rfl
theorem fastC_ok {op : BinOp} {v u r : V} (h : fastC op v u = some r) {x y : Value} (hx : VR E v x) (hy : VR E u y) (t : TypeId) (p q : Operand) :
    ∃ z, r = .raw z ∧ ∀ w, (do eqGuard op t p q x y; binOp op t x y : Sem Value).run P w = .ok z w := by
  unfold fastC at h
  split at h
  · rename_i k a k' b
    have hx : x = .int k (a : Int) := hx
    have hy : y = .int k' (b : Int) := hy
    subst hx hy
    suffices hh : ∃ z, r = .raw z ∧ ∀ w, (binOp op t (.int k (a : Int)) (.int k' (b : Int)) : Sem Value).run P w = .ok z w by
      obtain ⟨z, h1, h2⟩ := hh
      exact ⟨z, h1, fun w => by rw [Sem.run_bind, guard_int]; exact h2 w⟩
    split at h
    · rename_i top htop
      obtain ⟨hk, ht, hwr⟩ := top_of htop
      split at h
      · rename_i hab
        simp only [Bool.and_eq_true] at hab
        have ha : a < top := Nat.le_of_ble_eq_true hab.1
        have hb : b < top := Nat.le_of_ble_eq_true hab.2
        have na := nat_of_int hk (show a < 18446744073709551616 by omega)
        have nb := nat_of_int hk (show b < 18446744073709551616 by omega)
        split at h
        · -- shr
          split at h
          · rename_i hle
            have hle := Nat.le_of_ble_eq_true hle
            obtain ⟨rfl, hm⟩ := fitN_ok h
            refine ⟨_, rfl, fun w => ?_⟩
            have hmin : min b 64 = b := by omega
            have h0 : ¬ ((b : Int) < 0) := by omega
            simp [binOp, Op.shift, h0, hk, hmin]
            exact Int.fdiv_eq_ediv_of_nonneg _ (Int.le_of_lt (Int.pow_pos (by omega)))
          · cases h
        · -- shl
          split at h
          · rename_i hle
            have hle := Nat.le_of_ble_eq_true hle
            have hmin : min b 64 = b := by omega
            have h0 : ¬ ((b : Int) < 0) := by omega
            split at h
            · obtain ⟨rfl, hm⟩ := fitN_ok h
              refine ⟨_, rfl, fun w => ?_⟩
              have e := wrap_u64m (a * 2 ^ b)
              simp [binOp, Op.shift, h0, IntKind.bits, hmin] at e ⊢
              exact e
            · obtain ⟨rfl, hm⟩ := fitN_ok h
              refine ⟨_, rfl, fun w => ?_⟩
              have e := hwr _ hm
              simp [binOp, Op.shift, h0, hk, hmin] at e ⊢
              exact e
          · cases h
        · split at h
          · rename_i hsk
            have hsk := sameK_ok hsk
            subst hsk
            split at h
            · obtain ⟨rfl, hm⟩ := fitN_ok h
              exact ⟨_, rfl, fun w => by simp only [binOp, Op.intBits, BitVec.toNat_and, na, nb, ne_eq, not_true_eq_false, if_false]; rw [show (a &&& b) = Nat.land a b from rfl, hwr _ hm]; rfl⟩
            · obtain ⟨rfl, hm⟩ := fitN_ok h
              exact ⟨_, rfl, fun w => by simp only [binOp, Op.intBits, BitVec.toNat_or, na, nb, ne_eq, not_true_eq_false, if_false]; rw [show (a ||| b) = Nat.lor a b from rfl, hwr _ hm]; rfl⟩
            · obtain ⟨rfl, hm⟩ := fitN_ok h
              exact ⟨_, rfl, fun w => by simp only [binOp, Op.intBits, BitVec.toNat_xor, na, nb, ne_eq, not_true_eq_false, if_false]; rw [show (a ^^^ b) = Nat.xor a b from rfl, hwr _ hm]; rfl⟩
            · obtain ⟨rfl, hm⟩ := fitN_ok h
              refine ⟨_, rfl, fun w => ?_⟩
              have e := andNot_nat (show a < 18446744073709551616 by omega) (show b < 18446744073709551616 by omega)
              simp only [binOp, Op.intBits, BitVec.toNat_and, BitVec.toNat_not, na, nb, ne_eq, not_true_eq_false, if_false, hk]
              rw [show (a &&& (2 ^ 64 - 1 - b)) = Nat.land a (18446744073709551616 - 1 - b) from rfl, e, hwr _ hm]
              rfl
            · injection h with h; subst h
              exact ⟨.bool (Nat.blt a b), boolV_eq _, fun w => by simp [binOp, Op.intCmp, beq_nat, ble_nat, blt_nat, bne, int_beq]⟩
            · injection h with h; subst h
              exact ⟨.bool (Nat.ble a b), boolV_eq _, fun w => by simp [binOp, Op.intCmp, beq_nat, ble_nat, blt_nat, bne, int_beq]⟩
            · injection h with h; subst h
              exact ⟨.bool (Nat.blt b a), boolV_eq _, fun w => by simp [binOp, Op.intCmp, beq_nat, ble_nat, blt_nat, bne, int_beq]⟩
            · injection h with h; subst h
              exact ⟨.bool (Nat.ble b a), boolV_eq _, fun w => by simp [binOp, Op.intCmp, beq_nat, ble_nat, blt_nat, bne, int_beq]⟩
            · injection h with h; subst h
              exact ⟨.bool (Nat.beq a b), boolV_eq _, fun w => by simp [binOp, Op.intCmp, beq_nat, ble_nat, blt_nat, bne, int_beq]⟩
            · injection h with h; subst h
              exact ⟨.bool (!(Nat.beq a b)), boolV_eq _, fun w => by simp [binOp, Op.intCmp, beq_nat, ble_nat, blt_nat, bne, int_beq]⟩
            · split at h
              · obtain ⟨rfl, hm⟩ := fitN_ok h
                refine ⟨_, rfl, fun w => ?_⟩
                have e := wrap_u64m (a + b)
                simp [binOp, Op.intArith] at e ⊢
                exact e
              · obtain ⟨rfl, hm⟩ := fitN_ok h
                refine ⟨_, rfl, fun w => ?_⟩
                have e := hwr _ hm
                simp [binOp, Op.intArith] at e ⊢
                exact e
            · split at h
              · obtain ⟨rfl, hm⟩ := fitN_ok h
                refine ⟨_, rfl, fun w => ?_⟩
                have e := wrap_u64m (a * b)
                simp [binOp, Op.intArith] at e ⊢
                exact e
              · obtain ⟨rfl, hm⟩ := fitN_ok h
                refine ⟨_, rfl, fun w => ?_⟩
                have e := hwr _ hm
                simp [binOp, Op.intArith] at e ⊢
                exact e
            · split at h
              · obtain ⟨rfl, hm⟩ := fitN_ok h
                refine ⟨_, rfl, fun w => ?_⟩
                have e : IntKind.u64.wrap ((a : Int) - (b : Int)) = (((a + (18446744073709551616 - b)) % 18446744073709551616 : Nat) : Int) := by
                  simp only [IntKind.wrap, IntKind.signed, IntKind.bits]
                  simp
                  omega
                simp [binOp, Op.intArith] at e ⊢
                exact e
              · cases h
            · cases h
          · cases h
      · cases h
    · cases h
  · cases h
def fastA (op : BinOp) (v u : V) : Option V := match fastB op v u with
  | some r => some r
  | none => fastC op v u
theorem fastA_ok {op : BinOp} {v u r : V} (h : fastA op v u = some r) {x y : Value} (hx : VR E v x) (hy : VR E u y) (t : TypeId) (p q : Operand) :
    ∃ z, r = .raw z ∧ ∀ w, (do eqGuard op t p q x y; binOp op t x y : Sem Value).run P w = .ok z w := by
  unfold fastA at h
  split at h
  · rename_i r' hr
    injection h with h
    subst h
    exact fastB_ok hr hx hy t p q
  · exact fastC_ok h hx hy t p q
def fastN (op : UnOp) : V → Option V
  | .raw (.int .u64 (.ofNat a)) => match op, Nat.ble a 18446744073709551616 with
    | .neg, true => fitN .u64 ((18446744073709551616 - a) % 18446744073709551616) 18446744073709551616
    | _, _ => none
  | .raw (.bool b) => match op with
    | .not => some (boolV (!b))
    | _ => none
  | _ => none
theorem fastN_ok {op : UnOp} {v r : V} (h : fastN op v = some r) {x : Value} (hx : VR E v x) : ∃ z, r = .raw z ∧ ∀ w, (Op.unary op x).run P w = .ok z w := by
  unfold fastN at h
  split at h
  · rename_i a
    have hx : x = .int .u64 (a : Int) := hx
    subst hx
    split at h
    · rename_i hb
      have hb := Nat.le_of_ble_eq_true hb
      obtain ⟨rfl, hm⟩ := fitN_ok h
      refine ⟨_, rfl, fun w => ?_⟩
      have e : IntKind.u64.wrap (0 - (a : Int)) = (((18446744073709551616 - a) % 18446744073709551616 : Nat) : Int) := by
        simp only [IntKind.wrap, IntKind.signed, IntKind.bits]
        simp
        omega
      simp [Op.unary, Op.intArith] at e ⊢
      exact e
    · cases h
  · rename_i b
    have hx : x = .bool b := hx
    subst hx
    split at h
    · injection h with h
      subst h
      exact ⟨_, boolV_eq _, fun w => rfl⟩
    · cases h
  · cases h
def fastV (P : Program) (src dst : TypeId) : V → Option V
  | .raw (.int k (.ofNat a)) => match P.underlying src, P.underlying dst with
    | some _, some (.int k') => match w64 k' with
      | some top => fitN k' a top
      | none => none
    | _, _ => none
  | _ => none
theorem fastV_ok {src dst : TypeId} {v r : V} (h : fastV P src dst v = some r) {x : Value} (hx : VR E v x) : ∃ z, r = .raw z ∧ ∀ w, (convert src dst x).run P w = .ok z w := by
  unfold fastV at h
  split at h
  · rename_i k a
    have hx : x = .int k (a : Int) := hx
    subst hx
    split at h
    · rename_i d k' hs hd
      split at h
      · rename_i top ht
        obtain ⟨_, _, hwr⟩ := top_of ht
        obtain ⟨rfl, hm⟩ := fitN_ok h
        refine ⟨_, rfl, fun w => ?_⟩
        have e := hwr a hm
        cases d <;> simp [convert, run_underlying hs, run_underlying hd, Conv.intToInt, e]
      · cases h
    · cases h
  · cases h
/-- Operations on unknown numbers. -/
theorem cI_ok {v : V} {a : Int} (h : cI Sig.σ v = some a) {x : Value} (hx : VR E v x) : x = .int .i64 a := by
  unfold cI at h
  split at h
  · injection h with h; subst h; exact hx
  · injection h with h; subst h; exact hx
  · cases h
theorem cV_ok {v : V} {z : Value} (h : cV Sig.σ v = some z) : VR E v z := by
  unfold cV at h
  split at h
  · injection h with h; subst h; rfl
  · injection h with h; subst h; rfl
  · cases h
theorem symB_ok {op : BinOp} {v u r : V} (h : Sig.tb (.bin op) v u = some r) {x y : Value} (hx : VR E v x) (hy : VR E u y) (t : TypeId) (p q : Operand) :
    ∃ z, VR E r z ∧ ∀ w, (do eqGuard op t p q x y; binOp op t x y : Sem Value).run P w = .ok z w := by
  obtain ⟨a, b, z, h1, h2, h3, h4⟩ := Sig.ok _ _ _ _ h
  have hx := cI_ok h1 hx
  have hy := cI_ok h2 hy
  subst hx hy
  refine ⟨z, cV_ok h4, fun w => ?_⟩
  rw [Sem.run_bind, guard_int]
  unfold binI at h3
  cases op <;> simp only at h3 <;> first | (cases h3; done) | (injection h3 with h3; subst h3; simp [binOp, Op.intArith, Op.intCmp, bne, beq_iff_eq]; done) | (injection h3 with h3; subst h3; simp [binOp, Op.intArith, Op.intCmp, bne]; rfl)
/-- Values that are known by name alone. -/
theorem dV_of {v : V} {x y : Value} (h : dV Sig.σ Sig.val v = some y) (hx : VR E v x) : x = y := by
  unfold dV at h
  split at h
  · injection h with h; subst h; exact hx
  · injection h with h; subst h; exact hx
  · injection h with h; subst h; exact hx.1
  · cases h
theorem dV_ok {v : V} {z : Value} (h : dV Sig.σ Sig.val v = some z) (h1 : ∀ j, v = .val j → oneS (Sig.val j)) : VR E v z := by
  unfold dV at h
  split at h
  · injection h with h; subst h; rfl
  · injection h with h; subst h; rfl
  · rename_i j
    injection h with h; subst h; exact ⟨rfl, h1 j rfl⟩
  · cases h
def isVal : V → Bool
  | .val _ => true
  | _ => false
def lenX (P : Program) (t : TypeId) (v : V) : Option V := match isVal v with
  | true => match P.underlying t with
    | some (.slice _) => Sig.mb 30 v v
    | _ => none
  | false => none
def idxX (P : Program) (t : TypeId) (v u : V) : Option V := match isVal v with
  | true => match P.underlying t with
    | some (.slice e) => match P.info? e with
      | some i => match Nat.beq i.size 1 with
        | true => Sig.mb 31 v u
        | false => none
      | none => none
    | _ => none
  | false => none
theorem lenX_ok {t : TypeId} {v r : V} {x : Value} (h : lenX P t v = some r) (hx : VR E v x) : ∃ z, VR E r z ∧ ∀ (ty : TypeId) w, (Builtin.len_ #[t] ty #[x]).run P w = .ok z w := by
  unfold lenX at h
  split at h
  · split at h
    · rename_i e hu
      obtain ⟨h1, x', y', z, h2, h3, h4, a, n, c, h5, h6⟩ := Sig.mok _ _ _ _ h
      have hx := dV_of h2 hx
      subst hx h5 h6
      exact ⟨_, dV_ok h4 h1, fun ty w => by simp [Builtin.len_, run_underlying hu, goInt]⟩
    · cases h
  · cases h
theorem idxX_ok {t : TypeId} {v u r : V} {x y : Value} (h : idxX P t v u = some r) (hx : VR E v x) (hy : VR E u y) : ∃ z, VR E r z ∧ ∀ w, (Instr.indexAt t x y).run P w = .ok z w := by
  unfold idxX at h
  split at h
  · split at h
    · rename_i e hu
      split at h
      · rename_i i hi
        split at h
        · rename_i h1s
          have h1s := Nat.eq_of_beq_eq_true h1s
          obtain ⟨h1, x', y', z, h2, h3, h4, A, n, c, k, h5, h6, h7, h8, h9⟩ := Sig.mok _ _ _ _ h
          have hx := dV_of h2 hx
          have hy := dV_of h3 hy
          subst hx hy h5 h6 h9
          refine ⟨_, dV_ok h4 h1, fun w => ?_⟩
          simp [Instr.indexAt, run_underlying hu, run_sizeOf hi, h1s, asIntOf, h7, h8]
        · cases h
      · cases h
    · cases h
  · cases h
def opP (P : Program) (fr : Fr) (o : Oper) : Option V := match o.op with
  | .move x => opd fr x
  | .assign x => opd fr x
  | .pick c a b => match opd fr c with
    | some (.raw (.bool true)) => opd fr a
    | some (.raw (.bool false)) => opd fr b
    | _ => none
  | .nilCheck x => match opd fr x with
    | some (.ptr b off) => some (.ptr b off)
    | some (.clo f p q) => some (.clo f p q)
    | some (.yld b) => some (.yld b)
    | some (.raw (.func (.func f) p q)) => some (.raw (.func (.func f) p q))
    | _ => none
  | .binOp op t x y _ => match opd fr x, opd fr y with
    | some v, some u => match fastA op v u with
      | some r => some r
      | none => match rawOp P fr o with
        | some v => some v
        | none => match eqNil P t v u, op with
          | true, .eql => some (.raw (.bool false))
          | true, .neq => some (.raw (.bool true))
          | _, _ => Sig.tb (.bin op) v u
    | _, _ => none
  | .build t ps => match partsV fr ps.toList with
    | some l => buildV P t l
    | none => none
  | .fieldAddr s x f => match opd fr x with
    | some v => fieldA P s f v
    | none => none
  | .field t x f => match opd fr x with
    | some v => fieldV P t f v.asAgg
    | none => none
  | .indexAddr t x i => match opd fr x, opd fr i with
    | some v, some u => match indexA P t v u with
      | some r => some r
      | none => match idxX P t v u with
        | some r => some r
        | none => rawOp P fr o
    | _, _ => none
  | .index t x i => match opd fr x, opd fr i with
    | some v, some u => indexV P t v.asAgg u
    | _, _ => none
  | .slice t x lo hi mx => match rawOp P fr o with
    | some v => some v
    | none => match opd fr x, optN fr lo, optN fr hi, optN fr mx with
      | some v, some l, some h, some m => sliceV P t l h m v
      | _, _, _, _ => none
  | .extract x i => match opd fr x with
    | some (.tup l) => l[i]?
    | some (.raw (.tuple us)) => match us.toList[i]? with
      | some u => some (.raw u)
      | none => none
    | _ => none
  | .makeFunc (.func f) first cap => match opds fr first.toList, opds fr cap.toList with
    | some a, some c => some (.clo f a c)
    | _, _ => none
  | .call { callee := .builtin .len, args := args, argTypes := ts } => match args.toList, ts.toList with
    | [x], [t] => match opd fr x with
      | some v => match lenV P t v with
        | some r => some r
        | none => match lenX P t v with
          | some r => some r
          | none => rawOp P fr o
      | none => none
    | _, _ => none
  | .call { callee := .builtin .cap, args := args, argTypes := ts } => match args.toList, ts.toList with
    | [x], [t] => match opd fr x with
      | some v => capV P t v
      | none => none
    | _, _ => none
  | .call { callee := .builtin .min, args := args, .. } => match rawOp P fr o with
    | some v => some v
    | none => match args.toList with
      | [x, y] => match opd fr x, opd fr y with
        | some v, some u => Sig.tb .min v u
        | _, _ => none
      | _ => none
  | .call { callee := .builtin .max, args := args, .. } => match rawOp P fr o with
    | some v => some v
    | none => match args.toList with
      | [x, y] => match opd fr x, opd fr y with
        | some v, some u => Sig.tb .max v u
        | _, _ => none
      | _ => none
  | .unOp op t x => match opd fr x with
    | some v => match fastN op v with
      | some r => some r
      | none => rawOp P fr o
    | none => none
  | .convert s d x => match opd fr x with
    | some v => match fastV P s d v with
      | some r => some r
      | none => rawOp P fr o
    | none => none
  | .makeInterface .. => rawOp P fr o
  | _ => none
theorem toList2 {α : Type} {l : Array α} {x : α} (h : l.toList = [x]) : l = #[x] := by apply Array.ext'; simpa using h
theorem toListXY {α : Type} {l : Array α} {x y : α} (h : l.toList = [x, y]) : l = #[x, y] := by apply Array.ext'; simpa using h
theorem opP_ok {fr : Fr} {a : Act} {o : Oper} {v : V} (h : opP P fr o = some v) (hs : Sees E fr a o.op.operands.toList) : Gives P E a o v := by
  have hraw : ∀ v, rawOp P fr o = some v → Gives P E a o v := fun v hv => rawOp_ok hv hs
  unfold opP at h
  obtain ⟨dst, op, type, pos, after, guard⟩ := o
  cases op with
  | move x => exact ⟨_, hs x (by simp [Op.operands]) v h, fun w => .inl rfl⟩
  | assign x => exact ⟨_, hs x (by simp [Op.operands]) v h, fun w => .inl rfl⟩
  | pick c x y =>
    simp only at h
    split at h
    · rename_i hc
      have hc := hs c (by simp [Op.operands]) _ hc
      have hc : a.eval c = .bool true := hc
      refine ⟨_, hs x (by simp [Op.operands]) v h, fun w => .inl ?_⟩
      simp [execOp, hc, asBool]
    · rename_i hc
      have hc := hs c (by simp [Op.operands]) _ hc
      have hc : a.eval c = .bool false := hc
      refine ⟨_, hs y (by simp [Op.operands]) v h, fun w => .inl ?_⟩
      simp [execOp, hc, asBool]
    · cases h
  | nilCheck x =>
    simp only at h
    split at h
    · rename_i b off hx
      injection h with h; subst h
      have hx := hs x (by simp [Op.operands]) _ hx
      exact ⟨_, hx, fun w => .inl (by simp [execOp, hx.2])⟩
    · rename_i f p q hx
      injection h with h; subst h
      have hx := hs x (by simp [Op.operands]) _ hx
      have hx' := hx
      obtain ⟨us, vs, e, _⟩ := hx
      exact ⟨_, hx', fun w => .inl (by simp [execOp, e])⟩
    · rename_i b hx
      injection h with h; subst h
      have hx := hs x (by simp [Op.operands]) _ hx
      exact ⟨_, hx, fun w => .inl (by simp [execOp, hx.2])⟩
    · rename_i f p q hx
      injection h with h; subst h
      have hx := hs x (by simp [Op.operands]) _ hx
      exact ⟨_, hx, fun w => .inl (by simp [execOp, show a.eval x = .func (.func f) p q from hx])⟩
    · cases h
  | binOp op t x y yt =>
    simp only at h
    split at h
    · rename_i p q hp hq
      have hx := hs x (by simp [Op.operands]) _ hp
      have hy := hs y (by simp [Op.operands]) _ hq
      split at h
      · rename_i r hr
        injection h with h; subst h
        obtain ⟨c, rfl, hc⟩ := fastA_ok (P := P) hr hx hy t x y
        exact Gives.of (s := (do eqGuard op t x y (a.eval x) (a.eval y); binOp op t (a.eval x) (a.eval y))) rfl ⟨c, rfl, hc⟩
      · split at h
        · rename_i u hu
          injection h with h; subst h
          exact hraw _ hu
        · split at h
          · rename_i he0 he
            injection h with h; subst h
            refine ⟨_, rfl, fun w => .inl ?_⟩
            have he := (by assumption : eqNil P t p q = true)
            obtain ⟨e1, e2, e3, e4⟩ := eqNil_ok he hx hy w
            simp [execOp, e2, e3, e4, e1]
          · rename_i he0 he
            injection h with h; subst h
            refine ⟨_, rfl, fun w => .inl ?_⟩
            have he := (by assumption : eqNil P t p q = true)
            obtain ⟨e1, e2, e3, e4⟩ := eqNil_ok he hx hy w
            simp [execOp, e2, e3, e4, e1]
          · obtain ⟨z, h1, h2⟩ := symB_ok (P := P) h hx hy t x y
            exact Gives.of (by rfl) ⟨z, h1, h2⟩
    · cases h
  | build t ps =>
    simp only at h
    split at h
    · rename_i l hl
      have hp := partsV_ok hl (fun y hy => hs y (by simpa [Op.operands] using hy))
      refine Gives.of rfl (buildV_ok h ?_)
      simpa using hp
    · cases h
  | fieldAddr s x f =>
    simp only at h
    split at h
    · rename_i u hu
      exact Gives.of rfl (fieldA_ok h (hs x (by simp [Op.operands]) _ hu))
    · cases h
  | field t x f =>
    simp only at h
    split at h
    · rename_i u hu
      exact Gives.of rfl (fieldV_ok h (hs x (by simp [Op.operands]) _ hu).asAgg)
    · cases h
  | indexAddr t x i =>
    simp only at h
    split at h
    · rename_i u k hu hk
      split at h
      · rename_i r hr
        injection h with h; subst h
        exact Gives.of rfl (indexA_ok hr (hs x (by simp [Op.operands]) _ hu) (hs i (by simp [Op.operands]) _ hk))
      · split at h
        · rename_i r hr
          injection h with h; subst h
          exact Gives.of rfl (idxX_ok hr (hs x (by simp [Op.operands]) _ hu) (hs i (by simp [Op.operands]) _ hk))
        · exact hraw _ h
    · cases h
  | index t x i =>
    simp only at h
    split at h
    · rename_i u k hu hk
      exact Gives.of rfl (indexV_ok h (hs x (by simp [Op.operands]) _ hu).asAgg (hs i (by simp [Op.operands]) _ hk))
    · cases h
  | slice t x lo hi mx =>
    simp only at h
    split at h
    · rename_i u hu
      injection h with h; subst h
      exact hraw _ hu
    · split at h
      · rename_i u l hh m hu hl hhh hm
        have mem : ∀ y, (y = x ∨ lo = some y ∨ hi = some y ∨ mx = some y) → y ∈ (Op.slice t x lo hi mx).operands.toList := fun y hy => by
          cases lo <;> cases hi <;> cases mx <;> simp [Op.operands] at hy ⊢ <;> grind
        exact Gives.of rfl (sliceV_ok h (hs x (mem x (.inl rfl)) _ hu) (optN_ok hs (fun y hy => mem y (.inr (.inl hy))) hl) (optN_ok hs (fun y hy => mem y (.inr (.inr (.inl hy)))) hhh) (optN_ok hs (fun y hy => mem y (.inr (.inr (.inr hy)))) hm))
      · cases h
  | extract x i =>
    simp only at h
    split at h
    · rename_i l hl
      obtain ⟨us, e, h2⟩ := hs x (by simp [Op.operands]) _ hl
      obtain ⟨u, h3, h4⟩ := h2.get h
      refine Gives.of rfl ⟨u, h4, fun w => ?_⟩
      rw [e]
      rw [Array.getElem?_toList] at h3
      simp [Instr.extract, h3]
    · rename_i us hl
      have e := hs x (by simp [Op.operands]) _ hl
      have e : a.eval x = .tuple us := e
      split at h
      · rename_i u hu
        injection h with h; subst h
        refine Gives.of rfl ⟨u, rfl, fun w => ?_⟩
        rw [e]
        rw [Array.getElem?_toList] at hu
        simp [Instr.extract, hu]
      · cases h
    · cases h
  | makeFunc fn first cap =>
    cases fn with
    | func f =>
      simp only at h
      split at h
      · rename_i p q hp hq
        injection h with h; subst h
        have h1 := opds_ok (a := a) hp (fun y hy => hs y (by simp [Op.operands] at hy ⊢; exact .inl hy))
        have h2 := opds_ok (a := a) hq (fun y hy => hs y (by simp [Op.operands] at hy ⊢; exact .inr hy))
        exact Gives.of rfl ⟨_, ⟨first.map a.eval, cap.map a.eval, rfl, by simpa using h1, by simpa using h2⟩, fun w => rfl⟩
      · cases h
    | _ => simp at h
  | call c =>
    obtain ⟨callee, args, ts⟩ := c
    cases callee with
    | builtin b =>
      cases b <;> try (simp at h; done)
      case len =>
        simp only at h
        split at h
        · rename_i x t hx ht
          have hx := toList2 hx
          have ht := toList2 ht
          subst hx ht
          split at h
          · rename_i u hu
            have hu := hs x (by simp [Op.operands, Call.operands]) _ hu
            split at h
            · rename_i r hr
              injection h with h; subst h
              unfold lenV at hr
              split at hr
              · rename_i e hut
                split at hr
                · injection hr with hr; subst hr
                  refine Gives.of (s := Builtin.len_ #[t] type #[a.eval x]) (by simp [execOp, resolve, invoke, builtin]) ⟨_, rfl, fun w => ?_⟩
                  rw [hu.2]
                  simp [Builtin.len_, run_underlying hut, goInt]
                · injection hr with hr; subst hr
                  obtain ⟨_, cap, e2, _⟩ := hu
                  refine Gives.of (s := Builtin.len_ #[t] type #[a.eval x]) (by simp [execOp, resolve, invoke, builtin]) ⟨_, rfl, fun w => ?_⟩
                  rw [e2]
                  simp [Builtin.len_, run_underlying hut, goInt]
                · injection hr with hr; subst hr
                  refine Gives.of (s := Builtin.len_ #[t] type #[a.eval x]) (by simp [execOp, resolve, invoke, builtin]) ⟨_, rfl, fun w => ?_⟩
                  rw [show a.eval x = .slice none _ _ from hu]
                  simp [Builtin.len_, run_underlying hut, goInt]
                · cases hr
              · cases hr
            · split at h
              · rename_i r hr
                injection h with h; subst h
                obtain ⟨z, h1, h2⟩ := lenX_ok hr hu
                exact Gives.of (s := Builtin.len_ #[t] type #[a.eval x]) (by simp [execOp, resolve, invoke, builtin]) ⟨z, h1, fun w => h2 type w⟩
              · exact hraw _ h
          · cases h
        · cases h
      case cap =>
        simp only at h
        split at h
        · rename_i x t hx ht
          have hx := toList2 hx
          have ht := toList2 ht
          subst hx ht
          split at h
          · rename_i u hu
            have hu := hs x (by simp [Op.operands, Call.operands]) _ hu
            unfold capV at h
            split at h
            · rename_i e hut
              split at h
              · injection h with h; subst h
                refine Gives.of (s := Builtin.cap_ #[t] type #[a.eval x]) (by simp [execOp, resolve, invoke, builtin]) ⟨_, rfl, fun w => ?_⟩
                rw [hu.2]
                simp [Builtin.cap_, run_underlying hut, goInt]
              · rename_i n _
                injection h with h; subst h
                refine Gives.of (s := Builtin.cap_ #[t] type #[a.eval x]) (by simp [execOp, resolve, invoke, builtin]) ⟨_, rfl, fun w => ?_⟩
                rw [show a.eval x = .slice none _ _ from hu]
                simp [Builtin.cap_, run_underlying hut, goInt]
              · cases h
            · cases h
          · cases h
        · cases h
      case min =>
        simp only at h
        split at h
        · rename_i u hu
          injection h with h; subst h
          exact hraw _ hu
        · split at h
          · rename_i x y hxy
            split at h
            · rename_i p q hp hq
              have hxy := toListXY hxy
              subst hxy
              obtain ⟨m, n, z, h1, h2, h3, h4⟩ := Sig.ok _ _ _ _ h
              have hx := cI_ok h1 (hs x (by simp [Op.operands, Call.operands]) _ hp)
              have hy := cI_ok h2 (hs y (by simp [Op.operands, Call.operands]) _ hq)
              simp only [binI] at h3
              injection h3 with h3
              subst h3
              exact Gives.of (s := Builtin.min_ ts type #[a.eval x, a.eval y]) (by simp [execOp, resolve, invoke, builtin]) ⟨_, cV_ok h4, fun w => by simp [Builtin.min_, Builtin.min2, hx, hy]⟩
            · cases h
          · cases h
      case max =>
        simp only at h
        split at h
        · rename_i u hu
          injection h with h; subst h
          exact hraw _ hu
        · split at h
          · rename_i x y hxy
            split at h
            · rename_i p q hp hq
              have hxy := toListXY hxy
              subst hxy
              obtain ⟨m, n, z, h1, h2, h3, h4⟩ := Sig.ok _ _ _ _ h
              have hx := cI_ok h1 (hs x (by simp [Op.operands, Call.operands]) _ hp)
              have hy := cI_ok h2 (hs y (by simp [Op.operands, Call.operands]) _ hq)
              simp only [binI] at h3
              injection h3 with h3
              subst h3
              exact Gives.of (s := Builtin.max_ ts type #[a.eval x, a.eval y]) (by simp [execOp, resolve, invoke, builtin]) ⟨_, cV_ok h4, fun w => by simp [Builtin.max_, Builtin.max2, hx, hy]⟩
            · cases h
          · cases h
    | _ => simp at h
  | unOp op t x =>
    simp only at h
    split at h
    · rename_i u hu
      split at h
      · rename_i r hr
        injection h with h; subst h
        obtain ⟨c, rfl, hc⟩ := fastN_ok (P := P) hr (hs x (by simp [Op.operands]) _ hu)
        exact Gives.of (s := Op.unary op (a.eval x)) rfl ⟨c, rfl, hc⟩
      · exact hraw _ h
    · cases h
  | convert s d x =>
    simp only at h
    split at h
    · rename_i u hu
      split at h
      · rename_i r hr
        injection h with h; subst h
        obtain ⟨c, rfl, hc⟩ := fastV_ok (P := P) hr (hs x (by simp [Op.operands]) _ hu)
        exact Gives.of (s := convert s d (a.eval x)) rfl ⟨c, rfl, hc⟩
      · exact hraw _ h
    · cases h
  | makeInterface _ _ => exact hraw _ h
  | _ => simp at h
def nOf (g : Bool) (i : TypeInfo) : Nat := match g with
  | true => i.size
  | false => 1
/-- A read. -/
def opL (P : Program) (G : Nat → Option Obj) (st : St) (fr : Fr) (o : Oper) : Option V := match o.op with
  | .load t x => match aggT P t, P.info? t with
    | some g, some i => match opd fr x with
      | some (.ptr b off) => match loadL st b off (nOf g i) with
        | some l => pack g l
        | none => none
      | some (.val j) => match g with
        | true => none
        | false => Sig.mb 32 (.val j) (.val j)
      | some (.raw (.pointer (some ⟨r, off, none⟩))) => match G r with
        | some (.cells c _ _) => match seg (c.toList.map V.raw) off (nOf g i) with
          | some l => pack g l
          | none => none
        | _ => none
      | _ => none
    | _, _ => none
  | _ => none
theorem loadVar_of {t : TypeId} {g : Bool} {i : TypeInfo} {A : Addr} {l : List V} {us : List Value} {v : V} (hg : aggT P t = some g) (hi : P.info? t = some i) (hl : VRs E l us) (hlen : us.length = (nOf g i))
    (hc : ∀ j u, us[j]? = some u → w.cell? (A.add j) = some u) (h : pack g l = some v) : ∃ x, VR E v x ∧ (loadVar t A).run P w = .ok x w := by
  cases g with
  | true =>
    simp only [pack] at h
    injection h with h; subst h
    have hlen : us.length = i.size := hlen
    refine ⟨.agg us.toArray, ⟨_, rfl, by simpa using hl⟩, ?_⟩
    have := run_loadCells_list (P := P) w A us hc
    rw [hlen] at this
    simp [loadVar, run_isAgg hg, run_sizeOf hi, this]
  | false =>
    simp only [pack] at h
    split at h
    · rename_i u
      injection h with h; subst h
      obtain ⟨y, r, e1, e2, e3⟩ := hl
      refine ⟨y, e2, ?_⟩
      have := hc 0 y (by rw [e1]; rfl)
      have h0 : A.add 0 = A := by simp [Addr.add]
      rw [h0] at this
      simp [loadVar, run_isAgg hg, this]
    · cases h
theorem opL_ok {fr : Fr} {a : Act} {o : Oper} {v : V} (hw : WR G B E st w) (h : opL P G st fr o = some v) (hs : Sees E fr a o.op.operands.toList) : ∃ x, VR E v x ∧ (execOp a.eval o).run P w = .ok (.value x) w := by
  unfold opL at h
  obtain ⟨dst, op, type, pos, after, guard⟩ := o
  cases op with
  | load t x =>
    simp only at h
    split at h
    · rename_i g i hg hi
      split at h
      · rename_i b off hx
        have hx := hs x (by simp [Op.operands]) _ hx
        split at h
        · rename_i l hl
          obtain ⟨us, q1, q2, _, q4⟩ := loadL_ok (P := P) hw hl
          obtain ⟨y, h1, h2⟩ := loadVar_of (P := P) (w := w) (A := ⟨E.ρ b, off, none⟩) hg hi q1 q2 (fun j u hj => by rw [add_plain]; exact q4 j u hj) h
          exact ⟨y, h1, by simp [execOp, Instr.loadAt, hx.2, Instr.sureAddr, h2]⟩
        · cases h
      · rename_i j hx
        have hx := hs x (by simp [Op.operands]) _ hx
        split at h
        · cases h
        · obtain ⟨h1, x', y', z, h2, h3, h4, b, off, c, ty, fz, h5, h6, h7⟩ := Sig.mok _ _ _ _ h
          have hx := dV_of h2 hx
          have hgl := (hw.glob b _ (.inr h6)).2
          refine ⟨z, dV_ok h4 h1, ?_⟩
          have hc : w.cell? (Addr.add ⟨b, off, none⟩ 0) = some z := by
            rw [add_plain]
            simp [World.cell?, hgl, h7]
          have h0 : Addr.add ⟨b, off, none⟩ 0 = ⟨b, off, none⟩ := by simp [Addr.add]
          rw [h0] at hc
          rw [h5] at hx
          simp [execOp, Instr.loadAt, hx, Instr.sureAddr, loadVar, run_isAgg hg, hc]
      · rename_i r off hx
        have hx : a.eval x = .pointer (some ⟨r, off, none⟩) := hs x (by simp [Op.operands]) _ hx
        split at h
        · rename_i c q fz hG
          split at h
          · rename_i l hl
            obtain ⟨h1, h2⟩ := seg_ok (E := E) hl (VRs.raws _)
            have hgl := (hw.glob r _ (.inl hG)).2
            obtain ⟨y, h3, h4⟩ := loadVar_of (P := P) (w := w) (A := ⟨r, off, none⟩) hg hi h1 (by simp; simp at h2; omega) (fun j u hj => by
              rw [add_plain]
              have hjn := (List.getElem?_eq_some_iff.1 hj).1
              have hj' : j < nOf g i := by
                have := hjn
                simp at this
                omega
              rw [List.getElem?_take, if_pos hj', List.getElem?_drop, Array.getElem?_toList] at hj
              simp [World.cell?, hgl, hj]) h
            exact ⟨y, h3, by simp [execOp, Instr.loadAt, hx, Instr.sureAddr, h4]⟩
          · cases h
        · cases h
      · cases h
    · cases h
  | _ => simp at h
end
end Go.Proofs.YtbadfjogakhhbaaDoor.Re
