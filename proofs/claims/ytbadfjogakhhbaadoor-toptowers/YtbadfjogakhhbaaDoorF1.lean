/- A small machine for runs whose arguments are known: what it holds, and how that is told of the model's memory. -/
import Derived.RangeFuncLeaves
import Derived.OrdersIn
import Derived.Below
import Derived.RangeFuncRecord
import Derived.WalkKit
namespace Go.Proofs.YtbadfjogakhhbaaDoor.Re
open Go Go.RowKit
set_option linter.unusedVariables false
set_option linter.unusedSimpArgs false
/-- A table by number. -/
inductive T (α : Type) where
  | leaf
  | node (v : Option α) (l r : T α)
namespace T
def root {α : Type} : T α → Option α | leaf => none | node v _ _ => v
def left {α : Type} : T α → T α | leaf => leaf | node _ l _ => l
def right {α : Type} : T α → T α | leaf => leaf | node _ _ r => r
def get {α : Type} : T α → Nat → Option α
  | leaf, _ => none
  | node v l r, n => match n with
    | 0 => v
    | m + 1 => match m % 2 with
      | 0 => get l (m / 2)
      | _ => get r (m / 2)
def set {α : Type} : Nat → T α → Nat → Option α → Option (T α)
  | 0, _, _, _ => none
  | f + 1, leaf, n, x => match n with
    | 0 => some (node x leaf leaf)
    | m + 1 => match m % 2 with
      | 0 => match set f leaf (m / 2) x with
        | some l => some (node none l leaf)
        | none => none
      | _ => match set f leaf (m / 2) x with
        | some r => some (node none leaf r)
        | none => none
  | f + 1, node v l r, n, x => match n with
    | 0 => some (node x l r)
    | m + 1 => match m % 2 with
      | 0 => match set f l (m / 2) x with
        | some l => some (node v l r)
        | none => none
      | _ => match set f r (m / 2) x with
        | some r => some (node v l r)
        | none => none
theorem set_eq {α : Type} (f : Nat) (t : T α) (n : Nat) (x : Option α) : set (f + 1) t n x = match n with
    | 0 => some (node x (left t) (right t))
    | m + 1 => match m % 2 with
      | 0 => match set f (left t) (m / 2) x with
        | some l => some (node (root t) l (right t))
        | none => none
      | _ => match set f (right t) (m / 2) x with
        | some r => some (node (root t) (left t) r)
        | none => none := by
  cases t <;> rfl
theorem left_node {α : Type} (v : Option α) (l r : T α) : left (node v l r) = l := rfl
theorem right_node {α : Type} (v : Option α) (l r : T α) : right (node v l r) = r := rfl
theorem get_zero {α : Type} (t : T α) : get t 0 = root t := by cases t <;> rfl
theorem get_succ {α : Type} (t : T α) (m : Nat) : get t (m + 1) = match m % 2 with | 0 => get (left t) (m / 2) | _ => get (right t) (m / 2) := by
  cases t with
  | leaf => simp only [get, left, right]; split <;> rfl
  | node v l r => rfl
theorem get_set {α : Type} : ∀ (f : Nat) (t t' : T α) (n : Nat) (x : Option α), set f t n x = some t' → ∀ m, get t' m = if m = n then x else get t m
  | 0, _, _, _, _, h => by simp [set] at h
  | f + 1, t, t', n, x, h => by
    intro m
    rw [set_eq] at h
    cases n with
    | zero =>
      simp only at h
      injection h with h
      subst h
      cases m with
      | zero => simp [get]
      | succ m => rw [get_succ, get_succ, if_neg (by omega)]; rfl
    | succ n =>
      simp only at h
      split at h
      · rename_i h0
        split at h
        · rename_i l hl
          injection h with h
          subst h
          have ih := get_set f _ _ _ _ hl
          cases m with
          | zero => rw [if_neg (by omega), get_zero, get_zero]; rfl
          | succ m =>
            rw [get_succ, get_succ]
            simp only [left_node, right_node]
            split
            · rename_i h1
              rw [ih]
              by_cases e : m = n
              · subst e; rw [if_pos rfl, if_pos rfl]
              · rw [if_neg (by omega), if_neg (by omega)]
            · rename_i h1
              have : ¬ m + 1 = n + 1 := fun e => by
                have : m = n := by omega
                subst this
                exact h1 h0
              rw [if_neg this]
        · cases h
      · rename_i h0
        split at h
        · rename_i l hl
          injection h with h
          subst h
          have ih := get_set f _ _ _ _ hl
          cases m with
          | zero => rw [if_neg (by omega), get_zero, get_zero]; rfl
          | succ m =>
            rw [get_succ, get_succ]
            simp only [left_node, right_node]
            split
            · rename_i h1
              have : ¬ m + 1 = n + 1 := fun e => by
                have : m = n := by omega
                subst this
                exact h0 h1
              rw [if_neg this]
            · rename_i h1
              have p1 : m % 2 ≠ 0 := fun e => h1 e
              have p2 : n % 2 ≠ 0 := fun e => h0 e
              rw [ih]
              by_cases e : m = n
              · subst e; rw [if_pos rfl, if_pos rfl]
              · rw [if_neg (by omega), if_neg (by omega)]
        · cases h
end T
/-- A value: blocks are told by numbers of one's own. -/
inductive V where
  | raw (u : Value)
  | ptr (b off : Nat)
  | sl (b off len cap : Nat)
  | gs (b off len s : Nat)
  | agg (l : List V)
  | tup (l : List V)
  | clo (f : FuncId) (first cap : List V)
  | yld (b : Nat)
  | sym (i : Nat)
  | mp (b : Nat)
  | any
  | val (j : Nat)
mutual
def V.raw? : V → Option Value
  | .raw u => some u
  | .agg l => match rawL l with | some us => some (.agg us.toArray) | none => none
  | .tup l => match rawL l with | some us => some (.tuple us.toArray) | none => none
  | .clo f a c => match rawL a, rawL c with | some us, some vs => some (.func (.func f) us.toArray vs.toArray) | _, _ => none
  | _ => none
def rawL : List V → Option (List Value)
  | [] => some []
  | v :: l => match v.raw?, rawL l with | some u, some us => some (u :: us) | _, _ => none
end
/-- What is known of unknown numbers: which operations on them. -/
inductive SK where
  | bin (op : BinOp)
  | min
  | max
def cI (σ : Nat → Int) : V → Option Int
  | .sym i => some (σ i)
  | .raw (.int .i64 n) => some n
  | _ => none
def cV (σ : Nat → Int) : V → Option Value
  | .sym i => some (.int .i64 (σ i))
  | .raw u => some u
  | _ => none
def binI (k : SK) (a b : Int) : Option Value := match k with
  | .bin op => match op with
    | .add => some (.int .i64 (IntKind.i64.wrap (a + b)))
    | .sub => some (.int .i64 (IntKind.i64.wrap (a - b)))
    | .mul => some (.int .i64 (IntKind.i64.wrap (a * b)))
    | .lss => some (.bool (decide (a < b)))
    | .leq => some (.bool (decide (a ≤ b)))
    | .gtr => some (.bool (decide (b < a)))
    | .geq => some (.bool (decide (b ≤ a)))
    | .eql => some (.bool (decide (a = b)))
    | .neq => some (.bool (!(decide (a = b))))
    | _ => none
  | .min => some (.int .i64 (if b < a then b else a))
  | .max => some (.int .i64 (if a < b then b else a))
def dV (σ : Nat → Int) (val : Nat → Value) : V → Option Value
  | .sym i => some (.int .i64 (σ i))
  | .raw u => some u
  | .val j => some (val j)
  | _ => none
/-- len, the address of an element of one cell, a read. -/
def memI (gf : Nat → Option Obj) (k : Nat) (x y z : Value) : Prop := match k with
  | 30 => ∃ a n c, x = .slice a n c ∧ z = .int .i64 (n : Int)
  | 31 => ∃ A n c i, x = .slice (some A) n c ∧ y = .int .i64 i ∧ 0 ≤ i ∧ i < n ∧ z = .pointer (some (A.add i.toNat))
  | 32 => ∃ b off c ty fz, x = .pointer (some ⟨b, off, none⟩) ∧ gf b = some (.cells c ty fz) ∧ c[off]? = some z
  | _ => False
def oneS (x : Value) : Prop := (∃ a n c, x = .slice a n c) ∨ ∃ A, x = .pointer A
def MOK (σ : Nat → Int) (val : Nat → Value) (gf : Nat → Option Obj) (k : Nat) (v u r : V) : Prop := (∀ j, r = .val j → oneS (val j)) ∧ ∃ x y z, dV σ val v = some x ∧ dV σ val u = some y ∧ dV σ val r = some z ∧ memI gf k x y z
/-- What is not known of numbers that are handed in. -/
class Sig where
  σ : Nat → Int
  /-- The type that is written at the table's block. -/
  gt : TypeId
  gw : TypeId
  /-- What operations on them come to. -/
  tb : SK → V → V → Option V
  ok : ∀ k v u r, tb k v u = some r → ∃ a b z, cI σ v = some a ∧ cI σ u = some b ∧ binI k a b = some z ∧ cV σ r = some z
  /-- Values that are known by name alone, and the memory in which they lie. -/
  val : Nat → Value
  gf : Nat → Option Obj
  mb : Nat → V → V → Option V
  mok : ∀ k v u r, mb k v u = some r → MOK σ val gf k v u r
set_option linter.unusedSectionVars false
variable [Sig]
/-- Where the blocks lie. -/
structure Env where
  n : Nat
  ρ : Nat → Nat
  sz : Nat → Nat
def Env.le (E E' : Env) : Prop := E.n ≤ E'.n ∧ ∀ b, b < E.n → E'.ρ b = E.ρ b ∧ E'.sz b = E.sz b
theorem Env.le.refl (E : Env) : E.le E := ⟨Nat.le_refl _, fun _ _ => ⟨rfl, rfl⟩⟩
theorem Env.le.trans {A B C : Env} (h : A.le B) (k : B.le C) : A.le C :=
  ⟨Nat.le_trans h.1 k.1, fun b hb => ⟨(k.2 b (Nat.lt_of_lt_of_le hb h.1)).1.trans (h.2 b hb).1, (k.2 b (Nat.lt_of_lt_of_le hb h.1)).2.trans (h.2 b hb).2⟩⟩
mutual
def VR (E : Env) : V → Value → Prop
  | .raw u, x => x = u
  | .ptr b off, x => b < E.n ∧ x = .pointer (some ⟨E.ρ b, off, none⟩)
  | .sl b off len cap, x => b < E.n ∧ x = .slice (some ⟨E.ρ b, off, none⟩) len cap
  | .gs b off len s, x => b < E.n ∧ ∃ cap, x = .slice (some ⟨E.ρ b, off, none⟩) len cap ∧ off + cap * s = E.sz b ∧ len ≤ cap
  | .agg l, x => ∃ us, x = .agg us ∧ VRs E l us.toList
  | .tup l, x => ∃ us, x = .tuple us ∧ VRs E l us.toList
  | .clo f a c, x => ∃ us vs, x = .func (.func f) us vs ∧ VRs E a us.toList ∧ VRs E c vs.toList
  | .yld b, x => b < E.n ∧ x = .func (.yield (E.ρ b)) #[] #[]
  | .sym i, x => x = .int .i64 (Sig.σ i)
  | .mp b, x => b < E.n ∧ x = .map (some (E.ρ b))
  | .any, x => ∃ a c, x = .slice (some a) 0 c
  | .val j, x => x = Sig.val j ∧ oneS x
def VRs (E : Env) : List V → List Value → Prop
  | [], us => us = []
  | v :: l, us => ∃ u r, us = u :: r ∧ VR E v u ∧ VRs E l r
end
mutual
theorem VR.mono {E E' : Env} (hle : E.le E') : ∀ (v : V) (x : Value), VR E v x → VR E' v x
  | .raw u, x, h => h
  | .ptr b off, x, h => by
    obtain ⟨h1, h2⟩ := h
    exact ⟨Nat.lt_of_lt_of_le h1 hle.1, by rw [(hle.2 b h1).1]; exact h2⟩
  | .sl b off len cap, x, h => by
    obtain ⟨h1, h2⟩ := h
    exact ⟨Nat.lt_of_lt_of_le h1 hle.1, by rw [(hle.2 b h1).1]; exact h2⟩
  | .gs b off len s, x, h => by
    obtain ⟨h1, cap, h2, h3⟩ := h
    exact ⟨Nat.lt_of_lt_of_le h1 hle.1, cap, by rw [(hle.2 b h1).1]; exact h2, by rw [(hle.2 b h1).2]; exact h3⟩
  | .agg l, x, h => by
    obtain ⟨us, h1, h2⟩ := h
    exact ⟨us, h1, VRs.mono hle l _ h2⟩
  | .tup l, x, h => by
    obtain ⟨us, h1, h2⟩ := h
    exact ⟨us, h1, VRs.mono hle l _ h2⟩
  | .clo f a c, x, h => by
    obtain ⟨us, vs, h1, h2, h3⟩ := h
    exact ⟨us, vs, h1, VRs.mono hle a _ h2, VRs.mono hle c _ h3⟩
  | .yld b, x, h => by
    obtain ⟨h1, h2⟩ := h
    exact ⟨Nat.lt_of_lt_of_le h1 hle.1, by rw [(hle.2 b h1).1]; exact h2⟩
  | .sym _, x, h => h
  | .mp b, x, h => by
    obtain ⟨h1, h2⟩ := h
    exact ⟨Nat.lt_of_lt_of_le h1 hle.1, by rw [(hle.2 b h1).1]; exact h2⟩
  | .any, x, h => h
  | .val _, x, h => h
theorem VRs.mono {E E' : Env} (hle : E.le E') : ∀ (l : List V) (us : List Value), VRs E l us → VRs E' l us
  | [], us, h => h
  | v :: l, us, h => by
    obtain ⟨u, r, h1, h2, h3⟩ := h
    exact ⟨u, r, h1, VR.mono hle v u h2, VRs.mono hle l r h3⟩
end
mutual
theorem V.raw_spec {E : Env} : ∀ (v : V) (u x : Value), v.raw? = some u → VR E v x → x = u
  | .raw w, u, x, h, hx => by
    simp only [V.raw?] at h
    injection h with h
    exact (show x = w from hx).trans h
  | .agg l, u, x, h, hx => by
    obtain ⟨us, h1, h2⟩ := hx
    simp only [V.raw?] at h
    split at h
    · rename_i vs hv
      injection h with h
      rw [h1, ← h, ← rawL_spec l vs us.toList hv h2]
    · cases h
  | .tup l, u, x, h, hx => by
    obtain ⟨us, h1, h2⟩ := hx
    simp only [V.raw?] at h
    split at h
    · rename_i vs hv
      injection h with h
      rw [h1, ← h, ← rawL_spec l vs us.toList hv h2]
    · cases h
  | .clo f a c, u, x, h, hx => by
    obtain ⟨us, vs, h1, h2, h3⟩ := hx
    simp only [V.raw?] at h
    split at h
    · rename_i ps qs hp hq
      injection h with h
      rw [h1, ← h, ← rawL_spec a ps us.toList hp h2, ← rawL_spec c qs vs.toList hq h3]
    · cases h
  | .ptr _ _, u, x, h, hx => by simp [V.raw?] at h
  | .sl _ _ _ _, u, x, h, hx => by simp [V.raw?] at h
  | .gs _ _ _ _, u, x, h, hx => by simp [V.raw?] at h
  | .yld _, u, x, h, hx => by simp [V.raw?] at h
  | .sym _, u, x, h, hx => by simp [V.raw?] at h
  | .mp _, u, x, h, hx => by simp [V.raw?] at h
  | .any, u, x, h, hx => by simp [V.raw?] at h
  | .val _, u, x, h, hx => by simp [V.raw?] at h
theorem rawL_spec {E : Env} : ∀ (l : List V) (us ws : List Value), rawL l = some us → VRs E l ws → ws = us
  | [], us, ws, h, hw => by
    simp only [rawL] at h
    injection h with h
    exact (show ws = [] from hw).trans h
  | v :: l, us, ws, h, hw => by
    obtain ⟨u, r, h1, h2, h3⟩ := hw
    simp only [rawL] at h
    split at h
    · rename_i p ps hp hps
      injection h with h
      rw [h1, ← h, V.raw_spec v p u hp h2, rawL_spec l ps r hps h3]
    · cases h
end
theorem VRs.len {E : Env} : ∀ {l : List V} {us : List Value}, VRs E l us → us.length = l.length
  | [], us, h => by rw [show us = [] from h]; rfl
  | v :: l, us, h => by
    obtain ⟨u, r, h1, h2, h3⟩ := h
    rw [h1, List.length_cons, List.length_cons, VRs.len h3]
theorem VRs.get {E : Env} : ∀ {l : List V} {us : List Value}, VRs E l us → ∀ {i : Nat} {v : V}, l[i]? = some v → ∃ u, us[i]? = some u ∧ VR E v u
  | [], us, h, i, v, hv => by simp at hv
  | w :: l, us, h, i, v, hv => by
    obtain ⟨u, r, h1, h2, h3⟩ := h
    subst h1
    cases i with
    | zero => simp at hv; subst hv; exact ⟨u, rfl, h2⟩
    | succ i => simp at hv; simpa using VRs.get h3 hv
theorem VRs.append {E : Env} : ∀ {l k : List V} {us vs : List Value}, VRs E l us → VRs E k vs → VRs E (l ++ k) (us ++ vs)
  | [], k, us, vs, h, h' => by rw [show us = [] from h]; exact h'
  | w :: l, k, us, vs, h, h' => by
    obtain ⟨u, r, h1, h2, h3⟩ := h
    subst h1
    exact ⟨u, r ++ vs, rfl, h2, VRs.append h3 h'⟩
theorem VRs.take {E : Env} : ∀ {l : List V} {us : List Value} (n : Nat), VRs E l us → VRs E (l.take n) (us.take n)
  | l, us, 0, h => by simp; rfl
  | [], us, n + 1, h => by rw [show us = [] from h]; rfl
  | w :: l, us, n + 1, h => by
    obtain ⟨u, r, h1, h2, h3⟩ := h
    subst h1
    exact ⟨u, r.take n, rfl, h2, VRs.take n h3⟩
theorem VRs.drop {E : Env} : ∀ {l : List V} {us : List Value} (n : Nat), VRs E l us → VRs E (l.drop n) (us.drop n)
  | l, us, 0, h => by simpa using h
  | [], us, n + 1, h => by rw [show us = [] from h]; rfl
  | w :: l, us, n + 1, h => by
    obtain ⟨u, r, h1, h2, h3⟩ := h
    subst h1
    simpa using VRs.drop n h3
theorem VRs.raws {E : Env} : ∀ (us : List Value), VRs E (us.map V.raw) us
  | [] => rfl
  | u :: us => ⟨u, us, rfl, rfl, VRs.raws us⟩
theorem VRs.of_get {E : Env} : ∀ {l : List V} {us : List Value}, us.length = l.length → (∀ (i : Nat) (v : V), l[i]? = some v → ∃ u, us[i]? = some u ∧ VR E v u) → VRs E l us
  | [], us, h, _ => List.length_eq_zero_iff.1 h
  | w :: l, [], h, _ => by simp at h
  | w :: l, u :: us, h, hg => by
    refine ⟨u, us, rfl, ?_, VRs.of_get (by simpa using h) (fun i v hv => by simpa using hg (i + 1) v (by simpa using hv))⟩
    obtain ⟨u', h1, h2⟩ := hg 0 w rfl
    simp at h1
    subst h1
    exact h2
/-- The cells of a value. -/
def V.cells : V → List V
  | .agg l => l
  | .raw u => u.cells.toList.map V.raw
  | v => [v]
theorem VR.cells {E : Env} {v : V} {x : Value} (h : VR E v x) : VRs E v.cells x.cells.toList := by
  cases v with
  | raw u => rw [show x = u from h]; exact VRs.raws _
  | agg l => obtain ⟨us, h1, h2⟩ := h; subst h1; exact h2
  | ptr b off => have e := h.2; subst e; exact ⟨_, [], rfl, h, rfl⟩
  | sl b off len cap => have e := h.2; subst e; exact ⟨_, [], rfl, h, rfl⟩
  | gs b off len s => have h' := h; obtain ⟨_, cap, e, _⟩ := h; subst e; exact ⟨_, [], rfl, h', rfl⟩
  | tup l => have h' := h; obtain ⟨us, e, _⟩ := h; subst e; exact ⟨_, [], rfl, h', rfl⟩
  | clo f a c => have h' := h; obtain ⟨us, vs, e, _⟩ := h; subst e; exact ⟨_, [], rfl, h', rfl⟩
  | yld b => have e := h.2; subst e; exact ⟨_, [], rfl, h, rfl⟩
  | sym i => have e : x = .int .i64 (Sig.σ i) := h; subst e; exact ⟨_, [], rfl, rfl, rfl⟩
  | mp b => have e := h.2; subst e; exact ⟨_, [], rfl, h, rfl⟩
  | any => have h' := h; obtain ⟨a, c, e⟩ := h; subst e; exact ⟨_, [], rfl, h', rfl⟩
  | val j => have h' := h; obtain ⟨_, ⟨a, n, c, e⟩ | ⟨A, e⟩⟩ := h <;> subst e <;> exact ⟨_, [], rfl, h', rfl⟩
/-- A frame; the record of a range over a function; a block. -/
structure Fr where
  t : T V
  sz : Nat
  d : List Nat
structure LL where
  state : LoopState
  pend : Option Code
  t : T V
  sz : Nat
  params : Array Tmp
  assign : Code
  body : Code
  dfr : Nat
inductive LO where
  | cells (l : List V) (t : TypeId)
  | obj (o : Obj)
  | loop (r : LL)
structure St where
  h : T LO
  n : Nat
def TR (E : Env) (t : T V) (a : Array Value) : Prop := ∀ i v, t.get i = some v → ∃ x, a[i]? = some x ∧ VR E v x
def marks (E : Env) (d : List Nat) : List Deferred := d.map fun b => { target := .collected (E.ρ b), args := #[] }
structure FR (E : Env) (fr : Fr) (a : Act) : Prop where
  sz : a.tmps.size = fr.sz
  t : TR E fr.t a.tmps
  d : a.defers = marks E fr.d
  dn : ∀ b ∈ fr.d, b < E.n
def notCells : Obj → Bool
  | .cells .. => false
  | _ => true
def OR (E : Env) (b : Nat) (w : World) : LO → Prop
  | .cells l t => ∃ c : Array Value, w.heap[E.ρ b]? = some (.cells c t (0, 0)) ∧ c.size = E.sz b ∧ ∃ us rest, c.toList = us ++ rest ∧ VRs E l us
  | .obj o => w.heap[E.ρ b]? = some o ∧ notCells o = true
  | .loop r => ∃ fn tm, w.heap[E.ρ b]? = some (.loop { state := r.state, pending := r.pend, fn := fn, tmps := tm, params := r.params, assign := r.assign, body := r.body, defers := E.ρ r.dfr }) ∧ r.dfr < E.n ∧ tm.size = r.sz ∧ TR E r.t tm
/-- What is kept stays. -/
structure Keep (F : Nat → Prop) (w w' : World) : Prop where
  os : w'.os = w.os
  tape : w'.tape = w.tape
  output : w'.output = w.output
  size : w.heap.size ≤ w'.heap.size
  block : ∀ k, F k → w'.heap[k]? = w.heap[k]?
theorem Keep.refl (F : Nat → Prop) (w : World) : Keep F w w := ⟨rfl, rfl, rfl, Nat.le_refl _, fun _ _ => rfl⟩
theorem Keep.trans {F : Nat → Prop} {a b c : World} (h : Keep F a b) (k : Keep F b c) : Keep F a c :=
  ⟨k.os.trans h.os, k.tape.trans h.tape, k.output.trans h.output, Nat.le_trans h.size k.size, fun i hi => (k.block i hi).trans (h.block i hi)⟩
theorem Keep.mono {F F' : Nat → Prop} {w w' : World} (h : Keep F w w') (hF : ∀ k, F' k → F k) : Keep F' w w' := ⟨h.os, h.tape, h.output, h.size, fun k hk => h.block k (hF k hk)⟩
theorem Keep.drew {F : Nat → Prop} {a w : World} (h : Keep F a w) : Keep F a w.drew := ⟨h.os, h.tape, h.output, h.size, h.block⟩
theorem Keep.alloc {F : Nat → Prop} {a w : World} (h : Keep F a w) (hB : ∀ k, F k → k < w.heap.size) (o : Obj) : Keep F a (w.alloc o) :=
  h.trans ⟨rfl, rfl, rfl, by simp, fun k hk => Below.heap_alloc _ _ _ (hB k hk)⟩
theorem Keep.below {w w' : World} (h : Keep (fun k => k < w.heap.size) w w') : Below w.heap.size w w' := ⟨h.os, h.tape, h.output, h.size, h.block⟩
structure WR (G : Nat → Option Obj) (B : Nat → Prop) (E : Env) (st : St) (w : World) : Prop where
  n : E.n = st.n
  live : ∀ b o, st.h.get b = some o → b < st.n ∧ OR E b w o
  inj : ∀ b b' o o', st.h.get b = some o → st.h.get b' = some o' → E.ρ b = E.ρ b' → b = b'
  base : ∀ b o, st.h.get b = some o → ¬ B (E.ρ b)
  size : ∀ k, B k → k < w.heap.size
  glob : ∀ g o, (G g = some o ∨ Sig.gf g = some o) → B g ∧ w.heap[g]? = some o
theorem TR.mono {E E' : Env} (hle : E.le E') {t : T V} {a : Array Value} (h : TR E t a) : TR E' t a := fun i v hv => by
  obtain ⟨x, h1, h2⟩ := h i v hv
  exact ⟨x, h1, VR.mono hle v x h2⟩
theorem marks_mono {E E' : Env} (hle : E.le E') {d : List Nat} (h : ∀ b ∈ d, b < E.n) : marks E' d = marks E d := by
  unfold marks
  refine List.map_congr_left fun b hb => ?_
  rw [(hle.2 b (h b hb)).1]
theorem FR.mono {E E' : Env} (hle : E.le E') {fr : Fr} {a : Act} (h : FR E fr a) : FR E' fr a :=
  ⟨h.sz, h.t.mono hle, by rw [marks_mono hle h.dn]; exact h.d, fun b hb => Nat.lt_of_lt_of_le (h.dn b hb) hle.1⟩
/-- What is told of a block stays, where the block does. -/
theorem OR.keep {E E' : Env} (hle : E.le E') {b : Nat} (hb : b < E.n) {w w' : World} (hw : w'.heap[E.ρ b]? = w.heap[E.ρ b]?) {o : LO} (h : OR E b w o) : OR E' b w' o := by
  have e1 := (hle.2 b hb).1
  have e2 := (hle.2 b hb).2
  cases o with
  | cells l t =>
    obtain ⟨c, h1, h2, us, rest, h3, h4⟩ := h
    exact ⟨c, by rw [e1, hw]; exact h1, by rw [e2]; exact h2, us, rest, h3, VRs.mono hle _ _ h4⟩
  | obj o => exact ⟨by rw [e1, hw]; exact h.1, h.2⟩
  | loop r =>
    obtain ⟨fn, tm, h1, h2, h3, h4⟩ := h
    exact ⟨fn, tm, by rw [e1, hw, (hle.2 _ h2).1]; exact h1, Nat.lt_of_lt_of_le h2 hle.1, h3, h4.mono hle⟩
section
variable {G : Nat → Option Obj} {B : Nat → Prop} {E : Env} {st : St} {w : World}
theorem WR.drew (h : WR G B E st w) : WR G B E st w.drew := ⟨h.n, fun b o hb => ⟨(h.live b o hb).1, (h.live b o hb).2.keep (Env.le.refl E) (by rw [h.n]; exact (h.live b o hb).1) rfl⟩, h.inj, h.base, h.size, h.glob⟩
def fuelT : Nat := 40
def newB (st : St) (o : LO) : Option (Nat × St) := match st with
  | ⟨h, n⟩ => match h.set fuelT n (some o) with
    | some h => some (n, ⟨h, Nat.succ n⟩)
    | none => none
theorem newB_eq (st : St) (o : LO) : newB st o = match st.h.set fuelT st.n (some o) with
  | some h => some (st.n, ⟨h, st.n + 1⟩)
  | none => none := by cases st; rfl
def putB (st : St) (b : Nat) (o : LO) : Option St := match st with
  | ⟨h, n⟩ => match h.set fuelT b (some o) with
    | some h => some ⟨h, n⟩
    | none => none
theorem putB_eq (st : St) (b : Nat) (o : LO) : putB st b o = match st.h.set fuelT b (some o) with
  | some h => some ⟨h, st.n⟩
  | none => none := by cases st; rfl
def Env.new (E : Env) (r s : Nat) : Env := ⟨E.n + 1, fun b => if b = E.n then r else E.ρ b, fun b => if b = E.n then s else E.sz b⟩
theorem Env.le_new (E : Env) (r s : Nat) : E.le (E.new r s) := ⟨Nat.le_succ _, fun b hb => by simp [Env.new, Nat.ne_of_lt hb]⟩
theorem OR.lt {b : Nat} {o : LO} (h : OR E b w o) : E.ρ b < w.heap.size := by
  cases o with
  | cells l t => obtain ⟨c, h1, _⟩ := h; exact (Array.getElem?_eq_some_iff.1 h1).1
  | obj o => exact (Array.getElem?_eq_some_iff.1 h.1).1
  | loop r => obtain ⟨fn, tm, h1, _⟩ := h; exact (Array.getElem?_eq_some_iff.1 h1).1
/-- A new block. -/
theorem WR.alloc (h : WR G B E st w) {o : LO} {b : Nat} {st' : St} (hn : newB st o = some (b, st')) (ob : Obj) (s : Nat) (ho : OR (E.new w.heap.size s) b (w.alloc ob) o) :
    b = E.n ∧ E.le (E.new w.heap.size s) ∧ WR G B (E.new w.heap.size s) st' (w.alloc ob) ∧ Keep B w (w.alloc ob) := by
  rw [newB_eq] at hn
  split at hn
  · rename_i h' hs
    injection hn with hn
    injection hn with h1 h2
    subst h1 h2
    have hg := T.get_set _ _ _ _ _ hs
    have hle := Env.le_new E w.heap.size s
    have hfresh : ∀ b o, st.h.get b = some o → b ≠ st.n := fun b o hb => Nat.ne_of_lt (h.live b o hb).1
    have hlt : ∀ b o, st.h.get b = some o → E.ρ b < w.heap.size := fun b o hb => (h.live b o hb).2.lt
    have hold : ∀ b, b ≠ st.n → (E.new w.heap.size s).ρ b = E.ρ b := fun b hb => by simp [Env.new, h.n, hb]
    have hnew : (E.new w.heap.size s).ρ st.n = w.heap.size := by simp [Env.new, h.n]
    refine ⟨h.n.symm, hle, ⟨by show E.n + 1 = st.n + 1; rw [h.n], ?_, ?_, ?_, fun k hk => by have := h.size k hk; show k < (w.heap.push ob).size; simp; omega, ?_⟩, (Keep.refl B w).alloc h.size ob⟩
    · intro b o' hb
      show b < st.n + 1 ∧ _
      rw [show (St.h ⟨h', st.n + 1⟩) = h' from rfl, hg] at hb
      by_cases e : b = st.n
      · subst e
        rw [if_pos rfl] at hb
        injection hb with hb
        subst hb
        exact ⟨Nat.lt_succ_self _, ho⟩
      · rw [if_neg e] at hb
        have hl := h.live b o' hb
        exact ⟨Nat.lt_succ_of_lt hl.1, hl.2.keep hle (by rw [h.n]; exact hl.1) (Below.heap_alloc w ob _ (hlt b o' hb))⟩
    · intro b b' o1 o2 hb hb' he
      rw [show (St.h ⟨h', st.n + 1⟩) = h' from rfl, hg] at hb hb'
      by_cases e : b = st.n
      · by_cases e' : b' = st.n
        · omega
        · rw [if_neg e'] at hb'
          rw [e, hnew, hold b' e'] at he
          have := hlt b' o2 hb'
          omega
      · rw [if_neg e] at hb
        by_cases e' : b' = st.n
        · rw [e', hnew, hold b e] at he
          have := hlt b o1 hb
          omega
        · rw [if_neg e'] at hb'
          rw [hold b e, hold b' e'] at he
          exact h.inj b b' o1 o2 hb hb' he
    · intro b o' hb
      rw [show (St.h ⟨h', st.n + 1⟩) = h' from rfl, hg] at hb
      by_cases e : b = st.n
      · rw [e, hnew]; exact fun hh => Nat.lt_irrefl _ (h.size _ hh)
      · rw [if_neg e] at hb
        rw [hold b e]
        exact h.base b o' hb
    · intro g o' hgl
      have := h.glob g o' hgl
      exact ⟨this.1, by rw [Below.heap_alloc w ob g (h.size g this.1)]; exact this.2⟩
  · cases hn
/-- A block written over: w' is w but for it. -/
theorem WR.write (h : WR G B E st w) {b : Nat} {o0 o : LO} {st' : St} (hb : st.h.get b = some o0) (hp : putB st b o = some st') {w' : World} (hbel : Keep B w w') (hw : ∀ k, k ≠ E.ρ b → k < w.heap.size → w'.heap[k]? = w.heap[k]?) (ho : OR E b w' o) :
    WR G B E st' w' := by
  rw [putB_eq] at hp
  split at hp
  · rename_i h' hs
    injection hp with hp
    subst hp
    have hg := T.get_set _ _ _ _ _ hs
    refine ⟨h.n, ?_, ?_, ?_, fun k hk => Nat.lt_of_lt_of_le (h.size k hk) hbel.size, ?_⟩
    · intro b' o' hb'
      rw [show (St.h ⟨h', st.n⟩) = h' from rfl, hg] at hb'
      by_cases e : b' = b
      · subst e
        rw [if_pos rfl] at hb'
        injection hb' with hb'
        subst hb'
        exact ⟨(h.live _ _ hb).1, ho⟩
      · rw [if_neg e] at hb'
        have hl := h.live b' o' hb'
        exact ⟨hl.1, hl.2.keep (Env.le.refl E) (by rw [h.n]; exact hl.1) (hw _ (fun he => e (h.inj b' b o' o0 hb' hb he)) hl.2.lt)⟩
    · intro b1 b2 o1 o2 h1 h2 he
      have get : ∀ b o', (St.h ⟨h', st.n⟩).get b = some o' → ∃ o'', st.h.get b = some o'' := fun b3 o3 h3 => by
        rw [show (St.h ⟨h', st.n⟩) = h' from rfl, hg] at h3
        by_cases e : b3 = b
        · subst e; exact ⟨o0, hb⟩
        · rw [if_neg e] at h3; exact ⟨o3, h3⟩
      obtain ⟨p1, q1⟩ := get b1 o1 h1
      obtain ⟨p2, q2⟩ := get b2 o2 h2
      exact h.inj b1 b2 p1 p2 q1 q2 he
    · intro b' o' hb'
      rw [show (St.h ⟨h', st.n⟩) = h' from rfl, hg] at hb'
      by_cases e : b' = b
      · subst e; exact h.base _ _ hb
      · rw [if_neg e] at hb'; exact h.base _ _ hb'
    · intro g o' hgl
      have := h.glob g o' hgl
      exact ⟨this.1, by rw [hbel.block g this.1]; exact this.2⟩
  · cases hp
end
end Go.Proofs.YtbadfjogakhhbaaDoor.Re
