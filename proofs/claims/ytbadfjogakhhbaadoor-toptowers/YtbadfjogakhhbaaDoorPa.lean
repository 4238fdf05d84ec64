/- Small facts: searches by levels, iterators, blocks of cells. -/
import Derived.RangeFuncNested
import Derived.RangeFuncBound
import Derived.RangeFuncCalls
import Derived.RangeFuncLeaves
import Derived.Shelf.Abstract
import Derived.Deep.QuietTactic
import Derived.ControlIn
import Derived.WalkMore
import Derived.Sort.QuietIn
import Derived.OwnWalkIn
import Derived.Test.YtbadfjogakhhbaaDoorPV
import Derived.Lib.OthersKept
import Derived.Test.YtbadfjogakhhbaaDoorProg
namespace Go.Proofs.YtbadfjogakhhbaaDoor.Bf
set_option linter.unusedVariables false
set_option linter.unusedSectionVars false

section
variable {α : Type} [DecidableEq α] (next : α → List α) (start : α)

/-- What is reached in at most k steps. -/
def ball : Nat → List α
  | 0 => [start]
  | k + 1 => ball k ++ (ball k).flatMap next
def least (target : α) (N : Nat) : Nat := ((List.range N).find? (fun k => (ball next start k).contains target)).getD 0

variable {next start}
theorem ball_succ {k : Nat} {x : α} : x ∈ ball next start (k + 1) ↔ x ∈ ball next start k ∨ ∃ y, y ∈ ball next start k ∧ x ∈ next y := by
  simp [ball, List.mem_append, List.mem_flatMap]
theorem ball_mono {j k : Nat} (h : j ≤ k) {x : α} (hx : x ∈ ball next start j) : x ∈ ball next start k := by
  induction k with
  | zero =>
    obtain rfl : j = 0 := by omega
    exact hx
  | succ k ih =>
    by_cases e : j = k + 1
    · rw [← e]; exact hx
    · exact ball_succ.2 (.inl (ih (by omega)))

/-- x is reached in d steps, and in no fewer. -/
def Exact (next : α → List α) (start : α) (x : α) (d : Nat) : Prop := x ∈ ball next start d ∧ ∀ j, j < d → x ∉ ball next start j
theorem Exact.unique {x : α} {d e : Nat} (h : Exact next start x d) (k : Exact next start x e) : d = e := by
  rcases Nat.lt_trichotomy d e with h1 | h1 | h1
  · exact absurd h.1 (k.2 d h1)
  · exact h1
  · exact absurd k.1 (h.2 e h1)
theorem least_exact {t : α} {d N : Nat} (h : Exact next start t d) (hd : d < N) : least next start t N = d := by
  unfold least
  have : (List.range N).find? (fun k => (ball next start k).contains t) = some d := by
    rw [List.find?_range_eq_some]
    refine ⟨by simpa using h.1, by simpa using hd, fun j hj => ?_⟩
    simpa using h.2 j hj
  rw [this]; rfl
theorem least_none {t : α} {N : Nat} (h : ∀ k, t ∉ ball next start k) : least next start t N = 0 := by
  unfold least
  have : (List.range N).find? (fun k => (ball next start k).contains t) = none := by
    rw [List.find?_eq_none]
    intro k _
    simpa using h k
  rw [this]; rfl

/-- What is seen, and at which depth. -/
abbrev Se (α : Type) := α → Option Nat
def Se.put (S : Se α) (x : α) (d : Nat) : Se α := fun y => if y = x then some d else S y
theorem Se.put_same (S : Se α) (x : α) (d : Nat) : S.put x d x = some d := by simp [Se.put]
theorem Se.put_other (S : Se α) {x y : α} (d : Nat) (h : y ≠ x) : S.put x d y = S y := by simp [Se.put, h]

structure St (next : α → List α) (start : α) (S : Se α) (A B : List α) (d : Nat) : Prop where
  exact : ∀ x e, S x = some e → Exact next start x e
  a : ∀ x, x ∈ A → S x = some d
  b : ∀ x, x ∈ B ↔ S x = some (d + 1)
  all : ∀ x, x ∈ ball next start d → (S x).isSome = true
  top : ∀ x e, S x = some e → e ≤ d + 1
  gone : ∀ x, x ∈ ball next start d → x ∉ A → ∀ t, t ∈ next x → (S t).isSome = true

theorem St.begin : St next start (fun x => if x = start then some 0 else none) [start] [] 0 where
  exact x e h := by
    by_cases hx : x = start
    · subst hx; simp at h; subst h; exact ⟨by simp [ball], fun j hj => by omega⟩
    · simp [hx] at h
  a x h := by simp at h; simp [h]
  b x := by by_cases hx : x = start <;> simp [hx]
  all x h := by simp [ball] at h; simp [h]
  top x e h := by
    by_cases hx : x = start
    · simp [hx] at h; omega
    · simp [hx] at h
  gone x h hn := by simp [ball] at h; simp [h] at hn

/-- The level is done: the next one. -/
theorem St.turn {S : Se α} {B : List α} {d : Nat} (h : St next start S [] B d) : St next start S B [] (d + 1) where
  exact := h.exact
  a x hx := (h.b x).1 hx
  b x := by
    constructor
    · intro hx; cases hx
    · intro hx
      have := h.top x _ hx
      omega
  top x e hx := by have := h.top x e hx; omega
  all x hx := by
    obtain hb | ⟨y, hy, hxy⟩ := ball_succ.1 hx
    · exact h.all x hb
    · exact h.gone y hy (by simp) x hxy
  gone x hx hn t ht := by
    obtain hb | ⟨y, hy, hxy⟩ := ball_succ.1 hx
    · exact h.gone x hb (by simp) t ht
    · have hs := h.gone y hy (by simp) x hxy
      obtain ⟨e, he⟩ := Option.isSome_iff_exists.1 hs
      by_cases hb : x ∈ ball next start d
      · exact h.gone x hb (by simp) t ht
      · have : Exact next start x (d + 1) := ⟨hx, fun j hj hj' => hb (ball_mono (by omega) hj')⟩
        have e2 := (h.exact x e he).unique this
        subst e2
        exact absurd ((h.b x).2 he) hn
theorem St.never {S : Se α} {d : Nat} (h : St next start S [] [] d) {t : α} (ht : S t = none) (k : Nat) : t ∉ ball next start k := by
  have key : ∀ j, St next start S [] [] (d + j) := by
    intro j
    induction j with
    | zero => exact h
    | succ j ih => exact ih.turn
  intro hk
  have := (key k).all t (ball_mono (by omega) hk)
  rw [ht] at this
  cases this

/-- s is being worked on: the steps of `done` have been looked at. -/
structure Mid (next : α → List α) (start : α) (S : Se α) (s : α) (done A B : List α) (d : Nat) : Prop where
  exact : ∀ x e, S x = some e → Exact next start x e
  at_ : S s = some d
  a : ∀ x, x ∈ A → S x = some d
  b : ∀ x, x ∈ B ↔ S x = some (d + 1)
  all : ∀ x, x ∈ ball next start d → (S x).isSome = true
  top : ∀ x e, S x = some e → e ≤ d + 1
  gone : ∀ x, x ∈ ball next start d → x ∉ A → x ≠ s → ∀ t, t ∈ next x → (S t).isSome = true
  done_ : ∀ t, t ∈ done → (S t).isSome = true
theorem St.pop {S : Se α} {s : α} {A B : List α} {d : Nat} (h : St next start S (s :: A) B d) : Mid next start S s [] A B d where
  exact := h.exact
  at_ := h.a s (by simp)
  a x hx := h.a x (by simp [hx])
  b := h.b
  all := h.all
  top := h.top
  gone x hx hn hne := h.gone x hx (by simp [hn, hne])
  done_ t ht := by cases ht
theorem Mid.seen {S : Se α} {s t : α} {done A B : List α} {d : Nat} (h : Mid next start S s done A B d) (ht : (S t).isSome = true) : Mid next start S s (done ++ [t]) A B d :=
  ⟨h.exact, h.at_, h.a, h.b, h.all, h.top, h.gone, fun x hx => (List.mem_append.1 hx).elim (fun hx => h.done_ x hx) (fun hx => by simp at hx; rw [hx]; exact ht)⟩
theorem Mid.hit {S : Se α} {s t : α} {done A B : List α} {d : Nat} (h : Mid next start S s done A B d) (hm : t ∈ next s) (ht : S t = none) : Exact next start t (d + 1) := by
  refine ⟨ball_succ.2 (.inr ⟨s, (h.exact s d h.at_).1, hm⟩), fun j hj hj' => ?_⟩
  have := h.all t (ball_mono (by omega) hj')
  rw [ht] at this
  cases this
theorem Mid.new {S : Se α} {s t : α} {done A B : List α} {d : Nat} (h : Mid next start S s done A B d) (hm : t ∈ next s) (ht : S t = none) : Mid next start (S.put t (d + 1)) s (done ++ [t]) A (B ++ [t]) d := by
  have old : ∀ x e, S x = some e → S.put t (d + 1) x = some e := fun x e hx => by
    rw [Se.put_other _ _ (fun e' => by rw [e', ht] at hx; cases hx)]; exact hx
  have some_ : ∀ x, (S x).isSome = true → (S.put t (d + 1) x).isSome = true := fun x hx => by
    obtain ⟨e, he⟩ := Option.isSome_iff_exists.1 hx
    rw [old x e he]; rfl
  refine ⟨fun x e hx => ?_, old _ _ h.at_, fun x hx => old _ _ (h.a x hx), fun x => ?_, fun x hx => some_ x (h.all x hx), fun x e hx => ?_, fun x hx hn hne y hy => some_ y (h.gone x hx hn hne y hy), fun x hx => ?_⟩
  · by_cases e' : x = t
    · subst e'; rw [Se.put_same] at hx; cases hx; exact h.hit hm ht
    · rw [Se.put_other _ _ e'] at hx; exact h.exact x e hx
  · by_cases e' : x = t
    · subst e'; simp [Se.put_same]
    · rw [Se.put_other _ _ e', ← h.b x]; simp [e']
  · by_cases e' : x = t
    · subst e'; rw [Se.put_same] at hx; cases hx; omega
    · rw [Se.put_other _ _ e'] at hx; exact h.top x e hx
  · rcases List.mem_append.1 hx with hx | hx
    · exact some_ x (h.done_ x hx)
    · simp at hx; rw [hx, Se.put_same]; rfl
theorem Mid.finish {S : Se α} {s : α} {A B : List α} {d : Nat} (h : Mid next start S s (next s) A B d) : St next start S A B d where
  exact := h.exact
  a := h.a
  b := h.b
  all := h.all
  top := h.top
  gone x hx hn t ht := by
    by_cases e : x = s
    · subst e; exact h.done_ t ht
    · exact h.gone x hx hn e t ht

/-- The state between two rounds, with the list of what is seen. -/
structure Rd (next : α → List α) (start : α) (V : α → Prop) (S : Se α) (q L : List α) : Prop where
  st : ∃ A B d, q = A ++ B ∧ St next start S A B d
  v : ∀ x, (S x).isSome = true → V x
  nodup : L.Nodup
  seen : ∀ x, x ∈ L → (S x).isSome = true
  deep : ∀ x e, S x = some e → e ≤ L.length
structure Rm (next : α → List α) (start : α) (V : α → Prop) (S : Se α) (s : α) (done q L : List α) : Prop where
  mid : ∃ A B d, q = A ++ B ∧ Mid next start S s done A B d
  v : ∀ x, (S x).isSome = true → V x
  nodup : L.Nodup
  seen : ∀ x, x ∈ L → (S x).isSome = true
  deep : ∀ x e, S x = some e → e ≤ L.length
variable {V : α → Prop}
theorem Rd.begin (h0 : V start) : Rd next start V (fun x => if x = start then some 0 else none) [start] [start] where
  st := ⟨[start], [], 0, rfl, St.begin⟩
  v x hx := by
    by_cases e : x = start
    · rw [e]; exact h0
    · simp [e] at hx
  nodup := by simp
  seen x hx := by simp at hx; simp [hx]
  deep x e hx := by
    by_cases e' : x = start
    · simp [e'] at hx; omega
    · simp [e'] at hx
theorem Rd.pop {S : Se α} {s : α} {q L : List α} (h : Rd next start V S (s :: q) L) : Rm next start V S s [] q L := by
  obtain ⟨A, B, d, hq, hs⟩ := h.st
  refine ⟨?_, h.v, h.nodup, h.seen, h.deep⟩
  cases A with
  | nil =>
    have hs2 := hs.turn
    simp at hq
    rw [← hq] at hs2
    exact ⟨q, [], d + 1, by simp, hs2.pop⟩
  | cons x A =>
    simp at hq
    obtain ⟨rfl, rfl⟩ := hq
    exact ⟨A, B, d, rfl, hs.pop⟩
theorem Rm.some_ {S : Se α} {s : α} {done q L : List α} (h : Rm next start V S s done q L) : ∃ d, S s = some d ∧ d ≤ L.length := by
  obtain ⟨A, B, d, hq, hs⟩ := h.mid
  exact ⟨d, hs.at_, h.deep _ _ hs.at_⟩
theorem Rm.seen_ {S : Se α} {s t : α} {done q L : List α} (h : Rm next start V S s done q L) (ht : (S t).isSome = true) : Rm next start V S s (done ++ [t]) q L := by
  obtain ⟨A, B, d, hq, hs⟩ := h.mid
  exact ⟨⟨A, B, d, hq, hs.seen ht⟩, h.v, h.nodup, h.seen, h.deep⟩
theorem Rm.new {S : Se α} {s t : α} {d : Nat} {done q L : List α} (h : Rm next start V S s done q L) (hd : S s = some d) (hm : t ∈ next s) (hv : V t) (ht : S t = none) :
    Rm next start V (S.put t (d + 1)) s (done ++ [t]) (q ++ [t]) (t :: L) ∧ Exact next start t (d + 1) := by
  obtain ⟨A, B, d', hq, hs⟩ := h.mid
  obtain rfl : d = d' := by have := hs.at_; rw [hd] at this; cases this; rfl
  refine ⟨⟨⟨A, B ++ [t], d, by rw [hq, List.append_assoc], hs.new hm ht⟩, fun x hx => ?_, ?_, fun x hx => ?_, fun x e hx => ?_⟩, hs.hit hm ht⟩
  · by_cases e' : x = t
    · rw [e']; exact hv
    · rw [Se.put_other _ _ e'] at hx; exact h.v x hx
  · refine List.nodup_cons.2 ⟨fun hx => ?_, h.nodup⟩
    have := h.seen t hx
    rw [ht] at this
    cases this
  · by_cases e' : x = t
    · rw [e', Se.put_same]; rfl
    · rw [Se.put_other _ _ e']
      simp [e'] at hx
      exact h.seen x hx
  · by_cases e' : x = t
    · rw [e', Se.put_same] at hx; cases hx
      have := h.deep _ _ hd
      simp; omega
    · rw [Se.put_other _ _ e'] at hx
      have := h.deep x e hx
      simp; omega
theorem Rm.finish {S : Se α} {s : α} {q L : List α} (h : Rm next start V S s (next s) q L) : Rd next start V S q L := by
  obtain ⟨A, B, d, hq, hs⟩ := h.mid
  exact ⟨⟨A, B, d, hq, hs.finish⟩, h.v, h.nodup, h.seen, h.deep⟩
theorem nodup_sub : ∀ (L U : List α), L.Nodup → (∀ x, x ∈ L → x ∈ U) → L.length ≤ U.length
  | [], U, _, _ => by simp
  | x :: L, U, h, hs => by
    obtain ⟨h1, h2⟩ := List.nodup_cons.1 h
    have := nodup_sub L (U.erase x) h2 (fun y hy => (List.mem_erase_of_ne (fun e => by rw [e] at hy; exact h1 hy)).2 (hs y (by simp [hy])))
    have hx := List.length_erase_of_mem (hs x (by simp))
    have : 0 < U.length := List.length_pos_of_mem (hs x (by simp))
    simp; omega
/-- The search has seen the target: at its least number of steps. -/
theorem Rd.found {S : Se α} {q L : List α} {t : α} {e N : Nat} (h : Rd next start V S q L) (ht : S t = some e) (hL : L.length ≤ N) : least next start t (N + 1) = e := by
  obtain ⟨A, B, d, _, hs⟩ := h.st
  exact least_exact (hs.exact t e ht) (by have := h.deep t e ht; omega)
theorem Rd.never {S : Se α} {L : List α} {t : α} (h : Rd next start V S [] L) (ht : S t = none) (N : Nat) : least next start t N = 0 := by
  obtain ⟨A, B, d, hq, hs⟩ := h.st
  have : A = [] ∧ B = [] := by simpa using hq.symm
  obtain ⟨rfl, rfl⟩ := this
  exact least_none (hs.never ht)
end
end Go.Proofs.YtbadfjogakhhbaaDoor.Bf
namespace Go.Proofs.YtbadfjogakhhbaaDoor.It
open Go.RowKit
set_option linter.unusedVariables false

def book : Obj → Bool | .loop _ => true | .deferred _ => true | _ => false
def isT (T : TypeId) : Obj → Bool | .cells _ t _ => t == T | _ => false
def stays (T : TypeId) (o : Obj) : Bool := !book o && !isT T o

/-- What an iterator's own steps, and the law's, may turn: blocks from B on that are cells of type T, or book-keeping. -/
structure Step (T : TypeId) (B : Nat) (A A' : World) : Prop where
  os : A'.os = A.os
  tape : A'.tape = A.tape
  output : A'.output = A.output
  size : A.heap.size ≤ A'.heap.size
  same : ∀ (k : Nat) (o : Obj), A.heap[k]? = some o → (k < B ∨ stays T o = true) → A'.heap[k]? = some o
theorem Step.refl (T : TypeId) (B : Nat) (A : World) : Step T B A A := ⟨rfl, rfl, rfl, Nat.le_refl _, fun _ _ h _ => h⟩
theorem Step.trans {T : TypeId} {B : Nat} {A A' A'' : World} (h : Step T B A A') (k : Step T B A' A'') : Step T B A A'' :=
  ⟨k.os.trans h.os, k.tape.trans h.tape, k.output.trans h.output, Nat.le_trans h.size k.size, fun j o hj hs => k.same j o (h.same j o hj hs) hs⟩
theorem Step.mono {T : TypeId} {B B' : Nat} {A A' : World} (h : Step T B' A A') (hB : B ≤ B') : Step T B A A' :=
  ⟨h.os, h.tape, h.output, h.size, fun j o hj hs => h.same j o hj (hs.imp (fun x => by omega) id)⟩
theorem Step.alloc {T : TypeId} {B : Nat} {A A' : World} (h : Step T B A A') (o : Obj) : Step T B A (A'.alloc o) :=
  h.trans ⟨rfl, rfl, rfl, by simp, fun k q hk _ => by rw [Below.heap_alloc _ _ _ (Array.getElem?_eq_some_iff.1 hk).1]; exact hk⟩
theorem Step.drewN {T : TypeId} {B : Nat} {A A' : World} (h : Step T B A A') (n : Nat) : Step T B A (A'.drewN n) := ⟨h.os, h.tape, h.output, h.size, h.same⟩
theorem Step.drew {T : TypeId} {B : Nat} {A A' : World} (h : Step T B A A') : Step T B A A'.drew := ⟨h.os, h.tape, h.output, h.size, h.same⟩
theorem Step.setT {T : TypeId} {B : Nat} {A A' : World} (h : Step T B A A') {b i : Nat} {v : Value} {cs : Array Value} {fr : Nat × Nat} (hb : A'.heap[b]? = some (.cells cs T fr)) (hB : B ≤ b) : Step T B A (A'.setCell ⟨b, i, none⟩ v) :=
  h.trans ⟨rfl, rfl, rfl, by simp [World.setCell], fun k o hk hs => by
    by_cases e : k = b
    · subst e
      rw [hb] at hk
      injection hk with hk
      subst hk
      exfalso
      rcases hs with x | x
      · omega
      · simp [stays, isT] at x
    · rw [Below.heap_setCell _ _ _ _ e]; exact hk⟩
theorem Step.putBook {T : TypeId} {B : Nat} {A A' : World} (h : Step T B A A') {l : Nat} {o : Obj} (hl : A'.heap[l]? = some o) (hb : book o = true) (hB : B ≤ l) (o' : Obj) : Step T B A (A'.putObj l o') :=
  h.trans ⟨rfl, rfl, rfl, by simp, fun k q hk hs => by
    by_cases e : k = l
    · subst e
      rw [hl] at hk
      injection hk with hk
      subst hk
      exfalso
      rcases hs with x | x
      · omega
      · simp [stays, hb] at x
    · rw [World.putObj_heap_other e]; exact hk⟩

theorem Step.below {T : TypeId} {B B0 : Nat} {w A A' : World} (h : Below B0 w A) (hs : Step T B A A') (hB : B0 ≤ B) (hw : B0 ≤ w.heap.size) : Below B0 w A' :=
  h.trans ⟨hs.os, hs.tape, hs.output, hs.size, fun k hk => by
    have hlt : k < A.heap.size := by have := h.size; omega
    have e := Array.getElem?_eq_getElem hlt
    rw [e]
    exact hs.same k _ e (.inl (by omega))⟩

/-- What a round that goes on keeps: the blocks that the iterator reads, and its own. -/
structure KB (T : TypeId) (keep : Nat → Prop) (A A' : World) : Prop where
  size : A.heap.size ≤ A'.heap.size
  same : ∀ (k : Nat) (o : Obj), A.heap[k]? = some o → (keep k ∨ isT T o = true) → A'.heap[k]? = some o
theorem KB.refl (T : TypeId) (keep : Nat → Prop) (A : World) : KB T keep A A := ⟨Nat.le_refl _, fun _ _ h _ => h⟩
theorem KB.trans {T : TypeId} {keep : Nat → Prop} {A A' A'' : World} (h : KB T keep A A') (k : KB T keep A' A'') : KB T keep A A'' :=
  ⟨Nat.le_trans h.size k.size, fun j o hj hs => k.same j o (h.same j o hj hs) hs⟩
/-- .. and, beside that, all book-keeping. -/
structure RB (T : TypeId) (keep : Nat → Prop) (A A' : World) : Prop where
  size : A.heap.size ≤ A'.heap.size
  same : ∀ (k : Nat) (o : Obj), A.heap[k]? = some o → (keep k ∨ isT T o = true ∨ book o = true) → A'.heap[k]? = some o
theorem RB.refl (T : TypeId) (keep : Nat → Prop) (A : World) : RB T keep A A := ⟨Nat.le_refl _, fun _ _ h _ => h⟩
theorem RB.trans {T : TypeId} {keep : Nat → Prop} {A A' A'' : World} (h : RB T keep A A') (k : RB T keep A' A'') : RB T keep A A'' :=
  ⟨Nat.le_trans h.size k.size, fun j o hj hs => k.same j o (h.same j o hj hs) hs⟩
theorem RB.kb {T : TypeId} {keep : Nat → Prop} {A A' : World} (h : RB T keep A A') : KB T keep A A' := ⟨h.size, fun k o hk hs => h.same k o hk (hs.imp id .inl)⟩
theorem RB.alloc {T : TypeId} {keep : Nat → Prop} {A A' : World} (h : RB T keep A A') (o : Obj) : RB T keep A (A'.alloc o) :=
  h.trans ⟨by simp, fun k q hk _ => by rw [Below.heap_alloc _ _ _ (Array.getElem?_eq_some_iff.1 hk).1]; exact hk⟩
theorem RB.below {T : TypeId} {keep : Nat → Prop} {A A' A'' : World} (h : RB T keep A A') (k : Below A'.heap.size A' A'') : RB T keep A A'' :=
  h.trans ⟨k.size, fun j o hj _ => by rw [k.block j (Array.getElem?_eq_some_iff.1 hj).1]; exact hj⟩
theorem RB.drewN {T : TypeId} {keep : Nat → Prop} {A A' : World} (h : RB T keep A A') (n : Nat) : RB T keep A (A'.drewN n) := ⟨h.size, h.same⟩
theorem RB.drew {T : TypeId} {keep : Nat → Prop} {A A' : World} (h : RB T keep A A') : RB T keep A A'.drew := ⟨h.size, h.same⟩
theorem RB.step {T : TypeId} {B : Nat} {keep : Nat → Prop} {A A' A'' : World} (h : RB T keep A A') (hs : Step T B A' A'') (hB : A.heap.size ≤ B) : RB T keep A A'' :=
  ⟨Nat.le_trans h.size hs.size, fun k o hk hx => hs.same k o (h.same k o hk hx) (.inl (by have := (Array.getElem?_eq_some_iff.1 hk).1; omega))⟩
/-- A store into a block of cells that is neither kept nor of type T. -/
theorem RB.set {T : TypeId} {keep : Nat → Prop} {A A' : World} (h : RB T keep A A') {b i : Nat} {v : Value} (hb : ∀ o, A.heap[b]? = some o → ¬ keep b ∧ isT T o = false ∧ book o = false) : RB T keep A (A'.setCell ⟨b, i, none⟩ v) :=
  ⟨Nat.le_trans h.size (by simp [World.setCell]), fun k o hk hs => by
    by_cases e : k = b
    · subst e
      have := hb o hk
      exfalso
      rcases hs with x | x | x
      · exact this.1 x
      · rw [this.2.1] at x; cases x
      · rw [this.2.2] at x; cases x
    · rw [Below.heap_setCell _ _ _ _ e]; exact h.same k o hk hs⟩
/-- A law that may have written one row. -/
theorem RB.grown {T : TypeId} {keep : Nat → Prop} {A A' A'' : World} (h : RB T keep A A') {row : Option Nat} (hg : A'.grownBy A'' row) (hb : ∀ k o, row = some k → A.heap[k]? = some o → ¬ keep k ∧ isT T o = false ∧ book o = false) : RB T keep A A'' :=
  ⟨Nat.le_trans h.size hg.size, fun k o hk hs => by
    by_cases e : row = some k
    · have := hb k o e hk
      exfalso
      rcases hs with x | x | x
      · exact this.1 x
      · rw [this.2.1] at x; cases x
      · rw [this.2.2] at x; cases x
    · have h1 := h.same k o hk hs
      rw [hg.block k (Array.getElem?_eq_some_iff.1 h1).1 (fun x => e x.symm)]; exact h1⟩
/-- A round that leaves keeps the book-keeping. -/
structure RX (A A' : World) : Prop where
  size : A.heap.size ≤ A'.heap.size
  same : ∀ (k : Nat) (o : Obj), A.heap[k]? = some o → book o = true → A'.heap[k]? = some o
theorem RB.rx {T : TypeId} {keep : Nat → Prop} {A A' : World} (h : RB T keep A A') : RX A A' := ⟨h.size, fun k o hk hs => h.same k o hk (.inr (.inr hs))⟩
theorem RX.refl (A : World) : RX A A := ⟨Nat.le_refl _, fun _ _ h _ => h⟩
theorem RX.trans {A A' A'' : World} (h : RX A A') (k : RX A' A'') : RX A A'' := ⟨Nat.le_trans h.size k.size, fun j o hj hs => k.same j o (h.same j o hj hs) hs⟩
theorem RX.below {A A' A'' : World} (h : RX A A') (k : Below A'.heap.size A' A'') : RX A A'' :=
  h.trans ⟨k.size, fun j o hj _ => by rw [k.block j (Array.getElem?_eq_some_iff.1 hj).1]; exact hj⟩
theorem RX.set {A A' : World} (h : RX A A') {b i : Nat} {v : Value} (hb : ∀ o, A.heap[b]? = some o → book o = false) : RX A (A'.setCell ⟨b, i, none⟩ v) :=
  ⟨Nat.le_trans h.size (by simp [World.setCell]), fun k o hk hs => by
    by_cases e : k = b
    · subst e; rw [hb o hk] at hs; cases hs
    · rw [Below.heap_setCell _ _ _ _ e]; exact h.same k o hk hs⟩

/-- The contract of such an iterator, made in w: called in a later world it hands on the elements of L, in their order, as long as the rounds go on. -/
def IterC {α : Type} (F : Fence) (n : Nat) (P : Program) (g : Nat) (lb : Array Value) (encs : α → Array Value) (T : TypeId) (keep : Nat → Prop) (L : List α) (w : World) : Prop :=
  ∀ (l : Nat) (J Jx : List α → World → Prop) (W : World), Below w.heap.size w W →
    (∀ s A A', J s A → Step T W.heap.size A A' → J s A') → (∀ s A A', Jx s A → Step T W.heap.size A A' → Jx s A') →
    (∀ pre x rest W1, L = pre ++ x :: rest → J pre W1 → YieldAt F (n - 1) P l (encs x) W1 fun e W' =>
      (e = .returned (.bool true) ∧ J (pre ++ [x]) W' ∧ KB T keep W1 W') ∨ (e = .returned (.bool false) ∧ Jx (pre ++ [x]) W')) →
    J [] W →
    CallsIn F n P g (#[.func (.yield l) #[] #[]] ++ lb) W fun e W' => (∃ v, e = .returned v) ∧ (J L W' ∨ ∃ pre x rest, L = pre ++ x :: rest ∧ Jx (pre ++ [x]) W')

theorem IterC.inRound {α : Type} {F : Fence} {n : Nat} {P : Program} {g : Nat} {lb : Array Value} {encs : α → Array Value} {T : TypeId} {keep : Nat → Prop} {L : List α} {w : World} (l : Nat)
    (h : IterC F n P g lb encs T keep L w) : IterC (F.inRound l) n P g lb encs T keep L w := h

/-- All that is no book-keeping lies as it lay. -/
def Bk (A A' : World) : Prop := ∀ (k : Nat) (o : Obj), A.heap[k]? = some o → book o = false → A'.heap[k]? = some o

/-- How the body of a round may be left. -/
def rPost {α : Type} (T : TypeId) (keep : Nat → Prop) (I : List α → World → Prop) (Ix : Code → List α → World → Prop) (xs : List α) (W : World) : Exit → Act → World → Prop
  | .normal, _, W' => RB T keep W W' ∧ I xs W'
  | .ret, _, W' => RX W W' ∧ Ix .ret xs W'
  | .exit id, _, W' => RX W W' ∧ Ix (.exit id) xs W'
  | .goto t, _, W' => RX W W' ∧ Ix (.goto t) xs W'
  | .panic _, _, _ => False
  | .outgrown, _, _ => False

section
variable {F : Fence} {n : Nat} {P : Program} {w : World} {α : Type}

/-- one round of the loop whose record is l -/
theorem round_of {l : Nat} {fn : FuncId} {tmps : Array Value} {ps : Array Tmp} {assign body : Code} {D : Nat} {T : TypeId} {keep : Nat → Prop} {B : Nat}
    (rec : LoopState → Option Code → Loop) (hrec : rec = fun st pe => { state := st, pending := pe, fn, tmps, params := ps, assign, body, defers := D })
    (hfn : F.fn fn) (encs : α → Array Value) (hps : ∀ x, (encs x).size = ps.size)
    (I : List α → World → Prop) (Ix : Code → List α → World → Prop) (hI : ∀ s A A', I s A → Step T B A A' → I s A') (hIx : ∀ c s A A', Ix c s A → Step T B A A' → Ix c s A')
    (Ax : α → Act → World → Prop) (hAx : ∀ x a' A A', Ax x a' A → Bk A A' → Ax x a' A') (hBl : B ≤ l) (hkl : ¬ keep l)
    (pre : List α) (x : α) (W : World)
    (hassign : ∀ (W : World) (K : Act → World → Prop), I pre W → (∃ r, W.heap[l]? = some (.loop r)) → (∀ a' W', RB T keep W W' → I pre W' → Ax x a' W' → K a' W') →
      assign.wpIn (F.inRound l) n P (Exit.then K (fun _ _ _ => False)) { tmps := (ps.zip (encs x)).foldl (fun t (p, v) => t.setIfInBounds p v) tmps, defers := [] } W)
    (hbody : ∀ (a' : Act) (W : World), I pre W → (∃ r, W.heap[l]? = some (.loop r)) → Ax x a' W → body.wpIn (F.inRound l) n P (rPost T keep I Ix (pre ++ [x]) W) a' W)
    (hi : I pre W) (hl : W.heap[l]? = some (.loop (rec .ready none))) (E : World → Prop) (hE : ∀ A A', E A → RX A A' → E A') (hEb : ∀ A o, E A → E (A.putObj l o)) (he : E W) :
    YieldAt F n P l (encs x) W fun e W' =>
      (e = .returned (.bool true) ∧ (I (pre ++ [x]) W' ∧ W'.heap[l]? = some (.loop (rec .ready none)) ∧ E W') ∧ KB T keep W W') ∨
      (e = .returned (.bool false) ∧ ∃ c, Ix c (pre ++ [x]) W' ∧ W'.heap[l]? = some (.loop (rec .done (some c))) ∧ E W') := by
  have hlt : l < W.heap.size := (Array.getElem?_eq_some_iff.1 hl).1
  have hy := run_yield (P := P) (args := encs x) hl (by rw [hrec]; exact hps x)
  rw [hrec] at hy
  refine ⟨fn, _, assign, body, hy, roundIn_of_wpIn hfn (hassign W _ hi ⟨_, hl⟩ ?_)⟩
  clear hy
  intro a' Wa hrb hia hax
  have hla : Wa.heap[l]? = some (.loop (rec .ready none)) := hrb.same l _ hl (.inr (.inr rfl))
  have hlta : l < Wa.heap.size := (Array.getElem?_eq_some_iff.1 hla).1
  refine ⟨_, run_beginRound hla (by rw [hrec]), ?_⟩
  have hl2 : (Wa.putObj l (.loop { rec .ready none with state := .busy })).heap[l]? = some (.loop { rec .ready none with state := .busy }) := World.putObj_heap_same hlta
  have hst : Step T B Wa (Wa.putObj l (.loop { rec .ready none with state := .busy })) := (Step.refl T B Wa).putBook hla rfl hBl _
  have hbk : Bk Wa (Wa.putObj l (.loop { rec .ready none with state := .busy })) := fun k o hk hb => by
    by_cases e : k = l
    · subst e
      rw [hla] at hk
      injection hk with hk
      subst hk
      cases hb
    · rw [World.putObj_heap_other e]; exact hk
  have hE2 : E (Wa.putObj l (.loop { rec .ready none with state := .busy })) := hEb _ _ (hE _ _ he hrb.rx)
  have hkb1 : KB T keep W (Wa.putObj l (.loop { rec .ready none with state := .busy })) := hrb.kb.trans ⟨by simp, fun k o hk hs => by
    by_cases e : k = l
    · subst e
      rw [hla] at hk
      injection hk with hk
      subst hk
      rcases hs with x | x
      · exact absurd x hkl
      · cases x
    · rw [World.putObj_heap_other e]; exact hk⟩
  refine wpIn_mono (hbody a' _ (hI _ _ _ hia hst) ⟨_, hl2⟩ (hAx _ _ _ _ hax hbk)) ?_
  have fin : ∀ (jump : Option Code) (W3 : World), RX (Wa.putObj l (.loop { rec .ready none with state := .busy })) W3 →
      (Instr.endRound l jump).run P W3 = .ok (.bool jump.isNone) (W3.putObj l (.loop (rec (if jump.isNone then .ready else .done) jump))) ∧
      Step T B W3 (W3.putObj l (.loop (rec (if jump.isNone then .ready else .done) jump))) ∧
      (W3.putObj l (.loop (rec (if jump.isNone then .ready else .done) jump))).heap[l]? = some (.loop (rec (if jump.isNone then .ready else .done) jump)) ∧
      E (W3.putObj l (.loop (rec (if jump.isNone then .ready else .done) jump))) ∧ W3.heap[l]? = some (.loop { rec .ready none with state := .busy }) := fun jump W3 hk3 => by
    have hl3 := hk3.same _ _ hl2 rfl
    have := run_endRound (P := P) jump hl3
    rw [hrec] at this ⊢
    exact ⟨this, (Step.refl T B W3).putBook hl3 rfl hBl _, World.putObj_heap_same (Array.getElem?_eq_some_iff.1 hl3).1, hEb _ _ (hE _ _ hE2 hk3), by rw [hrec] at hl3; exact hl3⟩
  rintro e a3 W3 hp
  cases e with
  | normal =>
    obtain ⟨hk3, hi3⟩ := hp
    obtain ⟨hr, hs, hl4, hE4, hl3⟩ := fin none W3 hk3.rx
    refine ⟨_, _, hr, .inl ⟨rfl, ⟨hI _ _ _ hi3 hs, hl4, hE4⟩, hkb1.trans (hk3.kb.trans ⟨by simp, fun k o hk hs => ?_⟩)⟩⟩
    by_cases e : k = l
    · subst e
      rw [hl3] at hk
      injection hk with hk
      subst hk
      rcases hs with x | x
      · exact absurd x hkl
      · cases x
    · rw [World.putObj_heap_other e]; exact hk
  | ret =>
    obtain ⟨hk3, hi3⟩ := hp
    obtain ⟨hr, hs, hl4, hE4, _⟩ := fin (some .ret) W3 hk3
    exact ⟨_, _, hr, .inr ⟨rfl, .ret, hIx _ _ _ _ hi3 hs, hl4, hE4⟩⟩
  | exit id =>
    obtain ⟨hk3, hi3⟩ := hp
    obtain ⟨hr, hs, hl4, hE4, _⟩ := fin (some (.exit id)) W3 hk3
    exact ⟨_, _, hr, .inr ⟨rfl, .exit id, hIx _ _ _ _ hi3 hs, hl4, hE4⟩⟩
  | goto t =>
    obtain ⟨hk3, hi3⟩ := hp
    obtain ⟨hr, hs, hl4, hE4, _⟩ := fin (some (.goto t)) W3 hk3
    exact ⟨_, _, hr, .inr ⟨rfl, .goto t, hIx _ _ _ _ hi3 hs, hl4, hE4⟩⟩
  | panic ch => exact hp.elim
  | outgrown => exact hp.elim

/-- The statement, outermost. -/
theorem range_outer {g : Operand} {ps : Array Tmp} {assign body : Code} {Q : Exit → Act → World → Prop} {a : Act} {T : TypeId} {keep : Nat → Prop} {L : List α}
    (hro : F.round = none) (h1 : 1 ≤ n) {gf : Nat} {lb : Array Value} (hg : a.eval g = .func (.func gf) #[] lb) (hFg : F.fn gf) (eg : ∀ args w, (callFunc gf args).run P w = .ok (.enter gf args) w)
    {encs : α → Array Value} {w0 : World} (hseq : IterC F (n - 1) P gf lb encs T keep L w0) (hb0 : Below w0.heap.size w0 w) (hkeep : ∀ k, keep k → k < w.heap.size) (hps : ∀ x, (encs x).size = ps.size)
    (I : List α → World → Prop) (Ix : Code → List α → World → Prop) (hI : ∀ s A A', I s A → Step T w.heap.size A A' → I s A') (hIx : ∀ c s A A', Ix c s A → Step T w.heap.size A A' → Ix c s A') (h0 : I [] w)
    (Ax : α → Act → World → Prop) (hAx : ∀ x a' A A', Ax x a' A → Bk A A' → Ax x a' A')
    (hassign : ∀ (l : Nat) (pre : List α) (x : α) (rest : List α) (W : World) (K : Act → World → Prop), L = pre ++ x :: rest → I pre W → (∃ r, W.heap[l]? = some (.loop r)) → (∀ a' W', RB T keep W W' → I pre W' → Ax x a' W' → K a' W') →
      assign.wpIn (F.inRound l) (n - 1 - 1) P (Exit.then K (fun _ _ _ => False)) { tmps := (ps.zip (encs x)).foldl (fun t (p, v) => t.setIfInBounds p v) a.tmps, defers := [] } W)
    (hbody : ∀ (l : Nat) (pre : List α) (x : α) (rest : List α) (a' : Act) (W : World), L = pre ++ x :: rest → w.heap.size ≤ l → (∃ r, W.heap[l]? = some (.loop r)) → I pre W → Ax x a' W →
      body.wpIn (F.inRound l) (n - 1 - 1) P (rPost T keep I Ix (pre ++ [x]) W) a' W)
    (hdone : ∀ (D : Nat) (W : World), w.heap.size ≤ D → I L W → W.heap[D]? = some (.deferred (some [])) → Q .normal { a with defers := { target := .collected D, args := #[] } :: a.defers } W)
    (hstop : ∀ (D : Nat) (c : Code) (pre : List α) (x : α) (rest : List α) (W : World), L = pre ++ x :: rest → w.heap.size ≤ D → Ix c (pre ++ [x]) W → W.heap[D]? = some (.deferred (some [])) → c.wpIn F n P Q { a with defers := { target := .collected D, args := #[] } :: a.defers } W) :
    (Code.rangeFunc g ps assign body).wpIn F n P Q a w := by
  refine wpIn_rangeFunc ?_
  intro fn hfn
  rw [hro]
  obtain ⟨rec, hrec⟩ : ∃ rec : LoopState → Option Code → Loop, rec = fun st pe => { state := st, pending := pe, fn, tmps := a.tmps, params := ps, assign, body, defers := w.heap.size } := ⟨_, rfl⟩
  obtain ⟨W1, hW1⟩ : ∃ W1, (w.alloc (.deferred (some []))).alloc (.loop (rec .ready none)) = W1 := ⟨_, rfl⟩
  have hsz1 : W1.heap.size = w.heap.size + 2 := by rw [← hW1]; simp
  have hL1 : W1.heap[w.heap.size + 1]? = some (.loop (rec .ready none)) := by
    rw [← hW1]; have := World.alloc_heap_new (w.alloc (.deferred (some []))) (.loop (rec .ready none)); rwa [World.size_alloc] at this
  have hK1 : W1.heap[w.heap.size]? = some (.deferred (some [])) := by
    rw [← hW1]; exact (Below.heap_alloc _ _ _ (by simp)).trans (World.alloc_heap_new w _)
  have hI1 : I [] W1 := by rw [← hW1]; exact hI _ _ _ h0 (((Step.refl T _ w).alloc _).alloc _)
  have hb1 : Below w0.heap.size w0 W1 := by
    rw [← hW1]; exact hb0.trans ((((Below.refl _ w).alloc (Nat.le_refl _) _).alloc (by simp) _).mono hb0.size)
  refine ⟨w.heap.size + 1, [{ target := .collected w.heap.size, args := #[] }], W1, { target := .fn (.func gf) lb, args := #[.func (.yield (w.heap.size + 1)) #[] #[]] }, W1, gf,
    #[.func (.yield (w.heap.size + 1)) #[] #[]] ++ lb, W1, ?_, ?_, ?_, ?_, fun _ => h1, ?_⟩
  · rw [← hW1, hrec]; exact run_enterLoop_outer _ _ _ _ _
  · simp only [resolve, hg]
    simp [go_sem]
  · intro f' hf'; simp [Target.leads] at hf'; subst hf'; exact hFg
  · simp [invoke, go_sem, eg]
  · refine (hseq (w.heap.size + 1)
      (fun pre W => I pre W ∧ W.heap[w.heap.size + 1]? = some (.loop (rec .ready none)) ∧ W.heap[w.heap.size]? = some (.deferred (some [])))
      (fun pre W => ∃ c, Ix c pre W ∧ W.heap[w.heap.size + 1]? = some (.loop (rec .done (some c))) ∧ W.heap[w.heap.size]? = some (.deferred (some [])))
      W1 hb1
      (fun s A B hs hst => ⟨hI _ _ _ hs.1 (hst.mono (by omega)), hst.same _ _ hs.2.1 (.inl (by omega)), hst.same _ _ hs.2.2 (.inl (by omega))⟩)
      (fun s A B hs hst => by
        obtain ⟨c, hc, hl, hk⟩ := hs
        exact ⟨c, hIx _ _ _ _ hc (hst.mono (by omega)), hst.same _ _ hl (.inl (by omega)), hst.same _ _ hk (.inl (by omega))⟩)
      ?_ ⟨hI1, hL1, hK1⟩).mono ?_
    · rintro pre x rest W hL ⟨hi, hl, hk⟩
      have := round_of (F := F) (n := n - 1 - 1) (P := P) rec hrec hfn encs hps I Ix hI hIx Ax hAx (show w.heap.size ≤ w.heap.size + 1 by omega) (fun hk => by have := hkeep _ hk; omega) pre x W
        (fun W K hi hr hK => hassign _ pre x rest W K hL hi hr hK) (fun a' W hi hr hax => hbody _ pre x rest a' W hL (by omega) hr hi hax) hi hl
        (fun A => A.heap[w.heap.size]? = some (.deferred (some []))) (fun A A' h hx => hx.same _ _ h rfl) (fun A o h => by rw [World.putObj_heap_other (by omega)]; exact h) hk
      exact this
    · rintro e W2 ⟨⟨v, rfl⟩, (⟨hi, hl, hk⟩ | ⟨pre, x, rest, hL, c, hi, hl, hk⟩)⟩
      · refine ⟨none, _, by have := run_endLoop (P := P) hl (by rw [hrec]; simp); rw [hrec] at this; exact this, hdone _ _ (Nat.le_refl _) (hI _ _ _ hi ((Step.refl T _ W2).putBook hl rfl (by omega) _)) ((World.putObj_heap_other (by omega)).trans hk)⟩
      · exact ⟨some c, _, by have := run_endLoop (P := P) hl (by rw [hrec]; simp); rw [hrec] at this; exact this, hstop _ c pre x rest _ hL (Nat.le_refl _) (hIx _ _ _ _ hi ((Step.refl T _ W2).putBook hl rfl (by omega) _)) ((World.putObj_heap_other (by omega)).trans hk)⟩

/-- The statement within a round of loop l₀. -/
theorem range_inner {g : Operand} {ps : Array Tmp} {assign body : Code} {Q : Exit → Act → World → Prop} {a : Act} {T : TypeId} {keep : Nat → Prop} {L : List α} {l₀ : Nat} {r₀ : Loop}
    (hro : F.round = some l₀) (hl₀ : w.heap[l₀]? = some (.loop r₀)) (h1 : 1 ≤ n) {gf : Nat} {lb : Array Value} (hg : a.eval g = .func (.func gf) #[] lb) (hFg : F.fn gf) (eg : ∀ args w, (callFunc gf args).run P w = .ok (.enter gf args) w)
    {encs : α → Array Value} {w0 : World} (hseq : IterC F (n - 1) P gf lb encs T keep L w0) (hb0 : Below w0.heap.size w0 w) (hkeep : ∀ k, keep k → k < w.heap.size) (hps : ∀ x, (encs x).size = ps.size)
    (I : List α → World → Prop) (Ix : Code → List α → World → Prop) (hI : ∀ s A A', I s A → Step T w.heap.size A A' → I s A') (hIx : ∀ c s A A', Ix c s A → Step T w.heap.size A A' → Ix c s A') (h0 : I [] w)
    (Ax : α → Act → World → Prop) (hAx : ∀ x a' A A', Ax x a' A → Bk A A' → Ax x a' A')
    (hassign : ∀ (l : Nat) (pre : List α) (x : α) (rest : List α) (W : World) (K : Act → World → Prop), L = pre ++ x :: rest → I pre W → (∃ r, W.heap[l]? = some (.loop r)) → (∀ a' W', RB T keep W W' → I pre W' → Ax x a' W' → K a' W') →
      assign.wpIn (F.inRound l) (n - 1 - 1) P (Exit.then K (fun _ _ _ => False)) { tmps := (ps.zip (encs x)).foldl (fun t (p, v) => t.setIfInBounds p v) a.tmps, defers := [] } W)
    (hbody : ∀ (l : Nat) (pre : List α) (x : α) (rest : List α) (a' : Act) (W : World), L = pre ++ x :: rest → w.heap.size ≤ l → (∃ r, W.heap[l]? = some (.loop r)) → I pre W → Ax x a' W →
      body.wpIn (F.inRound l) (n - 1 - 1) P (rPost T keep I Ix (pre ++ [x]) W) a' W)
    (hdone : ∀ (W : World), I L W → Q .normal a W)
    (hstop : ∀ (c : Code) (pre : List α) (x : α) (rest : List α) (W : World), L = pre ++ x :: rest → Ix c (pre ++ [x]) W → c.wpIn F n P Q a W) :
    (Code.rangeFunc g ps assign body).wpIn F n P Q a w := by
  refine wpIn_rangeFunc ?_
  intro fn hfn
  rw [hro]
  obtain ⟨rec, hrec⟩ : ∃ rec : LoopState → Option Code → Loop, rec = fun st pe => { state := st, pending := pe, fn, tmps := a.tmps, params := ps, assign, body, defers := r₀.defers } := ⟨_, rfl⟩
  obtain ⟨W1, hW1⟩ : ∃ W1, w.alloc (.loop (rec .ready none)) = W1 := ⟨_, rfl⟩
  have hsz1 : W1.heap.size = w.heap.size + 1 := by rw [← hW1]; simp
  have hL1 : W1.heap[w.heap.size]? = some (.loop (rec .ready none)) := by rw [← hW1]; exact World.alloc_heap_new w _
  have hI1 : I [] W1 := by rw [← hW1]; exact hI _ _ _ h0 ((Step.refl T _ w).alloc _)
  have hb1 : Below w0.heap.size w0 W1 := by
    rw [← hW1]; exact hb0.trans (((Below.refl _ w).alloc (Nat.le_refl _) _).mono hb0.size)
  refine ⟨w.heap.size, [], W1, { target := .fn (.func gf) lb, args := #[.func (.yield w.heap.size) #[] #[]] }, W1, gf,
    #[.func (.yield w.heap.size) #[] #[]] ++ lb, W1, ?_, ?_, ?_, ?_, fun _ => h1, ?_⟩
  · rw [← hW1, hrec]; exact run_enterLoop_inner hl₀ _ _ _ _ _
  · simp only [resolve, hg]
    simp [go_sem]
  · intro f' hf'; simp [Target.leads] at hf'; subst hf'; exact hFg
  · simp [invoke, go_sem, eg]
  · refine (hseq w.heap.size
      (fun pre W => I pre W ∧ W.heap[w.heap.size]? = some (.loop (rec .ready none)) ∧ True)
      (fun pre W => ∃ c, Ix c pre W ∧ W.heap[w.heap.size]? = some (.loop (rec .done (some c))) ∧ True)
      W1 hb1
      (fun s A B hs hst => ⟨hI _ _ _ hs.1 (hst.mono (by omega)), hst.same _ _ hs.2.1 (.inl (by omega)), trivial⟩)
      (fun s A B hs hst => by
        obtain ⟨c, hc, hl, hk⟩ := hs
        exact ⟨c, hIx _ _ _ _ hc (hst.mono (by omega)), hst.same _ _ hl (.inl (by omega)), trivial⟩)
      ?_ ⟨hI1, hL1, trivial⟩).mono ?_
    · rintro pre x rest W hL ⟨hi, hl, hk⟩
      have := round_of (F := F) (n := n - 1 - 1) (P := P) rec hrec hfn encs hps I Ix hI hIx Ax hAx (Nat.le_refl w.heap.size) (fun hk => by have := hkeep _ hk; omega) pre x W
        (fun W K hi hr hK => hassign _ pre x rest W K hL hi hr hK) (fun a' W hi hr hax => hbody _ pre x rest a' W hL (by omega) hr hi hax) hi hl
        (fun A => True) (fun A A' h hx => trivial) (fun A o h => trivial) trivial
      exact this
    · rintro e W2 ⟨⟨v, rfl⟩, (⟨hi, hl, _⟩ | ⟨pre, x, rest, hL, c, hi, hl, _⟩)⟩
      · refine ⟨none, _, by have := run_endLoop (P := P) hl (by rw [hrec]; simp); rw [hrec] at this; exact this, hdone _ (hI _ _ _ hi ((Step.refl T _ W2).putBook hl rfl (by omega) _))⟩
      · exact ⟨some c, _, by have := run_endLoop (P := P) hl (by rw [hrec]; simp); rw [hrec] at this; exact this, hstop c pre x rest _ hL (hIx _ _ _ _ hi ((Step.refl T _ W2).putBook hl rfl (by omega) _))⟩
end
end Go.Proofs.YtbadfjogakhhbaaDoor.It
namespace Go.Proofs.YtbadfjogakhhbaaDoor.It
open Go
variable {F : Fence} {n : Nat} {P : Program} {Q : Exit → Act → World → Prop} {a : Act} {w : World} {b : Frame} {k : List Item} {cs : List Frame}

theorem stepR_scope {c : Code} : step P (lone (b.atR a (.code (.scope c) :: k)) cs w) = .next (lone (b.atR a (.code c :: .inScope c :: k)) cs w) :=
  step_lone_go (by simp [stepG, stepG.exec, Frame.atR])
theorem stepR_inScope {c : Code} : step P (lone (b.atR a (.inScope c :: k)) cs w) = .next (lone (b.atR a k) cs w) :=
  step_lone_go (by simp [stepG, stepG.exec, Frame.atR])

theorem wpIn_scope {c : Code} (h : c.wpIn F n P (Exit.noGoto Q) a w) : (Code.scope c).wpIn F n P Q a w := by
  intro b k cs hro hb hr
  have h0 : (lone (b.atR a (.code (.scope c) :: k)) cs w).fenced P F := fenced_calm hb hr rfl
  obtain ⟨e, a₁, w₁, hq, harr⟩ := h b (.inScope c :: k) cs hro hb hr
  cases e with
  | normal => exact ⟨.normal, a₁, w₁, hq, .head h0 stepR_scope (StepsIn.trans harr (.one (fenced_calm hb hr rfl) stepR_inScope))⟩
  | exit id =>
    have hx : exitTo id (.inScope c :: k) = exitTo id k := by simp [exitTo]
    exact ⟨.exit id, a₁, w₁, hq, fun k' hk => .head h0 stepR_scope (harr.1 k' (by rw [hx]; exact hk)),
      fun hr' hk => let ⟨k₁, h1, h2⟩ := harr.2 hr' (by rw [hx]; exact hk); ⟨k₁, h1, .head h0 stepR_scope h2⟩⟩
  | goto l => exact hq.elim
  | ret => exact ⟨_, a₁, w₁, hq, .of_steps (.one h0 stepR_scope) harr⟩
  | panic ch => exact ⟨_, a₁, w₁, hq, .of_steps (.one h0 stepR_scope) harr⟩
  | outgrown => exact ⟨_, a₁, w₁, hq, .of_steps (.one h0 stepR_scope) harr⟩
end Go.Proofs.YtbadfjogakhhbaaDoor.It
namespace Go.Proofs.YtbadfjogakhhbaaDoor.It
open Go
variable {F : Fence} {n l : Nat} {P : Program}

theorem opIn_round {o : Oper} {a : Act} {w : World} {K : Act → World → Prop} {Q : Exit → Act → World → Prop} (hro : F.round = none) (ho : ∀ c, o.op ≠ .defer c) (h : o.wpIn F n P a w K Q) : o.wpIn (F.inRound l) n P a w K Q := by
  unfold Oper.wpIn at *
  refine ⟨h.1, ?_⟩
  have e1 : o.semAt F.round a.eval = execOp a.eval o := Oper.semAt_eq _ _ _ ho
  have e2 : o.semAt (F.inRound l).round a.eval = execOp a.eval o := Oper.semAt_eq _ _ _ ho
  have h2 := h.2
  rw [e1] at h2
  rw [e2]
  exact h2

theorem exists_first {R : Nat → Prop} : ∀ k, R k → ∃ m, R m ∧ ∀ j, j < m → ¬ R j := by
  intro k
  induction k using Nat.strongRecOn with
  | ind k ih =>
    intro hk
    by_cases h : ∃ j, j < k ∧ R j
    · obtain ⟨j, hj, hr⟩ := h
      exact ih j hj hr
    · exact ⟨k, hk, fun j hj hr => h ⟨j, hj, hr⟩⟩

def Back (ops : Array Oper) : Prop := ∀ (j : Nat) (o : Oper), ops[j]? = some o → ∀ e ∈ o.after, e.on < j

section
variable {opsR : Array Oper} {last : Oper} {C : World → Prop} {Q : Act → Prop} {Q' : Exit → Act → World → Prop}

theorem ready_push (hback : Back opsR) {listed : Array Bool} (hs : listed.size = opsR.size) {i : Nat} (hi : i < opsR.size) :
    i ∈ Region.ready .any (opsR.push last) (listed.push false) ↔ i ∈ Region.ready .any opsR listed := by
  rw [mem_ready, mem_ready]
  have e1 : (opsR.push last)[i]? = opsR[i]? := by rw [Array.getElem?_push]; simp; omega
  have g1 : ∀ (b : Bool) (j : Nat), j < opsR.size → (listed.push false).getD j b = listed.getD j b := fun b j hj => by
    simp only [Array.getD_eq_getD_getElem?]
    rw [Array.getElem?_push]
    have : ¬ j = listed.size := by omega
    simp [this]
  rw [e1, g1 true i hi]
  constructor
  · rintro ⟨h1, o, h2, h3⟩
    exact ⟨h1, o, h2, fun e he hb => by rw [← g1 false e.on (by have := hback i o h2 e he; omega)]; exact h3 e he hb⟩
  · rintro ⟨h1, o, h2, h3⟩
    exact ⟨h1, o, h2, fun e he hb => by rw [g1 false e.on (by have := hback i o h2 e he; omega)]; exact h3 e he hb⟩

/-- Nothing may come up: all has. -/
theorem all_listed (hback : Back opsR) {listed : Array Bool} (hs : listed.size = opsR.size) (h : Region.ready .any opsR listed = []) : ∀ j, j < opsR.size → listed.getD j false = true := by
  intro j hj
  rcases hb : listed.getD j false with _ | _
  · exfalso
    obtain ⟨m, ⟨hm1, hm2⟩, hmin⟩ := exists_first (R := fun j => j < opsR.size ∧ listed.getD j false = false) j ⟨hj, hb⟩
    have : m ∈ Region.ready .any opsR listed := by
      rw [mem_ready]
      have hg : ∀ b, listed.getD m b = false := fun b => by
        simp only [Array.getD_eq_getD_getElem?] at hm2 ⊢
        rw [Array.getElem?_eq_getElem (by omega)] at hm2 ⊢
        simpa using hm2
      refine ⟨hg true, opsR[m], Array.getElem?_eq_getElem hm1, fun e he _ => ?_⟩
      have hlt := hback m _ (Array.getElem?_eq_getElem hm1) e he
      rcases hx : listed.getD e.on false with _ | _
      · exact absurd ⟨by omega, hx⟩ (hmin e.on hlt)
      · rfl
    rw [h] at this
    cases this
  · rfl
theorem wpAnyIn_last (hro : F.round = none) (hback : Back opsR) (hplain : ∀ (j : Nat) (o : Oper), opsR[j]? = some o → o.guard = none ∧ ∀ c, o.op ≠ .defer c)
    (hlg : last.guard = none) (hlw : ∀ j, j < opsR.size → ∃ e ∈ last.after, Region.binds .any e = true ∧ e.on = j) (hle : ∀ e ∈ last.after, e.on < opsR.size)
    (hL : ∀ a w, C w → Q a → last.wpIn (F.inRound l) n P a w (fun a' w' => Q' .normal a' w') Q') :
    ∀ (fuel : Nat) (listed : Array Bool) (a : Act) (w : World), listed.size = opsR.size → C w → wpAnyQIn F n P .any opsR C Q fuel listed a → wpAnyIn (F.inRound l) n P .any (opsR.push last) Q' (fuel + 1) (listed.push false) a w := by
  have wanted : ∀ (o : Oper) (v : Nat → Option Bool), o.guard = none → Region.wanted o v = true := fun o v h => by simp [Region.wanted, h]
  have hk : (opsR.push last)[opsR.size]? = some last := by simp
  have fin : ∀ (fuel : Nat) (listed : Array Bool) (a' : Act) (w' : World), listed.size = opsR.size → (∀ j, j < opsR.size → listed.getD j false = true) → Q' .normal a' w' →
      wpAnyIn (F.inRound l) n P .any (opsR.push last) Q' fuel ((listed.push false).setIfInBounds opsR.size true) a' w' := by
    intro fuel listed a' w' hs hall hq
    have hnone : Region.ready .any (opsR.push last) ((listed.push false).setIfInBounds opsR.size true) = [] := by
      rw [List.eq_nil_iff_forall_not_mem]
      intro j hj
      rw [mem_ready] at hj
      obtain ⟨h1, o, h2, _⟩ := hj
      have hlt := (Array.getElem?_eq_some_iff.1 h2).1
      simp only [Array.size_push] at hlt
      by_cases e : j = opsR.size
      · subst e
        simp only [Array.getD_eq_getD_getElem?, Array.getElem?_setIfInBounds] at h1
        simp [hs] at h1
      · have := hall j (by omega)
        simp only [Array.getD_eq_getD_getElem?] at this h1
        rw [Array.getElem?_setIfInBounds_ne (by omega), Array.getElem?_push] at h1
        have e2 : ¬ j = listed.size := by omega
        simp only [e2, if_false] at h1
        rw [Array.getElem?_eq_getElem (by omega)] at this h1
        simp only [Option.getD_some] at this h1
        rw [this] at h1
        cases h1
    cases fuel with
    | zero => exact ⟨hnone, hq⟩
    | succ f => exact ⟨fun _ => hq, fun i hi => by rw [hnone] at hi; cases hi⟩
  have gp : ∀ (listed : Array Bool) (b : Bool) (j : Nat), listed.size = opsR.size → j < opsR.size → (listed.push false).getD j b = listed.getD j b := fun listed b j hs hj => by
    simp only [Array.getD_eq_getD_getElem?]
    rw [Array.getElem?_push]
    have : ¬ j = listed.size := by omega
    simp [this]
  have lastReady : ∀ (listed : Array Bool), listed.size = opsR.size → (∀ j, j < opsR.size → listed.getD j false = true) → opsR.size ∈ Region.ready .any (opsR.push last) (listed.push false) := fun listed hs hall => by
    rw [mem_ready]
    refine ⟨by simp [Array.getD_eq_getD_getElem?, ← hs], last, hk, fun e he hb => ?_⟩
    rw [gp listed false e.on hs (hle e he)]
    exact hall _ (hle e he)
  have lastStep : ∀ (fuel : Nat) (listed : Array Bool) (a : Act) (w : World), listed.size = opsR.size → C w → (∀ j, j < opsR.size → listed.getD j false = true) → Q a →
      wpOpIn (F.inRound l) n P (opsR.push last) Q' opsR.size (wpAnyIn (F.inRound l) n P .any (opsR.push last) Q' fuel ((listed.push false).setIfInBounds opsR.size true)) a w := fun fuel listed a w hs hc hall hq => by
    unfold wpOpIn
    simp only [hk]
    rw [if_pos (wanted _ _ hlg)]
    exact Oper.wpIn_mono (fun a' w' h => fin fuel listed a' w' hs hall h) (hL a w hc hq)
  have allOf : ∀ (listed : Array Bool), listed.size = opsR.size → opsR.size ∈ Region.ready .any (opsR.push last) (listed.push false) → ∀ j, j < opsR.size → listed.getD j false = true := fun listed hs hi j hj => by
    rw [mem_ready] at hi
    obtain ⟨_, o, ho, hall⟩ := hi
    rw [hk] at ho
    cases ho
    obtain ⟨e, he, hb, rfl⟩ := hlw j hj
    rw [← gp listed false e.on hs hj]
    exact hall e he hb
  have noneOf : ∀ (listed : Array Bool), listed.size = opsR.size → (∀ j, j < opsR.size → listed.getD j false = true) → Region.ready .any opsR listed = [] := fun listed hs hall => by
    rw [List.eq_nil_iff_forall_not_mem]
    intro j hj
    rw [mem_ready] at hj
    obtain ⟨h1, o, h2, _⟩ := hj
    have hlt := (Array.getElem?_eq_some_iff.1 h2).1
    have := hall j hlt
    simp only [Array.getD_eq_getD_getElem?] at this h1
    rw [Array.getElem?_eq_getElem (by omega)] at this h1
    simp only [Option.getD_some] at this h1
    rw [this] at h1
    cases h1
  have cases_ : ∀ (listed : Array Bool) (i : Nat), i ∈ Region.ready .any (opsR.push last) (listed.push false) → i < opsR.size ∨ i = opsR.size := fun listed i hi => by
    rw [mem_ready] at hi
    obtain ⟨_, o, h2, _⟩ := hi
    have hlt := (Array.getElem?_eq_some_iff.1 h2).1
    simp only [Array.size_push] at hlt
    omega
  intro fuel
  induction fuel with
  | zero =>
    intro listed a w hs hc h
    have hall := all_listed hback hs h.1
    refine ⟨fun h0 => ?_, fun i hi => ?_⟩
    · have := lastReady listed hs hall
      rw [h0] at this
      cases this
    · rcases cases_ listed i hi with hlt | rfl
      · have := (ready_push (last := last) hback hs hlt).1 hi
        rw [h.1] at this
        cases this
      · exact lastStep 0 listed a w hs hc hall h.2
  | succ fuel ih =>
    intro listed a w hs hc h
    refine ⟨fun h0 => ?_, fun i hi => ?_⟩
    · exfalso
      by_cases hr : Region.ready .any opsR listed = []
      · have := lastReady listed hs (all_listed hback hs hr)
        rw [h0] at this
        cases this
      · obtain ⟨i, hi⟩ := List.exists_mem_of_ne_nil _ hr
        have hlt : i < opsR.size := by
          have h2 := hi
          rw [mem_ready] at h2
          obtain ⟨_, o, h2, _⟩ := h2
          exact (Array.getElem?_eq_some_iff.1 h2).1
        have := (ready_push (last := last) hback hs hlt).2 hi
        rw [h0] at this
        cases this
    · rcases cases_ listed i hi with hlt | rfl
      · have hi' := (ready_push (last := last) hback hs hlt).1 hi
        have hst := wpOpIn_of_qOpIn (Q' := Q') hro hc (fun a' w' hw' hq => ih (listed.setIfInBounds i true) a' w' (by simpa using hs) hw' hq) (h.2 i hi')
        have ei : (opsR.push last)[i]? = opsR[i]? := by
          rw [Array.getElem?_push]
          have : ¬ i = opsR.size := by omega
          simp [this]
        have el : (listed.push false).setIfInBounds i true = (listed.setIfInBounds i true).push false := by
          apply Array.ext_getElem?
          intro j
          simp only [Array.getElem?_setIfInBounds, Array.getElem?_push, Array.size_push, Array.size_setIfInBounds]
          by_cases e1 : i = j
          · subst e1
            have h0 : ¬ i = listed.size := by omega
            have h1 : i < listed.size + 1 := by omega
            have h2 : i < listed.size := by omega
            simp [h0, h1, h2]
          · by_cases e2 : j = listed.size
            · have h3 : ¬ i = listed.size := by omega
              simp [e2, h3]
            · simp [e1, e2]
        unfold wpOpIn at hst ⊢
        rw [ei, el]
        cases ho : opsR[i]? with
        | none => rw [Array.getElem?_eq_getElem hlt] at ho; cases ho
        | some o =>
          rw [ho] at hst
          simp only at hst ⊢
          obtain ⟨hg, hd⟩ := hplain i o ho
          rw [if_pos (wanted _ _ hg)] at hst ⊢
          exact opIn_round hro hd hst
      · have hall := allOf listed hs hi
        exact lastStep (fuel + 1) listed a w hs hc hall (h.1 (noneOf listed hs hall))

/-- THE LAW: the region's reads are walked once, in the text's order; behind them the last operation. -/
theorem wpIn_region_last {id : Nat} {a : Act} {w : World} {lr : List Oper} (hro : F.round = none) (hm : P.follows .mixedOrders = true) (hB : Region.lexB .any lr.toArray = true) (hback : Back lr.toArray)
    (hplain : ∀ (j : Nat) (o : Oper), lr.toArray[j]? = some o → o.guard = none ∧ ∀ c, o.op ≠ .defer c) (hlg : last.guard = none)
    (hlw : ∀ j, j < lr.toArray.size → ∃ e ∈ last.after, Region.binds .any e = true ∧ e.on = j) (hle : ∀ e ∈ last.after, e.on < lr.toArray.size)
    (h : wpQuietIn F n P lr.toArray (fun w' => ∃ m, w' = w.drewN m) (fun a' => ∀ w1, (∃ m, w1 = w.drewN m) → last.wpIn (F.inRound l) n P a' w1 (fun a' w' => Q' .normal a' w') Q') lr a) :
    (Code.region id (lr ++ [last]).toArray true).wpIn (F.inRound l) n P Q' a w := by
  have hB' := hB
  simp only [Region.lexB, Bool.and_eq_true] at hB'
  have hq := wpAnyQIn_lex (F := F) (n := n) (C := fun w' => ∃ m, w' = w.drewN m) (md := .any) hB'.1 lr 0 (Array.replicate lr.toArray.size false) a (by simp) (by simpa using hB'.2) h
  have hcl : ∀ (a' : Act) (w' : World), (∃ m, w' = w.drewN m) → (∀ w1, (∃ m, w1 = w.drewN m) → last.wpIn (F.inRound l) n P a' w1 (fun a' w' => Q' .normal a' w') Q') → last.wpIn (F.inRound l) n P a' w' (fun a' w' => Q' .normal a' w') Q' := fun a' w' hw hq => hq w' hw
  have := wpAnyIn_last (l := l) (n := n) (P := P) (C := fun w' => ∃ m, w' = w.drewN m) (Q' := Q') (last := last) hro hback hplain hlg hlw hle hcl lr.length (Array.replicate lr.toArray.size false) a w.drew (by simp) ⟨1, rfl⟩ hq
  have e1 : (lr ++ [last]).toArray = lr.toArray.push last := by simp
  rw [e1]
  refine wpIn_region_any hm ?_
  have e2 : (lr.toArray.push last).size = lr.length + 1 := by simp
  have e3 : Array.replicate (lr.toArray.push last).size false = (Array.replicate lr.toArray.size false).push false := by rw [e2]; simp [Array.replicate_succ]
  rw [e3, e2]
  exact this
def noDefer (o : Oper) : Bool := match o.op with | .defer _ => false | _ => true
/-- What is asked of such a region's operations, by looking. -/
def lastB (lr : List Oper) (last : Oper) : Bool :=
  Region.lexB .any lr.toArray && (lr.all fun o => o.guard.isNone && noDefer o) && last.guard.isNone &&
  ((List.range lr.length).all fun j => ((lr[j]?).map fun o => o.after.all fun e => decide (e.on < j)).getD true && last.after.any fun e => Region.binds .any e && decide (e.on = j)) &&
  last.after.all fun e => decide (e.on < lr.length)
theorem wpIn_region_last' {id : Nat} {a : Act} {w : World} {ops lr : List Oper} {last : Oper} (hs : ops = lr ++ [last]) (hro : F.round = none) (hm : P.follows .mixedOrders = true) (hB : lastB lr last = true)
    (h : wpQuietIn F n P lr.toArray (fun w' => ∃ m, w' = w.drewN m) (fun a' => ∀ w1, (∃ m, w1 = w.drewN m) → last.wpIn (F.inRound l) n P a' w1 (fun a' w' => Q' .normal a' w') Q') lr a) :
    (Code.region id ops.toArray true).wpIn (F.inRound l) n P Q' a w := by
  subst hs
  unfold lastB at hB
  simp only [Bool.and_eq_true] at hB
  obtain ⟨⟨⟨⟨h1, h2⟩, h3⟩, h4⟩, h5⟩ := hB
  have h2' : ∀ o ∈ lr, o.guard = none ∧ ∀ c, o.op ≠ .defer c := fun o ho => by
    have := List.all_eq_true.1 h2 o ho
    simp only [Bool.and_eq_true, Option.isNone_iff_eq_none] at this
    refine ⟨this.1, fun c hc => ?_⟩
    have h := this.2
    simp [noDefer, hc] at h
  have h4' : ∀ j, j < lr.length → (((lr[j]?).map fun o => o.after.all fun e => decide (e.on < j)).getD true = true) ∧ (last.after.any fun e => Region.binds .any e && decide (e.on = j)) = true := fun j hj => by
    have := List.all_eq_true.1 h4 j (List.mem_range.2 hj)
    simpa only [Bool.and_eq_true] using this
  refine wpIn_region_last hro hm h1 (fun j o ho e he => ?_) (fun j o ho => h2' o ?_) (Option.isNone_iff_eq_none.1 h3) (fun j hj => ?_) (fun e he => ?_) h
  · have ho' : lr[j]? = some o := by simpa using ho
    have hj := (List.getElem?_eq_some_iff.1 ho').1
    have := (h4' j hj).1
    rw [ho'] at this
    simp only [Option.map_some, Option.getD_some, Array.all_eq_true_iff_forall_mem, decide_eq_true_eq] at this
    exact this e he
  · have ho' : lr[j]? = some o := by simpa using ho
    exact List.mem_of_getElem? ho'
  · have := (h4' j (by simpa using hj)).2
    rw [Array.any_eq_true'] at this
    obtain ⟨e, he, hb⟩ := this
    simp only [Bool.and_eq_true, decide_eq_true_eq] at hb
    exact ⟨e, he, hb.1, hb.2⟩
  · rw [Array.all_eq_true_iff_forall_mem] at h5
    simpa using h5 e he
end
end Go.Proofs.YtbadfjogakhhbaaDoor.It
namespace Go.Proofs.YtbadfjogakhhbaaDoor.Q
end Go.Proofs.YtbadfjogakhhbaaDoor.Q
namespace Go.Proofs.YtbadfjogakhhbaaDoor.K
open Go.RowKit Go.Proofs.YtbadfjogakhhbaaDoorW.PrintWords
set_option linter.unusedVariables false

/-- Block b holds these cells, none of them frozen. -/
def Blk (w : World) (b : Nat) (cs : Array Value) (t : TypeId) : Prop := w.heap[b]? = some (.cells cs t (0, 0))
theorem Blk.lt {w : World} {b : Nat} {cs : Array Value} {t : TypeId} (h : Blk w b cs t) : b < w.heap.size := (Array.getElem?_eq_some_iff.1 h).1
theorem Blk.cell {w : World} {b : Nat} {cs : Array Value} {t : TypeId} (h : Blk w b cs t) (i : Nat) {v : Value} (hv : cs[i]? = some v) : w.cell? ⟨b, i, none⟩ = some v := by
  unfold Blk at h; simp [World.cell?, h, hv]
theorem Blk.free {w : World} {b : Nat} {cs : Array Value} {t : TypeId} (h : Blk w b cs t) (i : Nat) : w.frozen? ⟨b, i, none⟩ = false := by
  unfold Blk at h; simp [World.frozen?, h]
theorem Blk.set {w : World} {b : Nat} {cs : Array Value} {t : TypeId} (h : Blk w b cs t) (i : Nat) (v : Value) : Blk (w.setCell ⟨b, i, none⟩ v) b (cs.setIfInBounds i v) t := by
  unfold Blk at *; simp [World.setCell, Array.getElem?_modify, h]
theorem Blk.setOther {w : World} {b : Nat} {cs : Array Value} {t : TypeId} (h : Blk w b cs t) {a : Addr} (hne : b ≠ a.block) (v : Value) : Blk (w.setCell a v) b cs t :=
  (Below.heap_setCell w a v b hne).trans h
theorem Blk.alloc {w : World} {b : Nat} {cs : Array Value} {t : TypeId} (h : Blk w b cs t) (o : Obj) : Blk (w.alloc o) b cs t := (Below.heap_alloc w o b h.lt).trans h
theorem Blk.new (w : World) (cs : Array Value) (t : TypeId) : Blk (w.alloc (.cells cs t)) w.heap.size cs t := heap_alloc_new w _
theorem Blk.below {w w1 : World} {B b : Nat} {cs : Array Value} {t : TypeId} (h : Blk w b cs t) (hb : Below B w w1) (hlt : b < B) : Blk w1 b cs t := (hb.block b hlt).trans h
theorem Blk.drewN {w : World} {b : Nat} {cs : Array Value} {t : TypeId} (h : Blk w b cs t) (n : Nat) : Blk (w.drewN n) b cs t := h
theorem Blk.drew {w : World} {b : Nat} {cs : Array Value} {t : TypeId} (h : Blk w b cs t) : Blk w.drew b cs t := h
theorem Blk.drawn {w w1 : World} {b : Nat} {cs : Array Value} {t : TypeId} (h : Blk w b cs t) (hd : Drawn0 w w1) : Blk w1 b cs t := by obtain ⟨n, rfl⟩ := hd; exact h
theorem Blk.grown {w w1 : World} {b : Nat} {cs : Array Value} {t : TypeId} (h : Blk w b cs t) {row : Option Nat} (hg : w.grownBy w1 row) (hne : row ≠ some b) : Blk w1 b cs t :=
  (hg.block b h.lt (fun e => hne e.symm)).trans h
theorem Blk.iterAt {w : World} {b : Nat} {cs : Array Value} {t : TypeId} (h : Blk w b cs t) {k : Nat} (hne : b ≠ k) (s : ByteArray) (pos : Nat) : Blk (w.iterAt k s pos) b cs t :=
  (Lib.iterAt_other w k b s pos hne).trans h
theorem Below.iter' {B : Nat} {a w : World} (h : Below B a w) (hB : B ≤ w.heap.size) (s : ByteArray) (pos : Nat) : Below B a (w.iter s pos) := h.alloc hB _
def nth (l : List Int) : Nat → Int := fun j => l.getD j 0
theorem rd_nth (l : List Int) (i : Nat) : rd l (i : Int) = nth l i := by simp [rd, nth]
theorem nth_end (l : List Int) (j : Nat) (h : l.length ≤ j) : nth l j = 0 := by simp [nth, h]
theorem w64 {x : Int} (h : -9223372036854775808 ≤ x) (h' : x ≤ 9223372036854775807) : wrap64 x = x := by unfold wrap64; omega
theorem iw64 {x : Int} (h : -9223372036854775808 ≤ x) (h' : x ≤ 9223372036854775807) : IntKind.i64.wrap x = x := by rw [Go.Proofs.YtbadfjogakhhbaaDoorW.PrintLast.i64_w, w64 h h']
/-- A stop of the walk at an operation that a law is to meet: what does not fit is told. -/
def Hold (p : Prop) : Prop := p
theorem stopper {p : Prop} (h : Hold p) : p := h
/-- A list that lies in blocks of ok, read at v. -/
def RdK {α : Type} (d : Kd α) (w : World) (ok : Nat → Prop) (v : Value) (l : List α) : Prop := ∃ A c, v = .slice A l.length c ∧ l.length ≤ c ∧ Kd.F d w ok A l.length l
section
variable {α : Type} {d : Kd α} {w w1 : World} {v : Value} {l : List α} {ok ok' : Nat → Prop}
theorem RdK.of {e base : Nat} (h : Kd.R d e w base ok v l) : RdK d w ok v l := by
  obtain ⟨A, c, rfl⟩ := Kd.R_slice h
  exact ⟨A, c, rfl, (Kd.R_reads' h).2.1, Kd.R_F h⟩
theorem RdK.below (h : RdK d w ok v l) (hb : Below w.heap.size w w1) : RdK d w1 ok v l := by
  obtain ⟨A, c, e, hl, hf⟩ := h
  exact ⟨A, c, e, hl, Kd.F_below hf hb⟩
theorem RdK.mono (h : RdK d w ok v l) (hk : ∀ k, ok k → ok' k) : RdK d w ok' v l := by
  obtain ⟨A, c, e, hl, hf⟩ := h
  exact ⟨A, c, e, hl, Kd.F_mono hf hk⟩
theorem RdK.step (h : RdK d w ok v l) (hm : ∀ k, ok k → k < w.heap.size → w1.heap[k]? = w.heap[k]?) : RdK d w1 ok v l := by
  obtain ⟨A, c, e, hl, hf⟩ := h
  exact ⟨A, c, e, hl, Kd.F_step hf hm⟩
theorem RdK.bound (h : RdK d w ok v l) : RdK d w (fun k => ok k ∧ k < w.heap.size) v l := by
  obtain ⟨A, c, e, hl, hf⟩ := h
  exact ⟨A, c, e, hl, Kd.F_bound hf⟩
end
theorem RdK.at {w : World} {ok : Nat → Prop} {A : Option Addr} {c : Nat} {l : List Int} (h : RdK (Kd.int .i64) w ok (.slice A l.length c) l) (i : Nat) (hi : i < l.length) : ∃ ad, A = some ad ∧ w.cell? (ad.add i) = some (.int .i64 (nth l i)) := by
  obtain ⟨A', c', e, hl, hf⟩ := h
  cases e
  obtain ⟨ad, ea, hc⟩ := Kd.at_int (Kd.F_now hf) (i : Int) (by omega) (by omega)
  rw [rd_nth] at hc
  exact ⟨ad, ea, hc⟩
/-- An array of N cells out of a function of the place. -/
def arr {α : Type} (enc : α → Value) (N : Nat) (m : Nat → α) : Array Value := Array.ofFn (n := N) fun i => enc (m i)
theorem arr_size {α : Type} (enc : α → Value) (N : Nat) (m : Nat → α) : (arr enc N m).size = N := by simp [arr]
theorem arr_get {α : Type} (enc : α → Value) (N : Nat) (m : Nat → α) (j : Nat) (h : j < N) : (arr enc N m)[j]? = some (enc (m j)) := by simp [arr, h]
def upd {α : Type} (m : Nat → α) (d : Nat) (q : α) : Nat → α := fun i => if i = d then q else m i
theorem arr_set {α : Type} (enc : α → Value) (N : Nat) (m : Nat → α) (d : Nat) (q : α) (h : d < N) : (arr enc N m).setIfInBounds d (enc q) = arr enc N (upd m d q) := by
  apply Array.ext_getElem?
  intro j
  by_cases hj : j < N
  · rw [Array.getElem?_setIfInBounds, arr_get _ _ _ _ hj, arr_get _ _ _ _ hj]
    by_cases e : d = j
    · subst e; simp [arr_size, h, upd]
    · rw [if_neg e]; simp [upd, Ne.symm e]
  · rw [Array.getElem?_eq_none (by simp [arr_size]; omega), Array.getElem?_eq_none (by rw [arr_size]; omega)]
theorem arr_congr {α : Type} (enc : α → Value) (N : Nat) {m m' : Nat → α} (h : ∀ j, j < N → m j = m' j) : arr enc N m = arr enc N m' := by
  apply Array.ext_getElem?
  intro j
  by_cases hj : j < N
  · rw [arr_get _ _ _ _ hj, arr_get _ _ _ _ hj, h j hj]
  · rw [Array.getElem?_eq_none (by rw [arr_size]; omega), Array.getElem?_eq_none (by rw [arr_size]; omega)]
end Go.Proofs.YtbadfjogakhhbaaDoor.K
