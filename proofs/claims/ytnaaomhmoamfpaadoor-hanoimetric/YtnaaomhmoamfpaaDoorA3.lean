/- A part that the chapter's proofs share: contracts of the functions, and plain lemmas (part 3). -/
import Derived.RangeFuncNested
import Derived.RangeFuncBound
import Derived.RangeFuncCalls
import Derived.RangeFuncLeaves
import Derived.Shelf.Abstract
import Derived.Deep.QuietTactic
import Derived.Test.YtnaaomhmoamfpaaDoorA2
import Derived.Test.YtnaaomhmoamfpaaDoorA1
import Derived.BigRegionIn
import Derived.Sort.QuietIn
import Derived.Deep.MidRow
import Derived.Deep.WholeRow
import Derived.RangeFuncBox
import Derived.WalkKit
import Derived.OwnWalkIn
import Derived.TacticsInMore
import Derived.LoopNIn
import Derived.LoopIn
import Derived.Maps.OwnIn
import Derived.Maps.OwnSet
import Derived.DeepKeys4
import Derived.ControlIn
import Derived.WalkMore
import Derived.Stop.RegionWithIn
import Derived.Outline
/- A range over a function whose iterator keeps cells of its own (blocks of one element type T): the contract of such an iterator, and the law of the statement, outermost and within a round. -/
namespace Go.Proofs.YtnaaomhmoamfpaaDoor.It
set_option linter.unusedVariables false
set_option linter.unusedSimpArgs false
set_option linter.unusedSectionVars false
open Go.RowKit

def book : Obj → Bool | .loop _ => true | .deferred _ => true | _ => false
def isT (T : TypeId) : Obj → Bool | .cells _ t _ => t == T | _ => false
def stays (T : TypeId) (o : Obj) : Bool := !book o && !isT T o

/-- What an iterator's own steps, and the law's, may turn: blocks from B on that are cells of type T, or book-keeping. -/
structure Step (T : TypeId) (B : Nat) (A A' : World) : Prop where
  os : A'.os = A.os
  tape : A'.tape = A.tape
  output : A'.output = A.output
  size : A.heap.size ≤ A'.heap.size
  same : ∀ (k : Nat) (o : Obj), A.heap[k]? = some o → (k < B ∨ stays T o = true) → A'.heap[k]? = some o
theorem Step.refl (T : TypeId) (B : Nat) (A : World) : Step T B A A := ⟨rfl, rfl, rfl, Nat.le_refl _, fun _ _ h _ => h⟩
theorem Step.trans {T : TypeId} {B : Nat} {A A' A'' : World} (h : Step T B A A') (k : Step T B A' A'') : Step T B A A'' :=
  ⟨k.os.trans h.os, k.tape.trans h.tape, k.output.trans h.output, Nat.le_trans h.size k.size, fun j o hj hs => k.same j o (h.same j o hj hs) hs⟩
theorem Step.mono {T : TypeId} {B B' : Nat} {A A' : World} (h : Step T B' A A') (hB : B ≤ B') : Step T B A A' :=
  ⟨h.os, h.tape, h.output, h.size, fun j o hj hs => h.same j o hj (hs.imp (fun x => by omega) id)⟩
theorem Step.alloc {T : TypeId} {B : Nat} {A A' : World} (h : Step T B A A') (o : Obj) : Step T B A (A'.alloc o) :=
  h.trans ⟨rfl, rfl, rfl, by simp, fun k q hk _ => by rw [Below.heap_alloc _ _ _ (Array.getElem?_eq_some_iff.1 hk).1]; exact hk⟩
theorem Step.drewN {T : TypeId} {B : Nat} {A A' : World} (h : Step T B A A') (n : Nat) : Step T B A (A'.drewN n) := ⟨h.os, h.tape, h.output, h.size, h.same⟩
theorem Step.drew {T : TypeId} {B : Nat} {A A' : World} (h : Step T B A A') : Step T B A A'.drew := ⟨h.os, h.tape, h.output, h.size, h.same⟩
theorem Step.setT {T : TypeId} {B : Nat} {A A' : World} (h : Step T B A A') {b i : Nat} {v : Value} {cs : Array Value} {fr : Nat × Nat} (hb : A'.heap[b]? = some (.cells cs T fr)) (hB : B ≤ b) : Step T B A (A'.setCell ⟨b, i, none⟩ v) :=
  h.trans ⟨rfl, rfl, rfl, by simp [World.setCell], fun k o hk hs => by
    by_cases e : k = b
    · subst e
      rw [hb] at hk
      injection hk with hk
      subst hk
      exfalso
      rcases hs with x | x
      · omega
      · simp [stays, isT] at x
    · rw [Below.heap_setCell _ _ _ _ e]; exact hk⟩
theorem Step.putBook {T : TypeId} {B : Nat} {A A' : World} (h : Step T B A A') {l : Nat} {o : Obj} (hl : A'.heap[l]? = some o) (hb : book o = true) (hB : B ≤ l) (o' : Obj) : Step T B A (A'.putObj l o') :=
  h.trans ⟨rfl, rfl, rfl, by simp, fun k q hk hs => by
    by_cases e : k = l
    · subst e
      rw [hl] at hk
      injection hk with hk
      subst hk
      exfalso
      rcases hs with x | x
      · omega
      · simp [stays, hb] at x
    · rw [World.putObj_heap_other e]; exact hk⟩

theorem Step.below {T : TypeId} {B B0 : Nat} {w A A' : World} (h : Below B0 w A) (hs : Step T B A A') (hB : B0 ≤ B) (hw : B0 ≤ w.heap.size) : Below B0 w A' :=
  h.trans ⟨hs.os, hs.tape, hs.output, hs.size, fun k hk => by
    have hlt : k < A.heap.size := by have := h.size; omega
    have e := Array.getElem?_eq_getElem hlt
    rw [e]
    exact hs.same k _ e (.inl (by omega))⟩

/-- What a round that goes on keeps: the blocks that the iterator reads, and its own. -/
structure KB (T : TypeId) (keep : Nat → Prop) (A A' : World) : Prop where
  size : A.heap.size ≤ A'.heap.size
  same : ∀ (k : Nat) (o : Obj), A.heap[k]? = some o → (keep k ∨ isT T o = true) → A'.heap[k]? = some o
theorem KB.refl (T : TypeId) (keep : Nat → Prop) (A : World) : KB T keep A A := ⟨Nat.le_refl _, fun _ _ h _ => h⟩
theorem KB.trans {T : TypeId} {keep : Nat → Prop} {A A' A'' : World} (h : KB T keep A A') (k : KB T keep A' A'') : KB T keep A A'' :=
  ⟨Nat.le_trans h.size k.size, fun j o hj hs => k.same j o (h.same j o hj hs) hs⟩
/-- .. and, beside that, all book-keeping. -/
structure RB (T : TypeId) (keep : Nat → Prop) (A A' : World) : Prop where
  size : A.heap.size ≤ A'.heap.size
  same : ∀ (k : Nat) (o : Obj), A.heap[k]? = some o → (keep k ∨ isT T o = true ∨ book o = true) → A'.heap[k]? = some o
theorem RB.refl (T : TypeId) (keep : Nat → Prop) (A : World) : RB T keep A A := ⟨Nat.le_refl _, fun _ _ h _ => h⟩
theorem RB.trans {T : TypeId} {keep : Nat → Prop} {A A' A'' : World} (h : RB T keep A A') (k : RB T keep A' A'') : RB T keep A A'' :=
  ⟨Nat.le_trans h.size k.size, fun j o hj hs => k.same j o (h.same j o hj hs) hs⟩
theorem RB.kb {T : TypeId} {keep : Nat → Prop} {A A' : World} (h : RB T keep A A') : KB T keep A A' := ⟨h.size, fun k o hk hs => h.same k o hk (hs.imp id .inl)⟩
theorem RB.alloc {T : TypeId} {keep : Nat → Prop} {A A' : World} (h : RB T keep A A') (o : Obj) : RB T keep A (A'.alloc o) :=
  h.trans ⟨by simp, fun k q hk _ => by rw [Below.heap_alloc _ _ _ (Array.getElem?_eq_some_iff.1 hk).1]; exact hk⟩
theorem RB.below {T : TypeId} {keep : Nat → Prop} {A A' A'' : World} (h : RB T keep A A') (k : Below A'.heap.size A' A'') : RB T keep A A'' :=
  h.trans ⟨k.size, fun j o hj _ => by rw [k.block j (Array.getElem?_eq_some_iff.1 hj).1]; exact hj⟩
theorem RB.drewN {T : TypeId} {keep : Nat → Prop} {A A' : World} (h : RB T keep A A') (n : Nat) : RB T keep A (A'.drewN n) := ⟨h.size, h.same⟩
theorem RB.drew {T : TypeId} {keep : Nat → Prop} {A A' : World} (h : RB T keep A A') : RB T keep A A'.drew := ⟨h.size, h.same⟩
theorem RB.step {T : TypeId} {B : Nat} {keep : Nat → Prop} {A A' A'' : World} (h : RB T keep A A') (hs : Step T B A' A'') (hB : A.heap.size ≤ B) : RB T keep A A'' :=
  ⟨Nat.le_trans h.size hs.size, fun k o hk hx => hs.same k o (h.same k o hk hx) (.inl (by have := (Array.getElem?_eq_some_iff.1 hk).1; omega))⟩
/-- A store into a block of cells that is neither kept nor of type T. -/
theorem RB.set {T : TypeId} {keep : Nat → Prop} {A A' : World} (h : RB T keep A A') {b i : Nat} {v : Value} (hb : ∀ o, A.heap[b]? = some o → ¬ keep b ∧ isT T o = false ∧ book o = false) : RB T keep A (A'.setCell ⟨b, i, none⟩ v) :=
  ⟨Nat.le_trans h.size (by simp [World.setCell]), fun k o hk hs => by
    by_cases e : k = b
    · subst e
      have := hb o hk
      exfalso
      rcases hs with x | x | x
      · exact this.1 x
      · rw [this.2.1] at x; cases x
      · rw [this.2.2] at x; cases x
    · rw [Below.heap_setCell _ _ _ _ e]; exact h.same k o hk hs⟩
/-- A law that may have written one row. -/
theorem RB.grown {T : TypeId} {keep : Nat → Prop} {A A' A'' : World} (h : RB T keep A A') {row : Option Nat} (hg : A'.grownBy A'' row) (hb : ∀ k o, row = some k → A.heap[k]? = some o → ¬ keep k ∧ isT T o = false ∧ book o = false) : RB T keep A A'' :=
  ⟨Nat.le_trans h.size hg.size, fun k o hk hs => by
    by_cases e : row = some k
    · have := hb k o e hk
      exfalso
      rcases hs with x | x | x
      · exact this.1 x
      · rw [this.2.1] at x; cases x
      · rw [this.2.2] at x; cases x
    · have h1 := h.same k o hk hs
      rw [hg.block k (Array.getElem?_eq_some_iff.1 h1).1 (fun x => e x.symm)]; exact h1⟩
/-- A round that leaves keeps the book-keeping. -/
structure RX (A A' : World) : Prop where
  size : A.heap.size ≤ A'.heap.size
  same : ∀ (k : Nat) (o : Obj), A.heap[k]? = some o → book o = true → A'.heap[k]? = some o
theorem RB.rx {T : TypeId} {keep : Nat → Prop} {A A' : World} (h : RB T keep A A') : RX A A' := ⟨h.size, fun k o hk hs => h.same k o hk (.inr (.inr hs))⟩
theorem RX.refl (A : World) : RX A A := ⟨Nat.le_refl _, fun _ _ h _ => h⟩
theorem RX.trans {A A' A'' : World} (h : RX A A') (k : RX A' A'') : RX A A'' := ⟨Nat.le_trans h.size k.size, fun j o hj hs => k.same j o (h.same j o hj hs) hs⟩
theorem RX.below {A A' A'' : World} (h : RX A A') (k : Below A'.heap.size A' A'') : RX A A'' :=
  h.trans ⟨k.size, fun j o hj _ => by rw [k.block j (Array.getElem?_eq_some_iff.1 hj).1]; exact hj⟩
theorem RX.set {A A' : World} (h : RX A A') {b i : Nat} {v : Value} (hb : ∀ o, A.heap[b]? = some o → book o = false) : RX A (A'.setCell ⟨b, i, none⟩ v) :=
  ⟨Nat.le_trans h.size (by simp [World.setCell]), fun k o hk hs => by
    by_cases e : k = b
    · subst e; rw [hb o hk] at hs; cases hs
    · rw [Below.heap_setCell _ _ _ _ e]; exact h.same k o hk hs⟩

/-- The contract of such an iterator, made in w: called in a later world it hands on the elements of L, in their order, as long as the rounds go on. -/
def IterC {α : Type} (F : Fence) (n : Nat) (P : Program) (g : Nat) (lb : Array Value) (encs : α → Array Value) (T : TypeId) (keep : Nat → Prop) (L : List α) (w : World) : Prop :=
  ∀ (l : Nat) (J Jx : List α → World → Prop) (W : World), Below w.heap.size w W →
    (∀ s A A', J s A → Step T W.heap.size A A' → J s A') → (∀ s A A', Jx s A → Step T W.heap.size A A' → Jx s A') →
    (∀ pre x rest W1, L = pre ++ x :: rest → J pre W1 → YieldAt F (n - 1) P l (encs x) W1 fun e W' =>
      (e = .returned (.bool true) ∧ J (pre ++ [x]) W' ∧ KB T keep W1 W') ∨ (e = .returned (.bool false) ∧ Jx (pre ++ [x]) W')) →
    J [] W →
    CallsIn F n P g (#[.func (.yield l) #[] #[]] ++ lb) W fun e W' => (∃ v, e = .returned v) ∧ (J L W' ∨ ∃ pre x rest, L = pre ++ x :: rest ∧ Jx (pre ++ [x]) W')

theorem IterC.inRound {α : Type} {F : Fence} {n : Nat} {P : Program} {g : Nat} {lb : Array Value} {encs : α → Array Value} {T : TypeId} {keep : Nat → Prop} {L : List α} {w : World} (l : Nat)
    (h : IterC F n P g lb encs T keep L w) : IterC (F.inRound l) n P g lb encs T keep L w := h

/-- All that is no book-keeping lies as it lay. -/
def Bk (A A' : World) : Prop := ∀ (k : Nat) (o : Obj), A.heap[k]? = some o → book o = false → A'.heap[k]? = some o

/-- How the body of a round may be left. -/
def rPost {α : Type} (T : TypeId) (keep : Nat → Prop) (I : List α → World → Prop) (Ix : Code → List α → World → Prop) (xs : List α) (W : World) : Exit → Act → World → Prop
  | .normal, _, W' => RB T keep W W' ∧ I xs W'
  | .ret, _, W' => RX W W' ∧ Ix .ret xs W'
  | .exit id, _, W' => RX W W' ∧ Ix (.exit id) xs W'
  | .goto t, _, W' => RX W W' ∧ Ix (.goto t) xs W'
  | .panic _, _, _ => False
  | .outgrown, _, _ => False

section
variable {F : Fence} {n : Nat} {P : Program} {w : World} {α : Type}

/-- one round of the loop whose record is l -/
theorem round_of {l : Nat} {fn : FuncId} {tmps : Array Value} {ps : Array Tmp} {assign body : Code} {D : Nat} {T : TypeId} {keep : Nat → Prop} {B : Nat}
    (rec : LoopState → Option Code → Loop) (hrec : rec = fun st pe => { state := st, pending := pe, fn, tmps, params := ps, assign, body, defers := D })
    (hfn : F.fn fn) (encs : α → Array Value) (hps : ∀ x, (encs x).size = ps.size)
    (I : List α → World → Prop) (Ix : Code → List α → World → Prop) (hI : ∀ s A A', I s A → Step T B A A' → I s A') (hIx : ∀ c s A A', Ix c s A → Step T B A A' → Ix c s A')
    (Ax : α → Act → World → Prop) (hAx : ∀ x a' A A', Ax x a' A → Bk A A' → Ax x a' A') (hBl : B ≤ l) (hkl : ¬ keep l)
    (pre : List α) (x : α) (W : World)
    (hassign : ∀ (W : World) (K : Act → World → Prop), I pre W → (∃ r, W.heap[l]? = some (.loop r)) → (∀ a' W', RB T keep W W' → I pre W' → Ax x a' W' → K a' W') →
      assign.wpIn (F.inRound l) n P (Exit.then K (fun _ _ _ => False)) { tmps := (ps.zip (encs x)).foldl (fun t (p, v) => t.setIfInBounds p v) tmps, defers := [] } W)
    (hbody : ∀ (a' : Act) (W : World), I pre W → (∃ r, W.heap[l]? = some (.loop r)) → Ax x a' W → body.wpIn (F.inRound l) n P (rPost T keep I Ix (pre ++ [x]) W) a' W)
    (hi : I pre W) (hl : W.heap[l]? = some (.loop (rec .ready none))) (E : World → Prop) (hE : ∀ A A', E A → RX A A' → E A') (hEb : ∀ A o, E A → E (A.putObj l o)) (he : E W) :
    YieldAt F n P l (encs x) W fun e W' =>
      (e = .returned (.bool true) ∧ (I (pre ++ [x]) W' ∧ W'.heap[l]? = some (.loop (rec .ready none)) ∧ E W') ∧ KB T keep W W') ∨
      (e = .returned (.bool false) ∧ ∃ c, Ix c (pre ++ [x]) W' ∧ W'.heap[l]? = some (.loop (rec .done (some c))) ∧ E W') := by
  have hlt : l < W.heap.size := (Array.getElem?_eq_some_iff.1 hl).1
  have hy := run_yield (P := P) (args := encs x) hl (by rw [hrec]; exact hps x)
  rw [hrec] at hy
  refine ⟨fn, _, assign, body, hy, roundIn_of_wpIn hfn (hassign W _ hi ⟨_, hl⟩ ?_)⟩
  clear hy
  intro a' Wa hrb hia hax
  have hla : Wa.heap[l]? = some (.loop (rec .ready none)) := hrb.same l _ hl (.inr (.inr rfl))
  have hlta : l < Wa.heap.size := (Array.getElem?_eq_some_iff.1 hla).1
  refine ⟨_, run_beginRound hla (by rw [hrec]), ?_⟩
  have hl2 : (Wa.putObj l (.loop { rec .ready none with state := .busy })).heap[l]? = some (.loop { rec .ready none with state := .busy }) := World.putObj_heap_same hlta
  have hst : Step T B Wa (Wa.putObj l (.loop { rec .ready none with state := .busy })) := (Step.refl T B Wa).putBook hla rfl hBl _
  have hbk : Bk Wa (Wa.putObj l (.loop { rec .ready none with state := .busy })) := fun k o hk hb => by
    by_cases e : k = l
    · subst e
      rw [hla] at hk
      injection hk with hk
      subst hk
      cases hb
    · rw [World.putObj_heap_other e]; exact hk
  have hE2 : E (Wa.putObj l (.loop { rec .ready none with state := .busy })) := hEb _ _ (hE _ _ he hrb.rx)
  have hkb1 : KB T keep W (Wa.putObj l (.loop { rec .ready none with state := .busy })) := hrb.kb.trans ⟨by simp, fun k o hk hs => by
    by_cases e : k = l
    · subst e
      rw [hla] at hk
      injection hk with hk
      subst hk
      rcases hs with x | x
      · exact absurd x hkl
      · cases x
    · rw [World.putObj_heap_other e]; exact hk⟩
  refine wpIn_mono (hbody a' _ (hI _ _ _ hia hst) ⟨_, hl2⟩ (hAx _ _ _ _ hax hbk)) ?_
  have fin : ∀ (jump : Option Code) (W3 : World), RX (Wa.putObj l (.loop { rec .ready none with state := .busy })) W3 →
      (Instr.endRound l jump).run P W3 = .ok (.bool jump.isNone) (W3.putObj l (.loop (rec (if jump.isNone then .ready else .done) jump))) ∧
      Step T B W3 (W3.putObj l (.loop (rec (if jump.isNone then .ready else .done) jump))) ∧
      (W3.putObj l (.loop (rec (if jump.isNone then .ready else .done) jump))).heap[l]? = some (.loop (rec (if jump.isNone then .ready else .done) jump)) ∧
      E (W3.putObj l (.loop (rec (if jump.isNone then .ready else .done) jump))) ∧ W3.heap[l]? = some (.loop { rec .ready none with state := .busy }) := fun jump W3 hk3 => by
    have hl3 := hk3.same _ _ hl2 rfl
    have := run_endRound (P := P) jump hl3
    rw [hrec] at this ⊢
    exact ⟨this, (Step.refl T B W3).putBook hl3 rfl hBl _, World.putObj_heap_same (Array.getElem?_eq_some_iff.1 hl3).1, hEb _ _ (hE _ _ hE2 hk3), by rw [hrec] at hl3; exact hl3⟩
  rintro e a3 W3 hp
  cases e with
  | normal =>
    obtain ⟨hk3, hi3⟩ := hp
    obtain ⟨hr, hs, hl4, hE4, hl3⟩ := fin none W3 hk3.rx
    refine ⟨_, _, hr, .inl ⟨rfl, ⟨hI _ _ _ hi3 hs, hl4, hE4⟩, hkb1.trans (hk3.kb.trans ⟨by simp, fun k o hk hs => ?_⟩)⟩⟩
    by_cases e : k = l
    · subst e
      rw [hl3] at hk
      injection hk with hk
      subst hk
      rcases hs with x | x
      · exact absurd x hkl
      · cases x
    · rw [World.putObj_heap_other e]; exact hk
  | ret =>
    obtain ⟨hk3, hi3⟩ := hp
    obtain ⟨hr, hs, hl4, hE4, _⟩ := fin (some .ret) W3 hk3
    exact ⟨_, _, hr, .inr ⟨rfl, .ret, hIx _ _ _ _ hi3 hs, hl4, hE4⟩⟩
  | exit id =>
    obtain ⟨hk3, hi3⟩ := hp
    obtain ⟨hr, hs, hl4, hE4, _⟩ := fin (some (.exit id)) W3 hk3
    exact ⟨_, _, hr, .inr ⟨rfl, .exit id, hIx _ _ _ _ hi3 hs, hl4, hE4⟩⟩
  | goto t =>
    obtain ⟨hk3, hi3⟩ := hp
    obtain ⟨hr, hs, hl4, hE4, _⟩ := fin (some (.goto t)) W3 hk3
    exact ⟨_, _, hr, .inr ⟨rfl, .goto t, hIx _ _ _ _ hi3 hs, hl4, hE4⟩⟩
  | panic ch => exact hp.elim
  | outgrown => exact hp.elim

/-- The statement, outermost. -/
theorem range_outer {g : Operand} {ps : Array Tmp} {assign body : Code} {Q : Exit → Act → World → Prop} {a : Act} {T : TypeId} {keep : Nat → Prop} {L : List α}
    (hro : F.round = none) (h1 : 1 ≤ n) {gf : Nat} {lb : Array Value} (hg : a.eval g = .func (.func gf) #[] lb) (hFg : F.fn gf) (eg : ∀ args w, (callFunc gf args).run P w = .ok (.enter gf args) w)
    {encs : α → Array Value} {w0 : World} (hseq : IterC F (n - 1) P gf lb encs T keep L w0) (hb0 : Below w0.heap.size w0 w) (hkeep : ∀ k, keep k → k < w.heap.size) (hps : ∀ x, (encs x).size = ps.size)
    (I : List α → World → Prop) (Ix : Code → List α → World → Prop) (hI : ∀ s A A', I s A → Step T w.heap.size A A' → I s A') (hIx : ∀ c s A A', Ix c s A → Step T w.heap.size A A' → Ix c s A') (h0 : I [] w)
    (Ax : α → Act → World → Prop) (hAx : ∀ x a' A A', Ax x a' A → Bk A A' → Ax x a' A')
    (hassign : ∀ (l : Nat) (pre : List α) (x : α) (rest : List α) (W : World) (K : Act → World → Prop), L = pre ++ x :: rest → I pre W → (∃ r, W.heap[l]? = some (.loop r)) → (∀ a' W', RB T keep W W' → I pre W' → Ax x a' W' → K a' W') →
      assign.wpIn (F.inRound l) (n - 1 - 1) P (Exit.then K (fun _ _ _ => False)) { tmps := (ps.zip (encs x)).foldl (fun t (p, v) => t.setIfInBounds p v) a.tmps, defers := [] } W)
    (hbody : ∀ (l : Nat) (pre : List α) (x : α) (rest : List α) (a' : Act) (W : World), L = pre ++ x :: rest → w.heap.size ≤ l → (∃ r, W.heap[l]? = some (.loop r)) → I pre W → Ax x a' W →
      body.wpIn (F.inRound l) (n - 1 - 1) P (rPost T keep I Ix (pre ++ [x]) W) a' W)
    (hdone : ∀ (D : Nat) (W : World), w.heap.size ≤ D → I L W → W.heap[D]? = some (.deferred (some [])) → Q .normal { a with defers := { target := .collected D, args := #[] } :: a.defers } W)
    (hstop : ∀ (D : Nat) (c : Code) (pre : List α) (x : α) (rest : List α) (W : World), L = pre ++ x :: rest → w.heap.size ≤ D → Ix c (pre ++ [x]) W → W.heap[D]? = some (.deferred (some [])) → c.wpIn F n P Q { a with defers := { target := .collected D, args := #[] } :: a.defers } W) :
    (Code.rangeFunc g ps assign body).wpIn F n P Q a w := by
  refine wpIn_rangeFunc ?_
  intro fn hfn
  rw [hro]
  obtain ⟨rec, hrec⟩ : ∃ rec : LoopState → Option Code → Loop, rec = fun st pe => { state := st, pending := pe, fn, tmps := a.tmps, params := ps, assign, body, defers := w.heap.size } := ⟨_, rfl⟩
  obtain ⟨W1, hW1⟩ : ∃ W1, (w.alloc (.deferred (some []))).alloc (.loop (rec .ready none)) = W1 := ⟨_, rfl⟩
  have hsz1 : W1.heap.size = w.heap.size + 2 := by rw [← hW1]; simp
  have hL1 : W1.heap[w.heap.size + 1]? = some (.loop (rec .ready none)) := by
    rw [← hW1]; have := World.alloc_heap_new (w.alloc (.deferred (some []))) (.loop (rec .ready none)); rwa [World.size_alloc] at this
  have hK1 : W1.heap[w.heap.size]? = some (.deferred (some [])) := by
    rw [← hW1]; exact (Below.heap_alloc _ _ _ (by simp)).trans (World.alloc_heap_new w _)
  have hI1 : I [] W1 := by rw [← hW1]; exact hI _ _ _ h0 (((Step.refl T _ w).alloc _).alloc _)
  have hb1 : Below w0.heap.size w0 W1 := by
    rw [← hW1]; exact hb0.trans ((((Below.refl _ w).alloc (Nat.le_refl _) _).alloc (by simp) _).mono hb0.size)
  refine ⟨w.heap.size + 1, [{ target := .collected w.heap.size, args := #[] }], W1, { target := .fn (.func gf) lb, args := #[.func (.yield (w.heap.size + 1)) #[] #[]] }, W1, gf,
    #[.func (.yield (w.heap.size + 1)) #[] #[]] ++ lb, W1, ?_, ?_, ?_, ?_, fun _ => h1, ?_⟩
  · rw [← hW1, hrec]; exact run_enterLoop_outer _ _ _ _ _
  · simp only [resolve, hg]
    simp [go_sem]
  · intro f' hf'; simp [Target.leads] at hf'; subst hf'; exact hFg
  · simp [invoke, go_sem, eg]
  · refine (hseq (w.heap.size + 1)
      (fun pre W => I pre W ∧ W.heap[w.heap.size + 1]? = some (.loop (rec .ready none)) ∧ W.heap[w.heap.size]? = some (.deferred (some [])))
      (fun pre W => ∃ c, Ix c pre W ∧ W.heap[w.heap.size + 1]? = some (.loop (rec .done (some c))) ∧ W.heap[w.heap.size]? = some (.deferred (some [])))
      W1 hb1
      (fun s A B hs hst => ⟨hI _ _ _ hs.1 (hst.mono (by omega)), hst.same _ _ hs.2.1 (.inl (by omega)), hst.same _ _ hs.2.2 (.inl (by omega))⟩)
      (fun s A B hs hst => by
        obtain ⟨c, hc, hl, hk⟩ := hs
        exact ⟨c, hIx _ _ _ _ hc (hst.mono (by omega)), hst.same _ _ hl (.inl (by omega)), hst.same _ _ hk (.inl (by omega))⟩)
      ?_ ⟨hI1, hL1, hK1⟩).mono ?_
    · rintro pre x rest W hL ⟨hi, hl, hk⟩
      have := round_of (F := F) (n := n - 1 - 1) (P := P) rec hrec hfn encs hps I Ix hI hIx Ax hAx (show w.heap.size ≤ w.heap.size + 1 by omega) (fun hk => by have := hkeep _ hk; omega) pre x W
        (fun W K hi hr hK => hassign _ pre x rest W K hL hi hr hK) (fun a' W hi hr hax => hbody _ pre x rest a' W hL (by omega) hr hi hax) hi hl
        (fun A => A.heap[w.heap.size]? = some (.deferred (some []))) (fun A A' h hx => hx.same _ _ h rfl) (fun A o h => by rw [World.putObj_heap_other (by omega)]; exact h) hk
      exact this
    · rintro e W2 ⟨⟨v, rfl⟩, (⟨hi, hl, hk⟩ | ⟨pre, x, rest, hL, c, hi, hl, hk⟩)⟩
      · refine ⟨none, _, by have := run_endLoop (P := P) hl (by rw [hrec]; simp); rw [hrec] at this; exact this, hdone _ _ (Nat.le_refl _) (hI _ _ _ hi ((Step.refl T _ W2).putBook hl rfl (by omega) _)) ((World.putObj_heap_other (by omega)).trans hk)⟩
      · exact ⟨some c, _, by have := run_endLoop (P := P) hl (by rw [hrec]; simp); rw [hrec] at this; exact this, hstop _ c pre x rest _ hL (Nat.le_refl _) (hIx _ _ _ _ hi ((Step.refl T _ W2).putBook hl rfl (by omega) _)) ((World.putObj_heap_other (by omega)).trans hk)⟩

/-- The statement within a round of loop l₀. -/
theorem range_inner {g : Operand} {ps : Array Tmp} {assign body : Code} {Q : Exit → Act → World → Prop} {a : Act} {T : TypeId} {keep : Nat → Prop} {L : List α} {l₀ : Nat} {r₀ : Loop}
    (hro : F.round = some l₀) (hl₀ : w.heap[l₀]? = some (.loop r₀)) (h1 : 1 ≤ n) {gf : Nat} {lb : Array Value} (hg : a.eval g = .func (.func gf) #[] lb) (hFg : F.fn gf) (eg : ∀ args w, (callFunc gf args).run P w = .ok (.enter gf args) w)
    {encs : α → Array Value} {w0 : World} (hseq : IterC F (n - 1) P gf lb encs T keep L w0) (hb0 : Below w0.heap.size w0 w) (hkeep : ∀ k, keep k → k < w.heap.size) (hps : ∀ x, (encs x).size = ps.size)
    (I : List α → World → Prop) (Ix : Code → List α → World → Prop) (hI : ∀ s A A', I s A → Step T w.heap.size A A' → I s A') (hIx : ∀ c s A A', Ix c s A → Step T w.heap.size A A' → Ix c s A') (h0 : I [] w)
    (Ax : α → Act → World → Prop) (hAx : ∀ x a' A A', Ax x a' A → Bk A A' → Ax x a' A')
    (hassign : ∀ (l : Nat) (pre : List α) (x : α) (rest : List α) (W : World) (K : Act → World → Prop), L = pre ++ x :: rest → I pre W → (∃ r, W.heap[l]? = some (.loop r)) → (∀ a' W', RB T keep W W' → I pre W' → Ax x a' W' → K a' W') →
      assign.wpIn (F.inRound l) (n - 1 - 1) P (Exit.then K (fun _ _ _ => False)) { tmps := (ps.zip (encs x)).foldl (fun t (p, v) => t.setIfInBounds p v) a.tmps, defers := [] } W)
    (hbody : ∀ (l : Nat) (pre : List α) (x : α) (rest : List α) (a' : Act) (W : World), L = pre ++ x :: rest → w.heap.size ≤ l → (∃ r, W.heap[l]? = some (.loop r)) → I pre W → Ax x a' W →
      body.wpIn (F.inRound l) (n - 1 - 1) P (rPost T keep I Ix (pre ++ [x]) W) a' W)
    (hdone : ∀ (W : World), I L W → Q .normal a W)
    (hstop : ∀ (c : Code) (pre : List α) (x : α) (rest : List α) (W : World), L = pre ++ x :: rest → Ix c (pre ++ [x]) W → c.wpIn F n P Q a W) :
    (Code.rangeFunc g ps assign body).wpIn F n P Q a w := by
  refine wpIn_rangeFunc ?_
  intro fn hfn
  rw [hro]
  obtain ⟨rec, hrec⟩ : ∃ rec : LoopState → Option Code → Loop, rec = fun st pe => { state := st, pending := pe, fn, tmps := a.tmps, params := ps, assign, body, defers := r₀.defers } := ⟨_, rfl⟩
  obtain ⟨W1, hW1⟩ : ∃ W1, w.alloc (.loop (rec .ready none)) = W1 := ⟨_, rfl⟩
  have hsz1 : W1.heap.size = w.heap.size + 1 := by rw [← hW1]; simp
  have hL1 : W1.heap[w.heap.size]? = some (.loop (rec .ready none)) := by rw [← hW1]; exact World.alloc_heap_new w _
  have hI1 : I [] W1 := by rw [← hW1]; exact hI _ _ _ h0 ((Step.refl T _ w).alloc _)
  have hb1 : Below w0.heap.size w0 W1 := by
    rw [← hW1]; exact hb0.trans (((Below.refl _ w).alloc (Nat.le_refl _) _).mono hb0.size)
  refine ⟨w.heap.size, [], W1, { target := .fn (.func gf) lb, args := #[.func (.yield w.heap.size) #[] #[]] }, W1, gf,
    #[.func (.yield w.heap.size) #[] #[]] ++ lb, W1, ?_, ?_, ?_, ?_, fun _ => h1, ?_⟩
  · rw [← hW1, hrec]; exact run_enterLoop_inner hl₀ _ _ _ _ _
  · simp only [resolve, hg]
    simp [go_sem]
  · intro f' hf'; simp [Target.leads] at hf'; subst hf'; exact hFg
  · simp [invoke, go_sem, eg]
  · refine (hseq w.heap.size
      (fun pre W => I pre W ∧ W.heap[w.heap.size]? = some (.loop (rec .ready none)) ∧ True)
      (fun pre W => ∃ c, Ix c pre W ∧ W.heap[w.heap.size]? = some (.loop (rec .done (some c))) ∧ True)
      W1 hb1
      (fun s A B hs hst => ⟨hI _ _ _ hs.1 (hst.mono (by omega)), hst.same _ _ hs.2.1 (.inl (by omega)), trivial⟩)
      (fun s A B hs hst => by
        obtain ⟨c, hc, hl, hk⟩ := hs
        exact ⟨c, hIx _ _ _ _ hc (hst.mono (by omega)), hst.same _ _ hl (.inl (by omega)), trivial⟩)
      ?_ ⟨hI1, hL1, trivial⟩).mono ?_
    · rintro pre x rest W hL ⟨hi, hl, hk⟩
      have := round_of (F := F) (n := n - 1 - 1) (P := P) rec hrec hfn encs hps I Ix hI hIx Ax hAx (Nat.le_refl w.heap.size) (fun hk => by have := hkeep _ hk; omega) pre x W
        (fun W K hi hr hK => hassign _ pre x rest W K hL hi hr hK) (fun a' W hi hr hax => hbody _ pre x rest a' W hL (by omega) hr hi hax) hi hl
        (fun A => True) (fun A A' h hx => trivial) (fun A o h => trivial) trivial
      exact this
    · rintro e W2 ⟨⟨v, rfl⟩, (⟨hi, hl, _⟩ | ⟨pre, x, rest, hL, c, hi, hl, _⟩)⟩
      · refine ⟨none, _, by have := run_endLoop (P := P) hl (by rw [hrec]; simp); rw [hrec] at this; exact this, hdone _ (hI _ _ _ hi ((Step.refl T _ W2).putBook hl rfl (by omega) _))⟩
      · exact ⟨some c, _, by have := run_endLoop (P := P) hl (by rw [hrec]; simp); rw [hrec] at this; exact this, hstop c pre x rest _ hL (hIx _ _ _ _ hi ((Step.refl T _ W2).putBook hl rfl (by omega) _))⟩
end
end Go.Proofs.YtnaaomhmoamfpaaDoor.It
/- The iterator over all positions: its contract. -/
namespace Go.Proofs.YtnaaomhmoamfpaaDoor.G
set_option linter.unusedVariables false
set_option linter.unusedSimpArgs false
set_option linter.unusedSectionVars false
open Go.Proofs.YtnaaomhmoamfpaaDoor.Q Go.Proofs.YtnaaomhmoamfpaaDoor.Hn Go.Proofs.YtnaaomhmoamfpaaDoor.K Go.Proofs.YtnaaomhmoamfpaaDoor.It
open Go.RowKit Go.Shelf Go.Proofs.YtnaaomhmoamfpaaDoorW.PrintWords Go.Proofs.YtnaaomhmoamfpaaDoorW.PrintLast Go.Proofs.YtnaaomhmoamfpaaDoorW.PrintMore
attribute [local go_sem] Oper.semAt_some

def mid (P n c i j : Nat) : Int := if j < n then (if j < i then 0 else (dgt P c j : Int)) else 0
def digs (P n c i : Nat) : Array Value := #[.int .i64 (mid P n c i 0), .int .i64 (mid P n c i 1), .int .i64 (mid P n c i 2), .int .i64 (mid P n c i 3), .int .i64 (mid P n c i 4), .int .i64 (mid P n c i 5), .int .i64 (mid P n c i 6), .int .i64 (mid P n c i 7), .int .i64 (mid P n c i 8), .int .i64 (mid P n c i 9), .int .i64 (mid P n c i 10), .int .i64 (mid P n c i 11), .int .i64 (mid P n c i 12), .int .i64 (mid P n c i 13), .int .i64 (mid P n c i 14), .int .i64 (mid P n c i 15)]
theorem digs_size (P n c i : Nat) : (digs P n c i).size = 16 := rfl
theorem digs_get (P n c i j : Nat) (hj : j < 16) : (digs P n c i)[j]? = some (.int .i64 (mid P n c i j)) := by
  match j, hj with
  | 0, _ | 1, _ | 2, _ | 3, _ | 4, _ | 5, _ | 6, _ | 7, _ | 8, _ | 9, _ | 10, _ | 11, _ | 12, _ | 13, _ | 14, _ | 15, _ => rfl
  | _ + 16, h => omega
theorem digs_ext (P n c i : Nat) (cs : Array Value) (hs : cs.size = 16) (h : ∀ j, j < 16 → cs[j]? = some (.int .i64 (mid P n c i j))) : cs = digs P n c i := by
  apply Array.ext_getElem?
  intro j
  by_cases hj : j < 16
  · rw [h j hj, digs_get _ _ _ _ _ hj]
  · rw [Array.getElem?_eq_none (by omega), Array.getElem?_eq_none (by rw [digs_size]; omega)]
theorem digs_zero (P n : Nat) : digs P n 0 0 = #[.int .i64 0, .int .i64 0, .int .i64 0, .int .i64 0, .int .i64 0, .int .i64 0, .int .i64 0, .int .i64 0, .int .i64 0, .int .i64 0, .int .i64 0, .int .i64 0, .int .i64 0, .int .i64 0, .int .i64 0, .int .i64 0] := by
  have : ∀ j, mid P n 0 0 j = 0 := fun j => by simp [mid, dgt]
  simp [digs, this]
theorem digs_clear (P n c i : Nat) (hi : i < n) (hn : n ≤ 16) : (digs P n c i).setIfInBounds i (.int .i64 0) = digs P n c (i + 1) := by
  apply digs_ext
  · simp [digs_size]
  · intro j hj
    rw [Array.getElem?_setIfInBounds, digs_get _ _ _ _ _ hj]
    by_cases e : i = j
    · subst e; simp [mid, digs_size, hj]
    · rw [if_neg e]; simp only [mid]
      by_cases h1 : j < i
      · simp [h1, show j < i + 1 by omega]
      · simp [h1, show ¬ j < i + 1 by omega]
theorem digs_next (P n c i : Nat) (hP : 1 ≤ P) (hi : i < n) (hn : n ≤ 16) (h : c % P ^ i = P ^ i - 1) (hd : dgt P c i + 1 < P) :
    (digs P n c i).setIfInBounds i (.int .i64 ((dgt P c i : Int) + 1)) = digs P n (c + 1) 0 := by
  apply digs_ext
  · simp [digs_size]
  · intro j hj
    rw [Array.getElem?_setIfInBounds, digs_get _ _ _ _ _ hj]
    by_cases e : i = j
    · subst e; simp [mid, digs_size, hj, hi, carry_at hP h hd]
    · rw [if_neg e]; simp only [mid]
      by_cases h1 : j < i
      · simp [h1, carry_low hP h h1]
      · simp [h1, carry_high hP h hd (show i < j by omega)]

/-- The number that a block's digits tell. -/
def rd (P : Nat) (cs : Array Value) : Nat → Nat
  | 0 => 0
  | i + 1 => rd P cs i + P ^ i * (intOf (cs[i]?.getD undef)).toNat
theorem rd_digs (P n c : Nat) (hn : n ≤ 16) : ∀ i, i ≤ n → rd P (digs P n c 0) i = c % P ^ i := by
  intro i
  induction i with
  | zero => intro _; simp [rd, Nat.mod_one]
  | succ i ih =>
    intro hi
    rw [rd, ih (by omega), digs_get _ _ _ _ _ (by omega), Nat.pow_succ, Nat.mod_mul]
    simp [mid, show i < n by omega, intOf]
    rfl
def leftOf (P n b : Nat) (W : World) : Nat := match W.heap[b]? with
  | some (.cells cs _ _) => P ^ n - rd P cs n
  | _ => 0
theorem leftOf_digs {P n b c : Nat} {W : World} (h : Blk W b (digs P n c 0) 90) (hn : n ≤ 16) (hc : c < P ^ n) : leftOf P n b W = P ^ n - c := by
  unfold leftOf
  rw [h]
  simp only
  rw [rd_digs P n c hn n (Nat.le_refl _), Nat.mod_eq_of_lt hc]

theorem box_cells {W : World} {P n c i b : Nat} {t : TypeId} {m : Nat → Int} (h : Blk W b (digs P n c i) t) (hm : mid P n c i = m) : W.cell? ⟨b, 0, none⟩ = some (.int .i64 (m 0)) ∧ W.cell? ⟨b, 1, none⟩ = some (.int .i64 (m 1)) ∧ W.cell? ⟨b, 2, none⟩ = some (.int .i64 (m 2)) ∧ W.cell? ⟨b, 3, none⟩ = some (.int .i64 (m 3)) ∧ W.cell? ⟨b, 4, none⟩ = some (.int .i64 (m 4)) ∧ W.cell? ⟨b, 5, none⟩ = some (.int .i64 (m 5)) ∧ W.cell? ⟨b, 6, none⟩ = some (.int .i64 (m 6)) ∧ W.cell? ⟨b, 7, none⟩ = some (.int .i64 (m 7)) ∧ W.cell? ⟨b, 8, none⟩ = some (.int .i64 (m 8)) ∧ W.cell? ⟨b, 9, none⟩ = some (.int .i64 (m 9)) ∧ W.cell? ⟨b, 10, none⟩ = some (.int .i64 (m 10)) ∧ W.cell? ⟨b, 11, none⟩ = some (.int .i64 (m 11)) ∧ W.cell? ⟨b, 12, none⟩ = some (.int .i64 (m 12)) ∧ W.cell? ⟨b, 13, none⟩ = some (.int .i64 (m 13)) ∧ W.cell? ⟨b, 14, none⟩ = some (.int .i64 (m 14)) ∧ W.cell? ⟨b, 15, none⟩ = some (.int .i64 (m 15)) := by
  subst hm
  exact ⟨h.cell 0 (digs_get _ _ _ _ _ (by omega)), h.cell 1 (digs_get _ _ _ _ _ (by omega)), h.cell 2 (digs_get _ _ _ _ _ (by omega)), h.cell 3 (digs_get _ _ _ _ _ (by omega)), h.cell 4 (digs_get _ _ _ _ _ (by omega)), h.cell 5 (digs_get _ _ _ _ _ (by omega)), h.cell 6 (digs_get _ _ _ _ _ (by omega)), h.cell 7 (digs_get _ _ _ _ _ (by omega)), h.cell 8 (digs_get _ _ _ _ _ (by omega)), h.cell 9 (digs_get _ _ _ _ _ (by omega)), h.cell 10 (digs_get _ _ _ _ _ (by omega)), h.cell 11 (digs_get _ _ _ _ _ (by omega)), h.cell 12 (digs_get _ _ _ _ _ (by omega)), h.cell 13 (digs_get _ _ _ _ _ (by omega)), h.cell 14 (digs_get _ _ _ _ _ (by omega)), h.cell 15 (digs_get _ _ _ _ _ (by omega))⟩

def own2 (Bn Bp : Nat) (k : Nat) : Prop := k = Bn ∨ k = Bp

set_option maxRecDepth 100000 in
set_option maxHeartbeats 4000000 in
theorem positions_it (F : Fence) (n : Nat) (h89 : F.fn 89) (hro : F.round = none) (hn : 1 ≤ n) (Bn Bp N P : Nat) (hN : N ≤ 16) (hP : 1 ≤ P) (hP2 : P ≤ 9) (w : World) (hBn : Blk w Bn #[.int .i64 N] 3) (hBp : Blk w Bp #[.int .i64 P] 3) :
    IterC F n Tryd.prog 89 #[.pointer (some ⟨Bn, 0, none⟩), .pointer (some ⟨Bp, 0, none⟩)] (fun c => #[.agg (digs P N c 0)]) 90 (own2 Bn Bp) (List.range (P ^ N)) w := by
  cases F
  dsimp only at hro
  subst hro
  intro l J Jx W hW hJ hJx hY h0
  have hWn := hBn.below hW hBn.lt
  have hWp := hBp.below hW hBp.lt
  have hsz : W.heap.size = W.heap.size := rfl
  have hln := hWn.lt
  have hlp := hWp.lt
  clear hBn hBp
  have HJ := Aside0.mk hJ
  have HY := Aside0.mk hY
  have HN := Aside0.mk hWn
  have HPb := Aside0.mk hWp
  have H0 := Aside0.mk h0
  have HW := Aside0.mk hW
  clear hJ hJx hY hWn hWp h0 hW
  refine callsIn_of_wp Tryd.func89 rfl h89 ?_ rfl
  simp only [Tryd.ntmps89, List.size_toArray, List.length_cons, List.length_nil, Nat.reduceAdd, Nat.reduceSub, Array.replicate_succ, Array.replicate_zero, List.push_toArray, List.append_toArray, List.nil_append, List.cons_append]
  gi_wp2
  gi_loopw [] (fun wr => ∃ c, c < P ^ N ∧ Aside0 (Blk wr W.heap.size (digs P N c 0) 90) ∧ Aside0 (Blk wr Bn #[.int .i64 N] 3) ∧ Aside0 (Blk wr Bp #[.int .i64 P] 3) ∧ Aside0 (J (List.range c) wr)) (fun wr => leftOf P N W.heap.size wr)
  case atStart =>
    refine ⟨0, Nat.pow_pos hP, .mk ?_, .mk (HN.out.alloc _), .mk (HPb.out.alloc _), .mk (HJ.out _ _ _ H0.out ((Step.refl _ _ _).alloc _))⟩
    rw [digs_zero]
    exact Blk.new _ _ _
  case round =>
    obtain ⟨c, hc, HB, HN2, HP2, HJ2⟩ := hrel
    clear HN HPb H0
    have hrng : List.range (P ^ N) = List.range c ++ c :: (List.range (P ^ N - c - 1)).map (fun j => c + 1 + j) := by
      apply List.ext_getElem
      · simp; omega
      · intro i h1 h2
        simp [List.getElem_append, List.getElem_cons]
        split <;> omega
    obtain ⟨m, hm⟩ : ∃ m, mid P N c 0 = m := ⟨_, rfl⟩
    obtain ⟨q0, q1, q2, q3, q4, q5, q6, q7, q8, q9, q10, q11, q12, q13, q14, q15⟩ := box_cells HB.out hm
    obtain ⟨fn, tmps, assign, body, hy, hR⟩ := HY.out _ _ _ wr hrng HJ2.out
    try dsimp only at hy
    unfold digs at hy
    rw [hm] at hy
    have HM0 := Aside0.mk hm
    clear hm
    have HR := Aside0.mk hR
    have HRG := Aside0.mk hrng
    clear hR hrng
    gi_wp2
    refine HR.out.mono ?_
    clear q0 q1 q2 q3 q4 q5 q6 q7 q8 q9 q10 q11 q12 q13 q14 q15
    rintro e W3 (⟨rfl, hJ3, hk3⟩ | ⟨rfl, hJx3⟩)
    · have HB3 := Aside0.mk (show Blk W3 W.heap.size (digs P N c 0) 90 from hk3.same _ _ HB.out (.inr rfl))
      have HN3 := Aside0.mk (show Blk W3 Bn #[.int .i64 N] 3 from hk3.same _ _ HN2.out (.inl (.inl rfl)))
      have HP3 := Aside0.mk (show Blk W3 Bp #[.int .i64 P] 3 from hk3.same _ _ HP2.out (.inl (.inr rfl)))
      have HJ3 := Aside0.mk hJ3
      have HL := Aside0.mk (leftOf_digs HB.out hN hc)
      clear hJ3 hk3 HB HN2 HP2 HJ2 hy HR
      gi_wp2
      gi_loopw [5] (fun i wr => ∃ k : Nat, k ≤ N ∧ i = .int .i64 k ∧ c % P ^ k = P ^ k - 1 ∧ Aside0 (Blk wr W.heap.size (digs P N c k) 90) ∧ Aside0 (Blk wr Bn #[.int .i64 N] 3) ∧ Aside0 (Blk wr Bp #[.int .i64 P] 3) ∧ Aside0 (J (List.range c ++ [c]) wr)) (fun i _ => N - (intOf i).toNat)
      case atStart =>
        exact ⟨0, Nat.zero_le _, rfl, by simp [Nat.mod_one], HB3, HN3, HP3, HJ3⟩
      case round =>
        obtain ⟨k, hk, rfl, hmod, HB4, HN4, HP4, HJ4⟩ := hrel
        clear HB3 HN3 HP3 HJ3
        have HM := Aside0.mk hmod
        clear hmod
        have hcN := HN4.out.cell 0 (v := .int .i64 N) rfl
        have hcP := HP4.out.cell 0 (v := .int .i64 P) rfl
        have hfk := HB4.out.free k
        have hw1 : IntKind.i64.wrap ((P : Int) - 1) = (P : Int) - 1 := by rw [i64_w]; exact w64 (by omega) (by omega)
        have hw2 : IntKind.i64.wrap ((k : Int) + 1) = (k : Int) + 1 := by rw [i64_w]; exact w64 (by omega) (by omega)
        by_cases hlt : k < N
        · have hck : wr.cell? ⟨W.heap.size, k, none⟩ = some (.int .i64 (dgt P c k : Int)) := by
            have := HB4.out.cell k (digs_get _ _ _ _ _ (by omega))
            simpa [mid, hlt] using this
          have hi1 : (k : Int) < N := by omega
          have hd := dgt_lt (P := P) (c := c) (i := k) hP
          obtain ⟨d, hdd⟩ : ∃ d, dgt P c k = d := ⟨_, rfl⟩
          rw [hdd] at hck hd
          have HD := Aside0.mk hdd
          clear hdd
          by_cases he : d = P - 1
          · have he2 : (d : Int) = (P : Int) - 1 := by omega
            gi_wp2
            gi_quiet (fail)
            gi_wp2
            refine ⟨⟨k + 1, by omega, by simp, carry_step hP HM.out (by rw [HD.out, he]), .mk ?_, .mk ((HN4.out.drewN nq).setOther (by simp; omega) _), .mk ((HP4.out.drewN nq).setOther (by simp; omega) _), .mk (HJ.out _ _ _ HJ4.out (((Step.refl _ _ _).drewN nq).setT (HB4.out.drewN nq) (Nat.le_refl _)))⟩, by simp [intOf]; omega⟩
            have := (HB4.out.drewN nq).set k (.int .i64 0)
            rwa [digs_clear _ _ _ _ hlt hN] at this

          · have he2 : ¬ (d : Int) = (P : Int) - 1 := by omega
            gi_wp2
            gi_quiet (fail)
            gi_wp2
            have hm1 : dgt P c k + 1 < P := by rw [HD.out]; omega
            have hc1 := carry_more hP hlt hc hm1
            have hB1 := (HB4.out.drewN nq).set k (.int .i64 ((d : Int) + 1))
            rw [← HD.out, digs_next _ _ _ _ hP hlt hN HM.out hm1, HD.out] at hB1
            refine ⟨⟨c + 1, hc1, .mk hB1, .mk ((HN4.out.drewN nq).setOther (by simp; omega) _), .mk ((HP4.out.drewN nq).setOther (by simp; omega) _), .mk ?_⟩, ?_⟩
            · rw [List.range_succ]
              exact HJ.out _ _ _ HJ4.out (((Step.refl _ _ _).drewN nq).setT (HB4.out.drewN nq) (Nat.le_refl _))
            · rw [HL.out, leftOf_digs hB1 hN hc1]; omega
        · have hkN : k = N := by omega
          have hi1 : ¬ (k : Int) < N := by omega
          gi_wp2
          gi_quiet (fail)
          gi_wp2
          refine bodyPost_ret (results_none rfl _ _ _) rfl ?_
          refine ⟨⟨_, rfl⟩, .inl ?_⟩
          have hall := HM.out
          rw [hkN] at hall
          rw [← carry_all hP hall hc, List.range_succ]
          exact HJ.out _ _ _ HJ4.out ((Step.refl _ _ _).drewN nq)
    · have HX := Aside0.mk hJx3
      clear hJx3 hy HR HB HN2 HP2 HJ2
      gi_wp2
      refine bodyPost_end (results_none rfl _ _ _) rfl ?_
      exact ⟨⟨_, rfl⟩, .inr ⟨_, _, _, HRG.out, HX.out⟩⟩

set_option maxHeartbeats 1000000 in
theorem positions_calls (F : Fence) (f : Nat) (h63 : F.fn 63) (hro : F.round = none) (N P : Int) (w : World) :
    CallsIn F f Tryd.prog 63 #[.int .i64 N, .int .i64 P] w fun e w' => e = .returned (.func (.func 89) #[] #[.pointer (some ⟨w.heap.size, 0, none⟩), .pointer (some ⟨w.heap.size + 1, 0, none⟩)]) ∧ w' = (w.alloc (.cells #[.int .i64 N] 3)).alloc (.cells #[.int .i64 P] 3) := by
  refine callsIn_of_wp Tryd.func63 rfl h63 ?_ hro
  simp only [Tryd.ntmps63, List.size_toArray, List.length_cons, List.length_nil, Nat.reduceAdd, Nat.reduceSub, Array.replicate_succ, Array.replicate_zero, List.push_toArray, List.append_toArray, List.nil_append, List.cons_append]
  gi_wp2
  refine bodyPost_ret (results_tmp rfl _ _ _) rfl ?_
  exact ⟨by simp, rfl⟩
end Go.Proofs.YtnaaomhmoamfpaaDoor.G
/- The iterator over the moves from a position: its contract. -/
namespace Go.Proofs.YtnaaomhmoamfpaaDoor.G
set_option linter.unusedVariables false
set_option linter.unusedSimpArgs false
set_option linter.unusedSectionVars false
open Go.Proofs.YtnaaomhmoamfpaaDoor.Q Go.Proofs.YtnaaomhmoamfpaaDoor.Hn Go.Proofs.YtnaaomhmoamfpaaDoor.K Go.Proofs.YtnaaomhmoamfpaaDoor.It
open Go.RowKit Go.Shelf Go.Proofs.YtnaaomhmoamfpaaDoorW.PrintWords Go.Proofs.YtnaaomhmoamfpaaDoorW.PrintLast Go.Proofs.YtnaaomhmoamfpaaDoorW.PrintMore
attribute [local go_sem] Oper.semAt_some

/-- Is peg q covered by one of the first i discs? -/
def cov (l : List Int) (i : Nat) (q : Int) : Bool := (l.take i).contains q
theorem cov_zero (l : List Int) (q : Int) : cov l 0 q = false := by simp [cov]
theorem cov_succ (l : List Int) (i : Nat) (hi : i < l.length) (q : Int) : cov l (i + 1) q = (cov l i q || decide (q = nth l i)) := by
  unfold cov
  have e : nth l i = l[i] := by simp [nth, hi]
  rw [List.take_succ_eq_append_getElem hi, e, Bool.eq_iff_iff, List.contains_iff_mem, Bool.or_eq_true, List.contains_iff_mem, decide_eq_true_eq, List.mem_append, List.mem_singleton]
def movesTo (l : List Int) (i q : Nat) : List (Nat × Nat) := ((List.range q).filter (fun (t : Nat) => !cov l i (t : Int) && decide ((t : Int) ≠ nth l i))).map (fun t => (i, t))
theorem movesTo_zero (l : List Int) (i : Nat) : movesTo l i 0 = [] := rfl
theorem movesTo_succ (l : List Int) (i q : Nat) : movesTo l i (q + 1) = if cov l i (q : Int) = false ∧ (q : Int) ≠ nth l i then movesTo l i q ++ [(i, q)] else movesTo l i q := by
  unfold movesTo
  rw [List.range_succ, List.filter_append, List.map_append]
  by_cases h1 : cov l i (q : Int) = false <;> by_cases h2 : (q : Int) = nth l i <;> simp [h1, h2]
def movesAt (l : List Int) (P i : Nat) : List (Nat × Nat) := if cov l i (nth l i) = true then [] else movesTo l i P
def movesIn (l : List Int) (P n : Nat) : List (Nat × Nat) := (List.range n).flatMap (movesAt l P)
theorem movesIn_succ (l : List Int) (P n : Nat) : movesIn l P (n + 1) = movesIn l P n ++ movesAt l P n := by simp [movesIn, List.range_succ]
theorem movesIn_split (l : List Int) (P n : Nat) (h : n ≤ l.length) : ∃ r, movesIn l P l.length = movesIn l P n ++ r := by
  have key : ∀ d, n + d ≤ l.length → ∃ r, movesIn l P (n + d) = movesIn l P n ++ r := by
    intro d
    induction d with
    | zero => intro _; exact ⟨[], by simp⟩
    | succ d ih =>
      intro hd
      obtain ⟨r, hr⟩ := ih (by omega)
      exact ⟨r ++ movesAt l P (n + d), by rw [← Nat.add_assoc, movesIn_succ, hr, List.append_assoc]⟩
  obtain ⟨r, hr⟩ := key (l.length - n) (by omega)
  rw [show n + (l.length - n) = l.length by omega] at hr
  exact ⟨r, hr⟩
theorem movesTo_split (l : List Int) (i q P : Nat) (h : q ≤ P) : ∃ r, movesTo l i P = movesTo l i q ++ r := by
  have key : ∀ d, ∃ r, movesTo l i (q + d) = movesTo l i q ++ r := by
    intro d
    induction d with
    | zero => exact ⟨[], by simp⟩
    | succ d ih =>
      obtain ⟨r, hr⟩ := ih
      rw [← Nat.add_assoc, movesTo_succ]
      split
      · exact ⟨r ++ [(i, q + d)], by rw [hr, List.append_assoc]⟩
      · exact ⟨r, hr⟩
  obtain ⟨r, hr⟩ := key (P - q)
  rw [show q + (P - q) = P by omega] at hr
  exact ⟨r, hr⟩
/-- All moves. -/
def movesL (l : List Int) (P : Nat) : List (Nat × Nat) := movesIn l P l.length
theorem moves_at (l : List Int) (P i q : Nat) (hi : i < l.length) (hq : q < P) (h0 : cov l i (nth l i) = false) (h1 : cov l i (q : Int) = false) (h2 : (q : Int) ≠ nth l i) :
    ∃ r, movesL l P = (movesIn l P i ++ movesTo l i q) ++ (i, q) :: r := by
  obtain ⟨r1, e1⟩ := movesIn_split l P (i + 1) (by omega)
  obtain ⟨r2, e2⟩ := movesTo_split l i (q + 1) P (by omega)
  rw [movesTo_succ, if_pos ⟨h1, h2⟩] at e2
  refine ⟨r2 ++ r1, ?_⟩
  unfold movesL
  rw [e1, movesIn_succ, movesAt, if_neg (by simp [h0]), e2]
  simp

def covs (l : List Int) (i : Nat) : Array Value := #[.bool (cov l i 0), .bool (cov l i 1), .bool (cov l i 2), .bool (cov l i 3), .bool (cov l i 4), .bool (cov l i 5), .bool (cov l i 6), .bool (cov l i 7)]
theorem covs_size (l : List Int) (i : Nat) : (covs l i).size = 8 := rfl
theorem covs_get (l : List Int) (i j : Nat) (hj : j < 8) : (covs l i)[j]? = some (.bool (cov l i (j : Int))) := by
  match j, hj with
  | 0, _ | 1, _ | 2, _ | 3, _ | 4, _ | 5, _ | 6, _ | 7, _ => rfl
  | _ + 8, h => omega
theorem covs_ext (l : List Int) (i : Nat) (cs : Array Value) (hs : cs.size = 8) (h : ∀ j, j < 8 → cs[j]? = some (.bool (cov l i (j : Int)))) : cs = covs l i := by
  apply Array.ext_getElem?
  intro j
  by_cases hj : j < 8
  · rw [h j hj, covs_get _ _ _ hj]
  · rw [Array.getElem?_eq_none (by omega), Array.getElem?_eq_none (by rw [covs_size]; omega)]
theorem covs_zero (l : List Int) : covs l 0 = #[.bool false, .bool false, .bool false, .bool false, .bool false, .bool false, .bool false, .bool false] := by
  simp [covs, cov_zero]
theorem covs_next (l : List Int) (i : Nat) (hi : i < l.length) (f : Nat) (hf : f < 8) (e : nth l i = (f : Int)) : (covs l i).setIfInBounds f (.bool true) = covs l (i + 1) := by
  apply covs_ext
  · simp [covs_size]
  · intro j hj
    rw [Array.getElem?_setIfInBounds, covs_get _ _ _ hj, cov_succ _ _ hi, e]
    by_cases h : f = j
    · subst h; simp [covs_size, hj]
    · rw [if_neg h]
      have : ¬ (j : Int) = (f : Int) := by omega
      simp [this]

def own3 (S : Nat → Prop) (Bs Bp : Nat) (k : Nat) : Prop := (k = Bs ∨ k = Bp) ∨ S k
def Pos (l : List Int) (P : Nat) : Prop := ∀ i, i < l.length → 0 ≤ nth l i ∧ nth l i < P

theorem foot_kb {T : TypeId} {S keep : Nat → Prop} {A A' : World} {ad : Option Addr} {n : Nat} {l : List Int} (h : Kd.F (Kd.int .i64) A S ad n l) (hk : KB T keep A A') (hS : ∀ k, S k → keep k) : Kd.F (Kd.int .i64) A' S ad n l :=
  Kd.F_step h (fun k hk' hlt => by
    have e := Array.getElem?_eq_getElem hlt
    rw [e]
    exact hk.same k _ e (.inl (hS k hk')))
theorem foot_cell {S : Nat → Prop} {A : World} {ad : Addr} {l : List Int} (h : Kd.F (Kd.int .i64) A S (some ad) l.length l) (i : Nat) (hi : i < l.length) : A.cell? (ad.add i) = some (.int .i64 (nth l i)) := by
  have := Kd.foot_int (Kd.F_now h) (i : Int) (by omega) (by omega)
  rwa [rd_nth, Int.toNat_natCast] at this

set_option maxRecDepth 100000 in
set_option maxHeartbeats 4000000 in
theorem moves_it (F : Fence) (n : Nat) (h91 : F.fn 91) (hro : F.round = none) (hn : 1 ≤ n) (S : Nat → Prop) (Bs Bp P c : Nat) (ad : Addr) (l : List Int) (hl : l.length ≤ 40) (hP : P ≤ 8) (hpos : Pos l P) (w : World)
    (hBs : Blk w Bs #[.slice (some ad) l.length c] 46) (hBp : Blk w Bp #[.int .i64 P] 3) (hF : Kd.F (Kd.int .i64) w S (some ad) l.length l) (hS : ∀ k, S k → k < w.heap.size) :
    IterC F n Tryd.prog 91 #[.pointer (some ⟨Bs, 0, none⟩), .pointer (some ⟨Bp, 0, none⟩)] (fun x => #[.int .i64 (x.1 : Int), .int .i64 (x.2 : Int)]) 127 (own3 S Bs Bp) (movesL l P) w := by
  cases F
  dsimp only at hro
  subst hro
  intro lo J Jx W hW hJ hJx hY h0
  have hWs := hBs.below hW hBs.lt
  have hWp := hBp.below hW hBp.lt
  have hWF : Kd.F (Kd.int .i64) W S (some ad) l.length l := Kd.F_below hF hW
  have hlS : ∀ k, S k → k < W.heap.size := fun k hk => by have := hS k hk; have := hW.size; omega
  have hls := hWs.lt
  have hlp := hWp.lt
  have hcs := hWs.cell 0 (v := .slice (some ad) l.length c) rfl
  clear hBs hBp hF hS
  have HJ := Aside0.mk hJ
  have HY := Aside0.mk hY
  have HS := Aside0.mk hWs
  have HPb := Aside0.mk hWp
  have H0 := Aside0.mk h0
  have HF := Aside0.mk hWF
  have HLS := Aside0.mk hlS
  have HPos := Aside0.mk hpos
  clear hJ hJx hY hWs hWp h0 hW hWF hlS hpos
  refine callsIn_of_wp Tryd.func91 rfl h91 ?_ rfl
  simp only [Tryd.ntmps91, List.size_toArray, List.length_cons, List.length_nil, Nat.reduceAdd, Nat.reduceSub, Array.replicate_succ, Array.replicate_zero, List.push_toArray, List.append_toArray, List.nil_append, List.cons_append]
  gi_wp2
  clear hcs
  gi_loopw [10] (fun u wr => ∃ i : Nat, i ≤ l.length ∧ u = .int .i64 i ∧ Aside0 (Blk wr W.heap.size (covs l i) 127) ∧ Aside0 (Blk wr Bp #[.int .i64 P] 3) ∧ Aside0 (Kd.F (Kd.int .i64) wr S (some ad) l.length l) ∧ Aside0 (J (movesIn l P i) wr)) (fun u _ => l.length - (intOf u).toNat)
  case atStart =>
    refine ⟨0, Nat.zero_le _, rfl, .mk ?_, .mk (HPb.out.alloc _), .mk (Kd.F_alloc HF.out _), .mk (HJ.out _ _ _ H0.out ((Step.refl _ _ _).alloc _))⟩
    rw [covs_zero]
    exact Blk.new _ _ _
  case round =>
    obtain ⟨i, hi, rfl, HB, HP2, HF2, HJ2⟩ := hrel
    clear HPb HF H0 HS
    by_cases hlt : i < l.length
    · have hi1 : (i : Int) < (l.length : Int) := by omega
      have hcell := foot_cell HF2.out i hlt
      obtain ⟨g1, g2⟩ := HPos.out i hlt
      obtain ⟨f, hf⟩ := Int.eq_ofNat_of_zero_le g1
      have hf8 : f < 8 := by omega
      rw [hf] at hcell
      have hcf := HB.out.cell f (covs_get l i f hf8)
      have hff := HB.out.free f
      have hcp := HP2.out.cell 0 (v := .int .i64 P) rfl
      have HFF := Aside0.mk hf
      clear hf g1 g2
      have hw1 : IntKind.i64.wrap ((i : Int) + 1) = (i : Int) + 1 := by rw [i64_w]; exact w64 (by omega) (by omega)
      by_cases hco : cov l i (f : Int) = true
      · rw [hco] at hcf
        gi_wp2
        refine ⟨⟨i + 1, by omega, by simp, .mk ?_, .mk (HP2.out.setOther (by simp; omega) _), .mk (Kd.F_far HF2.out (fun k hk => by have := HLS.out k hk; simp; omega) _), .mk ?_⟩, by simp [intOf]; omega⟩
        · rw [← covs_next l i hlt f hf8 HFF.out]; exact HB.out.set f _
        · rw [movesIn_succ, movesAt, if_pos (by rw [HFF.out]; exact hco), List.append_nil]
          exact HJ.out _ _ _ HJ2.out ((Step.refl _ _ _).setT HB.out (Nat.le_refl _))
      · have hco2 : cov l i (f : Int) = false := by simpa using hco
        rw [hco2] at hcf
        have HCO := Aside0.mk hco2
        clear hco hco2
        gi_wp2
        clear hcell hcf hff hcp
        gi_loopw [20] (fun u wr => ∃ q : Nat, q ≤ P ∧ u = .int .i64 q ∧ Aside0 (Blk wr W.heap.size (covs l i) 127) ∧ Aside0 (Blk wr Bp #[.int .i64 P] 3) ∧ Aside0 (Kd.F (Kd.int .i64) wr S (some ad) l.length l) ∧ Aside0 (J (movesIn l P i ++ movesTo l i q) wr)) (fun u _ => P - (intOf u).toNat)
        case atStart =>
          exact ⟨0, Nat.zero_le _, rfl, HB, HP2, HF2, .mk (by rw [movesTo_zero, List.append_nil]; exact HJ2.out)⟩
        case round =>
          obtain ⟨q, hq, rfl, HB3, HP3, HF3, HJ3⟩ := hrel
          clear HB HP2 HF2 HJ2
          have hff := HB3.out.free f
          by_cases hqP : q < P
          · have hi2 : (q : Int) < (P : Int) := by omega
            have hcq := HB3.out.cell q (covs_get l i q (by omega))
            have hw2 : IntKind.i64.wrap ((q : Int) + 1) = (q : Int) + 1 := by rw [i64_w]; exact w64 (by omega) (by omega)
            by_cases hcv : cov l i (q : Int) = true
            · rw [hcv] at hcq
              have HV := Aside0.mk hcv
              clear hcv
              gi_wp2
              refine ⟨fun _ h => (by cases h), ?_⟩
              gi_wp2
              exact ⟨⟨q + 1, by omega, by simp, HB3, HP3, HF3, .mk (by rw [movesTo_succ, if_neg (by rw [HV.out]; simp)]; exact HJ3.out)⟩, by simp [intOf]; omega⟩
            · have hcv2 : cov l i (q : Int) = false := by simpa using hcv
              rw [hcv2] at hcq
              have HV := Aside0.mk hcv2
              clear hcv hcv2
              by_cases hqf : q = f
              · subst hqf
                gi_wp2
                refine ⟨fun _ h => (by cases h), ?_⟩
                gi_wp2
                exact ⟨⟨q + 1, by omega, by simp, HB3, HP3, HF3, .mk (by rw [movesTo_succ, if_neg (fun h => h.2 HFF.out.symm)]; exact HJ3.out)⟩, by simp [intOf]; omega⟩
              · have hqf2 : ¬ (q : Int) = (f : Int) := by omega
                obtain ⟨r, hr⟩ := moves_at l P i q hlt hqP (by rw [HFF.out]; exact HCO.out) HV.out (by rw [HFF.out]; exact hqf2)
                obtain ⟨fn, tmps, assign, body, hy, hR⟩ := HY.out _ _ _ _ hr HJ3.out
                dsimp only at hy
                have HRG := Aside0.mk hr
                have HR := Aside0.mk hR
                clear hr hR
                gi_wp2
                refine HR.out.mono ?_
                rintro e W3 (⟨rfl, hJ3, hk3⟩ | ⟨rfl, hJx3⟩)
                · have HB4 := Aside0.mk (show Blk W3 W.heap.size (covs l i) 127 from hk3.same _ _ HB3.out (.inr rfl))
                  have HP4 := Aside0.mk (show Blk W3 Bp #[.int .i64 P] 3 from hk3.same _ _ HP3.out (.inl (.inl (.inr rfl))))
                  have HF4 := Aside0.mk (foot_kb HF3.out hk3 (fun k hk => .inr hk))
                  have HJ4 := Aside0.mk hJ3
                  clear hJ3 hk3 HB3 HP3 HF3 HJ3 hy HR hcq hff
                  gi_wp2
                  exact ⟨⟨q + 1, by omega, by simp, HB4, HP4, HF4, .mk (by rw [movesTo_succ, if_pos ⟨HV.out, by rw [HFF.out]; exact hqf2⟩, ← List.append_assoc]; exact HJ4.out)⟩, by simp [intOf]; omega⟩
                · have HX := Aside0.mk hJx3
                  clear hJx3 HB3 HP3 HF3 HJ3 hy HR hcq hff
                  gi_wp2
                  refine bodyPost_ret (results_none rfl _ _ _) rfl ?_
                  exact ⟨⟨_, rfl⟩, .inr ⟨_, _, _, HRG.out, HX.out⟩⟩
          · have hi2 : ¬ (q : Int) < (P : Int) := by omega
            have hqP2 : q = P := by omega
            have hcf := HB3.out.cell f (covs_get l i f hf8)
            gi_wp2
            refine ⟨⟨i + 1, by omega, by simp, .mk ?_, .mk (HP3.out.setOther (by simp; omega) _), .mk (Kd.F_far HF3.out (fun k hk => by have := HLS.out k hk; simp; omega) _), .mk ?_⟩, by simp [intOf]; omega⟩
            · rw [← covs_next l i hlt f hf8 HFF.out]; exact HB3.out.set f _
            · rw [movesIn_succ, movesAt, if_neg (by rw [HFF.out, HCO.out]; simp), show movesTo l i P = movesTo l i q by rw [hqP2]]
              exact HJ.out _ _ _ HJ3.out ((Step.refl _ _ _).setT HB3.out (Nat.le_refl _))
    · have hi1 : ¬ (i : Int) < (l.length : Int) := by omega
      have hil : i = l.length := by omega
      gi_wp2
      refine bodyPost_end (results_none rfl _ _ _) rfl ?_
      exact ⟨⟨_, rfl⟩, .inl (by unfold movesL; rw [← hil]; exact HJ2.out)⟩

set_option maxHeartbeats 1000000 in
theorem moves_calls (F : Fence) (f : Nat) (h67 : F.fn 67) (hro : F.round = none) (A : Option Addr) (n c : Nat) (P : Int) (w : World) :
    CallsIn F f Tryd.prog 67 #[.slice A n c, .int .i64 P] w fun e w' => e = .returned (.func (.func 91) #[] #[.pointer (some ⟨w.heap.size, 0, none⟩), .pointer (some ⟨w.heap.size + 1, 0, none⟩)]) ∧ w' = (w.alloc (.cells #[.slice A n c] 46)).alloc (.cells #[.int .i64 P] 3) := by
  refine callsIn_of_wp Tryd.func67 rfl h67 ?_ hro
  simp only [Tryd.ntmps67, List.size_toArray, List.length_cons, List.length_nil, Nat.reduceAdd, Nat.reduceSub, Array.replicate_succ, Array.replicate_zero, List.push_toArray, List.append_toArray, List.nil_append, List.cons_append]
  gi_wp2
  refine bodyPost_ret (results_tmp rfl _ _ _) rfl ?_
  exact ⟨by simp, rfl⟩
end Go.Proofs.YtnaaomhmoamfpaaDoor.G
/- A search by levels: what it finds is the least number of steps. -/
namespace Go.Proofs.YtnaaomhmoamfpaaDoor.Bf
set_option linter.unusedVariables false
set_option linter.unusedSimpArgs false
set_option linter.unusedSectionVars false

section
variable {α : Type} [DecidableEq α] (next : α → List α) (start : α)

/-- What is reached in at most k steps. -/
def ball : Nat → List α
  | 0 => [start]
  | k + 1 => ball k ++ (ball k).flatMap next
def least (target : α) (N : Nat) : Nat := ((List.range N).find? (fun k => (ball next start k).contains target)).getD 0

variable {next start}
theorem ball_succ {k : Nat} {x : α} : x ∈ ball next start (k + 1) ↔ x ∈ ball next start k ∨ ∃ y, y ∈ ball next start k ∧ x ∈ next y := by
  simp [ball, List.mem_append, List.mem_flatMap]
theorem ball_mono {j k : Nat} (h : j ≤ k) {x : α} (hx : x ∈ ball next start j) : x ∈ ball next start k := by
  induction k with
  | zero => obtain rfl : j = 0 := by omega
            exact hx
  | succ k ih =>
    by_cases e : j = k + 1
    · rw [← e]; exact hx
    · exact ball_succ.2 (.inl (ih (by omega)))

/-- x is reached in d steps, and in no fewer. -/
def Exact (next : α → List α) (start : α) (x : α) (d : Nat) : Prop := x ∈ ball next start d ∧ ∀ j, j < d → x ∉ ball next start j
theorem Exact.unique {x : α} {d e : Nat} (h : Exact next start x d) (k : Exact next start x e) : d = e := by
  rcases Nat.lt_trichotomy d e with h1 | h1 | h1
  · exact absurd h.1 (k.2 d h1)
  · exact h1
  · exact absurd k.1 (h.2 e h1)
theorem least_exact {t : α} {d N : Nat} (h : Exact next start t d) (hd : d < N) : least next start t N = d := by
  unfold least
  have : (List.range N).find? (fun k => (ball next start k).contains t) = some d := by
    rw [List.find?_range_eq_some]
    refine ⟨by simpa using h.1, by simpa using hd, fun j hj => ?_⟩
    simpa using h.2 j hj
  rw [this]; rfl
theorem least_none {t : α} {N : Nat} (h : ∀ k, t ∉ ball next start k) : least next start t N = 0 := by
  unfold least
  have : (List.range N).find? (fun k => (ball next start k).contains t) = none := by
    rw [List.find?_eq_none]
    intro k _
    simpa using h k
  rw [this]; rfl

/-- What is seen, and at which depth. -/
abbrev Se (α : Type) := α → Option Nat
def Se.put (S : Se α) (x : α) (d : Nat) : Se α := fun y => if y = x then some d else S y
theorem Se.put_same (S : Se α) (x : α) (d : Nat) : S.put x d x = some d := by simp [Se.put]
theorem Se.put_other (S : Se α) {x y : α} (d : Nat) (h : y ≠ x) : S.put x d y = S y := by simp [Se.put, h]

structure St (next : α → List α) (start : α) (S : Se α) (A B : List α) (d : Nat) : Prop where
  exact : ∀ x e, S x = some e → Exact next start x e
  a : ∀ x, x ∈ A → S x = some d
  b : ∀ x, x ∈ B ↔ S x = some (d + 1)
  all : ∀ x, x ∈ ball next start d → (S x).isSome = true
  top : ∀ x e, S x = some e → e ≤ d + 1
  gone : ∀ x, x ∈ ball next start d → x ∉ A → ∀ t, t ∈ next x → (S t).isSome = true

theorem St.begin : St next start (fun x => if x = start then some 0 else none) [start] [] 0 where
  exact x e h := by
    by_cases hx : x = start
    · subst hx; simp at h; subst h; exact ⟨by simp [ball], fun j hj => by omega⟩
    · simp [hx] at h
  a x h := by simp at h; simp [h]
  b x := by by_cases hx : x = start <;> simp [hx]
  all x h := by simp [ball] at h; simp [h]
  top x e h := by
    by_cases hx : x = start
    · simp [hx] at h; omega
    · simp [hx] at h
  gone x h hn := by simp [ball] at h; simp [h] at hn

/-- The level is done: the next one. -/
theorem St.turn {S : Se α} {B : List α} {d : Nat} (h : St next start S [] B d) : St next start S B [] (d + 1) where
  exact := h.exact
  a x hx := (h.b x).1 hx
  b x := by
    constructor
    · intro hx; cases hx
    · intro hx
      have := h.top x _ hx
      omega
  top x e hx := by have := h.top x e hx; omega
  all x hx := by
    obtain hb | ⟨y, hy, hxy⟩ := ball_succ.1 hx
    · exact h.all x hb
    · exact h.gone y hy (by simp) x hxy
  gone x hx hn t ht := by
    obtain hb | ⟨y, hy, hxy⟩ := ball_succ.1 hx
    · exact h.gone x hb (by simp) t ht
    · have hs := h.gone y hy (by simp) x hxy
      obtain ⟨e, he⟩ := Option.isSome_iff_exists.1 hs
      by_cases hb : x ∈ ball next start d
      · exact h.gone x hb (by simp) t ht
      · have : Exact next start x (d + 1) := ⟨hx, fun j hj hj' => hb (ball_mono (by omega) hj')⟩
        have e2 := (h.exact x e he).unique this
        subst e2
        exact absurd ((h.b x).2 he) hn
theorem St.never {S : Se α} {d : Nat} (h : St next start S [] [] d) {t : α} (ht : S t = none) (k : Nat) : t ∉ ball next start k := by
  have key : ∀ j, St next start S [] [] (d + j) := by
    intro j
    induction j with
    | zero => exact h
    | succ j ih => exact ih.turn
  intro hk
  have := (key k).all t (ball_mono (by omega) hk)
  rw [ht] at this
  cases this

/-- s is being worked on: the steps of `done` have been looked at. -/
structure Mid (next : α → List α) (start : α) (S : Se α) (s : α) (done A B : List α) (d : Nat) : Prop where
  exact : ∀ x e, S x = some e → Exact next start x e
  at_ : S s = some d
  a : ∀ x, x ∈ A → S x = some d
  b : ∀ x, x ∈ B ↔ S x = some (d + 1)
  all : ∀ x, x ∈ ball next start d → (S x).isSome = true
  top : ∀ x e, S x = some e → e ≤ d + 1
  gone : ∀ x, x ∈ ball next start d → x ∉ A → x ≠ s → ∀ t, t ∈ next x → (S t).isSome = true
  done_ : ∀ t, t ∈ done → (S t).isSome = true
theorem St.pop {S : Se α} {s : α} {A B : List α} {d : Nat} (h : St next start S (s :: A) B d) : Mid next start S s [] A B d where
  exact := h.exact
  at_ := h.a s (by simp)
  a x hx := h.a x (by simp [hx])
  b := h.b
  all := h.all
  top := h.top
  gone x hx hn hne := h.gone x hx (by simp [hn, hne])
  done_ t ht := by cases ht
theorem Mid.seen {S : Se α} {s t : α} {done A B : List α} {d : Nat} (h : Mid next start S s done A B d) (ht : (S t).isSome = true) : Mid next start S s (done ++ [t]) A B d :=
  ⟨h.exact, h.at_, h.a, h.b, h.all, h.top, h.gone, fun x hx => (List.mem_append.1 hx).elim (fun hx => h.done_ x hx) (fun hx => by simp at hx; rw [hx]; exact ht)⟩
theorem Mid.hit {S : Se α} {s t : α} {done A B : List α} {d : Nat} (h : Mid next start S s done A B d) (hm : t ∈ next s) (ht : S t = none) : Exact next start t (d + 1) := by
  refine ⟨ball_succ.2 (.inr ⟨s, (h.exact s d h.at_).1, hm⟩), fun j hj hj' => ?_⟩
  have := h.all t (ball_mono (by omega) hj')
  rw [ht] at this
  cases this
theorem Mid.new {S : Se α} {s t : α} {done A B : List α} {d : Nat} (h : Mid next start S s done A B d) (hm : t ∈ next s) (ht : S t = none) : Mid next start (S.put t (d + 1)) s (done ++ [t]) A (B ++ [t]) d := by
  have old : ∀ x e, S x = some e → S.put t (d + 1) x = some e := fun x e hx => by
    rw [Se.put_other _ _ (fun e' => by rw [e', ht] at hx; cases hx)]; exact hx
  have some_ : ∀ x, (S x).isSome = true → (S.put t (d + 1) x).isSome = true := fun x hx => by
    obtain ⟨e, he⟩ := Option.isSome_iff_exists.1 hx
    rw [old x e he]; rfl
  refine ⟨fun x e hx => ?_, old _ _ h.at_, fun x hx => old _ _ (h.a x hx), fun x => ?_, fun x hx => some_ x (h.all x hx), fun x e hx => ?_, fun x hx hn hne y hy => some_ y (h.gone x hx hn hne y hy), fun x hx => ?_⟩
  · by_cases e' : x = t
    · subst e'; rw [Se.put_same] at hx; cases hx; exact h.hit hm ht
    · rw [Se.put_other _ _ e'] at hx; exact h.exact x e hx
  · by_cases e' : x = t
    · subst e'; simp [Se.put_same]
    · rw [Se.put_other _ _ e', ← h.b x]; simp [e']
  · by_cases e' : x = t
    · subst e'; rw [Se.put_same] at hx; cases hx; omega
    · rw [Se.put_other _ _ e'] at hx; exact h.top x e hx
  · rcases List.mem_append.1 hx with hx | hx
    · exact some_ x (h.done_ x hx)
    · simp at hx; rw [hx, Se.put_same]; rfl
theorem Mid.finish {S : Se α} {s : α} {A B : List α} {d : Nat} (h : Mid next start S s (next s) A B d) : St next start S A B d where
  exact := h.exact
  a := h.a
  b := h.b
  all := h.all
  top := h.top
  gone x hx hn t ht := by
    by_cases e : x = s
    · subst e; exact h.done_ t ht
    · exact h.gone x hx hn e t ht

/-- The state between two rounds, with the list of what is seen. -/
structure Rd (next : α → List α) (start : α) (V : α → Prop) (S : Se α) (q L : List α) : Prop where
  st : ∃ A B d, q = A ++ B ∧ St next start S A B d
  v : ∀ x, (S x).isSome = true → V x
  nodup : L.Nodup
  seen : ∀ x, x ∈ L → (S x).isSome = true
  deep : ∀ x e, S x = some e → e ≤ L.length
structure Rm (next : α → List α) (start : α) (V : α → Prop) (S : Se α) (s : α) (done q L : List α) : Prop where
  mid : ∃ A B d, q = A ++ B ∧ Mid next start S s done A B d
  v : ∀ x, (S x).isSome = true → V x
  nodup : L.Nodup
  seen : ∀ x, x ∈ L → (S x).isSome = true
  deep : ∀ x e, S x = some e → e ≤ L.length
variable {V : α → Prop}
theorem Rd.begin (h0 : V start) : Rd next start V (fun x => if x = start then some 0 else none) [start] [start] where
  st := ⟨[start], [], 0, rfl, St.begin⟩
  v x hx := by
    by_cases e : x = start
    · rw [e]; exact h0
    · simp [e] at hx
  nodup := by simp
  seen x hx := by simp at hx; simp [hx]
  deep x e hx := by
    by_cases e' : x = start
    · simp [e'] at hx; omega
    · simp [e'] at hx
theorem Rd.pop {S : Se α} {s : α} {q L : List α} (h : Rd next start V S (s :: q) L) : Rm next start V S s [] q L := by
  obtain ⟨A, B, d, hq, hs⟩ := h.st
  refine ⟨?_, h.v, h.nodup, h.seen, h.deep⟩
  cases A with
  | nil =>
    have hs2 := hs.turn
    simp at hq
    rw [← hq] at hs2
    exact ⟨q, [], d + 1, by simp, hs2.pop⟩
  | cons x A =>
    simp at hq
    obtain ⟨rfl, rfl⟩ := hq
    exact ⟨A, B, d, rfl, hs.pop⟩
theorem Rm.some_ {S : Se α} {s : α} {done q L : List α} (h : Rm next start V S s done q L) : ∃ d, S s = some d ∧ d ≤ L.length := by
  obtain ⟨A, B, d, hq, hs⟩ := h.mid
  exact ⟨d, hs.at_, h.deep _ _ hs.at_⟩
theorem Rm.seen_ {S : Se α} {s t : α} {done q L : List α} (h : Rm next start V S s done q L) (ht : (S t).isSome = true) : Rm next start V S s (done ++ [t]) q L := by
  obtain ⟨A, B, d, hq, hs⟩ := h.mid
  exact ⟨⟨A, B, d, hq, hs.seen ht⟩, h.v, h.nodup, h.seen, h.deep⟩
theorem Rm.new {S : Se α} {s t : α} {d : Nat} {done q L : List α} (h : Rm next start V S s done q L) (hd : S s = some d) (hm : t ∈ next s) (hv : V t) (ht : S t = none) :
    Rm next start V (S.put t (d + 1)) s (done ++ [t]) (q ++ [t]) (t :: L) ∧ Exact next start t (d + 1) := by
  obtain ⟨A, B, d', hq, hs⟩ := h.mid
  obtain rfl : d = d' := by have := hs.at_; rw [hd] at this; cases this; rfl
  refine ⟨⟨⟨A, B ++ [t], d, by rw [hq, List.append_assoc], hs.new hm ht⟩, fun x hx => ?_, ?_, fun x hx => ?_, fun x e hx => ?_⟩, hs.hit hm ht⟩
  · by_cases e' : x = t
    · rw [e']; exact hv
    · rw [Se.put_other _ _ e'] at hx; exact h.v x hx
  · refine List.nodup_cons.2 ⟨fun hx => ?_, h.nodup⟩
    have := h.seen t hx
    rw [ht] at this
    cases this
  · by_cases e' : x = t
    · rw [e', Se.put_same]; rfl
    · rw [Se.put_other _ _ e']
      simp [e'] at hx
      exact h.seen x hx
  · by_cases e' : x = t
    · rw [e', Se.put_same] at hx; cases hx
      have := h.deep _ _ hd
      simp; omega
    · rw [Se.put_other _ _ e'] at hx
      have := h.deep x e hx
      simp; omega
theorem Rm.finish {S : Se α} {s : α} {q L : List α} (h : Rm next start V S s (next s) q L) : Rd next start V S q L := by
  obtain ⟨A, B, d, hq, hs⟩ := h.mid
  exact ⟨⟨A, B, d, hq, hs.finish⟩, h.v, h.nodup, h.seen, h.deep⟩
theorem nodup_sub : ∀ (L U : List α), L.Nodup → (∀ x, x ∈ L → x ∈ U) → L.length ≤ U.length
  | [], U, _, _ => by simp
  | x :: L, U, h, hs => by
    obtain ⟨h1, h2⟩ := List.nodup_cons.1 h
    have := nodup_sub L (U.erase x) h2 (fun y hy => (List.mem_erase_of_ne (fun e => by rw [e] at hy; exact h1 hy)).2 (hs y (by simp [hy])))
    have hx := List.length_erase_of_mem (hs x (by simp))
    have : 0 < U.length := List.length_pos_of_mem (hs x (by simp))
    simp; omega
/-- The search has seen the target: at its least number of steps. -/
theorem Rd.found {S : Se α} {q L : List α} {t : α} {e N : Nat} (h : Rd next start V S q L) (ht : S t = some e) (hL : L.length ≤ N) : least next start t (N + 1) = e := by
  obtain ⟨A, B, d, _, hs⟩ := h.st
  exact least_exact (hs.exact t e ht) (by have := h.deep t e ht; omega)
theorem Rd.never {S : Se α} {L : List α} {t : α} (h : Rd next start V S [] L) (ht : S t = none) (N : Nat) : least next start t N = 0 := by
  obtain ⟨A, B, d, hq, hs⟩ := h.st
  have : A = [] ∧ B = [] := by simpa using hq.symm
  obtain ⟨rfl, rfl⟩ := this
  exact least_none (hs.never ht)
end
end Go.Proofs.YtnaaomhmoamfpaaDoor.Bf
/- A map keyed by positions: what its block says, and what the operations on it come to. -/
namespace Go.Proofs.YtnaaomhmoamfpaaDoor.G
set_option linter.unusedVariables false
set_option linter.unusedSimpArgs false
set_option linter.unusedSectionVars false
open Go.Proofs.YtnaaomhmoamfpaaDoor.Q Go.Proofs.YtnaaomhmoamfpaaDoor.Hn Go.Proofs.YtnaaomhmoamfpaaDoor.K Go.Proofs.YtnaaomhmoamfpaaDoor.It Go.Proofs.YtnaaomhmoamfpaaDoor.Bf
open Go.RowKit Go.Shelf Go.Proofs.YtnaaomhmoamfpaaDoorW.PrintWords Go.Proofs.YtnaaomhmoamfpaaDoorW.PrintLast Go.Proofs.YtnaaomhmoamfpaaDoorW.PrintMore

def posF (m : Nat → Int) : Array Value := #[.int .i64 (m 0), .int .i64 (m 1), .int .i64 (m 2), .int .i64 (m 3), .int .i64 (m 4), .int .i64 (m 5), .int .i64 (m 6), .int .i64 (m 7), .int .i64 (m 8), .int .i64 (m 9), .int .i64 (m 10), .int .i64 (m 11), .int .i64 (m 12), .int .i64 (m 13), .int .i64 (m 14), .int .i64 (m 15)]
theorem posF_size (m : Nat → Int) : (posF m).size = 16 := rfl
theorem posF_get (m : Nat → Int) (j : Nat) (hj : j < 16) : (posF m)[j]? = some (.int .i64 (m j)) := by
  match j, hj with
  | 0, _ | 1, _ | 2, _ | 3, _ | 4, _ | 5, _ | 6, _ | 7, _ | 8, _ | 9, _ | 10, _ | 11, _ | 12, _ | 13, _ | 14, _ | 15, _ => rfl
  | _ + 16, h => omega
theorem posF_ext (m : Nat → Int) (cs : Array Value) (hs : cs.size = 16) (h : ∀ j, j < 16 → cs[j]? = some (.int .i64 (m j))) : cs = posF m := by
  apply Array.ext_getElem?
  intro j
  by_cases hj : j < 16
  · rw [h j hj, posF_get _ _ hj]
  · rw [Array.getElem?_eq_none (by omega), Array.getElem?_eq_none (by rw [posF_size]; omega)]
theorem posF_set (m : Nat → Int) (d : Nat) (q : Int) (hd : d < 16) : (posF m).setIfInBounds d (.int .i64 q) = posF (upd m d q) := by
  apply posF_ext
  · simp [posF_size]
  · intro j hj
    rw [Array.getElem?_setIfInBounds, posF_get _ _ hj]
    by_cases e : d = j
    · subst e; simp [posF_size, hd, upd]
    · rw [if_neg e]; simp [upd, Ne.symm e]
/-- A position: n discs, each on one of P pegs. -/
def Vp (n P : Nat) (l : List Int) : Prop := l.length = n ∧ Pos l P
theorem nth_end (l : List Int) (j : Nat) (h : l.length ≤ j) : nth l j = 0 := by simp [nth, h]
theorem vp_small {n P : Nat} {l : List Int} (h : Vp n P l) (hP : P ≤ 8) (j : Nat) : 0 ≤ nth l j ∧ nth l j < 9 := by
  by_cases hj : j < l.length
  · have := h.2 j hj; omega
  · rw [nth_end l j (by omega)]; omega
theorem nth_set (l : List Int) (d : Nat) (q : Int) (hd : d < l.length) : nth (l.set d q) = upd (nth l) d q := by
  funext j
  unfold nth upd
  by_cases e : j = d
  · subst e; simp [hd]
  · simp [e, List.getElem?_set_ne (Ne.symm e), List.getD_eq_getElem?_getD]
theorem vp_set {n P : Nat} {l : List Int} (h : Vp n P l) (d q : Nat) (hd : d < n) (hq : q < P) : Vp n P (l.set d (q : Int)) := by
  refine ⟨by simpa using h.1, fun i hi => ?_⟩
  rw [nth_set l d q (by rw [h.1]; exact hd)]
  unfold upd
  split
  · omega
  · exact h.2 i (by simpa using hi)
theorem posF_inj {n P : Nat} {l m : List Int} (hl : Vp n P l) (hm : Vp n P m) (hn : n ≤ 16) (h : posF (nth l) = posF (nth m)) : l = m := by
  apply List.ext_getElem (by rw [hl.1, hm.1])
  intro i h1 h2
  have := congrArg (fun a => a[i]?) h
  rw [posF_get _ _ (by rw [hl.1] at h1; omega), posF_get _ _ (by rw [hl.1] at h1; omega)] at this
  simpa [nth, h1, h2] using this

theorem laidOutK : laidOutB Tryd.prog = true := by kernel_rfl
theorem u90 : Tryd.prog.underlying 90 = some (.array 16 3) := by kernel_rfl
theorem size90 : Nat.ble 91 Tryd.prog.types.size = true := by kernel_rfl
theorem row90 : (90 : TypeId) < Tryd.prog.types.size := by
  have h := size90
  obtain ⟨S, hS⟩ : ∃ S, Tryd.prog.types.size = S := ⟨_, rfl⟩
  rw [hS] at h ⊢
  exact Nat.le_of_ble_eq_true h
theorem key90 : Tryd.prog.keyTypeAt 2 90 = true := by kernel_rfl
theorem law90 : Go.Maps.Keyed Tryd.prog 90 := by
  refine Go.Maps.Keyed.of_law ?_
  refine deep_law_laid laidOutK (m := 2) (by omega) row90 key90 ?_
  rw [u90]
theorem u98 : Tryd.prog.underlying 98 = some (.map 90 3) := by kernel_rfl
theorem u3 : Tryd.prog.underlying 3 = some (.int .i64) := by kernel_rfl
theorem zero3 (w : World) : (zeroValue 3).run Tryd.prog w = .ok (.int .i64 0) w := by
  obtain ⟨i0, hi0, hz, _, _⟩ := info_parts info3
  simp [zeroValue, typeInfo, hi0, hz]
theorem keyed90 : Tryd.prog.keyType 90 = true := by kernel_rfl
theorem keys90 (m : Nat → Int) (h : ∀ j, 0 ≤ m j ∧ m j < 9) : ∃ kl, keyOf Tryd.prog 90 (.agg (posF m)) = some kl := by
  have c90 : Tryd.prog.cellsOf 90 = 16 := by kernel_rfl
  have c3 : Tryd.prog.cellsOf 3 = 1 := by kernel_rfl
  have hw : ∀ j, (Lit.int .i64 (m j)).wf = true := fun j => WalkArith.wf_i64 ⟨by have := h j; omega, by have := h j; omega⟩
  have hf : (Value.agg (posF m)).formed Tryd.prog 90 = true := by simp [Value.formed, u90, c90, posF]
  have h3 : ∀ j d, Tryd.prog.keyLits (d + 1) 3 [.int .i64 (m j)] = some [.int .i64 (m j)] := fun j d => by simp [Program.keyLits, u3, hw]
  unfold keyOf
  rw [u90]
  simp only [keyed90, hf, Bool.and_self, if_true]
  obtain ⟨N, hN⟩ : ∃ N, Tryd.prog.types.size = N + 1 := Nat.exists_eq_succ_of_ne_zero (Nat.pos_iff_ne_zero.1 (Nat.lt_of_le_of_lt (Nat.zero_le _) row90))
  rw [hN]
  have e : Tryd.prog.keyLits (N + 1 + 1) 90 (posF m).toList = some ((List.range 16).map (fun i => Lit.int .i64 (m i))) := by
    have hr : List.range 16 = [0, 1, 2, 3, 4, 5, 6, 7, 8, 9, 10, 11, 12, 13, 14, 15] := by decide
    unfold Program.keyLits
    rw [u90]
    simp only [c90, c3, hr]
    simp [posF, List.mapM_cons, h3]
  have e' : (Value.agg (posF m)).cells.toList = (posF m).toList := rfl
  rw [e', e]
  exact ⟨_, rfl⟩

@[irreducible] noncomputable def KL (l : List Int) : Lit := (keyOf Tryd.prog 90 (.agg (posF (nth l)))).getD (.bool true)
theorem key_KL {n P : Nat} {l : List Int} (h : Vp n P l) (hP : P ≤ 8) : keyOf Tryd.prog 90 (.agg (posF (nth l))) = some (KL l) := by
  obtain ⟨kl, hk⟩ := keys90 (nth l) (vp_small h hP)
  unfold KL
  rw [hk]
  simp only [Option.getD_some]
theorem KL_inj {n P : Nat} {l m : List Int} (hl : Vp n P l) (hm : Vp n P m) (hn : n ≤ 16) (hP : P ≤ 8) (h : KL l = KL m) : l = m := by
  have h1 := key_KL hl hP
  have h2 := key_KL hm hP
  rw [h] at h1
  exact posF_inj hl hm hn (Value.agg.inj (law90.inj h1 h2))

theorem keyLit_of {P : Program} {k : TypeId} (K : Go.Maps.Keyed P k) {v : Value} {l : Lit} (h : keyOf P k v = some l) : WideAt.IsKeyLit l := K.key h
theorem KL_lit {n P : Nat} {l : List Int} (h : Vp n P l) (hP : P ≤ 8) : WideAt.IsKeyLit (KL l) := keyLit_of law90 (key_KL h hP)

/-- Block b is the map of what is seen, at most k entries. -/
def Seen (W : World) (b k : Nat) (V : List Int → Prop) (S : Se (List Int)) : Prop :=
  ∃ D : DataW Unit, W.ownsMap Tryd.prog 90 (plainElem Tryd.prog 3) b k D ∧ Go.Maps.IsMap D ∧
    ∀ l, V l → Go.Maps.has D (KL l) = (S l).isSome ∧ D.atKey (KL l) (.lit (.int .i64 0)) = .lit (.int .i64 (((S l).getD 0 : Nat) : Int))
theorem Seen.made (W : World) (V : List Int → Prop) : Seen (W.alloc (.map #[] 0)) W.heap.size 0 V (fun _ => none) := by
  refine ⟨.map [], World.ownsMap_made W Tryd.prog 90 _, Go.Maps.isMap_empty, fun l hl => ⟨rfl, ?_⟩⟩
  rw [Go.Maps.atKey_of_not_has (by rfl)]
  rfl
theorem Seen.lt {W : World} {b k : Nat} {V : List Int → Prop} {S : Se (List Int)} (h : Seen W b k V S) : b < W.heap.size := by
  obtain ⟨D, h1, _⟩ := h; exact h1.lt
theorem Seen.mapsTo {W W' : World} {b k : Nat} {V : List Int → Prop} {S : Se (List Int)} (h : Seen W b k V S) (hb : W'.heap[b]? = W.heap[b]?) : Seen W' b k V S := by
  obtain ⟨D, ⟨es, clock, h1, h2⟩, h3⟩ := h
  exact ⟨D, ⟨es, clock, hb.trans h1, h2⟩, h3⟩
theorem Seen.alloc {W : World} {b k : Nat} {V : List Int → Prop} {S : Se (List Int)} (h : Seen W b k V S) (o : Obj) : Seen (W.alloc o) b k V S := h.mapsTo (Below.heap_alloc W o b h.lt)
theorem Seen.drew {W : World} {b k : Nat} {V : List Int → Prop} {S : Se (List Int)} (h : Seen W b k V S) : Seen W.drew b k V S := h.mapsTo rfl
theorem Seen.set {W : World} {b k : Nat} {V : List Int → Prop} {S : Se (List Int)} (h : Seen W b k V S) {p : Addr} (hne : b ≠ p.block) (v : Value) : Seen (W.setCell p v) b k V S := h.mapsTo (Below.heap_setCell W p v b hne)
theorem Seen.look {W : World} {b k n P : Nat} {S : Se (List Int)} (h : Seen W b k (Vp n P) S) (hP : P ≤ 8) {l : List Int} (hl : Vp n P l) :
    (Instr.lookup 98 (.map (some b)) (.agg (posF (nth l))) false).run Tryd.prog W = .ok (.int .i64 (((S l).getD 0 : Nat) : Int)) W := by
  obtain ⟨D, h1, h2, h3⟩ := h
  obtain ⟨c, hrun, hat, _⟩ := h1.lookup_int law90 u98 u3 (zero3 W) (key_KL hl hP)
  rw [hrun]
  have e := (h3 l hl).2
  rw [hat] at e
  simp at e
  rw [e]
theorem Seen.look_ok {W : World} {b k n P : Nat} {S : Se (List Int)} (h : Seen W b k (Vp n P) S) (hP : P ≤ 8) {l : List Int} (hl : Vp n P l) :
    (Instr.lookup 98 (.map (some b)) (.agg (posF (nth l))) true).run Tryd.prog W = .ok (.tuple #[.int .i64 (((S l).getD 0 : Nat) : Int), .bool (S l).isSome]) W := by
  obtain ⟨D, h1, h2, h3⟩ := h
  obtain ⟨v, ps, hrun, hv⟩ := h1.look_ok law90 u98 (zero3 W) (plainElem_int u3 (by decide)) (key_KL hl hP)
  obtain ⟨c, rfl, hc, _⟩ := plainElem_int_inv u3 hv
  rw [hrun, (h3 l hl).1]
  have e := (h3 l hl).2
  have e2 := congrArg Prod.fst hc
  simp only at e2
  rw [e2] at e
  simp at e
  rw [e]
theorem Seen.put {W : World} {b k n P : Nat} {S : Se (List Int)} (h : Seen W b k (Vp n P) S) (hP : P ≤ 8) (hn : n ≤ 16) {l : List Int} (hl : Vp n P l) (d : Nat) (hd : d < 4611686018427387904) (hk : k < 1000000) :
    ∃ W', (Instr.mapUpdate 98 (.map (some b)) (.agg (posF (nth l))) (.int .i64 (d : Int))).run Tryd.prog W = .ok () W' ∧ Seen W' b (k + 1) (Vp n P) (S.put l d) ∧ W.grownBy W' (some b) := by
  obtain ⟨D, h1, h2, h3⟩ := h
  have hv : plainElem (H := Unit) Tryd.prog 3 (.int .i64 (d : Int)) = some (.lit (.int .i64 (d : Int)), []) := plainElem_int u3 (WalkArith.wf_i64 ⟨by omega, by omega⟩)
  have hkm : k < maxLen := by unfold maxLen; omega
  have hkey := key_KL hl hP
  obtain ⟨W', hrun, ho, hg⟩ := h1.update law90 u98 hkm hkey hv
  refine ⟨W', hrun, ⟨_, ho, h2.put _ _, fun x hx => ?_⟩, hg⟩
  have hk1 := KL_lit hl hP
  clear hrun ho hg hkey h1
  generalize hA : KL l = A at *
  by_cases e : x = l
  · rw [e, Se.put_same, hA]
    simp only [Option.isSome_some, Option.getD_some]
    exact ⟨Go.Maps.has_put_same h2 hk1 _, Go.Maps.atKey_put_same h2 hk1 _ _⟩
  · rw [Se.put_other _ _ e]
    have hne : KL x ≠ A := fun h => e (KL_inj hx hl hn hP (h.trans hA.symm))
    rw [Go.Maps.has_put_other hne, Go.Maps.atKey_put_other hne]
    exact h3 x hx
theorem Seen.mono {W : World} {b k k' : Nat} {V : List Int → Prop} {S : Se (List Int)} (h : Seen W b k V S) (hk : k ≤ k') : Seen W b k' V S := by
  obtain ⟨D, h1, h2⟩ := h; exact ⟨D, h1.mono hk, h2⟩
end Go.Proofs.YtnaaomhmoamfpaaDoor.G
/- A scope (a function that holds a label) inside a fence, gone through without a jump to a label. -/
namespace Go.Proofs.YtnaaomhmoamfpaaDoor.It
set_option linter.unusedVariables false
set_option linter.unusedSimpArgs false
set_option linter.unusedSectionVars false
open Go
variable {F : Fence} {n : Nat} {P : Program} {Q : Exit → Act → World → Prop} {a : Act} {w : World} {b : Frame} {k : List Item} {cs : List Frame}

theorem stepR_scope {c : Code} : step P (lone (b.atR a (.code (.scope c) :: k)) cs w) = .next (lone (b.atR a (.code c :: .inScope c :: k)) cs w) :=
  step_lone_go (by simp [stepG, stepG.exec, Frame.atR])
theorem stepR_inScope {c : Code} : step P (lone (b.atR a (.inScope c :: k)) cs w) = .next (lone (b.atR a k) cs w) :=
  step_lone_go (by simp [stepG, stepG.exec, Frame.atR])

theorem wpIn_scope {c : Code} (h : c.wpIn F n P (Exit.noGoto Q) a w) : (Code.scope c).wpIn F n P Q a w := by
  intro b k cs hro hb hr
  have h0 : (lone (b.atR a (.code (.scope c) :: k)) cs w).fenced P F := fenced_calm hb hr rfl
  obtain ⟨e, a₁, w₁, hq, harr⟩ := h b (.inScope c :: k) cs hro hb hr
  cases e with
  | normal => exact ⟨.normal, a₁, w₁, hq, .head h0 stepR_scope (StepsIn.trans harr (.one (fenced_calm hb hr rfl) stepR_inScope))⟩
  | exit id =>
    have hx : exitTo id (.inScope c :: k) = exitTo id k := by simp [exitTo]
    exact ⟨.exit id, a₁, w₁, hq, fun k' hk => .head h0 stepR_scope (harr.1 k' (by rw [hx]; exact hk)),
      fun hr' hk => let ⟨k₁, h1, h2⟩ := harr.2 hr' (by rw [hx]; exact hk); ⟨k₁, h1, .head h0 stepR_scope h2⟩⟩
  | goto l => exact hq.elim
  | ret => exact ⟨_, a₁, w₁, hq, .of_steps (.one h0 stepR_scope) harr⟩
  | panic ch => exact ⟨_, a₁, w₁, hq, .of_steps (.one h0 stepR_scope) harr⟩
  | outgrown => exact ⟨_, a₁, w₁, hq, .of_steps (.one h0 stepR_scope) harr⟩
end Go.Proofs.YtnaaomhmoamfpaaDoor.It
/- Fewest: the search's own words: what it is asked for, its start, its goal, what holds between two rounds. -/
namespace Go.Proofs.YtnaaomhmoamfpaaDoor.G
set_option linter.unusedVariables false
set_option linter.unusedSimpArgs false
set_option linter.unusedSectionVars false
open Go.Proofs.YtnaaomhmoamfpaaDoor.Q Go.Proofs.YtnaaomhmoamfpaaDoor.Hn Go.Proofs.YtnaaomhmoamfpaaDoor.K Go.Proofs.YtnaaomhmoamfpaaDoor.It Go.Proofs.YtnaaomhmoamfpaaDoor.Bf
open Go.RowKit Go.Shelf Go.Proofs.YtnaaomhmoamfpaaDoorW.PrintWords Go.Proofs.YtnaaomhmoamfpaaDoorW.PrintLast Go.Proofs.YtnaaomhmoamfpaaDoorW.PrintMore
attribute [local go_sem] Oper.semAt_some

def nextP (P : Nat) (l : List Int) : List (List Int) := (movesL l P).map (fun m => l.set m.1 (m.2 : Int))
def startP (n : Nat) : List Int := List.replicate n 0
def goalP (n P : Nat) : List Int := List.replicate n ((P : Int) - 1)
def fewest (n P : Nat) : Nat := least (nextP P) (startP n) (goalP n P) (P ^ n + 1)
def hanoi_Fewest.f (n p : Int) : Option (Int × Int) := if asked n p = true ∧ p.toNat ^ n.toNat ≤ 70000 then some ((fewest n.toNat p.toNat : Int), 0) else some (0, 1)

theorem exists_least {R : Nat → Prop} : ∀ k, R k → ∃ m, R m ∧ ∀ j, R j → m ≤ j := by
  intro k
  induction k using Nat.strongRecOn with
  | ind k ih =>
    intro hk
    by_cases h : ∃ j, j < k ∧ R j
    · obtain ⟨j, hj, hr⟩ := h
      exact ih j hj hr
    · exact ⟨k, hk, fun j hj => by
        rcases Nat.lt_or_ge j k with h' | h'
        · exact absurd ⟨j, h', hj⟩ h
        · exact h'⟩
/-- The least number of which something holds. -/
noncomputable def lst (R : Nat → Prop) : Nat := open Classical in if h : ∃ m, R m ∧ ∀ j, R j → m ≤ j then Classical.choose h else 0
theorem lst_spec {R : Nat → Prop} (h : ∃ k, R k) : R (lst R) := by
  obtain ⟨k, hk⟩ := h
  have := exists_least k hk
  unfold lst
  rw [dif_pos this]
  exact (Classical.choose_spec this).1
theorem lst_le {R : Nat → Prop} {k : Nat} (h : R k) : lst R ≤ k := by
  have := exists_least k h
  unfold lst
  rw [dif_pos this]
  exact (Classical.choose_spec this).2 k h

def goalTo (P i : Nat) : Nat → Int := fun j => if j < i then (P : Int) - 1 else 0
theorem nth_start (n : Nat) : nth (startP n) = fun _ => 0 := by
  funext j
  unfold nth startP
  by_cases h : j < n <;> simp [List.getD_eq_getElem?_getD, List.getElem?_replicate, h]
theorem nth_goal (n P : Nat) : nth (goalP n P) = goalTo P n := by
  funext j
  unfold nth goalP goalTo
  by_cases h : j < n <;> simp [List.getD_eq_getElem?_getD, List.getElem?_replicate, h]
theorem vp_start (n P : Nat) (hP : 1 ≤ P) : Vp n P (startP n) := ⟨by simp [startP], fun i hi => by rw [nth_start]; simp only; omega⟩
theorem vp_goal (n P : Nat) (hP : 1 ≤ P) : Vp n P (goalP n P) := ⟨by simp [goalP], fun i hi => by rw [nth_goal]; unfold goalTo; split <;> omega⟩
theorem goalTo_zero (P : Nat) : posF (goalTo P 0) = #[.int .i64 0, .int .i64 0, .int .i64 0, .int .i64 0, .int .i64 0, .int .i64 0, .int .i64 0, .int .i64 0, .int .i64 0, .int .i64 0, .int .i64 0, .int .i64 0, .int .i64 0, .int .i64 0, .int .i64 0, .int .i64 0] := by
  simp [posF, goalTo]
theorem goalTo_succ (P i : Nat) : upd (goalTo P i) i ((P : Int) - 1) = goalTo P (i + 1) := by
  funext j
  unfold upd goalTo
  by_cases h : j = i
  · subst h; simp
  · rw [if_neg h]
    by_cases h2 : j < i
    · rw [if_pos h2, if_pos (by omega)]
    · rw [if_neg h2, if_neg (by omega)]

/-- The cells of a row of positions. -/
def flat (q : List (List Int)) : List Value := (q.map (fun l => (posF (nth l)).toList)).flatten
theorem flat_nil : flat [] = [] := rfl
theorem flat_cons (l : List Int) (q : List (List Int)) : flat (l :: q) = (posF (nth l)).toList ++ flat q := rfl
theorem flat_snoc (q : List (List Int)) (l : List Int) : flat (q ++ [l]) = flat q ++ (posF (nth l)).toList := by simp [flat]
theorem flat_len (q : List (List Int)) : (flat q).length = q.length * 16 := by
  induction q with
  | nil => rfl
  | cons l q ih => rw [flat_cons, List.length_append, ih]; simp [posF]; omega

/-- All positions. -/
def univ (P : Nat) : Nat → List (List Int)
  | 0 => [[]]
  | n + 1 => (univ P n).flatMap (fun l => (List.range P).map (fun (q : Nat) => l ++ [(q : Int)]))
theorem univ_len (P n : Nat) : (univ P n).length = P ^ n := by
  induction n with
  | zero => rfl
  | succ n ih =>
    rw [univ, List.length_flatMap]
    simp only [List.length_map, List.length_range]
    rw [List.map_const', List.sum_replicate_nat, ih, Nat.pow_succ]
theorem univ_mem (P n : Nat) : ∀ l, Vp n P l → l ∈ univ P n := by
  induction n with
  | zero => intro l h; have := h.1; simp [univ]; exact List.length_eq_zero_iff.1 this
  | succ n ih =>
    intro l h
    obtain ⟨hl, hp⟩ := h
    have hne : l ≠ [] := by intro e; rw [e] at hl; simp at hl
    obtain ⟨l0, x, rfl⟩ : ∃ l0 x, l = l0 ++ [x] := ⟨l.dropLast, l.getLast hne, (List.dropLast_concat_getLast hne).symm⟩
    have hl0 : l0.length = n := by simpa using hl
    have hx := hp n (by simp; omega)
    have hxn : nth (l0 ++ [x]) n = x := by simp [nth, ← hl0]
    rw [hxn] at hx
    simp only [univ, List.mem_flatMap, List.mem_map, List.mem_range]
    refine ⟨l0, ih l0 ⟨hl0, fun i hi => ?_⟩, x.toNat, by omega, by rw [Int.toNat_of_nonneg hx.1]⟩
    have := hp i (by simp; omega)
    have e : nth (l0 ++ [x]) i = nth l0 i := by simp [nth, List.getD_eq_getElem?_getD, List.getElem?_append_left hi]
    rwa [e] at this
theorem vp_count {n P : Nat} {L : List (List Int)} (h : L.Nodup) (hv : ∀ x, x ∈ L → Vp n P x) : L.length ≤ P ^ n := by
  rw [← univ_len P n]
  exact nodup_sub L _ h (fun x hx => univ_mem P n x (hv x hx))

/-- Between two rounds of the search. -/
structure Hd (n P : Nat) (W0 wr : World) (b9 k : Nat) (S : Se (List Int)) (q L : List (List Int)) (v : Value) : Prop where
  rd : Rd (nextP P) (startP n) (Vp n P) S q L
  goal : n = 0 ∨ S (goalP n P) = none
  k_ : k = 2 * (P ^ n - L.length) + q.length
  kb : k ≤ 200000
  map_ : Seen wr (W0.heap.size + 2) L.length (Vp n P) S
  row : QRow wr (b9 + 1) 90 16 v q.length (flat q)
  box11 : Blk wr (b9 + 1 + 1) #[v] 99
  box10 : Blk wr b9 #[.map (some (W0.heap.size + 2))] 98
  box7 : Blk wr W0.heap.size (posF (nth (startP n))) 90
  box8 : Blk wr (W0.heap.size + 1) (posF (goalTo P n)) 90
  below : Below W0.heap.size W0 wr
  le : W0.heap.size + 3 ≤ b9
theorem pos_cells {W : World} {b : Nat} {t : TypeId} {m : Nat → Int} (h : Blk W b (posF m) t) : W.cell? ⟨b, 0, none⟩ = some (.int .i64 (m 0)) ∧ W.cell? ⟨b, 1, none⟩ = some (.int .i64 (m 1)) ∧ W.cell? ⟨b, 2, none⟩ = some (.int .i64 (m 2)) ∧ W.cell? ⟨b, 3, none⟩ = some (.int .i64 (m 3)) ∧ W.cell? ⟨b, 4, none⟩ = some (.int .i64 (m 4)) ∧ W.cell? ⟨b, 5, none⟩ = some (.int .i64 (m 5)) ∧ W.cell? ⟨b, 6, none⟩ = some (.int .i64 (m 6)) ∧ W.cell? ⟨b, 7, none⟩ = some (.int .i64 (m 7)) ∧ W.cell? ⟨b, 8, none⟩ = some (.int .i64 (m 8)) ∧ W.cell? ⟨b, 9, none⟩ = some (.int .i64 (m 9)) ∧ W.cell? ⟨b, 10, none⟩ = some (.int .i64 (m 10)) ∧ W.cell? ⟨b, 11, none⟩ = some (.int .i64 (m 11)) ∧ W.cell? ⟨b, 12, none⟩ = some (.int .i64 (m 12)) ∧ W.cell? ⟨b, 13, none⟩ = some (.int .i64 (m 13)) ∧ W.cell? ⟨b, 14, none⟩ = some (.int .i64 (m 14)) ∧ W.cell? ⟨b, 15, none⟩ = some (.int .i64 (m 15)) :=
  ⟨h.cell 0 (posF_get _ _ (by omega)), h.cell 1 (posF_get _ _ (by omega)), h.cell 2 (posF_get _ _ (by omega)), h.cell 3 (posF_get _ _ (by omega)), h.cell 4 (posF_get _ _ (by omega)), h.cell 5 (posF_get _ _ (by omega)), h.cell 6 (posF_get _ _ (by omega)), h.cell 7 (posF_get _ _ (by omega)), h.cell 8 (posF_get _ _ (by omega)), h.cell 9 (posF_get _ _ (by omega)), h.cell 10 (posF_get _ _ (by omega)), h.cell 11 (posF_get _ _ (by omega)), h.cell 12 (posF_get _ _ (by omega)), h.cell 13 (posF_get _ _ (by omega)), h.cell 14 (posF_get _ _ (by omega)), h.cell 15 (posF_get _ _ (by omega))⟩

/-- What the search leaves. -/
def Fin (n P : Nat) (W0 W : World) (b9 : Nat) : Prop :=
  ∃ S k, Seen W (W0.heap.size + 2) k (Vp n P) S ∧ fewest n P = (S (goalP n P)).getD 0 ∧ Blk W b9 #[.map (some (W0.heap.size + 2))] 98 ∧ Blk W (W0.heap.size + 1) (posF (goalTo P n)) 90 ∧ Below W0.heap.size W0 W
/-- Within a round: s has been taken, the steps of pre have been looked at. -/
structure Bd (n P : Nat) (W0 W : World) (b9 b12 k : Nat) (s : List Int) (pre : List (Nat × Nat)) (S : Se (List Int)) (q L : List (List Int)) (v : Value) : Prop where
  rm : Rm (nextP P) (startP n) (Vp n P) S s (pre.map (fun m => s.set m.1 (m.2 : Int))) q L
  goal : S (goalP n P) = none
  k_ : 2 * (P ^ n - L.length) + q.length < k
  map_ : Seen W (W0.heap.size + 2) L.length (Vp n P) S
  row : QRow W (b9 + 1) 90 16 v q.length (flat q)
  sep : ∀ j, v.ownBlock = some j → j < b12 ∨ b12 + 2 < j
  box11 : Blk W (b9 + 1 + 1) #[v] 99
  box10 : Blk W b9 #[.map (some (W0.heap.size + 2))] 98
  box8 : Blk W (W0.heap.size + 1) (posF (goalTo P n)) 90
  box7 : Blk W W0.heap.size (posF (nth (startP n))) 90
  box12 : Blk W b12 (posF (nth s)) 90
  below : Below W0.heap.size W0 W
  le : W0.heap.size + 3 ≤ b9
  lt : b9 + 2 < b12
  size : b12 + 2 < W.heap.size
end Go.Proofs.YtnaaomhmoamfpaaDoor.G
/- The search's operations: two positions compared, the queue's head taken, its tail written. -/
namespace Go.Proofs.YtnaaomhmoamfpaaDoor.G
set_option linter.unusedVariables false
set_option linter.unusedSimpArgs false
set_option linter.unusedSectionVars false
open Go.Proofs.YtnaaomhmoamfpaaDoor.Q Go.Proofs.YtnaaomhmoamfpaaDoor.Hn Go.Proofs.YtnaaomhmoamfpaaDoor.K Go.Proofs.YtnaaomhmoamfpaaDoor.It Go.Proofs.YtnaaomhmoamfpaaDoor.Bf
open Go.RowKit Go.Shelf Go.Proofs.YtnaaomhmoamfpaaDoorW.PrintWords Go.Proofs.YtnaaomhmoamfpaaDoorW.PrintLast Go.Proofs.YtnaaomhmoamfpaaDoorW.PrintMore

theorem pos_eq {n P : Nat} {l m : List Int} (hl : Vp n P l) (hm : Vp n P m) (hn : n ≤ 16) (hP : P ≤ 8) (W : World) :
    (Op.equalIn 10000 90 (.agg (posF (nth l))) (.agg (posF (nth m)))).run Tryd.prog W = .ok (decide (l = m)) W := by
  obtain ⟨r, hr, hiff⟩ := run_equal_deep (P := Tryd.prog) W (m := 2) (by omega) key90 (by rw [u90]) (key_KL hl hP) (key_KL hm hP)
  have e : r = decide (l = m) := by
    rw [Bool.eq_iff_iff, hiff, decide_eq_true_eq]
    exact ⟨fun h => KL_inj hl hm hn hP h, fun h => by rw [h]⟩
  rw [e] at hr
  exact hr

theorem u99 : Tryd.prog.underlying 99 = some (.slice 90) := by kernel_rfl
theorem info90 : (Tryd.prog.info? 90).map (fun i => (i.zero, i.size, i.bytes)) = some (some (.agg #[.int .i64 0, .int .i64 0, .int .i64 0, .int .i64 0, .int .i64 0, .int .i64 0, .int .i64 0, .int .i64 0, .int .i64 0, .int .i64 0, .int .i64 0, .int .i64 0, .int .i64 0, .int .i64 0, .int .i64 0, .int .i64 0]), 16, 128) := by kernel_rfl
theorem pop_run (ad : Addr) (n c : Nat) (hc : n + 1 ≤ c) (W : World) :
    (Instr.slice 99 (.slice (some ad) (n + 1) c) (some (.int .i64 1)) none none).run Tryd.prog W = .ok (.slice (if c = 1 then some ad else some (ad.add 16)) n (c - 1)) W := by
  obtain ⟨i0, hi0, _, hsz, _⟩ := info_parts info90
  have hs : (sizeOf 90).run Tryd.prog W = .ok 16 W := by simp [sizeOf, typeInfo, hi0, hsz]
  have he : Tryd.prog.elem 99 = 90 := by kernel_rfl
  have hu : Tryd.prog.underlying 99 = some (.slice (Tryd.prog.elem 99)) := by rw [he]; exact u99
  rw [run_slice_l (P := Tryd.prog) W 99 (some ad) (n + 1) c hu .i64 1 (by omega) (by omega), he, hs]
  have e1 : (1 : Int).toNat = 1 := rfl
  simp only [Result.andThen, sliced, e1, Option.map_some, Nat.one_mul, Nat.add_sub_cancel]
theorem row_head {W : World} {base n c : Nat} {A : Option Addr} {s : List Int} {q : List (List Int)} (h : QRow W base 90 16 (.slice A (n + 1) c) (n + 1) (flat (s :: q))) :
    ∃ g o, A = some ⟨g, o, none⟩ ∧ base ≤ g ∧ g < W.heap.size ∧ ∀ i, i < 16 → W.cell? ⟨g, o + i, none⟩ = some (.int .i64 (nth s i)) := by
  obtain ⟨ad, e, hc⟩ := q_cells h (by omega)
  obtain ⟨hb, cells, hh⟩ := q_typed h ad.block (by rw [e]; rfl)
  have hlt := q_lt h ad.block (by rw [e]; rfl)
  rcases h.2 with ⟨h0, _⟩ | ⟨g, off, cap, cur, hv, _⟩
  · omega
  · rw [e] at hv
    injection hv with hv
    injection hv with hv
    subst hv
    refine ⟨g, off * 16, e, hb, hlt, fun i hi => ?_⟩
    rw [← add_at]
    apply hc
    rw [flat_cons, List.getElem?_append_left (by simp [posF]; omega)]
    simpa using posF_get (nth s) i hi
theorem row_tail {W : World} {base n c : Nat} {ad : Addr} {s : List Int} {q : List (List Int)} (h : QRow W base 90 16 (.slice (some ad) (n + 1) c) (n + 1) (flat (s :: q))) :
    QRow W base 90 16 (.slice (if c = 1 then some ad else some (ad.add 16)) n (c - 1)) n (flat q) := by
  have := q_drop (k := 1) h (by omega)
  have e : (flat (s :: q)).drop (1 * 16) = flat q := by rw [flat_cons, List.drop_left' (by simp [posF])]
  rw [e] at this
  exact this

section
variable {F : Fence} {nF : Nat} {P : Program} (w : World)
theorem wpListIn_append_q {ops : Array Oper} {rest : List Oper} {o : Oper} {a : Act} {Q : Exit → Act → World → Prop} (hgd : o.guard = none) (s x : Operand) (t : TypeId)
    (ho : o.op = .call { callee := .builtin .append, args := #[s, x], argTypes := #[t, t] })
    (base : Nat) (e : TypeId) (i : TypeInfo) (z : Value) (size bytes : Nat) (ht : P.underlying t = some (.slice e)) (hi : P.info? e = some i) (hz : i.zero = some z)
    (hsize : i.size = size) (hby : i.bytes = bytes) (hzs : z.cells.size = size) (hsz : 0 < size)
    (v : Value) (n : Nat) (xs : List Value) (hs : a.eval s = v) (hown : QRow w base e size v n xs)
    (ad : Addr) (m c : Nat) (news : List Value) (hx : a.eval x = .slice (some ad) m c) (hl : news.length = m * size) (hnews : ∀ j u, news[j]? = some u → w.cell? (ad.add j) = some u) (h1 : ∀ u ∈ news, u.oneCell' = true) (hm : 0 < m)
    (h63 : n + m ≤ maxLen) (hbytes : (n + m) * bytes ≤ 140737488355328) (hbase : base ≤ w.heap.size)
    (h : ∀ v' w', QRow w' base e size v' (n + m) (xs ++ news) → w.grownBy w' v.ownBlock → (v'.ownBlock = v.ownBlock ∨ ∃ b, v'.ownBlock = some b ∧ w.heap.size ≤ b) → wpListIn F nF P ops Q rest (a.put o.dst v') w') :
    wpListIn F nF P ops Q (o :: rest) a w := by
  refine wpListIn_plain hgd fun K hK => ?_
  obtain ⟨v', w', hr, h2, h3, h4⟩ := q_append (P := P) w base t o.type e i z size bytes ht hi hz hsize hby hzs hsz v n xs hown ad m c news hl hnews h1 hm h63 hbytes hbase
  unfold Oper.wpIn
  refine ⟨by simp [Oper.about, ho, resolve, Target.leads, Sem.run_pure], ?_⟩
  rw [Oper.semAt_plain F _ _ (by rw [ho]; intro c hc'; cases hc')]
  simp [execOp, ho, resolve, invoke, builtin, hs, hx, hr, Result.andThen]
  exact hK _ _ (h v' w' h2 h3 h4)
end

theorem start_ball {α : Type} [DecidableEq α] (next : α → List α) (start : α) (d : Nat) : start ∈ ball next start d := ball_mono (Nat.zero_le d) (by simp [ball])
theorem rd_start {n P : Nat} {S : Se (List Int)} {q L : List (List Int)} (h : Rd (nextP P) (startP n) (Vp n P) S q L) : (S (startP n)).isSome = true := by
  obtain ⟨A, B, d, _, hs⟩ := h.st
  exact hs.all _ (start_ball _ _ d)
theorem rd_count {n P : Nat} {S : Se (List Int)} {q L : List (List Int)} (h : Rd (nextP P) (startP n) (Vp n P) S q L) : L.length ≤ P ^ n := vp_count h.nodup (fun x hx => h.v x (h.seen x hx))
theorem rm_count {n P : Nat} {S : Se (List Int)} {s : List Int} {d q L : List (List Int)} (h : Rm (nextP P) (startP n) (Vp n P) S s d q L) : L.length ≤ P ^ n := vp_count h.nodup (fun x hx => h.v x (h.seen x hx))
theorem Hd.answer {n P : Nat} {W0 wr : World} {b9 k : Nat} {S : Se (List Int)} {q L : List (List Int)} {v : Value} (h : Hd n P W0 wr b9 k S q L v) (he : n = 0 ∨ q = []) : fewest n P = (S (goalP n P)).getD 0 := by
  cases hg : S (goalP n P) with
  | some e => exact h.rd.found hg (rd_count h.rd)
  | none =>
    rcases he with rfl | rfl
    · have := rd_start h.rd
      have e : goalP 0 P = startP 0 := rfl
      rw [e] at hg
      rw [hg] at this
      cases this
    · exact h.rd.never hg _
theorem Seen.step {T B : Nat} {W W' : World} {b k : Nat} {V : List Int → Prop} {S : Se (List Int)} (h : Seen W b k V S) (hs : Step T B W W') : Seen W' b k V S := by
  obtain ⟨D, ⟨es, clock, h1, h2⟩, h3⟩ := h
  exact ⟨D, ⟨es, clock, hs.same _ _ h1 (.inr rfl), h2⟩, h3⟩
theorem blk_step {B : Nat} {W W' : World} {b t : Nat} {cs : Array Value} (h : Blk W b cs t) (hs : Step 127 B W W') (ht : (t == 127) = false) : Blk W' b cs t := hs.same _ _ h (.inr (by simp [stays, book, isT, ht]))
theorem row_step {B base e size n : Nat} {W W' : World} {v : Value} {xs : List Value} (h : QRow W base e size v n xs) (hs : Step 127 B W W') (ht : (e == 127) = false) : QRow W' base e size v n xs :=
  q_move h (fun k hk => by
    obtain ⟨_, cells, hc⟩ := q_typed h k hk
    rw [hc]
    exact hs.same _ _ hc (.inr (by simp [stays, book, isT, ht])))
theorem Bd.step {n P B : Nat} {W0 W W' : World} {b9 b12 k : Nat} {s : List Int} {pre : List (Nat × Nat)} {S : Se (List Int)} {q L : List (List Int)} {v : Value} (h : Bd n P W0 W b9 b12 k s pre S q L v) (hs : Step 127 B W W') (hB : W0.heap.size ≤ B) : Bd n P W0 W' b9 b12 k s pre S q L v :=
  ⟨h.rm, h.goal, h.k_, h.map_.step hs, row_step h.row hs rfl, h.sep, blk_step h.box11 hs rfl, blk_step h.box10 hs rfl, blk_step h.box8 hs rfl, blk_step h.box7 hs rfl, blk_step h.box12 hs rfl, hs.below h.below hB (Nat.le_refl _), h.le, h.lt, by have := h.size; have := hs.size; omega⟩
theorem Fin.step {n P B : Nat} {W0 W W' : World} {b9 : Nat} (h : Fin n P W0 W b9) (hs : Step 127 B W W') (hB : W0.heap.size ≤ B) : Fin n P W0 W' b9 := by
  obtain ⟨S, k, h1, h2, h3, h4, h5⟩ := h
  exact ⟨S, k, h1.step hs, h2, blk_step h3 hs rfl, blk_step h4 hs rfl, hs.below h5 hB (Nat.le_refl _)⟩
theorem blk_below {W W' : World} {b t : Nat} {cs : Array Value} (h : Blk W b cs t) (hb : Below W.heap.size W W') : Blk W' b cs t := h.below hb h.lt
theorem row_below {base e size n : Nat} {W W' : World} {v : Value} {xs : List Value} (h : QRow W base e size v n xs) (hb : Below W.heap.size W W') : QRow W' base e size v n xs := q_move h (fun k hk => hb.block k (q_lt h k hk))
theorem Bd.below_ {n P : Nat} {W0 W W' : World} {b9 b12 k : Nat} {s : List Int} {pre : List (Nat × Nat)} {S : Se (List Int)} {q L : List (List Int)} {v : Value} (h : Bd n P W0 W b9 b12 k s pre S q L v) (hb : Below W.heap.size W W') : Bd n P W0 W' b9 b12 k s pre S q L v :=
  ⟨h.rm, h.goal, h.k_, h.map_.mapsTo (hb.block _ h.map_.lt), row_below h.row hb, h.sep, blk_below h.box11 hb, blk_below h.box10 hb, blk_below h.box8 hb, blk_below h.box7 hb, blk_below h.box12 hb, h.below.trans (hb.mono h.below.size), h.le, h.lt, by have := h.size; have := hb.size; omega⟩
end Go.Proofs.YtnaaomhmoamfpaaDoor.G
/- A region that draws its order, within a round: operations that only read, and one last operation that waits for them all: one walk of the text's order serves every order. -/
namespace Go.Proofs.YtnaaomhmoamfpaaDoor.It
set_option linter.unusedVariables false
set_option linter.unusedSimpArgs false
set_option linter.unusedSectionVars false
open Go
variable {F : Fence} {n l : Nat} {P : Program}

theorem opIn_round {o : Oper} {a : Act} {w : World} {K : Act → World → Prop} {Q : Exit → Act → World → Prop} (hro : F.round = none) (ho : ∀ c, o.op ≠ .defer c) (h : o.wpIn F n P a w K Q) : o.wpIn (F.inRound l) n P a w K Q := by
  unfold Oper.wpIn at *
  refine ⟨h.1, ?_⟩
  have e1 : o.semAt F.round a.eval = execOp a.eval o := Oper.semAt_eq _ _ _ ho
  have e2 : o.semAt (F.inRound l).round a.eval = execOp a.eval o := Oper.semAt_eq _ _ _ ho
  have h2 := h.2
  rw [e1] at h2
  rw [e2]
  exact h2

theorem exists_first {R : Nat → Prop} : ∀ k, R k → ∃ m, R m ∧ ∀ j, j < m → ¬ R j := by
  intro k
  induction k using Nat.strongRecOn with
  | ind k ih =>
    intro hk
    by_cases h : ∃ j, j < k ∧ R j
    · obtain ⟨j, hj, hr⟩ := h
      exact ih j hj hr
    · exact ⟨k, hk, fun j hj hr => h ⟨j, hj, hr⟩⟩

def Back (ops : Array Oper) : Prop := ∀ (j : Nat) (o : Oper), ops[j]? = some o → ∀ e ∈ o.after, e.on < j

section
variable {opsR : Array Oper} {last : Oper} {C : World → Prop} {Q : Act → Prop} {Q' : Exit → Act → World → Prop}

theorem ready_push (hback : Back opsR) {listed : Array Bool} (hs : listed.size = opsR.size) {i : Nat} (hi : i < opsR.size) :
    i ∈ Region.ready .any (opsR.push last) (listed.push false) ↔ i ∈ Region.ready .any opsR listed := by
  rw [mem_ready, mem_ready]
  have e1 : (opsR.push last)[i]? = opsR[i]? := by rw [Array.getElem?_push]; simp; omega
  have g1 : ∀ (b : Bool) (j : Nat), j < opsR.size → (listed.push false).getD j b = listed.getD j b := fun b j hj => by
    simp only [Array.getD_eq_getD_getElem?]
    rw [Array.getElem?_push]
    have : ¬ j = listed.size := by omega
    simp [this]
  rw [e1, g1 true i hi]
  constructor
  · rintro ⟨h1, o, h2, h3⟩
    exact ⟨h1, o, h2, fun e he hb => by rw [← g1 false e.on (by have := hback i o h2 e he; omega)]; exact h3 e he hb⟩
  · rintro ⟨h1, o, h2, h3⟩
    exact ⟨h1, o, h2, fun e he hb => by rw [g1 false e.on (by have := hback i o h2 e he; omega)]; exact h3 e he hb⟩

/-- Nothing may come up: all has. -/
theorem all_listed (hback : Back opsR) {listed : Array Bool} (hs : listed.size = opsR.size) (h : Region.ready .any opsR listed = []) : ∀ j, j < opsR.size → listed.getD j false = true := by
  intro j hj
  rcases hb : listed.getD j false with _ | _
  · exfalso
    obtain ⟨m, ⟨hm1, hm2⟩, hmin⟩ := exists_first (R := fun j => j < opsR.size ∧ listed.getD j false = false) j ⟨hj, hb⟩
    have : m ∈ Region.ready .any opsR listed := by
      rw [mem_ready]
      have hg : ∀ b, listed.getD m b = false := fun b => by
        simp only [Array.getD_eq_getD_getElem?] at hm2 ⊢
        rw [Array.getElem?_eq_getElem (by omega)] at hm2 ⊢
        simpa using hm2
      refine ⟨hg true, opsR[m], Array.getElem?_eq_getElem hm1, fun e he _ => ?_⟩
      have hlt := hback m _ (Array.getElem?_eq_getElem hm1) e he
      rcases hx : listed.getD e.on false with _ | _
      · exact absurd ⟨by omega, hx⟩ (hmin e.on hlt)
      · rfl
    rw [h] at this
    cases this
  · rfl
theorem wpAnyIn_last (hro : F.round = none) (hback : Back opsR) (hplain : ∀ (j : Nat) (o : Oper), opsR[j]? = some o → o.guard = none ∧ ∀ c, o.op ≠ .defer c)
    (hlg : last.guard = none) (hlw : ∀ j, j < opsR.size → ∃ e ∈ last.after, Region.binds .any e = true ∧ e.on = j) (hle : ∀ e ∈ last.after, e.on < opsR.size)
    (hL : ∀ a w, C w → Q a → last.wpIn (F.inRound l) n P a w (fun a' w' => Q' .normal a' w') Q') :
    ∀ (fuel : Nat) (listed : Array Bool) (a : Act) (w : World), listed.size = opsR.size → C w → wpAnyQIn F n P .any opsR C Q fuel listed a → wpAnyIn (F.inRound l) n P .any (opsR.push last) Q' (fuel + 1) (listed.push false) a w := by
  have wanted : ∀ (o : Oper) (v : Nat → Option Bool), o.guard = none → Region.wanted o v = true := fun o v h => by simp [Region.wanted, h]
  have hk : (opsR.push last)[opsR.size]? = some last := by simp
  have fin : ∀ (fuel : Nat) (listed : Array Bool) (a' : Act) (w' : World), listed.size = opsR.size → (∀ j, j < opsR.size → listed.getD j false = true) → Q' .normal a' w' →
      wpAnyIn (F.inRound l) n P .any (opsR.push last) Q' fuel ((listed.push false).setIfInBounds opsR.size true) a' w' := by
    intro fuel listed a' w' hs hall hq
    have hnone : Region.ready .any (opsR.push last) ((listed.push false).setIfInBounds opsR.size true) = [] := by
      rw [List.eq_nil_iff_forall_not_mem]
      intro j hj
      rw [mem_ready] at hj
      obtain ⟨h1, o, h2, _⟩ := hj
      have hlt := (Array.getElem?_eq_some_iff.1 h2).1
      simp only [Array.size_push] at hlt
      by_cases e : j = opsR.size
      · subst e
        simp only [Array.getD_eq_getD_getElem?, Array.getElem?_setIfInBounds] at h1
        simp [hs] at h1
      · have := hall j (by omega)
        simp only [Array.getD_eq_getD_getElem?] at this h1
        rw [Array.getElem?_setIfInBounds_ne (by omega), Array.getElem?_push] at h1
        have e2 : ¬ j = listed.size := by omega
        simp only [e2, if_false] at h1
        rw [Array.getElem?_eq_getElem (by omega)] at this h1
        simp only [Option.getD_some] at this h1
        rw [this] at h1
        cases h1
    cases fuel with
    | zero => exact ⟨hnone, hq⟩
    | succ f => exact ⟨fun _ => hq, fun i hi => by rw [hnone] at hi; cases hi⟩
  have gp : ∀ (listed : Array Bool) (b : Bool) (j : Nat), listed.size = opsR.size → j < opsR.size → (listed.push false).getD j b = listed.getD j b := fun listed b j hs hj => by
    simp only [Array.getD_eq_getD_getElem?]
    rw [Array.getElem?_push]
    have : ¬ j = listed.size := by omega
    simp [this]
  have lastReady : ∀ (listed : Array Bool), listed.size = opsR.size → (∀ j, j < opsR.size → listed.getD j false = true) → opsR.size ∈ Region.ready .any (opsR.push last) (listed.push false) := fun listed hs hall => by
    rw [mem_ready]
    refine ⟨by simp [Array.getD_eq_getD_getElem?, ← hs], last, hk, fun e he hb => ?_⟩
    rw [gp listed false e.on hs (hle e he)]
    exact hall _ (hle e he)
  have lastStep : ∀ (fuel : Nat) (listed : Array Bool) (a : Act) (w : World), listed.size = opsR.size → C w → (∀ j, j < opsR.size → listed.getD j false = true) → Q a →
      wpOpIn (F.inRound l) n P (opsR.push last) Q' opsR.size (wpAnyIn (F.inRound l) n P .any (opsR.push last) Q' fuel ((listed.push false).setIfInBounds opsR.size true)) a w := fun fuel listed a w hs hc hall hq => by
    unfold wpOpIn
    simp only [hk]
    rw [if_pos (wanted _ _ hlg)]
    exact Oper.wpIn_mono (fun a' w' h => fin fuel listed a' w' hs hall h) (hL a w hc hq)
  have allOf : ∀ (listed : Array Bool), listed.size = opsR.size → opsR.size ∈ Region.ready .any (opsR.push last) (listed.push false) → ∀ j, j < opsR.size → listed.getD j false = true := fun listed hs hi j hj => by
    rw [mem_ready] at hi
    obtain ⟨_, o, ho, hall⟩ := hi
    rw [hk] at ho
    cases ho
    obtain ⟨e, he, hb, rfl⟩ := hlw j hj
    rw [← gp listed false e.on hs hj]
    exact hall e he hb
  have noneOf : ∀ (listed : Array Bool), listed.size = opsR.size → (∀ j, j < opsR.size → listed.getD j false = true) → Region.ready .any opsR listed = [] := fun listed hs hall => by
    rw [List.eq_nil_iff_forall_not_mem]
    intro j hj
    rw [mem_ready] at hj
    obtain ⟨h1, o, h2, _⟩ := hj
    have hlt := (Array.getElem?_eq_some_iff.1 h2).1
    have := hall j hlt
    simp only [Array.getD_eq_getD_getElem?] at this h1
    rw [Array.getElem?_eq_getElem (by omega)] at this h1
    simp only [Option.getD_some] at this h1
    rw [this] at h1
    cases h1
  have cases_ : ∀ (listed : Array Bool) (i : Nat), i ∈ Region.ready .any (opsR.push last) (listed.push false) → i < opsR.size ∨ i = opsR.size := fun listed i hi => by
    rw [mem_ready] at hi
    obtain ⟨_, o, h2, _⟩ := hi
    have hlt := (Array.getElem?_eq_some_iff.1 h2).1
    simp only [Array.size_push] at hlt
    omega
  intro fuel
  induction fuel with
  | zero =>
    intro listed a w hs hc h
    have hall := all_listed hback hs h.1
    refine ⟨fun h0 => ?_, fun i hi => ?_⟩
    · have := lastReady listed hs hall
      rw [h0] at this
      cases this
    · rcases cases_ listed i hi with hlt | rfl
      · have := (ready_push (last := last) hback hs hlt).1 hi
        rw [h.1] at this
        cases this
      · exact lastStep 0 listed a w hs hc hall h.2
  | succ fuel ih =>
    intro listed a w hs hc h
    refine ⟨fun h0 => ?_, fun i hi => ?_⟩
    · exfalso
      by_cases hr : Region.ready .any opsR listed = []
      · have := lastReady listed hs (all_listed hback hs hr)
        rw [h0] at this
        cases this
      · obtain ⟨i, hi⟩ := List.exists_mem_of_ne_nil _ hr
        have hlt : i < opsR.size := by
          have h2 := hi
          rw [mem_ready] at h2
          obtain ⟨_, o, h2, _⟩ := h2
          exact (Array.getElem?_eq_some_iff.1 h2).1
        have := (ready_push (last := last) hback hs hlt).2 hi
        rw [h0] at this
        cases this
    · rcases cases_ listed i hi with hlt | rfl
      · have hi' := (ready_push (last := last) hback hs hlt).1 hi
        have hst := wpOpIn_of_qOpIn (Q' := Q') hro hc (fun a' w' hw' hq => ih (listed.setIfInBounds i true) a' w' (by simpa using hs) hw' hq) (h.2 i hi')
        have ei : (opsR.push last)[i]? = opsR[i]? := by
          rw [Array.getElem?_push]
          have : ¬ i = opsR.size := by omega
          simp [this]
        have el : (listed.push false).setIfInBounds i true = (listed.setIfInBounds i true).push false := by
          apply Array.ext_getElem?
          intro j
          simp only [Array.getElem?_setIfInBounds, Array.getElem?_push, Array.size_push, Array.size_setIfInBounds]
          by_cases e1 : i = j
          · subst e1
            have h0 : ¬ i = listed.size := by omega
            have h1 : i < listed.size + 1 := by omega
            have h2 : i < listed.size := by omega
            simp [h0, h1, h2]
          · by_cases e2 : j = listed.size
            · have h3 : ¬ i = listed.size := by omega
              simp [e2, h3]
            · simp [e1, e2]
        unfold wpOpIn at hst ⊢
        rw [ei, el]
        cases ho : opsR[i]? with
        | none => rw [Array.getElem?_eq_getElem hlt] at ho; cases ho
        | some o =>
          rw [ho] at hst
          simp only at hst ⊢
          obtain ⟨hg, hd⟩ := hplain i o ho
          rw [if_pos (wanted _ _ hg)] at hst ⊢
          exact opIn_round hro hd hst
      · have hall := allOf listed hs hi
        exact lastStep (fuel + 1) listed a w hs hc hall (h.1 (noneOf listed hs hall))

/-- THE LAW: the region's reads are walked once, in the text's order; behind them the last operation. -/
theorem wpIn_region_last {id : Nat} {a : Act} {w : World} {lr : List Oper} (hro : F.round = none) (hm : P.follows .mixedOrders = true) (hB : Region.lexB .any lr.toArray = true) (hback : Back lr.toArray)
    (hplain : ∀ (j : Nat) (o : Oper), lr.toArray[j]? = some o → o.guard = none ∧ ∀ c, o.op ≠ .defer c) (hlg : last.guard = none)
    (hlw : ∀ j, j < lr.toArray.size → ∃ e ∈ last.after, Region.binds .any e = true ∧ e.on = j) (hle : ∀ e ∈ last.after, e.on < lr.toArray.size)
    (h : wpQuietIn F n P lr.toArray (fun w' => ∃ m, w' = w.drewN m) (fun a' => ∀ w1, (∃ m, w1 = w.drewN m) → last.wpIn (F.inRound l) n P a' w1 (fun a' w' => Q' .normal a' w') Q') lr a) :
    (Code.region id (lr ++ [last]).toArray true).wpIn (F.inRound l) n P Q' a w := by
  have hB' := hB
  simp only [Region.lexB, Bool.and_eq_true] at hB'
  have hq := wpAnyQIn_lex (F := F) (n := n) (C := fun w' => ∃ m, w' = w.drewN m) (md := .any) hB'.1 lr 0 (Array.replicate lr.toArray.size false) a (by simp) (by simpa using hB'.2) h
  have hcl : ∀ (a' : Act) (w' : World), (∃ m, w' = w.drewN m) → (∀ w1, (∃ m, w1 = w.drewN m) → last.wpIn (F.inRound l) n P a' w1 (fun a' w' => Q' .normal a' w') Q') → last.wpIn (F.inRound l) n P a' w' (fun a' w' => Q' .normal a' w') Q' := fun a' w' hw hq => hq w' hw
  have := wpAnyIn_last (l := l) (n := n) (P := P) (C := fun w' => ∃ m, w' = w.drewN m) (Q' := Q') (last := last) hro hback hplain hlg hlw hle hcl lr.length (Array.replicate lr.toArray.size false) a w.drew (by simp) ⟨1, rfl⟩ hq
  have e1 : (lr ++ [last]).toArray = lr.toArray.push last := by simp
  rw [e1]
  refine wpIn_region_any hm ?_
  have e2 : (lr.toArray.push last).size = lr.length + 1 := by simp
  have e3 : Array.replicate (lr.toArray.push last).size false = (Array.replicate lr.toArray.size false).push false := by rw [e2]; simp [Array.replicate_succ]
  rw [e3, e2]
  exact this
def noDefer (o : Oper) : Bool := match o.op with | .defer _ => false | _ => true
/-- What is asked of such a region's operations, by looking. -/
def lastB (lr : List Oper) (last : Oper) : Bool :=
  Region.lexB .any lr.toArray && (lr.all fun o => o.guard.isNone && noDefer o) && last.guard.isNone &&
  ((List.range lr.length).all fun j => ((lr[j]?).map fun o => o.after.all fun e => decide (e.on < j)).getD true && last.after.any fun e => Region.binds .any e && decide (e.on = j)) &&
  last.after.all fun e => decide (e.on < lr.length)
theorem wpIn_region_last' {id : Nat} {a : Act} {w : World} {ops lr : List Oper} {last : Oper} (hs : ops = lr ++ [last]) (hro : F.round = none) (hm : P.follows .mixedOrders = true) (hB : lastB lr last = true)
    (h : wpQuietIn F n P lr.toArray (fun w' => ∃ m, w' = w.drewN m) (fun a' => ∀ w1, (∃ m, w1 = w.drewN m) → last.wpIn (F.inRound l) n P a' w1 (fun a' w' => Q' .normal a' w') Q') lr a) :
    (Code.region id ops.toArray true).wpIn (F.inRound l) n P Q' a w := by
  subst hs
  unfold lastB at hB
  simp only [Bool.and_eq_true] at hB
  obtain ⟨⟨⟨⟨h1, h2⟩, h3⟩, h4⟩, h5⟩ := hB
  have h2' : ∀ o ∈ lr, o.guard = none ∧ ∀ c, o.op ≠ .defer c := fun o ho => by
    have := List.all_eq_true.1 h2 o ho
    simp only [Bool.and_eq_true, Option.isNone_iff_eq_none] at this
    refine ⟨this.1, fun c hc => ?_⟩
    have h := this.2
    simp [noDefer, hc] at h
  have h4' : ∀ j, j < lr.length → (((lr[j]?).map fun o => o.after.all fun e => decide (e.on < j)).getD true = true) ∧ (last.after.any fun e => Region.binds .any e && decide (e.on = j)) = true := fun j hj => by
    have := List.all_eq_true.1 h4 j (List.mem_range.2 hj)
    simpa only [Bool.and_eq_true] using this
  refine wpIn_region_last hro hm h1 (fun j o ho e he => ?_) (fun j o ho => h2' o ?_) (Option.isNone_iff_eq_none.1 h3) (fun j hj => ?_) (fun e he => ?_) h
  · have ho' : lr[j]? = some o := by simpa using ho
    have hj := (List.getElem?_eq_some_iff.1 ho').1
    have := (h4' j hj).1
    rw [ho'] at this
    simp only [Option.map_some, Option.getD_some, Array.all_eq_true_iff_forall_mem, decide_eq_true_eq] at this
    exact this e he
  · have ho' : lr[j]? = some o := by simpa using ho
    exact List.mem_of_getElem? ho'
  · have := (h4' j (by simpa using hj)).2
    rw [Array.any_eq_true'] at this
    obtain ⟨e, he, hb⟩ := this
    simp only [Bool.and_eq_true, decide_eq_true_eq] at hb
    exact ⟨e, he, hb.1, hb.2⟩
  · rw [Array.all_eq_true_iff_forall_mem] at h5
    simpa using h5 e he
end
end Go.Proofs.YtnaaomhmoamfpaaDoor.It
/- Fewest: what one step of the search does: its code, by name. -/
namespace Go.Proofs.YtnaaomhmoamfpaaDoor.G
set_option linter.unusedVariables false
set_option linter.unusedSimpArgs false
set_option linter.unusedSectionVars false
open Go.Proofs.YtnaaomhmoamfpaaDoor.Q Go.Proofs.YtnaaomhmoamfpaaDoor.Hn Go.Proofs.YtnaaomhmoamfpaaDoor.K Go.Proofs.YtnaaomhmoamfpaaDoor.It Go.Proofs.YtnaaomhmoamfpaaDoor.Bf
open Go.RowKit Go.Shelf Go.Proofs.YtnaaomhmoamfpaaDoorW.PrintWords Go.Proofs.YtnaaomhmoamfpaaDoorW.PrintLast Go.Proofs.YtnaaomhmoamfpaaDoorW.PrintMore
attribute [local go_sem] Oper.semAt_some

/-- What lies in the block of that number. -/
def findBlk (id : Nat) : Code → Option Code
  | .block i c => if i = id then some c else findBlk id c
  | .seq a b => (findBlk id a).or (findBlk id b)
  | .loop c => findBlk id c
  | .scope c => findBlk id c
  | .cond _ a b => (findBlk id a).or (findBlk id b)
  | .rangeFunc _ _ a b => (findBlk id a).or (findBlk id b)
  | _ => none
def codeOf (f : Func) : Code := match f.body with | some c => c | none => .skip
def fstC : Code → Code
  | .seq a _ => a
  | c => c
def sndC : Code → Code
  | .seq _ b => b
  | c => c
def dropC : Nat → Code → Code
  | 0, c => c
  | k + 1, c => dropC k (sndC c)
/-- A step's code, without its first k statements. -/
noncomputable def stepC (k : Nat) : Code := dropC k ((findBlk 7 (codeOf Tryd.f29)).getD .skip)
def keepS (b12 : Nat) : Nat → Prop := own3 (fun k => k = b12) (b12 + 1) (b12 + 2)
def Isr (n P : Nat) (W0 : World) (b9 b12 k : Nat) (s : List Int) (pre : List (Nat × Nat)) (W : World) : Prop := ∃ S q L v, Aside0 (Bd n P W0 W b9 b12 k s pre S q L v)
def Xsr (n P : Nat) (W0 : World) (b9 : Nat) (c : Code) (pre : List (Nat × Nat)) (W : World) : Prop := c = .exit 4 ∧ Aside0 (Fin n P W0 W b9)
end Go.Proofs.YtnaaomhmoamfpaaDoor.G
/- Fewest: what one step of the search does: a step's last part: the place is written, the goal asked for, the queue written. -/
namespace Go.Proofs.YtnaaomhmoamfpaaDoor.G
set_option linter.unusedVariables false
set_option linter.unusedSimpArgs false
set_option linter.unusedSectionVars false
open Go.Proofs.YtnaaomhmoamfpaaDoor.Q Go.Proofs.YtnaaomhmoamfpaaDoor.Hn Go.Proofs.YtnaaomhmoamfpaaDoor.K Go.Proofs.YtnaaomhmoamfpaaDoor.It Go.Proofs.YtnaaomhmoamfpaaDoor.Bf
open Go.RowKit Go.Shelf Go.Proofs.YtnaaomhmoamfpaaDoorW.PrintWords Go.Proofs.YtnaaomhmoamfpaaDoorW.PrintLast Go.Proofs.YtnaaomhmoamfpaaDoorW.PrintMore
attribute [local go_sem] Oper.semAt_some

set_option maxRecDepth 100000 in
set_option maxHeartbeats 4000000 in
theorem search_put (l n P : Nat) (hn : n ≤ 16) (hP3 : 3 ≤ P) (hP8 : P ≤ 8) (hle : P ^ n ≤ 70000) (W0 W W7 : World) (b9 b12 b15 k : Nat) (s : List Int) (pre : List (Nat × Nat)) (d tq : Nat) (hd : d < n) (hto : tq < P)
    (hmem : s.set d (tq : Int) ∈ nextP P s) (S : Se (List Int)) (q L : List (List Int)) (v : Value) (h7 : Bd n P W0 W7 b9 b12 k s pre S q L v) (hb15 : Blk W7 b15 (posF (nth (s.set d (tq : Int)))) 90) (hlt : b12 + 2 < b15) (hR : RB 127 (keepS b12) W W7)
    (hsz : ∀ j, v.ownBlock = some j → j < b15) (hnone : S (s.set d (tq : Int)) = none) (x2 x3 x4 x5 x6 x7 x9 x13 x14 x16 x17 x18 x19 x20 x21 x22 x23 x24 x25 x26 x27 x28 x29 x30 x31 x32 x33 x34 x35 x36 x37 x38 x39 x40 x41 x42 x43 x44 x45 x46 x47 x48 x49 x50 x51 x52 x53 x54 x55 x56 x57 x58 x59 x60 x61 x62 x63 x64 x65 x66 x67 x68 x69 x70 x71 x72 x73 x74 x75 x76 x77 x78 x79 x80 x81 x82 x83 x84 x85 x86 x87 x88 x89 x90 : Value)
    (K : Act → World → Prop) (Q' : Exit → Act → World → Prop)
    (hK : ∀ (W8 : World) (ds : Nat) (x2 x3 x4 x5 x6 x7 x9 x13 x14 x16 x17 x18 x19 x20 x21 x22 x23 x24 x25 x26 x27 x28 x29 x30 x31 x32 x33 x34 x35 x36 x37 x38 x39 x40 x41 x42 x43 x44 x45 x46 x47 x48 x49 x50 x51 x52 x53 x54 x55 x56 x57 x58 x59 x60 x61 x62 x63 x64 x65 x66 x67 x68 x69 x70 x71 x72 x73 x74 x75 x76 x77 x78 x79 x80 x81 x82 x83 x84 x85 x86 x87 x88 x89 x90 : Value), S s = some ds → Seen W8 (W0.heap.size + 2) (L.length + 1) (Vp n P) (S.put (s.set d (tq : Int)) (ds + 1)) → W7.grownBy W8 (some (W0.heap.size + 2)) → K { tmps := #[Value.int IntKind.i64 (n : Int), Value.int IntKind.i64 (P : Int), x2, x3, x4, x5, x6, x7, Value.pointer (some { block := W0.heap.size + 1, off := 0 }), x9, Value.pointer (some { block := b9, off := 0 }), Value.pointer (some { block := b9 + 1 + 1, off := 0 }), Value.pointer (some { block := b12, off := 0 }), x13, x14, Value.pointer (some { block := b15, off := 0 }), x16, x17, x18, x19, x20, x21, x22, x23, x24, x25, x26, x27, x28, x29, x30, x31, x32, x33, x34, x35, x36, x37, x38, x39, x40, x41, x42, x43, x44, x45, x46, x47, x48, x49, x50, x51, x52, x53, x54, x55, x56, x57, x58, x59, x60, x61, x62, x63, x64, x65, x66, x67, x68, x69, x70, x71, x72, x73, x74, x75, x76, x77, x78, x79, x80, x81, x82, x83, x84, x85, x86, x87, x88, x89, x90], defers := [] } W8) :
    (fstC (stepC 3)).wpIn (Fence.wide.inRound l) 6 Tryd.prog (Exit.then K Q') { tmps := #[Value.int IntKind.i64 (n : Int), Value.int IntKind.i64 (P : Int), x2, x3, x4, x5, x6, x7, Value.pointer (some { block := W0.heap.size + 1, off := 0 }), x9, Value.pointer (some { block := b9, off := 0 }), Value.pointer (some { block := b9 + 1 + 1, off := 0 }), Value.pointer (some { block := b12, off := 0 }), x13, x14, Value.pointer (some { block := b15, off := 0 }), x16, x17, x18, x19, x20, x21, x22, x23, x24, x25, x26, x27, x28, x29, x30, x31, x32, x33, x34, x35, x36, x37, x38, x39, x40, x41, x42, x43, x44, x45, x46, x47, x48, x49, x50, x51, x52, x53, x54, x55, x56, x57, x58, x59, x60, x61, x62, x63, x64, x65, x66, x67, x68, x69, x70, x71, x72, x73, x74, x75, x76, x77, x78, x79, x80, x81, x82, x83, x84, x85, x86, x87, x88, x89, x90], defers := [] } W7 := by
  have hvs : Vp n P s := by
    obtain ⟨ds, h1, h2⟩ := h7.rm.some_
    exact h7.rm.v s (by rw [h1]; rfl)
  have hvt := vp_set hvs d tq hd hto
  obtain ⟨c0, hc0⟩ : ∃ c0, fstC (stepC 3) = c0 := ⟨_, rfl⟩
  have hc := hc0
  simp only [stepC, dropC, codeOf, Tryd.f29, findBlk, Option.or_some, Option.none_or, Option.or_none, if_true, if_false, Nat.reduceEqDiff, reduceIte, Option.getD_some, sndC, fstC] at hc
  rw [hc0]
  clear hc0
  subst hc
  obtain ⟨m, hm⟩ : ∃ m, nth s = m := ⟨_, rfl⟩
  obtain ⟨tm, htm⟩ : ∃ tm, nth (s.set d (tq : Int)) = tm := ⟨_, rfl⟩
  rw [htm] at hb15
  obtain ⟨t0, t1, t2, t3, t4, t5, t6, t7, t8, t9, t10, t11, t12, t13, t14, t15⟩ := pos_cells hb15
  have hb12 := h7.box12
  rw [hm] at hb12
  obtain ⟨q0, q1, q2, q3, q4, q5, q6, q7, q8, q9, q10, q11, q12, q13, q14, q15⟩ := pos_cells hb12
  have hc10 := h7.box10.cell 0 (v := .map (some (W0.heap.size + 2))) rfl
  obtain ⟨ds, hds, hdl⟩ := h7.rm.some_
  have hcount := rm_count h7.rm
  have hwd : IntKind.i64.wrap ((ds : Int) + 1) = (ds : Int) + 1 := by rw [i64_w]; exact w64 (by omega) (by omega)
  have hlkn : ∀ m, (Instr.lookup 98 (.map (some (W0.heap.size + 2))) (.agg (posF (nth s))) false).run Tryd.prog (W7.drewN m) = .ok (.int .i64 (ds : Int)) (W7.drewN m) := fun m => by
    have := (h7.map_.mapsTo (W' := W7.drewN m) rfl).look hP8 hvs
    rw [hds] at this
    exact this
  rw [hm] at hlkn
  unfold posF at hlkn
  have H7 := Aside0.mk h7
  have HK := Aside0.mk hK
  have HDS := Aside0.mk hds
  have HTM := Aside0.mk htm
  have HVT := Aside0.mk hvt
  clear h7 hK hds htm hvt hvs hb15 hb12 hm hmem hnone hsz hR
  dsimp only at HK ⊢
  refine wpIn_region_last' (F := Fence.wide) (lr := [_, _, _, _, _, _]) (hs := rfl) rfl (by kernel_rfl) (by kernel_rfl) ?_
  repeat (gi_big_quiet_step (fail))
  refine wpQuietIn_nil ?_
  intro _ hw'
  obtain ⟨nq, hw''⟩ := hw'
  subst hw''
  obtain ⟨W8, hput, hS8, hg8⟩ := (H7.out.map_.mapsTo (W' := W7.drewN nq) rfl).put hP8 hn HVT.out (ds + 1) (by omega) (by omega)
  rw [HTM.out] at hput
  simp only [Int.natCast_add, Int.natCast_one] at hput
  unfold posF at hput
  have HS8 := Aside0.mk hS8
  have HG8 := Aside0.mk hg8
  clear hS8 hg8 t0 t1 t2 t3 t4 t5 t6 t7 t8 t9 t10 t11 t12 t13 t14 t15 q0 q1 q2 q3 q4 q5 q6 q7 q8 q9 q10 q11 q12 q13 q14 q15 hlkn
  go_simp
  exact HK.out W8 ds _ _ _ _ _ _ _ _ _ _ _ _ _ _ _ _ _ _ _ _ _ _ _ _ _ _ _ _ _ _ _ _ _ _ _ _ _ _ _ _ _ _ _ _ _ _ _ _ _ _ _ _ _ _ _ _ _ _ _ _ _ _ _ _ _ _ _ _ _ _ _ _ _ _ _ _ _ _ _ _ _ _ _ _ HDS.out HS8.out ⟨HG8.out.os, HG8.out.tape, HG8.out.output, HG8.out.size, HG8.out.block⟩
end Go.Proofs.YtnaaomhmoamfpaaDoor.G
/- Fewest: what one step of the search does: the place is looked up. -/
namespace Go.Proofs.YtnaaomhmoamfpaaDoor.G
set_option linter.unusedVariables false
set_option linter.unusedSimpArgs false
set_option linter.unusedSectionVars false
open Go.Proofs.YtnaaomhmoamfpaaDoor.Q Go.Proofs.YtnaaomhmoamfpaaDoor.Hn Go.Proofs.YtnaaomhmoamfpaaDoor.K Go.Proofs.YtnaaomhmoamfpaaDoor.It Go.Proofs.YtnaaomhmoamfpaaDoor.Bf
open Go.RowKit Go.Shelf Go.Proofs.YtnaaomhmoamfpaaDoorW.PrintWords Go.Proofs.YtnaaomhmoamfpaaDoorW.PrintLast Go.Proofs.YtnaaomhmoamfpaaDoorW.PrintMore
attribute [local go_sem] Oper.semAt_some

set_option maxRecDepth 100000 in
set_option maxHeartbeats 4000000 in
theorem search_look (l n P : Nat) (hn : n ≤ 16) (hP8 : P ≤ 8) (W0 W7 : World) (b9 b12 b15 k : Nat) (s : List Int) (pre : List (Nat × Nat)) (t : List Int) (hvt : Vp n P t)
    (S : Se (List Int)) (q L : List (List Int)) (v : Value) (h7 : Bd n P W0 W7 b9 b12 k s pre S q L v) (hb15 : Blk W7 b15 (posF (nth t)) 90) (x2 x3 x4 x5 x6 x7 x9 x13 x14 x16 x17 x18 x19 x20 x21 x22 x23 x24 x25 x26 x27 x28 x29 x30 x31 x32 x33 x34 x35 x36 x37 x38 x39 x40 x41 x42 x43 x44 x45 x46 x47 x48 x49 x50 x51 x52 x53 x54 x55 x56 x57 x58 x59 x60 x61 x62 x63 x64 x65 x66 x67 x68 x69 x70 x71 x72 x73 x74 x75 x76 x77 x78 x79 x80 x81 x82 x83 x84 x85 x86 x87 x88 x89 x90 : Value)
    (K : Act → World → Prop) (Q' : Exit → Act → World → Prop)
    (hS : ∀ (x2 x3 x4 x5 x6 x7 x9 x13 x14 x16 x17 x18 x19 x20 x21 x22 x23 x24 x25 x26 x27 x28 x29 x30 x31 x32 x33 x34 x35 x36 x37 x38 x39 x40 x41 x42 x43 x44 x45 x46 x47 x48 x49 x50 x51 x52 x53 x54 x55 x56 x57 x58 x59 x60 x61 x62 x63 x64 x65 x66 x67 x68 x69 x70 x71 x72 x73 x74 x75 x76 x77 x78 x79 x80 x81 x82 x83 x84 x85 x86 x87 x88 x89 x90 : Value), (S t).isSome = true → Q' (.exit 7) { tmps := #[Value.int IntKind.i64 (n : Int), Value.int IntKind.i64 (P : Int), x2, x3, x4, x5, x6, x7, Value.pointer (some { block := W0.heap.size + 1, off := 0 }), x9, Value.pointer (some { block := b9, off := 0 }), Value.pointer (some { block := b9 + 1 + 1, off := 0 }), Value.pointer (some { block := b12, off := 0 }), x13, x14, Value.pointer (some { block := b15, off := 0 }), x16, x17, x18, x19, x20, x21, x22, x23, x24, x25, x26, x27, x28, x29, x30, x31, x32, x33, x34, x35, x36, x37, x38, x39, x40, x41, x42, x43, x44, x45, x46, x47, x48, x49, x50, x51, x52, x53, x54, x55, x56, x57, x58, x59, x60, x61, x62, x63, x64, x65, x66, x67, x68, x69, x70, x71, x72, x73, x74, x75, x76, x77, x78, x79, x80, x81, x82, x83, x84, x85, x86, x87, x88, x89, x90], defers := [] } W7)
    (hK : ∀ (x2 x3 x4 x5 x6 x7 x9 x13 x14 x16 x17 x18 x19 x20 x21 x22 x23 x24 x25 x26 x27 x28 x29 x30 x31 x32 x33 x34 x35 x36 x37 x38 x39 x40 x41 x42 x43 x44 x45 x46 x47 x48 x49 x50 x51 x52 x53 x54 x55 x56 x57 x58 x59 x60 x61 x62 x63 x64 x65 x66 x67 x68 x69 x70 x71 x72 x73 x74 x75 x76 x77 x78 x79 x80 x81 x82 x83 x84 x85 x86 x87 x88 x89 x90 : Value), S t = none → K { tmps := #[Value.int IntKind.i64 (n : Int), Value.int IntKind.i64 (P : Int), x2, x3, x4, x5, x6, x7, Value.pointer (some { block := W0.heap.size + 1, off := 0 }), x9, Value.pointer (some { block := b9, off := 0 }), Value.pointer (some { block := b9 + 1 + 1, off := 0 }), Value.pointer (some { block := b12, off := 0 }), x13, x14, Value.pointer (some { block := b15, off := 0 }), x16, x17, x18, x19, x20, x21, x22, x23, x24, x25, x26, x27, x28, x29, x30, x31, x32, x33, x34, x35, x36, x37, x38, x39, x40, x41, x42, x43, x44, x45, x46, x47, x48, x49, x50, x51, x52, x53, x54, x55, x56, x57, x58, x59, x60, x61, x62, x63, x64, x65, x66, x67, x68, x69, x70, x71, x72, x73, x74, x75, x76, x77, x78, x79, x80, x81, x82, x83, x84, x85, x86, x87, x88, x89, x90], defers := [] } W7) :
    (fstC (stepC 2)).wpIn (Fence.wide.inRound l) 6 Tryd.prog (Exit.then K Q') { tmps := #[Value.int IntKind.i64 (n : Int), Value.int IntKind.i64 (P : Int), x2, x3, x4, x5, x6, x7, Value.pointer (some { block := W0.heap.size + 1, off := 0 }), x9, Value.pointer (some { block := b9, off := 0 }), Value.pointer (some { block := b9 + 1 + 1, off := 0 }), Value.pointer (some { block := b12, off := 0 }), x13, x14, Value.pointer (some { block := b15, off := 0 }), x16, x17, x18, x19, x20, x21, x22, x23, x24, x25, x26, x27, x28, x29, x30, x31, x32, x33, x34, x35, x36, x37, x38, x39, x40, x41, x42, x43, x44, x45, x46, x47, x48, x49, x50, x51, x52, x53, x54, x55, x56, x57, x58, x59, x60, x61, x62, x63, x64, x65, x66, x67, x68, x69, x70, x71, x72, x73, x74, x75, x76, x77, x78, x79, x80, x81, x82, x83, x84, x85, x86, x87, x88, x89, x90], defers := [] } W7 := by
  obtain ⟨c0, hc0⟩ : ∃ c0, fstC (stepC 2) = c0 := ⟨_, rfl⟩
  have hc := hc0
  simp only [stepC, dropC, codeOf, Tryd.f29, findBlk, Option.or_some, Option.none_or, Option.or_none, if_true, if_false, Nat.reduceEqDiff, reduceIte, Option.getD_some, sndC, fstC] at hc
  rw [hc0]
  clear hc0
  subst hc
  obtain ⟨tm, htm⟩ : ∃ tm, nth t = tm := ⟨_, rfl⟩
  have hok := h7.map_.look_ok hP8 hvt
  rw [htm] at hb15 hok
  obtain ⟨t0, t1, t2, t3, t4, t5, t6, t7, t8, t9, t10, t11, t12, t13, t14, t15⟩ := pos_cells hb15
  unfold posF at hok
  have hc10 := h7.box10.cell 0 (v := .map (some (W0.heap.size + 2))) rfl
  have H7 := Aside0.mk h7
  have HK := Aside0.mk hK
  have HS := Aside0.mk hS
  have HVT := Aside0.mk hvt
  clear h7 hK hS htm hvt hb15
  cases hst : S t with
  | some e =>
    rw [hst] at hok
    simp only [Option.isSome_some] at hok
    have HST := Aside0.mk hst
    clear hst
    gi_wp2
    exact HS.out _ _ _ _ _ _ _ _ _ _ _ _ _ _ _ _ _ _ _ _ _ _ _ _ _ _ _ _ _ _ _ _ _ _ _ _ _ _ _ _ _ _ _ _ _ _ _ _ _ _ _ _ _ _ _ _ _ _ _ _ _ _ _ _ _ _ _ _ _ _ _ _ _ _ _ _ _ _ _ _ _ _ _ _ (by rw [HST.out]; rfl)
  | none =>
    rw [hst] at hok
    simp only [Option.isSome_none, Option.getD_none] at hok
    have HST := Aside0.mk hst
    clear hst
    gi_wp2
    exact HK.out _ _ _ _ _ _ _ _ _ _ _ _ _ _ _ _ _ _ _ _ _ _ _ _ _ _ _ _ _ _ _ _ _ _ _ _ _ _ _ _ _ _ _ _ _ _ _ _ _ _ _ _ _ _ _ _ _ _ _ _ _ _ _ _ _ _ _ _ _ _ _ _ _ _ _ _ _ _ _ _ _ _ _ _ HST.out
end Go.Proofs.YtnaaomhmoamfpaaDoor.G
/- Fewest: what one step of the search does: the position is copied, the disc put down. -/
namespace Go.Proofs.YtnaaomhmoamfpaaDoor.G
set_option linter.unusedVariables false
set_option linter.unusedSimpArgs false
set_option linter.unusedSectionVars false
open Go.Proofs.YtnaaomhmoamfpaaDoor.Q Go.Proofs.YtnaaomhmoamfpaaDoor.Hn Go.Proofs.YtnaaomhmoamfpaaDoor.K Go.Proofs.YtnaaomhmoamfpaaDoor.It Go.Proofs.YtnaaomhmoamfpaaDoor.Bf
open Go.RowKit Go.Shelf Go.Proofs.YtnaaomhmoamfpaaDoorW.PrintWords Go.Proofs.YtnaaomhmoamfpaaDoorW.PrintLast Go.Proofs.YtnaaomhmoamfpaaDoorW.PrintMore
attribute [local go_sem] Oper.semAt_some

set_option maxRecDepth 100000 in
set_option maxHeartbeats 4000000 in
theorem search_copy (l n P d tq : Nat) (W0 W : World) (b9 b12 : Nat) (s : List Int) (hb12 : Blk W b12 (posF (nth s)) 90) (x2 x3 x4 x5 x6 x7 x9 x15 x16 x17 x18 x19 x20 x21 x22 x23 x24 x25 x26 x27 x28 x29 x30 x31 x32 x33 x34 x35 x36 x37 x38 x39 x40 x41 x42 x43 x44 x45 x46 x47 x48 x49 x50 x51 x52 x53 x54 x55 x56 x57 x58 x59 x60 x61 x62 x63 x64 x65 x66 x67 x68 x69 x70 x71 x72 x73 x74 x75 x76 x77 x78 x79 x80 x81 x82 x83 x84 x85 x86 x87 x88 x89 x90 : Value) (K : Act → World → Prop) (Q' : Exit → Act → World → Prop)
    (hK : ∀ (x2 x3 x4 x5 x6 x7 x9 x16 x17 x18 x19 x20 x21 x22 x23 x24 x25 x26 x27 x28 x29 x30 x31 x32 x33 x34 x35 x36 x37 x38 x39 x40 x41 x42 x43 x44 x45 x46 x47 x48 x49 x50 x51 x52 x53 x54 x55 x56 x57 x58 x59 x60 x61 x62 x63 x64 x65 x66 x67 x68 x69 x70 x71 x72 x73 x74 x75 x76 x77 x78 x79 x80 x81 x82 x83 x84 x85 x86 x87 x88 x89 x90 : Value), K { tmps := #[Value.int IntKind.i64 (n : Int), Value.int IntKind.i64 (P : Int), x2, x3, x4, x5, x6, x7, Value.pointer (some { block := W0.heap.size + 1, off := 0 }), x9, Value.pointer (some { block := b9, off := 0 }), Value.pointer (some { block := b9 + 1 + 1, off := 0 }), Value.pointer (some { block := b12, off := 0 }), Value.int IntKind.i64 (d : Int), Value.int IntKind.i64 (tq : Int), Value.pointer (some { block := W.heap.size, off := 0 }), x16, x17, x18, x19, x20, x21, x22, x23, x24, x25, x26, x27, x28, x29, x30, x31, x32, x33, x34, x35, x36, x37, x38, x39, x40, x41, x42, x43, x44, x45, x46, x47, x48, x49, x50, x51, x52, x53, x54, x55, x56, x57, x58, x59, x60, x61, x62, x63, x64, x65, x66, x67, x68, x69, x70, x71, x72, x73, x74, x75, x76, x77, x78, x79, x80, x81, x82, x83, x84, x85, x86, x87, x88, x89, x90], defers := [] } (W.alloc (.cells (posF (nth s)) 90))) :
    (fstC (stepC 0)).wpIn (Fence.wide.inRound l) 6 Tryd.prog (Exit.then K Q') { tmps := #[Value.int IntKind.i64 (n : Int), Value.int IntKind.i64 (P : Int), x2, x3, x4, x5, x6, x7, Value.pointer (some { block := W0.heap.size + 1, off := 0 }), x9, Value.pointer (some { block := b9, off := 0 }), Value.pointer (some { block := b9 + 1 + 1, off := 0 }), Value.pointer (some { block := b12, off := 0 }), Value.int IntKind.i64 (d : Int), Value.int IntKind.i64 (tq : Int), x15, x16, x17, x18, x19, x20, x21, x22, x23, x24, x25, x26, x27, x28, x29, x30, x31, x32, x33, x34, x35, x36, x37, x38, x39, x40, x41, x42, x43, x44, x45, x46, x47, x48, x49, x50, x51, x52, x53, x54, x55, x56, x57, x58, x59, x60, x61, x62, x63, x64, x65, x66, x67, x68, x69, x70, x71, x72, x73, x74, x75, x76, x77, x78, x79, x80, x81, x82, x83, x84, x85, x86, x87, x88, x89, x90], defers := [] } W := by
  obtain ⟨c0, hc0⟩ : ∃ c0, fstC (stepC 0) = c0 := ⟨_, rfl⟩
  have hc := hc0
  simp only [stepC, dropC, codeOf, Tryd.f29, findBlk, Option.or_some, Option.none_or, Option.or_none, if_true, if_false, Nat.reduceEqDiff, reduceIte, Option.getD_some, sndC, fstC] at hc
  rw [hc0]
  clear hc0
  subst hc
  obtain ⟨m, hm⟩ : ∃ m, nth s = m := ⟨_, rfl⟩
  rw [hm] at hb12 hK
  obtain ⟨q0, q1, q2, q3, q4, q5, q6, q7, q8, q9, q10, q11, q12, q13, q14, q15⟩ := pos_cells hb12
  have HK := Aside0.mk hK
  clear hK hb12
  gi_wp2
  exact HK.out _ _ _ _ _ _ _ _ _ _ _ _ _ _ _ _ _ _ _ _ _ _ _ _ _ _ _ _ _ _ _ _ _ _ _ _ _ _ _ _ _ _ _ _ _ _ _ _ _ _ _ _ _ _ _ _ _ _ _ _ _ _ _ _ _ _ _ _ _ _ _ _ _ _ _ _ _ _ _ _ _ _

set_option maxRecDepth 100000 in
set_option maxHeartbeats 4000000 in
theorem search_down (l n P d tq : Nat) (hd : d < 16) (W0 W6 : World) (b9 b12 b15 : Nat) (m : Nat → Int) (hb15 : Blk W6 b15 (posF m) 90) (x2 x3 x4 x5 x6 x7 x9 x16 x17 x18 x19 x20 x21 x22 x23 x24 x25 x26 x27 x28 x29 x30 x31 x32 x33 x34 x35 x36 x37 x38 x39 x40 x41 x42 x43 x44 x45 x46 x47 x48 x49 x50 x51 x52 x53 x54 x55 x56 x57 x58 x59 x60 x61 x62 x63 x64 x65 x66 x67 x68 x69 x70 x71 x72 x73 x74 x75 x76 x77 x78 x79 x80 x81 x82 x83 x84 x85 x86 x87 x88 x89 x90 : Value) (K : Act → World → Prop) (Q' : Exit → Act → World → Prop)
    (hK : ∀ (x2 x3 x4 x5 x6 x7 x9 x16 x17 x18 x19 x20 x21 x22 x23 x24 x25 x26 x27 x28 x29 x30 x31 x32 x33 x34 x35 x36 x37 x38 x39 x40 x41 x42 x43 x44 x45 x46 x47 x48 x49 x50 x51 x52 x53 x54 x55 x56 x57 x58 x59 x60 x61 x62 x63 x64 x65 x66 x67 x68 x69 x70 x71 x72 x73 x74 x75 x76 x77 x78 x79 x80 x81 x82 x83 x84 x85 x86 x87 x88 x89 x90 : Value), K { tmps := #[Value.int IntKind.i64 (n : Int), Value.int IntKind.i64 (P : Int), x2, x3, x4, x5, x6, x7, Value.pointer (some { block := W0.heap.size + 1, off := 0 }), x9, Value.pointer (some { block := b9, off := 0 }), Value.pointer (some { block := b9 + 1 + 1, off := 0 }), Value.pointer (some { block := b12, off := 0 }), Value.int IntKind.i64 (d : Int), Value.int IntKind.i64 (tq : Int), Value.pointer (some { block := b15, off := 0 }), x16, x17, x18, x19, x20, x21, x22, x23, x24, x25, x26, x27, x28, x29, x30, x31, x32, x33, x34, x35, x36, x37, x38, x39, x40, x41, x42, x43, x44, x45, x46, x47, x48, x49, x50, x51, x52, x53, x54, x55, x56, x57, x58, x59, x60, x61, x62, x63, x64, x65, x66, x67, x68, x69, x70, x71, x72, x73, x74, x75, x76, x77, x78, x79, x80, x81, x82, x83, x84, x85, x86, x87, x88, x89, x90], defers := [] } (W6.setCell ⟨b15, d, none⟩ (.int .i64 (tq : Int)))) :
    (fstC (stepC 1)).wpIn (Fence.wide.inRound l) 6 Tryd.prog (Exit.then K Q') { tmps := #[Value.int IntKind.i64 (n : Int), Value.int IntKind.i64 (P : Int), x2, x3, x4, x5, x6, x7, Value.pointer (some { block := W0.heap.size + 1, off := 0 }), x9, Value.pointer (some { block := b9, off := 0 }), Value.pointer (some { block := b9 + 1 + 1, off := 0 }), Value.pointer (some { block := b12, off := 0 }), Value.int IntKind.i64 (d : Int), Value.int IntKind.i64 (tq : Int), Value.pointer (some { block := b15, off := 0 }), x16, x17, x18, x19, x20, x21, x22, x23, x24, x25, x26, x27, x28, x29, x30, x31, x32, x33, x34, x35, x36, x37, x38, x39, x40, x41, x42, x43, x44, x45, x46, x47, x48, x49, x50, x51, x52, x53, x54, x55, x56, x57, x58, x59, x60, x61, x62, x63, x64, x65, x66, x67, x68, x69, x70, x71, x72, x73, x74, x75, x76, x77, x78, x79, x80, x81, x82, x83, x84, x85, x86, x87, x88, x89, x90], defers := [] } W6 := by
  obtain ⟨c0, hc0⟩ : ∃ c0, fstC (stepC 1) = c0 := ⟨_, rfl⟩
  have hc := hc0
  simp only [stepC, dropC, codeOf, Tryd.f29, findBlk, Option.or_some, Option.none_or, Option.or_none, if_true, if_false, Nat.reduceEqDiff, reduceIte, Option.getD_some, sndC, fstC] at hc
  rw [hc0]
  clear hc0
  subst hc
  have hc15 := hb15.cell d (posF_get _ _ hd)
  have hf15 := hb15.free d
  have HK := Aside0.mk hK
  clear hK hb15
  gi_wp2
  exact HK.out _ _ _ _ _ _ _ _ _ _ _ _ _ _ _ _ _ _ _ _ _ _ _ _ _ _ _ _ _ _ _ _ _ _ _ _ _ _ _ _ _ _ _ _ _ _ _ _ _ _ _ _ _ _ _ _ _ _ _ _ _ _ _ _ _ _ _ _ _ _ _ _ _ _ _ _ _ _ _ _ _ _
end Go.Proofs.YtnaaomhmoamfpaaDoor.G
/- Fewest: what one step of the search does: the goal asked for, the queue written. -/
namespace Go.Proofs.YtnaaomhmoamfpaaDoor.G
set_option linter.unusedVariables false
set_option linter.unusedSimpArgs false
set_option linter.unusedSectionVars false
open Go.Proofs.YtnaaomhmoamfpaaDoor.Q Go.Proofs.YtnaaomhmoamfpaaDoor.Hn Go.Proofs.YtnaaomhmoamfpaaDoor.K Go.Proofs.YtnaaomhmoamfpaaDoor.It Go.Proofs.YtnaaomhmoamfpaaDoor.Bf
open Go.RowKit Go.Shelf Go.Proofs.YtnaaomhmoamfpaaDoorW.PrintWords Go.Proofs.YtnaaomhmoamfpaaDoorW.PrintLast Go.Proofs.YtnaaomhmoamfpaaDoorW.PrintMore
attribute [local go_sem] Oper.semAt_some

set_option maxRecDepth 100000 in
set_option maxHeartbeats 4000000 in
theorem search_tail (l n P : Nat) (hn : n ≤ 16) (hP3 : 3 ≤ P) (hP8 : P ≤ 8) (W0 W8 : World) (b9 b12 b15 : Nat) (t : List Int) (hvt : Vp n P t) (hb15 : Blk W8 b15 (posF (nth t)) 90) (hb8 : Blk W8 (W0.heap.size + 1) (posF (goalTo P n)) 90)
    (A : Option Addr) (cap : Nat) (q : List (List Int)) (hb11 : Blk W8 (b9 + 1 + 1) #[.slice A q.length cap] 99) (hrow : QRow W8 (b9 + 1) 90 16 (.slice A q.length cap) q.length (flat q)) (hql : q.length ≤ 1000000) (hbase : b9 + 1 + 1 < W8.heap.size) (x2 x3 x4 x5 x6 x7 x9 x13 x14 x16 x17 x18 x19 x20 x21 x22 x23 x24 x25 x26 x27 x28 x29 x30 x31 x32 x33 x34 x35 x36 x37 x38 x39 x40 x41 x42 x43 x44 x45 x46 x47 x48 x49 x50 x51 x52 x53 x54 x55 x56 x57 x58 x59 x60 x61 x62 x63 x64 x65 x66 x67 x68 x69 x70 x71 x72 x73 x74 x75 x76 x77 x78 x79 x80 x81 x82 x83 x84 x85 x86 x87 x88 x89 x90 : Value) (Q' : Exit → Act → World → Prop)
    (hG : ∀ (x2 x3 x4 x5 x6 x7 x9 x13 x14 x16 x17 x18 x19 x20 x21 x22 x23 x24 x25 x26 x27 x28 x29 x30 x31 x32 x33 x34 x35 x36 x37 x38 x39 x40 x41 x42 x43 x44 x45 x46 x47 x48 x49 x50 x51 x52 x53 x54 x55 x56 x57 x58 x59 x60 x61 x62 x63 x64 x65 x66 x67 x68 x69 x70 x71 x72 x73 x74 x75 x76 x77 x78 x79 x80 x81 x82 x83 x84 x85 x86 x87 x88 x89 x90 : Value), t = goalP n P → Q' (.exit 4) { tmps := #[Value.int IntKind.i64 (n : Int), Value.int IntKind.i64 (P : Int), x2, x3, x4, x5, x6, x7, Value.pointer (some { block := W0.heap.size + 1, off := 0 }), x9, Value.pointer (some { block := b9, off := 0 }), Value.pointer (some { block := b9 + 1 + 1, off := 0 }), Value.pointer (some { block := b12, off := 0 }), x13, x14, Value.pointer (some { block := b15, off := 0 }), x16, x17, x18, x19, x20, x21, x22, x23, x24, x25, x26, x27, x28, x29, x30, x31, x32, x33, x34, x35, x36, x37, x38, x39, x40, x41, x42, x43, x44, x45, x46, x47, x48, x49, x50, x51, x52, x53, x54, x55, x56, x57, x58, x59, x60, x61, x62, x63, x64, x65, x66, x67, x68, x69, x70, x71, x72, x73, x74, x75, x76, x77, x78, x79, x80, x81, x82, x83, x84, x85, x86, x87, x88, x89, x90], defers := [] } W8)
    (hA : ∀ (x2 x3 x4 x5 x6 x7 x9 x13 x14 x16 x17 x18 x19 x20 x21 x22 x23 x24 x25 x26 x27 x28 x29 x30 x31 x32 x33 x34 x35 x36 x37 x38 x39 x40 x41 x42 x43 x44 x45 x46 x47 x48 x49 x50 x51 x52 x53 x54 x55 x56 x57 x58 x59 x60 x61 x62 x63 x64 x65 x66 x67 x68 x69 x70 x71 x72 x73 x74 x75 x76 x77 x78 x79 x80 x81 x82 x83 x84 x85 x86 x87 x88 x89 x90 : Value) (A' : Option Addr) (cap' : Nat) (W9 : World), t ≠ goalP n P → QRow W9 (b9 + 1) 90 16 (.slice A' (q.length + 1) cap') (q.length + 1) (flat (q ++ [t])) → (W8.alloc (.cells (posF (nth t)) 90)).grownBy W9 (Value.slice A q.length cap).ownBlock →
      ((Value.slice A' (q.length + 1) cap').ownBlock = (Value.slice A q.length cap).ownBlock ∨ ∃ b, (Value.slice A' (q.length + 1) cap').ownBlock = some b ∧ W8.heap.size + 1 ≤ b) → Q' .normal { tmps := #[Value.int IntKind.i64 (n : Int), Value.int IntKind.i64 (P : Int), x2, x3, x4, x5, x6, x7, Value.pointer (some { block := W0.heap.size + 1, off := 0 }), x9, Value.pointer (some { block := b9, off := 0 }), Value.pointer (some { block := b9 + 1 + 1, off := 0 }), Value.pointer (some { block := b12, off := 0 }), x13, x14, Value.pointer (some { block := b15, off := 0 }), x16, x17, x18, x19, x20, x21, x22, x23, x24, x25, x26, x27, x28, x29, x30, x31, x32, x33, x34, x35, x36, x37, x38, x39, x40, x41, x42, x43, x44, x45, x46, x47, x48, x49, x50, x51, x52, x53, x54, x55, x56, x57, x58, x59, x60, x61, x62, x63, x64, x65, x66, x67, x68, x69, x70, x71, x72, x73, x74, x75, x76, x77, x78, x79, x80, x81, x82, x83, x84, x85, x86, x87, x88, x89, x90], defers := [] } (W9.setCell ⟨b9 + 1 + 1, 0, none⟩ (.slice A' (q.length + 1) cap'))) :
    (sndC (stepC 3)).wpIn (Fence.wide.inRound l) 6 Tryd.prog Q' { tmps := #[Value.int IntKind.i64 (n : Int), Value.int IntKind.i64 (P : Int), x2, x3, x4, x5, x6, x7, Value.pointer (some { block := W0.heap.size + 1, off := 0 }), x9, Value.pointer (some { block := b9, off := 0 }), Value.pointer (some { block := b9 + 1 + 1, off := 0 }), Value.pointer (some { block := b12, off := 0 }), x13, x14, Value.pointer (some { block := b15, off := 0 }), x16, x17, x18, x19, x20, x21, x22, x23, x24, x25, x26, x27, x28, x29, x30, x31, x32, x33, x34, x35, x36, x37, x38, x39, x40, x41, x42, x43, x44, x45, x46, x47, x48, x49, x50, x51, x52, x53, x54, x55, x56, x57, x58, x59, x60, x61, x62, x63, x64, x65, x66, x67, x68, x69, x70, x71, x72, x73, x74, x75, x76, x77, x78, x79, x80, x81, x82, x83, x84, x85, x86, x87, x88, x89, x90], defers := [] } W8 := by
  obtain ⟨c0, hc0⟩ : ∃ c0, sndC (stepC 3) = c0 := ⟨_, rfl⟩
  have hc := hc0
  simp only [stepC, dropC, codeOf, Tryd.f29, findBlk, Option.or_some, Option.none_or, Option.or_none, if_true, if_false, Nat.reduceEqDiff, reduceIte, Option.getD_some, sndC, fstC] at hc
  rw [hc0]
  clear hc0
  subst hc
  have heq := pos_eq hvt (vp_goal n P (by omega)) hn hP8 W8
  rw [nth_goal] at heq
  have hq1 : QRow (W8.alloc (.cells (posF (nth t)) 90)) (b9 + 1) 90 16 (.slice A q.length cap) q.length (flat q) := row_below hrow ((Below.refl _ _).alloc (Nat.le_refl _) _)
  have hn1 : Blk (W8.alloc (.cells (posF (nth t)) 90)) W8.heap.size (posF (nth t)) 90 := Blk.new _ _ _
  have hfl : flat (q ++ [t]) = flat q ++ (posF (nth t)).toList := flat_snoc q t
  obtain ⟨tm, htm⟩ : ∃ tm, nth t = tm := ⟨_, rfl⟩
  obtain ⟨g, hg⟩ : ∃ g, goalTo P n = g := ⟨_, rfl⟩
  rw [htm] at hb15 heq hA hq1 hn1 hfl
  rw [hg] at hb8 heq
  obtain ⟨t0, t1, t2, t3, t4, t5, t6, t7, t8, t9, t10, t11, t12, t13, t14, t15⟩ := pos_cells hb15
  obtain ⟨g0, g1, g2, g3, g4, g5, g6, g7, g8, g9, g10, g11, g12, g13, g14, g15⟩ := pos_cells hb8
  unfold posF at heq
  have hc11 := hb11.cell 0 (v := .slice A q.length cap) rfl
  have hn2 : ∀ j u, (posF tm).toList[j]? = some u → (W8.alloc (.cells (posF tm) 90)).cell? ((⟨W8.heap.size, 0, none⟩ : Addr).add j) = some u := fun j u hu => by
    rw [Addr.add_mid, Nat.zero_add]
    exact hn1.cell j (by simpa using hu)
  have hone : ∀ u ∈ (posF tm).toList, u.oneCell' = true := fun u hu => by
    simp [posF] at hu
    rcases hu with rfl | rfl | rfl | rfl | rfl | rfl | rfl | rfl | rfl | rfl | rfl | rfl | rfl | rfl | rfl | rfl <;> rfl
  have hne : (Value.slice A q.length cap).ownBlock ≠ some (b9 + 1 + 1) := fun e => by
    obtain ⟨_, cells, hcl⟩ := q_typed hrow _ e
    have e2 := hb11.symm.trans hcl
    injection e2 with e2
    injection e2 with _ e3
    cases e3
  have HNE := Aside0.mk hne
  clear hne
  have HB11 := Aside0.mk hb11
  have HG := Aside0.mk hG
  have HA := Aside0.mk hA
  have HQ := Aside0.mk hq1
  have HN := Aside0.mk hn2
  have HO := Aside0.mk hone
  have HF := Aside0.mk hfl
  clear hb15 hb8 hb11 hrow hG hA hq1 hn1 hn2 hone hfl hvt htm hg
  by_cases htg : t = goalP n P
  · simp only [htg, decide_true] at heq
    have HT := Aside0.mk htg
    clear htg
    gi_wp2
    exact HG.out _ _ _ _ _ _ _ _ _ _ _ _ _ _ _ _ _ _ _ _ _ _ _ _ _ _ _ _ _ _ _ _ _ _ _ _ _ _ _ _ _ _ _ _ _ _ _ _ _ _ _ _ _ _ _ _ _ _ _ _ _ _ _ _ _ _ _ _ _ _ _ _ _ _ _ _ _ _ _ _ _ _ _ _ HT.out
  · simp only [htg, decide_false] at heq
    have HT := Aside0.mk htg
    clear htg
    obtain ⟨i0, hi, hz0, hz1, hz2⟩ := info_parts info90
    have HI := Aside0.mk (And.intro hi (And.intro hz0 (And.intro hz1 hz2)))
    clear hi hz0 hz1 hz2
    unfold posF at HQ HN HO HF HA
    gi_wp2_with (gi_at_builtin; refine wpListIn_append_q _ rfl _ _ 99 rfl (b9 + 1) 90 i0 _ 16 128 u99 HI.out.1 HI.out.2.1 HI.out.2.2.1 HI.out.2.2.2 rfl (by decide) _ q.length (flat q) rfl HQ.out ⟨W8.heap.size, 0, none⟩ 1 1 _ rfl rfl HN.out HO.out (by decide) (by unfold maxLen; omega) (by omega) (by simp; omega) ?_; intro v' W9 h1 h2 h3; obtain ⟨A', cap', rfl, hcc⟩ := q_slice h1; have hb9 := (HB11.out.alloc _).grown h2 HNE.out; have hc9 := hb9.cell 0 (v := .slice A q.length cap) rfl; have hf9 := hb9.free 0; have H1 := Aside0.mk h1; have H2 := Aside0.mk h2; have H3 := Aside0.mk h3; clear h1 h2 h3 hb9)
    refine HA.out _ _ _ _ _ _ _ _ _ _ _ _ _ _ _ _ _ _ _ _ _ _ _ _ _ _ _ _ _ _ _ _ _ _ _ _ _ _ _ _ _ _ _ _ _ _ _ _ _ _ _ _ _ _ _ _ _ _ _ _ _ _ _ _ _ _ _ _ _ _ _ _ _ _ _ _ _ _ _ _ _ _ _ _ A' cap' W9 HT.out ?_ H2.out ?_
    · rw [HF.out]; exact H1.out
    · rcases H3.out with h | ⟨b, h, hle⟩
      · exact .inl h
      · exact .inr ⟨b, h, by rw [World.size_alloc] at hle; exact hle⟩
end Go.Proofs.YtnaaomhmoamfpaaDoor.G
/- Fewest: what one step of the search does: the whole of it. -/
namespace Go.Proofs.YtnaaomhmoamfpaaDoor.G
set_option linter.unusedVariables false
set_option linter.unusedSimpArgs false
set_option linter.unusedSectionVars false
open Go.Proofs.YtnaaomhmoamfpaaDoor.Q Go.Proofs.YtnaaomhmoamfpaaDoor.Hn Go.Proofs.YtnaaomhmoamfpaaDoor.K Go.Proofs.YtnaaomhmoamfpaaDoor.It Go.Proofs.YtnaaomhmoamfpaaDoor.Bf
open Go.RowKit Go.Shelf Go.Proofs.YtnaaomhmoamfpaaDoorW.PrintWords Go.Proofs.YtnaaomhmoamfpaaDoorW.PrintLast Go.Proofs.YtnaaomhmoamfpaaDoorW.PrintMore
attribute [local go_sem] Oper.semAt_some

theorem seq0 : stepC 0 = .seq (fstC (stepC 0)) (.seq (fstC (stepC 1)) (.seq (fstC (stepC 2)) (.seq (fstC (stepC 3)) (sndC (stepC 3))))) := by kernel_rfl

set_option maxRecDepth 100000 in
set_option maxHeartbeats 4000000 in
theorem search_body (l n P : Nat) (hn : n ≤ 16) (hP3 : 3 ≤ P) (hP8 : P ≤ 8) (hle : P ^ n ≤ 70000) (W0 W : World) (b9 b12 k : Nat) (s : List Int) (pre : List (Nat × Nat)) (d tq : Nat) (hd : d < n) (hto : tq < P)
    (hmem : s.set d (tq : Int) ∈ nextP P s) (hk2 : k ≤ 200000) (S : Se (List Int)) (q L : List (List Int)) (v : Value) (h : Bd n P W0 W b9 b12 k s pre S q L v) (x2 x3 x4 x5 x6 x7 x9 x15 x16 x17 x18 x19 x20 x21 x22 x23 x24 x25 x26 x27 x28 x29 x30 x31 x32 x33 x34 x35 x36 x37 x38 x39 x40 x41 x42 x43 x44 x45 x46 x47 x48 x49 x50 x51 x52 x53 x54 x55 x56 x57 x58 x59 x60 x61 x62 x63 x64 x65 x66 x67 x68 x69 x70 x71 x72 x73 x74 x75 x76 x77 x78 x79 x80 x81 x82 x83 x84 x85 x86 x87 x88 x89 x90 : Value) :
    (Code.block 7 (stepC 0)).wpIn (Fence.wide.inRound l) 6 Tryd.prog (rPost 127 (keepS b12) (Isr n P W0 b9 b12 k s) (Xsr n P W0 b9) (pre ++ [(d, tq)]) W) { tmps := #[Value.int IntKind.i64 (n : Int), Value.int IntKind.i64 (P : Int), x2, x3, x4, x5, x6, x7, Value.pointer (some { block := W0.heap.size + 1, off := 0 }), x9, Value.pointer (some { block := b9, off := 0 }), Value.pointer (some { block := b9 + 1 + 1, off := 0 }), Value.pointer (some { block := b12, off := 0 }), Value.int IntKind.i64 (d : Int), Value.int IntKind.i64 (tq : Int), x15, x16, x17, x18, x19, x20, x21, x22, x23, x24, x25, x26, x27, x28, x29, x30, x31, x32, x33, x34, x35, x36, x37, x38, x39, x40, x41, x42, x43, x44, x45, x46, x47, x48, x49, x50, x51, x52, x53, x54, x55, x56, x57, x58, x59, x60, x61, x62, x63, x64, x65, x66, x67, x68, x69, x70, x71, x72, x73, x74, x75, x76, x77, x78, x79, x80, x81, x82, x83, x84, x85, x86, x87, x88, x89, x90], defers := [] } W := by
  have hvs : Vp n P s := by
    obtain ⟨ds, h1, h2⟩ := h.rm.some_
    exact h.rm.v s (by rw [h1]; rfl)
  have hvt := vp_set hvs d tq hd hto
  have hsz := h.size
  refine wpIn_block ?_
  rw [seq0]
  refine wpIn_seq_k (fun K1 hK1 => ?_)
  refine search_copy l n P d tq W0 W b9 b12 s h.box12 _ _ _ _ _ _ _ _ _ _ _ _ _ _ _ _ _ _ _ _ _ _ _ _ _ _ _ _ _ _ _ _ _ _ _ _ _ _ _ _ _ _ _ _ _ _ _ _ _ _ _ _ _ _ _ _ _ _ _ _ _ _ _ _ _ _ _ _ _ _ _ _ _ _ _ _ _ _ _ _ _ _ _ K1 _ ?_
  intro x2 x3 x4 x5 x6 x7 x9 x16 x17 x18 x19 x20 x21 x22 x23 x24 x25 x26 x27 x28 x29 x30 x31 x32 x33 x34 x35 x36 x37 x38 x39 x40 x41 x42 x43 x44 x45 x46 x47 x48 x49 x50 x51 x52 x53 x54 x55 x56 x57 x58 x59 x60 x61 x62 x63 x64 x65 x66 x67 x68 x69 x70 x71 x72 x73 x74 x75 x76 x77 x78 x79 x80 x81 x82 x83 x84 x85 x86 x87 x88 x89 x90
  refine hK1 _ _ ?_
  clear hK1
  obtain ⟨W6, hW6⟩ : ∃ W6, W.alloc (.cells (posF (nth s)) 90) = W6 := ⟨_, rfl⟩
  rw [hW6]
  have hB6 : Below W.heap.size W W6 := by rw [← hW6]; exact (Below.refl _ _).alloc (Nat.le_refl _) _
  have hb15 : Blk W6 W.heap.size (posF (nth s)) 90 := by rw [← hW6]; exact Blk.new _ _ _
  clear hW6
  refine wpIn_seq_k (fun K2 hK2 => ?_)
  refine search_down l n P d tq (by omega) W0 W6 b9 b12 W.heap.size (nth s) hb15 _ _ _ _ _ _ _ _ _ _ _ _ _ _ _ _ _ _ _ _ _ _ _ _ _ _ _ _ _ _ _ _ _ _ _ _ _ _ _ _ _ _ _ _ _ _ _ _ _ _ _ _ _ _ _ _ _ _ _ _ _ _ _ _ _ _ _ _ _ _ _ _ _ _ _ _ _ _ _ _ _ _ K2 _ ?_
  intro x2 x3 x4 x5 x6 x7 x9 x16 x17 x18 x19 x20 x21 x22 x23 x24 x25 x26 x27 x28 x29 x30 x31 x32 x33 x34 x35 x36 x37 x38 x39 x40 x41 x42 x43 x44 x45 x46 x47 x48 x49 x50 x51 x52 x53 x54 x55 x56 x57 x58 x59 x60 x61 x62 x63 x64 x65 x66 x67 x68 x69 x70 x71 x72 x73 x74 x75 x76 x77 x78 x79 x80 x81 x82 x83 x84 x85 x86 x87 x88 x89 x90
  refine hK2 _ _ ?_
  clear hK2
  obtain ⟨W7, hW7⟩ : ∃ W7, W6.setCell ⟨W.heap.size, d, none⟩ (.int .i64 (tq : Int)) = W7 := ⟨_, rfl⟩
  rw [hW7]
  have hB7 : Below W.heap.size W W7 := by rw [← hW7]; exact hB6.setCell (by simp) _
  have hc15 : Blk W7 W.heap.size (posF (nth (s.set d (tq : Int)))) 90 := by rw [← hW7, nth_set _ _ _ (by rw [hvs.1]; exact hd), ← posF_set _ _ _ (by omega)]; exact hb15.set d _
  clear hW7 hb15 hB6
  have h7 := h.below_ hB7
  have hR7 : RB 127 (keepS b12) W W7 := (RB.refl _ _ _).below hB7
  refine wpIn_seq_k (fun K3 hK3 => ?_)
  refine search_look l n P hn hP8 W0 W7 b9 b12 W.heap.size k s pre (s.set d (tq : Int)) hvt S q L v h7 hc15 _ _ _ _ _ _ _ _ _ _ _ _ _ _ _ _ _ _ _ _ _ _ _ _ _ _ _ _ _ _ _ _ _ _ _ _ _ _ _ _ _ _ _ _ _ _ _ _ _ _ _ _ _ _ _ _ _ _ _ _ _ _ _ _ _ _ _ _ _ _ _ _ _ _ _ _ _ _ _ _ _ _ _ _ K3 _ ?_ ?_
  · intro x2 x3 x4 x5 x6 x7 x9 x13 x14 x16 x17 x18 x19 x20 x21 x22 x23 x24 x25 x26 x27 x28 x29 x30 x31 x32 x33 x34 x35 x36 x37 x38 x39 x40 x41 x42 x43 x44 x45 x46 x47 x48 x49 x50 x51 x52 x53 x54 x55 x56 x57 x58 x59 x60 x61 x62 x63 x64 x65 x66 x67 x68 x69 x70 x71 x72 x73 x74 x75 x76 x77 x78 x79 x80 x81 x82 x83 x84 x85 x86 x87 x88 x89 x90 hs
    refine ⟨hR7, S, q, L, v, .mk { h7 with rm := ?_ }⟩
    have := h7.rm.seen_ (t := s.set d (tq : Int)) hs
    simpa using this
  · intro x2 x3 x4 x5 x6 x7 x9 x13 x14 x16 x17 x18 x19 x20 x21 x22 x23 x24 x25 x26 x27 x28 x29 x30 x31 x32 x33 x34 x35 x36 x37 x38 x39 x40 x41 x42 x43 x44 x45 x46 x47 x48 x49 x50 x51 x52 x53 x54 x55 x56 x57 x58 x59 x60 x61 x62 x63 x64 x65 x66 x67 x68 x69 x70 x71 x72 x73 x74 x75 x76 x77 x78 x79 x80 x81 x82 x83 x84 x85 x86 x87 x88 x89 x90 hnone
    refine hK3 _ _ ?_
    clear hK3
    have hle7 := h7.le
    have hsz7 := hB7.size
    have hlt7 := h7.lt
    refine wpIn_seq_k (fun K4 hK4 => ?_)
    refine search_put l n P hn hP3 hP8 hle W0 W W7 b9 b12 W.heap.size k s pre d tq hd hto hmem S q L v h7 hc15 (by omega) hR7 (fun j hj => q_lt h.row j hj) hnone _ _ _ _ _ _ _ _ _ _ _ _ _ _ _ _ _ _ _ _ _ _ _ _ _ _ _ _ _ _ _ _ _ _ _ _ _ _ _ _ _ _ _ _ _ _ _ _ _ _ _ _ _ _ _ _ _ _ _ _ _ _ _ _ _ _ _ _ _ _ _ _ _ _ _ _ _ _ _ _ _ _ _ _ K4 _ ?_
    intro W8 ds x2 x3 x4 x5 x6 x7 x9 x13 x14 x16 x17 x18 x19 x20 x21 x22 x23 x24 x25 x26 x27 x28 x29 x30 x31 x32 x33 x34 x35 x36 x37 x38 x39 x40 x41 x42 x43 x44 x45 x46 x47 x48 x49 x50 x51 x52 x53 x54 x55 x56 x57 x58 x59 x60 x61 x62 x63 x64 x65 x66 x67 x68 x69 x70 x71 x72 x73 x74 x75 x76 x77 x78 x79 x80 x81 x82 x83 x84 x85 x86 x87 x88 x89 x90 hds hS8 hg8
    refine hK4 _ _ ?_
    clear hK4
    obtain ⟨hrm, hex⟩ := h7.rm.new hds hmem hvt hnone
    have hcnt := rm_count hrm
    obtain ⟨A, cap, hv, hcap⟩ := q_slice h7.row
    subst hv
    have hrow8 : QRow W8 (b9 + 1) 90 16 (.slice A q.length cap) q.length (flat q) := q_move h7.row (fun j hj => hg8.block j (q_lt h7.row j hj) (fun e => by injection e with e; have := (q_typed h7.row j hj).1; omega))
    have hql : q.length ≤ 1000000 := by have := h7.k_; omega
    have hR8 : RB 127 (keepS b12) W W8 := hR7.grown hg8 (fun j o e ho => by
      cases e
      obtain ⟨D, ⟨es, clock, h1, h2⟩, h3⟩ := h.map_
      have e2 := ho.symm.trans h1
      injection e2 with e2
      subst e2
      exact ⟨by rintro ((h | h) | h) <;> omega, rfl, rfl⟩)
    have hbel8 : Below W0.heap.size W0 W8 := h7.below.grown hg8 h7.below.size (fun j e => by cases e; omega)
    have hlen : (s.set d (tq : Int) :: L).length = L.length + 1 := rfl
    have hsz8 := hg8.size
    have hbe := h7.below.size
    refine search_tail l n P hn hP3 hP8 W0 W8 b9 b12 W.heap.size (s.set d (tq : Int)) hvt (hc15.grown hg8 (by simp; omega)) (h7.box8.grown hg8 (by simp)) A cap q (h7.box11.grown hg8 (by simp; omega)) hrow8 hql (by have := hg8.size; omega) _ _ _ _ _ _ _ _ _ _ _ _ _ _ _ _ _ _ _ _ _ _ _ _ _ _ _ _ _ _ _ _ _ _ _ _ _ _ _ _ _ _ _ _ _ _ _ _ _ _ _ _ _ _ _ _ _ _ _ _ _ _ _ _ _ _ _ _ _ _ _ _ _ _ _ _ _ _ _ _ _ _ _ _ _ ?_ ?_
    · intro x2 x3 x4 x5 x6 x7 x9 x13 x14 x16 x17 x18 x19 x20 x21 x22 x23 x24 x25 x26 x27 x28 x29 x30 x31 x32 x33 x34 x35 x36 x37 x38 x39 x40 x41 x42 x43 x44 x45 x46 x47 x48 x49 x50 x51 x52 x53 x54 x55 x56 x57 x58 x59 x60 x61 x62 x63 x64 x65 x66 x67 x68 x69 x70 x71 x72 x73 x74 x75 x76 x77 x78 x79 x80 x81 x82 x83 x84 x85 x86 x87 x88 x89 x90 hgoal
      refine ⟨hR8.rx, rfl, .mk ⟨_, _, hS8, ?_, h7.box10.grown hg8 (by simp; omega), h7.box8.grown hg8 (by simp), hbel8⟩⟩
      have hdp := hrm.deep (s.set d (tq : Int)) (ds + 1) (Se.put_same _ _ _)
      rw [← hgoal, Se.put_same]
      unfold fewest
      rw [← hgoal]
      exact least_exact (d := ds + 1) hex (by omega)
    · intro x2 x3 x4 x5 x6 x7 x9 x13 x14 x16 x17 x18 x19 x20 x21 x22 x23 x24 x25 x26 x27 x28 x29 x30 x31 x32 x33 x34 x35 x36 x37 x38 x39 x40 x41 x42 x43 x44 x45 x46 x47 x48 x49 x50 x51 x52 x53 x54 x55 x56 x57 x58 x59 x60 x61 x62 x63 x64 x65 x66 x67 x68 x69 x70 x71 x72 x73 x74 x75 x76 x77 x78 x79 x80 x81 x82 x83 x84 x85 x86 x87 x88 x89 x90 A' cap' W9 hne h9 hg9 hat
      have hown : ∀ j, (Value.slice A q.length cap).ownBlock = some j → b9 + 1 ≤ j ∧ (j < b12 ∨ b12 + 2 < j) ∧ ∃ cells, W.heap[j]? = some (.cells cells 90 (0, 0)) := fun j hj => by
        obtain ⟨h1, cells, h2⟩ := q_typed h.row j hj
        exact ⟨h1, h.sep j hj, cells, h2⟩
      have hne9 : (Value.slice A q.length cap).ownBlock ≠ some (b9 + 1 + 1) := fun e => by
        obtain ⟨_, _, cells, hcl⟩ := hown _ e
        have e2 := h.box11.symm.trans hcl
        injection e2 with e2
        injection e2 with _ e3
        cases e3
      have hown' : ∀ j, (Value.slice A' (q.length + 1) cap').ownBlock = some j → (j < b12 ∨ b12 + 2 < j) ∧ j ≠ b9 + 1 + 1 := fun j hj => by
        rcases hat with e | ⟨b, e, hb⟩
        · rw [hj] at e
          exact ⟨(hown j e.symm).2.1, fun e2 => hne9 (by rw [← e, e2])⟩
        · rw [hj] at e
          cases e
          exact ⟨by omega, by omega⟩
      have hszA : (W8.alloc (.cells (posF (nth (s.set d (tq : Int)))) 90)).heap.size = W8.heap.size + 1 := by simp
      have hsz9 := hg9.size
      rw [hszA] at hsz9
      have hR9 : RB 127 (keepS b12) W W9 := (hR8.alloc _).grown hg9 (fun j o e ho => by
        obtain ⟨h1, h2, cells, h3⟩ := hown j e
        have e2 := ho.symm.trans h3
        injection e2 with e2
        subst e2
        exact ⟨by rintro ((h | h) | h) <;> omega, rfl, rfl⟩)
      have hgr : ∀ (j t : Nat) (cs : Array Value), (Value.slice A q.length cap).ownBlock ≠ some j → j ≠ W0.heap.size + 2 → Blk W7 j cs t → Blk W9 j cs t := fun j t cs e1 e2 hb => ((hb.grown hg8 (fun e => by injection e with e; omega)).alloc _).grown hg9 e1
      refine ⟨hR9.set (fun o ho => ?_), _, _, _, _, .mk ⟨by simpa using hrm, ?_, ?_, ?_, ?_, fun j hj => (hown' j hj).1, ?_, ?_, ?_, ?_, ?_, ?_, h.le, h.lt, ?_⟩⟩
      · have e := ho.symm.trans h.box11
        injection e with e
        subst e
        exact ⟨by rintro ((h | h) | h) <;> omega, rfl, rfl⟩
      · rw [Se.put_other _ _ (fun e => hne e.symm)]; exact h.goal
      · have := h.k_
        simp only [List.length_cons, List.length_append, List.length_nil] at hcnt ⊢
        omega
      · refine Seen.set ?_ (by simp; omega) _
        refine Seen.mapsTo (hS8.alloc _) (hg9.block _ (by simp; have := hS8.lt; omega) (fun e => ?_))
        have := (hown _ e.symm).1
        omega
      · rw [List.length_append]
        exact q_move h9 (fun j hj => Below.heap_setCell _ _ _ _ (hown' j hj).2)
      · have := (hgr _ _ _ hne9 (by omega) h7.box11).set 0 (.slice A' (q.length + 1) cap')
        exact this
      · exact (hgr _ _ _ (fun e => by have := (hown _ e).1; omega) (by omega) h7.box10).setOther (by simp; omega) _
      · exact (hgr _ _ _ (fun e => by have := (hown _ e).1; omega) (by omega) h7.box8).setOther (by simp; omega) _
      · exact (hgr _ _ _ (fun e => by have := (hown _ e).1; omega) (by omega) h7.box7).setOther (by simp; omega) _
      · exact (hgr _ _ _ (fun e => by have := (hown _ e).2.1; omega) (by omega) h7.box12).setOther (by simp; omega) _
      · exact ((hbel8.alloc (by omega) _).grown hg9 (by simp; omega) (fun j e => by have := (hown _ e).1; omega)).setCell (by simp; omega) _
      · simp [World.setCell]; omega
end Go.Proofs.YtnaaomhmoamfpaaDoor.G
/- The reference's distance and kind of two lists of discs of the same number: what the calls come to. -/
namespace Go.Proofs.YtnaaomhmoamfpaaDoor.G
set_option linter.unusedVariables false
set_option linter.unusedSimpArgs false
set_option linter.unusedSectionVars false
open Go.Proofs.YtnaaomhmoamfpaaDoor.Q Go.Proofs.YtnaaomhmoamfpaaDoor.Hn
open Go.RowKit Go.Proofs.YtnaaomhmoamfpaaDoorW.PrintWords Go.Proofs.YtnaaomhmoamfpaaDoorW.PrintLast Go.Proofs.YtnaaomhmoamfpaaDoorW.PrintMore
attribute [local go_sem] max2_int min2_int max_two min_two max_three min_three max_four min_four

theorem i64w {x : Int} (h : -9223372036854775808 ≤ x) (h' : x ≤ 9223372036854775807) : IntKind.i64.wrap x = x := by rw [i64_w]; exact w64 h h'

def okD (l : List Int) : Bool := decide (0 < l.length) && decide (l.length ≤ 40) && l.all (fun x => decide (0 ≤ x) && decide (x < 3))
theorem okD_iff (l : List Int) : okD l = true ↔ 0 < l.length ∧ l.length ≤ 40 ∧ DiscsL l := by
  unfold okD DiscsL Discs
  simp only [Bool.and_eq_true, decide_eq_true_eq, List.all_eq_true, and_assoc]
  constructor
  · rintro ⟨h1, h2, h3⟩
    refine ⟨h1, h2, fun i hi => ?_⟩
    have := h3 (l[i]) (List.getElem_mem hi)
    simpa [nth, hi, Peg] using this
  · rintro ⟨h1, h2, h3⟩
    refine ⟨h1, h2, fun x hx => ?_⟩
    obtain ⟨i, hi, rfl⟩ := List.getElem_of_mem hx
    have := h3 i hi
    simpa [nth, hi, Peg] using this

theorem cut_run (A : Option Addr) (c : Nat) (l : List Int) (n : Nat) (hn : n ≤ l.length) (hc : l.length ≤ c) :
    ∀ W : World, (Instr.slice 46 (.slice A l.length c) none (some (.int .i64 (n : Int))) none).run Tryd.prog W = .ok (.slice A n c) W := by
  obtain ⟨i0, hi0, _, hsz, _⟩ := info_parts info3
  have h := (print_take_of (P := Tryd.prog) (Value.int .i64) (0 : Int) 46 3 .i64 Tryd.underlying46 hi0 hsz A c l (n : Int) (by omega) (by omega) hc).1
  have e : (l.take ((n : Int)).toNat).length = n := by simp; omega
  rw [e] at h; exact h
theorem cut_reads {w : World} {A : Option Addr} {c : Nat} {l : List Int} (n : Nat) (hn : n ≤ l.length) (hr : Kd.C (Kd.int .i64) w A l.length l) : Kd.C (Kd.int .i64) w A (l.take n).length (l.take n) := by
  have := (Kd.reads_of_C (enc := Value.int .i64) (d := (0 : Int)) (h1 := fun _ => rfl) hr).take_ n hn
  have e : (l.take n).length = n := by simp; omega
  rw [e]; exact Kd.C_of_reads (h1 := fun _ => rfl) this

theorem to_calls (A : Option Addr) (c : Nat) (l : List Int) (n : Nat) (p : Int) (w : World) (hl : l.length ≤ 40) (hd : DiscsL l) (hn : n ≤ l.length) (hc : l.length ≤ c) (hp : Peg p) (hr : Kd.C (Kd.int .i64) w A l.length l) :
    Calls Tryd.prog 77 #[.slice A n c, .int .i64 p] w fun e w' => e = .returned (.int .i64 (tp (nth l) n p)) ∧ ∃ m, w' = w.drewN m := by
  have e : (l.take n).length = n := by simp; omega
  obtain ⟨k, hk⟩ := (to_ev (l.take n) (by omega) (discs_take hd n) p hp).rounds
  have := bibelotref03_To.calls k A c (l.take n) p _ w (cut_reads (c := c) n hn hr) (by omega) hk
  rw [e, tp_take] at this
  exact this.mono fun _ _ ⟨h1, h2⟩ => ⟨h1, h2.out⟩

def both (l m : List Int) : Bool := okD l && okD m && decide (l.length = m.length)
theorem both_iff (l m : List Int) : both l m = true ↔ (0 < l.length ∧ l.length ≤ 40 ∧ DiscsL l) ∧ DiscsL m ∧ m.length = l.length := by
  unfold both
  simp only [Bool.and_eq_true, okD_iff, decide_eq_true_eq]
  constructor
  · rintro ⟨⟨h1, h2⟩, h3⟩; exact ⟨h1, h2.2.2, h3.symm⟩
  · rintro ⟨h1, h2, h3⟩; exact ⟨⟨h1, by omega, by omega, h2⟩, h3.symm⟩

def bibelotref03_once.f (l m : List Int) : Option Int := if both l m = true ∧ nth l (l.length - 1) ≠ nth m (l.length - 1) then some (one (nth l) (nth m) (l.length - 1)) else none
set_option maxHeartbeats 1000000 in
theorem bibelotref03_once.calls (A0 : Option Addr) (c0 : Nat) (l0 : List Int) (A1 : Option Addr) (c1 : Nat) (l1 : List Int) (r : Int) (w : World) (hr0 : Kd.C (Kd.int .i64) w A0 l0.length l0) (hc0 : l0.length ≤ c0) (hr1 : Kd.C (Kd.int .i64) w A1 l1.length l1) (hc1 : l1.length ≤ c1) (h : bibelotref03_once.f l0 l1 = some r) :
    Calls Tryd.prog 79 #[.slice A0 l0.length c0, .slice A1 l1.length c1] w fun e w' => e = .returned (.int .i64 r) ∧ Drawn0 w w' := by
  unfold bibelotref03_once.f at h
  split at h
  · rename_i hb
    obtain ⟨hb, hne⟩ := hb
    obtain ⟨⟨h1, h2, h3⟩, h4, h5⟩ := (both_iff _ _).1 hb
    obtain ⟨n, hn⟩ : ∃ n, l0.length = n + 1 := ⟨l0.length - 1, by omega⟩
    have hn1 : l1.length = n + 1 := by omega
    rw [hn, Nat.add_sub_cancel] at h hne
    injection h with h
    subst h
    have p0 := h3 n (by omega)
    have p1 := h4 n (by omega)
    obtain ⟨ad0, rfl, hx0⟩ := Kd.at_int hr0 (n : Int) (by omega) (by omega)
    obtain ⟨ad1, rfl, hx1⟩ := Kd.at_int hr1 (n : Int) (by omega) (by omega)
    rw [rd_nth, Int.toNat_natCast] at hx0 hx1
    have hp : Peg (3 - nth l0 n - nth l1 n) := by unfold Peg at *; omega
    have cut0 := cut_run (some ad0) c0 l0 n (by omega) hc0
    have cut1 := cut_run (some ad1) c1 l1 n (by omega) hc1
    have T0 := fun m W => to_calls (some ad0) c0 l0 n (3 - nth l0 n - nth l1 n) ((w.drewN m).drewN W) h2 h3 (by omega) hc0 hp (Kd.C_drewN (Kd.C_drewN hr0 m) W)
    have T1 := fun m W => to_calls (some ad1) c1 l1 n (3 - nth l0 n - nth l1 n) ((w.drewN m).drewN W) (by omega) h4 (by omega) hc1 hp (Kd.C_drewN (Kd.C_drewN hr1 m) W)
    rw [hn] at cut0 ⊢
    rw [hn1] at cut1 ⊢
    have a0 := tp_nonneg (nth l0) n (3 - nth l0 n - nth l1 n); have a1 := tp_le (nth l0) n (3 - nth l0 n - nth l1 n)
    have b0 := tp_nonneg (nth l1) n (3 - nth l0 n - nth l1 n); have b1 := tp_le (nth l1) n (3 - nth l0 n - nth l1 n)
    have hp2 := pow_le (show n ≤ 40 by omega)
    rw [p40] at hp2
    unfold one
    unfold Peg at p0 p1
    generalize tp (nth l0) n (3 - nth l0 n - nth l1 n) = T at *
    generalize tp (nth l1) n (3 - nth l0 n - nth l1 n) = U at *
    generalize nth l0 n = x at *
    generalize nth l1 n = y at *
    have HT0 := Aside0.mk T0
    have HT1 := Aside0.mk T1
    have hnb : n ≤ 39 := by omega
    have s1 : IntKind.i64.wrap (3 - x) = 3 - x := i64w (by omega) (by omega)
    have s2 : IntKind.i64.wrap (3 - x - y) = 3 - x - y := i64w (by omega) (by omega)
    have s3 : IntKind.i64.wrap (T + 1) = T + 1 := i64w (by omega) (by omega)
    have s4 : IntKind.i64.wrap (T + 1 + U) = T + 1 + U := i64w (by omega) (by omega)
    have s5 : 0 ≤ (n : Int) := by omega
    have s6 : (n : Int) < (n : Int) + 1 := by omega
    clear T0 T1 hr0 hr1 hn hn1 h5 h3 h4 hp hb a0 a1 b0 b1 hp2 p0 p1
    go_enter Tryd.func79, Tryd.ntmps79
    go_wp2
    go_quiet (fail)
    have T0 := HT0.out nq
    have T1 := HT1.out nq
    obtain ⟨W1, hW1⟩ : ∃ W1, w.drewN nq = W1 := ⟨_, rfl⟩
    rw [hW1] at T0 T1 ⊢
    have HW1 := Aside0.mk hW1
    clear HT0 HT1 hW1
    have HT0 := Aside0.mk T0
    have HT1 := Aside0.mk T1
    clear T0 T1
    go_wp2
    go_quiet ((first | (go_at_call 77; with_reducible refine Calls.quiet_of (HT0.out _)) | (go_at_call 77; with_reducible refine Calls.quiet_of (HT1.out _))))
    go_wp2
    go_ret
    exact ⟨rfl, ⟨⟨_, by rw [← HW1.out, World.drewN_drewN]⟩⟩⟩
  · cases h

def bibelotref03_twice.f (l m : List Int) : Option Int := if both l m = true ∧ nth l (l.length - 1) ≠ nth m (l.length - 1) then some (two (nth l) (nth m) (l.length - 1)) else none
set_option maxHeartbeats 1000000 in
theorem bibelotref03_twice.calls (A0 : Option Addr) (c0 : Nat) (l0 : List Int) (A1 : Option Addr) (c1 : Nat) (l1 : List Int) (r : Int) (w : World) (hr0 : Kd.C (Kd.int .i64) w A0 l0.length l0) (hc0 : l0.length ≤ c0) (hr1 : Kd.C (Kd.int .i64) w A1 l1.length l1) (hc1 : l1.length ≤ c1) (h : bibelotref03_twice.f l0 l1 = some r) :
    Calls Tryd.prog 80 #[.slice A0 l0.length c0, .slice A1 l1.length c1] w fun e w' => e = .returned (.int .i64 r) ∧ Drawn0 w w' := by
  unfold bibelotref03_twice.f at h
  split at h
  · rename_i hb
    obtain ⟨hb, hne⟩ := hb
    obtain ⟨⟨h1, h2, h3⟩, h4, h5⟩ := (both_iff _ _).1 hb
    obtain ⟨n, hn⟩ : ∃ n, l0.length = n + 1 := ⟨l0.length - 1, by omega⟩
    have hn1 : l1.length = n + 1 := by omega
    rw [hn, Nat.add_sub_cancel] at h hne
    injection h with h
    subst h
    have p0 := h3 n (by omega)
    have p1 := h4 n (by omega)
    obtain ⟨ad0, rfl, hx0⟩ := Kd.at_int hr0 (n : Int) (by omega) (by omega)
    obtain ⟨ad1, rfl, hx1⟩ := Kd.at_int hr1 (n : Int) (by omega) (by omega)
    rw [rd_nth, Int.toNat_natCast] at hx0 hx1
    have cut0 := cut_run (some ad0) c0 l0 n (by omega) hc0
    have cut1 := cut_run (some ad1) c1 l1 n (by omega) hc1
    have T0 := fun m => to_calls (some ad0) c0 l0 n (nth l1 n) (w.drewN m) h2 h3 (by omega) hc0 p1 (Kd.C_drewN hr0 m)
    have T1 := fun m => to_calls (some ad1) c1 l1 n (nth l0 n) (w.drewN m) (by omega) h4 (by omega) hc1 p0 (Kd.C_drewN hr1 m)
    rw [hn] at cut0 ⊢
    rw [hn1] at cut1 ⊢
    have a0 := tp_nonneg (nth l0) n (nth l1 n); have a1 := tp_le (nth l0) n (nth l1 n)
    have b0 := tp_nonneg (nth l1) n (nth l0 n); have b1 := tp_le (nth l1) n (nth l0 n)
    have hp2 := pow_le (show n ≤ 40 by omega)
    have hp3 := pow_pos' n
    rw [p40] at hp2
    have hs := shl1 n (by omega)
    unfold shl at hs
    rw [show min ((n : Int).toNat) (IntKind.i64.bits) = n by simp [IntKind.bits]; omega, Int.one_mul] at hs
    unfold two
    unfold Peg at p0 p1
    generalize tp (nth l0) n (nth l1 n) = T at *
    generalize tp (nth l1) n (nth l0 n) = U at *
    generalize nth l0 n = x at *
    generalize nth l1 n = y at *
    have HT0 := Aside0.mk T0
    have HT1 := Aside0.mk T1
    have hnb : n ≤ 39 := by omega
    have s3 : IntKind.i64.wrap (T + 1) = T + 1 := i64w (by omega) (by omega)
    have s4 : IntKind.i64.wrap (T + 1 + 2^n) = T + 1 + 2^n := i64w (by omega) (by omega)
    have s5 : IntKind.i64.wrap (T + 1 + 2^n - 1) = T + 1 + 2^n - 1 := i64w (by omega) (by omega)
    have s6 : IntKind.i64.wrap (T + 1 + 2^n - 1 + 1) = T + 1 + 2^n - 1 + 1 := i64w (by omega) (by omega)
    have s7 : IntKind.i64.wrap (T + 1 + 2^n + U) = T + 1 + 2^n + U := i64w (by omega) (by omega)
    have s8 : 0 ≤ (n : Int) := by omega
    have s9 : (n : Int) < (n : Int) + 1 := by omega
    have fin : T + 1 + 2^n + U = T + 1 + (2^n - 1) + 1 + U := by omega
    have FIN := Aside0.mk fin
    clear T0 T1 hr0 hr1 hn hn1 h5 h3 h4 hb a0 a1 b0 b1 hp2 p0 p1 fin
    go_enter Tryd.func80, Tryd.ntmps80
    go_wp2
    go_quiet ((first | (go_at_call 77; with_reducible refine Calls.quiet_of (HT0.out _)) | (go_at_call 77; with_reducible refine Calls.quiet_of (HT1.out _))))
    go_wp2
    go_ret
    exact ⟨(show Ending.returned (.int .i64 (T + 1 + 2^n + U)) = _ from by rw [FIN.out]), ⟨⟨_, rfl⟩⟩⟩
  · cases h

/-- up to the greatest disc that differs -/
def top (s t : Nat → Int) : Nat → Nat
  | 0 => 0
  | k+1 => if s k = t k then top s t k else k+1
theorem top_le (s t : Nat → Int) (n : Nat) : top s t n ≤ n := by
  induction n with
  | zero => exact Nat.le_refl _
  | succ n ih => unfold top; split <;> omega
theorem top_ne {s t : Nat → Int} {n k : Nat} (h : top s t n = k + 1) : s k ≠ t k := by
  induction n with
  | zero => simp [top] at h
  | succ n ih =>
    unfold top at h; split at h
    · exact ih h
    · rename_i e; obtain rfl : n = k := by omega
      exact e
theorem dst_by_top (s t : Nat → Int) (n : Nat) : dst s t n = match top s t n with | 0 => 0 | k+1 => min (one s t k) (two s t k) := by
  induction n with
  | zero => rfl
  | succ n ih =>
    unfold dst top; split
    · exact ih
    · rfl
def kd (s t : Nat → Int) (n : Nat) : Int := match top s t n with | 0 => 0 | k+1 => if one s t k < two s t k then 1 else if two s t k < one s t k then 2 else 3

theorem differ_ev (l m : List Int) (hl : l.length ≤ 40) (hm : m.length = l.length) : Ev (fun k => bibelotref03_differ.f k l m) (top (nth l) (nth m) l.length : Int) := by
  have key : ∀ n : Nat, n ≤ l.length → Ev (fun k => bibelotref03_differ.l0 k l m (n : Int)) (top (nth l) (nth m) n : Int) := by
    intro n
    induction n with
    | zero => intro _; exact Ev.step (f := fun _ => some 0) (fun k => by simp only [bibelotref03_differ.l0]; rw [if_neg (by omega)]; simp) (Ev.now _)
    | succ n ih =>
      intro hn
      refine Ev.step (f := fun k => if nth l n = nth m n then bibelotref03_differ.l0 k l m (n : Int) else some ((n + 1 : Nat) : Int)) (fun k => ?_) ?_
      · simp only [bibelotref03_differ.l0]
        rw [w64 (by omega) (by omega), show (((n + 1 : Nat) : Int) - 1) = (n : Int) by omega, if_pos (by omega), if_pos (by omega), if_pos (by omega), if_pos (by omega), rd_nth, rd_nth]
      · unfold top
        by_cases e : nth l n = nth m n
        · simp only [if_pos e]; exact ih (by omega)
        · simp only [if_neg e]; exact Ev.now _
  exact key l.length (Nat.le_refl _)

theorem one_take (l m : List Int) (k n : Nat) (h : k < n) : one (nth (l.take n)) (nth (m.take n)) k = one (nth l) (nth m) k := by
  unfold one
  rw [nth_take l n k h, nth_take m n k h, tp_congr (fun i hi => nth_take l n i (by omega)), tp_congr (fun i hi => nth_take m n i (by omega))]
theorem two_take (l m : List Int) (k n : Nat) (h : k < n) : two (nth (l.take n)) (nth (m.take n)) k = two (nth l) (nth m) k := by
  unfold two
  rw [nth_take l n k h, nth_take m n k h, tp_congr (fun i hi => nth_take l n i (by omega)), tp_congr (fun i hi => nth_take m n i (by omega))]

theorem both_take {l m : List Int} (h : both l m = true) {n : Nat} (h0 : 0 < n) (hn : n ≤ l.length) : both (l.take n) (m.take n) = true := by
  obtain ⟨⟨h1, h2, h3⟩, h4, h5⟩ := (both_iff _ _).1 h
  exact (both_iff _ _).2 ⟨⟨by simp; omega, by simp; omega, discs_take h3 n⟩, discs_take h4 n, by simp; omega⟩

/-- what the two calls on the cut lists come to -/
theorem once_cut (ad0 ad1 : Addr) (c0 c1 : Nat) (l m : List Int) (k : Nat) (hb : both l m = true) (hk : top (nth l) (nth m) l.length = k + 1) (hc0 : l.length ≤ c0) (hc1 : m.length ≤ c1) (W : World)
    (hr0 : Kd.C (Kd.int .i64) W (some ad0) l.length l) (hr1 : Kd.C (Kd.int .i64) W (some ad1) m.length m) :
    Calls Tryd.prog 79 #[.slice (some ad0) (k+1) c0, .slice (some ad1) (k+1) c1] W (fun e w' => e = .returned (.int .i64 (one (nth l) (nth m) k)) ∧ ∃ n, w' = W.drewN n) ∧
    Calls Tryd.prog 80 #[.slice (some ad0) (k+1) c0, .slice (some ad1) (k+1) c1] W (fun e w' => e = .returned (.int .i64 (two (nth l) (nth m) k)) ∧ ∃ n, w' = W.drewN n) := by
  obtain ⟨⟨h1, h2, h3⟩, h4, h5⟩ := (both_iff _ _).1 hb
  have hle := top_le (nth l) (nth m) l.length
  have e0 : (l.take (k+1)).length = k+1 := by simp; omega
  have e1 : (m.take (k+1)).length = k+1 := by simp; omega
  have hne := top_ne hk
  have hB := both_take hb (show 0 < k+1 by omega) (by omega)
  constructor
  · have := bibelotref03_once.calls (some ad0) c0 (l.take (k+1)) (some ad1) c1 (m.take (k+1)) (one (nth l) (nth m) k) W (cut_reads (c := c0) _ (by omega) hr0) (by omega) (cut_reads (c := c1) _ (by omega) hr1) (by omega)
      (by unfold bibelotref03_once.f; rw [e0, Nat.add_sub_cancel, nth_take _ _ _ (by omega), nth_take _ _ _ (by omega), if_pos ⟨hB, hne⟩, one_take _ _ _ _ (by omega)])
    rw [e0, e1] at this
    exact this.mono fun _ _ ⟨a, b⟩ => ⟨a, b.out⟩
  · have := bibelotref03_twice.calls (some ad0) c0 (l.take (k+1)) (some ad1) c1 (m.take (k+1)) (two (nth l) (nth m) k) W (cut_reads (c := c0) _ (by omega) hr0) (by omega) (cut_reads (c := c1) _ (by omega) hr1) (by omega)
      (by unfold bibelotref03_twice.f; rw [e0, Nat.add_sub_cancel, nth_take _ _ _ (by omega), nth_take _ _ _ (by omega), if_pos ⟨hB, hne⟩, two_take _ _ _ _ (by omega)])
    rw [e0, e1] at this
    exact this.mono fun _ _ ⟨a, b⟩ => ⟨a, b.out⟩

theorem differ_calls (ad0 ad1 : Addr) (c0 c1 : Nat) (l m : List Int) (hb : both l m = true) (hc0 : l.length ≤ c0) (hc1 : m.length ≤ c1) (W : World)
    (hr0 : Kd.C (Kd.int .i64) W (some ad0) l.length l) (hr1 : Kd.C (Kd.int .i64) W (some ad1) m.length m) :
    Calls Tryd.prog 78 #[.slice (some ad0) l.length c0, .slice (some ad1) m.length c1] W (fun e w' => e = .returned (.int .i64 (top (nth l) (nth m) l.length : Nat)) ∧ Drawn0 W w') := by
  obtain ⟨⟨h1, h2, h3⟩, h4, h5⟩ := (both_iff _ _).1 hb
  obtain ⟨k, hk⟩ := (differ_ev l m h2 h5).rounds
  exact bibelotref03_differ.calls k _ _ l _ _ m _ W hr0 hc0 hr1 hc1 hk

def bibelotref03_Distance.f (l m : List Int) : Option Int := if both l m = true then some (dst (nth l) (nth m) l.length) else none
set_option maxHeartbeats 1000000 in
theorem bibelotref03_Distance.calls (A0 : Option Addr) (c0 : Nat) (l0 : List Int) (A1 : Option Addr) (c1 : Nat) (l1 : List Int) (r : Int) (w : World) (hr0 : Kd.C (Kd.int .i64) w A0 l0.length l0) (hc0 : l0.length ≤ c0) (hr1 : Kd.C (Kd.int .i64) w A1 l1.length l1) (hc1 : l1.length ≤ c1) (h : bibelotref03_Distance.f l0 l1 = some r) :
    Calls Tryd.prog 48 #[.slice A0 l0.length c0, .slice A1 l1.length c1] w fun e w' => e = .returned (.int .i64 r) ∧ Drawn0 w w' := by
  unfold bibelotref03_Distance.f at h
  split at h
  · rename_i hb
    injection h with h
    subst h
    obtain ⟨⟨h1, h2, h3⟩, h4, h5⟩ := (both_iff _ _).1 hb
    obtain ⟨ad0, rfl, _⟩ := Kd.at_int hr0 0 (by omega) (by omega)
    obtain ⟨ad1, rfl, _⟩ := Kd.at_int hr1 0 (by omega) (by omega)
    have D := Aside0.mk (differ_calls ad0 ad1 c0 c1 l0 l1 hb hc0 hc1 w hr0 hr1)
    rw [dst_by_top]
    cases hk : top (nth l0) (nth l1) l0.length with
    | zero =>
      rw [hk, show ((0 : Nat) : Int) = 0 from rfl] at D
      have D' := D.out
      clear hk D hr0 hr1 hb h1 h2 h3 h4 h5
      dsimp only
      have D := Aside0.mk D'
      clear D'
      go_enter Tryd.func48, Tryd.ntmps48
      go_wp2_with (go_at_call 78; refine D.out.mono ?_; rintro e w' ⟨rfl, hD⟩)
      go_ret
      exact ⟨rfl, hD⟩
    | succ k =>
      have hle := top_le (nth l0) (nth l1) l0.length
      rw [hk] at D
      dsimp only
      have O := fun W (hD : Drawn0 w W) (n : Nat) => once_cut ad0 ad1 c0 c1 l0 l1 k hb hk hc0 hc1 (W.drewN n) (Kd.C_drewN (Kd.C_below hr0 hD.below) n) (Kd.C_drewN (Kd.C_below hr1 hD.below) n)
      have O' := Aside0.mk O
      have cut0 := cut_run (some ad0) c0 l0 (k+1) (by omega) hc0
      have cut1 := cut_run (some ad1) c1 l1 (k+1) (by omega) hc1
      have hkb : k ≤ 39 := by omega
      have e2 : ((k + 1 : Nat) : Int) = (k : Int) + 1 := by omega
      have b0 := Aside0.mk hc0
      clear O hr0 hr1 hc0 hc1 h3 h4 h5 hb hk h1 h2 hle
      generalize one (nth l0) (nth l1) k = X at *
      generalize two (nth l0) (nth l1) k = Y at *
      rw [e2] at cut0 cut1 D
      have D' := D.out
      clear D e2
      have D := Aside0.mk D'
      clear D'
      go_enter Tryd.func48, Tryd.ntmps48
      go_wp2_with (go_at_call 78; refine D.out.mono ?_; rintro e w' ⟨rfl, hD⟩)
      have HO := Aside0.mk (O'.out w' hD)
      have HD := Aside0.mk hD
      clear hD
      go_quiet ((first | (go_at_call 79; with_reducible refine Calls.quiet_of (HO.out _).1) | (go_at_call 80; with_reducible refine Calls.quiet_of (HO.out _).2)))
      go_wp2
      all_goals
        go_ret
        first
          | exact ⟨(show Ending.returned (.int .i64 Y) = _ from by rw [Int.min_eq_right (by omega)]), HD.out.step nq⟩
          | exact ⟨(show Ending.returned (.int .i64 X) = _ from by rw [Int.min_eq_left (by omega)]), HD.out.step nq⟩
  · cases h

def bibelotref03_Kind.f (l m : List Int) : Option Int := if both l m = true ∧ top (nth l) (nth m) l.length ≠ 0 then some (kd (nth l) (nth m) l.length) else none
set_option maxHeartbeats 1000000 in
theorem bibelotref03_Kind.calls (A0 : Option Addr) (c0 : Nat) (l0 : List Int) (A1 : Option Addr) (c1 : Nat) (l1 : List Int) (r : Int) (w : World) (hr0 : Kd.C (Kd.int .i64) w A0 l0.length l0) (hc0 : l0.length ≤ c0) (hr1 : Kd.C (Kd.int .i64) w A1 l1.length l1) (hc1 : l1.length ≤ c1) (h : bibelotref03_Kind.f l0 l1 = some r) :
    Calls Tryd.prog 50 #[.slice A0 l0.length c0, .slice A1 l1.length c1] w fun e w' => e = .returned (.int .i64 r) ∧ Drawn0 w w' := by
  unfold bibelotref03_Kind.f at h
  split at h
  · rename_i hb
    obtain ⟨hb, hz⟩ := hb
    injection h with h
    subst h
    obtain ⟨⟨h1, h2, h3⟩, h4, h5⟩ := (both_iff _ _).1 hb
    obtain ⟨ad0, rfl, _⟩ := Kd.at_int hr0 0 (by omega) (by omega)
    obtain ⟨ad1, rfl, _⟩ := Kd.at_int hr1 0 (by omega) (by omega)
    have D := Aside0.mk (differ_calls ad0 ad1 c0 c1 l0 l1 hb hc0 hc1 w hr0 hr1)
    unfold kd
    cases hk : top (nth l0) (nth l1) l0.length with
    | zero => exact absurd hk hz
    | succ k =>
      have hle := top_le (nth l0) (nth l1) l0.length
      rw [hk] at D
      dsimp only
      have O := fun W (hD : Drawn0 w W) (n : Nat) => once_cut ad0 ad1 c0 c1 l0 l1 k hb hk hc0 hc1 (W.drewN n) (Kd.C_drewN (Kd.C_below hr0 hD.below) n) (Kd.C_drewN (Kd.C_below hr1 hD.below) n)
      have O' := Aside0.mk O
      have cut0 := cut_run (some ad0) c0 l0 (k+1) (by omega) hc0
      have cut1 := cut_run (some ad1) c1 l1 (k+1) (by omega) hc1
      have hkb : k ≤ 39 := by omega
      have e2 : ((k + 1 : Nat) : Int) = (k : Int) + 1 := by omega
      have b0 := Aside0.mk hc0
      clear O hr0 hr1 hc0 hc1 h3 h4 h5 hb hk h1 h2 hle hz
      generalize one (nth l0) (nth l1) k = X at *
      generalize two (nth l0) (nth l1) k = Y at *
      rw [e2] at cut0 cut1 D
      have D' := D.out
      clear D e2
      have D := Aside0.mk D'
      clear D'
      go_enter Tryd.func50, Tryd.ntmps50
      go_wp2_with (go_at_call 78; refine D.out.mono ?_; rintro e w' ⟨rfl, hD⟩)
      have HO := Aside0.mk (O'.out w' hD)
      have HD := Aside0.mk hD
      clear hD
      go_quiet ((first | (go_at_call 79; with_reducible refine Calls.quiet_of (HO.out _).1) | (go_at_call 80; with_reducible refine Calls.quiet_of (HO.out _).2)))
      go_wp2
      all_goals
        go_ret
        first
          | exact ⟨rfl, HD.out.step nq⟩
          | exact ⟨(show Ending.returned (.int .i64 1) = _ from by rw [if_pos (by omega)]), HD.out.step nq⟩
          | exact ⟨(show Ending.returned (.int .i64 2) = _ from by rw [if_neg (by omega), if_pos (by omega)]), HD.out.step nq⟩
          | exact ⟨(show Ending.returned (.int .i64 3) = _ from by rw [if_neg (by omega), if_neg (by omega)]), HD.out.step nq⟩
  · cases h
end Go.Proofs.YtnaaomhmoamfpaaDoor.G
/- What Check, Distance and their kin come to: the printed functions' answers, as plain numbers. -/
namespace Go.Proofs.YtnaaomhmoamfpaaDoor.Hn
set_option linter.unusedVariables false
set_option linter.unusedSimpArgs false
set_option linter.unusedSectionVars false
open Go.Proofs.YtnaaomhmoamfpaaDoor.Q Go.Proofs.YtnaaomhmoamfpaaDoor.G
open Go.RowKit Go.Proofs.YtnaaomhmoamfpaaDoorW.PrintWords Go.Proofs.YtnaaomhmoamfpaaDoorW.PrintLast Go.Proofs.YtnaaomhmoamfpaaDoorW.PrintMore

theorem equal_ev (l m : List Int) (hl : l.length ≤ 1000) : Ev (fun k => slices_Equal_int_int.f k l m) (decide (l = m)) := by
  unfold slices_Equal_int_int.f
  by_cases e : l.length = m.length
  · have key : ∀ d i : Nat, i + d = l.length → (∀ j, j < i → nth l j = nth m j) → Ev (fun k => slices_Equal_int_int.l0 k l m (l.length : Int) (i : Int)) (decide (l = m)) := by
      intro d
      induction d with
      | zero =>
        intro i hi hs
        have : l = m := by
          apply List.ext_getElem e
          intro j h1 h2
          have := hs j (by omega)
          simpa [nth, h1, h2] using this
        refine Ev.step (f := fun _ => some (decide (l = m))) (fun k => ?_) (Ev.now _)
        simp only [slices_Equal_int_int.l0]
        rw [if_neg (by omega)]
        simp [this]
      | succ d ih =>
        intro i hi hs
        refine Ev.step (f := fun k => if nth l i = nth m i then slices_Equal_int_int.l0 k l m (l.length : Int) ((i + 1 : Nat) : Int) else some false) (fun k => ?_) ?_
        · simp only [slices_Equal_int_int.l0]
          rw [if_pos (by omega), if_pos (by omega), if_pos (by omega), if_pos (by omega), rd_nth, rd_nth, w64 (by omega) (by omega)]
          rfl
        · by_cases h : nth l i = nth m i
          · simp only [if_pos h]
            refine ih (i + 1) (by omega) (fun j hj => ?_)
            by_cases hj2 : j = i
            · rw [hj2]; exact h
            · exact hs j (by omega)
          · simp only [if_neg h]
            have : l ≠ m := fun h' => h (by rw [h'])
            simp only [this, decide_false]
            exact Ev.now _
    have := key l.length 0 (by omega) (fun j hj => by omega)
    simpa [e] using this
  · have : l ≠ m := fun h => e (by rw [h])
    simp only [this, decide_false]
    refine Ev.congr (f := fun _ => some false) (fun k => ?_) (Ev.now _)
    rw [if_neg (by omega)]

def lo (l : List Int) : Nat → Int
  | 0 => nth l 0
  | n + 1 => mn (lo l n) (nth l (n + 1))
def hi (l : List Int) : Nat → Int
  | 0 => nth l 0
  | n + 1 => mx (hi l n) (nth l (n + 1))
theorem lo_iff (l : List Int) (n : Nat) : 0 ≤ lo l n ↔ ∀ i, i ≤ n → 0 ≤ nth l i := by
  induction n with
  | zero => simp [lo]
  | succ n ih =>
    have : 0 ≤ lo l (n + 1) ↔ 0 ≤ lo l n ∧ 0 ≤ nth l (n + 1) := by simp only [lo, mn]; split <;> omega
    rw [this, ih]
    constructor
    · rintro ⟨h1, h2⟩ i hi
      by_cases e : i = n + 1
      · rw [e]; exact h2
      · exact h1 i (by omega)
    · intro h
      exact ⟨fun i hi => h i (by omega), h _ (Nat.le_refl _)⟩
theorem hi_iff (l : List Int) (n : Nat) : hi l n < 3 ↔ ∀ i, i ≤ n → nth l i < 3 := by
  induction n with
  | zero => simp [hi]
  | succ n ih =>
    have : hi l (n + 1) < 3 ↔ hi l n < 3 ∧ nth l (n + 1) < 3 := by simp only [hi, mx]; split <;> omega
    rw [this, ih]
    constructor
    · rintro ⟨h1, h2⟩ i hi
      by_cases e : i = n + 1
      · rw [e]; exact h2
      · exact h1 i (by omega)
    · intro h
      exact ⟨fun i hi => h i (by omega), h _ (Nat.le_refl _)⟩
theorem min_ev (l : List Int) (h0 : 0 < l.length) (hl : l.length ≤ 1000) : Ev (fun k => slices_Min_int_int.f k l) (lo l (l.length - 1)) := by
  have key : ∀ d i : Nat, i + 1 + d = l.length → Ev (fun k => slices_Min_int_int.l0 k l (lo l i) ((i + 1 : Nat) : Int)) (lo l (l.length - 1)) := by
    intro d
    induction d with
    | zero =>
      intro i hi
      refine Ev.step (f := fun _ => some (lo l (l.length - 1))) (fun k => ?_) (Ev.now _)
      simp only [slices_Min_int_int.l0]
      rw [if_neg (by omega), show l.length - 1 = i by omega]
    | succ d ih =>
      intro i hi
      refine Ev.step (fun k => ?_) (ih (i + 1) (by omega))
      simp only [slices_Min_int_int.l0]
      rw [if_pos (by omega), if_pos (by omega), rd_nth, w64 (by omega) (by omega)]
      rfl
  refine Ev.congr (fun k => ?_) (key (l.length - 1) 0 (by omega))
  unfold slices_Min_int_int.f
  rw [if_neg (by omega), if_pos (by omega)]
  rfl
theorem max_ev (l : List Int) (h0 : 0 < l.length) (hl : l.length ≤ 1000) : Ev (fun k => slices_Max_int_int.f k l) (hi l (l.length - 1)) := by
  have key : ∀ d i : Nat, i + 1 + d = l.length → Ev (fun k => slices_Max_int_int.l0 k l (hi l i) ((i + 1 : Nat) : Int)) (hi l (l.length - 1)) := by
    intro d
    induction d with
    | zero =>
      intro i hi'
      refine Ev.step (f := fun _ => some (hi l (l.length - 1))) (fun k => ?_) (Ev.now _)
      simp only [slices_Max_int_int.l0]
      rw [if_neg (by omega), show l.length - 1 = i by omega]
    | succ d ih =>
      intro i hi'
      refine Ev.step (fun k => ?_) (ih (i + 1) (by omega))
      simp only [slices_Max_int_int.l0]
      rw [if_pos (by omega), if_pos (by omega), rd_nth, w64 (by omega) (by omega)]
      rfl
  refine Ev.congr (fun k => ?_) (key (l.length - 1) 0 (by omega))
  unfold slices_Max_int_int.f
  rw [if_neg (by omega), if_pos (by omega)]
  rfl
theorem areDiscs_ev (l : List Int) : Ev (fun k => hanoi_areDiscs.f k l) (okD l) := by
  unfold hanoi_areDiscs.f
  by_cases h0 : 0 < l.length
  · by_cases h1 : l.length ≤ 40
    · have e : okD l = (decide (0 ≤ lo l (l.length - 1)) && decide (hi l (l.length - 1) < 3)) := by
        rw [Bool.eq_iff_iff, okD_iff]
        simp only [Bool.and_eq_true, decide_eq_true_eq, lo_iff, hi_iff]
        constructor
        · rintro ⟨_, _, h⟩
          exact ⟨fun i hi => (h i (by omega)).1, fun i hi => (h i (by omega)).2⟩
        · rintro ⟨ha, hb⟩
          exact ⟨h0, h1, fun i hi => ⟨ha i (by omega), hb i (by omega)⟩⟩
      rw [e]
      refine Ev.congr (f := fun k => (slices_Min_int_int.f k l).bind fun t125 => (if t125 ≥ 0 then ((slices_Max_int_int.f k l).bind fun t126 => (some (decide (t126 < 3)))) else (some false))) (fun k => ?_) ?_
      · rw [if_pos (by omega), if_pos (by omega)]
      · refine Ev.bind (min_ev l h0 (by omega)) ?_
        by_cases h : 0 ≤ lo l (l.length - 1)
        · simp only [ge_iff_le, h, if_true, decide_true, Bool.true_and]
          exact Ev.bind (max_ev l h0 (by omega)) (Ev.now _)
        · simp only [ge_iff_le, h, if_false, decide_false, Bool.false_and]
          exact Ev.now _
    · have e : okD l = false := by simp [okD, h1]
      rw [e]
      refine Ev.congr (f := fun _ => some false) (fun k => ?_) (Ev.now _)
      rw [if_pos (by omega), if_neg (by omega)]
  · have e : okD l = false := by simp [okD, h0]
    rw [e]
    refine Ev.congr (f := fun _ => some false) (fun k => ?_) (Ev.now _)
    rw [if_neg (by omega)]
def checkD (l : List Int) : Int := if okD l = true then 0 else 30
theorem check_ev (l : List Int) : Ev (fun k => hanoi_Check.f k l) (checkD l) := by
  unfold hanoi_Check.f
  refine Ev.bind (areDiscs_ev l) ?_
  unfold checkD
  by_cases h : okD l = true
  · simp only [if_pos h]; exact Ev.now _
  · simp only [if_neg h]; exact Ev.now _
def openD (l m : List Int) : Int := if okD l = true then (if okD m = true then (if m.length = l.length then 0 else 6) else 30) else 30
theorem open_ev (l m : List Int) : Ev (fun k => hanoi_open.f k [l, m]) (openD l m) := by
  unfold hanoi_open.f
  have w1 : wrap64 (0 + 1) = 1 := w64 (by omega) (by omega)
  have w2 : wrap64 (1 + 1) = 2 := w64 (by omega) (by omega)
  refine Ev.step (f := fun k => (hanoi_Check.f k l).bind fun t => if t = 0 then hanoi_open.l0 k [l, m] [l, m] 2 1 else some t) (fun k => ?_) ?_
  · simp only [hanoi_open.l0]
    rw [if_pos (by simp), if_pos (by omega), if_pos (by simp), w1]
    rfl
  refine Ev.bind (check_ev l) ?_
  by_cases h1 : okD l = true
  · have e1 : checkD l = 0 := by simp [checkD, h1]
    simp only [e1, if_true]
    refine Ev.step (f := fun k => (hanoi_Check.f k m).bind fun t => if t = 0 then hanoi_open.l0 k [l, m] [l, m] 2 2 else some t) (fun k => ?_) ?_
    · simp only [hanoi_open.l0]
      rw [if_pos (by simp), if_pos (by omega), if_pos (by simp), w2]
      rfl
    refine Ev.bind (check_ev m) ?_
    by_cases h2 : okD m = true
    · have e2 : checkD m = 0 := by simp [checkD, h2]
      simp only [e2, if_true]
      refine Ev.step (f := fun k => hanoi_open.l1 k [l, m] [l, m] 2 0) (fun k => ?_) ?_
      · simp only [hanoi_open.l0]
        rw [if_neg (by omega)]
        rfl
      refine Ev.step (f := fun k => hanoi_open.l1 k [l, m] [l, m] 2 1) (fun k => ?_) ?_
      · simp only [hanoi_open.l1]
        rw [if_pos (by omega), if_pos (by omega), if_pos (by simp), if_pos (by simp), w1]
        simp
      refine Ev.step (f := fun k => if m.length = l.length then hanoi_open.l1 k [l, m] [l, m] 2 2 else some 6) (fun k => ?_) ?_
      · simp only [hanoi_open.l1]
        rw [if_pos (by omega), if_pos (by omega), if_pos (by simp), if_pos (by simp), w2]
        simp [rd_L1, Int.ofNat_inj]
      · by_cases h3 : m.length = l.length
        · have : openD l m = 0 := by simp [openD, h1, h2, h3]
          rw [this]
          simp only [if_pos h3]
          refine Ev.step (f := fun k => some 0) (fun k => ?_) (Ev.now _)
          simp only [hanoi_open.l1]
          rw [if_neg (by omega)]
        · have : openD l m = 6 := by simp [openD, h1, h2, h3]
          rw [this]
          simp only [if_neg h3]
          exact Ev.now _
    · have e2 : checkD m = 30 := by simp [checkD, h2]
      have : openD l m = 30 := by simp [openD, h1, h2]
      simp only [e2, this]
      exact Ev.now _
  · have e1 : checkD l = 30 := by simp [checkD, h1]
    have : openD l m = 30 := by simp [openD, h1]
    simp only [e1, this]
    exact Ev.now _
theorem openD_zero (l m : List Int) : openD l m = 0 ↔ both l m = true := by
  unfold openD both
  by_cases h1 : okD l = true <;> by_cases h2 : okD m = true <;> by_cases h3 : m.length = l.length <;> simp [h1, h2, h3, eq_comm]
  exact fun h => h3 h.symm

theorem all_f (n : Nat) (h : n ≤ 40) : hanoi_all.f (n : Int) = some (2^n - 1) := by
  unfold hanoi_all.f
  have h1 := pow_pos' n; have h2 := pow_le h; rw [p40] at h2
  rw [u64w (by omega) (by omega), if_pos (by omega), shl1 n (by omega), w64 (by omega) (by omega)]

theorem to_take_ev (l : List Int) (n : Nat) (p : Int) (hd : DiscsL l) (h40 : l.length ≤ 40) (hn : n ≤ l.length) (hp : Peg p) : Ev (fun k => hanoi_toPeg.f k (l.take n) p) (tp (nth l) n p) := by
  have h := toPeg_ev (l.take n) (by rw [List.length_take]; omega) (discs_take hd n) p hp
  have e : (l.take n).length = n := by rw [List.length_take]; omega
  rw [e, tp_take] at h
  exact h

theorem planned_ev (l m : List Int) (k : Nat) (hb : both l m = true) (ht : top (nth l) (nth m) l.length = k + 1) :
    Ev (fun j => hanoi_planned.f j l m) ((k : Int), one (nth l) (nth m) k, two (nth l) (nth m) k) := by
  obtain ⟨⟨h0, h40, hd⟩, hdm, hlen⟩ := (both_iff l m).1 hb
  have key : ∀ n : Nat, n ≤ l.length → top (nth l) (nth m) n = k + 1 → Ev (fun j => hanoi_planned.l0 j l m ((n : Int) - 1)) ((k : Int), one (nth l) (nth m) k, two (nth l) (nth m) k) := by
    intro n
    induction n with
    | zero => intro _ h; simp [top] at h
    | succ n ih =>
      intro hn htop
      have e1 : (((n + 1 : Nat) : Int) - 1) = (n : Int) := by omega
      rw [e1]
      unfold top at htop
      by_cases e : nth l n = nth m n
      · rw [if_pos e] at htop
        refine Ev.step (fun j => ?_) (ih (by omega) htop)
        simp only [hanoi_planned.l0]
        rw [if_pos (by omega), if_pos (by omega), if_pos (by omega), rd_nth, rd_nth, if_pos e, w64 (by omega) (by omega)]
      · rw [if_neg e] at htop
        obtain rfl : n = k := by omega
        have p1 := hd n (by omega); have p2 := hdm n (by omega)
        unfold Peg at p1 p2
        have t1 := to_take_ev l n (3 - nth l n - nth m n) hd h40 (by omega) (by unfold Peg; omega)
        have t2 := to_take_ev m n (3 - nth l n - nth m n) hdm (by omega) (by omega) (by unfold Peg; omega)
        have t3 := to_take_ev l n (nth m n) hd h40 (by omega) p2
        have t4 := to_take_ev m n (nth l n) hdm (by omega) (by omega) p1
        have n40 := pow_le (show n ≤ 40 by omega); rw [p40] at n40
        have b1 := tp_le (nth l) n (3 - nth l n - nth m n); have b1' := tp_nonneg (nth l) n (3 - nth l n - nth m n)
        have b2 := tp_le (nth m) n (3 - nth l n - nth m n); have b2' := tp_nonneg (nth m) n (3 - nth l n - nth m n)
        have b3 := tp_le (nth l) n (nth m n); have b3' := tp_nonneg (nth l) n (nth m n)
        have b4 := tp_le (nth m) n (nth l n); have b4' := tp_nonneg (nth m) n (nth l n)
        have pn := pow_pos' n
        refine Ev.step (f := fun j => (hanoi_toPeg.f j (l.take n) (3 - nth l n - nth m n)).bind fun t142 => (hanoi_toPeg.f j (m.take n) (3 - nth l n - nth m n)).bind fun t144 => (hanoi_toPeg.f j (l.take n) (nth m n)).bind fun t147 => (hanoi_all.f n).bind fun t148 => (hanoi_toPeg.f j (m.take n) (nth l n)).bind fun t151 => some ((n : Int), wrap64 ((wrap64 (t142 + 1)) + t144), wrap64 ((wrap64 ((wrap64 ((wrap64 (t147 + 1)) + t148)) + 1)) + t151))) (fun j => ?_) ?_
        · simp only [hanoi_planned.l0]
          rw [if_pos (by omega), if_pos (by omega), if_pos (by omega), rd_nth, rd_nth, if_neg e, if_pos (by omega), w64 (x := 3 - nth l n) (by omega) (by omega), w64 (x := 3 - nth l n - nth m n) (by omega) (by omega)]
          simp only [show (n : Int) ≤ (m.length : Int) from by omega, if_true]
          rfl
        · refine Ev.bind t1 (Ev.bind t2 (Ev.bind t3 ?_))
          rw [all_f n (by omega)]
          refine Ev.congr (fun j => Option.bind_some _ _) (Ev.bind t4 ?_)
          rw [w64 (x := tp (nth l) n (3 - nth l n - nth m n) + 1) (by omega) (by omega), w64 (x := tp (nth l) n (3 - nth l n - nth m n) + 1 + _) (by omega) (by omega), w64 (x := tp (nth l) n (nth m n) + 1) (by omega) (by omega), w64 (x := tp (nth l) n (nth m n) + 1 + (2^n - 1)) (by omega) (by omega), w64 (x := tp (nth l) n (nth m n) + 1 + (2^n - 1) + 1) (by omega) (by omega), w64 (by omega) (by omega)]
          exact Ev.now _
  have := key l.length (Nat.le_refl _) ht
  unfold hanoi_planned.f
  rwa [w64 (by omega) (by omega)]

theorem distance_ev (l m : List Int) : Ev (fun j => hanoi_Distance.f j l m) (if both l m = true then (dst (nth l) (nth m) l.length, 0) else (0, openD l m)) := by
  unfold hanoi_Distance.f
  refine Ev.bind (open_ev l m) ?_
  by_cases hb : both l m = true
  · have e := (openD_zero l m).2 hb
    obtain ⟨⟨h0, h40, hd⟩, hdm, hlen⟩ := (both_iff l m).1 hb
    simp only [e, if_true, if_pos hb]
    refine Ev.bind (equal_ev l m (by omega)) ?_
    have ht := dst_by_top (nth l) (nth m) l.length
    by_cases hs : l = m
    · subst hs
      simp only [decide_true, if_true]
      rw [dst_same (fun i _ => rfl)]
      exact Ev.now _
    · simp only [hs, decide_false, if_false, Bool.false_eq_true]
      cases hk : top (nth l) (nth m) l.length with
      | zero =>
        exfalso
        rw [hk] at ht
        apply hs
        apply List.ext_getElem hlen.symm
        intro i h1 h2
        have := dst_zero ht i h1
        simpa [nth, h1, h2] using this
      | succ k =>
        rw [hk] at ht
        simp only at ht
        rw [ht]
        refine Ev.bind (planned_ev l m k hb hk) ?_
        have : mn (one (nth l) (nth m) k) (two (nth l) (nth m) k) = min (one (nth l) (nth m) k) (two (nth l) (nth m) k) := by unfold mn; omega
        simp only [this]
        exact Ev.now _
  · have e : openD l m ≠ 0 := fun h => hb ((openD_zero l m).1 h)
    simp only [if_neg e, if_neg hb]
    exact Ev.now _
end Go.Proofs.YtnaaomhmoamfpaaDoor.Hn
