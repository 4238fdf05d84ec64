/- The small machine: names for facts about boards. -/
import Derived.Test.YtbadfjogakhhbaaDoorF21
namespace Go.Proofs.YtbadfjogakhhbaaDoor.Re
open Go Go.RowKit
set_option linter.unusedVariables false
set_option linter.unusedSimpArgs false
set_option linter.unusedSectionVars false
variable [Sig]
abbrev FOK (t : Fact) : Prop := FactOK Tryd.prog GT t
abbrev SOK (t : SFact) : Prop := SFactOK Tryd.prog GT t ∧ (stBl t.pre).isSome = true
theorem fn {α : Type} {Q : α → Prop} : ∀ t ∈ ([] : List α), Q t := fun _ h => by cases h
theorem fa {α : Type} {Q : α → Prop} {a : α} {l : List α} (h : Q a) (k : ∀ t ∈ l, Q t) : ∀ t ∈ a :: l, Q t := List.forall_mem_cons.2 ⟨h, k⟩
def KK (l : List Fact) (s : List SFact) : Orc := orK (factsK l) (sfactsK s)
theorem kk {l : List Fact} {s : List SFact} (hl : ∀ t ∈ l, FOK t) (hs : ∀ t ∈ s, SOK t) : ∀ B, OrcOK Tryd.prog GT B (KK l s) := fun B => orK_ok (factsK_ok hl) (sfactsK_ok hs)
/-- A fact out of a run, with facts. -/
theorem fr {l : List Fact} {s : List SFact} (hl : ∀ t ∈ l, FOK t) (hs : ∀ t ∈ s, SOK t) (t : Fact) (hp : mapVs (fun _ => none) t.args = some t.args) (ht : (stBl t.bl).isSome = true) (h : runV Tryd.prog GT (KK l s) 4000 t.f t.args = match stBl t.bl with | some s => some (t.v, s) | none => none) : FOK t := fact2 (kk hl hs) 4000 t hp ht h
theorem sr {l : List Fact} {s : List SFact} (hl : ∀ t ∈ l, FOK t) (hs : ∀ t ∈ s, SOK t) (t : SFact) (h : runS Tryd.prog GT (KK l s) 4000 t.f t.args t.pre = endR t) (ht : (endR t).isSome = true) (hp : (stBl t.pre).isSome = true) : SOK t := ⟨sfact2 (kk hl hs) 4000 t h ht, hp⟩
def sm (i m v : Nat) : Fact := ⟨5, [.sym i, I m], I v, []⟩
theorem sm_ok {i m v : Nat} (h : smallI (Sig.σ i) (.ofNat m) = .ofNat v) (hm : (IntKind.u64.wrap (wrap64 (.ofNat m + 1)) == 0) = false) : FOK (sm i m v) := small_fact i (.ofNat m) (.ofNat v) (beq_eq_false_iff_ne.1 hm) h
def t7 : Fact := ⟨10, [], .raw (.bool true), []⟩
end Go.Proofs.YtbadfjogakhhbaaDoor.Re
