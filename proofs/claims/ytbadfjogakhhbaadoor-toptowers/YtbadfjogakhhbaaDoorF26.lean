/- Facts under other names of the unknown numbers. -/
import Derived.Test.YtbadfjogakhhbaaDoorF23
namespace Go.Proofs.YtbadfjogakhhbaaDoor.Re
open Go Go.RowKit
set_option linter.unusedVariables false
set_option linter.unusedSimpArgs false
set_option linter.unusedSectionVars false
mutual
def ren (ρ τ : Nat → Nat) : V → V
  | .raw u => .raw u
  | .ptr b o => .ptr b o
  | .sl b o l c => .sl b o l c
  | .gs b o l s => .gs b o l s
  | .agg l => .agg (rens ρ τ l)
  | .tup l => .tup (rens ρ τ l)
  | .clo f a c => .clo f (rens ρ τ a) (rens ρ τ c)
  | .yld b => .yld b
  | .sym i => .sym (ρ i)
  | .mp b => .mp b
  | .any => .any
  | .val j => .val (τ j)
def rens (ρ τ : Nat → Nat) : List V → List V
  | [] => []
  | v :: l => ren ρ τ v :: rens ρ τ l
end
def renB (ρ τ : Nat → Nat) : List (List V × TypeId) → List (List V × TypeId)
  | [] => []
  | (l, t) :: r => (rens ρ τ l, t) :: renB ρ τ r
def Fact.ren (ρ τ : Nat → Nat) (t : Fact) : Fact := ⟨t.f, rens ρ τ t.args, Re.ren ρ τ t.v, renB ρ τ t.bl⟩
def SFact.ren (ρ τ : Nat → Nat) (t : SFact) : SFact := ⟨t.f, rens ρ τ t.args, renB ρ τ t.pre, Re.ren ρ τ t.v, renB ρ τ t.post⟩
/-- S' is S under other names. -/
structure Nm (ρ τ : Nat → Nat) (S S' : Sig) : Prop where
  σ : ∀ i, S'.σ i = S.σ (ρ i)
  val : ∀ j, S'.val j = S.val (τ j)
  gt : S'.gt = S.gt
  gw : S'.gw = S.gw
  gf : S'.gf = S.gf
section
variable {ρ τ : Nat → Nat} {S S' : Sig} (H : Nm ρ τ S S')
include H
mutual
theorem VR_ren {E : Env} : ∀ (v : V) (x : Value), @VR S' E v x ↔ @VR S E (ren ρ τ v) x
  | .raw u, x => Iff.rfl
  | .ptr b o, x => Iff.rfl
  | .sl b o l c, x => Iff.rfl
  | .gs b o l s, x => Iff.rfl
  | .agg l, x => ⟨fun ⟨us, h1, h2⟩ => ⟨us, h1, (VRs_ren l us.toList).1 h2⟩, fun ⟨us, h1, h2⟩ => ⟨us, h1, (VRs_ren l us.toList).2 h2⟩⟩
  | .tup l, x => ⟨fun ⟨us, h1, h2⟩ => ⟨us, h1, (VRs_ren l us.toList).1 h2⟩, fun ⟨us, h1, h2⟩ => ⟨us, h1, (VRs_ren l us.toList).2 h2⟩⟩
  | .clo f a c, x => ⟨fun ⟨us, vs, h1, h2, h3⟩ => ⟨us, vs, h1, (VRs_ren a us.toList).1 h2, (VRs_ren c vs.toList).1 h3⟩, fun ⟨us, vs, h1, h2, h3⟩ => ⟨us, vs, h1, (VRs_ren a us.toList).2 h2, (VRs_ren c vs.toList).2 h3⟩⟩
  | .yld b, x => Iff.rfl
  | .sym i, x => by
    show x = .int .i64 (S'.σ i) ↔ x = .int .i64 (S.σ (ρ i))
    rw [H.σ]
  | .mp b, x => Iff.rfl
  | .any, x => Iff.rfl
  | .val j, x => by
    show (x = S'.val j ∧ oneS x) ↔ (x = S.val (τ j) ∧ oneS x)
    rw [H.val]
theorem VRs_ren {E : Env} : ∀ (l : List V) (us : List Value), @VRs S' E l us ↔ @VRs S E (rens ρ τ l) us
  | [], us => Iff.rfl
  | v :: l, us => ⟨fun ⟨u, r, h1, h2, h3⟩ => ⟨u, r, h1, (VR_ren v u).1 h2, (VRs_ren l r).1 h3⟩, fun ⟨u, r, h1, h2, h3⟩ => ⟨u, r, h1, (VR_ren v u).2 h2, (VRs_ren l r).2 h3⟩⟩
end
theorem GT_ren : @GT S' = @GT S := by
  funext g
  unfold GT
  rw [H.gt]
omit H in
theorem renB_get : ∀ {bl : List (List V × TypeId)} {i : Nat}, (renB ρ τ bl)[i]? = (bl[i]?).map fun p => (rens ρ τ p.1, p.2)
  | [], i => by simp [renB]
  | (l, t) :: r, 0 => by simp [renB]
  | (l, t) :: r, i + 1 => by simpa [renB] using renB_get (bl := r) (i := i)
omit H in
theorem renB_len : ∀ {bl : List (List V × TypeId)}, (renB ρ τ bl).length = bl.length
  | [] => rfl
  | (l, t) :: r => by simp [renB, renB_len (bl := r)]
theorem WR_ren {B : Nat → Prop} {E : Env} {w : World} {bl : List (List V × TypeId)} {st st2 : St} (h1 : stBl bl = some st) (h2 : stBl (renB ρ τ bl) = some st2) : @WR S' (@GT S') B E st w ↔ @WR S (@GT S) B E st2 w := by
  obtain ⟨p1, p2, p3⟩ := @stBl_get S _ _ h1
  obtain ⟨q1, q2, q3⟩ := @stBl_get S _ _ h2
  have hn : st2.n = st.n := by rw [q1, p1, renB_len]
  have fw : ∀ b o, st.h.get b = some o → ∃ l ty, o = .cells l ty ∧ st2.h.get b = some (.cells (rens ρ τ l) ty) := fun b o hb => by
    obtain ⟨l, ty, e1, rfl⟩ := p3 b o hb
    exact ⟨l, ty, rfl, q2 b _ ty (by rw [renB_get, e1]; rfl)⟩
  have bw : ∀ b o, st2.h.get b = some o → ∃ l ty, o = .cells (rens ρ τ l) ty ∧ st.h.get b = some (.cells l ty) := fun b o hb => by
    obtain ⟨l, ty, e1, rfl⟩ := q3 b o hb
    rw [renB_get] at e1
    obtain ⟨⟨l0, t0⟩, e2, e3⟩ := Option.map_eq_some_iff.1 e1
    injection e3 with e3 e4
    subst e3 e4
    exact ⟨l0, t0, rfl, p2 b l0 t0 e2⟩
  have or : ∀ b l ty, @OR S' E b w (.cells l ty) ↔ @OR S E b w (.cells (rens ρ τ l) ty) := fun b l ty =>
    ⟨fun ⟨c, a1, a2, us, rest, a3, a4⟩ => ⟨c, a1, a2, us, rest, a3, (VRs_ren H l us).1 a4⟩, fun ⟨c, a1, a2, us, rest, a3, a4⟩ => ⟨c, a1, a2, us, rest, a3, (VRs_ren H l us).2 a4⟩⟩
  constructor
  · rintro ⟨hwn, hlive, hinj, hbase, hsize, hglob⟩
    refine @WR.mk S _ _ _ _ _ (by rw [hn]; exact hwn) (fun b o hb => ?_) (fun b b' o o' hb hb' he => ?_) (fun b o hb => ?_) hsize (fun g o hg => hglob g o ?_)
    · obtain ⟨l, ty, rfl, e⟩ := bw b o hb
      exact ⟨by rw [hn]; exact (hlive b _ e).1, (or b l ty).1 (hlive b _ e).2⟩
    · obtain ⟨l, ty, rfl, e⟩ := bw b o hb
      obtain ⟨l', ty', rfl, e'⟩ := bw b' o' hb'
      exact hinj b b' _ _ e e' he
    · obtain ⟨l, ty, rfl, e⟩ := bw b o hb
      exact hbase b _ e
    · rw [GT_ren H, H.gf]; exact hg
  · rintro ⟨hwn, hlive, hinj, hbase, hsize, hglob⟩
    refine @WR.mk S' _ _ _ _ _ (by rw [← hn]; exact hwn) (fun b o hb => ?_) (fun b b' o o' hb hb' he => ?_) (fun b o hb => ?_) hsize (fun g o hg => hglob g o ?_)
    · obtain ⟨l, ty, rfl, e⟩ := fw b o hb
      exact ⟨by rw [← hn]; exact (hlive b _ e).1, (or b l ty).2 (hlive b _ e).2⟩
    · obtain ⟨l, ty, rfl, e⟩ := fw b o hb
      obtain ⟨l', ty', rfl, e'⟩ := fw b' o' hb'
      exact hinj b b' _ _ e e' he
    · obtain ⟨l, ty, rfl, e⟩ := fw b o hb
      exact hbase b _ e
    · rw [GT_ren H, H.gf] at hg; exact hg
theorem FOK_ren {t : Fact} (h : @FOK S' t) (hs : (stBl (renB ρ τ t.bl)).isSome = true) : @FOK S (t.ren ρ τ) := by
  obtain ⟨h1, h2⟩ := h
  obtain ⟨st2, hst2⟩ := Option.isSome_iff_exists.1 hs
  refine ⟨h1, fun w E us hG hv => ?_⟩
  refine CallsIn.mono (h2 w E us (fun g o hg => hG g o (by rw [GT_ren H, H.gf] at hg; exact hg)) ((VRs_ren H _ _).2 hv)) ?_
  rintro _ w' ⟨x, E', st', a1, a2, a3, a4, a5, a6⟩
  exact ⟨x, E', st2, hst2, a2, a3, (WR_ren H a1 hst2).1 a4, (VR_ren H _ _).1 a5, a6⟩
theorem SOK_ren {t : SFact} (h : @SOK S' t) (hp : (stBl (renB ρ τ t.pre)).isSome = true) (hs : (stBl (renB ρ τ t.post)).isSome = true) : @SOK S (t.ren ρ τ) := by
  obtain ⟨⟨h1, h2⟩, h3⟩ := h
  obtain ⟨st2, hst2⟩ := Option.isSome_iff_exists.1 hs
  obtain ⟨st0', hst0'⟩ := Option.isSome_iff_exists.1 h3
  refine ⟨⟨h1, fun B E w us st0 h0 hw hv => ?_⟩, hp⟩
  refine CallsIn.mono (h2 B E w us st0' hst0' ((WR_ren H hst0' h0).2 hw) ((VRs_ren H _ _).2 hv)) ?_
  rintro _ w' ⟨x, E', st', a1, a2, a3, a4, a5, a6⟩
  exact ⟨x, E', st2, hst2, a2, a3, (WR_ren H a1 hst2).1 a4, (VR_ren H _ _).1 a5, a6⟩
end
end Go.Proofs.YtbadfjogakhhbaaDoor.Re
