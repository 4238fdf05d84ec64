/- prefers: by the whole share, where no bundle is cheaper than the own one. -/
import Derived.Test.YtbadfjogakhhbaaGreatDoorF31
namespace Go.Proofs.YtbadfjogakhhbaaGreatDoor.Re
open Go Go.RowKit
set_option linter.unusedVariables false
set_option linter.unusedSimpArgs false
set_option linter.unusedSectionVars false
set_option maxRecDepth 100000
mutual
theorem ren_id : ∀ (v : V), ren id id v = v
  | .raw u => rfl
  | .ptr b o => rfl
  | .sl b o l c => rfl
  | .gs b o l s => rfl
  | .agg l => by rw [ren, rens_id l]
  | .tup l => by rw [ren, rens_id l]
  | .clo f a c => by rw [ren, rens_id a, rens_id c]
  | .yld b => rfl
  | .sym i => rfl
  | .mp b => rfl
  | .any => rfl
  | .val j => rfl
theorem rens_id : ∀ (l : List V), rens id id l = l
  | [] => rfl
  | v :: l => by rw [rens, ren_id v, rens_id l]
end
theorem renB_id : ∀ (l : List (List V × TypeId)), renB id id l = l
  | [] => rfl
  | (l, t) :: r => by rw [renB, rens_id l, renB_id r]
/-- Another table, the same names. -/
theorem SOK_same {S' T : Sig} (H : Nm id id S' T) {t : SFact} (h : @SOK T t) (hs : (stBl t.post).isSome = true) : @SOK S' t := by
  have h2 := SOK_ren H h (by rw [renB_id]; exact h.2) (by rw [renB_id]; exact hs)
  have e : t.ren id id = t := by unfold SFact.ren; rw [rens_id, renB_id, ren_id, renB_id]
  rw [e] at h2
  exact h2
def tabF (i k : Nat) (b : Bool) : List Row := [(3, I 1, cS i i, cS i i), (3, I 1, cS i k, cS i k), (4, cS i k, cS i i, O false), (8, cS i k, cS i i, O b)]
def dPn (n i k : Nat) (b : Nat) : SFact := ⟨38, [.ptr 0 0, I i, I k, .agg [I 1, I 1]], [(mk n, 60)], I b, [(mk n, 60)]⟩
theorem tabF_ok {σ : Nat → Int} {i k : Nat} {x y : Int} (hx : cI σ (cS i i) = some x) (hy : cI σ (cS i k) = some y) (h1 : 1 ≤ x ∧ x ≤ 20) (h2 : x ≤ y ∧ y ≤ 20) {b : Bool} (hb : b = true ↔ y = x) : ∀ e ∈ tabF i k b, EOK σ e := by
  unfold tabF
  exact ga (e_mul (a := 1) rfl hx hx (by omega) (by omega)) <| ga (e_mul (a := 1) rfl hy hy (by omega) (by omega)) <| ga (e_lss false hy hx (by simp <;> omega)) <| ga (e_eql b hy hx hb) gn
/-- What prefers comes to. -/
def PV (i k : Nat) (σ : Nat → Int) : Int := if σ (1000 + 10 * i + k) = σ (1000 + 10 * i + i) then 1 else 0
theorem pf_1_0_0_1 (σ gt gw val gf m ok mok) : @runS (SX σ gt gw val gf (tabF 0 0 true) m ok mok) Tryz.prog (@GT (SX σ gt gw val gf (tabF 0 0 true) m ok mok)) (KK [] []) 4000 38 (dPn 1 0 0 1).args (dPn 1 0 0 1).pre = endR (dPn 1 0 0 1) := by kernel_rfl
theorem pf_2_0_0_1 (σ gt gw val gf m ok mok) : @runS (SX σ gt gw val gf (tabF 0 0 true) m ok mok) Tryz.prog (@GT (SX σ gt gw val gf (tabF 0 0 true) m ok mok)) (KK [] []) 4000 38 (dPn 2 0 0 1).args (dPn 2 0 0 1).pre = endR (dPn 2 0 0 1) := by kernel_rfl
theorem pf_2_0_1_1 (σ gt gw val gf m ok mok) : @runS (SX σ gt gw val gf (tabF 0 1 true) m ok mok) Tryz.prog (@GT (SX σ gt gw val gf (tabF 0 1 true) m ok mok)) (KK [] []) 4000 38 (dPn 2 0 1 1).args (dPn 2 0 1 1).pre = endR (dPn 2 0 1 1) := by kernel_rfl
theorem pf_2_0_1_0 (σ gt gw val gf m ok mok) : @runS (SX σ gt gw val gf (tabF 0 1 false) m ok mok) Tryz.prog (@GT (SX σ gt gw val gf (tabF 0 1 false) m ok mok)) (KK [] []) 4000 38 (dPn 2 0 1 0).args (dPn 2 0 1 0).pre = endR (dPn 2 0 1 0) := by kernel_rfl
theorem pf_2_1_0_1 (σ gt gw val gf m ok mok) : @runS (SX σ gt gw val gf (tabF 1 0 true) m ok mok) Tryz.prog (@GT (SX σ gt gw val gf (tabF 1 0 true) m ok mok)) (KK [] []) 4000 38 (dPn 2 1 0 1).args (dPn 2 1 0 1).pre = endR (dPn 2 1 0 1) := by kernel_rfl
theorem pf_2_1_0_0 (σ gt gw val gf m ok mok) : @runS (SX σ gt gw val gf (tabF 1 0 false) m ok mok) Tryz.prog (@GT (SX σ gt gw val gf (tabF 1 0 false) m ok mok)) (KK [] []) 4000 38 (dPn 2 1 0 0).args (dPn 2 1 0 0).pre = endR (dPn 2 1 0 0) := by kernel_rfl
theorem pf_2_1_1_1 (σ gt gw val gf m ok mok) : @runS (SX σ gt gw val gf (tabF 1 1 true) m ok mok) Tryz.prog (@GT (SX σ gt gw val gf (tabF 1 1 true) m ok mok)) (KK [] []) 4000 38 (dPn 2 1 1 1).args (dPn 2 1 1 1).pre = endR (dPn 2 1 1 1) := by kernel_rfl
theorem pf_3_0_0_1 (σ gt gw val gf m ok mok) : @runS (SX σ gt gw val gf (tabF 0 0 true) m ok mok) Tryz.prog (@GT (SX σ gt gw val gf (tabF 0 0 true) m ok mok)) (KK [] []) 4000 38 (dPn 3 0 0 1).args (dPn 3 0 0 1).pre = endR (dPn 3 0 0 1) := by kernel_rfl
theorem pf_3_0_1_1 (σ gt gw val gf m ok mok) : @runS (SX σ gt gw val gf (tabF 0 1 true) m ok mok) Tryz.prog (@GT (SX σ gt gw val gf (tabF 0 1 true) m ok mok)) (KK [] []) 4000 38 (dPn 3 0 1 1).args (dPn 3 0 1 1).pre = endR (dPn 3 0 1 1) := by kernel_rfl
theorem pf_3_0_1_0 (σ gt gw val gf m ok mok) : @runS (SX σ gt gw val gf (tabF 0 1 false) m ok mok) Tryz.prog (@GT (SX σ gt gw val gf (tabF 0 1 false) m ok mok)) (KK [] []) 4000 38 (dPn 3 0 1 0).args (dPn 3 0 1 0).pre = endR (dPn 3 0 1 0) := by kernel_rfl
theorem pf_3_0_2_1 (σ gt gw val gf m ok mok) : @runS (SX σ gt gw val gf (tabF 0 2 true) m ok mok) Tryz.prog (@GT (SX σ gt gw val gf (tabF 0 2 true) m ok mok)) (KK [] []) 4000 38 (dPn 3 0 2 1).args (dPn 3 0 2 1).pre = endR (dPn 3 0 2 1) := by kernel_rfl
theorem pf_3_0_2_0 (σ gt gw val gf m ok mok) : @runS (SX σ gt gw val gf (tabF 0 2 false) m ok mok) Tryz.prog (@GT (SX σ gt gw val gf (tabF 0 2 false) m ok mok)) (KK [] []) 4000 38 (dPn 3 0 2 0).args (dPn 3 0 2 0).pre = endR (dPn 3 0 2 0) := by kernel_rfl
theorem pf_3_1_0_1 (σ gt gw val gf m ok mok) : @runS (SX σ gt gw val gf (tabF 1 0 true) m ok mok) Tryz.prog (@GT (SX σ gt gw val gf (tabF 1 0 true) m ok mok)) (KK [] []) 4000 38 (dPn 3 1 0 1).args (dPn 3 1 0 1).pre = endR (dPn 3 1 0 1) := by kernel_rfl
theorem pf_3_1_0_0 (σ gt gw val gf m ok mok) : @runS (SX σ gt gw val gf (tabF 1 0 false) m ok mok) Tryz.prog (@GT (SX σ gt gw val gf (tabF 1 0 false) m ok mok)) (KK [] []) 4000 38 (dPn 3 1 0 0).args (dPn 3 1 0 0).pre = endR (dPn 3 1 0 0) := by kernel_rfl
theorem pf_3_1_1_1 (σ gt gw val gf m ok mok) : @runS (SX σ gt gw val gf (tabF 1 1 true) m ok mok) Tryz.prog (@GT (SX σ gt gw val gf (tabF 1 1 true) m ok mok)) (KK [] []) 4000 38 (dPn 3 1 1 1).args (dPn 3 1 1 1).pre = endR (dPn 3 1 1 1) := by kernel_rfl
theorem pf_3_1_2_1 (σ gt gw val gf m ok mok) : @runS (SX σ gt gw val gf (tabF 1 2 true) m ok mok) Tryz.prog (@GT (SX σ gt gw val gf (tabF 1 2 true) m ok mok)) (KK [] []) 4000 38 (dPn 3 1 2 1).args (dPn 3 1 2 1).pre = endR (dPn 3 1 2 1) := by kernel_rfl
theorem pf_3_1_2_0 (σ gt gw val gf m ok mok) : @runS (SX σ gt gw val gf (tabF 1 2 false) m ok mok) Tryz.prog (@GT (SX σ gt gw val gf (tabF 1 2 false) m ok mok)) (KK [] []) 4000 38 (dPn 3 1 2 0).args (dPn 3 1 2 0).pre = endR (dPn 3 1 2 0) := by kernel_rfl
theorem pf_3_2_0_1 (σ gt gw val gf m ok mok) : @runS (SX σ gt gw val gf (tabF 2 0 true) m ok mok) Tryz.prog (@GT (SX σ gt gw val gf (tabF 2 0 true) m ok mok)) (KK [] []) 4000 38 (dPn 3 2 0 1).args (dPn 3 2 0 1).pre = endR (dPn 3 2 0 1) := by kernel_rfl
theorem pf_3_2_0_0 (σ gt gw val gf m ok mok) : @runS (SX σ gt gw val gf (tabF 2 0 false) m ok mok) Tryz.prog (@GT (SX σ gt gw val gf (tabF 2 0 false) m ok mok)) (KK [] []) 4000 38 (dPn 3 2 0 0).args (dPn 3 2 0 0).pre = endR (dPn 3 2 0 0) := by kernel_rfl
theorem pf_3_2_1_1 (σ gt gw val gf m ok mok) : @runS (SX σ gt gw val gf (tabF 2 1 true) m ok mok) Tryz.prog (@GT (SX σ gt gw val gf (tabF 2 1 true) m ok mok)) (KK [] []) 4000 38 (dPn 3 2 1 1).args (dPn 3 2 1 1).pre = endR (dPn 3 2 1 1) := by kernel_rfl
theorem pf_3_2_1_0 (σ gt gw val gf m ok mok) : @runS (SX σ gt gw val gf (tabF 2 1 false) m ok mok) Tryz.prog (@GT (SX σ gt gw val gf (tabF 2 1 false) m ok mok)) (KK [] []) 4000 38 (dPn 3 2 1 0).args (dPn 3 2 1 0).pre = endR (dPn 3 2 1 0) := by kernel_rfl
theorem pf_3_2_2_1 (σ gt gw val gf m ok mok) : @runS (SX σ gt gw val gf (tabF 2 2 true) m ok mok) Tryz.prog (@GT (SX σ gt gw val gf (tabF 2 2 true) m ok mok)) (KK [] []) 4000 38 (dPn 3 2 2 1).args (dPn 3 2 2 1).pre = endR (dPn 3 2 2 1) := by kernel_rfl
theorem pf_4_0_0_1 (σ gt gw val gf m ok mok) : @runS (SX σ gt gw val gf (tabF 0 0 true) m ok mok) Tryz.prog (@GT (SX σ gt gw val gf (tabF 0 0 true) m ok mok)) (KK [] []) 4000 38 (dPn 4 0 0 1).args (dPn 4 0 0 1).pre = endR (dPn 4 0 0 1) := by kernel_rfl
theorem pf_4_0_1_1 (σ gt gw val gf m ok mok) : @runS (SX σ gt gw val gf (tabF 0 1 true) m ok mok) Tryz.prog (@GT (SX σ gt gw val gf (tabF 0 1 true) m ok mok)) (KK [] []) 4000 38 (dPn 4 0 1 1).args (dPn 4 0 1 1).pre = endR (dPn 4 0 1 1) := by kernel_rfl
theorem pf_4_0_1_0 (σ gt gw val gf m ok mok) : @runS (SX σ gt gw val gf (tabF 0 1 false) m ok mok) Tryz.prog (@GT (SX σ gt gw val gf (tabF 0 1 false) m ok mok)) (KK [] []) 4000 38 (dPn 4 0 1 0).args (dPn 4 0 1 0).pre = endR (dPn 4 0 1 0) := by kernel_rfl
theorem pf_4_0_2_1 (σ gt gw val gf m ok mok) : @runS (SX σ gt gw val gf (tabF 0 2 true) m ok mok) Tryz.prog (@GT (SX σ gt gw val gf (tabF 0 2 true) m ok mok)) (KK [] []) 4000 38 (dPn 4 0 2 1).args (dPn 4 0 2 1).pre = endR (dPn 4 0 2 1) := by kernel_rfl
theorem pf_4_0_2_0 (σ gt gw val gf m ok mok) : @runS (SX σ gt gw val gf (tabF 0 2 false) m ok mok) Tryz.prog (@GT (SX σ gt gw val gf (tabF 0 2 false) m ok mok)) (KK [] []) 4000 38 (dPn 4 0 2 0).args (dPn 4 0 2 0).pre = endR (dPn 4 0 2 0) := by kernel_rfl
theorem pf_4_0_3_1 (σ gt gw val gf m ok mok) : @runS (SX σ gt gw val gf (tabF 0 3 true) m ok mok) Tryz.prog (@GT (SX σ gt gw val gf (tabF 0 3 true) m ok mok)) (KK [] []) 4000 38 (dPn 4 0 3 1).args (dPn 4 0 3 1).pre = endR (dPn 4 0 3 1) := by kernel_rfl
theorem pf_4_0_3_0 (σ gt gw val gf m ok mok) : @runS (SX σ gt gw val gf (tabF 0 3 false) m ok mok) Tryz.prog (@GT (SX σ gt gw val gf (tabF 0 3 false) m ok mok)) (KK [] []) 4000 38 (dPn 4 0 3 0).args (dPn 4 0 3 0).pre = endR (dPn 4 0 3 0) := by kernel_rfl
theorem pf_4_1_0_1 (σ gt gw val gf m ok mok) : @runS (SX σ gt gw val gf (tabF 1 0 true) m ok mok) Tryz.prog (@GT (SX σ gt gw val gf (tabF 1 0 true) m ok mok)) (KK [] []) 4000 38 (dPn 4 1 0 1).args (dPn 4 1 0 1).pre = endR (dPn 4 1 0 1) := by kernel_rfl
theorem pf_4_1_0_0 (σ gt gw val gf m ok mok) : @runS (SX σ gt gw val gf (tabF 1 0 false) m ok mok) Tryz.prog (@GT (SX σ gt gw val gf (tabF 1 0 false) m ok mok)) (KK [] []) 4000 38 (dPn 4 1 0 0).args (dPn 4 1 0 0).pre = endR (dPn 4 1 0 0) := by kernel_rfl
theorem pf_4_1_1_1 (σ gt gw val gf m ok mok) : @runS (SX σ gt gw val gf (tabF 1 1 true) m ok mok) Tryz.prog (@GT (SX σ gt gw val gf (tabF 1 1 true) m ok mok)) (KK [] []) 4000 38 (dPn 4 1 1 1).args (dPn 4 1 1 1).pre = endR (dPn 4 1 1 1) := by kernel_rfl
theorem pf_4_1_2_1 (σ gt gw val gf m ok mok) : @runS (SX σ gt gw val gf (tabF 1 2 true) m ok mok) Tryz.prog (@GT (SX σ gt gw val gf (tabF 1 2 true) m ok mok)) (KK [] []) 4000 38 (dPn 4 1 2 1).args (dPn 4 1 2 1).pre = endR (dPn 4 1 2 1) := by kernel_rfl
theorem pf_4_1_2_0 (σ gt gw val gf m ok mok) : @runS (SX σ gt gw val gf (tabF 1 2 false) m ok mok) Tryz.prog (@GT (SX σ gt gw val gf (tabF 1 2 false) m ok mok)) (KK [] []) 4000 38 (dPn 4 1 2 0).args (dPn 4 1 2 0).pre = endR (dPn 4 1 2 0) := by kernel_rfl
theorem pf_4_1_3_1 (σ gt gw val gf m ok mok) : @runS (SX σ gt gw val gf (tabF 1 3 true) m ok mok) Tryz.prog (@GT (SX σ gt gw val gf (tabF 1 3 true) m ok mok)) (KK [] []) 4000 38 (dPn 4 1 3 1).args (dPn 4 1 3 1).pre = endR (dPn 4 1 3 1) := by kernel_rfl
theorem pf_4_1_3_0 (σ gt gw val gf m ok mok) : @runS (SX σ gt gw val gf (tabF 1 3 false) m ok mok) Tryz.prog (@GT (SX σ gt gw val gf (tabF 1 3 false) m ok mok)) (KK [] []) 4000 38 (dPn 4 1 3 0).args (dPn 4 1 3 0).pre = endR (dPn 4 1 3 0) := by kernel_rfl
theorem pf_4_2_0_1 (σ gt gw val gf m ok mok) : @runS (SX σ gt gw val gf (tabF 2 0 true) m ok mok) Tryz.prog (@GT (SX σ gt gw val gf (tabF 2 0 true) m ok mok)) (KK [] []) 4000 38 (dPn 4 2 0 1).args (dPn 4 2 0 1).pre = endR (dPn 4 2 0 1) := by kernel_rfl
theorem pf_4_2_0_0 (σ gt gw val gf m ok mok) : @runS (SX σ gt gw val gf (tabF 2 0 false) m ok mok) Tryz.prog (@GT (SX σ gt gw val gf (tabF 2 0 false) m ok mok)) (KK [] []) 4000 38 (dPn 4 2 0 0).args (dPn 4 2 0 0).pre = endR (dPn 4 2 0 0) := by kernel_rfl
theorem pf_4_2_1_1 (σ gt gw val gf m ok mok) : @runS (SX σ gt gw val gf (tabF 2 1 true) m ok mok) Tryz.prog (@GT (SX σ gt gw val gf (tabF 2 1 true) m ok mok)) (KK [] []) 4000 38 (dPn 4 2 1 1).args (dPn 4 2 1 1).pre = endR (dPn 4 2 1 1) := by kernel_rfl
theorem pf_4_2_1_0 (σ gt gw val gf m ok mok) : @runS (SX σ gt gw val gf (tabF 2 1 false) m ok mok) Tryz.prog (@GT (SX σ gt gw val gf (tabF 2 1 false) m ok mok)) (KK [] []) 4000 38 (dPn 4 2 1 0).args (dPn 4 2 1 0).pre = endR (dPn 4 2 1 0) := by kernel_rfl
theorem pf_4_2_2_1 (σ gt gw val gf m ok mok) : @runS (SX σ gt gw val gf (tabF 2 2 true) m ok mok) Tryz.prog (@GT (SX σ gt gw val gf (tabF 2 2 true) m ok mok)) (KK [] []) 4000 38 (dPn 4 2 2 1).args (dPn 4 2 2 1).pre = endR (dPn 4 2 2 1) := by kernel_rfl
theorem pf_4_2_3_1 (σ gt gw val gf m ok mok) : @runS (SX σ gt gw val gf (tabF 2 3 true) m ok mok) Tryz.prog (@GT (SX σ gt gw val gf (tabF 2 3 true) m ok mok)) (KK [] []) 4000 38 (dPn 4 2 3 1).args (dPn 4 2 3 1).pre = endR (dPn 4 2 3 1) := by kernel_rfl
theorem pf_4_2_3_0 (σ gt gw val gf m ok mok) : @runS (SX σ gt gw val gf (tabF 2 3 false) m ok mok) Tryz.prog (@GT (SX σ gt gw val gf (tabF 2 3 false) m ok mok)) (KK [] []) 4000 38 (dPn 4 2 3 0).args (dPn 4 2 3 0).pre = endR (dPn 4 2 3 0) := by kernel_rfl
theorem pf_4_3_0_1 (σ gt gw val gf m ok mok) : @runS (SX σ gt gw val gf (tabF 3 0 true) m ok mok) Tryz.prog (@GT (SX σ gt gw val gf (tabF 3 0 true) m ok mok)) (KK [] []) 4000 38 (dPn 4 3 0 1).args (dPn 4 3 0 1).pre = endR (dPn 4 3 0 1) := by kernel_rfl
theorem pf_4_3_0_0 (σ gt gw val gf m ok mok) : @runS (SX σ gt gw val gf (tabF 3 0 false) m ok mok) Tryz.prog (@GT (SX σ gt gw val gf (tabF 3 0 false) m ok mok)) (KK [] []) 4000 38 (dPn 4 3 0 0).args (dPn 4 3 0 0).pre = endR (dPn 4 3 0 0) := by kernel_rfl
theorem pf_4_3_1_1 (σ gt gw val gf m ok mok) : @runS (SX σ gt gw val gf (tabF 3 1 true) m ok mok) Tryz.prog (@GT (SX σ gt gw val gf (tabF 3 1 true) m ok mok)) (KK [] []) 4000 38 (dPn 4 3 1 1).args (dPn 4 3 1 1).pre = endR (dPn 4 3 1 1) := by kernel_rfl
theorem pf_4_3_1_0 (σ gt gw val gf m ok mok) : @runS (SX σ gt gw val gf (tabF 3 1 false) m ok mok) Tryz.prog (@GT (SX σ gt gw val gf (tabF 3 1 false) m ok mok)) (KK [] []) 4000 38 (dPn 4 3 1 0).args (dPn 4 3 1 0).pre = endR (dPn 4 3 1 0) := by kernel_rfl
theorem pf_4_3_2_1 (σ gt gw val gf m ok mok) : @runS (SX σ gt gw val gf (tabF 3 2 true) m ok mok) Tryz.prog (@GT (SX σ gt gw val gf (tabF 3 2 true) m ok mok)) (KK [] []) 4000 38 (dPn 4 3 2 1).args (dPn 4 3 2 1).pre = endR (dPn 4 3 2 1) := by kernel_rfl
theorem pf_4_3_2_0 (σ gt gw val gf m ok mok) : @runS (SX σ gt gw val gf (tabF 3 2 false) m ok mok) Tryz.prog (@GT (SX σ gt gw val gf (tabF 3 2 false) m ok mok)) (KK [] []) 4000 38 (dPn 4 3 2 0).args (dPn 4 3 2 0).pre = endR (dPn 4 3 2 0) := by kernel_rfl
theorem pf_4_3_3_1 (σ gt gw val gf m ok mok) : @runS (SX σ gt gw val gf (tabF 3 3 true) m ok mok) Tryz.prog (@GT (SX σ gt gw val gf (tabF 3 3 true) m ok mok)) (KK [] []) 4000 38 (dPn 4 3 3 1).args (dPn 4 3 3 1).pre = endR (dPn 4 3 3 1) := by kernel_rfl
theorem pf_5_0_0_1 (σ gt gw val gf m ok mok) : @runS (SX σ gt gw val gf (tabF 0 0 true) m ok mok) Tryz.prog (@GT (SX σ gt gw val gf (tabF 0 0 true) m ok mok)) (KK [] []) 4000 38 (dPn 5 0 0 1).args (dPn 5 0 0 1).pre = endR (dPn 5 0 0 1) := by kernel_rfl
theorem pf_5_0_1_1 (σ gt gw val gf m ok mok) : @runS (SX σ gt gw val gf (tabF 0 1 true) m ok mok) Tryz.prog (@GT (SX σ gt gw val gf (tabF 0 1 true) m ok mok)) (KK [] []) 4000 38 (dPn 5 0 1 1).args (dPn 5 0 1 1).pre = endR (dPn 5 0 1 1) := by kernel_rfl
theorem pf_5_0_1_0 (σ gt gw val gf m ok mok) : @runS (SX σ gt gw val gf (tabF 0 1 false) m ok mok) Tryz.prog (@GT (SX σ gt gw val gf (tabF 0 1 false) m ok mok)) (KK [] []) 4000 38 (dPn 5 0 1 0).args (dPn 5 0 1 0).pre = endR (dPn 5 0 1 0) := by kernel_rfl
theorem pf_5_0_2_1 (σ gt gw val gf m ok mok) : @runS (SX σ gt gw val gf (tabF 0 2 true) m ok mok) Tryz.prog (@GT (SX σ gt gw val gf (tabF 0 2 true) m ok mok)) (KK [] []) 4000 38 (dPn 5 0 2 1).args (dPn 5 0 2 1).pre = endR (dPn 5 0 2 1) := by kernel_rfl
theorem pf_5_0_2_0 (σ gt gw val gf m ok mok) : @runS (SX σ gt gw val gf (tabF 0 2 false) m ok mok) Tryz.prog (@GT (SX σ gt gw val gf (tabF 0 2 false) m ok mok)) (KK [] []) 4000 38 (dPn 5 0 2 0).args (dPn 5 0 2 0).pre = endR (dPn 5 0 2 0) := by kernel_rfl
theorem pf_5_0_3_1 (σ gt gw val gf m ok mok) : @runS (SX σ gt gw val gf (tabF 0 3 true) m ok mok) Tryz.prog (@GT (SX σ gt gw val gf (tabF 0 3 true) m ok mok)) (KK [] []) 4000 38 (dPn 5 0 3 1).args (dPn 5 0 3 1).pre = endR (dPn 5 0 3 1) := by kernel_rfl
theorem pf_5_0_3_0 (σ gt gw val gf m ok mok) : @runS (SX σ gt gw val gf (tabF 0 3 false) m ok mok) Tryz.prog (@GT (SX σ gt gw val gf (tabF 0 3 false) m ok mok)) (KK [] []) 4000 38 (dPn 5 0 3 0).args (dPn 5 0 3 0).pre = endR (dPn 5 0 3 0) := by kernel_rfl
theorem pf_5_0_4_1 (σ gt gw val gf m ok mok) : @runS (SX σ gt gw val gf (tabF 0 4 true) m ok mok) Tryz.prog (@GT (SX σ gt gw val gf (tabF 0 4 true) m ok mok)) (KK [] []) 4000 38 (dPn 5 0 4 1).args (dPn 5 0 4 1).pre = endR (dPn 5 0 4 1) := by kernel_rfl
theorem pf_5_0_4_0 (σ gt gw val gf m ok mok) : @runS (SX σ gt gw val gf (tabF 0 4 false) m ok mok) Tryz.prog (@GT (SX σ gt gw val gf (tabF 0 4 false) m ok mok)) (KK [] []) 4000 38 (dPn 5 0 4 0).args (dPn 5 0 4 0).pre = endR (dPn 5 0 4 0) := by kernel_rfl
theorem pf_5_1_0_1 (σ gt gw val gf m ok mok) : @runS (SX σ gt gw val gf (tabF 1 0 true) m ok mok) Tryz.prog (@GT (SX σ gt gw val gf (tabF 1 0 true) m ok mok)) (KK [] []) 4000 38 (dPn 5 1 0 1).args (dPn 5 1 0 1).pre = endR (dPn 5 1 0 1) := by kernel_rfl
theorem pf_5_1_0_0 (σ gt gw val gf m ok mok) : @runS (SX σ gt gw val gf (tabF 1 0 false) m ok mok) Tryz.prog (@GT (SX σ gt gw val gf (tabF 1 0 false) m ok mok)) (KK [] []) 4000 38 (dPn 5 1 0 0).args (dPn 5 1 0 0).pre = endR (dPn 5 1 0 0) := by kernel_rfl
theorem pf_5_1_1_1 (σ gt gw val gf m ok mok) : @runS (SX σ gt gw val gf (tabF 1 1 true) m ok mok) Tryz.prog (@GT (SX σ gt gw val gf (tabF 1 1 true) m ok mok)) (KK [] []) 4000 38 (dPn 5 1 1 1).args (dPn 5 1 1 1).pre = endR (dPn 5 1 1 1) := by kernel_rfl
theorem pf_5_1_2_1 (σ gt gw val gf m ok mok) : @runS (SX σ gt gw val gf (tabF 1 2 true) m ok mok) Tryz.prog (@GT (SX σ gt gw val gf (tabF 1 2 true) m ok mok)) (KK [] []) 4000 38 (dPn 5 1 2 1).args (dPn 5 1 2 1).pre = endR (dPn 5 1 2 1) := by kernel_rfl
theorem pf_5_1_2_0 (σ gt gw val gf m ok mok) : @runS (SX σ gt gw val gf (tabF 1 2 false) m ok mok) Tryz.prog (@GT (SX σ gt gw val gf (tabF 1 2 false) m ok mok)) (KK [] []) 4000 38 (dPn 5 1 2 0).args (dPn 5 1 2 0).pre = endR (dPn 5 1 2 0) := by kernel_rfl
theorem pf_5_1_3_1 (σ gt gw val gf m ok mok) : @runS (SX σ gt gw val gf (tabF 1 3 true) m ok mok) Tryz.prog (@GT (SX σ gt gw val gf (tabF 1 3 true) m ok mok)) (KK [] []) 4000 38 (dPn 5 1 3 1).args (dPn 5 1 3 1).pre = endR (dPn 5 1 3 1) := by kernel_rfl
theorem pf_5_1_3_0 (σ gt gw val gf m ok mok) : @runS (SX σ gt gw val gf (tabF 1 3 false) m ok mok) Tryz.prog (@GT (SX σ gt gw val gf (tabF 1 3 false) m ok mok)) (KK [] []) 4000 38 (dPn 5 1 3 0).args (dPn 5 1 3 0).pre = endR (dPn 5 1 3 0) := by kernel_rfl
theorem pf_5_1_4_1 (σ gt gw val gf m ok mok) : @runS (SX σ gt gw val gf (tabF 1 4 true) m ok mok) Tryz.prog (@GT (SX σ gt gw val gf (tabF 1 4 true) m ok mok)) (KK [] []) 4000 38 (dPn 5 1 4 1).args (dPn 5 1 4 1).pre = endR (dPn 5 1 4 1) := by kernel_rfl
theorem pf_5_1_4_0 (σ gt gw val gf m ok mok) : @runS (SX σ gt gw val gf (tabF 1 4 false) m ok mok) Tryz.prog (@GT (SX σ gt gw val gf (tabF 1 4 false) m ok mok)) (KK [] []) 4000 38 (dPn 5 1 4 0).args (dPn 5 1 4 0).pre = endR (dPn 5 1 4 0) := by kernel_rfl
theorem pf_5_2_0_1 (σ gt gw val gf m ok mok) : @runS (SX σ gt gw val gf (tabF 2 0 true) m ok mok) Tryz.prog (@GT (SX σ gt gw val gf (tabF 2 0 true) m ok mok)) (KK [] []) 4000 38 (dPn 5 2 0 1).args (dPn 5 2 0 1).pre = endR (dPn 5 2 0 1) := by kernel_rfl
theorem pf_5_2_0_0 (σ gt gw val gf m ok mok) : @runS (SX σ gt gw val gf (tabF 2 0 false) m ok mok) Tryz.prog (@GT (SX σ gt gw val gf (tabF 2 0 false) m ok mok)) (KK [] []) 4000 38 (dPn 5 2 0 0).args (dPn 5 2 0 0).pre = endR (dPn 5 2 0 0) := by kernel_rfl
theorem pf_5_2_1_1 (σ gt gw val gf m ok mok) : @runS (SX σ gt gw val gf (tabF 2 1 true) m ok mok) Tryz.prog (@GT (SX σ gt gw val gf (tabF 2 1 true) m ok mok)) (KK [] []) 4000 38 (dPn 5 2 1 1).args (dPn 5 2 1 1).pre = endR (dPn 5 2 1 1) := by kernel_rfl
theorem pf_5_2_1_0 (σ gt gw val gf m ok mok) : @runS (SX σ gt gw val gf (tabF 2 1 false) m ok mok) Tryz.prog (@GT (SX σ gt gw val gf (tabF 2 1 false) m ok mok)) (KK [] []) 4000 38 (dPn 5 2 1 0).args (dPn 5 2 1 0).pre = endR (dPn 5 2 1 0) := by kernel_rfl
theorem pf_5_2_2_1 (σ gt gw val gf m ok mok) : @runS (SX σ gt gw val gf (tabF 2 2 true) m ok mok) Tryz.prog (@GT (SX σ gt gw val gf (tabF 2 2 true) m ok mok)) (KK [] []) 4000 38 (dPn 5 2 2 1).args (dPn 5 2 2 1).pre = endR (dPn 5 2 2 1) := by kernel_rfl
theorem pf_5_2_3_1 (σ gt gw val gf m ok mok) : @runS (SX σ gt gw val gf (tabF 2 3 true) m ok mok) Tryz.prog (@GT (SX σ gt gw val gf (tabF 2 3 true) m ok mok)) (KK [] []) 4000 38 (dPn 5 2 3 1).args (dPn 5 2 3 1).pre = endR (dPn 5 2 3 1) := by kernel_rfl
theorem pf_5_2_3_0 (σ gt gw val gf m ok mok) : @runS (SX σ gt gw val gf (tabF 2 3 false) m ok mok) Tryz.prog (@GT (SX σ gt gw val gf (tabF 2 3 false) m ok mok)) (KK [] []) 4000 38 (dPn 5 2 3 0).args (dPn 5 2 3 0).pre = endR (dPn 5 2 3 0) := by kernel_rfl
theorem pf_5_2_4_1 (σ gt gw val gf m ok mok) : @runS (SX σ gt gw val gf (tabF 2 4 true) m ok mok) Tryz.prog (@GT (SX σ gt gw val gf (tabF 2 4 true) m ok mok)) (KK [] []) 4000 38 (dPn 5 2 4 1).args (dPn 5 2 4 1).pre = endR (dPn 5 2 4 1) := by kernel_rfl
theorem pf_5_2_4_0 (σ gt gw val gf m ok mok) : @runS (SX σ gt gw val gf (tabF 2 4 false) m ok mok) Tryz.prog (@GT (SX σ gt gw val gf (tabF 2 4 false) m ok mok)) (KK [] []) 4000 38 (dPn 5 2 4 0).args (dPn 5 2 4 0).pre = endR (dPn 5 2 4 0) := by kernel_rfl
theorem pf_5_3_0_1 (σ gt gw val gf m ok mok) : @runS (SX σ gt gw val gf (tabF 3 0 true) m ok mok) Tryz.prog (@GT (SX σ gt gw val gf (tabF 3 0 true) m ok mok)) (KK [] []) 4000 38 (dPn 5 3 0 1).args (dPn 5 3 0 1).pre = endR (dPn 5 3 0 1) := by kernel_rfl
theorem pf_5_3_0_0 (σ gt gw val gf m ok mok) : @runS (SX σ gt gw val gf (tabF 3 0 false) m ok mok) Tryz.prog (@GT (SX σ gt gw val gf (tabF 3 0 false) m ok mok)) (KK [] []) 4000 38 (dPn 5 3 0 0).args (dPn 5 3 0 0).pre = endR (dPn 5 3 0 0) := by kernel_rfl
theorem pf_5_3_1_1 (σ gt gw val gf m ok mok) : @runS (SX σ gt gw val gf (tabF 3 1 true) m ok mok) Tryz.prog (@GT (SX σ gt gw val gf (tabF 3 1 true) m ok mok)) (KK [] []) 4000 38 (dPn 5 3 1 1).args (dPn 5 3 1 1).pre = endR (dPn 5 3 1 1) := by kernel_rfl
theorem pf_5_3_1_0 (σ gt gw val gf m ok mok) : @runS (SX σ gt gw val gf (tabF 3 1 false) m ok mok) Tryz.prog (@GT (SX σ gt gw val gf (tabF 3 1 false) m ok mok)) (KK [] []) 4000 38 (dPn 5 3 1 0).args (dPn 5 3 1 0).pre = endR (dPn 5 3 1 0) := by kernel_rfl
theorem pf_5_3_2_1 (σ gt gw val gf m ok mok) : @runS (SX σ gt gw val gf (tabF 3 2 true) m ok mok) Tryz.prog (@GT (SX σ gt gw val gf (tabF 3 2 true) m ok mok)) (KK [] []) 4000 38 (dPn 5 3 2 1).args (dPn 5 3 2 1).pre = endR (dPn 5 3 2 1) := by kernel_rfl
theorem pf_5_3_2_0 (σ gt gw val gf m ok mok) : @runS (SX σ gt gw val gf (tabF 3 2 false) m ok mok) Tryz.prog (@GT (SX σ gt gw val gf (tabF 3 2 false) m ok mok)) (KK [] []) 4000 38 (dPn 5 3 2 0).args (dPn 5 3 2 0).pre = endR (dPn 5 3 2 0) := by kernel_rfl
theorem pf_5_3_3_1 (σ gt gw val gf m ok mok) : @runS (SX σ gt gw val gf (tabF 3 3 true) m ok mok) Tryz.prog (@GT (SX σ gt gw val gf (tabF 3 3 true) m ok mok)) (KK [] []) 4000 38 (dPn 5 3 3 1).args (dPn 5 3 3 1).pre = endR (dPn 5 3 3 1) := by kernel_rfl
theorem pf_5_3_4_1 (σ gt gw val gf m ok mok) : @runS (SX σ gt gw val gf (tabF 3 4 true) m ok mok) Tryz.prog (@GT (SX σ gt gw val gf (tabF 3 4 true) m ok mok)) (KK [] []) 4000 38 (dPn 5 3 4 1).args (dPn 5 3 4 1).pre = endR (dPn 5 3 4 1) := by kernel_rfl
theorem pf_5_3_4_0 (σ gt gw val gf m ok mok) : @runS (SX σ gt gw val gf (tabF 3 4 false) m ok mok) Tryz.prog (@GT (SX σ gt gw val gf (tabF 3 4 false) m ok mok)) (KK [] []) 4000 38 (dPn 5 3 4 0).args (dPn 5 3 4 0).pre = endR (dPn 5 3 4 0) := by kernel_rfl
theorem pf_5_4_0_1 (σ gt gw val gf m ok mok) : @runS (SX σ gt gw val gf (tabF 4 0 true) m ok mok) Tryz.prog (@GT (SX σ gt gw val gf (tabF 4 0 true) m ok mok)) (KK [] []) 4000 38 (dPn 5 4 0 1).args (dPn 5 4 0 1).pre = endR (dPn 5 4 0 1) := by kernel_rfl
theorem pf_5_4_0_0 (σ gt gw val gf m ok mok) : @runS (SX σ gt gw val gf (tabF 4 0 false) m ok mok) Tryz.prog (@GT (SX σ gt gw val gf (tabF 4 0 false) m ok mok)) (KK [] []) 4000 38 (dPn 5 4 0 0).args (dPn 5 4 0 0).pre = endR (dPn 5 4 0 0) := by kernel_rfl
theorem pf_5_4_1_1 (σ gt gw val gf m ok mok) : @runS (SX σ gt gw val gf (tabF 4 1 true) m ok mok) Tryz.prog (@GT (SX σ gt gw val gf (tabF 4 1 true) m ok mok)) (KK [] []) 4000 38 (dPn 5 4 1 1).args (dPn 5 4 1 1).pre = endR (dPn 5 4 1 1) := by kernel_rfl
theorem pf_5_4_1_0 (σ gt gw val gf m ok mok) : @runS (SX σ gt gw val gf (tabF 4 1 false) m ok mok) Tryz.prog (@GT (SX σ gt gw val gf (tabF 4 1 false) m ok mok)) (KK [] []) 4000 38 (dPn 5 4 1 0).args (dPn 5 4 1 0).pre = endR (dPn 5 4 1 0) := by kernel_rfl
theorem pf_5_4_2_1 (σ gt gw val gf m ok mok) : @runS (SX σ gt gw val gf (tabF 4 2 true) m ok mok) Tryz.prog (@GT (SX σ gt gw val gf (tabF 4 2 true) m ok mok)) (KK [] []) 4000 38 (dPn 5 4 2 1).args (dPn 5 4 2 1).pre = endR (dPn 5 4 2 1) := by kernel_rfl
theorem pf_5_4_2_0 (σ gt gw val gf m ok mok) : @runS (SX σ gt gw val gf (tabF 4 2 false) m ok mok) Tryz.prog (@GT (SX σ gt gw val gf (tabF 4 2 false) m ok mok)) (KK [] []) 4000 38 (dPn 5 4 2 0).args (dPn 5 4 2 0).pre = endR (dPn 5 4 2 0) := by kernel_rfl
theorem pf_5_4_3_1 (σ gt gw val gf m ok mok) : @runS (SX σ gt gw val gf (tabF 4 3 true) m ok mok) Tryz.prog (@GT (SX σ gt gw val gf (tabF 4 3 true) m ok mok)) (KK [] []) 4000 38 (dPn 5 4 3 1).args (dPn 5 4 3 1).pre = endR (dPn 5 4 3 1) := by kernel_rfl
theorem pf_5_4_3_0 (σ gt gw val gf m ok mok) : @runS (SX σ gt gw val gf (tabF 4 3 false) m ok mok) Tryz.prog (@GT (SX σ gt gw val gf (tabF 4 3 false) m ok mok)) (KK [] []) 4000 38 (dPn 5 4 3 0).args (dPn 5 4 3 0).pre = endR (dPn 5 4 3 0) := by kernel_rfl
theorem pf_5_4_4_1 (σ gt gw val gf m ok mok) : @runS (SX σ gt gw val gf (tabF 4 4 true) m ok mok) Tryz.prog (@GT (SX σ gt gw val gf (tabF 4 4 true) m ok mok)) (KK [] []) 4000 38 (dPn 5 4 4 1).args (dPn 5 4 4 1).pre = endR (dPn 5 4 4 1) := by kernel_rfl
theorem pref_go {n i k : Nat} (S' : Sig) (h1 : 1 ≤ S'.σ (1000 + 10 * i + i) ∧ S'.σ (1000 + 10 * i + i) ≤ 20) (h2 : S'.σ (1000 + 10 * i + i) ≤ S'.σ (1000 + 10 * i + k) ∧ S'.σ (1000 + 10 * i + k) ≤ 20) (hf : S'.σ (2000 + 10 * i + k) = PV i k S'.σ) (hpre : (stBl [(mk n, 60)]).isSome = true)
    (ht : ∀ (gt gw val gf m ok mok), @runS (SX S'.σ gt gw val gf (tabF i k true) m ok mok) Tryz.prog (@GT (SX S'.σ gt gw val gf (tabF i k true) m ok mok)) (KK [] []) 4000 38 (dPn n i k 1).args (dPn n i k 1).pre = endR (dPn n i k 1))
    (hff : i ≠ k → ∀ (gt gw val gf m ok mok), @runS (SX S'.σ gt gw val gf (tabF i k false) m ok mok) Tryz.prog (@GT (SX S'.σ gt gw val gf (tabF i k false) m ok mok)) (KK [] []) 4000 38 (dPn n i k 0).args (dPn n i k 0).pre = endR (dPn n i k 0)) : @SOK S' (dPf n i k) := by
  have key : ∀ (b : Nat) (hb : S'.σ (2000 + 10 * i + k) = (b : Int)), @SOK S' (dPn n i k b) → @SOK S' (dPf n i k) := fun b hb h =>
    SOK.words2 h rfl (fun _ _ h => h) (Imp.refl _) (w_num (a := (b : Int)) rfl (congrArg some hb)) (Imp.refl _) hpre hpre
  have he : ∀ b, (@endR (dPn n i k b)).isSome = true := fun b => by
    obtain ⟨s, hs⟩ := Option.isSome_iff_exists.1 hpre
    show (match stBl [(mk n, 60)] with | some s => some ((dPn n i k b).v, s) | none => none).isSome = true
    rw [hs]
    rfl
  by_cases hc : S'.σ (1000 + 10 * i + k) = S'.σ (1000 + 10 * i + i)
  · refine key 1 (by rw [hf, PV, if_pos hc]; rfl) ?_
    have ok := tabF_ok (σ := S'.σ) (i := i) (k := k) rfl rfl h1 h2 (b := true) (by simpa using hc)
    refine SOK_same (S' := S') (t := dPn n i k 1) (T := SX S'.σ S'.gt S'.gw S'.val S'.gf (tabF i k true) [] ok mo0) ⟨fun _ => rfl, fun _ => rfl, rfl, rfl, rfl⟩ ?_ hpre
    letI : Sig := SX S'.σ S'.gt S'.gw S'.val S'.gf (tabF i k true) [] ok mo0
    exact sr (l := []) (s := []) fn fn (dPn n i k 1) (ht _ _ _ _ [] ok mo0) (he 1) hpre
  · refine key 0 (by rw [hf, PV, if_neg hc]; rfl) ?_
    have ok := tabF_ok (σ := S'.σ) (i := i) (k := k) rfl rfl h1 h2 (b := false) (by simpa using hc)
    refine SOK_same (S' := S') (t := dPn n i k 0) (T := SX S'.σ S'.gt S'.gw S'.val S'.gf (tabF i k false) [] ok mo0) ⟨fun _ => rfl, fun _ => rfl, rfl, rfl, rfl⟩ ?_ hpre
    letI : Sig := SX S'.σ S'.gt S'.gw S'.val S'.gf (tabF i k false) [] ok mo0
    exact sr (l := []) (s := []) fn fn (dPn n i k 0) (hff (fun e => hc (by rw [e])) _ _ _ _ [] ok mo0) (he 0) hpre
/-- All of n observations. -/
theorem pref_all (S' : Sig) {n : Nat} (hn : n ≤ 5) (h1 : ∀ i, i < n → 1 ≤ S'.σ (1000 + 10 * i + i) ∧ S'.σ (1000 + 10 * i + i) ≤ 20) (h2 : ∀ i k, i < n → k < n → S'.σ (1000 + 10 * i + i) ≤ S'.σ (1000 + 10 * i + k) ∧ S'.σ (1000 + 10 * i + k) ≤ 20) (hf : ∀ i k, i < n → k < n → S'.σ (2000 + 10 * i + k) = PV i k S'.σ) : ∀ i k, i < n → k < n → @SOK S' (dPf n i k) := by
  intro i k hi hk
  have H := fun ht hff => pref_go (n := n) (i := i) (k := k) S' (h1 i hi) (h2 i k hi hk) (hf i k hi hk) ?_ ht hff
  · match n, i, k, hn, hi, hk with
    | 1, 0, 0, _, _, _ => exact H (pf_1_0_0_1 _) (fun h => absurd rfl h)
    | 2, 0, 0, _, _, _ => exact H (pf_2_0_0_1 _) (fun h => absurd rfl h)
    | 2, 0, 1, _, _, _ => exact H (pf_2_0_1_1 _) (fun _ => pf_2_0_1_0 _)
    | 2, 1, 0, _, _, _ => exact H (pf_2_1_0_1 _) (fun _ => pf_2_1_0_0 _)
    | 2, 1, 1, _, _, _ => exact H (pf_2_1_1_1 _) (fun h => absurd rfl h)
    | 3, 0, 0, _, _, _ => exact H (pf_3_0_0_1 _) (fun h => absurd rfl h)
    | 3, 0, 1, _, _, _ => exact H (pf_3_0_1_1 _) (fun _ => pf_3_0_1_0 _)
    | 3, 0, 2, _, _, _ => exact H (pf_3_0_2_1 _) (fun _ => pf_3_0_2_0 _)
    | 3, 1, 0, _, _, _ => exact H (pf_3_1_0_1 _) (fun _ => pf_3_1_0_0 _)
    | 3, 1, 1, _, _, _ => exact H (pf_3_1_1_1 _) (fun h => absurd rfl h)
    | 3, 1, 2, _, _, _ => exact H (pf_3_1_2_1 _) (fun _ => pf_3_1_2_0 _)
    | 3, 2, 0, _, _, _ => exact H (pf_3_2_0_1 _) (fun _ => pf_3_2_0_0 _)
    | 3, 2, 1, _, _, _ => exact H (pf_3_2_1_1 _) (fun _ => pf_3_2_1_0 _)
    | 3, 2, 2, _, _, _ => exact H (pf_3_2_2_1 _) (fun h => absurd rfl h)
    | 4, 0, 0, _, _, _ => exact H (pf_4_0_0_1 _) (fun h => absurd rfl h)
    | 4, 0, 1, _, _, _ => exact H (pf_4_0_1_1 _) (fun _ => pf_4_0_1_0 _)
    | 4, 0, 2, _, _, _ => exact H (pf_4_0_2_1 _) (fun _ => pf_4_0_2_0 _)
    | 4, 0, 3, _, _, _ => exact H (pf_4_0_3_1 _) (fun _ => pf_4_0_3_0 _)
    | 4, 1, 0, _, _, _ => exact H (pf_4_1_0_1 _) (fun _ => pf_4_1_0_0 _)
    | 4, 1, 1, _, _, _ => exact H (pf_4_1_1_1 _) (fun h => absurd rfl h)
    | 4, 1, 2, _, _, _ => exact H (pf_4_1_2_1 _) (fun _ => pf_4_1_2_0 _)
    | 4, 1, 3, _, _, _ => exact H (pf_4_1_3_1 _) (fun _ => pf_4_1_3_0 _)
    | 4, 2, 0, _, _, _ => exact H (pf_4_2_0_1 _) (fun _ => pf_4_2_0_0 _)
    | 4, 2, 1, _, _, _ => exact H (pf_4_2_1_1 _) (fun _ => pf_4_2_1_0 _)
    | 4, 2, 2, _, _, _ => exact H (pf_4_2_2_1 _) (fun h => absurd rfl h)
    | 4, 2, 3, _, _, _ => exact H (pf_4_2_3_1 _) (fun _ => pf_4_2_3_0 _)
    | 4, 3, 0, _, _, _ => exact H (pf_4_3_0_1 _) (fun _ => pf_4_3_0_0 _)
    | 4, 3, 1, _, _, _ => exact H (pf_4_3_1_1 _) (fun _ => pf_4_3_1_0 _)
    | 4, 3, 2, _, _, _ => exact H (pf_4_3_2_1 _) (fun _ => pf_4_3_2_0 _)
    | 4, 3, 3, _, _, _ => exact H (pf_4_3_3_1 _) (fun h => absurd rfl h)
    | 5, 0, 0, _, _, _ => exact H (pf_5_0_0_1 _) (fun h => absurd rfl h)
    | 5, 0, 1, _, _, _ => exact H (pf_5_0_1_1 _) (fun _ => pf_5_0_1_0 _)
    | 5, 0, 2, _, _, _ => exact H (pf_5_0_2_1 _) (fun _ => pf_5_0_2_0 _)
    | 5, 0, 3, _, _, _ => exact H (pf_5_0_3_1 _) (fun _ => pf_5_0_3_0 _)
    | 5, 0, 4, _, _, _ => exact H (pf_5_0_4_1 _) (fun _ => pf_5_0_4_0 _)
    | 5, 1, 0, _, _, _ => exact H (pf_5_1_0_1 _) (fun _ => pf_5_1_0_0 _)
    | 5, 1, 1, _, _, _ => exact H (pf_5_1_1_1 _) (fun h => absurd rfl h)
    | 5, 1, 2, _, _, _ => exact H (pf_5_1_2_1 _) (fun _ => pf_5_1_2_0 _)
    | 5, 1, 3, _, _, _ => exact H (pf_5_1_3_1 _) (fun _ => pf_5_1_3_0 _)
    | 5, 1, 4, _, _, _ => exact H (pf_5_1_4_1 _) (fun _ => pf_5_1_4_0 _)
    | 5, 2, 0, _, _, _ => exact H (pf_5_2_0_1 _) (fun _ => pf_5_2_0_0 _)
    | 5, 2, 1, _, _, _ => exact H (pf_5_2_1_1 _) (fun _ => pf_5_2_1_0 _)
    | 5, 2, 2, _, _, _ => exact H (pf_5_2_2_1 _) (fun h => absurd rfl h)
    | 5, 2, 3, _, _, _ => exact H (pf_5_2_3_1 _) (fun _ => pf_5_2_3_0 _)
    | 5, 2, 4, _, _, _ => exact H (pf_5_2_4_1 _) (fun _ => pf_5_2_4_0 _)
    | 5, 3, 0, _, _, _ => exact H (pf_5_3_0_1 _) (fun _ => pf_5_3_0_0 _)
    | 5, 3, 1, _, _, _ => exact H (pf_5_3_1_1 _) (fun _ => pf_5_3_1_0 _)
    | 5, 3, 2, _, _, _ => exact H (pf_5_3_2_1 _) (fun _ => pf_5_3_2_0 _)
    | 5, 3, 3, _, _, _ => exact H (pf_5_3_3_1 _) (fun h => absurd rfl h)
    | 5, 3, 4, _, _, _ => exact H (pf_5_3_4_1 _) (fun _ => pf_5_3_4_0 _)
    | 5, 4, 0, _, _, _ => exact H (pf_5_4_0_1 _) (fun _ => pf_5_4_0_0 _)
    | 5, 4, 1, _, _, _ => exact H (pf_5_4_1_1 _) (fun _ => pf_5_4_1_0 _)
    | 5, 4, 2, _, _, _ => exact H (pf_5_4_2_1 _) (fun _ => pf_5_4_2_0 _)
    | 5, 4, 3, _, _, _ => exact H (pf_5_4_3_1 _) (fun _ => pf_5_4_3_0 _)
    | 5, 4, 4, _, _, _ => exact H (pf_5_4_4_1 _) (fun h => absurd rfl h)
    | 0, _, _, _, hi, _ => exact absurd hi (by omega)
    | n + 6, _, _, hn, _, _ => exact absurd hn (by omega)
    | 1, i + 1, _, _, hi, _ => exact absurd hi (by omega)
    | 1, _, k + 1, _, _, hk => exact absurd hk (by omega)
    | 2, i + 2, _, _, hi, _ => exact absurd hi (by omega)
    | 2, _, k + 2, _, _, hk => exact absurd hk (by omega)
    | 3, i + 3, _, _, hi, _ => exact absurd hi (by omega)
    | 3, _, k + 3, _, _, hk => exact absurd hk (by omega)
    | 4, i + 4, _, _, hi, _ => exact absurd hi (by omega)
    | 4, _, k + 4, _, _, hk => exact absurd hk (by omega)
    | 5, i + 5, _, _, hi, _ => exact absurd hi (by omega)
    | 5, _, k + 5, _, _, hk => exact absurd hk (by omega)
  · match n, hn with
    | 0, _ => rfl
    | 1, _ => rfl
    | 2, _ => rfl
    | 3, _ => rfl
    | 4, _ => rfl
    | 5, _ => rfl
    | n + 6, h => exact absurd h (by omega)
end Go.Proofs.YtbadfjogakhhbaaGreatDoor.Re
