/- One observation: are, Max, cost. -/
import Derived.Test.YtbadfjogakhhbaaGreatDoorF29
namespace Go.Proofs.YtbadfjogakhhbaaGreatDoor.Re
open Go Go.RowKit
set_option linter.unusedVariables false
set_option linter.unusedSimpArgs false
set_option linter.unusedSectionVars false
set_option maxRecDepth 100000
def tabP : List Row := [(4, S 0, I 1, O false), (4, S 1, I 1, O false), (4, S 2, I 1, O false), (6, S 0, I 20, O false), (6, S 1, I 20, O false), (6, S 2, I 20, O false),
  (3, S 0, I 1, S 0), (3, S 1, I 1, S 1), (3, S 2, I 1, S 2), (3, S 0, I 0, I 0), (3, S 1, I 0, I 0), (3, S 2, I 0, I 0),
  (1, I 0, S 0, S 0), (1, I 0, S 1, S 1), (1, I 0, S 2, S 2), (1, S 0, I 0, S 0), (1, S 1, I 0, S 1), (1, S 2, I 0, S 2)]
def dAre (lo : Nat) (l : List V) : SFact := ⟨36, [.gs 0 0 3 1, I lo, I 20], [(l, 3)], O true, [(l, 3)]⟩
def dMax (l : List V) : SFact := ⟨59, [.gs 0 0 3 1], [(l, 3)], I 1, [(l, 3)]⟩
def dCost (p b : List V) (c : V) : SFact := ⟨37, [.gs 0 0 3 1, .gs 1 0 3 1], [(p, 3), (b, 3)], c, [(p, 3), (b, 3)]⟩
def unit : Nat → List V
  | 0 => [I 1, I 0, I 0]
  | 1 => [I 0, I 1, I 0]
  | _ => [I 0, I 0, I 1]
theorem areP_run (σ gt gw val gf m ok mok) : @runS (SX σ gt gw val gf tabP m ok mok) Tryz.prog (@GT (SX σ gt gw val gf tabP m ok mok)) (KK [] []) 4000 (dAre 1 [S 0, S 1, S 2]).f (dAre 1 [S 0, S 1, S 2]).args (dAre 1 [S 0, S 1, S 2]).pre = endR (dAre 1 [S 0, S 1, S 2]) := by kernel_rfl
theorem areB_run0 (σ gt gw val gf m ok mok) : @runS (SX σ gt gw val gf tabP m ok mok) Tryz.prog (@GT (SX σ gt gw val gf tabP m ok mok)) (KK [] []) 4000 (dAre 0 (unit 0)).f (dAre 0 (unit 0)).args (dAre 0 (unit 0)).pre = endR (dAre 0 (unit 0)) := by kernel_rfl
theorem maxB_run0 (σ gt gw val gf m ok mok) : @runS (SX σ gt gw val gf tabP m ok mok) Tryz.prog (@GT (SX σ gt gw val gf tabP m ok mok)) (KK [] []) 4000 (dMax (unit 0)).f (dMax (unit 0)).args (dMax (unit 0)).pre = endR (dMax (unit 0)) := by kernel_rfl
theorem cost_run0 (σ gt gw val gf m ok mok) : @runS (SX σ gt gw val gf tabP m ok mok) Tryz.prog (@GT (SX σ gt gw val gf tabP m ok mok)) (KK [] []) 4000 (dCost [S 0, S 1, S 2] (unit 0) (S 0)).f (dCost [S 0, S 1, S 2] (unit 0) (S 0)).args (dCost [S 0, S 1, S 2] (unit 0) (S 0)).pre = endR (dCost [S 0, S 1, S 2] (unit 0) (S 0)) := by kernel_rfl
theorem areB_run1 (σ gt gw val gf m ok mok) : @runS (SX σ gt gw val gf tabP m ok mok) Tryz.prog (@GT (SX σ gt gw val gf tabP m ok mok)) (KK [] []) 4000 (dAre 0 (unit 1)).f (dAre 0 (unit 1)).args (dAre 0 (unit 1)).pre = endR (dAre 0 (unit 1)) := by kernel_rfl
theorem maxB_run1 (σ gt gw val gf m ok mok) : @runS (SX σ gt gw val gf tabP m ok mok) Tryz.prog (@GT (SX σ gt gw val gf tabP m ok mok)) (KK [] []) 4000 (dMax (unit 1)).f (dMax (unit 1)).args (dMax (unit 1)).pre = endR (dMax (unit 1)) := by kernel_rfl
theorem cost_run1 (σ gt gw val gf m ok mok) : @runS (SX σ gt gw val gf tabP m ok mok) Tryz.prog (@GT (SX σ gt gw val gf tabP m ok mok)) (KK [] []) 4000 (dCost [S 0, S 1, S 2] (unit 1) (S 1)).f (dCost [S 0, S 1, S 2] (unit 1) (S 1)).args (dCost [S 0, S 1, S 2] (unit 1) (S 1)).pre = endR (dCost [S 0, S 1, S 2] (unit 1) (S 1)) := by kernel_rfl
theorem areB_run2 (σ gt gw val gf m ok mok) : @runS (SX σ gt gw val gf tabP m ok mok) Tryz.prog (@GT (SX σ gt gw val gf tabP m ok mok)) (KK [] []) 4000 (dAre 0 (unit 2)).f (dAre 0 (unit 2)).args (dAre 0 (unit 2)).pre = endR (dAre 0 (unit 2)) := by kernel_rfl
theorem maxB_run2 (σ gt gw val gf m ok mok) : @runS (SX σ gt gw val gf tabP m ok mok) Tryz.prog (@GT (SX σ gt gw val gf tabP m ok mok)) (KK [] []) 4000 (dMax (unit 2)).f (dMax (unit 2)).args (dMax (unit 2)).pre = endR (dMax (unit 2)) := by kernel_rfl
theorem cost_run2 (σ gt gw val gf m ok mok) : @runS (SX σ gt gw val gf tabP m ok mok) Tryz.prog (@GT (SX σ gt gw val gf tabP m ok mok)) (KK [] []) 4000 (dCost [S 0, S 1, S 2] (unit 2) (S 2)).f (dCost [S 0, S 1, S 2] (unit 2) (S 2)).args (dCost [S 0, S 1, S 2] (unit 2) (S 2)).pre = endR (dCost [S 0, S 1, S 2] (unit 2) (S 2)) := by kernel_rfl
def sgP (p0 p1 p2 : Nat) : Nat → Int
  | 0 => p0
  | 1 => p1
  | 2 => p2
  | _ => 0
theorem tabP_ok {p0 p1 p2 : Nat} (h0 : 1 ≤ p0 ∧ p0 ≤ 20) (h1 : 1 ≤ p1 ∧ p1 ≤ 20) (h2 : 1 ≤ p2 ∧ p2 ≤ 20) : ∀ e ∈ tabP, EOK (sgP p0 p1 p2) e := by
  unfold tabP
  exact ga (e_lss false (a := p0) (b := 1) rfl rfl (by simp <;> omega)) <|
    ga (e_lss false (a := p1) (b := 1) rfl rfl (by simp <;> omega)) <|
    ga (e_lss false (a := p2) (b := 1) rfl rfl (by simp <;> omega)) <|
    ga (e_gtr false (a := p0) (b := 20) rfl rfl (by simp <;> omega)) <|
    ga (e_gtr false (a := p1) (b := 20) rfl rfl (by simp <;> omega)) <|
    ga (e_gtr false (a := p2) (b := 20) rfl rfl (by simp <;> omega)) <|
    ga (e_mul (a := p0) (b := 1) (c := p0) rfl rfl rfl (by omega) (by omega)) <|
    ga (e_mul (a := p1) (b := 1) (c := p1) rfl rfl rfl (by omega) (by omega)) <|
    ga (e_mul (a := p2) (b := 1) (c := p2) rfl rfl rfl (by omega) (by omega)) <|
    ga (e_mul (a := p0) (b := 0) (c := 0) rfl rfl rfl (by omega) (by omega)) <|
    ga (e_mul (a := p1) (b := 0) (c := 0) rfl rfl rfl (by omega) (by omega)) <|
    ga (e_mul (a := p2) (b := 0) (c := 0) rfl rfl rfl (by omega) (by omega)) <|
    ga (e_add (a := 0) (b := p0) (c := p0) rfl rfl rfl (by omega) (by omega)) <|
    ga (e_add (a := 0) (b := p1) (c := p1) rfl rfl rfl (by omega) (by omega)) <|
    ga (e_add (a := 0) (b := p2) (c := p2) rfl rfl rfl (by omega) (by omega)) <|
    ga (e_add (a := p0) (b := 0) (c := p0) rfl rfl rfl (by omega) (by omega)) <|
    ga (e_add (a := p1) (b := 0) (c := p1) rfl rfl rfl (by omega) (by omega)) <|
    ga (e_add (a := p2) (b := 0) (c := p2) rfl rfl rfl (by omega) (by omega)) gn
/-- The bundle's numbers. -/
def UN (at_ : Nat) (x y z : Int) : Prop := match at_ with
  | 0 => x = 1 ∧ y = 0 ∧ z = 0
  | 1 => x = 0 ∧ y = 1 ∧ z = 0
  | _ => x = 0 ∧ y = 0 ∧ z = 1
def pAtN (p0 p1 p2 : Nat) : Nat → Nat
  | 0 => p0
  | 1 => p1
  | _ => p2
section
variable {S' T : Sig}
theorem unit_x {at_ a b c : Nat} (h : UN at_ (S'.σ a) (S'.σ b) (S'.σ c)) : ∀ E us, @VRs S' E [S a, S b, S c] us → @VRs T E (unit at_) us := by
  match at_, h with
  | 0, h => exact x_cons (x_num (congrArg some h.1) rfl) (x_cons (x_num (congrArg some h.2.1) rfl) (x_cons (x_num (congrArg some h.2.2) rfl) x_nil))
  | 1, h => exact x_cons (x_num (congrArg some h.1) rfl) (x_cons (x_num (congrArg some h.2.1) rfl) (x_cons (x_num (congrArg some h.2.2) rfl) x_nil))
  | k + 2, h => exact x_cons (x_num (congrArg some h.1) rfl) (x_cons (x_num (congrArg some h.2.1) rfl) (x_cons (x_num (congrArg some h.2.2) rfl) x_nil))
theorem unit_y {at_ a b c : Nat} (h : UN at_ (S'.σ a) (S'.σ b) (S'.σ c)) : ∀ E us, @VRs T E (unit at_) us → @VRs S' E [S a, S b, S c] us := by
  match at_, h with
  | 0, h => exact x_cons (x_num rfl (congrArg some h.1)) (x_cons (x_num rfl (congrArg some h.2.1)) (x_cons (x_num rfl (congrArg some h.2.2)) x_nil))
  | 1, h => exact x_cons (x_num rfl (congrArg some h.1)) (x_cons (x_num rfl (congrArg some h.2.1)) (x_cons (x_num rfl (congrArg some h.2.2)) x_nil))
  | k + 2, h => exact x_cons (x_num rfl (congrArg some h.1)) (x_cons (x_num rfl (congrArg some h.2.1)) (x_cons (x_num rfl (congrArg some h.2.2)) x_nil))
theorem syms_x {a b c a' b' c' : Nat} (h0 : S'.σ a = T.σ a') (h1 : S'.σ b = T.σ b') (h2 : S'.σ c = T.σ c') : ∀ E us, @VRs S' E [S a, S b, S c] us → @VRs T E [S a', S b', S c'] us :=
  x_cons (x_num (a := T.σ a') (congrArg some h0) rfl) (x_cons (x_num (a := T.σ b') (congrArg some h1) rfl) (x_cons (x_num (a := T.σ c') (congrArg some h2) rfl) x_nil))
end
theorem mo0 {gf : Nat → Option Obj} {σ : Nat → Int} {val : Nat → Value} : ∀ e ∈ ([] : List Row), MO σ val gf e := gn
section
variable (S' : Sig) {p0 p1 p2 : Nat} (h0 : 1 ≤ p0 ∧ p0 ≤ 20) (h1 : 1 ≤ p1 ∧ p1 ≤ 20) (h2 : 1 ≤ p2 ∧ p2 ≤ 20)
include h0 h1 h2
theorem areP_fact {a b c : Nat} (g0 : S'.σ a = p0) (g1 : S'.σ b = p1) (g2 : S'.σ c = p2) : @SOK S' (dAre 1 [S a, S b, S c]) := by
  have ok := tabP_ok h0 h1 h2
  letI : Sig := SX (sgP p0 p1 p2) S'.gt S'.gw (fun _ => undef) S'.gf tabP [] ok mo0
  have hf := sr (l := []) (s := []) fn fn (dAre 1 [S 0, S 1, S 2]) (areP_run _ _ _ _ _ [] ok mo0) rfl rfl
  exact SOK_x (T := SX (sgP p0 p1 p2) S'.gt S'.gw (fun _ => undef) S'.gf tabP [] ok mo0) ⟨rfl, rfl, rfl⟩ hf rfl (fun _ _ h => h) (.cons (syms_x g0 g1 g2) .nil) (fun _ _ h => h) (.cons (syms_x g0.symm g1.symm g2.symm) .nil) rfl rfl
theorem areB_fact {at_ a b c : Nat} (hu : UN at_ (S'.σ a) (S'.σ b) (S'.σ c)) : @SOK S' (dAre 0 [S a, S b, S c]) := by
  have ok := tabP_ok h0 h1 h2
  letI : Sig := SX (sgP p0 p1 p2) S'.gt S'.gw (fun _ => undef) S'.gf tabP [] ok mo0
  have hf : SOK (dAre 0 (unit at_)) := by
    match at_ with
    | 0 => exact sr (l := []) (s := []) fn fn (dAre 0 (unit 0)) (areB_run0 _ _ _ _ _ [] ok mo0) rfl rfl
    | 1 => exact sr (l := []) (s := []) fn fn (dAre 0 (unit 1)) (areB_run1 _ _ _ _ _ [] ok mo0) rfl rfl
    | k + 2 => exact sr (l := []) (s := []) fn fn (dAre 0 (unit 2)) (areB_run2 _ _ _ _ _ [] ok mo0) rfl rfl
  exact SOK_x (T := SX (sgP p0 p1 p2) S'.gt S'.gw (fun _ => undef) S'.gf tabP [] ok mo0) ⟨rfl, rfl, rfl⟩ hf rfl (fun _ _ h => h) (.cons (unit_x hu) .nil) (fun _ _ h => h) (.cons (unit_y hu) .nil) rfl rfl
theorem maxB_fact {at_ a b c : Nat} (hu : UN at_ (S'.σ a) (S'.σ b) (S'.σ c)) : @SOK S' (dMax [S a, S b, S c]) := by
  have ok := tabP_ok h0 h1 h2
  letI : Sig := SX (sgP p0 p1 p2) S'.gt S'.gw (fun _ => undef) S'.gf tabP [] ok mo0
  have hf : SOK (dMax (unit at_)) := by
    match at_ with
    | 0 => exact sr (l := []) (s := []) fn fn (dMax (unit 0)) (maxB_run0 _ _ _ _ _ [] ok mo0) rfl rfl
    | 1 => exact sr (l := []) (s := []) fn fn (dMax (unit 1)) (maxB_run1 _ _ _ _ _ [] ok mo0) rfl rfl
    | k + 2 => exact sr (l := []) (s := []) fn fn (dMax (unit 2)) (maxB_run2 _ _ _ _ _ [] ok mo0) rfl rfl
  exact SOK_x (T := SX (sgP p0 p1 p2) S'.gt S'.gw (fun _ => undef) S'.gf tabP [] ok mo0) ⟨rfl, rfl, rfl⟩ hf rfl (fun _ _ h => h) (.cons (unit_x hu) .nil) (fun _ _ h => h) (.cons (unit_y hu) .nil) rfl rfl
theorem cost_fact {at_ a b c x y z e : Nat} (g0 : S'.σ a = p0) (g1 : S'.σ b = p1) (g2 : S'.σ c = p2) (hu : UN at_ (S'.σ x) (S'.σ y) (S'.σ z)) (he : S'.σ e = pAtN p0 p1 p2 at_) : @SOK S' (dCost [S a, S b, S c] [S x, S y, S z] (S e)) := by
  have ok := tabP_ok h0 h1 h2
  letI : Sig := SX (sgP p0 p1 p2) S'.gt S'.gw (fun _ => undef) S'.gf tabP [] ok mo0
  match at_, hu, he with
  | 0, hu, he =>
    have hf := sr (l := []) (s := []) fn fn (dCost [S 0, S 1, S 2] (unit 0) (S 0)) (cost_run0 _ _ _ _ _ [] ok mo0) rfl rfl
    exact SOK_x (T := SX (sgP p0 p1 p2) S'.gt S'.gw (fun _ => undef) S'.gf tabP [] ok mo0) ⟨rfl, rfl, rfl⟩ hf rfl (fun _ _ h => h) (.cons (syms_x g0 g1 g2) (.cons (unit_x (at_ := 0) hu) .nil)) (x_num (a := p0) rfl (congrArg some he)) (.cons (syms_x g0.symm g1.symm g2.symm) (.cons (unit_y (at_ := 0) hu) .nil)) rfl rfl
  | 1, hu, he =>
    have hf := sr (l := []) (s := []) fn fn (dCost [S 0, S 1, S 2] (unit 1) (S 1)) (cost_run1 _ _ _ _ _ [] ok mo0) rfl rfl
    exact SOK_x (T := SX (sgP p0 p1 p2) S'.gt S'.gw (fun _ => undef) S'.gf tabP [] ok mo0) ⟨rfl, rfl, rfl⟩ hf rfl (fun _ _ h => h) (.cons (syms_x g0 g1 g2) (.cons (unit_x (at_ := 1) hu) .nil)) (x_num (a := p1) rfl (congrArg some he)) (.cons (syms_x g0.symm g1.symm g2.symm) (.cons (unit_y (at_ := 1) hu) .nil)) rfl rfl
  | k + 2, hu, he =>
    have hf := sr (l := []) (s := []) fn fn (dCost [S 0, S 1, S 2] (unit 2) (S 2)) (cost_run2 _ _ _ _ _ [] ok mo0) rfl rfl
    exact SOK_x (T := SX (sgP p0 p1 p2) S'.gt S'.gw (fun _ => undef) S'.gf tabP [] ok mo0) ⟨rfl, rfl, rfl⟩ hf rfl (fun _ _ h => h) (.cons (syms_x g0 g1 g2) (.cons (unit_x (at_ := 2) hu) .nil)) (x_num (a := p2) rfl (congrArg some he)) (.cons (syms_x g0.symm g1.symm g2.symm) (.cons (unit_y (at_ := 2) hu) .nil)) rfl rfl
end
end Go.Proofs.YtbadfjogakhhbaaGreatDoor.Re
