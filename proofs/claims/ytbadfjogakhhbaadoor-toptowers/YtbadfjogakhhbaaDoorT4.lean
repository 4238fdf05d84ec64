/- TopTowers: the rounds of its two loops. -/
import Derived.Test.YtbadfjogakhhbaaDoorT3
namespace Go.Proofs.YtbadfjogakhhbaaDoor.Re
open Go Go.RowKit
set_option linter.unusedVariables false
set_option linter.unusedSimpArgs false
set_option maxRecDepth 100000
theorem ra_1_0 {S' : Sig} {A : Nat → List Int} {at_ : Nat → Nat} (h : Tw S'.σ S'.val S'.gf 1 A at_) : ∀ B, @Goes S' Tryd.prog (@GT S') B 0 x1 (frL (l1 1 0 (aL 0))) (stL (l1 1 0 (aL 0))) .nor (frL (l1 1 1 (aL 1))) (stL (l1 1 1 (aL 1))) := by
  have hw := h.w1 (S' := S') rfl (x := 0) (by decide)
  have ha := h.atl 0 (by decide)
  rcases h.mv 0 (by decide) with ⟨q1, q2, q3⟩ | ⟨q1, q2⟩
  · generalize at_ 0 = a at hw ha q3
    match a, ha, hw, q3 with
    | 0, _, hw, q3 => exact round_go (b := l1 1 1 (insL (aL 0) 0 (I 1))) (ga (e_leq true (a := 1) (b := S'.σ 90) rfl rfl (by simpa using q1)) gn) q2 (one_fact (@smF_ok S' 40 0 (I 0) _ (by decide) rfl q3) rfl) rfl rfl rfl rfl rfl (@imp2 S' _ _ hw) (w2_1_1_0 _ _ _ _ _ _ _)
    | k + 1, ha, _, _ => exact absurd ha (by omega)
  · rw [q2] at hw
    exact round_go (b := l1 1 1 (insL (aL 0) 0 (I 1))) (ga (e_leq false (a := 1) (b := S'.σ 90) rfl rfl (by simpa using q1)) gn) h.mem gn rfl rfl rfl rfl rfl (@imp2 S' _ _ hw) (w2_1_1_F _ _ _ _ _ _ _)
theorem rb_1_0 {S' : Sig} {A : Nat → List Int} {at_ : Nat → Nat} (h : Tw S'.σ S'.val S'.gf 1 A at_) : ∀ B, @Goes S' Tryd.prog (@GT S') B 0 x2 (frL (l2 1 0 (fL 0))) (stL (l2 1 0 (fL 0))) .nor (frL (l2 1 1 (fL 1))) (stL (l2 1 1 (fL 1))) := by
  rcases h.fw 0 (by decide) with ⟨q1, q2, q3⟩ | ⟨q1, q2⟩
  · exact round_go (b := l2 1 1 (fL 0 ++ [S 60])) (ga (e_lss true (a := 0) (b := S'.σ 90) rfl rfl (by simpa using q1)) gn) q2 (one_fact (@smF_ok S' 40 2 (S 60) _ (by decide) rfl q3) rfl) rfl rfl rfl rfl rfl (@imp4 S' _ _ _ _ (h.w2 (S' := S') rfl (i := 0) (v := S 60) rfl)) (w6_1_0_T _ _ _ _ _ _ _)
  · exact round_go (b := l2 1 1 (fL 0 ++ [I 0])) (ga (e_lss false (a := 0) (b := S'.σ 90) rfl rfl (by simpa using q1)) gn) h.mem gn rfl rfl rfl rfl rfl (@imp4 S' _ _ _ _ (h.w2 (S' := S') rfl (i := 0) (v := I 0) (by show some 0 = some (S'.σ 60); rw [q2]))) (w6_1_0_F _ _ _ _ _ _ _)
theorem ra_2_0 {S' : Sig} {A : Nat → List Int} {at_ : Nat → Nat} (h : Tw S'.σ S'.val S'.gf 2 A at_) : ∀ B, @Goes S' Tryd.prog (@GT S') B 0 x1 (frL (l1 2 0 (aL 0))) (stL (l1 2 0 (aL 0))) .nor (frL (l1 2 1 (aL 1))) (stL (l1 2 1 (aL 1))) := by
  have hw := h.w1 (S' := S') rfl (x := 0) (by decide)
  have ha := h.atl 0 (by decide)
  rcases h.mv 0 (by decide) with ⟨q1, q2, q3⟩ | ⟨q1, q2⟩
  · generalize at_ 0 = a at hw ha q3
    match a, ha, hw, q3 with
    | 0, _, hw, q3 => exact round_go (b := l1 2 1 (insL (aL 0) 0 (I 1))) (ga (e_leq true (a := 1) (b := S'.σ 90) rfl rfl (by simpa using q1)) gn) q2 (one_fact (@smF_ok S' 40 0 (I 0) _ (by decide) rfl q3) rfl) rfl rfl rfl rfl rfl (@imp2 S' _ _ hw) (w2_2_1_0 _ _ _ _ _ _ _)
    | k + 1, ha, _, _ => exact absurd ha (by omega)
  · rw [q2] at hw
    exact round_go (b := l1 2 1 (insL (aL 0) 0 (I 1))) (ga (e_leq false (a := 1) (b := S'.σ 90) rfl rfl (by simpa using q1)) gn) h.mem gn rfl rfl rfl rfl rfl (@imp2 S' _ _ hw) (w2_2_1_F _ _ _ _ _ _ _)
theorem ra_2_1 {S' : Sig} {A : Nat → List Int} {at_ : Nat → Nat} (h : Tw S'.σ S'.val S'.gf 2 A at_) : ∀ B, @Goes S' Tryd.prog (@GT S') B 0 x1 (frL (l1 2 1 (aL 1))) (stL (l1 2 1 (aL 1))) .nor (frL (l1 2 2 (aL 2))) (stL (l1 2 2 (aL 2))) := by
  have hw := h.w1 (S' := S') rfl (x := 1) (by decide)
  have ha := h.atl 1 (by decide)
  rcases h.mv 1 (by decide) with ⟨q1, q2, q3⟩ | ⟨q1, q2⟩
  · generalize at_ 1 = a at hw ha q3
    match a, ha, hw, q3 with
    | 0, _, hw, q3 => exact round_go (b := l1 2 2 (insL (aL 1) 0 (I 2))) (ga (e_leq true (a := 2) (b := S'.σ 90) rfl rfl (by simpa using q1)) gn) q2 (one_fact (@smF_ok S' 41 1 (I 0) _ (by decide) rfl q3) rfl) rfl rfl rfl rfl rfl (@imp2 S' _ _ hw) (w2_2_2_0 _ _ _ _ _ _ _)
    | 1, _, hw, q3 => exact round_go (b := l1 2 2 (insL (aL 1) 1 (I 2))) (ga (e_leq true (a := 2) (b := S'.σ 90) rfl rfl (by simpa using q1)) gn) q2 (one_fact (@smF_ok S' 41 1 (I 1) _ (by decide) rfl q3) rfl) rfl rfl rfl rfl rfl (@imp2 S' _ _ hw) (w2_2_2_1 _ _ _ _ _ _ _)
    | k + 2, ha, _, _ => exact absurd ha (by omega)
  · rw [q2] at hw
    exact round_go (b := l1 2 2 (insL (aL 1) 1 (I 2))) (ga (e_leq false (a := 2) (b := S'.σ 90) rfl rfl (by simpa using q1)) gn) h.mem gn rfl rfl rfl rfl rfl (@imp2 S' _ _ hw) (w2_2_2_F _ _ _ _ _ _ _)
theorem rb_2_0 {S' : Sig} {A : Nat → List Int} {at_ : Nat → Nat} (h : Tw S'.σ S'.val S'.gf 2 A at_) : ∀ B, @Goes S' Tryd.prog (@GT S') B 0 x2 (frL (l2 2 0 (fL 0))) (stL (l2 2 0 (fL 0))) .nor (frL (l2 2 1 (fL 1))) (stL (l2 2 1 (fL 1))) := by
  rcases h.fw 0 (by decide) with ⟨q1, q2, q3⟩ | ⟨q1, q2⟩
  · exact round_go (b := l2 2 1 (fL 0 ++ [S 60])) (ga (e_lss true (a := 0) (b := S'.σ 90) rfl rfl (by simpa using q1)) gn) q2 (one_fact (@smF_ok S' 40 2 (S 60) _ (by decide) rfl q3) rfl) rfl rfl rfl rfl rfl (@imp4 S' _ _ _ _ (h.w2 (S' := S') rfl (i := 0) (v := S 60) rfl)) (w6_2_0_T _ _ _ _ _ _ _)
  · exact round_go (b := l2 2 1 (fL 0 ++ [I 0])) (ga (e_lss false (a := 0) (b := S'.σ 90) rfl rfl (by simpa using q1)) gn) h.mem gn rfl rfl rfl rfl rfl (@imp4 S' _ _ _ _ (h.w2 (S' := S') rfl (i := 0) (v := I 0) (by show some 0 = some (S'.σ 60); rw [q2]))) (w6_2_0_F _ _ _ _ _ _ _)
theorem rb_2_1 {S' : Sig} {A : Nat → List Int} {at_ : Nat → Nat} (h : Tw S'.σ S'.val S'.gf 2 A at_) : ∀ B, @Goes S' Tryd.prog (@GT S') B 0 x2 (frL (l2 2 1 (fL 1))) (stL (l2 2 1 (fL 1))) .nor (frL (l2 2 2 (fL 2))) (stL (l2 2 2 (fL 2))) := by
  rcases h.fw 1 (by decide) with ⟨q1, q2, q3⟩ | ⟨q1, q2⟩
  · exact round_go (b := l2 2 2 (fL 1 ++ [S 61])) (ga (e_lss true (a := 1) (b := S'.σ 90) rfl rfl (by simpa using q1)) gn) q2 (one_fact (@smF_ok S' 41 2 (S 61) _ (by decide) rfl q3) rfl) rfl rfl rfl rfl rfl (@imp4 S' _ _ _ _ (h.w2 (S' := S') rfl (i := 1) (v := S 61) rfl)) (w6_2_1_T _ _ _ _ _ _ _)
  · exact round_go (b := l2 2 2 (fL 1 ++ [I 0])) (ga (e_lss false (a := 1) (b := S'.σ 90) rfl rfl (by simpa using q1)) gn) h.mem gn rfl rfl rfl rfl rfl (@imp4 S' _ _ _ _ (h.w2 (S' := S') rfl (i := 1) (v := I 0) (by show some 0 = some (S'.σ 61); rw [q2]))) (w6_2_1_F _ _ _ _ _ _ _)
theorem ra_3_0 {S' : Sig} {A : Nat → List Int} {at_ : Nat → Nat} (h : Tw S'.σ S'.val S'.gf 3 A at_) : ∀ B, @Goes S' Tryd.prog (@GT S') B 0 x1 (frL (l1 3 0 (aL 0))) (stL (l1 3 0 (aL 0))) .nor (frL (l1 3 1 (aL 1))) (stL (l1 3 1 (aL 1))) := by
  have hw := h.w1 (S' := S') rfl (x := 0) (by decide)
  have ha := h.atl 0 (by decide)
  rcases h.mv 0 (by decide) with ⟨q1, q2, q3⟩ | ⟨q1, q2⟩
  · generalize at_ 0 = a at hw ha q3
    match a, ha, hw, q3 with
    | 0, _, hw, q3 => exact round_go (b := l1 3 1 (insL (aL 0) 0 (I 1))) (ga (e_leq true (a := 1) (b := S'.σ 90) rfl rfl (by simpa using q1)) gn) q2 (one_fact (@smF_ok S' 40 0 (I 0) _ (by decide) rfl q3) rfl) rfl rfl rfl rfl rfl (@imp2 S' _ _ hw) (w2_3_1_0 _ _ _ _ _ _ _)
    | k + 1, ha, _, _ => exact absurd ha (by omega)
  · rw [q2] at hw
    exact round_go (b := l1 3 1 (insL (aL 0) 0 (I 1))) (ga (e_leq false (a := 1) (b := S'.σ 90) rfl rfl (by simpa using q1)) gn) h.mem gn rfl rfl rfl rfl rfl (@imp2 S' _ _ hw) (w2_3_1_F _ _ _ _ _ _ _)
theorem ra_3_1 {S' : Sig} {A : Nat → List Int} {at_ : Nat → Nat} (h : Tw S'.σ S'.val S'.gf 3 A at_) : ∀ B, @Goes S' Tryd.prog (@GT S') B 0 x1 (frL (l1 3 1 (aL 1))) (stL (l1 3 1 (aL 1))) .nor (frL (l1 3 2 (aL 2))) (stL (l1 3 2 (aL 2))) := by
  have hw := h.w1 (S' := S') rfl (x := 1) (by decide)
  have ha := h.atl 1 (by decide)
  rcases h.mv 1 (by decide) with ⟨q1, q2, q3⟩ | ⟨q1, q2⟩
  · generalize at_ 1 = a at hw ha q3
    match a, ha, hw, q3 with
    | 0, _, hw, q3 => exact round_go (b := l1 3 2 (insL (aL 1) 0 (I 2))) (ga (e_leq true (a := 2) (b := S'.σ 90) rfl rfl (by simpa using q1)) gn) q2 (one_fact (@smF_ok S' 41 1 (I 0) _ (by decide) rfl q3) rfl) rfl rfl rfl rfl rfl (@imp2 S' _ _ hw) (w2_3_2_0 _ _ _ _ _ _ _)
    | 1, _, hw, q3 => exact round_go (b := l1 3 2 (insL (aL 1) 1 (I 2))) (ga (e_leq true (a := 2) (b := S'.σ 90) rfl rfl (by simpa using q1)) gn) q2 (one_fact (@smF_ok S' 41 1 (I 1) _ (by decide) rfl q3) rfl) rfl rfl rfl rfl rfl (@imp2 S' _ _ hw) (w2_3_2_1 _ _ _ _ _ _ _)
    | k + 2, ha, _, _ => exact absurd ha (by omega)
  · rw [q2] at hw
    exact round_go (b := l1 3 2 (insL (aL 1) 1 (I 2))) (ga (e_leq false (a := 2) (b := S'.σ 90) rfl rfl (by simpa using q1)) gn) h.mem gn rfl rfl rfl rfl rfl (@imp2 S' _ _ hw) (w2_3_2_F _ _ _ _ _ _ _)
theorem ra_3_2 {S' : Sig} {A : Nat → List Int} {at_ : Nat → Nat} (h : Tw S'.σ S'.val S'.gf 3 A at_) : ∀ B, @Goes S' Tryd.prog (@GT S') B 0 x1 (frL (l1 3 2 (aL 2))) (stL (l1 3 2 (aL 2))) .nor (frL (l1 3 3 (aL 3))) (stL (l1 3 3 (aL 3))) := by
  have hw := h.w1 (S' := S') rfl (x := 2) (by decide)
  have ha := h.atl 2 (by decide)
  rcases h.mv 2 (by decide) with ⟨q1, q2, q3⟩ | ⟨q1, q2⟩
  · generalize at_ 2 = a at hw ha q3
    match a, ha, hw, q3 with
    | 0, _, hw, q3 => exact round_go (b := l1 3 3 (insL (aL 2) 0 (I 3))) (ga (e_leq true (a := 3) (b := S'.σ 90) rfl rfl (by simpa using q1)) gn) q2 (one_fact (@smF_ok S' 42 2 (I 0) _ (by decide) rfl q3) rfl) rfl rfl rfl rfl rfl (@imp2 S' _ _ hw) (w2_3_3_0 _ _ _ _ _ _ _)
    | 1, _, hw, q3 => exact round_go (b := l1 3 3 (insL (aL 2) 1 (I 3))) (ga (e_leq true (a := 3) (b := S'.σ 90) rfl rfl (by simpa using q1)) gn) q2 (one_fact (@smF_ok S' 42 2 (I 1) _ (by decide) rfl q3) rfl) rfl rfl rfl rfl rfl (@imp2 S' _ _ hw) (w2_3_3_1 _ _ _ _ _ _ _)
    | 2, _, hw, q3 => exact round_go (b := l1 3 3 (insL (aL 2) 2 (I 3))) (ga (e_leq true (a := 3) (b := S'.σ 90) rfl rfl (by simpa using q1)) gn) q2 (one_fact (@smF_ok S' 42 2 (I 2) _ (by decide) rfl q3) rfl) rfl rfl rfl rfl rfl (@imp2 S' _ _ hw) (w2_3_3_2 _ _ _ _ _ _ _)
    | k + 3, ha, _, _ => exact absurd ha (by omega)
  · rw [q2] at hw
    exact round_go (b := l1 3 3 (insL (aL 2) 2 (I 3))) (ga (e_leq false (a := 3) (b := S'.σ 90) rfl rfl (by simpa using q1)) gn) h.mem gn rfl rfl rfl rfl rfl (@imp2 S' _ _ hw) (w2_3_3_F _ _ _ _ _ _ _)
theorem rb_3_0 {S' : Sig} {A : Nat → List Int} {at_ : Nat → Nat} (h : Tw S'.σ S'.val S'.gf 3 A at_) : ∀ B, @Goes S' Tryd.prog (@GT S') B 0 x2 (frL (l2 3 0 (fL 0))) (stL (l2 3 0 (fL 0))) .nor (frL (l2 3 1 (fL 1))) (stL (l2 3 1 (fL 1))) := by
  rcases h.fw 0 (by decide) with ⟨q1, q2, q3⟩ | ⟨q1, q2⟩
  · exact round_go (b := l2 3 1 (fL 0 ++ [S 60])) (ga (e_lss true (a := 0) (b := S'.σ 90) rfl rfl (by simpa using q1)) gn) q2 (one_fact (@smF_ok S' 40 2 (S 60) _ (by decide) rfl q3) rfl) rfl rfl rfl rfl rfl (@imp4 S' _ _ _ _ (h.w2 (S' := S') rfl (i := 0) (v := S 60) rfl)) (w6_3_0_T _ _ _ _ _ _ _)
  · exact round_go (b := l2 3 1 (fL 0 ++ [I 0])) (ga (e_lss false (a := 0) (b := S'.σ 90) rfl rfl (by simpa using q1)) gn) h.mem gn rfl rfl rfl rfl rfl (@imp4 S' _ _ _ _ (h.w2 (S' := S') rfl (i := 0) (v := I 0) (by show some 0 = some (S'.σ 60); rw [q2]))) (w6_3_0_F _ _ _ _ _ _ _)
theorem rb_3_1 {S' : Sig} {A : Nat → List Int} {at_ : Nat → Nat} (h : Tw S'.σ S'.val S'.gf 3 A at_) : ∀ B, @Goes S' Tryd.prog (@GT S') B 0 x2 (frL (l2 3 1 (fL 1))) (stL (l2 3 1 (fL 1))) .nor (frL (l2 3 2 (fL 2))) (stL (l2 3 2 (fL 2))) := by
  rcases h.fw 1 (by decide) with ⟨q1, q2, q3⟩ | ⟨q1, q2⟩
  · exact round_go (b := l2 3 2 (fL 1 ++ [S 61])) (ga (e_lss true (a := 1) (b := S'.σ 90) rfl rfl (by simpa using q1)) gn) q2 (one_fact (@smF_ok S' 41 2 (S 61) _ (by decide) rfl q3) rfl) rfl rfl rfl rfl rfl (@imp4 S' _ _ _ _ (h.w2 (S' := S') rfl (i := 1) (v := S 61) rfl)) (w6_3_1_T _ _ _ _ _ _ _)
  · exact round_go (b := l2 3 2 (fL 1 ++ [I 0])) (ga (e_lss false (a := 1) (b := S'.σ 90) rfl rfl (by simpa using q1)) gn) h.mem gn rfl rfl rfl rfl rfl (@imp4 S' _ _ _ _ (h.w2 (S' := S') rfl (i := 1) (v := I 0) (by show some 0 = some (S'.σ 61); rw [q2]))) (w6_3_1_F _ _ _ _ _ _ _)
theorem rb_3_2 {S' : Sig} {A : Nat → List Int} {at_ : Nat → Nat} (h : Tw S'.σ S'.val S'.gf 3 A at_) : ∀ B, @Goes S' Tryd.prog (@GT S') B 0 x2 (frL (l2 3 2 (fL 2))) (stL (l2 3 2 (fL 2))) .nor (frL (l2 3 3 (fL 3))) (stL (l2 3 3 (fL 3))) := by
  rcases h.fw 2 (by decide) with ⟨q1, q2, q3⟩ | ⟨q1, q2⟩
  · exact round_go (b := l2 3 3 (fL 2 ++ [S 62])) (ga (e_lss true (a := 2) (b := S'.σ 90) rfl rfl (by simpa using q1)) gn) q2 (one_fact (@smF_ok S' 42 2 (S 62) _ (by decide) rfl q3) rfl) rfl rfl rfl rfl rfl (@imp4 S' _ _ _ _ (h.w2 (S' := S') rfl (i := 2) (v := S 62) rfl)) (w6_3_2_T _ _ _ _ _ _ _)
  · exact round_go (b := l2 3 3 (fL 2 ++ [I 0])) (ga (e_lss false (a := 2) (b := S'.σ 90) rfl rfl (by simpa using q1)) gn) h.mem gn rfl rfl rfl rfl rfl (@imp4 S' _ _ _ _ (h.w2 (S' := S') rfl (i := 2) (v := I 0) (by show some 0 = some (S'.σ 62); rw [q2]))) (w6_3_2_F _ _ _ _ _ _ _)
theorem ra_4_0 {S' : Sig} {A : Nat → List Int} {at_ : Nat → Nat} (h : Tw S'.σ S'.val S'.gf 4 A at_) : ∀ B, @Goes S' Tryd.prog (@GT S') B 0 x1 (frL (l1 4 0 (aL 0))) (stL (l1 4 0 (aL 0))) .nor (frL (l1 4 1 (aL 1))) (stL (l1 4 1 (aL 1))) := by
  have hw := h.w1 (S' := S') rfl (x := 0) (by decide)
  have ha := h.atl 0 (by decide)
  rcases h.mv 0 (by decide) with ⟨q1, q2, q3⟩ | ⟨q1, q2⟩
  · generalize at_ 0 = a at hw ha q3
    match a, ha, hw, q3 with
    | 0, _, hw, q3 => exact round_go (b := l1 4 1 (insL (aL 0) 0 (I 1))) (ga (e_leq true (a := 1) (b := S'.σ 90) rfl rfl (by simpa using q1)) gn) q2 (one_fact (@smF_ok S' 40 0 (I 0) _ (by decide) rfl q3) rfl) rfl rfl rfl rfl rfl (@imp2 S' _ _ hw) (w2_4_1_0 _ _ _ _ _ _ _)
    | k + 1, ha, _, _ => exact absurd ha (by omega)
  · rw [q2] at hw
    exact round_go (b := l1 4 1 (insL (aL 0) 0 (I 1))) (ga (e_leq false (a := 1) (b := S'.σ 90) rfl rfl (by simpa using q1)) gn) h.mem gn rfl rfl rfl rfl rfl (@imp2 S' _ _ hw) (w2_4_1_F _ _ _ _ _ _ _)
theorem ra_4_1 {S' : Sig} {A : Nat → List Int} {at_ : Nat → Nat} (h : Tw S'.σ S'.val S'.gf 4 A at_) : ∀ B, @Goes S' Tryd.prog (@GT S') B 0 x1 (frL (l1 4 1 (aL 1))) (stL (l1 4 1 (aL 1))) .nor (frL (l1 4 2 (aL 2))) (stL (l1 4 2 (aL 2))) := by
  have hw := h.w1 (S' := S') rfl (x := 1) (by decide)
  have ha := h.atl 1 (by decide)
  rcases h.mv 1 (by decide) with ⟨q1, q2, q3⟩ | ⟨q1, q2⟩
  · generalize at_ 1 = a at hw ha q3
    match a, ha, hw, q3 with
    | 0, _, hw, q3 => exact round_go (b := l1 4 2 (insL (aL 1) 0 (I 2))) (ga (e_leq true (a := 2) (b := S'.σ 90) rfl rfl (by simpa using q1)) gn) q2 (one_fact (@smF_ok S' 41 1 (I 0) _ (by decide) rfl q3) rfl) rfl rfl rfl rfl rfl (@imp2 S' _ _ hw) (w2_4_2_0 _ _ _ _ _ _ _)
    | 1, _, hw, q3 => exact round_go (b := l1 4 2 (insL (aL 1) 1 (I 2))) (ga (e_leq true (a := 2) (b := S'.σ 90) rfl rfl (by simpa using q1)) gn) q2 (one_fact (@smF_ok S' 41 1 (I 1) _ (by decide) rfl q3) rfl) rfl rfl rfl rfl rfl (@imp2 S' _ _ hw) (w2_4_2_1 _ _ _ _ _ _ _)
    | k + 2, ha, _, _ => exact absurd ha (by omega)
  · rw [q2] at hw
    exact round_go (b := l1 4 2 (insL (aL 1) 1 (I 2))) (ga (e_leq false (a := 2) (b := S'.σ 90) rfl rfl (by simpa using q1)) gn) h.mem gn rfl rfl rfl rfl rfl (@imp2 S' _ _ hw) (w2_4_2_F _ _ _ _ _ _ _)
theorem ra_4_2 {S' : Sig} {A : Nat → List Int} {at_ : Nat → Nat} (h : Tw S'.σ S'.val S'.gf 4 A at_) : ∀ B, @Goes S' Tryd.prog (@GT S') B 0 x1 (frL (l1 4 2 (aL 2))) (stL (l1 4 2 (aL 2))) .nor (frL (l1 4 3 (aL 3))) (stL (l1 4 3 (aL 3))) := by
  have hw := h.w1 (S' := S') rfl (x := 2) (by decide)
  have ha := h.atl 2 (by decide)
  rcases h.mv 2 (by decide) with ⟨q1, q2, q3⟩ | ⟨q1, q2⟩
  · generalize at_ 2 = a at hw ha q3
    match a, ha, hw, q3 with
    | 0, _, hw, q3 => exact round_go (b := l1 4 3 (insL (aL 2) 0 (I 3))) (ga (e_leq true (a := 3) (b := S'.σ 90) rfl rfl (by simpa using q1)) gn) q2 (one_fact (@smF_ok S' 42 2 (I 0) _ (by decide) rfl q3) rfl) rfl rfl rfl rfl rfl (@imp2 S' _ _ hw) (w2_4_3_0 _ _ _ _ _ _ _)
    | 1, _, hw, q3 => exact round_go (b := l1 4 3 (insL (aL 2) 1 (I 3))) (ga (e_leq true (a := 3) (b := S'.σ 90) rfl rfl (by simpa using q1)) gn) q2 (one_fact (@smF_ok S' 42 2 (I 1) _ (by decide) rfl q3) rfl) rfl rfl rfl rfl rfl (@imp2 S' _ _ hw) (w2_4_3_1 _ _ _ _ _ _ _)
    | 2, _, hw, q3 => exact round_go (b := l1 4 3 (insL (aL 2) 2 (I 3))) (ga (e_leq true (a := 3) (b := S'.σ 90) rfl rfl (by simpa using q1)) gn) q2 (one_fact (@smF_ok S' 42 2 (I 2) _ (by decide) rfl q3) rfl) rfl rfl rfl rfl rfl (@imp2 S' _ _ hw) (w2_4_3_2 _ _ _ _ _ _ _)
    | k + 3, ha, _, _ => exact absurd ha (by omega)
  · rw [q2] at hw
    exact round_go (b := l1 4 3 (insL (aL 2) 2 (I 3))) (ga (e_leq false (a := 3) (b := S'.σ 90) rfl rfl (by simpa using q1)) gn) h.mem gn rfl rfl rfl rfl rfl (@imp2 S' _ _ hw) (w2_4_3_F _ _ _ _ _ _ _)
theorem ra_4_3 {S' : Sig} {A : Nat → List Int} {at_ : Nat → Nat} (h : Tw S'.σ S'.val S'.gf 4 A at_) : ∀ B, @Goes S' Tryd.prog (@GT S') B 0 x1 (frL (l1 4 3 (aL 3))) (stL (l1 4 3 (aL 3))) .nor (frL (l1 4 4 (aL 4))) (stL (l1 4 4 (aL 4))) := by
  have hw := h.w1 (S' := S') rfl (x := 3) (by decide)
  have ha := h.atl 3 (by decide)
  rcases h.mv 3 (by decide) with ⟨q1, q2, q3⟩ | ⟨q1, q2⟩
  · generalize at_ 3 = a at hw ha q3
    match a, ha, hw, q3 with
    | 0, _, hw, q3 => exact round_go (b := l1 4 4 (insL (aL 3) 0 (I 4))) (ga (e_leq true (a := 4) (b := S'.σ 90) rfl rfl (by simpa using q1)) gn) q2 (one_fact (@smF_ok S' 43 3 (I 0) _ (by decide) rfl q3) rfl) rfl rfl rfl rfl rfl (@imp2 S' _ _ hw) (w2_4_4_0 _ _ _ _ _ _ _)
    | 1, _, hw, q3 => exact round_go (b := l1 4 4 (insL (aL 3) 1 (I 4))) (ga (e_leq true (a := 4) (b := S'.σ 90) rfl rfl (by simpa using q1)) gn) q2 (one_fact (@smF_ok S' 43 3 (I 1) _ (by decide) rfl q3) rfl) rfl rfl rfl rfl rfl (@imp2 S' _ _ hw) (w2_4_4_1 _ _ _ _ _ _ _)
    | 2, _, hw, q3 => exact round_go (b := l1 4 4 (insL (aL 3) 2 (I 4))) (ga (e_leq true (a := 4) (b := S'.σ 90) rfl rfl (by simpa using q1)) gn) q2 (one_fact (@smF_ok S' 43 3 (I 2) _ (by decide) rfl q3) rfl) rfl rfl rfl rfl rfl (@imp2 S' _ _ hw) (w2_4_4_2 _ _ _ _ _ _ _)
    | 3, _, hw, q3 => exact round_go (b := l1 4 4 (insL (aL 3) 3 (I 4))) (ga (e_leq true (a := 4) (b := S'.σ 90) rfl rfl (by simpa using q1)) gn) q2 (one_fact (@smF_ok S' 43 3 (I 3) _ (by decide) rfl q3) rfl) rfl rfl rfl rfl rfl (@imp2 S' _ _ hw) (w2_4_4_3 _ _ _ _ _ _ _)
    | k + 4, ha, _, _ => exact absurd ha (by omega)
  · rw [q2] at hw
    exact round_go (b := l1 4 4 (insL (aL 3) 3 (I 4))) (ga (e_leq false (a := 4) (b := S'.σ 90) rfl rfl (by simpa using q1)) gn) h.mem gn rfl rfl rfl rfl rfl (@imp2 S' _ _ hw) (w2_4_4_F _ _ _ _ _ _ _)
theorem rb_4_0 {S' : Sig} {A : Nat → List Int} {at_ : Nat → Nat} (h : Tw S'.σ S'.val S'.gf 4 A at_) : ∀ B, @Goes S' Tryd.prog (@GT S') B 0 x2 (frL (l2 4 0 (fL 0))) (stL (l2 4 0 (fL 0))) .nor (frL (l2 4 1 (fL 1))) (stL (l2 4 1 (fL 1))) := by
  rcases h.fw 0 (by decide) with ⟨q1, q2, q3⟩ | ⟨q1, q2⟩
  · exact round_go (b := l2 4 1 (fL 0 ++ [S 60])) (ga (e_lss true (a := 0) (b := S'.σ 90) rfl rfl (by simpa using q1)) gn) q2 (one_fact (@smF_ok S' 40 2 (S 60) _ (by decide) rfl q3) rfl) rfl rfl rfl rfl rfl (@imp4 S' _ _ _ _ (h.w2 (S' := S') rfl (i := 0) (v := S 60) rfl)) (w6_4_0_T _ _ _ _ _ _ _)
  · exact round_go (b := l2 4 1 (fL 0 ++ [I 0])) (ga (e_lss false (a := 0) (b := S'.σ 90) rfl rfl (by simpa using q1)) gn) h.mem gn rfl rfl rfl rfl rfl (@imp4 S' _ _ _ _ (h.w2 (S' := S') rfl (i := 0) (v := I 0) (by show some 0 = some (S'.σ 60); rw [q2]))) (w6_4_0_F _ _ _ _ _ _ _)
theorem rb_4_1 {S' : Sig} {A : Nat → List Int} {at_ : Nat → Nat} (h : Tw S'.σ S'.val S'.gf 4 A at_) : ∀ B, @Goes S' Tryd.prog (@GT S') B 0 x2 (frL (l2 4 1 (fL 1))) (stL (l2 4 1 (fL 1))) .nor (frL (l2 4 2 (fL 2))) (stL (l2 4 2 (fL 2))) := by
  rcases h.fw 1 (by decide) with ⟨q1, q2, q3⟩ | ⟨q1, q2⟩
  · exact round_go (b := l2 4 2 (fL 1 ++ [S 61])) (ga (e_lss true (a := 1) (b := S'.σ 90) rfl rfl (by simpa using q1)) gn) q2 (one_fact (@smF_ok S' 41 2 (S 61) _ (by decide) rfl q3) rfl) rfl rfl rfl rfl rfl (@imp4 S' _ _ _ _ (h.w2 (S' := S') rfl (i := 1) (v := S 61) rfl)) (w6_4_1_T _ _ _ _ _ _ _)
  · exact round_go (b := l2 4 2 (fL 1 ++ [I 0])) (ga (e_lss false (a := 1) (b := S'.σ 90) rfl rfl (by simpa using q1)) gn) h.mem gn rfl rfl rfl rfl rfl (@imp4 S' _ _ _ _ (h.w2 (S' := S') rfl (i := 1) (v := I 0) (by show some 0 = some (S'.σ 61); rw [q2]))) (w6_4_1_F _ _ _ _ _ _ _)
theorem rb_4_2 {S' : Sig} {A : Nat → List Int} {at_ : Nat → Nat} (h : Tw S'.σ S'.val S'.gf 4 A at_) : ∀ B, @Goes S' Tryd.prog (@GT S') B 0 x2 (frL (l2 4 2 (fL 2))) (stL (l2 4 2 (fL 2))) .nor (frL (l2 4 3 (fL 3))) (stL (l2 4 3 (fL 3))) := by
  rcases h.fw 2 (by decide) with ⟨q1, q2, q3⟩ | ⟨q1, q2⟩
  · exact round_go (b := l2 4 3 (fL 2 ++ [S 62])) (ga (e_lss true (a := 2) (b := S'.σ 90) rfl rfl (by simpa using q1)) gn) q2 (one_fact (@smF_ok S' 42 2 (S 62) _ (by decide) rfl q3) rfl) rfl rfl rfl rfl rfl (@imp4 S' _ _ _ _ (h.w2 (S' := S') rfl (i := 2) (v := S 62) rfl)) (w6_4_2_T _ _ _ _ _ _ _)
  · exact round_go (b := l2 4 3 (fL 2 ++ [I 0])) (ga (e_lss false (a := 2) (b := S'.σ 90) rfl rfl (by simpa using q1)) gn) h.mem gn rfl rfl rfl rfl rfl (@imp4 S' _ _ _ _ (h.w2 (S' := S') rfl (i := 2) (v := I 0) (by show some 0 = some (S'.σ 62); rw [q2]))) (w6_4_2_F _ _ _ _ _ _ _)
theorem rb_4_3 {S' : Sig} {A : Nat → List Int} {at_ : Nat → Nat} (h : Tw S'.σ S'.val S'.gf 4 A at_) : ∀ B, @Goes S' Tryd.prog (@GT S') B 0 x2 (frL (l2 4 3 (fL 3))) (stL (l2 4 3 (fL 3))) .nor (frL (l2 4 4 (fL 4))) (stL (l2 4 4 (fL 4))) := by
  rcases h.fw 3 (by decide) with ⟨q1, q2, q3⟩ | ⟨q1, q2⟩
  · exact round_go (b := l2 4 4 (fL 3 ++ [S 63])) (ga (e_lss true (a := 3) (b := S'.σ 90) rfl rfl (by simpa using q1)) gn) q2 (one_fact (@smF_ok S' 43 2 (S 63) _ (by decide) rfl q3) rfl) rfl rfl rfl rfl rfl (@imp4 S' _ _ _ _ (h.w2 (S' := S') rfl (i := 3) (v := S 63) rfl)) (w6_4_3_T _ _ _ _ _ _ _)
  · exact round_go (b := l2 4 4 (fL 3 ++ [I 0])) (ga (e_lss false (a := 3) (b := S'.σ 90) rfl rfl (by simpa using q1)) gn) h.mem gn rfl rfl rfl rfl rfl (@imp4 S' _ _ _ _ (h.w2 (S' := S') rfl (i := 3) (v := I 0) (by show some 0 = some (S'.σ 63); rw [q2]))) (w6_4_3_F _ _ _ _ _ _ _)
theorem ra_5_0 {S' : Sig} {A : Nat → List Int} {at_ : Nat → Nat} (h : Tw S'.σ S'.val S'.gf 5 A at_) : ∀ B, @Goes S' Tryd.prog (@GT S') B 0 x1 (frL (l1 5 0 (aL 0))) (stL (l1 5 0 (aL 0))) .nor (frL (l1 5 1 (aL 1))) (stL (l1 5 1 (aL 1))) := by
  have hw := h.w1 (S' := S') rfl (x := 0) (by decide)
  have ha := h.atl 0 (by decide)
  rcases h.mv 0 (by decide) with ⟨q1, q2, q3⟩ | ⟨q1, q2⟩
  · generalize at_ 0 = a at hw ha q3
    match a, ha, hw, q3 with
    | 0, _, hw, q3 => exact round_go (b := l1 5 1 (insL (aL 0) 0 (I 1))) (ga (e_leq true (a := 1) (b := S'.σ 90) rfl rfl (by simpa using q1)) gn) q2 (one_fact (@smF_ok S' 40 0 (I 0) _ (by decide) rfl q3) rfl) rfl rfl rfl rfl rfl (@imp2 S' _ _ hw) (w2_5_1_0 _ _ _ _ _ _ _)
    | k + 1, ha, _, _ => exact absurd ha (by omega)
  · rw [q2] at hw
    exact round_go (b := l1 5 1 (insL (aL 0) 0 (I 1))) (ga (e_leq false (a := 1) (b := S'.σ 90) rfl rfl (by simpa using q1)) gn) h.mem gn rfl rfl rfl rfl rfl (@imp2 S' _ _ hw) (w2_5_1_F _ _ _ _ _ _ _)
theorem ra_5_1 {S' : Sig} {A : Nat → List Int} {at_ : Nat → Nat} (h : Tw S'.σ S'.val S'.gf 5 A at_) : ∀ B, @Goes S' Tryd.prog (@GT S') B 0 x1 (frL (l1 5 1 (aL 1))) (stL (l1 5 1 (aL 1))) .nor (frL (l1 5 2 (aL 2))) (stL (l1 5 2 (aL 2))) := by
  have hw := h.w1 (S' := S') rfl (x := 1) (by decide)
  have ha := h.atl 1 (by decide)
  rcases h.mv 1 (by decide) with ⟨q1, q2, q3⟩ | ⟨q1, q2⟩
  · generalize at_ 1 = a at hw ha q3
    match a, ha, hw, q3 with
    | 0, _, hw, q3 => exact round_go (b := l1 5 2 (insL (aL 1) 0 (I 2))) (ga (e_leq true (a := 2) (b := S'.σ 90) rfl rfl (by simpa using q1)) gn) q2 (one_fact (@smF_ok S' 41 1 (I 0) _ (by decide) rfl q3) rfl) rfl rfl rfl rfl rfl (@imp2 S' _ _ hw) (w2_5_2_0 _ _ _ _ _ _ _)
    | 1, _, hw, q3 => exact round_go (b := l1 5 2 (insL (aL 1) 1 (I 2))) (ga (e_leq true (a := 2) (b := S'.σ 90) rfl rfl (by simpa using q1)) gn) q2 (one_fact (@smF_ok S' 41 1 (I 1) _ (by decide) rfl q3) rfl) rfl rfl rfl rfl rfl (@imp2 S' _ _ hw) (w2_5_2_1 _ _ _ _ _ _ _)
    | k + 2, ha, _, _ => exact absurd ha (by omega)
  · rw [q2] at hw
    exact round_go (b := l1 5 2 (insL (aL 1) 1 (I 2))) (ga (e_leq false (a := 2) (b := S'.σ 90) rfl rfl (by simpa using q1)) gn) h.mem gn rfl rfl rfl rfl rfl (@imp2 S' _ _ hw) (w2_5_2_F _ _ _ _ _ _ _)
theorem ra_5_2 {S' : Sig} {A : Nat → List Int} {at_ : Nat → Nat} (h : Tw S'.σ S'.val S'.gf 5 A at_) : ∀ B, @Goes S' Tryd.prog (@GT S') B 0 x1 (frL (l1 5 2 (aL 2))) (stL (l1 5 2 (aL 2))) .nor (frL (l1 5 3 (aL 3))) (stL (l1 5 3 (aL 3))) := by
  have hw := h.w1 (S' := S') rfl (x := 2) (by decide)
  have ha := h.atl 2 (by decide)
  rcases h.mv 2 (by decide) with ⟨q1, q2, q3⟩ | ⟨q1, q2⟩
  · generalize at_ 2 = a at hw ha q3
    match a, ha, hw, q3 with
    | 0, _, hw, q3 => exact round_go (b := l1 5 3 (insL (aL 2) 0 (I 3))) (ga (e_leq true (a := 3) (b := S'.σ 90) rfl rfl (by simpa using q1)) gn) q2 (one_fact (@smF_ok S' 42 2 (I 0) _ (by decide) rfl q3) rfl) rfl rfl rfl rfl rfl (@imp2 S' _ _ hw) (w2_5_3_0 _ _ _ _ _ _ _)
    | 1, _, hw, q3 => exact round_go (b := l1 5 3 (insL (aL 2) 1 (I 3))) (ga (e_leq true (a := 3) (b := S'.σ 90) rfl rfl (by simpa using q1)) gn) q2 (one_fact (@smF_ok S' 42 2 (I 1) _ (by decide) rfl q3) rfl) rfl rfl rfl rfl rfl (@imp2 S' _ _ hw) (w2_5_3_1 _ _ _ _ _ _ _)
    | 2, _, hw, q3 => exact round_go (b := l1 5 3 (insL (aL 2) 2 (I 3))) (ga (e_leq true (a := 3) (b := S'.σ 90) rfl rfl (by simpa using q1)) gn) q2 (one_fact (@smF_ok S' 42 2 (I 2) _ (by decide) rfl q3) rfl) rfl rfl rfl rfl rfl (@imp2 S' _ _ hw) (w2_5_3_2 _ _ _ _ _ _ _)
    | k + 3, ha, _, _ => exact absurd ha (by omega)
  · rw [q2] at hw
    exact round_go (b := l1 5 3 (insL (aL 2) 2 (I 3))) (ga (e_leq false (a := 3) (b := S'.σ 90) rfl rfl (by simpa using q1)) gn) h.mem gn rfl rfl rfl rfl rfl (@imp2 S' _ _ hw) (w2_5_3_F _ _ _ _ _ _ _)
theorem ra_5_3 {S' : Sig} {A : Nat → List Int} {at_ : Nat → Nat} (h : Tw S'.σ S'.val S'.gf 5 A at_) : ∀ B, @Goes S' Tryd.prog (@GT S') B 0 x1 (frL (l1 5 3 (aL 3))) (stL (l1 5 3 (aL 3))) .nor (frL (l1 5 4 (aL 4))) (stL (l1 5 4 (aL 4))) := by
  have hw := h.w1 (S' := S') rfl (x := 3) (by decide)
  have ha := h.atl 3 (by decide)
  rcases h.mv 3 (by decide) with ⟨q1, q2, q3⟩ | ⟨q1, q2⟩
  · generalize at_ 3 = a at hw ha q3
    match a, ha, hw, q3 with
    | 0, _, hw, q3 => exact round_go (b := l1 5 4 (insL (aL 3) 0 (I 4))) (ga (e_leq true (a := 4) (b := S'.σ 90) rfl rfl (by simpa using q1)) gn) q2 (one_fact (@smF_ok S' 43 3 (I 0) _ (by decide) rfl q3) rfl) rfl rfl rfl rfl rfl (@imp2 S' _ _ hw) (w2_5_4_0 _ _ _ _ _ _ _)
    | 1, _, hw, q3 => exact round_go (b := l1 5 4 (insL (aL 3) 1 (I 4))) (ga (e_leq true (a := 4) (b := S'.σ 90) rfl rfl (by simpa using q1)) gn) q2 (one_fact (@smF_ok S' 43 3 (I 1) _ (by decide) rfl q3) rfl) rfl rfl rfl rfl rfl (@imp2 S' _ _ hw) (w2_5_4_1 _ _ _ _ _ _ _)
    | 2, _, hw, q3 => exact round_go (b := l1 5 4 (insL (aL 3) 2 (I 4))) (ga (e_leq true (a := 4) (b := S'.σ 90) rfl rfl (by simpa using q1)) gn) q2 (one_fact (@smF_ok S' 43 3 (I 2) _ (by decide) rfl q3) rfl) rfl rfl rfl rfl rfl (@imp2 S' _ _ hw) (w2_5_4_2 _ _ _ _ _ _ _)
    | 3, _, hw, q3 => exact round_go (b := l1 5 4 (insL (aL 3) 3 (I 4))) (ga (e_leq true (a := 4) (b := S'.σ 90) rfl rfl (by simpa using q1)) gn) q2 (one_fact (@smF_ok S' 43 3 (I 3) _ (by decide) rfl q3) rfl) rfl rfl rfl rfl rfl (@imp2 S' _ _ hw) (w2_5_4_3 _ _ _ _ _ _ _)
    | k + 4, ha, _, _ => exact absurd ha (by omega)
  · rw [q2] at hw
    exact round_go (b := l1 5 4 (insL (aL 3) 3 (I 4))) (ga (e_leq false (a := 4) (b := S'.σ 90) rfl rfl (by simpa using q1)) gn) h.mem gn rfl rfl rfl rfl rfl (@imp2 S' _ _ hw) (w2_5_4_F _ _ _ _ _ _ _)
theorem ra_5_4 {S' : Sig} {A : Nat → List Int} {at_ : Nat → Nat} (h : Tw S'.σ S'.val S'.gf 5 A at_) : ∀ B, @Goes S' Tryd.prog (@GT S') B 0 x1 (frL (l1 5 4 (aL 4))) (stL (l1 5 4 (aL 4))) .nor (frL (l1 5 5 (aL 5))) (stL (l1 5 5 (aL 5))) := by
  have hw := h.w1 (S' := S') rfl (x := 4) (by decide)
  have ha := h.atl 4 (by decide)
  rcases h.mv 4 (by decide) with ⟨q1, q2, q3⟩ | ⟨q1, q2⟩
  · generalize at_ 4 = a at hw ha q3
    match a, ha, hw, q3 with
    | 0, _, hw, q3 => exact round_go (b := l1 5 5 (insL (aL 4) 0 (I 5))) (ga (e_leq true (a := 5) (b := S'.σ 90) rfl rfl (by simpa using q1)) gn) q2 (one_fact (@smF_ok S' 44 4 (I 0) _ (by decide) rfl q3) rfl) rfl rfl rfl rfl rfl (@imp2 S' _ _ hw) (w2_5_5_0 _ _ _ _ _ _ _)
    | 1, _, hw, q3 => exact round_go (b := l1 5 5 (insL (aL 4) 1 (I 5))) (ga (e_leq true (a := 5) (b := S'.σ 90) rfl rfl (by simpa using q1)) gn) q2 (one_fact (@smF_ok S' 44 4 (I 1) _ (by decide) rfl q3) rfl) rfl rfl rfl rfl rfl (@imp2 S' _ _ hw) (w2_5_5_1 _ _ _ _ _ _ _)
    | 2, _, hw, q3 => exact round_go (b := l1 5 5 (insL (aL 4) 2 (I 5))) (ga (e_leq true (a := 5) (b := S'.σ 90) rfl rfl (by simpa using q1)) gn) q2 (one_fact (@smF_ok S' 44 4 (I 2) _ (by decide) rfl q3) rfl) rfl rfl rfl rfl rfl (@imp2 S' _ _ hw) (w2_5_5_2 _ _ _ _ _ _ _)
    | 3, _, hw, q3 => exact round_go (b := l1 5 5 (insL (aL 4) 3 (I 5))) (ga (e_leq true (a := 5) (b := S'.σ 90) rfl rfl (by simpa using q1)) gn) q2 (one_fact (@smF_ok S' 44 4 (I 3) _ (by decide) rfl q3) rfl) rfl rfl rfl rfl rfl (@imp2 S' _ _ hw) (w2_5_5_3 _ _ _ _ _ _ _)
    | 4, _, hw, q3 => exact round_go (b := l1 5 5 (insL (aL 4) 4 (I 5))) (ga (e_leq true (a := 5) (b := S'.σ 90) rfl rfl (by simpa using q1)) gn) q2 (one_fact (@smF_ok S' 44 4 (I 4) _ (by decide) rfl q3) rfl) rfl rfl rfl rfl rfl (@imp2 S' _ _ hw) (w2_5_5_4 _ _ _ _ _ _ _)
    | k + 5, ha, _, _ => exact absurd ha (by omega)
  · rw [q2] at hw
    exact round_go (b := l1 5 5 (insL (aL 4) 4 (I 5))) (ga (e_leq false (a := 5) (b := S'.σ 90) rfl rfl (by simpa using q1)) gn) h.mem gn rfl rfl rfl rfl rfl (@imp2 S' _ _ hw) (w2_5_5_F _ _ _ _ _ _ _)
theorem rb_5_0 {S' : Sig} {A : Nat → List Int} {at_ : Nat → Nat} (h : Tw S'.σ S'.val S'.gf 5 A at_) : ∀ B, @Goes S' Tryd.prog (@GT S') B 0 x2 (frL (l2 5 0 (fL 0))) (stL (l2 5 0 (fL 0))) .nor (frL (l2 5 1 (fL 1))) (stL (l2 5 1 (fL 1))) := by
  rcases h.fw 0 (by decide) with ⟨q1, q2, q3⟩ | ⟨q1, q2⟩
  · exact round_go (b := l2 5 1 (fL 0 ++ [S 60])) (ga (e_lss true (a := 0) (b := S'.σ 90) rfl rfl (by simpa using q1)) gn) q2 (one_fact (@smF_ok S' 40 2 (S 60) _ (by decide) rfl q3) rfl) rfl rfl rfl rfl rfl (@imp4 S' _ _ _ _ (h.w2 (S' := S') rfl (i := 0) (v := S 60) rfl)) (w6_5_0_T _ _ _ _ _ _ _)
  · exact round_go (b := l2 5 1 (fL 0 ++ [I 0])) (ga (e_lss false (a := 0) (b := S'.σ 90) rfl rfl (by simpa using q1)) gn) h.mem gn rfl rfl rfl rfl rfl (@imp4 S' _ _ _ _ (h.w2 (S' := S') rfl (i := 0) (v := I 0) (by show some 0 = some (S'.σ 60); rw [q2]))) (w6_5_0_F _ _ _ _ _ _ _)
theorem rb_5_1 {S' : Sig} {A : Nat → List Int} {at_ : Nat → Nat} (h : Tw S'.σ S'.val S'.gf 5 A at_) : ∀ B, @Goes S' Tryd.prog (@GT S') B 0 x2 (frL (l2 5 1 (fL 1))) (stL (l2 5 1 (fL 1))) .nor (frL (l2 5 2 (fL 2))) (stL (l2 5 2 (fL 2))) := by
  rcases h.fw 1 (by decide) with ⟨q1, q2, q3⟩ | ⟨q1, q2⟩
  · exact round_go (b := l2 5 2 (fL 1 ++ [S 61])) (ga (e_lss true (a := 1) (b := S'.σ 90) rfl rfl (by simpa using q1)) gn) q2 (one_fact (@smF_ok S' 41 2 (S 61) _ (by decide) rfl q3) rfl) rfl rfl rfl rfl rfl (@imp4 S' _ _ _ _ (h.w2 (S' := S') rfl (i := 1) (v := S 61) rfl)) (w6_5_1_T _ _ _ _ _ _ _)
  · exact round_go (b := l2 5 2 (fL 1 ++ [I 0])) (ga (e_lss false (a := 1) (b := S'.σ 90) rfl rfl (by simpa using q1)) gn) h.mem gn rfl rfl rfl rfl rfl (@imp4 S' _ _ _ _ (h.w2 (S' := S') rfl (i := 1) (v := I 0) (by show some 0 = some (S'.σ 61); rw [q2]))) (w6_5_1_F _ _ _ _ _ _ _)
theorem rb_5_2 {S' : Sig} {A : Nat → List Int} {at_ : Nat → Nat} (h : Tw S'.σ S'.val S'.gf 5 A at_) : ∀ B, @Goes S' Tryd.prog (@GT S') B 0 x2 (frL (l2 5 2 (fL 2))) (stL (l2 5 2 (fL 2))) .nor (frL (l2 5 3 (fL 3))) (stL (l2 5 3 (fL 3))) := by
  rcases h.fw 2 (by decide) with ⟨q1, q2, q3⟩ | ⟨q1, q2⟩
  · exact round_go (b := l2 5 3 (fL 2 ++ [S 62])) (ga (e_lss true (a := 2) (b := S'.σ 90) rfl rfl (by simpa using q1)) gn) q2 (one_fact (@smF_ok S' 42 2 (S 62) _ (by decide) rfl q3) rfl) rfl rfl rfl rfl rfl (@imp4 S' _ _ _ _ (h.w2 (S' := S') rfl (i := 2) (v := S 62) rfl)) (w6_5_2_T _ _ _ _ _ _ _)
  · exact round_go (b := l2 5 3 (fL 2 ++ [I 0])) (ga (e_lss false (a := 2) (b := S'.σ 90) rfl rfl (by simpa using q1)) gn) h.mem gn rfl rfl rfl rfl rfl (@imp4 S' _ _ _ _ (h.w2 (S' := S') rfl (i := 2) (v := I 0) (by show some 0 = some (S'.σ 62); rw [q2]))) (w6_5_2_F _ _ _ _ _ _ _)
theorem rb_5_3 {S' : Sig} {A : Nat → List Int} {at_ : Nat → Nat} (h : Tw S'.σ S'.val S'.gf 5 A at_) : ∀ B, @Goes S' Tryd.prog (@GT S') B 0 x2 (frL (l2 5 3 (fL 3))) (stL (l2 5 3 (fL 3))) .nor (frL (l2 5 4 (fL 4))) (stL (l2 5 4 (fL 4))) := by
  rcases h.fw 3 (by decide) with ⟨q1, q2, q3⟩ | ⟨q1, q2⟩
  · exact round_go (b := l2 5 4 (fL 3 ++ [S 63])) (ga (e_lss true (a := 3) (b := S'.σ 90) rfl rfl (by simpa using q1)) gn) q2 (one_fact (@smF_ok S' 43 2 (S 63) _ (by decide) rfl q3) rfl) rfl rfl rfl rfl rfl (@imp4 S' _ _ _ _ (h.w2 (S' := S') rfl (i := 3) (v := S 63) rfl)) (w6_5_3_T _ _ _ _ _ _ _)
  · exact round_go (b := l2 5 4 (fL 3 ++ [I 0])) (ga (e_lss false (a := 3) (b := S'.σ 90) rfl rfl (by simpa using q1)) gn) h.mem gn rfl rfl rfl rfl rfl (@imp4 S' _ _ _ _ (h.w2 (S' := S') rfl (i := 3) (v := I 0) (by show some 0 = some (S'.σ 63); rw [q2]))) (w6_5_3_F _ _ _ _ _ _ _)
theorem rb_5_4 {S' : Sig} {A : Nat → List Int} {at_ : Nat → Nat} (h : Tw S'.σ S'.val S'.gf 5 A at_) : ∀ B, @Goes S' Tryd.prog (@GT S') B 0 x2 (frL (l2 5 4 (fL 4))) (stL (l2 5 4 (fL 4))) .nor (frL (l2 5 5 (fL 5))) (stL (l2 5 5 (fL 5))) := by
  rcases h.fw 4 (by decide) with ⟨q1, q2, q3⟩ | ⟨q1, q2⟩
  · exact round_go (b := l2 5 5 (fL 4 ++ [S 64])) (ga (e_lss true (a := 4) (b := S'.σ 90) rfl rfl (by simpa using q1)) gn) q2 (one_fact (@smF_ok S' 44 2 (S 64) _ (by decide) rfl q3) rfl) rfl rfl rfl rfl rfl (@imp4 S' _ _ _ _ (h.w2 (S' := S') rfl (i := 4) (v := S 64) rfl)) (w6_5_4_T _ _ _ _ _ _ _)
  · exact round_go (b := l2 5 5 (fL 4 ++ [I 0])) (ga (e_lss false (a := 4) (b := S'.σ 90) rfl rfl (by simpa using q1)) gn) h.mem gn rfl rfl rfl rfl rfl (@imp4 S' _ _ _ _ (h.w2 (S' := S') rfl (i := 4) (v := I 0) (by show some 0 = some (S'.σ 64); rw [q2]))) (w6_5_4_F _ _ _ _ _ _ _)
theorem ra_all {S' : Sig} {n x : Nat} {A : Nat → List Int} {at_ : Nat → Nat} (h : Tw S'.σ S'.val S'.gf n A at_) (hx : x < n) : ∀ B, @Goes S' Tryd.prog (@GT S') B 0 x1 (frL (l1 n x (aL x))) (stL (l1 n x (aL x))) .nor (frL (l1 n (x + 1) (aL (x + 1)))) (stL (l1 n (x + 1) (aL (x + 1)))) := by
  have hn := h.hn
  match n, hn, x, hx, h with
  | 1, _, 0, _, h => exact ra_1_0 h
  | 1, _, k + 1, hx, _ => exact absurd hx (by omega)
  | 2, _, 0, _, h => exact ra_2_0 h
  | 2, _, 1, _, h => exact ra_2_1 h
  | 2, _, k + 2, hx, _ => exact absurd hx (by omega)
  | 3, _, 0, _, h => exact ra_3_0 h
  | 3, _, 1, _, h => exact ra_3_1 h
  | 3, _, 2, _, h => exact ra_3_2 h
  | 3, _, k + 3, hx, _ => exact absurd hx (by omega)
  | 4, _, 0, _, h => exact ra_4_0 h
  | 4, _, 1, _, h => exact ra_4_1 h
  | 4, _, 2, _, h => exact ra_4_2 h
  | 4, _, 3, _, h => exact ra_4_3 h
  | 4, _, k + 4, hx, _ => exact absurd hx (by omega)
  | 5, _, 0, _, h => exact ra_5_0 h
  | 5, _, 1, _, h => exact ra_5_1 h
  | 5, _, 2, _, h => exact ra_5_2 h
  | 5, _, 3, _, h => exact ra_5_3 h
  | 5, _, 4, _, h => exact ra_5_4 h
  | 5, _, k + 5, hx, _ => exact absurd hx (by omega)
  | 0, _, _, hx, _ => exact absurd hx (by omega)
  | k + 6, hn, _, _, _ => exact absurd hn (by omega)
theorem rb_all {S' : Sig} {n x : Nat} {A : Nat → List Int} {at_ : Nat → Nat} (h : Tw S'.σ S'.val S'.gf n A at_) (hx : x < n) : ∀ B, @Goes S' Tryd.prog (@GT S') B 0 x2 (frL (l2 n x (fL x))) (stL (l2 n x (fL x))) .nor (frL (l2 n (x + 1) (fL (x + 1)))) (stL (l2 n (x + 1) (fL (x + 1)))) := by
  have hn := h.hn
  match n, hn, x, hx, h with
  | 1, _, 0, _, h => exact rb_1_0 h
  | 1, _, k + 1, hx, _ => exact absurd hx (by omega)
  | 2, _, 0, _, h => exact rb_2_0 h
  | 2, _, 1, _, h => exact rb_2_1 h
  | 2, _, k + 2, hx, _ => exact absurd hx (by omega)
  | 3, _, 0, _, h => exact rb_3_0 h
  | 3, _, 1, _, h => exact rb_3_1 h
  | 3, _, 2, _, h => exact rb_3_2 h
  | 3, _, k + 3, hx, _ => exact absurd hx (by omega)
  | 4, _, 0, _, h => exact rb_4_0 h
  | 4, _, 1, _, h => exact rb_4_1 h
  | 4, _, 2, _, h => exact rb_4_2 h
  | 4, _, 3, _, h => exact rb_4_3 h
  | 4, _, k + 4, hx, _ => exact absurd hx (by omega)
  | 5, _, 0, _, h => exact rb_5_0 h
  | 5, _, 1, _, h => exact rb_5_1 h
  | 5, _, 2, _, h => exact rb_5_2 h
  | 5, _, 3, _, h => exact rb_5_3 h
  | 5, _, 4, _, h => exact rb_5_4 h
  | 5, _, k + 5, hx, _ => exact absurd hx (by omega)
  | 0, _, _, hx, _ => exact absurd hx (by omega)
  | k + 6, hn, _, _, _ => exact absurd hn (by omega)
end Go.Proofs.YtbadfjogakhhbaaDoor.Re
