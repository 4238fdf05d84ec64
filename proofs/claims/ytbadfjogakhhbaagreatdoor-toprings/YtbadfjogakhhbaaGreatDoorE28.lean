/- TopRings: the table of its unknown numbers is right. -/
import Derived.Test.YtbadfjogakhhbaaGreatDoorE26
namespace Go.Proofs.YtbadfjogakhhbaaGreatDoor.Re
open Go Go.RowKit
set_option linter.unusedVariables false
set_option linter.unusedSimpArgs false
set_option linter.unusedSectionVars false
theorem gn {α : Type} {Q : α → Prop} : ∀ t ∈ ([] : List α), Q t := fun _ h => by cases h
theorem ga {α : Type} {Q : α → Prop} {a : α} {l : List α} (h : Q a) (k : ∀ t ∈ l, Q t) : ∀ t ∈ a :: l, Q t := List.forall_mem_cons.2 ⟨h, k⟩
/-- The prices p, q, r, s; q / p = a / b; r / s = u / v. -/
structure PrR (p q r s a b u v : Int) : Prop where
  hp : 1 ≤ p ∧ p ≤ 20
  hq : 1 ≤ q ∧ q ≤ 20
  hr : 1 ≤ r ∧ r ≤ 20
  hs : 1 ≤ s ∧ s ≤ 20
  ha : 1 ≤ a ∧ a ≤ 20
  hb : 1 ≤ b ∧ b ≤ 20
  hu : 1 ≤ u ∧ u ≤ 20
  hv : 1 ≤ v ∧ v ≤ 20
  x1 : a * p = b * q
  x2 : u * s = v * r
theorem lt_scale {k l x y z t : Int} (hk : 0 < k) (hl : 0 < l) (h1 : k * x = l * z) (h2 : k * y = l * t) : x < y ↔ z < t := by
  rw [← Int.mul_lt_mul_left hk, h1, h2, Int.mul_lt_mul_left hl]
theorem eq_scale {k l x y z t : Int} (hk : 0 < k) (hl : 0 < l) (h1 : k * x = l * z) (h2 : k * y = l * t) : x = y ↔ z = t := by
  constructor
  · intro h
    subst h
    exact Int.eq_of_mul_eq_mul_left (Int.ne_of_gt hl) (h1.symm.trans h2)
  · intro h
    subst h
    exact Int.eq_of_mul_eq_mul_left (Int.ne_of_gt hk) (h1.trans h2.symm)
section
variable {p q r s a b u v : Int} (H : PrR p q r s a b u v)
include H
theorem PrR.k1 : q * (b * r) = a * (r * p) := by
  rw [← Int.mul_assoc, Int.mul_comm q b, ← H.x1, Int.mul_assoc, Int.mul_comm p r]
theorem PrR.k2 : q * (a * s) = a * (q * s) := by rw [← Int.mul_assoc, Int.mul_comm q a, Int.mul_assoc]
theorem PrR.k3 : r * (v * q) = u * (q * s) := by
  rw [← Int.mul_assoc, Int.mul_comm r v, ← H.x2, Int.mul_assoc, Int.mul_comm s q]
theorem PrR.k4 : r * (u * p) = u * (r * p) := by rw [← Int.mul_assoc, Int.mul_comm r u, Int.mul_assoc]
theorem PrR.c1 : b * r < a * s ↔ r * p < q * s := lt_scale (show 0 < q by have := H.hq; omega) (show 0 < a by have := H.ha; omega) H.k1 H.k2
theorem PrR.c1e : b * r = a * s ↔ r * p = q * s := eq_scale (show 0 < q by have := H.hq; omega) (show 0 < a by have := H.ha; omega) H.k1 H.k2
theorem PrR.c2 : v * q < u * p ↔ q * s < r * p := lt_scale (show 0 < r by have := H.hr; omega) (show 0 < u by have := H.hu; omega) H.k3 H.k4
theorem PrR.c2e : v * q = u * p ↔ q * s = r * p := eq_scale (show 0 < r by have := H.hr; omega) (show 0 < u by have := H.hu; omega) H.k3 H.k4
theorem PrR.c3 : a < b ↔ q < p := lt_scale (show 0 < q by have := H.hq; omega) (show 0 < a by have := H.ha; omega) (Int.mul_comm q a) (by rw [Int.mul_comm, ← H.x1])
theorem PrR.c4 : u < v ↔ r < s := lt_scale (show 0 < r by have := H.hr; omega) (show 0 < u by have := H.hu; omega) (Int.mul_comm r u) (by rw [Int.mul_comm, ← H.x2])
theorem PrR.c5 : u * b < a * v ↔ r * p < q * s := by
  have hq := H.hq
  have hs := H.hs
  have ha := H.ha
  have hv := H.hv
  refine lt_scale (k := q * s) (l := a * v) (Int.mul_pos (by omega) (by omega)) (Int.mul_pos (by omega) (by omega)) ?_ (Int.mul_comm _ _)
  have e : q * s * (u * b) = (b * q) * (u * s) := by
    rw [Int.mul_comm b q, Int.mul_comm u b, Int.mul_assoc, Int.mul_assoc, ← Int.mul_assoc s, Int.mul_comm s b, Int.mul_assoc, Int.mul_comm s u]
  have e2 : a * v * (r * p) = (a * p) * (v * r) := by
    rw [Int.mul_comm r p, Int.mul_assoc, Int.mul_assoc, ← Int.mul_assoc v, Int.mul_comm v p, Int.mul_assoc]
  rw [e, e2, ← H.x1, ← H.x2]
end
theorem mul_in {x y : Int} (hx : 1 ≤ x ∧ x ≤ 20) (hy : 1 ≤ y ∧ y ≤ 20) : -1000000 ≤ x * y ∧ x * y ≤ 1000000 := by
  have h1 := Int.mul_nonneg (show 0 ≤ x by omega) (show 0 ≤ y by omega)
  have h2 := Int.mul_le_mul hx.2 hy.2 (by omega) (by omega)
  omega
/-- What the numbers are. -/
def sgR (o : Nat → Int) (p q r s a b u v m l e : Int) : Nat → Int
  | 10 => p - 1
  | 11 => q - 1
  | 12 => r - 1
  | 13 => s - 1
  | 20 => p
  | 21 => q
  | 22 => r
  | 23 => s
  | 30 => a
  | 31 => b
  | 32 => u
  | 33 => v
  | 40 => a * s
  | 41 => b * r
  | 42 => u * p
  | 43 => v * q
  | 44 => q * s
  | 45 => r * p
  | 46 => a * p
  | 47 => b * q
  | 48 => u * s
  | 49 => v * r
  | 50 => if q < p then q else p
  | 51 => if p < q then q else p
  | 52 => if s < r then s else r
  | 53 => if r < s then s else r
  | 60 => m
  | 61 => l
  | 62 => e
  | 63 => m + l
  | n => o n
theorem tabR_ok {o : Nat → Int} {p q r s a b u v m l e : Int} (H : PrR p q r s a b u v) (hm : 0 ≤ m ∧ 0 ≤ l ∧ m + l ≤ 4) {qp eqp rs ers c ec : Bool} (h1 : qp = true ↔ q < p) (h2 : eqp = true ↔ q = p) (h3 : rs = true ↔ r < s) (h4 : ers = true ↔ r = s) (h5 : c = true ↔ r * p < q * s) (h6 : ec = true ↔ r * p = q * s) : ∀ x ∈ tabR qp eqp rs ers c ec, EOK (sgR o p q r s a b u v m l e) x := by
  obtain ⟨hp, hq, hr, hs, ha, hb, hu, hv, x1, x2⟩ := id H
  have c1 := H.c1
  have c1e := H.c1e
  have c2 := H.c2
  have c2e := H.c2e
  have e1 : (!(c || ec)) = true ↔ q * s < r * p := by
    cases c <;> cases ec <;> simp at h5 h6 ⊢ <;> omega
  have e2 : (qp || eqp) = true ↔ q ≤ p := by cases qp <;> cases eqp <;> simp at h1 h2 ⊢ <;> omega
  have e3 : (rs || ers) = true ↔ r ≤ s := by cases rs <;> cases ers <;> simp at h3 h4 ⊢ <;> omega
  have e4 : (!eqp) = true ↔ p ≠ q := by cases eqp <;> simp at h2 ⊢ <;> omega
  have e5 : (!ers) = true ↔ s ≠ r := by cases ers <;> simp at h4 ⊢ <;> omega
  unfold tabR
  exact ga (e_add (a := 1) (b := p - 1) (c := p) rfl rfl rfl (by omega) (by omega)) <|
    ga (e_add (a := 1) (b := q - 1) (c := q) rfl rfl rfl (by omega) (by omega)) <|
    ga (e_add (a := 1) (b := r - 1) (c := r) rfl rfl rfl (by omega) (by omega)) <|
    ga (e_add (a := 1) (b := s - 1) (c := s) rfl rfl rfl (by omega) (by omega)) <|
    ga (e_lss false (a := p) (b := 1) rfl rfl (by simp <;> omega)) <|
    ga (e_lss false (a := q) (b := 1) rfl rfl (by simp <;> omega)) <|
    ga (e_lss false (a := r) (b := 1) rfl rfl (by simp <;> omega)) <|
    ga (e_lss false (a := s) (b := 1) rfl rfl (by simp <;> omega)) <|
    ga (e_gtr false (a := p) (b := 20) rfl rfl (by simp <;> omega)) <|
    ga (e_gtr false (a := q) (b := 20) rfl rfl (by simp <;> omega)) <|
    ga (e_gtr false (a := r) (b := 20) rfl rfl (by simp <;> omega)) <|
    ga (e_gtr false (a := s) (b := 20) rfl rfl (by simp <;> omega)) <|
    ga (e_mul (a := p) (b := 1) (c := p) rfl rfl rfl (by omega) (by omega)) <|
    ga (e_mul (a := q) (b := 1) (c := q) rfl rfl rfl (by omega) (by omega)) <|
    ga (e_mul (a := r) (b := 1) (c := r) rfl rfl rfl (by omega) (by omega)) <|
    ga (e_mul (a := s) (b := 1) (c := s) rfl rfl rfl (by omega) (by omega)) <|
    ga (e_mul (a := p) (b := 0) (c := 0) rfl rfl rfl (by omega) (by omega)) <|
    ga (e_mul (a := q) (b := 0) (c := 0) rfl rfl rfl (by omega) (by omega)) <|
    ga (e_mul (a := r) (b := 0) (c := 0) rfl rfl rfl (by omega) (by omega)) <|
    ga (e_mul (a := s) (b := 0) (c := 0) rfl rfl rfl (by omega) (by omega)) <|
    ga (e_add (a := 0) (b := p) (c := p) rfl rfl rfl (by omega) (by omega)) <|
    ga (e_add (a := 0) (b := q) (c := q) rfl rfl rfl (by omega) (by omega)) <|
    ga (e_add (a := 0) (b := r) (c := r) rfl rfl rfl (by omega) (by omega)) <|
    ga (e_add (a := 0) (b := s) (c := s) rfl rfl rfl (by omega) (by omega)) <|
    ga (e_add (a := p) (b := 0) (c := p) rfl rfl rfl (by omega) (by omega)) <|
    ga (e_add (a := q) (b := 0) (c := q) rfl rfl rfl (by omega) (by omega)) <|
    ga (e_add (a := r) (b := 0) (c := r) rfl rfl rfl (by omega) (by omega)) <|
    ga (e_add (a := s) (b := 0) (c := s) rfl rfl rfl (by omega) (by omega)) <|
    ga (e_mul (a := 1) (b := p) (c := p) rfl rfl rfl (by omega) (by omega)) <|
    ga (e_mul (a := 1) (b := q) (c := q) rfl rfl rfl (by omega) (by omega)) <|
    ga (e_mul (a := 1) (b := r) (c := r) rfl rfl rfl (by omega) (by omega)) <|
    ga (e_mul (a := 1) (b := s) (c := s) rfl rfl rfl (by omega) (by omega)) <|
    ga (e_lss _ rfl rfl h1) <|
    ga (e_eql _ rfl rfl h2) <|
    ga (e_leq _ rfl rfl e2) <|
    ga (e_neq _ rfl rfl e4) <|
    ga (e_lss _ rfl rfl h3) <|
    ga (e_eql _ rfl rfl h4) <|
    ga (e_leq _ rfl rfl e3) <|
    ga (e_neq _ rfl rfl e5) <|
    ga (e_mul rfl rfl rfl rfl (mul_in ha hs)) <|
    ga (e_mul rfl rfl rfl rfl (mul_in hb hr)) <|
    ga (e_mul rfl rfl rfl rfl (mul_in hu hp)) <|
    ga (e_mul rfl rfl rfl rfl (mul_in hv hq)) <|
    ga (e_mul rfl rfl rfl rfl (mul_in hq hs)) <|
    ga (e_mul rfl rfl rfl rfl (mul_in hr hp)) <|
    ga (e_mul rfl rfl rfl rfl (mul_in ha hp)) <|
    ga (e_mul rfl rfl rfl rfl (mul_in hb hq)) <|
    ga (e_mul rfl rfl rfl rfl (mul_in hu hs)) <|
    ga (e_mul rfl rfl rfl rfl (mul_in hv hr)) <|
    ga (e_lss _ rfl rfl (h5.trans c1.symm)) <|
    ga (e_eql _ rfl rfl (h6.trans c1e.symm)) <|
    ga (e_lss _ rfl rfl (e1.trans c2.symm)) <|
    ga (e_eql _ rfl rfl ((h6.trans eq_comm).trans c2e.symm)) <|
    ga (e_lss _ rfl rfl e1) <|
    ga (e_lss false (a := a) (b := 1) rfl rfl (by simp <;> omega)) <|
    ga (e_lss false (a := u) (b := 1) rfl rfl (by simp <;> omega)) <|
    ga (e_gtr false (a := b) (b := 20) rfl rfl (by simp <;> omega)) <|
    ga (e_gtr false (a := v) (b := 20) rfl rfl (by simp <;> omega)) <|
    ga (e_neq false (a := a * p) (b := b * q) rfl rfl (by simpa using x1)) <|
    ga (e_neq false (a := u * s) (b := v * r) rfl rfl (by simpa using x2)) <|
    ga (e_min rfl rfl rfl rfl) <|
    ga (e_max rfl rfl rfl rfl) <|
    ga (e_min rfl rfl rfl rfl) <|
    ga (e_max rfl rfl rfl rfl) <|
    ga (e_add (a := m) (b := l) (c := m + l) rfl rfl rfl (by omega) (by omega)) <|
    ga (e_leq true (a := m + l) (b := 4) rfl rfl (by simp <;> omega)) <|
    gn
end Go.Proofs.YtbadfjogakhhbaaGreatDoor.Re
