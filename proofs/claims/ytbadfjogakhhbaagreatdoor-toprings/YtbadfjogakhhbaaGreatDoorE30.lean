/- TopRings: put together. -/
import Derived.Test.YtbadfjogakhhbaaGreatDoorE27
import Derived.Test.YtbadfjogakhhbaaGreatDoorE29
namespace Go.Proofs.YtbadfjogakhhbaaGreatDoor.Re
open Go Go.RowKit
set_option linter.unusedVariables false
set_option linter.unusedSimpArgs false
set_option linter.unusedSectionVars false
theorem caseR {p q r s : Int} (hp : 1 ≤ p) (hq : 1 ≤ q) (hr : 1 ≤ r) (hs : 1 ≤ s) : ∃ qp eqp rs ers c ec : Bool, (qp = true ↔ q < p) ∧ (eqp = true ↔ q = p) ∧ (rs = true ↔ r < s) ∧ (ers = true ↔ r = s) ∧ (c = true ↔ r * p < q * s) ∧ (ec = true ↔ r * p = q * s) ∧
    ∀ (X : List Row) (σ gt gw ok), @runS (SG σ gt gw (tabR qp eqp rs ers c ec ++ X) ok) Tryz.prog (@GT (SG σ gt gw (tabR qp eqp rs ers c ec ++ X) ok)) (KK (fR qp rs c) [dC]) 4000 4 dR.args [] = endR dR := by
  have k1 : q ≤ p → s ≤ r → q * s ≤ r * p := fun h1 h2 => by rw [Int.mul_comm r p]; exact Int.mul_le_mul h1 h2 (by omega) (by omega)
  have k2 : q < p → s ≤ r → q * s < r * p := fun h1 h2 => by rw [Int.mul_comm r p]; exact Int.lt_of_lt_of_le (Int.mul_lt_mul_of_pos_right h1 (by omega)) (Int.mul_le_mul_of_nonneg_left h2 (by omega))
  have k3 : q ≤ p → s < r → q * s < r * p := fun h1 h2 => by rw [Int.mul_comm r p]; exact Int.lt_of_lt_of_le (Int.mul_lt_mul_of_pos_left h2 (by omega)) (Int.mul_le_mul_of_nonneg_right h1 (by omega))
  have k4 : p ≤ q → r ≤ s → r * p ≤ q * s := fun h1 h2 => by rw [Int.mul_comm r p]; exact Int.mul_le_mul h1 h2 (by omega) (by omega)
  have k5 : p < q → r ≤ s → r * p < q * s := fun h1 h2 => by rw [Int.mul_comm r p]; exact Int.lt_of_lt_of_le (Int.mul_lt_mul_of_pos_right h1 (by omega)) (Int.mul_le_mul_of_nonneg_left h2 (by omega))
  have k6 : p ≤ q → r < s → r * p < q * s := fun h1 h2 => by rw [Int.mul_comm r p]; exact Int.lt_of_lt_of_le (Int.mul_lt_mul_of_pos_left h2 (by omega)) (Int.mul_le_mul_of_nonneg_right h1 (by omega))
  generalize r * p = z at *
  generalize q * s = t at *
  rcases Int.lt_trichotomy q p with h1 | h1 | h1 <;> rcases Int.lt_trichotomy r s with h2 | h2 | h2 <;> rcases Int.lt_trichotomy z t with h3 | h3 | h3
  · exact ⟨true, false, true, false, true, false, by simp <;> omega, by simp <;> omega, by simp <;> omega, by simp <;> omega, by simp <;> omega, by simp <;> omega, rr_lt_lt_lt⟩
  · exact ⟨true, false, true, false, false, true, by simp <;> omega, by simp <;> omega, by simp <;> omega, by simp <;> omega, by simp <;> omega, by simp <;> omega, rr_lt_lt_eq⟩
  · exact ⟨true, false, true, false, false, false, by simp <;> omega, by simp <;> omega, by simp <;> omega, by simp <;> omega, by simp <;> omega, by simp <;> omega, rr_lt_lt_gt⟩
  · exact absurd h3 (by omega)
  · exact absurd h3 (by omega)
  · exact ⟨true, false, false, true, false, false, by simp <;> omega, by simp <;> omega, by simp <;> omega, by simp <;> omega, by simp <;> omega, by simp <;> omega, rr_lt_eq_gt⟩
  · exact absurd h3 (by omega)
  · exact absurd h3 (by omega)
  · exact ⟨true, false, false, false, false, false, by simp <;> omega, by simp <;> omega, by simp <;> omega, by simp <;> omega, by simp <;> omega, by simp <;> omega, rr_lt_gt_gt⟩
  · exact ⟨false, true, true, false, true, false, by simp <;> omega, by simp <;> omega, by simp <;> omega, by simp <;> omega, by simp <;> omega, by simp <;> omega, rr_eq_lt_lt⟩
  · exact absurd h3 (by omega)
  · exact absurd h3 (by omega)
  · exact absurd h3 (by omega)
  · exact ⟨false, true, false, true, false, true, by simp <;> omega, by simp <;> omega, by simp <;> omega, by simp <;> omega, by simp <;> omega, by simp <;> omega, rr_eq_eq_eq⟩
  · exact absurd h3 (by omega)
  · exact absurd h3 (by omega)
  · exact absurd h3 (by omega)
  · exact ⟨false, true, false, false, false, false, by simp <;> omega, by simp <;> omega, by simp <;> omega, by simp <;> omega, by simp <;> omega, by simp <;> omega, rr_eq_gt_gt⟩
  · exact ⟨false, false, true, false, true, false, by simp <;> omega, by simp <;> omega, by simp <;> omega, by simp <;> omega, by simp <;> omega, by simp <;> omega, rr_gt_lt_lt⟩
  · exact absurd h3 (by omega)
  · exact absurd h3 (by omega)
  · exact ⟨false, false, false, true, true, false, by simp <;> omega, by simp <;> omega, by simp <;> omega, by simp <;> omega, by simp <;> omega, by simp <;> omega, rr_gt_eq_lt⟩
  · exact absurd h3 (by omega)
  · exact absurd h3 (by omega)
  · exact ⟨false, false, false, false, true, false, by simp <;> omega, by simp <;> omega, by simp <;> omega, by simp <;> omega, by simp <;> omega, by simp <;> omega, rr_gt_gt_lt⟩
  · exact ⟨false, false, false, false, false, true, by simp <;> omega, by simp <;> omega, by simp <;> omega, by simp <;> omega, by simp <;> omega, by simp <;> omega, rr_gt_gt_eq⟩
  · exact ⟨false, false, false, false, false, false, by simp <;> omega, by simp <;> omega, by simp <;> omega, by simp <;> omega, by simp <;> omega, by simp <;> omega, rr_gt_gt_gt⟩
theorem caseC {x y z t : Int} (hx : x ≤ y) (hz : z ≤ t) : ∃ g1 l1 g2 l2 g3 l3 g4 l4 : Bool, (g1 = true ↔ z < x) ∧ (l1 = true ↔ x < z) ∧ (g2 = true ↔ t < x) ∧ (l2 = true ↔ x < t) ∧ (g3 = true ↔ z < y) ∧ (l3 = true ↔ y < z) ∧ (g4 = true ↔ t < y) ∧ (l4 = true ↔ y < t) ∧
    ∃ m l e : Nat, m + l ≤ 4 ∧ ∀ (qp eqp rs ers c ec : Bool) (σ gt gw ok), @runS (SG σ gt gw (tabR qp eqp rs ers c ec ++ tabC g1 l1 g2 l2 g3 l3 g4 l4) ok) Tryz.prog (@GT (SG σ gt gw (tabR qp eqp rs ers c ec ++ tabC g1 l1 g2 l2 g3 l3 g4 l4) ok)) (KK [] []) 4000 12 (dCn m l e).args (dCn m l e).pre = endR (dCn m l e) := by
  rcases Int.lt_trichotomy x z with h1 | h1 | h1 <;> rcases Int.lt_trichotomy x t with h2 | h2 | h2 <;> rcases Int.lt_trichotomy y z with h3 | h3 | h3 <;> rcases Int.lt_trichotomy y t with h4 | h4 | h4
  · exact ⟨false, true, false, true, false, true, false, true, by simp <;> omega, by simp <;> omega, by simp <;> omega, by simp <;> omega, by simp <;> omega, by simp <;> omega, by simp <;> omega, by simp <;> omega, 0, 4, 0, by omega, fun qp eqp rs ers c ec => cc_lt_lt_lt_lt⟩
  · exact absurd h4 (by omega)
  · exact absurd h4 (by omega)
  · exact ⟨false, true, false, true, false, false, false, true, by simp <;> omega, by simp <;> omega, by simp <;> omega, by simp <;> omega, by simp <;> omega, by simp <;> omega, by simp <;> omega, by simp <;> omega, 0, 3, 1, by omega, fun qp eqp rs ers c ec => cc_lt_lt_eq_lt⟩
  · exact ⟨false, true, false, true, false, false, false, false, by simp <;> omega, by simp <;> omega, by simp <;> omega, by simp <;> omega, by simp <;> omega, by simp <;> omega, by simp <;> omega, by simp <;> omega, 0, 2, 2, by omega, fun qp eqp rs ers c ec => cc_lt_lt_eq_eq⟩
  · exact absurd h4 (by omega)
  · exact ⟨false, true, false, true, true, false, false, true, by simp <;> omega, by simp <;> omega, by simp <;> omega, by simp <;> omega, by simp <;> omega, by simp <;> omega, by simp <;> omega, by simp <;> omega, 1, 3, 0, by omega, fun qp eqp rs ers c ec => cc_lt_lt_gt_lt⟩
  · exact ⟨false, true, false, true, true, false, false, false, by simp <;> omega, by simp <;> omega, by simp <;> omega, by simp <;> omega, by simp <;> omega, by simp <;> omega, by simp <;> omega, by simp <;> omega, 1, 2, 1, by omega, fun qp eqp rs ers c ec => cc_lt_lt_gt_eq⟩
  · exact ⟨false, true, false, true, true, false, true, false, by simp <;> omega, by simp <;> omega, by simp <;> omega, by simp <;> omega, by simp <;> omega, by simp <;> omega, by simp <;> omega, by simp <;> omega, 2, 2, 0, by omega, fun qp eqp rs ers c ec => cc_lt_lt_gt_gt⟩
  · exact absurd h4 (by omega)
  · exact absurd h4 (by omega)
  · exact absurd h4 (by omega)
  · exact absurd h4 (by omega)
  · exact absurd h4 (by omega)
  · exact absurd h4 (by omega)
  · exact absurd h4 (by omega)
  · exact absurd h4 (by omega)
  · exact absurd h4 (by omega)
  · exact absurd h4 (by omega)
  · exact absurd h4 (by omega)
  · exact absurd h4 (by omega)
  · exact absurd h4 (by omega)
  · exact absurd h4 (by omega)
  · exact absurd h4 (by omega)
  · exact absurd h4 (by omega)
  · exact absurd h4 (by omega)
  · exact absurd h4 (by omega)
  · exact absurd h4 (by omega)
  · exact absurd h4 (by omega)
  · exact absurd h4 (by omega)
  · exact ⟨false, false, false, true, false, false, false, true, by simp <;> omega, by simp <;> omega, by simp <;> omega, by simp <;> omega, by simp <;> omega, by simp <;> omega, by simp <;> omega, by simp <;> omega, 0, 2, 2, by omega, fun qp eqp rs ers c ec => cc_eq_lt_eq_lt⟩
  · exact absurd h4 (by omega)
  · exact absurd h4 (by omega)
  · exact ⟨false, false, false, true, true, false, false, true, by simp <;> omega, by simp <;> omega, by simp <;> omega, by simp <;> omega, by simp <;> omega, by simp <;> omega, by simp <;> omega, by simp <;> omega, 1, 2, 1, by omega, fun qp eqp rs ers c ec => cc_eq_lt_gt_lt⟩
  · exact ⟨false, false, false, true, true, false, false, false, by simp <;> omega, by simp <;> omega, by simp <;> omega, by simp <;> omega, by simp <;> omega, by simp <;> omega, by simp <;> omega, by simp <;> omega, 1, 1, 2, by omega, fun qp eqp rs ers c ec => cc_eq_lt_gt_eq⟩
  · exact ⟨false, false, false, true, true, false, true, false, by simp <;> omega, by simp <;> omega, by simp <;> omega, by simp <;> omega, by simp <;> omega, by simp <;> omega, by simp <;> omega, by simp <;> omega, 2, 1, 1, by omega, fun qp eqp rs ers c ec => cc_eq_lt_gt_gt⟩
  · exact absurd h4 (by omega)
  · exact absurd h4 (by omega)
  · exact absurd h4 (by omega)
  · exact absurd h4 (by omega)
  · exact ⟨false, false, false, false, false, false, false, false, by simp <;> omega, by simp <;> omega, by simp <;> omega, by simp <;> omega, by simp <;> omega, by simp <;> omega, by simp <;> omega, by simp <;> omega, 0, 0, 4, by omega, fun qp eqp rs ers c ec => cc_eq_eq_eq_eq⟩
  · exact absurd h4 (by omega)
  · exact absurd h4 (by omega)
  · exact absurd h4 (by omega)
  · exact ⟨false, false, false, false, true, false, true, false, by simp <;> omega, by simp <;> omega, by simp <;> omega, by simp <;> omega, by simp <;> omega, by simp <;> omega, by simp <;> omega, by simp <;> omega, 2, 0, 2, by omega, fun qp eqp rs ers c ec => cc_eq_eq_gt_gt⟩
  · exact absurd h4 (by omega)
  · exact absurd h4 (by omega)
  · exact absurd h4 (by omega)
  · exact absurd h4 (by omega)
  · exact absurd h4 (by omega)
  · exact absurd h4 (by omega)
  · exact absurd h4 (by omega)
  · exact absurd h4 (by omega)
  · exact absurd h4 (by omega)
  · exact absurd h4 (by omega)
  · exact absurd h4 (by omega)
  · exact absurd h4 (by omega)
  · exact absurd h4 (by omega)
  · exact absurd h4 (by omega)
  · exact absurd h4 (by omega)
  · exact ⟨true, false, false, true, true, false, false, true, by simp <;> omega, by simp <;> omega, by simp <;> omega, by simp <;> omega, by simp <;> omega, by simp <;> omega, by simp <;> omega, by simp <;> omega, 2, 2, 0, by omega, fun qp eqp rs ers c ec => cc_gt_lt_gt_lt⟩
  · exact ⟨true, false, false, true, true, false, false, false, by simp <;> omega, by simp <;> omega, by simp <;> omega, by simp <;> omega, by simp <;> omega, by simp <;> omega, by simp <;> omega, by simp <;> omega, 2, 1, 1, by omega, fun qp eqp rs ers c ec => cc_gt_lt_gt_eq⟩
  · exact ⟨true, false, false, true, true, false, true, false, by simp <;> omega, by simp <;> omega, by simp <;> omega, by simp <;> omega, by simp <;> omega, by simp <;> omega, by simp <;> omega, by simp <;> omega, 3, 1, 0, by omega, fun qp eqp rs ers c ec => cc_gt_lt_gt_gt⟩
  · exact absurd h4 (by omega)
  · exact absurd h4 (by omega)
  · exact absurd h4 (by omega)
  · exact absurd h4 (by omega)
  · exact absurd h4 (by omega)
  · exact absurd h4 (by omega)
  · exact absurd h4 (by omega)
  · exact ⟨true, false, false, false, true, false, false, false, by simp <;> omega, by simp <;> omega, by simp <;> omega, by simp <;> omega, by simp <;> omega, by simp <;> omega, by simp <;> omega, by simp <;> omega, 2, 0, 2, by omega, fun qp eqp rs ers c ec => cc_gt_eq_gt_eq⟩
  · exact ⟨true, false, false, false, true, false, true, false, by simp <;> omega, by simp <;> omega, by simp <;> omega, by simp <;> omega, by simp <;> omega, by simp <;> omega, by simp <;> omega, by simp <;> omega, 3, 0, 1, by omega, fun qp eqp rs ers c ec => cc_gt_eq_gt_gt⟩
  · exact absurd h4 (by omega)
  · exact absurd h4 (by omega)
  · exact absurd h4 (by omega)
  · exact absurd h4 (by omega)
  · exact absurd h4 (by omega)
  · exact absurd h4 (by omega)
  · exact absurd h4 (by omega)
  · exact absurd h4 (by omega)
  · exact ⟨true, false, true, false, true, false, true, false, by simp <;> omega, by simp <;> omega, by simp <;> omega, by simp <;> omega, by simp <;> omega, by simp <;> omega, by simp <;> omega, by simp <;> omega, 4, 0, 0, by omega, fun qp eqp rs ers c ec => cc_gt_gt_gt_gt⟩
theorem gcd_parts {x y : Nat} (h1 : 1 ≤ x) (h2 : x ≤ 20) (h3 : 1 ≤ y) (h4 : y ≤ 20) : 1 ≤ x / Nat.gcd x y ∧ x / Nat.gcd x y ≤ 20 ∧ 1 ≤ y / Nat.gcd x y ∧ y / Nat.gcd x y ≤ 20 ∧ x / Nat.gcd x y * y = y / Nat.gcd x y * x := by
  have hg : 0 < Nat.gcd x y := Nat.gcd_pos_of_pos_left y h1
  obtain ⟨a, ha⟩ := Nat.gcd_dvd_left x y
  obtain ⟨b, hb⟩ := Nat.gcd_dvd_right x y
  have e1 : x / Nat.gcd x y = a := by conv => lhs; lhs; rw [ha]
                                      exact Nat.mul_div_cancel_left a hg
  have e2 : y / Nat.gcd x y = b := by conv => lhs; lhs; rw [hb]
                                      exact Nat.mul_div_cancel_left b hg
  rw [e1, e2]
  have p1 : 1 ≤ a := by
    rcases Nat.eq_zero_or_pos a with h | h
    · rw [h, Nat.mul_zero] at ha; omega
    · exact h
  have p2 : 1 ≤ b := by
    rcases Nat.eq_zero_or_pos b with h | h
    · rw [h, Nat.mul_zero] at hb; omega
    · exact h
  have l1 : a ≤ x := by conv => rhs; rw [ha]
                        exact Nat.le_mul_of_pos_left a hg
  have l2 : b ≤ y := by conv => rhs; rw [hb]
                        exact Nat.le_mul_of_pos_left b hg
  refine ⟨p1, by omega, p2, by omega, ?_⟩
  have : a * y = b * x := by
    conv => lhs; rw [hb]
    conv => rhs; rw [ha]
    generalize Nat.gcd x y = g
    rw [Nat.mul_left_comm, Nat.mul_left_comm b, Nat.mul_comm a b]
  exact this
theorem rings_go (o : Nat → Int) (gt gw : TypeId) {p q r s : Nat} (hp : 1 ≤ p ∧ p ≤ 20) (hq : 1 ≤ q ∧ q ≤ 20) (hr : 1 ≤ r ∧ r ≤ 20) (hs : 1 ≤ s ∧ s ≤ 20) (h0 : smallI (o 0) (.ofNat 19) = (p : Int) - 1) (h1 : smallI (o 1) (.ofNat 19) = (q : Int) - 1) (h2 : smallI (o 2) (.ofNat 19) = (r : Int) - 1) (h3 : smallI (o 3) (.ofNat 19) = (s : Int) - 1) :
    ∃ (σ : Nat → Int) (tb : SK → V → V → Option V) (ok : _), (∀ i, i < 4 → σ i = o i) ∧ @SFactOK ⟨σ, gt, gw, tb, ok⟩ Tryz.prog (@GT ⟨σ, gt, gw, tb, ok⟩) dR := by
  obtain ⟨qp, eqp, rs, ers, c, ec, i1, i2, i3, i4, i5, i6, hrun⟩ := caseR (p := p) (q := q) (r := r) (s := s) (by omega) (by omega) (by omega) (by omega)
  have hmn : ∀ x y : Int, (if y < x then y else x) ≤ (if x < y then y else x) := fun x y => by split <;> split <;> omega
  have hin : ∀ x y : Int, 1 ≤ x ∧ x ≤ 20 → 1 ≤ y ∧ y ≤ 20 → (1 ≤ (if y < x then y else x)) ∧ (if x < y then y else x) ≤ 20 := fun x y hx hy => by constructor <;> split <;> omega
  obtain ⟨g1, l1, g2, l2, g3, l3, g4, l4, j1, j2, j3, j4, j5, j6, j7, j8, m, l, e, hml, hcmp⟩ := caseC (hmn p q) (hmn r s)
  obtain ⟨a1, a2, b1, b2, x1⟩ := gcd_parts hq.1 hq.2 hp.1 hp.2
  obtain ⟨u1, u2, v1, v2, x2⟩ := gcd_parts hr.1 hr.2 hs.1 hs.2
  generalize ea : q / Nat.gcd q p = a at *
  generalize eb : p / Nat.gcd q p = b at *
  generalize eu : r / Nat.gcd r s = u at *
  generalize ev : s / Nat.gcd r s = v at *
  have H : PrR (p : Int) q r s a b u v := ⟨by omega, by omega, by omega, by omega, by omega, by omega, by omega, by omega, by exact_mod_cast x1, by exact_mod_cast x2⟩
  have okA := tabR_ok (o := o) (m := m) (l := l) (e := e) H (by omega) i1 i2 i3 i4 i5 i6
  have okC := tabC_ok (σ := sgR o p q r s a b u v m l e) (by have h := hin p q (by omega) (by omega); exact ⟨h.1, hmn _ _, h.2⟩) (by have h := hin r s (by omega) (by omega); exact ⟨h.1, hmn _ _, h.2⟩) j1 j2 j3 j4 j5 j6 j7 j8
  have ok : ∀ x ∈ tabR qp eqp rs ers c ec ++ tabC g1 l1 g2 l2 g3 l3 g4 l4, EOK (sgR o p q r s a b u v m l e) x := fun x hx => (List.mem_append.1 hx).elim (okA x) (okC x)
  refine ⟨sgR o p q r s a b u v m l e, _, tbOf_ok ok, fun i hi => ?_, ?_⟩
  · match i, hi with
    | 0, _ => rfl
    | 1, _ => rfl
    | 2, _ => rfl
    | 3, _ => rfl
  · letI : Sig := SG (sgR o p q r s a b u v m l e) gt gw _ ok
    have hC : SOK dC := by
      have h := sr (l := []) (s := []) fn fn (dCn m l e) (hcmp qp eqp rs ers c ec _ gt gw ok) rfl rfl
      refine ⟨h.1.words rfl rfl rfl rfl (fun E x hx => ?_), rfl⟩
      obtain ⟨us, rfl, y1, r1, e1, w1, y2, r2, e2, w2, y3, r3, e3, w3, y4, r4, e4, w4, e5⟩ := hx
      exact ⟨us, rfl, y1, r1, e1, w1, y2, r2, e2, w2, y3, r3, e3, w3, y4, r4, e4, w4, e5⟩
    have bnd : ∀ x y : Int, 1 ≤ x ∧ x ≤ 20 → 1 ≤ y ∧ y ≤ 20 → -1000000 ≤ x * y ∧ x * y ≤ 1000000 := fun x y => mul_in
    have q1 : (1 : Int) ≤ 1 ∧ (1 : Int) ≤ 20 := by omega
    have B := fun x y hx hy => bnd x y hx hy
    have hl : ∀ t ∈ fR qp rs c, FOK t := by
      unfold fR
      refine fa (small_sym (i := 0) (j := 10) (m := 19) h0 (by kernel_rfl)) <| fa (small_sym (i := 1) (j := 11) (m := 19) h1 (by kernel_rfl)) <| fa (small_sym (i := 2) (j := 12) (m := 19) h2 (by kernel_rfl)) <| fa (small_sym (i := 3) (j := 13) (m := 19) h3 (by kernel_rfl)) <|
        fa (lowest_fact (a := q) (b := p) hq.1 hq.2 hp.1 hp.2 rfl rfl (by rw [ea]; rfl) (by rw [eb]; rfl)) <| fa (lowest_fact (a := r) (b := s) hr.1 hr.2 hs.1 hs.2 rfl rfl (by rw [eu]; rfl) (by rw [ev]; rfl)) <|
        fa (lowest_fact (a := p) (b := p) hp.1 hp.2 hp.1 hp.2 rfl rfl (by rw [Nat.gcd_self, Nat.div_self (by omega)]; rfl) (by rw [Nat.gcd_self, Nat.div_self (by omega)]; rfl)) <| fa (lowest_fact (a := s) (b := s) hs.1 hs.2 hs.1 hs.2 rfl rfl (by rw [Nat.gcd_self, Nat.div_self (by omega)]; rfl) (by rw [Nat.gcd_self, Nat.div_self (by omega)]; rfl)) <|
        fa (less_fact (a := a) (b := b) (c := 1) (d := 1) rfl rfl rfl rfl qp ?_ ?_) <| fa (less_fact (a := u) (b := v) (c := 1) (d := 1) rfl rfl rfl rfl rs ?_ ?_) <| fa (less_fact (a := u) (b := v) (c := a) (d := b) rfl rfl rfl rfl c ?_ ?_) <| fa nine_fact fn
      · rw [Int.mul_one, Int.one_mul, i1]; exact H.c3.symm
      · exact ⟨(B _ _ H.ha q1).1, (B _ _ H.ha q1).2, (B _ _ q1 H.hb).1, (B _ _ q1 H.hb).2⟩
      · rw [Int.mul_one, Int.one_mul, i3]; exact H.c4.symm
      · exact ⟨(B _ _ H.hu q1).1, (B _ _ H.hu q1).2, (B _ _ q1 H.hv).1, (B _ _ q1 H.hv).2⟩
      · rw [i5]; exact H.c5.symm
      · exact ⟨(B _ _ H.hu H.hb).1, (B _ _ H.hu H.hb).2, (B _ _ H.ha H.hv).1, (B _ _ H.ha H.hv).2⟩
    exact (sr hl (fa hC fn) dR (hrun _ _ gt gw ok) rfl rfl).1
end Go.Proofs.YtbadfjogakhhbaaGreatDoor.Re
