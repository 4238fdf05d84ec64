/- TopTastes: the numbers of all observations; the tables are right. -/
import Derived.Test.YtbadfjogakhhbaaGreatDoorF35
namespace Go.Proofs.YtbadfjogakhhbaaGreatDoor.Re
open Go Go.RowKit
set_option linter.unusedVariables false
set_option linter.unusedSimpArgs false
set_option linter.unusedSectionVars false
/-- One observation: how many faces; the cheapest good; prices; faces; the prices in order. -/
structure Obs where
  k : Nat
  at_ : Nat
  p0 : Nat
  p1 : Nat
  p2 : Nat
  d0 : Int
  d1 : Int
  d2 : Int
  q0 : Int
  q1 : Int
  q2 : Int
def Obs.c (o u : Obs) : Nat := pAtN o.p0 o.p1 o.p2 u.at_
structure OK1 (o : Obs) : Prop where
  b0 : 1 ≤ o.p0 ∧ o.p0 ≤ 20
  b1 : 1 ≤ o.p1 ∧ o.p1 ≤ 20
  b2 : 1 ≤ o.p2 ∧ o.p2 ≤ 20
  sh : (o.k = 0 ∧ o.at_ = 0 ∧ o.p0 = 1 ∧ o.p1 = 1 ∧ o.p2 = 1) ∨
    (o.k = 1 ∧ o.p0 = 1 + o.d0 ∧ o.p1 = 1 ∧ o.p2 = 1 ∧ ((o.at_ = 0 ∧ o.p0 = 1) ∨ (o.at_ = 1 ∧ 1 < o.p0))) ∨
    (o.k = 2 ∧ o.p0 = 1 + o.d0 ∧ o.p1 = 1 + o.d1 ∧ o.p2 = 1 ∧ o.p0 ≤ o.p1 ∧ ((o.at_ = 0 ∧ o.p0 = 1) ∨ (o.at_ = 2 ∧ 1 < o.p0))) ∨
    (o.k = 3 ∧ o.at_ = 0 ∧ o.p0 = 1 + o.d0 ∧ o.p1 = 1 + o.d1 ∧ o.p2 = 1 + o.d2 ∧ o.p0 ≤ o.p1 ∧ o.p1 ≤ o.p2)
  q : 1 ≤ o.q0 ∧ o.q0 ≤ o.q1 ∧ o.q1 ≤ o.q2 ∧ o.q2 ≤ 20
  m : o.q0 = (o.c o : Int)
theorem OK1.cin {o u : Obs} (h : OK1 o) : 1 ≤ o.c u ∧ o.c u ≤ 20 := by
  have b0 := h.b0
  have b1 := h.b1
  have b2 := h.b2
  unfold Obs.c pAtN
  split <;> omega
theorem OK1.cle {o u : Obs} (h : OK1 o) : o.c o ≤ o.c u := by
  have b0 := h.b0
  have b1 := h.b1
  have b2 := h.b2
  have sh := h.sh
  unfold Obs.c
  have h1 : pAtN o.p0 o.p1 o.p2 o.at_ ≤ o.p0 ∧ pAtN o.p0 o.p1 o.p2 o.at_ ≤ o.p1 ∧ pAtN o.p0 o.p1 o.p2 o.at_ ≤ o.p2 := by
    rcases sh with ⟨_, e, _⟩ | ⟨_, _, _, _, ⟨e, _⟩ | ⟨e, _⟩⟩ | ⟨_, _, _, _, _, ⟨e, _⟩ | ⟨e, _⟩⟩ | ⟨_, e, _⟩ <;> rw [e] <;> simp only [pAtN] <;> omega
  rw [show pAtN o.p0 o.p1 o.p2 u.at_ = match u.at_ with | 0 => o.p0 | 1 => o.p1 | _ => o.p2 by cases u.at_ with | zero => rfl | succ k => cases k <;> rfl]
  split <;> omega
def uAt (a j : Nat) : Int := if (if a ≤ 1 then a else 2) = j then 1 else 0
theorem un_uAt (a : Nat) : UN a (uAt a 0) (uAt a 1) (uAt a 2) := by
  match a with
  | 0 => exact ⟨rfl, rfl, rfl⟩
  | 1 => exact ⟨rfl, rfl, rfl⟩
  | k + 2 =>
    have h : ¬ k + 2 ≤ 1 := by omega
    refine ⟨?_, ?_, ?_⟩ <;> simp [uAt, h]
def sg1 (o : Obs) : Nat → Int
  | 0 => o.d0
  | 1 => o.d1
  | 2 => o.d2
  | 3 => o.p0
  | 4 => o.p1
  | 5 => o.p2
  | 6 => uAt o.at_ 0
  | 7 => uAt o.at_ 1
  | 8 => uAt o.at_ 2
  | 10 => o.q0
  | 11 => o.q1
  | 12 => o.q2
  | _ => 0
def sgT (len : Int) (D : Nat → Obs) (n : Nat) : Int :=
  if n < 100 then len else if n < 1000 then sg1 (D (n / 100 - 1)) (n % 100)
  else
    let i := n % 1000 / 10
    let k := n % 10
    if n < 2000 then ((D i).c (D k) : Nat)
    else if n < 3000 then (if ((D i).c (D k) : Int) = ((D i).c (D i) : Int) then 1 else 0)
    else if n < 4000 then (((D i).c (D k) / Nat.gcd ((D i).c (D k)) ((D i).c (D i)) : Nat) : Int)
    else (((D i).c (D i) / Nat.gcd ((D i).c (D k)) ((D i).c (D i)) : Nat) : Int)
section
variable {len : Int} {D : Nat → Obs}
theorem sgT_90 : sgT len D 90 = len := by simp [sgT]
theorem sgT_o {i j : Nat} (hi : i < 5) (hj : j < 13) : sgT len D (100 * (i + 1) + j) = sg1 (D i) j := by
  unfold sgT
  rw [if_neg (by omega), if_pos (by omega), show (100 * (i + 1) + j) / 100 - 1 = i by omega, show (100 * (i + 1) + j) % 100 = j by omega]
theorem sgT_c {i k : Nat} (hi : i < 5) (hk : k < 5) : sgT len D (1000 + 10 * i + k) = ((D i).c (D k) : Nat) := by
  unfold sgT
  simp only
  rw [if_neg (by omega), if_neg (by omega), if_pos (by omega), show (1000 + 10 * i + k) % 1000 / 10 = i by omega, show (1000 + 10 * i + k) % 10 = k by omega]
theorem sgT_f {i k : Nat} (hi : i < 5) (hk : k < 5) : sgT len D (2000 + 10 * i + k) = if ((D i).c (D k) : Int) = ((D i).c (D i) : Int) then 1 else 0 := by
  unfold sgT
  simp only
  rw [if_neg (by omega), if_neg (by omega), if_neg (by omega), if_pos (by omega), show (2000 + 10 * i + k) % 1000 / 10 = i by omega, show (2000 + 10 * i + k) % 10 = k by omega]
theorem sgT_a {i k : Nat} (hi : i < 5) (hk : k < 5) : sgT len D (3000 + 10 * i + k) = (((D i).c (D k) / Nat.gcd ((D i).c (D k)) ((D i).c (D i)) : Nat) : Int) := by
  unfold sgT
  simp only
  rw [if_neg (by omega), if_neg (by omega), if_neg (by omega), if_neg (by omega), if_pos (by omega), show (3000 + 10 * i + k) % 1000 / 10 = i by omega, show (3000 + 10 * i + k) % 10 = k by omega]
theorem sgT_e {i k : Nat} (hi : i < 5) (hk : k < 5) : sgT len D (4000 + 10 * i + k) = (((D i).c (D i) / Nat.gcd ((D i).c (D k)) ((D i).c (D i)) : Nat) : Int) := by
  unfold sgT
  simp only
  rw [if_neg (by omega), if_neg (by omega), if_neg (by omega), if_neg (by omega), if_neg (by omega), show (4000 + 10 * i + k) % 1000 / 10 = i by omega, show (4000 + 10 * i + k) % 10 = k by omega]
end
theorem up_mem {α : Type} {n : Nat} {f : Nat → α} {x : α} (h : x ∈ up n f) : ∃ i, i < n ∧ f i = x := by
  obtain ⟨i, h1, h2⟩ := List.mem_map.1 h
  exact ⟨i, List.mem_range.1 h1, h2⟩
theorem up2_mem {α : Type} {n : Nat} {f : Nat → Nat → α} {x : α} (h : x ∈ up2 n f) : ∃ i k, i < n ∧ k < n ∧ f i k = x := by
  obtain ⟨i, h1, h2⟩ := List.mem_flatMap.1 h
  obtain ⟨k, h3, h4⟩ := List.mem_map.1 h2
  exact ⟨i, k, List.mem_range.1 h1, List.mem_range.1 h3, h4⟩
theorem e_neqS {σ : Nat → Int} {v u : V} {a b : Int} (c : Bool) (hv : cI σ v = some a) (hu : cI σ u = some b) (h : c = true ↔ a ≠ b) : EOK σ (9, v, u, O c) := e_neq c hv hu h
theorem tabT_ok {len : Int} {D : Nat → Obs} {n : Nat} (hn : n ≤ 5) (hD : ∀ i, i < n → OK1 (D i)) : ∀ e ∈ tabT n, EOK (sgT len D) e := by
  intro e he
  unfold tabT at he
  have q : ∀ i j, i < n → j < 3 → cI (sgT len D) (qS i j) = some (sg1 (D i) (10 + j)) := fun i j hi hj => by
    show some (sgT len D (100 * (i + 1) + 10 + j)) = _
    rw [Nat.add_assoc, sgT_o (by omega) (by omega)]
  have c : ∀ i k, i < n → k < n → cI (sgT len D) (cS i k) = some (((D i).c (D k) : Nat) : Int) := fun i k hi hk => by
    show some (sgT len D (1000 + 10 * i + k)) = _
    rw [sgT_c (by omega) (by omega)]
  simp only [List.mem_append] at he
  rcases he with ((((((((he | he) | he) | he) | he) | he) | he) | he) | he) | he
  · obtain ⟨i, k, hi, hk, rfl⟩ := up2_mem he
    refine e_neqS true (a := sgT len D (2000 + 10 * i + k)) (b := 2) rfl rfl ?_
    rw [sgT_f (by omega) (by omega)]
    simp
    split <;> omega
  · obtain ⟨i, k, hi, hk, rfl⟩ := up2_mem he
    refine e_lss false (c i k hi hk) (c i i hi hi) ?_
    have := (hD i hi).cle (u := D k)
    simp
    omega
  · obtain ⟨i, hi, rfl⟩ := up_mem he
    refine e_neqS false (c i i hi hi) (q i 0 hi (by omega)) ?_
    have := (hD i hi).m
    simp [sg1]
    omega
  · obtain ⟨i, hi, rfl⟩ := up_mem he
    refine e_geq true (q i 0 hi (by omega)) (b := 0) rfl ?_
    have := (hD i hi).q
    simp [sg1]
    omega
  · obtain ⟨i, hi, rfl⟩ := up_mem he
    refine e_leq true (q i 2 hi (by omega)) (b := 60) rfl ?_
    have := (hD i hi).q
    simp [sg1]
    omega
  · obtain ⟨i, hi, rfl⟩ := up_mem he
    exact e_neqS false (q i 0 hi (by omega)) (q i 0 hi (by omega)) (by simp)
  · obtain ⟨i, hi, rfl⟩ := up_mem he
    exact e_neqS false (q i 1 hi (by omega)) (q i 1 hi (by omega)) (by simp)
  · obtain ⟨i, hi, rfl⟩ := up_mem he
    exact e_neqS false (q i 2 hi (by omega)) (q i 2 hi (by omega)) (by simp)
  · obtain ⟨i, hi, rfl⟩ := up_mem he
    refine e_lss false (q i 2 hi (by omega)) (q i 1 hi (by omega)) ?_
    have := (hD i hi).q
    simp [sg1]
    omega
  · obtain ⟨i, hi, rfl⟩ := up_mem he
    refine e_lss false (q i 1 hi (by omega)) (q i 0 hi (by omega)) ?_
    have := (hD i hi).q
    simp [sg1]
    omega
/- The facts that the run behind the first loop takes. -/
section
variable (S' : Sig) {len : Int} {D : Nat → Obs} {n : Nat} (hn : n ≤ 5) (hD : ∀ i, i < n → OK1 (D i)) (hs : S'.σ = sgT len D)
include hn hD hs
theorem pS_val {i j : Nat} (hi : i < n) (hj : j < 3) : S'.σ (100 * (i + 1) + 3 + j) = sg1 (D i) (3 + j) := by rw [hs, Nat.add_assoc, sgT_o (by omega) (by omega)]
theorem bS_val {i j : Nat} (hi : i < n) (hj : j < 3) : S'.σ (100 * (i + 1) + 6 + j) = sg1 (D i) (6 + j) := by rw [hs, Nat.add_assoc, sgT_o (by omega) (by omega)]
theorem un_val {i : Nat} (hi : i < n) : UN (D i).at_ (S'.σ (100 * (i + 1) + 6 + 0)) (S'.σ (100 * (i + 1) + 6 + 1)) (S'.σ (100 * (i + 1) + 6 + 2)) := by
  rw [bS_val S' hn hD hs hi (by omega), bS_val S' hn hD hs hi (by omega), bS_val S' hn hD hs hi (by omega)]
  exact un_uAt (D i).at_
theorem sT_ok : ∀ t ∈ sT n, @SOK S' t := by
  intro t ht
  unfold sT at ht
  simp only [List.mem_append] at ht
  rcases ht with (((ht | ht) | ht) | ht) | ht
  · obtain ⟨i, hi, rfl⟩ := up_mem ht
    exact areP_fact S' (hD i hi).b0 (hD i hi).b1 (hD i hi).b2 (pS_val S' hn hD hs hi (by omega)) (pS_val S' hn hD hs hi (by omega)) (pS_val S' hn hD hs hi (by omega))
  · obtain ⟨i, hi, rfl⟩ := up_mem ht
    exact areB_fact S' (hD i hi).b0 (hD i hi).b1 (hD i hi).b2 (un_val S' hn hD hs hi)
  · obtain ⟨i, hi, rfl⟩ := up_mem ht
    exact maxB_fact S' (hD i hi).b0 (hD i hi).b1 (hD i hi).b2 (un_val S' hn hD hs hi)
  · obtain ⟨i, k, hi, hk, rfl⟩ := up2_mem ht
    exact cost_fact S' (hD i hi).b0 (hD i hi).b1 (hD i hi).b2 (pS_val S' hn hD hs hi (by omega)) (pS_val S' hn hD hs hi (by omega)) (pS_val S' hn hD hs hi (by omega)) (un_val S' hn hD hs hk) (by rw [hs, sgT_c (by omega) (by omega)]; rfl)
  · obtain ⟨i, k, hi, hk, rfl⟩ := up2_mem ht
    refine pref_all S' hn (fun i hi => ?_) (fun i k hi hk => ?_) (fun i k hi hk => ?_) i k hi hk
    · rw [hs, sgT_c (by omega) (by omega)]
      have := (hD i hi).cin (u := D i)
      omega
    · rw [hs, sgT_c (by omega) (by omega), sgT_c (by omega) (by omega)]
      have := (hD i hi).cin (u := D k)
      have := (hD i hi).cle (u := D k)
      omega
    · rw [hs, sgT_f (by omega) (by omega), PV, sgT_c (by omega) (by omega), sgT_c (by omega) (by omega)]
theorem fT_ok : ∀ t ∈ fT n, @FOK S' t := by
  intro t ht
  unfold fT at ht
  have c : ∀ i k, i < n → k < n → cI S'.σ (cS i k) = some (((D i).c (D k) : Nat) : Int) := fun i k hi hk => by
    show some (S'.σ (1000 + 10 * i + k)) = _
    rw [hs, sgT_c (by omega) (by omega)]
  have a : ∀ i k, i < n → k < n → cI S'.σ (aS i k) = some (((D i).c (D k) / Nat.gcd ((D i).c (D k)) ((D i).c (D i)) : Nat) : Int) := fun i k hi hk => by
    show some (S'.σ (3000 + 10 * i + k)) = _
    rw [hs, sgT_a (by omega) (by omega)]
  have e : ∀ i k, i < n → k < n → cI S'.σ (eS i k) = some (((D i).c (D i) / Nat.gcd ((D i).c (D k)) ((D i).c (D i)) : Nat) : Int) := fun i k hi hk => by
    show some (S'.σ (4000 + 10 * i + k)) = _
    rw [hs, sgT_e (by omega) (by omega)]
  simp only [List.cons_append, List.mem_cons, List.mem_append] at ht
  rcases ht with rfl | ht | ht
  · exact nine_fact
  · obtain ⟨i, k, hi, hk, rfl⟩ := up2_mem ht
    have h1 := (hD i hi).cin (u := D k)
    have h2 := (hD i hi).cin (u := D i)
    exact lowest_fact h1.1 h1.2 h2.1 h2.2 (c i k hi hk) (c i i hi hi) (a i k hi hk) (e i k hi hk)
  · obtain ⟨i, k, hi, hk, rfl⟩ := up2_mem ht
    have h1 := (hD i hi).cin (u := D k)
    have h2 := (hD i hi).cin (u := D i)
    have h3 := (hD i hi).cle (u := D k)
    have h4 : (D i).c (D i) / Nat.gcd ((D i).c (D k)) ((D i).c (D i)) ≤ (D i).c (D k) / Nat.gcd ((D i).c (D k)) ((D i).c (D i)) := Nat.div_le_div_right h3
    have h5 : (D i).c (D k) / Nat.gcd ((D i).c (D k)) ((D i).c (D i)) ≤ (D i).c (D k) := Nat.div_le_self _ _
    have ha := a i k hi hk
    have he := e i k hi hk
    generalize (D i).c (D i) / Nat.gcd ((D i).c (D k)) ((D i).c (D i)) = x at *
    generalize (D i).c (D k) / Nat.gcd ((D i).c (D k)) ((D i).c (D i)) = y at *
    refine less_fact ha he (c := 1) (d := 1) rfl rfl false ?_ ?_
    · constructor
      · intro h; cases h
      · intro h; omega
    · omega
end
end Go.Proofs.YtbadfjogakhhbaaGreatDoor.Re
