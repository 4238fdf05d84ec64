/- Contracts of isStack, check, Flips, Worst. -/
import Derived.Test.YtbadfjogakhhbaaDoorPa
import Derived.Outline
import Derived.Test.YtbadfjogakhhbaaDoorPV
import Derived.Test.YtbadfjogakhhbaaDoorPd
namespace Go.Proofs.YtbadfjogakhhbaaDoor.G
open Go.Proofs.YtbadfjogakhhbaaDoor.Q Go.Proofs.YtbadfjogakhhbaaDoor.K
open Go.RowKit Go.Proofs.YtbadfjogakhhbaaDoorW.PrintWords Go.Proofs.YtbadfjogakhhbaaDoorW.PrintLast Go.Proofs.YtbadfjogakhhbaaDoorW.PrintMore
set_option linter.unusedVariables false
/-- A number's absolute value, if signs may be there. -/
def absS (signed : Bool) (n : Nat) (x : Int) : Int := if signed = true ∧ x < 0 ∧ -(n : Int) ≤ x then -x else x
/-- Are the numbers 1 to n, and none of those seen? -/
def isL (signed : Bool) (n : Nat) : List Int → (Nat → Bool) → Bool
  | [], _ => true
  | x :: r, seen => if absS signed n x < 1 ∨ (n : Int) < absS signed n x ∨ seen (absS signed n x).toNat = true then false else isL signed n r (upd seen (absS signed n x).toNat true)
def isSt (signed : Bool) (most : Int) (s : List Int) : Bool := if s.length < 1 ∨ most < (s.length : Int) then false else isL signed s.length s (fun _ => false)
def pancake_isStack.f (signed : Bool) (most : Int) (s : List Int) : Option Bool := if most ≤ 40 then some (isSt signed most s) else none
def bools (m : Nat → Bool) : Array Value := arr Value.bool 41 m
theorem bools_zero : bools (fun _ => false) = #[.bool false, .bool false, .bool false, .bool false, .bool false, .bool false, .bool false, .bool false, .bool false, .bool false, .bool false, .bool false, .bool false, .bool false, .bool false, .bool false, .bool false, .bool false, .bool false, .bool false, .bool false, .bool false, .bool false, .bool false, .bool false, .bool false, .bool false, .bool false, .bool false, .bool false, .bool false, .bool false, .bool false, .bool false, .bool false, .bool false, .bool false, .bool false, .bool false, .bool false, .bool false] := by
  kernel_rfl
theorem drop_nth (l : List Int) (k : Nat) (h : k < l.length) : l.drop k = nth l k :: l.drop (k + 1) := by
  rw [List.drop_eq_getElem_cons h]; simp [nth, h]
set_option maxHeartbeats 8000000 in
set_option maxRecDepth 100000 in
theorem pancake_isStack.calls (a0 : Bool) (a1 : Int) (A2 : Option Addr) (c2 : Nat) (l2 : List Int) (r : Bool) (w : World) (hr2 : Kd.C (Kd.int .i64) w A2 l2.length l2) (hc2 : l2.length ≤ c2) (h : pancake_isStack.f a0 a1 l2 = some r) :
    Calls Tryd.prog 45 #[.bool a0, .int .i64 a1, .slice A2 l2.length c2] w fun e w' => e = .returned (.bool r) ∧ Below w.heap.size w w' := by
  unfold pancake_isStack.f at h
  split at h
  case isFalse => cases h
  case isTrue h40 =>
    obtain rfl := Option.some.inj h
    clear h
    have HC := Aside0.mk hr2
    clear hr2
    by_cases hs : l2.length < 1 ∨ a1 < (l2.length : Int)
    · have e : isSt a0 a1 l2 = false := by unfold isSt; rw [if_pos hs]
      rw [e]
      clear e
      by_cases h1 : l2.length < 1
      · have h1' : (l2.length : Int) < 1 := by omega
        go_enter Tryd.func45, Tryd.ntmps45
        go_wp2
        go_ret
        exact ⟨rfl, (Below.refl _ w).alloc (Nat.le_refl _) _⟩
      · have h1' : ¬ (l2.length : Int) < 1 := by omega
        have h2' : a1 < (l2.length : Int) := by omega
        go_enter Tryd.func45, Tryd.ntmps45
        go_wp2
        go_ret
        exact ⟨rfl, (Below.refl _ w).alloc (Nat.le_refl _) _⟩
    · have e : isSt a0 a1 l2 = isL a0 l2.length l2 (fun _ => false) := by unfold isSt; rw [if_neg hs]
      rw [e]
      clear e
      have h1' : ¬ (l2.length : Int) < 1 := by omega
      have h2' : ¬ a1 < (l2.length : Int) := by omega
      have hl40 : l2.length ≤ 40 := by omega
      obtain ⟨N, hN⟩ : ∃ N, l2.length = N := ⟨_, rfl⟩
      have HL := Aside0.mk hN
      obtain ⟨r, hr⟩ : ∃ r, isL a0 N l2 (fun _ => false) = r := ⟨_, rfl⟩
      rw [hN] at h1' h2' hl40 ⊢
      rw [hr]
      have HR := Aside0.mk hr
      clear hr hN hs
      obtain ⟨ad, e, _⟩ := Kd.at_int HC.out 0 (by omega) (by have := HL.out; omega)
      subst e
      go_enter Tryd.func45, Tryd.ntmps45
      go_upto_region 4 with fail
      rw [← bools_zero]
      obtain ⟨W0, hW0⟩ : ∃ W, w.alloc (Obj.cells (bools fun _ => false) 134) = W := ⟨_, rfl⟩
      have HB0 := Aside0.mk (show Blk W0 w.heap.size (bools fun _ => false) 134 by rw [← hW0]; exact Blk.new w _ 134)
      have HW0 := Aside0.mk (show Below w.heap.size w W0 by rw [← hW0]; exact (Below.refl _ w).alloc (Nat.le_refl _) _)
      rw [hW0]
      clear hW0
      go_wp2
      go_loopw [9, 21] (fun x i wr => ∃ (k : Nat) (seen : Nat → Bool), k ≤ N ∧ i = .int .i64 (k : Int) ∧ Aside0 (Blk wr w.heap.size (bools seen) 134) ∧ Aside0 (isL a0 N (l2.drop k) seen = r) ∧ Aside0 (Below w.heap.size w wr)) (fun _ i _ => N - (intOf i).toNat)
      case atStart => exact ⟨0, _, Nat.zero_le _, rfl, HB0, HR, HW0⟩
      case round =>
        obtain ⟨k, seen, hk, rfl, HB, HI, HW⟩ := hrel
        by_cases hlt : k < N
        · have hi0 : (0 : Int) ≤ (k : Int) := by omega
          have hi1 : (k : Int) < (N : Int) := by omega
          obtain ⟨ad', e, hc⟩ := Kd.at_int (Kd.C_below HC.out HW.out) (k : Int) hi0 (by have := HL.out; omega)
          cases e
          rw [rd_nth, Int.toNat_natCast] at hc
          have hdr := drop_nth l2 k (by have := HL.out; omega)
          have hI := HI.out
          rw [hdr, isL] at hI
          obtain ⟨x, hx⟩ : ∃ x, nth l2 k = x := ⟨_, rfl⟩
          rw [hx] at hc hI
          obtain ⟨y, hy⟩ : ∃ y, absS a0 N x = y := ⟨_, rfl⟩
          rw [hy] at hI
          have HY := Aside0.mk hy
          have HI2 := Aside0.mk hI
          have hwt : IntKind.i64.wrap ((k : Int) + 1) = ((k + 1 : Nat) : Int) := by rw [iw64 (by omega) (by omega)]; omega
          clear hI hy hdr hx HI
          go_upto_region 7 with fail
          obtain ⟨tb, htb⟩ : ∃ tb, decide (a0 = true ∧ x < 0 ∧ -(N : Int) ≤ x) = tb := ⟨_, rfl⟩
          have HT := Aside0.mk htb
          clear htb
          go_cut [36] (fun v wc => v = .bool tb ∧ wc = wr)
          case first =>
            have hT := HT.out
            cases a0
            · rw [decide_eq_false (by simp)] at hT
              subst hT
              go_wp2
              go_meet
              case rel => exact ⟨rfl, rfl⟩
            · by_cases h1 : x < 0
              · by_cases h2 : -(N : Int) ≤ x
                · have h2b : -x ≤ (N : Int) := by omega
                  rw [decide_eq_true ⟨rfl, h1, h2⟩] at hT
                  subst hT
                  go_wp2
                  go_meet
                  case rel => exact ⟨rfl, rfl⟩
                · have h2b : ¬ -x ≤ (N : Int) := by omega
                  rw [decide_eq_false (by omega)] at hT
                  subst hT
                  go_wp2
                  go_meet
                  case rel => exact ⟨rfl, rfl⟩
              · rw [decide_eq_false (by omega)] at hT
                subst hT
                go_wp2
                go_meet
                case rel => exact ⟨rfl, rfl⟩
          case rest =>
          obtain ⟨rfl, rfl⟩ := hcut
          go_upto_if 36 with fail
          go_cut [9] (fun v wd => v = .int .i64 y ∧ wd = wc)
          case first =>
            have hY := HY.out
            unfold absS at hY
            have hT := HT.out
            by_cases ht : a0 = true ∧ x < 0 ∧ -(N : Int) ≤ x
            · rw [decide_eq_true ht] at hT
              rw [if_pos ht] at hY
              subst hT
              have h1 := ht.2.1
              have h2 := ht.2.2
              clear ht
              go_wp2
              go_meet
              case rel => exact ⟨rfl, rfl⟩
            · rw [decide_eq_false ht] at hT
              rw [if_neg ht] at hY
              subst hT
              subst hY
              clear ht
              go_wp2
              go_meet
              case rel => exact ⟨rfl, rfl⟩
          case rest =>
            obtain ⟨rfl, rfl⟩ := hcut
            by_cases h1 : y < 1
            · have hI := HI2.out
              rw [if_pos (.inl h1)] at hI
              subst hI
              go_wp2
              go_ret
              exact ⟨rfl, HW.out⟩
            · by_cases h2 : (N : Int) < y
              · have hI := HI2.out
                rw [if_pos (.inr (.inl h2))] at hI
                subst hI
                go_wp2
                go_ret
                exact ⟨rfl, HW.out⟩
              · obtain ⟨yn, rfl⟩ := Int.eq_ofNat_of_zero_le (show 0 ≤ y by omega)
                have hg := HB.out.cell yn (arr_get Value.bool 41 seen yn (by omega))
                have hf := HB.out.free yn
                by_cases h3 : seen yn = true
                · have hI := HI2.out
                  rw [if_pos (.inr (.inr (by rw [Int.toNat_natCast]; exact h3)))] at hI
                  subst hI
                  rw [h3] at hg
                  go_wp2
                  go_ret
                  exact ⟨rfl, HW.out⟩
                · have hI := HI2.out
                  rw [if_neg (by rw [Int.toNat_natCast]; rintro (h | h | h) <;> first | omega | exact h3 h), Int.toNat_natCast] at hI
                  have HI3 := Aside0.mk hI
                  rw [Bool.not_eq_true] at h3
                  rw [h3] at hg
                  have h40 : (yn : Int) < 41 := by omega
                  clear hI h3 HI2
                  go_wp2
                  go_roundw
                  case rel => exact ⟨k + 1, upd seen yn true, by omega, rfl, ⟨by unfold bools; rw [← arr_set Value.bool 41 seen yn true (by omega)]; exact HB.out.set yn _⟩, HI3, ⟨HW.out.setCell (Nat.le_refl _) _⟩⟩
                  case measure => simp [intOf]; omega
        · have hI := HI.out
          rw [List.drop_of_length_le (by have := HL.out; omega), isL] at hI
          subst hI
          go_wp2
          go_ret
          exact ⟨rfl, HW.out⟩
end Go.Proofs.YtbadfjogakhhbaaDoor.G
-- WRITTEN BY A PROGRAM out of the translation (print2.py). Not trusted: Lean checks it.
namespace Go.Proofs.YtbadfjogakhhbaaDoor.G
end Go.Proofs.YtbadfjogakhhbaaDoor.G
namespace Go.Proofs.YtbadfjogakhhbaaDoor.Q
open Go.Proofs.YtbadfjogakhhbaaDoor.G
open Go.RowKit Go.Proofs.YtbadfjogakhhbaaDoorW.PrintWords Go.Proofs.YtbadfjogakhhbaaDoorW.PrintLast Go.Proofs.YtbadfjogakhhbaaDoorW.PrintMore
attribute [local go_sem] max2_int min2_int max_two min_two max_three min_three max_four min_four   -- for this text's walks alone
set_option linter.unusedVariables false
set_option linter.unusedSimpArgs false

/-! ### rows of rows -/
def rd_L1 (xs : List (List Int)) (i : Int) : (List Int) := xs.getD i.toNat ([] : List Int)
theorem at_L1 {w : World} {A : Option Addr} {n : Nat} {xs : List (List Int)} (h : Kd.C (Kd.slice 3 (Kd.int .i64)) w A n xs) (i : Int) (h0 : 0 ≤ i) (h1 : i < n) : ∃ ad A0 c0, A = some ad ∧ w.cell? (ad.add i.toNat) = some (.slice A0 (rd_L1 xs i).length c0) ∧ (rd_L1 xs i).length ≤ c0 ∧ (Kd.int .i64).C w A0 (rd_L1 xs i).length (rd_L1 xs i) := by
  obtain ⟨ad, c, e, _, hK, hc0⟩ := Kd.C_get h ([] : List Int) i h0 h1
  have hc : ∀ j u, c[j]? = some u → w.cell? (ad.add (i.toNat * 1 + j)) = some u := hc0
  obtain ⟨A0, c0, rfl, l0, g0⟩ := hK
  exact ⟨ad, A0, c0, e, by have hq := hc 0 _ rfl; rwa [Nat.mul_one, Nat.add_zero] at hq, l0, g0⟩

/-! ### pancake_check: function 68 -/
def pancake_check.l0 : Nat → Bool → Int → List (List Int) → List (List Int) → Int → Int → Option (Int)
  | 0, _, _, _, _, _, _ => none
  | k + 1, x0, x1, x2, x9, x10, x11 => if x11 < x10 then (if 0 ≤ x11 then (if x11 < (x9.length : Int) then ((pancake_isStack.f x0 x1 (rd_L1 x9 x11)).bind fun t293 => (if t293 = true then (pancake_check.l0 k x0 x1 x2 x9 x10 (wrap64 (x11 + 1))) else (some 70))) else (none)) else (none)) else (if (x2.length : Int) > 1 then (if 0 < (x2.length : Int) then (if 1 < (x2.length : Int) then (if ((rd_L1 x2 0).length : Int) = ((rd_L1 x2 1).length : Int) then (some 0) else (some 6)) else (none)) else (none)) else (some 0))
def pancake_check.f (k : Nat) (a0 : Bool) (a1 : Int) (l2 : List (List Int)) : Option (Int) := pancake_check.l0 k a0 a1 l2 l2 (l2.length : Int) 0
theorem pancake_check.mono_l : ∀ k, (∀ y0 y1 y2 y3 y4 y5, LeO (pancake_check.l0 k y0 y1 y2 y3 y4 y5) (pancake_check.l0 (k + 1) y0 y1 y2 y3 y4 y5))
  | 0 => fun _ _ _ _ _ _ r h => by simp [pancake_check.l0] at h
  | k + 1 => by
    have ih0 := pancake_check.mono_l k
    · intro y0 y1 y2 y3 y4 y5
      unfold pancake_check.l0
      repeat' first
      | (with_reducible exact ih0 _ _ _ _ _ _)
      | (with_reducible exact LeO.refl _)
      | (with_reducible exact LeO.none _)
      | (with_reducible refine LeO.ite ?_ ?_)
      | (with_reducible refine LeO.bind ?_ (fun _ => ?_))
      | exact ih0 _ _ _ _ _ _
      | exact LeO.none _
      | refine LeO.ite ?_ ?_
      | refine LeO.bind ?_ (fun _ => ?_)
theorem pancake_check.mono : ∀ a0 a1 a2 k, LeO (pancake_check.f k a0 a1 a2) (pancake_check.f (k + 1) a0 a1 a2) := by
  intro a0 a1 a2 k
  have ih0 := pancake_check.mono_l k
  unfold pancake_check.f
  repeat' first
      | (with_reducible exact ih0 _ _ _ _ _ _)
      | (with_reducible exact LeO.refl _)
      | (with_reducible exact LeO.none _)
      | (with_reducible refine LeO.ite ?_ ?_)
      | (with_reducible refine LeO.bind ?_ (fun _ => ?_))
      | exact ih0 _ _ _ _ _ _
      | exact LeO.none _
      | refine LeO.ite ?_ ?_
      | refine LeO.bind ?_ (fun _ => ?_)
set_option maxHeartbeats 8000000 in
set_option maxRecDepth 100000 in
theorem pancake_check.calls (k : Nat) (a0 : Bool) (a1 : Int) (A2 : Option Addr) (c2 : Nat) (l2 : List (List Int)) (r : Int) (w : World) (hr2 : Kd.C (Kd.slice 3 (Kd.int .i64)) w A2 l2.length l2) (hc2 : l2.length ≤ c2) (h : pancake_check.f k a0 a1 l2 = some r) :
    Calls Tryd.prog 18 #[.bool a0, .int .i64 a1, .slice A2 l2.length c2] w fun e w' => e = .returned (.int .i64 r) ∧ Below w.heap.size w w' := by
  have HR2 := Aside0.mk hr2
  have HC2 := Aside0.mk hc2
  clear hr2 hc2
  have HB := Aside0.mk (Below.refl w.heap.size w)
  have H : (pancake_check.l0 k a0 a1 l2 l2 (l2.length : Int) 0) = some r := h
  clear h
  have H' := Aside0.mk H
  clear H
  go_enter Tryd.func18, Tryd.ntmps18
  go_wp2
  repeat (go_quiet (fail); try go_wp2)
  go_loopg [11] k (fun kq v11 w' => ∃ (x11_1 : Int), v11 = .int .i64 x11_1 ∧ Aside0 (pancake_check.l0 kq a0 a1 l2 l2 (l2.length : Int) x11_1 = some r) ∧ Aside0 (kq ≤ k) ∧ Aside0 (Below w.heap.size w w'))
  case atStart => exact ⟨(0), (by first | rfl | (simp; done) | (simp [*]; done)), H', ⟨Nat.le_refl _⟩, ⟨by repeat (first | (with_reducible first | exact HB.out | apply below_alloc | apply pw_below_drewN | apply below_drew1) | exact HB.out)⟩⟩
  case round =>
    clear H'
    try clear c2
    try clear p2
    obtain ⟨x11_1, rfl, HA, HK1, HB⟩ := hrel
    cases gk with
    | zero => exact absurd HA.out (by simp [pancake_check.l0])
    | succ k1 =>
      have H := HA.out
      clear HA
      simp only [pancake_check.l0] at H
      by_cases c4 : x11_1 < (l2.length : Int)
      · rw [if_pos c4] at H
        have c4b0 : decide (x11_1 < (l2.length : Int)) = true := decide_eq_true c4
        clear c4
        by_cases c5 : 0 ≤ x11_1
        · rw [if_pos c5] at H
          have c5b0 : decide (0 ≤ x11_1) = true := decide_eq_true c5
          clear c5
          by_cases c6 : x11_1 < (l2.length : Int)
          · rw [if_pos c6] at H
            have c6b0 : decide (x11_1 < (l2.length : Int)) = true := decide_eq_true c6
            clear c6
            replace H := Option.bind_eq_some_iff.mp H
            obtain ⟨t293, A70, H⟩ := H
            replace H : (if t293 = true then (pancake_check.l0 k1 a0 a1 l2 l2 (l2.length : Int) (wrap64 (x11_1 + 1))) else (some 70)) = some r := H
            have A7 := Aside0.mk A70
            clear A70
            by_cases c8 : t293 = true
            · subst c8
              have H1 : (pancake_check.l0 k1 a0 a1 l2 l2 (l2.length : Int) (wrap64 (x11_1 + 1))) = some r := by rw [if_pos rfl] at H; exact H
              clear H
              have H := H1
              clear H1
              have H' := Aside0.mk H
              clear H
              have p292 : 0 ≤ (x11_1 : Int) := of_decide_eq_true (by first | (with_reducible assumption) | assumption)
              have q292 : x11_1 < (l2.length : Int) := of_decide_eq_true (by first | (with_reducible assumption) | assumption)
              obtain ⟨ad292, A292_0, c292_0, e292, hx292_0, hl292_0, hi292_0⟩ := at_L1 HR2.out x11_1 p292 q292
              cases e292
              replace hx292_0 := (HB.out.cell (World.block_lt_of_cell? w _ hx292_0)).trans hx292_0
              have HR292_0 := Aside0.mk hi292_0
              have HC292_0 := Aside0.mk hl292_0
              clear hi292_0 hl292_0
              replace p292 := eq_true p292
              replace q292 := eq_true q292
              go_wp2_with (first | (go_at_call 45; (with_reducible refine (pancake_isStack.calls a0 a1 _ _ (rd_L1 l2 x11_1) true _ ?side1 ?side2 A7.out).mono ?_); (case side1 => repeat (first | exact (Kd.C_below HR292_0.out HB.out) | (with_reducible refine Kd.C_alloc ?_ _) | (with_reducible refine Kd.C_drewN ?_ _) | (with_reducible refine Kd.C_drew ?_))); (case side2 => exact HC292_0.out); rintro e w9 ⟨rfl, hb⟩; have n0_ := Aside0.mk (below_step (by repeat (first | (with_reducible first | exact HB.out | apply below_alloc | apply pw_below_drewN | apply below_drew1) | exact HB.out)) hb); clear HB; have HB := n0_; clear n0_; (try clear hb); (try clear hb2); (try clear hk); (try clear hi)))
              go_roundg k1
              case measure => have := HK1.out; omega
              case rel => exact ⟨(wrap64 (x11_1 + 1)), (by first | rfl | (simp; done) | (simp [*]; done)), H', ⟨by have := HK1.out; omega⟩, ⟨by repeat (first | (with_reducible first | exact HB.out | apply below_alloc | apply pw_below_drewN | apply below_drew1) | exact HB.out)⟩⟩
            · replace c8 := Bool.eq_false_iff.mpr c8
              subst c8
              have H1 : (some 70) = some r := by rw [if_neg (show ¬ (false = true) by decide)] at H; exact H
              clear H
              have H := H1
              clear H1
              obtain rfl := Option.some.inj H
              have p292 : 0 ≤ (x11_1 : Int) := of_decide_eq_true (by first | (with_reducible assumption) | assumption)
              have q292 : x11_1 < (l2.length : Int) := of_decide_eq_true (by first | (with_reducible assumption) | assumption)
              obtain ⟨ad292, A292_0, c292_0, e292, hx292_0, hl292_0, hi292_0⟩ := at_L1 HR2.out x11_1 p292 q292
              cases e292
              replace hx292_0 := (HB.out.cell (World.block_lt_of_cell? w _ hx292_0)).trans hx292_0
              have HR292_0 := Aside0.mk hi292_0
              have HC292_0 := Aside0.mk hl292_0
              clear hi292_0 hl292_0
              replace p292 := eq_true p292
              replace q292 := eq_true q292
              go_wp2_with (first | (go_at_call 45; (with_reducible refine (pancake_isStack.calls a0 a1 _ _ (rd_L1 l2 x11_1) false _ ?side1 ?side2 A7.out).mono ?_); (case side1 => repeat (first | exact (Kd.C_below HR292_0.out HB.out) | (with_reducible refine Kd.C_alloc ?_ _) | (with_reducible refine Kd.C_drewN ?_ _) | (with_reducible refine Kd.C_drew ?_))); (case side2 => exact HC292_0.out); rintro e w10 ⟨rfl, hb⟩; have n0_ := Aside0.mk (below_step (by repeat (first | (with_reducible first | exact HB.out | apply below_alloc | apply pw_below_drewN | apply below_drew1) | exact HB.out)) hb); clear HB; have HB := n0_; clear n0_; (try clear hb); (try clear hb2); (try clear hk); (try clear hi)))
              go_ret
              exact ⟨by first | rfl | (simp [errW_none, errW_some] <;> rfl) | (simp [*, errW_none, errW_some] <;> rfl), by repeat (first | (with_reducible first | exact HB.out | apply below_alloc | apply pw_below_drewN | apply below_drew1) | exact HB.out)⟩
          · rw [if_neg c6] at H
            exact absurd H (by simp)
        · rw [if_neg c5] at H
          exact absurd H (by simp)
      · rw [if_neg c4] at H
        have c4b0 : decide (x11_1 < (l2.length : Int)) = false := decide_eq_false c4
        clear c4
        by_cases c11 : (l2.length : Int) > 1
        · rw [if_pos c11] at H
          have c11b0 : decide (1 < (l2.length : Int)) = true := decide_eq_true c11
          have c11b1 : decide (1 < l2.length) = true := decide_eq_true (by omega)
          clear c11
          by_cases c12 : 0 < (l2.length : Int)
          · rw [if_pos c12] at H
            have c12b0 : decide (0 < (l2.length : Int)) = true := decide_eq_true c12
            have c12b1 : decide (0 < l2.length) = true := decide_eq_true (by omega)
            clear c12
            by_cases c13 : 1 < (l2.length : Int)
            · rw [if_pos c13] at H
              have c13b0 : decide (1 < (l2.length : Int)) = true := decide_eq_true c13
              have c13b1 : decide (1 < l2.length) = true := decide_eq_true (by omega)
              clear c13
              by_cases c14 : ((rd_L1 l2 0).length : Int) = ((rd_L1 l2 1).length : Int)
              · rw [if_pos c14] at H
                have c14b0 : (((rd_L1 l2 0).length : Int) == ((rd_L1 l2 1).length : Int)) = true := beq_iff_eq.mpr c14
                have c14b1 : (((rd_L1 l2 0).length : Int) != ((rd_L1 l2 1).length : Int)) = false := bne_eq_false_iff_eq.mpr c14
                have c14b2 : ((rd_L1 l2 0).length == (rd_L1 l2 1).length) = true := by first | simpa using c14 | (simp at c14 ⊢; omega)
                clear c14
                obtain rfl := Option.some.inj H
                have p294 : 0 ≤ (0 : Int) := (by omega)
                have q294 : 0 < (l2.length : Int) := of_decide_eq_true (by first | (with_reducible assumption) | assumption)
                obtain ⟨ad294, A294_0, c294_0, e294, hx294_0, hl294_0, hi294_0⟩ := at_L1 HR2.out 0 p294 q294
                cases e294
                have qi294 : (0 < l2.length) = True := eq_true (by omega)
                (try rw [show ((0 : Int)).toNat = 0 from rfl] at hx294_0)
                (try rw [Addr.add_zero'] at hx294_0)
                replace hx294_0 := (HB.out.cell (World.block_lt_of_cell? w _ hx294_0)).trans hx294_0
                have HR294_0 := Aside0.mk hi294_0
                have HC294_0 := Aside0.mk hl294_0
                clear hi294_0 hl294_0
                replace p294 := eq_true p294
                replace q294 := eq_true q294
                have p295 : 0 ≤ (1 : Int) := (by omega)
                have q295 : 1 < (l2.length : Int) := of_decide_eq_true (by first | (with_reducible assumption) | assumption)
                obtain ⟨ad295, A295_0, c295_0, e295, hx295_0, hl295_0, hi295_0⟩ := at_L1 HR2.out 1 p295 q295
                obtain rfl : ad294 = ad295 := (by injection e295)
                (try simp only [show (1 : Int).toNat = 1 from rfl, Nat.reduceMul, Nat.reduceEqDiff, Go.Addr.add, ↓reduceIte] at hx295_0)
                have qi295 : (1 < l2.length) = True := eq_true (by omega)
                (try rw [show ((1 : Int)).toNat = 1 from rfl] at hx295_0)
                replace hx295_0 := (HB.out.cell (World.block_lt_of_cell? w _ hx295_0)).trans hx295_0
                have HR295_0 := Aside0.mk hi295_0
                have HC295_0 := Aside0.mk hl295_0
                clear hi295_0 hl295_0
                replace p295 := eq_true p295
                replace q295 := eq_true q295
                go_wp2
                repeat (go_quiet (fail); try go_wp2)
                go_ret
                exact ⟨by first | rfl | (simp [errW_none, errW_some] <;> rfl) | (simp [*, errW_none, errW_some] <;> rfl), by repeat (first | (with_reducible first | exact HB.out | apply below_alloc | apply pw_below_drewN | apply below_drew1) | exact HB.out)⟩
              · rw [if_neg c14] at H
                have c14b0 : (((rd_L1 l2 0).length : Int) == ((rd_L1 l2 1).length : Int)) = false := beq_eq_false_iff_ne.mpr c14
                have c14b1 : (((rd_L1 l2 0).length : Int) != ((rd_L1 l2 1).length : Int)) = true := bne_iff_ne.mpr c14
                have c14b2 : ((rd_L1 l2 0).length == (rd_L1 l2 1).length) = false := by first | simpa using c14 | (simp at c14 ⊢; omega)
                obtain rfl := Option.some.inj H
                have p294 : 0 ≤ (0 : Int) := (by omega)
                have q294 : 0 < (l2.length : Int) := of_decide_eq_true (by first | (with_reducible assumption) | assumption)
                obtain ⟨ad294, A294_0, c294_0, e294, hx294_0, hl294_0, hi294_0⟩ := at_L1 HR2.out 0 p294 q294
                cases e294
                have qi294 : (0 < l2.length) = True := eq_true (by omega)
                (try rw [show ((0 : Int)).toNat = 0 from rfl] at hx294_0)
                (try rw [Addr.add_zero'] at hx294_0)
                replace hx294_0 := (HB.out.cell (World.block_lt_of_cell? w _ hx294_0)).trans hx294_0
                have HR294_0 := Aside0.mk hi294_0
                have HC294_0 := Aside0.mk hl294_0
                clear hi294_0 hl294_0
                replace p294 := eq_true p294
                replace q294 := eq_true q294
                have p295 : 0 ≤ (1 : Int) := (by omega)
                have q295 : 1 < (l2.length : Int) := of_decide_eq_true (by first | (with_reducible assumption) | assumption)
                obtain ⟨ad295, A295_0, c295_0, e295, hx295_0, hl295_0, hi295_0⟩ := at_L1 HR2.out 1 p295 q295
                obtain rfl : ad294 = ad295 := (by injection e295)
                (try simp only [show (1 : Int).toNat = 1 from rfl, Nat.reduceMul, Nat.reduceEqDiff, Go.Addr.add, ↓reduceIte] at hx295_0)
                have qi295 : (1 < l2.length) = True := eq_true (by omega)
                (try rw [show ((1 : Int)).toNat = 1 from rfl] at hx295_0)
                replace hx295_0 := (HB.out.cell (World.block_lt_of_cell? w _ hx295_0)).trans hx295_0
                have HR295_0 := Aside0.mk hi295_0
                have HC295_0 := Aside0.mk hl295_0
                clear hi295_0 hl295_0
                replace p295 := eq_true p295
                replace q295 := eq_true q295
                go_wp2
                repeat (go_quiet (fail); try go_wp2)
                go_ret
                exact ⟨by first | rfl | (simp [errW_none, errW_some] <;> rfl) | (simp [*, errW_none, errW_some] <;> rfl), by repeat (first | (with_reducible first | exact HB.out | apply below_alloc | apply pw_below_drewN | apply below_drew1) | exact HB.out)⟩
            · rw [if_neg c13] at H
              exact absurd H (by simp)
          · rw [if_neg c12] at H
            exact absurd H (by simp)
        · rw [if_neg c11] at H
          have c11b0 : decide (1 < (l2.length : Int)) = false := decide_eq_false c11
          have c11b1 : decide (1 < l2.length) = false := decide_eq_false (by omega)
          clear c11
          obtain rfl := Option.some.inj H
          go_wp2
          repeat (go_quiet (fail); try go_wp2)
          go_ret
          exact ⟨by first | rfl | (simp [errW_none, errW_some] <;> rfl) | (simp [*, errW_none, errW_some] <;> rfl), by repeat (first | (with_reducible first | exact HB.out | apply below_alloc | apply pw_below_drewN | apply below_drew1) | exact HB.out)⟩

end Go.Proofs.YtbadfjogakhhbaaDoor.Q
namespace Go.Proofs.YtbadfjogakhhbaaDoor.G
open Go.Proofs.YtbadfjogakhhbaaDoor.Q Go.Proofs.YtbadfjogakhhbaaDoor.K Go.Proofs.YtbadfjogakhhbaaDoor.Bf
open Go.RowKit Go.Shelf Go.Proofs.YtbadfjogakhhbaaDoorW.PrintWords Go.Proofs.YtbadfjogakhhbaaDoorW.PrintLast Go.Proofs.YtbadfjogakhhbaaDoorW.PrintMore
set_option linter.unusedVariables false
theorem isL_mem (sg : Bool) (n : Nat) : ∀ (l : List Int) (seen : Nat → Bool), isL sg n l seen = true → ∀ x, x ∈ l → -(n : Int) ≤ x ∧ x ≤ n
  | [], _, _, x, hx => by cases hx
  | y :: r, seen, h, x, hx => by
    rw [isL] at h
    split at h
    · cases h
    · rename_i hn
      rcases List.mem_cons.1 hx with rfl | hx
      · have h1 : ¬ absS sg n x < 1 := fun e => hn (.inl e)
        have h2 : ¬ (n : Int) < absS sg n x := fun e => hn (.inr (.inl e))
        unfold absS at h1 h2
        split at h1 <;> omega
      · exact isL_mem sg n r _ h x hx
theorem isSt_len {sg : Bool} {most : Int} {l : List Int} (h : isSt sg most l = true) : 1 ≤ l.length ∧ (l.length : Int) ≤ most := by
  unfold isSt at h
  split at h
  · cases h
  · rename_i hn
    omega
theorem isSt_vs {sg : Bool} {most : Int} {l : List Int} (h : isSt sg most l = true) (hm : most ≤ 7) : Vs l.length l := by
  have hl := isSt_len h
  refine ⟨rfl, fun j => ?_⟩
  unfold isSt at h
  split at h
  · cases h
  · have hx := isL_mem sg l.length l _ h
    unfold nth
    by_cases hj : j < l.length
    · have := hx (l.getD j 0) (by rw [List.getD_eq_getElem?_getD, List.getElem?_eq_getElem hj]; exact List.getElem_mem hj)
      omega
    · rw [List.getD_eq_getElem?_getD, List.getElem?_eq_none (by omega)]
      simp
/-- What is wrong with two stacks. -/
def chk2 (sg : Bool) (most : Int) (l0 l1 : List Int) : Int := if isSt sg most l0 = true then (if isSt sg most l1 = true then (if l0.length = l1.length then 0 else 6) else 70) else 70
theorem chk2_f (sg : Bool) (most : Int) (hm : most ≤ 40) (l0 l1 : List Int) : pancake_check.f 3 sg most [l0, l1] = some (chk2 sg most l0 l1) := by
  unfold pancake_check.f chk2
  have w1 : wrap64 (0 + 1) = 1 := w64 (by decide) (by decide)
  have w2 : wrap64 (1 + 1) = 2 := w64 (by decide) (by decide)
  simp only [pancake_check.l0, List.length_cons, List.length_nil, rd_L1, pancake_isStack.f, if_pos hm, Option.bind_some, w1, w2]
  by_cases h0 : isSt sg most l0 = true <;> by_cases h1 : isSt sg most l1 = true <;> by_cases h2 : l0.length = l1.length <;> simp [h0, h1, h2] <;> omega
theorem two_rows {W : World} {b t : Nat} {A0 A1 : Option Addr} {c0 c1 : Nat} {l0 l1 : List Int} (h : Blk W b #[.slice A0 l0.length c0, .slice A1 l1.length c1] t) (h0 : Kd.C (Kd.int .i64) W A0 l0.length l0) (hc0 : l0.length ≤ c0) (h1 : Kd.C (Kd.int .i64) W A1 l1.length l1) (hc1 : l1.length ≤ c1) :
    Kd.C (Kd.slice 3 (Kd.int .i64)) W (some ⟨b, 0, none⟩) [l0, l1].length [l0, l1] := by
  refine ⟨rfl, by simp, fun _ => ⟨_, rfl, fun j p hj => ?_⟩⟩
  match j, hj with
  | 0, hj =>
    cases hj
    refine ⟨[.slice A0 l0.length c0], rfl, ⟨A0, c0, rfl, hc0, h0⟩, fun i u hu => ?_⟩
    match i, hu with
    | 0, hu => cases hu; exact h.cell 0 rfl
    | i + 1, hu => simp at hu
  | 1, hj =>
    cases hj
    refine ⟨[.slice A1 l1.length c1], rfl, ⟨A1, c1, rfl, hc1, h1⟩, fun i u hu => ?_⟩
    match i, hu with
    | 0, hu => cases hu; exact h.cell 1 rfl
    | i + 1, hu => simp at hu
  | j + 2, hj => simp at hj

def pancake_Flips.f (l0 l1 : List Int) : Option (Int × Int) := some (if chk2 false 7 l0 l1 = 0 then ((gap l0.length false l1 l0 : Nat), 0) else (0, chk2 false 7 l0 l1))
set_option maxRecDepth 100000 in
set_option maxHeartbeats 4000000 in
theorem pancake_Flips.calls (A0 : Option Addr) (c0 : Nat) (l0 : List Int) (A1 : Option Addr) (c1 : Nat) (l1 : List Int) (r1 r2 : Int) (w : World) (hr0 : Kd.C (Kd.int .i64) w A0 l0.length l0) (hc0 : l0.length ≤ c0) (hr1 : Kd.C (Kd.int .i64) w A1 l1.length l1) (hc1 : l1.length ≤ c1) (h : pancake_Flips.f l0 l1 = some (r1, r2)) :
    Calls Tryd.prog 7 #[.slice A0 l0.length c0, .slice A1 l1.length c1] w fun e w' => e = .returned (.tuple #[.int .i64 r1, .int .i64 r2]) ∧ Below w.heap.size w w' := by
  obtain ⟨W0, hW0⟩ : ∃ W0, w.alloc (.cells #[.slice A0 l0.length c0, .slice A1 l1.length c1] 22) = W0 := ⟨_, rfl⟩
  have hB : Below w.heap.size w W0 := by rw [← hW0]; exact (Below.refl _ w).alloc (Nat.le_refl _) _
  have hk : Blk W0 w.heap.size #[.slice A0 l0.length c0, .slice A1 l1.length c1] 22 := by rw [← hW0]; exact Blk.new _ _ _
  have HC := Aside0.mk (pancake_check.calls 3 false 7 (some ⟨w.heap.size, 0, none⟩) 2 [l0, l1] (chk2 false 7 l0 l1) W0 (two_rows hk (Kd.C_below hr0 hB) hc0 (Kd.C_below hr1 hB) hc1) (Nat.le_refl _) (chk2_f false 7 (by decide) l0 l1))
  have HB := Aside0.mk hB
  have HR0 := Aside0.mk hr0
  have HR1 := Aside0.mk hr1
  obtain ⟨ce, hce⟩ : ∃ ce, chk2 false 7 l0 l1 = ce := ⟨_, rfl⟩
  unfold pancake_Flips.f at h
  rw [hce] at h HC
  have HCE := Aside0.mk hce
  clear hB hk hr0 hr1 hce
  go_enter Tryd.func7, Tryd.ntmps7
  by_cases he : ce = 0
  · rw [if_pos he] at h
    subst he
    cases h
    have hst : isSt false 7 l0 = true ∧ isSt false 7 l1 = true ∧ l0.length = l1.length := by
      have h := HCE.out
      unfold chk2 at h
      by_cases h0 : isSt false 7 l0 = true <;> by_cases h1 : isSt false 7 l1 = true <;> by_cases h2 : l0.length = l1.length <;> simp [h0, h1, h2] at h
      exact ⟨h0, h1, h2⟩
    have v0 := isSt_vs hst.1 (by decide)
    have v1 := isSt_vs hst.2.1 (by decide)
    rw [← hst.2.2] at v1
    have hn : l0.length ≤ 7 := by have := (isSt_len hst.1).2; omega
    have HV0 := Aside0.mk v0
    have HV1 := Aside0.mk v1
    clear v0 v1 hst
    go_wp2_with (go_at_call 18; refine HC.out.mono ?_; rintro e w1 ⟨rfl, hb⟩; have HB1 := Aside0.mk (HB.out.trans (hb.mono HB.out.size)); clear hb)
    go_wp2_with (go_at_call 20; refine stopper ?_)
    unfold Hold
    refine (packed_calls A0 c0 l0 _ l0.length hn HV0.out (Kd.C_below HR0.out HB1.out)).mono ?_
    rintro e w2 ⟨rfl, hb⟩
    have HB2 := Aside0.mk (HB1.out.trans (hb.mono HB1.out.size))
    clear hb
    go_wp2_with (go_at_call 20; refine stopper ?_)
    unfold Hold
    refine (packed_calls A1 c1 l1 _ l0.length hn HV1.out (Kd.C_below HR1.out HB2.out)).mono ?_
    rintro e w3 ⟨rfl, hb⟩
    have HB3 := Aside0.mk (HB2.out.trans (hb.mono HB2.out.size))
    clear hb
    go_wp2_with (go_at_call 19; refine stopper ?_)
    unfold Hold
    refine (between_calls l0.length hn false l0 l1 HV0.out HV1.out _).mono ?_
    rintro e w4 ⟨rfl, hb⟩
    have HB4 := Aside0.mk (HB3.out.trans (hb.mono HB3.out.size))
    clear hb
    go_wp2
    refine bodyPost_ret (results_tmp2 rfl _ _ _) rfl ⟨rfl, HB4.out⟩
  · rw [if_neg he] at h
    cases h
    go_wp2_with (go_at_call 18; refine HC.out.mono ?_; rintro e w1 ⟨rfl, hb⟩; have HB1 := Aside0.mk (HB.out.trans (hb.mono HB.out.size)); clear hb)
    refine bodyPost_ret (results_tmp2 rfl _ _ _) rfl ⟨rfl, HB1.out⟩

end Go.Proofs.YtbadfjogakhhbaaDoor.G
namespace Go.Proofs.YtbadfjogakhhbaaDoor.G
open Go.Proofs.YtbadfjogakhhbaaDoor.Q Go.Proofs.YtbadfjogakhhbaaDoor.K Go.Proofs.YtbadfjogakhhbaaDoor.Bf
open Go.RowKit Go.Shelf Go.Proofs.YtbadfjogakhhbaaDoorW.PrintWords Go.Proofs.YtbadfjogakhhbaaDoorW.PrintLast Go.Proofs.YtbadfjogakhhbaaDoorW.PrintMore
set_option linter.unusedVariables false
def pancake_Worst.f (a0 : Int) : Option (Int × Int × Int) := some (if 1 ≤ a0 ∧ a0 ≤ 7 then (((wrst a0.toNat false).1 : Nat), ((wrst a0.toNat false).2 : Nat), 0) else (0, 0, 1))
set_option maxRecDepth 100000 in
set_option maxHeartbeats 4000000 in
theorem pancake_Worst.calls (a0 : Int) (r1 r2 r3 : Int) (w : World) (h : pancake_Worst.f a0 = some (r1, r2, r3)) :
    Calls Tryd.prog 6 #[.int .i64 a0] w fun e w' => e = .returned (.tuple #[.int .i64 r1, .int .i64 r2, .int .i64 r3]) ∧ Below w.heap.size w w' := by
  unfold pancake_Worst.f at h
  go_enter Tryd.func6, Tryd.ntmps6
  by_cases h1 : a0 < 1
  · rw [if_neg (by omega)] at h
    cases h
    go_wp2
    refine bodyPost_ret (results_tmp3 rfl _ _ _) rfl ⟨rfl, Below.refl _ _⟩
  · by_cases h2 : a0 > 7
    · rw [if_neg (by omega)] at h
      cases h
      go_wp2
      refine bodyPost_ret (results_tmp3 rfl _ _ _) rfl ⟨rfl, Below.refl _ _⟩
    · rw [if_pos (by omega)] at h
      cases h
      obtain ⟨n, rfl⟩ := Int.eq_ofNat_of_zero_le (show 0 ≤ a0 by omega)
      have hn : n ≤ 7 := by omega
      go_wp2_with (go_at_call 17; refine stopper ?_)
      unfold Hold
      refine (worst_calls n hn false w).mono ?_
      rintro e w1 ⟨rfl, hb⟩
      have HB := Aside0.mk hb
      clear hb
      go_wp2
      refine bodyPost_ret (results_tmp3 rfl _ _ _) rfl ⟨rfl, HB.out⟩
end Go.Proofs.YtbadfjogakhhbaaDoor.G
