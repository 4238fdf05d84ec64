/- PancakeSteps: without the reference: a turn changes the distance by at most 1, the number of circles by at most 1, and turned again it is what it was; the circles have all grey lines: a part of the proof (2 of 4): contracts of the functions, and plain lemmas. -/
import Derived.Test.YtepjhdblmghckaaUt
import Derived.Test.YtepjhdblmghckaaEt1
import Derived.Shelf.SlicesE.Delete
set_option linter.unusedVariables false
set_option linter.unusedSimpArgs false

namespace Go.Proofs.Ytepjhdblmghckaa.G
open Go.Proofs.Ytepjhdblmghckaa.Q Go.Proofs.Ytepjhdblmghckaa.K Go.Proofs.Ytepjhdblmghckaa.Bf
open Go.RowKit Go.Shelf Go.Proofs.YtepjhdblmghckaaW.PrintWords Go.Proofs.YtepjhdblmghckaaW.PrintLast Go.Proofs.YtepjhdblmghckaaW.PrintMore
set_option linter.unusedVariables false
theorem isL_mem (sg : Bool) (n : Nat) : ∀ (l : List Int) (seen : Nat → Bool), isL sg n l seen = true → ∀ x, x ∈ l → -(n : Int) ≤ x ∧ x ≤ n
 | [], _, _, x, hx => by cases hx
 | y :: r, seen, h, x, hx => by
  rw [isL] at h
  split at h
  ·cases h
  ·rename_i hn
   rcases List.mem_cons.1 hx with rfl | hx
   ·have h1 : ¬ absS sg n x < 1 := fun e => hn (.inl e)
    have h2 : ¬ (n : Int) < absS sg n x := fun e => hn (.inr (.inl e))
    unfold absS at h1 h2
    split at h1 <;> omega
   ·exact isL_mem sg n r _ h x hx
theorem isSt_len {sg : Bool} {most : Int} {l : List Int} (h : isSt sg most l = true) : 1 ≤ l.length ∧ (l.length : Int) ≤ most := by
 unfold isSt at h
 split at h
 ·cases h
 ·rename_i hn
  omega
theorem isSt_vs {sg : Bool} {most : Int} {l : List Int} (h : isSt sg most l = true) (hm : most ≤ 7) : Vs l.length l := by
 have hl := isSt_len h
 refine ⟨rfl, fun j => ?_⟩
 unfold isSt at h
 split at h
 ·cases h
 ·have hx := isL_mem sg l.length l _ h
  unfold nth
  by_cases hj : j < l.length
  ·have := hx (l.getD j 0) (by rw [List.getD_eq_getElem?_getD, List.getElem?_eq_getElem hj]; exact List.getElem_mem hj)
   omega
  ·rw [List.getD_eq_getElem?_getD, List.getElem?_eq_none (by omega)]
   simp
def chk2 (sg : Bool) (most : Int) (l0 l1 : List Int) : Int := if isSt sg most l0 = true then (if isSt sg most l1 = true then (if l0.length = l1.length then 0 else 6) else 70) else 70
theorem chk2_f (sg : Bool) (most : Int) (hm : most ≤ 40) (l0 l1 : List Int) : pancake_check.f 3 sg most [l0, l1] = some (chk2 sg most l0 l1) := by
 unfold pancake_check.f chk2
 have w1 : wrap64 (0 + 1) = 1 := w64 (by decide) (by decide)
 have w2 : wrap64 (1 + 1) = 2 := w64 (by decide) (by decide)
 simp only [pancake_check.l0, List.length_cons, List.length_nil, rd_L1, pancake_isStack.f, if_pos hm, Option.bind_some, w1, w2]
 by_cases h0 : isSt sg most l0 = true <;> by_cases h1 : isSt sg most l1 = true <;> by_cases h2 : l0.length = l1.length <;> simp [h0, h1, h2] <;> omega
theorem two_rows {W : World} {b t : Nat} {A0 A1 : Option Addr} {c0 c1 : Nat} {l0 l1 : List Int} (h : Blk W b #[.slice A0 l0.length c0, .slice A1 l1.length c1] t) (h0 : Kd.C (Kd.int .i64) W A0 l0.length l0) (hc0 : l0.length ≤ c0) (h1 : Kd.C (Kd.int .i64) W A1 l1.length l1) (hc1 : l1.length ≤ c1) :
  Kd.C (Kd.slice 3 (Kd.int .i64)) W (some ⟨b, 0, none⟩) [l0, l1].length [l0, l1] := by
 refine ⟨rfl, by simp, fun _ => ⟨_, rfl, fun j p hj => ?_⟩⟩
 match j, hj with
 | 0, hj =>
  cases hj
  refine ⟨[.slice A0 l0.length c0], rfl, ⟨A0, c0, rfl, hc0, h0⟩, fun i u hu => ?_⟩
  match i, hu with
  | 0, hu => cases hu; exact h.cell 0 rfl
  | i + 1, hu => simp at hu
 | 1, hj =>
  cases hj
  refine ⟨[.slice A1 l1.length c1], rfl, ⟨A1, c1, rfl, hc1, h1⟩, fun i u hu => ?_⟩
  match i, hu with
  | 0, hu => cases hu; exact h.cell 1 rfl
  | i + 1, hu => simp at hu
 | j + 2, hj => simp at hj
def pancake_Flips.f (l0 l1 : List Int) : Option (Int × Int) := some (if chk2 false 7 l0 l1 = 0 then ((gap l0.length false l1 l0 : Nat), 0) else (0, chk2 false 7 l0 l1))
set_option maxRecDepth 100000 in
set_option maxHeartbeats 4000000 in
theorem pancake_Flips.calls (A0 : Option Addr) (c0 : Nat) (l0 : List Int) (A1 : Option Addr) (c1 : Nat) (l1 : List Int) (r1 r2 : Int) (w : World) (hr0 : Kd.C (Kd.int .i64) w A0 l0.length l0) (hc0 : l0.length ≤ c0) (hr1 : Kd.C (Kd.int .i64) w A1 l1.length l1) (hc1 : l1.length ≤ c1) (h : pancake_Flips.f l0 l1 = some (r1, r2)) :
  Calls Try.prog 28 #[.slice A0 l0.length c0, .slice A1 l1.length c1] w fun e w' => e = .returned (.tuple #[.int .i64 r1, .int .i64 r2]) ∧ Below w.heap.size w w' := by
 obtain ⟨W0, hW0⟩ : ∃ W0, w.alloc (.cells #[.slice A0 l0.length c0, .slice A1 l1.length c1] 22) = W0 := ⟨_, rfl⟩
 have hB : Below w.heap.size w W0 := by rw [← hW0]; exact (Below.refl _ w).alloc (Nat.le_refl _) _
 have hk : Blk W0 w.heap.size #[.slice A0 l0.length c0, .slice A1 l1.length c1] 22 := by rw [← hW0]; exact Blk.new _ _ _
 have HC := Aside0.mk (pancake_check.calls 3 false 7 (some ⟨w.heap.size, 0, none⟩) 2 [l0, l1] (chk2 false 7 l0 l1) W0 (two_rows hk (Kd.C_below hr0 hB) hc0 (Kd.C_below hr1 hB) hc1) (Nat.le_refl _) (chk2_f false 7 (by decide) l0 l1))
 have HB := Aside0.mk hB
 have HR0 := Aside0.mk hr0
 have HR1 := Aside0.mk hr1
 obtain ⟨ce, hce⟩ : ∃ ce, chk2 false 7 l0 l1 = ce := ⟨_, rfl⟩
 unfold pancake_Flips.f at h
 rw [hce] at h HC
 have HCE := Aside0.mk hce
 clear hB hk hr0 hr1 hce
 go_enter Try.func28, Try.ntmps28
 by_cases he : ce = 0
 ·rw [if_pos he] at h
  subst he
  cases h
  have hst : isSt false 7 l0 = true ∧ isSt false 7 l1 = true ∧ l0.length = l1.length := by
   have h := HCE.out
   unfold chk2 at h
   by_cases h0 : isSt false 7 l0 = true <;> by_cases h1 : isSt false 7 l1 = true <;> by_cases h2 : l0.length = l1.length <;> simp [h0, h1, h2] at h
   exact ⟨h0, h1, h2⟩
  have v0 := isSt_vs hst.1 (by decide)
  have v1 := isSt_vs hst.2.1 (by decide)
  rw [← hst.2.2] at v1
  have hn : l0.length ≤ 7 := by have := (isSt_len hst.1).2; omega
  have HV0 := Aside0.mk v0
  have HV1 := Aside0.mk v1
  clear v0 v1 hst
  go_wp2_with (go_at_call 68; refine HC.out.mono ?_; rintro e w1 ⟨rfl, hb⟩; have HB1 := Aside0.mk (HB.out.trans (hb.mono HB.out.size)); clear hb)
  go_wp2_with (go_at_call 70; refine stopper ?_)
  unfold Hold
  refine (packed_calls A0 c0 l0 _ l0.length hn HV0.out (Kd.C_below HR0.out HB1.out)).mono ?_
  rintro e w2 ⟨rfl, hb⟩
  have HB2 := Aside0.mk (HB1.out.trans (hb.mono HB1.out.size))
  clear hb
  go_wp2_with (go_at_call 70; refine stopper ?_)
  unfold Hold
  refine (packed_calls A1 c1 l1 _ l0.length hn HV1.out (Kd.C_below HR1.out HB2.out)).mono ?_
  rintro e w3 ⟨rfl, hb⟩
  have HB3 := Aside0.mk (HB2.out.trans (hb.mono HB2.out.size))
  clear hb
  go_wp2_with (go_at_call 69; refine stopper ?_)
  unfold Hold
  refine (between_calls l0.length hn false l0 l1 HV0.out HV1.out _).mono ?_
  rintro e w4 ⟨rfl, hb⟩
  have HB4 := Aside0.mk (HB3.out.trans (hb.mono HB3.out.size))
  clear hb
  go_wp2
  refine bodyPost_ret (results_tmp2 rfl _ _ _) rfl ⟨rfl, HB4.out⟩
 ·rw [if_neg he] at h
  cases h
  go_wp2_with (go_at_call 68; refine HC.out.mono ?_; rintro e w1 ⟨rfl, hb⟩; have HB1 := Aside0.mk (HB.out.trans (hb.mono HB.out.size)); clear hb)
  refine bodyPost_ret (results_tmp2 rfl _ _ _) rfl ⟨rfl, HB1.out⟩
end Go.Proofs.Ytepjhdblmghckaa.G


namespace Go.Proofs.Ytepjhdblmghckaa.G
open Go.Proofs.Ytepjhdblmghckaa.Q Go.Proofs.Ytepjhdblmghckaa.K Go.Proofs.Ytepjhdblmghckaa.Bf
open Go.RowKit Go.Shelf Go.Proofs.YtepjhdblmghckaaW.PrintWords Go.Proofs.YtepjhdblmghckaaW.PrintLast Go.Proofs.YtepjhdblmghckaaW.PrintMore
set_option linter.unusedVariables false
def chk1 (sg : Bool) (most : Int) (l0 : List Int) : Int := if isSt sg most l0 = true then 0 else 70
theorem chk1_f (sg : Bool) (most : Int) (hm : most ≤ 40) (l0 : List Int) : pancake_check.f 2 sg most [l0] = some (chk1 sg most l0) := by
 unfold pancake_check.f chk1
 have w1 : wrap64 (0 + 1) = 1 := w64 (by decide) (by decide)
 simp only [pancake_check.l0, List.length_cons, List.length_nil, rd_L1, pancake_isStack.f, if_pos hm, Option.bind_some, w1]
 by_cases h0 : isSt sg most l0 = true <;> simp [h0]
theorem one_row {W : World} {b t : Nat} {A0 : Option Addr} {c0 : Nat} {l0 : List Int} (h : Blk W b #[.slice A0 l0.length c0] t) (h0 : Kd.C (Kd.int .i64) W A0 l0.length l0) (hc0 : l0.length ≤ c0) :
  Kd.C (Kd.slice 3 (Kd.int .i64)) W (some ⟨b, 0, none⟩) [l0].length [l0] := by
 refine ⟨rfl, by simp, fun _ => ⟨_, rfl, fun j p hj => ?_⟩⟩
 match j, hj with
 | 0, hj =>
  cases hj
  refine ⟨[.slice A0 l0.length c0], rfl, ⟨A0, c0, rfl, hc0, h0⟩, fun i u hu => ?_⟩
  match i, hu with
  | 0, hu => cases hu; exact h.cell 0 rfl
  | i + 1, hu => simp at hu
 | j + 1, hj => simp at hj
set_option maxHeartbeats 4000000 in
theorem check58_one (A0 : Option Addr) (c0 : Nat) (l0 : List Int) (w : World) (hr0 : Kd.C (Kd.int .i64) w A0 l0.length l0) (hc0 : l0.length ≤ c0) :
  Calls Try.prog 58 #[.slice A0 l0.length c0] w fun e w' => e = .returned (.int .i64 (chk1 false 7 l0)) ∧ Below w.heap.size w w' := by
 obtain ⟨W0, hW0⟩ : ∃ W0, w.alloc (.cells #[.slice A0 l0.length c0] 22) = W0 := ⟨_, rfl⟩
 have hB : Below w.heap.size w W0 := by rw [← hW0]; exact (Below.refl _ w).alloc (Nat.le_refl _) _
 have hk : Blk W0 w.heap.size #[.slice A0 l0.length c0] 22 := by rw [← hW0]; exact Blk.new _ _ _
 have HC := Aside0.mk (pancake_check.calls 2 false 7 (some ⟨w.heap.size, 0, none⟩) 1 [l0] (chk1 false 7 l0) W0 (one_row hk (Kd.C_below hr0 hB) hc0) (Nat.le_refl _) (chk1_f false 7 (by decide) l0))
 have HB := Aside0.mk hB
 clear hB hk hr0
 go_enter Try.func58, Try.ntmps58
 go_wp2_with (go_at_call 68; refine HC.out.mono ?_; rintro e w1 ⟨rfl, hb⟩; have HB1 := Aside0.mk (HB.out.trans (hb.mono HB.out.size)); clear hb)
 go_ret
 exact ⟨rfl, HB1.out⟩
end Go.Proofs.Ytepjhdblmghckaa.G


namespace Go.Proofs.Ytepjhdblmghckaa.G
open Go.Proofs.Ytepjhdblmghckaa.Q Go.Proofs.Ytepjhdblmghckaa.K Go.Proofs.Ytepjhdblmghckaa.Bf
open Go.RowKit Go.Shelf Go.Proofs.YtepjhdblmghckaaW.PrintWords Go.Proofs.YtepjhdblmghckaaW.PrintLast Go.Proofs.YtepjhdblmghckaaW.PrintMore
set_option linter.unusedVariables false
theorem nth_mem {l : List Int} {B : Int} (hB : 0 ≤ B) (h : ∀ x, x ∈ l → -B ≤ x ∧ x ≤ B) (p : Nat) : -B ≤ nth l p ∧ nth l p ≤ B := by
 by_cases hp : p < l.length
 ·have := h (l.getD p 0) (by rw [List.getD_eq_getElem?_getD, List.getElem?_eq_getElem hp]; exact List.getElem_mem hp)
  unfold nth
  exact this
 ·rw [nth_end _ _ (by omega)]; omega
theorem flippedR_calls {W : World} {base : Nat} {ok : Nat → Prop} {v : Value} {l : List Int} (sg : Bool) (h : Kd.R (Kd.int .i64) 3 W base ok v l) (i k : Nat) (hik : i ≤ k) (hk : k < l.length) (hn : l.length ≤ 1000) (hm : ∀ x, x ∈ l → -100 ≤ x ∧ x ≤ 100) :
  Calls Try.prog 75 #[v, .int .i64 (i : Int), .int .i64 (k : Int), .bool sg] W fun e w' => e = .returned (.tuple #[]) ∧ Kd.R (Kd.int .i64) 3 w' base ok v (flL sg l i k) ∧ Below base W w' := by
 have ho := Kd.own_of_R h
 rcases ho.2 with ⟨_, h0⟩ | ⟨g, cap, cur, rfl, hb, hh, hnc, hcm, hsz, htake⟩
 ·omega
 ·have hrow : Row .i64 W g 3 l.length cur (nth l) := by
   refine ⟨hh, by omega, fun p hp => ?_⟩
   have h1 := congrArg (fun z => z[p]?) htake
   simp only [Nat.mul_one] at h1
   rw [List.getElem?_take, if_pos hp] at h1
   rw [← Array.getElem?_toList, h1]
   unfold encs
   rw [List.getElem?_map, List.getElem?_eq_getElem hp]
   simp [nth, hp]
  refine (flipped64_calls (c := cap) sg hrow hik hk (by omega) hnc (fun p => nth_mem (by decide) hm p)).mono ?_
  rintro e w' ⟨rfl, cs', hr', _, hz', ha⟩
  refine ⟨rfl, ?_, ⟨ha.os, ha.tape, ha.output, by rw [ha.size]; exact Nat.le_refl _, fun j hj => ha.other j (by omega)⟩⟩
  have hl : (flL sg l i k).length = l.length := flL_len sg l i k
  have hown : w'.ownsRow base 3 1 (.slice (some ⟨g, 0, none⟩) l.length cap) (flL sg l i k).length (encs (Value.int .i64) (flL sg l i k)) := by
   rw [hl]
   refine ⟨by simp [encs, hl], .inr ⟨g, cap, cs', rfl, hb, hr'.blk, hnc, hcm, by rw [hz', hsz], ?_⟩⟩
   apply List.ext_getElem?
   intro p
   rw [Nat.mul_one, List.getElem?_take]
   by_cases hp : p < l.length
   ·rw [if_pos hp, Array.getElem?_toList, hr'.val p hp]
    unfold encs
    rw [List.getElem?_map, List.getElem?_eq_getElem (by rw [hl]; exact hp), Option.map_some]
    congr 2
    rw [← nth_flL sg l i k hk]
    simp [nth, hl, hp]
   ·rw [if_neg hp, List.getElem?_eq_none (by simp [encs, hl]; omega)]
  exact Kd.R_of_own hown h.1
def small (l : List Int) : Bool := decide (0 < l.length) && decide (l.length ≤ 40) && l.all (fun x => decide (-100 ≤ x) && decide (x ≤ 100))
theorem small_ok {l : List Int} (h : small l = true) : 0 < l.length ∧ l.length ≤ 40 ∧ ∀ x, x ∈ l → -100 ≤ x ∧ x ≤ 100 := by
 unfold small at h
 simp only [Bool.and_eq_true, decide_eq_true_eq, List.all_eq_true] at h
 exact ⟨h.1.1, h.1.2, h.2⟩
def pancake_topFlipped.f (l : List Int) (k : Int) (sg : Bool) : Option (List Int × Int) := if small l = true then some (if k < 1 ∨ (l.length : Int) < k then ([], 1) else (flL sg l 0 (k.toNat - 1), 0)) else none
set_option maxRecDepth 100000 in
set_option maxHeartbeats 4000000 in
theorem pancake_topFlipped.calls (A0 : Option Addr) (c0 : Nat) (l0 : List Int) (a1 : Int) (a2 : Bool) (r1 : List Int) (r2 : Int) (w : World) (hr0 : Kd.C (Kd.int .i64) w A0 l0.length l0) (hc0 : l0.length ≤ c0) (h : pancake_topFlipped.f l0 a1 a2 = some (r1, r2)) :
  Calls Try.prog 71 #[.slice A0 l0.length c0, .int .i64 a1, .bool a2] w fun e w' => ∃ v0_ : Value, e = .returned (.tuple #[v0_, .int .i64 r2]) ∧ Kd.R (Kd.int .i64) 3 w' w.heap.size (fun _ => True) v0_ r1 ∧ Below w.heap.size w w' := by
 unfold pancake_topFlipped.f at h
 split at h
 ·rename_i hs
  obtain ⟨hs1, hs2, hs3⟩ := small_ok hs
  have HC := Aside0.mk (slices_Clone_int_int.calls A0 c0 l0 l0 w hr0 hc0 (by unfold slices_Clone_int_int.f; rw [if_pos ⟨hs1, by omega⟩]))
  have HS := Aside0.mk hs3
  clear hs hs3 hr0
  by_cases h1 : a1 < 1
  ·rw [if_pos (.inl h1)] at h
   cases h
   go_enter Try.func71, Try.ntmps71
   go_wp2
   refine bodyPost_ret (results_tmp2 rfl _ _ _) rfl ⟨_, rfl, Kd.R_nil _ _ _ _ _, Below.refl _ _⟩
  ·by_cases h2 : (l0.length : Int) < a1
   ·rw [if_pos (.inr h2)] at h
    cases h
    go_enter Try.func71, Try.ntmps71
    go_wp2
    refine bodyPost_ret (results_tmp2 rfl _ _ _) rfl ⟨_, rfl, Kd.R_nil _ _ _ _ _, Below.refl _ _⟩
   ·rw [if_neg (by rintro (h | h) <;> omega)] at h
    cases h
    obtain ⟨q, hq⟩ : ∃ q : Nat, a1 = ((q + 1 : Nat) : Int) := ⟨(a1 - 1).toNat, by omega⟩
    subst hq
    have hw1 : IntKind.i64.wrap (((q + 1 : Nat) : Int) - 1) = (q : Int) := by rw [iw64 (by omega) (by omega)]; omega
    have e1 : ((q + 1 : Nat) : Int).toNat - 1 = q := by omega
    rw [e1]
    have hql : q < l0.length := by omega
    go_enter Try.func71, Try.ntmps71
    go_wp2_with (go_at_call 74; refine stopper ?_)
    unfold Hold
    refine HC.out.mono ?_
    rintro e w1 ⟨v1, rfl, hv1, hb1⟩
    have HF := Aside0.mk (flippedR_calls a2 hv1 0 q (Nat.zero_le _) hql (by omega) HS.out)
    have HB1 := Aside0.mk hb1
    clear hv1 hb1
    go_wp2_with (go_at_call 75; refine stopper ?_)
    unfold Hold
    refine HF.out.mono ?_
    rintro e w2 ⟨rfl, hv2, hb2⟩
    have HV2 := Aside0.mk hv2
    have HB2 := Aside0.mk (HB1.out.trans hb2)
    clear hv2 hb2
    go_wp2
    refine bodyPost_ret (results_tmp2 rfl _ _ _) rfl ⟨_, rfl, HV2.out, HB2.out⟩
 ·cases h
set_option maxHeartbeats 4000000 in
theorem check55_one (A0 : Option Addr) (c0 : Nat) (l0 : List Int) (w : World) (hr0 : Kd.C (Kd.int .i64) w A0 l0.length l0) (hc0 : l0.length ≤ c0) :
  Calls Try.prog 55 #[.slice A0 l0.length c0] w fun e w' => e = .returned (.int .i64 (chk1 true 40 l0)) ∧ Below w.heap.size w w' := by
 obtain ⟨W0, hW0⟩ : ∃ W0, w.alloc (.cells #[.slice A0 l0.length c0] 22) = W0 := ⟨_, rfl⟩
 have hB : Below w.heap.size w W0 := by rw [← hW0]; exact (Below.refl _ w).alloc (Nat.le_refl _) _
 have hk : Blk W0 w.heap.size #[.slice A0 l0.length c0] 22 := by rw [← hW0]; exact Blk.new _ _ _
 have HC := Aside0.mk (pancake_check.calls 2 true 40 (some ⟨w.heap.size, 0, none⟩) 1 [l0] (chk1 true 40 l0) W0 (one_row hk (Kd.C_below hr0 hB) hc0) (Nat.le_refl _) (chk1_f true 40 (by decide) l0))
 have HB := Aside0.mk hB
 clear hB hk hr0
 go_enter Try.func55, Try.ntmps55
 go_wp2_with (go_at_call 68; refine HC.out.mono ?_; rintro e w1 ⟨rfl, hb⟩; have HB1 := Aside0.mk (HB.out.trans (hb.mono HB.out.size)); clear hb)
 go_ret
 exact ⟨rfl, HB1.out⟩
theorem isSt_small {sg : Bool} {most : Int} {l : List Int} (h : isSt sg most l = true) (hm : most ≤ 40) : 0 < l.length ∧ l.length ≤ 40 ∧ ∀ x, x ∈ l → -100 ≤ x ∧ x ≤ 100 := by
 have hl := isSt_len h
 refine ⟨by omega, by omega, fun x hx => ?_⟩
 unfold isSt at h
 split at h
 ·cases h
 ·have := isL_mem sg l.length l _ h x hx
  omega
def pancake_Turn.f (l : List Int) (i k : Int) : Option (List Int × Int) := some (if isSt true 40 l = true then (if i < 0 ∨ k < i ∨ (l.length : Int) ≤ k then ([], 1) else (flL true l i.toNat k.toNat, 0)) else ([], 70))
set_option maxRecDepth 100000 in
set_option maxHeartbeats 4000000 in
theorem pancake_Turn.calls (A0 : Option Addr) (c0 : Nat) (l0 : List Int) (a1 a2 : Int) (r1 : List Int) (r2 : Int) (w : World) (hr0 : Kd.C (Kd.int .i64) w A0 l0.length l0) (hc0 : l0.length ≤ c0) (h : pancake_Turn.f l0 a1 a2 = some (r1, r2)) :
  Calls Try.prog 45 #[.slice A0 l0.length c0, .int .i64 a1, .int .i64 a2] w fun e w' => ∃ v0_ : Value, e = .returned (.tuple #[v0_, .int .i64 r2]) ∧ Kd.R (Kd.int .i64) 3 w' w.heap.size (fun _ => True) v0_ r1 ∧ Below w.heap.size w w' := by
 unfold pancake_Turn.f at h
 have HK := Aside0.mk (check55_one A0 c0 l0 w hr0 hc0)
 unfold chk1 at HK
 have HR := Aside0.mk hr0
 clear hr0
 go_enter Try.func45, Try.ntmps45
 by_cases hst : isSt true 40 l0 = true
 ·rw [if_pos hst] at h HK
  obtain ⟨hs1, hs2, hs3⟩ := isSt_small hst (by decide)
  have HS := Aside0.mk hs3
  clear hst hs3
  go_wp2_with (go_at_call 55; refine stopper ?_)
  unfold Hold
  refine HK.out.mono ?_
  rintro e w1 ⟨rfl, hb⟩
  have HB1 := Aside0.mk hb
  clear hb
  by_cases h1 : a1 < 0
  ·rw [if_pos (.inl h1)] at h
   cases h
   go_wp2
   refine bodyPost_ret (results_tmp2 rfl _ _ _) rfl ⟨_, rfl, Kd.R_nil _ _ _ _ _, HB1.out⟩
  ·by_cases h2 : a1 > a2
   ·rw [if_pos (.inr (.inl h2))] at h
    cases h
    go_wp2
    refine bodyPost_ret (results_tmp2 rfl _ _ _) rfl ⟨_, rfl, Kd.R_nil _ _ _ _ _, HB1.out⟩
   ·by_cases h3 : a2 ≥ (l0.length : Int)
    ·rw [if_pos (.inr (.inr h3))] at h
     cases h
     have h3' : (l0.length : Int) ≤ a2 := h3
     go_wp2
     refine bodyPost_ret (results_tmp2 rfl _ _ _) rfl ⟨_, rfl, Kd.R_nil _ _ _ _ _, HB1.out⟩
    ·rw [if_neg (by rintro (h | h | h) <;> omega)] at h
     cases h
     have h3' : ¬ (l0.length : Int) ≤ a2 := h3
     obtain ⟨i, rfl⟩ := Int.eq_ofNat_of_zero_le (show 0 ≤ a1 by omega)
     obtain ⟨k, rfl⟩ := Int.eq_ofNat_of_zero_le (show 0 ≤ a2 by omega)
     have hik : i ≤ k := by omega
     have hkl : k < l0.length := by omega
     have HC := Aside0.mk (slices_Clone_int_int.calls A0 c0 l0 l0 w1 (Kd.C_below HR.out HB1.out) hc0 (by unfold slices_Clone_int_int.f; rw [if_pos ⟨hs1, by omega⟩]))
     go_wp2_with (go_at_call 74; refine stopper ?_)
     unfold Hold
     refine HC.out.mono ?_
     rintro e w2 ⟨v1, rfl, hv1, hb1⟩
     have HF := Aside0.mk (flippedR_calls true hv1 i k hik hkl (by omega) HS.out)
     have HB2 := Aside0.mk (HB1.out.trans (hb1.mono HB1.out.size))
     clear hv1 hb1
     go_wp2_with (go_at_call 75; refine stopper ?_)
     unfold Hold
     refine HF.out.mono ?_
     rintro e w3 ⟨rfl, hv2, hb2⟩
     have HV2 := Aside0.mk (Kd.R_lower hv2 HB1.out.size)
     have HB3 := Aside0.mk (HB2.out.trans (hb2.mono HB1.out.size))
     clear hv2 hb2
     go_wp2
     refine bodyPost_ret (results_tmp2 rfl _ _ _) rfl ⟨_, rfl, HV2.out, HB3.out⟩
 ·rw [if_neg hst] at h HK
  cases h
  clear hst
  go_wp2_with (go_at_call 55; refine stopper ?_)
  unfold Hold
  refine HK.out.mono ?_
  rintro e w1 ⟨rfl, hb⟩
  have HB1 := Aside0.mk hb
  clear hb
  go_wp2
  refine bodyPost_ret (results_tmp2 rfl _ _ _) rfl ⟨_, rfl, Kd.R_nil _ _ _ _ _, HB1.out⟩
end Go.Proofs.Ytepjhdblmghckaa.G


namespace Go.Proofs.Ytepjhdblmghckaa.G
open Go.Proofs.Ytepjhdblmghckaa.Q Go.Proofs.Ytepjhdblmghckaa.K Go.Proofs.Ytepjhdblmghckaa.Bf
open Go.RowKit Go.Shelf Go.Proofs.YtepjhdblmghckaaW.PrintWords Go.Proofs.YtepjhdblmghckaaW.PrintLast Go.Proofs.YtepjhdblmghckaaW.PrintMore
set_option linter.unusedVariables false
theorem isL_nz (sg : Bool) (n : Nat) : ∀ (l : List Int) (seen : Nat → Bool), isL sg n l seen = true → ∀ x, x ∈ l → x ≠ 0 ∧ -(n : Int) ≤ x ∧ x ≤ n
 | [], _, _, x, hx => by cases hx
 | y :: r, seen, h, x, hx => by
  rw [isL] at h
  split at h
  ·cases h
  ·rename_i hn
   rcases List.mem_cons.1 hx with rfl | hx
   ·have h1 : ¬ absS sg n x < 1 := fun e => hn (.inl e)
    have h2 : ¬ (n : Int) < absS sg n x := fun e => hn (.inr (.inl e))
    unfold absS at h1 h2
    split at h1 <;> omega
   ·exact isL_nz sg n r _ h x hx
def pic1 (x : Int) : List Int := if x > 0 then [2 * x - 1, 2 * x] else [-2 * x, -2 * x - 1]
def picTo (s : List Int) : List Int := 0 :: s.flatMap pic1
def picL (s : List Int) : List Int := picTo s ++ [2 * (s.length : Int) + 1]
theorem picTo_len (s : List Int) : (picTo s).length = 1 + 2 * s.length := by
 unfold picTo
 rw [List.length_cons, List.length_flatMap]
 have : s.map (fun x => (pic1 x).length) = List.replicate s.length 2 := by
  rw [List.eq_replicate_iff]
  refine ⟨by simp, fun b hb => ?_⟩
  obtain ⟨x, _, rfl⟩ := List.mem_map.1 hb
  unfold pic1; split <;> rfl
 rw [this, List.sum_replicate_nat]
 omega
theorem picTo_step (s : List Int) (k : Nat) (h : k < s.length) : picTo (s.take k) ++ pic1 (nth s k) = picTo (s.take (k + 1)) := by
 unfold picTo
 rw [List.take_succ_eq_append_getElem h, List.flatMap_append, List.cons_append]
 congr 2
 simp [nth, h]
theorem two_lit (W : World) (a b : Int) : ReadsRow (fun x cs => (Kd.int .i64).M (W.alloc (.cells #[.int .i64 a, .int .i64 b] 3)) 0 (fun _ => False) x cs) (Kd.int .i64).sz (W.alloc (.cells #[.int .i64 a, .int .i64 b] 3)) (some ⟨W.heap.size, 0, none⟩) 2 [a, b] := by
 have hb := Blk.new W #[.int .i64 a, .int .i64 b] 3
 refine ⟨rfl, by omega, fun _ => ⟨_, rfl, fun j p hj => ?_⟩⟩
 match j, hj with
 | 0, hj => cases hj; exact ⟨[.int .i64 a], rfl, rfl, fun i u hu => by match i, hu with | 0, hu => cases hu; exact hb.cell 0 rfl | i + 1, hu => simp at hu⟩
 | 1, hj => cases hj; exact ⟨[.int .i64 b], rfl, rfl, fun i u hu => by match i, hu with | 0, hu => cases hu; exact hb.cell 1 rfl | i + 1, hu => simp at hu⟩
 | j + 2, hj => simp at hj
theorem one_lit (W : World) (a : Int) (base : Nat) (ok : Nat → Prop) (hb : base ≤ W.heap.size) (hok : ok W.heap.size) : Kd.R (Kd.int .i64) 3 (W.alloc (.cells #[.int .i64 a] 3)) base ok (.slice (some ⟨W.heap.size, 0, none⟩) 1 1) [a] := by
 refine Kd.R_of_own ?_ (fun k hk => ?_)
 ·exact World.ownsRow_lit (base := base) (e := 3) (size := 1) W #[.int .i64 a] 1 hb (by decide) rfl
 ·have : W.heap.size = k := by simpa [Value.ownBlock] using hk
  rw [← this]; exact hok
def plTo (p : List Int) (k : Nat) : List Int := (List.range k).foldl (fun P (at_ : Nat) => P.set (nth p at_).toNat (at_ : Int)) (List.replicate p.length 0)
theorem plTo_step (p : List Int) (k : Nat) : plTo p (k + 1) = (plTo p k).set (nth p k).toNat (k : Int) := by
 unfold plTo
 rw [List.range_succ, List.foldl_append]
 rfl
theorem plTo_len (p : List Int) (k : Nat) : (plTo p k).length = p.length := by
 induction k with
 | zero => simp [plTo]
 | succ k ih => rw [plTo_step, List.length_set, ih]
def plL (s : List Int) : List Int := plTo (picL s) (picL s).length
theorem picL_len (s : List Int) : (picL s).length = 2 * s.length + 2 := by
 unfold picL
 rw [List.length_append, picTo_len]
 simp
 omega
theorem picL_range (s : List Int) (h : ∀ x, x ∈ s → x ≠ 0 ∧ -(s.length : Int) ≤ x ∧ x ≤ s.length) : ∀ p, 0 ≤ nth (picL s) p ∧ nth (picL s) p < 2 * (s.length : Int) + 2 := by
 have hall : ∀ y, y ∈ picL s → 0 ≤ y ∧ y < 2 * (s.length : Int) + 2 := fun y hy => by
  unfold picL picTo at hy
  rcases List.mem_append.1 hy with hy | hy
  ·rcases List.mem_cons.1 hy with rfl | hy
   ·omega
   ·obtain ⟨x, hx, hy⟩ := List.mem_flatMap.1 hy
    have := h x hx
    unfold pic1 at hy
    split at hy <;> simp at hy <;> omega
  ·simp at hy; omega
 intro p
 by_cases hp : p < (picL s).length
 ·have := hall ((picL s).getD p 0) (by rw [List.getD_eq_getElem?_getD, List.getElem?_eq_getElem hp]; exact List.getElem_mem hp)
  exact this
 ·rw [nth_end _ _ (by omega)]; omega
def PicOk (base b : Nat) (s : List Int) (W : World) : Prop :=
 ∃ A c A2 c2, Blk W b #[.slice A (2 * s.length + 2) c, .slice A2 (2 * s.length + 2) c2] 96 ∧
  Kd.R (Kd.int .i64) 3 W base (fun j => j ≠ b) (.slice A (2 * s.length + 2) c) (picL s) ∧
  Kd.R (Kd.int .i64) 3 W base (fun j => j ≠ b ∧ some j ≠ (Value.slice A (2 * s.length + 2) c).ownBlock) (.slice A2 (2 * s.length + 2) c2) (plL s)
structure PicI (w : World) (s : List Int) (k : Nat) (v : Value) (W : World) : Prop where
 blk : Blk W (w.heap.size + 1) #[v, .slice none 0 0] 96
 row : Kd.R (Kd.int .i64) 3 W w.heap.size (fun j => j ≠ w.heap.size + 1) v (picTo (s.take k))
 below : Below w.heap.size w W
set_option maxRecDepth 100000 in
set_option maxHeartbeats 8000000 in
theorem pictured_calls (A0 : Option Addr) (c0 : Nat) (s : List Int) (w : World) (hr0 : Kd.C (Kd.int .i64) w A0 s.length s) (hs : s.length ≤ 40) (hm0 : ∀ x, x ∈ s → x ≠ 0 ∧ -(s.length : Int) ≤ x ∧ x ≤ s.length) :
  Calls Try.prog 60 #[.slice A0 s.length c0] w fun e w' => e = .returned (.pointer (some ⟨w.heap.size + 1, 0, none⟩)) ∧ PicOk w.heap.size (w.heap.size + 1) s w' ∧ Below w.heap.size w w' := by
 have hm : ∀ x, x ∈ s → -100 ≤ x ∧ x ≤ 100 := fun x hx => by have := hm0 x hx; omega
 have HPT := Aside0.mk (picL_range s hm0)
 have HC := Aside0.mk hr0
 have HM := Aside0.mk hm
 obtain ⟨n, hn⟩ : ∃ n, s.length = n := ⟨_, rfl⟩
 rw [hn] at hs ⊢
 have HN := Aside0.mk hn
 clear hr0 hm hn
 have hL := one_lit w 0 w.heap.size (fun j => j ≠ w.heap.size + 1) (Nat.le_refl _) (by omega)
 have HI0 := Aside0.mk (show PicI w s 0 (.slice (some ⟨w.heap.size, 0, none⟩) 1 1) ((w.alloc (.cells #[.int .i64 0] 3)).alloc (.cells #[.slice (some ⟨w.heap.size, 0, none⟩) 1 1, .slice none 0 0] 96)) from
  ⟨by
   have := Blk.new (w.alloc (.cells #[.int .i64 0] 3)) #[.slice (some ⟨w.heap.size, 0, none⟩) 1 1, .slice none 0 0] 96
   rw [World.size_alloc] at this
   exact this, Kd.R_alloc hL _, ((Below.refl _ w).alloc (Nat.le_refl _) _).alloc (by simp) _⟩)
 clear hL
 go_enter Try.func60, Try.ntmps60
 go_wp2
 go_loopw [13] (fun i wr => ∃ (k : Nat) (v : Value), k ≤ n ∧ i = .int .i64 (k : Int) ∧ Aside0 (PicI w s k v wr)) (fun i _ => n - (intOf i).toNat)
 case atStart => exact ⟨0, _, Nat.zero_le _, rfl, HI0⟩
 case round =>
  obtain ⟨k, v, hk, rfl, HI⟩ := hrel
  by_cases hlt : k < n
  ·have hi0 : (0 : Int) ≤ (k : Int) := by omega
   have hi1 : (k : Int) < (n : Int) := by omega
   obtain ⟨ad', e, hc⟩ := Kd.at_int (Kd.C_below HC.out HI.out.below) (k : Int) hi0 (by have := HN.out; omega)
   cases e
   rw [rd_nth, Int.toNat_natCast] at hc
   have hx := nth_mem (B := 100) (by decide) HM.out k
   have HST := Aside0.mk (picTo_step s k (by rw [HN.out]; exact hlt))
   obtain ⟨x, hxe⟩ : ∃ x, nth s k = x := ⟨_, rfl⟩
   rw [hxe] at hc hx HST
   have hwt : IntKind.i64.wrap ((k : Int) + 1) = ((k + 1 : Nat) : Int) := by rw [iw64 (by omega) (by omega)]; omega
   have hv := HI.out.blk.cell 0 (v := v) rfl
   have hf := HI.out.blk.free 0
   have HLB := Aside0.mk HI.out.blk.lt
   obtain ⟨xs, hxs⟩ : ∃ xs, picTo (s.take k) = xs := ⟨_, rfl⟩
   have hxl : xs.length = 1 + 2 * k := by rw [← hxs, picTo_len, List.length_take]; have := HN.out; omega
   have HR := Aside0.mk HI.out.row
   have HB := Aside0.mk HI.out.blk
   have HW := Aside0.mk HI.out.below
   rw [hxs] at HR HST
   have HXL := Aside0.mk hxl
   clear hxe hxs hxl HI
   by_cases hpos : x > 0
   ·have hw2 : IntKind.i64.wrap (2 * x) = 2 * x := iw64 (by omega) (by omega)
    have hw3 : IntKind.i64.wrap (2 * x - 1) = 2 * x - 1 := iw64 (by omega) (by omega)
    have HP := Aside0.mk (show pic1 x = [2 * x - 1, 2 * x] from if_pos hpos)
    clear hx
    go_wp2_with ((with_reducible refine gate_builtin (b := .append) (xs := #[.tmp 23, .tmp 29]) rfl ?_); at_builtin; refine stopper ?_)
    unfold Hold
    refine Kd.R_append_rows (Kd.int .i64) (Rr := fun x cs => (Kd.int .i64).M (wr.alloc (.cells #[.int .i64 (2 * x - 1), .int .i64 (2 * x)] 3)) 0 (fun _ => False) x cs) (w0 := w) w.heap.size rfl (.tmp 23) (.tmp 29) 22 3 (.int .i64 0) 8 rfl Try.underlying22 info3 rfl (by decide) (by decide) v xs [2 * x - 1, 2 * x] (some ⟨wr.heap.size, 0, none⟩) 2 2 (fun j => j ≠ w.heap.size + 1) (fun _ => False) rfl rfl (Kd.R_alloc HR.out _) (two_lit wr _ _) (fun x cs h => h) (fun _ h => h.elim) (fun k hk => by have := HLB.out;rw [World.size_alloc] at hk;omega) (HW.out.alloc HW.out.size _) (by have := HW.out.size;rw [World.size_alloc];omega) (by have := HXL.out;omega) ?_
    intro v1 wy ho hb hg hat
    rw [← HP.out, HST.out] at ho
    have hne : v.ownBlock ≠ some (w.heap.size + 1) := fun e => HR.out.1 _ e rfl
    have hbk : Blk wy (w.heap.size + 1) #[v, .slice none 0 0] 96 := (HB.out.alloc _).grown hg hne
    obtain ⟨A1, c1, ev⟩ := Kd.R_slice ho
    subst ev
    have hv2 := hbk.cell 0 (v := v) rfl
    have hf2 := hbk.free 0
    have HBK := Aside0.mk hbk
    have HO := Aside0.mk ho
    have HWY := Aside0.mk hb
    clear ho hb hg hat hne hbk hv hf hc HR HB HW
    generalize hlen : (picTo (List.take (k + 1) s)).length = ln at *
    go_wp2
    go_roundw
    case rel => exact ⟨k + 1, _, by omega, rfl, ⟨HBK.out.set 0 _, by rw [← hlen]; rw [← hlen] at HO; exact Kd.R_far HO.out (fun j hj => hj) _, HWY.out.setCell (by simp) _⟩⟩
    case measure => simp [intOf]; omega
   ·have hw2 : IntKind.i64.wrap (-2 * x) = -2 * x := iw64 (by omega) (by omega)
    have hw3 : IntKind.i64.wrap (-2 * x - 1) = -2 * x - 1 := iw64 (by omega) (by omega)
    have HP := Aside0.mk (show pic1 x = [-2 * x, -2 * x - 1] from if_neg hpos)
    clear hx
    go_wp2_with ((with_reducible refine gate_builtin (b := .append) (xs := #[.tmp 37, .tmp 43]) rfl ?_); at_builtin; refine stopper ?_)
    unfold Hold
    refine Kd.R_append_rows (Kd.int .i64) (Rr := fun x cs => (Kd.int .i64).M (wr.alloc (.cells #[.int .i64 (-2 * x), .int .i64 (-2 * x - 1)] 3)) 0 (fun _ => False) x cs) (w0 := w) w.heap.size rfl (.tmp 37) (.tmp 43) 22 3 (.int .i64 0) 8 rfl Try.underlying22 info3 rfl (by decide) (by decide) v xs [-2 * x, -2 * x - 1] (some ⟨wr.heap.size, 0, none⟩) 2 2 (fun j => j ≠ w.heap.size + 1) (fun _ => False) rfl rfl (Kd.R_alloc HR.out _) (two_lit wr _ _) (fun x cs h => h) (fun _ h => h.elim) (fun k hk => by have := HLB.out;rw [World.size_alloc] at hk;omega) (HW.out.alloc HW.out.size _) (by have := HW.out.size;rw [World.size_alloc];omega) (by have := HXL.out;omega) ?_
    intro v1 wy ho hb hg hat
    rw [← HP.out, HST.out] at ho
    have hne : v.ownBlock ≠ some (w.heap.size + 1) := fun e => HR.out.1 _ e rfl
    have hbk : Blk wy (w.heap.size + 1) #[v, .slice none 0 0] 96 := (HB.out.alloc _).grown hg hne
    obtain ⟨A1, c1, ev⟩ := Kd.R_slice ho
    subst ev
    have hv2 := hbk.cell 0 (v := v) rfl
    have hf2 := hbk.free 0
    have HBK := Aside0.mk hbk
    have HO := Aside0.mk ho
    have HWY := Aside0.mk hb
    clear ho hb hg hat hne hbk hv hf hc HR HB HW
    generalize hlen : (picTo (List.take (k + 1) s)).length = ln at *
    go_wp2
    go_roundw
    case rel => exact ⟨k + 1, _, by omega, rfl, ⟨HBK.out.set 0 _, by rw [← hlen]; rw [← hlen] at HO; exact Kd.R_far HO.out (fun j hj => hj) _, HWY.out.setCell (by simp) _⟩⟩
    case measure => simp [intOf]; omega
  ·have hi1 : ¬ (k : Int) < (n : Int) := by omega
   have HKN := Aside0.mk (show k = n by omega)
   have HR0 := HI.out.row
   rw [List.take_of_length_le (by have := HN.out; have := HKN.out; omega)] at HR0
   have hv := HI.out.blk.cell 0 (v := v) rfl
   have hf := HI.out.blk.free 0
   have HLB := Aside0.mk HI.out.blk.lt
   have HR := Aside0.mk HR0
   have HB := Aside0.mk HI.out.blk
   have HW := Aside0.mk HI.out.below
   have hw2 : IntKind.i64.wrap (2 * (n : Int)) = 2 * (n : Int) := iw64 (by omega) (by omega)
   have hw3 : IntKind.i64.wrap (2 * (n : Int) + 1) = 2 * (n : Int) + 1 := iw64 (by omega) (by omega)
   have HXL := Aside0.mk (picTo_len s)
   have HPL := Aside0.mk (show picTo s ++ [2 * (n : Int) + 1] = picL s by unfold picL; rw [HN.out])
   clear HR0 HI
   go_wp2_with ((with_reducible refine gate_builtin (b := .append) (xs := #[.tmp 52, .tmp 57]) rfl ?_); at_builtin; refine stopper ?_)
   unfold Hold
   refine Kd.R_append (Kd.int .i64) (w0 := w) w.heap.size rfl (.tmp 52) (.tmp 57) 22 3 (.int .i64 0) 8 rfl Try.underlying22 info3 rfl (by decide) (by decide) v (picTo s) (2 * (n : Int) + 1) [.int .i64 (2 * (n : Int) + 1)] (fun j => j ≠ w.heap.size + 1) (fun j => j ≠ w.heap.size + 1 ∧ some j ≠ v.ownBlock) rfl rfl rfl (fun k h => h) (fun k hk => by have := HLB.out; omega) HR.out HW.out HW.out.size (by have := HXL.out; have := HN.out; omega) ?_
   intro v1 wy ho hb hg hat
   rw [HPL.out] at ho
   have hne : v.ownBlock ≠ some (w.heap.size + 1) := fun e => HR.out.1 _ e rfl
   have hbk : Blk wy (w.heap.size + 1) #[v, .slice none 0 0] 96 := HB.out.grown hg hne
   obtain ⟨A1, c1, ev⟩ := Kd.R_slice ho
   subst ev
   have hv2 := hbk.cell 0 (v := v) rfl
   have hf2 := hbk.free 0
   have hv3 := hbk.cell 1 (v := .slice none 0 0) rfl
   have hf3 := hbk.free 1
   have HBK := Aside0.mk hbk
   have HWY := Aside0.mk hb
   obtain ⟨pl, hpl⟩ : ∃ pl, picL s = pl := ⟨_, rfl⟩
   have hln : pl.length = 2 * n + 2 := by rw [← hpl, picL_len, HN.out]
   rw [hpl, hln] at ho
   have HO := Aside0.mk ho
   rw [hpl, hln]
   have HPE := Aside0.mk hpl
   have HLN := Aside0.mk hln
   clear ho hb hg hat hne hbk hv hf HR HB HW hpl hln
   go_upto_region 10 with fail
   obtain ⟨Wz, hWz⟩ : ∃ Wz, wy.setCell ⟨w.heap.size + 1, 0, none⟩ (.slice A1 (2 * n + 2) c1) = Wz := ⟨_, rfl⟩
   have hbz : Blk Wz (w.heap.size + 1) #[.slice A1 (2 * n + 2) c1, .slice none 0 0] 96 := by rw [← hWz]; exact HBK.out.set 0 _
   have hrz : Kd.R (Kd.int .i64) 3 Wz w.heap.size (fun j => j ≠ w.heap.size + 1) (.slice A1 (2 * n + 2) c1) pl := by rw [← hWz]; exact Kd.R_far HO.out (fun j hj => hj) _
   have hwz : Below w.heap.size w Wz := by rw [← hWz]; exact HWY.out.setCell (by simp) _
   have hv := hbz.cell 0 (v := .slice A1 (2 * n + 2) c1) rfl
   have hv4 := hbz.cell 1 (v := .slice none 0 0) rfl
   have hf4 := hbz.free 1
   have hlz := hbz.lt
   have HBZ := Aside0.mk hbz
   have HRZ := Aside0.mk hrz
   have HWZ := Aside0.mk hwz
   try rw [hWz]
   clear hWz hbz hrz hwz HBK HO HWY hv2 hf2 hv3 hf3
   go_wp2_with (at_make; refine stopper ?_)
   unfold Hold
   refine Kd.R_make (Kd.int .i64) (w0 := w) w.heap.size 3 rfl (N := 67) rfl 22 (.tmp 66) (.tmp 66) rfl ((2 * n + 2 : Nat) : Int) (by first | rfl | simp) (by first | rfl | simp) Try.underlying22 (.int .i64 0) 8 info3 rfl (by decide) (by decide) (0 : Int) (ok := fun j => j ≠ w.heap.size + 1 ∧ some j ≠ (Value.slice A1 (2 * n + 2) c1).ownBlock) (okp := fun _ => False) rfl (fun _ h => h.elim) ⟨by omega, fun e => by
    have h := (Kd.R_bound HRZ.out).1 _ e.symm
    have := h.2.2.1
    omega⟩ (by omega) (by omega) HWZ.out HWZ.out.size ?_
   intro v2 wm ho hb hg hat
   rw [Int.toNat_natCast] at ho
   have hown := Kd.own_of_R ho
   rcases hown.2 with ⟨_, h0⟩ | ⟨g, cap, cur, rfl, hgb, _⟩
   ·simp at h0
   rw [List.length_replicate] at ho
   have hgok := ho.1 g rfl
   have hbm : Blk wm (w.heap.size + 1) #[.slice A1 (2 * n + 2) c1, .slice none 0 0] 96 := HBZ.out.grown hg (by simp)
   have hrm : Kd.R (Kd.int .i64) 3 wm w.heap.size (fun j => j ≠ w.heap.size + 1 ∧ j ≠ g) (.slice A1 (2 * n + 2) c1) pl := by
    have h1 := Kd.R_step HRZ.out (w1 := wm) (fun j _ hj => hg.block j hj (by simp))
    exact Kd.R_of_own (by exact Kd.own_of_R h1) (fun j hj => ⟨h1.1 j hj, fun e => hgok.2 (by rw [hj, e])⟩)
   have hv5 := hbm.cell 0 (v := .slice A1 (2 * n + 2) c1) rfl
   have hv6 := hbm.cell 1 (v := .slice none 0 0) rfl
   have hf6 := hbm.free 1
   have HBM := Aside0.mk hbm
   have HRM := Aside0.mk hrm
   have HWM := Aside0.mk hb
   have HQM := Aside0.mk ho
   have HGK := Aside0.mk hgok
   have HGB := Aside0.mk hgb
   simp only [List.length_replicate]
   clear ho hb hg hat hown hgok hbm hrm hgb hv hv4 hf4 hlz HBZ HRZ HWZ
   go_wp2
   obtain ⟨Wl, hWl⟩ : ∃ Wl, wm.setCell ⟨w.heap.size + 1, 1, none⟩ (.slice (some ⟨g, 0, none⟩) (2 * n + 2) cap) = Wl := ⟨_, rfl⟩
   have hne2 : g ≠ w.heap.size + 1 := HGK.out.1
   have HBL := Aside0.mk (show Blk Wl (w.heap.size + 1) #[.slice A1 (2 * n + 2) c1, .slice (some ⟨g, 0, none⟩) (2 * n + 2) cap] 96 by rw [← hWl]; exact HBM.out.set 1 _)
   have HRL := Aside0.mk (show Kd.R (Kd.int .i64) 3 Wl w.heap.size (fun j => j ≠ w.heap.size + 1 ∧ j ≠ g) (.slice A1 (2 * n + 2) c1) pl by rw [← hWl]; exact Kd.R_far HRM.out (fun j hj => hj.1) _)
   have HQL := Aside0.mk (show Kd.R (Kd.int .i64) 3 Wl w.heap.size (fun j => j ≠ w.heap.size + 1 ∧ some j ≠ (Value.slice A1 (2 * n + 2) c1).ownBlock) (.slice (some ⟨g, 0, none⟩) (2 * n + 2) cap) (plTo pl 0) by
    rw [← hWl, show plTo pl 0 = List.replicate (2 * n + 2) 0 by unfold plTo; rw [HLN.out]; rfl]
    exact Kd.R_far HQM.out (fun j hj => hj.1) _)
   have HWL := Aside0.mk (show Below w.heap.size w Wl by rw [← hWl]; exact HWM.out.setCell (by simp) _)
   have HPT2 := Aside0.mk (show ∀ q, 0 ≤ nth pl q ∧ nth pl q < 2 * (n : Int) + 2 by rw [← HPE.out, ← HN.out]; exact HPT.out)
   try rw [hWl]
   clear hWl HBM HRM HQM HWM hv5 hv6 hf6
   go_loopw [75] (fun i wl => ∃ j : Nat, j ≤ 2 * n + 2 ∧ i = .int .i64 (j : Int) ∧ Aside0 (Blk wl (w.heap.size + 1) #[.slice A1 (2 * n + 2) c1, .slice (some ⟨g, 0, none⟩) (2 * n + 2) cap] 96) ∧ Aside0 (Kd.R (Kd.int .i64) 3 wl w.heap.size (fun j => j ≠ w.heap.size + 1 ∧ j ≠ g) (.slice A1 (2 * n + 2) c1) pl) ∧ Aside0 (Kd.R (Kd.int .i64) 3 wl w.heap.size (fun j => j ≠ w.heap.size + 1 ∧ some j ≠ (Value.slice A1 (2 * n + 2) c1).ownBlock) (.slice (some ⟨g, 0, none⟩) (2 * n + 2) cap) (plTo pl j)) ∧ Aside0 (Below w.heap.size w wl)) (fun i _ => 2 * n + 2 - (intOf i).toNat)
   case atStart => exact ⟨0, Nat.zero_le _, rfl, HBL, HRL, HQL, HWL⟩
   case round =>
    obtain ⟨j, hj, rfl, HB, HR, HQ, HW⟩ := hrel
    by_cases hjl : j < 2 * n + 2
    ·have hi0 : (0 : Int) ≤ (j : Int) := by omega
     have hi1 : (j : Int) < 2 * (n : Int) + 2 := by omega
     obtain ⟨ad', e, hc⟩ := Kd.at_int (Kd.R_reads' HR.out).2.2 (j : Int) hi0 (by have := HLN.out; omega)
     rw [rd_nth, Int.toNat_natCast] at hc
     have hx := HPT2.out j
     have HPS := Aside0.mk (plTo_step pl j)
     obtain ⟨x, hxe⟩ : ∃ x, nth pl j = x := ⟨_, rfl⟩
     rw [hxe] at hc hx HPS
     obtain ⟨xn, rfl⟩ := Int.eq_ofNat_of_zero_le hx.1
     have hx1 := hx.2
     have hx0 := hx.1
     have hwt : IntKind.i64.wrap ((j : Int) + 1) = ((j + 1 : Nat) : Int) := by rw [iw64 (by omega) (by omega)]; omega
     have hlp : (plTo pl j).length = 2 * n + 2 := by rw [plTo_len, HLN.out]
     have hq := HQ.out
     rw [← hlp] at hq
     obtain ⟨hg1, hg2⟩ := Kd.R_cell (0 : Int) hq (xn : Int) hx0 (by rw [hlp]; omega)
     rw [Int.toNat_natCast] at hg1 hg2
     have hp0 := HB.out.cell 0 (v := .slice A1 (2 * n + 2) c1) rfl
     have hp1 := HB.out.cell 1 (v := .slice (some ⟨g, 0, none⟩) (2 * n + 2) cap) rfl
     subst e
     clear hxe hx hlp hq
     go_wp2
     go_roundw
     case rel => exact ⟨j + 1, by omega, rfl, ⟨HB.out.setOther (fun e => hne2 e.symm) _⟩, ⟨Kd.R_far HR.out (fun k hk => hk.2) _⟩, ⟨by rw [HPS.out]; exact Kd.R_putn HQ.out (xn : Int) (j : Int)⟩, ⟨HW.out.setCell (by have := HGB.out; simpa using this) _⟩⟩
     case measure => simp [intOf]; omega
    ·have hi1 : ¬ (j : Int) < 2 * (n : Int) + 2 := by omega
     have HJN := Aside0.mk (show j = 2 * n + 2 by omega)
     go_wp2
     go_ret
     refine ⟨rfl, ⟨A1, c1, some ⟨g, 0, none⟩, cap, ?_⟩, HW.out⟩
     rw [HN.out, HPE.out]
     refine ⟨HB.out, Kd.R_mono HR.out (fun k hk => hk.1), ?_⟩
     have h1 := HQ.out
     rw [HJN.out] at h1
     unfold plL
     rw [HPE.out, HLN.out]
     exact h1
theorem isSt_range {sg : Bool} {most : Int} {l : List Int} (h : isSt sg most l = true) : ∀ x, x ∈ l → x ≠ 0 ∧ -(l.length : Int) ≤ x ∧ x ≤ l.length := by
 unfold isSt at h
 split at h
 ·cases h
 ·exact isL_nz sg l.length l _ h
end Go.Proofs.Ytepjhdblmghckaa.G


namespace Go.Proofs.Ytepjhdblmghckaa.G
open Go.Proofs.Ytepjhdblmghckaa.Q Go.Proofs.Ytepjhdblmghckaa.K Go.Proofs.Ytepjhdblmghckaa.Bf
open Go.RowKit Go.Shelf Go.Sort Go.Proofs.YtepjhdblmghckaaW.PrintWords Go.Proofs.YtepjhdblmghckaaW.PrintLast Go.Proofs.YtepjhdblmghckaaW.PrintMore
set_option linter.unusedVariables false
def sortL (l : List Int) : List Int := l.mergeSort fun x y => decide (x ≤ y)
theorem sortL_len (l : List Int) : (sortL l).length = l.length := List.length_mergeSort _
theorem xor_one : ∀ a : Nat, a < 128 → bits .xor .i64 (a : Int) 1 = ((a ^^^ 1 : Nat) : Int) := by decide +kernel
theorem sortR_calls {W : World} {base : Nat} {ok : Nat → Prop} {v : Value} {l : List Int} (h : Kd.R (Kd.int .i64) 3 W base ok v l) (hl : 0 < l.length) (hn : l.length ≤ 1000000) :
  Calls Try.prog 81 #[v] W fun e w' => e = .returned (.tuple #[]) ∧ Kd.R (Kd.int .i64) 3 w' base ok v (sortL l) ∧ Below base W w' := by
 have ho := Kd.own_of_R h
 rcases ho.2 with ⟨_, h0⟩ | ⟨g, cap, cur, rfl, hb, hh, hnc, hcm, hsz, htake⟩
 ·omega
 ·have hcs : ∀ p, p < l.length → cur[p]? = some (.int .i64 (nth l p)) := fun p hp => by
   have h1 := congrArg (fun z => z[p]?) htake
   simp only [Nat.mul_one] at h1
   rw [List.getElem?_take, if_pos hp] at h1
   rw [← Array.getElem?_toList, h1]
   unfold encs
   rw [List.getElem?_map, List.getElem?_eq_getElem hp]
   simp [nth, hp]
  have hblk : Blk W g cur 3 := hh
  have hH : Holds (Value.int .i64) W g 0 l.toArray := fun p hp => by
   have hp' : p < l.length := by simpa using hp
   have e : l.toArray[p]! = nth l p := by
    rw [getElem!_pos l.toArray p hp]
    simp [nth, hp']
   rw [e, Nat.zero_add]
   exact ⟨hblk.cell p (hcs p hp'), hblk.free p⟩
  refine (Try.slices_Sort_int g 0 cap l W hH hblk.lt (by omega)).mono ?_
  rintro e w' ⟨rfl, q, os, rfl⟩
  have hlen := sortL_len l
  have hput : (grow (putRow (Value.int .i64) (Sort.ahead W q) g 0 (sortL l).toArray) os).heap[g]? = some (.cells (putCells (Value.int .i64) 0 (sortL l).toArray cur) 3 (0, 0)) := by
   have hlt := hblk.lt
   unfold grow putRow mapBlock
   simp only
   rw [Array.getElem?_append_left (by simpa using hlt), Array.getElem?_modify, if_pos rfl, show (Sort.ahead W q).heap = W.heap from rfl, hh]
   rfl
  refine ⟨rfl, ?_, ⟨rfl, rfl, rfl, by simp [grow, putRow, mapBlock, Sort.ahead], fun k hk => ?_⟩⟩
  ·refine Kd.R_of_own ?_ h.1
   change World.ownsRow (grow (putRow (Value.int .i64) (Sort.ahead W q) g 0 (sortL l).toArray) os) base 3 1 (.slice (some ⟨g, 0, none⟩) l.length cap) (sortL l).length (encs (Value.int .i64) (sortL l))
   rw [hlen]
   refine ⟨by simp [encs, hlen], .inr ⟨g, cap, _, rfl, hb, hput, hnc, hcm, by simp [putCells, hsz], ?_⟩⟩
   apply List.ext_getElem?
   intro p
   rw [Nat.mul_one, List.getElem?_take]
   by_cases hp : p < l.length
   ·rw [if_pos hp, Array.getElem?_toList]
    unfold putCells encs
    rw [Array.getElem?_mapIdx, hcs p hp, Option.map_some, if_pos ⟨Nat.zero_le _, by simp [hlen]; omega⟩, List.getElem?_map, List.getElem?_eq_getElem (by rw [hlen]; exact hp), Option.map_some]
    congr 2
    rw [getElem!_pos (sortL l).toArray (p - 0) (by simp [hlen]; omega)]
    simp
   ·rw [if_neg hp, List.getElem?_eq_none (by simp [encs, hlen]; omega)]
  ·have hlt := hblk.lt
   unfold grow putRow mapBlock
   simp only
   rw [Array.getElem?_append_left (by simp; omega), Array.getElem?_modify, if_neg (by omega)]
   rfl
def hop (p pl : List Int) (x : Nat) : Nat := (nth p ((nth pl (x ^^^ 1)).toNat ^^^ 1)).toNat
def folF (p pl : List Int) : Nat → Nat → List Bool → List Int → List Int × List Bool
 | 0, _, seen, out => (out, seen)
 | k + 1, x, seen, out => if seen.getD (x / 2) false = true then (out, seen) else folF p pl k (hop p pl x) (seen.set (x / 2) true) (out ++ [((x / 2 : Nat) : Int)])
def unseen (seen : List Bool) : Nat := seen.countP (fun b => !b)
theorem unseen_set {seen : List Bool} {j : Nat} (h : j < seen.length) (hj : seen.getD j false = false) : unseen (seen.set j true) + 1 = unseen seen := by
 induction seen generalizing j with
 | nil => simp at h
 | cons b l ih =>
  cases j with
  | zero =>
   simp at hj
   subst hj
   simp [unseen]
  | succ j =>
   have := ih (j := j) (by simpa using h) (by simpa using hj)
   simp only [unseen, List.set_cons_succ, List.countP_cons] at this ⊢
   omega
theorem folF_stop (p pl : List Int) (x : Nat) (seen : List Bool) (out : List Int) (k : Nat) (h : seen.getD (x / 2) false = true) : folF p pl (k + 1) x seen out = (out, seen) := by
 rw [folF, if_pos h]
theorem folF_go (p pl : List Int) (x : Nat) (seen : List Bool) (out : List Int) (h : seen.getD (x / 2) false = false) (hl : x / 2 < seen.length) :
  folF p pl (unseen seen + 1) x seen out = folF p pl (unseen (seen.set (x / 2) true) + 1) (hop p pl x) (seen.set (x / 2) true) (out ++ [((x / 2 : Nat) : Int)]) := by
 rw [folF, if_neg (by rw [h]; simp), ← unseen_set hl h]
end Go.Proofs.Ytepjhdblmghckaa.G


namespace Go.Proofs.Ytepjhdblmghckaa.G
open Go.Proofs.Ytepjhdblmghckaa.Q Go.Proofs.Ytepjhdblmghckaa.K Go.Proofs.Ytepjhdblmghckaa.Bf
open Go.RowKit Go.Shelf Go.Proofs.YtepjhdblmghckaaW.PrintWords Go.Proofs.YtepjhdblmghckaaW.PrintLast Go.Proofs.YtepjhdblmghckaaW.PrintMore
set_option linter.unusedVariables false
structure FolI (N bs bx b g cap n : Nat) (p pl : List Int) (seen : List Bool) (W : World) : Prop where
 sb : Blk W bs #[.slice (some ⟨g, 0, none⟩) (n + 1) cap] 62
 xb : Blk W bx #[.pointer (some ⟨b, 0, none⟩)] 79
 pic : ∃ A c A2 c2, Blk W b #[.slice A (2 * n + 2) c, .slice A2 (2 * n + 2) c2] 96 ∧ Kd.R (Kd.int .i64) 3 W 0 (fun j => j ≠ g ∧ j < N) (.slice A (2 * n + 2) c) p ∧ Kd.R (Kd.int .i64) 3 W 0 (fun j => j ≠ g ∧ j < N) (.slice A2 (2 * n + 2) c2) pl
 row : Kd.R Kd.bool 4 W 0 (fun j => j = g) (.slice (some ⟨g, 0, none⟩) (n + 1) cap) seen
 lt : bs < N ∧ bx < N ∧ b < N ∧ g < N ∧ bs ≠ g ∧ bx ≠ g ∧ b ≠ g
theorem rowB_block {W : World} {base g n cap : Nat} {ok : Nat → Prop} {seen : List Bool} (h : Kd.R Kd.bool 4 W base ok (.slice (some ⟨g, 0, none⟩) n cap) seen) : n = seen.length ∧ ∃ cur, W.heap[g]? = some (.cells cur 4 (0, 0)) := by
 obtain ⟨A, c, e⟩ := Kd.R_slice h
 injection e with e1 e2 e3
 refine ⟨e2, ?_⟩
 have ho := Kd.own_of_R h
 rcases ho.2 with ⟨h0, _⟩ | ⟨g', cap', cur, hv, _, hh, _⟩
 ·cases h0
 ·injection hv with h1
  injection h1 with h1
  injection h1 with h1
  subst h1
  exact ⟨cur, hh⟩
def sliceLen : Value → Nat
 | .slice _ n _ => n
 | _ => 0
structure Rest (g : Nat) (w W : World) : Prop where
 os : W.os = w.os
 tape : W.tape = w.tape
 output : W.output = w.output
 size : w.heap.size ≤ W.heap.size
 other : ∀ k, k < w.heap.size → k ≠ g → W.heap[k]? = w.heap[k]?
theorem FolI.keep {N bs bx b g cap n : Nat} {p pl : List Int} {seen : List Bool} {W W' : World} (h : FolI N bs bx b g cap n p pl seen W) (hb : ∀ k, k < N → W'.heap[k]? = W.heap[k]?) : FolI N bs bx b g cap n p pl seen W' := by
 obtain ⟨A, c, A2, c2, h1, h2, h3⟩ := h.pic
 obtain ⟨l1, l2, l3, l4, l5, l6, l7⟩ := h.lt
 exact ⟨(hb _ l1).trans h.sb, (hb _ l2).trans h.xb, ⟨A, c, A2, c2, (hb _ l3).trans h1, Kd.R_step h2 (fun k hk _ => hb k hk.2), Kd.R_step h3 (fun k hk _ => hb k hk.2)⟩, Kd.R_step h.row (fun k hk _ => by subst hk; exact hb _ l4), h.lt⟩
theorem FolI.put {N bs bx b g cap n : Nat} {p pl : List Int} {seen : List Bool} {W : World} (h : FolI N bs bx b g cap n p pl seen W) (i : Nat) (v : Bool) : FolI N bs bx b g cap n p pl (seen.set i v) (W.setCell ⟨g, i, none⟩ (.bool v)) := by
 obtain ⟨A, c, A2, c2, h1, h2, h3⟩ := h.pic
 obtain ⟨l1, l2, l3, l4, l5, l6, l7⟩ := h.lt
 exact ⟨h.sb.setOther l5 _, h.xb.setOther l6 _, ⟨A, c, A2, c2, h1.setOther l7 _, Kd.R_far h2 (fun k hk => hk.1) _, Kd.R_far h3 (fun k hk => hk.1) _⟩, Kd.R_putn h.row (i : Int) v, h.lt⟩
theorem xor1 : ∀ a : Nat, a < 128 → a ^^^ 1 = if a % 2 = 0 then a + 1 else a - 1 := by decide +kernel
theorem xor1_lt {a m : Nat} (h : a < 2 * m) (hm : m ≤ 60) : a ^^^ 1 < 2 * m := by
 rw [xor1 a (by omega)]
 split <;> omega
set_option maxRecDepth 100000 in
set_option maxHeartbeats 8000000 in
theorem follow_calls (N bs bx b g cap n : Nat) (hn : n ≤ 40) (p pl : List Int) (seen : List Bool) (line : Nat) (hline : line ≤ n) (w : World) (hN : N ≤ w.heap.size) (h : FolI N bs bx b g cap n p pl seen w)
  (hp : ∀ q, 0 ≤ nth p q ∧ nth p q < 2 * (n : Int) + 2) (hpl : ∀ q, 0 ≤ nth pl q ∧ nth pl q < 2 * (n : Int) + 2) (hs : seen.getD line false = false) :
  Calls Try.prog 80 #[.int .i64 (line : Int), .pointer (some ⟨bs, 0, none⟩), .pointer (some ⟨bx, 0, none⟩)] w fun e w' => ∃ v, e = .returned v ∧
   Kd.R (Kd.int .i64) 3 w' w.heap.size (fun _ => True) v (sortL (folF p pl (unseen seen + 1) (2 * line) seen []).1) ∧ FolI N bs bx b g cap n p pl (folF p pl (unseen seen + 1) (2 * line) seen []).2 w' ∧
   Rest g w w' := by
 have HI := Aside0.mk h
 have HP := Aside0.mk hp
 have HPL := Aside0.mk hpl
 have HS := Aside0.mk hs
 have hw1 : IntKind.i64.wrap (2 * (line : Int)) = 2 * (line : Int) := iw64 (by omega) (by omega)
 clear h hp hpl hs
 go_enter Try.func80, Try.ntmps80
 go_wp2
 obtain ⟨R0, hR0⟩ : ∃ R0, folF p pl (unseen seen + 1) (2 * line) seen [] = R0 := ⟨_, rfl⟩
 have HR0 := Aside0.mk hR0
 have hsl := (rowB_block HI.out.row).1
 have hus : unseen seen ≤ n + 1 := by rw [hsl]; exact List.countP_le_length
 have HUS := Aside0.mk hus
 clear hR0 hsl hus
 go_loopw [5, 6] (fun o xv wr => ∃ (x : Nat) (out : List Int) (sn : List Bool), x < 2 * n + 2 ∧ xv = .int .i64 (x : Int) ∧ Aside0 (Kd.R (Kd.int .i64) 3 wr w.heap.size (fun j => w.heap.size ≤ j) o out) ∧ Aside0 (FolI N bs bx b g cap n p pl sn wr) ∧ Aside0 (folF p pl (unseen sn + 1) x sn out = R0) ∧ Aside0 (out.length + unseen sn ≤ n + 1) ∧ Aside0 (Rest g w wr) ∧ Aside0 (out = [] → x = 2 * line ∧ sn = seen)) (fun o _ _ => n + 2 - sliceLen o)
 case atStart => exact ⟨2 * line, [], seen, by omega, by simp, ⟨Kd.R_nil _ _ _ _ _⟩, HI, HR0, ⟨by have := HUS.out; simpa using this⟩, ⟨⟨rfl, rfl, rfl, Nat.le_refl _, fun _ _ _ => rfl⟩⟩, ⟨fun _ => ⟨rfl, rfl⟩⟩⟩
 case round =>
  obtain ⟨x, out, sn, hx, rfl, HO, HF, HE, HL, HW, HZ⟩ := hrel
  have hq0 : (0 : Int) ≤ (x : Int) / 2 := by omega
  have hq1 : (x : Int) / 2 < (n : Int) + 1 := by omega
  have hsl := (rowB_block HF.out.row).1
  have hs0 := HF.out.sb.cell 0 (v := .slice (some ⟨g, 0, none⟩) (n + 1) cap) rfl
  obtain ⟨hg1, hg2⟩ := Kd.R_cell (h1 := fun _ => rfl) (enc := Value.bool) false (by rw [← hsl]; exact HF.out.row) ((x / 2 : Nat) : Int) (by omega) (by rw [← hsl]; omega)
  rw [Int.toNat_natCast] at hg1 hg2
  have HSL := Aside0.mk hsl
  have hgd : rdOf false sn ((x / 2 : Nat) : Int) = sn.getD (x / 2) false := by
   unfold rdOf
   rw [Int.toNat_natCast]
  rw [hgd] at hg1
  clear hsl hgd
  by_cases hsq : sn.getD (x / 2) false = true
  ·rw [hsq] at hg1
   have HE2 := Aside0.mk ((folF_stop p pl x sn out (unseen sn) hsq).symm.trans HE.out)
   have HNE := Aside0.mk (show 0 < out.length by
    cases ho : out with
    | nil =>
     obtain ⟨e1, e2⟩ := HZ.out ho
     rw [e1, e2, show 2 * line / 2 = line by omega, HS.out] at hsq
     cases hsq
    | cons a l => simp)
   obtain ⟨A, c, ev⟩ := Kd.R_slice HO.out
   subst ev
   clear hsq
   go_wp2_with (go_at_call 81; refine stopper ?_)
   unfold Hold
   refine (sortR_calls HO.out HNE.out (by have := HL.out; omega)).mono ?_
   rintro e w2 ⟨rfl, hv2, hb2⟩
   have HV2 := Aside0.mk hv2
   have HB2 := Aside0.mk hb2
   clear hv2 hb2
   go_wp2
   go_ret
   refine ⟨_, rfl, ?_, ?_, ⟨HB2.out.os.trans HW.out.os, HB2.out.tape.trans HW.out.tape, HB2.out.output.trans HW.out.output, Nat.le_trans HW.out.size HB2.out.size, fun k hk hg => (HB2.out.block k hk).trans (HW.out.other k hk hg)⟩⟩
   ·rw [HR0.out, ← HE2.out]
    exact Kd.R_mono HV2.out (fun _ _ => trivial)
   ·rw [HR0.out, ← HE2.out]
    exact HF.out.keep (fun k hk => HB2.out.block k (by omega))
  ·rw [Bool.not_eq_true] at hsq
   rw [hsq] at hg1
   have HSQ := Aside0.mk hsq
   have HSN := Aside0.mk (show sliceLen u5 = out.length by obtain ⟨A, c, e⟩ := Kd.R_slice HO.out; rw [e]; rfl)
   clear hsq
   go_wp2_with ((with_reducible refine gate_builtin (b := .append) (xs := #[.tmp 19, .tmp 22]) rfl ?_); at_builtin; refine stopper ?_)
   unfold Hold
   obtain ⟨W1, hW1⟩ : ∃ W1, wr.setCell ⟨g, x / 2, none⟩ (.bool true) = W1 := ⟨_, rfl⟩
   have hF1 : FolI N bs bx b g cap n p pl (sn.set (x / 2) true) W1 := by rw [← hW1]; exact HF.out.put (x / 2) true
   have hsz1 : W1.heap.size = wr.heap.size := by rw [← hW1]; simp [World.setCell]
   have hglt := HF.out.lt.2.2.2.1
   have hO1 : Kd.R (Kd.int .i64) 3 W1 w.heap.size (fun j => w.heap.size ≤ j) u5 out := by rw [← hW1]; exact Kd.R_far HO.out (fun j hj => by simp only; omega) _
   have hW1r : Rest g w W1 := by
    rw [← hW1]
    exact ⟨HW.out.os, HW.out.tape, HW.out.output, by simpa [World.setCell] using HW.out.size, fun k hk hg => (Below.heap_setCell _ _ _ _ hg).trans (HW.out.other k hk hg)⟩
   rw [hW1, ← hsz1]
   have HF1 := Aside0.mk hF1
   have HW1 := Aside0.mk hW1r
   refine Kd.R_append (Kd.int .i64) (w0 := W1) w.heap.size rfl (.tmp 19) (.tmp 22) 22 3 (.int .i64 0) 8 rfl Try.underlying22 info3 rfl (by decide) (by decide) u5 out ((x : Int) / 2) [.int .i64 ((x : Int) / 2)] (fun j => w.heap.size ≤ j) (fun j => w.heap.size ≤ j ∧ some j ≠ u5.ownBlock) rfl rfl rfl (fun k h => h) (fun k hk => by have := HW1.out.size; omega) hO1 ((Below.refl W1.heap.size W1).mono HW1.out.size) HW1.out.size (by have := HL.out; omega) ?_
   intro v1 wy ho hb hg hat
   have HO1 := Aside0.mk ho
   have HF2 := Aside0.mk (HF1.out.keep (fun k hk => hb.block k (by omega)))
   have HW2 := Aside0.mk (show Rest g w wy from ⟨hb.os.trans HW1.out.os, hb.tape.trans HW1.out.tape, hb.output.trans HW1.out.output, Nat.le_trans HW1.out.size hb.size, fun k hk hg => (hb.block k hk).trans (HW1.out.other k hk hg)⟩)
   obtain ⟨A, c, A2, c2, hbb, hpp, hqq⟩ := HF2.out.pic
   have hx1 := xor_one x (by omega)
   have hxl : x ^^^ 1 < 2 * n + 2 := by have := xor1_lt (a := x) (m := n + 1) (by omega) (by omega); omega
   have hbx := HF2.out.xb.cell 0 (v := .pointer (some ⟨b, 0, none⟩)) rfl
   have hb0 := hbb.cell 0 (v := .slice A (2 * n + 2) c) rfl
   have hb1 := hbb.cell 1 (v := .slice A2 (2 * n + 2) c2) rfl
   obtain ⟨ad2, e2, hc2⟩ := Kd.at_int (Kd.R_reads' hqq).2.2 ((x ^^^ 1 : Nat) : Int) (by omega) (by first | omega | (have := (Kd.R_reads' hqq).1; omega))
   rw [rd_nth, Int.toNat_natCast] at hc2
   have hy := HPL.out (x ^^^ 1)
   have hhop : hop p pl x = (nth p ((nth pl (x ^^^ 1)).toNat ^^^ 1)).toNat := rfl
   obtain ⟨y, hye⟩ : ∃ y, nth pl (x ^^^ 1) = y := ⟨_, rfl⟩
   rw [hye] at hc2 hy hhop
   obtain ⟨yn, rfl⟩ := Int.eq_ofNat_of_zero_le hy.1
   rw [Int.toNat_natCast] at hhop
   have hx2 := xor_one yn (by omega)
   have hyl : yn ^^^ 1 < 2 * n + 2 := by have := xor1_lt (a := yn) (m := n + 1) (by omega) (by omega); omega
   obtain ⟨ad1, e1, hc1⟩ := Kd.at_int (Kd.R_reads' hpp).2.2 ((yn ^^^ 1 : Nat) : Int) (by omega) (by first | omega | (have := (Kd.R_reads' hpp).1; omega))
   rw [rd_nth, Int.toNat_natCast] at hc1
   have hz := HP.out (yn ^^^ 1)
   obtain ⟨z, hze⟩ : ∃ z, nth p (yn ^^^ 1) = z := ⟨_, rfl⟩
   rw [hze] at hc1 hz hhop
   obtain ⟨zn, rfl⟩ := Int.eq_ofNat_of_zero_le hz.1
   rw [Int.toNat_natCast] at hhop
   obtain ⟨x1, hx1e⟩ : ∃ x1, x ^^^ 1 = x1 := ⟨_, rfl⟩
   obtain ⟨y1, hy1e⟩ : ∃ y1, yn ^^^ 1 = y1 := ⟨_, rfl⟩
   rw [hx1e] at hx1 hxl hc2
   rw [hy1e] at hx2 hyl hc1
   have hx10 : (0 : Int) ≤ (x1 : Int) := by omega
   have hx11 : (x1 : Int) < 2 * (n : Int) + 2 := by omega
   have hy10 : (0 : Int) ≤ (y1 : Int) := by omega
   have hy11 : (y1 : Int) < 2 * (n : Int) + 2 := by omega
   have HHOP := Aside0.mk hhop
   have HZL := Aside0.mk (show zn < 2 * n + 2 by omega)
   have HGO := Aside0.mk (folF_go p pl x sn out HSQ.out (by have := HSL.out; omega))
   have HUN := Aside0.mk (unseen_set (seen := sn) (j := x / 2) (by have := HSL.out; omega) HSQ.out)
   subst e1
   subst e2
   obtain ⟨Av, cv, ev⟩ := Kd.R_slice ho
   subst ev
   have HLV := Aside0.mk (show (out ++ [(x : Int) / 2]).length = out.length + 1 by simp)
   clear hye hze hx1e hy1e hhop hy hz hpp hqq hbb hb hg hat ho hO1 hF1 hW1r hW1 hsz1 hg1 hg2 hs0
   go_upto_region 6 with fail
   go_quiet (fail)
   go_wp2
   go_roundw
   case rel => exact ⟨zn, out ++ [(x : Int) / 2], sn.set (x / 2) true, HZL.out, rfl, ⟨by have h1 := Kd.R_drewN HO1.out nq; rw [HLV.out] at h1; exact h1⟩, ⟨HF2.out.keep (fun k hk => rfl)⟩, ⟨by rw [← HE.out, HGO.out, HHOP.out]; rfl⟩, ⟨by have := HUN.out; have := HL.out; have := HLV.out; omega⟩, ⟨⟨HW2.out.os, HW2.out.tape, HW2.out.output, HW2.out.size, HW2.out.other⟩⟩, ⟨fun e => by simp at e⟩⟩
   case measure =>
    have h1 := HSN.out
    have h2 := HL.out
    have h3 := HUN.out
    show n + 2 - (out.length + 1) < n + 2 - sliceLen u5
    rw [h1]
    omega
end Go.Proofs.Ytepjhdblmghckaa.G


namespace Go.Proofs.Ytepjhdblmghckaa.G
open Go.Proofs.Ytepjhdblmghckaa.Q Go.Proofs.Ytepjhdblmghckaa.K Go.Proofs.Ytepjhdblmghckaa.Bf
open Go.RowKit Go.Shelf Go.Proofs.YtepjhdblmghckaaW.PrintWords Go.Proofs.YtepjhdblmghckaaW.PrintLast Go.Proofs.YtepjhdblmghckaaW.PrintMore
set_option linter.unusedVariables false
def cirStep (p pl : List Int) (st : List Bool × List (List Int)) (line : Nat) : List Bool × List (List Int) :=
 if st.1.getD line false = true then st else ((folF p pl (unseen st.1 + 1) (2 * line) st.1 []).2, st.2 ++ [sortL (folF p pl (unseen st.1 + 1) (2 * line) st.1 []).1])
def cirTo (p pl : List Int) (n k : Nat) : List Bool × List (List Int) := (List.range k).foldl (cirStep p pl) (List.replicate (n + 1) false, [])
def circL (s : List Int) : List (List Int) := (cirTo (picL s) (plL s) s.length (s.length + 1)).2
theorem cirTo_step (p pl : List Int) (n k : Nat) : cirTo p pl n (k + 1) = cirStep p pl (cirTo p pl n k) k := by
 unfold cirTo
 rw [List.range_succ, List.foldl_append]
 rfl
theorem folF_len (p pl : List Int) : ∀ (k x : Nat) (seen : List Bool) (out : List Int), (folF p pl k x seen out).2.length = seen.length
 | 0, _, _, _ => rfl
 | k + 1, x, seen, out => by
  rw [folF]
  split
  ·rfl
  ·rw [folF_len p pl k, List.length_set]
theorem plTo_range (p : List Int) (k : Nat) : ∀ y, y ∈ plTo p k → 0 ≤ y ∧ (y = 0 ∨ y < k) := by
 induction k with
 | zero =>
  intro y hy
  have : y ∈ List.replicate p.length (0 : Int) := hy
  rw [List.mem_replicate] at this
  omega
 | succ k ih =>
  intro y hy
  rw [plTo_step] at hy
  rcases List.mem_or_eq_of_mem_set hy with hy | rfl
  ·have := ih y hy; omega
  ·omega
theorem plL_range (s : List Int) (q : Nat) : 0 ≤ nth (plL s) q ∧ nth (plL s) q < 2 * (s.length : Int) + 2 := by
 unfold plL
 by_cases hq : q < (plTo (picL s) (picL s).length).length
 ·have := plTo_range (picL s) (picL s).length ((plTo (picL s) (picL s).length).getD q 0) (by rw [List.getD_eq_getElem?_getD, List.getElem?_eq_getElem hq]; exact List.getElem_mem hq)
  rw [picL_len] at this
  unfold nth
  rw [picL_len]
  omega
 ·rw [nth_end _ _ (by omega)]; omega
set_option maxRecDepth 100000 in
set_option maxHeartbeats 8000000 in
theorem circles_calls (b base : Nat) (s : List Int) (hs : s.length ≤ 40) (hm : ∀ x, x ∈ s → x ≠ 0 ∧ -(s.length : Int) ≤ x ∧ x ≤ s.length) (w : World) (hP : PicOk base b s w) :
  Calls Try.prog 62 #[.pointer (some ⟨b, 0, none⟩)] w fun e w' => ∃ v, e = .returned v ∧ Kd.S (Kd.slice 3 (Kd.int .i64)) 22 w' w.heap.size (fun _ => True) v (circL s) ∧ Below w.heap.size w w' := by
 obtain ⟨n, hn⟩ : ∃ n, s.length = n := ⟨_, rfl⟩
 have HPR := Aside0.mk (picL_range s hm)
 have HPLR := Aside0.mk (plL_range s)
 have HCI := Aside0.mk (show circL s = (cirTo (picL s) (plL s) s.length (s.length + 1)).2 from rfl)
 obtain ⟨A, c, A2, c2, hbb, hpp, hqq⟩ := hP
 rw [hn] at hs HPR HPLR HCI hbb hpp hqq
 obtain ⟨p, hpe⟩ : ∃ p, picL s = p := ⟨_, rfl⟩
 obtain ⟨pl, hple⟩ : ∃ pl, plL s = pl := ⟨_, rfl⟩
 rw [hpe] at HPR HCI hpp
 rw [hple] at HPLR HCI hqq
 have hbl := hbb.lt
 have HBB := Aside0.mk hbb
 have HPP := Aside0.mk hpp
 have HQQ := Aside0.mk hqq
 have hb0 := hbb.cell 0 (v := .slice A (2 * n + 2) c) rfl
 clear hbb hpp hqq hm hn hpe hple
 go_enter Try.func62, Try.ntmps62
 go_wp2_with (at_make; refine stopper ?_)
 unfold Hold
 have hba : Below w.heap.size w (w.alloc (Obj.cells #[Value.pointer (some { block := b, off := 0 })] 79)) := (Below.refl _ w).alloc (Nat.le_refl _) _
 refine Kd.R_make Kd.bool (w0 := w) w.heap.size 4 rfl (N := 13) rfl 62 (.tmp 12) (.tmp 12) rfl ((n + 1 : Nat) : Int) (by show Value.int .i64 ((2 * (n : Int) + 2) / 2) = _; congr 1; omega) (by show Value.int .i64 ((2 * (n : Int) + 2) / 2) = _; congr 1; omega) Try.underlying62 (.bool false) 1 info4 rfl (by decide) (by decide) false (ok := fun _ => True) (okp := fun _ => False) rfl (fun _ h => h.elim) trivial (by omega) (by omega) hba hba.size ?_
 intro v2 wm ho hb hg hat
 rw [Int.toNat_natCast] at ho
 have hown := Kd.own_of_R ho
 rcases hown.2 with ⟨_, h0⟩ | ⟨g, cap, cur, rfl, hgb, hgh, _⟩
 ·simp at h0
 have hgl : g < wm.heap.size := (Array.getElem?_eq_some_iff.1 hgh).1
 rw [List.length_replicate] at ho
 have hbx : Blk wm w.heap.size #[.pointer (some ⟨b, 0, none⟩)] 79 := (Blk.new w _ 79).grown hg (by simp)
 have hgx : g ≠ w.heap.size := fun e => by
  have e2 := hbx.symm.trans (e ▸ hgh)
  injection e2 with e2
  injection e2 with _ e3
  cases e3
 obtain ⟨Wl, hWl⟩ : ∃ Wl, wm.alloc (.cells #[.slice (some ⟨g, 0, none⟩) (n + 1) cap] 62) = Wl := ⟨_, rfl⟩
 have hsl : Wl.heap.size = wm.heap.size + 1 := by rw [← hWl]; simp
 have hbl2 : Below w.heap.size w Wl := by rw [← hWl]; exact hb.alloc hb.size _
 have hkeep : ∀ k, k < wm.heap.size → Wl.heap[k]? = wm.heap[k]? := fun k hk => by rw [← hWl]; exact Below.heap_alloc _ _ _ hk
 have HIN := Aside0.mk (show FolI Wl.heap.size wm.heap.size w.heap.size b g cap n p pl (List.replicate (n + 1) false) Wl from by
  have hwl := hbl2
  refine ⟨by rw [← hWl]; exact Blk.new _ _ _, (hkeep _ hbx.lt).trans hbx, ⟨A, c, A2, c2, HBB.out.below hwl hbl, ?_, ?_⟩, ?_, by have := hb.size; omega, by have := hb.size; omega, by have := hb.size; omega, by omega, by omega, by omega, by omega⟩
  ·have h1 := Kd.R_step (Kd.R_bound (Kd.R_lower HPP.out (Nat.zero_le _))) (w1 := Wl) (fun k hk _ => hwl.block k hk.2.2.1)
   exact Kd.R_mono h1 (fun k hk => ⟨by have := hk.2.2.1; omega, by have := hk.2.2.1; have := hb.size; omega⟩)
  ·have h1 := Kd.R_step (Kd.R_bound (Kd.R_lower HQQ.out (Nat.zero_le _))) (w1 := Wl) (fun k hk _ => hwl.block k hk.2.2.1)
   exact Kd.R_mono h1 (fun k hk => ⟨by have := hk.2.2.1; omega, by have := hk.2.2.1; have := hb.size; omega⟩)
  ·have h1 := Kd.R_lower (Kd.R_step ho (w1 := Wl) (fun k _ hk => hkeep k hk)) (Nat.zero_le _)
   exact Kd.R_of_own (by rw [show (List.replicate (n + 1) false).length = n + 1 from List.length_replicate ..]; have := Kd.own_of_R h1; rw [List.length_replicate] at this; exact this) (fun k hk => by simpa [Value.ownBlock] using hk.symm))
 have HBL := Aside0.mk hbl2
 have HGW := Aside0.mk hgb
 have HSL := Aside0.mk hsl
 have HGH := Aside0.mk (show w.heap.size ≤ wm.heap.size from hb.size)
 have hs0 : Wl.cell? ⟨wm.heap.size, 0, none⟩ = some (.slice (some ⟨g, 0, none⟩) (n + 1) cap) := HIN.out.sb.cell 0 rfl
 simp only [List.length_replicate]
 clear ho hb hg hat hown hgb hgh hgl hbx hgx hbl2 hsl hkeep hba hb0
 go_wp2
 obtain ⟨N, hNe⟩ : ∃ N, Wl.heap.size = N := ⟨_, rfl⟩
 obtain ⟨bs, hbs⟩ : ∃ bs, wm.heap.size = bs := ⟨_, rfl⟩
 rw [hNe, hbs] at HIN
 rw [hbs] at HSL HGH hs0
 rw [hNe] at HSL
 try rw [hWl]
 try rw [hbs]
 have HNE := Aside0.mk hNe
 have HNW := Aside0.mk (show w.heap.size ≤ N by have := HSL.out; have := HGH.out; omega)
 clear hWl hbs hNe hs0
 go_loopw [5, 17] (fun o iv wr => ∃ (k : Nat) (sn : List Bool) (out : List (List Int)), k ≤ n + 1 ∧ iv = .int .i64 (k : Int) ∧ Aside0 (cirTo p pl n k = (sn, out)) ∧ Aside0 (out.length ≤ k) ∧ Aside0 (Kd.S (Kd.slice 3 (Kd.int .i64)) 22 wr N (fun j => N ≤ j) o out) ∧ Aside0 (FolI N bs w.heap.size b g cap n p pl sn wr) ∧ Aside0 (Below w.heap.size w wr) ∧ Aside0 (N ≤ wr.heap.size)) (fun _ iv _ => n + 1 - (intOf iv).toNat)
 case atStart => exact ⟨0, List.replicate (n + 1) false, [], Nat.zero_le _, rfl, ⟨rfl⟩, ⟨Nat.le_refl _⟩, ⟨Kd.S_nil _ _ _ _ _⟩, HIN, HBL, ⟨by rw [HNE.out]; exact Nat.le_refl _⟩⟩
 case round =>
  obtain ⟨k, sn, out, hk, rfl, HC, HOL, HO, HF, HW, HN⟩ := hrel
  by_cases hlt : k < n + 1
  ·have hi0 : (0 : Int) ≤ (k : Int) := by omega
   have hi1 : (k : Int) < (n : Int) + 1 := by omega
   have hsl := (rowB_block HF.out.row).1
   have hs0 := HF.out.sb.cell 0 (v := .slice (some ⟨g, 0, none⟩) (n + 1) cap) rfl
   obtain ⟨hg1, hg2⟩ := Kd.R_cell (h1 := fun _ => rfl) (enc := Value.bool) false (by rw [← hsl]; exact HF.out.row) (k : Int) (by omega) (by rw [← hsl]; omega)
   rw [Int.toNat_natCast] at hg1 hg2
   have hgd : rdOf false sn (k : Int) = sn.getD k false := by
    unfold rdOf
    rw [Int.toNat_natCast]
   rw [hgd] at hg1
   have HST := Aside0.mk (cirTo_step p pl n k)
   have hwt : IntKind.i64.wrap ((k : Int) + 1) = ((k + 1 : Nat) : Int) := by rw [iw64 (by omega) (by omega)]; omega
   clear hsl hgd
   by_cases hsq : sn.getD k false = true
   ·rw [hsq] at hg1
    have HSQ := Aside0.mk hsq
    clear hsq
    go_wp2
    go_roundw
    case rel => exact ⟨k + 1, sn, out, by omega, rfl, ⟨by rw [HST.out, HC.out, cirStep, if_pos HSQ.out]⟩, ⟨by have := HOL.out; omega⟩, HO, HF, HW, HN⟩
    case measure => simp [intOf]; omega
   ·rw [Bool.not_eq_true] at hsq
    rw [hsq] at hg1
    have HSQ := Aside0.mk hsq
    clear hsq
    go_wp2_with (go_at_call 80; refine stopper ?_)
    unfold Hold
    refine (follow_calls N bs w.heap.size b g cap n hs p pl sn k (by omega) wr HN.out HF.out HPR.out HPLR.out HSQ.out).mono ?_
    rintro e w2 ⟨v2, rfl, hv2, hf2, hr2⟩
    obtain ⟨r, hre⟩ : ∃ r, folF p pl (unseen sn + 1) (2 * k) sn [] = r := ⟨_, rfl⟩
    rw [hre] at hv2 hf2
    have HRE := Aside0.mk hre
    have HV2 := Aside0.mk hv2
    have HF2 := Aside0.mk hf2
    have HR2 := Aside0.mk hr2
    have HVB := Aside0.mk (Kd.R_base hv2)
    have HO2 := Aside0.mk (Kd.S_step (Kd.S_mono (ok' := fun j => N ≤ j ∧ j < wr.heap.size) (Kd.S_bound HO.out) (fun j hj => ⟨hj.1, hj.2.2.1⟩)) (w1 := w2) (fun j hj hl => hr2.other j hl (by have := HF.out.lt.2.2.2.1; omega)))
    have HULT := Aside0.mk (Kd.S_lt HO.out)
    obtain ⟨Av, cv, ev⟩ := Kd.R_slice hv2
    subst ev
    clear hre hv2 hf2 hr2
    go_wp2_with ((with_reducible refine gate_builtin (b := .append) (xs := #[.tmp 25, .tmp 29]) rfl ?_); at_builtin; refine stopper ?_)
    unfold Hold
    refine Kd.S_append (Kd.slice 3 (Kd.int .i64)) (w0 := w2) N rfl (.tmp 25) (.tmp 29) 45 22 (.slice none 0 0) 24 rfl Try.underlying45 info22 rfl (by decide) (by decide) u5 out (sortL r.1) [.slice Av (sortL r.1).length cv] (fun j => N ≤ j) (fun j => some j = (Value.slice Av (sortL r.1).length cv).ownBlock) rfl rfl ⟨_, rfl, Kd.R_of_own (Kd.own_of_R (Kd.R_lower HV2.out HN.out)) (fun k hk => hk.symm)⟩ (fun k hk => ⟨by have := HVB.out k hk.symm;have := HN.out;omega, fun e => by have h1 := HVB.out k hk.symm;have h2 := HULT.out k e.symm;omega⟩) (fun k hk => by have := HN.out;have := HR2.out.size;omega) (Kd.S_mono HO2.out (fun k hk => ⟨hk.1, fun e => by have h1 := HVB.out k e.symm;omega⟩)) ((Below.refl w2.heap.size w2).mono (by have := HN.out;have := HR2.out.size;omega)) (by have := HN.out;have := HR2.out.size;omega) (by have := HOL.out;omega) ?_
    intro v1 wy ho hb hg hat
    have HOY := Aside0.mk ho
    have HFY := Aside0.mk (HF2.out.keep (fun j hj => hb.block j hj))
    have HWY := Aside0.mk (show Below w.heap.size w wy from by
     have h1 : Below w.heap.size w w2 := ⟨HR2.out.os.trans HW.out.os, HR2.out.tape.trans HW.out.tape, HR2.out.output.trans HW.out.output, Nat.le_trans HW.out.size HR2.out.size, fun j hj => (HR2.out.other j (by have := HW.out.size; omega) (by have := HGW.out; omega)).trans (HW.out.block j hj)⟩
     exact h1.trans (hb.mono HNW.out))
    have HNY := Aside0.mk (show N ≤ wy.heap.size by have := HN.out; have := HR2.out.size; have := hb.size; omega)
    clear ho hb hg hat hg1 hg2 hs0
    go_wp2
    go_roundw
    case rel => exact ⟨k + 1, r.2, out ++ [sortL r.1], by omega, rfl, ⟨by rw [HST.out, HC.out, cirStep, if_neg (by simp only; rw [HSQ.out]; simp)]; simp only; rw [HRE.out]⟩, ⟨by have := HOL.out; simp; omega⟩, HOY, HFY, HWY, HNY⟩
    case measure => simp [intOf]; omega
  ·have hi1 : ¬ (k : Int) < (n : Int) + 1 := by omega
   have HKN := Aside0.mk (show k = n + 1 by omega)
   go_wp2
   go_ret
   refine ⟨_, rfl, ?_, HW.out⟩
   rw [HCI.out, ← HKN.out, HC.out]
   exact Kd.S_mono (Kd.S_lower HO.out HNW.out) (fun _ _ => trivial)
def pancake_Circles.f (l0 : List Int) : Option (List (List Int) × Int) := some (if isSt true 40 l0 = true then (circL l0, 0) else ([], 70))
set_option maxHeartbeats 4000000 in
theorem pancake_Circles.calls (A0 : Option Addr) (c0 : Nat) (l0 : List Int) (r1 : List (List Int)) (r2 : Int) (w : World) (hr0 : Kd.C (Kd.int .i64) w A0 l0.length l0) (hc0 : l0.length ≤ c0) (h : pancake_Circles.f l0 = some (r1, r2)) :
  Calls Try.prog 36 #[.slice A0 l0.length c0] w fun e w' => ∃ v0_ : Value, e = .returned (.tuple #[v0_, .int .i64 r2]) ∧ Kd.S (Kd.slice 3 (Kd.int .i64)) 22 w' w.heap.size (fun _ => True) v0_ r1 ∧ Below w.heap.size w w' := by
 have HC := Aside0.mk (check55_one A0 c0 l0 w hr0 hc0)
 have HR0 := Aside0.mk hr0
 clear hr0
 unfold pancake_Circles.f at h
 unfold chk1 at HC
 go_enter Try.func36, Try.ntmps36
 by_cases hst : isSt true 40 l0 = true
 ·rw [if_pos hst] at h HC
  cases h
  have HRG := Aside0.mk (isSt_range hst)
  have HSM := Aside0.mk (isSt_small hst (by decide))
  clear hst
  go_wp2_with (go_at_call 55; refine stopper ?_)
  unfold Hold
  refine HC.out.mono ?_
  rintro e w1 ⟨rfl, hb⟩
  have HB1 := Aside0.mk hb
  clear hb
  go_wp2_with (go_at_call 60; refine stopper ?_)
  unfold Hold
  refine (pictured_calls A0 c0 l0 w1 (Kd.C_below HR0.out HB1.out) HSM.out.2.1 HRG.out).mono ?_
  rintro e w2 ⟨rfl, hp, hb⟩
  have HB2 := Aside0.mk (HB1.out.trans (hb.mono HB1.out.size))
  have HP := Aside0.mk hp
  clear hb hp
  go_wp2_with (go_at_call 62; refine stopper ?_)
  unfold Hold
  refine (circles_calls _ _ l0 HSM.out.2.1 HRG.out w2 HP.out).mono ?_
  rintro e w3 ⟨v3, rfl, hv3, hb⟩
  have HB3 := Aside0.mk (HB2.out.trans (hb.mono HB2.out.size))
  have HV3 := Aside0.mk (Kd.S_lower hv3 HB2.out.size)
  clear hb hv3
  go_wp2
  refine bodyPost_ret (results_tmp2 rfl _ _ _) rfl ⟨_, rfl, HV3.out, HB3.out⟩
 ·rw [if_neg hst] at h HC
  cases h
  clear hst
  go_wp2_with (go_at_call 55; refine stopper ?_)
  unfold Hold
  refine HC.out.mono ?_
  rintro e w1 ⟨rfl, hb⟩
  have HB1 := Aside0.mk hb
  clear hb
  go_wp2
  refine bodyPost_ret (results_tmp2 rfl _ _ _) rfl ⟨_, rfl, Kd.S_nil _ _ _ _ _, HB1.out⟩
end Go.Proofs.Ytepjhdblmghckaa.G


namespace Go.Proofs.Ytepjhdblmghckaa.G
open Go.Proofs.Ytepjhdblmghckaa.Q Go.Proofs.Ytepjhdblmghckaa.K Go.Proofs.Ytepjhdblmghckaa.Bf
open Go.RowKit Go.Shelf Go.Proofs.YtepjhdblmghckaaW.PrintWords Go.Proofs.YtepjhdblmghckaaW.PrintLast Go.Proofs.YtepjhdblmghckaaW.PrintMore
set_option linter.unusedVariables false
attribute [local go_sem] max2_int min2_int max_two min_two
def spanOf (pl : List Int) (line : Nat) : Int × Int := (min (nth pl (2 * line)) (nth pl (2 * line + 1)), max (nth pl (2 * line)) (nth pl (2 * line + 1)))
set_option maxRecDepth 100000 in
set_option maxHeartbeats 4000000 in
theorem span_calls (b base : Nat) (s : List Int) (hs : s.length ≤ 40) (line : Nat) (hline : line ≤ s.length) (w : World) (hP : PicOk base b s w) :
  Calls Try.prog 92 #[.pointer (some ⟨b, 0, none⟩), .int .i64 (line : Int)] w fun e w' => e = .returned (.agg #[.int .i64 (spanOf (plL s) line).1, .int .i64 (spanOf (plL s) line).2]) ∧ Below w.heap.size w w' := by
 obtain ⟨n, hn⟩ : ∃ n, s.length = n := ⟨_, rfl⟩
 obtain ⟨A, c, A2, c2, hbb, hpp, hqq⟩ := hP
 rw [hn] at hs hline hbb hpp hqq
 obtain ⟨pl, hple⟩ : ∃ pl, plL s = pl := ⟨_, rfl⟩
 rw [hple] at hqq ⊢
 obtain ⟨W0, hW0⟩ : ∃ W0, w.alloc (.cells #[.int .i64 0, .int .i64 0] 124) = W0 := ⟨_, rfl⟩
 have hB : Below w.heap.size w W0 := by rw [← hW0]; exact (Below.refl _ w).alloc (Nat.le_refl _) _
 have hN : Blk W0 w.heap.size #[.int .i64 0, .int .i64 0] 124 := by rw [← hW0]; exact Blk.new _ _ _
 have hb1 := (hbb.below hB hbb.lt).cell 1 (v := .slice A2 (2 * n + 2) c2) rfl
 obtain ⟨ad, e1, hc1⟩ := Kd.at_int (Kd.C_below (Kd.R_reads' hqq).2.2 hB) ((2 * line : Nat) : Int) (by omega) (by first | omega | (have := (Kd.R_reads' hqq).1; omega))
 obtain ⟨ad', e2, hc2⟩ := Kd.at_int (Kd.C_below (Kd.R_reads' hqq).2.2 hB) ((2 * line + 1 : Nat) : Int) (by omega) (by first | omega | (have := (Kd.R_reads' hqq).1; omega))
 rw [rd_nth, Int.toNat_natCast] at hc1 hc2
 subst e1
 cases e2
 unfold spanOf
 obtain ⟨x, hx⟩ : ∃ x, nth pl (2 * line) = x := ⟨_, rfl⟩
 obtain ⟨y, hy⟩ : ∃ y, nth pl (2 * line + 1) = y := ⟨_, rfl⟩
 rw [hx] at hc1 ⊢
 rw [hy] at hc2 ⊢
 have hw1 : IntKind.i64.wrap (2 * (line : Int)) = 2 * (line : Int) := iw64 (by omega) (by omega)
 have hw2 : IntKind.i64.wrap (2 * (line : Int) + 1) = 2 * (line : Int) + 1 := iw64 (by omega) (by omega)
 have ht1 : (2 * (line : Int)).toNat = 2 * line := by omega
 have ht2 : (2 * (line : Int) + 1).toNat = 2 * line + 1 := by omega
 have hi0 : (0 : Int) ≤ 2 * (line : Int) := by omega
 have hi1 : 2 * (line : Int) < 2 * (n : Int) + 2 := by omega
 have hi2 : (0 : Int) ≤ 2 * (line : Int) + 1 := by omega
 have hi3 : 2 * (line : Int) + 1 < 2 * (n : Int) + 2 := by omega
 have hc3 : W0.cell? { block := ad.block, off := ad.off + (2 * line + 1) } = some (.int .i64 y) := by
  have h := hc2
  simp only [Addr.add] at h
  first | exact h | (split at h <;> first | omega | exact h) | simpa using h
 have HB := Aside0.mk hB
 have HN := Aside0.mk hN
 have n0 := hN.cell 0 (v := .int .i64 0) rfl
 have n1 := hN.cell 1 (v := .int .i64 0) rfl
 have f0 := hN.free 0
 have f1 := hN.free 1
 clear hbb hpp hqq hB hN hx hy hple hn
 go_enter Try.func92, Try.ntmps92
 go_upto_region 1 with fail
 try rw [hW0]
 clear hW0
 go_quiet (fail)
 have HB2 := Aside0.mk (pw_below_drewN HB.out nq)
 rcases Int.lt_trichotomy x y with hlt | rfl | hgt
 ·have m1 : min x y = x := by omega
  have m2 : max x y = y := by omega
  have q1 : ¬ y < x := by omega
  have q2 : ¬ y ≤ x := by omega
  have q3 : x ≤ y := by omega
  have M12 := Aside0.mk (And.intro m1 m2)
  clear m1 m2
  go_wp2
  refine bodyPost_ret (results_cell_row rfl _ _ w.heap.size 124 #[.int .i64 x, .int .i64 y] (0, 0) _ rfl (show Blk _ w.heap.size _ 124 from by simpa using ((HN.out.drewN nq).set 0 (.int .i64 x)).set 1 (.int .i64 y)) Try.underlying124 rfl (by kernel_rfl)) rfl ⟨by rw [M12.out.1, M12.out.2], (HB2.out.setCell (Nat.le_refl _) _).setCell (Nat.le_refl _) _⟩
 ·have m1 : min x x = x := by omega
  have m2 : max x x = x := by omega
  have M12 := Aside0.mk (And.intro m1 m2)
  clear m1 m2
  go_wp2
  refine bodyPost_ret (results_cell_row rfl _ _ w.heap.size 124 #[.int .i64 x, .int .i64 x] (0, 0) _ rfl (show Blk _ w.heap.size _ 124 from by simpa using ((HN.out.drewN nq).set 0 (.int .i64 x)).set 1 (.int .i64 x)) Try.underlying124 rfl (by kernel_rfl)) rfl ⟨by rw [M12.out.1, M12.out.2], (HB2.out.setCell (Nat.le_refl _) _).setCell (Nat.le_refl _) _⟩
 ·have m1 : min x y = y := by omega
  have m2 : max x y = x := by omega
  have q1 : ¬ x < y := by omega
  have q2 : ¬ x ≤ y := by omega
  have q3 : y ≤ x := by omega
  have M12 := Aside0.mk (And.intro m1 m2)
  clear m1 m2
  go_wp2
  refine bodyPost_ret (results_cell_row rfl _ _ w.heap.size 124 #[.int .i64 y, .int .i64 x] (0, 0) _ rfl (show Blk _ w.heap.size _ 124 from by simpa using ((HN.out.drewN nq).set 0 (.int .i64 y)).set 1 (.int .i64 x)) Try.underlying124 rfl (by kernel_rfl)) rfl ⟨by rw [M12.out.1, M12.out.2], (HB2.out.setCell (Nat.le_refl _) _).setCell (Nat.le_refl _) _⟩
end Go.Proofs.Ytepjhdblmghckaa.G


namespace Go.Proofs.Ytepjhdblmghckaa.G
open Go.Proofs.Ytepjhdblmghckaa.Q Go.Proofs.Ytepjhdblmghckaa.K Go.Proofs.Ytepjhdblmghckaa.Bf
open Go.RowKit Go.Shelf Go.Proofs.YtepjhdblmghckaaW.PrintWords Go.Proofs.YtepjhdblmghckaaW.PrintLast Go.Proofs.YtepjhdblmghckaaW.PrintMore
set_option linter.unusedVariables false
theorem eq124 (W : World) (a b c d : Int) : (Op.equalIn 10000 124 (.agg #[.int .i64 a, .int .i64 b]) (.agg #[.int .i64 c, .int .i64 d])).run Try.prog W = .ok (a == c && b == d) W := by
 have hu0 := Try.underlying124
 have hf := show Try.prog.fieldsOf 124 = _ from by unfold Program.fieldsOf; rw [hu0]
 have hu : Try.prog.underlying 124 = some (.struct (Try.prog.fieldsOf 124)) := by rw [hf]; exact hu0
 have hp : Try.prog.stoodInHeld 124 = false := by kernel_rfl
 rw [show (10000 : Nat) = 9999 + 1 from rfl, run_equalIn_struct W 9999 124 _ _ hu hp, hf]
 have e1 : ∀ x y : Int, (Op.equalIn 9999 3 (.int .i64 x) (.int .i64 y)).run Try.prog W = .ok (x == y) W := fun x y => run_equalIn_int W 9998 3 .i64 .i64 x y Try.underlying3
 have p0 : ∀ x y : Int, (part 3 #[Value.int .i64 x, Value.int .i64 y] 0).run Try.prog W = .ok (.int .i64 x) W := fun x y => by simp [part, Try.isAgg3]
 have p1 : ∀ x y : Int, (part 3 #[Value.int .i64 x, Value.int .i64 y] 1).run Try.prog W = .ok (.int .i64 y) W := fun x y => by simp [part, Try.isAgg3]
 simp only [Op.eqFields, Sem.run_bind, p0, p1, e1, Result.andThen_ok]
 by_cases h : a = c <;> by_cases k : b = d <;> simp [h, k, Sem.run_pure, p0, p1, e1, Result.andThen_ok]
set_option linter.unusedSimpArgs false
def crossB (a b : Int × Int) : Bool := !(a.1 == b.1 && a.2 == b.2) && ((decide (a.1 < b.1) && decide (b.1 < a.2) && decide (a.2 < b.2)) || (decide (b.1 < a.1) && decide (a.1 < b.2) && decide (b.2 < a.2)))
set_option maxRecDepth 100000 in
set_option maxHeartbeats 8000000 in
theorem cross_calls (x0 x1 y0 y1 : Int) (w : World) :
  Calls Try.prog 93 #[.agg #[.int .i64 x0, .int .i64 x1], .agg #[.int .i64 y0, .int .i64 y1]] w fun e w' => e = .returned (.bool (crossB (x0, x1) (y0, y1))) ∧ Below w.heap.size w w' := by
 unfold crossB
 simp only
 have heq := fun W => eq124 W x0 x1 y0 y1
 obtain ⟨W0, hW0⟩ : ∃ W0, (w.alloc (.cells #[.int .i64 x0, .int .i64 x1] 124)).alloc (.cells #[.int .i64 y0, .int .i64 y1] 124) = W0 := ⟨_, rfl⟩
 have hB : Below w.heap.size w W0 := by rw [← hW0]; exact ((Below.refl _ w).alloc (Nat.le_refl _) _).alloc (by simp) _
 have h0 : Blk W0 w.heap.size #[.int .i64 x0, .int .i64 x1] 124 := by rw [← hW0]; exact (Blk.new _ _ _).alloc _
 have h1 : Blk W0 (w.heap.size + 1) #[.int .i64 y0, .int .i64 y1] 124 := by
  rw [← hW0]
  have := Blk.new (w.alloc (.cells #[.int .i64 x0, .int .i64 x1] 124)) #[.int .i64 y0, .int .i64 y1] 124
  rw [World.size_alloc] at this
  exact this
 have a0 := h0.cell 0 (v := .int .i64 x0) rfl
 have a1 := h0.cell 1 (v := .int .i64 x1) rfl
 have b0 := h1.cell 0 (v := .int .i64 y0) rfl
 have b1 := h1.cell 1 (v := .int .i64 y1) rfl
 have HB := Aside0.mk hB
 clear h0 h1 hB
 obtain ⟨q, hq⟩ : ∃ q, (x0 == y0 && x1 == y1) = q := ⟨_, rfl⟩
 rw [hq] at heq ⊢
 clear hq
 go_enter Try.func93, Try.ntmps93
 go_upto_region 1 with fail
 try rw [hW0]
 clear hW0
 cases q
 ·by_cases c1 : x0 < y0 <;> by_cases c2 : y0 < x1 <;> by_cases c3 : x1 < y1 <;> by_cases c4 : y0 < x0 <;> by_cases c5 : x0 < y1 <;> by_cases c6 : y1 < x1 <;> first
   | (exfalso; omega)
   | (go_wp2; go_ret; exact ⟨by simp [c1, c2, c3, c4, c5, c6], HB.out⟩)
 ·go_wp2
  go_ret
  exact ⟨by simp, HB.out⟩
end Go.Proofs.Ytepjhdblmghckaa.G


namespace Go.Proofs.Ytepjhdblmghckaa.G
open Go.Proofs.Ytepjhdblmghckaa.Q Go.Proofs.Ytepjhdblmghckaa.K Go.Proofs.Ytepjhdblmghckaa.Bf
open Go.RowKit Go.Shelf Go.Proofs.YtepjhdblmghckaaW.PrintWords Go.Proofs.YtepjhdblmghckaaW.PrintLast Go.Proofs.YtepjhdblmghckaaW.PrintMore
set_option linter.unusedVariables false
def idxI {α : Type} (p : α → Bool) (l : List α) : Int := if l.any p = true then ((l.findIdx p : Nat) : Int) else -1
theorem idxI_hit {α : Type} {p : α → Bool} {l : List α} (z : α) {k : Nat} (hk : k < l.length) (h : p (l.getD k z) = true) (hm : ∀ j, j < k → p (l.getD j z) = false) : idxI p l = (k : Int) := by
 have hg : ∀ j (hj : j < l.length), l.getD j z = l[j] := fun j hj => by simp [List.getD_eq_getElem?_getD, hj]
 have e : l.findIdx p = k := by
  rw [List.findIdx_eq hk]
  exact ⟨by rw [← hg k hk]; exact h, fun j hj => by rw [← hg j (by omega)]; exact hm j hj⟩
 unfold idxI
 rw [if_pos (by rw [List.any_eq_true]; exact ⟨l[k], List.getElem_mem hk, by rw [← hg k hk]; exact h⟩), e]
theorem idxI_miss {α : Type} {p : α → Bool} {l : List α} (z : α) (hm : ∀ j, j < l.length → p (l.getD j z) = false) : idxI p l = -1 := by
 unfold idxI
 rw [if_neg]
 rw [List.any_eq_true]
 rintro ⟨x, hx, hp⟩
 obtain ⟨j, hj, rfl⟩ := List.mem_iff_getElem.1 hx
 have := hm j hj
 rw [List.getD_eq_getElem?_getD, List.getElem?_eq_getElem hj] at this
 simp only [Option.getD_some] at this
 rw [this] at hp
 cases hp
set_option maxRecDepth 100000 in
set_option maxHeartbeats 4000000 in
theorem idx101_calls (g : Nat) (lb : Array Value) (eg : ∀ args w, (callFunc g args).run Try.prog w = .ok (.enter g args) w) (p : Int → Bool) (A : Option Addr) (c : Nat) (l : List Int) (w : World) (hC : Kd.C (Kd.int .i64) w A l.length l) (hl : l.length ≤ 1000000)
  (hp : ∀ x, x ∈ l → ∀ W, Below w.heap.size w W → Calls Try.prog g (#[.int .i64 x] ++ lb) W fun e W' => e = .returned (.bool (p x)) ∧ Below W.heap.size W W') :
  Calls Try.prog 101 #[.slice A l.length c, .func (.func g) #[] lb] w fun e w' => e = .returned (.int .i64 (idxI p l)) ∧ Below w.heap.size w w' := by
 obtain ⟨n, hn⟩ : ∃ n, l.length = n := ⟨_, rfl⟩
 have HC := Aside0.mk hC
 have HP := Aside0.mk hp
 have HN := Aside0.mk hn
 rw [hn] at hl HC ⊢
 clear hC hp hn
 go_enter Try.func101, Try.ntmps101
 go_wp2
 go_loopw [5, 8] (fun _ s8 wr => ∃ k : Nat, k ≤ n ∧ s8 = .int .i64 (k : Int) ∧ Aside0 (Below w.heap.size w wr) ∧ Aside0 (∀ j, j < k → p (l.getD j 0) = false)) (fun _ s8 _ => n - (intOf s8).toNat)
 case atStart => exact ⟨0, Nat.zero_le _, rfl, ⟨Below.refl _ _⟩, ⟨fun j hj => absurd hj (Nat.not_lt_zero _)⟩⟩
 case round =>
  obtain ⟨k, hk, rfl, HB, HA⟩ := hrel
  by_cases hlt : k < n
  ·have hi0 : (0 : Int) ≤ (k : Int) := by omega
   have hi1 : (k : Int) < (n : Int) := by omega
   obtain ⟨ad, e1, hc1⟩ := Kd.at_int (Kd.C_below HC.out HB.out) (k : Int) hi0 (by omega)
   rw [rd_nth, Int.toNat_natCast] at hc1
   have hmem : l.getD k 0 ∈ l := by
    rw [List.getD_eq_getElem?_getD, List.getElem?_eq_getElem (by rw [HN.out]; exact hlt)]
    exact List.getElem_mem _
   have hcall := HP.out _ hmem wr HB.out
   have hwt : IntKind.i64.wrap ((k : Int) + 1) = ((k + 1 : Nat) : Int) := by rw [iw64 (by omega) (by omega)]; omega
   have HNT := Aside0.mk (show nth l k = l.getD k 0 from rfl)
   rw [HNT.out] at hc1
   obtain ⟨x, hx⟩ : ∃ x, l.getD k 0 = x := ⟨_, rfl⟩
   rw [hx] at hc1 hcall
   have HX := Aside0.mk hx
   subst e1
   clear hx hmem
   cases hq : p x with
   | true =>
    rw [hq] at hcall
    have HQ := Aside0.mk hq
    have HCL := Aside0.mk hcall
    clear hq hcall
    go_wp2_with (go_at_fn g; refine stopper ?_)
    unfold Hold
    refine HCL.out.mono ?_
    rintro e w2 ⟨rfl, hb⟩
    have HB2 := Aside0.mk (HB.out.trans (hb.mono HB.out.size))
    clear hb
    go_wp2
    go_ret
    exact ⟨by rw [idxI_hit 0 (by rw [HN.out]; exact hlt) (by rw [HX.out]; exact HQ.out) HA.out]; rfl, HB2.out⟩
   | false =>
    rw [hq] at hcall
    have HQ := Aside0.mk hq
    have HCL := Aside0.mk hcall
    clear hq hcall
    go_wp2_with (go_at_fn g; refine stopper ?_)
    unfold Hold
    refine HCL.out.mono ?_
    rintro e w2 ⟨rfl, hb⟩
    have HB2 := Aside0.mk (HB.out.trans (hb.mono HB.out.size))
    clear hb
    go_wp2
    go_roundw
    case rel => exact ⟨k + 1, by omega, rfl, HB2, ⟨fun j hj => by
     by_cases e : j = k
     ·subst e; rw [HX.out]; exact HQ.out
     ·exact HA.out j (by omega)⟩⟩
    case measure => simp [intOf]; omega
  ·have hi1 : ¬ (k : Int) < (n : Int) := by omega
   have HKN := Aside0.mk (show k = n by omega)
   go_wp2
   go_ret
   exact ⟨by rw [idxI_miss 0 (fun j hj => HA.out j (by have := HN.out; have := HKN.out; omega))]; rfl, HB.out⟩
set_option maxRecDepth 100000 in
set_option maxHeartbeats 4000000 in
theorem any89_calls (g : Nat) (lb : Array Value) (eg : ∀ args w, (callFunc g args).run Try.prog w = .ok (.enter g args) w) (p : Int → Bool) (A : Option Addr) (c : Nat) (l : List Int) (w : World) (hC : Kd.C (Kd.int .i64) w A l.length l) (hl : l.length ≤ 1000000)
  (hp : ∀ x, x ∈ l → ∀ W, Below w.heap.size w W → Calls Try.prog g (#[.int .i64 x] ++ lb) W fun e W' => e = .returned (.bool (p x)) ∧ Below W.heap.size W W') :
  Calls Try.prog 89 #[.slice A l.length c, .func (.func g) #[] lb] w fun e w' => e = .returned (.bool (l.any p)) ∧ Below w.heap.size w w' := by
 have HI := Aside0.mk (idx101_calls g lb eg p A c l w hC hl hp)
 clear hC hp
 go_enter Try.func89, Try.ntmps89
 go_wp2_with (go_at_call 101; refine stopper ?_)
 unfold Hold
 refine HI.out.mono ?_
 rintro e w2 ⟨rfl, hb⟩
 have HB := Aside0.mk hb
 clear hb
 have HQ0 := Aside0.mk (rfl : l.any p = l.any p)
 obtain ⟨q, hqe⟩ : ∃ q, l.any p = q := ⟨_, rfl⟩
 have HQ := Aside0.mk hqe
 cases q with
 | true =>
  have hq := HQ.out
  have e : idxI p l = ((l.findIdx p : Nat) : Int) := by unfold idxI; rw [if_pos hq]
  rw [e]
  have hge : (0 : Int) ≤ ((l.findIdx p : Nat) : Int) := by omega
  obtain ⟨m, hm⟩ : ∃ m, l.findIdx p = m := ⟨_, rfl⟩
  rw [hm] at hge ⊢
  clear hq e hqe hm
  go_wp2
  go_ret
  exact ⟨by rw [HQ.out]; rfl, HB.out⟩
 | false =>
  have hq := HQ.out
  have e : idxI p l = -1 := by unfold idxI; rw [if_neg (by rw [hq]; simp)]
  rw [e]
  clear hq e hqe
  go_wp2
  go_ret
  exact ⟨by rw [HQ.out]; rfl, HB.out⟩
set_option maxRecDepth 100000 in
set_option maxHeartbeats 4000000 in
theorem idx94_calls (g : Nat) (lb : Array Value) (eg : ∀ args w, (callFunc g args).run Try.prog w = .ok (.enter g args) w) (p : List Int → Bool) (A : Option Addr) (c : Nat) (l : List (List Int)) (w : World) (hC : Kd.C (Kd.slice 3 (Kd.int .i64)) w A l.length l) (hl : l.length ≤ 1000000)
  (hp : ∀ x, x ∈ l → ∀ W A' c', Below w.heap.size w W → x.length ≤ c' → Kd.C (Kd.int .i64) W A' x.length x → Calls Try.prog g (#[.slice A' x.length c'] ++ lb) W fun e W' => e = .returned (.bool (p x)) ∧ Below W.heap.size W W') :
  Calls Try.prog 94 #[.slice A l.length c, .func (.func g) #[] lb] w fun e w' => e = .returned (.int .i64 (idxI p l)) ∧ Below w.heap.size w w' := by
 obtain ⟨n, hn⟩ : ∃ n, l.length = n := ⟨_, rfl⟩
 have HC := Aside0.mk hC
 have HP := Aside0.mk hp
 have HN := Aside0.mk hn
 rw [hn] at hl HC ⊢
 clear hC hp hn
 go_enter Try.func94, Try.ntmps94
 go_wp2
 go_loopw [5, 8] (fun _ s8 wr => ∃ k : Nat, k ≤ n ∧ s8 = .int .i64 (k : Int) ∧ Aside0 (Below w.heap.size w wr) ∧ Aside0 (∀ j, j < k → p (l.getD j []) = false)) (fun _ s8 _ => n - (intOf s8).toNat)
 case atStart => exact ⟨0, Nat.zero_le _, rfl, ⟨Below.refl _ _⟩, ⟨fun j hj => absurd hj (Nat.not_lt_zero _)⟩⟩
 case round =>
  obtain ⟨k, hk, rfl, HB, HA⟩ := hrel
  by_cases hlt : k < n
  ·have hi0 : (0 : Int) ≤ (k : Int) := by omega
   have hi1 : (k : Int) < (n : Int) := by omega
   obtain ⟨ad, cs, e1, _, ⟨A', c', e2, hl2, hc2⟩, hc1⟩ := Kd.C_get (Kd.C_below HC.out HB.out) [] (k : Int) hi0 (by omega)
   subst e2
   have hc1 := hc1 0 _ rfl
   rw [Int.toNat_natCast, show (Kd.slice 3 (Kd.int .i64)).sz = 1 from rfl, Nat.mul_one, Nat.add_zero] at hc1
   rw [Int.toNat_natCast] at hl2 hc2
   have hmem : l.getD k [] ∈ l := by
    rw [List.getD_eq_getElem?_getD, List.getElem?_eq_getElem (by rw [HN.out]; exact hlt)]
    exact List.getElem_mem _
   have hcall := HP.out _ hmem wr A' c' HB.out hl2 hc2
   have hwt : IntKind.i64.wrap ((k : Int) + 1) = ((k + 1 : Nat) : Int) := by rw [iw64 (by omega) (by omega)]; omega
   obtain ⟨x, hx⟩ : ∃ x, l.getD k [] = x := ⟨_, rfl⟩
   rw [hx] at hc1 hcall
   have HX := Aside0.mk hx
   subst e1
   clear hx hmem hl2 hc2
   obtain ⟨xn, hxn⟩ : ∃ xn, x.length = xn := ⟨_, rfl⟩
   rw [hxn] at hc1 hcall
   clear hxn
   cases hq : p x with
   | true =>
    rw [hq] at hcall
    have HQ := Aside0.mk hq
    have HCL := Aside0.mk hcall
    clear hq hcall
    go_wp2_with (go_at_fn g; refine stopper ?_)
    unfold Hold
    refine HCL.out.mono ?_
    rintro e w2 ⟨rfl, hb⟩
    have HB2 := Aside0.mk (HB.out.trans (hb.mono HB.out.size))
    clear hb
    go_wp2
    go_ret
    exact ⟨by rw [idxI_hit [] (by rw [HN.out]; exact hlt) (by rw [HX.out]; exact HQ.out) HA.out]; rfl, HB2.out⟩
   | false =>
    rw [hq] at hcall
    have HQ := Aside0.mk hq
    have HCL := Aside0.mk hcall
    clear hq hcall
    go_wp2_with (go_at_fn g; refine stopper ?_)
    unfold Hold
    refine HCL.out.mono ?_
    rintro e w2 ⟨rfl, hb⟩
    have HB2 := Aside0.mk (HB.out.trans (hb.mono HB.out.size))
    clear hb
    go_wp2
    go_roundw
    case rel => exact ⟨k + 1, by omega, rfl, HB2, ⟨fun j hj => by
     by_cases e : j = k
     ·subst e; rw [HX.out]; exact HQ.out
     ·exact HA.out j (by omega)⟩⟩
    case measure => simp [intOf]; omega
  ·have hi1 : ¬ (k : Int) < (n : Int) := by omega
   have HKN := Aside0.mk (show k = n by omega)
   go_wp2
   go_ret
   exact ⟨by rw [idxI_miss [] (fun j hj => HA.out j (by have := HN.out; have := HKN.out; omega))]; rfl, HB.out⟩
end Go.Proofs.Ytepjhdblmghckaa.G


namespace Go.Proofs.Ytepjhdblmghckaa.G
open Go.Proofs.Ytepjhdblmghckaa.Q Go.Proofs.Ytepjhdblmghckaa.K Go.Proofs.Ytepjhdblmghckaa.Bf
open Go.RowKit Go.Shelf Go.Proofs.YtepjhdblmghckaaW.PrintWords Go.Proofs.YtepjhdblmghckaaW.PrintLast Go.Proofs.YtepjhdblmghckaaW.PrintMore
set_option linter.unusedVariables false
theorem PicOk.below {base b : Nat} {s : List Int} {W W' : World} (h : PicOk base b s W) (hb : Below W.heap.size W W') : PicOk base b s W' := by
 obtain ⟨A, c, A2, c2, h1, h2, h3⟩ := h
 exact ⟨A, c, A2, c2, blk_below h1 hb, Kd.R_below h2 hb, Kd.R_below h3 hb⟩
def crossL (pl : List Int) (x y : Int) : Bool := crossB (spanOf pl x.toNat) (spanOf pl y.toNat)
def joinedB (pl : List Int) (a b : List Int) : Bool := a.any fun x => b.any fun y => crossL pl x y
set_option maxRecDepth 100000 in
set_option maxHeartbeats 4000000 in
theorem c91_calls (b base bx xx : Nat) (s : List Int) (hs : s.length ≤ 40) (w : World) (hP : PicOk base b s w) (hbx : Blk w bx #[.pointer (some ⟨b, 0, none⟩)] 79) (x y : Nat) (hxx : Blk w xx #[.int .i64 (x : Int)] 3) (hx : x ≤ s.length) (hy : y ≤ s.length) :
  Calls Try.prog 91 #[.int .i64 (y : Int), .pointer (some ⟨bx, 0, none⟩), .pointer (some ⟨xx, 0, none⟩)] w fun e w' => e = .returned (.bool (crossB (spanOf (plL s) x) (spanOf (plL s) y))) ∧ Below w.heap.size w w' := by
 have k0 := hbx.cell 0 (v := .pointer (some ⟨b, 0, none⟩)) rfl
 have k1 := hxx.cell 0 (v := .int .i64 (x : Int)) rfl
 have HP := Aside0.mk hP
 clear hP hbx hxx
 go_enter Try.func91, Try.ntmps91
 go_upto_region 1 with fail
 refine start_ (n := 8) (S := fun w' => w'.cell? ⟨bx, 0, none⟩ = some (.pointer (some ⟨b, 0, none⟩)) ∧ w'.cell? ⟨xx, 0, none⟩ = some (.int .i64 (x : Int))) (ds := []) #[false, false, false, false, false, false, false, false] (by kernel_rfl) rfl rfl ⟨k0, k1⟩ (fun hHeld => ?_)
 refine take_ (i := 0) (N := (some 5)) (v := ?_) (a' := ?_) #[true, false, false, false, false, false, false, false] rfl rfl (by kernel_rfl) (fun _ _ _ h => h) (Or.inl ⟨by rfl, ?_⟩) hHeld ?_ ?_
 rotate_left
 ·rintro w' ⟨s0, s1⟩
  go_simp
  with_reducible rfl
 rotate_left
 ·simp only [Act.put, List.setIfInBounds_toArray, List.set_cons_zero, List.set_cons_succ]
  rfl
 refine take_ (i := 1) (N := (some 6)) (v := ?_) (a' := ?_) #[true, true, false, false, false, false, false, false] rfl rfl (by kernel_rfl) (fun _ _ _ h => h) (Or.inl ⟨by rfl, ?_⟩) hHeld ?_ ?_
 rotate_left
 ·rintro w' ⟨s0, s1⟩
  go_simp
  with_reducible rfl
 rotate_left
 ·simp only [Act.put, List.setIfInBounds_toArray, List.set_cons_zero, List.set_cons_succ]
  rfl
 refine take_ (i := 3) (N := (some 8)) (v := ?_) (a' := ?_) #[true, true, false, true, false, false, false, false] rfl rfl (by kernel_rfl) (fun _ _ _ h => h) (Or.inl ⟨by rfl, ?_⟩) hHeld ?_ ?_
 rotate_left
 ·rintro w' ⟨s0, s1⟩
  go_simp
  with_reducible rfl
 rotate_left
 ·simp only [Act.put, List.setIfInBounds_toArray, List.set_cons_zero, List.set_cons_succ]
  rfl
 refine pure_ (i := 4) (N := (some 9)) (v := ?_) (a' := ?_) #[true, true, false, true, true, false, false, false] rfl rfl (by kernel_rfl) (fun _ _ _ h => h) (Or.inl ⟨by rfl, ?_⟩) ?_ ?_
 rotate_left
 ·intro w'
  go_simp
  with_reducible rfl
 rotate_left
 ·simp only [Act.put, List.setIfInBounds_toArray, List.set_cons_zero, List.set_cons_succ]
  rfl
 refine one_ (i := 2) (N := (some 7)) #[true, true, true, true, true, false, false, false] rfl rfl (by kernel_rfl) (by decide) (fun K hK => ?_)
 refine goes_ Try.func92 (by kernel_rfl) rfl #[.pointer (some ⟨b, 0, none⟩), .int .i64 (x : Int)] (by rfl) rfl rfl (by (try simp only [List.map_toArray, List.map_cons, List.map_nil]); first | done | rfl) ?_
 refine (span_calls b base s hs x hx w.drew (HP.out.below (Below.refl _ _).drew)).mono ?_
 rintro e w1 ⟨rfl, hb⟩
 refine ⟨_, rfl, ?_⟩
 have hcc : ∀ (p : Addr) v, w.drew.cell? p = some v → w1.cell? p = some v := fun p v hp => by rw [hb.cell (p := p) (World.block_lt_of_cell? _ _ hp)]; exact hp
 refine hK.out _ _ ⟨hcc _ _ hHeld.1, hcc _ _ hHeld.2⟩ (fun hHeld => ?_)
 have HB1 := Aside0.mk ((Below.refl w.heap.size w).drew.trans hb)
 clear hcc hK K hb
 refine norm_ (a' := ?_) ?_ ?_
 rotate_left
 ·show Act.put _ (some 7) _ = _
  simp only [Act.put, List.setIfInBounds_toArray, List.set_cons_zero, List.set_cons_succ]
  rfl
 refine one_ (i := 5) (N := (some 10)) #[true, true, true, true, true, true, false, false] rfl rfl (by kernel_rfl) (by decide) (fun K hK => ?_)
 refine goes_ Try.func92 (by kernel_rfl) rfl #[.pointer (some ⟨b, 0, none⟩), .int .i64 (y : Int)] (by rfl) rfl rfl (by (try simp only [List.map_toArray, List.map_cons, List.map_nil]); first | done | rfl) ?_
 refine (span_calls b base s hs y hy w1 (HP.out.below HB1.out)).mono ?_
 rintro e w2 ⟨rfl, hb⟩
 refine ⟨_, rfl, ?_⟩
 have hcc : ∀ (p : Addr) v, w1.cell? p = some v → w2.cell? p = some v := fun p v hp => by rw [hb.cell (p := p) (World.block_lt_of_cell? _ _ hp)]; exact hp
 refine hK.out _ _ ⟨hcc _ _ hHeld.1, hcc _ _ hHeld.2⟩ (fun hHeld => ?_)
 have HB2 := Aside0.mk (HB1.out.trans (hb.mono HB1.out.size))
 clear hcc hK K hb
 refine norm_ (a' := ?_) ?_ ?_
 rotate_left
 ·show Act.put _ (some 10) _ = _
  simp only [Act.put, List.setIfInBounds_toArray, List.set_cons_zero, List.set_cons_succ]
  rfl
 refine one_ (i := 6) (N := (some 11)) #[true, true, true, true, true, true, true, false] rfl rfl (by kernel_rfl) (by decide) (fun K hK => ?_)
 refine goes_ Try.func93 (by kernel_rfl) rfl #[.agg #[.int .i64 (spanOf (plL s) x).1, .int .i64 (spanOf (plL s) x).2], .agg #[.int .i64 (spanOf (plL s) y).1, .int .i64 (spanOf (plL s) y).2]] (by rfl) rfl rfl (by (try simp only [List.map_toArray, List.map_cons, List.map_nil]); first | done | rfl) ?_
 refine (cross_calls (spanOf (plL s) x).1 (spanOf (plL s) x).2 (spanOf (plL s) y).1 (spanOf (plL s) y).2 w2).mono ?_
 rintro e w3 ⟨rfl, hb⟩
 refine ⟨_, rfl, ?_⟩
 have hcc : ∀ (p : Addr) v, w2.cell? p = some v → w3.cell? p = some v := fun p v hp => by rw [hb.cell (p := p) (World.block_lt_of_cell? _ _ hp)]; exact hp
 refine hK.out _ _ ⟨hcc _ _ hHeld.1, hcc _ _ hHeld.2⟩ (fun hHeld => ?_)
 have HB3 := Aside0.mk (HB2.out.trans (hb.mono HB2.out.size))
 clear hcc hK K hb
 refine norm_ (a' := ?_) ?_ ?_
 rotate_left
 ·show Act.put _ (some 11) _ = _
  simp only [Act.put, List.setIfInBounds_toArray, List.set_cons_zero, List.set_cons_succ]
  rfl
 refine pure_ (i := 7) (N := (some 4)) (v := ?_) (a' := ?_) #[true, true, true, true, true, true, true, true] rfl rfl (by kernel_rfl) (fun _ _ _ h => h) (Or.inl ⟨by rfl, ?_⟩) ?_ ?_
 rotate_left
 ·intro w'
  go_simp
  with_reducible rfl
 rotate_left
 ·simp only [Act.put, List.setIfInBounds_toArray, List.set_cons_zero, List.set_cons_succ]
  rfl
 refine done_ (by kernel_rfl) ?_
 go_wp2
 go_ret
 exact ⟨rfl, HB3.out⟩
set_option maxRecDepth 100000 in
set_option maxHeartbeats 4000000 in
theorem c90_calls (b base bx bb : Nat) (s : List Int) (hs : s.length ≤ 40) (w : World) (hP : PicOk base b s w) (hbx : Blk w bx #[.pointer (some ⟨b, 0, none⟩)] 79) (A : Option Addr) (c : Nat) (l : List Int) (hbb : Blk w bb #[.slice A l.length c] 22) (hl : Kd.C (Kd.int .i64) w A l.length l) (hll : l.length ≤ 1000000) (hm : ∀ y, y ∈ l → 0 ≤ y ∧ y ≤ s.length) (x : Nat) (hx : x ≤ s.length) :
  Calls Try.prog 90 #[.int .i64 (x : Int), .pointer (some ⟨bb, 0, none⟩), .pointer (some ⟨bx, 0, none⟩)] w fun e w' => e = .returned (.bool (l.any fun y => crossL (plL s) x y)) ∧ Below w.heap.size w w' := by
 obtain ⟨W0, hW0⟩ : ∃ W0, w.alloc (.cells #[.int .i64 (x : Int)] 3) = W0 := ⟨_, rfl⟩
 have hB : Below w.heap.size w W0 := by rw [← hW0]; exact (Below.refl _ w).alloc (Nat.le_refl _) _
 have hN : Blk W0 w.heap.size #[.int .i64 (x : Int)] 3 := by rw [← hW0]; exact Blk.new _ _ _
 have hb0 := (blk_below hbb hB).cell 0 (v := .slice A l.length c) rfl
 have HP := Aside0.mk (hP.below hB)
 have HBX := Aside0.mk (blk_below hbx hB)
 have HN := Aside0.mk hN
 have HL := Aside0.mk (Kd.C_below hl hB)
 have HM := Aside0.mk hm
 have HB := Aside0.mk hB
 have eg := enters_of Try.func91 (by kernel_rfl) rfl
 obtain ⟨n, hn⟩ : ∃ n, l.length = n := ⟨_, rfl⟩
 have HNN := Aside0.mk hn
 rw [hn] at hb0
 clear hP hbx hbb hl hm hB hN hn
 go_enter Try.func90, Try.ntmps90
 go_upto_region 1 with fail
 try rw [hW0]
 clear hW0
 go_wp2_with (go_at_call 89; refine stopper ?_)
 try unfold Hold
 rw [← HNN.out]
 refine (any89_calls 91 #[.pointer (some ⟨bx, 0, none⟩), .pointer (some ⟨w.heap.size, 0, none⟩)] eg (fun y => crossL (plL s) x y) A c l W0 HL.out hll (fun y hy W hbw => ?_)).mono ?_
 ·have hy' := HM.out y hy
  obtain ⟨yn, rfl⟩ := Int.eq_ofNat_of_zero_le hy'.1
  have h := c91_calls b base bx w.heap.size s hs W (HP.out.below hbw) (blk_below HBX.out hbw) x yn (blk_below HN.out hbw) hx (by omega)
  unfold crossL
  simp only [Int.toNat_natCast]
  exact h
 ·rintro e w1 ⟨rfl, hb⟩
  have HB1 := Aside0.mk (HB.out.trans (hb.mono HB.out.size))
  clear hb
  go_wp2
  go_ret
  exact ⟨rfl, HB1.out⟩
set_option maxRecDepth 100000 in
set_option maxHeartbeats 4000000 in
theorem c88_calls (b base bx : Nat) (s : List Int) (hs : s.length ≤ 40) (w : World) (hP : PicOk base b s w) (hbx : Blk w bx #[.pointer (some ⟨b, 0, none⟩)] 79) (A1 A2 : Option Addr) (c1 c2 : Nat) (l1 l2 : List Int) (h1 : Kd.C (Kd.int .i64) w A1 l1.length l1) (h2 : Kd.C (Kd.int .i64) w A2 l2.length l2) (hl1 : l1.length ≤ 1000000) (hl2 : l2.length ≤ 1000000) (hm1 : ∀ y, y ∈ l1 → 0 ≤ y ∧ y ≤ s.length) (hm2 : ∀ y, y ∈ l2 → 0 ≤ y ∧ y ≤ s.length) :
  Calls Try.prog 88 #[.slice A1 l1.length c1, .slice A2 l2.length c2, .pointer (some ⟨bx, 0, none⟩)] w fun e w' => e = .returned (.bool (joinedB (plL s) l1 l2)) ∧ Below w.heap.size w w' := by
 obtain ⟨W0, hW0⟩ : ∃ W0, w.alloc (.cells #[.slice A2 l2.length c2] 22) = W0 := ⟨_, rfl⟩
 have hB : Below w.heap.size w W0 := by rw [← hW0]; exact (Below.refl _ w).alloc (Nat.le_refl _) _
 have hN : Blk W0 w.heap.size #[.slice A2 l2.length c2] 22 := by rw [← hW0]; exact Blk.new _ _ _
 have HP := Aside0.mk (hP.below hB)
 have HBX := Aside0.mk (blk_below hbx hB)
 have HN := Aside0.mk hN
 have HL1 := Aside0.mk (Kd.C_below h1 hB)
 have HL2 := Aside0.mk (Kd.C_below h2 hB)
 have HM1 := Aside0.mk hm1
 have HM2 := Aside0.mk hm2
 have HB := Aside0.mk hB
 have eg := enters_of Try.func90 (by kernel_rfl) rfl
 have EC := Aside0.mk (any89_calls 90 #[.pointer (some ⟨w.heap.size, 0, none⟩), .pointer (some ⟨bx, 0, none⟩)] eg (fun x => l2.any fun y => crossL (plL s) x y) A1 c1 l1 W0 HL1.out hl1 (fun y hy W hbw => by
  have hy' := HM1.out y hy
  obtain ⟨yn, rfl⟩ := Int.eq_ofNat_of_zero_le hy'.1
  exact c90_calls b base bx w.heap.size s hs W (HP.out.below hbw) (blk_below HBX.out hbw) A2 c2 l2 (blk_below HN.out hbw) (Kd.C_below HL2.out hbw) hl2 HM2.out yn (by omega)))
 obtain ⟨n1, hn1⟩ : ∃ n1, l1.length = n1 := ⟨_, rfl⟩
 obtain ⟨n2, hn2⟩ : ∃ n2, l2.length = n2 := ⟨_, rfl⟩
 rw [hn1] at EC ⊢
 rw [hn2] at hW0 ⊢
 clear hP hbx h1 h2 hm1 hm2 hB hN hn1 hn2
 go_enter Try.func88, Try.ntmps88
 go_upto_region 1 with fail
 try rw [hW0]
 clear hW0
 go_wp2_with (go_at_call 89; refine stopper ?_)
 try unfold Hold
 refine EC.out.mono ?_
 rintro e w1 ⟨rfl, hb⟩
 have HB1 := Aside0.mk (HB.out.trans (hb.mono HB.out.size))
 clear hb
 go_wp2
 go_ret
 exact ⟨rfl, HB1.out⟩
set_option maxRecDepth 100000 in
set_option maxHeartbeats 4000000 in
theorem c95_calls (b base bx bj bo : Nat) (s : List Int) (hs : s.length ≤ 40) (w : World) (hP : PicOk base b s w) (hbx : Blk w bx #[.pointer (some ⟨b, 0, none⟩)] 79) (hbj : Blk w bj #[.func (.func 88) #[] #[.pointer (some ⟨bx, 0, none⟩)]] 39) (A1 A2 : Option Addr) (c1 c2 : Nat) (l1 l2 : List Int) (bad : Bool) (hbo : Blk w bo #[.slice A1 l1.length c1, .bool bad] 110) (h1 : Kd.C (Kd.int .i64) w A1 l1.length l1) (h2 : Kd.C (Kd.int .i64) w A2 l2.length l2) (hl1 : l1.length ≤ 1000000) (hl2 : l2.length ≤ 1000000) (hm1 : ∀ y, y ∈ l1 → 0 ≤ y ∧ y ≤ s.length) (hm2 : ∀ y, y ∈ l2 → 0 ≤ y ∧ y ≤ s.length) :
  Calls Try.prog 95 #[.slice A2 l2.length c2, .pointer (some ⟨bj, 0, none⟩), .pointer (some ⟨bo, 0, none⟩)] w fun e w' => e = .returned (.bool (joinedB (plL s) l1 l2)) ∧ Below w.heap.size w w' := by
 have k0 := hbj.cell 0 (v := .func (.func 88) #[] #[.pointer (some ⟨bx, 0, none⟩)]) rfl
 have k1 := hbo.cell 0 (v := .slice A1 l1.length c1) rfl
 have EC := Aside0.mk (c88_calls b base bx s hs w hP hbx A1 A2 c1 c2 l1 l2 h1 h2 hl1 hl2 hm1 hm2)
 have eg := enters_of Try.func88 (by kernel_rfl) rfl
 obtain ⟨n1, hn1⟩ : ∃ n1, l1.length = n1 := ⟨_, rfl⟩
 obtain ⟨n2, hn2⟩ : ∃ n2, l2.length = n2 := ⟨_, rfl⟩
 rw [hn1, hn2] at EC
 rw [hn1] at k1
 rw [hn2]
 clear hP hbx hbj hbo h1 h2 hl1 hl2 hm1 hm2 hn1 hn2
 go_enter Try.func95, Try.ntmps95
 go_wp2_with (go_at_fn 88; refine stopper ?_)
 try unfold Hold
 refine EC.out.mono ?_
 rintro e w1 ⟨rfl, hb⟩
 have HB1 := Aside0.mk hb
 clear hb
 go_wp2
 go_ret
 exact ⟨rfl, HB1.out⟩
end Go.Proofs.Ytepjhdblmghckaa.G


namespace Go.Proofs
open Go.Shelf Go.Lib
def Try.del_ren : Go.Shelf.Ren := ⟨fun | 45 => 96 | n => n, fun | 22 => 45 | 23 => 22 | n => n, fun | n => n⟩
theorem Try.laysDel : SlLaysE.n45 Try.prog Try.del_ren := {
 mixed := by kernel_rfl
 f45 := ⟨_, by kernel_rfl, Try.func96⟩
 t0 := Try.underlying0
 a0 := Try.isAgg0
 z0 := Try.sizeOf0
 v0 := Try.zeroValue0
 t3 := Try.underlying3
 a3 := Try.isAgg3
 z3 := Try.sizeOf3
 v3 := Try.zeroValue3
 t4 := Try.underlying4
 a4 := Try.isAgg4
 z4 := Try.sizeOf4
 v4 := Try.zeroValue4
 t22 := Try.underlying45
 a22 := Try.isAgg45
 z22 := Try.sizeOf45
 v22 := Try.zeroValue45
 a23 := Try.isAgg22
 z23 := Try.sizeOf22 }
end Go.Proofs
namespace Go.Proofs.Ytepjhdblmghckaa.G
open Go.Proofs.Ytepjhdblmghckaa.Q Go.Proofs.Ytepjhdblmghckaa.K Go.Proofs.Ytepjhdblmghckaa.Bf
open Go.RowKit Go.Shelf Go.Sort Go.Proofs.YtepjhdblmghckaaW.PrintWords Go.Proofs.YtepjhdblmghckaaW.PrintLast Go.Proofs.YtepjhdblmghckaaW.PrintMore
set_option linter.unusedVariables false
abbrev Sl3 := Option Addr × Nat × Nat
def sv (x : Sl3) : Value := .slice x.1 x.2.1 x.2.2
theorem sv_one : OneCell sv := fun x => rfl
def CrI (N g : Nat) (W : World) (A : Option Addr) (cap : Nat) (cs : List (List Int)) : Prop :=
 cs = [] ∨ ∃ off, ∃ d : Array Sl3, A = some ⟨g, off, none⟩ ∧ d.size = cs.length ∧ cs.length ≤ cap ∧ cap ≤ 9223372036854775807 ∧ Holds sv W g off d ∧
  ∀ j, j < cs.length → (d[j]!).2.1 = (cs.getD j []).length ∧ (cs.getD j []).length ≤ (d[j]!).2.2 ∧ Kd.F (Kd.int .i64) W (fun k => k ≠ g ∧ k < N) (d[j]!).1 (cs.getD j []).length (cs.getD j [])
theorem cell_same {W W' : World} {a : Addr} (h : W'.heap[a.block]? = W.heap[a.block]?) : W'.cell? a = W.cell? a := by unfold World.cell?; rw [h]
theorem frozen_same {W W' : World} {a : Addr} (h : W'.heap[a.block]? = W.heap[a.block]?) : W'.frozen? a = W.frozen? a := by unfold World.frozen?; rw [h]
theorem CrI.keep {N g : Nat} {W W' : World} {A : Option Addr} {cap : Nat} {cs : List (List Int)} (h : CrI N g W A cap cs) (hg : g < N) (hb : ∀ k, k < N → W'.heap[k]? = W.heap[k]?) : CrI N g W' A cap cs := by
 rcases h with h | ⟨off, d, h1, h2, h3, h4, h5, h6⟩
 ·exact .inl h
 ·exact .inr ⟨off, d, h1, h2, h3, h4, fun j hj => by rw [cell_same (hb g hg), frozen_same (hb g hg)]; exact h5 j hj, fun j hj => ⟨(h6 j hj).1, (h6 j hj).2.1, Kd.F_step (h6 j hj).2.2 (fun k hk _ => hb k hk.2)⟩⟩
theorem CrI.at {N g : Nat} {W : World} {A : Option Addr} {cap : Nat} {cs : List (List Int)} (h : CrI N g W A cap cs) (j : Nat) (hj : j < cs.length) :
  ∃ off A' c', A = some ⟨g, off, none⟩ ∧ W.cell? ⟨g, off + j, none⟩ = some (.slice A' (cs.getD j []).length c') ∧ (cs.getD j []).length ≤ c' ∧ Kd.F (Kd.int .i64) W (fun k => k ≠ g ∧ k < N) A' (cs.getD j []).length (cs.getD j []) := by
 rcases h with h | ⟨off, d, h1, h2, h3, h4, h5, h6⟩
 ·rw [h] at hj; cases hj
 ·refine ⟨off, (d[j]!).1, (d[j]!).2.2, h1, ?_, (h6 j hj).2.1, (h6 j hj).2.2⟩
  rw [(h5 j (by omega)).1, ← (h6 j hj).1]
  rfl
theorem CrI.C {N g : Nat} {W : World} {A : Option Addr} {cap : Nat} {cs : List (List Int)} (h : CrI N g W A cap cs) : Kd.C (Kd.slice 3 (Kd.int .i64)) W A cs.length cs := by
 have hlen : cs.length ≤ 9223372036854775807 := by
  rcases h with h | ⟨off, d, h1, h2, h3, h4, h5, h6⟩
  ·rw [h]; simp
  ·omega
 refine ⟨rfl, hlen, fun hp => ?_⟩
 obtain ⟨off, _, _, e, _⟩ := h.at 0 hp
 refine ⟨_, e, fun j p hj => ?_⟩
 have hjl := (List.getElem?_eq_some_iff.1 hj).1
 obtain ⟨off2, A', c', e2, hc, hl, hF⟩ := h.at j hjl
 have hp : cs.getD j [] = p := by rw [List.getD_eq_getElem?_getD, hj]; rfl
 rw [hp] at hc hl hF
 rw [e] at e2
 cases e2
 refine ⟨[.slice A' p.length c'], rfl, ⟨A', c', rfl, hl, Kd.F_now hF⟩, fun i u hu => ?_⟩
 match i, hu with
 | 0, hu =>
  cases hu
  show W.cell? (Addr.add ⟨g, off, none⟩ (j * 1 + 0)) = _
  rw [Addr.add_lit, Nat.mul_one, Nat.add_zero]
  exact hc
 | i + 1, hu => simp at hu
theorem CrI.tail {N g : Nat} {W : World} {off cap : Nat} {c : List Int} {cs : List (List Int)} (h : CrI N g W (some ⟨g, off, none⟩) cap (c :: cs)) :
  CrI N g W (if cap = 1 then some ⟨g, off, none⟩ else some ⟨g, off + 1, none⟩) (cap - 1) cs := by
 rcases h with h | ⟨off', d, h1, h2, h3, h4, h5, h6⟩
 ·cases h
 ·cases h1
  by_cases hc : cs = []
  ·exact .inl hc
  ·have hl : 0 < cs.length := List.length_pos_iff.2 hc
   simp only [List.length_cons] at h2 h3 h6
   right
   have hg : ∀ j, j < cs.length → (d.extract 1 d.size)[j]! = d[j + 1]! := fun j hj => by
    rw [getElem!_pos _ j (by simp; omega), getElem!_pos d (j + 1) (by omega), Array.getElem_extract]
    congr 1
    omega
   refine ⟨off + 1, d.extract 1 d.size, by rw [if_neg (by omega)], by simp; omega, by omega, by omega, fun j hj => ?_, fun j hj => ?_⟩
   ·have hj' : j < cs.length := by simp at hj; omega
    rw [hg j hj', show off + 1 + j = off + (j + 1) by omega]
    exact h5 (j + 1) (by omega)
   ·rw [hg j hj]
    exact h6 (j + 1) (by omega)
theorem choose_arr {α : Type} [Inhabited α] {n : Nat} {P : Nat → α → Prop} (h : ∀ j, j < n → ∃ x, P j x) : ∃ d : Array α, d.size = n ∧ ∀ j, j < n → P j d[j]! := by
 refine ⟨Array.ofFn (n := n) fun j => Classical.choose (h j.1 j.2), by simp, fun j hj => ?_⟩
 rw [getElem!_pos _ j (by simpa using hj), Array.getElem_ofFn]
 exact Classical.choose_spec (h j hj)
theorem CrI.of_R {base : Nat} {ok : Nat → Prop} {N : Nat} {W : World} {v : Value} {cs : List (List Int)} (h : Kd.R (Kd.slice 3 (Kd.int .i64)) 22 W base ok v cs) (hN : W.heap.size ≤ N) (hne : cs ≠ []) :
  ∃ g cap, v = .slice (some ⟨g, 0, none⟩) cs.length cap ∧ CrI N g W (some ⟨g, 0, none⟩) cap cs ∧ base ≤ g ∧ g < W.heap.size := by
 have hl : 0 < cs.length := List.length_pos_iff.2 hne
 obtain ⟨inner, ho⟩ := Kd.R_own h
 rcases ho.2 with ⟨_, h0⟩ | ⟨g, cap, cur, rfl, hg, hh, hnc, hcm, hsz, htake⟩
 ·omega
 ·have hlt : g < W.heap.size := (Array.getElem?_eq_some_iff.1 hh).1
  have hel : ∀ j, j < cs.length → ∃ x : Sl3, (W.cell? ⟨g, 0 + j, none⟩ = some (sv x) ∧ W.frozen? ⟨g, 0 + j, none⟩ = false) ∧ x.2.1 = (cs.getD j []).length ∧ (cs.getD j []).length ≤ x.2.2 ∧ Kd.F (Kd.int .i64) W (fun k => k ≠ g ∧ k < N) x.1 (cs.getD j []).length (cs.getD j []) := fun j hj => by
   obtain ⟨c, _, ⟨u, rfl, hu⟩, hcell, hfz⟩ := Kd.R_elem h [] (j : Int) (by omega) (by omega)
   rw [Int.toNat_natCast] at hu hcell hfz
   have hc0 := hcell 0 u rfl
   have hf0 := hfz 0
   rw [show (Kd.slice 3 (Kd.int .i64)).sz = 1 from rfl, Nat.mul_one, Nat.add_zero] at hc0 hf0
   obtain ⟨A', c', rfl⟩ := Kd.R_slice hu
   refine ⟨(A', (cs.getD j []).length, c'), ⟨by rw [Nat.zero_add]; exact hc0, by rw [Nat.zero_add]; exact hf0⟩, rfl, (Kd.R_reads' hu).2.1, ?_⟩
   exact Kd.F_mono (Kd.F_bound (Kd.R_F hu)) (fun k hk => ⟨hk.1.2, by have := hk.2; omega⟩)
  obtain ⟨d, hd, hP⟩ := choose_arr hel
  refine ⟨g, cap, rfl, .inr ⟨0, d, rfl, hd, hnc, ?_, fun j hj => (hP j (by omega)).1, fun j hj => (hP j hj).2⟩, hg, hlt⟩
  unfold maxLen at hcm
  omega
theorem info22_ : ∃ i0, Try.prog.info? 22 = some i0 ∧ i0.size = 1 := by
 have h : (Try.prog.info? 22).map (fun i => i.size) = some 1 := by kernel_rfl
 cases hi : Try.prog.info? 22 with
 | none => rw [hi] at h; cases h
 | some i0 => rw [hi] at h; exact ⟨i0, rfl, by simpa using h⟩
set_option maxRecDepth 100000 in
theorem CrI.del {N g : Nat} {W : World} {A : Option Addr} {cap : Nat} {cs : List (List Int)} (h : CrI N g W A cap cs) (k : Nat) (hk : k < cs.length) :
  Calls Try.prog 96 #[.slice A cs.length cap, .int .i64 (k : Int), .int .i64 ((k + 1 : Nat) : Int)] W fun e W' => e = .returned (.slice A (cs.length - 1) cap) ∧ CrI N g W' A cap (cs.eraseIdx k) ∧ Rest g W W' := by
 have hlen0 : (cs.eraseIdx k).length = cs.length - 1 := List.length_eraseIdx_of_lt hk
 rcases h with h | ⟨off, d, rfl, h2, h3, h4, h5, h6⟩
 ·rw [h] at hk; cases hk
 ·obtain ⟨i0, hi0, hz1⟩ := info22_
  rw [← h2]
  refine (AnyE.slices_Delete Try.laysDel sv sv_one (none, 0, 0) Try.zeroValue22 i0 hi0 hz1 g off cap k (k + 1) d W h5 (by omega) h4 (by omega) (by omega)).mono ?_
  rintro e W' ⟨rfl, q, rfl⟩
  obtain ⟨dn, hdn⟩ : ∃ dn : Array Sl3, (d.toList.take k ++ d.toList.drop (k + 1) ++ List.replicate (k + 1 - k) (none, 0, 0)).toArray = dn := ⟨_, rfl⟩
  rw [hdn]
  have hsz : dn.size = d.size := by rw [← hdn]; simp; omega
  have hget : ∀ j, j < d.size - 1 → dn[j]! = d[if j < k then j else j + 1]! := fun j hj => by
   have hidx : (if j < k then j else j + 1) < d.size := by split <;> omega
   rw [getElem!_pos dn j (by omega), getElem!_pos d _ hidx]
   have e1 : dn[j]? = d[if j < k then j else j + 1]? := by
    rw [← hdn, List.getElem?_toArray, List.append_assoc]
    by_cases hjk : j < k
    ·rw [List.getElem?_append_left (by simp; omega), List.getElem?_take, if_pos hjk, if_pos hjk, Array.getElem?_toList]
    ·rw [List.getElem?_append_right (by simp; omega), List.getElem?_append_left (by simp; omega), List.getElem?_drop, if_neg hjk, Array.getElem?_toList]
     congr 1
     simp
     omega
   rw [Array.getElem?_eq_getElem (by omega), Array.getElem?_eq_getElem hidx] at e1
   exact Option.some.inj e1
  have hgc : ∀ j, j < cs.length - 1 → (cs.eraseIdx k).getD j [] = cs.getD (if j < k then j else j + 1) [] := fun j hj => by
   rw [List.getD_eq_getElem?_getD, List.getD_eq_getElem?_getD, List.getElem?_eraseIdx]
   split <;> rfl
  have hoth : ∀ b, b ≠ g → (putRow sv (Sort.ahead W q) g off dn).heap[b]? = W.heap[b]? := fun b hb => by
   unfold putRow mapBlock
   simp only
   rw [Array.getElem?_modify, if_neg (fun e => hb e.symm)]
   rfl
  have hH := holds_putRow sv (Sort.ahead W q) g off d dn (holds_ahead sv W q g off d h5) hsz
  refine ⟨by rw [show k + 1 - k = 1 by omega], ?_, ⟨rfl, rfl, rfl, by simp [putRow, mapBlock, Sort.ahead], fun b _ hb => hoth b hb⟩⟩
  by_cases hc : cs.eraseIdx k = []
  ·exact .inl hc
  ·refine .inr ⟨off, dn.extract 0 (d.size - 1), rfl, by rw [hlen0]; simp; omega, by omega, h4, fun j hj => ?_, fun j hj => ?_⟩
   ·have hj' : j < d.size - 1 := by simp at hj; omega
    have e : (dn.extract 0 (d.size - 1))[j]! = dn[j]! := by
     rw [getElem!_pos _ j hj, getElem!_pos dn j (by omega), Array.getElem_extract]
     congr 1
     omega
    rw [e]
    exact hH j (by omega)
   ·rw [hlen0] at hj
    have e : (dn.extract 0 (d.size - 1))[j]! = dn[j]! := by
     rw [getElem!_pos _ j (by simp; omega), getElem!_pos dn j (by omega), Array.getElem_extract]
     congr 1
     omega
    rw [e, hget j (by omega), hgc j hj]
    have hidx : (if j < k then j else j + 1) < cs.length := by split <;> omega
    have := h6 _ hidx
    exact ⟨this.1, this.2.1, Kd.F_step this.2.2 (fun b hb _ => hoth b hb.1)⟩
end Go.Proofs.Ytepjhdblmghckaa.G


namespace Go.Proofs.Ytepjhdblmghckaa.G
open Go.Proofs.Ytepjhdblmghckaa.Q Go.Proofs.Ytepjhdblmghckaa.K Go.Proofs.Ytepjhdblmghckaa.Bf
open Go.RowKit Go.Shelf Go.Proofs.YtepjhdblmghckaaW.PrintWords Go.Proofs.YtepjhdblmghckaaW.PrintLast Go.Proofs.YtepjhdblmghckaaW.PrintMore
set_option linter.unusedVariables false
set_option linter.unusedSimpArgs false
abbrev Cmp := List Int × Bool
def growF (pl : List Int) : Nat → Cmp → List (List Int) → Cmp × List (List Int)
 | 0, o, cs => (o, cs)
 | k + 1, o, cs => if idxI (joinedB pl o.1) cs < 0 then (o, cs) else
   growF pl k (o.1 ++ cs.getD (idxI (joinedB pl o.1) cs).toNat [], o.2 || decide (1 < (cs.getD (idxI (joinedB pl o.1) cs).toNat []).length)) (cs.eraseIdx (idxI (joinedB pl o.1) cs).toNat)
def turnedB (pl : List Int) (x : Int) : Bool := decide (((spanOf pl x.toNat).2 - (spanOf pl x.toNat).1).tmod 2 = 0)
def cmpF (pl : List Int) : Nat → List (List Int) → List Cmp → List Cmp
 | 0, _, out => out
 | _ + 1, [], out => out
 | k + 1, c :: r, out => cmpF pl k (growF pl r.length (c, decide (1 < c.length)) r).2 (out ++ [((growF pl r.length (c, decide (1 < c.length)) r).1.1, (growF pl r.length (c, decide (1 < c.length)) r).1.2 && !(growF pl r.length (c, decide (1 < c.length)) r).1.1.any (turnedB pl))])
def cmpL (s : List Int) : List Cmp := cmpF (plL s) (circL s).length (circL s) []
structure Tot (n T : Nat) (cs : List (List Int)) : Prop where
 ne : ∀ c, c ∈ cs → 0 < c.length
 mem : ∀ c, c ∈ cs → ∀ x, x ∈ c → 0 ≤ x ∧ x ≤ (n : Int)
 sum : (cs.map List.length).sum ≤ T
theorem Tot.len {n T : Nat} {cs : List (List Int)} (h : Tot n T cs) : cs.length ≤ T := by
 have : ∀ l : List (List Int), (∀ c, c ∈ l → 0 < c.length) → l.length ≤ (l.map List.length).sum := by
  intro l
  induction l with
  | nil => intro _; simp
  | cons c l ih =>
   intro h
   have h1 := h c (by simp)
   have h2 := ih (fun x hx => h x (by simp [hx]))
   simp only [List.length_cons, List.map_cons, List.sum_cons]
   omega
 exact Nat.le_trans (this cs h.ne) h.sum
theorem sum_erase : ∀ (l : List Nat) (k : Nat) (hk : k < l.length), (l.eraseIdx k).sum + l.getD k 0 = l.sum
 | a :: l, 0, _ => by simp; omega
 | a :: l, k + 1, hk => by
  have := sum_erase l k (by simpa using hk)
  simp only [List.eraseIdx_cons_succ, List.sum_cons, List.getD_cons_succ]
  omega
theorem erase_map {α β : Type} (f : α → β) : ∀ (l : List α) (k : Nat), (l.map f).eraseIdx k = (l.eraseIdx k).map f
 | [], _ => rfl
 | a :: l, 0 => rfl
 | a :: l, k + 1 => by simp [List.eraseIdx_cons_succ, erase_map f l k]
theorem getD_mem {α : Type} {l : List α} {k : Nat} {z : α} (hk : k < l.length) : l.getD k z ∈ l := by
 rw [List.getD_eq_getElem?_getD, List.getElem?_eq_getElem hk]
 exact List.getElem_mem hk
theorem Tot.erase {n T : Nat} {cs : List (List Int)} (h : Tot n T cs) (k : Nat) (hk : k < cs.length) : Tot n (T - (cs.getD k []).length) (cs.eraseIdx k) ∧ (cs.getD k []).length ≤ T := by
 have h1 := sum_erase (cs.map List.length) k (by simpa using hk)
 have h2 := h.sum
 have e1 : (cs.map List.length).getD k 0 = (cs.getD k []).length := by
  rw [List.getD_eq_getElem?_getD, List.getD_eq_getElem?_getD, List.getElem?_map, List.getElem?_eq_getElem hk]
  rfl
 have e2 : (cs.map List.length).eraseIdx k = (cs.eraseIdx k).map List.length := erase_map ..
 rw [e1, e2] at h1
 refine ⟨⟨fun c hc => h.ne c (List.mem_of_mem_eraseIdx hc), fun c hc => h.mem c (List.mem_of_mem_eraseIdx hc), by omega⟩, by omega⟩
theorem Tot.tail {n T : Nat} {c : List Int} {cs : List (List Int)} (h : Tot n T (c :: cs)) : Tot n (T - c.length) cs ∧ c.length ≤ T := by
 have h2 := h.sum
 simp only [List.map_cons, List.sum_cons] at h2
 exact ⟨⟨fun x hx => h.ne x (by simp [hx]), fun x hx => h.mem x (by simp [hx]), by omega⟩, by omega⟩
theorem idxI_lt {α : Type} {p : α → Bool} {l : List α} (h : ¬ idxI p l < 0) : (idxI p l).toNat < l.length ∧ idxI p l = ((idxI p l).toNat : Int) := by
 unfold idxI at h ⊢
 by_cases hany : l.any p = true
 ·simp only [hany, if_true, Int.toNat_natCast] at h ⊢
  rw [List.any_eq_true] at hany
  obtain ⟨x, hx, hp⟩ := hany
  exact ⟨List.findIdx_lt_length_of_exists ⟨x, hx, hp⟩, by first | trivial | rfl⟩
 ·rw [if_neg hany] at h
  exact absurd (by decide) h
abbrev kCmp : Kd Cmp := Kd.pair (Kd.slice 3 (Kd.int .i64)) Kd.bool
theorem Rest.below {g B : Nat} {w0 w W : World} (h0 : Below B w0 w) (hB : B ≤ w.heap.size) (hg : B ≤ g) (h : Rest g w W) : Below B w0 W :=
 ⟨h.os.trans h0.os, h.tape.trans h0.tape, h.output.trans h0.output, Nat.le_trans h0.size h.size, fun k hk => (h.other k (by omega) (by omega)).trans (h0.block k hk)⟩
theorem Rest.refl (g : Nat) (w : World) : Rest g w w := ⟨rfl, rfl, rfl, Nat.le_refl _, fun _ _ _ => rfl⟩
theorem Rest.trans {g : Nat} {w W W' : World} (h : Rest g w W) (h' : Rest g W W') : Rest g w W' :=
 ⟨h'.os.trans h.os, h'.tape.trans h.tape, h'.output.trans h.output, Nat.le_trans h.size h'.size, fun k hk hg => (h'.other k (by have := h.size; omega) hg).trans (h.other k hk hg)⟩
theorem Rest.of_below {g B : Nat} {w W W' : World} (h : Rest g w W) (hB : w.heap.size ≤ B) (h' : Below B W W') : Rest g w W' :=
 ⟨h'.os.trans h.os, h'.tape.trans h.tape, h'.output.trans h.output, Nat.le_trans h.size h'.size, fun k hk hg => (h'.block k (by omega)).trans (h.other k hk hg)⟩
theorem st_func {P : Program} {w : World} (a : Addr) (m : Mode) (fn : Fn) (f c : Array Value) : (store a (.func fn f c) m).run P w = stored P w a (.func fn f c) m := run_store P w a _ m rfl
attribute [local go_sem] st_func
theorem CrI.keep' {N g : Nat} {W W' : World} {A : Option Addr} {cap : Nat} {cs : List (List Int)} (h : CrI N g W A cap cs) (hN : W.heap.size ≤ N) (hg : g < W.heap.size) (hb : ∀ k, k < W.heap.size → W'.heap[k]? = W.heap[k]?) : CrI N g W' A cap cs := by
 rcases h with h | ⟨off, d, h1, h2, h3, h4, h5, h6⟩
 ·exact .inl h
 ·exact .inr ⟨off, d, h1, h2, h3, h4, fun j hj => by rw [cell_same (hb g hg), frozen_same (hb g hg)]; exact h5 j hj, fun j hj => ⟨(h6 j hj).1, (h6 j hj).2.1, Kd.F_step (h6 j hj).2.2 (fun k _ hk => hb k hk)⟩⟩
theorem cmpF_nil (pl : List Int) (f : Nat) (out : List Cmp) : cmpF pl f [] out = out := by cases f <;> rfl
theorem growF_step {pl : List Int} {own : List Int} {bad : Bool} {cs : List (List Int)} {k p : Nat} (h : idxI (joinedB pl own) cs = (k : Int)) :
  growF pl (p + 1) (own, bad) cs = growF pl p (own ++ cs.getD k [], bad || decide (1 < (cs.getD k []).length)) (cs.eraseIdx k) := by
 rw [growF]
 simp only [h, Int.toNat_natCast]
 rw [if_neg (by omega)]
theorem growF_stop {pl : List Int} {own : List Int} {bad : Bool} {cs : List (List Int)} (h : idxI (joinedB pl own) cs < 0) (k : Nat) : growF pl k (own, bad) cs = ((own, bad), cs) := by
 cases k with
 | zero => rfl
 | succ k => rw [growF, if_pos h]
theorem info110 : (Try.prog.info? 110).map (fun i => (i.zero, i.size, i.bytes)) = some (some (.agg #[.slice none 0 0, .bool false]), 2, 32) := by kernel_rfl
structure Cm0 (w : World) (N bx bj b : Nat) (W : World) : Prop where
 below : Below w.heap.size w W
 size : N ≤ W.heap.size
 bxb : Blk W bx #[.pointer (some ⟨b, 0, none⟩)] 79
 bjb : Blk W bj #[.func (.func 88) #[] #[.pointer (some ⟨bx, 0, none⟩)]] 39
theorem Cm0.rest {w : World} {N bx bj b g : Nat} {W W' : World} (h : Cm0 w N bx bj b W) (hr : Rest g W W') (hx : bx ≠ g) (hj : bj ≠ g) (hg : w.heap.size ≤ g) : Cm0 w N bx bj b W' :=
 ⟨hr.below h.below h.below.size hg, Nat.le_trans h.size hr.size, (hr.other _ h.bxb.lt hx).trans h.bxb, (hr.other _ h.bjb.lt hj).trans h.bjb⟩
theorem pop45 (ad : Addr) (n c : Nat) (hc : n + 1 ≤ c) (W : World) :
  (Instr.slice 45 (.slice (some ad) (n + 1) c) (some (.int .i64 1)) none none).run Try.prog W = .ok (.slice (if c = 1 then some ad else some (ad.add 1)) n (c - 1)) W := by
 have he : Try.prog.elem 45 = 22 := by kernel_rfl
 have hu : Try.prog.underlying 45 = some (.slice (Try.prog.elem 45)) := by rw [he]; exact Try.underlying45
 rw [run_slice_l (P := Try.prog) W 45 (some ad) (n + 1) c hu .i64 1 (by omega) (by omega), he, Try.sizeOf22]
 have e1 : (1 : Int).toNat = 1 := rfl
 simp only [Result.andThen, sliced, e1, Option.map_some, Nat.one_mul, Nat.add_sub_cancel]
theorem cell_alloc' {w : World} {p : Addr} {v : Value} (h : w.cell? p = some v) (o : Obj) : (w.alloc o).cell? p = some v := by
 rw [((Below.refl w.heap.size w).alloc (Nat.le_refl _) o).cell (World.block_lt_of_cell? _ _ h)]
 exact h
structure Own5 (N1 g : Nat) (w W : World) (bo : Nat) (v : Value) (c : List Int) : Prop where
 blk : Blk W bo #[.slice none 0 0, .bool false] 110
 row : Kd.R (Kd.int .i64) 3 W N1 (fun j => j ≠ bo) v c
 below : Below N1 w W
 lt : N1 ≤ bo
theorem own5_a {wr w2 : World} {N1 g : Nat} {v : Value} {c : List Int} (hN : wr.heap.size = N1) (hv : Kd.R (Kd.int .i64) 3 w2 wr.drew.heap.size (fun _ => True) v c) (hb : Below wr.drew.heap.size wr.drew w2) :
  Own5 N1 g wr (w2.alloc (.cells #[.slice none 0 0, .bool false] 110)) w2.heap.size v c := by
 have e : wr.drew.heap.size = wr.heap.size := rfl
 have h1 : wr.heap.size ≤ w2.heap.size := hb.size
 rw [e, hN] at hv hb
 exact ⟨Blk.new _ _ _, Kd.R_alloc (Kd.R_mono (Kd.R_bound hv) (fun k hk => by have := hk.2.2.1; omega)) _, (((Below.refl N1 wr).drew).trans hb).alloc (by omega) _, by omega⟩
theorem own5_b {wr w2 : World} {N1 g : Nat} {v : Value} {c : List Int} (hN : wr.heap.size = N1) (hv : Kd.R (Kd.int .i64) 3 w2 (wr.alloc (.cells #[.slice none 0 0, .bool false] 110)).drew.heap.size (fun _ => True) v c) (hb : Below (wr.alloc (.cells #[.slice none 0 0, .bool false] 110)).drew.heap.size (wr.alloc (.cells #[.slice none 0 0, .bool false] 110)).drew w2) :
  Own5 N1 g wr w2 wr.heap.size v c := by
 have e : (wr.alloc (.cells #[.slice none 0 0, .bool false] 110)).drew.heap.size = N1 + 1 := by show (wr.alloc _).heap.size = _; rw [World.size_alloc, hN]
 rw [e] at hv hb
 have hx : Blk (wr.alloc (.cells #[.slice none 0 0, .bool false] 110)).drew wr.heap.size #[.slice none 0 0, .bool false] 110 := (Blk.new wr _ _).drew
 refine ⟨hx.below hb (by omega), Kd.R_lower (Kd.R_mono (Kd.R_bound hv) (fun k hk => by have := hk.2.1; omega)) (Nat.le_succ _), ?_, by omega⟩
 exact ((((Below.refl N1 wr).alloc (by omega) _).drew).trans (hb.mono (Nat.le_succ _)))
set_option maxRecDepth 100000 in
set_option maxHeartbeats 8000000 in
theorem components_calls (b base : Nat) (s : List Int) (hs : s.length ≤ 40) (hm : ∀ x, x ∈ s → x ≠ 0 ∧ -(s.length : Int) ≤ x ∧ x ≤ s.length) (w : World) (hP : PicOk base b s w) (T : Nat) (hT : T ≤ 100000) (hTot : Tot s.length T (circL s)) (hne : circL s ≠ []) :
  Calls Try.prog 78 #[.pointer (some ⟨b, 0, none⟩)] w fun e w' => ∃ v, e = .returned v ∧ Kd.R kCmp 110 w' w.heap.size (fun _ => True) v (cmpL s) ∧ Below w.heap.size w w' := by
 have HP := Aside0.mk hP
 have HTot := Aside0.mk hTot
 have HNE := Aside0.mk hne
 have HML := Aside0.mk hm
 have HCM := Aside0.mk (show cmpL s = cmpF (plL s) (circL s).length (circL s) [] from rfl)
 obtain ⟨R0, hR0⟩ : ∃ R0, cmpL s = R0 := ⟨_, rfl⟩
 rw [hR0] at HCM ⊢
 obtain ⟨Wa, hWa⟩ : ∃ Wa, w.alloc (.cells #[.pointer (some ⟨b, 0, none⟩)] 79) = Wa := ⟨_, rfl⟩
 have hBa : Below w.heap.size w Wa := by rw [← hWa]; exact (Below.refl _ w).alloc (Nat.le_refl _) _
 have hXa : Blk Wa w.heap.size #[.pointer (some ⟨b, 0, none⟩)] 79 := by rw [← hWa]; exact Blk.new _ _ _
 have hx0 := hXa.cell 0 (v := .pointer (some ⟨b, 0, none⟩)) rfl
 have HBA := Aside0.mk hBa
 have HXA := Aside0.mk hXa
 have hsa : Wa.heap.size = w.heap.size + 1 := by rw [← hWa]; simp
 have HSA := Aside0.mk hsa
 clear hBa hXa hP hTot hne hm hR0 hsa
 go_enter Try.func78, Try.ntmps78
 go_upto_region 1 with fail
 try rw [hWa]
 clear hWa
 go_wp2_with (go_at_call 62; refine stopper ?_)
 try unfold Hold
 refine (circles_calls b base s hs HML.out Wa (HP.out.below HBA.out)).mono ?_
 rintro e w1 ⟨v1, rfl, hv1, hb1⟩
 obtain ⟨cs0, hcs0⟩ : ∃ cs0, circL s = cs0 := ⟨_, rfl⟩
 rw [hcs0] at HCM HTot HNE hv1
 obtain ⟨g, cap0, rfl, hCr, hg1, hg2⟩ := CrI.of_R (N := w1.heap.size + 1) (Kd.S_R hv1) (Nat.le_succ _) HNE.out
 have HCr := Aside0.mk hCr
 have HB1 := Aside0.mk hb1
 have HG := Aside0.mk (And.intro hg1 hg2)
 obtain ⟨n0, hn0⟩ : ∃ n0, cs0.length = n0 := ⟨_, rfl⟩
 have HN0 := Aside0.mk hn0
 rw [hn0]
 clear hcs0 hv1 hb1 hCr hg1 hg2 hn0 hx0
 go_wp2_with fail
 obtain ⟨W0, hW0⟩ : ∃ W0, w1.alloc (.cells #[.func (.func 88) #[] #[.pointer (some ⟨w.heap.size, 0, none⟩)]] 39) = W0 := ⟨_, rfl⟩
 obtain ⟨bx, hbx⟩ : ∃ bx, w.heap.size = bx := ⟨_, rfl⟩
 obtain ⟨bj, hbj⟩ : ∃ bj, w1.heap.size = bj := ⟨_, rfl⟩
 have hs0 : W0.heap.size = bj + 1 := by rw [← hW0, ← hbj]; simp
 have hb0 : Below bj w1 W0 := by rw [← hW0, ← hbj]; exact (Below.refl _ w1).alloc (Nat.le_refl _) _
 have hj0 : Blk W0 bj #[.func (.func 88) #[] #[.pointer (some ⟨bx, 0, none⟩)]] 39 := by
  rw [← hW0, ← hbx, ← hbj]
  exact Blk.new w1 _ 39
 have HBJ := Aside0.mk hbj
 have HBX := Aside0.mk hbx
 have HLT := Aside0.mk (show bx < bj ∧ bx < g ∧ g < bj by have := HG.out; have := HSA.out; have := HB1.out.size; omega)
 have HIN := Aside0.mk (show Cm0 w (bj + 1) bx bj b W0 from ⟨(HBA.out.trans (HB1.out.mono HBA.out.size)).trans (hb0.mono (by have := HLT.out; omega)), by omega, by rw [← HBX.out]; exact (HXA.out.below HB1.out (by have := HSA.out; omega)).below hb0 (by have := HLT.out; have := HBX.out; omega), hj0⟩)
 have HCR0 := Aside0.mk (show CrI (bj + 1) g W0 (some ⟨g, 0, none⟩) cap0 cs0 from by
  have h1 : CrI (bj + 1) g w1 (some ⟨g, 0, none⟩) cap0 cs0 := by rw [← hbj]; exact HCr.out
  refine CrI.keep' h1 (by have := HBJ.out; omega) HG.out.2 (fun k hk => hb0.block k (by have := HBJ.out; omega)))
 have HS0 := Aside0.mk hs0
 try rw [hW0]
 try rw [hbx]
 try rw [hbj]
 clear hW0 hbx hbj hs0 hb0 hj0
 go_loopw [3, 5] (fun cv ov wr => ∃ (cs : List (List Int)) (n : Nat) (A : Option Addr) (cap : Nat) (out : List Cmp), cv = .slice A n cap ∧ Aside0 (cs.length = n) ∧ Aside0 (CrI (bj + 1) g wr A cap cs) ∧ Aside0 (Kd.R kCmp 110 wr (bj + 1) (fun j => bj + 1 ≤ j) ov out) ∧ Aside0 (Cm0 w (bj + 1) bx bj b wr) ∧ Aside0 (∃ f, n ≤ f ∧ cmpF (plL s) f cs out = R0) ∧ Aside0 (Tot s.length T cs) ∧ Aside0 (out.length + n ≤ T)) (fun cv _ _ => sliceLen cv)
 case atStart => exact ⟨cs0, n0, _, cap0, [], rfl, HN0, HCR0, ⟨Kd.R_nil _ _ _ _ _⟩, HIN, ⟨n0, Nat.le_refl _, by rw [HCM.out, HN0.out]⟩, HTot, ⟨by have := HTot.out.len; have := HN0.out; simp; omega⟩⟩
 case round =>
  obtain ⟨cs, n, A, cap, out, rfl, HN, HCR, HO, HC0, HR, HTT, HOL⟩ := hrel
  by_cases hn : n = 0
  ·subst hn
   go_wp2
   go_ret
   refine ⟨_, rfl, ?_, HC0.out.below⟩
   have hcs : cs = [] := List.eq_nil_of_length_eq_zero HN.out
   obtain ⟨f, _, h1⟩ := HR.out
   rw [hcs, cmpF_nil] at h1
   rw [← h1]
   exact Kd.R_mono (Kd.R_lower HO.out (by have := HLT.out; have := HBX.out; omega)) (fun _ _ => trivial)
  ·obtain ⟨m, rfl⟩ := Nat.exists_eq_succ_of_ne_zero hn
   obtain ⟨c, r, rfl⟩ : ∃ c r, cs = c :: r := by
    cases cs with
    | nil => exact absurd HN.out (by simp)
    | cons c r => exact ⟨c, r, rfl⟩
   obtain ⟨off, A', c', rfl, hhd, hl, hF⟩ := HCR.out.at 0 (by simp)
   rw [Nat.add_zero] at hhd
   simp only [List.getD_cons_zero] at hhd hl hF
   have hcne := HTT.out.ne c (by simp)
   have HCL := Aside0.mk (fun (W : World) (hW : Below wr.heap.size wr W) => slices_Clone_int_int.calls A' c' c c W (Kd.C_below (Kd.F_now hF) hW) hl (by unfold slices_Clone_int_int.f; rw [if_pos ⟨hcne, by have := HTT.out.tail.2; omega⟩]))
   have HF := Aside0.mk hF
   obtain ⟨cn, hcn⟩ : ∃ cn, c.length = cn := ⟨_, rfl⟩
   have HCN := Aside0.mk hcn
   rw [hcn] at hhd HCL hl
   obtain ⟨N1, hN1⟩ : ∃ N1, wr.heap.size = N1 := ⟨_, rfl⟩
   have HN1 := Aside0.mk hN1
   clear hF hcne hcn hN1 hn
   have hi0 : (0 : Int) < (m : Int) + 1 := by omega
   go_upto_region 5 with fail
   apply wp_scope_straight
   apply wp_seq_k
   intro _ _
   refine start_ (n := 12) (S := fun w' => w'.cell? ⟨g, off, none⟩ = some (.slice A' cn c')) (ds := [11]) #[false, false, false, false, false, false, false, false, false, false, false, false] (by kernel_rfl) rfl rfl hhd (fun hHeld => ?_)
   refine pure_ (i := 0) (N := (some 17)) (v := ?_) (a' := ?_) #[true, false, false, false, false, false, false, false, false, false, false, false] rfl rfl (by kernel_rfl) (fun _ _ _ h => h) (Or.inl ⟨by rfl, ?_⟩) ?_ ?_
   rotate_left
   ·intro w'
    go_simp
    with_reducible rfl
   rotate_left
   ·simp only [Act.put, List.setIfInBounds_toArray, List.set_cons_zero, List.set_cons_succ]
    rfl
   refine pure_ (i := 1) (N := (some 18)) (v := ?_) (a' := ?_) #[true, true, false, false, false, false, false, false, false, false, false, false] rfl rfl (by kernel_rfl) (fun _ _ _ h => h) (Or.inl ⟨by rfl, ?_⟩) ?_ ?_
   rotate_left
   ·intro w'
    go_simp
    with_reducible rfl
   rotate_left
   ·simp only [Act.put, List.setIfInBounds_toArray, List.set_cons_zero, List.set_cons_succ]
    rfl
   refine take_ (i := 2) (N := (some 19)) (v := ?_) (a' := ?_) #[true, true, true, false, false, false, false, false, false, false, false, false] rfl rfl (by kernel_rfl) (fun _ _ _ h => h) (Or.inl ⟨by rfl, ?_⟩) hHeld ?_ ?_
   rotate_left
   ·rintro w' s0
    go_simp
    with_reducible rfl
   rotate_left
   ·simp only [Act.put, List.setIfInBounds_toArray, List.set_cons_zero, List.set_cons_succ]
    rfl
   refine pure_ (i := 4) (N := (some 21)) (v := ?_) (a' := ?_) #[true, true, true, false, true, false, false, false, false, false, false, false] rfl rfl (by kernel_rfl) (fun _ _ _ h => h) (Or.inl ⟨by rfl, ?_⟩) ?_ ?_
   rotate_left
   ·intro w'
    go_simp
    with_reducible rfl
   rotate_left
   ·simp only [Act.put, List.setIfInBounds_toArray, List.set_cons_zero, List.set_cons_succ]
    rfl
   refine pure_ (i := 5) (N := (some 22)) (v := ?_) (a' := ?_) #[true, true, true, false, true, true, false, false, false, false, false, false] rfl rfl (by kernel_rfl) (fun _ _ _ h => h) (Or.inl ⟨by rfl, ?_⟩) ?_ ?_
   rotate_left
   ·intro w'
    go_simp
    with_reducible rfl
   rotate_left
   ·simp only [Act.put, List.setIfInBounds_toArray, List.set_cons_zero, List.set_cons_succ]
    rfl
   refine take_ (i := 6) (N := (some 23)) (v := ?_) (a' := ?_) #[true, true, true, false, true, true, true, false, false, false, false, false] rfl rfl (by kernel_rfl) (fun _ _ _ h => h) (Or.inl ⟨by rfl, ?_⟩) hHeld ?_ ?_
   rotate_left
   ·rintro w' s0
    go_simp
    with_reducible rfl
   rotate_left
   ·simp only [Act.put, List.setIfInBounds_toArray, List.set_cons_zero, List.set_cons_succ]
    rfl
   refine pure_ (i := 7) (N := (some 24)) (v := ?_) (a' := ?_) #[true, true, true, false, true, true, true, true, false, false, false, false] rfl rfl (by kernel_rfl) (fun _ _ _ h => h) (Or.inl ⟨by rfl, ?_⟩) ?_ ?_
   rotate_left
   ·intro w'
    go_simp
    with_reducible rfl
   rotate_left
   ·simp only [Act.put, List.setIfInBounds_toArray, List.set_cons_zero, List.set_cons_succ]
    rfl
   refine pure_ (i := 8) (N := (some 25)) (v := ?_) (a' := ?_) #[true, true, true, false, true, true, true, true, true, false, false, false] rfl rfl (by kernel_rfl) (fun _ _ _ h => h) (Or.inl ⟨by rfl, ?_⟩) ?_ ?_
   rotate_left
   ·intro w'
    go_simp
    with_reducible rfl
   rotate_left
   ·simp only [Act.put, List.setIfInBounds_toArray, List.set_cons_zero, List.set_cons_succ]
    rfl
   refine join_ (σ := (Option Addr × Nat) × Nat) 1 #[true, true, true, true, true, true, true, true, true, true, true, false] (fun s => [(20, .slice s.1.1 cn s.1.2), (26, .agg #[.slice s.1.1 cn s.1.2, .bool (decide ((1 : Int) < (cn : Int)))]), (6, .pointer (some ⟨s.2, 0, none⟩))]) (fun s w' => Own5 N1 g wr w' s.2 (.slice s.1.1 cn s.1.2) c) ?_ ?_
   rotate_left
   ·intro hcont
    refine two_ (i := 3) (j := 10) (Ni := (some 20)) (Nj := (some 6)) #[true, true, true, true, true, true, true, true, true, false, false, false] #[true, true, true, false, true, true, true, true, true, false, true, false] rfl rfl rfl rfl (by kernel_rfl) (by decide) (by decide) (fun K hK => ?_) (fun K hK => ?_)
    ·skip
     refine goes_ Try.func74 (by kernel_rfl) rfl #[.slice A' cn c'] (by rfl) rfl rfl (by (try simp only [List.map_toArray, List.map_cons, List.map_nil]); first | done | rfl) ?_
     refine (HCL.out wr.drew ((Below.refl _ _).drew)).mono ?_
     rintro e w2 ⟨v2, rfl, hv2, hb2⟩
     obtain ⟨Av, cv, ev⟩ := Kd.R_slice hv2
     rw [HCN.out] at ev
     subst ev
     refine ⟨_, rfl, ?_⟩
     refine hK.out _ _ (by rw [hb2.cell (World.block_lt_of_cell? _ _ hHeld)]; exact hHeld) (fun hHeld => ?_)
     have HV2 := Aside0.mk hv2
     have HB2 := Aside0.mk hb2
     clear hv2 hb2 hK K
     refine norm_ (a' := ?_) ?_ ?_
     rotate_left
     ·show Act.put _ (some 20) _ = _
      simp only [Act.put, List.setIfInBounds_toArray, List.set_cons_zero, List.set_cons_succ]
      rfl
     refine pure_ (i := 9) (N := (some 26)) (v := ?_) (a' := ?_) #[true, true, true, true, true, true, true, true, true, true, false, false] rfl rfl (by kernel_rfl) (fun _ _ _ h => h) (Or.inl ⟨by rfl, ?_⟩) ?_ ?_
     rotate_left
     ·intro w'
      go_simp
      with_reducible rfl
     rotate_left
     ·simp only [Act.put, List.setIfInBounds_toArray, List.set_cons_zero, List.set_cons_succ]
      rfl
     refine one_ (i := 10) (N := (some 6)) #[true, true, true, true, true, true, true, true, true, true, true, false] rfl rfl (by kernel_rfl) (by decide) (fun K hK => ?_)
     rw [if_pos (by rfl)]
     have HK := Aside0.mk hK.out
     clear hK
     unfold Oper.wp
     go_simp
     refine HK.out _ _ (cell_alloc' hHeld _) (fun hHeld => ?_)
     exact hcont ((Av, cv), w2.heap.size) _ (own5_a HN1.out HV2.out HB2.out)
    ·skip
     rw [if_pos (by rfl)]
     have HK := Aside0.mk hK.out
     clear hK
     unfold Oper.wp
     go_simp
     refine HK.out _ _ (cell_alloc' hHeld _) (fun hHeld => ?_)
     clear HK K
     refine one_ (i := 3) (N := (some 20)) #[true, true, true, true, true, true, true, true, true, false, true, false] rfl rfl (by kernel_rfl) (by decide) (fun K hK => ?_)
     refine goes_ Try.func74 (by kernel_rfl) rfl #[.slice A' cn c'] (by rfl) rfl rfl (by (try simp only [List.map_toArray, List.map_cons, List.map_nil]); first | done | rfl) ?_
     refine (HCL.out (wr.alloc (.cells #[.slice none 0 0, .bool false] 110)).drew (((Below.refl _ _).alloc (Nat.le_refl _) _).drew)).mono ?_
     rintro e w2 ⟨v2, rfl, hv2, hb2⟩
     obtain ⟨Av, cv, ev⟩ := Kd.R_slice hv2
     rw [HCN.out] at ev
     subst ev
     refine ⟨_, rfl, ?_⟩
     refine hK.out _ _ (by rw [hb2.cell (World.block_lt_of_cell? _ _ hHeld)]; exact hHeld) (fun hHeld => ?_)
     have HV2 := Aside0.mk hv2
     have HB2 := Aside0.mk hb2
     clear hv2 hb2 hK K
     refine norm_ (a' := ?_) ?_ ?_
     rotate_left
     ·show Act.put _ (some 20) _ = _
      simp only [Act.put, List.setIfInBounds_toArray, List.set_cons_zero, List.set_cons_succ]
      rfl
     refine pure_ (i := 9) (N := (some 26)) (v := ?_) (a' := ?_) #[true, true, true, true, true, true, true, true, true, true, true, false] rfl rfl (by kernel_rfl) (fun _ _ _ h => h) (Or.inl ⟨by rfl, ?_⟩) ?_ ?_
     rotate_left
     ·intro w'
      go_simp
      with_reducible rfl
     rotate_left
     ·simp only [Act.put, List.setIfInBounds_toArray, List.set_cons_zero, List.set_cons_succ]
      rfl
     exact hcont ((Av, cv), wr.heap.size) w2 (own5_b HN1.out HV2.out HB2.out)
   rintro ⟨⟨Av, cv⟩, bo⟩ w5 hF5
   have HF5 := Aside0.mk hF5
   have f0 := hF5.blk.cell 0 (v := .slice none 0 0) rfl
   have f1 := hF5.blk.cell 1 (v := .bool false) rfl
   have g0 := hF5.blk.free 0
   have g1 := hF5.blk.free 1
   clear hF5
   refine norm_ (a' := ?_) ?_ ?_
   rotate_left
   ·simp only [putAll, Act.put, List.setIfInBounds_toArray, List.set_cons_zero, List.set_cons_succ]
    rfl
   refine last_ (i := 11) (N := none) #[true, true, true, true, true, true, true, true, true, true, true, true] rfl rfl (by kernel_rfl) (by decide) (fun K hK => ?_)
   rw [if_pos (by rfl)]
   have HK := Aside0.mk hK.out
   clear hK
   unfold Oper.wp
   go_simp
   refine HK.out _ _ ?_
   clear HK K
   refine done_ (by kernel_rfl) ?_
   obtain ⟨q, hq⟩ : ∃ q, decide ((1 : Int) < (cn : Int)) = q := ⟨_, rfl⟩
   rw [hq]
   have HQ := Aside0.mk hq
   obtain ⟨W6, hW6⟩ : ∃ W6, (w5.setCell ⟨bo, 0, none⟩ (.slice Av cn cv)).setCell ⟨bo, 1, none⟩ (.bool q) = W6 := ⟨_, rfl⟩
   have HBK := Aside0.mk (show Blk W6 bo #[.slice Av cn cv, .bool q] 110 by rw [← hW6]; exact (HF5.out.blk.set 0 _).set 1 _)
   have HRW := Aside0.mk (show Kd.R (Kd.int .i64) 3 W6 N1 (fun j => j ≠ bo) (.slice Av cn cv) c by rw [← hW6]; exact Kd.R_far (Kd.R_far HF5.out.row (fun k hk => hk) _) (fun k hk => hk) _)
   have HBW := Aside0.mk (show Below N1 wr W6 by rw [← hW6]; exact (HF5.out.below.setCell HF5.out.lt _).setCell HF5.out.lt _)
   have HNN := Aside0.mk (show bj + 1 ≤ N1 by have := HC0.out.size; have := HN1.out; omega)
   have HBO := Aside0.mk HF5.out.lt
   have HCT := Aside0.mk (CrI.tail (HCR.out.keep (by have := HLT.out; omega) (fun k hk => HBW.out.block k (by have := HNN.out; omega))))
   have HRS := Aside0.mk (show Rest g wr W6 from ⟨HBW.out.os, HBW.out.tape, HBW.out.output, HBW.out.size, fun k hk _ => HBW.out.block k (by have := HN1.out; omega)⟩)
   try rw [hW6]
   have hpop := fun W => pop45 ⟨g, off, none⟩ m cap (by
    rcases HCR.out with h | ⟨_, _, _, _, h, _⟩
    ·cases h
    ·have := HN.out; simp only [List.length_cons] at h this; omega) W
   rw [Addr.add_lit] at hpop
   obtain ⟨A2, hA2⟩ : ∃ A2, (if cap = 1 then some (⟨g, off, none⟩ : Addr) else some ⟨g, off + 1, none⟩) = A2 := ⟨_, rfl⟩
   rw [hA2] at hpop HCT
   clear hq hW6 f0 f1 g0 g1 hHeld hhd hl HF5 hA2
   go_wp2
   go_step3
   go_wp2
   obtain ⟨wo, hwo⟩ : ∃ z, z = wr := ⟨_, rfl⟩
   subst hwo
   obtain ⟨G0, hG0⟩ : ∃ G0, growF (plL s) m (c, q) r = G0 := ⟨_, rfl⟩
   have HG0 := Aside0.mk hG0
   have HTL := Aside0.mk HTT.out.tail
   have HCM2 := Aside0.mk (HTT.out.mem c (by simp))
   clear hG0
   go_loopw [3] (fun cv2 wi => ∃ (cs2 : List (List Int)) (n2 : Nat) (A3 : Option Addr) (cap2 : Nat) (own : List Int) (ow : Option Addr) (oc : Nat) (bad : Bool), cv2 = .slice A3 n2 cap2 ∧ Aside0 (cs2.length = n2 ∧ n2 ≤ m) ∧ Aside0 (CrI (bj + 1) g wi A3 cap2 cs2) ∧ Aside0 (Blk wi bo #[.slice ow own.length oc, .bool bad] 110) ∧ Aside0 (Kd.R (Kd.int .i64) 3 wi N1 (fun j => j ≠ bo) (.slice ow own.length oc) own) ∧ Aside0 (Rest g wo wi) ∧ Aside0 (growF (plL s) n2 (own, bad) cs2 = G0) ∧ Aside0 (Tot s.length (T - own.length) cs2) ∧ Aside0 (own.length ≤ T ∧ ∀ x, x ∈ own → 0 ≤ x ∧ x ≤ (s.length : Int))) (fun cv2 _ => sliceLen cv2)
   case atStart => exact ⟨r, m, A2, _, c, Av, cv, q, rfl, ⟨by have := HN.out; simpa using this, Nat.le_refl _⟩, HCT, ⟨by rw [HCN.out]; exact HBK.out⟩, ⟨by rw [HCN.out]; exact HRW.out⟩, HRS, HG0, ⟨HTL.out.1⟩, ⟨HTL.out.2, HCM2.out⟩⟩
   case round =>
    obtain ⟨cs2, n2, A3, cap2, own, ow, oc, bad, rfl, HN2, HCR2, HBO2, HOW, HRE, HGR, HT2, HOM⟩ := hrel
    have HC2 := Aside0.mk (HC0.out.rest HRE.out (by have := HLT.out; omega) (by have := HLT.out; omega) (by have := HLT.out; have := HBX.out; omega))
    have HIX := Aside0.mk (idx94_calls 95 #[.pointer (some ⟨bj, 0, none⟩), .pointer (some ⟨bo, 0, none⟩)] (enters_of Try.func95 (by kernel_rfl) rfl) (joinedB (plL s) own) A3 cap2 cs2 wr HCR2.out.C (by have := HT2.out.len; omega) (fun x hx W A4 c4 hbw hx1 hx2 => c95_calls b base bx bj bo s hs W (HP.out.below (HC2.out.below.trans (hbw.mono HC2.out.below.size))) (blk_below HC2.out.bxb hbw) (blk_below HC2.out.bjb hbw) ow A4 oc c4 own x bad (blk_below HBO2.out hbw) (Kd.C_below (Kd.R_reads' HOW.out).2.2 hbw) hx2 (by have := HOM.out.1; omega) (by
     have h1 := HT2.out.sum
     have h2 : ∀ (l : List (List Int)), x ∈ l → x.length ≤ (l.map List.length).sum := fun l => by
      induction l with
      | nil => intro h; cases h
      | cons a l ih =>
       intro h
       simp only [List.map_cons, List.sum_cons]
       rcases List.mem_cons.1 h with rfl | h
       ·omega
       ·have := ih h; omega
     have := h2 cs2 hx
     omega) HOM.out.2 (HT2.out.mem x hx)))
    rw [HN2.out.1] at HIX
    obtain ⟨ix, hix⟩ : ∃ ix, idxI (joinedB (plL s) own) cs2 = ix := ⟨_, rfl⟩
    rw [hix] at HIX
    have HIX2 := Aside0.mk hix
    clear hix
    go_wp2_with (go_at_call 94; refine stopper ?_)
    try unfold Hold
    refine HIX.out.mono ?_
    rintro e w2 ⟨rfl, hb2⟩
    have HB2 := Aside0.mk hb2
    clear hb2
    by_cases hlt : ix < 0
    ·have HGS := Aside0.mk (show G0 = ((own, bad), cs2) by rw [← HGR.out]; exact growF_stop (by rw [HIX2.out]; exact hlt) n2)
     have hbk := blk_below HBO2.out HB2.out
     have HCR3 := Aside0.mk (HCR2.out.keep (W' := w2) (by have := HLT.out; omega) (fun j hj => HB2.out.block j (by have := HC2.out.size; omega)))
     have HRE3 := Aside0.mk (HRE.out.of_below HRE.out.size HB2.out)
     have HOW3 := Aside0.mk (Kd.R_below HOW.out HB2.out)
     have HC3 := Aside0.mk (HC2.out.rest (Rest.of_below (Rest.refl g wr) (Nat.le_refl _) HB2.out) (by have := HLT.out; omega) (by have := HLT.out; omega) (by have := HLT.out; have := HBX.out; omega))
     obtain ⟨on, hon⟩ : ∃ on, own.length = on := ⟨_, rfl⟩
     rw [hon] at hbk HOW3
     have HON := Aside0.mk hon
     have HBK3 := Aside0.mk hbk
     have o0 := hbk.cell 0 (v := .slice ow on oc) rfl
     have HT0 := Aside0.mk (show (bad && !((own.take 0).any (turnedB (plL s)))) = bad by simp)
     have HON2 := Aside0.mk (show on ≤ T by have := HOM.out.1; omega)
     have HPR := Aside0.mk (plL_range s)
     clear hbk hon
     obtain ⟨wi0, hwi0⟩ : ∃ z, z = wr := ⟨_, rfl⟩
     subst hwi0
     go_wp2
     go_loopw [61] (fun jv wj => ∃ j : Nat, j ≤ on ∧ jv = .int .i64 (j : Int) ∧ Aside0 (Blk wj bo #[.slice ow on oc, .bool (bad && !((own.take j).any (turnedB (plL s))))] 110) ∧ Aside0 (Rest bo w2 wj)) (fun jv _ => on - (intOf jv).toNat)
     case atStart => exact ⟨0, Nat.zero_le _, rfl, ⟨by rw [HT0.out]; exact HBK3.out⟩, ⟨Rest.refl _ _⟩⟩
     case round =>
      obtain ⟨j, hj, rfl, HBJ2, HRJ⟩ := hrel
      by_cases hjl : j < on
      ·have hj0 : (0 : Int) ≤ (j : Int) := by omega
       have hj1 : (j : Int) < (on : Int) := by omega
       have HOJ := Aside0.mk (Kd.R_step HOW3.out (fun k hk hl => HRJ.out.other k hl hk))
       obtain ⟨ad, e1, hc1⟩ := Kd.at_int (Kd.R_reads' HOJ.out).2.2 (j : Int) hj0 (by have := HON.out; omega)
       rw [rd_nth, Int.toNat_natCast] at hc1
       have hmem : nth own j ∈ own := getD_mem (by rw [HON.out]; exact hjl)
       have hx := HOM.out.2 _ hmem
       have HTS := Aside0.mk (show (own.take (j + 1)).any (turnedB (plL s)) = ((own.take j).any (turnedB (plL s)) || turnedB (plL s) (nth own j)) by
        rw [List.take_succ_eq_append_getElem (by rw [HON.out]; exact hjl), List.any_append, List.any_cons, List.any_nil, Bool.or_false]
        congr 2
        have h1 : j < own.length := by rw [HON.out]; exact hjl
        simp [nth, h1])
       obtain ⟨xv, hxv⟩ : ∃ xv, nth own j = xv := ⟨_, rfl⟩
       rw [hxv] at hc1 hx HTS
       obtain ⟨xl, rfl⟩ := Int.eq_ofNat_of_zero_le hx.1
       have hxl : xl ≤ s.length := by omega
       have hwt : IntKind.i64.wrap ((j : Int) + 1) = ((j + 1 : Nat) : Int) := by rw [iw64 (by omega) (by have := HON2.out; omega)]; omega
       have HBW2 := Aside0.mk (show Below w.heap.size w wr from HRJ.out.below HC3.out.below HC3.out.below.size (by have := HBO.out; have := HNN.out; have := HLT.out; have := HBX.out; omega))
       have HSP := Aside0.mk (span_calls b base s hs xl hxl wr (HP.out.below HBW2.out))
       have hsr1 := HPR.out (2 * xl)
       have hsr2 := HPR.out (2 * xl + 1)
       have hsp1 : 0 ≤ (spanOf (plL s) xl).2 - (spanOf (plL s) xl).1 ∧ (spanOf (plL s) xl).2 - (spanOf (plL s) xl).1 ≤ 100 := by
        unfold spanOf
        simp only
        omega
       have HTB := Aside0.mk (show turnedB (plL s) ((xl : Nat) : Int) = decide (((spanOf (plL s) xl).2 - (spanOf (plL s) xl).1).tmod 2 = 0) by unfold turnedB; rw [Int.toNat_natCast])
       obtain ⟨a1, ha1⟩ : ∃ a1, (spanOf (plL s) xl).1 = a1 := ⟨_, rfl⟩
       obtain ⟨a2, ha2⟩ : ∃ a2, (spanOf (plL s) xl).2 = a2 := ⟨_, rfl⟩
       rw [ha1, ha2] at HSP hsp1 HTB
       have hws : IntKind.i64.wrap (a2 - a1) = a2 - a1 := iw64 (by omega) (by omega)
       have hbx0 := (show Blk wr bx #[.pointer (some ⟨b, 0, none⟩)] 79 from (HRJ.out.other bx HC3.out.bxb.lt (by have := HBO.out; have := HNN.out; have := HLT.out; omega)).trans HC3.out.bxb).cell 0 (v := .pointer (some ⟨b, 0, none⟩)) rfl
       subst e1
       clear hmem hx hxv hsr1 hsr2 ha1 ha2 hxl
       have hwm : IntKind.i64.wrap ((a2 - a1).tmod 2) = (a2 - a1).tmod 2 := by
        have : 0 ≤ (a2 - a1).tmod 2 ∧ (a2 - a1).tmod 2 < 2 := ⟨Int.tmod_nonneg _ hsp1.1, Int.tmod_lt_of_pos _ (by omega)⟩
        exact iw64 (by omega) (by omega)
       go_wp2_with (go_at_call 92; refine stopper ?_)
       try unfold Hold
       refine HSP.out.mono ?_
       rintro e w3 ⟨rfl, hb3⟩
       obtain ⟨W4, hW4⟩ : ∃ W4, w3.alloc (.cells #[.int .i64 a1, .int .i64 a2] 124) = W4 := ⟨_, rfl⟩
       have hb4 : Below wr.heap.size wr W4 := by rw [← hW4]; exact hb3.alloc hb3.size _
       have hbk4 := blk_below HBJ2.out hb4
       have o1 := hbk4.cell 1 (v := .bool (bad && !((own.take j).any (turnedB (plL s))))) rfl
       have p1 := hbk4.free 1
       have hn4 : Blk W4 w3.heap.size #[.int .i64 a1, .int .i64 a2] 124 := by rw [← hW4]; exact Blk.new _ _ _
       have q0 := hn4.cell 0 (v := .int .i64 a1) rfl
       have q1 := hn4.cell 1 (v := .int .i64 a2) rfl
       have HBK5 := Aside0.mk hbk4
       have HRJ4 := Aside0.mk (HRJ.out.of_below HRJ.out.size hb4)
       clear hbk4 hb3 hb4 hn4
       go_upto_region 16 with fail
       try rw [hW4]
       clear hW4
       have hmod : (a2 - a1).tmod 2 = (a2 - a1) % 2 := Int.tmod_eq_emod_of_nonneg hsp1.1
       rw [hmod] at HTB
       clear hmod
       obtain ⟨tb, htb⟩ : ∃ tb, ((a2 - a1) % 2 == 0) = tb := ⟨_, rfl⟩
       have HTE := Aside0.mk (show turnedB (plL s) ((xl : Nat) : Int) = tb by rw [HTB.out, ← htb]; rfl)
       cases tb
       ·go_wp2
        go_roundw
        case rel => exact ⟨j + 1, by omega, rfl, ⟨by rw [HTS.out, HTE.out, Bool.or_false]; exact HBK5.out⟩, HRJ4⟩
        case measure => simp [intOf]; omega
       ·skip
        go_wp2
        go_roundw
        case rel => exact ⟨j + 1, by omega, rfl, ⟨by rw [HTS.out, HTE.out, Bool.or_true, Bool.not_true, Bool.and_false]; exact HBK5.out.set 1 _⟩, ⟨HRJ4.out.os, HRJ4.out.tape, HRJ4.out.output, by simpa [World.setCell] using HRJ4.out.size, fun k hk hkb => (Below.heap_setCell _ _ _ _ hkb).trans (HRJ4.out.other k hk hkb)⟩⟩
        case measure => simp [intOf]; omega
      ·have hj1 : ¬ (j : Int) < (on : Int) := by omega
       have HJ := Aside0.mk (show j = on by omega)
       have hOJ := Kd.R_step HOW3.out (fun k hk hl => HRJ.out.other k hl hk)
       have hBK := HBJ2.out
       rw [HJ.out, List.take_of_length_le (by have := HON.out; omega)] at hBK
       obtain ⟨bd, hbd⟩ : ∃ bd, (bad && !(own.any (turnedB (plL s)))) = bd := ⟨_, rfl⟩
       rw [hbd] at hBK
       have HBD := Aside0.mk hbd
       have o0 := hBK.cell 0 (v := .slice ow on oc) rfl
       have o1 := hBK.cell 1 (v := .bool bd) rfl
       have HBKJ := Aside0.mk hBK
       have HOJ := Aside0.mk hOJ
       have hrb := Kd.R_base hOJ
       have HRB := Aside0.mk hrb
       have HUL := Aside0.mk (Kd.R_lt HO.out)
       have HBB := Aside0.mk (show bj + 1 ≤ N1 ∧ N1 ≤ bo ∧ g < bj + 1 ∧ wo.heap.size = N1 ∧ N1 ≤ wr.heap.size from ⟨HNN.out, HBO.out, by have := HLT.out; omega, HN1.out, by have := HRJ.out.size; have := HRE3.out.size; have := HN1.out; omega⟩)
       have HOO := Aside0.mk (show Kd.R kCmp 110 wr (bj + 1) (fun j => bj + 1 ≤ j) u5 out from Kd.R_step HO.out (fun k hk hl => by
        have h1 := HBB.out
        exact (HRJ.out.other k (by have := HRE3.out.size; omega) (by omega)).trans (HRE3.out.other k hl (by omega))))
       clear hOJ hBK hbd hrb
       go_wp2_with ((with_reducible refine gate_builtin (b := .append) (xs := #[.tmp 77, .tmp 79]) rfl ?_); at_builtin; refine stopper ?_)
       try unfold Hold
       refine Kd.R_append kCmp (w0 := wr) (bj + 1) rfl (.tmp 77) (.tmp 79) 106 110 (.agg #[.slice none 0 0, .bool false]) 32 rfl Try.underlying106 info110 rfl (by decide) (by decide) u5 out (own, bd) [.slice ow on oc, .bool bd] (fun j => bj + 1 ≤ j) (fun k => some k = (Value.slice ow on oc).ownBlock) rfl rfl ⟨[.slice ow on oc], [.bool bd], rfl, ⟨_, rfl, Kd.R_of_own (Kd.own_of_R (Kd.R_lower HOJ.out HBB.out.1)) (fun k hk => hk.symm)⟩, rfl⟩ (fun k hk => ⟨by have := HRB.out k hk.symm;have := HBB.out;omega, fun e => by have h1 := HRB.out k hk.symm;have h2 := HUL.out k e.symm;have h3 := HBB.out;omega⟩) (fun k hk => by have := HBB.out;omega) HOO.out (Below.refl _ _) (by have := HBB.out;omega) (by have := HOL.out;omega) ?_
       intro v1 wy ho hb hg hat
       have HHO := Aside0.mk ho
       have HHB := Aside0.mk hb
       clear ho hb hg hat o0 o1
       go_wp2
       rw [Exit.noGoto_normal]
       go_wp2
       go_roundw
       case rel =>
        have hkeep : ∀ k, k < bj + 1 → wy.heap[k]? = w2.heap[k]? := fun k hk => (HHB.out.block k hk).trans (HRJ.out.other k (by have := HBB.out; have := HRE3.out.size; omega) (by have := HBB.out; omega))
        obtain ⟨f, hf1, hf2⟩ := HR.out
        have hG : growF (plL s) r.length (c, decide (1 < c.length)) r = ((own, bad), cs2) := by
         have hrl : r.length = m := by have := HN.out; simpa using this
         have hq2 : decide (1 < c.length) = q := by rw [← HQ.out, HCN.out]; exact decide_eq_decide.2 (by omega)
         rw [hrl, hq2, HG0.out, HGS.out]
        obtain ⟨f', rfl⟩ : ∃ f', f = f' + 1 := ⟨f - 1, by omega⟩
        rw [cmpF, hG] at hf2
        simp only at hf2
        rw [HBD.out] at hf2
        have hbel : Below w.heap.size w wr := HRJ.out.below HC3.out.below HC3.out.below.size (by have := HBB.out; have := HLT.out; have := HBX.out; omega)
        refine ⟨cs2, n2, A3, cap2, out ++ [(own, bd)], rfl, ⟨HN2.out.1⟩, ⟨HCR3.out.keep (by have := HBB.out; omega) hkeep⟩, HHO, ⟨⟨hbel.trans (HHB.out.mono (by have := HLT.out; have := HBX.out; omega)), by have := HBB.out; have := HHB.out.size; omega, (hkeep _ (by have := HLT.out; omega)).trans HC3.out.bxb, (hkeep _ (by omega)).trans HC3.out.bjb⟩⟩, ⟨f', by have := HN2.out.2; omega, hf2⟩, ⟨⟨HT2.out.ne, HT2.out.mem, by have := HT2.out.sum; omega⟩⟩, ⟨by have := HOL.out; have := HN2.out.2; rw [List.length_append, List.length_singleton]; omega⟩⟩
       case measure =>
        simp [sliceLen]
        have := HN2.out.2
        omega
    ·have HK0 := Aside0.mk (idxI_lt (p := joinedB (plL s) own) (l := cs2) (by rw [HIX2.out]; exact hlt))
     obtain ⟨k, rfl⟩ := Int.eq_ofNat_of_zero_le (show 0 ≤ ix by omega)
     have hkl : k < n2 := by
      have h1 := HK0.out.1
      rw [HIX2.out, Int.toNat_natCast, HN2.out.1] at h1
      exact h1
     have HCR3 := Aside0.mk (HCR2.out.keep (W' := w2) (by have := HLT.out; omega) (fun j hj => HB2.out.block j (by have := HC2.out.size; omega)))
     obtain ⟨off3, Ax, cx, rfl, hck, hlk, hFk⟩ := HCR3.out.at k (by rw [HN2.out.1]; exact hkl)
     have hbk := blk_below HBO2.out HB2.out
     have o0 := hbk.cell 0 (v := .slice ow own.length oc) rfl
     have o1 := hbk.cell 1 (v := .bool bad) rfl
     have p1 := hbk.free 1
     have HBK3 := Aside0.mk hbk
     have HFK := Aside0.mk hFk
     have HLK := Aside0.mk hlk
     obtain ⟨x, hx⟩ : ∃ x, cs2.getD k [] = x := ⟨_, rfl⟩
     rw [hx] at hck HFK HLK
     have HX := Aside0.mk hx
     obtain ⟨xn, hxn⟩ : ∃ xn, x.length = xn := ⟨_, rfl⟩
     rw [hxn] at hck
     have HXN := Aside0.mk hxn
     obtain ⟨on, hon⟩ : ∃ on, own.length = on := ⟨_, rfl⟩
     rw [hon] at o0
     have HON := Aside0.mk hon
     have hk0 : (0 : Int) ≤ (k : Int) := by omega
     have hk1 : (k : Int) < (n2 : Int) := by omega
     have hkw : IntKind.i64.wrap ((k : Int) + 1) = ((k + 1 : Nat) : Int) := by rw [iw64 (by omega) (by have := HN2.out; have := HT2.out.len; omega)]; omega
     have HNL := Aside0.mk (show on ≤ T ∧ xn ≤ T ∧ (cs2.length ≤ T) by
      refine ⟨by have := HOM.out.1; omega, ?_, by have := HT2.out.len; omega⟩
      have h1 := (HT2.out.erase k (by rw [HN2.out.1]; exact hkl)).2
      rw [hx, hxn] at h1
      omega)
     clear hbk hFk hlk hx hxn hon hlt
     cases bad
     ·skip
      go_upto_region 10 with fail
      obtain ⟨W3, hW3⟩ : ∃ W3, w2.setCell ⟨bo, 1, none⟩ (.bool (decide ((1 : Int) < (xn : Int)))) = W3 := ⟨_, rfl⟩
      have hne : bo ≠ g := by have := HBO.out; have := HLT.out; have := HNN.out; omega
      have HNE := Aside0.mk hne
      have HBK4 := Aside0.mk (show Blk W3 bo #[.slice ow on oc, .bool (decide ((1 : Int) < (xn : Int)))] 110 by rw [← hW3, ← HON.out]; exact HBK3.out.set 1 _)
      have hck3 : W3.cell? ⟨g, off3 + k, none⟩ = some (.slice Ax xn cx) := by rw [← hW3]; exact (cell_same (Below.heap_setCell _ _ _ _ (Ne.symm hne))).trans hck
      have o03 := HBK4.out.cell 0 (v := .slice ow on oc) rfl
      have HOW4 := Aside0.mk (show Kd.R (Kd.int .i64) 3 W3 N1 (fun j => j ≠ bo) (.slice ow on oc) own by rw [← hW3, ← HON.out]; exact Kd.R_far (Kd.R_below HOW.out HB2.out) (fun k hk => hk) _)
      have HFK4 := Aside0.mk (show Kd.F (Kd.int .i64) W3 (fun k => k ≠ g ∧ k < bj + 1) Ax x.length x by rw [← hW3]; exact Kd.F_far HFK.out (fun k hk => by have := hk.2; have := HNN.out; have := HBO.out; simp only; omega) _)
      have HRE4 := Aside0.mk (show Rest g wo W3 by
       have h1 := HRE.out.of_below HRE.out.size HB2.out
       rw [← hW3]
       exact ⟨h1.os, h1.tape, h1.output, by simpa [World.setCell] using h1.size, fun j hj hg => (Below.heap_setCell _ _ _ _ (by have := HBO.out; have := HN1.out; simp only; omega)).trans (h1.other j hj hg)⟩)
      have HCR4 := Aside0.mk (HCR3.out.keep (W' := W3) (by have := HLT.out; omega) (fun j hj => by rw [← hW3]; exact Below.heap_setCell _ _ _ _ (by have := HBO.out; have := HNN.out; simp only; omega)))
      try rw [hW3]
      clear hW3 hck o0 o1 p1 hne
      refine start_ (n := 9) (S := fun w' => w'.cell? ⟨bo, 0, none⟩ = some (.slice ow on oc) ∧ w'.cell? ⟨g, off3 + k, none⟩ = some (.slice Ax xn cx)) (ds := [8]) #[false, false, false, false, false, false, false, false, false] (by kernel_rfl) rfl rfl ⟨o03, hck3⟩ (fun hHeld => ?_)
      refine pure_ (i := 0) (N := (some 45)) (v := ?_) (a' := ?_) #[true, false, false, false, false, false, false, false, false] rfl rfl (by kernel_rfl) (fun _ _ _ h => h) (Or.inl ⟨by rfl, ?_⟩) ?_ ?_
      rotate_left
      ·intro w'
       go_simp
       with_reducible rfl
      rotate_left
      ·simp only [Act.put, List.setIfInBounds_toArray, List.set_cons_zero, List.set_cons_succ]
       rfl
      refine take_ (i := 1) (N := (some 46)) (v := ?_) (a' := ?_) #[true, true, false, false, false, false, false, false, false] rfl rfl (by kernel_rfl) (fun _ _ _ h => h) (Or.inl ⟨by rfl, ?_⟩) hHeld ?_ ?_
      rotate_left
      ·rintro w' ⟨s0, s1⟩
       go_simp
       with_reducible rfl
      rotate_left
      ·simp only [Act.put, List.setIfInBounds_toArray, List.set_cons_zero, List.set_cons_succ]
       rfl
      refine pure_ (i := 2) (N := (some 47)) (v := ?_) (a' := ?_) #[true, true, true, false, false, false, false, false, false] rfl rfl (by kernel_rfl) (fun _ _ _ h => h) (Or.inl ⟨by rfl, ?_⟩) ?_ ?_
      rotate_left
      ·intro w'
       go_simp
       with_reducible rfl
      rotate_left
      ·simp only [Act.put, List.setIfInBounds_toArray, List.set_cons_zero, List.set_cons_succ]
       rfl
      refine pure_ (i := 3) (N := (some 48)) (v := ?_) (a' := ?_) #[true, true, true, true, false, false, false, false, false] rfl rfl (by kernel_rfl) (fun _ _ _ h => h) (Or.inl ⟨by rfl, ?_⟩) ?_ ?_
      rotate_left
      ·intro w'
       go_simp
       with_reducible rfl
      rotate_left
      ·simp only [Act.put, List.setIfInBounds_toArray, List.set_cons_zero, List.set_cons_succ]
       rfl
      refine pure_ (i := 4) (N := (some 49)) (v := ?_) (a' := ?_) #[true, true, true, true, true, false, false, false, false] rfl rfl (by kernel_rfl) (fun _ _ _ h => h) (Or.inl ⟨by rfl, ?_⟩) ?_ ?_
      rotate_left
      ·intro w'
       go_simp
       with_reducible rfl
      rotate_left
      ·simp only [Act.put, List.setIfInBounds_toArray, List.set_cons_zero, List.set_cons_succ]
       rfl
      refine take_ (i := 5) (N := (some 50)) (v := ?_) (a' := ?_) #[true, true, true, true, true, true, false, false, false] rfl rfl (by kernel_rfl) (fun _ _ _ h => h) (Or.inl ⟨by rfl, ?_⟩) hHeld ?_ ?_
      rotate_left
      ·rintro w' ⟨s0, s1⟩
       go_simp
       with_reducible rfl
      rotate_left
      ·simp only [Act.put, List.setIfInBounds_toArray, List.set_cons_zero, List.set_cons_succ]
       rfl
      refine one_ (i := 6) (N := (some 51)) #[true, true, true, true, true, true, true, false, false] rfl rfl (by kernel_rfl) (by decide) (fun K hK => ?_)
      refine Kd.R_append_rows_step (Kd.int .i64) (Rr := fun x cs => (Kd.int .i64).K W3.drew x cs) (w0 := W3.drew) N1 (by rfl) (.tmp 46) (.tmp 50) 22 3 (.int .i64 0) 8 rfl Try.underlying22 info3 rfl (by decide) (by decide) (.slice ow on oc) own x Ax xn cx (fun j => j ≠ bo) (fun _ => False) rfl rfl (Kd.R_drew HOW4.out) (by rw [← HXN.out];exact Kd.C_drew (Kd.F_now HFK4.out)) (fun x cs h => h) (fun _ h => h.elim) (fun k hk => by have := HBK4.out.lt;have e : W3.drew.heap.size = W3.heap.size := rfl;omega) (Below.refl _ _) (by have := HRE4.out.size;have := HN1.out;have e : W3.drew.heap.size = W3.heap.size := rfl;omega) (by have := HNL.out;have := HON.out;omega) ?_
      intro v1 w4 ho hb hg hat
      obtain ⟨Av1, cv1, ev⟩ := Kd.R_slice ho
      subst ev
      have hnb : (Value.slice ow on oc).ownBlock ≠ some bo := fun e => HOW4.out.1 _ e rfl
      have hb4 : Blk w4 bo #[.slice ow on oc, .bool (decide ((1 : Int) < (xn : Int)))] 110 := HBK4.out.drew.grown hg hnb
      have HB4 := Aside0.mk hb4
      have HO4 := Aside0.mk ho
      have HBE4 := Aside0.mk (show Below N1 W3 w4 from ⟨hb.os, hb.tape, hb.output, hb.size, hb.block⟩)
      have hgk : w4.heap[g]? = W3.heap[g]? := hb.block g (by have := HLT.out; have := HNN.out; omega)
      refine hK.out _ _ ⟨hb4.cell 0 rfl, (cell_same hgk).trans hck3⟩ (fun hHeld => ?_)
      have o04 := hb4.cell 0 (v := .slice ow on oc) rfl
      have p04 := hb4.free 0
      obtain ⟨ln, hln⟩ : ∃ ln, (own ++ x).length = ln := ⟨_, rfl⟩
      rw [hln]
      have HLN := Aside0.mk hln
      rw [hln] at HO4
      clear hK K ho hb hg hat hnb hb4 hgk hck3 o03 hln hHeld
      refine norm_ (a' := ?_) ?_ ?_
      rotate_left
      ·show Act.put _ (some 51) _ = _
       simp only [Act.put, List.setIfInBounds_toArray, List.set_cons_zero, List.set_cons_succ]
       rfl
      refine pure_ (i := 7) (N := (some 52)) (v := ?_) (a' := ?_) #[true, true, true, true, true, true, true, true, false] rfl rfl (by kernel_rfl) (fun _ _ _ h => h) (Or.inl ⟨by rfl, ?_⟩) ?_ ?_
      rotate_left
      ·intro w'
       go_simp
       with_reducible rfl
      rotate_left
      ·simp only [Act.put, List.setIfInBounds_toArray, List.set_cons_zero, List.set_cons_succ]
       rfl
      refine last_ (i := 8) (N := none) #[true, true, true, true, true, true, true, true, true] rfl rfl (by kernel_rfl) (by decide) (fun K hK => ?_)
      rw [if_pos (by rfl)]
      have HK := Aside0.mk hK.out
      clear hK
      unfold Oper.wp
      go_simp
      refine HK.out _ _ ?_
      clear HK K
      refine done_ (by kernel_rfl) ?_
      obtain ⟨W5, hW5⟩ : ∃ W5, w4.setCell ⟨bo, 0, none⟩ (.slice Av1 ln cv1) = W5 := ⟨_, rfl⟩
      have HBK5 := Aside0.mk (show Blk W5 bo #[.slice Av1 ln cv1, .bool (decide ((1 : Int) < (xn : Int)))] 110 by rw [← hW5]; exact HB4.out.set 0 _)
      have HOW5 := Aside0.mk (show Kd.R (Kd.int .i64) 3 W5 N1 (fun j => j ≠ bo) (.slice Av1 ln cv1) (own ++ x) by rw [← hW5]; exact Kd.R_far HO4.out (fun k hk => hk) _)
      have hk5 : ∀ j, j < N1 → W5.heap[j]? = W3.heap[j]? := fun j hj => by rw [← hW5]; exact (Below.heap_setCell _ _ _ _ (by have := HBO.out; simp only; omega)).trans (HBE4.out.block j hj)
      have HRE5 := Aside0.mk (show Rest g wo W5 from ⟨by rw [← hW5]; exact HBE4.out.os.trans HRE4.out.os, by rw [← hW5]; exact HBE4.out.tape.trans HRE4.out.tape, by rw [← hW5]; exact HBE4.out.output.trans HRE4.out.output, by rw [← hW5]; simpa [World.setCell] using Nat.le_trans HRE4.out.size HBE4.out.size, fun j hj hg => (hk5 j (by have := HN1.out; omega)).trans (HRE4.out.other j hj hg)⟩)
      have HCR5 := Aside0.mk (HCR4.out.keep (W' := W5) (by have := HLT.out; omega) (fun j hj => hk5 j (by have := HNN.out; omega)))
      have HDEL := Aside0.mk (HCR5.out.del k (by rw [HN2.out.1]; exact hkl))
      rw [HN2.out.1] at HDEL
      try rw [hW5]
      clear hW5 o04 p04 hk5
      go_wp2_with (go_at_call 96; refine stopper ?_)
      try unfold Hold
      refine HDEL.out.mono ?_
      rintro e w6 ⟨rfl, hcr6, hre6⟩
      have HCR6 := Aside0.mk hcr6
      have HRE6 := Aside0.mk hre6
      clear hcr6 hre6
      go_wp2
      go_roundw
      case rel =>
       have herase := HT2.out.erase k (by rw [HN2.out.1]; exact hkl)
       rw [HX.out, HXN.out] at herase
       have hxm := HT2.out.mem _ (getD_mem (z := []) (show k < cs2.length by rw [HN2.out.1]; exact hkl))
       rw [HX.out] at hxm
       have hlen : (own ++ x).length = on + xn := by rw [List.length_append, HON.out, HXN.out]
       have hbo6 : w6.heap[bo]? = W5.heap[bo]? := HRE6.out.other bo HBK5.out.lt HNE.out
       refine ⟨cs2.eraseIdx k, n2 - 1, _, cap2, own ++ x, Av1, cv1, (decide ((1 : Int) < (xn : Int))), rfl, ⟨by rw [List.length_eraseIdx_of_lt (by rw [HN2.out.1];exact hkl), HN2.out.1], by have := HN2.out.2;omega⟩, HCR6, ⟨by rw [HLN.out];exact hbo6.trans HBK5.out⟩, ⟨by rw [HLN.out];exact Kd.R_step (Kd.R_mono (ok' := fun j => j ≠ bo ∧ j ≠ g) (Kd.R_bound HOW5.out) (fun j hj => ⟨hj.1, by have := hj.2.1;have := HNN.out;have := HLT.out;omega⟩)) (fun j hj hl => HRE6.out.other j hl hj.2) |> fun h => Kd.R_mono h (fun j hj => hj.1)⟩, ⟨HRE5.out.trans HRE6.out⟩, ⟨?_⟩, ⟨by rw [hlen, ← Nat.sub_sub, ← HON.out];exact herase.1⟩, ⟨by rw [hlen];have := HOM.out.1;have := HON.out;have := herase.2;omega, fun y hy => by
        rcases List.mem_append.1 hy with hy | hy
        ·exact HOM.out.2 y hy
        ·exact hxm y hy⟩⟩
       have h := growF_step (bad := false) (p := n2 - 1) HIX2.out
       rw [HX.out, HXN.out, show n2 - 1 + 1 = n2 by omega, HGR.out] at h
       rw [h]
       congr 2
       first | done | (rw [Bool.false_or]; exact decide_eq_decide.2 (by omega)) | rfl
      case measure =>
       simp [sliceLen]
       omega
     ·skip
      go_upto_region 10 with fail
      obtain ⟨W3, hW3⟩ : ∃ W3, w2.setCell ⟨bo, 1, none⟩ (.bool true) = W3 := ⟨_, rfl⟩
      have hne : bo ≠ g := by have := HBO.out; have := HLT.out; have := HNN.out; omega
      have HNE := Aside0.mk hne
      have HBK4 := Aside0.mk (show Blk W3 bo #[.slice ow on oc, .bool true] 110 by rw [← hW3, ← HON.out]; exact HBK3.out.set 1 _)
      have hck3 : W3.cell? ⟨g, off3 + k, none⟩ = some (.slice Ax xn cx) := by rw [← hW3]; exact (cell_same (Below.heap_setCell _ _ _ _ (Ne.symm hne))).trans hck
      have o03 := HBK4.out.cell 0 (v := .slice ow on oc) rfl
      have HOW4 := Aside0.mk (show Kd.R (Kd.int .i64) 3 W3 N1 (fun j => j ≠ bo) (.slice ow on oc) own by rw [← hW3, ← HON.out]; exact Kd.R_far (Kd.R_below HOW.out HB2.out) (fun k hk => hk) _)
      have HFK4 := Aside0.mk (show Kd.F (Kd.int .i64) W3 (fun k => k ≠ g ∧ k < bj + 1) Ax x.length x by rw [← hW3]; exact Kd.F_far HFK.out (fun k hk => by have := hk.2; have := HNN.out; have := HBO.out; simp only; omega) _)
      have HRE4 := Aside0.mk (show Rest g wo W3 by
       have h1 := HRE.out.of_below HRE.out.size HB2.out
       rw [← hW3]
       exact ⟨h1.os, h1.tape, h1.output, by simpa [World.setCell] using h1.size, fun j hj hg => (Below.heap_setCell _ _ _ _ (by have := HBO.out; have := HN1.out; simp only; omega)).trans (h1.other j hj hg)⟩)
      have HCR4 := Aside0.mk (HCR3.out.keep (W' := W3) (by have := HLT.out; omega) (fun j hj => by rw [← hW3]; exact Below.heap_setCell _ _ _ _ (by have := HBO.out; have := HNN.out; simp only; omega)))
      try rw [hW3]
      clear hW3 hck o0 o1 p1 hne
      refine start_ (n := 9) (S := fun w' => w'.cell? ⟨bo, 0, none⟩ = some (.slice ow on oc) ∧ w'.cell? ⟨g, off3 + k, none⟩ = some (.slice Ax xn cx)) (ds := [8]) #[false, false, false, false, false, false, false, false, false] (by kernel_rfl) rfl rfl ⟨o03, hck3⟩ (fun hHeld => ?_)
      refine pure_ (i := 0) (N := (some 45)) (v := ?_) (a' := ?_) #[true, false, false, false, false, false, false, false, false] rfl rfl (by kernel_rfl) (fun _ _ _ h => h) (Or.inl ⟨by rfl, ?_⟩) ?_ ?_
      rotate_left
      ·intro w'
       go_simp
       with_reducible rfl
      rotate_left
      ·simp only [Act.put, List.setIfInBounds_toArray, List.set_cons_zero, List.set_cons_succ]
       rfl
      refine take_ (i := 1) (N := (some 46)) (v := ?_) (a' := ?_) #[true, true, false, false, false, false, false, false, false] rfl rfl (by kernel_rfl) (fun _ _ _ h => h) (Or.inl ⟨by rfl, ?_⟩) hHeld ?_ ?_
      rotate_left
      ·rintro w' ⟨s0, s1⟩
       go_simp
       with_reducible rfl
      rotate_left
      ·simp only [Act.put, List.setIfInBounds_toArray, List.set_cons_zero, List.set_cons_succ]
       rfl
      refine pure_ (i := 2) (N := (some 47)) (v := ?_) (a' := ?_) #[true, true, true, false, false, false, false, false, false] rfl rfl (by kernel_rfl) (fun _ _ _ h => h) (Or.inl ⟨by rfl, ?_⟩) ?_ ?_
      rotate_left
      ·intro w'
       go_simp
       with_reducible rfl
      rotate_left
      ·simp only [Act.put, List.setIfInBounds_toArray, List.set_cons_zero, List.set_cons_succ]
       rfl
      refine pure_ (i := 3) (N := (some 48)) (v := ?_) (a' := ?_) #[true, true, true, true, false, false, false, false, false] rfl rfl (by kernel_rfl) (fun _ _ _ h => h) (Or.inl ⟨by rfl, ?_⟩) ?_ ?_
      rotate_left
      ·intro w'
       go_simp
       with_reducible rfl
      rotate_left
      ·simp only [Act.put, List.setIfInBounds_toArray, List.set_cons_zero, List.set_cons_succ]
       rfl
      refine pure_ (i := 4) (N := (some 49)) (v := ?_) (a' := ?_) #[true, true, true, true, true, false, false, false, false] rfl rfl (by kernel_rfl) (fun _ _ _ h => h) (Or.inl ⟨by rfl, ?_⟩) ?_ ?_
      rotate_left
      ·intro w'
       go_simp
       with_reducible rfl
      rotate_left
      ·simp only [Act.put, List.setIfInBounds_toArray, List.set_cons_zero, List.set_cons_succ]
       rfl
      refine take_ (i := 5) (N := (some 50)) (v := ?_) (a' := ?_) #[true, true, true, true, true, true, false, false, false] rfl rfl (by kernel_rfl) (fun _ _ _ h => h) (Or.inl ⟨by rfl, ?_⟩) hHeld ?_ ?_
      rotate_left
      ·rintro w' ⟨s0, s1⟩
       go_simp
       with_reducible rfl
      rotate_left
      ·simp only [Act.put, List.setIfInBounds_toArray, List.set_cons_zero, List.set_cons_succ]
       rfl
      refine one_ (i := 6) (N := (some 51)) #[true, true, true, true, true, true, true, false, false] rfl rfl (by kernel_rfl) (by decide) (fun K hK => ?_)
      refine Kd.R_append_rows_step (Kd.int .i64) (Rr := fun x cs => (Kd.int .i64).K W3.drew x cs) (w0 := W3.drew) N1 (by rfl) (.tmp 46) (.tmp 50) 22 3 (.int .i64 0) 8 rfl Try.underlying22 info3 rfl (by decide) (by decide) (.slice ow on oc) own x Ax xn cx (fun j => j ≠ bo) (fun _ => False) rfl rfl (Kd.R_drew HOW4.out) (by rw [← HXN.out];exact Kd.C_drew (Kd.F_now HFK4.out)) (fun x cs h => h) (fun _ h => h.elim) (fun k hk => by have := HBK4.out.lt;have e : W3.drew.heap.size = W3.heap.size := rfl;omega) (Below.refl _ _) (by have := HRE4.out.size;have := HN1.out;have e : W3.drew.heap.size = W3.heap.size := rfl;omega) (by have := HNL.out;have := HON.out;omega) ?_
      intro v1 w4 ho hb hg hat
      obtain ⟨Av1, cv1, ev⟩ := Kd.R_slice ho
      subst ev
      have hnb : (Value.slice ow on oc).ownBlock ≠ some bo := fun e => HOW4.out.1 _ e rfl
      have hb4 : Blk w4 bo #[.slice ow on oc, .bool true] 110 := HBK4.out.drew.grown hg hnb
      have HB4 := Aside0.mk hb4
      have HO4 := Aside0.mk ho
      have HBE4 := Aside0.mk (show Below N1 W3 w4 from ⟨hb.os, hb.tape, hb.output, hb.size, hb.block⟩)
      have hgk : w4.heap[g]? = W3.heap[g]? := hb.block g (by have := HLT.out; have := HNN.out; omega)
      refine hK.out _ _ ⟨hb4.cell 0 rfl, (cell_same hgk).trans hck3⟩ (fun hHeld => ?_)
      have o04 := hb4.cell 0 (v := .slice ow on oc) rfl
      have p04 := hb4.free 0
      obtain ⟨ln, hln⟩ : ∃ ln, (own ++ x).length = ln := ⟨_, rfl⟩
      rw [hln]
      have HLN := Aside0.mk hln
      rw [hln] at HO4
      clear hK K ho hb hg hat hnb hb4 hgk hck3 o03 hln hHeld
      refine norm_ (a' := ?_) ?_ ?_
      rotate_left
      ·show Act.put _ (some 51) _ = _
       simp only [Act.put, List.setIfInBounds_toArray, List.set_cons_zero, List.set_cons_succ]
       rfl
      refine pure_ (i := 7) (N := (some 52)) (v := ?_) (a' := ?_) #[true, true, true, true, true, true, true, true, false] rfl rfl (by kernel_rfl) (fun _ _ _ h => h) (Or.inl ⟨by rfl, ?_⟩) ?_ ?_
      rotate_left
      ·intro w'
       go_simp
       with_reducible rfl
      rotate_left
      ·simp only [Act.put, List.setIfInBounds_toArray, List.set_cons_zero, List.set_cons_succ]
       rfl
      refine last_ (i := 8) (N := none) #[true, true, true, true, true, true, true, true, true] rfl rfl (by kernel_rfl) (by decide) (fun K hK => ?_)
      rw [if_pos (by rfl)]
      have HK := Aside0.mk hK.out
      clear hK
      unfold Oper.wp
      go_simp
      refine HK.out _ _ ?_
      clear HK K
      refine done_ (by kernel_rfl) ?_
      obtain ⟨W5, hW5⟩ : ∃ W5, w4.setCell ⟨bo, 0, none⟩ (.slice Av1 ln cv1) = W5 := ⟨_, rfl⟩
      have HBK5 := Aside0.mk (show Blk W5 bo #[.slice Av1 ln cv1, .bool true] 110 by rw [← hW5]; exact HB4.out.set 0 _)
      have HOW5 := Aside0.mk (show Kd.R (Kd.int .i64) 3 W5 N1 (fun j => j ≠ bo) (.slice Av1 ln cv1) (own ++ x) by rw [← hW5]; exact Kd.R_far HO4.out (fun k hk => hk) _)
      have hk5 : ∀ j, j < N1 → W5.heap[j]? = W3.heap[j]? := fun j hj => by rw [← hW5]; exact (Below.heap_setCell _ _ _ _ (by have := HBO.out; simp only; omega)).trans (HBE4.out.block j hj)
      have HRE5 := Aside0.mk (show Rest g wo W5 from ⟨by rw [← hW5]; exact HBE4.out.os.trans HRE4.out.os, by rw [← hW5]; exact HBE4.out.tape.trans HRE4.out.tape, by rw [← hW5]; exact HBE4.out.output.trans HRE4.out.output, by rw [← hW5]; simpa [World.setCell] using Nat.le_trans HRE4.out.size HBE4.out.size, fun j hj hg => (hk5 j (by have := HN1.out; omega)).trans (HRE4.out.other j hj hg)⟩)
      have HCR5 := Aside0.mk (HCR4.out.keep (W' := W5) (by have := HLT.out; omega) (fun j hj => hk5 j (by have := HNN.out; omega)))
      have HDEL := Aside0.mk (HCR5.out.del k (by rw [HN2.out.1]; exact hkl))
      rw [HN2.out.1] at HDEL
      try rw [hW5]
      clear hW5 o04 p04 hk5
      go_wp2_with (go_at_call 96; refine stopper ?_)
      try unfold Hold
      refine HDEL.out.mono ?_
      rintro e w6 ⟨rfl, hcr6, hre6⟩
      have HCR6 := Aside0.mk hcr6
      have HRE6 := Aside0.mk hre6
      clear hcr6 hre6
      go_wp2
      go_roundw
      case rel =>
       have herase := HT2.out.erase k (by rw [HN2.out.1]; exact hkl)
       rw [HX.out, HXN.out] at herase
       have hxm := HT2.out.mem _ (getD_mem (z := []) (show k < cs2.length by rw [HN2.out.1]; exact hkl))
       rw [HX.out] at hxm
       have hlen : (own ++ x).length = on + xn := by rw [List.length_append, HON.out, HXN.out]
       have hbo6 : w6.heap[bo]? = W5.heap[bo]? := HRE6.out.other bo HBK5.out.lt HNE.out
       refine ⟨cs2.eraseIdx k, n2 - 1, _, cap2, own ++ x, Av1, cv1, true, rfl, ⟨by rw [List.length_eraseIdx_of_lt (by rw [HN2.out.1];exact hkl), HN2.out.1], by have := HN2.out.2;omega⟩, HCR6, ⟨by rw [HLN.out];exact hbo6.trans HBK5.out⟩, ⟨by rw [HLN.out];exact Kd.R_step (Kd.R_mono (ok' := fun j => j ≠ bo ∧ j ≠ g) (Kd.R_bound HOW5.out) (fun j hj => ⟨hj.1, by have := hj.2.1;have := HNN.out;have := HLT.out;omega⟩)) (fun j hj hl => HRE6.out.other j hl hj.2) |> fun h => Kd.R_mono h (fun j hj => hj.1)⟩, ⟨HRE5.out.trans HRE6.out⟩, ⟨?_⟩, ⟨by rw [hlen, ← Nat.sub_sub, ← HON.out];exact herase.1⟩, ⟨by rw [hlen];have := HOM.out.1;have := HON.out;have := herase.2;omega, fun y hy => by
        rcases List.mem_append.1 hy with hy | hy
        ·exact HOM.out.2 y hy
        ·exact hxm y hy⟩⟩
       have h := growF_step (bad := true) (p := n2 - 1) HIX2.out
       rw [HX.out, HXN.out, show n2 - 1 + 1 = n2 by omega, HGR.out] at h
       rw [h]
       congr 2
       first | done | (rw [Bool.false_or]; exact decide_eq_decide.2 (by omega)) | rfl
      case measure =>
       simp [sliceLen]
       omega
end Go.Proofs.Ytepjhdblmghckaa.G


namespace Go.Proofs.Ytepjhdblmghckaa.G
open Go.Proofs.Ytepjhdblmghckaa.Q Go.Proofs.Ytepjhdblmghckaa.K Go.Proofs.Ytepjhdblmghckaa.Bf
open Go.RowKit Go.Shelf Go.Proofs.YtepjhdblmghckaaW.PrintWords Go.Proofs.YtepjhdblmghckaaW.PrintLast Go.Proofs.YtepjhdblmghckaaW.PrintMore
set_option linter.unusedVariables false
abbrev Im := Int → Option Int
def Im.put (M : Im) (x v : Int) : Im := fun y => if y = x then some v else M y
theorem law3 : Go.Maps.Keyed Try.prog 3 := Go.Maps.int_keyed Try.underlying3
theorem u129 : Try.prog.underlying 129 = some (.map 3 3) := by kernel_rfl
def Sm (x : Int) : Prop := -1000000000 ≤ x ∧ x ≤ 1000000000
theorem Sm.wf {x : Int} (h : Sm x) : (Lit.int .i64 x).wf = true := by
 have e1 : IntKind.i64.min = -9223372036854775808 := by decide
 have e2 : IntKind.i64.max = 9223372036854775807 := by decide
 obtain ⟨h1, h2⟩ := h
 simp only [Lit.wf, e1, e2, Bool.and_eq_true, decide_eq_true_eq]
 omega
theorem Sm.key {x : Int} (h : Sm x) : keyOf Try.prog 3 (.int .i64 x) = some (.int .i64 x) := Go.Maps.keyOf_int_mk Try.underlying3 h.wf
def Wi (W : World) (b k : Nat) (M : Im) : Prop :=
 ∃ D : DataW Unit, W.ownsMap Try.prog 3 (plainElem Try.prog 3) b k D ∧ Go.Maps.IsMap D ∧
  ∀ x, Sm x → Go.Maps.has D (.int .i64 x) = (M x).isSome ∧ D.atKey (.int .i64 x) (.lit (.int .i64 0)) = .lit (.int .i64 ((M x).getD 0))
theorem Wi.made (W : World) : Wi (W.alloc (.map #[] 0)) W.heap.size 0 (fun _ => none) := by
 refine ⟨.map [], World.ownsMap_made W Try.prog 3 _, Go.Maps.isMap_empty, fun l hl => ⟨rfl, ?_⟩⟩
 rw [Go.Maps.atKey_of_not_has (by rfl)]
 rfl
theorem Wi.lt {W : World} {b k : Nat} {M : Im} (h : Wi W b k M) : b < W.heap.size := by
 obtain ⟨D, h1, _⟩ := h; exact h1.lt
theorem Wi.mapsTo {W W' : World} {b k : Nat} {M : Im} (h : Wi W b k M) (hb : W'.heap[b]? = W.heap[b]?) : Wi W' b k M := by
 obtain ⟨D, ⟨es, clock, h1, h2⟩, h3⟩ := h
 exact ⟨D, ⟨es, clock, hb.trans h1, h2⟩, h3⟩
theorem Wi.below {W W' : World} {b k : Nat} {M : Im} (h : Wi W b k M) (hb : Below W.heap.size W W') : Wi W' b k M := h.mapsTo (hb.block b h.lt)
theorem Wi.mono {W : World} {b k k' : Nat} {M : Im} (h : Wi W b k M) (hk : k ≤ k') : Wi W b k' M := by
 obtain ⟨D, h1, h2⟩ := h; exact ⟨D, h1.mono hk, h2⟩
theorem Wi.look_ok {W : World} {b k : Nat} {M : Im} (h : Wi W b k M) {x : Int} (hx : Sm x) :
  (Instr.lookup 129 (.map (some b)) (.int .i64 x) true).run Try.prog W = .ok (.tuple #[.int .i64 ((M x).getD 0), .bool (M x).isSome]) W := by
 obtain ⟨D, h1, h2, h3⟩ := h
 obtain ⟨v, ps, hrun, hat⟩ := h1.look_ok law3 u129 (Try.zeroValue3 W) (show plainElem Try.prog 3 (.int .i64 0) = some (.lit (.int .i64 0), []) from plainElem_int Try.underlying3 (show (Lit.int .i64 0).wf = true from Sm.wf ⟨by omega, by omega⟩)) hx.key
 rw [hrun, (h3 x hx).1]
 rw [(h3 x hx).2] at hat
 obtain ⟨a, rfl, hz, _⟩ := plainElem_int_inv Try.underlying3 hat
 simp only [Prod.mk.injEq, DataW.lit.injEq, Lit.int.injEq, true_and] at hz
 rw [hz.1]
theorem Wi.put {W : World} {b k : Nat} {M : Im} (h : Wi W b k M) {x v : Int} (hx : Sm x) (hv : Sm v) (hk : k < 1000000000000) :
  ∃ W', (Instr.mapUpdate 129 (.map (some b)) (.int .i64 x) (.int .i64 v)).run Try.prog W = .ok () W' ∧ Wi W' b (k + 1) (M.put x v) ∧ W.grownBy W' (some b) := by
 obtain ⟨D, h1, h2, h3⟩ := h
 have hkm : k < maxLen := by unfold maxLen; omega
 have hkey := hx.key
 obtain ⟨W', hrun, ho, hg⟩ := h1.update law3 u129 hkm hkey (plainElem_int Try.underlying3 hv.wf)
 refine ⟨W', hrun, ⟨_, ho, h2.put _ _, fun y hy => ?_⟩, hg⟩
 by_cases e' : y = x
 ·subst e'
  have e : M.put y v y = some v := by unfold Im.put; rw [if_pos rfl]
  rw [e]
  exact ⟨Go.Maps.has_put_same h2 (law3.key hkey) _, Go.Maps.atKey_put_same h2 (law3.key hkey) _ _⟩
 ·have e : M.put x v y = M y := by unfold Im.put; rw [if_neg e']
  have hne : (Lit.int .i64 y) ≠ (Lit.int .i64 x) := fun h => e' (by injection h)
  rw [e, Go.Maps.has_put_other hne, Go.Maps.atKey_put_other hne]
  exact h3 y hy
def lineTo (M : Im) (i : Int) (xs : List Int) : Im := xs.foldl (fun M x => (M.put (2 * x) i).put (2 * x + 1) i) M
def whoStep (l : List Cmp) (wo : Int) (M : Im) (i : Nat) : Im := if (l.getD i ([], false)).2 = true ∧ (i : Int) ≠ wo then lineTo M (i : Int) (l.getD i ([], false)).1 else M
def whoTo (l : List Cmp) (wo : Int) (k : Nat) : Im := (List.range k).foldl (whoStep l wo) (fun _ => none)
def rowStep (M : Im) (row : List Int) (x : Int) : List Int := match M x with
 | none => row
 | some i => if row.getLast? = some i then row else row ++ [i]
def rowTo (M : Im) (p : List Int) (k : Nat) : List Int := (p.take k).foldl (rowStep M) []
def rowCut (row : List Int) : List Int := if 1 < row.length ∧ nth row 0 = nth row (row.length - 1) then row.tail else row
def outTo (row : List Int) (n k : Nat) : List Bool := (row.take k).foldl (fun out i => out.set i.toNat (decide (row.count i = 1))) (List.replicate n false)
def hurdF (p : List Int) (l : List Cmp) (wo : Int) : List Bool := outTo (rowCut (rowTo (whoTo l wo l.length) p p.length)) l.length (rowCut (rowTo (whoTo l wo l.length) p p.length)).length
theorem lineTo_snoc (M : Im) (i : Int) (xs : List Int) (x : Int) : lineTo M i (xs ++ [x]) = ((lineTo M i xs).put (2 * x) i).put (2 * x + 1) i := by
 unfold lineTo; rw [List.foldl_append]; rfl
theorem lineTo_take (M : Im) (i : Int) (xs : List Int) (j : Nat) (hj : j < xs.length) : lineTo M i (xs.take (j + 1)) = ((lineTo M i (xs.take j)).put (2 * nth xs j) i).put (2 * nth xs j + 1) i := by
 rw [List.take_succ_eq_append_getElem hj, lineTo_snoc]
 simp [nth, hj]
theorem whoTo_step (l : List Cmp) (wo : Int) (k : Nat) : whoTo l wo (k + 1) = whoStep l wo (whoTo l wo k) k := by
 unfold whoTo; rw [List.range_succ, List.foldl_append]; rfl
theorem rowTo_step (M : Im) (p : List Int) (k : Nat) (hk : k < p.length) : rowTo M p (k + 1) = rowStep M (rowTo M p k) (nth p k) := by
 unfold rowTo
 rw [List.take_succ_eq_append_getElem hk, List.foldl_append]
 simp [nth, hk]
theorem rowTo_len (M : Im) (p : List Int) (k : Nat) : (rowTo M p k).length ≤ k := by
 induction k with
 | zero => simp [rowTo]
 | succ k ih =>
  by_cases hk : k < p.length
  ·rw [rowTo_step _ _ _ hk]
   unfold rowStep
   split
   ·omega
   ·split
    ·omega
    ·simp; omega
  ·have : rowTo M p (k + 1) = rowTo M p k := by unfold rowTo; rw [List.take_of_length_le (by omega), List.take_of_length_le (by omega)]
   rw [this]; omega
def Im.In (M : Im) (n : Nat) : Prop := ∀ x v, M x = some v → 0 ≤ v ∧ v < (n : Int)
theorem Im.In.put {M : Im} {n : Nat} (h : M.In n) {x v : Int} (hv : 0 ≤ v ∧ v < (n : Int)) : (M.put x v).In n := fun y z hy => by
 unfold Im.put at hy
 split at hy
 ·cases hy; exact hv
 ·exact h y z hy
theorem lineTo_in {M : Im} {n : Nat} (h : M.In n) {i : Int} (hi : 0 ≤ i ∧ i < (n : Int)) (xs : List Int) : (lineTo M i xs).In n := by
 induction xs generalizing M with
 | nil => exact h
 | cons x xs ih => exact ih ((h.put hi).put hi)
theorem whoTo_in (l : List Cmp) (wo : Int) (k : Nat) (hk : k ≤ l.length) : (whoTo l wo k).In l.length := by
 induction k with
 | zero => intro x v h; cases h
 | succ k ih =>
  rw [whoTo_step]
  unfold whoStep
  split
  ·exact lineTo_in (ih (by omega)) (by omega) _
  ·exact ih (by omega)
theorem rowTo_in {M : Im} {n : Nat} (h : M.In n) (p : List Int) (k : Nat) : ∀ i, i ∈ rowTo M p k → 0 ≤ i ∧ i < (n : Int) := by
 induction k with
 | zero => intro i hi; simp [rowTo] at hi
 | succ k ih =>
  by_cases hk : k < p.length
  ·rw [rowTo_step _ _ _ hk]
   unfold rowStep
   intro i hi
   split at hi
   ·exact ih i hi
   ·rename_i v hv
    split at hi
    ·exact ih i hi
    ·rcases List.mem_append.1 hi with hi | hi
     ·exact ih i hi
     ·rw [List.mem_singleton] at hi
      subst hi
      exact h _ _ hv
  ·have : rowTo M p (k + 1) = rowTo M p k := by unfold rowTo; rw [List.take_of_length_le (by omega), List.take_of_length_le (by omega)]
   rw [this]; exact ih
theorem outTo_len (row : List Int) (n k : Nat) : (outTo row n k).length = n := by
 induction k with
 | zero => simp [outTo]
 | succ k ih =>
  by_cases hk : k < row.length
  ·unfold outTo at ih ⊢
   rw [List.take_succ_eq_append_getElem hk, List.foldl_append]
   simp only [List.foldl_cons, List.foldl_nil, List.length_set]
   exact ih
  ·unfold outTo at ih ⊢
   rw [List.take_of_length_le (by omega)] at ih ⊢
   exact ih
theorem outTo_step (row : List Int) (n k : Nat) (hk : k < row.length) : outTo row n (k + 1) = (outTo row n k).set (nth row k).toNat (decide (row.count (nth row k) = 1)) := by
 unfold outTo
 rw [List.take_succ_eq_append_getElem hk, List.foldl_append]
 simp [nth, hk]
end Go.Proofs.Ytepjhdblmghckaa.G


namespace Go.Proofs.Ytepjhdblmghckaa.G
open Go.Proofs.Ytepjhdblmghckaa.Q Go.Proofs.Ytepjhdblmghckaa.K Go.Proofs.Ytepjhdblmghckaa.Bf
open Go.RowKit Go.Shelf Go.Proofs.YtepjhdblmghckaaW.PrintWords Go.Proofs.YtepjhdblmghckaaW.PrintLast Go.Proofs.YtepjhdblmghckaaW.PrintMore
set_option linter.unusedVariables false
set_option linter.unusedSimpArgs false
theorem cmp_at {W : World} {bl : Nat} {ok : Nat → Prop} {A : Option Addr} {n c : Nat} {l : List Cmp} (h : Kd.R kCmp 110 W bl ok (.slice A n c) l) (i : Nat) (hi : i < n) :
  ∃ bb A' c', A = some ⟨bb, 0, none⟩ ∧ (l.getD i ([], false)).1.length ≤ c' ∧ Kd.F (Kd.int .i64) W (fun k => k < W.heap.size) A' (l.getD i ([], false)).1.length (l.getD i ([], false)).1 ∧ W.cell? ⟨bb, i * 2, none⟩ = some (.slice A' (l.getD i ([], false)).1.length c') ∧ W.cell? ⟨bb, i * 2 + 1, none⟩ = some (.bool (l.getD i ([], false)).2) := by
 have hn := (Kd.R_reads' h).1
 obtain ⟨ad, cs, e, _⟩ := Kd.C_get (Kd.R_reads' h).2.2 ([], false) (i : Int) (by omega) (by omega)
 subst e
 obtain ⟨g, rfl⟩ := Kd.R_head h
 obtain ⟨cs, _, ⟨c0, c1, rfl, ⟨v, rfl, hv⟩, hb⟩, hcell, _⟩ := Kd.R_elem h ([], false) (i : Int) (by omega) (by omega)
 rw [Int.toNat_natCast] at hv hb hcell
 have hb' : c1 = [.bool (l.getD i ([], false)).2] := hb
 subst hb'
 obtain ⟨A', c', rfl⟩ := Kd.R_slice hv
 have h0 := hcell 0 _ rfl
 have h1 := hcell 1 _ rfl
 rw [show kCmp.sz = 2 from rfl] at h0 h1
 exact ⟨g, A', c', rfl, (Kd.R_reads' hv).2.1, Kd.F_mono (Kd.F_bound (Kd.R_F hv)) (fun k hk => hk.2), h0, h1⟩
theorem pop22 (ad : Addr) (n c : Nat) (hc : n + 1 < c + 1) (W : World) (h2 : 2 ≤ c := by omega) :
  (Instr.slice 22 (.slice (some ad) (n + 1) c) (some (.int .i64 1)) none none).run Try.prog W = .ok (.slice (some (ad.add 1)) n (c - 1)) W := by
 have he : Try.prog.elem 22 = 3 := by kernel_rfl
 have hu : Try.prog.underlying 22 = some (.slice (Try.prog.elem 22)) := by rw [he]; exact Try.underlying22
 rw [run_slice_l (P := Try.prog) W 22 (some ad) (n + 1) c hu .i64 1 (by omega) (by omega), he, Try.sizeOf3]
 have e1 : (1 : Int).toNat = 1 := rfl
 simp only [Result.andThen, sliced, e1, Option.map_some, Nat.one_mul, Nat.add_sub_cancel]
 rw [if_neg (by omega)]
theorem F_tail {W : World} {ok : Nat → Prop} {ad : Addr} {y : Int} {xs : List Int} (h : Kd.F (Kd.int .i64) W ok (some ad) (xs.length + 1) (y :: xs)) : Kd.F (Kd.int .i64) W ok (some (ad.add 1)) xs.length xs := fun W' hW => by
 have h1 := Kd.reads_of_C (enc := Value.int .i64) (d := (0 : Int)) (h1 := fun _ => rfl) (h W' hW)
 refine Kd.C_of_reads (enc := Value.int .i64) (d := (0 : Int)) (h1 := fun _ => rfl) ⟨rfl, by have := h1.2.1; omega, fun hp => ⟨_, rfl, fun j hj => ?_⟩⟩
 obtain ⟨ad', e, hc⟩ := h1.2.2 (by omega)
 cases e
 have h2 := hc (j + 1) (by omega)
 rw [List.getD_cons_succ] at h2
 rw [← h2]
 congr 1
 unfold Addr.add
 by_cases hj0 : j = 0
 ·subst hj0; simp
 ·simp [hj0]; omega
set_option maxRecDepth 100000 in
set_option maxHeartbeats 8000000 in
theorem hurdles_calls (b base : Nat) (s : List Int) (hs : s.length ≤ 40) (hms : ∀ x, x ∈ s → x ≠ 0 ∧ -(s.length : Int) ≤ x ∧ x ≤ s.length) (w : World) (hP : PicOk base b s w) (A : Option Addr) (c : Nat) (l : List Cmp) (bl : Nat) (hl : Kd.R kCmp 110 w bl (fun _ => True) (.slice A l.length c) l) (hl0 : 0 < l.length) (hll : l.length ≤ 100000) (hm : ∀ x, x ∈ l → x.1.length ≤ 100000 ∧ ∀ y, y ∈ x.1 → 0 ≤ y ∧ y ≤ (s.length : Int)) (wo : Int) (hwo : -1 ≤ wo ∧ wo ≤ 100000) :
  Calls Try.prog 79 #[.pointer (some ⟨b, 0, none⟩), .slice A l.length c, .int .i64 wo] w fun e w' => ∃ v, e = .returned v ∧ Kd.R Kd.bool 4 w' w.heap.size (fun _ => True) v (hurdF (picL s) l wo) ∧ Below w.heap.size w w' := by
 have HP := Aside0.mk hP
 have HL := Aside0.mk hl
 have HM := Aside0.mk hm
 have HMS := Aside0.mk hms
 obtain ⟨n, hn⟩ : ∃ n, l.length = n := ⟨_, rfl⟩
 have HN := Aside0.mk hn
 have HH := Aside0.mk (show hurdF (picL s) l wo = outTo (rowCut (rowTo (whoTo l wo l.length) (picL s) (picL s).length)) l.length (rowCut (rowTo (whoTo l wo l.length) (picL s) (picL s).length)).length from rfl)
 obtain ⟨R0, hR0⟩ : ∃ R0, hurdF (picL s) l wo = R0 := ⟨_, rfl⟩
 rw [hR0] at HH ⊢
 rw [hn] at HL HH hll hl0 ⊢
 clear hP hl hm hms hn hR0
 have HM0 := Aside0.mk (Wi.made w)
 have HB0 := Aside0.mk ((Below.refl w.heap.size w).alloc (Nat.le_refl _) (.map #[] 0))
 have hmk := run_makeMap (P := Try.prog)
 go_enter Try.func79, Try.ntmps79
 go_wp2
 obtain ⟨W0, hW0⟩ : ∃ W0, w.alloc (.map #[] 0) = W0 := ⟨_, rfl⟩
 rw [hW0] at HM0 HB0
 try rw [hW0]
 have HS0 := Aside0.mk (show W0.heap.size = w.heap.size + 1 by rw [← hW0]; simp)
 obtain ⟨bm, hbm⟩ : ∃ bm, w.heap.size = bm := ⟨_, rfl⟩
 have HBM := Aside0.mk hbm
 rw [hbm] at HM0 HB0 HS0
 try rw [hbm]
 clear hW0 hbm
 go_loopw [26] (fun iv wr => ∃ i : Nat, i ≤ n ∧ iv = .int .i64 (i : Int) ∧ Aside0 (Wi wr bm (200000 * i) (whoTo l wo i)) ∧ Aside0 (Below bm w wr)) (fun iv _ => n - (intOf iv).toNat)
 case atStart => exact ⟨0, Nat.zero_le _, rfl, HM0, HB0⟩
 case round =>
  obtain ⟨i, hi, rfl, HW, HB⟩ := hrel
  by_cases hlt : i < n
  ·have hi0 : (0 : Int) ≤ (i : Int) := by omega
   have hi1 : (i : Int) < (n : Int) := by omega
   have hBw : Below w.heap.size w wr := by rw [HBM.out]; exact HB.out
   obtain ⟨bb, A', c', rfl, hl1, hC1, hc0, hc1⟩ := cmp_at HL.out i hlt
   replace hc0 := (hBw.cell (World.block_lt_of_cell? _ _ hc0)).trans hc0
   replace hc1 := (hBw.cell (World.block_lt_of_cell? _ _ hc1)).trans hc1
   obtain ⟨x, hx⟩ : ∃ x, l.getD i ([], false) = x := ⟨_, rfl⟩
   rw [hx] at hl1 hC1 hc0 hc1
   have HX := Aside0.mk hx
   have hxm := HM.out x (by rw [← hx]; exact getD_mem (by rw [HN.out]; exact hlt))
   have HXM := Aside0.mk hxm
   obtain ⟨xs, bd⟩ := x
   simp only at hl1 hC1 hc0 hc1
   obtain ⟨xn, hxn⟩ : ∃ xn, xs.length = xn := ⟨_, rfl⟩
   rw [hxn] at hl1 hc0
   have HXN := Aside0.mk hxn
   have HC1 := Aside0.mk hC1
   have hwt : IntKind.i64.wrap ((i : Int) + 1) = ((i + 1 : Nat) : Int) := by rw [iw64 (by omega) (by omega)]; omega
   clear hx hxm hC1 hxn hmk hBw
   obtain ⟨wo_, hwo_⟩ : ∃ z, z = wr := ⟨_, rfl⟩
   subst hwo_
   have HST := Aside0.mk (whoTo_step l wo i)
   cases bd
   ·have HS1 := Aside0.mk (show whoTo l wo (i + 1) = whoTo l wo i by rw [HST.out]; unfold whoStep; rw [HX.out, if_neg (fun h => by cases h.1)])
    go_wp2
    go_roundw
    case rel => exact ⟨i + 1, by omega, rfl, ⟨by rw [HS1.out]; exact (HW.out.below ((Below.refl _ _).alloc (Nat.le_refl _) _)).mono (by omega)⟩, ⟨HB.out.alloc (by have := HB.out.size; have := HBM.out; omega) _⟩⟩
    case measure => simp [intOf]; omega
   ·by_cases hio : (i : Int) = wo
    ·subst hio
     have HS1 := Aside0.mk (show whoTo l (i : Int) (i + 1) = whoTo l (i : Int) i by rw [HST.out]; unfold whoStep; rw [if_neg (fun h => h.2 rfl)])
     go_wp2
     go_roundw
     case rel => exact ⟨i + 1, by omega, rfl, ⟨by rw [HS1.out]; exact (HW.out.below ((Below.refl _ _).alloc (Nat.le_refl _) _)).mono (by omega)⟩, ⟨HB.out.alloc (by have := HB.out.size; have := HBM.out; omega) _⟩⟩
     case measure => simp [intOf]; omega
    ·have HS1 := Aside0.mk (show whoTo l wo (i + 1) = lineTo (whoTo l wo i) (i : Int) xs by rw [HST.out]; unfold whoStep; rw [HX.out, if_pos ⟨rfl, hio⟩])
     have hio' : ((i : Int) != wo) = true := by simpa using hio
     go_wp2
     go_loopw [41] (fun jv wj => ∃ j : Nat, j ≤ xn ∧ jv = .int .i64 (j : Int) ∧ Aside0 (Wi wj bm (200000 * i + 2 * j) (lineTo (whoTo l wo i) (i : Int) (xs.take j))) ∧ Aside0 (Below bm w wj)) (fun jv _ => xn - (intOf jv).toNat)
     case atStart => exact ⟨0, Nat.zero_le _, rfl, ⟨by rw [List.take_zero]; exact (HW.out.below ((Below.refl _ _).alloc (Nat.le_refl _) _))⟩, ⟨HB.out.alloc (by have := HB.out.size; have := HBM.out; omega) _⟩⟩
     case round =>
      obtain ⟨j, hj, rfl, HWJ, HBJ⟩ := hrel
      by_cases hjl : j < xn
      ·have hj0 : (0 : Int) ≤ (j : Int) := by omega
       have hj1 : (j : Int) < (xn : Int) := by omega
       obtain ⟨ad, e1, hd1⟩ := Kd.at_int (Kd.F_now (Kd.F_step HC1.out (fun k hk _ => HBJ.out.block k (by have := HBM.out; omega)))) (j : Int) hj0 (by have := HXN.out; omega)
       rw [rd_nth, Int.toNat_natCast] at hd1
       have hmem := HXM.out.2 (nth xs j) (getD_mem (by rw [HXN.out]; exact hjl))
       have HTK := Aside0.mk (lineTo_take (whoTo l wo i) (i : Int) xs j (by rw [HXN.out]; exact hjl))
       obtain ⟨y, hy⟩ : ∃ y, nth xs j = y := ⟨_, rfl⟩
       rw [hy] at hd1 hmem HTK
       have hw1 : IntKind.i64.wrap (2 * y) = 2 * y := iw64 (by omega) (by omega)
       have hw2 : IntKind.i64.wrap (2 * y + 1) = 2 * y + 1 := iw64 (by omega) (by omega)
       have hwj : IntKind.i64.wrap ((j : Int) + 1) = ((j + 1 : Nat) : Int) := by rw [iw64 (by omega) (by have := HXM.out.1; have := HXN.out; omega)]; omega
       have hxb := HXM.out.1
       obtain ⟨W1, hr1, hW1, hg1⟩ := HWJ.out.put (x := 2 * y) (v := (i : Int)) ⟨by omega, by omega⟩ ⟨by omega, by omega⟩ (by have := HXN.out; omega)
       obtain ⟨W2, hr2, hW2, hg2⟩ := hW1.put (x := 2 * y + 1) (v := (i : Int)) ⟨by omega, by omega⟩ ⟨by omega, by omega⟩ (by have := HXN.out; omega)
       have HW2 := Aside0.mk hW2
       have HB2 := Aside0.mk (show Below bm w W2 from by
        have h1 := HBJ.out
        exact ⟨hg2.os.trans (hg1.os.trans h1.os), hg2.tape.trans (hg1.tape.trans h1.tape), hg2.output.trans (hg1.output.trans h1.output), Nat.le_trans h1.size (Nat.le_trans hg1.size hg2.size), fun k hk => (hg2.block k (by have := h1.size; have := hg1.size; have := HBM.out; omega) (by intro e; injection e with e; omega)).trans ((hg1.block k (by have := h1.size; have := HBM.out; omega) (by intro e; injection e with e; omega)).trans (h1.block k hk))⟩)
       subst e1
       clear hmem hy hW1 hg1 hW2 hg2 hxb
       go_wp2
       go_roundw
       case rel => exact ⟨j + 1, by omega, rfl, ⟨by rw [HTK.out]; exact HW2.out.mono (by omega)⟩, HB2⟩
       case measure => simp [intOf]; omega
      ·have hj1 : ¬ (j : Int) < (xn : Int) := by omega
       have HJN := Aside0.mk (show j = xn by omega)
       go_wp2
       go_roundw
       case rel => exact ⟨i + 1, by omega, rfl, ⟨by
        rw [HS1.out]
        have h1 := HWJ.out
        rw [HJN.out, List.take_of_length_le (by have := HXN.out; omega)] at h1
        exact h1.mono (by have := HXM.out.1; have := HXN.out; omega)⟩, HBJ⟩
       case measure => simp [intOf]; omega
  ·have hi1 : ¬ (i : Int) < (n : Int) := by omega
   have HIN := Aside0.mk (show i = n by omega)
   have hW := HW.out
   rw [HIN.out] at hW
   obtain ⟨M, hM⟩ : ∃ M, whoTo l wo n = M := ⟨_, rfl⟩
   rw [hM] at hW HH
   have HMI := Aside0.mk (show M.In n by rw [← hM, ← HN.out]; exact whoTo_in l wo l.length (Nat.le_refl _))
   have HW := Aside0.mk hW
   obtain ⟨Ap, cp, Ap2, cp2, hbk, hpp, hqq⟩ := HP.out.below (show Below w.heap.size w wr by rw [HBM.out]; exact HB.out)
   have hb0 := hbk.cell 0 (v := .slice Ap (2 * s.length + 2) cp) rfl
   have HPP := Aside0.mk hpp
   have HPR := Aside0.mk (picL_range s HMS.out)
   have HPLEN := Aside0.mk (picL_len s)
   obtain ⟨p, hpe⟩ : ∃ p, picL s = p := ⟨_, rfl⟩
   rw [hpe] at HH HPP HPR HPLEN
   obtain ⟨pn, hpn⟩ : ∃ pn, 2 * s.length + 2 = pn := ⟨_, rfl⟩
   rw [hpn] at hb0 HPP HPLEN
   have HPN := Aside0.mk hpn
   clear hM hW hbk hpp hqq hpe hpn
   go_wp2
   obtain ⟨wo_, hwo_⟩ : ∃ z, z = wr := ⟨_, rfl⟩
   subst hwo_
   obtain ⟨N0, hN0⟩ : ∃ N0, wo_.heap.size = N0 := ⟨_, rfl⟩
   have HN0 := Aside0.mk hN0
   have HBN := Aside0.mk (show bm < N0 by rw [← hN0]; exact HW.out.lt)
   clear hN0
   go_loopw [12, 61] (fun rv kv wk => ∃ (k : Nat) (row : List Int), k ≤ pn ∧ kv = .int .i64 (k : Int) ∧ Aside0 (rowTo M p k = row) ∧ Aside0 (Kd.R (Kd.int .i64) 3 wk N0 (fun j => N0 ≤ j) rv row) ∧ Aside0 (Below N0 wo_ wk)) (fun _ kv _ => pn - (intOf kv).toNat)
   case atStart => exact ⟨0, [], Nat.zero_le _, rfl, ⟨by simp [rowTo]⟩, ⟨Kd.R_nil _ _ _ _ _⟩, ⟨Below.refl _ _⟩⟩
   case round =>
    obtain ⟨k, row, hk, rfl, HRK0, HRK, HBK⟩ := hrel
    have HRL := Aside0.mk (show row.length ≤ pn by rw [← HRK0.out]; exact Nat.le_trans (rowTo_len M p k) hk)
    have HPN2 := Aside0.mk (show pn ≤ 82 by have := HPN.out; omega)
    by_cases hkl : k < pn
    ·have hk0 : (0 : Int) ≤ (k : Int) := by omega
     have hk1 : (k : Int) < (pn : Int) := by omega
     obtain ⟨ad, e1, hd1⟩ := Kd.at_int (Kd.R_reads' (Kd.R_step (Kd.R_bound HPP.out) (fun j hj _ => HBK.out.block j (by have := hj.2.2.1; have := HN0.out; omega)))).2.2 (k : Int) hk0 (by have := HPLEN.out; omega)
     rw [rd_nth, Int.toNat_natCast] at hd1
     have HSTP := Aside0.mk (rowTo_step M p k (by rw [HPLEN.out]; exact hkl))
     have hx := HPR.out k
     obtain ⟨x, hxe⟩ : ∃ x, nth p k = x := ⟨_, rfl⟩
     rw [hxe] at hd1 hx
     have HX := Aside0.mk hxe
     have hlk := (HW.out.mapsTo (HBK.out.block bm HBN.out)).look_ok (x := x) ⟨by omega, by omega⟩
     have hwk : IntKind.i64.wrap ((k : Int) + 1) = ((k + 1 : Nat) : Int) := by rw [iw64 (by omega) (by have := HPN2.out; omega)]; omega
     obtain ⟨Ar, cr, ev⟩ := Kd.R_slice HRK.out
     subst ev
     obtain ⟨rn, hrn⟩ : ∃ rn, row.length = rn := ⟨_, rfl⟩
     have HRN := Aside0.mk hrn
     rw [hrn] at HRK HRL ⊢
     obtain ⟨mv, hmv⟩ : ∃ mv, M x = mv := ⟨_, rfl⟩
     have HV := Aside0.mk hmv
     rw [hmv] at hlk
     subst e1
     clear hx hxe hrn hmv
     cases mv with
     | none =>
      simp only [Option.isSome_none, Option.getD_none] at hlk
      go_wp2
      go_roundw
      case rel => exact ⟨k + 1, row, by omega, rfl, ⟨by rw [HSTP.out, HRK0.out, HX.out]; unfold rowStep; rw [HV.out]⟩, HRK, HBK⟩
      case measure => simp [intOf]; omega
     | some v =>
      simp only [Option.isSome_some, Option.getD_some] at hlk
      cases rn with
      | zero =>
       have HE := Aside0.mk (List.eq_nil_of_length_eq_zero HRN.out)
       go_wp2_with ((with_reducible refine gate_builtin (b := .append) (xs := #[.tmp 87, .tmp 89]) rfl ?_); at_builtin; refine stopper ?_)
       try unfold Hold
       refine Kd.R_append (Kd.int .i64) (w0 := wr) N0 rfl (.tmp 87) (.tmp 89) 22 3 (.int .i64 0) 8 rfl Try.underlying22 info3 rfl (by decide) (by decide) _ row v [.int .i64 v] (fun j => N0 ≤ j) (fun _ => False) rfl rfl rfl (fun _ h => h.elim) (fun k hk => by have := HBK.out.size; have := HN0.out; omega) HRK.out (Below.refl _ _) (by have := HBK.out.size; have := HN0.out; omega) (by have := HRL.out; have := HRN.out; have := HPN2.out; omega) ?_
       intro v1 wy ho hb hg hat
       have HHO := Aside0.mk ho
       have HHB := Aside0.mk (HBK.out.trans hb)
       clear ho hb hg hat
       go_wp2
       go_roundw
       case rel => exact ⟨k + 1, row ++ [v], by omega, rfl, ⟨by rw [HSTP.out, HRK0.out, HX.out]; unfold rowStep; rw [HV.out]; simp only; rw [if_neg (by rw [HE.out]; simp)]⟩, HHO, HHB⟩
       case measure => simp [intOf]; omega
      | succ q =>
       obtain ⟨adr, e2, hd2⟩ := Kd.at_int (Kd.R_reads' HRK.out).2.2 (q : Int) (by omega) (by have := HRN.out; omega)
       rw [rd_nth, Int.toNat_natCast] at hd2
       have HLS := Aside0.mk (show row.getLast? = some (nth row q) by
        rw [List.getLast?_eq_getElem?, HRN.out]
        have h1 : q < row.length := by rw [HRN.out]; omega
        simp [nth, h1])
       obtain ⟨y, hy⟩ : ∃ y, nth row q = y := ⟨_, rfl⟩
       rw [hy] at hd2 HLS
       have hwq : IntKind.i64.wrap ((q : Int) + 1 - 1) = (q : Int) := by rw [iw64 (by omega) (by have := HRL.out; have := HPN2.out; omega)]; omega
       have hwq2 : IntKind.i64.wrap (((q + 1 : Nat) : Int) - 1) = (q : Int) := by rw [iw64 (by omega) (by have := HRL.out; have := HPN2.out; omega)]; omega
       have hwq3 : IntKind.i64.wrap (q : Int) = (q : Int) := iw64 (by omega) (by have := HRL.out; have := HPN2.out; omega)
       have hq0 : (0 : Int) ≤ (q : Int) := by omega
       have hq1 : (q : Int) < (q : Int) + 1 := by omega
       subst e2
       clear hy
       by_cases hyv : y = v
       ·subst hyv
        go_wp2
        go_roundw
        case rel => exact ⟨k + 1, row, by omega, rfl, ⟨by rw [HSTP.out, HRK0.out, HX.out]; unfold rowStep; rw [HV.out]; simp only; rw [if_pos HLS.out]⟩, HRK, HBK⟩
        case measure => simp [intOf]; omega
       ·have hyv' : (y != v) = true := by simpa using hyv
        have HYV := Aside0.mk hyv
        clear hyv
        go_wp2_with ((with_reducible refine gate_builtin (b := .append) (xs := #[.tmp 87, .tmp 89]) rfl ?_); at_builtin; refine stopper ?_)
        try unfold Hold
        refine Kd.R_append (Kd.int .i64) (w0 := wr) N0 rfl (.tmp 87) (.tmp 89) 22 3 (.int .i64 0) 8 rfl Try.underlying22 info3 rfl (by decide) (by decide) _ row v [.int .i64 v] (fun j => N0 ≤ j) (fun _ => False) rfl rfl rfl (fun _ h => h.elim) (fun k hk => by have := HBK.out.size; have := HN0.out; omega) HRK.out (Below.refl _ _) (by have := HBK.out.size; have := HN0.out; omega) (by have := HRL.out; have := HRN.out; have := HPN2.out; omega) ?_
        intro v1 wy ho hb hg hat
        have HHO := Aside0.mk ho
        have HHB := Aside0.mk (HBK.out.trans hb)
        clear ho hb hg hat
        go_wp2
        go_roundw
        case rel => exact ⟨k + 1, row ++ [v], by omega, rfl, ⟨by rw [HSTP.out, HRK0.out, HX.out]; unfold rowStep; rw [HV.out]; simp only; rw [if_neg (by rw [HLS.out]; intro e; injection e with e; exact HYV.out e)]⟩, HHO, HHB⟩
        case measure => simp [intOf]; omega
    ·have hk1 : ¬ (k : Int) < (pn : Int) := by omega
     have hrow : rowTo M p p.length = row := by rw [HPLEN.out, ← HRK0.out, show k = pn by omega]
     rw [hrow] at HH
     have HRI := Aside0.mk (show ∀ i, i ∈ row → 0 ≤ i ∧ i < (n : Int) by rw [← HRK0.out]; exact rowTo_in HMI.out p k)
     obtain ⟨Ar, cr, ev⟩ := Kd.R_slice HRK.out
     subst ev
     obtain ⟨rn, hrn⟩ : ∃ rn, row.length = rn := ⟨_, rfl⟩
     have HRN := Aside0.mk hrn
     rw [hrn] at HRK HRL ⊢
     clear hrow hrn
     go_upto_region 20 with fail
     obtain ⟨q, hq⟩ : ∃ q : Bool, decide (1 < rn ∧ nth row 0 = nth row (rn - 1)) = q := ⟨_, rfl⟩
     have HQ := Aside0.mk hq
     clear hq
     go_cut [106] from 92 (fun v wc => v = .bool q ∧ Aside0 (∃ m, wc = wr.drewN m))
     case first =>
      by_cases h1 : 1 < rn
      ·obtain ⟨r2, rfl⟩ : ∃ r2, rn = r2 + 2 := ⟨rn - 2, by omega⟩
       obtain ⟨adr, e2, hd2⟩ := Kd.at_int (Kd.R_reads' HRK.out).2.2 ((r2 + 1 : Nat) : Int) (by omega) (by have := HRN.out; omega)
       obtain ⟨adr', e3, hd3⟩ := Kd.at_int (Kd.R_reads' HRK.out).2.2 ((0 : Nat) : Int) (by omega) (by have := HRN.out; omega)
       rw [rd_nth, Int.toNat_natCast] at hd2 hd3
       subst e2
       cases e3
       obtain ⟨y, hy⟩ : ∃ y, nth row (r2 + 1) = y := ⟨_, rfl⟩
       obtain ⟨y0, hy0⟩ : ∃ y0, nth row 0 = y0 := ⟨_, rfl⟩
       have hq := HQ.out
       rw [show r2 + 2 - 1 = r2 + 1 by omega, hy, hy0] at hq
       rw [hy] at hd2
       rw [hy0] at hd3
       have hq2 : (y0 == y) = q := by rw [← hq]; by_cases e : y0 = y <;> simp [e]
       have hwq : IntKind.i64.wrap (((r2 + 2 : Nat) : Int) - 1) = ((r2 + 1 : Nat) : Int) := by rw [iw64 (by omega) (by have := HRL.out; have := HPN2.out; omega)]; omega
       have hwq2 : IntKind.i64.wrap ((r2 : Int) + 2 - 1) = ((r2 + 1 : Nat) : Int) := by rw [iw64 (by omega) (by have := HRL.out; have := HPN2.out; omega)]; omega
       have hwq3 : IntKind.i64.wrap ((r2 : Int) + 1) = ((r2 + 1 : Nat) : Int) := by rw [iw64 (by omega) (by have := HRL.out; have := HPN2.out; omega)]; omega
       have hg1 : (1 : Int) < ((r2 + 2 : Nat) : Int) := by omega
       have hg2 : (1 : Int) < (r2 : Int) + 2 := by omega
       have hg3 : (0 : Int) ≤ ((r2 + 1 : Nat) : Int) := by omega
       have hg4 : (0 : Int) < ((r2 + 2 : Nat) : Int) := by omega
       have hg5 : (0 : Int) < (r2 : Int) + 2 := by omega
       have hg6 : (r2 : Int) + 1 < (r2 : Int) + 2 := by omega
       have hg7 : ((r2 + 1 : Nat) : Int) < ((r2 + 2 : Nat) : Int) := by omega
       clear hq hy hy0
       rw [Addr.add_zero'] at hd3
       have hd4 : wr.cell? { block := adr.block, off := adr.off + (r2 + 1) } = some (.int .i64 y) := by
        simp only [Addr.add] at hd2
        rw [if_neg (by omega)] at hd2
        exact hd2
       have hg8 : (0 : Int) ≤ (r2 : Int) + 1 := by omega
       refine start_ (n := 15) (S := fun w' => w'.cell? { block := adr.block, off := adr.off + (r2 + 1) } = some (.int .i64 y) ∧ w'.cell? adr = some (.int .i64 y0)) (ds := []) #[false, false, false, false, false, false, false, false, false, false, false, false, false, false, false] (by kernel_rfl) rfl rfl ⟨hd4, hd3⟩ (fun hHeld => ?_)
       refine pure_ (i := 0) (N := (some 92)) (v := ?_) (a' := ?_) #[true, false, false, false, false, false, false, false, false, false, false, false, false, false, false] rfl rfl (by kernel_rfl) (fun _ _ _ h => h) (Or.inl ⟨by rfl, ?_⟩) ?_ ?_
       rotate_left
       ·intro w'
        go_simp
        with_reducible rfl
       rotate_left
       ·simp only [Act.put, List.setIfInBounds_toArray, List.set_cons_zero, List.set_cons_succ]
        rfl
       refine pure_ (i := 1) (N := (some 93)) (v := ?_) (a' := ?_) #[true, true, false, false, false, false, false, false, false, false, false, false, false, false, false] rfl rfl (by kernel_rfl) (fun _ _ _ h => h) (Or.inl ⟨by rfl, ?_⟩) ?_ ?_
       rotate_left
       ·intro w'
        go_simp
        with_reducible rfl
       rotate_left
       ·simp only [Act.put, List.setIfInBounds_toArray, List.set_cons_zero, List.set_cons_succ]
        rfl
       refine pure_ (i := 2) (N := (some 94)) (v := ?_) (a' := ?_) #[true, true, true, false, false, false, false, false, false, false, false, false, false, false, false] rfl rfl (by kernel_rfl) (fun _ _ _ h => h) (Or.inl ⟨by rfl, ?_⟩) ?_ ?_
       rotate_left
       ·intro w'
        go_simp
        with_reducible rfl
       rotate_left
       ·simp only [Act.put, List.setIfInBounds_toArray, List.set_cons_zero, List.set_cons_succ]
        rfl
       refine pure_ (i := 3) (N := (some 95)) (v := ?_) (a' := ?_) #[true, true, true, true, false, false, false, false, false, false, false, false, false, false, false] rfl rfl (by kernel_rfl) (fun _ _ _ h => h) (Or.inl ⟨by rfl, ?_⟩) ?_ ?_
       rotate_left
       ·intro w'
        go_simp
        with_reducible rfl
       rotate_left
       ·simp only [Act.put, List.setIfInBounds_toArray, List.set_cons_zero, List.set_cons_succ]
        rfl
       refine pure_ (i := 4) (N := (some 96)) (v := ?_) (a' := ?_) #[true, true, true, true, true, false, false, false, false, false, false, false, false, false, false] rfl rfl (by kernel_rfl) (fun _ _ _ h => h) (Or.inl ⟨by rfl, ?_⟩) ?_ ?_
       rotate_left
       ·intro w'
        go_simp
        with_reducible rfl
       rotate_left
       ·simp only [Act.put, List.setIfInBounds_toArray, List.set_cons_zero, List.set_cons_succ]
        rfl
       refine pure_ (i := 5) (N := (some 97)) (v := ?_) (a' := ?_) #[true, true, true, true, true, true, false, false, false, false, false, false, false, false, false] rfl rfl (by kernel_rfl) (fun _ _ _ h => h) (Or.inl ⟨by rfl, ?_⟩) ?_ ?_
       rotate_left
       ·intro w'
        go_simp
        with_reducible rfl
       rotate_left
       ·simp only [Act.put, List.setIfInBounds_toArray, List.set_cons_zero, List.set_cons_succ]
        rfl
       refine take_ (i := 6) (N := (some 98)) (v := ?_) (a' := ?_) #[true, true, true, true, true, true, true, false, false, false, false, false, false, false, false] rfl rfl (by kernel_rfl) (fun _ _ _ h => h) (Or.inl ⟨by rfl, ?_⟩) hHeld ?_ ?_
       rotate_left
       ·rintro w' ⟨s0, s1⟩
        go_simp
        with_reducible rfl
       rotate_left
       ·simp only [Act.put, List.setIfInBounds_toArray, List.set_cons_zero, List.set_cons_succ]
        rfl
       refine pure_ (i := 7) (N := (some 99)) (v := ?_) (a' := ?_) #[true, true, true, true, true, true, true, true, false, false, false, false, false, false, false] rfl rfl (by kernel_rfl) (fun _ _ _ h => h) (Or.inl ⟨by rfl, ?_⟩) ?_ ?_
       rotate_left
       ·intro w'
        go_simp
        with_reducible rfl
       rotate_left
       ·simp only [Act.put, List.setIfInBounds_toArray, List.set_cons_zero, List.set_cons_succ]
        rfl
       refine pure_ (i := 8) (N := (some 100)) (v := ?_) (a' := ?_) #[true, true, true, true, true, true, true, true, true, false, false, false, false, false, false] rfl rfl (by kernel_rfl) (fun _ _ _ h => h) (Or.inl ⟨by rfl, ?_⟩) ?_ ?_
       rotate_left
       ·intro w'
        go_simp
        with_reducible rfl
       rotate_left
       ·simp only [Act.put, List.setIfInBounds_toArray, List.set_cons_zero, List.set_cons_succ]
        rfl
       refine pure_ (i := 9) (N := (some 101)) (v := ?_) (a' := ?_) #[true, true, true, true, true, true, true, true, true, true, false, false, false, false, false] rfl rfl (by kernel_rfl) (fun _ _ _ h => h) (Or.inl ⟨by rfl, ?_⟩) ?_ ?_
       rotate_left
       ·intro w'
        go_simp
        with_reducible rfl
       rotate_left
       ·simp only [Act.put, List.setIfInBounds_toArray, List.set_cons_zero, List.set_cons_succ]
        rfl
       refine pure_ (i := 10) (N := (some 102)) (v := ?_) (a' := ?_) #[true, true, true, true, true, true, true, true, true, true, true, false, false, false, false] rfl rfl (by kernel_rfl) (fun _ _ _ h => h) (Or.inl ⟨by rfl, ?_⟩) ?_ ?_
       rotate_left
       ·intro w'
        go_simp
        with_reducible rfl
       rotate_left
       ·simp only [Act.put, List.setIfInBounds_toArray, List.set_cons_zero, List.set_cons_succ]
        rfl
       refine pure_ (i := 11) (N := (some 103)) (v := ?_) (a' := ?_) #[true, true, true, true, true, true, true, true, true, true, true, true, false, false, false] rfl rfl (by kernel_rfl) (fun _ _ _ h => h) (Or.inl ⟨by rfl, ?_⟩) ?_ ?_
       rotate_left
       ·intro w'
        go_simp
        with_reducible rfl
       rotate_left
       ·simp only [Act.put, List.setIfInBounds_toArray, List.set_cons_zero, List.set_cons_succ]
        rfl
       refine take_ (i := 12) (N := (some 104)) (v := ?_) (a' := ?_) #[true, true, true, true, true, true, true, true, true, true, true, true, true, false, false] rfl rfl (by kernel_rfl) (fun _ _ _ h => h) (Or.inl ⟨by rfl, ?_⟩) hHeld ?_ ?_
       rotate_left
       ·rintro w' ⟨s0, s1⟩
        go_simp
        with_reducible rfl
       rotate_left
       ·simp only [Act.put, List.setIfInBounds_toArray, List.set_cons_zero, List.set_cons_succ]
        rfl
       refine pure_ (i := 13) (N := (some 105)) (v := ?_) (a' := ?_) #[true, true, true, true, true, true, true, true, true, true, true, true, true, true, false] rfl rfl (by kernel_rfl) (fun _ _ _ h => h) (Or.inl ⟨by rfl, ?_⟩) ?_ ?_
       rotate_left
       ·intro w'
        go_simp
        with_reducible rfl
       rotate_left
       ·simp only [Act.put, List.setIfInBounds_toArray, List.set_cons_zero, List.set_cons_succ]
        rfl
       refine pure_ (i := 14) (N := (some 106)) (v := ?_) (a' := ?_) #[true, true, true, true, true, true, true, true, true, true, true, true, true, true, true] rfl rfl (by kernel_rfl) (fun _ _ _ h => h) (Or.inl ⟨by rfl, ?_⟩) ?_ ?_
       rotate_left
       ·intro w'
        go_simp
        with_reducible rfl
       rotate_left
       ·simp only [Act.put, List.setIfInBounds_toArray, List.set_cons_zero, List.set_cons_succ]
        rfl
       refine done_ (by kernel_rfl) ?_
       go_wp2
       go_meet
       case rel => exact ⟨rfl, ⟨⟨1, rfl⟩⟩⟩
      ·have hq : q = false := by rw [← HQ.out]; exact decide_eq_false (fun h => h1 h.1)
       subst hq
       have hg1 : ¬ (1 : Int) < (rn : Int) := by omega
       refine start_ (n := 15) (S := fun _ => True) (ds := []) #[false, false, false, false, false, false, false, false, false, false, false, false, false, false, false] (by kernel_rfl) rfl rfl trivial (fun hHeld => ?_)
       refine pure_ (i := 0) (N := (some 92)) (v := ?_) (a' := ?_) #[true, false, false, false, false, false, false, false, false, false, false, false, false, false, false] rfl rfl (by kernel_rfl) (fun _ _ _ h => h) (Or.inl ⟨by rfl, ?_⟩) ?_ ?_
       rotate_left
       ·intro w'
        go_simp
        with_reducible rfl
       rotate_left
       ·simp only [Act.put, List.setIfInBounds_toArray, List.set_cons_zero, List.set_cons_succ]
        rfl
       refine pure_ (i := 1) (N := (some 93)) (v := ?_) (a' := ?_) #[true, true, false, false, false, false, false, false, false, false, false, false, false, false, false] rfl rfl (by kernel_rfl) (fun _ _ _ h => h) (Or.inl ⟨by rfl, ?_⟩) ?_ ?_
       rotate_left
       ·intro w'
        go_simp
        with_reducible rfl
       rotate_left
       ·simp only [Act.put, List.setIfInBounds_toArray, List.set_cons_zero, List.set_cons_succ]
        rfl
       refine pure_ (i := 2) (N := (some 94)) (v := ?_) (a' := ?_) #[true, true, true, false, false, false, false, false, false, false, false, false, false, false, false] rfl rfl (by kernel_rfl) (fun _ _ _ h => h) (Or.inl ⟨by rfl, ?_⟩) ?_ ?_
       rotate_left
       ·intro w'
        go_simp
        with_reducible rfl
       rotate_left
       ·simp only [Act.put, List.setIfInBounds_toArray, List.set_cons_zero, List.set_cons_succ]
        rfl
       refine pure_ (i := 3) (N := (some 95)) (v := ?_) (a' := ?_) #[true, true, true, true, false, false, false, false, false, false, false, false, false, false, false] rfl rfl (by kernel_rfl) (fun _ _ _ h => h) (Or.inl ⟨by rfl, ?_⟩) ?_ ?_
       rotate_left
       ·intro w'
        go_simp
        with_reducible rfl
       rotate_left
       ·simp only [Act.put, List.setIfInBounds_toArray, List.set_cons_zero, List.set_cons_succ]
        rfl
       refine pure_ (i := 4) (N := (some 96)) (v := undef) (a' := ?_) #[true, true, true, true, true, false, false, false, false, false, false, false, false, false, false] rfl rfl (by kernel_rfl) (fun _ _ _ h => h) (Or.inr ⟨by rfl, rfl⟩) ?_ ?_
       rotate_left
       ·simp only [Act.put, List.setIfInBounds_toArray, List.set_cons_zero, List.set_cons_succ]
        rfl
       refine pure_ (i := 5) (N := (some 97)) (v := undef) (a' := ?_) #[true, true, true, true, true, true, false, false, false, false, false, false, false, false, false] rfl rfl (by kernel_rfl) (fun _ _ _ h => h) (Or.inr ⟨by rfl, rfl⟩) ?_ ?_
       rotate_left
       ·simp only [Act.put, List.setIfInBounds_toArray, List.set_cons_zero, List.set_cons_succ]
        rfl
       refine pure_ (i := 6) (N := (some 98)) (v := undef) (a' := ?_) #[true, true, true, true, true, true, true, false, false, false, false, false, false, false, false] rfl rfl (by kernel_rfl) (fun _ _ _ h => h) (Or.inr ⟨by rfl, rfl⟩) ?_ ?_
       rotate_left
       ·simp only [Act.put, List.setIfInBounds_toArray, List.set_cons_zero, List.set_cons_succ]
        rfl
       refine pure_ (i := 7) (N := (some 99)) (v := undef) (a' := ?_) #[true, true, true, true, true, true, true, true, false, false, false, false, false, false, false] rfl rfl (by kernel_rfl) (fun _ _ _ h => h) (Or.inr ⟨by rfl, rfl⟩) ?_ ?_
       rotate_left
       ·simp only [Act.put, List.setIfInBounds_toArray, List.set_cons_zero, List.set_cons_succ]
        rfl
       refine pure_ (i := 8) (N := (some 100)) (v := undef) (a' := ?_) #[true, true, true, true, true, true, true, true, true, false, false, false, false, false, false] rfl rfl (by kernel_rfl) (fun _ _ _ h => h) (Or.inr ⟨by rfl, rfl⟩) ?_ ?_
       rotate_left
       ·simp only [Act.put, List.setIfInBounds_toArray, List.set_cons_zero, List.set_cons_succ]
        rfl
       refine pure_ (i := 9) (N := (some 101)) (v := undef) (a' := ?_) #[true, true, true, true, true, true, true, true, true, true, false, false, false, false, false] rfl rfl (by kernel_rfl) (fun _ _ _ h => h) (Or.inr ⟨by rfl, rfl⟩) ?_ ?_
       rotate_left
       ·simp only [Act.put, List.setIfInBounds_toArray, List.set_cons_zero, List.set_cons_succ]
        rfl
       refine pure_ (i := 10) (N := (some 102)) (v := undef) (a' := ?_) #[true, true, true, true, true, true, true, true, true, true, true, false, false, false, false] rfl rfl (by kernel_rfl) (fun _ _ _ h => h) (Or.inr ⟨by rfl, rfl⟩) ?_ ?_
       rotate_left
       ·simp only [Act.put, List.setIfInBounds_toArray, List.set_cons_zero, List.set_cons_succ]
        rfl
       refine pure_ (i := 11) (N := (some 103)) (v := undef) (a' := ?_) #[true, true, true, true, true, true, true, true, true, true, true, true, false, false, false] rfl rfl (by kernel_rfl) (fun _ _ _ h => h) (Or.inr ⟨by rfl, rfl⟩) ?_ ?_
       rotate_left
       ·simp only [Act.put, List.setIfInBounds_toArray, List.set_cons_zero, List.set_cons_succ]
        rfl
       refine pure_ (i := 12) (N := (some 104)) (v := undef) (a' := ?_) #[true, true, true, true, true, true, true, true, true, true, true, true, true, false, false] rfl rfl (by kernel_rfl) (fun _ _ _ h => h) (Or.inr ⟨by rfl, rfl⟩) ?_ ?_
       rotate_left
       ·simp only [Act.put, List.setIfInBounds_toArray, List.set_cons_zero, List.set_cons_succ]
        rfl
       refine pure_ (i := 13) (N := (some 105)) (v := undef) (a' := ?_) #[true, true, true, true, true, true, true, true, true, true, true, true, true, true, false] rfl rfl (by kernel_rfl) (fun _ _ _ h => h) (Or.inr ⟨by rfl, rfl⟩) ?_ ?_
       rotate_left
       ·simp only [Act.put, List.setIfInBounds_toArray, List.set_cons_zero, List.set_cons_succ]
        rfl
       refine pure_ (i := 14) (N := (some 106)) (v := ?_) (a' := ?_) #[true, true, true, true, true, true, true, true, true, true, true, true, true, true, true] rfl rfl (by kernel_rfl) (fun _ _ _ h => h) (Or.inl ⟨by rfl, ?_⟩) ?_ ?_
       rotate_left
       ·intro w'
        go_simp
        with_reducible rfl
       rotate_left
       ·simp only [Act.put, List.setIfInBounds_toArray, List.set_cons_zero, List.set_cons_succ]
        rfl
       refine done_ (by kernel_rfl) ?_
       go_wp2
       go_meet
       case rel => exact ⟨rfl, ⟨⟨1, rfl⟩⟩⟩
     case rest =>
      obtain ⟨rfl, HWC⟩ := hcut
      obtain ⟨mq, rfl⟩ := HWC.out
      have HF := Aside0.mk (Kd.F_bound (Kd.F_drewN (Kd.R_F HRK.out) mq))
      obtain ⟨wc, hwc⟩ : ∃ wc, wr.drewN mq = wc := ⟨_, rfl⟩
      have HBC := Aside0.mk (show Below N0 wo_ wc by rw [← hwc]; exact pw_below_drewN HBK.out mq)
      rw [hwc] at HF ⊢
      go_upto_if 106 with fail
      try rw [hwc]
      clear hwc
      go_cut [12] from 107 (fun v wd => ∃ A5 c5, v = .slice A5 (rowCut row).length c5 ∧ wd = wc ∧ Aside0 (Kd.F (Kd.int .i64) wc (fun k => k < wc.heap.size) A5 (rowCut row).length (rowCut row)))
      case first =>
       cases q with
       | true =>
        have hq := of_decide_eq_true HQ.out
        obtain ⟨r2, rfl⟩ : ∃ r2, rn = r2 + 2 := ⟨rn - 2, by omega⟩
        obtain ⟨y, row', rfl⟩ : ∃ y row', row = y :: row' := by
         cases row with
         | nil => have := HRN.out; simp at this
         | cons y row' => exact ⟨y, row', rfl⟩
        have HRC := Aside0.mk (show rowCut (y :: row') = row' by
         unfold rowCut
         rw [if_pos ⟨by rw [HRN.out]; omega, by rw [HRN.out]; exact hq.2⟩]
         rfl)
        have HRN2 := Aside0.mk (show row'.length = r2 + 1 by have := HRN.out; simpa using this)
        have hcr : r2 + 2 ≤ cr := (Kd.R_reads' HRK.out).2.1
        obtain ⟨ad, e0, _⟩ := (Kd.F_now HF.out).2.2 (by omega)
        subst e0
        have hpop := fun W => pop22 ad (r2 + 1) cr (by omega) W
        clear hq
        go_wp2
        go_meet
        case rel => exact ⟨_, _, by rw [HRC.out, HRN2.out], rfl, ⟨by rw [HRC.out]; exact F_tail (by rw [HRN2.out]; exact Kd.F_mono HF.out (fun k hk => hk.2))⟩⟩
       | false =>
        have hq := of_decide_eq_false HQ.out
        have HRC := Aside0.mk (show rowCut row = row by
         unfold rowCut
         rw [if_neg (by rw [HRN.out]; exact hq)])
        clear hq
        go_wp2
        go_meet
        case rel => exact ⟨_, _, by rw [HRC.out, HRN.out], rfl, ⟨by rw [HRC.out, HRN.out]; exact Kd.F_mono HF.out (fun k hk => hk.2)⟩⟩
      case rest =>
       obtain ⟨A5, c5, rfl, rfl, HF5⟩ := hcut
       obtain ⟨row5, hrow5⟩ : ∃ row5, rowCut row = row5 := ⟨_, rfl⟩
       rw [hrow5] at HH HF5
       have HRI5 := Aside0.mk (show ∀ i, i ∈ row5 → 0 ≤ i ∧ i < (n : Int) by
        rw [← hrow5]
        intro i hi
        refine HRI.out i ?_
        unfold rowCut at hi
        split at hi
        ·exact List.mem_of_mem_tail hi
        ·exact hi)
       have HL5 := Aside0.mk (show row5.length ≤ 82 by
        have h1 := HRL.out
        have h2 := HPN2.out
        have h3 := HRN.out
        rw [← hrow5]
        unfold rowCut
        split
        ·rw [List.length_tail]; omega
        ·omega)
       try rw [hrow5]
       obtain ⟨r5, hr5⟩ : ∃ r5, row5.length = r5 := ⟨_, rfl⟩
       rw [hr5] at HH HF5 HL5
       have HR5 := Aside0.mk hr5
       try rw [hr5]
       clear hrow5 hr5
       go_wp2_with (at_make; refine stopper ?_)
       try unfold Hold
       refine Kd.R_make Kd.bool (w0 := wc) wc.heap.size 4 rfl (N := 111) rfl 62 (.tmp 110) (.tmp 110) rfl ((n : Nat) : Int) (by first | rfl | simp) (by first | rfl | simp) Try.underlying62 (.bool false) 1 info4 rfl (by decide) (by decide) false (ok := fun _ => True) (okp := fun _ => False) rfl (fun _ h => h.elim) trivial (by omega) (by omega) (Below.refl _ _) (Nat.le_refl _) ?_
       intro v2 wm ho hb hg hat
       rw [Int.toNat_natCast] at ho
       have hown := Kd.own_of_R ho
       rcases hown.2 with ⟨_, h0⟩ | ⟨g2, cap2, cur, rfl, hgb, hgh, _⟩
       ·rw [List.length_replicate] at h0; omega
       rw [List.length_replicate] at ho
       have HOB := Aside0.mk (show Kd.R Kd.bool 4 wm wc.heap.size (fun j => j = g2) (.slice (some ⟨g2, 0, none⟩) n cap2) (outTo row5 n 0) from by
        refine Kd.R_of_own (by have h1 := Kd.own_of_R ho; rw [List.length_replicate] at h1; show World.ownsRow wm wc.heap.size 4 1 _ (outTo row5 n 0).length (encs Value.bool (outTo row5 n 0)); unfold outTo; rw [List.take_zero]; simp only [List.foldl_nil, List.length_replicate]; exact h1) (fun k hk => by simpa [Value.ownBlock] using hk.symm))
       have HBM2 := Aside0.mk hb
       have HGB := Aside0.mk hgb
       simp only [List.length_replicate]
       clear ho hb hg hat hown hgb hgh
       go_wp2
       go_loopw [114] (fun kv wk => ∃ k : Nat, k ≤ r5 ∧ kv = .int .i64 (k : Int) ∧ Aside0 (Kd.R Kd.bool 4 wk wc.heap.size (fun j => j = g2) (.slice (some ⟨g2, 0, none⟩) n cap2) (outTo row5 n k)) ∧ Aside0 (Below wc.heap.size wc wk)) (fun kv _ => r5 - (intOf kv).toNat)
       case atStart => exact ⟨0, Nat.zero_le _, rfl, HOB, HBM2⟩
       case round =>
        obtain ⟨k, hk, rfl, HOK, HBK2⟩ := hrel
        by_cases hkl : k < r5
        ·have hk0 : (0 : Int) ≤ (k : Int) := by omega
         have hk1 : (k : Int) < (r5 : Int) := by omega
         have HF6 := Aside0.mk (Kd.F_step HF5.out (fun j hj _ => HBK2.out.block j hj))
         obtain ⟨ad5, e5, hd5⟩ := Kd.at_int (Kd.F_now HF6.out) (k : Int) hk0 (by omega)
         rw [rd_nth, Int.toNat_natCast] at hd5
         subst e5
         have HOS := Aside0.mk (outTo_step row5 n k (by rw [HR5.out]; exact hkl))
         have hv := HRI5.out (nth row5 k) (getD_mem (by rw [HR5.out]; exact hkl))
         obtain ⟨v, hve⟩ : ∃ v, nth row5 k = v := ⟨_, rfl⟩
         rw [hve] at hd5 HOS hv
         obtain ⟨vn, rfl⟩ := Int.eq_ofNat_of_zero_le hv.1
         have hv0 := hv.1
         have hv1 := hv.2
         have hwk : IntKind.i64.wrap ((k : Int) + 1) = ((k + 1 : Nat) : Int) := by rw [iw64 (by omega) (by have := HL5.out; omega)]; omega
         clear hv hve
         obtain ⟨wo2, hwo2⟩ : ∃ z, z = wr := ⟨_, rfl⟩
         subst hwo2
         go_wp2
         go_loopw [20, 120] (fun cv jv wj => ∃ j : Nat, j ≤ r5 ∧ jv = .int .i64 (j : Int) ∧ cv = .int .i64 (((row5.take j).count (vn : Int) : Nat) : Int) ∧ wj = wo2) (fun _ jv _ => r5 - (intOf jv).toNat)
         case atStart => exact ⟨0, Nat.zero_le _, rfl, by simp, rfl⟩
         case round =>
          obtain ⟨j, hj, rfl, rfl, rfl⟩ := hrel
          obtain ⟨ct, hct⟩ : ∃ ct, (row5.take j).count (vn : Int) = ct := ⟨_, rfl⟩
          have HCT := Aside0.mk hct
          have hctl : ct ≤ 82 := by
           rw [← hct]
           refine Nat.le_trans List.count_le_length ?_
           rw [List.length_take]
           have := HR5.out
           have := HL5.out
           omega
          rw [hct]
          clear hct
          by_cases hjl : j < r5
          ·have hj0 : (0 : Int) ≤ (j : Int) := by omega
           have hj1 : (j : Int) < (r5 : Int) := by omega
           obtain ⟨ad6, e6, hd6⟩ := Kd.at_int (Kd.F_now HF6.out) (j : Int) hj0 (by omega)
           rw [rd_nth, Int.toNat_natCast] at hd6
           cases e6
           have HCS := Aside0.mk (show (row5.take (j + 1)).count (vn : Int) = ct + (if nth row5 j = (vn : Int) then 1 else 0) by
            rw [List.take_succ_eq_append_getElem (by rw [HR5.out]; exact hjl), List.count_append, HCT.out]
            congr 1
            have h1 : j < row5.length := by rw [HR5.out]; exact hjl
            simp [nth, h1, List.count_singleton])
           obtain ⟨z, hz⟩ : ∃ z, nth row5 j = z := ⟨_, rfl⟩
           rw [hz] at hd6 HCS
           have hwj : IntKind.i64.wrap ((j : Int) + 1) = ((j + 1 : Nat) : Int) := by rw [iw64 (by omega) (by have := HL5.out; omega)]; omega
           have hwc2 : IntKind.i64.wrap ((ct : Int) + 1) = ((ct + 1 : Nat) : Int) := by rw [iw64 (by omega) (by omega)]; omega
           clear hz
           by_cases hzv : z = (vn : Int)
           ·subst hzv
            go_wp2
            go_roundw
            case rel => exact ⟨j + 1, by omega, rfl, by rw [HCS.out, if_pos rfl, Int.natCast_add]; rfl, by first | trivial | rfl⟩
            case measure => simp [intOf]; omega
           ·have hzv' : (z == (vn : Int)) = false := by simpa using hzv
            have HZV := Aside0.mk hzv
            clear hzv
            go_wp2
            go_roundw
            case rel => exact ⟨j + 1, by omega, rfl, by rw [HCS.out, if_neg HZV.out]; rfl, by first | trivial | rfl⟩
            case measure => simp [intOf]; omega
          ·have hj1 : ¬ (j : Int) < (r5 : Int) := by omega
           have HJ := Aside0.mk (show row5.count (vn : Int) = ct by
            rw [← HCT.out, List.take_of_length_le (by have := HR5.out; omega)])
           have hlo : (outTo row5 n k).length = n := outTo_len row5 n k
           have hok := HOK.out
           obtain ⟨L, hL⟩ : ∃ L, outTo row5 n k = L := ⟨_, rfl⟩
           rw [hL] at hok hlo
           obtain ⟨hg1, hg2⟩ := Kd.R_cell (h1 := fun _ => rfl) (enc := Value.bool) false (show (Kd.scalar Value.bool (fun _ => rfl)).R 4 wr wc.heap.size (fun j => j = g2) (.slice (some ⟨g2, 0, none⟩) L.length cap2) L by rw [hlo]; exact hok) (vn : Int) hv0 (by rw [hlo]; exact hv1)
           rw [Int.toNat_natCast] at hg1 hg2
           have HOS2 := Aside0.mk (show outTo row5 n (k + 1) = (outTo row5 n k).set vn (decide (ct = 1)) by rw [HOS.out, Int.toNat_natCast, HJ.out])
           clear hlo hok hL
           have hce : ((ct : Int) == 1) = decide (ct = 1) := by
            by_cases e : ct = 1
            ·subst e; rfl
            ·rw [decide_eq_false e]; simp; omega
           go_wp2
           go_roundw
           case rel => exact ⟨k + 1, by omega, rfl, ⟨by rw [HOS2.out]; have h1 := Kd.R_putn HOK.out (vn : Int) (decide (ct = 1)); rw [Int.toNat_natCast] at h1; exact h1⟩, ⟨HBK2.out.setCell HGB.out _⟩⟩
           case measure => simp [intOf]; omega
        ·have hk1 : ¬ (k : Int) < (r5 : Int) := by omega
         have HKR := Aside0.mk (show k = r5 by omega)
         go_wp2
         go_ret
         refine ⟨_, rfl, ?_, ?_⟩
         ·rw [HH.out, ← HKR.out]
          exact Kd.R_mono (Kd.R_lower HOK.out (by have := HBC.out.size; have := HN0.out; have := HBM.out; have := HBN.out; omega)) (fun _ _ => trivial)
         ·rw [HBM.out]
          exact (HB.out.trans (HBC.out.mono (by have := HBN.out; omega))).trans (HBK2.out.mono (by have := HBC.out.size; have := HN0.out; have := HBN.out; omega))
end Go.Proofs.Ytepjhdblmghckaa.G


namespace Go.Proofs.Ytepjhdblmghckaa.G
open Go.Proofs.Ytepjhdblmghckaa.Q Go.Proofs.Ytepjhdblmghckaa.K Go.Proofs.Ytepjhdblmghckaa.Bf
open Go.RowKit Go.Shelf Go.Proofs.YtepjhdblmghckaaW.PrintWords Go.Proofs.YtepjhdblmghckaaW.PrintLast Go.Proofs.YtepjhdblmghckaaW.PrintMore
set_option linter.unusedVariables false
set_option linter.unusedSimpArgs false
def anyNew (now is_ : List Bool) : Bool := (List.range now.length).any fun k => now.getD k false && !is_.getD k false
def badN (l : List Cmp) (k : Nat) : Nat := (List.range k).countP fun i => (l.getD i ([], false)).2
def hurN (is_ : List Bool) (k : Nat) : Nat := (List.range k).countP fun i => is_.getD i false
def supN (p : List Int) (l : List Cmp) (is_ : List Bool) (k : Nat) : Nat := (List.range k).countP fun i => is_.getD i false && anyNew (hurdF p l (i : Int)) is_
theorem countP_step (f : Nat → Bool) (k : Nat) : (List.range (k + 1)).countP f = (List.range k).countP f + (if f k = true then 1 else 0) := by
 rw [List.range_succ, List.countP_append, List.countP_singleton]
theorem countP_le (f : Nat → Bool) (k : Nat) : (List.range k).countP f ≤ k := Nat.le_trans List.countP_le_length (by simp)
def talF (p : List Int) (l : List Cmp) : Nat × Nat × Nat × Bool :=
 (l.length, badN l l.length, hurN (hurdF p l (-1)) l.length, decide (hurN (hurdF p l (-1)) l.length % 2 = 1) && decide (supN p l (hurdF p l (-1)) l.length = hurN (hurdF p l (-1)) l.length))
theorem hurdF_len (p : List Int) (l : List Cmp) (wo : Int) : (hurdF p l wo).length = l.length := outTo_len _ _ _
structure CmpOk (n : Nat) (l : List Cmp) : Prop where
 ne : 0 < l.length
 len : l.length ≤ 100000
 mem : ∀ x, x ∈ l → x.1.length ≤ 100000 ∧ ∀ y, y ∈ x.1 → 0 ≤ y ∧ y ≤ (n : Int)
set_option maxRecDepth 100000 in
set_option maxHeartbeats 8000000 in
theorem tallied_calls (b base : Nat) (s : List Int) (hs : s.length ≤ 40) (hms : ∀ x, x ∈ s → x ≠ 0 ∧ -(s.length : Int) ≤ x ∧ x ≤ s.length) (w : World) (hP : PicOk base b s w) (T : Nat) (hT : T ≤ 100000) (hTot : Tot s.length T (circL s)) (hne : circL s ≠ []) (hcm : CmpOk s.length (cmpL s)) :
  Calls Try.prog 61 #[.pointer (some ⟨b, 0, none⟩)] w fun e w' => e = .returned (.agg #[.int .i64 ((talF (picL s) (cmpL s)).1 : Nat), .int .i64 ((talF (picL s) (cmpL s)).2.1 : Nat), .int .i64 ((talF (picL s) (cmpL s)).2.2.1 : Nat), .bool (talF (picL s) (cmpL s)).2.2.2]) ∧ Below w.heap.size w w' := by
 have HP := Aside0.mk hP
 have HCM := Aside0.mk hcm
 have HMS := Aside0.mk hms
 unfold talF
 simp only
 have HCC := Aside0.mk (fun (W : World) (hW : Below w.heap.size w W) => components_calls b base s hs hms W (hP.below hW) T hT hTot hne)
 have HHC := Aside0.mk (fun (A : Option Addr) (c bl : Nat) (wo : Int) (hwo : -1 ≤ wo ∧ wo ≤ 100000) (W : World) (hW : Below w.heap.size w W) (hl : Kd.R kCmp 110 W bl (fun _ => True) (.slice A (cmpL s).length c) (cmpL s)) => hurdles_calls b base s hs hms W (hP.below hW) A c (cmpL s) bl hl hcm.ne hcm.len hcm.mem wo hwo)
 obtain ⟨l, hl⟩ : ∃ l, cmpL s = l := ⟨_, rfl⟩
 rw [hl] at HCM HCC HHC ⊢
 obtain ⟨p, hp⟩ : ∃ p, picL s = p := ⟨_, rfl⟩
 rw [hp] at HHC ⊢
 obtain ⟨n, hn⟩ : ∃ n, l.length = n := ⟨_, rfl⟩
 have HN := Aside0.mk hn
 rw [hn] at HHC ⊢
 have hn0 : 0 < n := by rw [← hn]; exact HCM.out.ne
 have hn1 : n ≤ 100000 := by rw [← hn]; exact HCM.out.len
 obtain ⟨W0, hW0⟩ : ∃ W0, w.alloc (.cells #[.int .i64 0, .int .i64 0, .int .i64 0, .bool false] 78) = W0 := ⟨_, rfl⟩
 have hB0 : Below w.heap.size w W0 := by rw [← hW0]; exact (Below.refl _ w).alloc (Nat.le_refl _) _
 have HB0 := Aside0.mk hB0
 have HT0 := Aside0.mk (show Blk W0 w.heap.size #[.int .i64 0, .int .i64 0, .int .i64 0, .bool false] 78 by rw [← hW0]; exact Blk.new _ _ _)
 clear hP hcm hms hTot hne hl hp hn hB0
 go_enter Try.func61, Try.ntmps61
 go_upto_region 1 with fail
 try rw [hW0]
 clear hW0
 go_wp2_with (go_at_call 78; refine stopper ?_)
 try unfold Hold
 refine (HCC.out W0 HB0.out).mono ?_
 rintro e w1 ⟨v1, rfl, hv1, hb1⟩
 obtain ⟨A, c, ev⟩ := Kd.R_slice hv1
 rw [HN.out] at ev
 subst ev
 have HV1 := Aside0.mk hv1
 have HB1 := Aside0.mk hb1
 clear hv1 hb1
 go_upto_region 3 with fail
 obtain ⟨W2, hW2⟩ : ∃ W2, w1.alloc (.cells #[.int .i64 (n : Int), .int .i64 0, .int .i64 0, .bool false] 78) = W2 := ⟨_, rfl⟩
 obtain ⟨bt, hbt⟩ : ∃ bt, w1.heap.size = bt := ⟨_, rfl⟩
 have HT2 := Aside0.mk (show Blk W2 bt #[.int .i64 (n : Int), .int .i64 0, .int .i64 0, .bool false] 78 by rw [← hW2, ← hbt]; exact Blk.new _ _ _)
 have HB2 := Aside0.mk (show Below bt w1 W2 by rw [← hW2, ← hbt]; exact (Below.refl _ _).alloc (Nat.le_refl _) _)
 have HBT := Aside0.mk hbt
 have HS2 := Aside0.mk (show W2.heap.size = w1.heap.size + 1 by rw [← hW2]; simp)
 try rw [hW2]
 try rw [hbt]
 clear hW2 hbt
 go_wp2_with (go_at_call 79; refine stopper ?_)
 try unfold Hold
 have hsz1 : W2.heap.size = bt + 1 ∧ w.heap.size < bt ∧ W0.heap.size ≤ bt := by
  have h1 := HT2.out.lt
  have h2 := HB1.out.size
  have h3 := HT0.out.lt
  have h4 := HBT.out
  have h5 : W2.heap.size = w1.heap.size + 1 := HS2.out
  exact ⟨by omega, by omega, by omega⟩
 have HSZ := Aside0.mk hsz1
 have HBW2 := Aside0.mk (show Below w.heap.size w W2 from (HB0.out.trans (HB1.out.mono (by have := HT0.out.lt; omega))).trans (HB2.out.mono (by have := hsz1.2.1; omega)))
 refine (HHC.out A c W0.heap.size (-1) ⟨by omega, by omega⟩ W2 HBW2.out (Kd.R_below HV1.out (by rw [HBT.out]; exact HB2.out))).mono ?_
 rintro e w3 ⟨v3, rfl, hv3, hb3⟩
 have hil : (hurdF p l (-1)).length = n := by rw [hurdF_len, HN.out]
 obtain ⟨is_, his⟩ : ∃ is_, hurdF p l (-1) = is_ := ⟨_, rfl⟩
 rw [his] at hv3 hil
 obtain ⟨Ai, ci, ev⟩ := Kd.R_slice hv3
 rw [hil] at ev
 subst ev
 have HIL := Aside0.mk hil
 have HIS := Aside0.mk his
 have HLR := Aside0.mk (fun (W : World) (hr : Rest bt w3 W) => Kd.R_mono (Kd.R_step (Kd.R_bound (Kd.R_below HV1.out (show Below w1.heap.size w1 W2 by rw [HBT.out]; exact HB2.out) |> fun h => (Kd.R_step (Kd.R_bound HV1.out) (fun k hk hl => HB2.out.block k (by have := hk.2.2.1; have := HBT.out; omega))))) (w1 := W) (fun k hk hl => (hr.other k (by have := hb3.size; omega) (by have := hk.1.2.2.1; have := HBT.out; omega)).trans (hb3.block k hl))) (fun k _ => trivial) (ok' := fun _ => True))
 have HIR := Aside0.mk (fun (W : World) (hr : Rest bt w3 W) => (Kd.R_reads' (Kd.R_step (Kd.R_bound hv3) (w1 := W) (fun k hk hl => hr.other k hl (by have := hk.2.1; have := HSZ.out; omega)))).2.2)
 have HBW3 := Aside0.mk (HBW2.out.trans (hb3.mono (by have := HSZ.out; omega)))
 have HT3 := Aside0.mk (HT2.out.below hb3 (by have := HSZ.out; omega))
 have HR3 := Aside0.mk (show Blk w3 w.heap.size #[.int .i64 0, .int .i64 0, .int .i64 0, .bool false] 78 from ((HT0.out.below HB1.out (HT0.out.lt)).below HB2.out (by have := HSZ.out; omega)).below hb3 (by have := HSZ.out; omega))
 have HS3 := Aside0.mk (show bt < w3.heap.size by have := hb3.size; have := HSZ.out; omega)
 clear hv3 hb3 hil his hsz1
 go_wp2
 go_loopw [6, 21] (fun sv iv wr => ∃ i : Nat, i ≤ n ∧ iv = .int .i64 (i : Int) ∧ sv = .int .i64 ((supN p l is_ i : Nat) : Int) ∧ Aside0 (Blk wr bt #[.int .i64 (n : Int), .int .i64 ((badN l i : Nat) : Int), .int .i64 ((hurN is_ i : Nat) : Int), .bool false] 78) ∧ Aside0 (Rest bt w3 wr)) (fun _ iv _ => n - (intOf iv).toNat)
 case atStart => exact ⟨0, Nat.zero_le _, rfl, rfl, HT3, ⟨Rest.refl _ _⟩⟩
 case round =>
  obtain ⟨i, hi, rfl, rfl, HT, HR⟩ := hrel
  by_cases hlt : i < n
  ·have hi0 : (0 : Int) ≤ (i : Int) := by omega
   have hi1 : (i : Int) < (n : Int) := by omega
   obtain ⟨bb, A', c', rfl, _, _, hc0, hc1⟩ := cmp_at (HLR.out wr HR.out) i hlt
   have HSB := Aside0.mk (countP_step (fun i => (l.getD i ([], false)).2) i)
   have HSH := Aside0.mk (countP_step (fun i => is_.getD i false) i)
   have HSS := Aside0.mk (countP_step (fun i => is_.getD i false && anyNew (hurdF p l (i : Int)) is_) i)
   have HLS := Aside0.mk (show badN l i ≤ i ∧ hurN is_ i ≤ i ∧ supN p l is_ i ≤ i from ⟨countP_le _ _, countP_le _ _, countP_le _ _⟩)
   obtain ⟨bd, hbd⟩ : ∃ bd, (l.getD i ([], false)).2 = bd := ⟨_, rfl⟩
   obtain ⟨xn, hxn⟩ : ∃ xn, (l.getD i ([], false)).1.length = xn := ⟨_, rfl⟩
   rw [hxn] at hc0
   rw [hbd] at hc1
   have HBD := Aside0.mk hbd
   obtain ⟨bN, hbN⟩ : ∃ bN, badN l i = bN := ⟨_, rfl⟩
   obtain ⟨hN, hhN⟩ : ∃ hN, hurN is_ i = hN := ⟨_, rfl⟩
   obtain ⟨sN, hsN⟩ : ∃ sN, supN p l is_ i = sN := ⟨_, rfl⟩
   rw [hbN, hhN, hsN] at HLS
   rw [hbN, hhN] at HT
   have HBN := Aside0.mk hbN
   have HHN := Aside0.mk hhN
   have HSN := Aside0.mk hsN
   have hls := HLS.out
   have hwb : IntKind.i64.wrap ((bN : Int) + 1) = ((bN + 1 : Nat) : Int) := by rw [iw64 (by omega) (by omega)]; omega
   have hwh : IntKind.i64.wrap ((hN : Int) + 1) = ((hN + 1 : Nat) : Int) := by rw [iw64 (by omega) (by omega)]; omega
   have hws : IntKind.i64.wrap ((sN : Int) + 1) = ((sN + 1 : Nat) : Int) := by rw [iw64 (by omega) (by omega)]; omega
   have hwt : IntKind.i64.wrap ((i : Int) + 1) = ((i + 1 : Nat) : Int) := by rw [iw64 (by omega) (by omega)]; omega
   try rw [hsN]
   clear hbd hxn hbN hhN hsN hls
   go_upto_region 8 with fail
   obtain ⟨W5, hW5⟩ : ∃ W5, wr.alloc (.cells #[.slice A' xn c', .bool bd] 110) = W5 := ⟨_, rfl⟩
   have hq1 : W5.cell? ⟨wr.heap.size, 1, none⟩ = some (.bool bd) := by rw [← hW5]; exact (Blk.new wr _ _).cell 1 rfl
   have HB5 := Aside0.mk (show Below wr.heap.size wr W5 by rw [← hW5]; exact (Below.refl _ _).alloc (Nat.le_refl _) _)
   have HT5 := Aside0.mk (HT.out.below HB5.out HT.out.lt)
   have HR5 := Aside0.mk (HR.out.of_below HR.out.size HB5.out)
   try rw [hW5]
   clear hW5 hc0 hc1
   go_upto_if 27 with fail
   go_cut [] from 22 to 62 (fun wc => Aside0 (Blk wc bt #[.int .i64 (n : Int), .int .i64 ((badN l (i + 1) : Nat) : Int), .int .i64 (hN : Int), .bool false] 78) ∧ Aside0 (Rest bt w3 wc))
   case first =>
    have e0 := HT5.out.cell 1 (v := .int .i64 (bN : Int)) rfl
    have e1 := HT5.out.free 1
    have HSB2 := Aside0.mk (show badN l (i + 1) = bN + (if bd = true then 1 else 0) by rw [← HBN.out, ← HBD.out]; exact HSB.out)
    cases bd with
    | true =>
     go_wp2
     go_meet
     case rel => exact ⟨⟨by rw [HSB2.out]; simp only [if_true]; exact HT5.out.set 1 _⟩, ⟨⟨HR5.out.os, HR5.out.tape, HR5.out.output, by simpa [World.setCell] using HR5.out.size, fun k hk hkb => (Below.heap_setCell _ _ _ _ hkb).trans (HR5.out.other k hk hkb)⟩⟩⟩
    | false =>
     go_wp2
     go_meet
     case rel => exact ⟨⟨by rw [HSB2.out]; exact HT5.out⟩, HR5⟩
   case rest =>
    obtain ⟨HTC, HRC⟩ := hcut
    obtain ⟨ad6, e6, hd6⟩ := Kd.at_bool (HIR.out wc HRC.out) (i : Int) hi0 (by have := HIL.out; omega)
    have hgd : rdOf false is_ (i : Int) = is_.getD i false := by unfold rdOf; rw [Int.toNat_natCast]
    rw [hgd, Int.toNat_natCast] at hd6
    subst e6
    obtain ⟨bi, hbi⟩ : ∃ bi, is_.getD i false = bi := ⟨_, rfl⟩
    rw [hbi] at hd6
    have HBI := Aside0.mk hbi
    clear hgd hbi hq1
    cases bi with
    | false =>
     have HH1 := Aside0.mk (show hurN is_ (i + 1) = hN by rw [← HHN.out]; show (List.range (i + 1)).countP _ = _; rw [HSH.out, HBI.out]; rfl)
     have HS1 := Aside0.mk (show supN p l is_ (i + 1) = sN by rw [← HSN.out]; show (List.range (i + 1)).countP _ = _; rw [HSS.out, HBI.out]; rfl)
     go_wp2
     go_roundw
     case rel => exact ⟨i + 1, by omega, rfl, by rw [HS1.out], ⟨by rw [HH1.out]; exact HTC.out⟩, HRC⟩
     case measure => simp [intOf]; omega
    | true =>
     have HH1 := Aside0.mk (show hurN is_ (i + 1) = hN + 1 by rw [← HHN.out]; show (List.range (i + 1)).countP _ = _; rw [HSH.out, HBI.out]; rfl)
     have HS1 := Aside0.mk (show supN p l is_ (i + 1) = sN + (if anyNew (hurdF p l (i : Int)) is_ = true then 1 else 0) by rw [← HSN.out]; show (List.range (i + 1)).countP _ = _; rw [HSS.out, HBI.out, Bool.true_and]; rfl)
     have e0 := HTC.out.cell 2 (v := .int .i64 (hN : Int)) rfl
     have e1 := HTC.out.free 2
     go_upto_region 12 with fail
     obtain ⟨W6, hW6⟩ : ∃ W6, wc.setCell ⟨bt, 2, none⟩ (.int .i64 ((hN : Int) + 1)) = W6 := ⟨_, rfl⟩
     have HT6 := Aside0.mk (show Blk W6 bt #[.int .i64 (n : Int), .int .i64 ((badN l (i + 1) : Nat) : Int), .int .i64 ((hN + 1 : Nat) : Int), .bool false] 78 by rw [← hW6]; exact HTC.out.set 2 _)
     have HR6 := Aside0.mk (show Rest bt w3 W6 by
      rw [← hW6]
      exact ⟨HRC.out.os, HRC.out.tape, HRC.out.output, by simpa [World.setCell] using HRC.out.size, fun k hk hkb => (Below.heap_setCell _ _ _ _ hkb).trans (HRC.out.other k hk hkb)⟩)
     have HB6 := Aside0.mk (show Below w.heap.size w W6 from HR6.out.below HBW3.out HBW3.out.size (by have := HSZ.out; omega))
     try rw [hW6]
     clear hW6 e0 e1 hd6
     go_wp2_with (go_at_call 79; refine stopper ?_)
     try unfold Hold
     refine (HHC.out (some ⟨bb, 0, none⟩) c W0.heap.size (i : Int) ⟨by omega, by omega⟩ W6 HB6.out (HLR.out W6 HR6.out)).mono ?_
     rintro e w7 ⟨v7, rfl, hv7, hb7⟩
     have hnl : (hurdF p l (i : Int)).length = n := by rw [hurdF_len, HN.out]
     obtain ⟨now, hnow⟩ : ∃ now, hurdF p l (i : Int) = now := ⟨_, rfl⟩
     rw [hnow] at hv7 hnl HS1
     obtain ⟨Aw, cw, ev⟩ := Kd.R_slice hv7
     rw [hnl] at ev
     subst ev
     have HNC := Aside0.mk (Kd.R_reads' hv7).2.2
     have HNL := Aside0.mk hnl
     have HT7 := Aside0.mk (HT6.out.below hb7 HT6.out.lt)
     have HR7 := Aside0.mk (HR6.out.of_below HR6.out.size hb7)
     clear hv7 hb7 hnl hnow
     go_wp2
     obtain ⟨wo_, hwo_⟩ : ∃ z, z = wr := ⟨_, rfl⟩
     subst hwo_
     go_loopw [6, 46] (fun sv kv wk => ∃ k : Nat, k ≤ n ∧ kv = .int .i64 (k : Int) ∧ sv = .int .i64 (sN : Int) ∧ wk = w7 ∧ Aside0 (∀ j, j < k → (now.getD j false && !is_.getD j false) = false)) (fun _ kv _ => n - (intOf kv).toNat)
     case atStart => exact ⟨0, Nat.zero_le _, rfl, rfl, rfl, ⟨fun j hj => absurd hj (Nat.not_lt_zero _)⟩⟩
     case round =>
      obtain ⟨k, hk, rfl, rfl, rfl, HA⟩ := hrel
      by_cases hkl : k < n
      ·have hk0 : (0 : Int) ≤ (k : Int) := by omega
       have hk1 : (k : Int) < (n : Int) := by omega
       obtain ⟨adw, ew, hdw⟩ := Kd.at_bool HNC.out (k : Int) hk0 (by have := HNL.out; omega)
       obtain ⟨adi, ei, hdi⟩ := Kd.at_bool (HIR.out wr HR7.out) (k : Int) hk0 (by have := HIL.out; omega)
       have hg1 : rdOf false now (k : Int) = now.getD k false := by unfold rdOf; rw [Int.toNat_natCast]
       have hg2 : rdOf false is_ (k : Int) = is_.getD k false := by unfold rdOf; rw [Int.toNat_natCast]
       rw [hg1, Int.toNat_natCast] at hdw
       rw [hg2, Int.toNat_natCast] at hdi
       subst ew
       cases ei
       have hwk : IntKind.i64.wrap ((k : Int) + 1) = ((k + 1 : Nat) : Int) := by rw [iw64 (by omega) (by omega)]; omega
       obtain ⟨nk, hnk⟩ : ∃ nk, now.getD k false = nk := ⟨_, rfl⟩
       obtain ⟨ik, hik⟩ : ∃ ik, is_.getD k false = ik := ⟨_, rfl⟩
       rw [hnk] at hdw
       rw [hik] at hdi
       have HNK := Aside0.mk hnk
       have HIK := Aside0.mk hik
       clear hg1 hg2 hnk hik
       cases nk with
       | false =>
        go_wp2
        go_roundw
        case rel => exact ⟨k + 1, by omega, rfl, rfl, by first | trivial | rfl, ⟨fun j hj => by
         by_cases e : j = k
         ·subst e; rw [HNK.out]; rfl
         ·exact HA.out j (by omega)⟩⟩
        case measure => simp [intOf]; omega
       | true =>
        cases ik with
        | true =>
         go_wp2
         go_roundw
         case rel => exact ⟨k + 1, by omega, rfl, rfl, by first | trivial | rfl, ⟨fun j hj => by
          by_cases e : j = k
          ·subst e; rw [HIK.out]; simp
          ·exact HA.out j (by omega)⟩⟩
         case measure => simp [intOf]; omega
        | false =>
         have HAN := Aside0.mk (show anyNew now is_ = true by
          unfold anyNew
          rw [List.any_eq_true]
          exact ⟨k, List.mem_range.2 (by rw [HNL.out]; exact hkl), by rw [HNK.out, HIK.out]; rfl⟩)
         go_wp2
         go_roundw
         case rel => exact ⟨i + 1, by omega, rfl, by rw [HS1.out, HAN.out]; simp, ⟨by rw [HH1.out]; exact HT7.out⟩, HR7⟩
         case measure => simp [intOf]; omega
      ·have hk1 : ¬ (k : Int) < (n : Int) := by omega
       have HAN := Aside0.mk (show anyNew now is_ = false by
        unfold anyNew
        rw [List.any_eq_false]
        intro j hj
        rw [List.mem_range, HNL.out] at hj
        rw [HA.out j (by omega)]
        simp)
       go_wp2
       go_roundw
       case rel => exact ⟨i + 1, by omega, rfl, by rw [HS1.out, HAN.out]; simp, ⟨by rw [HH1.out]; exact HT7.out⟩, HR7⟩
       case measure => simp [intOf]; omega
  ·have hi1 : ¬ (i : Int) < (n : Int) := by omega
   have HIN := Aside0.mk (show i = n by omega)
   have hT := HT.out
   rw [HIN.out] at hT ⊢
   obtain ⟨bN, hbN⟩ : ∃ bN, badN l n = bN := ⟨_, rfl⟩
   obtain ⟨hN, hhN⟩ : ∃ hN, hurN is_ n = hN := ⟨_, rfl⟩
   obtain ⟨sN, hsN⟩ : ∃ sN, supN p l is_ n = sN := ⟨_, rfl⟩
   have HLS := Aside0.mk (show hN ≤ n ∧ sN ≤ n from ⟨by rw [← hhN]; exact countP_le _ _, by rw [← hsN]; exact countP_le _ _⟩)
   have HBN := Aside0.mk hbN
   have HHN := Aside0.mk (show hurN (hurdF p l (-1)) n = hN by rw [HIS.out]; exact hhN)
   have HSN := Aside0.mk (show supN p l (hurdF p l (-1)) n = sN by rw [HIS.out]; exact hsN)
   rw [hbN, hhN] at hT
   rw [hsN]
   have HTT := Aside0.mk hT
   have e2 := hT.cell 2 (v := .int .i64 (hN : Int)) rfl
   have e3 := hT.cell 3 (v := .bool false) rfl
   have f3 := hT.free 3
   have hR0 : Blk wr w.heap.size #[.int .i64 0, .int .i64 0, .int .i64 0, .bool false] 78 := (HR.out.other w.heap.size HR3.out.lt (by have := HSZ.out; omega)).trans HR3.out
   have HR0 := Aside0.mk hR0
   have HBW := Aside0.mk (show Below w.heap.size w wr from HR.out.below HBW3.out HBW3.out.size (by have := HSZ.out; omega))
   have hm0 : 0 ≤ (hN : Int) := by omega
   have hwm : IntKind.i64.wrap ((hN : Int) % 2) = (hN : Int) % 2 := iw64 (by omega) (by omega)
   have hwm2 : IntKind.i64.wrap ((hN : Int).tmod 2) = (hN : Int) % 2 := by rw [Int.tmod_eq_emod_of_nonneg hm0]; exact hwm
   have hne : w.heap.size ≠ bt := by have := HSZ.out; omega
   have HNEQ := Aside0.mk hne
   clear hT hbN hhN hsN hR0
   obtain ⟨q1, hq1⟩ : ∃ q1, ((hN : Int) % 2 == 1) = q1 := ⟨_, rfl⟩
   have HQ1 := Aside0.mk (show decide (hN % 2 = 1) = q1 by
    rw [← hq1]
    by_cases e : hN % 2 = 1
    ·rw [decide_eq_true e]; symm; simp; omega
    ·rw [decide_eq_false e]; symm; simp; omega)
   obtain ⟨q2, hq2⟩ : ∃ q2, ((sN : Int) == (hN : Int)) = q2 := ⟨_, rfl⟩
   have HQ2 := Aside0.mk (show decide (sN = hN) = q2 by
    rw [← hq2]
    by_cases e : sN = hN
    ·rw [decide_eq_true e, e]; symm; simp
    ·rw [decide_eq_false e]; symm; simp; omega)
   go_upto_region 19 with fail
   cases q1 with
   | false =>
    go_upto_region 20 with fail
    obtain ⟨W8, hW8⟩ : ∃ W8, wr.setCell ⟨bt, 3, none⟩ (.bool false) = W8 := ⟨_, rfl⟩
    have hT8 : Blk W8 bt #[.int .i64 (n : Int), .int .i64 (bN : Int), .int .i64 (hN : Int), .bool false] 78 := by rw [← hW8]; exact HTT.out.set 3 _
    have HR8 := Aside0.mk (show Blk W8 w.heap.size #[.int .i64 0, .int .i64 0, .int .i64 0, .bool false] 78 by rw [← hW8]; exact HR0.out.setOther HNEQ.out _)
    have HB8 := Aside0.mk (show Below w.heap.size w W8 by rw [← hW8]; exact HBW.out.setCell (by have := HSZ.out; simp only; omega) _)
    have t0 := hT8.cell 0 (v := .int .i64 (n : Int)) rfl
    have t1 := hT8.cell 1 (v := .int .i64 (bN : Int)) rfl
    have t2 := hT8.cell 2 (v := .int .i64 (hN : Int)) rfl
    have t3 := hT8.cell 3 (v := .bool false) rfl
    have r0 := HR8.out.cell 0 (v := .int .i64 0) rfl
    have r1 := HR8.out.cell 1 (v := .int .i64 0) rfl
    have r2 := HR8.out.cell 2 (v := .int .i64 0) rfl
    have r3 := HR8.out.cell 3 (v := .bool false) rfl
    have g0 := HR8.out.free 0
    have g1 := HR8.out.free 1
    have g2 := HR8.out.free 2
    have g3 := HR8.out.free 3
    try rw [hW8]
    clear hW8 hT8 e2 e3 f3 hwm hwm2 hq1 hq2
    go_wp2
    refine bodyPost_ret (results_cell_row rfl _ _ w.heap.size 78 #[.int .i64 (n : Int), .int .i64 (bN : Int), .int .i64 (hN : Int), .bool false] (0, 0) _ rfl (show Blk _ w.heap.size _ 78 from by simpa using (((HR8.out.set 0 (.int .i64 (n : Int))).set 1 (.int .i64 (bN : Int))).set 2 (.int .i64 (hN : Int))).set 3 (.bool false)) Try.underlying78 rfl (by kernel_rfl)) rfl ⟨by rw [HBN.out, HHN.out, HSN.out, HQ1.out, HQ2.out]; simp, (((HB8.out.setCell (Nat.le_refl _) _).setCell (Nat.le_refl _) _).setCell (Nat.le_refl _) _).setCell (Nat.le_refl _) _⟩
   | true =>
    go_upto_region 20 with fail
    obtain ⟨W8, hW8⟩ : ∃ W8, wr.setCell ⟨bt, 3, none⟩ (.bool q2) = W8 := ⟨_, rfl⟩
    have hT8 : Blk W8 bt #[.int .i64 (n : Int), .int .i64 (bN : Int), .int .i64 (hN : Int), .bool q2] 78 := by rw [← hW8]; exact HTT.out.set 3 _
    have HR8 := Aside0.mk (show Blk W8 w.heap.size #[.int .i64 0, .int .i64 0, .int .i64 0, .bool false] 78 by rw [← hW8]; exact HR0.out.setOther HNEQ.out _)
    have HB8 := Aside0.mk (show Below w.heap.size w W8 by rw [← hW8]; exact HBW.out.setCell (by have := HSZ.out; simp only; omega) _)
    have t0 := hT8.cell 0 (v := .int .i64 (n : Int)) rfl
    have t1 := hT8.cell 1 (v := .int .i64 (bN : Int)) rfl
    have t2 := hT8.cell 2 (v := .int .i64 (hN : Int)) rfl
    have t3 := hT8.cell 3 (v := .bool q2) rfl
    have r0 := HR8.out.cell 0 (v := .int .i64 0) rfl
    have r1 := HR8.out.cell 1 (v := .int .i64 0) rfl
    have r2 := HR8.out.cell 2 (v := .int .i64 0) rfl
    have r3 := HR8.out.cell 3 (v := .bool false) rfl
    have g0 := HR8.out.free 0
    have g1 := HR8.out.free 1
    have g2 := HR8.out.free 2
    have g3 := HR8.out.free 3
    try rw [hW8]
    clear hW8 hT8 e2 e3 f3 hwm hwm2 hq1 hq2
    go_wp2
    refine bodyPost_ret (results_cell_row rfl _ _ w.heap.size 78 #[.int .i64 (n : Int), .int .i64 (bN : Int), .int .i64 (hN : Int), .bool q2] (0, 0) _ rfl (show Blk _ w.heap.size _ 78 from by simpa using (((HR8.out.set 0 (.int .i64 (n : Int))).set 1 (.int .i64 (bN : Int))).set 2 (.int .i64 (hN : Int))).set 3 (.bool q2)) Try.underlying78 rfl (by kernel_rfl)) rfl ⟨by rw [HBN.out, HHN.out, HSN.out, HQ1.out, HQ2.out]; simp, (((HB8.out.setCell (Nat.le_refl _) _).setCell (Nat.le_refl _) _).setCell (Nat.le_refl _) _).setCell (Nat.le_refl _) _⟩
end Go.Proofs.Ytepjhdblmghckaa.G


namespace Go.Proofs.Ytepjhdblmghckaa.G
open Go.Proofs.Ytepjhdblmghckaa.Q Go.Proofs.Ytepjhdblmghckaa.K Go.Proofs.Ytepjhdblmghckaa.Bf
open Go.RowKit Go.Shelf Go.Proofs.YtepjhdblmghckaaW.PrintWords Go.Proofs.YtepjhdblmghckaaW.PrintLast Go.Proofs.YtepjhdblmghckaaW.PrintMore
set_option linter.unusedVariables false
set_option linter.unusedSimpArgs false
theorem hop_lt {n : Nat} {p pl : List Int} (hp : ∀ q, 0 ≤ nth p q ∧ nth p q < 2 * (n : Int) + 2) (x : Nat) : hop p pl x < 2 * n + 2 := by
 unfold hop
 have := hp ((nth pl (x ^^^ 1)).toNat ^^^ 1)
 omega
theorem folF_tot {n : Nat} {p pl : List Int} (hp : ∀ q, 0 ≤ nth p q ∧ nth p q < 2 * (n : Int) + 2) : ∀ (k x : Nat) (seen : List Bool) (out : List Int), x < 2 * n + 2 → seen.length = n + 1 → (∀ y, y ∈ out → 0 ≤ y ∧ y ≤ (n : Int)) →
  (folF p pl k x seen out).1.length + unseen (folF p pl k x seen out).2 = out.length + unseen seen ∧ (∀ y, y ∈ (folF p pl k x seen out).1 → 0 ≤ y ∧ y ≤ (n : Int)) ∧ out.length ≤ (folF p pl k x seen out).1.length
 | 0, x, seen, out, _, _, ho => ⟨rfl, ho, Nat.le_refl _⟩
 | k + 1, x, seen, out, hx, hs, ho => by
  rw [folF]
  by_cases hsq : seen.getD (x / 2) false = true
  ·rw [if_pos hsq]; exact ⟨rfl, ho, Nat.le_refl _⟩
  ·rw [if_neg hsq]
   rw [Bool.not_eq_true] at hsq
   have h1 := unseen_set (seen := seen) (j := x / 2) (by omega) hsq
   obtain ⟨i1, i2, i3⟩ := folF_tot hp k (hop p pl x) (seen.set (x / 2) true) (out ++ [((x / 2 : Nat) : Int)]) (hop_lt hp x) (by rw [List.length_set]; exact hs) (fun y hy => by
    rcases List.mem_append.1 hy with hy | hy
    ·exact ho y hy
    ·rw [List.mem_singleton] at hy; omega)
   refine ⟨?_, i2, ?_⟩
   ·rw [i1, List.length_append, List.length_singleton]; omega
   ·rw [List.length_append, List.length_singleton] at i3; omega
structure CirT (n k : Nat) (st : List Bool × List (List Int)) : Prop where
 len : st.1.length = n + 1
 sum : (st.2.map List.length).sum + unseen st.1 = n + 1
 ne : ∀ c, c ∈ st.2 → 0 < c.length
 mem : ∀ c, c ∈ st.2 → ∀ x, x ∈ c → 0 ≤ x ∧ x ≤ (n : Int)
theorem cirTo_tot {n : Nat} {p pl : List Int} (hp : ∀ q, 0 ≤ nth p q ∧ nth p q < 2 * (n : Int) + 2) : ∀ k, k ≤ n + 1 → CirT n k (cirTo p pl n k)
 | 0, _ => by
  refine ⟨by simp [cirTo], ?_, fun c hc => ?_, fun c hc => ?_⟩
  ·simp [cirTo, unseen, List.countP_replicate]
  ·simp [cirTo] at hc
  ·simp [cirTo] at hc
 | k + 1, hk => by
  have h : CirT n k (cirTo p pl n k) := cirTo_tot hp k (by omega)
  rw [cirTo_step]
  unfold cirStep
  by_cases hsq : (cirTo p pl n k).1.getD k false = true
  ·rw [if_pos hsq]; exact ⟨h.len, h.sum, h.ne, h.mem⟩
  ·rw [if_neg hsq]
   obtain ⟨st, hst⟩ : ∃ st, cirTo p pl n k = st := ⟨_, rfl⟩
   rw [hst] at h hsq ⊢
   obtain ⟨i1, i2, i3⟩ := folF_tot (pl := pl) hp (unseen st.1 + 1) (2 * k) st.1 [] (by omega) h.len (fun y hy => by cases hy)
   rw [Bool.not_eq_true] at hsq
   have hpos : 0 < (folF p pl (unseen st.1 + 1) (2 * k) st.1 []).1.length := by
    have e : folF p pl (unseen st.1 + 1) (2 * k) st.1 [] = folF p pl (unseen st.1) (hop p pl (2 * k)) (st.1.set k true) ([] ++ [((k : Nat) : Int)]) := by
     rw [folF, show 2 * k / 2 = k by omega, if_neg (by rw [hsq]; simp)]
    have := (folF_tot (pl := pl) hp (unseen st.1) (hop p pl (2 * k)) (st.1.set k true) ([] ++ [((k : Nat) : Int)]) (hop_lt hp _) (by rw [List.length_set]; exact h.len) (fun y hy => by simp at hy; omega)).2.2
    rw [← e] at this
    simp only [List.nil_append, List.length_singleton] at this
    exact this
   refine ⟨by simp only; rw [folF_len]; exact h.len, ?_, fun c hc => ?_, fun c hc => ?_⟩
   ·simp only [List.map_append, List.map_cons, List.map_nil, List.sum_append, List.sum_cons, List.sum_nil, sortL_len]
    have h2 := h.sum
    simp only [List.length_nil, Nat.zero_add] at i1
    omega
   ·rcases List.mem_append.1 hc with hc | hc
    ·exact h.ne c hc
    ·rw [List.mem_singleton] at hc
     rw [hc, sortL_len]
     exact hpos
   ·rcases List.mem_append.1 hc with hc | hc
    ·exact h.mem c hc
    ·rw [List.mem_singleton] at hc
     rw [hc]
     intro x hx
     exact i2 x ((List.mergeSort_perm ..).mem_iff.1 hx)
theorem circL_tot {s : List Int} (hm : ∀ x, x ∈ s → x ≠ 0 ∧ -(s.length : Int) ≤ x ∧ x ≤ s.length) : Tot s.length (s.length + 1) (circL s) := by
 have h := cirTo_tot (pl := plL s) (picL_range s hm) (s.length + 1) (Nat.le_refl _)
 exact ⟨h.ne, h.mem, by have := h.sum; unfold circL; omega⟩
theorem circL_ne {s : List Int} : circL s ≠ [] := by
 have hmono : ∀ k, (cirTo (picL s) (plL s) s.length (k + 1)).2 ≠ [] := by
  intro k
  induction k with
  | zero =>
   rw [cirTo_step]
   unfold cirStep
   rw [if_neg (by simp [cirTo, List.getD_eq_getElem?_getD])]
   simp
  | succ k ih =>
   rw [cirTo_step]
   unfold cirStep
   split
   ·exact ih
   ·simp
 exact hmono s.length
theorem growF_ok {n T : Nat} (pl : List Int) : ∀ (k : Nat) (own : List Int) (bad : Bool) (cs : List (List Int)), (∀ x, x ∈ own → 0 ≤ x ∧ x ≤ (n : Int)) → own.length ≤ T → Tot n (T - own.length) cs →
  (∀ x, x ∈ (growF pl k (own, bad) cs).1.1 → 0 ≤ x ∧ x ≤ (n : Int)) ∧ (growF pl k (own, bad) cs).1.1.length ≤ T ∧ Tot n (T - (growF pl k (own, bad) cs).1.1.length) (growF pl k (own, bad) cs).2 ∧ (growF pl k (own, bad) cs).2.length ≤ cs.length
 | 0, own, bad, cs, h1, h2, h3 => ⟨h1, h2, h3, Nat.le_refl _⟩
 | k + 1, own, bad, cs, h1, h2, h3 => by
  rw [growF]
  by_cases hlt : idxI (joinedB pl own) cs < 0
  ·rw [if_pos hlt]; exact ⟨h1, h2, h3, Nat.le_refl _⟩
  ·rw [if_neg hlt]
   obtain ⟨hk, _⟩ := idxI_lt hlt
   obtain ⟨j, hj⟩ : ∃ j, (idxI (joinedB pl own) cs).toNat = j := ⟨_, rfl⟩
   simp only
   rw [hj] at hk ⊢
   have he := h3.erase j hk
   have hm := h3.mem _ (getD_mem (z := []) hk)
   have ih := growF_ok (n := n) (T := T) pl k (own ++ cs.getD j []) (bad || decide (1 < (cs.getD j []).length)) (cs.eraseIdx j) (fun x hx => by
    rcases List.mem_append.1 hx with hx | hx
    ·exact h1 x hx
    ·exact hm x hx) (by rw [List.length_append]; omega) (by rw [List.length_append, ← Nat.sub_sub]; exact he.1)
   refine ⟨ih.1, ih.2.1, ih.2.2.1, ?_⟩
   have h4 := ih.2.2.2
   rw [List.length_eraseIdx_of_lt hk] at h4
   omega
theorem cmpF_ok {n T : Nat} (pl : List Int) : ∀ (k : Nat) (cs : List (List Int)) (out : List Cmp), Tot n T cs → (∀ x, x ∈ out → x.1.length ≤ T ∧ ∀ y, y ∈ x.1 → 0 ≤ y ∧ y ≤ (n : Int)) →
  (∀ x, x ∈ cmpF pl k cs out → x.1.length ≤ T ∧ ∀ y, y ∈ x.1 → 0 ≤ y ∧ y ≤ (n : Int)) ∧ (cmpF pl k cs out).length ≤ out.length + cs.length ∧ out.length ≤ (cmpF pl k cs out).length
 | 0, cs, out, h1, h2 => ⟨h2, Nat.le_add_right _ _, Nat.le_refl _⟩
 | k + 1, [], out, h1, h2 => ⟨h2, Nat.le_refl _, Nat.le_refl _⟩
 | k + 1, c :: r, out, h1, h2 => by
  rw [cmpF]
  have hg := growF_ok (n := n) (T := T) pl r.length c (decide (1 < c.length)) r (h1.mem c (by simp)) h1.tail.2 h1.tail.1
  obtain ⟨G, hG⟩ : ∃ G, growF pl r.length (c, decide (1 < c.length)) r = G := ⟨_, rfl⟩
  rw [hG] at hg ⊢
  have ih := cmpF_ok (n := n) (T := T) pl k G.2 (out ++ [(G.1.1, G.1.2 && !G.1.1.any (turnedB pl))]) ⟨hg.2.2.1.ne, hg.2.2.1.mem, by have := hg.2.2.1.sum; omega⟩ (fun x hx => by
   rcases List.mem_append.1 hx with hx | hx
   ·exact h2 x hx
   ·rw [List.mem_singleton] at hx
    rw [hx]
    exact ⟨hg.2.1, hg.1⟩)
  refine ⟨ih.1, ?_, ?_⟩
  ·have h3 := ih.2.1
   rw [List.length_append, List.length_singleton] at h3
   rw [List.length_cons]
   have := hg.2.2.2
   omega
  ·have h3 := ih.2.2
   rw [List.length_append, List.length_singleton] at h3
   omega
theorem cmpL_ok {s : List Int} (hs : s.length ≤ 40) (hm : ∀ x, x ∈ s → x ≠ 0 ∧ -(s.length : Int) ≤ x ∧ x ≤ s.length) : CmpOk s.length (cmpL s) ∧ (cmpL s).length ≤ 41 := by
 have ht := circL_tot hm
 have hl := ht.len
 unfold cmpL
 have h := cmpF_ok (n := s.length) (T := s.length + 1) (plL s) (circL s).length (circL s) [] ht (fun x hx => by cases hx)
 obtain ⟨c, r, hc⟩ : ∃ c r, circL s = c :: r := by
  cases hcs : circL s with
  | nil => exact absurd hcs circL_ne
  | cons c r => exact ⟨c, r, rfl⟩
 refine ⟨⟨?_, ?_, fun x hx => ⟨by have := (h.1 x hx).1; omega, (h.1 x hx).2⟩⟩, ?_⟩
 ·rw [hc, List.length_cons, cmpF]
  have hg := growF_ok (n := s.length) (T := s.length + 1) (plL s) r.length c (decide (1 < c.length)) r (ht.mem c (by rw [hc]; simp)) (by have := ht; rw [hc] at this; exact this.tail.2) (by have := ht; rw [hc] at this; exact this.tail.1)
  obtain ⟨G, hG⟩ : ∃ G, growF (plL s) r.length (c, decide (1 < c.length)) r = G := ⟨_, rfl⟩
  rw [hG] at hg ⊢
  have h5 := (cmpF_ok (n := s.length) (T := s.length + 1) (plL s) r.length G.2 ([] ++ [(G.1.1, G.1.2 && !G.1.1.any (turnedB (plL s)))]) ⟨hg.2.2.1.ne, hg.2.2.1.mem, by have := hg.2.2.1.sum; omega⟩ (fun x hx => by simp at hx; rw [hx]; exact ⟨hg.2.1, hg.1⟩)).2.2
  simp only [List.nil_append, List.length_singleton] at h5 ⊢
  omega
 ·have := h.2.1; simp only [List.length_nil] at this; omega
 ·have := h.2.1; simp only [List.length_nil] at this; omega
theorem results_tmp5 {fn : Func} {t u v x y : Tmp} (h : fn.results = #[.tmp t, .tmp u, .tmp v, .tmp x, .tmp y]) (tmps : Array Value) (P : Program) (w : World) :
  (results fn tmps).run P w = .ok (.tuple #[tmps.getD t undef, tmps.getD u undef, tmps.getD v undef, tmps.getD x undef, tmps.getD y undef]) w := by
 simp [results, h]
theorem tal_calls (b base : Nat) (s : List Int) (hs : s.length ≤ 40) (hm : ∀ x, x ∈ s → x ≠ 0 ∧ -(s.length : Int) ≤ x ∧ x ≤ s.length) (w : World) (hP : PicOk base b s w) :
  Calls Try.prog 61 #[.pointer (some ⟨b, 0, none⟩)] w fun e w' => e = .returned (.agg #[.int .i64 ((talF (picL s) (cmpL s)).1 : Nat), .int .i64 ((talF (picL s) (cmpL s)).2.1 : Nat), .int .i64 ((talF (picL s) (cmpL s)).2.2.1 : Nat), .bool (talF (picL s) (cmpL s)).2.2.2]) ∧ Below w.heap.size w w' :=
 tallied_calls b base s hs hm w hP (s.length + 1) (by omega) (circL_tot hm) circL_ne (cmpL_ok hs hm).1
def pancake_Distance.f (l0 : List Int) : Option (Int × Int) := some (if isSt true 40 l0 = true then ((l0.length : Int) + 1 - ((circL l0).length : Int) + (((talF (picL l0) (cmpL l0)).2.2.1 : Nat) : Int) + (if (talF (picL l0) (cmpL l0)).2.2.2 = true then 1 else 0), 0) else (0, 70))
set_option maxRecDepth 100000 in
set_option maxHeartbeats 4000000 in
theorem pancake_Distance.calls (A0 : Option Addr) (c0 : Nat) (l0 : List Int) (r1 r2 : Int) (w : World) (hr0 : Kd.C (Kd.int .i64) w A0 l0.length l0) (hc0 : l0.length ≤ c0) (h : pancake_Distance.f l0 = some (r1, r2)) :
  Calls Try.prog 23 #[.slice A0 l0.length c0] w fun e w' => e = .returned (.tuple #[.int .i64 r1, .int .i64 r2]) ∧ Below w.heap.size w w' := by
 have HC := Aside0.mk (check55_one A0 c0 l0 w hr0 hc0)
 have HR0 := Aside0.mk hr0
 clear hr0
 unfold pancake_Distance.f at h
 unfold chk1 at HC
 go_enter Try.func23, Try.ntmps23
 by_cases hst : isSt true 40 l0 = true
 ·rw [if_pos hst] at h HC
  have HRG := Aside0.mk (isSt_range hst)
  have HSM := Aside0.mk (isSt_small hst (by decide))
  clear hst
  go_wp2_with (go_at_call 55; refine stopper ?_)
  try unfold Hold
  refine HC.out.mono ?_
  rintro e w1 ⟨rfl, hb⟩
  have HB1 := Aside0.mk hb
  clear hb
  go_wp2_with (go_at_call 60; refine stopper ?_)
  try unfold Hold
  refine (pictured_calls A0 c0 l0 w1 (Kd.C_below HR0.out HB1.out) HSM.out.2.1 HRG.out).mono ?_
  rintro e w2 ⟨rfl, hp, hb⟩
  have HB2 := Aside0.mk (HB1.out.trans (hb.mono HB1.out.size))
  have HP := Aside0.mk hp
  clear hb hp
  go_wp2_with (go_at_call 61; refine stopper ?_)
  try unfold Hold
  refine (tal_calls _ _ l0 HSM.out.2.1 HRG.out w2 HP.out).mono ?_
  rintro e w3 ⟨rfl, hb⟩
  have hcl := (circL_tot HRG.out).len
  have hct := (cmpL_ok HSM.out.2.1 HRG.out).2
  have hhn : (talF (picL l0) (cmpL l0)).2.2.1 ≤ (cmpL l0).length := countP_le _ _
  obtain ⟨R, hR⟩ : ∃ R, talF (picL l0) (cmpL l0) = R := ⟨_, rfl⟩
  rw [hR] at h hhn ⊢
  obtain ⟨cN, bN, hN, ft⟩ := R
  simp only at h hhn ⊢
  obtain ⟨cl, hcle⟩ : ∃ cl, (circL l0).length = cl := ⟨_, rfl⟩
  rw [hcle] at h hcl
  obtain ⟨n, hn⟩ : ∃ n, l0.length = n := ⟨_, rfl⟩
  have HN := Aside0.mk hn
  have hn40 : n ≤ 40 := by have := HSM.out.2.1; omega
  have hclb : cl ≤ n + 1 := by omega
  have hhb : hN ≤ 41 := by omega
  have HCL := Aside0.mk (And.intro hcle hclb)
  rw [hn] at h ⊢
  have HH := Aside0.mk h
  obtain ⟨W4, hW4⟩ : ∃ W4, w3.alloc (.cells #[.int .i64 (cN : Int), .int .i64 (bN : Int), .int .i64 (hN : Int), .bool ft] 78) = W4 := ⟨_, rfl⟩
  obtain ⟨bt, hbt⟩ : ∃ bt, w3.heap.size = bt := ⟨_, rfl⟩
  have hB4 : Below w3.heap.size w3 W4 := by rw [← hW4]; exact (Below.refl _ _).alloc (Nat.le_refl _) _
  have hT : Blk W4 bt #[.int .i64 (cN : Int), .int .i64 (bN : Int), .int .i64 (hN : Int), .bool ft] 78 := by rw [← hW4, ← hbt]; exact Blk.new _ _ _
  have HLT4 := Aside0.mk hT.lt
  have HP4 := Aside0.mk ((HP.out.below hb).below hB4)
  have HB4 := Aside0.mk ((HB2.out.trans (hb.mono HB2.out.size)).trans (hB4.mono (by have := HB2.out.size; have := hb.size; omega)))
  have k2 := hT.cell 2 (v := .int .i64 (hN : Int)) rfl
  have k3 := hT.cell 3 (v := .bool ft) rfl
  clear hb hR hhn hcle hcl hct hn h hB4 hT
  have hw1 : IntKind.i64.wrap ((n : Int) + 1) = (n : Int) + 1 := iw64 (by omega) (by omega)
  have hw2 : IntKind.i64.wrap ((n : Int) + 1 - (cl : Int)) = (n : Int) + 1 - (cl : Int) := iw64 (by omega) (by omega)
  have hw3 : IntKind.i64.wrap ((n : Int) + 1 - (cl : Int) + (hN : Int)) = (n : Int) + 1 - (cl : Int) + (hN : Int) := iw64 (by omega) (by omega)
  have hw4 : IntKind.i64.wrap ((n : Int) + 1 - (cl : Int) + (hN : Int) + 1) = (n : Int) + 1 - (cl : Int) + (hN : Int) + 1 := iw64 (by omega) (by omega)
  go_upto_region 6 with fail
  try rw [hW4]
  try rw [hbt]
  clear hW4 hbt
  refine start_ (n := 11) (S := fun w' => w'.cell? ⟨bt, 2, none⟩ = some (.int .i64 (hN : Int))) (ds := []) #[false, false, false, false, false, false, false, false, false, false, false] (by kernel_rfl) rfl rfl k2 (fun hHeld => ?_)
  refine pure_ (i := 0) (N := (some 17)) (v := ?_) (a' := ?_) #[true, false, false, false, false, false, false, false, false, false, false] rfl rfl (by kernel_rfl) (fun _ _ _ h => h) (Or.inl ⟨by rfl, ?_⟩) ?_ ?_
  rotate_left
  ·intro w'
   go_simp
   with_reducible rfl
  rotate_left
  ·simp only [Act.put, List.setIfInBounds_toArray, List.set_cons_zero, List.set_cons_succ]
   rfl
  refine pure_ (i := 1) (N := (some 18)) (v := ?_) (a' := ?_) #[true, true, false, false, false, false, false, false, false, false, false] rfl rfl (by kernel_rfl) (fun _ _ _ h => h) (Or.inl ⟨by rfl, ?_⟩) ?_ ?_
  rotate_left
  ·intro w'
   go_simp
   with_reducible rfl
  rotate_left
  ·simp only [Act.put, List.setIfInBounds_toArray, List.set_cons_zero, List.set_cons_succ]
   rfl
  refine pure_ (i := 2) (N := (some 19)) (v := ?_) (a' := ?_) #[true, true, true, false, false, false, false, false, false, false, false] rfl rfl (by kernel_rfl) (fun _ _ _ h => h) (Or.inl ⟨by rfl, ?_⟩) ?_ ?_
  rotate_left
  ·intro w'
   go_simp
   with_reducible rfl
  rotate_left
  ·simp only [Act.put, List.setIfInBounds_toArray, List.set_cons_zero, List.set_cons_succ]
   rfl
  refine pure_ (i := 3) (N := (some 20)) (v := ?_) (a' := ?_) #[true, true, true, true, false, false, false, false, false, false, false] rfl rfl (by kernel_rfl) (fun _ _ _ h => h) (Or.inl ⟨by rfl, ?_⟩) ?_ ?_
  rotate_left
  ·intro w'
   go_simp
   with_reducible rfl
  rotate_left
  ·simp only [Act.put, List.setIfInBounds_toArray, List.set_cons_zero, List.set_cons_succ]
   rfl
  refine pure_ (i := 7) (N := (some 24)) (v := ?_) (a' := ?_) #[true, true, true, true, false, false, false, true, false, false, false] rfl rfl (by kernel_rfl) (fun _ _ _ h => h) (Or.inl ⟨by rfl, ?_⟩) ?_ ?_
  rotate_left
  ·intro w'
   go_simp
   with_reducible rfl
  rotate_left
  ·simp only [Act.put, List.setIfInBounds_toArray, List.set_cons_zero, List.set_cons_succ]
   rfl
  refine take_ (i := 8) (N := (some 25)) (v := ?_) (a' := ?_) #[true, true, true, true, false, false, false, true, true, false, false] rfl rfl (by kernel_rfl) (fun _ _ _ h => h) (Or.inl ⟨by rfl, ?_⟩) hHeld ?_ ?_
  rotate_left
  ·rintro w' s0
   go_simp
   with_reducible rfl
  rotate_left
  ·simp only [Act.put, List.setIfInBounds_toArray, List.set_cons_zero, List.set_cons_succ]
   rfl
  refine one_ (i := 4) (N := (some 21)) #[true, true, true, true, true, false, false, true, true, false, false] rfl rfl (by kernel_rfl) (by decide) (fun K hK => ?_)
  refine goes_ Try.func62 (by kernel_rfl) rfl #[.pointer (some ⟨w1.heap.size + 1, 0, none⟩)] (by rfl) rfl rfl (by (try simp only [List.map_toArray, List.map_cons, List.map_nil]); first | done | rfl) ?_
  refine (circles_calls _ _ l0 HSM.out.2.1 HRG.out W4.drew (HP4.out.below (Below.refl _ _).drew)).mono ?_
  rintro e w5 ⟨v5, rfl, hv5, hb5⟩
  obtain ⟨A5, c5, ev⟩ := Kd.S_slice hv5
  rw [HCL.out.1] at ev
  subst ev
  refine ⟨_, rfl, ?_⟩
  refine hK.out _ _ (by rw [hb5.cell (World.block_lt_of_cell? _ _ hHeld)]; exact hHeld) (fun hHeld => ?_)
  have HB5 := Aside0.mk (show Below w.heap.size w w5 from HB4.out.trans ((Below.refl w.heap.size W4).drew.trans (hb5.mono HB4.out.size)))
  have k3' : w5.cell? ⟨bt, 3, none⟩ = some (.bool ft) := by rw [hb5.cell (show bt < W4.drew.heap.size from HLT4.out)]; exact k3
  clear hK K hb5 hv5
  refine norm_ (a' := ?_) ?_ ?_
  rotate_left
  ·show Act.put _ (some 21) _ = _
   simp only [Act.put, List.setIfInBounds_toArray, List.set_cons_zero, List.set_cons_succ]
   rfl
  refine pure_ (i := 5) (N := (some 22)) (v := ?_) (a' := ?_) #[true, true, true, true, true, true, false, true, true, false, false] rfl rfl (by kernel_rfl) (fun _ _ _ h => h) (Or.inl ⟨by rfl, ?_⟩) ?_ ?_
  rotate_left
  ·intro w'
   go_simp
   with_reducible rfl
  rotate_left
  ·simp only [Act.put, List.setIfInBounds_toArray, List.set_cons_zero, List.set_cons_succ]
   rfl
  refine pure_ (i := 6) (N := (some 23)) (v := ?_) (a' := ?_) #[true, true, true, true, true, true, true, true, true, false, false] rfl rfl (by kernel_rfl) (fun _ _ _ h => h) (Or.inl ⟨by rfl, ?_⟩) ?_ ?_
  rotate_left
  ·intro w'
   go_simp
   with_reducible rfl
  rotate_left
  ·simp only [Act.put, List.setIfInBounds_toArray, List.set_cons_zero, List.set_cons_succ]
   rfl
  refine pure_ (i := 9) (N := (some 26)) (v := ?_) (a' := ?_) #[true, true, true, true, true, true, true, true, true, true, false] rfl rfl (by kernel_rfl) (fun _ _ _ h => h) (Or.inl ⟨by rfl, ?_⟩) ?_ ?_
  rotate_left
  ·intro w'
   go_simp
   with_reducible rfl
  rotate_left
  ·simp only [Act.put, List.setIfInBounds_toArray, List.set_cons_zero, List.set_cons_succ]
   rfl
  refine pure_ (i := 10) (N := (some 7)) (v := ?_) (a' := ?_) #[true, true, true, true, true, true, true, true, true, true, true] rfl rfl (by kernel_rfl) (fun _ _ _ h => h) (Or.inl ⟨by rfl, ?_⟩) ?_ ?_
  rotate_left
  ·intro w'
   go_simp
   with_reducible rfl
  rotate_left
  ·simp only [Act.put, List.setIfInBounds_toArray, List.set_cons_zero, List.set_cons_succ]
   rfl
  refine done_ (by kernel_rfl) ?_
  cases ft with
  | true =>
   have h := HH.out
   simp only [if_true, Option.some.injEq, Prod.mk.injEq] at h
   obtain ⟨rfl, rfl⟩ := h
   go_wp2
   refine bodyPost_ret (results_tmp2 rfl _ _ _) rfl ⟨rfl, HB5.out⟩
  | false =>
   have h := HH.out
   simp only [Bool.false_eq_true, if_false, Option.some.injEq, Prod.mk.injEq, Int.add_zero] at h
   obtain ⟨rfl, rfl⟩ := h
   go_wp2
   refine bodyPost_ret (results_tmp2 rfl _ _ _) rfl ⟨rfl, HB5.out⟩
 ·rw [if_neg hst] at h HC
  cases h
  clear hst
  go_wp2_with (go_at_call 55; refine stopper ?_)
  try unfold Hold
  refine HC.out.mono ?_
  rintro e w1 ⟨rfl, hb⟩
  have HB1 := Aside0.mk hb
  clear hb
  go_wp2
  refine bodyPost_ret (results_tmp2 rfl _ _ _) rfl ⟨rfl, HB1.out⟩
def pancake_Components.f (l0 : List Int) : Option (Int × Int × Int × Bool × Int) := some (if isSt true 40 l0 = true then (((talF (picL l0) (cmpL l0)).1 : Nat), ((talF (picL l0) (cmpL l0)).2.1 : Nat), ((talF (picL l0) (cmpL l0)).2.2.1 : Nat), (talF (picL l0) (cmpL l0)).2.2.2, 0) else (0, 0, 0, false, 70))
set_option maxRecDepth 100000 in
set_option maxHeartbeats 4000000 in
theorem pancake_Components.calls (A0 : Option Addr) (c0 : Nat) (l0 : List Int) (r1 r2 r3 : Int) (r4 : Bool) (r5 : Int) (w : World) (hr0 : Kd.C (Kd.int .i64) w A0 l0.length l0) (hc0 : l0.length ≤ c0) (h : pancake_Components.f l0 = some (r1, r2, r3, r4, r5)) :
  Calls Try.prog 22 #[.slice A0 l0.length c0] w fun e w' => e = .returned (.tuple #[.int .i64 r1, .int .i64 r2, .int .i64 r3, .bool r4, .int .i64 r5]) ∧ Below w.heap.size w w' := by
 have HC := Aside0.mk (check55_one A0 c0 l0 w hr0 hc0)
 have HR0 := Aside0.mk hr0
 clear hr0
 unfold pancake_Components.f at h
 unfold chk1 at HC
 go_enter Try.func22, Try.ntmps22
 by_cases hst : isSt true 40 l0 = true
 ·rw [if_pos hst] at h HC
  have HRG := Aside0.mk (isSt_range hst)
  have HSM := Aside0.mk (isSt_small hst (by decide))
  clear hst
  go_wp2_with (go_at_call 55; refine stopper ?_)
  try unfold Hold
  refine HC.out.mono ?_
  rintro e w1 ⟨rfl, hb⟩
  have HB1 := Aside0.mk hb
  clear hb
  go_wp2_with (go_at_call 60; refine stopper ?_)
  try unfold Hold
  refine (pictured_calls A0 c0 l0 w1 (Kd.C_below HR0.out HB1.out) HSM.out.2.1 HRG.out).mono ?_
  rintro e w2 ⟨rfl, hp, hb⟩
  have HB2 := Aside0.mk (HB1.out.trans (hb.mono HB1.out.size))
  have HP := Aside0.mk hp
  clear hb hp
  go_wp2_with (go_at_call 61; refine stopper ?_)
  try unfold Hold
  refine (tal_calls _ _ l0 HSM.out.2.1 HRG.out w2 HP.out).mono ?_
  rintro e w3 ⟨rfl, hb⟩
  obtain ⟨R, hR⟩ : ∃ R, talF (picL l0) (cmpL l0) = R := ⟨_, rfl⟩
  rw [hR] at h ⊢
  obtain ⟨cN, bN, hN, ft⟩ := R
  simp only at h ⊢
  obtain ⟨n, hn⟩ : ∃ n, l0.length = n := ⟨_, rfl⟩
  rw [hn]
  have HH := Aside0.mk h
  obtain ⟨W4, hW4⟩ : ∃ W4, w3.alloc (.cells #[.int .i64 (cN : Int), .int .i64 (bN : Int), .int .i64 (hN : Int), .bool ft] 78) = W4 := ⟨_, rfl⟩
  obtain ⟨bt, hbt⟩ : ∃ bt, w3.heap.size = bt := ⟨_, rfl⟩
  have hB4 : Below w3.heap.size w3 W4 := by rw [← hW4]; exact (Below.refl _ _).alloc (Nat.le_refl _) _
  have hT : Blk W4 bt #[.int .i64 (cN : Int), .int .i64 (bN : Int), .int .i64 (hN : Int), .bool ft] 78 := by rw [← hW4, ← hbt]; exact Blk.new _ _ _
  have HB4 := Aside0.mk ((HB2.out.trans (hb.mono HB2.out.size)).trans (hB4.mono (by have := HB2.out.size; have := hb.size; omega)))
  have k0 := hT.cell 0 (v := .int .i64 (cN : Int)) rfl
  have k1 := hT.cell 1 (v := .int .i64 (bN : Int)) rfl
  have k2 := hT.cell 2 (v := .int .i64 (hN : Int)) rfl
  have k3 := hT.cell 3 (v := .bool ft) rfl
  clear hb hR hn h hB4 hT
  go_upto_region 5 with fail
  try rw [hW4]
  try rw [hbt]
  clear hW4 hbt
  refine start_ (n := 13) (S := fun w' => w'.cell? ⟨bt, 0, none⟩ = some (.int .i64 (cN : Int)) ∧ w'.cell? ⟨bt, 1, none⟩ = some (.int .i64 (bN : Int)) ∧ w'.cell? ⟨bt, 2, none⟩ = some (.int .i64 (hN : Int)) ∧ w'.cell? ⟨bt, 3, none⟩ = some (.bool ft)) (ds := []) #[false, false, false, false, false, false, false, false, false, false, false, false, false] (by kernel_rfl) rfl rfl ⟨k0, k1, k2, k3⟩ (fun hHeld => ?_)
  refine pure_ (i := 0) (N := (some 17)) (v := ?_) (a' := ?_) #[true, false, false, false, false, false, false, false, false, false, false, false, false] rfl rfl (by kernel_rfl) (fun _ _ _ h => h) (Or.inl ⟨by rfl, ?_⟩) ?_ ?_
  rotate_left
  ·intro w'
   go_simp
   with_reducible rfl
  rotate_left
  ·simp only [Act.put, List.setIfInBounds_toArray, List.set_cons_zero, List.set_cons_succ]
   rfl
  refine take_ (i := 1) (N := (some 18)) (v := ?_) (a' := ?_) #[true, true, false, false, false, false, false, false, false, false, false, false, false] rfl rfl (by kernel_rfl) (fun _ _ _ h => h) (Or.inl ⟨by rfl, ?_⟩) hHeld ?_ ?_
  rotate_left
  ·rintro w' ⟨s0, s1, s2, s3⟩
   go_simp
   with_reducible rfl
  rotate_left
  ·simp only [Act.put, List.setIfInBounds_toArray, List.set_cons_zero, List.set_cons_succ]
   rfl
  refine pure_ (i := 2) (N := (some 19)) (v := ?_) (a' := ?_) #[true, true, true, false, false, false, false, false, false, false, false, false, false] rfl rfl (by kernel_rfl) (fun _ _ _ h => h) (Or.inl ⟨by rfl, ?_⟩) ?_ ?_
  rotate_left
  ·intro w'
   go_simp
   with_reducible rfl
  rotate_left
  ·simp only [Act.put, List.setIfInBounds_toArray, List.set_cons_zero, List.set_cons_succ]
   rfl
  refine take_ (i := 3) (N := (some 20)) (v := ?_) (a' := ?_) #[true, true, true, true, false, false, false, false, false, false, false, false, false] rfl rfl (by kernel_rfl) (fun _ _ _ h => h) (Or.inl ⟨by rfl, ?_⟩) hHeld ?_ ?_
  rotate_left
  ·rintro w' ⟨s0, s1, s2, s3⟩
   go_simp
   with_reducible rfl
  rotate_left
  ·simp only [Act.put, List.setIfInBounds_toArray, List.set_cons_zero, List.set_cons_succ]
   rfl
  refine pure_ (i := 4) (N := (some 21)) (v := ?_) (a' := ?_) #[true, true, true, true, true, false, false, false, false, false, false, false, false] rfl rfl (by kernel_rfl) (fun _ _ _ h => h) (Or.inl ⟨by rfl, ?_⟩) ?_ ?_
  rotate_left
  ·intro w'
   go_simp
   with_reducible rfl
  rotate_left
  ·simp only [Act.put, List.setIfInBounds_toArray, List.set_cons_zero, List.set_cons_succ]
   rfl
  refine take_ (i := 5) (N := (some 22)) (v := ?_) (a' := ?_) #[true, true, true, true, true, true, false, false, false, false, false, false, false] rfl rfl (by kernel_rfl) (fun _ _ _ h => h) (Or.inl ⟨by rfl, ?_⟩) hHeld ?_ ?_
  rotate_left
  ·rintro w' ⟨s0, s1, s2, s3⟩
   go_simp
   with_reducible rfl
  rotate_left
  ·simp only [Act.put, List.setIfInBounds_toArray, List.set_cons_zero, List.set_cons_succ]
   rfl
  refine pure_ (i := 6) (N := (some 23)) (v := ?_) (a' := ?_) #[true, true, true, true, true, true, true, false, false, false, false, false, false] rfl rfl (by kernel_rfl) (fun _ _ _ h => h) (Or.inl ⟨by rfl, ?_⟩) ?_ ?_
  rotate_left
  ·intro w'
   go_simp
   with_reducible rfl
  rotate_left
  ·simp only [Act.put, List.setIfInBounds_toArray, List.set_cons_zero, List.set_cons_succ]
   rfl
  refine take_ (i := 7) (N := (some 24)) (v := ?_) (a' := ?_) #[true, true, true, true, true, true, true, true, false, false, false, false, false] rfl rfl (by kernel_rfl) (fun _ _ _ h => h) (Or.inl ⟨by rfl, ?_⟩) hHeld ?_ ?_
  rotate_left
  ·rintro w' ⟨s0, s1, s2, s3⟩
   go_simp
   with_reducible rfl
  rotate_left
  ·simp only [Act.put, List.setIfInBounds_toArray, List.set_cons_zero, List.set_cons_succ]
   rfl
  refine pure_ (i := 8) (N := (some 2)) (v := ?_) (a' := ?_) #[true, true, true, true, true, true, true, true, true, false, false, false, false] rfl rfl (by kernel_rfl) (fun _ _ _ h => h) (Or.inl ⟨by rfl, ?_⟩) ?_ ?_
  rotate_left
  ·intro w'
   go_simp
   with_reducible rfl
  rotate_left
  ·simp only [Act.put, List.setIfInBounds_toArray, List.set_cons_zero, List.set_cons_succ]
   rfl
  refine pure_ (i := 9) (N := (some 3)) (v := ?_) (a' := ?_) #[true, true, true, true, true, true, true, true, true, true, false, false, false] rfl rfl (by kernel_rfl) (fun _ _ _ h => h) (Or.inl ⟨by rfl, ?_⟩) ?_ ?_
  rotate_left
  ·intro w'
   go_simp
   with_reducible rfl
  rotate_left
  ·simp only [Act.put, List.setIfInBounds_toArray, List.set_cons_zero, List.set_cons_succ]
   rfl
  refine pure_ (i := 10) (N := (some 4)) (v := ?_) (a' := ?_) #[true, true, true, true, true, true, true, true, true, true, true, false, false] rfl rfl (by kernel_rfl) (fun _ _ _ h => h) (Or.inl ⟨by rfl, ?_⟩) ?_ ?_
  rotate_left
  ·intro w'
   go_simp
   with_reducible rfl
  rotate_left
  ·simp only [Act.put, List.setIfInBounds_toArray, List.set_cons_zero, List.set_cons_succ]
   rfl
  refine pure_ (i := 11) (N := (some 5)) (v := ?_) (a' := ?_) #[true, true, true, true, true, true, true, true, true, true, true, true, false] rfl rfl (by kernel_rfl) (fun _ _ _ h => h) (Or.inl ⟨by rfl, ?_⟩) ?_ ?_
  rotate_left
  ·intro w'
   go_simp
   with_reducible rfl
  rotate_left
  ·simp only [Act.put, List.setIfInBounds_toArray, List.set_cons_zero, List.set_cons_succ]
   rfl
  refine pure_ (i := 12) (N := (some 6)) (v := ?_) (a' := ?_) #[true, true, true, true, true, true, true, true, true, true, true, true, true] rfl rfl (by kernel_rfl) (fun _ _ _ h => h) (Or.inl ⟨by rfl, ?_⟩) ?_ ?_
  rotate_left
  ·intro w'
   go_simp
   with_reducible rfl
  rotate_left
  ·simp only [Act.put, List.setIfInBounds_toArray, List.set_cons_zero, List.set_cons_succ]
   rfl
  refine done_ (by kernel_rfl) ?_
  have h := HH.out
  simp only [Option.some.injEq, Prod.mk.injEq] at h
  obtain ⟨rfl, rfl, rfl, rfl, rfl⟩ := h
  go_wp2
  refine bodyPost_ret (results_tmp5 rfl _ _ _) rfl ⟨rfl, HB4.out.drew⟩
 ·rw [if_neg hst] at h HC
  cases h
  clear hst
  go_wp2_with (go_at_call 55; refine stopper ?_)
  try unfold Hold
  refine HC.out.mono ?_
  rintro e w1 ⟨rfl, hb⟩
  have HB1 := Aside0.mk hb
  clear hb
  go_wp2
  refine bodyPost_ret (results_tmp5 rfl _ _ _) rfl ⟨rfl, HB1.out⟩
end Go.Proofs.Ytepjhdblmghckaa.G
