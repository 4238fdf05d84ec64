/- PancakeSteps: without the reference: a turn changes the distance by at most 1, the number of circles by at most 1, and turned again it is what it was; the circles have all grey lines: a part of the proof (3 of 4): contracts of the functions, and plain lemmas. -/
import Derived.Test.YtepjhdblmghckaaUt
import Derived.Test.YtepjhdblmghckaaEt1
import Derived.Test.YtepjhdblmghckaaEt2
set_option linter.unusedVariables false
set_option linter.unusedSimpArgs false

namespace Go.Proofs.Ytepjhdblmghckaa.G
open Go.Proofs.Ytepjhdblmghckaa.Q Go.Proofs.Ytepjhdblmghckaa.K
open Go.RowKit Go.Shelf Go.Proofs.YtepjhdblmghckaaW.PrintWords Go.Proofs.YtepjhdblmghckaaW.PrintLast Go.Proofs.YtepjhdblmghckaaW.PrintMore
set_option linter.unusedVariables false
attribute [local go_sem] max2_int min2_int max_two min_two
theorem C_take {w : World} {A : Option Addr} {l : List Int} {n : Nat} (h : Kd.C (Kd.int .i64) w A n l) (k : Nat) (hk : k ≤ n) : Kd.C (Kd.int .i64) w A k (l.take k) := by
 have h1 := Kd.reads_of_C (enc := Value.int .i64) (d := (0 : Int)) (h1 := fun _ => rfl) h
 refine Kd.C_of_reads (enc := Value.int .i64) (d := (0 : Int)) (h1 := fun _ => rfl) ⟨by rw [List.length_take]; have := h1.1; omega, by have := h1.2.1; omega, fun hp => ?_⟩
 obtain ⟨ad, e, hc⟩ := h1.2.2 (by omega)
 refine ⟨ad, e, fun j hj => ?_⟩
 rw [hc j (by omega)]
 congr 2
 simp [List.getD_eq_getElem?_getD, List.getElem?_take, hj]
end Go.Proofs.Ytepjhdblmghckaa.G


namespace Go.Proofs.Ytepjhdblmghckaa.G
open Go.Proofs.Ytepjhdblmghckaa.Q Go.Proofs.Ytepjhdblmghckaa.K
open Go.RowKit Go.Shelf Go.Proofs.YtepjhdblmghckaaW.PrintWords Go.Proofs.YtepjhdblmghckaaW.PrintLast Go.Proofs.YtepjhdblmghckaaW.PrintMore
set_option linter.unusedVariables false
set_option linter.unusedSimpArgs false
theorem cut22 (ad : Option Addr) (n c k : Nat) (hk : k ≤ n) (hc : n ≤ c) (W : World) :
  (Instr.slice 22 (.slice ad n c) (some (.int .i64 (k : Int))) none none).run Try.prog W = .ok (.slice (if c = k then ad else ad.map (·.add (k * 1))) (n - k) (c - k)) W := by
 have he : Try.prog.elem 22 = 3 := by kernel_rfl
 have hu : Try.prog.underlying 22 = some (.slice (Try.prog.elem 22)) := by rw [he]; exact Try.underlying22
 rw [run_slice_l (P := Try.prog) W 22 ad n c hu .i64 (k : Int) (by omega) (by omega), he, Try.sizeOf3]
 simp only [Result.andThen, sliced, Int.toNat_natCast]
theorem C_cut {w : World} {A : Option Addr} {l : List Int} {n c k : Nat} (h : Kd.C (Kd.int .i64) w A n l) (hk : k ≤ n) (hc : n ≤ c) : Kd.C (Kd.int .i64) w (if c = k then A else A.map (·.add (k * 1))) (n - k) (l.drop k) := by
 have h1 := Kd.reads_of_C (enc := Value.int .i64) (d := (0 : Int)) (h1 := fun _ => rfl) h
 refine Kd.C_of_reads (enc := Value.int .i64) (d := (0 : Int)) (h1 := fun _ => rfl) ⟨by rw [List.length_drop]; have := h1.1; omega, by have := h1.2.1; omega, fun hp => ?_⟩
 obtain ⟨ad, rfl, hcell⟩ := h1.2.2 (by omega)
 rw [if_neg (by omega)]
 refine ⟨_, rfl, fun j hj => ?_⟩
 have h2 := hcell (k + j) (by omega)
 have e : (ad.add (k * 1)).add j = ad.add (k + j) := by
  rw [Nat.mul_one]
  unfold Addr.add
  by_cases hk0 : k = 0 <;> by_cases hj0 : j = 0 <;> simp [hk0, hj0]
  omega
 rw [e, h2]
 congr 2
 simp [List.getD_eq_getElem?_getD, List.getElem?_drop]
def rowK (l : List Int) (x : Nat) : Int := (IntKind.u64.wrap (nth l (x - 1))).tmod (2 * (x : Int))
def rowAt (l : List Int) (x : Nat) : Nat := if x ≤ l.length then (rowK l x / 2).toNat else x - 1
def rowSg (l : List Int) (sg : Bool) (x : Nat) : Int := if x ≤ l.length ∧ sg = true ∧ rowK l x % 2 = 1 then -1 else 1
def rowOf (l : List Int) (sg : Bool) : Nat → List Int
 | 0 => []
 | x + 1 => (rowOf l sg x).take (rowAt l (x + 1)) ++ [rowSg l sg (x + 1) * ((x + 1 : Nat) : Int)] ++ (rowOf l sg x).drop (rowAt l (x + 1))
theorem u64_nonneg (x : Int) : 0 ≤ IntKind.u64.wrap x ∧ IntKind.u64.wrap x ≤ 18446744073709551615 := by
 have h : IntKind.u64.wrap x = x % 18446744073709551616 := by
  have e1 : IntKind.u64.signed = false := rfl
  have e2 : IntKind.u64.bits = 64 := rfl
  unfold IntKind.wrap
  rw [e1, e2]
  simp
 rw [h]; omega
theorem u64_small {x : Int} (h : 0 ≤ x) (h' : x ≤ 18446744073709551615) : IntKind.u64.wrap x = x := by
 have e1 : IntKind.u64.signed = false := rfl
 have e2 : IntKind.u64.bits = 64 := rfl
 unfold IntKind.wrap
 rw [e1, e2]
 simp
 omega
theorem rowK_range (l : List Int) (x : Nat) (hx : 1 ≤ x) : 0 ≤ rowK l x ∧ rowK l x < 2 * (x : Int) := by
 unfold rowK
 exact ⟨Int.tmod_nonneg _ (u64_nonneg _).1, Int.tmod_lt_of_pos _ (by omega)⟩
theorem rowAt_lt (l : List Int) (x : Nat) (hx : 1 ≤ x) : rowAt l x ≤ x - 1 := by
 unfold rowAt
 have := rowK_range l x hx
 split <;> omega
theorem rowOf_length (l : List Int) (sg : Bool) (x : Nat) : (rowOf l sg x).length = x := by
 induction x with
 | zero => rfl
 | succ x ih =>
  have := rowAt_lt l (x + 1) (by omega)
  simp only [rowOf, List.length_append, List.length_take, List.length_drop, List.length_singleton, ih]
  omega
def bibelotlaw07_row.f (l0 : List Int) (a1 : Int) (a2 : Bool) : Option (List Int) := if a1 ≤ 1000000 then some (rowOf l0 a2 a1.toNat) else none
set_option maxRecDepth 100000 in
set_option maxHeartbeats 8000000 in
theorem bibelotlaw07_row.calls (A0 : Option Addr) (c0 : Nat) (l0 : List Int) (a1 : Int) (a2 : Bool) (r : List Int) (w : World) (hr0 : Kd.C (Kd.int .i64) w A0 l0.length l0) (hc0 : l0.length ≤ c0) (h : bibelotlaw07_row.f l0 a1 a2 = some r) :
  Calls Try.prog 27 #[.slice A0 l0.length c0, .int .i64 a1, .bool a2] w fun e w' => ∃ v0_ : Value, e = .returned (v0_) ∧ Kd.R (Kd.int .i64) 3 w' w.heap.size (fun _ => True) v0_ r ∧ Below w.heap.size w w' := by
 unfold bibelotlaw07_row.f at h
 split at h
 case isFalse => cases h
 rename_i ha1
 cases h
 have HR0 := Aside0.mk hr0
 obtain ⟨n, hn⟩ : ∃ n, l0.length = n := ⟨_, rfl⟩
 rw [hn] at HR0 hc0 ⊢
 have HN := Aside0.mk hn
 have hnn : (n : Int) ≤ 9223372036854775807 := by have := HR0.out.2.1; omega
 clear hr0 hn
 go_enter Try.func27, Try.ntmps27
 go_wp2
 go_loopw [7, 8] (fun ov xv wr => ∃ x : Nat, x ≤ a1.toNat ∧ xv = .int .i64 ((x : Int) + 1) ∧ Aside0 (Kd.R (Kd.int .i64) 3 wr w.heap.size (fun _ => True) ov (rowOf l0 a2 x)) ∧ Aside0 (Below w.heap.size w wr)) (fun _ xv _ => a1.toNat + 1 - (intOf xv).toNat)
 case atStart => exact ⟨0, Nat.zero_le _, rfl, ⟨Kd.R_nil _ _ _ _ _⟩, ⟨Below.refl _ _⟩⟩
 case round =>
  obtain ⟨x, hx, rfl, HO, HB⟩ := hrel
  by_cases hlt : (x : Int) + 1 ≤ a1
  ·have hxn : x + 1 ≤ a1.toNat := by omega
   obtain ⟨Ao, co, ev⟩ := Kd.R_slice HO.out
   rw [rowOf_length] at ev
   subst ev
   have hco : x ≤ co := (Kd.R_reads' HO.out).2.1
   have HOC := Aside0.mk (show Kd.C (Kd.int .i64) wr Ao x (rowOf l0 a2 x) by have h1 := (Kd.R_reads' HO.out).2.2; rw [rowOf_length] at h1; exact h1)
   have hat := rowAt_lt l0 (x + 1) (by omega)
   have HST := Aside0.mk (show rowOf l0 a2 (x + 1) = (rowOf l0 a2 x).take (rowAt l0 (x + 1)) ++ [rowSg l0 a2 (x + 1) * ((x + 1 : Nat) : Int)] ++ (rowOf l0 a2 x).drop (rowAt l0 (x + 1)) from rfl)
   have HAT := Aside0.mk (show rowAt l0 (x + 1) = if x + 1 ≤ l0.length then (rowK l0 (x + 1) / 2).toNat else x from rfl)
   have HSG := Aside0.mk (show rowSg l0 a2 (x + 1) = if x + 1 ≤ l0.length ∧ a2 = true ∧ rowK l0 (x + 1) % 2 = 1 then -1 else 1 from rfl)
   obtain ⟨at_, hate⟩ : ∃ at_, rowAt l0 (x + 1) = at_ := ⟨_, rfl⟩
   obtain ⟨sg, hsge⟩ : ∃ sg, rowSg l0 a2 (x + 1) = sg := ⟨_, rfl⟩
   have hsgr : sg = 1 ∨ sg = -1 := by rw [← hsge, HSG.out]; split <;> simp
   rw [hate] at HST HAT hat
   rw [hsge] at HST HSG
   obtain ⟨o, ho⟩ : ∃ o, rowOf l0 a2 x = o := ⟨_, rfl⟩
   rw [ho] at HST HOC HO
   have hwx : IntKind.i64.wrap ((x : Int) + 1 - 1) = (x : Int) := by rw [iw64 (by omega) (by omega)]; omega
   have hwx1 : IntKind.i64.wrap ((x : Int) + 1 + 1) = ((x + 1 : Nat) : Int) + 1 := by rw [iw64 (by omega) (by omega)]; omega
   have hwx2 : IntKind.i64.wrap (x : Int) = (x : Int) := iw64 (by omega) (by omega)
   clear hate hsge ho
   have hxb : (x : Int) + 1 ≤ 1000000 := by omega
   by_cases hxl : (x : Int) + 1 ≤ (n : Int)
   ·have hv0 : (0 : Int) ≤ (x : Int) := by omega
    have hv1 : (x : Int) < (n : Int) := by omega
    obtain ⟨ad, e1, hc1⟩ := Kd.at_int (Kd.C_below HR0.out HB.out) (x : Int) hv0 (by omega)
    rw [rd_nth, Int.toNat_natCast] at hc1
    have hk := rowK_range l0 (x + 1) (by omega)
    have hkd : rowK l0 (x + 1) = (IntKind.u64.wrap (nth l0 x)).tmod (2 * ((x : Int) + 1)) := rfl
    obtain ⟨v, hv⟩ : ∃ v, nth l0 x = v := ⟨_, rfl⟩
    rw [hv] at hc1 hkd
    rw [if_pos (by have := HN.out; omega)] at HAT
    obtain ⟨kk, hkk⟩ : ∃ kk, rowK l0 (x + 1) = kk := ⟨_, rfl⟩
    rw [hkk] at hk hkd HAT HSG
    have hkd1 := hkd.symm
    have hkd2 : IntKind.u64.wrap v % (2 * ((x : Int) + 1)) = kk := by rw [← hkd1, Int.tmod_eq_emod_of_nonneg (u64_nonneg v).1]
    clear hkd
    obtain ⟨q, hq⟩ : ∃ q, (kk % 2 == 1) = q := ⟨_, rfl⟩
    have HQ := Aside0.mk hq
    have hw2 : IntKind.i64.wrap (2 * ((x : Int) + 1)) = 2 * ((x : Int) + 1) := iw64 (by omega) (by omega)
    have hu2 : IntKind.u64.wrap (2 * ((x : Int) + 1)) = 2 * ((x : Int) + 1) := u64_small (by omega) (by omega)
    have hne : ¬ (2 * ((x : Int) + 1)) = 0 := by omega
    have hu3 : IntKind.u64.wrap kk = kk := u64_small hk.1 (by omega)
    have hk0 := hk.1
    have hk1 : kk < 2 * ((x : Int) + 1) := by have := hk.2; omega
    have hw3 : IntKind.i64.wrap kk = kk := iw64 (by omega) (by omega)
    have hw4 : IntKind.i64.wrap (kk / 2) = kk / 2 := iw64 (by omega) (by omega)
    have hw5 : IntKind.i64.wrap (kk % 2) = kk % 2 := iw64 (by omega) (by omega)
    have hat2 : kk / 2 = (at_ : Int) := by rw [HAT.out]; omega
    subst e1
    clear hk hkk hv
    go_upto_if 23 with fail
    go_cut [9, 10] from 18 to 42 (fun av sv wc => wc = wr ∧ av = .int .i64 (at_ : Int) ∧ sv = .int .i64 sg)
    case first =>
     cases a2 with
     | true =>
      cases q with
      | true =>
       have hsg : sg = -1 := by rw [HSG.out, if_pos ⟨by have := HN.out; omega, rfl, by have := HQ.out; simpa using this⟩]
       subst hsg
       go_wp2
       go_meet
       case rel => exact ⟨rfl, rfl, rfl⟩
      | false =>
       have hsg : sg = 1 := by rw [HSG.out, if_neg (fun h => by have := HQ.out; rw [h.2.2] at this; cases this)]
       subst hsg
       go_wp2
       go_meet
       case rel => exact ⟨rfl, rfl, rfl⟩
     | false =>
      have hsg : sg = 1 := by rw [HSG.out, if_neg (fun h => by cases h.2.1)]
      subst hsg
      go_wp2
      go_meet
      case rel => exact ⟨rfl, rfl, rfl⟩
    case rest =>
     obtain ⟨rfl, rfl, rfl⟩ := hcut
     have HHN := Aside0.mk (show at_ ≤ x ∧ x ≤ co ∧ w.heap.size ≤ wc.heap.size from ⟨by omega, hco, HB.out.size⟩)
     have hwm : IntKind.i64.wrap (sg * ((x : Int) + 1)) = sg * ((x : Int) + 1) := by rcases hsgr with h | h <;> rw [h] <;> exact iw64 (by omega) (by omega)
     have ha0 : (0 : Int) ≤ (at_ : Int) := by omega
     have ha1' : (at_ : Int) ≤ (co : Int) := by omega
     have ha2 : (at_ : Int) ≤ (x : Int) := by omega
     have hpop := fun W => cut22 Ao x co at_ (by omega) hco W
     have HCT := Aside0.mk (C_cut HOC.out (show at_ ≤ x by omega) hco)
     obtain ⟨A3, hA3⟩ : ∃ A3, (if co = at_ then Ao else Ao.map (·.add (at_ * 1))) = A3 := ⟨_, rfl⟩
     rw [hA3] at hpop HCT
     have HOL := Aside0.mk (show o.length = x from HOC.out.1)
     have HTK := Aside0.mk (C_take HOC.out at_ (show at_ ≤ x by omega))
     clear hA3
     go_wp2_with ((with_reducible refine gate_builtin (b := .append) (xs := #[.tmp 43, .tmp 46]) rfl ?_); at_builtin; refine stopper ?_)
     try unfold Hold
     refine Kd.R_append_rows (Kd.int .i64) (Rr := fun x cs => (Kd.int .i64).K wc x cs) (w0 := wc) wc.heap.size rfl (.tmp 43) (.tmp 46) 22 3 (.int .i64 0) 8 rfl Try.underlying22 info3 rfl (by decide) (by decide) (.slice none 0 0) [] (o.take at_) Ao at_ co (fun _ => True) (fun _ => False) rfl rfl (Kd.R_nil _ _ _ _ _) HTK.out (fun x cs h => h) (fun _ h => h.elim) (fun _ _ => trivial) (Below.refl _ _) (Nat.le_refl _) (by simp; omega) ?_
     intro v1 w1 ho hb hg hat
     rw [List.nil_append] at ho
     have hl1 : (o.take at_).length = at_ := by rw [List.length_take, HOL.out]; omega
     obtain ⟨A1, c1, ev⟩ := Kd.R_slice ho
     rw [hl1] at ev
     subst ev
     have HO1 := Aside0.mk ho
     have HB1 := Aside0.mk hb
     have HL1 := Aside0.mk hl1
     clear ho hb hg hat hl1
     go_wp2_with ((with_reducible refine gate_builtin (b := .append) (xs := #[.tmp 48, .tmp 52]) rfl ?_); at_builtin; refine stopper ?_)
     try unfold Hold
     refine Kd.R_append (Kd.int .i64) (w0 := w1) wc.heap.size rfl (.tmp 48) (.tmp 52) 22 3 (.int .i64 0) 8 rfl Try.underlying22 info3 rfl (by decide) (by decide) (.slice A1 at_ c1) (o.take at_) (sg * ((x : Int) + 1)) [.int .i64 (sg * ((x : Int) + 1))] (fun _ => True) (fun k => some k ≠ (Value.slice A1 at_ c1).ownBlock) rfl rfl rfl (fun k h => ⟨trivial, h⟩) (fun k hk => trivial) HO1.out (Below.refl _ _) HB1.out.size (by rw [HL1.out]; omega) ?_
     intro v2 w2 ho hb hg hat
     have hl2 : (o.take at_ ++ [sg * ((x : Int) + 1)]).length = at_ + 1 := by rw [List.length_append, HL1.out]; rfl
     obtain ⟨A2, c2, ev⟩ := Kd.R_slice ho
     rw [hl2] at ev
     subst ev
     have HO2 := Aside0.mk ho
     have HB2 := Aside0.mk (HB1.out.trans hb)
     have HL2 := Aside0.mk hl2
     clear ho hb hg hat hl2
     go_wp2_with ((with_reducible refine gate_builtin (b := .append) (xs := #[.tmp 54, .tmp 57]) rfl ?_); at_builtin; refine stopper ?_)
     try unfold Hold
     refine Kd.R_append_rows (Kd.int .i64) (Rr := fun x cs => (Kd.int .i64).K w2 x cs) (w0 := w2) wc.heap.size rfl (.tmp 54) (.tmp 57) 22 3 (.int .i64 0) 8 rfl Try.underlying22 info3 rfl (by decide) (by decide) (.slice A2 (at_ + 1) c2) (o.take at_ ++ [sg * ((x : Int) + 1)]) (o.drop at_) A3 (x - at_) (co - at_) (fun _ => True) (fun k => some k ≠ (Value.slice A2 (at_ + 1) c2).ownBlock) rfl rfl HO2.out (Kd.C_below HCT.out HB2.out) (fun x cs h => h) (fun k h => ⟨trivial, h⟩) (fun _ _ => trivial) (Below.refl _ _) HB2.out.size (by rw [HL2.out]; omega) ?_
     intro v3 w3 ho hb hg hat
     have HO3 := Aside0.mk ho
     have HB3 := Aside0.mk (HB2.out.trans hb)
     clear ho hb hg hat hpop
     go_wp2
     go_roundw
     case rel => exact ⟨x + 1, hxn, rfl, ⟨by rw [HST.out]; exact Kd.R_lower HO3.out HHN.out.2.2⟩, ⟨HB.out.trans (HB3.out.mono HHN.out.2.2)⟩⟩
     case measure => simp [intOf]; omega
   ·rw [if_neg (by have := HN.out; omega)] at HAT
    rw [if_neg (fun h => by have := HN.out; have := h.1; omega)] at HSG
    have hae := HAT.out.symm
    have hse := HSG.out.symm
    subst hae
    subst hse
    obtain ⟨wc, hwc⟩ : ∃ z, z = wr := ⟨_, rfl⟩
    subst hwc
    have HHN := Aside0.mk (show x ≤ x ∧ x ≤ co ∧ w.heap.size ≤ wc.heap.size from ⟨by omega, hco, HB.out.size⟩)
    have hwm : IntKind.i64.wrap ((x : Int) + 1) = (x : Int) + 1 := by exact iw64 (by omega) (by omega)
    have ha0 : (0 : Int) ≤ (x : Int) := by omega
    have ha1' : (x : Int) ≤ (co : Int) := by omega
    have ha2 : (x : Int) ≤ (x : Int) := by omega
    have hpop := fun W => cut22 Ao x co x (by omega) hco W
    have HCT := Aside0.mk (C_cut HOC.out (show x ≤ x by omega) hco)
    obtain ⟨A3, hA3⟩ : ∃ A3, (if co = x then Ao else Ao.map (·.add (x * 1))) = A3 := ⟨_, rfl⟩
    rw [hA3] at hpop HCT
    rw [Nat.sub_self] at HCT
    have HOL := Aside0.mk (show o.length = x from HOC.out.1)
    have HTK := Aside0.mk (C_take HOC.out x (show x ≤ x by omega))
    clear hA3
    go_wp2_with ((with_reducible refine gate_builtin (b := .append) (xs := #[.tmp 43, .tmp 46]) rfl ?_); at_builtin; refine stopper ?_)
    try unfold Hold
    refine Kd.R_append_rows (Kd.int .i64) (Rr := fun x cs => (Kd.int .i64).K wc x cs) (w0 := wc) wc.heap.size rfl (.tmp 43) (.tmp 46) 22 3 (.int .i64 0) 8 rfl Try.underlying22 info3 rfl (by decide) (by decide) (.slice none 0 0) [] (o.take x) Ao x co (fun _ => True) (fun _ => False) rfl rfl (Kd.R_nil _ _ _ _ _) HTK.out (fun x cs h => h) (fun _ h => h.elim) (fun _ _ => trivial) (Below.refl _ _) (Nat.le_refl _) (by simp; omega) ?_
    intro v1 w1 ho hb hg hat
    rw [List.nil_append] at ho
    have hl1 : (o.take x).length = x := by rw [List.length_take, HOL.out]; omega
    obtain ⟨A1, c1, ev⟩ := Kd.R_slice ho
    rw [hl1] at ev
    subst ev
    have HO1 := Aside0.mk ho
    have HB1 := Aside0.mk hb
    have HL1 := Aside0.mk hl1
    clear ho hb hg hat hl1
    go_wp2_with ((with_reducible refine gate_builtin (b := .append) (xs := #[.tmp 48, .tmp 52]) rfl ?_); at_builtin; refine stopper ?_)
    try unfold Hold
    refine Kd.R_append (Kd.int .i64) (w0 := w1) wc.heap.size rfl (.tmp 48) (.tmp 52) 22 3 (.int .i64 0) 8 rfl Try.underlying22 info3 rfl (by decide) (by decide) (.slice A1 x c1) (o.take x) ((x : Int) + 1) [.int .i64 ((x : Int) + 1)] (fun _ => True) (fun k => some k ≠ (Value.slice A1 x c1).ownBlock) rfl rfl rfl (fun k h => ⟨trivial, h⟩) (fun k hk => trivial) HO1.out (Below.refl _ _) HB1.out.size (by rw [HL1.out]; omega) ?_
    intro v2 w2 ho hb hg hat
    have hl2 : (o.take x ++ [(x : Int) + 1]).length = x + 1 := by rw [List.length_append, HL1.out]; rfl
    obtain ⟨A2, c2, ev⟩ := Kd.R_slice ho
    rw [hl2] at ev
    subst ev
    have HO2 := Aside0.mk ho
    have HB2 := Aside0.mk (HB1.out.trans hb)
    have HL2 := Aside0.mk hl2
    clear ho hb hg hat hl2
    go_wp2_with ((with_reducible refine gate_builtin (b := .append) (xs := #[.tmp 54, .tmp 57]) rfl ?_); at_builtin; refine stopper ?_)
    try unfold Hold
    refine Kd.R_append_rows (Kd.int .i64) (Rr := fun x cs => (Kd.int .i64).K w2 x cs) (w0 := w2) wc.heap.size rfl (.tmp 54) (.tmp 57) 22 3 (.int .i64 0) 8 rfl Try.underlying22 info3 rfl (by decide) (by decide) (.slice A2 (x + 1) c2) (o.take x ++ [(x : Int) + 1]) (o.drop x) A3 0 (co - x) (fun _ => True) (fun k => some k ≠ (Value.slice A2 (x + 1) c2).ownBlock) rfl rfl HO2.out (Kd.C_below HCT.out HB2.out) (fun x cs h => h) (fun k h => ⟨trivial, h⟩) (fun _ _ => trivial) (Below.refl _ _) HB2.out.size (by rw [HL2.out]; omega) ?_
    intro v3 w3 ho hb hg hat
    have HO3 := Aside0.mk ho
    have HB3 := Aside0.mk (HB2.out.trans hb)
    clear ho hb hg hat hpop
    go_wp2
    go_roundw
    case rel => exact ⟨x + 1, hxn, rfl, ⟨by rw [HST.out, Int.one_mul]; exact Kd.R_lower HO3.out HHN.out.2.2⟩, ⟨HB.out.trans (HB3.out.mono HHN.out.2.2)⟩⟩
    case measure => simp [intOf]; omega
  ·have hgt : ¬ (x : Int) + 1 ≤ a1 := hlt
   have HXN := Aside0.mk (show x = a1.toNat by omega)
   go_wp2
   go_ret
   exact ⟨_, rfl, by rw [← HXN.out]; exact HO.out, HB.out⟩
end Go.Proofs.Ytepjhdblmghckaa.G


namespace Go.Proofs.Ytepjhdblmghckaa.G
open Go.Proofs.Ytepjhdblmghckaa.Q Go.Proofs.Ytepjhdblmghckaa.K Go.Proofs.Ytepjhdblmghckaa.Bf
open Go.RowKit Go.Shelf Go.Proofs.YtepjhdblmghckaaW.PrintWords Go.Proofs.YtepjhdblmghckaaW.PrintLast Go.Proofs.YtepjhdblmghckaaW.PrintMore
set_option linter.unusedVariables false
theorem nodup_count {n : Nat} {M : Km} {vis L : List (List Int)} (hv : vis.Nodup) (hm : ∀ x, x ∈ vis → (M x).isSome = true) (hval : ∀ x, (M x).isSome = true → Vs n x) : vis.length ≤ 15 ^ n := vs_count hv (fun x hx => hval x (hm x hx))
set_option maxRecDepth 100000 in
set_option maxHeartbeats 8000000 in
theorem worst_calls (n : Nat) (hn : n ≤ 7) (sg : Bool) (w : World) :
  Calls Try.prog 72 #[.agg #[.int .i64 n, .bool sg, .bool false]] w fun e w' => e = .returned (.tuple #[.int .i64 ((wrst n sg).1 : Nat), .int .i64 ((wrst n sg).2 : Nat)]) ∧ Below w.heap.size w w' := by
 obtain ⟨W0, hW0⟩ : ∃ W0, w.alloc (.cells #[.int .i64 n, .bool sg, .bool false] 88) = W0 := ⟨_, rfl⟩
 have hB : Below w.heap.size w W0 := by rw [← hW0]; exact (Below.refl _ w).alloc (Nat.le_refl _) _
 have h0 : Blk W0 w.heap.size #[.int .i64 n, .bool sg, .bool false] 88 := by rw [← hW0]; exact Blk.new _ _ _
 have k0 := h0.cell 0 (v := .int .i64 n) rfl
 have k1 := h0.cell 1 (v := .bool sg) rfl
 have k2 := h0.cell 2 (v := .bool false) rfl
 clear h0
 go_enter Try.func72, Try.ntmps72
 go_upto_region 2 with fail
 try rw [hW0]
 clear hW0
 refine start_ (n := 5) (S := fun w' => w'.cell? ⟨w.heap.size, 0, none⟩ = some (.int .i64 (n : Int)) ∧ w'.cell? ⟨w.heap.size, 1, none⟩ = some (.bool sg) ∧ w'.cell? ⟨w.heap.size, 2, none⟩ = some (.bool false)) (ds := [4]) #[false, false, false, false, false] (by kernel_rfl) rfl rfl ⟨k0, k1, k2⟩ (fun hHeld => ?_)
 have HB0 := Aside0.mk hB.drew
 clear hB
 generalize W0.drew = Wd at hHeld HB0 ⊢
 clear k0 k1 k2
 refine take_ (i := 0) (N := (some 8)) (v := ?_) (a' := ?_) #[true, false, false, false, false] rfl rfl (by kernel_rfl) (fun _ _ _ h => h) (Or.inl ⟨by rfl, ?_⟩) hHeld ?_ ?_
 rotate_left
 ·rintro w' ⟨s0, s1, s2⟩
  go_simp
  with_reducible rfl
 rotate_left
 ·simp only [Act.put, List.setIfInBounds_toArray, List.set_cons_zero, List.set_cons_succ]
  rfl
 refine take_ (i := 1) (N := (some 9)) (v := ?_) (a' := ?_) #[true, true, false, false, false] rfl rfl (by kernel_rfl) (fun _ _ _ h => h) (Or.inl ⟨by rfl, ?_⟩) hHeld ?_ ?_
 rotate_left
 ·rintro w' ⟨s0, s1, s2⟩
  go_simp
  with_reducible rfl
 rotate_left
 ·simp only [Act.put, List.setIfInBounds_toArray, List.set_cons_zero, List.set_cons_succ]
  rfl
 refine one_ (i := 2) (N := (some 10)) #[true, true, true, false, false] rfl rfl (by kernel_rfl) (by decide) (fun K hK => ?_)
 refine goes_ Try.func85 (by kernel_rfl) rfl #[.agg #[.int .i64 n, .bool sg, .bool false]] (by rfl) rfl rfl (by (try simp only [List.map_toArray, List.map_cons, List.map_nil]); first | done | rfl) ?_
 refine (first_calls n hn sg false Wd).mono ?_
 rintro e w1 ⟨rfl, hb⟩
 refine ⟨_, rfl, ?_⟩
 obtain ⟨fm, hfm⟩ : ∃ fm, nth (firstL n) = fm := ⟨_, rfl⟩
 rw [hfm]
 have HFM := Aside0.mk hfm
 clear hfm
 have HB1 := Aside0.mk (HB0.out.trans (hb.mono HB0.out.size))
 have hcc : ∀ (p : Addr) v, Wd.cell? p = some v → w1.cell? p = some v := fun p v hp => by rw [hb.cell (p := p) (World.block_lt_of_cell? _ _ hp)]; exact hp
 refine hK.out _ _ ⟨hcc _ _ hHeld.1, hcc _ _ hHeld.2.1, hcc _ _ hHeld.2.2⟩ (fun hHeld => ?_)
 clear hcc hK K hb
 simp only [stk]
 refine norm_ (a' := ?_) ?_ ?_
 rotate_left
 ·show Act.put _ (some 10) _ = _
  simp only [Act.put, List.setIfInBounds_toArray, List.set_cons_zero, List.set_cons_succ]
  rfl
 refine one_ (i := 3) (N := (some 11)) #[true, true, true, true, false] rfl rfl (by kernel_rfl) (by decide) (fun K hK => ?_)
 refine goes_ Try.func84 (by kernel_rfl) rfl #[.agg #[.int .i64 n, .bool sg, .bool false], .agg (stk fm), .pointer none] (by rfl) rfl rfl (by (try simp only [List.map_toArray, List.map_cons, List.map_nil]); first | done | rfl) ?_
 rw [← HFM.out]
 refine (search_calls n sg false hn (firstL n) (vs_firstL hn) none (.pointer none) w1 (.inl ⟨rfl, rfl⟩)).mono ?_
 rintro e w2 ⟨rfl, M, k, L, hF, hk, h7, hb⟩
 refine ⟨_, rfl, ?_⟩
 obtain ⟨bm, hbm⟩ : ∃ bm, w1.heap.size + 2 = bm := ⟨_, rfl⟩
 rw [hbm] at hk h7 ⊢
 have HBM := Aside0.mk (show w.heap.size ≤ bm by have := HB1.out.size; omega)
 have HF := Aside0.mk hF
 have HKN := Aside0.mk hk
 have HB2 := Aside0.mk (HB1.out.trans (hb.mono HB1.out.size))
 have hcc : ∀ (p : Addr) v, w1.cell? p = some v → w2.cell? p = some v := fun p v hp => by rw [hb.cell (p := p) (World.block_lt_of_cell? _ _ hp)]; exact hp
 refine hK.out _ _ ⟨hcc _ _ hHeld.1, hcc _ _ hHeld.2.1, hcc _ _ hHeld.2.2⟩ (fun hHeld => ?_)
 clear hcc hK K hb hbm hF hk h7
 refine norm_ (a' := ?_) ?_ ?_
 rotate_left
 ·show Act.put _ (some 11) _ = _
  simp only [Act.put, List.setIfInBounds_toArray, List.set_cons_zero, List.set_cons_succ]
  rfl
 refine last_ (i := 4) (N := (some 12)) #[true, true, true, true, true] rfl rfl (by kernel_rfl) (by decide) (fun K hK => ?_)
 rw [if_pos (by rfl)]
 have HK := Aside0.mk hK.out
 clear hK
 obtain ⟨w3, cnt0, hrun, hr0, hg3, hs3⟩ := HKN.out.range
 obtain ⟨ri, hri⟩ : ∃ ri, w2.heap.size = ri := ⟨_, rfl⟩
 rw [hri] at hrun hr0
 have HR0 := Aside0.mk hr0
 have HB3 := Aside0.mk (HB2.out.grown hg3 (by exact HB2.out.size) (fun k e => by cases e))
 have HRI := Aside0.mk (show w.heap.size ≤ ri by have := HB2.out.size; omega)
 clear hr0 hg3 hs3 hri
 unfold Oper.wp
 go_simp
 refine HK.out _ _ ?_
 clear HK K hrun hHeld
 refine done_ (by kernel_rfl) ?_
 go_wp2
 go_loopw [4, 5] (fun x y wr => ∃ (a b cnt : Nat) (vis : List (List Int)), x = .int .i64 (a : Int) ∧ y = .int .i64 (b : Int) ∧ Aside0 (Rg wr bm ri k n M vis cnt) ∧ Aside0 (Mo (gap n sg (firstL n)) vis a b) ∧ Aside0 (vis.Nodup ∧ ∀ x, x ∈ vis → (M x).isSome = true) ∧ Aside0 (Below w.heap.size w wr)) (fun _ _ wr => wr.rangeLeft bm ri)
 case atStart => exact ⟨0, 0, cnt0, [], rfl, rfl, HR0, ⟨Mo.begin _⟩, ⟨List.nodup_nil, fun x hx => (by cases hx)⟩, HB3⟩
 case round =>
  obtain ⟨a, b, cnt, vis, rfl, rfl, HR, HM, HV, HW⟩ := hrel
  have HLT := Aside0.mk HR.out.lt
  rcases HR.out.next hn with ⟨hc, hall, hrun⟩ | ⟨l, e, key, W', cnt', hvl, he, hnv, hrun, hr', hlt, hg, hsz, hent⟩
  ·have HALL := Aside0.mk hall
   clear hall hc
   go_wp2
   have hw := worst_of HF.out HV.out.1 (fun x => ⟨HV.out.2 x, fun hx => HALL.out x (HF.out.valid x hx) hx⟩) HM.out
   refine bodyPost_ret (results_tmp2 rfl _ _ _) rfl ⟨by rw [hw]; rfl, HW.out⟩
  ·have hd := HF.out.gapM he
   obtain ⟨⟨e1, e2⟩, e3⟩ := e
   simp only [stepE] at hrun hent
   have hcnt : vis.length ≤ 15 ^ n := nodup_count (L := vis) HV.out.1 HV.out.2 HF.out.valid
   have hbl : b ≤ vis.length := by rw [HM.out.many]; exact List.countP_le_length
   have h15 := p15 hn
   have hwb : IntKind.i64.wrap ((b : Int) + 1) = ((b + 1 : Nat) : Int) := by rw [iw64 (by omega) (by omega)]; omega
   have HR' := Aside0.mk hr'
   have HLC := Aside0.mk hlt
   have HG := Aside0.mk hg
   have HSZ := Aside0.mk hsz
   have HD := Aside0.mk hd
   have HNV := Aside0.mk hnv
   have HE := Aside0.mk he
   have HWB := Aside0.mk (HW.out.grown hg (by exact HW.out.size) (fun k e => by cases e; exact HRI.out))
   clear hr' hlt hg hsz hd hnv he hvl hcnt hbl h15
   have hmem : ∀ x, x ∈ vis ++ [l] → (M x).isSome = true := fun x hx => by
    rcases List.mem_append.1 hx with hx | hx
    ·exact HV.out.2 x hx
    ·simp at hx; subst hx; rw [HE.out]; rfl
   have hnd : (vis ++ [l]).Nodup := List.nodup_append.2 ⟨HV.out.1, by simp, fun x hx y hy => by simp at hy; subst hy; rintro rfl; exact HNV.out hx⟩
   have HV' := Aside0.mk (And.intro hnd hmem)
   clear hmem hnd
   have hkey := HLT.out
   obtain ⟨hl1, hl2, hl3, hl4⟩ := HLT.out
   have fin : ∀ (W2 : World) (a2 b2 : Nat), Below w.heap.size w W2 → W'.grownBy W2 none → Mo (gap n sg (firstL n)) (vis ++ [l]) a2 b2 → Rg W2 bm ri k n M (vis ++ [l]) cnt' ∧ W2.rangeLeft bm ri < wr.rangeLeft bm ri := fun W2 a2 b2 _ hg2 _ => by
    have h2 := HR'.out.kept hg2 (by simp) (by simp)
    exact ⟨h2, by rw [h2.lt.2.2.1, hl3]; exact HLC.out⟩
   have FIN := Aside0.mk fin
   have HS' := Aside0.mk (show W'.heap.size = wr.heap.size from HSZ.out)
   have HLS := Aside0.mk (show w.heap.size ≤ W'.heap.size by have := HW.out.size; have := HSZ.out; omega)
   clear fin hl1 hl2 hl3 hl4 hkey
   by_cases hgt : (e3 : Int) > (a : Int)
   ·go_wp2
    go_roundw
    case rel => exact ⟨e3, 1, cnt', vis ++ [l], rfl, rfl, ⟨(FIN.out _ e3 1 (HWB.out.alloc HLS.out _) (World.grownBy_alloc W' _ none) (by have := HM.out.more (x := l) (by have := HD.out; simp only at this; omega); rw [← HD.out] at this; exact this)).1⟩, ⟨by have := HM.out.more (x := l) (by have := HD.out; simp only at this; omega); rw [← HD.out] at this; exact this⟩, HV', ⟨HWB.out.alloc HLS.out _⟩⟩
    case measure => exact (FIN.out _ e3 1 (HWB.out.alloc HLS.out _) (World.grownBy_alloc W' _ none) (by have := HM.out.more (x := l) (by have := HD.out; simp only at this; omega); rw [← HD.out] at this; exact this)).2
   ·by_cases heq : e3 = a
    ·subst heq
     go_wp2
     go_roundw
     case rel => exact ⟨e3, b + 1, cnt', vis ++ [l], rfl, rfl, ⟨(FIN.out _ e3 (b + 1) (HWB.out.alloc HLS.out _) (World.grownBy_alloc W' _ none) (HM.out.same HD.out.symm)).1⟩, ⟨HM.out.same HD.out.symm⟩, HV', ⟨HWB.out.alloc HLS.out _⟩⟩
     case measure => exact (FIN.out _ e3 (b + 1) (HWB.out.alloc HLS.out _) (World.grownBy_alloc W' _ none) (HM.out.same HD.out.symm)).2
    ·have heq' : ¬ (e3 : Int) = (a : Int) := by omega
     go_wp2
     go_roundw
     case rel => exact ⟨a, b, cnt', vis ++ [l], rfl, rfl, ⟨(FIN.out _ a b (HWB.out.alloc HLS.out _) (World.grownBy_alloc W' _ none) (HM.out.less (by have := HD.out; simp only at this; omega))).1⟩, ⟨HM.out.less (by have := HD.out; simp only at this; omega)⟩, HV', ⟨HWB.out.alloc HLS.out _⟩⟩
     case measure => exact (FIN.out _ a b (HWB.out.alloc HLS.out _) (World.grownBy_alloc W' _ none) (HM.out.less (by have := HD.out; simp only at this; omega))).2
end Go.Proofs.Ytepjhdblmghckaa.G


namespace Go.Proofs.Ytepjhdblmghckaa.G
open Go.Proofs.Ytepjhdblmghckaa.Q Go.Proofs.Ytepjhdblmghckaa.K Go.Proofs.Ytepjhdblmghckaa.Bf
open Go.RowKit Go.Shelf Go.Proofs.YtepjhdblmghckaaW.PrintWords Go.Proofs.YtepjhdblmghckaaW.PrintLast Go.Proofs.YtepjhdblmghckaaW.PrintMore
set_option linter.unusedVariables false
def pancake_Worst.f (a0 : Int) : Option (Int × Int × Int) := some (if 1 ≤ a0 ∧ a0 ≤ 7 then (((wrst a0.toNat false).1 : Nat), ((wrst a0.toNat false).2 : Nat), 0) else (0, 0, 1))
set_option maxRecDepth 100000 in
set_option maxHeartbeats 4000000 in
theorem pancake_Worst.calls (a0 : Int) (r1 r2 r3 : Int) (w : World) (h : pancake_Worst.f a0 = some (r1, r2, r3)) :
  Calls Try.prog 42 #[.int .i64 a0] w fun e w' => e = .returned (.tuple #[.int .i64 r1, .int .i64 r2, .int .i64 r3]) ∧ Below w.heap.size w w' := by
 unfold pancake_Worst.f at h
 go_enter Try.func42, Try.ntmps42
 by_cases h1 : a0 < 1
 ·rw [if_neg (by omega)] at h
  cases h
  go_wp2
  refine bodyPost_ret (results_tmp3 rfl _ _ _) rfl ⟨rfl, Below.refl _ _⟩
 ·by_cases h2 : a0 > 7
  ·rw [if_neg (by omega)] at h
   cases h
   go_wp2
   refine bodyPost_ret (results_tmp3 rfl _ _ _) rfl ⟨rfl, Below.refl _ _⟩
  ·rw [if_pos (by omega)] at h
   cases h
   obtain ⟨n, rfl⟩ := Int.eq_ofNat_of_zero_le (show 0 ≤ a0 by omega)
   have hn : n ≤ 7 := by omega
   go_wp2_with (go_at_call 72; refine stopper ?_)
   unfold Hold
   refine (worst_calls n hn false w).mono ?_
   rintro e w1 ⟨rfl, hb⟩
   have HB := Aside0.mk hb
   clear hb
   go_wp2
   refine bodyPost_ret (results_tmp3 rfl _ _ _) rfl ⟨rfl, HB.out⟩
end Go.Proofs.Ytepjhdblmghckaa.G


namespace Go.Proofs.Ytepjhdblmghckaa.G
open Go.Proofs.Ytepjhdblmghckaa.Q Go.Proofs.Ytepjhdblmghckaa.K Go.Proofs.Ytepjhdblmghckaa.Bf
set_option linter.unusedVariables false
def insI (a : Int) : List Int → List Int
 | [] => [a]
 | b :: l => if a ≤ b then a :: b :: l else b :: insI a l
def isort : List Int → List Int
 | [] => []
 | a :: l => insI a (isort l)
theorem insI_perm (a : Int) : ∀ l, (insI a l).Perm (a :: l)
 | [] => List.Perm.refl _
 | b :: l => by
  rw [insI]
  split
  ·exact List.Perm.refl _
  ·exact ((insI_perm a l).cons b).trans (List.Perm.swap a b l)
theorem isort_perm : ∀ l, (isort l).Perm l
 | [] => List.Perm.refl _
 | a :: l => (insI_perm a (isort l)).trans ((isort_perm l).cons a)
theorem insI_sorted (a : Int) : ∀ l : List Int, l.Pairwise (· ≤ ·) → (insI a l).Pairwise (· ≤ ·)
 | [], _ => by simp [insI]
 | b :: l, h => by
  rw [insI]
  rw [List.pairwise_cons] at h
  split
  ·rename_i hab
   rw [List.pairwise_cons, List.pairwise_cons]
   exact ⟨fun x hx => by
    rcases List.mem_cons.1 hx with rfl | hx
    ·exact hab
    ·have := h.1 x hx; omega, h⟩
  ·rename_i hab
   rw [List.pairwise_cons]
   refine ⟨fun x hx => ?_, insI_sorted a l h.2⟩
   rcases List.mem_cons.1 ((insI_perm a l).mem_iff.1 hx) with rfl | hx
   ·omega
   ·exact h.1 x hx
theorem isort_sorted : ∀ l, (isort l).Pairwise (· ≤ ·)
 | [] => List.Pairwise.nil
 | a :: l => insI_sorted a _ (isort_sorted l)
theorem sortL_sorted (l : List Int) : (sortL l).Pairwise (· ≤ ·) := by
 have h := List.pairwise_mergeSort (le := fun x y : Int => decide (x ≤ y)) (fun a b c h1 h2 => by simp at *; omega) (fun a b => by simp; omega) l
 exact h.imp (fun h => by simpa using h)
theorem perm_sorted_eq : ∀ (l m : List Int), l.Perm m → l.Pairwise (· ≤ ·) → m.Pairwise (· ≤ ·) → l = m
 | [], m, hp, _, _ => (List.nil_perm.1 hp).symm
 | a :: l, [], hp, _, _ => by have := hp.length_eq; simp at this
 | a :: l, b :: m, hp, hl, hm => by
  rw [List.pairwise_cons] at hl hm
  have hab : a = b := by
   have h1 : a ∈ b :: m := hp.mem_iff.1 (by simp)
   have h2 : b ∈ a :: l := hp.mem_iff.2 (by simp)
   rcases List.mem_cons.1 h1 with h1 | h1
   ·exact h1
   ·rcases List.mem_cons.1 h2 with h2 | h2
    ·exact h2.symm
    ·have := hl.1 b h2; have := hm.1 a h1; omega
  subst hab
  rw [perm_sorted_eq l m (List.Perm.cons_inv hp) hl.2 hm.2]
theorem sortL_eq (l : List Int) : sortL l = isort l := perm_sorted_eq _ _ ((List.mergeSort_perm ..).trans (isort_perm l).symm) (sortL_sorted l) (isort_sorted l)
def cirStepK (p pl : List Int) (st : List Bool × List (List Int)) (line : Nat) : List Bool × List (List Int) :=
 if st.1.getD line false = true then st else ((folF p pl (unseen st.1 + 1) (2 * line) st.1 []).2, st.2 ++ [isort (folF p pl (unseen st.1 + 1) (2 * line) st.1 []).1])
def circK (s : List Int) : List (List Int) := ((List.range (s.length + 1)).foldl (cirStepK (picL s) (plL s)) (List.replicate (s.length + 1) false, [])).2
theorem circL_eq (s : List Int) : circL s = circK s := by
 have e : cirStep (picL s) (plL s) = cirStepK (picL s) (plL s) := by
  funext st line
  unfold cirStep cirStepK
  rw [sortL_eq]
 unfold circL circK cirTo
 rw [e]
def cmpK (s : List Int) : List Cmp := cmpF (plL s) (circK s).length (circK s) []
theorem cmpL_eq (s : List Int) : cmpL s = cmpK s := by unfold cmpL cmpK; rw [circL_eq]
def foundB {α : Type} [DecidableEq α] (next : α → List α) (start t : α) (M : Nat) : Bool := ((List.range M).find? (fun k => (ball next start k).contains t)).isSome
theorem least_small {α : Type} [DecidableEq α] {next : α → List α} {start t : α} {M N : Nat} (hM : M ≤ N) (h : foundB next start t M = true) : least next start t N = least next start t M := by
 unfold foundB at h
 unfold least
 obtain ⟨d, rfl⟩ := Nat.exists_eq_add_of_le hM
 obtain ⟨x, hx⟩ := Option.isSome_iff_exists.1 h
 rw [List.range_add, List.find?_append]
 simp only [hx, Option.some_or]
theorem gap_small {n : Nat} {sg : Bool} {a b : List Int} (M : Nat) (hM : M ≤ 15 ^ n + 1) (h : foundB (nextK n sg false) a b M = true) : gap n sg a b = least (nextK n sg false) a b M := least_small hM h
theorem mostOf_congr {d d' : List Int → Nat} : ∀ (l : List (List Int)), (∀ x, x ∈ l → d x = d' x) → mostOf d l = mostOf d' l
 | [], _ => rfl
 | x :: l, h => by unfold mostOf; rw [h x (by simp), mostOf_congr l (fun y hy => h y (by simp [hy]))]
theorem mostOf_mem {d : List Int → Nat} {l m : List (List Int)} (h : ∀ x, x ∈ l ↔ x ∈ m) : mostOf d l = mostOf d m := by
 have one : ∀ l m : List (List Int), (∀ x, x ∈ l → x ∈ m) → mostOf d l ≤ mostOf d m := fun l m h => by
  rcases mostOf_at d l with h0 | ⟨x, hx, e⟩
  ·omega
  ·rw [← e]; exact mostOf_le d m x (h x hx)
 exact Nat.le_antisymm (one l m (fun x hx => (h x).1 hx)) (one m l (fun x hx => (h x).2 hx))
theorem wrst_of {n : Nat} {sg : Bool} {L : List (List Int)} (hnd : L.Nodup) (hst : firstL n ∈ L) (hcl : ∀ x, x ∈ L → ∀ y, y ∈ nextK n sg false x → y ∈ L) (hr : ∀ x, x ∈ L → x ∈ ball (nextK n sg false) (firstL n) (15 ^ n)) (hv : ∀ x, x ∈ L → Vs n x) :
  wrst n sg = (mostOf (gap n sg (firstL n)) L, L.countP (fun x => decide (gap n sg (firstL n) x = mostOf (gap n sg (firstL n)) L))) := by
 have hball : ∀ k x, x ∈ ball (nextK n sg false) (firstL n) k → x ∈ L := by
  intro k
  induction k with
  | zero => intro x hx; simp [ball] at hx; rw [hx]; exact hst
  | succ k ih =>
   intro x hx
   rcases ball_succ.1 hx with hx | ⟨y, hy, hxy⟩
   ·exact ih x hx
   ·exact hcl y (ih y hy) x hxy
 have hmem : ∀ x, x ∈ reach n sg ↔ x ∈ L := fun x => by
  unfold reach
  rw [mem_uniq, List.mem_filter, decide_eq_true_eq]
  exact ⟨fun h => hball _ x h.2, fun h => ⟨univ_mem n x (hv x h), hr x h⟩⟩
 have hperm : (reach n sg).Perm L := (List.perm_ext_iff_of_nodup (uniq_nodup _) hnd).2 hmem
 unfold wrst
 simp only
 rw [mostOf_mem hmem, hperm.countP_eq]
theorem aw1 : pancake_Flips.f [3, 1, 2] [1, 2, 3] = some (2, 0) := by
 have h : gap 3 false [1, 2, 3] [3, 1, 2] = 2 := by rw [gap_small 4 (by decide) (by decide +kernel)]; decide +kernel
 unfold pancake_Flips.f
 rw [if_pos (by decide +kernel)]
 rw [show ([3, 1, 2] : List Int).length = 3 from rfl, h]
 rfl
def all3 : List (List Int) := [[1, 2, 3], [2, 1, 3], [3, 2, 1], [3, 1, 2], [2, 3, 1], [1, 3, 2]]
theorem aw3 : pancake_Worst.f 3 = some (3, 1, 0) := by
 have hb : ∀ x, x ∈ all3 → x ∈ ball (nextK 3 false false) (firstL 3) 3 := by decide +kernel
 have hd : ∀ x, x ∈ all3 → gap 3 false (firstL 3) x = least (nextK 3 false false) (firstL 3) x 4 := fun x hx => gap_small 4 (by decide) (by
  have : ∀ x, x ∈ all3 → foundB (nextK 3 false false) (firstL 3) x 4 = true := by decide +kernel
  exact this x hx)
 have hw := wrst_of (n := 3) (sg := false) (L := all3) (by decide +kernel) (by decide +kernel) (by decide +kernel) (fun x hx => ball_mono (by decide) (hb x hx)) (fun x hx => by
  have : ∀ x, x ∈ all3 → x.length = 3 ∧ x.all (fun y => decide (-7 ≤ y ∧ y ≤ 7)) = true := by decide +kernel
  obtain ⟨h1, h2⟩ := this x hx
  refine ⟨h1, fun j => ?_⟩
  by_cases hj : j < x.length
  ·have := List.all_eq_true.1 h2 (nth x j) (getD_mem hj)
   simpa using this
  ·rw [nth_end _ _ (by omega)]; omega)
 have e : (mostOf (gap 3 false (firstL 3)) all3, all3.countP (fun x => decide (gap 3 false (firstL 3) x = mostOf (gap 3 false (firstL 3)) all3))) = (3, 1) := by
  rw [mostOf_congr all3 hd, List.countP_congr (p := fun x => decide (gap 3 false (firstL 3) x = _)) (q := fun x => decide (least (nextK 3 false false) (firstL 3) x 4 = mostOf (fun x => least (nextK 3 false false) (firstL 3) x 4) all3)) (fun x hx => by rw [hd x hx])]
  decide +kernel
 unfold pancake_Worst.f
 rw [if_pos (by decide), show (3 : Int).toNat = 3 from rfl, hw, e]
 rfl
theorem aw4 : pancake_Distance.f [2, 1] = some (3, 0) := by
 unfold pancake_Distance.f
 rw [cmpL_eq, circL_eq]
 kernel_rfl
theorem aw5 : pancake_Circles.f [-1] = some ([[0, 1]], 0) := by
 unfold pancake_Circles.f
 rw [circL_eq]
 kernel_rfl
theorem aw6 : pancake_Components.f [2, 1] = some (1, 1, 1, false, 0) := by
 unfold pancake_Components.f
 rw [cmpL_eq]
 kernel_rfl
end Go.Proofs.Ytepjhdblmghckaa.G

namespace Go.Proofs.Ytepjhdblmghckaa.G
end Go.Proofs.Ytepjhdblmghckaa.G
namespace Go.Proofs.Ytepjhdblmghckaa.Q
open Go.Proofs.Ytepjhdblmghckaa.G
open Go.RowKit Go.Proofs.YtepjhdblmghckaaW.PrintWords Go.Proofs.YtepjhdblmghckaaW.PrintLast Go.Proofs.YtepjhdblmghckaaW.PrintMore
attribute [local go_sem] max2_int min2_int max_two min_two max_three min_three max_four min_four
set_option linter.unusedVariables false
set_option linter.unusedSimpArgs false
def pancake_Check.f (k : Nat) (l0 : List Int) : Option (Int) := (pancake_check.f k false 7 (([l0] : List (List Int)))).bind fun t230 => (some t230)
set_option maxHeartbeats 8000000 in
set_option maxRecDepth 100000 in
theorem pancake_Check.calls (k : Nat) (P0_ : Nat → Prop) (A0 : Option Addr) (c0 : Nat) (l0 : List Int) (r : Int) (w : World) (hs0 : Kd.V (Kd.int .i64) 3 w w.heap.size (fun k_ => P0_ k_) (.slice A0 l0.length c0) l0) (h : pancake_Check.f k l0 = some r) :
  Calls Try.prog 58 #[.slice A0 l0.length c0] w fun e w' => e = .returned (.int .i64 r) ∧ Below w.heap.size w w' := by
 have HO0 := Aside0.mk (show Kd.V (Kd.int .i64) 3 w w.heap.size (fun k_ => (P0_ k_ ∨ w.heap.size ≤ k_)) (.slice A0 l0.length c0) l0 from Kd.V_mono hs0 (fun k_ hk => .inl hk))
 have HB := Aside0.mk (Below.refl w.heap.size w)
 have H : ((pancake_check.f k false 7 (([l0] : List (List Int)))).bind fun t230 => (some t230)) = some r := h
 clear h
 obtain ⟨y227, hy227⟩ : ∃ y_ : List (List Int), y_ = (([l0] : List (List Int))) := ⟨_, rfl⟩
 replace H : ((pancake_check.f k false 7 y227).bind fun t230 => (some t230)) = some r := by first | (rw [hy227]; with_reducible exact H) | (have H2_ := (Option.bind_some _ _).symm.trans H; rw [hy227]; with_reducible exact H2_) | (have H2_ := (Option.bind_some _ _).symm.trans H; with_reducible exact H2_) | with_reducible exact H | (rw [hy227]; exact H) | exact H
 have Ny227 := Aside0.mk hy227
 clear hy227
 replace H := Option.bind_eq_some_iff.mp H
 obtain ⟨t230, A20, H⟩ := H
 replace H : (some t230) = some r := H
 have A2 := Aside0.mk A20
 clear A20
 obtain rfl := Option.some.inj H
 go_enter Try.func58, Try.ntmps58
 go_wp2_with (first|((with_reducible refine gate_dst (N := 4) rfl ?_);refine Kd.N_lit (Kd.slice 3 (Kd.int .i64)) _ 22 ?hg (N' := 4) ?hd (xs := ([l0] : List (List Int))) (inner := [.slice A0 l0.length c0]) (ok := (fun k_ => (P0_ k_ ∨ w.heap.size ≤ k_))) (okp := (fun k_ => (P0_ k_ ∨ w.heap.size ≤ k_))) ?hr ?hp (fun _ hk => hk) ((show ∀ k_, w.heap.size ≤ k_ → (fun k_ => (P0_ k_ ∨ w.heap.size ≤ k_)) k_ from fun k_ hk => (.inr (Nat.le_trans (below_size (by repeat (first|(with_reducible first|exact HB.out|apply below_alloc|apply pw_below_drewN|apply below_drew1)|exact HB.out))) hk))) _ (Nat.le_refl _)) (Below.refl _ _) (Nat.le_refl _) (by simp) ?_;(case hd => rfl);(case hg => rfl);(case hr => first|(go_simp;done)|(go_simp;rfl));(case hp => exact (Reps.one (show Kd.FK (Kd.slice 3 (Kd.int .i64)) _ _ l0 [.slice A0 l0.length c0] from (Kd.FK_slice_mk (Kd.V_reads' (Kd.V_mono (ok' := (fun k_ => (P0_ k_ ∨ w.heap.size ≤ k_))) (HO0.out) (fun k_ hk => hk))).2.1 (Kd.V_F (Kd.V_mono (ok' := (fun k_ => (P0_ k_ ∨ w.heap.size ≤ k_))) (HO0.out) (fun k_ hk => hk))))) (Reps.none _ _)));intro v228 w3 ho4 hb hg_ hnew_;clear hg_ hnew_;(first|rw [← Ny227.out] at ho4|(simp only [Int.reduceToNat] at ho4;rw [← Ny227.out] at ho4));have n0_ := Aside0.mk (Kd.V_elder' (by (with_reducible repeat (first|apply Kd.V_alloc|apply Kd.V_drewN|apply Kd.V_drew));exact HO0.out) (Kd.N_base ho4) hb);have n1_ := Aside0.mk (Kd.N_lower ho4 (below_size (by repeat (first|(with_reducible first|exact HB.out|apply below_alloc|apply pw_below_drewN|apply below_drew1)|exact HB.out))));have n2_ := Aside0.mk (below_step (by repeat (first|(with_reducible first|exact HB.out|apply below_alloc|apply pw_below_drewN|apply below_drew1)|exact HB.out)) hb);clear HO0;clear HB;have HO0 := n0_;have HO229 := n1_;have HB := n2_;clear n0_ n1_ n2_;clear hb ho4;obtain ⟨Ao5, co5, eo5⟩ := Kd.N_slice HO229.out;subst eo5)|((with_reducible refine gate_callee (f := 68) rfl ?_);refine goesL_ (some 5) rfl rfl Try.func68 (by kernel_rfl) rfl #[.bool false, .int .i64 7, .slice Ao5 y227.length co5] rfl (by (try simp only [List.map_toArray, List.map_cons, List.map_nil]);first|done|rfl|(simp only [List.length_drop, List.length_take];rfl)) ?_;(with_reducible refine (pancake_check.calls k false 7 _ _ y227 t230 _ ?side1 ?side2 A2.out).mono ?_);(case side1 => repeat (first|exact (Kd.N_reads' HO229.out).2.2|(with_reducible refine Kd.C_alloc ?_ _)|(with_reducible refine Kd.C_drewN ?_ _)|(with_reducible refine Kd.C_drew ?_)));(case side2 => exact (Kd.N_reads' HO229.out).2.1);rintro e w6 ⟨rfl, hb⟩;refine ⟨_, rfl, ?_⟩;have n0_ := Aside0.mk (Kd.V_below (by (with_reducible repeat (first|apply Kd.V_alloc|apply Kd.V_drewN|apply Kd.V_drew));exact HO0.out) hb);have n1_ := Aside0.mk (Kd.N_below (by (with_reducible repeat (first|apply Kd.N_alloc|apply Kd.N_drewN|apply Kd.N_drew));exact HO229.out) hb);have n2_ := Aside0.mk (below_step (by repeat (first|(with_reducible first|exact HB.out|apply below_alloc|apply pw_below_drewN|apply below_drew1)|exact HB.out)) hb);clear HO0;clear HO229;clear HB;have HO0 := n0_;have HO229 := n1_;have HB := n2_;clear n0_ n1_ n2_;(try clear hb);(try clear hb2);(try clear hk);(try clear hi)))
 go_ret
 exact ⟨by first | rfl | (simp [errW_none, errW_some] <;> rfl) | (simp [*, errW_none, errW_some] <;> rfl), by repeat (first | (with_reducible first | exact HB.out | apply below_alloc | apply pw_below_drewN | apply below_drew1) | exact HB.out)⟩
end Go.Proofs.Ytepjhdblmghckaa.Q

namespace Go.Proofs.Ytepjhdblmghckaa.G
end Go.Proofs.Ytepjhdblmghckaa.G
namespace Go.Proofs.Ytepjhdblmghckaa.Q
open Go.Proofs.Ytepjhdblmghckaa.G
open Go.RowKit Go.Proofs.YtepjhdblmghckaaW.PrintWords Go.Proofs.YtepjhdblmghckaaW.PrintLast Go.Proofs.YtepjhdblmghckaaW.PrintMore
attribute [local go_sem] max2_int min2_int max_two min_two max_three min_three max_four min_four
set_option linter.unusedVariables false
set_option linter.unusedSimpArgs false
def pancake_Gaps.l0 : Nat → List Int → Int → List Int → Int → Int → Option (Int × Int)
 | 0, _, _, _, _, _ => none
 | k + 1, x0, x5, x15, x16, x17 => if x17 < x16 then (if 0 ≤ x17 then (if x17 < (x15.length : Int) then (if (wrap64 (x17 + 1)) < (x0.length : Int) then (if 0 ≤ (wrap64 (x17 + 1)) then (if (wrap64 ((rd x0 (wrap64 (x17 + 1))) - (rd x15 x17))) > 1 then (pancake_Gaps.l0 k x0 (wrap64 (x5 + 1)) x15 x16 (wrap64 (x17 + 1))) else (if (wrap64 ((rd x0 (wrap64 (x17 + 1))) - (rd x15 x17))) < (-1) then (pancake_Gaps.l0 k x0 (wrap64 (x5 + 1)) x15 x16 (wrap64 (x17 + 1))) else (pancake_Gaps.l0 k x0 x5 x15 x16 (wrap64 (x17 + 1))))) else (none)) else (if (wrap64 ((wrap64 ((x0.length : Int) + 1)) - (rd x15 x17))) > 1 then (pancake_Gaps.l0 k x0 (wrap64 (x5 + 1)) x15 x16 (wrap64 (x17 + 1))) else (if (wrap64 ((wrap64 ((x0.length : Int) + 1)) - (rd x15 x17))) < (-1) then (pancake_Gaps.l0 k x0 (wrap64 (x5 + 1)) x15 x16 (wrap64 (x17 + 1))) else (pancake_Gaps.l0 k x0 x5 x15 x16 (wrap64 (x17 + 1)))))) else (none)) else (none)) else (some (x5, 0))
def pancake_Gaps.f (k : Nat) (l0 : List Int) : Option (Int × Int) := (pancake_Check.f k l0).bind fun t231 => (if t231 = 0 then (pancake_Gaps.l0 k l0 0 l0 (l0.length : Int) 0) else (some (0, t231)))
set_option maxHeartbeats 8000000 in
set_option maxRecDepth 100000 in
theorem pancake_Gaps.calls (k : Nat) (A0 : Option Addr) (c0 : Nat) (l0 : List Int) (r1 : Int) (r2 : Int) (w : World) (hr0 : Kd.C (Kd.int .i64) w A0 l0.length l0) (hc0 : l0.length ≤ c0) (h : pancake_Gaps.f k l0 = some (r1, r2)) :
  Calls Try.prog 30 #[.slice A0 l0.length c0] w fun e w' => e = .returned (.tuple #[.int .i64 r1, .int .i64 r2]) ∧ Below w.heap.size w w' := by
 have HR0 := Aside0.mk hr0
 have HC0 := Aside0.mk hc0
 clear hr0 hc0
 have HB := Aside0.mk (Below.refl w.heap.size w)
 have H : ((pancake_Check.f k l0).bind fun t231 => (if t231 = 0 then (pancake_Gaps.l0 k l0 0 l0 (l0.length : Int) 0) else (some (0, t231)))) = some (r1, r2) := h
 clear h
 replace H := Option.bind_eq_some_iff.mp H
 obtain ⟨t231, A20, H⟩ := H
 replace H : (if t231 = 0 then (pancake_Gaps.l0 k l0 0 l0 (l0.length : Int) 0) else (some (0, t231))) = some (r1, r2) := H
 have A2 := Aside0.mk A20
 clear A20
 by_cases c3 : t231 = 0
 ·rw [if_pos c3] at H
  have c3b0 : (t231 == 0) = true := beq_iff_eq.mpr c3
  have c3b1 : (t231 != 0) = false := bne_eq_false_iff_eq.mpr c3
  clear c3
  have H' := Aside0.mk H
  clear H
  go_enter Try.func30, Try.ntmps30
  go_wp2_with (first|((with_reducible refine gate_callee (f := 58) rfl ?_);refine goesL_ (some 11) rfl rfl Try.func58 (by kernel_rfl) rfl #[.slice A0 l0.length c0] rfl (by (try simp only [List.map_toArray, List.map_cons, List.map_nil]);first|done|rfl|(simp only [List.length_drop, List.length_take];rfl)) ?_;(with_reducible refine (pancake_Check.calls k (fun k_ => k_ < w.heap.size) _ _ l0 t231 _ ?side1 A2.out).mono ?_);(case side1 => exact Kd.V_mk HC0.out (Kd.F_below (Kd.C_F (Kd.heap_int .i64) HR0.out) (by repeat (first|(with_reducible first|exact HB.out|apply below_alloc|apply pw_below_drewN|apply below_drew1)|exact HB.out))));rintro e w4 ⟨rfl, hb⟩;refine ⟨_, rfl, ?_⟩;have n0_ := Aside0.mk (below_step (by repeat (first|(with_reducible first|exact HB.out|apply below_alloc|apply pw_below_drewN|apply below_drew1)|exact HB.out)) hb);clear HB;have HB := n0_;clear n0_;(try clear hb);(try clear hb2);(try clear hk);(try clear hi)))
  go_loopg [5, 17] k (fun kq v5 v17 w' => ∃ (x5_1 : Int) (x17_1 : Int), v5 = .int .i64 x5_1 ∧ v17 = .int .i64 x17_1 ∧ Aside0 (pancake_Gaps.l0 kq l0 x5_1 l0 (l0.length : Int) x17_1 = some (r1, r2)) ∧ Aside0 (kq ≤ k) ∧ Aside0 (Below w.heap.size w w'))
  case atStart => exact ⟨(0), (0), (by first | rfl | (simp; done) | (simp [*]; done)), (by first | rfl | (simp; done) | (simp [*]; done)), H', ⟨Nat.le_refl _⟩, ⟨by repeat (first | (with_reducible first | exact HB.out | apply below_alloc | apply pw_below_drewN | apply below_drew1) | exact HB.out)⟩⟩
  case round =>
   clear H'
   obtain ⟨x5_1, x17_1, rfl, rfl, HA, HK1, HB⟩ := hrel
   cases gk with
   | zero => exact absurd HA.out (by simp [pancake_Gaps.l0])
   | succ k1 =>
    have H := HA.out
    clear HA
    simp only [pancake_Gaps.l0] at H
    by_cases c5 : x17_1 < (l0.length : Int)
    ·rw [if_pos c5] at H
     have c5b0 : decide (x17_1 < (l0.length : Int)) = true := decide_eq_true c5
     clear c5
     by_cases c6 : 0 ≤ x17_1
     rotate_left
     ·rw [if_neg c6] at H
      exact absurd H (by simp)
     rw [if_pos c6] at H
     have c6b0 : decide (0 ≤ x17_1) = true := decide_eq_true c6
     clear c6
     by_cases c7 : x17_1 < (l0.length : Int)
     rotate_left
     ·rw [if_neg c7] at H
      exact absurd H (by simp)
     rw [if_pos c7] at H
     have c7b0 : decide (x17_1 < (l0.length : Int)) = true := decide_eq_true c7
     clear c7
     by_cases c8 : (wrap64 (x17_1 + 1)) < (l0.length : Int)
     ·rw [if_pos c8] at H
      have c8b0 : decide ((wrap64 (x17_1 + 1)) < (l0.length : Int)) = true := decide_eq_true c8
      clear c8
      obtain ⟨ji9, hji9⟩ : ∃ j_ : Int, (wrap64 (x17_1 + 1)) = j_ := ⟨_, rfl⟩
      replace H : (if 0 ≤ (ji9) then (if (wrap64 ((rd l0 (ji9)) - (rd l0 x17_1))) > 1 then (pancake_Gaps.l0 k1 l0 (wrap64 (x5_1 + 1)) l0 (l0.length : Int) ji9) else (if (wrap64 ((rd l0 (ji9)) - (rd l0 x17_1))) < (-1) then (pancake_Gaps.l0 k1 l0 (wrap64 (x5_1 + 1)) l0 (l0.length : Int) ji9) else (pancake_Gaps.l0 k1 l0 x5_1 l0 (l0.length : Int) ji9))) else (none)) = some (r1, r2) := by first | (rw [hji9] at H; exact H) | (simp only [hji9] at H ⊢; exact H)
      (try rw [hji9] at c8b0)
      have hji9w : (IntKind.i64.wrap (x17_1 + 1)) = ji9 := (i64_w _).trans hji9
      by_cases c10 : 0 ≤ (ji9)
      rotate_left
      ·rw [if_neg c10] at H
       exact absurd H (by simp)
      rw [if_pos c10] at H
      have c10b0 : decide (0 ≤ (ji9)) = true := decide_eq_true c10
      clear c10
      by_cases c11 : (wrap64 ((rd l0 (ji9)) - (rd l0 x17_1))) > 1
      ·rw [if_pos c11] at H
       have c11b0 : decide (1 < (wrap64 ((rd l0 (ji9)) - (rd l0 x17_1)))) = true := decide_eq_true c11
       clear c11
       have H' := Aside0.mk H
       clear H
       have p232 : 0 ≤ (x17_1 : Int) := of_decide_eq_true (by first | (with_reducible assumption) | assumption)
       have q232 : x17_1 < (l0.length : Int) := of_decide_eq_true (by first | (with_reducible assumption) | assumption)
       obtain ⟨ad232, e232, hx232_0⟩ := Kd.at_int HR0.out x17_1 p232 q232
       cases e232
       replace hx232_0 := (HB.out.cell (World.block_lt_of_cell? w _ hx232_0)).trans hx232_0
       replace p232 := eq_true p232
       replace q232 := eq_true q232
       have p233 : 0 ≤ ((ji9) : Int) := of_decide_eq_true (by first | (with_reducible assumption) | assumption)
       have q233 : (ji9) < (l0.length : Int) := of_decide_eq_true (by first | (with_reducible assumption) | assumption)
       obtain ⟨ad233, e233, hx233_0⟩ := Kd.at_int HR0.out (ji9) p233 q233
       obtain rfl : ad232 = ad233 := (by injection e233)
       replace hx233_0 := (HB.out.cell (World.block_lt_of_cell? w _ hx233_0)).trans hx233_0
       replace p233 := eq_true p233
       replace q233 := eq_true q233
       go_wp2
       go_roundg k1
       case measure => have := HK1.out; omega
       case rel => exact ⟨(wrap64 (x5_1 + 1)), (ji9), (by first | rfl | (simp; done) | (simp [*]; done)), (by first | rfl | (simp; done) | (simp only [← hji9] <;> (first | rfl | simp)) | (simp [*]; done)), H', ⟨by have := HK1.out; omega⟩, ⟨by repeat (first | (with_reducible first | exact HB.out | apply below_alloc | apply pw_below_drewN | apply below_drew1) | exact HB.out)⟩⟩
      ·rw [if_neg c11] at H
       have c11b0 : decide (1 < (wrap64 ((rd l0 (ji9)) - (rd l0 x17_1)))) = false := decide_eq_false c11
       clear c11
       by_cases c12 : (wrap64 ((rd l0 (ji9)) - (rd l0 x17_1))) < (-1)
       ·rw [if_pos c12] at H
        have c12b0 : decide ((wrap64 ((rd l0 (ji9)) - (rd l0 x17_1))) < (-1)) = true := decide_eq_true c12
        clear c12
        have H' := Aside0.mk H
        clear H
        have p232 : 0 ≤ (x17_1 : Int) := of_decide_eq_true (by first | (with_reducible assumption) | assumption)
        have q232 : x17_1 < (l0.length : Int) := of_decide_eq_true (by first | (with_reducible assumption) | assumption)
        obtain ⟨ad232, e232, hx232_0⟩ := Kd.at_int HR0.out x17_1 p232 q232
        cases e232
        replace hx232_0 := (HB.out.cell (World.block_lt_of_cell? w _ hx232_0)).trans hx232_0
        replace p232 := eq_true p232
        replace q232 := eq_true q232
        have p233 : 0 ≤ ((ji9) : Int) := of_decide_eq_true (by first | (with_reducible assumption) | assumption)
        have q233 : (ji9) < (l0.length : Int) := of_decide_eq_true (by first | (with_reducible assumption) | assumption)
        obtain ⟨ad233, e233, hx233_0⟩ := Kd.at_int HR0.out (ji9) p233 q233
        obtain rfl : ad232 = ad233 := (by injection e233)
        replace hx233_0 := (HB.out.cell (World.block_lt_of_cell? w _ hx233_0)).trans hx233_0
        replace p233 := eq_true p233
        replace q233 := eq_true q233
        go_wp2
        go_roundg k1
        case measure => have := HK1.out; omega
        case rel => exact ⟨(wrap64 (x5_1 + 1)), (ji9), (by first | rfl | (simp; done) | (simp [*]; done)), (by first | rfl | (simp; done) | (simp only [← hji9] <;> (first | rfl | simp)) | (simp [*]; done)), H', ⟨by have := HK1.out; omega⟩, ⟨by repeat (first | (with_reducible first | exact HB.out | apply below_alloc | apply pw_below_drewN | apply below_drew1) | exact HB.out)⟩⟩
       ·rw [if_neg c12] at H
        have c12b0 : decide ((wrap64 ((rd l0 (ji9)) - (rd l0 x17_1))) < (-1)) = false := decide_eq_false c12
        clear c12
        have H' := Aside0.mk H
        clear H
        have p232 : 0 ≤ (x17_1 : Int) := of_decide_eq_true (by first | (with_reducible assumption) | assumption)
        have q232 : x17_1 < (l0.length : Int) := of_decide_eq_true (by first | (with_reducible assumption) | assumption)
        obtain ⟨ad232, e232, hx232_0⟩ := Kd.at_int HR0.out x17_1 p232 q232
        cases e232
        replace hx232_0 := (HB.out.cell (World.block_lt_of_cell? w _ hx232_0)).trans hx232_0
        replace p232 := eq_true p232
        replace q232 := eq_true q232
        have p233 : 0 ≤ ((ji9) : Int) := of_decide_eq_true (by first | (with_reducible assumption) | assumption)
        have q233 : (ji9) < (l0.length : Int) := of_decide_eq_true (by first | (with_reducible assumption) | assumption)
        obtain ⟨ad233, e233, hx233_0⟩ := Kd.at_int HR0.out (ji9) p233 q233
        obtain rfl : ad232 = ad233 := (by injection e233)
        replace hx233_0 := (HB.out.cell (World.block_lt_of_cell? w _ hx233_0)).trans hx233_0
        replace p233 := eq_true p233
        replace q233 := eq_true q233
        go_wp2
        go_roundg k1
        case measure => have := HK1.out; omega
        case rel => exact ⟨(x5_1), (ji9), (by first | rfl | (simp; done) | (simp [*]; done)), (by first | rfl | (simp; done) | (simp only [← hji9] <;> (first | rfl | simp)) | (simp [*]; done)), H', ⟨by have := HK1.out; omega⟩, ⟨by repeat (first | (with_reducible first | exact HB.out | apply below_alloc | apply pw_below_drewN | apply below_drew1) | exact HB.out)⟩⟩
     ·rw [if_neg c8] at H
      have c8b0 : decide ((wrap64 (x17_1 + 1)) < (l0.length : Int)) = false := decide_eq_false c8
      clear c8
      by_cases c13 : (wrap64 ((wrap64 ((l0.length : Int) + 1)) - (rd l0 x17_1))) > 1
      ·rw [if_pos c13] at H
       have c13b0 : decide (1 < (wrap64 ((wrap64 ((l0.length : Int) + 1)) - (rd l0 x17_1)))) = true := decide_eq_true c13
       clear c13
       have H' := Aside0.mk H
       clear H
       have p232 : 0 ≤ (x17_1 : Int) := of_decide_eq_true (by first | (with_reducible assumption) | assumption)
       have q232 : x17_1 < (l0.length : Int) := of_decide_eq_true (by first | (with_reducible assumption) | assumption)
       obtain ⟨ad232, e232, hx232_0⟩ := Kd.at_int HR0.out x17_1 p232 q232
       cases e232
       replace hx232_0 := (HB.out.cell (World.block_lt_of_cell? w _ hx232_0)).trans hx232_0
       replace p232 := eq_true p232
       replace q232 := eq_true q232
       go_wp2
       go_roundg k1
       case measure => have := HK1.out; omega
       case rel => exact ⟨(wrap64 (x5_1 + 1)), (wrap64 (x17_1 + 1)), (by first | rfl | (simp; done) | (simp [*]; done)), (by first | rfl | (simp; done) | (simp [*]; done)), H', ⟨by have := HK1.out; omega⟩, ⟨by repeat (first | (with_reducible first | exact HB.out | apply below_alloc | apply pw_below_drewN | apply below_drew1) | exact HB.out)⟩⟩
      ·rw [if_neg c13] at H
       have c13b0 : decide (1 < (wrap64 ((wrap64 ((l0.length : Int) + 1)) - (rd l0 x17_1)))) = false := decide_eq_false c13
       clear c13
       by_cases c14 : (wrap64 ((wrap64 ((l0.length : Int) + 1)) - (rd l0 x17_1))) < (-1)
       ·rw [if_pos c14] at H
        have c14b0 : decide ((wrap64 ((wrap64 ((l0.length : Int) + 1)) - (rd l0 x17_1))) < (-1)) = true := decide_eq_true c14
        clear c14
        have H' := Aside0.mk H
        clear H
        have p232 : 0 ≤ (x17_1 : Int) := of_decide_eq_true (by first | (with_reducible assumption) | assumption)
        have q232 : x17_1 < (l0.length : Int) := of_decide_eq_true (by first | (with_reducible assumption) | assumption)
        obtain ⟨ad232, e232, hx232_0⟩ := Kd.at_int HR0.out x17_1 p232 q232
        cases e232
        replace hx232_0 := (HB.out.cell (World.block_lt_of_cell? w _ hx232_0)).trans hx232_0
        replace p232 := eq_true p232
        replace q232 := eq_true q232
        go_wp2
        go_roundg k1
        case measure => have := HK1.out; omega
        case rel => exact ⟨(wrap64 (x5_1 + 1)), (wrap64 (x17_1 + 1)), (by first | rfl | (simp; done) | (simp [*]; done)), (by first | rfl | (simp; done) | (simp [*]; done)), H', ⟨by have := HK1.out; omega⟩, ⟨by repeat (first | (with_reducible first | exact HB.out | apply below_alloc | apply pw_below_drewN | apply below_drew1) | exact HB.out)⟩⟩
       ·rw [if_neg c14] at H
        have c14b0 : decide ((wrap64 ((wrap64 ((l0.length : Int) + 1)) - (rd l0 x17_1))) < (-1)) = false := decide_eq_false c14
        clear c14
        have H' := Aside0.mk H
        clear H
        have p232 : 0 ≤ (x17_1 : Int) := of_decide_eq_true (by first | (with_reducible assumption) | assumption)
        have q232 : x17_1 < (l0.length : Int) := of_decide_eq_true (by first | (with_reducible assumption) | assumption)
        obtain ⟨ad232, e232, hx232_0⟩ := Kd.at_int HR0.out x17_1 p232 q232
        cases e232
        replace hx232_0 := (HB.out.cell (World.block_lt_of_cell? w _ hx232_0)).trans hx232_0
        replace p232 := eq_true p232
        replace q232 := eq_true q232
        go_wp2
        go_roundg k1
        case measure => have := HK1.out; omega
        case rel => exact ⟨(x5_1), (wrap64 (x17_1 + 1)), (by first | rfl | (simp; done) | (simp [*]; done)), (by first | rfl | (simp; done) | (simp [*]; done)), H', ⟨by have := HK1.out; omega⟩, ⟨by repeat (first | (with_reducible first | exact HB.out | apply below_alloc | apply pw_below_drewN | apply below_drew1) | exact HB.out)⟩⟩
    ·rw [if_neg c5] at H
     have c5b0 : decide (x17_1 < (l0.length : Int)) = false := decide_eq_false c5
     clear c5
     simp only [Option.some.injEq, Prod.mk.injEq] at H
     obtain ⟨rfl, rfl⟩ := H
     go_wp2
     go_ret2
     exact ⟨by first | rfl | (simp [errW_none, errW_some] <;> rfl) | (simp [*, errW_none, errW_some] <;> rfl), by repeat (first | (with_reducible first | exact HB.out | apply below_alloc | apply pw_below_drewN | apply below_drew1) | exact HB.out)⟩
 ·rw [if_neg c3] at H
  have c3b0 : (t231 == 0) = false := beq_eq_false_iff_ne.mpr c3
  have c3b1 : (t231 != 0) = true := bne_iff_ne.mpr c3
  simp only [Option.some.injEq, Prod.mk.injEq] at H
  obtain ⟨rfl, rfl⟩ := H
  go_enter Try.func30, Try.ntmps30
  go_wp2_with (first|((with_reducible refine gate_callee (f := 58) rfl ?_);refine goesL_ (some 11) rfl rfl Try.func58 (by kernel_rfl) rfl #[.slice A0 l0.length c0] rfl (by (try simp only [List.map_toArray, List.map_cons, List.map_nil]);first|done|rfl|(simp only [List.length_drop, List.length_take];rfl)) ?_;(with_reducible refine (pancake_Check.calls k (fun k_ => k_ < w.heap.size) _ _ l0 t231 _ ?side1 A2.out).mono ?_);(case side1 => exact Kd.V_mk HC0.out (Kd.F_below (Kd.C_F (Kd.heap_int .i64) HR0.out) (by repeat (first|(with_reducible first|exact HB.out|apply below_alloc|apply pw_below_drewN|apply below_drew1)|exact HB.out))));rintro e w15 ⟨rfl, hb⟩;refine ⟨_, rfl, ?_⟩;have n0_ := Aside0.mk (below_step (by repeat (first|(with_reducible first|exact HB.out|apply below_alloc|apply pw_below_drewN|apply below_drew1)|exact HB.out)) hb);clear HB;have HB := n0_;clear n0_;(try clear hb);(try clear hb2);(try clear hk);(try clear hi)))
  go_ret2
  exact ⟨by first | rfl | (simp [errW_none, errW_some] <;> rfl) | (simp [*, errW_none, errW_some] <;> rfl), by repeat (first | (with_reducible first | exact HB.out | apply below_alloc | apply pw_below_drewN | apply below_drew1) | exact HB.out)⟩
end Go.Proofs.Ytepjhdblmghckaa.Q

namespace Go.Proofs.Ytepjhdblmghckaa.G
end Go.Proofs.Ytepjhdblmghckaa.G
namespace Go.Proofs.Ytepjhdblmghckaa.Q
open Go.Proofs.Ytepjhdblmghckaa.G
open Go.RowKit Go.Proofs.YtepjhdblmghckaaW.PrintWords Go.Proofs.YtepjhdblmghckaaW.PrintLast Go.Proofs.YtepjhdblmghckaaW.PrintMore
attribute [local go_sem] max2_int min2_int max_two min_two max_three min_three max_four min_four
set_option linter.unusedVariables false
set_option linter.unusedSimpArgs false
def pancake_CheckBurnt.f (k : Nat) (l0 : List Int) : Option (Int) := (pancake_check.f k true 6 (([l0] : List (List Int)))).bind fun t247 => (some t247)
set_option maxHeartbeats 8000000 in
set_option maxRecDepth 100000 in
theorem pancake_CheckBurnt.calls (k : Nat) (P0_ : Nat → Prop) (A0 : Option Addr) (c0 : Nat) (l0 : List Int) (r : Int) (w : World) (hs0 : Kd.V (Kd.int .i64) 3 w w.heap.size (fun k_ => P0_ k_) (.slice A0 l0.length c0) l0) (h : pancake_CheckBurnt.f k l0 = some r) :
  Calls Try.prog 59 #[.slice A0 l0.length c0] w fun e w' => e = .returned (.int .i64 r) ∧ Below w.heap.size w w' := by
 have HO0 := Aside0.mk (show Kd.V (Kd.int .i64) 3 w w.heap.size (fun k_ => (P0_ k_ ∨ w.heap.size ≤ k_)) (.slice A0 l0.length c0) l0 from Kd.V_mono hs0 (fun k_ hk => .inl hk))
 have HB := Aside0.mk (Below.refl w.heap.size w)
 have H : ((pancake_check.f k true 6 (([l0] : List (List Int)))).bind fun t247 => (some t247)) = some r := h
 clear h
 obtain ⟨y244, hy244⟩ : ∃ y_ : List (List Int), y_ = (([l0] : List (List Int))) := ⟨_, rfl⟩
 replace H : ((pancake_check.f k true 6 y244).bind fun t247 => (some t247)) = some r := by first | (rw [hy244]; with_reducible exact H) | (have H2_ := (Option.bind_some _ _).symm.trans H; rw [hy244]; with_reducible exact H2_) | (have H2_ := (Option.bind_some _ _).symm.trans H; with_reducible exact H2_) | with_reducible exact H | (rw [hy244]; exact H) | exact H
 have Ny244 := Aside0.mk hy244
 clear hy244
 replace H := Option.bind_eq_some_iff.mp H
 obtain ⟨t247, A20, H⟩ := H
 replace H : (some t247) = some r := H
 have A2 := Aside0.mk A20
 clear A20
 obtain rfl := Option.some.inj H
 go_enter Try.func59, Try.ntmps59
 go_wp2_with (first|((with_reducible refine gate_dst (N := 4) rfl ?_);refine Kd.N_lit (Kd.slice 3 (Kd.int .i64)) _ 22 ?hg (N' := 4) ?hd (xs := ([l0] : List (List Int))) (inner := [.slice A0 l0.length c0]) (ok := (fun k_ => (P0_ k_ ∨ w.heap.size ≤ k_))) (okp := (fun k_ => (P0_ k_ ∨ w.heap.size ≤ k_))) ?hr ?hp (fun _ hk => hk) ((show ∀ k_, w.heap.size ≤ k_ → (fun k_ => (P0_ k_ ∨ w.heap.size ≤ k_)) k_ from fun k_ hk => (.inr (Nat.le_trans (below_size (by repeat (first|(with_reducible first|exact HB.out|apply below_alloc|apply pw_below_drewN|apply below_drew1)|exact HB.out))) hk))) _ (Nat.le_refl _)) (Below.refl _ _) (Nat.le_refl _) (by simp) ?_;(case hd => rfl);(case hg => rfl);(case hr => first|(go_simp;done)|(go_simp;rfl));(case hp => exact (Reps.one (show Kd.FK (Kd.slice 3 (Kd.int .i64)) _ _ l0 [.slice A0 l0.length c0] from (Kd.FK_slice_mk (Kd.V_reads' (Kd.V_mono (ok' := (fun k_ => (P0_ k_ ∨ w.heap.size ≤ k_))) (HO0.out) (fun k_ hk => hk))).2.1 (Kd.V_F (Kd.V_mono (ok' := (fun k_ => (P0_ k_ ∨ w.heap.size ≤ k_))) (HO0.out) (fun k_ hk => hk))))) (Reps.none _ _)));intro v245 w3 ho4 hb hg_ hnew_;clear hg_ hnew_;(first|rw [← Ny244.out] at ho4|(simp only [Int.reduceToNat] at ho4;rw [← Ny244.out] at ho4));have n0_ := Aside0.mk (Kd.V_elder' (by (with_reducible repeat (first|apply Kd.V_alloc|apply Kd.V_drewN|apply Kd.V_drew));exact HO0.out) (Kd.N_base ho4) hb);have n1_ := Aside0.mk (Kd.N_lower ho4 (below_size (by repeat (first|(with_reducible first|exact HB.out|apply below_alloc|apply pw_below_drewN|apply below_drew1)|exact HB.out))));have n2_ := Aside0.mk (below_step (by repeat (first|(with_reducible first|exact HB.out|apply below_alloc|apply pw_below_drewN|apply below_drew1)|exact HB.out)) hb);clear HO0;clear HB;have HO0 := n0_;have HO246 := n1_;have HB := n2_;clear n0_ n1_ n2_;clear hb ho4;obtain ⟨Ao5, co5, eo5⟩ := Kd.N_slice HO246.out;subst eo5)|((with_reducible refine gate_callee (f := 68) rfl ?_);refine goesL_ (some 5) rfl rfl Try.func68 (by kernel_rfl) rfl #[.bool true, .int .i64 6, .slice Ao5 y244.length co5] rfl (by (try simp only [List.map_toArray, List.map_cons, List.map_nil]);first|done|rfl|(simp only [List.length_drop, List.length_take];rfl)) ?_;(with_reducible refine (pancake_check.calls k true 6 _ _ y244 t247 _ ?side1 ?side2 A2.out).mono ?_);(case side1 => repeat (first|exact (Kd.N_reads' HO246.out).2.2|(with_reducible refine Kd.C_alloc ?_ _)|(with_reducible refine Kd.C_drewN ?_ _)|(with_reducible refine Kd.C_drew ?_)));(case side2 => exact (Kd.N_reads' HO246.out).2.1);rintro e w6 ⟨rfl, hb⟩;refine ⟨_, rfl, ?_⟩;have n0_ := Aside0.mk (Kd.V_below (by (with_reducible repeat (first|apply Kd.V_alloc|apply Kd.V_drewN|apply Kd.V_drew));exact HO0.out) hb);have n1_ := Aside0.mk (Kd.N_below (by (with_reducible repeat (first|apply Kd.N_alloc|apply Kd.N_drewN|apply Kd.N_drew));exact HO246.out) hb);have n2_ := Aside0.mk (below_step (by repeat (first|(with_reducible first|exact HB.out|apply below_alloc|apply pw_below_drewN|apply below_drew1)|exact HB.out)) hb);clear HO0;clear HO246;clear HB;have HO0 := n0_;have HO246 := n1_;have HB := n2_;clear n0_ n1_ n2_;(try clear hb);(try clear hb2);(try clear hk);(try clear hi)))
 go_ret
 exact ⟨by first | rfl | (simp [errW_none, errW_some] <;> rfl) | (simp [*, errW_none, errW_some] <;> rfl), by repeat (first | (with_reducible first | exact HB.out | apply below_alloc | apply pw_below_drewN | apply below_drew1) | exact HB.out)⟩
end Go.Proofs.Ytepjhdblmghckaa.Q

namespace Go.Proofs.Ytepjhdblmghckaa.G
end Go.Proofs.Ytepjhdblmghckaa.G
namespace Go.Proofs.Ytepjhdblmghckaa.Q
open Go.Proofs.Ytepjhdblmghckaa.G
open Go.RowKit Go.Proofs.YtepjhdblmghckaaW.PrintWords Go.Proofs.YtepjhdblmghckaaW.PrintLast Go.Proofs.YtepjhdblmghckaaW.PrintMore
attribute [local go_sem] max2_int min2_int max_two min_two max_three min_three max_four min_four
set_option linter.unusedVariables false
set_option linter.unusedSimpArgs false
def pancake_FlipBurnt.f (k : Nat) (l0 : List Int) (a1 : Int) : Option (List Int × Int) := (pancake_CheckBurnt.f k l0).bind fun t248 => (if t248 = 0 then ((pancake_topFlipped.f l0 a1 true).bind fun bt249 => (some (bt249.1, bt249.2))) else (some (([] : List Int), t248)))
set_option maxHeartbeats 8000000 in
set_option maxRecDepth 100000 in
theorem pancake_FlipBurnt.calls (k : Nat) (A0 : Option Addr) (c0 : Nat) (l0 : List Int) (a1 : Int) (r1 : List Int) (r2 : Int) (w : World) (hr0 : Kd.C (Kd.int .i64) w A0 l0.length l0) (hc0 : l0.length ≤ c0) (h : pancake_FlipBurnt.f k l0 a1 = some (r1, r2)) :
  Calls Try.prog 33 #[.slice A0 l0.length c0, .int .i64 a1] w fun e w' => ∃ v0_ : Value, e = .returned (.tuple #[v0_, .int .i64 r2]) ∧ Kd.R (Kd.int .i64) 3 w' w.heap.size (fun _ => True) v0_ r1 ∧ Below w.heap.size w w' := by
 have HR0 := Aside0.mk hr0
 have HC0 := Aside0.mk hc0
 clear hr0 hc0
 have HB := Aside0.mk (Below.refl w.heap.size w)
 have H : ((pancake_CheckBurnt.f k l0).bind fun t248 => (if t248 = 0 then ((pancake_topFlipped.f l0 a1 true).bind fun bt249 => (some (bt249.1, bt249.2))) else (some (([] : List Int), t248)))) = some (r1, r2) := h
 clear h
 replace H := Option.bind_eq_some_iff.mp H
 obtain ⟨t248, A30, H⟩ := H
 replace H : (if t248 = 0 then ((pancake_topFlipped.f l0 a1 true).bind fun bt249 => (some (bt249.1, bt249.2))) else (some (([] : List Int), t248))) = some (r1, r2) := H
 have A3 := Aside0.mk A30
 clear A30
 by_cases c4 : t248 = 0
 ·rw [if_pos c4] at H
  have c4b0 : (t248 == 0) = true := beq_iff_eq.mpr c4
  have c4b1 : (t248 != 0) = false := bne_eq_false_iff_eq.mpr c4
  clear c4
  replace H := Option.bind_eq_some_iff.mp H
  obtain ⟨⟨t249, t250⟩, A50, H⟩ := H
  replace H : (some (t249, t250)) = some (r1, r2) := H
  have A5 := Aside0.mk A50
  clear A50
  simp only [Option.some.injEq, Prod.mk.injEq] at H
  obtain ⟨rfl, rfl⟩ := H
  go_enter Try.func33, Try.ntmps33
  go_wp2_with (first|((with_reducible refine gate_callee (f := 59) rfl ?_);refine goesL_ (some 8) rfl rfl Try.func59 (by kernel_rfl) rfl #[.slice A0 l0.length c0] rfl (by (try simp only [List.map_toArray, List.map_cons, List.map_nil]);first|done|rfl|(simp only [List.length_drop, List.length_take];rfl)) ?_;(with_reducible refine (pancake_CheckBurnt.calls k (fun k_ => k_ < w.heap.size) _ _ l0 t248 _ ?side1 A3.out).mono ?_);(case side1 => exact Kd.V_mk HC0.out (Kd.F_below (Kd.C_F (Kd.heap_int .i64) HR0.out) (by repeat (first|(with_reducible first|exact HB.out|apply below_alloc|apply pw_below_drewN|apply below_drew1)|exact HB.out))));rintro e w6 ⟨rfl, hb⟩;refine ⟨_, rfl, ?_⟩;have n0_ := Aside0.mk (below_step (by repeat (first|(with_reducible first|exact HB.out|apply below_alloc|apply pw_below_drewN|apply below_drew1)|exact HB.out)) hb);clear HB;have HB := n0_;clear n0_;(try clear hb);(try clear hb2);(try clear hk);(try clear hi))|((with_reducible refine gate_callee (f := 71) rfl ?_);refine goesL_ (some 14) rfl rfl Try.func71 (by kernel_rfl) rfl #[.slice A0 l0.length c0, .int .i64 a1, .bool true] rfl (by (try simp only [List.map_toArray, List.map_cons, List.map_nil]);first|done|rfl|(simp only [List.length_drop, List.length_take];rfl)) ?_;(with_reducible refine (pancake_topFlipped.calls _ _ l0 a1 true t249 t250 _ ?side1 ?side2 A5.out).mono ?_);(case side1 => repeat (first|exact (Kd.C_below HR0.out HB.out)|(with_reducible refine Kd.C_alloc ?_ _)|(with_reducible refine Kd.C_drewN ?_ _)|(with_reducible refine Kd.C_drew ?_)));(case side2 => exact HC0.out);rintro e w7 ⟨v251, rfl, ho0, hb⟩;refine ⟨_, rfl, ?_⟩;have n0_ := Aside0.mk (Kd.R_lower ho0 (below_size (by repeat (first|(with_reducible first|exact HB.out|apply below_alloc|apply pw_below_drewN|apply below_drew1)|exact HB.out))));have n1_ := Aside0.mk (below_step (by repeat (first|(with_reducible first|exact HB.out|apply below_alloc|apply pw_below_drewN|apply below_drew1)|exact HB.out)) hb);clear HB;have HO252 := n0_;have HB := n1_;clear n0_ n1_;(try clear hb);(try clear hb2);(try clear hk);(try clear hi);(try clear ho0)))
  go_ret2
  exact ⟨_, by first | rfl | (simp [errW_none, errW_some] <;> rfl) | (simp [*, errW_none, errW_some] <;> rfl), by (with_reducible repeat (first | apply Kd.R_alloc | apply Kd.R_drewN | apply Kd.R_drew)); exact HO252.out, by repeat (first | (with_reducible first | exact HB.out | apply below_alloc | apply pw_below_drewN | apply below_drew1) | exact HB.out)⟩
 ·rw [if_neg c4] at H
  have c4b0 : (t248 == 0) = false := beq_eq_false_iff_ne.mpr c4
  have c4b1 : (t248 != 0) = true := bne_iff_ne.mpr c4
  simp only [Option.some.injEq, Prod.mk.injEq] at H
  obtain ⟨rfl, rfl⟩ := H
  go_enter Try.func33, Try.ntmps33
  go_wp2_with (first|((with_reducible refine gate_callee (f := 59) rfl ?_);refine goesL_ (some 8) rfl rfl Try.func59 (by kernel_rfl) rfl #[.slice A0 l0.length c0] rfl (by (try simp only [List.map_toArray, List.map_cons, List.map_nil]);first|done|rfl|(simp only [List.length_drop, List.length_take];rfl)) ?_;(with_reducible refine (pancake_CheckBurnt.calls k (fun k_ => k_ < w.heap.size) _ _ l0 t248 _ ?side1 A3.out).mono ?_);(case side1 => exact Kd.V_mk HC0.out (Kd.F_below (Kd.C_F (Kd.heap_int .i64) HR0.out) (by repeat (first|(with_reducible first|exact HB.out|apply below_alloc|apply pw_below_drewN|apply below_drew1)|exact HB.out))));rintro e w8 ⟨rfl, hb⟩;refine ⟨_, rfl, ?_⟩;have n0_ := Aside0.mk (below_step (by repeat (first|(with_reducible first|exact HB.out|apply below_alloc|apply pw_below_drewN|apply below_drew1)|exact HB.out)) hb);clear HB;have HB := n0_;clear n0_;(try clear hb);(try clear hb2);(try clear hk);(try clear hi)))
  go_ret2
  exact ⟨_, by first | rfl | (simp [errW_none, errW_some] <;> rfl) | (simp [*, errW_none, errW_some] <;> rfl), by first | exact Kd.R_nil _ _ _ _ _ | exact Kd.N_nil _ _ _ _ _ | exact Kd.V_nil _ _ _ _ _ | exact Kd.Q_nil _ _ _ _ _ | exact Kd.S_nil _ _ _ _ _, by repeat (first | (with_reducible first | exact HB.out | apply below_alloc | apply pw_below_drewN | apply below_drew1) | exact HB.out)⟩
end Go.Proofs.Ytepjhdblmghckaa.Q


namespace Go.Proofs.Ytepjhdblmghckaa.G
open Go.Proofs.Ytepjhdblmghckaa.Q Go.Proofs.Ytepjhdblmghckaa.K Go.Proofs.Ytepjhdblmghckaa.Bf
open Go.RowKit Go.Shelf Go.Proofs.YtepjhdblmghckaaW.PrintWords Go.Proofs.YtepjhdblmghckaaW.PrintLast Go.Proofs.YtepjhdblmghckaaW.PrintMore
set_option linter.unusedVariables false
set_option linter.unusedSimpArgs false
theorem aw2 : pancake_Gaps.f 100 [1, 3, 2] = some (2, 0) := by kernel_rfl
theorem aw7 : pancake_FlipBurnt.f 100 [1] 1 = some ([-1], 0) := by kernel_rfl
theorem aw8 : chk1 false 7 [] = 70 := by kernel_rfl
theorem C_new (W : World) (l : List Int) (hl : l.length ≤ 100) : Kd.C (Kd.int .i64) (W.alloc (.cells (l.map (Value.int .i64)).toArray 3)) (some ⟨W.heap.size, 0, none⟩) l.length l := by
 have hb := Blk.new W (l.map (Value.int .i64)).toArray 3
 refine ⟨rfl, by omega, fun _ => ⟨_, rfl, fun j p hj => ⟨[.int .i64 p], rfl, rfl, fun i u hu => ?_⟩⟩⟩
 match i, hu with
 | 0, hu =>
  cases hu
  show (W.alloc _).cell? (Addr.add ⟨W.heap.size, 0, none⟩ (j * 1 + 0)) = _
  rw [Addr.add_lit, Nat.mul_one, Nat.add_zero, Nat.zero_add]
  exact hb.cell j (by simp [hj])
 | i + 1, hu => simp at hu
def bibelotlaw07_awake.f : Option Bool := some true
set_option maxRecDepth 100000 in
set_option maxHeartbeats 8000000 in
theorem bibelotlaw07_awake.calls (r : Bool) (w : World) (h : bibelotlaw07_awake.f = some r) :
  Calls Try.prog 26 #[] w fun e w' => e = .returned (.bool r) ∧ Below w.heap.size w w' := by
 cases h
 go_enter Try.func26, Try.ntmps26
 go_wp2_with (go_at_call 28; refine stopper ?_)
 try unfold Hold
 have c1 := C_new w [3, 1, 2] (by decide)
 have c2 := C_new (w.alloc (.cells #[.int .i64 3, .int .i64 1, .int .i64 2] 3)) [1, 2, 3] (by decide)
 have hb := (((Below.refl w.heap.size w).alloc (Nat.le_refl _) (.cells #[.int .i64 3, .int .i64 1, .int .i64 2] 3)).alloc (by simp) (.cells #[.int .i64 1, .int .i64 2, .int .i64 3] 3))
 rw [World.size_alloc] at c2
 obtain ⟨w0, hw0⟩ : ∃ w0, (w.alloc (.cells #[.int .i64 3, .int .i64 1, .int .i64 2] 3)).alloc (.cells #[.int .i64 1, .int .i64 2, .int .i64 3] 3) = w0 := ⟨_, rfl⟩
 have c1' := Kd.C_below c1 ((Below.refl _ _).alloc (Nat.le_refl _) (.cells #[.int .i64 1, .int .i64 2, .int .i64 3] 3))
 rw [show (w.alloc (.cells ([3, 1, 2].map (Value.int .i64)).toArray 3)).alloc (.cells #[.int .i64 1, .int .i64 2, .int .i64 3] 3) = w0 from hw0] at c1'
 rw [show (w.alloc (.cells #[.int .i64 3, .int .i64 1, .int .i64 2] 3)).alloc (.cells ([1, 2, 3].map (Value.int .i64)).toArray 3) = w0 from hw0] at c2
 rw [hw0] at hb ⊢
 refine (pancake_Flips.calls (some ⟨w.heap.size, 0, none⟩) 3 [3, 1, 2] (some ⟨w.heap.size + 1, 0, none⟩) 3 [1, 2, 3] 2 0 w0 c1' (by decide) c2 (by decide) aw1).mono ?_
 rintro e w1 ⟨rfl, hb1⟩
 have HB1 := Aside0.mk (hb.trans (hb1.mono hb.size))
 clear c1 c2 c1' hb hw0 hb1
 go_wp2_with (go_at_call 30; refine stopper ?_)
 try unfold Hold
 have c1 := C_new w1 [1, 3, 2] (by decide)
 rw [show w1.alloc (.cells ([1, 3, 2].map (Value.int .i64)).toArray 3) = w1.alloc (.cells #[.int .i64 1, .int .i64 3, .int .i64 2] 3) from rfl] at c1
 have hb := HB1.out.alloc HB1.out.size (.cells #[.int .i64 1, .int .i64 3, .int .i64 2] 3)
 obtain ⟨z1, hz⟩ : ∃ z1, w1.alloc (.cells #[.int .i64 1, .int .i64 3, .int .i64 2] 3) = z1 := ⟨_, rfl⟩
 obtain ⟨y1, hy⟩ : ∃ y1, w1.heap.size = y1 := ⟨_, rfl⟩
 rw [hz, hy] at c1
 rw [hz] at hb
 try rw [hz]
 try rw [hy]
 refine (pancake_Gaps.calls 100 (some ⟨y1, 0, none⟩) 3 [1, 3, 2] 2 0 z1 c1 (by decide) aw2).mono ?_
 rintro e w2 ⟨rfl, hb1⟩
 have HB2 := Aside0.mk (hb.trans (hb1.mono hb.size))
 clear c1 hb hz hy hb1
 go_wp2_with (go_at_call 42; refine stopper ?_)
 try unfold Hold
 refine (pancake_Worst.calls 3 3 1 0 w2 aw3).mono ?_
 rintro e w3 ⟨rfl, hb1⟩
 have HB3 := Aside0.mk (HB2.out.trans (hb1.mono HB2.out.size))
 clear hb1
 go_wp2_with (go_at_call 23; refine stopper ?_)
 try unfold Hold
 have c1 := C_new w3 [2, 1] (by decide)
 rw [show w3.alloc (.cells ([2, 1].map (Value.int .i64)).toArray 3) = w3.alloc (.cells #[.int .i64 2, .int .i64 1] 3) from rfl] at c1
 have hb := HB3.out.alloc HB3.out.size (.cells #[.int .i64 2, .int .i64 1] 3)
 obtain ⟨z3, hz⟩ : ∃ z3, w3.alloc (.cells #[.int .i64 2, .int .i64 1] 3) = z3 := ⟨_, rfl⟩
 obtain ⟨y3, hy⟩ : ∃ y3, w3.heap.size = y3 := ⟨_, rfl⟩
 rw [hz, hy] at c1
 rw [hz] at hb
 try rw [hz]
 try rw [hy]
 refine (pancake_Distance.calls (some ⟨y3, 0, none⟩) 2 [2, 1] 3 0 z3 c1 (by decide) aw4).mono ?_
 rintro e w4 ⟨rfl, hb1⟩
 have HB4 := Aside0.mk (hb.trans (hb1.mono hb.size))
 clear c1 hb hz hy hb1
 go_wp2_with (go_at_call 36; refine stopper ?_)
 try unfold Hold
 have c1 := C_new w4 [-1] (by decide)
 rw [show w4.alloc (.cells ([-1].map (Value.int .i64)).toArray 3) = w4.alloc (.cells #[.int .i64 (-1)] 3) from rfl] at c1
 have hb := HB4.out.alloc HB4.out.size (.cells #[.int .i64 (-1)] 3)
 obtain ⟨z4, hz⟩ : ∃ z4, w4.alloc (.cells #[.int .i64 (-1)] 3) = z4 := ⟨_, rfl⟩
 obtain ⟨y4, hy⟩ : ∃ y4, w4.heap.size = y4 := ⟨_, rfl⟩
 rw [hz, hy] at c1
 rw [hz] at hb
 try rw [hz]
 try rw [hy]
 refine (pancake_Circles.calls (some ⟨y4, 0, none⟩) 1 [-1] [[0, 1]] 0 z4 c1 (by decide) aw5).mono ?_
 rintro e w5 ⟨v5, rfl, hv5, hb1⟩
 have HB5 := Aside0.mk (hb.trans (hb1.mono hb.size))
 clear c1 hb hz hy hb1
 obtain ⟨A5, c5, ev5⟩ := Kd.S_slice hv5
 subst ev5
 have HV5 := Aside0.mk hv5
 clear hv5
 go_wp2_with (go_at_call 22; refine stopper ?_)
 try unfold Hold
 have c1 := C_new w5 [2, 1] (by decide)
 rw [show w5.alloc (.cells ([2, 1].map (Value.int .i64)).toArray 3) = w5.alloc (.cells #[.int .i64 2, .int .i64 1] 3) from rfl] at c1
 have hb := HB5.out.alloc HB5.out.size (.cells #[.int .i64 2, .int .i64 1] 3)
 obtain ⟨z5, hz⟩ : ∃ z5, w5.alloc (.cells #[.int .i64 2, .int .i64 1] 3) = z5 := ⟨_, rfl⟩
 obtain ⟨y5, hy⟩ : ∃ y5, w5.heap.size = y5 := ⟨_, rfl⟩
 rw [hz, hy] at c1
 rw [hz] at hb
 try rw [hz]
 try rw [hy]
 refine (pancake_Components.calls (some ⟨y5, 0, none⟩) 2 [2, 1] 1 1 1 false 0 z5 c1 (by decide) aw6).mono ?_
 rintro e w6 ⟨rfl, hb1⟩
 have HV6 := Aside0.mk (Kd.S_below (Kd.S_below HV5.out (show Below w5.heap.size w5 z5 by rw [← hz]; exact (Below.refl _ _).alloc (Nat.le_refl _) _)) hb1)
 have HB6 := Aside0.mk (hb.trans (hb1.mono hb.size))
 clear c1 hb hz hy hb1
 go_wp2_with (go_at_call 33; refine stopper ?_)
 try unfold Hold
 have c1 := C_new w6 [1] (by decide)
 rw [show w6.alloc (.cells ([1].map (Value.int .i64)).toArray 3) = w6.alloc (.cells #[.int .i64 1] 3) from rfl] at c1
 have hb := HB6.out.alloc HB6.out.size (.cells #[.int .i64 1] 3)
 obtain ⟨z6, hz⟩ : ∃ z6, w6.alloc (.cells #[.int .i64 1] 3) = z6 := ⟨_, rfl⟩
 obtain ⟨y6, hy⟩ : ∃ y6, w6.heap.size = y6 := ⟨_, rfl⟩
 rw [hz, hy] at c1
 rw [hz] at hb
 try rw [hz]
 try rw [hy]
 refine (pancake_FlipBurnt.calls 100 (some ⟨y6, 0, none⟩) 1 [1] 1 [-1] 0 z6 c1 (by decide) aw7).mono ?_
 rintro e w7 ⟨v7, rfl, hv7, hb1⟩
 have HV7 := Aside0.mk (Kd.S_below (Kd.S_below HV6.out (show Below w6.heap.size w6 z6 by rw [← hz]; exact (Below.refl _ _).alloc (Nat.le_refl _) _)) hb1)
 obtain ⟨A7, c7, ev7⟩ := Kd.R_slice hv7
 subst ev7
 obtain ⟨ad7, e7, hc7⟩ := Kd.at_int (Kd.R_reads' hv7).2.2 0 (by decide) (by decide)
 subst e7
 have HB7 := Aside0.mk (hb.trans (hb1.mono hb.size))
 clear c1 hb hz hy hb1
 have hS := Kd.S_reads' HV7.out
 obtain ⟨ad5, cs5, e5, _, ⟨A8, c8, e8, hl8, hc8⟩, hcell⟩ := Kd.C_get hS.2.2 [] 0 (by decide) (by decide)
 subst e5
 subst e8
 have hc9 := hcell 0 _ rfl
 have hc9' : w7.cell? ad5 = some (.slice A8 2 c8) := by simpa [Addr.add_zero'] using hc9
 have hc7' : w7.cell? ad7 = some (.int .i64 (-1)) := by
  have e : rd [-1] 0 = -1 := by decide
  rw [e] at hc7
  simpa [Addr.add_zero'] using hc7
 have HCK := Aside0.mk (check58_one none 0 [] w7 (Kd.C_nil _ _) (Nat.le_refl _))
 rw [aw8] at HCK
 clear hS hl8 hc8 hcell hc9 hc7 hv7
 go_wp2_with (go_at_call 58; refine stopper ?_)
 try unfold Hold
 refine HCK.out.mono ?_
 rintro e w8 ⟨rfl, hb1⟩
 have HB8 := Aside0.mk (HB7.out.trans (hb1.mono HB7.out.size))
 clear hb1
 go_wp2
 go_ret
 exact ⟨rfl, HB8.out⟩
end Go.Proofs.Ytepjhdblmghckaa.G

namespace Go.Proofs.Ytepjhdblmghckaa.G
end Go.Proofs.Ytepjhdblmghckaa.G
namespace Go.Proofs.Ytepjhdblmghckaa.Q
open Go.Proofs.Ytepjhdblmghckaa.G
open Go.RowKit Go.Proofs.YtepjhdblmghckaaW.PrintWords Go.Proofs.YtepjhdblmghckaaW.PrintLast Go.Proofs.YtepjhdblmghckaaW.PrintMore
attribute [local go_sem] max2_int min2_int max_two min_two max_three min_three max_four min_four
set_option linter.unusedVariables false
set_option linter.unusedSimpArgs false
mutual
def bibelotlaw07_PancakeSteps.j0 : Nat → Int → List (List Int) → Bool → Option (Bool)
 | 0, _, _, _ => none
 | k + 1, x0, x18, x143 => if x143 = true then (some false) else (if 0 ≤ (wrap64 (x0 + 1)) then (if (wrap64 (x0 + 1) : Int).toNat ≤ 281474976710656 then (bibelotlaw07_PancakeSteps.l0 k x0 x18 (List.replicate (wrap64 (x0 + 1) : Int).toNat false) 0 0) else (none)) else (none))
def bibelotlaw07_PancakeSteps.l0 : Nat → Int → List (List Int) → List Bool → Int → Int → Option (Bool)
 | 0, _, _, _, _, _ => none
 | k + 1, x0, x18, x22, x23, x24 => if x24 < (x18.length : Int) then (bibelotlaw07_PancakeSteps.l1 k x0 x18 x22 x23 x24 0) else (if x23 = (wrap64 (x0 + 1)) then ((bibelotlaw07_awake.f).bind fun t569 => (some t569)) else (some false))
def bibelotlaw07_PancakeSteps.l1 : Nat → Int → List (List Int) → List Bool → Int → Int → Int → Option (Bool)
 | 0, _, _, _, _, _, _ => none
 | k + 1, x0, x18, x22, x23, x24, x25 => if 0 ≤ x24 then (if x24 < (x18.length : Int) then (if x25 < ((rd_L1 x18 x24).length : Int) then (if 0 ≤ x25 then (if (rd (rd_L1 x18 x24) x25) < 0 then (some false) else (if (rd (rd_L1 x18 x24) x25) > x0 then (some false) else (if 0 ≤ (rd (rd_L1 x18 x24) x25) then (if (rd (rd_L1 x18 x24) x25) < (x22.length : Int) then (if rdOf false x22 (rd (rd_L1 x18 x24) x25) = true then (some false) else (bibelotlaw07_PancakeSteps.l1 k x0 x18 (x22.set ((rd (rd_L1 x18 x24) x25) : Int).toNat true) (wrap64 (x23 + 1)) x24 (wrap64 (x25 + 1)))) else (none)) else (none)))) else (none)) else (bibelotlaw07_PancakeSteps.l0 k x0 x18 x22 x23 (wrap64 (x24 + 1)))) else (none)) else (none)
end
def bibelotlaw07_PancakeSteps.f (k : Nat) (a0 : Int) (l1 : List Int) (a2_0 : Int) (a2_1 : Int) : Option (Bool) := (bibelotlaw07_many.f a0 40).bind fun t541 => ((bibelotlaw07_row.f l1 t541 true).bind fun t542 => (if (IntKind.u64.wrap (t541)) = 0 then (none) else ((pancake_Turn.f t542 (mn (wrap64 (Int.tmod (IntKind.u64.wrap (a2_0)) (IntKind.u64.wrap (t541)))) (wrap64 (Int.tmod (IntKind.u64.wrap (a2_1)) (IntKind.u64.wrap (t541))))) (mx (wrap64 (Int.tmod (IntKind.u64.wrap (a2_0)) (IntKind.u64.wrap (t541)))) (wrap64 (Int.tmod (IntKind.u64.wrap (a2_1)) (IntKind.u64.wrap (t541)))))).bind fun bt545 => ((pancake_Turn.f bt545.1 (mn (wrap64 (Int.tmod (IntKind.u64.wrap (a2_0)) (IntKind.u64.wrap (t541)))) (wrap64 (Int.tmod (IntKind.u64.wrap (a2_1)) (IntKind.u64.wrap (t541))))) (mx (wrap64 (Int.tmod (IntKind.u64.wrap (a2_0)) (IntKind.u64.wrap (t541)))) (wrap64 (Int.tmod (IntKind.u64.wrap (a2_1)) (IntKind.u64.wrap (t541)))))).bind fun bt549 => ((pancake_Distance.f t542).bind fun bt553 => ((pancake_Distance.f bt545.1).bind fun bt555 => ((pancake_Circles.f t542).bind fun bt557 => ((pancake_Circles.f bt545.1).bind fun bt561 => (if bt545.2 = 0 then (if bt549.2 = 0 then (if bt553.2 = 0 then (if bt555.2 = 0 then (if bt557.2 = 0 then (if bt561.2 = 0 then ((bibelotlaw07_ints.f k bt549.1 t542).bind fun t565 => (if t565 = true then (if bt555.1 < (wrap64 (bt553.1 - 1)) then (bibelotlaw07_PancakeSteps.j0 k t541 bt557.1 true) else (if bt555.1 > (wrap64 (bt553.1 + 1)) then (bibelotlaw07_PancakeSteps.j0 k t541 bt557.1 true) else (if (wrap64 ((bt557.1.length : Int) - (bt561.1.length : Int))) > 1 then (bibelotlaw07_PancakeSteps.j0 k t541 bt557.1 true) else (bibelotlaw07_PancakeSteps.j0 k t541 bt557.1 (decide ((wrap64 ((bt561.1.length : Int) - (bt557.1.length : Int))) > 1)))))) else (bibelotlaw07_PancakeSteps.j0 k t541 bt557.1 true))) else (bibelotlaw07_PancakeSteps.j0 k t541 bt557.1 true)) else (bibelotlaw07_PancakeSteps.j0 k t541 bt557.1 true)) else (bibelotlaw07_PancakeSteps.j0 k t541 bt557.1 true)) else (bibelotlaw07_PancakeSteps.j0 k t541 bt557.1 true)) else (bibelotlaw07_PancakeSteps.j0 k t541 bt557.1 true)) else (bibelotlaw07_PancakeSteps.j0 k t541 bt557.1 true))))))))))
set_option maxHeartbeats 8000000 in
set_option maxRecDepth 100000 in
theorem bibelotlaw07_PancakeSteps.calls (k : Nat) (a0 : Int) (A1 : Option Addr) (c1 : Nat) (l1 : List Int) (a2_0 : Int) (a2_1 : Int) (r : Bool) (w : World) (hr1 : Kd.C (Kd.int .i64) w A1 l1.length l1) (hc1 : l1.length ≤ c1) (h : bibelotlaw07_PancakeSteps.f k a0 l1 a2_0 a2_1 = some r) :
  Calls Try.prog 11 #[.int .i64 a0, .slice A1 l1.length c1, .agg #[.int .i64 a2_0, .int .i64 a2_1]] w fun e w' => e = .returned (.bool r) ∧ Below w.heap.size w w' := by
 have hu57 := Try.underlying57
 have HR1 := Aside0.mk hr1
 have HC1 := Aside0.mk hc1
 clear hr1 hc1
 have HB := Aside0.mk (Below.refl w.heap.size w)
 have H : ((bibelotlaw07_many.f a0 40).bind fun t541 => ((bibelotlaw07_row.f l1 t541 true).bind fun t542 => (if (IntKind.u64.wrap (t541)) = 0 then (none) else ((pancake_Turn.f t542 (mn (wrap64 (Int.tmod (IntKind.u64.wrap (a2_0)) (IntKind.u64.wrap (t541)))) (wrap64 (Int.tmod (IntKind.u64.wrap (a2_1)) (IntKind.u64.wrap (t541))))) (mx (wrap64 (Int.tmod (IntKind.u64.wrap (a2_0)) (IntKind.u64.wrap (t541)))) (wrap64 (Int.tmod (IntKind.u64.wrap (a2_1)) (IntKind.u64.wrap (t541)))))).bind fun bt545 => ((pancake_Turn.f bt545.1 (mn (wrap64 (Int.tmod (IntKind.u64.wrap (a2_0)) (IntKind.u64.wrap (t541)))) (wrap64 (Int.tmod (IntKind.u64.wrap (a2_1)) (IntKind.u64.wrap (t541))))) (mx (wrap64 (Int.tmod (IntKind.u64.wrap (a2_0)) (IntKind.u64.wrap (t541)))) (wrap64 (Int.tmod (IntKind.u64.wrap (a2_1)) (IntKind.u64.wrap (t541)))))).bind fun bt549 => ((pancake_Distance.f t542).bind fun bt553 => ((pancake_Distance.f bt545.1).bind fun bt555 => ((pancake_Circles.f t542).bind fun bt557 => ((pancake_Circles.f bt545.1).bind fun bt561 => (if bt545.2 = 0 then (if bt549.2 = 0 then (if bt553.2 = 0 then (if bt555.2 = 0 then (if bt557.2 = 0 then (if bt561.2 = 0 then ((bibelotlaw07_ints.f k bt549.1 t542).bind fun t565 => (if t565 = true then (if bt555.1 < (wrap64 (bt553.1 - 1)) then (bibelotlaw07_PancakeSteps.j0 k t541 bt557.1 true) else (if bt555.1 > (wrap64 (bt553.1 + 1)) then (bibelotlaw07_PancakeSteps.j0 k t541 bt557.1 true) else (if (wrap64 ((bt557.1.length : Int) - (bt561.1.length : Int))) > 1 then (bibelotlaw07_PancakeSteps.j0 k t541 bt557.1 true) else (bibelotlaw07_PancakeSteps.j0 k t541 bt557.1 (decide ((wrap64 ((bt561.1.length : Int) - (bt557.1.length : Int))) > 1)))))) else (bibelotlaw07_PancakeSteps.j0 k t541 bt557.1 true))) else (bibelotlaw07_PancakeSteps.j0 k t541 bt557.1 true)) else (bibelotlaw07_PancakeSteps.j0 k t541 bt557.1 true)) else (bibelotlaw07_PancakeSteps.j0 k t541 bt557.1 true)) else (bibelotlaw07_PancakeSteps.j0 k t541 bt557.1 true)) else (bibelotlaw07_PancakeSteps.j0 k t541 bt557.1 true)) else (bibelotlaw07_PancakeSteps.j0 k t541 bt557.1 true))))))))))) = some r := h
 clear h
 replace H := Option.bind_eq_some_iff.mp H
 obtain ⟨t541, A40, H⟩ := H
 replace H : ((bibelotlaw07_row.f l1 t541 true).bind fun t542 => (if (IntKind.u64.wrap (t541)) = 0 then (none) else ((pancake_Turn.f t542 (mn (wrap64 (Int.tmod (IntKind.u64.wrap (a2_0)) (IntKind.u64.wrap (t541)))) (wrap64 (Int.tmod (IntKind.u64.wrap (a2_1)) (IntKind.u64.wrap (t541))))) (mx (wrap64 (Int.tmod (IntKind.u64.wrap (a2_0)) (IntKind.u64.wrap (t541)))) (wrap64 (Int.tmod (IntKind.u64.wrap (a2_1)) (IntKind.u64.wrap (t541)))))).bind fun bt545 => ((pancake_Turn.f bt545.1 (mn (wrap64 (Int.tmod (IntKind.u64.wrap (a2_0)) (IntKind.u64.wrap (t541)))) (wrap64 (Int.tmod (IntKind.u64.wrap (a2_1)) (IntKind.u64.wrap (t541))))) (mx (wrap64 (Int.tmod (IntKind.u64.wrap (a2_0)) (IntKind.u64.wrap (t541)))) (wrap64 (Int.tmod (IntKind.u64.wrap (a2_1)) (IntKind.u64.wrap (t541)))))).bind fun bt549 => ((pancake_Distance.f t542).bind fun bt553 => ((pancake_Distance.f bt545.1).bind fun bt555 => ((pancake_Circles.f t542).bind fun bt557 => ((pancake_Circles.f bt545.1).bind fun bt561 => (if bt545.2 = 0 then (if bt549.2 = 0 then (if bt553.2 = 0 then (if bt555.2 = 0 then (if bt557.2 = 0 then (if bt561.2 = 0 then ((bibelotlaw07_ints.f k bt549.1 t542).bind fun t565 => (if t565 = true then (if bt555.1 < (wrap64 (bt553.1 - 1)) then (bibelotlaw07_PancakeSteps.j0 k t541 bt557.1 true) else (if bt555.1 > (wrap64 (bt553.1 + 1)) then (bibelotlaw07_PancakeSteps.j0 k t541 bt557.1 true) else (if (wrap64 ((bt557.1.length : Int) - (bt561.1.length : Int))) > 1 then (bibelotlaw07_PancakeSteps.j0 k t541 bt557.1 true) else (bibelotlaw07_PancakeSteps.j0 k t541 bt557.1 (decide ((wrap64 ((bt561.1.length : Int) - (bt557.1.length : Int))) > 1)))))) else (bibelotlaw07_PancakeSteps.j0 k t541 bt557.1 true))) else (bibelotlaw07_PancakeSteps.j0 k t541 bt557.1 true)) else (bibelotlaw07_PancakeSteps.j0 k t541 bt557.1 true)) else (bibelotlaw07_PancakeSteps.j0 k t541 bt557.1 true)) else (bibelotlaw07_PancakeSteps.j0 k t541 bt557.1 true)) else (bibelotlaw07_PancakeSteps.j0 k t541 bt557.1 true)) else (bibelotlaw07_PancakeSteps.j0 k t541 bt557.1 true)))))))))) = some r := H
 have A4 := Aside0.mk A40
 clear A40
 replace H := Option.bind_eq_some_iff.mp H
 obtain ⟨t542, A50, H⟩ := H
 replace H : (if (IntKind.u64.wrap (t541)) = 0 then (none) else ((pancake_Turn.f t542 (mn (wrap64 (Int.tmod (IntKind.u64.wrap (a2_0)) (IntKind.u64.wrap (t541)))) (wrap64 (Int.tmod (IntKind.u64.wrap (a2_1)) (IntKind.u64.wrap (t541))))) (mx (wrap64 (Int.tmod (IntKind.u64.wrap (a2_0)) (IntKind.u64.wrap (t541)))) (wrap64 (Int.tmod (IntKind.u64.wrap (a2_1)) (IntKind.u64.wrap (t541)))))).bind fun bt545 => ((pancake_Turn.f bt545.1 (mn (wrap64 (Int.tmod (IntKind.u64.wrap (a2_0)) (IntKind.u64.wrap (t541)))) (wrap64 (Int.tmod (IntKind.u64.wrap (a2_1)) (IntKind.u64.wrap (t541))))) (mx (wrap64 (Int.tmod (IntKind.u64.wrap (a2_0)) (IntKind.u64.wrap (t541)))) (wrap64 (Int.tmod (IntKind.u64.wrap (a2_1)) (IntKind.u64.wrap (t541)))))).bind fun bt549 => ((pancake_Distance.f t542).bind fun bt553 => ((pancake_Distance.f bt545.1).bind fun bt555 => ((pancake_Circles.f t542).bind fun bt557 => ((pancake_Circles.f bt545.1).bind fun bt561 => (if bt545.2 = 0 then (if bt549.2 = 0 then (if bt553.2 = 0 then (if bt555.2 = 0 then (if bt557.2 = 0 then (if bt561.2 = 0 then ((bibelotlaw07_ints.f k bt549.1 t542).bind fun t565 => (if t565 = true then (if bt555.1 < (wrap64 (bt553.1 - 1)) then (bibelotlaw07_PancakeSteps.j0 k t541 bt557.1 true) else (if bt555.1 > (wrap64 (bt553.1 + 1)) then (bibelotlaw07_PancakeSteps.j0 k t541 bt557.1 true) else (if (wrap64 ((bt557.1.length : Int) - (bt561.1.length : Int))) > 1 then (bibelotlaw07_PancakeSteps.j0 k t541 bt557.1 true) else (bibelotlaw07_PancakeSteps.j0 k t541 bt557.1 (decide ((wrap64 ((bt561.1.length : Int) - (bt557.1.length : Int))) > 1)))))) else (bibelotlaw07_PancakeSteps.j0 k t541 bt557.1 true))) else (bibelotlaw07_PancakeSteps.j0 k t541 bt557.1 true)) else (bibelotlaw07_PancakeSteps.j0 k t541 bt557.1 true)) else (bibelotlaw07_PancakeSteps.j0 k t541 bt557.1 true)) else (bibelotlaw07_PancakeSteps.j0 k t541 bt557.1 true)) else (bibelotlaw07_PancakeSteps.j0 k t541 bt557.1 true)) else (bibelotlaw07_PancakeSteps.j0 k t541 bt557.1 true))))))))) = some r := H
 have A5 := Aside0.mk A50
 clear A50
 by_cases c6 : (IntKind.u64.wrap (t541)) = 0
 ·rw [if_pos c6] at H
  exact absurd H (by simp)
 ·rw [if_neg c6] at H
  have c6b0 : ((IntKind.u64.wrap (t541)) == 0) = false := beq_eq_false_iff_ne.mpr c6
  have c6b1 : ((IntKind.u64.wrap (t541)) != 0) = true := bne_iff_ne.mpr c6
  obtain ⟨ji7, hji7⟩ : ∃ j_ : Int, (mn (wrap64 (Int.tmod (IntKind.u64.wrap (a2_0)) (IntKind.u64.wrap (t541)))) (wrap64 (Int.tmod (IntKind.u64.wrap (a2_1)) (IntKind.u64.wrap (t541))))) = j_ := ⟨_, rfl⟩
  replace H : ((pancake_Turn.f t542 (ji7) (mx (wrap64 (Int.tmod (IntKind.u64.wrap (a2_0)) (IntKind.u64.wrap (t541)))) (wrap64 (Int.tmod (IntKind.u64.wrap (a2_1)) (IntKind.u64.wrap (t541)))))).bind fun bt545 => ((pancake_Turn.f bt545.1 (ji7) (mx (wrap64 (Int.tmod (IntKind.u64.wrap (a2_0)) (IntKind.u64.wrap (t541)))) (wrap64 (Int.tmod (IntKind.u64.wrap (a2_1)) (IntKind.u64.wrap (t541)))))).bind fun bt549 => ((pancake_Distance.f t542).bind fun bt553 => ((pancake_Distance.f bt545.1).bind fun bt555 => ((pancake_Circles.f t542).bind fun bt557 => ((pancake_Circles.f bt545.1).bind fun bt561 => (if bt545.2 = 0 then (if bt549.2 = 0 then (if bt553.2 = 0 then (if bt555.2 = 0 then (if bt557.2 = 0 then (if bt561.2 = 0 then ((bibelotlaw07_ints.f k bt549.1 t542).bind fun t565 => (if t565 = true then (if bt555.1 < (wrap64 (bt553.1 - 1)) then (bibelotlaw07_PancakeSteps.j0 k t541 bt557.1 true) else (if bt555.1 > (wrap64 (bt553.1 + 1)) then (bibelotlaw07_PancakeSteps.j0 k t541 bt557.1 true) else (if (wrap64 ((bt557.1.length : Int) - (bt561.1.length : Int))) > 1 then (bibelotlaw07_PancakeSteps.j0 k t541 bt557.1 true) else (bibelotlaw07_PancakeSteps.j0 k t541 bt557.1 (decide ((wrap64 ((bt561.1.length : Int) - (bt557.1.length : Int))) > 1)))))) else (bibelotlaw07_PancakeSteps.j0 k t541 bt557.1 true))) else (bibelotlaw07_PancakeSteps.j0 k t541 bt557.1 true)) else (bibelotlaw07_PancakeSteps.j0 k t541 bt557.1 true)) else (bibelotlaw07_PancakeSteps.j0 k t541 bt557.1 true)) else (bibelotlaw07_PancakeSteps.j0 k t541 bt557.1 true)) else (bibelotlaw07_PancakeSteps.j0 k t541 bt557.1 true)) else (bibelotlaw07_PancakeSteps.j0 k t541 bt557.1 true)))))))) = some r := by first|(rw [hji7] at H;exact H)|(simp only [hji7] at H ⊢;exact H)
  (try rw [hji7] at A4)
  (try rw [hji7] at A5)
  have hji7_ : (if (wrap64 (Int.tmod (IntKind.u64.wrap (a2_1)) (IntKind.u64.wrap (t541)))) < (wrap64 (Int.tmod (IntKind.u64.wrap (a2_0)) (IntKind.u64.wrap (t541)))) then (wrap64 (Int.tmod (IntKind.u64.wrap (a2_1)) (IntKind.u64.wrap (t541)))) else (wrap64 (Int.tmod (IntKind.u64.wrap (a2_0)) (IntKind.u64.wrap (t541))))) = ji7 := hji7
  obtain ⟨ji8, hji8⟩ : ∃ j_ : Int, (mx (wrap64 (Int.tmod (IntKind.u64.wrap (a2_0)) (IntKind.u64.wrap (t541)))) (wrap64 (Int.tmod (IntKind.u64.wrap (a2_1)) (IntKind.u64.wrap (t541))))) = j_ := ⟨_, rfl⟩
  replace H : ((pancake_Turn.f t542 (ji7) (ji8)).bind fun bt545 => ((pancake_Turn.f bt545.1 (ji7) (ji8)).bind fun bt549 => ((pancake_Distance.f t542).bind fun bt553 => ((pancake_Distance.f bt545.1).bind fun bt555 => ((pancake_Circles.f t542).bind fun bt557 => ((pancake_Circles.f bt545.1).bind fun bt561 => (if bt545.2 = 0 then (if bt549.2 = 0 then (if bt553.2 = 0 then (if bt555.2 = 0 then (if bt557.2 = 0 then (if bt561.2 = 0 then ((bibelotlaw07_ints.f k bt549.1 t542).bind fun t565 => (if t565 = true then (if bt555.1 < (wrap64 (bt553.1 - 1)) then (bibelotlaw07_PancakeSteps.j0 k t541 bt557.1 true) else (if bt555.1 > (wrap64 (bt553.1 + 1)) then (bibelotlaw07_PancakeSteps.j0 k t541 bt557.1 true) else (if (wrap64 ((bt557.1.length : Int) - (bt561.1.length : Int))) > 1 then (bibelotlaw07_PancakeSteps.j0 k t541 bt557.1 true) else (bibelotlaw07_PancakeSteps.j0 k t541 bt557.1 (decide ((wrap64 ((bt561.1.length : Int) - (bt557.1.length : Int))) > 1)))))) else (bibelotlaw07_PancakeSteps.j0 k t541 bt557.1 true))) else (bibelotlaw07_PancakeSteps.j0 k t541 bt557.1 true)) else (bibelotlaw07_PancakeSteps.j0 k t541 bt557.1 true)) else (bibelotlaw07_PancakeSteps.j0 k t541 bt557.1 true)) else (bibelotlaw07_PancakeSteps.j0 k t541 bt557.1 true)) else (bibelotlaw07_PancakeSteps.j0 k t541 bt557.1 true)) else (bibelotlaw07_PancakeSteps.j0 k t541 bt557.1 true)))))))) = some r := by first|(rw [hji8] at H;exact H)|(simp only [hji8] at H ⊢;exact H)
  (try rw [hji8] at A4)
  (try rw [hji8] at A5)
  have hji8_ : (if (wrap64 (Int.tmod (IntKind.u64.wrap (a2_0)) (IntKind.u64.wrap (t541)))) < (wrap64 (Int.tmod (IntKind.u64.wrap (a2_1)) (IntKind.u64.wrap (t541)))) then (wrap64 (Int.tmod (IntKind.u64.wrap (a2_1)) (IntKind.u64.wrap (t541)))) else (wrap64 (Int.tmod (IntKind.u64.wrap (a2_0)) (IntKind.u64.wrap (t541))))) = ji8 := hji8
  replace H := Option.bind_eq_some_iff.mp H
  obtain ⟨⟨t545, t546⟩, A90, H⟩ := H
  replace H : ((pancake_Turn.f t545 (ji7) (ji8)).bind fun bt549 => ((pancake_Distance.f t542).bind fun bt553 => ((pancake_Distance.f t545).bind fun bt555 => ((pancake_Circles.f t542).bind fun bt557 => ((pancake_Circles.f t545).bind fun bt561 => (if t546 = 0 then (if bt549.2 = 0 then (if bt553.2 = 0 then (if bt555.2 = 0 then (if bt557.2 = 0 then (if bt561.2 = 0 then ((bibelotlaw07_ints.f k bt549.1 t542).bind fun t565 => (if t565 = true then (if bt555.1 < (wrap64 (bt553.1 - 1)) then (bibelotlaw07_PancakeSteps.j0 k t541 bt557.1 true) else (if bt555.1 > (wrap64 (bt553.1 + 1)) then (bibelotlaw07_PancakeSteps.j0 k t541 bt557.1 true) else (if (wrap64 ((bt557.1.length : Int) - (bt561.1.length : Int))) > 1 then (bibelotlaw07_PancakeSteps.j0 k t541 bt557.1 true) else (bibelotlaw07_PancakeSteps.j0 k t541 bt557.1 (decide ((wrap64 ((bt561.1.length : Int) - (bt557.1.length : Int))) > 1)))))) else (bibelotlaw07_PancakeSteps.j0 k t541 bt557.1 true))) else (bibelotlaw07_PancakeSteps.j0 k t541 bt557.1 true)) else (bibelotlaw07_PancakeSteps.j0 k t541 bt557.1 true)) else (bibelotlaw07_PancakeSteps.j0 k t541 bt557.1 true)) else (bibelotlaw07_PancakeSteps.j0 k t541 bt557.1 true)) else (bibelotlaw07_PancakeSteps.j0 k t541 bt557.1 true)) else (bibelotlaw07_PancakeSteps.j0 k t541 bt557.1 true))))))) = some r := H
  have A9 := Aside0.mk A90
  clear A90
  replace H := Option.bind_eq_some_iff.mp H
  obtain ⟨⟨t549, t550⟩, A120, H⟩ := H
  replace H : ((pancake_Distance.f t542).bind fun bt553 => ((pancake_Distance.f t545).bind fun bt555 => ((pancake_Circles.f t542).bind fun bt557 => ((pancake_Circles.f t545).bind fun bt561 => (if t546 = 0 then (if t550 = 0 then (if bt553.2 = 0 then (if bt555.2 = 0 then (if bt557.2 = 0 then (if bt561.2 = 0 then ((bibelotlaw07_ints.f k t549 t542).bind fun t565 => (if t565 = true then (if bt555.1 < (wrap64 (bt553.1 - 1)) then (bibelotlaw07_PancakeSteps.j0 k t541 bt557.1 true) else (if bt555.1 > (wrap64 (bt553.1 + 1)) then (bibelotlaw07_PancakeSteps.j0 k t541 bt557.1 true) else (if (wrap64 ((bt557.1.length : Int) - (bt561.1.length : Int))) > 1 then (bibelotlaw07_PancakeSteps.j0 k t541 bt557.1 true) else (bibelotlaw07_PancakeSteps.j0 k t541 bt557.1 (decide ((wrap64 ((bt561.1.length : Int) - (bt557.1.length : Int))) > 1)))))) else (bibelotlaw07_PancakeSteps.j0 k t541 bt557.1 true))) else (bibelotlaw07_PancakeSteps.j0 k t541 bt557.1 true)) else (bibelotlaw07_PancakeSteps.j0 k t541 bt557.1 true)) else (bibelotlaw07_PancakeSteps.j0 k t541 bt557.1 true)) else (bibelotlaw07_PancakeSteps.j0 k t541 bt557.1 true)) else (bibelotlaw07_PancakeSteps.j0 k t541 bt557.1 true)) else (bibelotlaw07_PancakeSteps.j0 k t541 bt557.1 true)))))) = some r := H
  have A12 := Aside0.mk A120
  clear A120
  replace H := Option.bind_eq_some_iff.mp H
  obtain ⟨⟨t553, t554⟩, A130, H⟩ := H
  replace H : ((pancake_Distance.f t545).bind fun bt555 => ((pancake_Circles.f t542).bind fun bt557 => ((pancake_Circles.f t545).bind fun bt561 => (if t546 = 0 then (if t550 = 0 then (if t554 = 0 then (if bt555.2 = 0 then (if bt557.2 = 0 then (if bt561.2 = 0 then ((bibelotlaw07_ints.f k t549 t542).bind fun t565 => (if t565 = true then (if bt555.1 < (wrap64 (t553 - 1)) then (bibelotlaw07_PancakeSteps.j0 k t541 bt557.1 true) else (if bt555.1 > (wrap64 (t553 + 1)) then (bibelotlaw07_PancakeSteps.j0 k t541 bt557.1 true) else (if (wrap64 ((bt557.1.length : Int) - (bt561.1.length : Int))) > 1 then (bibelotlaw07_PancakeSteps.j0 k t541 bt557.1 true) else (bibelotlaw07_PancakeSteps.j0 k t541 bt557.1 (decide ((wrap64 ((bt561.1.length : Int) - (bt557.1.length : Int))) > 1)))))) else (bibelotlaw07_PancakeSteps.j0 k t541 bt557.1 true))) else (bibelotlaw07_PancakeSteps.j0 k t541 bt557.1 true)) else (bibelotlaw07_PancakeSteps.j0 k t541 bt557.1 true)) else (bibelotlaw07_PancakeSteps.j0 k t541 bt557.1 true)) else (bibelotlaw07_PancakeSteps.j0 k t541 bt557.1 true)) else (bibelotlaw07_PancakeSteps.j0 k t541 bt557.1 true)) else (bibelotlaw07_PancakeSteps.j0 k t541 bt557.1 true))))) = some r := H
  have A13 := Aside0.mk A130
  clear A130
  replace H := Option.bind_eq_some_iff.mp H
  obtain ⟨⟨t555, t556⟩, A140, H⟩ := H
  replace H : ((pancake_Circles.f t542).bind fun bt557 => ((pancake_Circles.f t545).bind fun bt561 => (if t546 = 0 then (if t550 = 0 then (if t554 = 0 then (if t556 = 0 then (if bt557.2 = 0 then (if bt561.2 = 0 then ((bibelotlaw07_ints.f k t549 t542).bind fun t565 => (if t565 = true then (if t555 < (wrap64 (t553 - 1)) then (bibelotlaw07_PancakeSteps.j0 k t541 bt557.1 true) else (if t555 > (wrap64 (t553 + 1)) then (bibelotlaw07_PancakeSteps.j0 k t541 bt557.1 true) else (if (wrap64 ((bt557.1.length : Int) - (bt561.1.length : Int))) > 1 then (bibelotlaw07_PancakeSteps.j0 k t541 bt557.1 true) else (bibelotlaw07_PancakeSteps.j0 k t541 bt557.1 (decide ((wrap64 ((bt561.1.length : Int) - (bt557.1.length : Int))) > 1)))))) else (bibelotlaw07_PancakeSteps.j0 k t541 bt557.1 true))) else (bibelotlaw07_PancakeSteps.j0 k t541 bt557.1 true)) else (bibelotlaw07_PancakeSteps.j0 k t541 bt557.1 true)) else (bibelotlaw07_PancakeSteps.j0 k t541 bt557.1 true)) else (bibelotlaw07_PancakeSteps.j0 k t541 bt557.1 true)) else (bibelotlaw07_PancakeSteps.j0 k t541 bt557.1 true)) else (bibelotlaw07_PancakeSteps.j0 k t541 bt557.1 true)))) = some r := H
  have A14 := Aside0.mk A140
  clear A140
  replace H := Option.bind_eq_some_iff.mp H
  obtain ⟨⟨t557, t558⟩, A150, H⟩ := H
  replace H : ((pancake_Circles.f t545).bind fun bt561 => (if t546 = 0 then (if t550 = 0 then (if t554 = 0 then (if t556 = 0 then (if t558 = 0 then (if bt561.2 = 0 then ((bibelotlaw07_ints.f k t549 t542).bind fun t565 => (if t565 = true then (if t555 < (wrap64 (t553 - 1)) then (bibelotlaw07_PancakeSteps.j0 k t541 t557 true) else (if t555 > (wrap64 (t553 + 1)) then (bibelotlaw07_PancakeSteps.j0 k t541 t557 true) else (if (wrap64 ((t557.length : Int) - (bt561.1.length : Int))) > 1 then (bibelotlaw07_PancakeSteps.j0 k t541 t557 true) else (bibelotlaw07_PancakeSteps.j0 k t541 t557 (decide ((wrap64 ((bt561.1.length : Int) - (t557.length : Int))) > 1)))))) else (bibelotlaw07_PancakeSteps.j0 k t541 t557 true))) else (bibelotlaw07_PancakeSteps.j0 k t541 t557 true)) else (bibelotlaw07_PancakeSteps.j0 k t541 t557 true)) else (bibelotlaw07_PancakeSteps.j0 k t541 t557 true)) else (bibelotlaw07_PancakeSteps.j0 k t541 t557 true)) else (bibelotlaw07_PancakeSteps.j0 k t541 t557 true)) else (bibelotlaw07_PancakeSteps.j0 k t541 t557 true))) = some r := H
  have A15 := Aside0.mk A150
  clear A150
  replace H := Option.bind_eq_some_iff.mp H
  obtain ⟨⟨t561, t562⟩, A160, H⟩ := H
  replace H : (if t546 = 0 then (if t550 = 0 then (if t554 = 0 then (if t556 = 0 then (if t558 = 0 then (if t562 = 0 then ((bibelotlaw07_ints.f k t549 t542).bind fun t565 => (if t565 = true then (if t555 < (wrap64 (t553 - 1)) then (bibelotlaw07_PancakeSteps.j0 k t541 t557 true) else (if t555 > (wrap64 (t553 + 1)) then (bibelotlaw07_PancakeSteps.j0 k t541 t557 true) else (if (wrap64 ((t557.length : Int) - (t561.length : Int))) > 1 then (bibelotlaw07_PancakeSteps.j0 k t541 t557 true) else (bibelotlaw07_PancakeSteps.j0 k t541 t557 (decide ((wrap64 ((t561.length : Int) - (t557.length : Int))) > 1)))))) else (bibelotlaw07_PancakeSteps.j0 k t541 t557 true))) else (bibelotlaw07_PancakeSteps.j0 k t541 t557 true)) else (bibelotlaw07_PancakeSteps.j0 k t541 t557 true)) else (bibelotlaw07_PancakeSteps.j0 k t541 t557 true)) else (bibelotlaw07_PancakeSteps.j0 k t541 t557 true)) else (bibelotlaw07_PancakeSteps.j0 k t541 t557 true)) else (bibelotlaw07_PancakeSteps.j0 k t541 t557 true)) = some r := H
  have A16 := Aside0.mk A160
  clear A160
  have HC17 := Aside0.mk H
  clear H
  go_enter Try.func11, Try.ntmps11
  go_upto_region 10 with (first|((with_reducible refine gate_dst (N := 5) rfl ?_);(try (refine gate_guard (by rfl) ?_;dsimp only));refine box_event ?hg (N := 5) ?hd (cs := #[.int .i64 a2_0, .int .i64 a2_1]) (t := 57) ?hr ?_;(case hd => rfl);(case hg => rfl);(case hr => first|(go_simp;done)|(go_simp;rfl));intro gb540 hg w18 hbox hb;have n0_ := Aside0.mk (below_step (by repeat (first|(with_reducible first|exact HB.out|apply below_alloc|apply pw_below_drewN|apply below_drew1)|exact HB.out)) hb);have n1_ := Aside0.mk (hbox);have n2_ := Aside0.mk ((by rw [hg];exact (below_size (by repeat (first|(with_reducible first|exact HB.out|apply below_alloc|apply pw_below_drewN|apply below_drew1)|exact HB.out))) : w.heap.size ≤ gb540));have n3_ := Aside0.mk ((by rw [hg];exact (below_size (by repeat (first|(with_reducible first|exact HB.out|apply below_alloc|apply pw_below_drewN|apply below_drew1)|exact HB.out))) : w.heap.size ≤ gb540));clear HB;have HB := n0_;have BK540 := n1_;have GW540 := n2_;have GE540 := n3_;clear n0_ n1_ n2_ n3_;clear hb hbox hg)|(go_at_call 21;(with_reducible refine (bibelotlaw07_many.calls a0 40 t541 _ A4.out).mono ?_);rintro e w' ⟨rfl, ⟨nd, rfl⟩⟩;(try first|exact ⟨rfl, _, World.drewN_drewN _ _ _⟩|exact ⟨rfl, _, Eq.trans (World.drewN_drewN _ _ _) (congrArg (World.drewN _) (Nat.add_assoc _ _ _))⟩))|(go_at_call 27;(with_reducible refine (bibelotlaw07_row.calls _ _ l1 t541 true t542 _ ?side1 ?side2 A5.out).mono ?_);(case side1 => repeat (first|exact (Kd.C_below HR1.out (by repeat (first|(with_reducible first|exact HB.out|apply below_alloc|apply pw_below_drewN|apply below_drew1|refine below_set ?_ GE540.out)|exact HB.out)))|(with_reducible refine Kd.C_alloc ?_ _)|(with_reducible refine Kd.C_drewN ?_ _)|(with_reducible refine Kd.C_drew ?_)));(case side2 => exact HC1.out);rintro e w19 ⟨v543, rfl, ho0, hb⟩;have n0_ := Aside0.mk (Kd.R_lower ho0 (below_size (by repeat (first|(with_reducible first|exact HB.out|apply below_alloc|apply pw_below_drewN|apply below_drew1|refine below_set ?_ GE540.out)|exact HB.out))));have n1_ := Aside0.mk (blk_below (g := gb540) (o := .cells #[.int .i64 a2_0, .int .i64 a2_1] 57 (0, 0)) (by (with_reducible repeat (first|refine blk_drewN ?_ _|refine blk_drew ?_|refine blk_alloc ?_ _));exact BK540.out) hb);have n2_ := Aside0.mk (below_step (by repeat (first|(with_reducible first|exact HB.out|apply below_alloc|apply pw_below_drewN|apply below_drew1|refine below_set ?_ GE540.out)|exact HB.out)) hb);clear BK540;clear HB;have HO544 := n0_;have BK540 := n1_;have HB := n2_;clear n0_ n1_ n2_;(try clear hb);(try clear hb2);(try clear hk);(try clear hi);(try clear ho0);have hcz20_0 : w19.cell? ⟨gb540, 0, none⟩ = some (.int .i64 a2_0) := (blk_cell BK540.out 0).trans rfl;have hcz20_1 : w19.cell? ⟨gb540, 1, none⟩ = some (.int .i64 a2_1) := (blk_cell BK540.out 1).trans rfl;have hfz20_0 := blk_frozen BK540.out 0;have hfz20_1 := blk_frozen BK540.out 1;obtain ⟨Ao21, co21, eo21⟩ := Kd.R_slice HO544.out;subst eo21)|(go_at_call 45;(with_reducible refine (pancake_Turn.calls _ _ t542 ji7 ji8 t545 t546 _ ?side1 ?side2 A9.out).mono ?_);(case side1 => repeat (first|exact (Kd.R_reads' HO544.out).2.2|(with_reducible refine Kd.C_alloc ?_ _)|(with_reducible refine Kd.C_drewN ?_ _)|(with_reducible refine Kd.C_drew ?_)));(case side2 => exact (Kd.R_reads' HO544.out).2.1);rintro e w22 ⟨v547, rfl, ho0, hb⟩;have n0_ := Aside0.mk (Kd.R_elder' (by (with_reducible repeat (first|apply Kd.R_alloc|apply Kd.R_drewN|apply Kd.R_drew));exact HO544.out) (Kd.R_base ho0) hb);have n1_ := Aside0.mk (Kd.R_lower (Kd.R_new' ho0 (Kd.R_lt (by (with_reducible repeat (first|apply Kd.R_alloc|apply Kd.R_drewN|apply Kd.R_drew));exact HO544.out))) (below_size (by repeat (first|(with_reducible first|exact HB.out|apply below_alloc|apply pw_below_drewN|apply below_drew1|refine below_set ?_ GE540.out)|exact HB.out))));have n2_ := Aside0.mk (blk_below (g := gb540) (o := .cells #[.int .i64 a2_0, .int .i64 a2_1] 57 (0, 0)) (by (with_reducible repeat (first|refine blk_drewN ?_ _|refine blk_drew ?_|refine blk_alloc ?_ _));exact BK540.out) hb);have n3_ := Aside0.mk (below_step (by repeat (first|(with_reducible first|exact HB.out|apply below_alloc|apply pw_below_drewN|apply below_drew1|refine below_set ?_ GE540.out)|exact HB.out)) hb);clear HO544;clear BK540;clear HB;have HO544 := n0_;have HO548 := n1_;have BK540 := n2_;have HB := n3_;clear n0_ n1_ n2_ n3_;(try clear hb);(try clear hb2);(try clear hk);(try clear hi);(try clear ho0);obtain ⟨Ao23, co23, eo23⟩ := Kd.R_slice HO548.out;subst eo23)|(go_at_call 45;(with_reducible refine (pancake_Turn.calls _ _ t545 ji7 ji8 t549 t550 _ ?side1 ?side2 A12.out).mono ?_);(case side1 => repeat (first|exact (Kd.R_reads' HO548.out).2.2|(with_reducible refine Kd.C_alloc ?_ _)|(with_reducible refine Kd.C_drewN ?_ _)|(with_reducible refine Kd.C_drew ?_)));(case side2 => exact (Kd.R_reads' HO548.out).2.1);rintro e w24 ⟨v551, rfl, ho0, hb⟩;have n0_ := Aside0.mk (Kd.R_elder' (by (with_reducible repeat (first|apply Kd.R_alloc|apply Kd.R_drewN|apply Kd.R_drew));exact HO544.out) (Kd.R_base ho0) hb);have n1_ := Aside0.mk (Kd.R_elder' (by (with_reducible repeat (first|apply Kd.R_alloc|apply Kd.R_drewN|apply Kd.R_drew));exact HO548.out) (Kd.R_base ho0) hb);have n2_ := Aside0.mk (Kd.R_lower (Kd.R_new' (Kd.R_new' ho0 (Kd.R_lt (by (with_reducible repeat (first|apply Kd.R_alloc|apply Kd.R_drewN|apply Kd.R_drew));exact HO544.out))) (Kd.R_lt (by (with_reducible repeat (first|apply Kd.R_alloc|apply Kd.R_drewN|apply Kd.R_drew));exact HO548.out))) (below_size (by repeat (first|(with_reducible first|exact HB.out|apply below_alloc|apply pw_below_drewN|apply below_drew1|refine below_set ?_ GE540.out)|exact HB.out))));have n3_ := Aside0.mk (blk_below (g := gb540) (o := .cells #[.int .i64 a2_0, .int .i64 a2_1] 57 (0, 0)) (by (with_reducible repeat (first|refine blk_drewN ?_ _|refine blk_drew ?_|refine blk_alloc ?_ _));exact BK540.out) hb);have n4_ := Aside0.mk (below_step (by repeat (first|(with_reducible first|exact HB.out|apply below_alloc|apply pw_below_drewN|apply below_drew1|refine below_set ?_ GE540.out)|exact HB.out)) hb);clear HO544;clear HO548;clear BK540;clear HB;have HO544 := n0_;have HO548 := n1_;have HO552 := n2_;have BK540 := n3_;have HB := n4_;clear n0_ n1_ n2_ n3_ n4_;(try clear hb);(try clear hb2);(try clear hk);(try clear hi);(try clear ho0))|(go_at_call 23;(with_reducible refine (pancake_Distance.calls _ _ t542 t553 t554 _ ?side1 ?side2 A13.out).mono ?_);(case side1 => repeat (first|exact (Kd.R_reads' HO544.out).2.2|(with_reducible refine Kd.C_alloc ?_ _)|(with_reducible refine Kd.C_drewN ?_ _)|(with_reducible refine Kd.C_drew ?_)));(case side2 => exact (Kd.R_reads' HO544.out).2.1);rintro e w25 ⟨rfl, hb⟩;have n0_ := Aside0.mk (Kd.R_below (by (with_reducible repeat (first|apply Kd.R_alloc|apply Kd.R_drewN|apply Kd.R_drew));exact HO544.out) hb);have n1_ := Aside0.mk (Kd.R_below (by (with_reducible repeat (first|apply Kd.R_alloc|apply Kd.R_drewN|apply Kd.R_drew));exact HO548.out) hb);have n2_ := Aside0.mk (Kd.R_below (by (with_reducible repeat (first|apply Kd.R_alloc|apply Kd.R_drewN|apply Kd.R_drew));exact HO552.out) hb);have n3_ := Aside0.mk (blk_below (g := gb540) (o := .cells #[.int .i64 a2_0, .int .i64 a2_1] 57 (0, 0)) (by (with_reducible repeat (first|refine blk_drewN ?_ _|refine blk_drew ?_|refine blk_alloc ?_ _));exact BK540.out) hb);have n4_ := Aside0.mk (below_step (by repeat (first|(with_reducible first|exact HB.out|apply below_alloc|apply pw_below_drewN|apply below_drew1|refine below_set ?_ GE540.out)|exact HB.out)) hb);clear HO544;clear HO548;clear HO552;clear BK540;clear HB;have HO544 := n0_;have HO548 := n1_;have HO552 := n2_;have BK540 := n3_;have HB := n4_;clear n0_ n1_ n2_ n3_ n4_;(try clear hb);(try clear hb2);(try clear hk);(try clear hi))|(go_at_call 23;(with_reducible refine (pancake_Distance.calls _ _ t545 t555 t556 _ ?side1 ?side2 A14.out).mono ?_);(case side1 => repeat (first|exact (Kd.R_reads' HO548.out).2.2|(with_reducible refine Kd.C_alloc ?_ _)|(with_reducible refine Kd.C_drewN ?_ _)|(with_reducible refine Kd.C_drew ?_)));(case side2 => exact (Kd.R_reads' HO548.out).2.1);rintro e w26 ⟨rfl, hb⟩;have n0_ := Aside0.mk (Kd.R_below (by (with_reducible repeat (first|apply Kd.R_alloc|apply Kd.R_drewN|apply Kd.R_drew));exact HO544.out) hb);have n1_ := Aside0.mk (Kd.R_below (by (with_reducible repeat (first|apply Kd.R_alloc|apply Kd.R_drewN|apply Kd.R_drew));exact HO548.out) hb);have n2_ := Aside0.mk (Kd.R_below (by (with_reducible repeat (first|apply Kd.R_alloc|apply Kd.R_drewN|apply Kd.R_drew));exact HO552.out) hb);have n3_ := Aside0.mk (blk_below (g := gb540) (o := .cells #[.int .i64 a2_0, .int .i64 a2_1] 57 (0, 0)) (by (with_reducible repeat (first|refine blk_drewN ?_ _|refine blk_drew ?_|refine blk_alloc ?_ _));exact BK540.out) hb);have n4_ := Aside0.mk (below_step (by repeat (first|(with_reducible first|exact HB.out|apply below_alloc|apply pw_below_drewN|apply below_drew1|refine below_set ?_ GE540.out)|exact HB.out)) hb);clear HO544;clear HO548;clear HO552;clear BK540;clear HB;have HO544 := n0_;have HO548 := n1_;have HO552 := n2_;have BK540 := n3_;have HB := n4_;clear n0_ n1_ n2_ n3_ n4_;(try clear hb);(try clear hb2);(try clear hk);(try clear hi))|(go_at_call 36;(with_reducible refine (pancake_Circles.calls _ _ t542 t557 t558 _ ?side1 ?side2 A15.out).mono ?_);(case side1 => repeat (first|exact (Kd.R_reads' HO544.out).2.2|(with_reducible refine Kd.C_alloc ?_ _)|(with_reducible refine Kd.C_drewN ?_ _)|(with_reducible refine Kd.C_drew ?_)));(case side2 => exact (Kd.R_reads' HO544.out).2.1);rintro e w27 ⟨v559, rfl, ho0, hb⟩;have n0_ := Aside0.mk (Kd.R_below (by (with_reducible repeat (first|apply Kd.R_alloc|apply Kd.R_drewN|apply Kd.R_drew));exact HO544.out) hb);have n1_ := Aside0.mk (Kd.R_below (by (with_reducible repeat (first|apply Kd.R_alloc|apply Kd.R_drewN|apply Kd.R_drew));exact HO548.out) hb);have n2_ := Aside0.mk (Kd.R_below (by (with_reducible repeat (first|apply Kd.R_alloc|apply Kd.R_drewN|apply Kd.R_drew));exact HO552.out) hb);have n3_ := Aside0.mk (Kd.S_lower (Kd.S_new' (Kd.S_new' (Kd.S_new' ho0 (Kd.R_lt (by (with_reducible repeat (first|apply Kd.R_alloc|apply Kd.R_drewN|apply Kd.R_drew));exact HO544.out))) (Kd.R_lt (by (with_reducible repeat (first|apply Kd.R_alloc|apply Kd.R_drewN|apply Kd.R_drew));exact HO548.out))) (Kd.R_lt (by (with_reducible repeat (first|apply Kd.R_alloc|apply Kd.R_drewN|apply Kd.R_drew));exact HO552.out))) (below_size (by repeat (first|(with_reducible first|exact HB.out|apply below_alloc|apply pw_below_drewN|apply below_drew1|refine below_set ?_ GE540.out)|exact HB.out))));have n4_ := Aside0.mk (blk_below (g := gb540) (o := .cells #[.int .i64 a2_0, .int .i64 a2_1] 57 (0, 0)) (by (with_reducible repeat (first|refine blk_drewN ?_ _|refine blk_drew ?_|refine blk_alloc ?_ _));exact BK540.out) hb);have n5_ := Aside0.mk (below_step (by repeat (first|(with_reducible first|exact HB.out|apply below_alloc|apply pw_below_drewN|apply below_drew1|refine below_set ?_ GE540.out)|exact HB.out)) hb);clear HO544;clear HO548;clear HO552;clear BK540;clear HB;have HO544 := n0_;have HO548 := n1_;have HO552 := n2_;have HO560 := n3_;have BK540 := n4_;have HB := n5_;clear n0_ n1_ n2_ n3_ n4_ n5_;(try clear hb);(try clear hb2);(try clear hk);(try clear hi);(try clear ho0))|(go_at_call 36;(with_reducible refine (pancake_Circles.calls _ _ t545 t561 t562 _ ?side1 ?side2 A16.out).mono ?_);(case side1 => repeat (first|exact (Kd.R_reads' HO548.out).2.2|(with_reducible refine Kd.C_alloc ?_ _)|(with_reducible refine Kd.C_drewN ?_ _)|(with_reducible refine Kd.C_drew ?_)));(case side2 => exact (Kd.R_reads' HO548.out).2.1);rintro e w28 ⟨v563, rfl, ho0, hb⟩;have n0_ := Aside0.mk (Kd.R_below (by (with_reducible repeat (first|apply Kd.R_alloc|apply Kd.R_drewN|apply Kd.R_drew));exact HO544.out) hb);have n1_ := Aside0.mk (Kd.R_below (by (with_reducible repeat (first|apply Kd.R_alloc|apply Kd.R_drewN|apply Kd.R_drew));exact HO548.out) hb);have n2_ := Aside0.mk (Kd.R_below (by (with_reducible repeat (first|apply Kd.R_alloc|apply Kd.R_drewN|apply Kd.R_drew));exact HO552.out) hb);have n3_ := Aside0.mk (Kd.S_elder' (by (with_reducible repeat (first|apply Kd.S_alloc|apply Kd.S_drewN|apply Kd.S_drew));exact HO560.out) (Kd.S_base ho0) hb);have n4_ := Aside0.mk (Kd.S_lower (Kd.S_new' (Kd.S_new' (Kd.S_new' (Kd.S_new' ho0 (Kd.R_lt (by (with_reducible repeat (first|apply Kd.R_alloc|apply Kd.R_drewN|apply Kd.R_drew));exact HO544.out))) (Kd.R_lt (by (with_reducible repeat (first|apply Kd.R_alloc|apply Kd.R_drewN|apply Kd.R_drew));exact HO548.out))) (Kd.R_lt (by (with_reducible repeat (first|apply Kd.R_alloc|apply Kd.R_drewN|apply Kd.R_drew));exact HO552.out))) (Kd.S_lt (by (with_reducible repeat (first|apply Kd.S_alloc|apply Kd.S_drewN|apply Kd.S_drew));exact HO560.out))) (below_size (by repeat (first|(with_reducible first|exact HB.out|apply below_alloc|apply pw_below_drewN|apply below_drew1|refine below_set ?_ GE540.out)|exact HB.out))));have n5_ := Aside0.mk (blk_below (g := gb540) (o := .cells #[.int .i64 a2_0, .int .i64 a2_1] 57 (0, 0)) (by (with_reducible repeat (first|refine blk_drewN ?_ _|refine blk_drew ?_|refine blk_alloc ?_ _));exact BK540.out) hb);have n6_ := Aside0.mk (below_step (by repeat (first|(with_reducible first|exact HB.out|apply below_alloc|apply pw_below_drewN|apply below_drew1|refine below_set ?_ GE540.out)|exact HB.out)) hb);clear HO544;clear HO548;clear HO552;clear HO560;clear BK540;clear HB;have HO544 := n0_;have HO548 := n1_;have HO552 := n2_;have HO560 := n3_;have HO564 := n4_;have BK540 := n5_;have HB := n6_;clear n0_ n1_ n2_ n3_ n4_ n5_ n6_;(try clear hb);(try clear hb2);(try clear hk);(try clear hi);(try clear ho0)))
  repeat (go_quiet (first|((with_reducible refine gate_dst (N := 5) rfl ?_);(try (refine gate_guard (by rfl) ?_;dsimp only));refine box_event ?hg (N := 5) ?hd (cs := #[.int .i64 a2_0, .int .i64 a2_1]) (t := 57) ?hr ?_;(case hd => rfl);(case hg => rfl);(case hr => first|(go_simp;done)|(go_simp;rfl));intro gb540 hg w18 hbox hb;have n0_ := Aside0.mk (below_step (by repeat (first|(with_reducible first|exact HB.out|apply below_alloc|apply pw_below_drewN|apply below_drew1)|exact HB.out)) hb);have n1_ := Aside0.mk (hbox);have n2_ := Aside0.mk ((by rw [hg];exact (below_size (by repeat (first|(with_reducible first|exact HB.out|apply below_alloc|apply pw_below_drewN|apply below_drew1)|exact HB.out))) : w.heap.size ≤ gb540));have n3_ := Aside0.mk ((by rw [hg];exact (below_size (by repeat (first|(with_reducible first|exact HB.out|apply below_alloc|apply pw_below_drewN|apply below_drew1)|exact HB.out))) : w.heap.size ≤ gb540));clear HB;have HB := n0_;have BK540 := n1_;have GW540 := n2_;have GE540 := n3_;clear n0_ n1_ n2_ n3_;clear hb hbox hg)|(go_at_call 21;(with_reducible refine (bibelotlaw07_many.calls a0 40 t541 _ A4.out).mono ?_);rintro e w' ⟨rfl, ⟨nd, rfl⟩⟩;(try first|exact ⟨rfl, _, World.drewN_drewN _ _ _⟩|exact ⟨rfl, _, Eq.trans (World.drewN_drewN _ _ _) (congrArg (World.drewN _) (Nat.add_assoc _ _ _))⟩))|(go_at_call 27;(with_reducible refine (bibelotlaw07_row.calls _ _ l1 t541 true t542 _ ?side1 ?side2 A5.out).mono ?_);(case side1 => repeat (first|exact (Kd.C_below HR1.out (by repeat (first|(with_reducible first|exact HB.out|apply below_alloc|apply pw_below_drewN|apply below_drew1|refine below_set ?_ GE540.out)|exact HB.out)))|(with_reducible refine Kd.C_alloc ?_ _)|(with_reducible refine Kd.C_drewN ?_ _)|(with_reducible refine Kd.C_drew ?_)));(case side2 => exact HC1.out);rintro e w19 ⟨v543, rfl, ho0, hb⟩;have n0_ := Aside0.mk (Kd.R_lower ho0 (below_size (by repeat (first|(with_reducible first|exact HB.out|apply below_alloc|apply pw_below_drewN|apply below_drew1|refine below_set ?_ GE540.out)|exact HB.out))));have n1_ := Aside0.mk (blk_below (g := gb540) (o := .cells #[.int .i64 a2_0, .int .i64 a2_1] 57 (0, 0)) (by (with_reducible repeat (first|refine blk_drewN ?_ _|refine blk_drew ?_|refine blk_alloc ?_ _));exact BK540.out) hb);have n2_ := Aside0.mk (below_step (by repeat (first|(with_reducible first|exact HB.out|apply below_alloc|apply pw_below_drewN|apply below_drew1|refine below_set ?_ GE540.out)|exact HB.out)) hb);clear BK540;clear HB;have HO544 := n0_;have BK540 := n1_;have HB := n2_;clear n0_ n1_ n2_;(try clear hb);(try clear hb2);(try clear hk);(try clear hi);(try clear ho0);have hcz20_0 : w19.cell? ⟨gb540, 0, none⟩ = some (.int .i64 a2_0) := (blk_cell BK540.out 0).trans rfl;have hcz20_1 : w19.cell? ⟨gb540, 1, none⟩ = some (.int .i64 a2_1) := (blk_cell BK540.out 1).trans rfl;have hfz20_0 := blk_frozen BK540.out 0;have hfz20_1 := blk_frozen BK540.out 1;obtain ⟨Ao21, co21, eo21⟩ := Kd.R_slice HO544.out;subst eo21)|(go_at_call 45;(with_reducible refine (pancake_Turn.calls _ _ t542 ji7 ji8 t545 t546 _ ?side1 ?side2 A9.out).mono ?_);(case side1 => repeat (first|exact (Kd.R_reads' HO544.out).2.2|(with_reducible refine Kd.C_alloc ?_ _)|(with_reducible refine Kd.C_drewN ?_ _)|(with_reducible refine Kd.C_drew ?_)));(case side2 => exact (Kd.R_reads' HO544.out).2.1);rintro e w22 ⟨v547, rfl, ho0, hb⟩;have n0_ := Aside0.mk (Kd.R_elder' (by (with_reducible repeat (first|apply Kd.R_alloc|apply Kd.R_drewN|apply Kd.R_drew));exact HO544.out) (Kd.R_base ho0) hb);have n1_ := Aside0.mk (Kd.R_lower (Kd.R_new' ho0 (Kd.R_lt (by (with_reducible repeat (first|apply Kd.R_alloc|apply Kd.R_drewN|apply Kd.R_drew));exact HO544.out))) (below_size (by repeat (first|(with_reducible first|exact HB.out|apply below_alloc|apply pw_below_drewN|apply below_drew1|refine below_set ?_ GE540.out)|exact HB.out))));have n2_ := Aside0.mk (blk_below (g := gb540) (o := .cells #[.int .i64 a2_0, .int .i64 a2_1] 57 (0, 0)) (by (with_reducible repeat (first|refine blk_drewN ?_ _|refine blk_drew ?_|refine blk_alloc ?_ _));exact BK540.out) hb);have n3_ := Aside0.mk (below_step (by repeat (first|(with_reducible first|exact HB.out|apply below_alloc|apply pw_below_drewN|apply below_drew1|refine below_set ?_ GE540.out)|exact HB.out)) hb);clear HO544;clear BK540;clear HB;have HO544 := n0_;have HO548 := n1_;have BK540 := n2_;have HB := n3_;clear n0_ n1_ n2_ n3_;(try clear hb);(try clear hb2);(try clear hk);(try clear hi);(try clear ho0);obtain ⟨Ao23, co23, eo23⟩ := Kd.R_slice HO548.out;subst eo23)|(go_at_call 45;(with_reducible refine (pancake_Turn.calls _ _ t545 ji7 ji8 t549 t550 _ ?side1 ?side2 A12.out).mono ?_);(case side1 => repeat (first|exact (Kd.R_reads' HO548.out).2.2|(with_reducible refine Kd.C_alloc ?_ _)|(with_reducible refine Kd.C_drewN ?_ _)|(with_reducible refine Kd.C_drew ?_)));(case side2 => exact (Kd.R_reads' HO548.out).2.1);rintro e w24 ⟨v551, rfl, ho0, hb⟩;have n0_ := Aside0.mk (Kd.R_elder' (by (with_reducible repeat (first|apply Kd.R_alloc|apply Kd.R_drewN|apply Kd.R_drew));exact HO544.out) (Kd.R_base ho0) hb);have n1_ := Aside0.mk (Kd.R_elder' (by (with_reducible repeat (first|apply Kd.R_alloc|apply Kd.R_drewN|apply Kd.R_drew));exact HO548.out) (Kd.R_base ho0) hb);have n2_ := Aside0.mk (Kd.R_lower (Kd.R_new' (Kd.R_new' ho0 (Kd.R_lt (by (with_reducible repeat (first|apply Kd.R_alloc|apply Kd.R_drewN|apply Kd.R_drew));exact HO544.out))) (Kd.R_lt (by (with_reducible repeat (first|apply Kd.R_alloc|apply Kd.R_drewN|apply Kd.R_drew));exact HO548.out))) (below_size (by repeat (first|(with_reducible first|exact HB.out|apply below_alloc|apply pw_below_drewN|apply below_drew1|refine below_set ?_ GE540.out)|exact HB.out))));have n3_ := Aside0.mk (blk_below (g := gb540) (o := .cells #[.int .i64 a2_0, .int .i64 a2_1] 57 (0, 0)) (by (with_reducible repeat (first|refine blk_drewN ?_ _|refine blk_drew ?_|refine blk_alloc ?_ _));exact BK540.out) hb);have n4_ := Aside0.mk (below_step (by repeat (first|(with_reducible first|exact HB.out|apply below_alloc|apply pw_below_drewN|apply below_drew1|refine below_set ?_ GE540.out)|exact HB.out)) hb);clear HO544;clear HO548;clear BK540;clear HB;have HO544 := n0_;have HO548 := n1_;have HO552 := n2_;have BK540 := n3_;have HB := n4_;clear n0_ n1_ n2_ n3_ n4_;(try clear hb);(try clear hb2);(try clear hk);(try clear hi);(try clear ho0))|(go_at_call 23;(with_reducible refine (pancake_Distance.calls _ _ t542 t553 t554 _ ?side1 ?side2 A13.out).mono ?_);(case side1 => repeat (first|exact (Kd.R_reads' HO544.out).2.2|(with_reducible refine Kd.C_alloc ?_ _)|(with_reducible refine Kd.C_drewN ?_ _)|(with_reducible refine Kd.C_drew ?_)));(case side2 => exact (Kd.R_reads' HO544.out).2.1);rintro e w25 ⟨rfl, hb⟩;have n0_ := Aside0.mk (Kd.R_below (by (with_reducible repeat (first|apply Kd.R_alloc|apply Kd.R_drewN|apply Kd.R_drew));exact HO544.out) hb);have n1_ := Aside0.mk (Kd.R_below (by (with_reducible repeat (first|apply Kd.R_alloc|apply Kd.R_drewN|apply Kd.R_drew));exact HO548.out) hb);have n2_ := Aside0.mk (Kd.R_below (by (with_reducible repeat (first|apply Kd.R_alloc|apply Kd.R_drewN|apply Kd.R_drew));exact HO552.out) hb);have n3_ := Aside0.mk (blk_below (g := gb540) (o := .cells #[.int .i64 a2_0, .int .i64 a2_1] 57 (0, 0)) (by (with_reducible repeat (first|refine blk_drewN ?_ _|refine blk_drew ?_|refine blk_alloc ?_ _));exact BK540.out) hb);have n4_ := Aside0.mk (below_step (by repeat (first|(with_reducible first|exact HB.out|apply below_alloc|apply pw_below_drewN|apply below_drew1|refine below_set ?_ GE540.out)|exact HB.out)) hb);clear HO544;clear HO548;clear HO552;clear BK540;clear HB;have HO544 := n0_;have HO548 := n1_;have HO552 := n2_;have BK540 := n3_;have HB := n4_;clear n0_ n1_ n2_ n3_ n4_;(try clear hb);(try clear hb2);(try clear hk);(try clear hi))|(go_at_call 23;(with_reducible refine (pancake_Distance.calls _ _ t545 t555 t556 _ ?side1 ?side2 A14.out).mono ?_);(case side1 => repeat (first|exact (Kd.R_reads' HO548.out).2.2|(with_reducible refine Kd.C_alloc ?_ _)|(with_reducible refine Kd.C_drewN ?_ _)|(with_reducible refine Kd.C_drew ?_)));(case side2 => exact (Kd.R_reads' HO548.out).2.1);rintro e w26 ⟨rfl, hb⟩;have n0_ := Aside0.mk (Kd.R_below (by (with_reducible repeat (first|apply Kd.R_alloc|apply Kd.R_drewN|apply Kd.R_drew));exact HO544.out) hb);have n1_ := Aside0.mk (Kd.R_below (by (with_reducible repeat (first|apply Kd.R_alloc|apply Kd.R_drewN|apply Kd.R_drew));exact HO548.out) hb);have n2_ := Aside0.mk (Kd.R_below (by (with_reducible repeat (first|apply Kd.R_alloc|apply Kd.R_drewN|apply Kd.R_drew));exact HO552.out) hb);have n3_ := Aside0.mk (blk_below (g := gb540) (o := .cells #[.int .i64 a2_0, .int .i64 a2_1] 57 (0, 0)) (by (with_reducible repeat (first|refine blk_drewN ?_ _|refine blk_drew ?_|refine blk_alloc ?_ _));exact BK540.out) hb);have n4_ := Aside0.mk (below_step (by repeat (first|(with_reducible first|exact HB.out|apply below_alloc|apply pw_below_drewN|apply below_drew1|refine below_set ?_ GE540.out)|exact HB.out)) hb);clear HO544;clear HO548;clear HO552;clear BK540;clear HB;have HO544 := n0_;have HO548 := n1_;have HO552 := n2_;have BK540 := n3_;have HB := n4_;clear n0_ n1_ n2_ n3_ n4_;(try clear hb);(try clear hb2);(try clear hk);(try clear hi))|(go_at_call 36;(with_reducible refine (pancake_Circles.calls _ _ t542 t557 t558 _ ?side1 ?side2 A15.out).mono ?_);(case side1 => repeat (first|exact (Kd.R_reads' HO544.out).2.2|(with_reducible refine Kd.C_alloc ?_ _)|(with_reducible refine Kd.C_drewN ?_ _)|(with_reducible refine Kd.C_drew ?_)));(case side2 => exact (Kd.R_reads' HO544.out).2.1);rintro e w27 ⟨v559, rfl, ho0, hb⟩;have n0_ := Aside0.mk (Kd.R_below (by (with_reducible repeat (first|apply Kd.R_alloc|apply Kd.R_drewN|apply Kd.R_drew));exact HO544.out) hb);have n1_ := Aside0.mk (Kd.R_below (by (with_reducible repeat (first|apply Kd.R_alloc|apply Kd.R_drewN|apply Kd.R_drew));exact HO548.out) hb);have n2_ := Aside0.mk (Kd.R_below (by (with_reducible repeat (first|apply Kd.R_alloc|apply Kd.R_drewN|apply Kd.R_drew));exact HO552.out) hb);have n3_ := Aside0.mk (Kd.S_lower (Kd.S_new' (Kd.S_new' (Kd.S_new' ho0 (Kd.R_lt (by (with_reducible repeat (first|apply Kd.R_alloc|apply Kd.R_drewN|apply Kd.R_drew));exact HO544.out))) (Kd.R_lt (by (with_reducible repeat (first|apply Kd.R_alloc|apply Kd.R_drewN|apply Kd.R_drew));exact HO548.out))) (Kd.R_lt (by (with_reducible repeat (first|apply Kd.R_alloc|apply Kd.R_drewN|apply Kd.R_drew));exact HO552.out))) (below_size (by repeat (first|(with_reducible first|exact HB.out|apply below_alloc|apply pw_below_drewN|apply below_drew1|refine below_set ?_ GE540.out)|exact HB.out))));have n4_ := Aside0.mk (blk_below (g := gb540) (o := .cells #[.int .i64 a2_0, .int .i64 a2_1] 57 (0, 0)) (by (with_reducible repeat (first|refine blk_drewN ?_ _|refine blk_drew ?_|refine blk_alloc ?_ _));exact BK540.out) hb);have n5_ := Aside0.mk (below_step (by repeat (first|(with_reducible first|exact HB.out|apply below_alloc|apply pw_below_drewN|apply below_drew1|refine below_set ?_ GE540.out)|exact HB.out)) hb);clear HO544;clear HO548;clear HO552;clear BK540;clear HB;have HO544 := n0_;have HO548 := n1_;have HO552 := n2_;have HO560 := n3_;have BK540 := n4_;have HB := n5_;clear n0_ n1_ n2_ n3_ n4_ n5_;(try clear hb);(try clear hb2);(try clear hk);(try clear hi);(try clear ho0))|(go_at_call 36;(with_reducible refine (pancake_Circles.calls _ _ t545 t561 t562 _ ?side1 ?side2 A16.out).mono ?_);(case side1 => repeat (first|exact (Kd.R_reads' HO548.out).2.2|(with_reducible refine Kd.C_alloc ?_ _)|(with_reducible refine Kd.C_drewN ?_ _)|(with_reducible refine Kd.C_drew ?_)));(case side2 => exact (Kd.R_reads' HO548.out).2.1);rintro e w28 ⟨v563, rfl, ho0, hb⟩;have n0_ := Aside0.mk (Kd.R_below (by (with_reducible repeat (first|apply Kd.R_alloc|apply Kd.R_drewN|apply Kd.R_drew));exact HO544.out) hb);have n1_ := Aside0.mk (Kd.R_below (by (with_reducible repeat (first|apply Kd.R_alloc|apply Kd.R_drewN|apply Kd.R_drew));exact HO548.out) hb);have n2_ := Aside0.mk (Kd.R_below (by (with_reducible repeat (first|apply Kd.R_alloc|apply Kd.R_drewN|apply Kd.R_drew));exact HO552.out) hb);have n3_ := Aside0.mk (Kd.S_elder' (by (with_reducible repeat (first|apply Kd.S_alloc|apply Kd.S_drewN|apply Kd.S_drew));exact HO560.out) (Kd.S_base ho0) hb);have n4_ := Aside0.mk (Kd.S_lower (Kd.S_new' (Kd.S_new' (Kd.S_new' (Kd.S_new' ho0 (Kd.R_lt (by (with_reducible repeat (first|apply Kd.R_alloc|apply Kd.R_drewN|apply Kd.R_drew));exact HO544.out))) (Kd.R_lt (by (with_reducible repeat (first|apply Kd.R_alloc|apply Kd.R_drewN|apply Kd.R_drew));exact HO548.out))) (Kd.R_lt (by (with_reducible repeat (first|apply Kd.R_alloc|apply Kd.R_drewN|apply Kd.R_drew));exact HO552.out))) (Kd.S_lt (by (with_reducible repeat (first|apply Kd.S_alloc|apply Kd.S_drewN|apply Kd.S_drew));exact HO560.out))) (below_size (by repeat (first|(with_reducible first|exact HB.out|apply below_alloc|apply pw_below_drewN|apply below_drew1|refine below_set ?_ GE540.out)|exact HB.out))));have n5_ := Aside0.mk (blk_below (g := gb540) (o := .cells #[.int .i64 a2_0, .int .i64 a2_1] 57 (0, 0)) (by (with_reducible repeat (first|refine blk_drewN ?_ _|refine blk_drew ?_|refine blk_alloc ?_ _));exact BK540.out) hb);have n6_ := Aside0.mk (below_step (by repeat (first|(with_reducible first|exact HB.out|apply below_alloc|apply pw_below_drewN|apply below_drew1|refine below_set ?_ GE540.out)|exact HB.out)) hb);clear HO544;clear HO548;clear HO552;clear HO560;clear BK540;clear HB;have HO544 := n0_;have HO548 := n1_;have HO552 := n2_;have HO560 := n3_;have HO564 := n4_;have BK540 := n5_;have HB := n6_;clear n0_ n1_ n2_ n3_ n4_ n5_ n6_;(try clear hb);(try clear hb2);(try clear hk);(try clear hi);(try clear ho0)));go_upto_region 10 with (first|((with_reducible refine gate_dst (N := 5) rfl ?_);(try (refine gate_guard (by rfl) ?_;dsimp only));refine box_event ?hg (N := 5) ?hd (cs := #[.int .i64 a2_0, .int .i64 a2_1]) (t := 57) ?hr ?_;(case hd => rfl);(case hg => rfl);(case hr => first|(go_simp;done)|(go_simp;rfl));intro gb540 hg w18 hbox hb;have n0_ := Aside0.mk (below_step (by repeat (first|(with_reducible first|exact HB.out|apply below_alloc|apply pw_below_drewN|apply below_drew1)|exact HB.out)) hb);have n1_ := Aside0.mk (hbox);have n2_ := Aside0.mk ((by rw [hg];exact (below_size (by repeat (first|(with_reducible first|exact HB.out|apply below_alloc|apply pw_below_drewN|apply below_drew1)|exact HB.out))) : w.heap.size ≤ gb540));have n3_ := Aside0.mk ((by rw [hg];exact (below_size (by repeat (first|(with_reducible first|exact HB.out|apply below_alloc|apply pw_below_drewN|apply below_drew1)|exact HB.out))) : w.heap.size ≤ gb540));clear HB;have HB := n0_;have BK540 := n1_;have GW540 := n2_;have GE540 := n3_;clear n0_ n1_ n2_ n3_;clear hb hbox hg)|(go_at_call 21;(with_reducible refine (bibelotlaw07_many.calls a0 40 t541 _ A4.out).mono ?_);rintro e w' ⟨rfl, ⟨nd, rfl⟩⟩;(try first|exact ⟨rfl, _, World.drewN_drewN _ _ _⟩|exact ⟨rfl, _, Eq.trans (World.drewN_drewN _ _ _) (congrArg (World.drewN _) (Nat.add_assoc _ _ _))⟩))|(go_at_call 27;(with_reducible refine (bibelotlaw07_row.calls _ _ l1 t541 true t542 _ ?side1 ?side2 A5.out).mono ?_);(case side1 => repeat (first|exact (Kd.C_below HR1.out (by repeat (first|(with_reducible first|exact HB.out|apply below_alloc|apply pw_below_drewN|apply below_drew1|refine below_set ?_ GE540.out)|exact HB.out)))|(with_reducible refine Kd.C_alloc ?_ _)|(with_reducible refine Kd.C_drewN ?_ _)|(with_reducible refine Kd.C_drew ?_)));(case side2 => exact HC1.out);rintro e w19 ⟨v543, rfl, ho0, hb⟩;have n0_ := Aside0.mk (Kd.R_lower ho0 (below_size (by repeat (first|(with_reducible first|exact HB.out|apply below_alloc|apply pw_below_drewN|apply below_drew1|refine below_set ?_ GE540.out)|exact HB.out))));have n1_ := Aside0.mk (blk_below (g := gb540) (o := .cells #[.int .i64 a2_0, .int .i64 a2_1] 57 (0, 0)) (by (with_reducible repeat (first|refine blk_drewN ?_ _|refine blk_drew ?_|refine blk_alloc ?_ _));exact BK540.out) hb);have n2_ := Aside0.mk (below_step (by repeat (first|(with_reducible first|exact HB.out|apply below_alloc|apply pw_below_drewN|apply below_drew1|refine below_set ?_ GE540.out)|exact HB.out)) hb);clear BK540;clear HB;have HO544 := n0_;have BK540 := n1_;have HB := n2_;clear n0_ n1_ n2_;(try clear hb);(try clear hb2);(try clear hk);(try clear hi);(try clear ho0);have hcz20_0 : w19.cell? ⟨gb540, 0, none⟩ = some (.int .i64 a2_0) := (blk_cell BK540.out 0).trans rfl;have hcz20_1 : w19.cell? ⟨gb540, 1, none⟩ = some (.int .i64 a2_1) := (blk_cell BK540.out 1).trans rfl;have hfz20_0 := blk_frozen BK540.out 0;have hfz20_1 := blk_frozen BK540.out 1;obtain ⟨Ao21, co21, eo21⟩ := Kd.R_slice HO544.out;subst eo21)|(go_at_call 45;(with_reducible refine (pancake_Turn.calls _ _ t542 ji7 ji8 t545 t546 _ ?side1 ?side2 A9.out).mono ?_);(case side1 => repeat (first|exact (Kd.R_reads' HO544.out).2.2|(with_reducible refine Kd.C_alloc ?_ _)|(with_reducible refine Kd.C_drewN ?_ _)|(with_reducible refine Kd.C_drew ?_)));(case side2 => exact (Kd.R_reads' HO544.out).2.1);rintro e w22 ⟨v547, rfl, ho0, hb⟩;have n0_ := Aside0.mk (Kd.R_elder' (by (with_reducible repeat (first|apply Kd.R_alloc|apply Kd.R_drewN|apply Kd.R_drew));exact HO544.out) (Kd.R_base ho0) hb);have n1_ := Aside0.mk (Kd.R_lower (Kd.R_new' ho0 (Kd.R_lt (by (with_reducible repeat (first|apply Kd.R_alloc|apply Kd.R_drewN|apply Kd.R_drew));exact HO544.out))) (below_size (by repeat (first|(with_reducible first|exact HB.out|apply below_alloc|apply pw_below_drewN|apply below_drew1|refine below_set ?_ GE540.out)|exact HB.out))));have n2_ := Aside0.mk (blk_below (g := gb540) (o := .cells #[.int .i64 a2_0, .int .i64 a2_1] 57 (0, 0)) (by (with_reducible repeat (first|refine blk_drewN ?_ _|refine blk_drew ?_|refine blk_alloc ?_ _));exact BK540.out) hb);have n3_ := Aside0.mk (below_step (by repeat (first|(with_reducible first|exact HB.out|apply below_alloc|apply pw_below_drewN|apply below_drew1|refine below_set ?_ GE540.out)|exact HB.out)) hb);clear HO544;clear BK540;clear HB;have HO544 := n0_;have HO548 := n1_;have BK540 := n2_;have HB := n3_;clear n0_ n1_ n2_ n3_;(try clear hb);(try clear hb2);(try clear hk);(try clear hi);(try clear ho0);obtain ⟨Ao23, co23, eo23⟩ := Kd.R_slice HO548.out;subst eo23)|(go_at_call 45;(with_reducible refine (pancake_Turn.calls _ _ t545 ji7 ji8 t549 t550 _ ?side1 ?side2 A12.out).mono ?_);(case side1 => repeat (first|exact (Kd.R_reads' HO548.out).2.2|(with_reducible refine Kd.C_alloc ?_ _)|(with_reducible refine Kd.C_drewN ?_ _)|(with_reducible refine Kd.C_drew ?_)));(case side2 => exact (Kd.R_reads' HO548.out).2.1);rintro e w24 ⟨v551, rfl, ho0, hb⟩;have n0_ := Aside0.mk (Kd.R_elder' (by (with_reducible repeat (first|apply Kd.R_alloc|apply Kd.R_drewN|apply Kd.R_drew));exact HO544.out) (Kd.R_base ho0) hb);have n1_ := Aside0.mk (Kd.R_elder' (by (with_reducible repeat (first|apply Kd.R_alloc|apply Kd.R_drewN|apply Kd.R_drew));exact HO548.out) (Kd.R_base ho0) hb);have n2_ := Aside0.mk (Kd.R_lower (Kd.R_new' (Kd.R_new' ho0 (Kd.R_lt (by (with_reducible repeat (first|apply Kd.R_alloc|apply Kd.R_drewN|apply Kd.R_drew));exact HO544.out))) (Kd.R_lt (by (with_reducible repeat (first|apply Kd.R_alloc|apply Kd.R_drewN|apply Kd.R_drew));exact HO548.out))) (below_size (by repeat (first|(with_reducible first|exact HB.out|apply below_alloc|apply pw_below_drewN|apply below_drew1|refine below_set ?_ GE540.out)|exact HB.out))));have n3_ := Aside0.mk (blk_below (g := gb540) (o := .cells #[.int .i64 a2_0, .int .i64 a2_1] 57 (0, 0)) (by (with_reducible repeat (first|refine blk_drewN ?_ _|refine blk_drew ?_|refine blk_alloc ?_ _));exact BK540.out) hb);have n4_ := Aside0.mk (below_step (by repeat (first|(with_reducible first|exact HB.out|apply below_alloc|apply pw_below_drewN|apply below_drew1|refine below_set ?_ GE540.out)|exact HB.out)) hb);clear HO544;clear HO548;clear BK540;clear HB;have HO544 := n0_;have HO548 := n1_;have HO552 := n2_;have BK540 := n3_;have HB := n4_;clear n0_ n1_ n2_ n3_ n4_;(try clear hb);(try clear hb2);(try clear hk);(try clear hi);(try clear ho0))|(go_at_call 23;(with_reducible refine (pancake_Distance.calls _ _ t542 t553 t554 _ ?side1 ?side2 A13.out).mono ?_);(case side1 => repeat (first|exact (Kd.R_reads' HO544.out).2.2|(with_reducible refine Kd.C_alloc ?_ _)|(with_reducible refine Kd.C_drewN ?_ _)|(with_reducible refine Kd.C_drew ?_)));(case side2 => exact (Kd.R_reads' HO544.out).2.1);rintro e w25 ⟨rfl, hb⟩;have n0_ := Aside0.mk (Kd.R_below (by (with_reducible repeat (first|apply Kd.R_alloc|apply Kd.R_drewN|apply Kd.R_drew));exact HO544.out) hb);have n1_ := Aside0.mk (Kd.R_below (by (with_reducible repeat (first|apply Kd.R_alloc|apply Kd.R_drewN|apply Kd.R_drew));exact HO548.out) hb);have n2_ := Aside0.mk (Kd.R_below (by (with_reducible repeat (first|apply Kd.R_alloc|apply Kd.R_drewN|apply Kd.R_drew));exact HO552.out) hb);have n3_ := Aside0.mk (blk_below (g := gb540) (o := .cells #[.int .i64 a2_0, .int .i64 a2_1] 57 (0, 0)) (by (with_reducible repeat (first|refine blk_drewN ?_ _|refine blk_drew ?_|refine blk_alloc ?_ _));exact BK540.out) hb);have n4_ := Aside0.mk (below_step (by repeat (first|(with_reducible first|exact HB.out|apply below_alloc|apply pw_below_drewN|apply below_drew1|refine below_set ?_ GE540.out)|exact HB.out)) hb);clear HO544;clear HO548;clear HO552;clear BK540;clear HB;have HO544 := n0_;have HO548 := n1_;have HO552 := n2_;have BK540 := n3_;have HB := n4_;clear n0_ n1_ n2_ n3_ n4_;(try clear hb);(try clear hb2);(try clear hk);(try clear hi))|(go_at_call 23;(with_reducible refine (pancake_Distance.calls _ _ t545 t555 t556 _ ?side1 ?side2 A14.out).mono ?_);(case side1 => repeat (first|exact (Kd.R_reads' HO548.out).2.2|(with_reducible refine Kd.C_alloc ?_ _)|(with_reducible refine Kd.C_drewN ?_ _)|(with_reducible refine Kd.C_drew ?_)));(case side2 => exact (Kd.R_reads' HO548.out).2.1);rintro e w26 ⟨rfl, hb⟩;have n0_ := Aside0.mk (Kd.R_below (by (with_reducible repeat (first|apply Kd.R_alloc|apply Kd.R_drewN|apply Kd.R_drew));exact HO544.out) hb);have n1_ := Aside0.mk (Kd.R_below (by (with_reducible repeat (first|apply Kd.R_alloc|apply Kd.R_drewN|apply Kd.R_drew));exact HO548.out) hb);have n2_ := Aside0.mk (Kd.R_below (by (with_reducible repeat (first|apply Kd.R_alloc|apply Kd.R_drewN|apply Kd.R_drew));exact HO552.out) hb);have n3_ := Aside0.mk (blk_below (g := gb540) (o := .cells #[.int .i64 a2_0, .int .i64 a2_1] 57 (0, 0)) (by (with_reducible repeat (first|refine blk_drewN ?_ _|refine blk_drew ?_|refine blk_alloc ?_ _));exact BK540.out) hb);have n4_ := Aside0.mk (below_step (by repeat (first|(with_reducible first|exact HB.out|apply below_alloc|apply pw_below_drewN|apply below_drew1|refine below_set ?_ GE540.out)|exact HB.out)) hb);clear HO544;clear HO548;clear HO552;clear BK540;clear HB;have HO544 := n0_;have HO548 := n1_;have HO552 := n2_;have BK540 := n3_;have HB := n4_;clear n0_ n1_ n2_ n3_ n4_;(try clear hb);(try clear hb2);(try clear hk);(try clear hi))|(go_at_call 36;(with_reducible refine (pancake_Circles.calls _ _ t542 t557 t558 _ ?side1 ?side2 A15.out).mono ?_);(case side1 => repeat (first|exact (Kd.R_reads' HO544.out).2.2|(with_reducible refine Kd.C_alloc ?_ _)|(with_reducible refine Kd.C_drewN ?_ _)|(with_reducible refine Kd.C_drew ?_)));(case side2 => exact (Kd.R_reads' HO544.out).2.1);rintro e w27 ⟨v559, rfl, ho0, hb⟩;have n0_ := Aside0.mk (Kd.R_below (by (with_reducible repeat (first|apply Kd.R_alloc|apply Kd.R_drewN|apply Kd.R_drew));exact HO544.out) hb);have n1_ := Aside0.mk (Kd.R_below (by (with_reducible repeat (first|apply Kd.R_alloc|apply Kd.R_drewN|apply Kd.R_drew));exact HO548.out) hb);have n2_ := Aside0.mk (Kd.R_below (by (with_reducible repeat (first|apply Kd.R_alloc|apply Kd.R_drewN|apply Kd.R_drew));exact HO552.out) hb);have n3_ := Aside0.mk (Kd.S_lower (Kd.S_new' (Kd.S_new' (Kd.S_new' ho0 (Kd.R_lt (by (with_reducible repeat (first|apply Kd.R_alloc|apply Kd.R_drewN|apply Kd.R_drew));exact HO544.out))) (Kd.R_lt (by (with_reducible repeat (first|apply Kd.R_alloc|apply Kd.R_drewN|apply Kd.R_drew));exact HO548.out))) (Kd.R_lt (by (with_reducible repeat (first|apply Kd.R_alloc|apply Kd.R_drewN|apply Kd.R_drew));exact HO552.out))) (below_size (by repeat (first|(with_reducible first|exact HB.out|apply below_alloc|apply pw_below_drewN|apply below_drew1|refine below_set ?_ GE540.out)|exact HB.out))));have n4_ := Aside0.mk (blk_below (g := gb540) (o := .cells #[.int .i64 a2_0, .int .i64 a2_1] 57 (0, 0)) (by (with_reducible repeat (first|refine blk_drewN ?_ _|refine blk_drew ?_|refine blk_alloc ?_ _));exact BK540.out) hb);have n5_ := Aside0.mk (below_step (by repeat (first|(with_reducible first|exact HB.out|apply below_alloc|apply pw_below_drewN|apply below_drew1|refine below_set ?_ GE540.out)|exact HB.out)) hb);clear HO544;clear HO548;clear HO552;clear BK540;clear HB;have HO544 := n0_;have HO548 := n1_;have HO552 := n2_;have HO560 := n3_;have BK540 := n4_;have HB := n5_;clear n0_ n1_ n2_ n3_ n4_ n5_;(try clear hb);(try clear hb2);(try clear hk);(try clear hi);(try clear ho0))|(go_at_call 36;(with_reducible refine (pancake_Circles.calls _ _ t545 t561 t562 _ ?side1 ?side2 A16.out).mono ?_);(case side1 => repeat (first|exact (Kd.R_reads' HO548.out).2.2|(with_reducible refine Kd.C_alloc ?_ _)|(with_reducible refine Kd.C_drewN ?_ _)|(with_reducible refine Kd.C_drew ?_)));(case side2 => exact (Kd.R_reads' HO548.out).2.1);rintro e w28 ⟨v563, rfl, ho0, hb⟩;have n0_ := Aside0.mk (Kd.R_below (by (with_reducible repeat (first|apply Kd.R_alloc|apply Kd.R_drewN|apply Kd.R_drew));exact HO544.out) hb);have n1_ := Aside0.mk (Kd.R_below (by (with_reducible repeat (first|apply Kd.R_alloc|apply Kd.R_drewN|apply Kd.R_drew));exact HO548.out) hb);have n2_ := Aside0.mk (Kd.R_below (by (with_reducible repeat (first|apply Kd.R_alloc|apply Kd.R_drewN|apply Kd.R_drew));exact HO552.out) hb);have n3_ := Aside0.mk (Kd.S_elder' (by (with_reducible repeat (first|apply Kd.S_alloc|apply Kd.S_drewN|apply Kd.S_drew));exact HO560.out) (Kd.S_base ho0) hb);have n4_ := Aside0.mk (Kd.S_lower (Kd.S_new' (Kd.S_new' (Kd.S_new' (Kd.S_new' ho0 (Kd.R_lt (by (with_reducible repeat (first|apply Kd.R_alloc|apply Kd.R_drewN|apply Kd.R_drew));exact HO544.out))) (Kd.R_lt (by (with_reducible repeat (first|apply Kd.R_alloc|apply Kd.R_drewN|apply Kd.R_drew));exact HO548.out))) (Kd.R_lt (by (with_reducible repeat (first|apply Kd.R_alloc|apply Kd.R_drewN|apply Kd.R_drew));exact HO552.out))) (Kd.S_lt (by (with_reducible repeat (first|apply Kd.S_alloc|apply Kd.S_drewN|apply Kd.S_drew));exact HO560.out))) (below_size (by repeat (first|(with_reducible first|exact HB.out|apply below_alloc|apply pw_below_drewN|apply below_drew1|refine below_set ?_ GE540.out)|exact HB.out))));have n5_ := Aside0.mk (blk_below (g := gb540) (o := .cells #[.int .i64 a2_0, .int .i64 a2_1] 57 (0, 0)) (by (with_reducible repeat (first|refine blk_drewN ?_ _|refine blk_drew ?_|refine blk_alloc ?_ _));exact BK540.out) hb);have n6_ := Aside0.mk (below_step (by repeat (first|(with_reducible first|exact HB.out|apply below_alloc|apply pw_below_drewN|apply below_drew1|refine below_set ?_ GE540.out)|exact HB.out)) hb);clear HO544;clear HO548;clear HO552;clear HO560;clear BK540;clear HB;have HO544 := n0_;have HO548 := n1_;have HO552 := n2_;have HO560 := n3_;have HO564 := n4_;have BK540 := n5_;have HB := n6_;clear n0_ n1_ n2_ n3_ n4_ n5_ n6_;(try clear hb);(try clear hb2);(try clear hk);(try clear hi);(try clear ho0))))
  (try simp only [Act.put, List.setIfInBounds_toArray, List.set_cons_zero, List.set_cons_succ])
  go_cut [143] (fun v143 wc => ∃ (kq : Nat) (x143_16 : Bool), v143 = .bool x143_16 ∧ Aside0 (bibelotlaw07_PancakeSteps.j0 kq t541 t557 x143_16 = some r) ∧ Aside0 (kq ≤ k) ∧ Aside0 (Kd.S (Kd.slice 3 (Kd.int .i64)) 22 wc w.heap.size (fun _ => True) v559 t557) ∧ Aside0 (wc.heap[gb540]? = some (.cells #[.int .i64 a2_0, .int .i64 a2_1] 57 (0, 0))) ∧ Aside0 (Below w.heap.size w wc))
  case first =>
   have H := HC17.out
   clear HC17
   by_cases c29 : t546 = 0
   ·rw [if_pos c29] at H
    have c29b0 : (t546 == 0) = true := beq_iff_eq.mpr c29
    have c29b1 : (t546 != 0) = false := bne_eq_false_iff_eq.mpr c29
    clear c29
    (first | rw [c29b0] | (simp only [i64_w, i32_w]; rw [c29b0]) | skip)
    by_cases c30 : t550 = 0
    ·rw [if_pos c30] at H
     have c30b0 : (t550 == 0) = true := beq_iff_eq.mpr c30
     have c30b1 : (t550 != 0) = false := bne_eq_false_iff_eq.mpr c30
     clear c30
     by_cases c31 : t554 = 0
     ·rw [if_pos c31] at H
      have c31b0 : (t554 == 0) = true := beq_iff_eq.mpr c31
      have c31b1 : (t554 != 0) = false := bne_eq_false_iff_eq.mpr c31
      clear c31
      by_cases c32 : t556 = 0
      ·rw [if_pos c32] at H
       have c32b0 : (t556 == 0) = true := beq_iff_eq.mpr c32
       have c32b1 : (t556 != 0) = false := bne_eq_false_iff_eq.mpr c32
       clear c32
       by_cases c33 : t558 = 0
       ·rw [if_pos c33] at H
        have c33b0 : (t558 == 0) = true := beq_iff_eq.mpr c33
        have c33b1 : (t558 != 0) = false := bne_eq_false_iff_eq.mpr c33
        clear c33
        by_cases c34 : t562 = 0
        ·rw [if_pos c34] at H
         have c34b0 : (t562 == 0) = true := beq_iff_eq.mpr c34
         have c34b1 : (t562 != 0) = false := bne_eq_false_iff_eq.mpr c34
         clear c34
         replace H := Option.bind_eq_some_iff.mp H
         obtain ⟨t565, A350, H⟩ := H
         replace H : (if t565 = true then (if t555 < (wrap64 (t553 - 1)) then (bibelotlaw07_PancakeSteps.j0 k t541 t557 true) else (if t555 > (wrap64 (t553 + 1)) then (bibelotlaw07_PancakeSteps.j0 k t541 t557 true) else (if (wrap64 ((t557.length : Int) - (t561.length : Int))) > 1 then (bibelotlaw07_PancakeSteps.j0 k t541 t557 true) else (bibelotlaw07_PancakeSteps.j0 k t541 t557 (decide ((wrap64 ((t561.length : Int) - (t557.length : Int))) > 1)))))) else (bibelotlaw07_PancakeSteps.j0 k t541 t557 true)) = some r := H
         have A35 := Aside0.mk A350
         clear A350
         by_cases c36 : t565 = true
         ·subst c36
          have H1 : (if t555 < (wrap64 (t553 - 1)) then (bibelotlaw07_PancakeSteps.j0 k t541 t557 true) else (if t555 > (wrap64 (t553 + 1)) then (bibelotlaw07_PancakeSteps.j0 k t541 t557 true) else (if (wrap64 ((t557.length : Int) - (t561.length : Int))) > 1 then (bibelotlaw07_PancakeSteps.j0 k t541 t557 true) else (bibelotlaw07_PancakeSteps.j0 k t541 t557 (decide ((wrap64 ((t561.length : Int) - (t557.length : Int))) > 1)))))) = some r := by rw [if_pos rfl] at H; exact H
          clear H
          have H := H1
          clear H1
          by_cases c37 : t555 < (wrap64 (t553 - 1))
          ·rw [if_pos c37] at H
           have c37b0 : decide (t555 < (wrap64 (t553 - 1))) = true := decide_eq_true c37
           clear c37
           have H' := Aside0.mk H
           clear H
           obtain ⟨Ao38, co38, eo38⟩ := Kd.R_slice HO552.out
           subst eo38
           go_wp2_with (first|(go_at_call 29;(with_reducible refine (bibelotlaw07_ints.calls k _ _ t549 _ _ t542 true _ ?side1 ?side2 ?side3 ?side4 A35.out).mono ?_);(case side1 => repeat (first|exact (Kd.R_reads' HO552.out).2.2|(with_reducible refine Kd.C_alloc ?_ _)|(with_reducible refine Kd.C_drewN ?_ _)|(with_reducible refine Kd.C_drew ?_)));(case side2 => exact (Kd.R_reads' HO552.out).2.1);(case side3 => repeat (first|exact (Kd.R_reads' HO544.out).2.2|(with_reducible refine Kd.C_alloc ?_ _)|(with_reducible refine Kd.C_drewN ?_ _)|(with_reducible refine Kd.C_drew ?_)));(case side4 => exact (Kd.R_reads' HO544.out).2.1);rintro e w' ⟨rfl, ⟨nd, rfl⟩⟩;(try first|exact ⟨rfl, _, World.drewN_drewN _ _ _⟩|exact ⟨rfl, _, Eq.trans (World.drewN_drewN _ _ _) (congrArg (World.drewN _) (Nat.add_assoc _ _ _))⟩)))
           repeat (go_quiet (first|(go_at_call 29;(with_reducible refine (bibelotlaw07_ints.calls k _ _ t549 _ _ t542 true _ ?side1 ?side2 ?side3 ?side4 A35.out).mono ?_);(case side1 => repeat (first|exact (Kd.R_reads' HO552.out).2.2|(with_reducible refine Kd.C_alloc ?_ _)|(with_reducible refine Kd.C_drewN ?_ _)|(with_reducible refine Kd.C_drew ?_)));(case side2 => exact (Kd.R_reads' HO552.out).2.1);(case side3 => repeat (first|exact (Kd.R_reads' HO544.out).2.2|(with_reducible refine Kd.C_alloc ?_ _)|(with_reducible refine Kd.C_drewN ?_ _)|(with_reducible refine Kd.C_drew ?_)));(case side4 => exact (Kd.R_reads' HO544.out).2.1);rintro e w' ⟨rfl, ⟨nd, rfl⟩⟩;(try first|exact ⟨rfl, _, World.drewN_drewN _ _ _⟩|exact ⟨rfl, _, Eq.trans (World.drewN_drewN _ _ _) (congrArg (World.drewN _) (Nat.add_assoc _ _ _))⟩)));try go_wp2_with (first|(go_at_call 29;(with_reducible refine (bibelotlaw07_ints.calls k _ _ t549 _ _ t542 true _ ?side1 ?side2 ?side3 ?side4 A35.out).mono ?_);(case side1 => repeat (first|exact (Kd.R_reads' HO552.out).2.2|(with_reducible refine Kd.C_alloc ?_ _)|(with_reducible refine Kd.C_drewN ?_ _)|(with_reducible refine Kd.C_drew ?_)));(case side2 => exact (Kd.R_reads' HO552.out).2.1);(case side3 => repeat (first|exact (Kd.R_reads' HO544.out).2.2|(with_reducible refine Kd.C_alloc ?_ _)|(with_reducible refine Kd.C_drewN ?_ _)|(with_reducible refine Kd.C_drew ?_)));(case side4 => exact (Kd.R_reads' HO544.out).2.1);rintro e w' ⟨rfl, ⟨nd, rfl⟩⟩;(try first|exact ⟨rfl, _, World.drewN_drewN _ _ _⟩|exact ⟨rfl, _, Eq.trans (World.drewN_drewN _ _ _) (congrArg (World.drewN _) (Nat.add_assoc _ _ _))⟩))))
           go_meet
           case rel => exact ⟨_, (true), (by first | rfl | (simp; done) | (simp [*]; done)), H', ⟨by first | omega | exact Nat.le_refl _⟩, ⟨by (with_reducible repeat (first | apply Kd.S_alloc | apply Kd.S_drewN | apply Kd.S_drew)); exact Kd.S_mono HO560.out (fun _ hk => trivial)⟩, ⟨by (with_reducible repeat (first | refine blk_drewN ?_ _ | refine blk_drew ?_ | refine blk_alloc ?_ _)); exact BK540.out⟩, ⟨by repeat (first | (with_reducible first | exact HB.out | apply below_alloc | apply pw_below_drewN | apply below_drew1 | refine below_set ?_ GE540.out) | exact HB.out)⟩⟩
          ·rw [if_neg c37] at H
           have c37b0 : decide (t555 < (wrap64 (t553 - 1))) = false := decide_eq_false c37
           clear c37
           by_cases c39 : t555 > (wrap64 (t553 + 1))
           ·rw [if_pos c39] at H
            have c39b0 : decide ((wrap64 (t553 + 1)) < t555) = true := decide_eq_true c39
            clear c39
            have H' := Aside0.mk H
            clear H
            obtain ⟨Ao40, co40, eo40⟩ := Kd.R_slice HO552.out
            subst eo40
            go_wp2_with (first|(go_at_call 29;(with_reducible refine (bibelotlaw07_ints.calls k _ _ t549 _ _ t542 true _ ?side1 ?side2 ?side3 ?side4 A35.out).mono ?_);(case side1 => repeat (first|exact (Kd.R_reads' HO552.out).2.2|(with_reducible refine Kd.C_alloc ?_ _)|(with_reducible refine Kd.C_drewN ?_ _)|(with_reducible refine Kd.C_drew ?_)));(case side2 => exact (Kd.R_reads' HO552.out).2.1);(case side3 => repeat (first|exact (Kd.R_reads' HO544.out).2.2|(with_reducible refine Kd.C_alloc ?_ _)|(with_reducible refine Kd.C_drewN ?_ _)|(with_reducible refine Kd.C_drew ?_)));(case side4 => exact (Kd.R_reads' HO544.out).2.1);rintro e w' ⟨rfl, ⟨nd, rfl⟩⟩;(try first|exact ⟨rfl, _, World.drewN_drewN _ _ _⟩|exact ⟨rfl, _, Eq.trans (World.drewN_drewN _ _ _) (congrArg (World.drewN _) (Nat.add_assoc _ _ _))⟩)))
            repeat (go_quiet (first|(go_at_call 29;(with_reducible refine (bibelotlaw07_ints.calls k _ _ t549 _ _ t542 true _ ?side1 ?side2 ?side3 ?side4 A35.out).mono ?_);(case side1 => repeat (first|exact (Kd.R_reads' HO552.out).2.2|(with_reducible refine Kd.C_alloc ?_ _)|(with_reducible refine Kd.C_drewN ?_ _)|(with_reducible refine Kd.C_drew ?_)));(case side2 => exact (Kd.R_reads' HO552.out).2.1);(case side3 => repeat (first|exact (Kd.R_reads' HO544.out).2.2|(with_reducible refine Kd.C_alloc ?_ _)|(with_reducible refine Kd.C_drewN ?_ _)|(with_reducible refine Kd.C_drew ?_)));(case side4 => exact (Kd.R_reads' HO544.out).2.1);rintro e w' ⟨rfl, ⟨nd, rfl⟩⟩;(try first|exact ⟨rfl, _, World.drewN_drewN _ _ _⟩|exact ⟨rfl, _, Eq.trans (World.drewN_drewN _ _ _) (congrArg (World.drewN _) (Nat.add_assoc _ _ _))⟩)));try go_wp2_with (first|(go_at_call 29;(with_reducible refine (bibelotlaw07_ints.calls k _ _ t549 _ _ t542 true _ ?side1 ?side2 ?side3 ?side4 A35.out).mono ?_);(case side1 => repeat (first|exact (Kd.R_reads' HO552.out).2.2|(with_reducible refine Kd.C_alloc ?_ _)|(with_reducible refine Kd.C_drewN ?_ _)|(with_reducible refine Kd.C_drew ?_)));(case side2 => exact (Kd.R_reads' HO552.out).2.1);(case side3 => repeat (first|exact (Kd.R_reads' HO544.out).2.2|(with_reducible refine Kd.C_alloc ?_ _)|(with_reducible refine Kd.C_drewN ?_ _)|(with_reducible refine Kd.C_drew ?_)));(case side4 => exact (Kd.R_reads' HO544.out).2.1);rintro e w' ⟨rfl, ⟨nd, rfl⟩⟩;(try first|exact ⟨rfl, _, World.drewN_drewN _ _ _⟩|exact ⟨rfl, _, Eq.trans (World.drewN_drewN _ _ _) (congrArg (World.drewN _) (Nat.add_assoc _ _ _))⟩))))
            go_meet
            case rel => exact ⟨_, (true), (by first | rfl | (simp; done) | (simp [*]; done)), H', ⟨by first | omega | exact Nat.le_refl _⟩, ⟨by (with_reducible repeat (first | apply Kd.S_alloc | apply Kd.S_drewN | apply Kd.S_drew)); exact Kd.S_mono HO560.out (fun _ hk => trivial)⟩, ⟨by (with_reducible repeat (first | refine blk_drewN ?_ _ | refine blk_drew ?_ | refine blk_alloc ?_ _)); exact BK540.out⟩, ⟨by repeat (first | (with_reducible first | exact HB.out | apply below_alloc | apply pw_below_drewN | apply below_drew1 | refine below_set ?_ GE540.out) | exact HB.out)⟩⟩
           ·rw [if_neg c39] at H
            have c39b0 : decide ((wrap64 (t553 + 1)) < t555) = false := decide_eq_false c39
            clear c39
            by_cases c41 : (wrap64 ((t557.length : Int) - (t561.length : Int))) > 1
            ·rw [if_pos c41] at H
             have c41b0 : decide (1 < (wrap64 ((t557.length : Int) - (t561.length : Int)))) = true := decide_eq_true c41
             clear c41
             have H' := Aside0.mk H
             clear H
             obtain ⟨Ao42, co42, eo42⟩ := Kd.R_slice HO552.out
             subst eo42
             go_wp2_with (first|(go_at_call 29;(with_reducible refine (bibelotlaw07_ints.calls k _ _ t549 _ _ t542 true _ ?side1 ?side2 ?side3 ?side4 A35.out).mono ?_);(case side1 => repeat (first|exact (Kd.R_reads' HO552.out).2.2|(with_reducible refine Kd.C_alloc ?_ _)|(with_reducible refine Kd.C_drewN ?_ _)|(with_reducible refine Kd.C_drew ?_)));(case side2 => exact (Kd.R_reads' HO552.out).2.1);(case side3 => repeat (first|exact (Kd.R_reads' HO544.out).2.2|(with_reducible refine Kd.C_alloc ?_ _)|(with_reducible refine Kd.C_drewN ?_ _)|(with_reducible refine Kd.C_drew ?_)));(case side4 => exact (Kd.R_reads' HO544.out).2.1);rintro e w' ⟨rfl, ⟨nd, rfl⟩⟩;(try first|exact ⟨rfl, _, World.drewN_drewN _ _ _⟩|exact ⟨rfl, _, Eq.trans (World.drewN_drewN _ _ _) (congrArg (World.drewN _) (Nat.add_assoc _ _ _))⟩);obtain ⟨Ao43, co43, eo43⟩ := Kd.S_slice HO560.out;subst eo43;obtain ⟨Ao44, co44, eo44⟩ := Kd.S_slice HO564.out;subst eo44))
             repeat (go_quiet (first|(go_at_call 29;(with_reducible refine (bibelotlaw07_ints.calls k _ _ t549 _ _ t542 true _ ?side1 ?side2 ?side3 ?side4 A35.out).mono ?_);(case side1 => repeat (first|exact (Kd.R_reads' HO552.out).2.2|(with_reducible refine Kd.C_alloc ?_ _)|(with_reducible refine Kd.C_drewN ?_ _)|(with_reducible refine Kd.C_drew ?_)));(case side2 => exact (Kd.R_reads' HO552.out).2.1);(case side3 => repeat (first|exact (Kd.R_reads' HO544.out).2.2|(with_reducible refine Kd.C_alloc ?_ _)|(with_reducible refine Kd.C_drewN ?_ _)|(with_reducible refine Kd.C_drew ?_)));(case side4 => exact (Kd.R_reads' HO544.out).2.1);rintro e w' ⟨rfl, ⟨nd, rfl⟩⟩;(try first|exact ⟨rfl, _, World.drewN_drewN _ _ _⟩|exact ⟨rfl, _, Eq.trans (World.drewN_drewN _ _ _) (congrArg (World.drewN _) (Nat.add_assoc _ _ _))⟩);obtain ⟨Ao43, co43, eo43⟩ := Kd.S_slice HO560.out;subst eo43;obtain ⟨Ao44, co44, eo44⟩ := Kd.S_slice HO564.out;subst eo44));try go_wp2_with (first|(go_at_call 29;(with_reducible refine (bibelotlaw07_ints.calls k _ _ t549 _ _ t542 true _ ?side1 ?side2 ?side3 ?side4 A35.out).mono ?_);(case side1 => repeat (first|exact (Kd.R_reads' HO552.out).2.2|(with_reducible refine Kd.C_alloc ?_ _)|(with_reducible refine Kd.C_drewN ?_ _)|(with_reducible refine Kd.C_drew ?_)));(case side2 => exact (Kd.R_reads' HO552.out).2.1);(case side3 => repeat (first|exact (Kd.R_reads' HO544.out).2.2|(with_reducible refine Kd.C_alloc ?_ _)|(with_reducible refine Kd.C_drewN ?_ _)|(with_reducible refine Kd.C_drew ?_)));(case side4 => exact (Kd.R_reads' HO544.out).2.1);rintro e w' ⟨rfl, ⟨nd, rfl⟩⟩;(try first|exact ⟨rfl, _, World.drewN_drewN _ _ _⟩|exact ⟨rfl, _, Eq.trans (World.drewN_drewN _ _ _) (congrArg (World.drewN _) (Nat.add_assoc _ _ _))⟩);obtain ⟨Ao43, co43, eo43⟩ := Kd.S_slice HO560.out;subst eo43;obtain ⟨Ao44, co44, eo44⟩ := Kd.S_slice HO564.out;subst eo44)))
             go_meet
             case rel => exact ⟨_, (true), (by first | rfl | (simp; done) | (simp [*]; done)), H', ⟨by first | omega | exact Nat.le_refl _⟩, ⟨by (with_reducible repeat (first | apply Kd.S_alloc | apply Kd.S_drewN | apply Kd.S_drew)); exact Kd.S_mono HO560.out (fun _ hk => trivial)⟩, ⟨by (with_reducible repeat (first | refine blk_drewN ?_ _ | refine blk_drew ?_ | refine blk_alloc ?_ _)); exact BK540.out⟩, ⟨by repeat (first | (with_reducible first | exact HB.out | apply below_alloc | apply pw_below_drewN | apply below_drew1 | refine below_set ?_ GE540.out) | exact HB.out)⟩⟩
            ·rw [if_neg c41] at H
             have c41b0 : decide (1 < (wrap64 ((t557.length : Int) - (t561.length : Int)))) = false := decide_eq_false c41
             clear c41
             have H' := Aside0.mk H
             clear H
             obtain ⟨Ao45, co45, eo45⟩ := Kd.R_slice HO552.out
             subst eo45
             go_wp2_with (first|(go_at_call 29;(with_reducible refine (bibelotlaw07_ints.calls k _ _ t549 _ _ t542 true _ ?side1 ?side2 ?side3 ?side4 A35.out).mono ?_);(case side1 => repeat (first|exact (Kd.R_reads' HO552.out).2.2|(with_reducible refine Kd.C_alloc ?_ _)|(with_reducible refine Kd.C_drewN ?_ _)|(with_reducible refine Kd.C_drew ?_)));(case side2 => exact (Kd.R_reads' HO552.out).2.1);(case side3 => repeat (first|exact (Kd.R_reads' HO544.out).2.2|(with_reducible refine Kd.C_alloc ?_ _)|(with_reducible refine Kd.C_drewN ?_ _)|(with_reducible refine Kd.C_drew ?_)));(case side4 => exact (Kd.R_reads' HO544.out).2.1);rintro e w' ⟨rfl, ⟨nd, rfl⟩⟩;(try first|exact ⟨rfl, _, World.drewN_drewN _ _ _⟩|exact ⟨rfl, _, Eq.trans (World.drewN_drewN _ _ _) (congrArg (World.drewN _) (Nat.add_assoc _ _ _))⟩);obtain ⟨Ao46, co46, eo46⟩ := Kd.S_slice HO560.out;subst eo46;obtain ⟨Ao47, co47, eo47⟩ := Kd.S_slice HO564.out;subst eo47))
             repeat (go_quiet (first|(go_at_call 29;(with_reducible refine (bibelotlaw07_ints.calls k _ _ t549 _ _ t542 true _ ?side1 ?side2 ?side3 ?side4 A35.out).mono ?_);(case side1 => repeat (first|exact (Kd.R_reads' HO552.out).2.2|(with_reducible refine Kd.C_alloc ?_ _)|(with_reducible refine Kd.C_drewN ?_ _)|(with_reducible refine Kd.C_drew ?_)));(case side2 => exact (Kd.R_reads' HO552.out).2.1);(case side3 => repeat (first|exact (Kd.R_reads' HO544.out).2.2|(with_reducible refine Kd.C_alloc ?_ _)|(with_reducible refine Kd.C_drewN ?_ _)|(with_reducible refine Kd.C_drew ?_)));(case side4 => exact (Kd.R_reads' HO544.out).2.1);rintro e w' ⟨rfl, ⟨nd, rfl⟩⟩;(try first|exact ⟨rfl, _, World.drewN_drewN _ _ _⟩|exact ⟨rfl, _, Eq.trans (World.drewN_drewN _ _ _) (congrArg (World.drewN _) (Nat.add_assoc _ _ _))⟩);obtain ⟨Ao46, co46, eo46⟩ := Kd.S_slice HO560.out;subst eo46;obtain ⟨Ao47, co47, eo47⟩ := Kd.S_slice HO564.out;subst eo47));try go_wp2_with (first|(go_at_call 29;(with_reducible refine (bibelotlaw07_ints.calls k _ _ t549 _ _ t542 true _ ?side1 ?side2 ?side3 ?side4 A35.out).mono ?_);(case side1 => repeat (first|exact (Kd.R_reads' HO552.out).2.2|(with_reducible refine Kd.C_alloc ?_ _)|(with_reducible refine Kd.C_drewN ?_ _)|(with_reducible refine Kd.C_drew ?_)));(case side2 => exact (Kd.R_reads' HO552.out).2.1);(case side3 => repeat (first|exact (Kd.R_reads' HO544.out).2.2|(with_reducible refine Kd.C_alloc ?_ _)|(with_reducible refine Kd.C_drewN ?_ _)|(with_reducible refine Kd.C_drew ?_)));(case side4 => exact (Kd.R_reads' HO544.out).2.1);rintro e w' ⟨rfl, ⟨nd, rfl⟩⟩;(try first|exact ⟨rfl, _, World.drewN_drewN _ _ _⟩|exact ⟨rfl, _, Eq.trans (World.drewN_drewN _ _ _) (congrArg (World.drewN _) (Nat.add_assoc _ _ _))⟩);obtain ⟨Ao46, co46, eo46⟩ := Kd.S_slice HO560.out;subst eo46;obtain ⟨Ao47, co47, eo47⟩ := Kd.S_slice HO564.out;subst eo47)))
             go_meet
             case rel => exact ⟨_, (decide ((wrap64 ((t561.length : Int) - (t557.length : Int))) > 1)), (by first|rfl|(simp;done)|(simp [*];done)), H', ⟨by first|omega|exact Nat.le_refl _⟩, ⟨by (with_reducible repeat (first|apply Kd.S_alloc|apply Kd.S_drewN|apply Kd.S_drew));exact Kd.S_mono HO560.out (fun _ hk => trivial)⟩, ⟨by (with_reducible repeat (first|refine blk_drewN ?_ _|refine blk_drew ?_|refine blk_alloc ?_ _));exact BK540.out⟩, ⟨by repeat (first|(with_reducible first|exact HB.out|apply below_alloc|apply pw_below_drewN|apply below_drew1|refine below_set ?_ GE540.out)|exact HB.out)⟩⟩
         ·replace c36 := Bool.eq_false_iff.mpr c36
          subst c36
          have H1 : (bibelotlaw07_PancakeSteps.j0 k t541 t557 true) = some r := by rw [if_neg (show ¬ (false = true) by decide)] at H; exact H
          clear H
          have H := H1
          clear H1
          have H' := Aside0.mk H
          clear H
          obtain ⟨Ao48, co48, eo48⟩ := Kd.R_slice HO552.out
          subst eo48
          go_wp2_with (first|(go_at_call 29;(with_reducible refine (bibelotlaw07_ints.calls k _ _ t549 _ _ t542 false _ ?side1 ?side2 ?side3 ?side4 A35.out).mono ?_);(case side1 => repeat (first|exact (Kd.R_reads' HO552.out).2.2|(with_reducible refine Kd.C_alloc ?_ _)|(with_reducible refine Kd.C_drewN ?_ _)|(with_reducible refine Kd.C_drew ?_)));(case side2 => exact (Kd.R_reads' HO552.out).2.1);(case side3 => repeat (first|exact (Kd.R_reads' HO544.out).2.2|(with_reducible refine Kd.C_alloc ?_ _)|(with_reducible refine Kd.C_drewN ?_ _)|(with_reducible refine Kd.C_drew ?_)));(case side4 => exact (Kd.R_reads' HO544.out).2.1);rintro e w' ⟨rfl, ⟨nd, rfl⟩⟩;(try first|exact ⟨rfl, _, World.drewN_drewN _ _ _⟩|exact ⟨rfl, _, Eq.trans (World.drewN_drewN _ _ _) (congrArg (World.drewN _) (Nat.add_assoc _ _ _))⟩)))
          repeat (go_quiet (first|(go_at_call 29;(with_reducible refine (bibelotlaw07_ints.calls k _ _ t549 _ _ t542 false _ ?side1 ?side2 ?side3 ?side4 A35.out).mono ?_);(case side1 => repeat (first|exact (Kd.R_reads' HO552.out).2.2|(with_reducible refine Kd.C_alloc ?_ _)|(with_reducible refine Kd.C_drewN ?_ _)|(with_reducible refine Kd.C_drew ?_)));(case side2 => exact (Kd.R_reads' HO552.out).2.1);(case side3 => repeat (first|exact (Kd.R_reads' HO544.out).2.2|(with_reducible refine Kd.C_alloc ?_ _)|(with_reducible refine Kd.C_drewN ?_ _)|(with_reducible refine Kd.C_drew ?_)));(case side4 => exact (Kd.R_reads' HO544.out).2.1);rintro e w' ⟨rfl, ⟨nd, rfl⟩⟩;(try first|exact ⟨rfl, _, World.drewN_drewN _ _ _⟩|exact ⟨rfl, _, Eq.trans (World.drewN_drewN _ _ _) (congrArg (World.drewN _) (Nat.add_assoc _ _ _))⟩)));try go_wp2_with (first|(go_at_call 29;(with_reducible refine (bibelotlaw07_ints.calls k _ _ t549 _ _ t542 false _ ?side1 ?side2 ?side3 ?side4 A35.out).mono ?_);(case side1 => repeat (first|exact (Kd.R_reads' HO552.out).2.2|(with_reducible refine Kd.C_alloc ?_ _)|(with_reducible refine Kd.C_drewN ?_ _)|(with_reducible refine Kd.C_drew ?_)));(case side2 => exact (Kd.R_reads' HO552.out).2.1);(case side3 => repeat (first|exact (Kd.R_reads' HO544.out).2.2|(with_reducible refine Kd.C_alloc ?_ _)|(with_reducible refine Kd.C_drewN ?_ _)|(with_reducible refine Kd.C_drew ?_)));(case side4 => exact (Kd.R_reads' HO544.out).2.1);rintro e w' ⟨rfl, ⟨nd, rfl⟩⟩;(try first|exact ⟨rfl, _, World.drewN_drewN _ _ _⟩|exact ⟨rfl, _, Eq.trans (World.drewN_drewN _ _ _) (congrArg (World.drewN _) (Nat.add_assoc _ _ _))⟩))))
          go_meet
          case rel => exact ⟨_, (true), (by first | rfl | (simp; done) | (simp [*]; done)), H', ⟨by first | omega | exact Nat.le_refl _⟩, ⟨by (with_reducible repeat (first | apply Kd.S_alloc | apply Kd.S_drewN | apply Kd.S_drew)); exact Kd.S_mono HO560.out (fun _ hk => trivial)⟩, ⟨by (with_reducible repeat (first | refine blk_drewN ?_ _ | refine blk_drew ?_ | refine blk_alloc ?_ _)); exact BK540.out⟩, ⟨by repeat (first | (with_reducible first | exact HB.out | apply below_alloc | apply pw_below_drewN | apply below_drew1 | refine below_set ?_ GE540.out) | exact HB.out)⟩⟩
        ·rw [if_neg c34] at H
         have c34b0 : (t562 == 0) = false := beq_eq_false_iff_ne.mpr c34
         have c34b1 : (t562 != 0) = true := bne_iff_ne.mpr c34
         have H' := Aside0.mk H
         clear H
         go_wp2
         repeat (go_quiet (fail); try go_wp2)
         go_meet
         case rel => exact ⟨_, (true), (by first | rfl | (simp; done) | (simp [*]; done)), H', ⟨by first | omega | exact Nat.le_refl _⟩, ⟨by (with_reducible repeat (first | apply Kd.S_alloc | apply Kd.S_drewN | apply Kd.S_drew)); exact Kd.S_mono HO560.out (fun _ hk => trivial)⟩, ⟨by (with_reducible repeat (first | refine blk_drewN ?_ _ | refine blk_drew ?_ | refine blk_alloc ?_ _)); exact BK540.out⟩, ⟨by repeat (first | (with_reducible first | exact HB.out | apply below_alloc | apply pw_below_drewN | apply below_drew1 | refine below_set ?_ GE540.out) | exact HB.out)⟩⟩
       ·rw [if_neg c33] at H
        have c33b0 : (t558 == 0) = false := beq_eq_false_iff_ne.mpr c33
        have c33b1 : (t558 != 0) = true := bne_iff_ne.mpr c33
        have H' := Aside0.mk H
        clear H
        go_wp2
        repeat (go_quiet (fail); try go_wp2)
        go_meet
        case rel => exact ⟨_, (true), (by first | rfl | (simp; done) | (simp [*]; done)), H', ⟨by first | omega | exact Nat.le_refl _⟩, ⟨by (with_reducible repeat (first | apply Kd.S_alloc | apply Kd.S_drewN | apply Kd.S_drew)); exact Kd.S_mono HO560.out (fun _ hk => trivial)⟩, ⟨by (with_reducible repeat (first | refine blk_drewN ?_ _ | refine blk_drew ?_ | refine blk_alloc ?_ _)); exact BK540.out⟩, ⟨by repeat (first | (with_reducible first | exact HB.out | apply below_alloc | apply pw_below_drewN | apply below_drew1 | refine below_set ?_ GE540.out) | exact HB.out)⟩⟩
      ·rw [if_neg c32] at H
       have c32b0 : (t556 == 0) = false := beq_eq_false_iff_ne.mpr c32
       have c32b1 : (t556 != 0) = true := bne_iff_ne.mpr c32
       have H' := Aside0.mk H
       clear H
       go_wp2
       repeat (go_quiet (fail); try go_wp2)
       go_meet
       case rel => exact ⟨_, (true), (by first | rfl | (simp; done) | (simp [*]; done)), H', ⟨by first | omega | exact Nat.le_refl _⟩, ⟨by (with_reducible repeat (first | apply Kd.S_alloc | apply Kd.S_drewN | apply Kd.S_drew)); exact Kd.S_mono HO560.out (fun _ hk => trivial)⟩, ⟨by (with_reducible repeat (first | refine blk_drewN ?_ _ | refine blk_drew ?_ | refine blk_alloc ?_ _)); exact BK540.out⟩, ⟨by repeat (first | (with_reducible first | exact HB.out | apply below_alloc | apply pw_below_drewN | apply below_drew1 | refine below_set ?_ GE540.out) | exact HB.out)⟩⟩
     ·rw [if_neg c31] at H
      have c31b0 : (t554 == 0) = false := beq_eq_false_iff_ne.mpr c31
      have c31b1 : (t554 != 0) = true := bne_iff_ne.mpr c31
      have H' := Aside0.mk H
      clear H
      go_wp2
      repeat (go_quiet (fail); try go_wp2)
      go_meet
      case rel => exact ⟨_, (true), (by first | rfl | (simp; done) | (simp [*]; done)), H', ⟨by first | omega | exact Nat.le_refl _⟩, ⟨by (with_reducible repeat (first | apply Kd.S_alloc | apply Kd.S_drewN | apply Kd.S_drew)); exact Kd.S_mono HO560.out (fun _ hk => trivial)⟩, ⟨by (with_reducible repeat (first | refine blk_drewN ?_ _ | refine blk_drew ?_ | refine blk_alloc ?_ _)); exact BK540.out⟩, ⟨by repeat (first | (with_reducible first | exact HB.out | apply below_alloc | apply pw_below_drewN | apply below_drew1 | refine below_set ?_ GE540.out) | exact HB.out)⟩⟩
    ·rw [if_neg c30] at H
     have c30b0 : (t550 == 0) = false := beq_eq_false_iff_ne.mpr c30
     have c30b1 : (t550 != 0) = true := bne_iff_ne.mpr c30
     have H' := Aside0.mk H
     clear H
     go_wp2
     repeat (go_quiet (fail); try go_wp2)
     go_meet
     case rel => exact ⟨_, (true), (by first | rfl | (simp; done) | (simp [*]; done)), H', ⟨by first | omega | exact Nat.le_refl _⟩, ⟨by (with_reducible repeat (first | apply Kd.S_alloc | apply Kd.S_drewN | apply Kd.S_drew)); exact Kd.S_mono HO560.out (fun _ hk => trivial)⟩, ⟨by (with_reducible repeat (first | refine blk_drewN ?_ _ | refine blk_drew ?_ | refine blk_alloc ?_ _)); exact BK540.out⟩, ⟨by repeat (first | (with_reducible first | exact HB.out | apply below_alloc | apply pw_below_drewN | apply below_drew1 | refine below_set ?_ GE540.out) | exact HB.out)⟩⟩
   ·rw [if_neg c29] at H
    have c29b0 : (t546 == 0) = false := beq_eq_false_iff_ne.mpr c29
    have c29b1 : (t546 != 0) = true := bne_iff_ne.mpr c29
    (first | rw [c29b0] | (simp only [i64_w, i32_w]; rw [c29b0]) | skip)
    have H' := Aside0.mk H
    clear H
    go_wp2
    repeat (go_quiet (fail); try go_wp2)
    go_meet
    case rel => exact ⟨_, (true), (by first | rfl | (simp; done) | (simp [*]; done)), H', ⟨by first | omega | exact Nat.le_refl _⟩, ⟨by (with_reducible repeat (first | apply Kd.S_alloc | apply Kd.S_drewN | apply Kd.S_drew)); exact Kd.S_mono HO560.out (fun _ hk => trivial)⟩, ⟨by (with_reducible repeat (first | refine blk_drewN ?_ _ | refine blk_drew ?_ | refine blk_alloc ?_ _)); exact BK540.out⟩, ⟨by repeat (first | (with_reducible first | exact HB.out | apply below_alloc | apply pw_below_drewN | apply below_drew1 | refine below_set ?_ GE540.out) | exact HB.out)⟩⟩
  case rest =>
   clear HC17
   obtain ⟨kq, x143_16, rfl, HA, HJ16, HO_18, BK540, HB⟩ := hcut
   cases kq with
   | zero => exact absurd HA.out (by simp [bibelotlaw07_PancakeSteps.j0])
   | succ kj16 =>
    have H := HA.out
    clear HA
    simp only [bibelotlaw07_PancakeSteps.j0] at H
    by_cases c49 : x143_16 = true
    ·subst c49
     have H1 : (some false) = some r := by rw [if_pos rfl] at H; exact H
     clear H
     have H := H1
     clear H1
     obtain rfl := Option.some.inj H
     go_wp2
     repeat (go_quiet (fail); try go_wp2)
     go_ret
     exact ⟨by first | rfl | (simp [errW_none, errW_some] <;> rfl) | (simp only [← hji7, ← hji8]; first | rfl | (simp [errW_none, errW_some] <;> rfl)) | (simp [*, errW_none, errW_some] <;> rfl), by repeat (first | (with_reducible first | exact HB.out | apply below_alloc | apply pw_below_drewN | apply below_drew1 | refine below_set ?_ GE540.out) | exact HB.out)⟩
    ·replace c49 := Bool.eq_false_iff.mpr c49
     subst c49
     have H1 : (if 0 ≤ (wrap64 (t541 + 1)) then (if (wrap64 (t541 + 1) : Int).toNat ≤ 281474976710656 then (bibelotlaw07_PancakeSteps.l0 kj16 t541 t557 (List.replicate (wrap64 (t541 + 1) : Int).toNat false) 0 0) else (none)) else (none)) = some r := by rw [if_neg (show ¬ (false = true) by decide)] at H; exact H
     clear H
     have H := H1
     clear H1
     obtain ⟨ji50, hji50⟩ : ∃ j_ : Int, (wrap64 (t541 + 1)) = j_ := ⟨_, rfl⟩
     replace H : (if 0 ≤ (ji50) then (if (ji50 : Int).toNat ≤ 281474976710656 then (bibelotlaw07_PancakeSteps.l0 kj16 t541 t557 (List.replicate (ji50 : Int).toNat false) 0 0) else (none)) else (none)) = some r := by first | (rw [hji50] at H; exact H) | (simp only [hji50] at H ⊢; exact H)
     have hji50w : (IntKind.i64.wrap (t541 + 1)) = ji50 := (i64_w _).trans hji50
     by_cases c51 : 0 ≤ (ji50)
     rotate_left
     ·rw [if_neg c51] at H
      exact absurd H (by simp)
     rw [if_pos c51] at H
     have c51b0 := eq_true c51
     have c51b1 : decide (0 ≤ (ji50)) = true := decide_eq_true c51
     clear c51
     by_cases c52 : (ji50 : Int).toNat ≤ 281474976710656
     rotate_left
     ·rw [if_neg c52] at H
      exact absurd H (by simp)
     rw [if_pos c52] at H
     have c52b0 := eq_true c52
     have c52b1 : decide ((ji50 : Int).toNat ≤ 281474976710656) = true := decide_eq_true c52
     clear c52
     obtain ⟨y566, hy566⟩ : ∃ y_ : List Bool, y_ = (List.replicate (ji50 : Int).toNat false) := ⟨_, rfl⟩
     replace H : (bibelotlaw07_PancakeSteps.l0 kj16 t541 t557 y566 0 0) = some r := by first | (rw [hy566]; with_reducible exact H) | (have H2_ := (Option.bind_some _ _).symm.trans H; rw [hy566]; with_reducible exact H2_) | (have H2_ := (Option.bind_some _ _).symm.trans H; with_reducible exact H2_) | with_reducible exact H | (rw [hy566]; exact H) | exact H
     have Ny566 := Aside0.mk hy566
     clear hy566
     have H' := Aside0.mk H
     clear H
     go_wp2_with (first|((with_reducible refine gate_dst (N := 146) rfl ?_);(try (refine gate_guard (by rfl) ?_;dsimp only));refine Kd.R_make Kd.bool _ 4 rfl (N := 146) rfl 62 _ _ rfl ji50 rfl rfl Try.underlying62 (.bool false) 1 info4 rfl (by decide) (by omega) false (ok := fun _ => True) (okp := fun _ => True) rfl (fun _ hk => hk) trivial (of_decide_eq_true (by first|(with_reducible assumption)|assumption)) (Nat.le_trans (Nat.mul_le_mul_right _ (of_decide_eq_true (by first|(with_reducible assumption)|assumption) : ji50.toNat ≤ 281474976710656)) (by omega)) (Below.refl _ _) (Nat.le_refl _) ?_;intro v567 w53 ho54 hb hg_ hnew_;clear hg_ hnew_;(first|rw [← Ny566.out] at ho54|(simp only [Int.reduceToNat] at ho54;rw [← Ny566.out] at ho54));have n0_ := Aside0.mk (Kd.S_below (by (with_reducible repeat (first|apply Kd.S_alloc|apply Kd.S_drewN|apply Kd.S_drew));exact HO_18.out) hb);have n1_ := Aside0.mk (Kd.R_lower ho54 (below_size (by repeat (first|(with_reducible first|exact HB.out|apply below_alloc|apply pw_below_drewN|apply below_drew1|refine below_set ?_ GE540.out)|exact HB.out))));have n2_ := Aside0.mk (blk_below (g := gb540) (o := .cells #[.int .i64 a2_0, .int .i64 a2_1] 57 (0, 0)) (by (with_reducible repeat (first|refine blk_drewN ?_ _|refine blk_drew ?_|refine blk_alloc ?_ _));exact BK540.out) hb);have n3_ := Aside0.mk (below_step (by repeat (first|(with_reducible first|exact HB.out|apply below_alloc|apply pw_below_drewN|apply below_drew1|refine below_set ?_ GE540.out)|exact HB.out)) hb);clear HO_18;clear BK540;clear HB;have HO_18 := n0_;have HO568 := n1_;have BK540 := n2_;have HB := n3_;clear n0_ n1_ n2_ n3_;clear hb ho54))
     repeat (go_quiet (first|((with_reducible refine gate_dst (N := 146) rfl ?_);(try (refine gate_guard (by rfl) ?_;dsimp only));refine Kd.R_make Kd.bool _ 4 rfl (N := 146) rfl 62 _ _ rfl ji50 rfl rfl Try.underlying62 (.bool false) 1 info4 rfl (by decide) (by omega) false (ok := fun _ => True) (okp := fun _ => True) rfl (fun _ hk => hk) trivial (of_decide_eq_true (by first|(with_reducible assumption)|assumption)) (Nat.le_trans (Nat.mul_le_mul_right _ (of_decide_eq_true (by first|(with_reducible assumption)|assumption) : ji50.toNat ≤ 281474976710656)) (by omega)) (Below.refl _ _) (Nat.le_refl _) ?_;intro v567 w53 ho54 hb hg_ hnew_;clear hg_ hnew_;(first|rw [← Ny566.out] at ho54|(simp only [Int.reduceToNat] at ho54;rw [← Ny566.out] at ho54));have n0_ := Aside0.mk (Kd.S_below (by (with_reducible repeat (first|apply Kd.S_alloc|apply Kd.S_drewN|apply Kd.S_drew));exact HO_18.out) hb);have n1_ := Aside0.mk (Kd.R_lower ho54 (below_size (by repeat (first|(with_reducible first|exact HB.out|apply below_alloc|apply pw_below_drewN|apply below_drew1|refine below_set ?_ GE540.out)|exact HB.out))));have n2_ := Aside0.mk (blk_below (g := gb540) (o := .cells #[.int .i64 a2_0, .int .i64 a2_1] 57 (0, 0)) (by (with_reducible repeat (first|refine blk_drewN ?_ _|refine blk_drew ?_|refine blk_alloc ?_ _));exact BK540.out) hb);have n3_ := Aside0.mk (below_step (by repeat (first|(with_reducible first|exact HB.out|apply below_alloc|apply pw_below_drewN|apply below_drew1|refine below_set ?_ GE540.out)|exact HB.out)) hb);clear HO_18;clear BK540;clear HB;have HO_18 := n0_;have HO568 := n1_;have BK540 := n2_;have HB := n3_;clear n0_ n1_ n2_ n3_;clear hb ho54));try go_wp2_with (first|((with_reducible refine gate_dst (N := 146) rfl ?_);(try (refine gate_guard (by rfl) ?_;dsimp only));refine Kd.R_make Kd.bool _ 4 rfl (N := 146) rfl 62 _ _ rfl ji50 rfl rfl Try.underlying62 (.bool false) 1 info4 rfl (by decide) (by omega) false (ok := fun _ => True) (okp := fun _ => True) rfl (fun _ hk => hk) trivial (of_decide_eq_true (by first|(with_reducible assumption)|assumption)) (Nat.le_trans (Nat.mul_le_mul_right _ (of_decide_eq_true (by first|(with_reducible assumption)|assumption) : ji50.toNat ≤ 281474976710656)) (by omega)) (Below.refl _ _) (Nat.le_refl _) ?_;intro v567 w53 ho54 hb hg_ hnew_;clear hg_ hnew_;(first|rw [← Ny566.out] at ho54|(simp only [Int.reduceToNat] at ho54;rw [← Ny566.out] at ho54));have n0_ := Aside0.mk (Kd.S_below (by (with_reducible repeat (first|apply Kd.S_alloc|apply Kd.S_drewN|apply Kd.S_drew));exact HO_18.out) hb);have n1_ := Aside0.mk (Kd.R_lower ho54 (below_size (by repeat (first|(with_reducible first|exact HB.out|apply below_alloc|apply pw_below_drewN|apply below_drew1|refine below_set ?_ GE540.out)|exact HB.out))));have n2_ := Aside0.mk (blk_below (g := gb540) (o := .cells #[.int .i64 a2_0, .int .i64 a2_1] 57 (0, 0)) (by (with_reducible repeat (first|refine blk_drewN ?_ _|refine blk_drew ?_|refine blk_alloc ?_ _));exact BK540.out) hb);have n3_ := Aside0.mk (below_step (by repeat (first|(with_reducible first|exact HB.out|apply below_alloc|apply pw_below_drewN|apply below_drew1|refine below_set ?_ GE540.out)|exact HB.out)) hb);clear HO_18;clear BK540;clear HB;have HO_18 := n0_;have HO568 := n1_;have BK540 := n2_;have HB := n3_;clear n0_ n1_ n2_ n3_;clear hb ho54)))
     go_loopg [23, 24] kj16 (fun kq v23 v24 w' => ∃ (x22_2 : List Bool) (x23_2 : Int) (x24_2 : Int), v23 = .int .i64 x23_2 ∧ v24 = .int .i64 x24_2 ∧ Aside0 (bibelotlaw07_PancakeSteps.l0 kq t541 t557 x22_2 x23_2 x24_2 = some r) ∧ Aside0 (kq ≤ kj16) ∧ Aside0 (Kd.S (Kd.slice 3 (Kd.int .i64)) 22 w' w.heap.size (fun _ => True) v559 t557) ∧ Aside0 (Kd.R Kd.bool 4 w' w.heap.size (fun _ => True) v567 x22_2) ∧ Aside0 (w'.heap[gb540]? = some (.cells #[.int .i64 a2_0, .int .i64 a2_1] 57 (0, 0))) ∧ Aside0 (Below w.heap.size w w'))
     case atStart => exact ⟨(y566), (0), (0), (by first|rfl|(simp;done)|(simp [*];done)), (by first|rfl|(simp;done)|(simp [*];done)), H', ⟨Nat.le_refl _⟩, ⟨by (with_reducible repeat (first|apply Kd.S_alloc|apply Kd.S_drewN|apply Kd.S_drew));exact HO_18.out⟩, ⟨by (with_reducible repeat (first|apply Kd.R_alloc|apply Kd.R_drewN|apply Kd.R_drew));exact HO568.out⟩, ⟨by (with_reducible repeat (first|refine blk_drewN ?_ _|refine blk_drew ?_|refine blk_alloc ?_ _));exact BK540.out⟩, ⟨by repeat (first|(with_reducible first|exact HB.out|apply below_alloc|apply pw_below_drewN|apply below_drew1|refine below_set ?_ GE540.out)|exact HB.out)⟩⟩
     case round =>
      clear H'
      obtain ⟨x22_2, x23_2, x24_2, rfl, rfl, HA, HK2, HO_18, HO_22, BK540, HB⟩ := hrel
      cases gk with
      | zero => exact absurd HA.out (by simp [bibelotlaw07_PancakeSteps.l0])
      | succ k2 =>
       have H := HA.out
       clear HA
       simp only [bibelotlaw07_PancakeSteps.l0] at H
       by_cases c55 : x24_2 < (t557.length : Int)
       ·rw [if_pos c55] at H
        have c55b0 : decide (x24_2 < (t557.length : Int)) = true := decide_eq_true c55
        clear c55
        have H' := Aside0.mk H
        clear H
        obtain ⟨Ao56, co56, eo56⟩ := Kd.S_slice HO_18.out
        subst eo56
        go_wp2
        repeat (go_quiet (fail); try go_wp2)
        go_loopg [23, 25] k2 (fun kq v23 v25 w' => ∃ (x22_3 : List Bool) (x23_3 : Int) (x25_3 : Int), v23 = .int .i64 x23_3 ∧ v25 = .int .i64 x25_3 ∧ Aside0 (bibelotlaw07_PancakeSteps.l1 kq t541 t557 x22_3 x23_3 x24_2 x25_3 = some r) ∧ Aside0 (kq ≤ k2) ∧ Aside0 (Kd.S (Kd.slice 3 (Kd.int .i64)) 22 w' w.heap.size (fun _ => True) (.slice Ao56 t557.length co56) t557) ∧ Aside0 (Kd.R Kd.bool 4 w' w.heap.size (fun _ => True) v567 x22_3) ∧ Aside0 (w'.heap[gb540]? = some (.cells #[.int .i64 a2_0, .int .i64 a2_1] 57 (0, 0))) ∧ Aside0 (Below w.heap.size w w'))
        case atStart => exact ⟨(x22_2), (x23_2), (0), (by first|rfl|(simp;done)|(simp [*];done)), (by first|rfl|(simp;done)|(simp [*];done)), H', ⟨Nat.le_refl _⟩, ⟨by (with_reducible repeat (first|apply Kd.S_alloc|apply Kd.S_drewN|apply Kd.S_drew));exact HO_18.out⟩, ⟨by (with_reducible repeat (first|apply Kd.R_alloc|apply Kd.R_drewN|apply Kd.R_drew));exact HO_22.out⟩, ⟨by (with_reducible repeat (first|refine blk_drewN ?_ _|refine blk_drew ?_|refine blk_alloc ?_ _));exact BK540.out⟩, ⟨by repeat (first|(with_reducible first|exact HB.out|apply below_alloc|apply pw_below_drewN|apply below_drew1|refine below_set ?_ GE540.out)|exact HB.out)⟩⟩
        case round =>
         clear H'
         obtain ⟨x22_3, x23_3, x25_3, rfl, rfl, HA, HK3, HO_18, HO_22, BK540, HB⟩ := hrel
         cases gk with
         | zero => exact absurd HA.out (by simp [bibelotlaw07_PancakeSteps.l1])
         | succ k3 =>
          have H := HA.out
          clear HA
          simp only [bibelotlaw07_PancakeSteps.l1] at H
          by_cases c57 : 0 ≤ x24_2
          rotate_left
          ·rw [if_neg c57] at H
           exact absurd H (by simp)
          rw [if_pos c57] at H
          have c57b0 : decide (0 ≤ x24_2) = true := decide_eq_true c57
          clear c57
          by_cases c58 : x24_2 < (t557.length : Int)
          rotate_left
          ·rw [if_neg c58] at H
           exact absurd H (by simp)
          rw [if_pos c58] at H
          have c58b0 : decide (x24_2 < (t557.length : Int)) = true := decide_eq_true c58
          clear c58
          by_cases c59 : x25_3 < ((rd_L1 t557 x24_2).length : Int)
          ·rw [if_pos c59] at H
           have c59b0 : decide (x25_3 < ((rd_L1 t557 x24_2).length : Int)) = true := decide_eq_true c59
           clear c59
           by_cases c60 : 0 ≤ x25_3
           rotate_left
           ·rw [if_neg c60] at H
            exact absurd H (by simp)
           rw [if_pos c60] at H
           have c60b0 : decide (0 ≤ x25_3) = true := decide_eq_true c60
           clear c60
           by_cases c61 : (rd (rd_L1 t557 x24_2) x25_3) < 0
           ·rw [if_pos c61] at H
            have c61b0 : decide ((rd (rd_L1 t557 x24_2) x25_3) < 0) = true := decide_eq_true c61
            clear c61
            obtain rfl := Option.some.inj H
            have p570 : 0 ≤ (x24_2 : Int) := of_decide_eq_true (by first | (with_reducible assumption) | assumption)
            have q570 : x24_2 < (t557.length : Int) := of_decide_eq_true (by first | (with_reducible assumption) | assumption)
            obtain ⟨ad570, A570_0, c570_0, e570, hx570_0, hl570_0, hi570_0⟩ := at_L1 (Kd.S_reads' HO_18.out).2.2 x24_2 p570 q570
            cases e570
            obtain ⟨ce570, hce570, hMe570, hcc570⟩ := Kd.S_get HO_18.out [] x24_2 p570 (by first | exact q570 | exact of_decide_eq_true (by first | (with_reducible assumption) | assumption) | (have e_ := (Kd.S_reads' HO_18.out).1; omega))
            obtain ⟨ve570_0, rfl, ge570_0⟩ := hMe570
            have hv570_0 := hcc570 0 _ rfl
            rw [Nat.add_zero, show ((Kd.slice 3 (Kd.int .i64))).sz = 1 from rfl, Nat.mul_one] at hv570_0
            replace hv570_0 := Option.some.inj (hv570_0.symm.trans hx570_0)
            rw [hv570_0] at ge570_0
            have HL570_0 := Aside0.mk (show Kd.R (Kd.int .i64) 3 _ _ _ _ (rd_L1 t557 x24_2) from ge570_0)
            clear hv570_0 ge570_0
            clear hcc570 hce570
            have HR570_0 := Aside0.mk hi570_0
            have HC570_0 := Aside0.mk hl570_0
            clear hi570_0 hl570_0
            replace p570 := eq_true p570
            replace q570 := eq_true q570
            have p571 : 0 ≤ (x24_2 : Int) := of_decide_eq_true (by first | (with_reducible assumption) | assumption)
            have q571 : x24_2 < (t557.length : Int) := of_decide_eq_true (by first | (with_reducible assumption) | assumption)
            obtain ⟨ad571, A571_0, c571_0, e571, hx571_0, hl571_0, hi571_0⟩ := at_L1 (Kd.S_reads' HO_18.out).2.2 x24_2 p571 q571
            obtain rfl : ad570 = ad571 := (by injection e571)
            obtain ⟨ce571, hce571, hMe571, hcc571⟩ := Kd.S_get HO_18.out [] x24_2 p571 (by first | exact q571 | exact of_decide_eq_true (by first | (with_reducible assumption) | assumption) | (have e_ := (Kd.S_reads' HO_18.out).1; omega))
            obtain ⟨ve571_0, rfl, ge571_0⟩ := hMe571
            have hv571_0 := hcc571 0 _ rfl
            rw [Nat.add_zero, show ((Kd.slice 3 (Kd.int .i64))).sz = 1 from rfl, Nat.mul_one] at hv571_0
            replace hv571_0 := Option.some.inj (hv571_0.symm.trans hx571_0)
            rw [hv571_0] at ge571_0
            have HL571_0 := Aside0.mk (show Kd.R (Kd.int .i64) 3 _ _ _ _ (rd_L1 t557 x24_2) from ge571_0)
            clear hv571_0 ge571_0
            clear hcc571 hce571
            have HR571_0 := Aside0.mk hi571_0
            have HC571_0 := Aside0.mk hl571_0
            clear hi571_0 hl571_0
            replace p571 := eq_true p571
            replace q571 := eq_true q571
            have ea_ := Option.some.inj (hx570_0.symm.trans hx571_0)
            injection ea_ with ea_ en_ ec_
            subst ea_
            subst ec_
            clear en_
            have p572 : 0 ≤ (x25_3 : Int) := of_decide_eq_true (by first | (with_reducible assumption) | assumption)
            have q572 : x25_3 < ((rd_L1 t557 x24_2).length : Int) := of_decide_eq_true (by first | (with_reducible assumption) | assumption)
            obtain ⟨ad572, e572, hx572_0⟩ := Kd.at_int (by repeat (first | (with_reducible exact HR571_0.out) | (with_reducible refine Kd.C_alloc ?_ _) | (with_reducible refine Kd.C_drewN ?_ _) | (with_reducible refine Kd.C_drew ?_) | exact HR571_0.out)) x25_3 p572 q572
            cases e572
            replace p572 := eq_true p572
            replace q572 := eq_true q572
            go_wp2
            repeat (go_quiet (fail); try go_wp2)
            go_ret
            exact ⟨by first | rfl | (simp [errW_none, errW_some] <;> rfl) | (simp only [← hji7, ← hji8, ← hji50]; first | rfl | (simp [errW_none, errW_some] <;> rfl)) | (simp [*, errW_none, errW_some] <;> rfl), by repeat (first | (with_reducible first | exact HB.out | apply below_alloc | apply pw_below_drewN | apply below_drew1 | refine below_set ?_ GE540.out) | exact HB.out)⟩
           ·rw [if_neg c61] at H
            have c61b0 : decide ((rd (rd_L1 t557 x24_2) x25_3) < 0) = false := decide_eq_false c61
            clear c61
            by_cases c62 : (rd (rd_L1 t557 x24_2) x25_3) > t541
            ·rw [if_pos c62] at H
             have c62b0 : decide (t541 < (rd (rd_L1 t557 x24_2) x25_3)) = true := decide_eq_true c62
             clear c62
             obtain rfl := Option.some.inj H
             have p570 : 0 ≤ (x24_2 : Int) := of_decide_eq_true (by first | (with_reducible assumption) | assumption)
             have q570 : x24_2 < (t557.length : Int) := of_decide_eq_true (by first | (with_reducible assumption) | assumption)
             obtain ⟨ad570, A570_0, c570_0, e570, hx570_0, hl570_0, hi570_0⟩ := at_L1 (Kd.S_reads' HO_18.out).2.2 x24_2 p570 q570
             cases e570
             obtain ⟨ce570, hce570, hMe570, hcc570⟩ := Kd.S_get HO_18.out [] x24_2 p570 (by first | exact q570 | exact of_decide_eq_true (by first | (with_reducible assumption) | assumption) | (have e_ := (Kd.S_reads' HO_18.out).1; omega))
             obtain ⟨ve570_0, rfl, ge570_0⟩ := hMe570
             have hv570_0 := hcc570 0 _ rfl
             rw [Nat.add_zero, show ((Kd.slice 3 (Kd.int .i64))).sz = 1 from rfl, Nat.mul_one] at hv570_0
             replace hv570_0 := Option.some.inj (hv570_0.symm.trans hx570_0)
             rw [hv570_0] at ge570_0
             have HL570_0 := Aside0.mk (show Kd.R (Kd.int .i64) 3 _ _ _ _ (rd_L1 t557 x24_2) from ge570_0)
             clear hv570_0 ge570_0
             clear hcc570 hce570
             have HR570_0 := Aside0.mk hi570_0
             have HC570_0 := Aside0.mk hl570_0
             clear hi570_0 hl570_0
             replace p570 := eq_true p570
             replace q570 := eq_true q570
             have p571 : 0 ≤ (x24_2 : Int) := of_decide_eq_true (by first | (with_reducible assumption) | assumption)
             have q571 : x24_2 < (t557.length : Int) := of_decide_eq_true (by first | (with_reducible assumption) | assumption)
             obtain ⟨ad571, A571_0, c571_0, e571, hx571_0, hl571_0, hi571_0⟩ := at_L1 (Kd.S_reads' HO_18.out).2.2 x24_2 p571 q571
             obtain rfl : ad570 = ad571 := (by injection e571)
             obtain ⟨ce571, hce571, hMe571, hcc571⟩ := Kd.S_get HO_18.out [] x24_2 p571 (by first | exact q571 | exact of_decide_eq_true (by first | (with_reducible assumption) | assumption) | (have e_ := (Kd.S_reads' HO_18.out).1; omega))
             obtain ⟨ve571_0, rfl, ge571_0⟩ := hMe571
             have hv571_0 := hcc571 0 _ rfl
             rw [Nat.add_zero, show ((Kd.slice 3 (Kd.int .i64))).sz = 1 from rfl, Nat.mul_one] at hv571_0
             replace hv571_0 := Option.some.inj (hv571_0.symm.trans hx571_0)
             rw [hv571_0] at ge571_0
             have HL571_0 := Aside0.mk (show Kd.R (Kd.int .i64) 3 _ _ _ _ (rd_L1 t557 x24_2) from ge571_0)
             clear hv571_0 ge571_0
             clear hcc571 hce571
             have HR571_0 := Aside0.mk hi571_0
             have HC571_0 := Aside0.mk hl571_0
             clear hi571_0 hl571_0
             replace p571 := eq_true p571
             replace q571 := eq_true q571
             have ea_ := Option.some.inj (hx570_0.symm.trans hx571_0)
             injection ea_ with ea_ en_ ec_
             subst ea_
             subst ec_
             clear en_
             have p572 : 0 ≤ (x25_3 : Int) := of_decide_eq_true (by first | (with_reducible assumption) | assumption)
             have q572 : x25_3 < ((rd_L1 t557 x24_2).length : Int) := of_decide_eq_true (by first | (with_reducible assumption) | assumption)
             obtain ⟨ad572, e572, hx572_0⟩ := Kd.at_int (by repeat (first | (with_reducible exact HR571_0.out) | (with_reducible refine Kd.C_alloc ?_ _) | (with_reducible refine Kd.C_drewN ?_ _) | (with_reducible refine Kd.C_drew ?_) | exact HR571_0.out)) x25_3 p572 q572
             cases e572
             replace p572 := eq_true p572
             replace q572 := eq_true q572
             go_wp2
             repeat (go_quiet (fail); try go_wp2)
             go_ret
             exact ⟨by first | rfl | (simp [errW_none, errW_some] <;> rfl) | (simp only [← hji7, ← hji8, ← hji50]; first | rfl | (simp [errW_none, errW_some] <;> rfl)) | (simp [*, errW_none, errW_some] <;> rfl), by repeat (first | (with_reducible first | exact HB.out | apply below_alloc | apply pw_below_drewN | apply below_drew1 | refine below_set ?_ GE540.out) | exact HB.out)⟩
            ·rw [if_neg c62] at H
             have c62b0 : decide (t541 < (rd (rd_L1 t557 x24_2) x25_3)) = false := decide_eq_false c62
             clear c62
             by_cases c63 : 0 ≤ (rd (rd_L1 t557 x24_2) x25_3)
             rotate_left
             ·rw [if_neg c63] at H
              exact absurd H (by simp)
             rw [if_pos c63] at H
             have c63b0 : decide (0 ≤ (rd (rd_L1 t557 x24_2) x25_3)) = true := decide_eq_true c63
             clear c63
             by_cases c64 : (rd (rd_L1 t557 x24_2) x25_3) < (x22_3.length : Int)
             rotate_left
             ·rw [if_neg c64] at H
              exact absurd H (by simp)
             rw [if_pos c64] at H
             have c64b0 : decide ((rd (rd_L1 t557 x24_2) x25_3) < (x22_3.length : Int)) = true := decide_eq_true c64
             clear c64
             obtain ⟨bq65, hbq65⟩ : ∃ b_ : Bool, b_ = (rdOf false x22_3 (rd (rd_L1 t557 x24_2) x25_3)) := ⟨_, rfl⟩
             replace H : (if bq65 = true then (some false) else (bibelotlaw07_PancakeSteps.l1 k3 t541 t557 (x22_3.set ((rd (rd_L1 t557 x24_2) x25_3) : Int).toNat true) (wrap64 (x23_3 + 1)) x24_2 (wrap64 (x25_3 + 1)))) = some r := by rw [← hbq65] at H; exact H
             have Nbq65 := Aside0.mk hbq65
             clear hbq65
             by_cases c66 : bq65 = true
             ·subst c66
              have H1 : (some false) = some r := by rw [if_pos rfl] at H; exact H
              clear H
              have H := H1
              clear H1
              obtain rfl := Option.some.inj H
              have p570 : 0 ≤ (x24_2 : Int) := of_decide_eq_true (by first | (with_reducible assumption) | assumption)
              have q570 : x24_2 < (t557.length : Int) := of_decide_eq_true (by first | (with_reducible assumption) | assumption)
              obtain ⟨ad570, A570_0, c570_0, e570, hx570_0, hl570_0, hi570_0⟩ := at_L1 (Kd.S_reads' HO_18.out).2.2 x24_2 p570 q570
              cases e570
              obtain ⟨ce570, hce570, hMe570, hcc570⟩ := Kd.S_get HO_18.out [] x24_2 p570 (by first | exact q570 | exact of_decide_eq_true (by first | (with_reducible assumption) | assumption) | (have e_ := (Kd.S_reads' HO_18.out).1; omega))
              obtain ⟨ve570_0, rfl, ge570_0⟩ := hMe570
              have hv570_0 := hcc570 0 _ rfl
              rw [Nat.add_zero, show ((Kd.slice 3 (Kd.int .i64))).sz = 1 from rfl, Nat.mul_one] at hv570_0
              replace hv570_0 := Option.some.inj (hv570_0.symm.trans hx570_0)
              rw [hv570_0] at ge570_0
              have HL570_0 := Aside0.mk (show Kd.R (Kd.int .i64) 3 _ _ _ _ (rd_L1 t557 x24_2) from ge570_0)
              clear hv570_0 ge570_0
              clear hcc570 hce570
              have HR570_0 := Aside0.mk hi570_0
              have HC570_0 := Aside0.mk hl570_0
              clear hi570_0 hl570_0
              replace p570 := eq_true p570
              replace q570 := eq_true q570
              have p571 : 0 ≤ (x24_2 : Int) := of_decide_eq_true (by first | (with_reducible assumption) | assumption)
              have q571 : x24_2 < (t557.length : Int) := of_decide_eq_true (by first | (with_reducible assumption) | assumption)
              obtain ⟨ad571, A571_0, c571_0, e571, hx571_0, hl571_0, hi571_0⟩ := at_L1 (Kd.S_reads' HO_18.out).2.2 x24_2 p571 q571
              obtain rfl : ad570 = ad571 := (by injection e571)
              obtain ⟨ce571, hce571, hMe571, hcc571⟩ := Kd.S_get HO_18.out [] x24_2 p571 (by first | exact q571 | exact of_decide_eq_true (by first | (with_reducible assumption) | assumption) | (have e_ := (Kd.S_reads' HO_18.out).1; omega))
              obtain ⟨ve571_0, rfl, ge571_0⟩ := hMe571
              have hv571_0 := hcc571 0 _ rfl
              rw [Nat.add_zero, show ((Kd.slice 3 (Kd.int .i64))).sz = 1 from rfl, Nat.mul_one] at hv571_0
              replace hv571_0 := Option.some.inj (hv571_0.symm.trans hx571_0)
              rw [hv571_0] at ge571_0
              have HL571_0 := Aside0.mk (show Kd.R (Kd.int .i64) 3 _ _ _ _ (rd_L1 t557 x24_2) from ge571_0)
              clear hv571_0 ge571_0
              clear hcc571 hce571
              have HR571_0 := Aside0.mk hi571_0
              have HC571_0 := Aside0.mk hl571_0
              clear hi571_0 hl571_0
              replace p571 := eq_true p571
              replace q571 := eq_true q571
              have ea_ := Option.some.inj (hx570_0.symm.trans hx571_0)
              injection ea_ with ea_ en_ ec_
              subst ea_
              subst ec_
              clear en_
              have p572 : 0 ≤ (x25_3 : Int) := of_decide_eq_true (by first | (with_reducible assumption) | assumption)
              have q572 : x25_3 < ((rd_L1 t557 x24_2).length : Int) := of_decide_eq_true (by first | (with_reducible assumption) | assumption)
              obtain ⟨ad572, e572, hx572_0⟩ := Kd.at_int (by repeat (first | (with_reducible exact HR571_0.out) | (with_reducible refine Kd.C_alloc ?_ _) | (with_reducible refine Kd.C_drewN ?_ _) | (with_reducible refine Kd.C_drew ?_) | exact HR571_0.out)) x25_3 p572 q572
              cases e572
              replace p572 := eq_true p572
              replace q572 := eq_true q572
              obtain ⟨Ao67, co67, eo67⟩ := Kd.R_slice HO_22.out
              subst eo67
              have p573 : 0 ≤ ((rd (rd_L1 t557 x24_2) x25_3) : Int) := of_decide_eq_true (by first | (with_reducible assumption) | assumption)
              have q573 : (rd (rd_L1 t557 x24_2) x25_3) < (x22_3.length : Int) := of_decide_eq_true (by first | (with_reducible assumption) | assumption)
              obtain ⟨ad573, e573, hx573_0⟩ := Kd.at_bool (Kd.R_reads' HO_22.out).2.2 (rd (rd_L1 t557 x24_2) x25_3) p573 q573
              (try rw [← Nbq65.out] at hx573_0)
              cases e573
              replace p573 := eq_true p573
              replace q573 := eq_true q573
              go_wp2
              repeat (go_quiet (fail); try go_wp2)
              go_ret
              exact ⟨by first | rfl | (simp [errW_none, errW_some] <;> rfl) | (simp only [← hji7, ← hji8, ← hji50]; first | rfl | (simp [errW_none, errW_some] <;> rfl)) | (simp [*, errW_none, errW_some] <;> rfl), by repeat (first | (with_reducible first | exact HB.out | apply below_alloc | apply pw_below_drewN | apply below_drew1 | refine below_set ?_ GE540.out) | exact HB.out)⟩
             ·replace c66 := Bool.eq_false_iff.mpr c66
              subst c66
              have H1 : (bibelotlaw07_PancakeSteps.l1 k3 t541 t557 (x22_3.set ((rd (rd_L1 t557 x24_2) x25_3) : Int).toNat true) (wrap64 (x23_3 + 1)) x24_2 (wrap64 (x25_3 + 1))) = some r := by rw [if_neg (show ¬ (false = true) by decide)] at H; exact H
              clear H
              have H := H1
              clear H1
              obtain ⟨y574, hy574⟩ : ∃ y_ : List Bool, y_ = (x22_3.set ((rd (rd_L1 t557 x24_2) x25_3) : Int).toNat true) := ⟨_, rfl⟩
              replace H : (bibelotlaw07_PancakeSteps.l1 k3 t541 t557 y574 (wrap64 (x23_3 + 1)) x24_2 (wrap64 (x25_3 + 1))) = some r := by first | (rw [hy574]; with_reducible exact H) | (have H2_ := (Option.bind_some _ _).symm.trans H; rw [hy574]; with_reducible exact H2_) | (have H2_ := (Option.bind_some _ _).symm.trans H; with_reducible exact H2_) | with_reducible exact H | (rw [hy574]; exact H) | exact H
              have Ny574 := Aside0.mk hy574
              clear hy574
              have H' := Aside0.mk H
              clear H
              have p570 : 0 ≤ (x24_2 : Int) := of_decide_eq_true (by first | (with_reducible assumption) | assumption)
              have q570 : x24_2 < (t557.length : Int) := of_decide_eq_true (by first | (with_reducible assumption) | assumption)
              obtain ⟨ad570, A570_0, c570_0, e570, hx570_0, hl570_0, hi570_0⟩ := at_L1 (Kd.S_reads' HO_18.out).2.2 x24_2 p570 q570
              cases e570
              obtain ⟨ce570, hce570, hMe570, hcc570⟩ := Kd.S_get HO_18.out [] x24_2 p570 (by first | exact q570 | exact of_decide_eq_true (by first | (with_reducible assumption) | assumption) | (have e_ := (Kd.S_reads' HO_18.out).1; omega))
              obtain ⟨ve570_0, rfl, ge570_0⟩ := hMe570
              have hv570_0 := hcc570 0 _ rfl
              rw [Nat.add_zero, show ((Kd.slice 3 (Kd.int .i64))).sz = 1 from rfl, Nat.mul_one] at hv570_0
              replace hv570_0 := Option.some.inj (hv570_0.symm.trans hx570_0)
              rw [hv570_0] at ge570_0
              have HL570_0 := Aside0.mk (show Kd.R (Kd.int .i64) 3 _ _ _ _ (rd_L1 t557 x24_2) from ge570_0)
              clear hv570_0 ge570_0
              clear hcc570 hce570
              have HR570_0 := Aside0.mk hi570_0
              have HC570_0 := Aside0.mk hl570_0
              clear hi570_0 hl570_0
              replace p570 := eq_true p570
              replace q570 := eq_true q570
              have p571 : 0 ≤ (x24_2 : Int) := of_decide_eq_true (by first | (with_reducible assumption) | assumption)
              have q571 : x24_2 < (t557.length : Int) := of_decide_eq_true (by first | (with_reducible assumption) | assumption)
              obtain ⟨ad571, A571_0, c571_0, e571, hx571_0, hl571_0, hi571_0⟩ := at_L1 (Kd.S_reads' HO_18.out).2.2 x24_2 p571 q571
              obtain rfl : ad570 = ad571 := (by injection e571)
              obtain ⟨ce571, hce571, hMe571, hcc571⟩ := Kd.S_get HO_18.out [] x24_2 p571 (by first | exact q571 | exact of_decide_eq_true (by first | (with_reducible assumption) | assumption) | (have e_ := (Kd.S_reads' HO_18.out).1; omega))
              obtain ⟨ve571_0, rfl, ge571_0⟩ := hMe571
              have hv571_0 := hcc571 0 _ rfl
              rw [Nat.add_zero, show ((Kd.slice 3 (Kd.int .i64))).sz = 1 from rfl, Nat.mul_one] at hv571_0
              replace hv571_0 := Option.some.inj (hv571_0.symm.trans hx571_0)
              rw [hv571_0] at ge571_0
              have HL571_0 := Aside0.mk (show Kd.R (Kd.int .i64) 3 _ _ _ _ (rd_L1 t557 x24_2) from ge571_0)
              clear hv571_0 ge571_0
              clear hcc571 hce571
              have HR571_0 := Aside0.mk hi571_0
              have HC571_0 := Aside0.mk hl571_0
              clear hi571_0 hl571_0
              replace p571 := eq_true p571
              replace q571 := eq_true q571
              have ea_ := Option.some.inj (hx570_0.symm.trans hx571_0)
              injection ea_ with ea_ en_ ec_
              subst ea_
              subst ec_
              clear en_
              have p572 : 0 ≤ (x25_3 : Int) := of_decide_eq_true (by first | (with_reducible assumption) | assumption)
              have q572 : x25_3 < ((rd_L1 t557 x24_2).length : Int) := of_decide_eq_true (by first | (with_reducible assumption) | assumption)
              obtain ⟨ad572, e572, hx572_0⟩ := Kd.at_int (by repeat (first | (with_reducible exact HR571_0.out) | (with_reducible refine Kd.C_alloc ?_ _) | (with_reducible refine Kd.C_drewN ?_ _) | (with_reducible refine Kd.C_drew ?_) | exact HR571_0.out)) x25_3 p572 q572
              cases e572
              replace p572 := eq_true p572
              replace q572 := eq_true q572
              obtain ⟨Ao69, co69, eo69⟩ := Kd.R_slice HO_22.out
              subst eo69
              have p573 : 0 ≤ ((rd (rd_L1 t557 x24_2) x25_3) : Int) := of_decide_eq_true (by first | (with_reducible assumption) | assumption)
              have q573 : (rd (rd_L1 t557 x24_2) x25_3) < (x22_3.length : Int) := of_decide_eq_true (by first | (with_reducible assumption) | assumption)
              obtain ⟨ad573, e573, hx573_0⟩ := Kd.at_bool (Kd.R_reads' HO_22.out).2.2 (rd (rd_L1 t557 x24_2) x25_3) p573 q573
              (try rw [← Nbq65.out] at hx573_0)
              cases e573
              replace p573 := eq_true p573
              replace q573 := eq_true q573
              have p68 : 0 ≤ ((rd (rd_L1 t557 x24_2) x25_3) : Int) := of_decide_eq_true (by first | (with_reducible assumption) | assumption)
              have q68 : ((rd (rd_L1 t557 x24_2) x25_3) : Int) < ((x22_3.length : Int) : Int) := of_decide_eq_true (by first | (with_reducible assumption) | assumption)
              obtain ⟨go68, co68, eo68, gb68, gl68, cl68, HG68⟩ := Kd.R_form HO_22.out (by omega)
              (first | cases eo68 | (injection eo68 with ea_ en_ ec_; (first | subst ea_ | (injection ea_ with ea_; subst ea_)); subst ec_; clear en_))
              have GB68 := Aside0.mk gb68
              have GG68 := Aside0.mk HG68
              clear gb68 gl68 HG68
              (first | simp only [add_plain] at hx573_0 | skip)
              obtain ⟨hx68_0, hf68_0⟩ := Kd.R_celln false HO_22.out ((rd (rd_L1 t557 x24_2) x25_3) : Int) p68 q68
              replace p68 := eq_true p68
              replace q68 := eq_true q68
              have HP70 := Kd.R_putg HO_22.out ((rd (rd_L1 t557 x24_2) x25_3) : Int) true
              go_wp2_with (first|((with_reducible refine gate_store (t := 4) (p := 184) rfl ?_);(try (rw [drewN_self wr];generalize hq_ : World.drewN wr _ = wr;have n0_ := Aside0.mk (Kd.S_at hq_ HO_18.out);have n1_ := Aside0.mk (Kd.R_at hq_ HO_22.out);have n2_ := Aside0.mk (Kd.R_at hq_ HL570_0.out);have n3_ := Aside0.mk (Kd.R_at hq_ HL571_0.out);have n4_ := Aside0.mk (blk_at hq_ BK540.out);have n5_ := Aside0.mk (below_at hq_ HB.out);clear hq_ HO_18 HO_22 HL570_0 HL571_0 BK540 HB;have HO_18 := n0_;have HO_22 := n1_;have HL570_0 := n2_;have HL571_0 := n3_;have BK540 := n4_;have HB := n5_;clear n0_ n1_ n2_ n3_ n4_ n5_;(try (have HP70 := Kd.R_putg HO_22.out ((rd (rd_L1 t557 x24_2) x25_3) : Int) true))));refine store_event (t := 4) (p := 184) (v := ?vo_w71) (w1 := (wr.setCell ⟨go68, ((rd (rd_L1 t557 x24_2) x25_3) : Int).toNat, none⟩ (.bool true))) ?hg ?ho ?hn ?hr ?_;(case ho => rfl);(case hg => rfl);(case hn => rfl);(case hr => first|(go_simp;done)|(go_simp;rfl));intro w71 hw;have hg : wr.grownBy w71 (some go68) := (by rw [hw];exact HP70.2);have hp_ : Kd.R Kd.bool 4 w71 w.heap.size (fun _ => True) (.slice (some ⟨go68, 0, none⟩) x22_3.length co69) y574 := (by rw [hw, Ny574.out];exact HP70.1);clear HP70;have n0_ := Aside0.mk (Kd.S_over' (v := (.slice (some ⟨go68, 0, none⟩) x22_3.length co69)) (by (with_reducible repeat (first|apply Kd.S_alloc|apply Kd.S_drewN|apply Kd.S_drew));exact HO_18.out) (Kd.R_typed HO_22.out) (by decide) hg);have n1_ := Aside0.mk (hp_);have n2_ := Aside0.mk (blk_grown (g := gb540) (o := .cells #[.int .i64 a2_0, .int .i64 a2_1] 57 (0, 0)) (by (with_reducible repeat (first|refine blk_drewN ?_ _|refine blk_drew ?_|refine blk_alloc ?_ _));exact BK540.out) hg (Kd.R_ne HO_22.out BK540.out (by decide)));have n3_ := Aside0.mk (Kd.R_over' (v := (.slice (some ⟨go68, 0, none⟩) x22_3.length co69)) (by (with_reducible repeat (first|apply Kd.R_alloc|apply Kd.R_drewN|apply Kd.R_drew));exact HL570_0.out) (Kd.R_typed HO_22.out) (by decide) hg);have n4_ := Aside0.mk (Kd.R_over' (v := (.slice (some ⟨go68, 0, none⟩) x22_3.length co69)) (by (with_reducible repeat (first|apply Kd.R_alloc|apply Kd.R_drewN|apply Kd.R_drew));exact HL571_0.out) (Kd.R_typed HO_22.out) (by decide) hg);have n5_ := Aside0.mk ((by rw [hw];exact below_set (HB.out) GB68.out : Below w.heap.size w w71));clear HO_18;clear HO_22;clear BK540;clear HL570_0;clear HL571_0;clear HB;have HO_18 := n0_;have HO_22 := n1_;have BK540 := n2_;have HL570_0 := n3_;have HL571_0 := n4_;have HB := n5_;clear n0_ n1_ n2_ n3_ n4_ n5_;clear hg hw hp_))
              repeat (go_quiet (first|((with_reducible refine gate_store (t := 4) (p := 184) rfl ?_);(try (rw [drewN_self wr];generalize hq_ : World.drewN wr _ = wr;have n0_ := Aside0.mk (Kd.S_at hq_ HO_18.out);have n1_ := Aside0.mk (Kd.R_at hq_ HO_22.out);have n2_ := Aside0.mk (Kd.R_at hq_ HL570_0.out);have n3_ := Aside0.mk (Kd.R_at hq_ HL571_0.out);have n4_ := Aside0.mk (blk_at hq_ BK540.out);have n5_ := Aside0.mk (below_at hq_ HB.out);clear hq_ HO_18 HO_22 HL570_0 HL571_0 BK540 HB;have HO_18 := n0_;have HO_22 := n1_;have HL570_0 := n2_;have HL571_0 := n3_;have BK540 := n4_;have HB := n5_;clear n0_ n1_ n2_ n3_ n4_ n5_;(try (have HP70 := Kd.R_putg HO_22.out ((rd (rd_L1 t557 x24_2) x25_3) : Int) true))));refine store_event (t := 4) (p := 184) (v := ?vo_w71) (w1 := (wr.setCell ⟨go68, ((rd (rd_L1 t557 x24_2) x25_3) : Int).toNat, none⟩ (.bool true))) ?hg ?ho ?hn ?hr ?_;(case ho => rfl);(case hg => rfl);(case hn => rfl);(case hr => first|(go_simp;done)|(go_simp;rfl));intro w71 hw;have hg : wr.grownBy w71 (some go68) := (by rw [hw];exact HP70.2);have hp_ : Kd.R Kd.bool 4 w71 w.heap.size (fun _ => True) (.slice (some ⟨go68, 0, none⟩) x22_3.length co69) y574 := (by rw [hw, Ny574.out];exact HP70.1);clear HP70;have n0_ := Aside0.mk (Kd.S_over' (v := (.slice (some ⟨go68, 0, none⟩) x22_3.length co69)) (by (with_reducible repeat (first|apply Kd.S_alloc|apply Kd.S_drewN|apply Kd.S_drew));exact HO_18.out) (Kd.R_typed HO_22.out) (by decide) hg);have n1_ := Aside0.mk (hp_);have n2_ := Aside0.mk (blk_grown (g := gb540) (o := .cells #[.int .i64 a2_0, .int .i64 a2_1] 57 (0, 0)) (by (with_reducible repeat (first|refine blk_drewN ?_ _|refine blk_drew ?_|refine blk_alloc ?_ _));exact BK540.out) hg (Kd.R_ne HO_22.out BK540.out (by decide)));have n3_ := Aside0.mk (Kd.R_over' (v := (.slice (some ⟨go68, 0, none⟩) x22_3.length co69)) (by (with_reducible repeat (first|apply Kd.R_alloc|apply Kd.R_drewN|apply Kd.R_drew));exact HL570_0.out) (Kd.R_typed HO_22.out) (by decide) hg);have n4_ := Aside0.mk (Kd.R_over' (v := (.slice (some ⟨go68, 0, none⟩) x22_3.length co69)) (by (with_reducible repeat (first|apply Kd.R_alloc|apply Kd.R_drewN|apply Kd.R_drew));exact HL571_0.out) (Kd.R_typed HO_22.out) (by decide) hg);have n5_ := Aside0.mk ((by rw [hw];exact below_set (HB.out) GB68.out : Below w.heap.size w w71));clear HO_18;clear HO_22;clear BK540;clear HL570_0;clear HL571_0;clear HB;have HO_18 := n0_;have HO_22 := n1_;have BK540 := n2_;have HL570_0 := n3_;have HL571_0 := n4_;have HB := n5_;clear n0_ n1_ n2_ n3_ n4_ n5_;clear hg hw hp_));try go_wp2_with (first|((with_reducible refine gate_store (t := 4) (p := 184) rfl ?_);(try (rw [drewN_self wr];generalize hq_ : World.drewN wr _ = wr;have n0_ := Aside0.mk (Kd.S_at hq_ HO_18.out);have n1_ := Aside0.mk (Kd.R_at hq_ HO_22.out);have n2_ := Aside0.mk (Kd.R_at hq_ HL570_0.out);have n3_ := Aside0.mk (Kd.R_at hq_ HL571_0.out);have n4_ := Aside0.mk (blk_at hq_ BK540.out);have n5_ := Aside0.mk (below_at hq_ HB.out);clear hq_ HO_18 HO_22 HL570_0 HL571_0 BK540 HB;have HO_18 := n0_;have HO_22 := n1_;have HL570_0 := n2_;have HL571_0 := n3_;have BK540 := n4_;have HB := n5_;clear n0_ n1_ n2_ n3_ n4_ n5_;(try (have HP70 := Kd.R_putg HO_22.out ((rd (rd_L1 t557 x24_2) x25_3) : Int) true))));refine store_event (t := 4) (p := 184) (v := ?vo_w71) (w1 := (wr.setCell ⟨go68, ((rd (rd_L1 t557 x24_2) x25_3) : Int).toNat, none⟩ (.bool true))) ?hg ?ho ?hn ?hr ?_;(case ho => rfl);(case hg => rfl);(case hn => rfl);(case hr => first|(go_simp;done)|(go_simp;rfl));intro w71 hw;have hg : wr.grownBy w71 (some go68) := (by rw [hw];exact HP70.2);have hp_ : Kd.R Kd.bool 4 w71 w.heap.size (fun _ => True) (.slice (some ⟨go68, 0, none⟩) x22_3.length co69) y574 := (by rw [hw, Ny574.out];exact HP70.1);clear HP70;have n0_ := Aside0.mk (Kd.S_over' (v := (.slice (some ⟨go68, 0, none⟩) x22_3.length co69)) (by (with_reducible repeat (first|apply Kd.S_alloc|apply Kd.S_drewN|apply Kd.S_drew));exact HO_18.out) (Kd.R_typed HO_22.out) (by decide) hg);have n1_ := Aside0.mk (hp_);have n2_ := Aside0.mk (blk_grown (g := gb540) (o := .cells #[.int .i64 a2_0, .int .i64 a2_1] 57 (0, 0)) (by (with_reducible repeat (first|refine blk_drewN ?_ _|refine blk_drew ?_|refine blk_alloc ?_ _));exact BK540.out) hg (Kd.R_ne HO_22.out BK540.out (by decide)));have n3_ := Aside0.mk (Kd.R_over' (v := (.slice (some ⟨go68, 0, none⟩) x22_3.length co69)) (by (with_reducible repeat (first|apply Kd.R_alloc|apply Kd.R_drewN|apply Kd.R_drew));exact HL570_0.out) (Kd.R_typed HO_22.out) (by decide) hg);have n4_ := Aside0.mk (Kd.R_over' (v := (.slice (some ⟨go68, 0, none⟩) x22_3.length co69)) (by (with_reducible repeat (first|apply Kd.R_alloc|apply Kd.R_drewN|apply Kd.R_drew));exact HL571_0.out) (Kd.R_typed HO_22.out) (by decide) hg);have n5_ := Aside0.mk ((by rw [hw];exact below_set (HB.out) GB68.out : Below w.heap.size w w71));clear HO_18;clear HO_22;clear BK540;clear HL570_0;clear HL571_0;clear HB;have HO_18 := n0_;have HO_22 := n1_;have BK540 := n2_;have HL570_0 := n3_;have HL571_0 := n4_;have HB := n5_;clear n0_ n1_ n2_ n3_ n4_ n5_;clear hg hw hp_)))
              go_roundg k3
              case measure => have := HJ16.out; have := HK2.out; have := HK3.out; omega
              case rel => exact ⟨(y574), (wrap64 (x23_3 + 1)), (wrap64 (x25_3 + 1)), (by first|rfl|(simp;done)|(simp [*];done)), (by first|rfl|(simp;done)|(simp [*];done)), H', ⟨by have := HJ16.out;have := HK2.out;have := HK3.out;omega⟩, ⟨by (with_reducible repeat (first|apply Kd.S_alloc|apply Kd.S_drewN|apply Kd.S_drew));exact HO_18.out⟩, ⟨by (with_reducible repeat (first|apply Kd.R_alloc|apply Kd.R_drewN|apply Kd.R_drew));exact HO_22.out⟩, ⟨by (with_reducible repeat (first|refine blk_drewN ?_ _|refine blk_drew ?_|refine blk_alloc ?_ _));exact BK540.out⟩, ⟨by repeat (first|(with_reducible first|exact HB.out|apply below_alloc|apply pw_below_drewN|apply below_drew1|refine below_set ?_ GE540.out)|exact HB.out)⟩⟩
          ·rw [if_neg c59] at H
           have c59b0 : decide (x25_3 < ((rd_L1 t557 x24_2).length : Int)) = false := decide_eq_false c59
           clear c59
           have H' := Aside0.mk H
           clear H
           have p570 : 0 ≤ (x24_2 : Int) := of_decide_eq_true (by first | (with_reducible assumption) | assumption)
           have q570 : x24_2 < (t557.length : Int) := of_decide_eq_true (by first | (with_reducible assumption) | assumption)
           obtain ⟨ad570, A570_0, c570_0, e570, hx570_0, hl570_0, hi570_0⟩ := at_L1 (Kd.S_reads' HO_18.out).2.2 x24_2 p570 q570
           cases e570
           obtain ⟨ce570, hce570, hMe570, hcc570⟩ := Kd.S_get HO_18.out [] x24_2 p570 (by first | exact q570 | exact of_decide_eq_true (by first | (with_reducible assumption) | assumption) | (have e_ := (Kd.S_reads' HO_18.out).1; omega))
           obtain ⟨ve570_0, rfl, ge570_0⟩ := hMe570
           have hv570_0 := hcc570 0 _ rfl
           rw [Nat.add_zero, show ((Kd.slice 3 (Kd.int .i64))).sz = 1 from rfl, Nat.mul_one] at hv570_0
           replace hv570_0 := Option.some.inj (hv570_0.symm.trans hx570_0)
           rw [hv570_0] at ge570_0
           have HL570_0 := Aside0.mk (show Kd.R (Kd.int .i64) 3 _ _ _ _ (rd_L1 t557 x24_2) from ge570_0)
           clear hv570_0 ge570_0
           clear hcc570 hce570
           have HR570_0 := Aside0.mk hi570_0
           have HC570_0 := Aside0.mk hl570_0
           clear hi570_0 hl570_0
           replace p570 := eq_true p570
           replace q570 := eq_true q570
           go_wp2
           repeat (go_quiet (fail); try go_wp2)
           go_roundg k3
           case measure => have := HJ16.out; have := HK2.out; have := HK3.out; omega
           case rel => exact ⟨(x22_3), (x23_3), (wrap64 (x24_2 + 1)), (by first|rfl|(simp;done)|(simp [*];done)), (by first|rfl|(simp;done)|(simp [*];done)), H', ⟨by have := HJ16.out;have := HK2.out;have := HK3.out;omega⟩, ⟨by (with_reducible repeat (first|apply Kd.S_alloc|apply Kd.S_drewN|apply Kd.S_drew));exact HO_18.out⟩, ⟨by (with_reducible repeat (first|apply Kd.R_alloc|apply Kd.R_drewN|apply Kd.R_drew));exact HO_22.out⟩, ⟨by (with_reducible repeat (first|refine blk_drewN ?_ _|refine blk_drew ?_|refine blk_alloc ?_ _));exact BK540.out⟩, ⟨by repeat (first|(with_reducible first|exact HB.out|apply below_alloc|apply pw_below_drewN|apply below_drew1|refine below_set ?_ GE540.out)|exact HB.out)⟩⟩
       ·rw [if_neg c55] at H
        have c55b0 : decide (x24_2 < (t557.length : Int)) = false := decide_eq_false c55
        clear c55
        by_cases c72 : x23_2 = (wrap64 (t541 + 1))
        ·subst c72
         rw [if_pos rfl] at H
         replace H := Option.bind_eq_some_iff.mp H
         obtain ⟨t569, A730, H⟩ := H
         replace H : (some t569) = some r := H
         have A73 := Aside0.mk A730
         clear A730
         obtain rfl := Option.some.inj H
         obtain ⟨Ao74, co74, eo74⟩ := Kd.S_slice HO_18.out
         subst eo74
         go_wp2_with (first|(go_at_call 26;(with_reducible refine (bibelotlaw07_awake.calls  t569 _ A73.out).mono ?_);rintro e w75 ⟨rfl, hb⟩;have n0_ := Aside0.mk (Kd.S_below (by (with_reducible repeat (first|apply Kd.S_alloc|apply Kd.S_drewN|apply Kd.S_drew));exact HO_18.out) hb);have n1_ := Aside0.mk (Kd.R_below (by (with_reducible repeat (first|apply Kd.R_alloc|apply Kd.R_drewN|apply Kd.R_drew));exact HO_22.out) hb);have n2_ := Aside0.mk (blk_below (g := gb540) (o := .cells #[.int .i64 a2_0, .int .i64 a2_1] 57 (0, 0)) (by (with_reducible repeat (first|refine blk_drewN ?_ _|refine blk_drew ?_|refine blk_alloc ?_ _));exact BK540.out) hb);have n3_ := Aside0.mk (below_step (by repeat (first|(with_reducible first|exact HB.out|apply below_alloc|apply pw_below_drewN|apply below_drew1|refine below_set ?_ GE540.out)|exact HB.out)) hb);clear HO_18;clear HO_22;clear BK540;clear HB;have HO_18 := n0_;have HO_22 := n1_;have BK540 := n2_;have HB := n3_;clear n0_ n1_ n2_ n3_;(try clear hb);(try clear hb2);(try clear hk);(try clear hi)))
         repeat (go_quiet (first|(go_at_call 26;(with_reducible refine (bibelotlaw07_awake.calls  t569 _ A73.out).mono ?_);rintro e w75 ⟨rfl, hb⟩;have n0_ := Aside0.mk (Kd.S_below (by (with_reducible repeat (first|apply Kd.S_alloc|apply Kd.S_drewN|apply Kd.S_drew));exact HO_18.out) hb);have n1_ := Aside0.mk (Kd.R_below (by (with_reducible repeat (first|apply Kd.R_alloc|apply Kd.R_drewN|apply Kd.R_drew));exact HO_22.out) hb);have n2_ := Aside0.mk (blk_below (g := gb540) (o := .cells #[.int .i64 a2_0, .int .i64 a2_1] 57 (0, 0)) (by (with_reducible repeat (first|refine blk_drewN ?_ _|refine blk_drew ?_|refine blk_alloc ?_ _));exact BK540.out) hb);have n3_ := Aside0.mk (below_step (by repeat (first|(with_reducible first|exact HB.out|apply below_alloc|apply pw_below_drewN|apply below_drew1|refine below_set ?_ GE540.out)|exact HB.out)) hb);clear HO_18;clear HO_22;clear BK540;clear HB;have HO_18 := n0_;have HO_22 := n1_;have BK540 := n2_;have HB := n3_;clear n0_ n1_ n2_ n3_;(try clear hb);(try clear hb2);(try clear hk);(try clear hi)));try go_wp2_with (first|(go_at_call 26;(with_reducible refine (bibelotlaw07_awake.calls  t569 _ A73.out).mono ?_);rintro e w75 ⟨rfl, hb⟩;have n0_ := Aside0.mk (Kd.S_below (by (with_reducible repeat (first|apply Kd.S_alloc|apply Kd.S_drewN|apply Kd.S_drew));exact HO_18.out) hb);have n1_ := Aside0.mk (Kd.R_below (by (with_reducible repeat (first|apply Kd.R_alloc|apply Kd.R_drewN|apply Kd.R_drew));exact HO_22.out) hb);have n2_ := Aside0.mk (blk_below (g := gb540) (o := .cells #[.int .i64 a2_0, .int .i64 a2_1] 57 (0, 0)) (by (with_reducible repeat (first|refine blk_drewN ?_ _|refine blk_drew ?_|refine blk_alloc ?_ _));exact BK540.out) hb);have n3_ := Aside0.mk (below_step (by repeat (first|(with_reducible first|exact HB.out|apply below_alloc|apply pw_below_drewN|apply below_drew1|refine below_set ?_ GE540.out)|exact HB.out)) hb);clear HO_18;clear HO_22;clear BK540;clear HB;have HO_18 := n0_;have HO_22 := n1_;have BK540 := n2_;have HB := n3_;clear n0_ n1_ n2_ n3_;(try clear hb);(try clear hb2);(try clear hk);(try clear hi))))
         go_ret
         exact ⟨by first | rfl | (simp [errW_none, errW_some] <;> rfl) | (simp only [← hji7, ← hji8, ← hji50]; first | rfl | (simp [errW_none, errW_some] <;> rfl)) | (simp [*, errW_none, errW_some] <;> rfl), by repeat (first | (with_reducible first | exact HB.out | apply below_alloc | apply pw_below_drewN | apply below_drew1 | refine below_set ?_ GE540.out) | exact HB.out)⟩
        ·rw [if_neg c72] at H
         have c72b0 : (x23_2 == (wrap64 (t541 + 1))) = false := beq_eq_false_iff_ne.mpr c72
         have c72b1 : (x23_2 != (wrap64 (t541 + 1))) = true := bne_iff_ne.mpr c72
         obtain rfl := Option.some.inj H
         obtain ⟨Ao76, co76, eo76⟩ := Kd.S_slice HO_18.out
         subst eo76
         go_wp2
         repeat (go_quiet (fail); try go_wp2)
         go_ret
         exact ⟨by first | rfl | (simp [errW_none, errW_some] <;> rfl) | (simp only [← hji7, ← hji8, ← hji50]; first | rfl | (simp [errW_none, errW_some] <;> rfl)) | (simp [*, errW_none, errW_some] <;> rfl), by repeat (first | (with_reducible first | exact HB.out | apply below_alloc | apply pw_below_drewN | apply below_drew1 | refine below_set ?_ GE540.out) | exact HB.out)⟩
end Go.Proofs.Ytepjhdblmghckaa.Q


namespace Go.Proofs.Ytepjhdblmghckaa.G
set_option linter.unusedVariables false
def Pt (M : Nat) (lab : Nat → Nat) (z u v : Nat) : Prop := (∃ y, u < y ∧ y < v ∧ lab y = z) ∧ ∃ y, y < M ∧ (y < u ∨ v < y) ∧ lab y = z
def Smg (M : Nat) (lab : Nat → Nat) (z u v : Nat) : Prop := ¬ Pt M lab z u v ∧ ¬ Pt M lab z v u
theorem Smg.symm {M : Nat} {lab : Nat → Nat} {z u v : Nat} (h : Smg M lab z u v) : Smg M lab z v u := ⟨h.2, h.1⟩
theorem Smg.refl (M : Nat) (lab : Nat → Nat) (z u : Nat) : Smg M lab z u u := ⟨fun ⟨⟨y, h1, h2, _⟩, _⟩ => by omega, fun ⟨⟨y, h1, h2, _⟩, _⟩ => by omega⟩
theorem Pt.lt {M : Nat} {lab : Nat → Nat} {z u v : Nat} (h : Pt M lab z u v) : u < v := by obtain ⟨⟨y, h1, h2, _⟩, _⟩ := h; omega
theorem not_sm {M : Nat} {lab : Nat → Nat} {z u v : Nat} (h : ¬ Smg M lab z u v) : Pt M lab z u v ∨ Pt M lab z v u := by
 by_cases h1 : Pt M lab z u v
 ·exact .inl h1
 ·by_cases h2 : Pt M lab z v u
  ·exact .inr h2
  ·exact absurd ⟨h1, h2⟩ h
theorem sm_of_lt {M : Nat} {lab : Nat → Nat} {z u v : Nat} (hlt : u < v) (h : ¬ Pt M lab z u v) : Smg M lab z u v := ⟨h, fun h2 => by have := h2.lt; omega⟩
theorem pt_via {M : Nat} {lab : Nat → Nat} {z a b c : Nat} (ha : a < M) (hb : b < M) (hc : c < M) (hla : lab a ≠ z) (hlb : lab b ≠ z) (hlc : lab c ≠ z) (h : Pt M lab z a c) : ¬ Smg M lab z a b ∨ ¬ Smg M lab z b c := by
 obtain ⟨⟨y, h1, h2, h3⟩, y', h4, h5, h6⟩ := h
 have hby : b ≠ y := fun e => hlb (by rw [e]; exact h3)
 have hby' : b ≠ y' := fun e => hlb (by rw [e]; exact h6)
 by_cases c1 : b < a
 ·rcases h5 with h5 | h5
  ·by_cases c2 : y' < b
   ·exact .inr (fun s => s.1 ⟨⟨y, by omega, by omega, h3⟩, y', h4, .inl (by omega), h6⟩)
   ·exact .inl (fun s => s.2 ⟨⟨y', by omega, by omega, h6⟩, y, by omega, .inr (by omega), h3⟩)
  ·exact .inr (fun s => s.1 ⟨⟨y, by omega, by omega, h3⟩, y', h4, .inr (by omega), h6⟩)
 ·by_cases c3 : c < b
  ·rcases h5 with h5 | h5
   ·exact .inl (fun s => s.1 ⟨⟨y, by omega, by omega, h3⟩, y', h4, .inl (by omega), h6⟩)
   ·by_cases c2 : b < y'
    ·exact .inl (fun s => s.1 ⟨⟨y, by omega, by omega, h3⟩, y', h4, .inr (by omega), h6⟩)
    ·exact .inr (fun s => s.2 ⟨⟨y', by omega, by omega, h6⟩, y, by omega, .inl (by omega), h3⟩)
  ·by_cases c4 : y < b
   ·exact .inl (fun s => s.1 ⟨⟨y, by omega, by omega, h3⟩, y', h4, by omega, h6⟩)
   ·exact .inr (fun s => s.1 ⟨⟨y, by omega, by omega, h3⟩, y', h4, by omega, h6⟩)
theorem Smg.trans {M : Nat} {lab : Nat → Nat} {z a b c : Nat} (ha : a < M) (hb : b < M) (hc : c < M) (hla : lab a ≠ z) (hlb : lab b ≠ z) (hlc : lab c ≠ z) (h1 : Smg M lab z a b) (h2 : Smg M lab z b c) : Smg M lab z a c := by
 refine ⟨fun h => ?_, fun h => ?_⟩
 ·rcases pt_via ha hb hc hla hlb hlc h with h | h
  ·exact h h1
  ·exact h h2
 ·rcases pt_via hc hb ha hlc hlb hla h with h | h
  ·exact h h2.symm
  ·exact h h1.symm
theorem sm_cross {M : Nat} {lab : Nat → Nat} {z a b c d : Nat} (h1 : a < b) (h2 : b < c) (h3 : c < d) (hd : d < M) (la : lab a ≠ z) (lb : lab b ≠ z) (lc : lab c ≠ z) (ld : lab d ≠ z) (s1 : Smg M lab z a c) (s2 : Smg M lab z b d) : Smg M lab z a b := by
 by_cases h : ∃ y, a < y ∧ y < c ∧ lab y = z
 ·
  have ho : Smg M lab z c d := sm_of_lt h3 (fun ⟨⟨y, e1, e2, e3⟩, _⟩ => s1.1 ⟨h, y, by omega, .inr e1, e3⟩)
  exact Smg.trans (by omega) (by omega) (by omega) la lc lb s1 (Smg.trans (by omega) (by omega) (by omega) lc ld lb ho s2.symm)
 ·exact sm_of_lt h1 (fun ⟨⟨y, e1, e2, e3⟩, _⟩ => h ⟨y, e1, by omega, e3⟩)
def Lam (M : Nat) (lab : Nat → Nat) : Prop := ∀ a b c d, a < b → b < c → c < d → d < M → lab a = lab c → lab b = lab d → lab a = lab b
theorem lam_one {M : Nat} {lab : Nat → Nat} (L : Lam M lab) {z u v : Nat} (hu : u < M) (hv : v < M) (h : lab u = lab v) (hz : lab u ≠ z) : Smg M lab z u v := by
 have key : ∀ u v, u < M → v < M → lab u = lab v → lab u ≠ z → ¬ Pt M lab z u v := fun u v hu hv h hz ⟨⟨y, h1, h2, h3⟩, y', h4, h5, h6⟩ => by
  rcases h5 with h5 | h5
  ·have := L y' u y v h5 h1 h2 hv (by rw [h6, h3]) h
   exact hz (by rw [← this, h6])
  ·have := L u y v y' h1 h2 h5 h4 h (by rw [h3, h6])
   exact hz (by rw [this, h3])
 exact ⟨key u v hu hv h hz, key v u hv hu h.symm (by rw [← h]; exact hz)⟩
def Hrd (M : Nat) (lab : Nat → Nat) (S : Nat → Prop) (z : Nat) : Prop := S z ∧ ∀ u v, u < M → v < M → S (lab u) → S (lab v) → lab u ≠ z → lab v ≠ z → Smg M lab z u v
end Go.Proofs.Ytepjhdblmghckaa.G


namespace Go.Proofs.Ytepjhdblmghckaa.G
set_option linter.unusedVariables false
def Far (M : Nat) (lab : Nat → Nat) (S : Nat → Prop) (y0 a w : Nat) : Prop := S (lab w) ∧ lab w ≠ lab a ∧ ¬ Smg M lab (lab a) w y0
open Classical in
noncomputable def farN (M : Nat) (lab : Nat → Nat) (S : Nat → Prop) (y0 a : Nat) : Nat := (List.range M).countP (fun w => decide (Far M lab S y0 a w))
theorem countP_ltx {p q : Nat → Bool} : ∀ {L : List Nat}, (∀ x, x ∈ L → p x = true → q x = true) → (∃ x, x ∈ L ∧ q x = true ∧ p x = false) → L.countP p < L.countP q
 | [], _, ⟨x, hx, _⟩ => by cases hx
 | y :: L, h, ⟨x, hx, h1, h2⟩ => by
  rw [List.countP_cons, List.countP_cons]
  have hle : ∀ L : List Nat, (∀ x, x ∈ L → p x = true → q x = true) → L.countP p ≤ L.countP q := by
   intro L
   induction L with
   | nil => intro _; exact Nat.le_refl _
   | cons z L ih =>
    intro h
    have := ih (fun x hx => h x (List.mem_cons_of_mem _ hx))
    rw [List.countP_cons, List.countP_cons]
    by_cases hz : p z = true
    ·rw [if_pos hz, if_pos (h z (List.mem_cons_self ..) hz)]; omega
    ·rw [if_neg hz]; split <;> omega
  rcases List.mem_cons.1 hx with rfl | hx
  ·have := hle L (fun x hx => h x (List.mem_cons_of_mem _ hx))
   rw [if_neg (by rw [h2]; decide), if_pos h1]; omega
  ·have := countP_ltx (L := L) (fun x hx => h x (List.mem_cons_of_mem _ hx)) ⟨x, hx, h1, h2⟩
   by_cases hy : p y = true
   ·rw [if_pos hy, if_pos (h y (List.mem_cons_self ..) hy)]; omega
   ·rw [if_neg hy]; split <;> omega
section
variable {M : Nat} {lab : Nat → Nat} {S : Nat → Prop} (L : Lam M lab)
include L
theorem far_not {y0 a w : Nat} (hy : y0 < M) (ha : a < M) (hw : w < M) (hay : lab a ≠ lab y0) (h : Far M lab S y0 a w) : lab w ≠ lab y0 := fun e => h.2.2 (lam_one L hw hy e h.2.1)
theorem far_sub {y0 a w x : Nat} (hy : y0 < M) (ha : a < M) (hw : w < M) (hx : x < M) (hay : lab a ≠ lab y0) (h : Far M lab S y0 a w) (hx2 : Far M lab S y0 w x) : Far M lab S y0 a x := by
 obtain ⟨hS, hxw, hn⟩ := hx2
 have hwy := far_not L hy ha hw hay h
 have hs : ∃ s1 s2, s1 < M ∧ s2 < M ∧ lab s1 = lab w ∧ lab s2 = lab w ∧ ((x < s1 ∧ s1 < y0 ∧ (s2 < x ∨ y0 < s2)) ∨ (y0 < s1 ∧ s1 < x ∧ (s2 < y0 ∨ x < s2))) := by
  rcases not_sm hn with ⟨⟨s1, h1, h2, h3⟩, s2, h4, h5, h6⟩ | ⟨⟨s1, h1, h2, h3⟩, s2, h4, h5, h6⟩
  ·exact ⟨s1, s2, by omega, h4, h3, h6, .inl ⟨h1, h2, h5⟩⟩
  ·exact ⟨s1, s2, by omega, h4, h3, h6, .inr ⟨h1, h2, h5⟩⟩
 obtain ⟨s1, s2, hs1, hs2, l1, l2, hord⟩ := hs
 have n1 : lab s1 ≠ lab a := by rw [l1]; exact h.2.1
 have n2 : lab s2 ≠ lab a := by rw [l2]; exact h.2.1
 have g12 : Smg M lab (lab a) s1 s2 := lam_one L hs1 hs2 (by rw [l1, l2]) n1
 have gw1 : Smg M lab (lab a) w s1 := lam_one L hw hs1 l1.symm h.2.1
 have gw2 : Smg M lab (lab a) w s2 := lam_one L hw hs2 l2.symm h.2.1
 have f1 : ¬ Smg M lab (lab a) s1 y0 := fun s => h.2.2 (Smg.trans hw hs1 hy h.2.1 n1 (fun e => hay e.symm) gw1 s)
 have f2 : ¬ Smg M lab (lab a) s2 y0 := fun s => h.2.2 (Smg.trans hw hs2 hy h.2.1 n2 (fun e => hay e.symm) gw2 s)
 have hya : lab y0 ≠ lab a := fun e => hay e.symm
 have hxa : lab x ≠ lab a := fun e => by
  rcases hord with ⟨o1, o2, o3 | o3⟩ | ⟨o1, o2, o3 | o3⟩
  ·rcases not_sm f1 with ⟨⟨t, t1, t2, t3⟩, _⟩ | h'
   ·exact g12.2 ⟨⟨x, o3, o1, e⟩, t, by omega, .inr t1, t3⟩
   ·have := h'.lt; omega
  ·rcases not_sm f1 with ⟨⟨t, t1, t2, t3⟩, _⟩ | h'
   ·exact g12.1 ⟨⟨t, t1, by omega, t3⟩, x, hx, .inl o1, e⟩
   ·have := h'.lt; omega
  ·rcases not_sm f1 with h' | ⟨⟨t, t1, t2, t3⟩, _⟩
   ·have := h'.lt; omega
   ·exact g12.2 ⟨⟨t, by omega, t2, t3⟩, x, hx, .inr o2, e⟩
  ·rcases not_sm f1 with h' | ⟨⟨t, t1, t2, t3⟩, _⟩
   ·have := h'.lt; omega
   ·exact g12.1 ⟨⟨x, o2, o3, e⟩, t, by omega, .inl t2, t3⟩
 refine ⟨hS, hxa, fun s => ?_⟩
 rcases hord with ⟨o1, o2, o3 | o3⟩ | ⟨o1, o2, o3 | o3⟩
 ·have := sm_cross o3 o1 o2 hy n2 hxa n1 hya g12.symm s
  exact f2 (Smg.trans hs2 hx hy n2 hxa hya this s)
 ·have := sm_cross o1 o2 o3 hs2 hxa n1 hya n2 s g12
  exact f1 (Smg.trans hs1 hx hy n1 hxa hya this.symm s)
 ·have := sm_cross o3 o1 o2 hx n2 hya n1 hxa g12.symm s.symm
  exact f2 this
 ·have := sm_cross o1 o2 o3 hs2 hya n1 hxa n2 s.symm g12
  exact f1 this.symm
theorem far_gap {y0 a w : Nat} (hy : y0 < M) (ha : a < M) (hw : w < M) (hay : lab a ≠ lab y0) (h : Far M lab S y0 a w) : Smg M lab (lab y0) a w := by
 have hno : ∀ y, y < M → lab y = lab y0 → ¬ Smg M lab (lab a) w y := fun y hyM e s => h.2.2 (Smg.trans hw hyM hy h.2.1 (by rw [e]; exact fun e => hay e.symm) (fun e => hay e.symm) s (lam_one L hyM hy e (by rw [e]; exact fun e => hay e.symm)))
 refine ⟨fun ⟨⟨y1, a1, a2, a3⟩, y2, b1, b2, b3⟩ => ?_, fun ⟨⟨y1, a1, a2, a3⟩, y2, b1, b2, b3⟩ => ?_⟩
 ·rcases not_sm (hno y1 (by omega) a3) with h' | ⟨⟨t, t1, t2, t3⟩, _⟩
  ·have := h'.lt; omega
  ·rcases b2 with b2 | b2
   ·exact hay (by rw [← b3]; exact (L y2 a y1 t b2 a1 t1 (by omega) (by rw [b3, a3]) t3.symm).symm)
   ·exact hay (by rw [← a3]; exact L a y1 t y2 a1 t1 (by omega) b1 t3.symm (by rw [a3, b3]))
 ·rcases not_sm (hno y1 (by omega) a3) with ⟨⟨t, t1, t2, t3⟩, _⟩ | h'
  ·rcases b2 with b2 | b2
   ·exact hay (by rw [← b3, ← t3]; exact (L y2 t y1 a (by omega) t2 a2 ha (by rw [b3, a3]) t3).symm)
   ·exact hay (by rw [← a3, ← t3]; exact L t y1 a y2 t2 a2 b2 b1 t3 (by rw [a3, b3]))
  ·have := h'.lt; omega
open Classical in
theorem leaf {y0 : Nat} (hy : y0 < M) : ∀ k a, farN M lab S y0 a ≤ k → a < M → S (lab a) → lab a ≠ lab y0 → ∃ b, b < M ∧ lab b ≠ lab y0 ∧ Hrd M lab S (lab b) ∧ Smg M lab (lab y0) a b
 | k, a, hk, ha, hS, hay => by
  by_cases hf : ∃ w, w < M ∧ Far M lab S y0 a w
  ·obtain ⟨w, hw, hfar⟩ := hf
   have hlt : farN M lab S y0 w < farN M lab S y0 a := by
    unfold farN
    refine countP_ltx (fun x hx hp => ?_) ⟨w, List.mem_range.2 hw, decide_eq_true hfar, decide_eq_false (fun h => h.2.1 rfl)⟩
    exact decide_eq_true (far_sub L hy ha hw (List.mem_range.1 hx) hay hfar (of_decide_eq_true hp))
   match k, hk with
   | 0, hk => omega
   | k + 1, hk =>
    have hwy := far_not L hy ha hw hay hfar
    obtain ⟨b, hb, hby, hH, hs⟩ := leaf hy k w (by omega) hw hfar.1 hwy
    exact ⟨b, hb, hby, hH, Smg.trans ha hw hb hay hwy hby (far_gap L hy ha hw hay hfar) hs⟩
  ·refine ⟨a, ha, hay, ⟨hS, fun u v hu hv su sv nu nv => ?_⟩, Smg.refl ..⟩
   have one : ∀ u, u < M → S (lab u) → lab u ≠ lab a → Smg M lab (lab a) u y0 := fun u hu su nu => Classical.byContradiction (fun h => hf ⟨u, hu, su, nu, h⟩)
   exact Smg.trans hu hy hv nu (fun e => hay e.symm) nv (one u hu su nu) (one v hv sv nv).symm
theorem two_gaps {y0 : Nat} (hy : y0 < M) (hSy : S (lab y0)) (hn : ¬ Hrd M lab S (lab y0)) : ∃ a b, a < M ∧ b < M ∧ Hrd M lab S (lab a) ∧ Hrd M lab S (lab b) ∧ lab a ≠ lab y0 ∧ lab b ≠ lab y0 ∧ ¬ Smg M lab (lab y0) a b := by
 have : ∃ u v, u < M ∧ v < M ∧ S (lab u) ∧ S (lab v) ∧ lab u ≠ lab y0 ∧ lab v ≠ lab y0 ∧ ¬ Smg M lab (lab y0) u v := by
  refine Classical.byContradiction (fun h => hn ⟨hSy, fun u v hu hv su sv nu nv => Classical.byContradiction (fun hs => h ⟨u, v, hu, hv, su, sv, nu, nv, hs⟩)⟩)
 obtain ⟨u, v, hu, hv, su, sv, nu, nv, hs⟩ := this
 obtain ⟨a, ha, na, Ha, sa⟩ := leaf L (S := S) hy _ u (Nat.le_refl _) hu su nu
 obtain ⟨b, hb, nb, Hb, sb⟩ := leaf L (S := S) hy _ v (Nat.le_refl _) hv sv nv
 exact ⟨a, b, ha, hb, Ha, Hb, na, nb, fun s => hs (Smg.trans hu ha hv nu na nv sa (Smg.trans ha hb hv na nb nv s sb.symm))⟩
end
end Go.Proofs.Ytepjhdblmghckaa.G


namespace Go.Proofs.Ytepjhdblmghckaa.G
set_option linter.unusedVariables false
def Cov (M : Nat) (lab : Nat → Nat) (one : List Nat) (two : List (Nat × Nat)) (Y : Nat) : Prop := (∃ u, u ∈ one ∧ lab u = Y) ∨ ∃ e, e ∈ two ∧ (lab e.1 = Y ∨ lab e.2 = Y ∨ ¬ Smg M lab Y e.1 e.2)
def Rep (M : Nat) (lab : Nat → Nat) (S : Nat → Prop) (u : Nat) : Prop := Hrd M lab S (lab u) ∧ ∀ x, x < u → lab x ≠ lab u
open Classical in
noncomputable def reps (M : Nat) (lab : Nat → Nat) (S : Nat → Prop) : List Nat := (List.range M).filter (fun u => decide (Rep M lab S u))
open Classical in
theorem mem_reps {M : Nat} {lab : Nat → Nat} {S : Nat → Prop} {u : Nat} : u ∈ reps M lab S ↔ u < M ∧ Rep M lab S u := by
 unfold reps
 rw [List.mem_filter, List.mem_range, decide_eq_true_eq]
noncomputable def repA (M : Nat) (lab : Nat → Nat) (S : Nat → Prop) (k : Nat) : Nat := (reps M lab S).getD k 0
section
variable {M : Nat} {lab : Nat → Nat} {S : Nat → Prop}
theorem repA_mem {k : Nat} (hk : k < (reps M lab S).length) : repA M lab S k < M ∧ Rep M lab S (repA M lab S k) := by
 have : repA M lab S k ∈ reps M lab S := by
  unfold repA
  rw [List.getD_eq_getElem?_getD, List.getElem?_eq_getElem hk]
  exact List.getElem_mem hk
 exact mem_reps.1 this
theorem repA_lt {i j : Nat} (h : i < j) (hj : j < (reps M lab S).length) : repA M lab S i < repA M lab S j := by
 have hp : (reps M lab S).Pairwise (· < ·) := by unfold reps; exact List.pairwise_lt_range.filter _
 have := List.pairwise_iff_getElem.1 hp i j (by omega) hj h
 unfold repA
 rw [List.getD_eq_getElem?_getD, List.getD_eq_getElem?_getD, List.getElem?_eq_getElem (by omega), List.getElem?_eq_getElem hj]
 exact this
theorem first_place (lab : Nat → Nat) : ∀ a, ∃ u, u ≤ a ∧ lab u = lab a ∧ ∀ x, x < u → lab x ≠ lab u := by
 intro a
 induction a using Nat.strongRecOn with
 | ind a ih =>
  by_cases h : ∃ x, x < a ∧ lab x = lab a
  ·obtain ⟨x, hx, e⟩ := h
   obtain ⟨u, hu, e2, hf⟩ := ih x hx
   exact ⟨u, by omega, by rw [e2, e], hf⟩
  ·exact ⟨a, Nat.le_refl _, rfl, fun x hx e => h ⟨x, hx, e⟩⟩
theorem repA_of {a : Nat} (ha : a < M) (h : Hrd M lab S (lab a)) : ∃ k, k < (reps M lab S).length ∧ lab (repA M lab S k) = lab a := by
 obtain ⟨u, hu, e, hf⟩ := first_place lab a
 have hm : u ∈ reps M lab S := mem_reps.2 ⟨by omega, by rw [e]; exact h, hf⟩
 obtain ⟨k, hk, he⟩ := List.getElem_of_mem hm
 refine ⟨k, hk, ?_⟩
 unfold repA
 rw [List.getD_eq_getElem?_getD, List.getElem?_eq_getElem hk]
 show lab ((reps M lab S)[k]) = lab a
 rw [he, e]
variable (L : Lam M lab)
include L
theorem cov_pairs (c r : Nat) (hcr : c + r = (reps M lab S).length) (h1 : r ≤ c) (h2 : c ≤ r + 1) : ∃ two : List (Nat × Nat), two.length = c ∧ (∀ e, e ∈ two → e.1 < M ∧ e.2 < M) ∧ ∀ y, y < M → S (lab y) → Cov M lab [] two (lab y) := by
 have hin : ∀ i, i < c → (repA M lab S i, repA M lab S (i + r)) ∈ (List.range c).map (fun i => (repA M lab S i, repA M lab S (i + r))) := fun i hi => List.mem_map.2 ⟨i, List.mem_range.2 hi, rfl⟩
 refine ⟨(List.range c).map (fun i => (repA M lab S i, repA M lab S (i + r))), by simp, fun e he => ?_, fun y hy hS => ?_⟩
 ·obtain ⟨i, hi, rfl⟩ := List.mem_map.1 he
  rw [List.mem_range] at hi
  exact ⟨(repA_mem (by omega)).1, (repA_mem (by omega)).1⟩
 ·refine .inr ?_
  by_cases hH : Hrd M lab S (lab y)
  ·obtain ⟨k, hk, e⟩ := repA_of hy hH
   by_cases hkc : k < c
   ·exact ⟨_, hin k hkc, .inl e⟩
   ·refine ⟨_, hin (k - r) (by omega), .inr (.inl ?_)⟩
    rw [show k - r + r = k by omega]; exact e
  ·obtain ⟨a, b, ha, hb, Ha, Hb, na, nb, hs⟩ := two_gaps L hy hS hH
   refine Classical.byContradiction (fun hno => hs ?_)
   have hall : ∀ i, i < c → Smg M lab (lab y) (repA M lab S i) (repA M lab S (i + r)) := fun i hi => Classical.byContradiction (fun h => hno ⟨_, hin i hi, .inr (.inr h)⟩)
   have hne : ∀ k, k < (reps M lab S).length → lab (repA M lab S k) ≠ lab y := fun k hk e => hH (by rw [← e]; exact (repA_mem hk).2.1)
   have hlt : ∀ k, k < (reps M lab S).length → repA M lab S k < M := fun k hk => (repA_mem hk).1
   have hstep : ∀ i, i + 1 < c → Smg M lab (lab y) (repA M lab S i) (repA M lab S (i + 1)) := fun i hi => by
    by_cases hr1 : r = 1
    ·have := hall i (by omega)
     rw [hr1] at this
     exact this
    ·have := hall (i + 1) hi
     exact sm_cross (repA_lt (by omega) (by omega)) (repA_lt (show i + 1 < i + r by omega) (by omega)) (repA_lt (show i + r < i + 1 + r by omega) (by omega)) (hlt _ (by omega)) (hne _ (by omega)) (hne _ (by omega)) (hne _ (by omega)) (hne _ (by omega)) (hall i (by omega)) this
   have hz : ∀ k, k < c → Smg M lab (lab y) (repA M lab S 0) (repA M lab S k) := by
    intro k
    induction k with
    | zero => intro _; exact Smg.refl ..
    | succ k ih => intro hk; exact Smg.trans (hlt _ (by omega)) (hlt _ (by omega)) (hlt _ (by omega)) (hne _ (by omega)) (hne _ (by omega)) (hne _ (by omega)) (ih (by omega)) (hstep k hk)
   have hzz : ∀ k, k < (reps M lab S).length → Smg M lab (lab y) (repA M lab S 0) (repA M lab S k) := fun k hk => by
    by_cases hkc : k < c
    ·exact hz k hkc
    ·have h5 := hall (k - r) (by omega)
     rw [show k - r + r = k by omega] at h5
     exact Smg.trans (hlt _ (by omega)) (hlt _ (by omega)) (hlt _ hk) (hne _ (by omega)) (hne _ (by omega)) (hne _ hk) (hz (k - r) (by omega)) h5
   obtain ⟨ka, hka, ea⟩ := repA_of ha Ha
   obtain ⟨kb, hkb, eb⟩ := repA_of hb Hb
   have s1 : Smg M lab (lab y) a (repA M lab S ka) := lam_one L ha (hlt _ hka) ea.symm na
   have s2 : Smg M lab (lab y) (repA M lab S kb) b := lam_one L (hlt _ hkb) hb eb (hne _ hkb)
   have s3 : Smg M lab (lab y) (repA M lab S ka) (repA M lab S kb) := Smg.trans (hlt _ hka) (hlt _ (by omega)) (hlt _ hkb) (hne _ hka) (hne _ (by omega)) (hne _ hkb) (hzz ka hka).symm (hzz kb hkb)
   exact Smg.trans ha (hlt _ hka) hb na (hne _ hka) nb s1 (Smg.trans (hlt _ hka) (hlt _ hkb) hb (hne _ hka) (hne _ hkb) nb s3 s2)
end
def Sup (M : Nat) (lab : Nat → Nat) (S : Nat → Prop) (z : Nat) : Prop := ∃ y, y < M ∧ S (lab y) ∧ ¬ Hrd M lab S (lab y) ∧ lab y ≠ z ∧ Hrd M lab (fun x => S x ∧ x ≠ z) (lab y)
theorem countP_one {p : Nat → Bool} : ∀ {L : List Nat}, L.Nodup → ∀ x, x ∈ L → p x = true → (∀ y, y ∈ L → p y = true → y = x) → L.countP p = 1
 | z :: L, hnd, x, hx, hp, hu => by
  rw [List.nodup_cons] at hnd
  rw [List.countP_cons]
  by_cases hz : p z = true
  ·have e := hu z (List.mem_cons_self ..) hz
   rw [if_pos hz, List.countP_eq_zero.2 (fun y hy hpy => hnd.1 (by rw [e, ← hu y (List.mem_cons_of_mem _ hy) hpy]; exact hy))]
  ·rcases List.mem_cons.1 hx with rfl | hx
   ·exact absurd hp hz
   ·rw [if_neg hz, countP_one hnd.2 x hx hp (fun y hy => hu y (List.mem_cons_of_mem _ hy))]
open Classical in
theorem reps_less {M : Nat} {lab : Nat → Nat} {S : Nat → Prop} {a : Nat} (ha : a < M) (hH : Hrd M lab S (lab a)) (hns : ¬ Sup M lab S (lab a)) : (reps M lab S).length = (reps M lab (fun x => S x ∧ x ≠ lab a)).length + 1 := by
 have hiff : ∀ u, u < M → (Hrd M lab (fun x => S x ∧ x ≠ lab a) (lab u) ↔ Hrd M lab S (lab u) ∧ lab u ≠ lab a) := fun u hu => by
  constructor
  ·intro h
   refine ⟨Classical.byContradiction (fun hn => hns ⟨u, hu, h.1.1, hn, h.1.2, h⟩), h.1.2⟩
  ·rintro ⟨h, hne⟩
   exact ⟨⟨h.1, hne⟩, fun x y hx hy sx sy nx ny => h.2 x y hx hy sx.1 sy.1 nx ny⟩
 obtain ⟨u0, hu0, e0, hf0⟩ := first_place lab a
 unfold reps
 rw [← List.countP_eq_length_filter, ← List.countP_eq_length_filter]
 have hone : (List.range M).countP (fun u => decide (Rep M lab S u ∧ lab u = lab a)) = 1 := by
  refine countP_one List.nodup_range u0 (List.mem_range.2 (by omega)) (decide_eq_true ⟨⟨by rw [e0]; exact hH, hf0⟩, e0⟩) (fun y hy hp => ?_)
  obtain ⟨⟨_, hfy⟩, ey⟩ := of_decide_eq_true hp
  rcases Nat.lt_trichotomy y u0 with h | h | h
  ·exact absurd (by rw [ey, e0]) (hf0 y h)
  ·exact h
  ·exact absurd (by rw [ey, e0]) (hfy u0 h)
 rw [← hone]
 have key : ∀ Q : List Nat, (∀ u, u ∈ Q → u < M) → Q.countP (fun u => decide (Rep M lab S u)) = Q.countP (fun u => decide (Rep M lab (fun x => S x ∧ x ≠ lab a) u)) + Q.countP (fun u => decide (Rep M lab S u ∧ lab u = lab a)) := by
  intro Q
  induction Q with
  | nil => intro _; rfl
  | cons u Q ih =>
   intro hQ
   have hu := hQ u (List.mem_cons_self ..)
   rw [List.countP_cons, List.countP_cons, List.countP_cons, ih (fun x hx => hQ x (List.mem_cons_of_mem _ hx))]
   have e2 : Rep M lab (fun x => S x ∧ x ≠ lab a) u ↔ Rep M lab S u ∧ lab u ≠ lab a := by
    unfold Rep
    rw [hiff u hu]
    exact ⟨fun h => ⟨⟨h.1.1, h.2⟩, h.1.2⟩, fun h => ⟨⟨h.1.1, h.2⟩, h.1.2⟩⟩
   by_cases hr : Rep M lab S u
   ·by_cases hl : lab u = lab a
    ·rw [if_pos (decide_eq_true hr), if_neg (by rw [decide_eq_true_eq, e2]; exact fun h => h.2 hl), if_pos (decide_eq_true ⟨hr, hl⟩)]; omega
    ·rw [if_pos (decide_eq_true hr), if_pos (by rw [decide_eq_true_eq, e2]; exact ⟨hr, hl⟩), if_neg (by rw [decide_eq_true_eq]; exact fun h => hl h.2)]; omega
   ·rw [if_neg (by rw [decide_eq_true_eq]; exact hr), if_neg (by rw [decide_eq_true_eq, e2]; exact fun h => hr h.1), if_neg (by rw [decide_eq_true_eq]; exact fun h => hr h.1)]
    omega
 exact key (List.range M) (fun u hu => List.mem_range.1 hu)
def Fo (M : Nat) (lab : Nat → Nat) (S : Nat → Prop) : Prop := (reps M lab S).length % 2 = 1 ∧ ∀ a, a < M → Hrd M lab S (lab a) → Sup M lab S (lab a)
open Classical in
theorem cov_up {M : Nat} {lab : Nat → Nat} {S : Nat → Prop} (L : Lam M lab) : ∃ (one : List Nat) (two : List (Nat × Nat)), (∀ u, u ∈ one → u < M) ∧ (∀ e, e ∈ two → e.1 < M ∧ e.2 < M) ∧ (∀ y, y < M → S (lab y) → Cov M lab one two (lab y)) ∧ one.length + 2 * two.length ≤ (reps M lab S).length + if Fo M lab S then 1 else 0 := by
 by_cases h2 : (reps M lab S).length % 2 = 1
 ·by_cases hF : ∀ a, a < M → Hrd M lab S (lab a) → Sup M lab S (lab a)
  ·obtain ⟨two, hl, hp, hc⟩ := cov_pairs (S := S) L ((reps M lab S).length / 2 + 1) ((reps M lab S).length / 2) (by omega) (by omega) (by omega)
   exact ⟨[], two, (fun u hu => by cases hu), hp, hc, by rw [if_pos ⟨h2, hF⟩, hl]; simp only [List.length_nil]; omega⟩
  ·have : ∃ a, a < M ∧ Hrd M lab S (lab a) ∧ ¬ Sup M lab S (lab a) := Classical.byContradiction (fun hn => hF (fun a ha hH => Classical.byContradiction (fun hs => hn ⟨a, ha, hH, hs⟩)))
   obtain ⟨a, ha, hH, hs⟩ := this
   have hless := reps_less ha hH hs
   obtain ⟨two, hl, hp, hc⟩ := cov_pairs (S := fun x => S x ∧ x ≠ lab a) L ((reps M lab (fun x => S x ∧ x ≠ lab a)).length / 2) ((reps M lab (fun x => S x ∧ x ≠ lab a)).length / 2) (by omega) (by omega) (by omega)
   refine ⟨[a], two, fun u hu => by rw [List.mem_singleton] at hu; rw [hu]; exact ha, hp, fun y hy hS => ?_, by rw [hl]; simp only [List.length_singleton]; omega⟩
   by_cases e : lab y = lab a
   ·exact .inl ⟨a, List.mem_singleton.2 rfl, e.symm⟩
   ·rcases hc y hy ⟨hS, e⟩ with ⟨u, hu, _⟩ | h
    ·cases hu
    ·exact .inr h
 ·obtain ⟨two, hl, hp, hc⟩ := cov_pairs (S := S) L ((reps M lab S).length / 2) ((reps M lab S).length / 2) (by omega) (by omega) (by omega)
  exact ⟨[], two, (fun u hu => by cases hu), hp, hc, by rw [hl]; simp only [List.length_nil]; omega⟩
end Go.Proofs.Ytepjhdblmghckaa.G


namespace Go.Proofs.Ytepjhdblmghckaa.G
set_option linter.unusedVariables false
theorem pigeon {α : Type} (R : α → Nat → Prop) : ∀ (slots : List α) (Hs : List Nat), Hs.Nodup → (∀ z, z ∈ Hs → ∃ s, s ∈ slots ∧ R s z) → (∀ s z1 z2, z1 ∈ Hs → z2 ∈ Hs → R s z1 → R s z2 → z1 = z2) → Hs.length ≤ slots.length
 | [], Hs, _, h, _ => by
  cases Hs with
  | nil => exact Nat.le_refl _
  | cons z Hs => obtain ⟨s, hs, _⟩ := h z (List.mem_cons_self ..); cases hs
 | s :: t, Hs, hnd, h, hu => by
  by_cases hz : ∃ z, z ∈ Hs ∧ R s z
  ·obtain ⟨z, hz, hR⟩ := hz
   have ih := pigeon R t (Hs.erase z) (hnd.erase z) (fun z' hz' => by
    have hm := (hnd.mem_erase_iff).1 hz'
    obtain ⟨s', hs', hR'⟩ := h z' hm.2
    rcases List.mem_cons.1 hs' with rfl | hs'
    ·exact absurd (hu _ _ _ hm.2 hz hR' hR) hm.1
    ·exact ⟨s', hs', hR'⟩) (fun s z1 z2 h1 h2 => hu s z1 z2 (List.mem_of_mem_erase h1) (List.mem_of_mem_erase h2))
   rw [List.length_erase_of_mem hz] at ih
   have : 0 < Hs.length := List.length_pos_of_mem hz
   rw [List.length_cons]
   omega
  ·have ih := pigeon R t Hs hnd (fun z' hz' => by
    obtain ⟨s', hs', hR'⟩ := h z' hz'
    rcases List.mem_cons.1 hs' with rfl | hs'
    ·exact absurd ⟨z', hz', hR'⟩ hz
    ·exact ⟨s', hs', hR'⟩) hu
   rw [List.length_cons]; omega
def Cl (M : Nat) (lab : Nat → Nat) (S : Nat → Prop) (u z : Nat) : Prop := lab u = z ∨ (lab u ≠ z ∧ ∀ w, w < M → S (lab w) → lab w ≠ z → ¬ Smg M lab z u w)
theorem least_of (P : Nat → Prop) : (∃ n, P n) → ∃ n, P n ∧ ∀ m, m < n → ¬ P m := by
 rintro ⟨n, h⟩
 induction n using Nat.strongRecOn with
 | ind n ih =>
  by_cases h2 : ∃ m, m < n ∧ P m
  ·obtain ⟨m, hm, hp⟩ := h2
   exact ih m hm hp
  ·exact ⟨n, h, fun m hm hp => h2 ⟨m, hm, hp⟩⟩
theorem near {M : Nat} {lab : Nat → Nat} {S : Nat → Prop} {u : Nat} (hu : u < M) (hex : ∃ e, e < M ∧ S (lab e)) : ∃ e, e < M ∧ S (lab e) ∧ ∀ z, S z → Cl M lab S u z → lab u ≠ z → lab e = z ∧ ∀ Y, S Y → lab u ≠ Y → Smg M lab Y u e := by
 by_cases hA : ∃ e, u < e ∧ e < M ∧ S (lab e)
 ·obtain ⟨e, ⟨h1, h2, h3⟩, hmin⟩ := least_of (fun e => u < e ∧ e < M ∧ S (lab e)) hA
  refine ⟨e, h2, h3, fun z hz hcl hne => ?_⟩
  have hle : lab e = z := by
   rcases hcl with h | ⟨_, h⟩
   ·exact absurd h hne
   ·refine Classical.byContradiction (fun hn => ?_)
    rcases not_sm (h e h2 h3 hn) with ⟨⟨t, t1, t2, t3⟩, _⟩ | h'
    ·exact hmin t t2 ⟨t1, by omega, by rw [t3]; exact hz⟩
    ·have := h'.lt; omega
  exact ⟨hle, fun Y hY _ => sm_of_lt h1 (fun ⟨⟨t, t1, t2, t3⟩, _⟩ => hmin t t2 ⟨t1, by omega, by rw [t3]; exact hY⟩)⟩
 ·obtain ⟨e, ⟨h2, h3⟩, hmin⟩ := least_of (fun e => e < M ∧ S (lab e)) hex
  refine ⟨e, h2, h3, fun z hz hcl hne => ?_⟩
  have hcl2 : ∀ w, w < M → S (lab w) → lab w ≠ z → ¬ Smg M lab z u w := hcl.resolve_left hne |>.2
  have huS : ¬ S (lab u) := fun h => hcl2 u hu h hne (Smg.refl ..)
  have heu : e < u := by
   rcases Nat.lt_trichotomy e u with h | h | h
   ·exact h
   ·rw [h] at h3; exact absurd h3 huS
   ·exact absurd ⟨e, h, h2, h3⟩ hA
  have hout : ∀ t, t < M → S (lab t) → ¬ (t < e ∨ u < t) := fun t ht hS h => by
   rcases h with h | h
   ·exact hmin t h ⟨ht, hS⟩
   ·exact hA ⟨t, h, ht, hS⟩
  have hle : lab e = z := by
   refine Classical.byContradiction (fun hn => ?_)
   rcases not_sm (hcl2 e h2 h3 hn) with h' | ⟨_, t, t1, t2, t3⟩
   ·have := h'.lt; omega
   ·exact hout t t1 (by rw [t3]; exact hz) t2
  exact ⟨hle, fun Y hY _ => (sm_of_lt heu (fun ⟨_, t, t1, t2, t3⟩ => hout t t1 (by rw [t3]; exact hY) t2)).symm⟩
theorem cl_uniq {M : Nat} {lab : Nat → Nat} {S : Nat → Prop} {u z1 z2 : Nat} (hu : u < M) (hex : ∃ e, e < M ∧ S (lab e)) (s1 : S z1) (s2 : S z2) (c1 : Cl M lab S u z1) (c2 : Cl M lab S u z2) : z1 = z2 := by
 have one : ∀ z1 z2, S z1 → Cl M lab S u z2 → lab u = z1 → z1 = z2 := fun z1 z2 s1 c2 e => by
  rcases c2 with h | ⟨hn, h⟩
  ·rw [← e, h]
  ·exact absurd (Smg.refl ..) (h u hu (by rw [e]; exact s1) hn)
 by_cases e1 : lab u = z1
 ·exact one z1 z2 s1 c2 e1
 ·by_cases e2 : lab u = z2
  ·exact (one z2 z1 s2 c1 e2).symm
  ·obtain ⟨e, _, _, h⟩ := near (S := S) hu hex
   rw [← (h z1 s1 c1 e1).1, ← (h z2 s2 c2 e2).1]
theorem cl_of {M : Nat} {lab : Nat → Nat} {S : Nat → Prop} {z u v : Nat} (hu : u < M) (hv : v < M) (hz : Hrd M lab S z) (h : ¬ Smg M lab z u v) : Cl M lab S u z ∨ Cl M lab S v z := by
 by_cases e1 : lab u = z
 ·exact .inl (.inl e1)
 ·by_cases e2 : lab v = z
  ·exact .inr (.inl e2)
  ·refine Classical.byContradiction (fun hn => ?_)
   have a1 : ∃ w, w < M ∧ S (lab w) ∧ lab w ≠ z ∧ Smg M lab z u w := Classical.byContradiction (fun h' => hn (.inl (.inr ⟨e1, fun w h1 h2 h3 h4 => h' ⟨w, h1, h2, h3, h4⟩⟩)))
   have a2 : ∃ w, w < M ∧ S (lab w) ∧ lab w ≠ z ∧ Smg M lab z v w := Classical.byContradiction (fun h' => hn (.inr (.inr ⟨e2, fun w h1 h2 h3 h4 => h' ⟨w, h1, h2, h3, h4⟩⟩)))
   obtain ⟨w, w1, w2, w3, w4⟩ := a1
   obtain ⟨x, x1, x2, x3, x4⟩ := a2
   exact h (Smg.trans hu w1 hv e1 w3 e2 w4 (Smg.trans w1 x1 hv w3 x3 e2 (hz.2 w x w1 x1 w2 x2 w3 x3) x4.symm))
def Rs (M : Nat) (lab : Nat → Nat) (S : Nat → Prop) (s : Nat × Bool) (z : Nat) : Prop := if s.2 = true then lab s.1 = lab z else Cl M lab S s.1 (lab z)
def slotsOf (one : List Nat) (two : List (Nat × Nat)) : List (Nat × Bool) := one.map (fun u => (u, true)) ++ two.flatMap (fun e => [(e.1, false), (e.2, false)])
theorem slots_len (one : List Nat) : ∀ two : List (Nat × Nat), (slotsOf one two).length = one.length + 2 * two.length := fun two => by
 unfold slotsOf
 rw [List.length_append, List.length_map, List.length_flatMap]
 have : ∀ t : List (Nat × Nat), (t.map (fun e => [(e.1, false), (e.2, false)].length)).sum = 2 * t.length := by
  intro t
  induction t with
  | nil => rfl
  | cons e t ih => rw [List.map_cons, List.sum_cons, ih, List.length_cons]; simp only [List.length_cons, List.length_nil]; omega
 rw [this]
open Classical in
theorem cov_low {M : Nat} {lab : Nat → Nat} {S : Nat → Prop} (L : Lam M lab) (one : List Nat) (two : List (Nat × Nat)) (h1 : ∀ u, u ∈ one → u < M) (h2 : ∀ e, e ∈ two → e.1 < M ∧ e.2 < M) (hc : ∀ y, y < M → S (lab y) → Cov M lab one two (lab y)) :
  (reps M lab S).length + (if Fo M lab S then 1 else 0) ≤ one.length + 2 * two.length := by
 rw [← slots_len]
 have hnd : (reps M lab S).Nodup := by unfold reps; exact List.nodup_range.filter _
 have hsl : ∀ s, s ∈ slotsOf one two → s.1 < M := fun s hs => by
  unfold slotsOf at hs
  rcases List.mem_append.1 hs with hs | hs
  ·obtain ⟨u, hu, rfl⟩ := List.mem_map.1 hs
   exact h1 u hu
  ·obtain ⟨e, he, hs⟩ := List.mem_flatMap.1 hs
   rcases List.mem_cons.1 hs with rfl | hs
   ·exact (h2 e he).1
   ·rw [List.mem_singleton] at hs; rw [hs]; exact (h2 e he).2
 have in1 : ∀ u, u ∈ one → (u, true) ∈ slotsOf one two := fun u hu => List.mem_append_left _ (List.mem_map.2 ⟨u, hu, rfl⟩)
 have in2 : ∀ e, e ∈ two → (e.1, false) ∈ slotsOf one two ∧ (e.2, false) ∈ slotsOf one two := fun e he => ⟨List.mem_append_right _ (List.mem_flatMap.2 ⟨e, he, by simp⟩), List.mem_append_right _ (List.mem_flatMap.2 ⟨e, he, by simp⟩)⟩
 have cover : ∀ z, z ∈ reps M lab S → ∃ s, s ∈ slotsOf one two ∧ Rs M lab S s z := fun z hz => by
  obtain ⟨hzM, hH, _⟩ := mem_reps.1 hz
  rcases hc z hzM hH.1 with ⟨u, hu, e⟩ | ⟨e, he, h⟩
  ·exact ⟨_, in1 u hu, by unfold Rs; rw [if_pos rfl]; exact e⟩
  ·have hcl : Cl M lab S e.1 (lab z) ∨ Cl M lab S e.2 (lab z) := by
    rcases h with h | h | h
    ·exact .inl (.inl h)
    ·exact .inr (.inl h)
    ·exact cl_of (h2 e he).1 (h2 e he).2 hH h
   rcases hcl with h | h
   ·exact ⟨_, (in2 e he).1, by unfold Rs; rw [if_neg (by simp)]; exact h⟩
   ·exact ⟨_, (in2 e he).2, by unfold Rs; rw [if_neg (by simp)]; exact h⟩
 have same : ∀ z1 z2, z1 ∈ reps M lab S → z2 ∈ reps M lab S → lab z1 = lab z2 → z1 = z2 := fun z1 z2 m1 m2 e => by
  obtain ⟨_, _, f1⟩ := mem_reps.1 m1
  obtain ⟨_, _, f2⟩ := mem_reps.1 m2
  rcases Nat.lt_trichotomy z1 z2 with h | h | h
  ·exact absurd e (f2 z1 h)
  ·exact h
  ·exact absurd e.symm (f1 z2 h)
 have uniq : ∀ s, s ∈ slotsOf one two → ∀ z1 z2, z1 ∈ reps M lab S → z2 ∈ reps M lab S → Rs M lab S s z1 → Rs M lab S s z2 → z1 = z2 := fun s hs z1 z2 m1 m2 r1 r2 => by
  have a1 := mem_reps.1 m1
  have a2 := mem_reps.1 m2
  refine same z1 z2 m1 m2 ?_
  unfold Rs at r1 r2
  by_cases hb : s.2 = true
  ·rw [if_pos hb] at r1 r2; rw [← r1, r2]
  ·rw [if_neg hb] at r1 r2
   exact cl_uniq (hsl s hs) ⟨z1, a1.1, a1.2.1.1⟩ a1.2.1.1 a2.2.1.1 r1 r2
 have pig : ∀ t : List (Nat × Bool), (∀ s, s ∈ t → s ∈ slotsOf one two) → (∀ z, z ∈ reps M lab S → ∃ s, s ∈ t ∧ Rs M lab S s z) → (reps M lab S).length ≤ t.length := fun t ht hcov =>
  pigeon (fun s z => s ∈ slotsOf one two ∧ Rs M lab S s z) t _ hnd (fun z hz => by obtain ⟨s, hs, hr⟩ := hcov z hz; exact ⟨s, hs, ht s hs, hr⟩) (fun s z1 z2 m1 m2 r1 r2 => uniq s r1.1 z1 z2 m1 m2 r1.2 r2.2)
 have base := pig _ (fun s hs => hs) cover
 by_cases hF : Fo M lab S
 ·rw [if_pos hF]
  refine Nat.lt_of_le_of_ne base (fun heq => ?_)
  have waste : ∀ s, s ∈ slotsOf one two → (∀ z, z ∈ reps M lab S → Rs M lab S s z → ∃ s', s' ∈ (slotsOf one two).erase s ∧ Rs M lab S s' z) → False := fun s hs h => by
   have := pig ((slotsOf one two).erase s) (fun s' hs' => List.mem_of_mem_erase hs') (fun z hz => by
    obtain ⟨s', hs', hr⟩ := cover z hz
    by_cases e : s' = s
    ·rw [e] at hr; exact h z hz hr
    ·exact ⟨s', (List.mem_erase_of_ne e).2 hs', hr⟩)
   rw [List.length_erase_of_mem hs] at this
   have : 0 < (slotsOf one two).length := List.length_pos_of_mem hs
   omega
  have used : ∀ s, s ∈ slotsOf one two → ∃ z, z ∈ reps M lab S ∧ Rs M lab S s z := fun s hs => Classical.byContradiction (fun hn => waste s hs (fun z hz hr => absurd ⟨z, hz, hr⟩ hn))
  have apart : ∀ s s', s ∈ slotsOf one two → s' ∈ slotsOf one two → s ≠ s' → ∀ z, z ∈ reps M lab S → Rs M lab S s z → ¬ Rs M lab S s' z := fun s s' hs hs' hne z hz hr hr' =>
   waste s hs (fun z2 hz2 hr2 => ⟨s', (List.mem_erase_of_ne (fun e => hne e.symm)).2 hs', by rw [uniq s hs z2 z hz2 hz hr2 hr]; exact hr'⟩)
  have hone : ∃ u0, u0 ∈ one := by
   cases one with
   | nil =>
    rw [slots_len] at heq
    have := hF.1
    simp only [List.length_nil] at heq
    omega
   | cons u t => exact ⟨u, List.mem_cons_self ..⟩
  obtain ⟨u0, hu0⟩ := hone
  obtain ⟨z0, hz0, hr0⟩ := used _ (in1 u0 hu0)
  obtain ⟨hz0M, hH0, _⟩ := mem_reps.1 hz0
  obtain ⟨y, hyM, hSy, hny, hyz, hH'⟩ := hF.2 z0 hz0M hH0
  rcases hc y hyM hSy with ⟨u1, hu1, e⟩ | ⟨e, he, h⟩
  ·obtain ⟨z, hz, hr⟩ := used _ (in1 u1 hu1)
   unfold Rs at hr
   rw [if_pos rfl] at hr
   exact hny (by rw [← e]; show Hrd M lab S (lab u1); rw [show lab u1 = lab z from hr]; exact (mem_reps.1 hz).2.1)
  ·have self : ∀ u, u < M → lab u = lab y → ∀ z, z ∈ reps M lab S → ¬ Rs M lab S (u, false) z := fun u hu eu z hz hr => by
    unfold Rs at hr
    rw [if_neg (by simp)] at hr
    have hHz := (mem_reps.1 hz).2.1
    rcases hr with hr | ⟨hn, hr⟩
    ·exact hny (by rw [← eu, show lab u = lab z from hr]; exact hHz)
    ·exact hr u hu (by rw [eu]; exact hSy) hn (Smg.refl ..)
   obtain ⟨he1, he2⟩ := h2 e he
   obtain ⟨z1, hz1, hr1⟩ := used _ (in2 e he).1
   obtain ⟨z2, hz2, hr2⟩ := used _ (in2 e he).2
   rcases h with h | h | h
   ·exact self e.1 he1 h z1 hz1 hr1
   ·exact self e.2 he2 h z2 hz2 hr2
   ·by_cases l1 : lab e.1 = lab y
    ·exact self e.1 he1 l1 z1 hz1 hr1
    ·by_cases l2 : lab e.2 = lab y
     ·exact self e.2 he2 l2 z2 hz2 hr2
     ·have hne : (e.1, false) ≠ (e.2, false) := fun hh => by
       have : e.1 = e.2 := congrArg Prod.fst hh
       rw [this] at h
       exact h (Smg.refl ..)
      have n0 : ∀ u z, (u, false) ∈ slotsOf one two → z ∈ reps M lab S → Rs M lab S (u, false) z → lab z ≠ lab z0 := fun u z hu hz hr hh => by
       have := same z z0 hz hz0 hh
       rw [this] at hr
       exact apart (u0, true) (u, false) (in1 u0 hu0) hu (fun hh => by cases hh) z0 hz0 hr0 hr
      have np : ∀ u, u < M → lab u ≠ lab y → ∀ z, z ∈ reps M lab S → Rs M lab S (u, false) z → ∃ p, p < M ∧ lab p = lab z ∧ Smg M lab (lab y) u p := fun u hu hl z hz hr => by
       unfold Rs at hr
       rw [if_neg (by simp)] at hr
       obtain ⟨hzM, hHz, _⟩ := mem_reps.1 hz
       by_cases e1 : lab u = lab z
       ·exact ⟨u, hu, e1, Smg.refl ..⟩
       ·obtain ⟨p, hp, _, hh⟩ := near (S := S) hu ⟨z, hzM, hHz.1⟩
        obtain ⟨a, b⟩ := hh (lab z) hHz.1 hr e1
        exact ⟨p, hp, a, b _ hSy hl⟩
      obtain ⟨p1, hp1, ep1, sp1⟩ := np e.1 he1 l1 z1 hz1 hr1
      obtain ⟨p2, hp2, ep2, sp2⟩ := np e.2 he2 l2 z2 hz2 hr2
      have q1 : lab p1 ≠ lab y := fun hh => hny (by rw [← hh, ep1]; exact (mem_reps.1 hz1).2.1)
      have q2 : lab p2 ≠ lab y := fun hh => hny (by rw [← hh, ep2]; exact (mem_reps.1 hz2).2.1)
      have hs := hH'.2 p1 p2 hp1 hp2 ⟨by rw [ep1]; exact (mem_reps.1 hz1).2.1.1, by rw [ep1]; exact n0 _ _ (in2 e he).1 hz1 hr1⟩ ⟨by rw [ep2]; exact (mem_reps.1 hz2).2.1.1, by rw [ep2]; exact n0 _ _ (in2 e he).2 hz2 hr2⟩ q1 q2
      exact h (Smg.trans he1 hp1 he2 l1 q1 l2 sp1 (Smg.trans hp1 hp2 he2 q1 q2 l2 hs sp2.symm))
 ·rw [if_neg hF]; exact base
end Go.Proofs.Ytepjhdblmghckaa.G


namespace Go.Proofs.Ytepjhdblmghckaa.G
open Go.Proofs.Ytepjhdblmghckaa.Q Go.Proofs.Ytepjhdblmghckaa.K Go.Proofs.Ytepjhdblmghckaa.Bf
open Go.RowKit Go.Proofs.YtepjhdblmghckaaW.PrintWords Go.Proofs.YtepjhdblmghckaaW.PrintLast Go.Proofs.YtepjhdblmghckaaW.PrintMore
set_option linter.unusedVariables false
structure Stk (sg : Bool) (n : Nat) (l : List Int) : Prop where
 len : l.length = n
 rng : ∀ x, x ∈ l → x ≠ 0 ∧ -(n : Int) ≤ x ∧ x ≤ n
 nd : (l.map Int.natAbs).Nodup
 pos : sg = false → ∀ x, x ∈ l → 0 < x
theorem isL_iff (sg : Bool) (n : Nat) : ∀ (l : List Int) (seen : Nat → Bool), isL sg n l seen = true ↔ (∀ x, x ∈ l → 1 ≤ absS sg n x ∧ absS sg n x ≤ n ∧ seen (absS sg n x).toNat = false) ∧ (l.map fun x => (absS sg n x).toNat).Nodup
 | [], seen => by simp [isL]
 | x :: r, seen => by
  rw [isL]
  by_cases hc : absS sg n x < 1 ∨ (n : Int) < absS sg n x ∨ seen (absS sg n x).toNat = true
  ·rw [if_pos hc]
   refine ⟨fun h => (by cases h), fun h => ?_⟩
   have := h.1 x (by simp)
   rcases hc with hc | hc | hc
   ·omega
   ·omega
   ·rw [hc] at this; exact absurd this.2.2 (by simp)
  ·rw [if_neg hc, isL_iff sg n r]
   have h1 : ¬ absS sg n x < 1 := fun h => hc (.inl h)
   have h2 : ¬ (n : Int) < absS sg n x := fun h => hc (.inr (.inl h))
   have h3 : seen (absS sg n x).toNat = false := by
    cases hq : seen (absS sg n x).toNat
    ·rfl
    ·exact absurd (.inr (.inr hq)) hc
   rw [List.map_cons, List.nodup_cons]
   constructor
   ·rintro ⟨h4, h5⟩
    refine ⟨fun y hy => ?_, fun hm => ?_, h5⟩
    ·rcases List.mem_cons.1 hy with rfl | hy
     ·exact ⟨by omega, by omega, h3⟩
     ·have := h4 y hy
      refine ⟨this.1, this.2.1, ?_⟩
      have h6 := this.2.2
      unfold upd at h6
      split at h6
      ·cases h6
      ·exact h6
    ·obtain ⟨y, hy, he⟩ := List.mem_map.1 hm
     have h6 := (h4 y hy).2.2
     rw [he] at h6
     simp [upd] at h6
   ·rintro ⟨h4, h5, h6⟩
    refine ⟨fun y hy => ?_, h6⟩
    have := h4 y (by simp [hy])
    refine ⟨this.1, this.2.1, ?_⟩
    unfold upd
    rw [if_neg (fun he => h5 (List.mem_map.2 ⟨y, hy, he⟩))]
    exact this.2.2
theorem absS_ok {sg : Bool} {n : Nat} {x : Int} : (1 ≤ absS sg n x ∧ absS sg n x ≤ n) ↔ (x ≠ 0 ∧ -(n : Int) ≤ x ∧ x ≤ n ∧ (sg = false → 0 < x)) := by
 unfold absS
 cases sg
 ·simp; omega
 ·simp only [true_and]
  split
  ·simp; omega
  ·simp; omega
theorem absS_nat {sg : Bool} {n : Nat} {x : Int} (h : x ≠ 0 ∧ -(n : Int) ≤ x ∧ x ≤ n ∧ (sg = false → 0 < x)) : (absS sg n x).toNat = x.natAbs := by
 unfold absS
 cases sg
 ·have := h.2.2.2 rfl
  simp; omega
 ·simp only [true_and]
  split <;> omega
theorem isSt_iff {sg : Bool} {most : Int} {l : List Int} : isSt sg most l = true ↔ (1 ≤ l.length ∧ (l.length : Int) ≤ most) ∧ Stk sg l.length l := by
 unfold isSt
 split
 ·rename_i h
  refine ⟨fun e => (by cases e), fun e => ?_⟩
  have := e.1
  omega
 ·rename_i h
  rw [isL_iff]
  constructor
  ·rintro ⟨h1, h2⟩
   have hr : ∀ x, x ∈ l → x ≠ 0 ∧ -(l.length : Int) ≤ x ∧ x ≤ l.length ∧ (sg = false → 0 < x) := fun x hx => absS_ok.1 ⟨(h1 x hx).1, (h1 x hx).2.1⟩
   refine ⟨by omega, ⟨rfl, fun x hx => ⟨(hr x hx).1, (hr x hx).2.1, (hr x hx).2.2.1⟩, ?_, fun hs x hx => (hr x hx).2.2.2 hs⟩⟩
   have e : l.map Int.natAbs = l.map fun x => (absS sg l.length x).toNat := List.map_congr_left (fun x hx => (absS_nat (hr x hx)).symm)
   rw [e]; exact h2
  ·rintro ⟨_, h2⟩
   have hr : ∀ x, x ∈ l → x ≠ 0 ∧ -(l.length : Int) ≤ x ∧ x ≤ l.length ∧ (sg = false → 0 < x) := fun x hx => ⟨(h2.rng x hx).1, (h2.rng x hx).2.1, (h2.rng x hx).2.2, fun hs => h2.pos hs x hx⟩
   refine ⟨fun x hx => ⟨(absS_ok.2 (hr x hx)).1, (absS_ok.2 (hr x hx)).2, rfl⟩, ?_⟩
   have e : (l.map fun x => (absS sg l.length x).toNat) = l.map Int.natAbs := List.map_congr_left (fun x hx => absS_nat (hr x hx))
   rw [e]; exact h2.nd
theorem isSt_stk {sg : Bool} {most : Int} {n : Nat} {l : List Int} (h : Stk sg n l) (h1 : 1 ≤ n) (h2 : (n : Int) ≤ most) : isSt sg most l = true := isSt_iff.2 ⟨⟨by rw [h.len]; exact h1, by rw [h.len]; exact h2⟩, by rw [h.len]; exact h⟩
theorem many_f (a : Int) (m : Nat) (h1 : 1 ≤ m) (h2 : m ≤ 1000) : ∃ n : Nat, 1 ≤ n ∧ n ≤ m ∧ bibelotlaw07_many.f a (m : Int) = some (n : Int) := by
 have hu : IntKind.u64.wrap (m : Int) = (m : Int) := u64_small (by omega) (by omega)
 have hr : 0 ≤ Int.tmod (IntKind.u64.wrap a) (m : Int) ∧ Int.tmod (IntKind.u64.wrap a) (m : Int) < m := ⟨Int.tmod_nonneg _ (u64_nonneg a).1, Int.tmod_lt_of_pos _ (by omega)⟩
 refine ⟨(Int.tmod (IntKind.u64.wrap a) (m : Int)).toNat + 1, by omega, by omega, ?_⟩
 unfold bibelotlaw07_many.f
 rw [hu, if_neg (by omega), w64 (x := Int.tmod (IntKind.u64.wrap a) (m : Int)) (by omega) (by omega), w64 (by omega) (by omega)]
 congr 1
 omega
theorem mem_rowOf (l : List Int) (sg : Bool) : ∀ (x : Nat) (y : Int), y ∈ rowOf l sg x → y ≠ 0 ∧ -(x : Int) ≤ y ∧ y ≤ x ∧ (sg = false → 0 < y)
 | 0, y, h => by cases h
 | x + 1, y, h => by
  have ih := mem_rowOf l sg x
  have hs : rowSg l sg (x + 1) = 1 ∨ (rowSg l sg (x + 1) = -1 ∧ sg = true) := by
   unfold rowSg
   split
   ·rename_i h; exact .inr ⟨rfl, h.2.1⟩
   ·exact .inl rfl
  simp only [rowOf, List.mem_append, List.mem_singleton] at h
  rcases h with (h | h) | h
  ·have := ih y (List.mem_of_mem_take h); exact ⟨this.1, by omega, by omega, this.2.2.2⟩
  ·rcases hs with hs | ⟨hs, hg⟩
   ·rw [hs] at h; refine ⟨by omega, by omega, by omega, fun _ => by omega⟩
   ·rw [hs] at h; refine ⟨by omega, by omega, by omega, fun e => by rw [hg] at e; cases e⟩
  ·have := ih y (List.mem_of_mem_drop h); exact ⟨this.1, by omega, by omega, this.2.2.2⟩
theorem rowOf_nodup (l : List Int) (sg : Bool) : ∀ x : Nat, ((rowOf l sg x).map Int.natAbs).Nodup
 | 0 => List.nodup_nil
 | x + 1 => by
  have ih := rowOf_nodup l sg x
  have hs : (rowSg l sg (x + 1) * ((x + 1 : Nat) : Int)).natAbs = x + 1 := by
   unfold rowSg
   split <;> omega
  have hp : ((rowOf l sg (x + 1)).map Int.natAbs).Perm ((x + 1) :: (rowOf l sg x).map Int.natAbs) := by
   have h1 : (rowOf l sg (x + 1)).Perm (rowSg l sg (x + 1) * ((x + 1 : Nat) : Int) :: rowOf l sg x) := by
    simp only [rowOf]
    have e : rowOf l sg x = (rowOf l sg x).take (rowAt l (x + 1)) ++ (rowOf l sg x).drop (rowAt l (x + 1)) := (List.take_append_drop _ _).symm
    conv => rhs; rw [e]
    rw [List.append_assoc]
    exact List.perm_middle
   have h2 := h1.map Int.natAbs
   rw [List.map_cons, hs] at h2
   exact h2
  rw [hp.nodup_iff, List.nodup_cons]
  refine ⟨fun hm => ?_, ih⟩
  obtain ⟨y, hy, he⟩ := List.mem_map.1 hm
  have := mem_rowOf l sg x y hy
  omega
theorem rowOf_stk (l : List Int) (sg : Bool) (n : Nat) : Stk sg n (rowOf l sg n) :=
 ⟨rowOf_length l sg n, fun x hx => ⟨(mem_rowOf l sg n x hx).1, (mem_rowOf l sg n x hx).2.1, (mem_rowOf l sg n x hx).2.2.1⟩, rowOf_nodup l sg n, fun hs x hx => (mem_rowOf l sg n x hx).2.2.2 hs⟩
theorem row_f (l : List Int) (n : Nat) (sg : Bool) (hn : n ≤ 1000) : bibelotlaw07_row.f l (n : Int) sg = some (rowOf l sg n) := by
 unfold bibelotlaw07_row.f
 rw [if_pos (by omega), Int.toNat_natCast]
theorem ints_l0 (l m : List Int) (hl : l.length ≤ 1000000) (hm : l.length = m.length) : ∀ d i : Nat, i + d = l.length → Ev (fun k => bibelotlaw07_ints.l0 k l m (i : Int)) (decide (l.drop i = m.drop i))
 | 0, i, h => by
  refine Ev.step (f := fun _ => some (decide (l.drop i = m.drop i))) (fun k => ?_) (Ev.now _)
  rw [bibelotlaw07_ints.l0, if_neg (by omega), List.drop_of_length_le (by omega), List.drop_of_length_le (by omega)]
  rfl
 | d + 1, i, h => by
  have ih := ints_l0 l m hl hm d (i + 1) (by omega)
  have e1 := drop_nth l i (by omega)
  have e2 := drop_nth m i (by omega)
  by_cases he : nth l i = nth m i
  ·refine Ev.step (f := fun k => bibelotlaw07_ints.l0 k l m ((i + 1 : Nat) : Int)) (fun k => ?_) ?_
   ·rw [bibelotlaw07_ints.l0, if_pos (by omega), if_pos (by omega), if_pos (by omega), rd_nth, rd_nth, if_pos he, w64 (by omega) (by omega)]
    rfl
   ·have : decide (l.drop i = m.drop i) = decide (l.drop (i + 1) = m.drop (i + 1)) := decide_eq_decide.2 (by rw [e1, e2, List.cons.injEq]; exact ⟨fun h => h.2, fun h => ⟨he, h⟩⟩)
    rw [this]; exact ih
  ·refine Ev.step (f := fun _ => some (decide (l.drop i = m.drop i))) (fun k => ?_) (Ev.now _)
   rw [bibelotlaw07_ints.l0, if_pos (by omega), if_pos (by omega), if_pos (by omega), rd_nth, rd_nth, if_neg he, decide_eq_false (by rw [e1, e2, List.cons.injEq]; exact fun h => he h.1)]
theorem ints_ev (l m : List Int) (hl : l.length ≤ 1000000) : Ev (fun k => bibelotlaw07_ints.f k l m) (decide (l = m)) := by
 by_cases h : l.length = m.length
 ·have := ints_l0 l m hl h l.length 0 (by omega)
  refine Ev.congr (fun k => ?_) this
  unfold bibelotlaw07_ints.f
  rw [if_pos (by omega)]
  rfl
 ·rw [decide_eq_false (fun e => h (by rw [e]))]
  refine Ev.congr (fun k => ?_) (Ev.now false)
  unfold bibelotlaw07_ints.f
  rw [if_neg (by omega)]
end Go.Proofs.Ytepjhdblmghckaa.G


namespace Go.Proofs.Ytepjhdblmghckaa.G
open Go.Proofs.Ytepjhdblmghckaa.Q Go.Proofs.Ytepjhdblmghckaa.K Go.Proofs.Ytepjhdblmghckaa.Bf
open Go.RowKit Go.Proofs.YtepjhdblmghckaaW.PrintWords Go.Proofs.YtepjhdblmghckaaW.PrintLast Go.Proofs.YtepjhdblmghckaaW.PrintMore
set_option linter.unusedVariables false
theorem awake_ev : Ev (fun _ : Nat => bibelotlaw07_awake.f) true := Ev.now true
end Go.Proofs.Ytepjhdblmghckaa.G
