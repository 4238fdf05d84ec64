/- PancakeForts: the components and the distance of rows with many hurdles: a part of the proof (5 of 5): contracts of the functions, and plain lemmas. -/
import Derived.Test.YtepjhdblmghckaaUs
import Derived.Test.YtepjhdblmghckaaEs1
import Derived.Test.YtepjhdblmghckaaEs2
import Derived.Test.YtepjhdblmghckaaEs3
import Derived.Test.YtepjhdblmghckaaEs4
set_option linter.unusedVariables false
set_option linter.unusedSimpArgs false

namespace Go.Proofs.Ytepjhdblmghckaa.G
open Go.Proofs.Ytepjhdblmghckaa.Q Go.Proofs.Ytepjhdblmghckaa.K Go.Proofs.Ytepjhdblmghckaa.Bf
open Go.RowKit Go.Shelf Go.Proofs.YtepjhdblmghckaaW.PrintWords Go.Proofs.YtepjhdblmghckaaW.PrintLast Go.Proofs.YtepjhdblmghckaaW.PrintMore
set_option linter.unusedVariables false
set_option linter.unusedSimpArgs false
def anyNew (now is_ : List Bool) : Bool := (List.range now.length).any fun k => now.getD k false && !is_.getD k false
def badN (l : List Cmp) (k : Nat) : Nat := (List.range k).countP fun i => (l.getD i ([], false)).2
def hurN (is_ : List Bool) (k : Nat) : Nat := (List.range k).countP fun i => is_.getD i false
def supN (p : List Int) (l : List Cmp) (is_ : List Bool) (k : Nat) : Nat := (List.range k).countP fun i => is_.getD i false && anyNew (hurdF p l (i : Int)) is_
theorem countP_step (f : Nat → Bool) (k : Nat) : (List.range (k + 1)).countP f = (List.range k).countP f + (if f k = true then 1 else 0) := by
 rw [List.range_succ, List.countP_append, List.countP_singleton]
theorem countP_le (f : Nat → Bool) (k : Nat) : (List.range k).countP f ≤ k := Nat.le_trans List.countP_le_length (by simp)
def talF (p : List Int) (l : List Cmp) : Nat × Nat × Nat × Bool :=
 (l.length, badN l l.length, hurN (hurdF p l (-1)) l.length, decide (hurN (hurdF p l (-1)) l.length % 2 = 1) && decide (supN p l (hurdF p l (-1)) l.length = hurN (hurdF p l (-1)) l.length))
theorem hurdF_len (p : List Int) (l : List Cmp) (wo : Int) : (hurdF p l wo).length = l.length := outTo_len _ _ _
structure CmpOk (n : Nat) (l : List Cmp) : Prop where
 ne : 0 < l.length
 len : l.length ≤ 100000
 mem : ∀ x, x ∈ l → x.1.length ≤ 100000 ∧ ∀ y, y ∈ x.1 → 0 ≤ y ∧ y ≤ (n : Int)
set_option maxRecDepth 100000 in
set_option maxHeartbeats 8000000 in
theorem tallied_calls (b base : Nat) (s : List Int) (hs : s.length ≤ 40) (hms : ∀ x, x ∈ s → x ≠ 0 ∧ -(s.length : Int) ≤ x ∧ x ≤ s.length) (w : World) (hP : PicOk base b s w) (T : Nat) (hT : T ≤ 100000) (hTot : Tot s.length T (circL s)) (hne : circL s ≠ []) (hcm : CmpOk s.length (cmpL s)) :
  Calls Try.prog 61 #[.pointer (some ⟨b, 0, none⟩)] w fun e w' => e = .returned (.agg #[.int .i64 ((talF (picL s) (cmpL s)).1 : Nat), .int .i64 ((talF (picL s) (cmpL s)).2.1 : Nat), .int .i64 ((talF (picL s) (cmpL s)).2.2.1 : Nat), .bool (talF (picL s) (cmpL s)).2.2.2]) ∧ Below w.heap.size w w' := by
 have HP := Aside0.mk hP
 have HCM := Aside0.mk hcm
 have HMS := Aside0.mk hms
 unfold talF
 simp only
 have HCC := Aside0.mk (fun (W : World) (hW : Below w.heap.size w W) => components_calls b base s hs hms W (hP.below hW) T hT hTot hne)
 have HHC := Aside0.mk (fun (A : Option Addr) (c bl : Nat) (wo : Int) (hwo : -1 ≤ wo ∧ wo ≤ 100000) (W : World) (hW : Below w.heap.size w W) (hl : Kd.R kCmp 110 W bl (fun _ => True) (.slice A (cmpL s).length c) (cmpL s)) => hurdles_calls b base s hs hms W (hP.below hW) A c (cmpL s) bl hl hcm.ne hcm.len hcm.mem wo hwo)
 obtain ⟨l, hl⟩ : ∃ l, cmpL s = l := ⟨_, rfl⟩
 rw [hl] at HCM HCC HHC ⊢
 obtain ⟨p, hp⟩ : ∃ p, picL s = p := ⟨_, rfl⟩
 rw [hp] at HHC ⊢
 obtain ⟨n, hn⟩ : ∃ n, l.length = n := ⟨_, rfl⟩
 have HN := Aside0.mk hn
 rw [hn] at HHC ⊢
 have hn0 : 0 < n := by rw [← hn]; exact HCM.out.ne
 have hn1 : n ≤ 100000 := by rw [← hn]; exact HCM.out.len
 obtain ⟨W0, hW0⟩ : ∃ W0, w.alloc (.cells #[.int .i64 0, .int .i64 0, .int .i64 0, .bool false] 78) = W0 := ⟨_, rfl⟩
 have hB0 : Below w.heap.size w W0 := by rw [← hW0]; exact (Below.refl _ w).alloc (Nat.le_refl _) _
 have HB0 := Aside0.mk hB0
 have HT0 := Aside0.mk (show Blk W0 w.heap.size #[.int .i64 0, .int .i64 0, .int .i64 0, .bool false] 78 by rw [← hW0]; exact Blk.new _ _ _)
 clear hP hcm hms hTot hne hl hp hn hB0
 go_enter Try.func61, Try.ntmps61
 go_upto_region 1 with fail
 try rw [hW0]
 clear hW0
 go_wp2_with (go_at_call 78; refine stopper ?_)
 try unfold Hold
 refine (HCC.out W0 HB0.out).mono ?_
 rintro e w1 ⟨v1, rfl, hv1, hb1⟩
 obtain ⟨A, c, ev⟩ := Kd.R_slice hv1
 rw [HN.out] at ev
 subst ev
 have HV1 := Aside0.mk hv1
 have HB1 := Aside0.mk hb1
 clear hv1 hb1
 go_upto_region 3 with fail
 obtain ⟨W2, hW2⟩ : ∃ W2, w1.alloc (.cells #[.int .i64 (n : Int), .int .i64 0, .int .i64 0, .bool false] 78) = W2 := ⟨_, rfl⟩
 obtain ⟨bt, hbt⟩ : ∃ bt, w1.heap.size = bt := ⟨_, rfl⟩
 have HT2 := Aside0.mk (show Blk W2 bt #[.int .i64 (n : Int), .int .i64 0, .int .i64 0, .bool false] 78 by rw [← hW2, ← hbt]; exact Blk.new _ _ _)
 have HB2 := Aside0.mk (show Below bt w1 W2 by rw [← hW2, ← hbt]; exact (Below.refl _ _).alloc (Nat.le_refl _) _)
 have HBT := Aside0.mk hbt
 have HS2 := Aside0.mk (show W2.heap.size = w1.heap.size + 1 by rw [← hW2]; simp)
 try rw [hW2]
 try rw [hbt]
 clear hW2 hbt
 go_wp2_with (go_at_call 79; refine stopper ?_)
 try unfold Hold
 have hsz1 : W2.heap.size = bt + 1 ∧ w.heap.size < bt ∧ W0.heap.size ≤ bt := by
  have h1 := HT2.out.lt
  have h2 := HB1.out.size
  have h3 := HT0.out.lt
  have h4 := HBT.out
  have h5 : W2.heap.size = w1.heap.size + 1 := HS2.out
  exact ⟨by omega, by omega, by omega⟩
 have HSZ := Aside0.mk hsz1
 have HBW2 := Aside0.mk (show Below w.heap.size w W2 from (HB0.out.trans (HB1.out.mono (by have := HT0.out.lt; omega))).trans (HB2.out.mono (by have := hsz1.2.1; omega)))
 refine (HHC.out A c W0.heap.size (-1) ⟨by omega, by omega⟩ W2 HBW2.out (Kd.R_below HV1.out (by rw [HBT.out]; exact HB2.out))).mono ?_
 rintro e w3 ⟨v3, rfl, hv3, hb3⟩
 have hil : (hurdF p l (-1)).length = n := by rw [hurdF_len, HN.out]
 obtain ⟨is_, his⟩ : ∃ is_, hurdF p l (-1) = is_ := ⟨_, rfl⟩
 rw [his] at hv3 hil
 obtain ⟨Ai, ci, ev⟩ := Kd.R_slice hv3
 rw [hil] at ev
 subst ev
 have HIL := Aside0.mk hil
 have HIS := Aside0.mk his
 have HLR := Aside0.mk (fun (W : World) (hr : Rest bt w3 W) => Kd.R_mono (Kd.R_step (Kd.R_bound (Kd.R_below HV1.out (show Below w1.heap.size w1 W2 by rw [HBT.out]; exact HB2.out) |> fun h => (Kd.R_step (Kd.R_bound HV1.out) (fun k hk hl => HB2.out.block k (by have := hk.2.2.1; have := HBT.out; omega))))) (w1 := W) (fun k hk hl => (hr.other k (by have := hb3.size; omega) (by have := hk.1.2.2.1; have := HBT.out; omega)).trans (hb3.block k hl))) (fun k _ => trivial) (ok' := fun _ => True))
 have HIR := Aside0.mk (fun (W : World) (hr : Rest bt w3 W) => (Kd.R_reads' (Kd.R_step (Kd.R_bound hv3) (w1 := W) (fun k hk hl => hr.other k hl (by have := hk.2.1; have := HSZ.out; omega)))).2.2)
 have HBW3 := Aside0.mk (HBW2.out.trans (hb3.mono (by have := HSZ.out; omega)))
 have HT3 := Aside0.mk (HT2.out.below hb3 (by have := HSZ.out; omega))
 have HR3 := Aside0.mk (show Blk w3 w.heap.size #[.int .i64 0, .int .i64 0, .int .i64 0, .bool false] 78 from ((HT0.out.below HB1.out (HT0.out.lt)).below HB2.out (by have := HSZ.out; omega)).below hb3 (by have := HSZ.out; omega))
 have HS3 := Aside0.mk (show bt < w3.heap.size by have := hb3.size; have := HSZ.out; omega)
 clear hv3 hb3 hil his hsz1
 go_wp2
 go_loopw [6, 21] (fun sv iv wr => ∃ i : Nat, i ≤ n ∧ iv = .int .i64 (i : Int) ∧ sv = .int .i64 ((supN p l is_ i : Nat) : Int) ∧ Aside0 (Blk wr bt #[.int .i64 (n : Int), .int .i64 ((badN l i : Nat) : Int), .int .i64 ((hurN is_ i : Nat) : Int), .bool false] 78) ∧ Aside0 (Rest bt w3 wr)) (fun _ iv _ => n - (intOf iv).toNat)
 case atStart => exact ⟨0, Nat.zero_le _, rfl, rfl, HT3, ⟨Rest.refl _ _⟩⟩
 case round =>
  obtain ⟨i, hi, rfl, rfl, HT, HR⟩ := hrel
  by_cases hlt : i < n
  ·have hi0 : (0 : Int) ≤ (i : Int) := by omega
   have hi1 : (i : Int) < (n : Int) := by omega
   obtain ⟨bb, A', c', rfl, _, _, hc0, hc1⟩ := cmp_at (HLR.out wr HR.out) i hlt
   have HSB := Aside0.mk (countP_step (fun i => (l.getD i ([], false)).2) i)
   have HSH := Aside0.mk (countP_step (fun i => is_.getD i false) i)
   have HSS := Aside0.mk (countP_step (fun i => is_.getD i false && anyNew (hurdF p l (i : Int)) is_) i)
   have HLS := Aside0.mk (show badN l i ≤ i ∧ hurN is_ i ≤ i ∧ supN p l is_ i ≤ i from ⟨countP_le _ _, countP_le _ _, countP_le _ _⟩)
   obtain ⟨bd, hbd⟩ : ∃ bd, (l.getD i ([], false)).2 = bd := ⟨_, rfl⟩
   obtain ⟨xn, hxn⟩ : ∃ xn, (l.getD i ([], false)).1.length = xn := ⟨_, rfl⟩
   rw [hxn] at hc0
   rw [hbd] at hc1
   have HBD := Aside0.mk hbd
   obtain ⟨bN, hbN⟩ : ∃ bN, badN l i = bN := ⟨_, rfl⟩
   obtain ⟨hN, hhN⟩ : ∃ hN, hurN is_ i = hN := ⟨_, rfl⟩
   obtain ⟨sN, hsN⟩ : ∃ sN, supN p l is_ i = sN := ⟨_, rfl⟩
   rw [hbN, hhN, hsN] at HLS
   rw [hbN, hhN] at HT
   have HBN := Aside0.mk hbN
   have HHN := Aside0.mk hhN
   have HSN := Aside0.mk hsN
   have hls := HLS.out
   have hwb : IntKind.i64.wrap ((bN : Int) + 1) = ((bN + 1 : Nat) : Int) := by rw [iw64 (by omega) (by omega)]; omega
   have hwh : IntKind.i64.wrap ((hN : Int) + 1) = ((hN + 1 : Nat) : Int) := by rw [iw64 (by omega) (by omega)]; omega
   have hws : IntKind.i64.wrap ((sN : Int) + 1) = ((sN + 1 : Nat) : Int) := by rw [iw64 (by omega) (by omega)]; omega
   have hwt : IntKind.i64.wrap ((i : Int) + 1) = ((i + 1 : Nat) : Int) := by rw [iw64 (by omega) (by omega)]; omega
   try rw [hsN]
   clear hbd hxn hbN hhN hsN hls
   go_upto_region 8 with fail
   obtain ⟨W5, hW5⟩ : ∃ W5, wr.alloc (.cells #[.slice A' xn c', .bool bd] 110) = W5 := ⟨_, rfl⟩
   have hq1 : W5.cell? ⟨wr.heap.size, 1, none⟩ = some (.bool bd) := by rw [← hW5]; exact (Blk.new wr _ _).cell 1 rfl
   have HB5 := Aside0.mk (show Below wr.heap.size wr W5 by rw [← hW5]; exact (Below.refl _ _).alloc (Nat.le_refl _) _)
   have HT5 := Aside0.mk (HT.out.below HB5.out HT.out.lt)
   have HR5 := Aside0.mk (HR.out.of_below HR.out.size HB5.out)
   try rw [hW5]
   clear hW5 hc0 hc1
   go_upto_if 27 with fail
   go_cut [] from 22 to 62 (fun wc => Aside0 (Blk wc bt #[.int .i64 (n : Int), .int .i64 ((badN l (i + 1) : Nat) : Int), .int .i64 (hN : Int), .bool false] 78) ∧ Aside0 (Rest bt w3 wc))
   case first =>
    have e0 := HT5.out.cell 1 (v := .int .i64 (bN : Int)) rfl
    have e1 := HT5.out.free 1
    have HSB2 := Aside0.mk (show badN l (i + 1) = bN + (if bd = true then 1 else 0) by rw [← HBN.out, ← HBD.out]; exact HSB.out)
    cases bd with
    | true =>
     go_wp2
     go_meet
     case rel => exact ⟨⟨by rw [HSB2.out]; simp only [if_true]; exact HT5.out.set 1 _⟩, ⟨⟨HR5.out.os, HR5.out.tape, HR5.out.output, by simpa [World.setCell] using HR5.out.size, fun k hk hkb => (Below.heap_setCell _ _ _ _ hkb).trans (HR5.out.other k hk hkb)⟩⟩⟩
    | false =>
     go_wp2
     go_meet
     case rel => exact ⟨⟨by rw [HSB2.out]; exact HT5.out⟩, HR5⟩
   case rest =>
    obtain ⟨HTC, HRC⟩ := hcut
    obtain ⟨ad6, e6, hd6⟩ := Kd.at_bool (HIR.out wc HRC.out) (i : Int) hi0 (by have := HIL.out; omega)
    have hgd : rdOf false is_ (i : Int) = is_.getD i false := by unfold rdOf; rw [Int.toNat_natCast]
    rw [hgd, Int.toNat_natCast] at hd6
    subst e6
    obtain ⟨bi, hbi⟩ : ∃ bi, is_.getD i false = bi := ⟨_, rfl⟩
    rw [hbi] at hd6
    have HBI := Aside0.mk hbi
    clear hgd hbi hq1
    cases bi with
    | false =>
     have HH1 := Aside0.mk (show hurN is_ (i + 1) = hN by rw [← HHN.out]; show (List.range (i + 1)).countP _ = _; rw [HSH.out, HBI.out]; rfl)
     have HS1 := Aside0.mk (show supN p l is_ (i + 1) = sN by rw [← HSN.out]; show (List.range (i + 1)).countP _ = _; rw [HSS.out, HBI.out]; rfl)
     go_wp2
     go_roundw
     case rel => exact ⟨i + 1, by omega, rfl, by rw [HS1.out], ⟨by rw [HH1.out]; exact HTC.out⟩, HRC⟩
     case measure => simp [intOf]; omega
    | true =>
     have HH1 := Aside0.mk (show hurN is_ (i + 1) = hN + 1 by rw [← HHN.out]; show (List.range (i + 1)).countP _ = _; rw [HSH.out, HBI.out]; rfl)
     have HS1 := Aside0.mk (show supN p l is_ (i + 1) = sN + (if anyNew (hurdF p l (i : Int)) is_ = true then 1 else 0) by rw [← HSN.out]; show (List.range (i + 1)).countP _ = _; rw [HSS.out, HBI.out, Bool.true_and]; rfl)
     have e0 := HTC.out.cell 2 (v := .int .i64 (hN : Int)) rfl
     have e1 := HTC.out.free 2
     go_upto_region 12 with fail
     obtain ⟨W6, hW6⟩ : ∃ W6, wc.setCell ⟨bt, 2, none⟩ (.int .i64 ((hN : Int) + 1)) = W6 := ⟨_, rfl⟩
     have HT6 := Aside0.mk (show Blk W6 bt #[.int .i64 (n : Int), .int .i64 ((badN l (i + 1) : Nat) : Int), .int .i64 ((hN + 1 : Nat) : Int), .bool false] 78 by rw [← hW6]; exact HTC.out.set 2 _)
     have HR6 := Aside0.mk (show Rest bt w3 W6 by
      rw [← hW6]
      exact ⟨HRC.out.os, HRC.out.tape, HRC.out.output, by simpa [World.setCell] using HRC.out.size, fun k hk hkb => (Below.heap_setCell _ _ _ _ hkb).trans (HRC.out.other k hk hkb)⟩)
     have HB6 := Aside0.mk (show Below w.heap.size w W6 from HR6.out.below HBW3.out HBW3.out.size (by have := HSZ.out; omega))
     try rw [hW6]
     clear hW6 e0 e1 hd6
     go_wp2_with (go_at_call 79; refine stopper ?_)
     try unfold Hold
     refine (HHC.out (some ⟨bb, 0, none⟩) c W0.heap.size (i : Int) ⟨by omega, by omega⟩ W6 HB6.out (HLR.out W6 HR6.out)).mono ?_
     rintro e w7 ⟨v7, rfl, hv7, hb7⟩
     have hnl : (hurdF p l (i : Int)).length = n := by rw [hurdF_len, HN.out]
     obtain ⟨now, hnow⟩ : ∃ now, hurdF p l (i : Int) = now := ⟨_, rfl⟩
     rw [hnow] at hv7 hnl HS1
     obtain ⟨Aw, cw, ev⟩ := Kd.R_slice hv7
     rw [hnl] at ev
     subst ev
     have HNC := Aside0.mk (Kd.R_reads' hv7).2.2
     have HNL := Aside0.mk hnl
     have HT7 := Aside0.mk (HT6.out.below hb7 HT6.out.lt)
     have HR7 := Aside0.mk (HR6.out.of_below HR6.out.size hb7)
     clear hv7 hb7 hnl hnow
     go_wp2
     obtain ⟨wo_, hwo_⟩ : ∃ z, z = wr := ⟨_, rfl⟩
     subst hwo_
     go_loopw [6, 46] (fun sv kv wk => ∃ k : Nat, k ≤ n ∧ kv = .int .i64 (k : Int) ∧ sv = .int .i64 (sN : Int) ∧ wk = w7 ∧ Aside0 (∀ j, j < k → (now.getD j false && !is_.getD j false) = false)) (fun _ kv _ => n - (intOf kv).toNat)
     case atStart => exact ⟨0, Nat.zero_le _, rfl, rfl, rfl, ⟨fun j hj => absurd hj (Nat.not_lt_zero _)⟩⟩
     case round =>
      obtain ⟨k, hk, rfl, rfl, rfl, HA⟩ := hrel
      by_cases hkl : k < n
      ·have hk0 : (0 : Int) ≤ (k : Int) := by omega
       have hk1 : (k : Int) < (n : Int) := by omega
       obtain ⟨adw, ew, hdw⟩ := Kd.at_bool HNC.out (k : Int) hk0 (by have := HNL.out; omega)
       obtain ⟨adi, ei, hdi⟩ := Kd.at_bool (HIR.out wr HR7.out) (k : Int) hk0 (by have := HIL.out; omega)
       have hg1 : rdOf false now (k : Int) = now.getD k false := by unfold rdOf; rw [Int.toNat_natCast]
       have hg2 : rdOf false is_ (k : Int) = is_.getD k false := by unfold rdOf; rw [Int.toNat_natCast]
       rw [hg1, Int.toNat_natCast] at hdw
       rw [hg2, Int.toNat_natCast] at hdi
       subst ew
       cases ei
       have hwk : IntKind.i64.wrap ((k : Int) + 1) = ((k + 1 : Nat) : Int) := by rw [iw64 (by omega) (by omega)]; omega
       obtain ⟨nk, hnk⟩ : ∃ nk, now.getD k false = nk := ⟨_, rfl⟩
       obtain ⟨ik, hik⟩ : ∃ ik, is_.getD k false = ik := ⟨_, rfl⟩
       rw [hnk] at hdw
       rw [hik] at hdi
       have HNK := Aside0.mk hnk
       have HIK := Aside0.mk hik
       clear hg1 hg2 hnk hik
       cases nk with
       | false =>
        go_wp2
        go_roundw
        case rel => exact ⟨k + 1, by omega, rfl, rfl, by first | trivial | rfl, ⟨fun j hj => by
         by_cases e : j = k
         ·subst e; rw [HNK.out]; rfl
         ·exact HA.out j (by omega)⟩⟩
        case measure => simp [intOf]; omega
       | true =>
        cases ik with
        | true =>
         go_wp2
         go_roundw
         case rel => exact ⟨k + 1, by omega, rfl, rfl, by first | trivial | rfl, ⟨fun j hj => by
          by_cases e : j = k
          ·subst e; rw [HIK.out]; simp
          ·exact HA.out j (by omega)⟩⟩
         case measure => simp [intOf]; omega
        | false =>
         have HAN := Aside0.mk (show anyNew now is_ = true by
          unfold anyNew
          rw [List.any_eq_true]
          exact ⟨k, List.mem_range.2 (by rw [HNL.out]; exact hkl), by rw [HNK.out, HIK.out]; rfl⟩)
         go_wp2
         go_roundw
         case rel => exact ⟨i + 1, by omega, rfl, by rw [HS1.out, HAN.out]; simp, ⟨by rw [HH1.out]; exact HT7.out⟩, HR7⟩
         case measure => simp [intOf]; omega
      ·have hk1 : ¬ (k : Int) < (n : Int) := by omega
       have HAN := Aside0.mk (show anyNew now is_ = false by
        unfold anyNew
        rw [List.any_eq_false]
        intro j hj
        rw [List.mem_range, HNL.out] at hj
        rw [HA.out j (by omega)]
        simp)
       go_wp2
       go_roundw
       case rel => exact ⟨i + 1, by omega, rfl, by rw [HS1.out, HAN.out]; simp, ⟨by rw [HH1.out]; exact HT7.out⟩, HR7⟩
       case measure => simp [intOf]; omega
  ·have hi1 : ¬ (i : Int) < (n : Int) := by omega
   have HIN := Aside0.mk (show i = n by omega)
   have hT := HT.out
   rw [HIN.out] at hT ⊢
   obtain ⟨bN, hbN⟩ : ∃ bN, badN l n = bN := ⟨_, rfl⟩
   obtain ⟨hN, hhN⟩ : ∃ hN, hurN is_ n = hN := ⟨_, rfl⟩
   obtain ⟨sN, hsN⟩ : ∃ sN, supN p l is_ n = sN := ⟨_, rfl⟩
   have HLS := Aside0.mk (show hN ≤ n ∧ sN ≤ n from ⟨by rw [← hhN]; exact countP_le _ _, by rw [← hsN]; exact countP_le _ _⟩)
   have HBN := Aside0.mk hbN
   have HHN := Aside0.mk (show hurN (hurdF p l (-1)) n = hN by rw [HIS.out]; exact hhN)
   have HSN := Aside0.mk (show supN p l (hurdF p l (-1)) n = sN by rw [HIS.out]; exact hsN)
   rw [hbN, hhN] at hT
   rw [hsN]
   have HTT := Aside0.mk hT
   have e2 := hT.cell 2 (v := .int .i64 (hN : Int)) rfl
   have e3 := hT.cell 3 (v := .bool false) rfl
   have f3 := hT.free 3
   have hR0 : Blk wr w.heap.size #[.int .i64 0, .int .i64 0, .int .i64 0, .bool false] 78 := (HR.out.other w.heap.size HR3.out.lt (by have := HSZ.out; omega)).trans HR3.out
   have HR0 := Aside0.mk hR0
   have HBW := Aside0.mk (show Below w.heap.size w wr from HR.out.below HBW3.out HBW3.out.size (by have := HSZ.out; omega))
   have hm0 : 0 ≤ (hN : Int) := by omega
   have hwm : IntKind.i64.wrap ((hN : Int) % 2) = (hN : Int) % 2 := iw64 (by omega) (by omega)
   have hwm2 : IntKind.i64.wrap ((hN : Int).tmod 2) = (hN : Int) % 2 := by rw [Int.tmod_eq_emod_of_nonneg hm0]; exact hwm
   have hne : w.heap.size ≠ bt := by have := HSZ.out; omega
   have HNEQ := Aside0.mk hne
   clear hT hbN hhN hsN hR0
   obtain ⟨q1, hq1⟩ : ∃ q1, ((hN : Int) % 2 == 1) = q1 := ⟨_, rfl⟩
   have HQ1 := Aside0.mk (show decide (hN % 2 = 1) = q1 by
    rw [← hq1]
    by_cases e : hN % 2 = 1
    ·rw [decide_eq_true e]; symm; simp; omega
    ·rw [decide_eq_false e]; symm; simp; omega)
   obtain ⟨q2, hq2⟩ : ∃ q2, ((sN : Int) == (hN : Int)) = q2 := ⟨_, rfl⟩
   have HQ2 := Aside0.mk (show decide (sN = hN) = q2 by
    rw [← hq2]
    by_cases e : sN = hN
    ·rw [decide_eq_true e, e]; symm; simp
    ·rw [decide_eq_false e]; symm; simp; omega)
   go_upto_region 19 with fail
   cases q1 with
   | false =>
    go_upto_region 20 with fail
    obtain ⟨W8, hW8⟩ : ∃ W8, wr.setCell ⟨bt, 3, none⟩ (.bool false) = W8 := ⟨_, rfl⟩
    have hT8 : Blk W8 bt #[.int .i64 (n : Int), .int .i64 (bN : Int), .int .i64 (hN : Int), .bool false] 78 := by rw [← hW8]; exact HTT.out.set 3 _
    have HR8 := Aside0.mk (show Blk W8 w.heap.size #[.int .i64 0, .int .i64 0, .int .i64 0, .bool false] 78 by rw [← hW8]; exact HR0.out.setOther HNEQ.out _)
    have HB8 := Aside0.mk (show Below w.heap.size w W8 by rw [← hW8]; exact HBW.out.setCell (by have := HSZ.out; simp only; omega) _)
    have t0 := hT8.cell 0 (v := .int .i64 (n : Int)) rfl
    have t1 := hT8.cell 1 (v := .int .i64 (bN : Int)) rfl
    have t2 := hT8.cell 2 (v := .int .i64 (hN : Int)) rfl
    have t3 := hT8.cell 3 (v := .bool false) rfl
    have r0 := HR8.out.cell 0 (v := .int .i64 0) rfl
    have r1 := HR8.out.cell 1 (v := .int .i64 0) rfl
    have r2 := HR8.out.cell 2 (v := .int .i64 0) rfl
    have r3 := HR8.out.cell 3 (v := .bool false) rfl
    have g0 := HR8.out.free 0
    have g1 := HR8.out.free 1
    have g2 := HR8.out.free 2
    have g3 := HR8.out.free 3
    try rw [hW8]
    clear hW8 hT8 e2 e3 f3 hwm hwm2 hq1 hq2
    go_wp2
    refine bodyPost_ret (results_cell_row rfl _ _ w.heap.size 78 #[.int .i64 (n : Int), .int .i64 (bN : Int), .int .i64 (hN : Int), .bool false] (0, 0) _ rfl (show Blk _ w.heap.size _ 78 from by simpa using (((HR8.out.set 0 (.int .i64 (n : Int))).set 1 (.int .i64 (bN : Int))).set 2 (.int .i64 (hN : Int))).set 3 (.bool false)) Try.underlying78 rfl (by kernel_rfl)) rfl ⟨by rw [HBN.out, HHN.out, HSN.out, HQ1.out, HQ2.out]; simp, (((HB8.out.setCell (Nat.le_refl _) _).setCell (Nat.le_refl _) _).setCell (Nat.le_refl _) _).setCell (Nat.le_refl _) _⟩
   | true =>
    go_upto_region 20 with fail
    obtain ⟨W8, hW8⟩ : ∃ W8, wr.setCell ⟨bt, 3, none⟩ (.bool q2) = W8 := ⟨_, rfl⟩
    have hT8 : Blk W8 bt #[.int .i64 (n : Int), .int .i64 (bN : Int), .int .i64 (hN : Int), .bool q2] 78 := by rw [← hW8]; exact HTT.out.set 3 _
    have HR8 := Aside0.mk (show Blk W8 w.heap.size #[.int .i64 0, .int .i64 0, .int .i64 0, .bool false] 78 by rw [← hW8]; exact HR0.out.setOther HNEQ.out _)
    have HB8 := Aside0.mk (show Below w.heap.size w W8 by rw [← hW8]; exact HBW.out.setCell (by have := HSZ.out; simp only; omega) _)
    have t0 := hT8.cell 0 (v := .int .i64 (n : Int)) rfl
    have t1 := hT8.cell 1 (v := .int .i64 (bN : Int)) rfl
    have t2 := hT8.cell 2 (v := .int .i64 (hN : Int)) rfl
    have t3 := hT8.cell 3 (v := .bool q2) rfl
    have r0 := HR8.out.cell 0 (v := .int .i64 0) rfl
    have r1 := HR8.out.cell 1 (v := .int .i64 0) rfl
    have r2 := HR8.out.cell 2 (v := .int .i64 0) rfl
    have r3 := HR8.out.cell 3 (v := .bool false) rfl
    have g0 := HR8.out.free 0
    have g1 := HR8.out.free 1
    have g2 := HR8.out.free 2
    have g3 := HR8.out.free 3
    try rw [hW8]
    clear hW8 hT8 e2 e3 f3 hwm hwm2 hq1 hq2
    go_wp2
    refine bodyPost_ret (results_cell_row rfl _ _ w.heap.size 78 #[.int .i64 (n : Int), .int .i64 (bN : Int), .int .i64 (hN : Int), .bool q2] (0, 0) _ rfl (show Blk _ w.heap.size _ 78 from by simpa using (((HR8.out.set 0 (.int .i64 (n : Int))).set 1 (.int .i64 (bN : Int))).set 2 (.int .i64 (hN : Int))).set 3 (.bool q2)) Try.underlying78 rfl (by kernel_rfl)) rfl ⟨by rw [HBN.out, HHN.out, HSN.out, HQ1.out, HQ2.out]; simp, (((HB8.out.setCell (Nat.le_refl _) _).setCell (Nat.le_refl _) _).setCell (Nat.le_refl _) _).setCell (Nat.le_refl _) _⟩
end Go.Proofs.Ytepjhdblmghckaa.G


namespace Go.Proofs.Ytepjhdblmghckaa.G
open Go.Proofs.Ytepjhdblmghckaa.Q Go.Proofs.Ytepjhdblmghckaa.K Go.Proofs.Ytepjhdblmghckaa.Bf
open Go.RowKit Go.Shelf Go.Proofs.YtepjhdblmghckaaW.PrintWords Go.Proofs.YtepjhdblmghckaaW.PrintLast Go.Proofs.YtepjhdblmghckaaW.PrintMore
set_option linter.unusedVariables false
set_option linter.unusedSimpArgs false
theorem hop_lt {n : Nat} {p pl : List Int} (hp : ∀ q, 0 ≤ nth p q ∧ nth p q < 2 * (n : Int) + 2) (x : Nat) : hop p pl x < 2 * n + 2 := by
 unfold hop
 have := hp ((nth pl (x ^^^ 1)).toNat ^^^ 1)
 omega
theorem folF_tot {n : Nat} {p pl : List Int} (hp : ∀ q, 0 ≤ nth p q ∧ nth p q < 2 * (n : Int) + 2) : ∀ (k x : Nat) (seen : List Bool) (out : List Int), x < 2 * n + 2 → seen.length = n + 1 → (∀ y, y ∈ out → 0 ≤ y ∧ y ≤ (n : Int)) →
  (folF p pl k x seen out).1.length + unseen (folF p pl k x seen out).2 = out.length + unseen seen ∧ (∀ y, y ∈ (folF p pl k x seen out).1 → 0 ≤ y ∧ y ≤ (n : Int)) ∧ out.length ≤ (folF p pl k x seen out).1.length
 | 0, x, seen, out, _, _, ho => ⟨rfl, ho, Nat.le_refl _⟩
 | k + 1, x, seen, out, hx, hs, ho => by
  rw [folF]
  by_cases hsq : seen.getD (x / 2) false = true
  ·rw [if_pos hsq]; exact ⟨rfl, ho, Nat.le_refl _⟩
  ·rw [if_neg hsq]
   rw [Bool.not_eq_true] at hsq
   have h1 := unseen_set (seen := seen) (j := x / 2) (by omega) hsq
   obtain ⟨i1, i2, i3⟩ := folF_tot hp k (hop p pl x) (seen.set (x / 2) true) (out ++ [((x / 2 : Nat) : Int)]) (hop_lt hp x) (by rw [List.length_set]; exact hs) (fun y hy => by
    rcases List.mem_append.1 hy with hy | hy
    ·exact ho y hy
    ·rw [List.mem_singleton] at hy; omega)
   refine ⟨?_, i2, ?_⟩
   ·rw [i1, List.length_append, List.length_singleton]; omega
   ·rw [List.length_append, List.length_singleton] at i3; omega
structure CirT (n k : Nat) (st : List Bool × List (List Int)) : Prop where
 len : st.1.length = n + 1
 sum : (st.2.map List.length).sum + unseen st.1 = n + 1
 ne : ∀ c, c ∈ st.2 → 0 < c.length
 mem : ∀ c, c ∈ st.2 → ∀ x, x ∈ c → 0 ≤ x ∧ x ≤ (n : Int)
theorem cirTo_tot {n : Nat} {p pl : List Int} (hp : ∀ q, 0 ≤ nth p q ∧ nth p q < 2 * (n : Int) + 2) : ∀ k, k ≤ n + 1 → CirT n k (cirTo p pl n k)
 | 0, _ => by
  refine ⟨by simp [cirTo], ?_, fun c hc => ?_, fun c hc => ?_⟩
  ·simp [cirTo, unseen, List.countP_replicate]
  ·simp [cirTo] at hc
  ·simp [cirTo] at hc
 | k + 1, hk => by
  have h : CirT n k (cirTo p pl n k) := cirTo_tot hp k (by omega)
  rw [cirTo_step]
  unfold cirStep
  by_cases hsq : (cirTo p pl n k).1.getD k false = true
  ·rw [if_pos hsq]; exact ⟨h.len, h.sum, h.ne, h.mem⟩
  ·rw [if_neg hsq]
   obtain ⟨st, hst⟩ : ∃ st, cirTo p pl n k = st := ⟨_, rfl⟩
   rw [hst] at h hsq ⊢
   obtain ⟨i1, i2, i3⟩ := folF_tot (pl := pl) hp (unseen st.1 + 1) (2 * k) st.1 [] (by omega) h.len (fun y hy => by cases hy)
   rw [Bool.not_eq_true] at hsq
   have hpos : 0 < (folF p pl (unseen st.1 + 1) (2 * k) st.1 []).1.length := by
    have e : folF p pl (unseen st.1 + 1) (2 * k) st.1 [] = folF p pl (unseen st.1) (hop p pl (2 * k)) (st.1.set k true) ([] ++ [((k : Nat) : Int)]) := by
     rw [folF, show 2 * k / 2 = k by omega, if_neg (by rw [hsq]; simp)]
    have := (folF_tot (pl := pl) hp (unseen st.1) (hop p pl (2 * k)) (st.1.set k true) ([] ++ [((k : Nat) : Int)]) (hop_lt hp _) (by rw [List.length_set]; exact h.len) (fun y hy => by simp at hy; omega)).2.2
    rw [← e] at this
    simp only [List.nil_append, List.length_singleton] at this
    exact this
   refine ⟨by simp only; rw [folF_len]; exact h.len, ?_, fun c hc => ?_, fun c hc => ?_⟩
   ·simp only [List.map_append, List.map_cons, List.map_nil, List.sum_append, List.sum_cons, List.sum_nil, sortL_len]
    have h2 := h.sum
    simp only [List.length_nil, Nat.zero_add] at i1
    omega
   ·rcases List.mem_append.1 hc with hc | hc
    ·exact h.ne c hc
    ·rw [List.mem_singleton] at hc
     rw [hc, sortL_len]
     exact hpos
   ·rcases List.mem_append.1 hc with hc | hc
    ·exact h.mem c hc
    ·rw [List.mem_singleton] at hc
     rw [hc]
     intro x hx
     exact i2 x ((List.mergeSort_perm ..).mem_iff.1 hx)
theorem circL_tot {s : List Int} (hm : ∀ x, x ∈ s → x ≠ 0 ∧ -(s.length : Int) ≤ x ∧ x ≤ s.length) : Tot s.length (s.length + 1) (circL s) := by
 have h := cirTo_tot (pl := plL s) (picL_range s hm) (s.length + 1) (Nat.le_refl _)
 exact ⟨h.ne, h.mem, by have := h.sum; unfold circL; omega⟩
theorem circL_ne {s : List Int} : circL s ≠ [] := by
 have hmono : ∀ k, (cirTo (picL s) (plL s) s.length (k + 1)).2 ≠ [] := by
  intro k
  induction k with
  | zero =>
   rw [cirTo_step]
   unfold cirStep
   rw [if_neg (by simp [cirTo, List.getD_eq_getElem?_getD])]
   simp
  | succ k ih =>
   rw [cirTo_step]
   unfold cirStep
   split
   ·exact ih
   ·simp
 exact hmono s.length
theorem growF_ok {n T : Nat} (pl : List Int) : ∀ (k : Nat) (own : List Int) (bad : Bool) (cs : List (List Int)), (∀ x, x ∈ own → 0 ≤ x ∧ x ≤ (n : Int)) → own.length ≤ T → Tot n (T - own.length) cs →
  (∀ x, x ∈ (growF pl k (own, bad) cs).1.1 → 0 ≤ x ∧ x ≤ (n : Int)) ∧ (growF pl k (own, bad) cs).1.1.length ≤ T ∧ Tot n (T - (growF pl k (own, bad) cs).1.1.length) (growF pl k (own, bad) cs).2 ∧ (growF pl k (own, bad) cs).2.length ≤ cs.length
 | 0, own, bad, cs, h1, h2, h3 => ⟨h1, h2, h3, Nat.le_refl _⟩
 | k + 1, own, bad, cs, h1, h2, h3 => by
  rw [growF]
  by_cases hlt : idxI (joinedB pl own) cs < 0
  ·rw [if_pos hlt]; exact ⟨h1, h2, h3, Nat.le_refl _⟩
  ·rw [if_neg hlt]
   obtain ⟨hk, _⟩ := idxI_lt hlt
   obtain ⟨j, hj⟩ : ∃ j, (idxI (joinedB pl own) cs).toNat = j := ⟨_, rfl⟩
   simp only
   rw [hj] at hk ⊢
   have he := h3.erase j hk
   have hm := h3.mem _ (getD_mem (z := []) hk)
   have ih := growF_ok (n := n) (T := T) pl k (own ++ cs.getD j []) (bad || decide (1 < (cs.getD j []).length)) (cs.eraseIdx j) (fun x hx => by
    rcases List.mem_append.1 hx with hx | hx
    ·exact h1 x hx
    ·exact hm x hx) (by rw [List.length_append]; omega) (by rw [List.length_append, ← Nat.sub_sub]; exact he.1)
   refine ⟨ih.1, ih.2.1, ih.2.2.1, ?_⟩
   have h4 := ih.2.2.2
   rw [List.length_eraseIdx_of_lt hk] at h4
   omega
theorem cmpF_ok {n T : Nat} (pl : List Int) : ∀ (k : Nat) (cs : List (List Int)) (out : List Cmp), Tot n T cs → (∀ x, x ∈ out → x.1.length ≤ T ∧ ∀ y, y ∈ x.1 → 0 ≤ y ∧ y ≤ (n : Int)) →
  (∀ x, x ∈ cmpF pl k cs out → x.1.length ≤ T ∧ ∀ y, y ∈ x.1 → 0 ≤ y ∧ y ≤ (n : Int)) ∧ (cmpF pl k cs out).length ≤ out.length + cs.length ∧ out.length ≤ (cmpF pl k cs out).length
 | 0, cs, out, h1, h2 => ⟨h2, Nat.le_add_right _ _, Nat.le_refl _⟩
 | k + 1, [], out, h1, h2 => ⟨h2, Nat.le_refl _, Nat.le_refl _⟩
 | k + 1, c :: r, out, h1, h2 => by
  rw [cmpF]
  have hg := growF_ok (n := n) (T := T) pl r.length c (decide (1 < c.length)) r (h1.mem c (by simp)) h1.tail.2 h1.tail.1
  obtain ⟨G, hG⟩ : ∃ G, growF pl r.length (c, decide (1 < c.length)) r = G := ⟨_, rfl⟩
  rw [hG] at hg ⊢
  have ih := cmpF_ok (n := n) (T := T) pl k G.2 (out ++ [(G.1.1, G.1.2 && !G.1.1.any (turnedB pl))]) ⟨hg.2.2.1.ne, hg.2.2.1.mem, by have := hg.2.2.1.sum; omega⟩ (fun x hx => by
   rcases List.mem_append.1 hx with hx | hx
   ·exact h2 x hx
   ·rw [List.mem_singleton] at hx
    rw [hx]
    exact ⟨hg.2.1, hg.1⟩)
  refine ⟨ih.1, ?_, ?_⟩
  ·have h3 := ih.2.1
   rw [List.length_append, List.length_singleton] at h3
   rw [List.length_cons]
   have := hg.2.2.2
   omega
  ·have h3 := ih.2.2
   rw [List.length_append, List.length_singleton] at h3
   omega
theorem cmpL_ok {s : List Int} (hs : s.length ≤ 40) (hm : ∀ x, x ∈ s → x ≠ 0 ∧ -(s.length : Int) ≤ x ∧ x ≤ s.length) : CmpOk s.length (cmpL s) ∧ (cmpL s).length ≤ 41 := by
 have ht := circL_tot hm
 have hl := ht.len
 unfold cmpL
 have h := cmpF_ok (n := s.length) (T := s.length + 1) (plL s) (circL s).length (circL s) [] ht (fun x hx => by cases hx)
 obtain ⟨c, r, hc⟩ : ∃ c r, circL s = c :: r := by
  cases hcs : circL s with
  | nil => exact absurd hcs circL_ne
  | cons c r => exact ⟨c, r, rfl⟩
 refine ⟨⟨?_, ?_, fun x hx => ⟨by have := (h.1 x hx).1; omega, (h.1 x hx).2⟩⟩, ?_⟩
 ·rw [hc, List.length_cons, cmpF]
  have hg := growF_ok (n := s.length) (T := s.length + 1) (plL s) r.length c (decide (1 < c.length)) r (ht.mem c (by rw [hc]; simp)) (by have := ht; rw [hc] at this; exact this.tail.2) (by have := ht; rw [hc] at this; exact this.tail.1)
  obtain ⟨G, hG⟩ : ∃ G, growF (plL s) r.length (c, decide (1 < c.length)) r = G := ⟨_, rfl⟩
  rw [hG] at hg ⊢
  have h5 := (cmpF_ok (n := s.length) (T := s.length + 1) (plL s) r.length G.2 ([] ++ [(G.1.1, G.1.2 && !G.1.1.any (turnedB (plL s)))]) ⟨hg.2.2.1.ne, hg.2.2.1.mem, by have := hg.2.2.1.sum; omega⟩ (fun x hx => by simp at hx; rw [hx]; exact ⟨hg.2.1, hg.1⟩)).2.2
  simp only [List.nil_append, List.length_singleton] at h5 ⊢
  omega
 ·have := h.2.1; simp only [List.length_nil] at this; omega
 ·have := h.2.1; simp only [List.length_nil] at this; omega
theorem results_tmp5 {fn : Func} {t u v x y : Tmp} (h : fn.results = #[.tmp t, .tmp u, .tmp v, .tmp x, .tmp y]) (tmps : Array Value) (P : Program) (w : World) :
  (results fn tmps).run P w = .ok (.tuple #[tmps.getD t undef, tmps.getD u undef, tmps.getD v undef, tmps.getD x undef, tmps.getD y undef]) w := by
 simp [results, h]
theorem tal_calls (b base : Nat) (s : List Int) (hs : s.length ≤ 40) (hm : ∀ x, x ∈ s → x ≠ 0 ∧ -(s.length : Int) ≤ x ∧ x ≤ s.length) (w : World) (hP : PicOk base b s w) :
  Calls Try.prog 61 #[.pointer (some ⟨b, 0, none⟩)] w fun e w' => e = .returned (.agg #[.int .i64 ((talF (picL s) (cmpL s)).1 : Nat), .int .i64 ((talF (picL s) (cmpL s)).2.1 : Nat), .int .i64 ((talF (picL s) (cmpL s)).2.2.1 : Nat), .bool (talF (picL s) (cmpL s)).2.2.2]) ∧ Below w.heap.size w w' :=
 tallied_calls b base s hs hm w hP (s.length + 1) (by omega) (circL_tot hm) circL_ne (cmpL_ok hs hm).1
def pancake_Distance.f (l0 : List Int) : Option (Int × Int) := some (if isSt true 40 l0 = true then ((l0.length : Int) + 1 - ((circL l0).length : Int) + (((talF (picL l0) (cmpL l0)).2.2.1 : Nat) : Int) + (if (talF (picL l0) (cmpL l0)).2.2.2 = true then 1 else 0), 0) else (0, 70))
set_option maxRecDepth 100000 in
set_option maxHeartbeats 4000000 in
theorem pancake_Distance.calls (A0 : Option Addr) (c0 : Nat) (l0 : List Int) (r1 r2 : Int) (w : World) (hr0 : Kd.C (Kd.int .i64) w A0 l0.length l0) (hc0 : l0.length ≤ c0) (h : pancake_Distance.f l0 = some (r1, r2)) :
  Calls Try.prog 23 #[.slice A0 l0.length c0] w fun e w' => e = .returned (.tuple #[.int .i64 r1, .int .i64 r2]) ∧ Below w.heap.size w w' := by
 have HC := Aside0.mk (check55_one A0 c0 l0 w hr0 hc0)
 have HR0 := Aside0.mk hr0
 clear hr0
 unfold pancake_Distance.f at h
 unfold chk1 at HC
 go_enter Try.func23, Try.ntmps23
 by_cases hst : isSt true 40 l0 = true
 ·rw [if_pos hst] at h HC
  have HRG := Aside0.mk (isSt_range hst)
  have HSM := Aside0.mk (isSt_small hst (by decide))
  clear hst
  go_wp2_with (go_at_call 55; refine stopper ?_)
  try unfold Hold
  refine HC.out.mono ?_
  rintro e w1 ⟨rfl, hb⟩
  have HB1 := Aside0.mk hb
  clear hb
  go_wp2_with (go_at_call 60; refine stopper ?_)
  try unfold Hold
  refine (pictured_calls A0 c0 l0 w1 (Kd.C_below HR0.out HB1.out) HSM.out.2.1 HRG.out).mono ?_
  rintro e w2 ⟨rfl, hp, hb⟩
  have HB2 := Aside0.mk (HB1.out.trans (hb.mono HB1.out.size))
  have HP := Aside0.mk hp
  clear hb hp
  go_wp2_with (go_at_call 61; refine stopper ?_)
  try unfold Hold
  refine (tal_calls _ _ l0 HSM.out.2.1 HRG.out w2 HP.out).mono ?_
  rintro e w3 ⟨rfl, hb⟩
  have hcl := (circL_tot HRG.out).len
  have hct := (cmpL_ok HSM.out.2.1 HRG.out).2
  have hhn : (talF (picL l0) (cmpL l0)).2.2.1 ≤ (cmpL l0).length := countP_le _ _
  obtain ⟨R, hR⟩ : ∃ R, talF (picL l0) (cmpL l0) = R := ⟨_, rfl⟩
  rw [hR] at h hhn ⊢
  obtain ⟨cN, bN, hN, ft⟩ := R
  simp only at h hhn ⊢
  obtain ⟨cl, hcle⟩ : ∃ cl, (circL l0).length = cl := ⟨_, rfl⟩
  rw [hcle] at h hcl
  obtain ⟨n, hn⟩ : ∃ n, l0.length = n := ⟨_, rfl⟩
  have HN := Aside0.mk hn
  have hn40 : n ≤ 40 := by have := HSM.out.2.1; omega
  have hclb : cl ≤ n + 1 := by omega
  have hhb : hN ≤ 41 := by omega
  have HCL := Aside0.mk (And.intro hcle hclb)
  rw [hn] at h ⊢
  have HH := Aside0.mk h
  obtain ⟨W4, hW4⟩ : ∃ W4, w3.alloc (.cells #[.int .i64 (cN : Int), .int .i64 (bN : Int), .int .i64 (hN : Int), .bool ft] 78) = W4 := ⟨_, rfl⟩
  obtain ⟨bt, hbt⟩ : ∃ bt, w3.heap.size = bt := ⟨_, rfl⟩
  have hB4 : Below w3.heap.size w3 W4 := by rw [← hW4]; exact (Below.refl _ _).alloc (Nat.le_refl _) _
  have hT : Blk W4 bt #[.int .i64 (cN : Int), .int .i64 (bN : Int), .int .i64 (hN : Int), .bool ft] 78 := by rw [← hW4, ← hbt]; exact Blk.new _ _ _
  have HLT4 := Aside0.mk hT.lt
  have HP4 := Aside0.mk ((HP.out.below hb).below hB4)
  have HB4 := Aside0.mk ((HB2.out.trans (hb.mono HB2.out.size)).trans (hB4.mono (by have := HB2.out.size; have := hb.size; omega)))
  have k2 := hT.cell 2 (v := .int .i64 (hN : Int)) rfl
  have k3 := hT.cell 3 (v := .bool ft) rfl
  clear hb hR hhn hcle hcl hct hn h hB4 hT
  have hw1 : IntKind.i64.wrap ((n : Int) + 1) = (n : Int) + 1 := iw64 (by omega) (by omega)
  have hw2 : IntKind.i64.wrap ((n : Int) + 1 - (cl : Int)) = (n : Int) + 1 - (cl : Int) := iw64 (by omega) (by omega)
  have hw3 : IntKind.i64.wrap ((n : Int) + 1 - (cl : Int) + (hN : Int)) = (n : Int) + 1 - (cl : Int) + (hN : Int) := iw64 (by omega) (by omega)
  have hw4 : IntKind.i64.wrap ((n : Int) + 1 - (cl : Int) + (hN : Int) + 1) = (n : Int) + 1 - (cl : Int) + (hN : Int) + 1 := iw64 (by omega) (by omega)
  go_upto_region 6 with fail
  try rw [hW4]
  try rw [hbt]
  clear hW4 hbt
  refine start_ (n := 11) (S := fun w' => w'.cell? ⟨bt, 2, none⟩ = some (.int .i64 (hN : Int))) (ds := []) #[false, false, false, false, false, false, false, false, false, false, false] (by kernel_rfl) rfl rfl k2 (fun hHeld => ?_)
  refine pure_ (i := 0) (N := (some 17)) (v := ?_) (a' := ?_) #[true, false, false, false, false, false, false, false, false, false, false] rfl rfl (by kernel_rfl) (fun _ _ _ h => h) (Or.inl ⟨by rfl, ?_⟩) ?_ ?_
  rotate_left
  ·intro w'
   go_simp
   with_reducible rfl
  rotate_left
  ·simp only [Act.put, List.setIfInBounds_toArray, List.set_cons_zero, List.set_cons_succ]
   rfl
  refine pure_ (i := 1) (N := (some 18)) (v := ?_) (a' := ?_) #[true, true, false, false, false, false, false, false, false, false, false] rfl rfl (by kernel_rfl) (fun _ _ _ h => h) (Or.inl ⟨by rfl, ?_⟩) ?_ ?_
  rotate_left
  ·intro w'
   go_simp
   with_reducible rfl
  rotate_left
  ·simp only [Act.put, List.setIfInBounds_toArray, List.set_cons_zero, List.set_cons_succ]
   rfl
  refine pure_ (i := 2) (N := (some 19)) (v := ?_) (a' := ?_) #[true, true, true, false, false, false, false, false, false, false, false] rfl rfl (by kernel_rfl) (fun _ _ _ h => h) (Or.inl ⟨by rfl, ?_⟩) ?_ ?_
  rotate_left
  ·intro w'
   go_simp
   with_reducible rfl
  rotate_left
  ·simp only [Act.put, List.setIfInBounds_toArray, List.set_cons_zero, List.set_cons_succ]
   rfl
  refine pure_ (i := 3) (N := (some 20)) (v := ?_) (a' := ?_) #[true, true, true, true, false, false, false, false, false, false, false] rfl rfl (by kernel_rfl) (fun _ _ _ h => h) (Or.inl ⟨by rfl, ?_⟩) ?_ ?_
  rotate_left
  ·intro w'
   go_simp
   with_reducible rfl
  rotate_left
  ·simp only [Act.put, List.setIfInBounds_toArray, List.set_cons_zero, List.set_cons_succ]
   rfl
  refine pure_ (i := 7) (N := (some 24)) (v := ?_) (a' := ?_) #[true, true, true, true, false, false, false, true, false, false, false] rfl rfl (by kernel_rfl) (fun _ _ _ h => h) (Or.inl ⟨by rfl, ?_⟩) ?_ ?_
  rotate_left
  ·intro w'
   go_simp
   with_reducible rfl
  rotate_left
  ·simp only [Act.put, List.setIfInBounds_toArray, List.set_cons_zero, List.set_cons_succ]
   rfl
  refine take_ (i := 8) (N := (some 25)) (v := ?_) (a' := ?_) #[true, true, true, true, false, false, false, true, true, false, false] rfl rfl (by kernel_rfl) (fun _ _ _ h => h) (Or.inl ⟨by rfl, ?_⟩) hHeld ?_ ?_
  rotate_left
  ·rintro w' s0
   go_simp
   with_reducible rfl
  rotate_left
  ·simp only [Act.put, List.setIfInBounds_toArray, List.set_cons_zero, List.set_cons_succ]
   rfl
  refine one_ (i := 4) (N := (some 21)) #[true, true, true, true, true, false, false, true, true, false, false] rfl rfl (by kernel_rfl) (by decide) (fun K hK => ?_)
  refine goes_ Try.func62 (by kernel_rfl) rfl #[.pointer (some ⟨w1.heap.size + 1, 0, none⟩)] (by rfl) rfl rfl (by (try simp only [List.map_toArray, List.map_cons, List.map_nil]); first | done | rfl) ?_
  refine (circles_calls _ _ l0 HSM.out.2.1 HRG.out W4.drew (HP4.out.below (Below.refl _ _).drew)).mono ?_
  rintro e w5 ⟨v5, rfl, hv5, hb5⟩
  obtain ⟨A5, c5, ev⟩ := Kd.S_slice hv5
  rw [HCL.out.1] at ev
  subst ev
  refine ⟨_, rfl, ?_⟩
  refine hK.out _ _ (by rw [hb5.cell (World.block_lt_of_cell? _ _ hHeld)]; exact hHeld) (fun hHeld => ?_)
  have HB5 := Aside0.mk (show Below w.heap.size w w5 from HB4.out.trans ((Below.refl w.heap.size W4).drew.trans (hb5.mono HB4.out.size)))
  have k3' : w5.cell? ⟨bt, 3, none⟩ = some (.bool ft) := by rw [hb5.cell (show bt < W4.drew.heap.size from HLT4.out)]; exact k3
  clear hK K hb5 hv5
  refine norm_ (a' := ?_) ?_ ?_
  rotate_left
  ·show Act.put _ (some 21) _ = _
   simp only [Act.put, List.setIfInBounds_toArray, List.set_cons_zero, List.set_cons_succ]
   rfl
  refine pure_ (i := 5) (N := (some 22)) (v := ?_) (a' := ?_) #[true, true, true, true, true, true, false, true, true, false, false] rfl rfl (by kernel_rfl) (fun _ _ _ h => h) (Or.inl ⟨by rfl, ?_⟩) ?_ ?_
  rotate_left
  ·intro w'
   go_simp
   with_reducible rfl
  rotate_left
  ·simp only [Act.put, List.setIfInBounds_toArray, List.set_cons_zero, List.set_cons_succ]
   rfl
  refine pure_ (i := 6) (N := (some 23)) (v := ?_) (a' := ?_) #[true, true, true, true, true, true, true, true, true, false, false] rfl rfl (by kernel_rfl) (fun _ _ _ h => h) (Or.inl ⟨by rfl, ?_⟩) ?_ ?_
  rotate_left
  ·intro w'
   go_simp
   with_reducible rfl
  rotate_left
  ·simp only [Act.put, List.setIfInBounds_toArray, List.set_cons_zero, List.set_cons_succ]
   rfl
  refine pure_ (i := 9) (N := (some 26)) (v := ?_) (a' := ?_) #[true, true, true, true, true, true, true, true, true, true, false] rfl rfl (by kernel_rfl) (fun _ _ _ h => h) (Or.inl ⟨by rfl, ?_⟩) ?_ ?_
  rotate_left
  ·intro w'
   go_simp
   with_reducible rfl
  rotate_left
  ·simp only [Act.put, List.setIfInBounds_toArray, List.set_cons_zero, List.set_cons_succ]
   rfl
  refine pure_ (i := 10) (N := (some 7)) (v := ?_) (a' := ?_) #[true, true, true, true, true, true, true, true, true, true, true] rfl rfl (by kernel_rfl) (fun _ _ _ h => h) (Or.inl ⟨by rfl, ?_⟩) ?_ ?_
  rotate_left
  ·intro w'
   go_simp
   with_reducible rfl
  rotate_left
  ·simp only [Act.put, List.setIfInBounds_toArray, List.set_cons_zero, List.set_cons_succ]
   rfl
  refine done_ (by kernel_rfl) ?_
  cases ft with
  | true =>
   have h := HH.out
   simp only [if_true, Option.some.injEq, Prod.mk.injEq] at h
   obtain ⟨rfl, rfl⟩ := h
   go_wp2
   refine bodyPost_ret (results_tmp2 rfl _ _ _) rfl ⟨rfl, HB5.out⟩
  | false =>
   have h := HH.out
   simp only [Bool.false_eq_true, if_false, Option.some.injEq, Prod.mk.injEq, Int.add_zero] at h
   obtain ⟨rfl, rfl⟩ := h
   go_wp2
   refine bodyPost_ret (results_tmp2 rfl _ _ _) rfl ⟨rfl, HB5.out⟩
 ·rw [if_neg hst] at h HC
  cases h
  clear hst
  go_wp2_with (go_at_call 55; refine stopper ?_)
  try unfold Hold
  refine HC.out.mono ?_
  rintro e w1 ⟨rfl, hb⟩
  have HB1 := Aside0.mk hb
  clear hb
  go_wp2
  refine bodyPost_ret (results_tmp2 rfl _ _ _) rfl ⟨rfl, HB1.out⟩
def pancake_Components.f (l0 : List Int) : Option (Int × Int × Int × Bool × Int) := some (if isSt true 40 l0 = true then (((talF (picL l0) (cmpL l0)).1 : Nat), ((talF (picL l0) (cmpL l0)).2.1 : Nat), ((talF (picL l0) (cmpL l0)).2.2.1 : Nat), (talF (picL l0) (cmpL l0)).2.2.2, 0) else (0, 0, 0, false, 70))
set_option maxRecDepth 100000 in
set_option maxHeartbeats 4000000 in
theorem pancake_Components.calls (A0 : Option Addr) (c0 : Nat) (l0 : List Int) (r1 r2 r3 : Int) (r4 : Bool) (r5 : Int) (w : World) (hr0 : Kd.C (Kd.int .i64) w A0 l0.length l0) (hc0 : l0.length ≤ c0) (h : pancake_Components.f l0 = some (r1, r2, r3, r4, r5)) :
  Calls Try.prog 22 #[.slice A0 l0.length c0] w fun e w' => e = .returned (.tuple #[.int .i64 r1, .int .i64 r2, .int .i64 r3, .bool r4, .int .i64 r5]) ∧ Below w.heap.size w w' := by
 have HC := Aside0.mk (check55_one A0 c0 l0 w hr0 hc0)
 have HR0 := Aside0.mk hr0
 clear hr0
 unfold pancake_Components.f at h
 unfold chk1 at HC
 go_enter Try.func22, Try.ntmps22
 by_cases hst : isSt true 40 l0 = true
 ·rw [if_pos hst] at h HC
  have HRG := Aside0.mk (isSt_range hst)
  have HSM := Aside0.mk (isSt_small hst (by decide))
  clear hst
  go_wp2_with (go_at_call 55; refine stopper ?_)
  try unfold Hold
  refine HC.out.mono ?_
  rintro e w1 ⟨rfl, hb⟩
  have HB1 := Aside0.mk hb
  clear hb
  go_wp2_with (go_at_call 60; refine stopper ?_)
  try unfold Hold
  refine (pictured_calls A0 c0 l0 w1 (Kd.C_below HR0.out HB1.out) HSM.out.2.1 HRG.out).mono ?_
  rintro e w2 ⟨rfl, hp, hb⟩
  have HB2 := Aside0.mk (HB1.out.trans (hb.mono HB1.out.size))
  have HP := Aside0.mk hp
  clear hb hp
  go_wp2_with (go_at_call 61; refine stopper ?_)
  try unfold Hold
  refine (tal_calls _ _ l0 HSM.out.2.1 HRG.out w2 HP.out).mono ?_
  rintro e w3 ⟨rfl, hb⟩
  obtain ⟨R, hR⟩ : ∃ R, talF (picL l0) (cmpL l0) = R := ⟨_, rfl⟩
  rw [hR] at h ⊢
  obtain ⟨cN, bN, hN, ft⟩ := R
  simp only at h ⊢
  obtain ⟨n, hn⟩ : ∃ n, l0.length = n := ⟨_, rfl⟩
  rw [hn]
  have HH := Aside0.mk h
  obtain ⟨W4, hW4⟩ : ∃ W4, w3.alloc (.cells #[.int .i64 (cN : Int), .int .i64 (bN : Int), .int .i64 (hN : Int), .bool ft] 78) = W4 := ⟨_, rfl⟩
  obtain ⟨bt, hbt⟩ : ∃ bt, w3.heap.size = bt := ⟨_, rfl⟩
  have hB4 : Below w3.heap.size w3 W4 := by rw [← hW4]; exact (Below.refl _ _).alloc (Nat.le_refl _) _
  have hT : Blk W4 bt #[.int .i64 (cN : Int), .int .i64 (bN : Int), .int .i64 (hN : Int), .bool ft] 78 := by rw [← hW4, ← hbt]; exact Blk.new _ _ _
  have HB4 := Aside0.mk ((HB2.out.trans (hb.mono HB2.out.size)).trans (hB4.mono (by have := HB2.out.size; have := hb.size; omega)))
  have k0 := hT.cell 0 (v := .int .i64 (cN : Int)) rfl
  have k1 := hT.cell 1 (v := .int .i64 (bN : Int)) rfl
  have k2 := hT.cell 2 (v := .int .i64 (hN : Int)) rfl
  have k3 := hT.cell 3 (v := .bool ft) rfl
  clear hb hR hn h hB4 hT
  go_upto_region 5 with fail
  try rw [hW4]
  try rw [hbt]
  clear hW4 hbt
  refine start_ (n := 13) (S := fun w' => w'.cell? ⟨bt, 0, none⟩ = some (.int .i64 (cN : Int)) ∧ w'.cell? ⟨bt, 1, none⟩ = some (.int .i64 (bN : Int)) ∧ w'.cell? ⟨bt, 2, none⟩ = some (.int .i64 (hN : Int)) ∧ w'.cell? ⟨bt, 3, none⟩ = some (.bool ft)) (ds := []) #[false, false, false, false, false, false, false, false, false, false, false, false, false] (by kernel_rfl) rfl rfl ⟨k0, k1, k2, k3⟩ (fun hHeld => ?_)
  refine pure_ (i := 0) (N := (some 17)) (v := ?_) (a' := ?_) #[true, false, false, false, false, false, false, false, false, false, false, false, false] rfl rfl (by kernel_rfl) (fun _ _ _ h => h) (Or.inl ⟨by rfl, ?_⟩) ?_ ?_
  rotate_left
  ·intro w'
   go_simp
   with_reducible rfl
  rotate_left
  ·simp only [Act.put, List.setIfInBounds_toArray, List.set_cons_zero, List.set_cons_succ]
   rfl
  refine take_ (i := 1) (N := (some 18)) (v := ?_) (a' := ?_) #[true, true, false, false, false, false, false, false, false, false, false, false, false] rfl rfl (by kernel_rfl) (fun _ _ _ h => h) (Or.inl ⟨by rfl, ?_⟩) hHeld ?_ ?_
  rotate_left
  ·rintro w' ⟨s0, s1, s2, s3⟩
   go_simp
   with_reducible rfl
  rotate_left
  ·simp only [Act.put, List.setIfInBounds_toArray, List.set_cons_zero, List.set_cons_succ]
   rfl
  refine pure_ (i := 2) (N := (some 19)) (v := ?_) (a' := ?_) #[true, true, true, false, false, false, false, false, false, false, false, false, false] rfl rfl (by kernel_rfl) (fun _ _ _ h => h) (Or.inl ⟨by rfl, ?_⟩) ?_ ?_
  rotate_left
  ·intro w'
   go_simp
   with_reducible rfl
  rotate_left
  ·simp only [Act.put, List.setIfInBounds_toArray, List.set_cons_zero, List.set_cons_succ]
   rfl
  refine take_ (i := 3) (N := (some 20)) (v := ?_) (a' := ?_) #[true, true, true, true, false, false, false, false, false, false, false, false, false] rfl rfl (by kernel_rfl) (fun _ _ _ h => h) (Or.inl ⟨by rfl, ?_⟩) hHeld ?_ ?_
  rotate_left
  ·rintro w' ⟨s0, s1, s2, s3⟩
   go_simp
   with_reducible rfl
  rotate_left
  ·simp only [Act.put, List.setIfInBounds_toArray, List.set_cons_zero, List.set_cons_succ]
   rfl
  refine pure_ (i := 4) (N := (some 21)) (v := ?_) (a' := ?_) #[true, true, true, true, true, false, false, false, false, false, false, false, false] rfl rfl (by kernel_rfl) (fun _ _ _ h => h) (Or.inl ⟨by rfl, ?_⟩) ?_ ?_
  rotate_left
  ·intro w'
   go_simp
   with_reducible rfl
  rotate_left
  ·simp only [Act.put, List.setIfInBounds_toArray, List.set_cons_zero, List.set_cons_succ]
   rfl
  refine take_ (i := 5) (N := (some 22)) (v := ?_) (a' := ?_) #[true, true, true, true, true, true, false, false, false, false, false, false, false] rfl rfl (by kernel_rfl) (fun _ _ _ h => h) (Or.inl ⟨by rfl, ?_⟩) hHeld ?_ ?_
  rotate_left
  ·rintro w' ⟨s0, s1, s2, s3⟩
   go_simp
   with_reducible rfl
  rotate_left
  ·simp only [Act.put, List.setIfInBounds_toArray, List.set_cons_zero, List.set_cons_succ]
   rfl
  refine pure_ (i := 6) (N := (some 23)) (v := ?_) (a' := ?_) #[true, true, true, true, true, true, true, false, false, false, false, false, false] rfl rfl (by kernel_rfl) (fun _ _ _ h => h) (Or.inl ⟨by rfl, ?_⟩) ?_ ?_
  rotate_left
  ·intro w'
   go_simp
   with_reducible rfl
  rotate_left
  ·simp only [Act.put, List.setIfInBounds_toArray, List.set_cons_zero, List.set_cons_succ]
   rfl
  refine take_ (i := 7) (N := (some 24)) (v := ?_) (a' := ?_) #[true, true, true, true, true, true, true, true, false, false, false, false, false] rfl rfl (by kernel_rfl) (fun _ _ _ h => h) (Or.inl ⟨by rfl, ?_⟩) hHeld ?_ ?_
  rotate_left
  ·rintro w' ⟨s0, s1, s2, s3⟩
   go_simp
   with_reducible rfl
  rotate_left
  ·simp only [Act.put, List.setIfInBounds_toArray, List.set_cons_zero, List.set_cons_succ]
   rfl
  refine pure_ (i := 8) (N := (some 2)) (v := ?_) (a' := ?_) #[true, true, true, true, true, true, true, true, true, false, false, false, false] rfl rfl (by kernel_rfl) (fun _ _ _ h => h) (Or.inl ⟨by rfl, ?_⟩) ?_ ?_
  rotate_left
  ·intro w'
   go_simp
   with_reducible rfl
  rotate_left
  ·simp only [Act.put, List.setIfInBounds_toArray, List.set_cons_zero, List.set_cons_succ]
   rfl
  refine pure_ (i := 9) (N := (some 3)) (v := ?_) (a' := ?_) #[true, true, true, true, true, true, true, true, true, true, false, false, false] rfl rfl (by kernel_rfl) (fun _ _ _ h => h) (Or.inl ⟨by rfl, ?_⟩) ?_ ?_
  rotate_left
  ·intro w'
   go_simp
   with_reducible rfl
  rotate_left
  ·simp only [Act.put, List.setIfInBounds_toArray, List.set_cons_zero, List.set_cons_succ]
   rfl
  refine pure_ (i := 10) (N := (some 4)) (v := ?_) (a' := ?_) #[true, true, true, true, true, true, true, true, true, true, true, false, false] rfl rfl (by kernel_rfl) (fun _ _ _ h => h) (Or.inl ⟨by rfl, ?_⟩) ?_ ?_
  rotate_left
  ·intro w'
   go_simp
   with_reducible rfl
  rotate_left
  ·simp only [Act.put, List.setIfInBounds_toArray, List.set_cons_zero, List.set_cons_succ]
   rfl
  refine pure_ (i := 11) (N := (some 5)) (v := ?_) (a' := ?_) #[true, true, true, true, true, true, true, true, true, true, true, true, false] rfl rfl (by kernel_rfl) (fun _ _ _ h => h) (Or.inl ⟨by rfl, ?_⟩) ?_ ?_
  rotate_left
  ·intro w'
   go_simp
   with_reducible rfl
  rotate_left
  ·simp only [Act.put, List.setIfInBounds_toArray, List.set_cons_zero, List.set_cons_succ]
   rfl
  refine pure_ (i := 12) (N := (some 6)) (v := ?_) (a' := ?_) #[true, true, true, true, true, true, true, true, true, true, true, true, true] rfl rfl (by kernel_rfl) (fun _ _ _ h => h) (Or.inl ⟨by rfl, ?_⟩) ?_ ?_
  rotate_left
  ·intro w'
   go_simp
   with_reducible rfl
  rotate_left
  ·simp only [Act.put, List.setIfInBounds_toArray, List.set_cons_zero, List.set_cons_succ]
   rfl
  refine done_ (by kernel_rfl) ?_
  have h := HH.out
  simp only [Option.some.injEq, Prod.mk.injEq] at h
  obtain ⟨rfl, rfl, rfl, rfl, rfl⟩ := h
  go_wp2
  refine bodyPost_ret (results_tmp5 rfl _ _ _) rfl ⟨rfl, HB4.out.drew⟩
 ·rw [if_neg hst] at h HC
  cases h
  clear hst
  go_wp2_with (go_at_call 55; refine stopper ?_)
  try unfold Hold
  refine HC.out.mono ?_
  rintro e w1 ⟨rfl, hb⟩
  have HB1 := Aside0.mk hb
  clear hb
  go_wp2
  refine bodyPost_ret (results_tmp5 rfl _ _ _) rfl ⟨rfl, HB1.out⟩
end Go.Proofs.Ytepjhdblmghckaa.G


namespace Go.Proofs.Ytepjhdblmghckaa.G
open Go.Proofs.Ytepjhdblmghckaa.Q Go.Proofs.Ytepjhdblmghckaa.K Go.Proofs.Ytepjhdblmghckaa.Bf
open Go.RowKit Go.Shelf Go.Proofs.YtepjhdblmghckaaW.PrintWords Go.Proofs.YtepjhdblmghckaaW.PrintLast Go.Proofs.YtepjhdblmghckaaW.PrintMore
set_option linter.unusedVariables false
theorem nodup_count {n : Nat} {M : Km} {vis L : List (List Int)} (hv : vis.Nodup) (hm : ∀ x, x ∈ vis → (M x).isSome = true) (hval : ∀ x, (M x).isSome = true → Vs n x) : vis.length ≤ 15 ^ n := vs_count hv (fun x hx => hval x (hm x hx))
set_option maxRecDepth 100000 in
set_option maxHeartbeats 8000000 in
theorem worst_calls (n : Nat) (hn : n ≤ 7) (sg : Bool) (w : World) :
  Calls Try.prog 72 #[.agg #[.int .i64 n, .bool sg, .bool false]] w fun e w' => e = .returned (.tuple #[.int .i64 ((wrst n sg).1 : Nat), .int .i64 ((wrst n sg).2 : Nat)]) ∧ Below w.heap.size w w' := by
 obtain ⟨W0, hW0⟩ : ∃ W0, w.alloc (.cells #[.int .i64 n, .bool sg, .bool false] 88) = W0 := ⟨_, rfl⟩
 have hB : Below w.heap.size w W0 := by rw [← hW0]; exact (Below.refl _ w).alloc (Nat.le_refl _) _
 have h0 : Blk W0 w.heap.size #[.int .i64 n, .bool sg, .bool false] 88 := by rw [← hW0]; exact Blk.new _ _ _
 have k0 := h0.cell 0 (v := .int .i64 n) rfl
 have k1 := h0.cell 1 (v := .bool sg) rfl
 have k2 := h0.cell 2 (v := .bool false) rfl
 clear h0
 go_enter Try.func72, Try.ntmps72
 go_upto_region 2 with fail
 try rw [hW0]
 clear hW0
 refine start_ (n := 5) (S := fun w' => w'.cell? ⟨w.heap.size, 0, none⟩ = some (.int .i64 (n : Int)) ∧ w'.cell? ⟨w.heap.size, 1, none⟩ = some (.bool sg) ∧ w'.cell? ⟨w.heap.size, 2, none⟩ = some (.bool false)) (ds := [4]) #[false, false, false, false, false] (by kernel_rfl) rfl rfl ⟨k0, k1, k2⟩ (fun hHeld => ?_)
 have HB0 := Aside0.mk hB.drew
 clear hB
 generalize W0.drew = Wd at hHeld HB0 ⊢
 clear k0 k1 k2
 refine take_ (i := 0) (N := (some 8)) (v := ?_) (a' := ?_) #[true, false, false, false, false] rfl rfl (by kernel_rfl) (fun _ _ _ h => h) (Or.inl ⟨by rfl, ?_⟩) hHeld ?_ ?_
 rotate_left
 ·rintro w' ⟨s0, s1, s2⟩
  go_simp
  with_reducible rfl
 rotate_left
 ·simp only [Act.put, List.setIfInBounds_toArray, List.set_cons_zero, List.set_cons_succ]
  rfl
 refine take_ (i := 1) (N := (some 9)) (v := ?_) (a' := ?_) #[true, true, false, false, false] rfl rfl (by kernel_rfl) (fun _ _ _ h => h) (Or.inl ⟨by rfl, ?_⟩) hHeld ?_ ?_
 rotate_left
 ·rintro w' ⟨s0, s1, s2⟩
  go_simp
  with_reducible rfl
 rotate_left
 ·simp only [Act.put, List.setIfInBounds_toArray, List.set_cons_zero, List.set_cons_succ]
  rfl
 refine one_ (i := 2) (N := (some 10)) #[true, true, true, false, false] rfl rfl (by kernel_rfl) (by decide) (fun K hK => ?_)
 refine goes_ Try.func85 (by kernel_rfl) rfl #[.agg #[.int .i64 n, .bool sg, .bool false]] (by rfl) rfl rfl (by (try simp only [List.map_toArray, List.map_cons, List.map_nil]); first | done | rfl) ?_
 refine (first_calls n hn sg false Wd).mono ?_
 rintro e w1 ⟨rfl, hb⟩
 refine ⟨_, rfl, ?_⟩
 obtain ⟨fm, hfm⟩ : ∃ fm, nth (firstL n) = fm := ⟨_, rfl⟩
 rw [hfm]
 have HFM := Aside0.mk hfm
 clear hfm
 have HB1 := Aside0.mk (HB0.out.trans (hb.mono HB0.out.size))
 have hcc : ∀ (p : Addr) v, Wd.cell? p = some v → w1.cell? p = some v := fun p v hp => by rw [hb.cell (p := p) (World.block_lt_of_cell? _ _ hp)]; exact hp
 refine hK.out _ _ ⟨hcc _ _ hHeld.1, hcc _ _ hHeld.2.1, hcc _ _ hHeld.2.2⟩ (fun hHeld => ?_)
 clear hcc hK K hb
 simp only [stk]
 refine norm_ (a' := ?_) ?_ ?_
 rotate_left
 ·show Act.put _ (some 10) _ = _
  simp only [Act.put, List.setIfInBounds_toArray, List.set_cons_zero, List.set_cons_succ]
  rfl
 refine one_ (i := 3) (N := (some 11)) #[true, true, true, true, false] rfl rfl (by kernel_rfl) (by decide) (fun K hK => ?_)
 refine goes_ Try.func84 (by kernel_rfl) rfl #[.agg #[.int .i64 n, .bool sg, .bool false], .agg (stk fm), .pointer none] (by rfl) rfl rfl (by (try simp only [List.map_toArray, List.map_cons, List.map_nil]); first | done | rfl) ?_
 rw [← HFM.out]
 refine (search_calls n sg false hn (firstL n) (vs_firstL hn) none (.pointer none) w1 (.inl ⟨rfl, rfl⟩)).mono ?_
 rintro e w2 ⟨rfl, M, k, L, hF, hk, h7, hb⟩
 refine ⟨_, rfl, ?_⟩
 obtain ⟨bm, hbm⟩ : ∃ bm, w1.heap.size + 2 = bm := ⟨_, rfl⟩
 rw [hbm] at hk h7 ⊢
 have HBM := Aside0.mk (show w.heap.size ≤ bm by have := HB1.out.size; omega)
 have HF := Aside0.mk hF
 have HKN := Aside0.mk hk
 have HB2 := Aside0.mk (HB1.out.trans (hb.mono HB1.out.size))
 have hcc : ∀ (p : Addr) v, w1.cell? p = some v → w2.cell? p = some v := fun p v hp => by rw [hb.cell (p := p) (World.block_lt_of_cell? _ _ hp)]; exact hp
 refine hK.out _ _ ⟨hcc _ _ hHeld.1, hcc _ _ hHeld.2.1, hcc _ _ hHeld.2.2⟩ (fun hHeld => ?_)
 clear hcc hK K hb hbm hF hk h7
 refine norm_ (a' := ?_) ?_ ?_
 rotate_left
 ·show Act.put _ (some 11) _ = _
  simp only [Act.put, List.setIfInBounds_toArray, List.set_cons_zero, List.set_cons_succ]
  rfl
 refine last_ (i := 4) (N := (some 12)) #[true, true, true, true, true] rfl rfl (by kernel_rfl) (by decide) (fun K hK => ?_)
 rw [if_pos (by rfl)]
 have HK := Aside0.mk hK.out
 clear hK
 obtain ⟨w3, cnt0, hrun, hr0, hg3, hs3⟩ := HKN.out.range
 obtain ⟨ri, hri⟩ : ∃ ri, w2.heap.size = ri := ⟨_, rfl⟩
 rw [hri] at hrun hr0
 have HR0 := Aside0.mk hr0
 have HB3 := Aside0.mk (HB2.out.grown hg3 (by exact HB2.out.size) (fun k e => by cases e))
 have HRI := Aside0.mk (show w.heap.size ≤ ri by have := HB2.out.size; omega)
 clear hr0 hg3 hs3 hri
 unfold Oper.wp
 go_simp
 refine HK.out _ _ ?_
 clear HK K hrun hHeld
 refine done_ (by kernel_rfl) ?_
 go_wp2
 go_loopw [4, 5] (fun x y wr => ∃ (a b cnt : Nat) (vis : List (List Int)), x = .int .i64 (a : Int) ∧ y = .int .i64 (b : Int) ∧ Aside0 (Rg wr bm ri k n M vis cnt) ∧ Aside0 (Mo (gap n sg (firstL n)) vis a b) ∧ Aside0 (vis.Nodup ∧ ∀ x, x ∈ vis → (M x).isSome = true) ∧ Aside0 (Below w.heap.size w wr)) (fun _ _ wr => wr.rangeLeft bm ri)
 case atStart => exact ⟨0, 0, cnt0, [], rfl, rfl, HR0, ⟨Mo.begin _⟩, ⟨List.nodup_nil, fun x hx => (by cases hx)⟩, HB3⟩
 case round =>
  obtain ⟨a, b, cnt, vis, rfl, rfl, HR, HM, HV, HW⟩ := hrel
  have HLT := Aside0.mk HR.out.lt
  rcases HR.out.next hn with ⟨hc, hall, hrun⟩ | ⟨l, e, key, W', cnt', hvl, he, hnv, hrun, hr', hlt, hg, hsz, hent⟩
  ·have HALL := Aside0.mk hall
   clear hall hc
   go_wp2
   have hw := worst_of HF.out HV.out.1 (fun x => ⟨HV.out.2 x, fun hx => HALL.out x (HF.out.valid x hx) hx⟩) HM.out
   refine bodyPost_ret (results_tmp2 rfl _ _ _) rfl ⟨by rw [hw]; rfl, HW.out⟩
  ·have hd := HF.out.gapM he
   obtain ⟨⟨e1, e2⟩, e3⟩ := e
   simp only [stepE] at hrun hent
   have hcnt : vis.length ≤ 15 ^ n := nodup_count (L := vis) HV.out.1 HV.out.2 HF.out.valid
   have hbl : b ≤ vis.length := by rw [HM.out.many]; exact List.countP_le_length
   have h15 := p15 hn
   have hwb : IntKind.i64.wrap ((b : Int) + 1) = ((b + 1 : Nat) : Int) := by rw [iw64 (by omega) (by omega)]; omega
   have HR' := Aside0.mk hr'
   have HLC := Aside0.mk hlt
   have HG := Aside0.mk hg
   have HSZ := Aside0.mk hsz
   have HD := Aside0.mk hd
   have HNV := Aside0.mk hnv
   have HE := Aside0.mk he
   have HWB := Aside0.mk (HW.out.grown hg (by exact HW.out.size) (fun k e => by cases e; exact HRI.out))
   clear hr' hlt hg hsz hd hnv he hvl hcnt hbl h15
   have hmem : ∀ x, x ∈ vis ++ [l] → (M x).isSome = true := fun x hx => by
    rcases List.mem_append.1 hx with hx | hx
    ·exact HV.out.2 x hx
    ·simp at hx; subst hx; rw [HE.out]; rfl
   have hnd : (vis ++ [l]).Nodup := List.nodup_append.2 ⟨HV.out.1, by simp, fun x hx y hy => by simp at hy; subst hy; rintro rfl; exact HNV.out hx⟩
   have HV' := Aside0.mk (And.intro hnd hmem)
   clear hmem hnd
   have hkey := HLT.out
   obtain ⟨hl1, hl2, hl3, hl4⟩ := HLT.out
   have fin : ∀ (W2 : World) (a2 b2 : Nat), Below w.heap.size w W2 → W'.grownBy W2 none → Mo (gap n sg (firstL n)) (vis ++ [l]) a2 b2 → Rg W2 bm ri k n M (vis ++ [l]) cnt' ∧ W2.rangeLeft bm ri < wr.rangeLeft bm ri := fun W2 a2 b2 _ hg2 _ => by
    have h2 := HR'.out.kept hg2 (by simp) (by simp)
    exact ⟨h2, by rw [h2.lt.2.2.1, hl3]; exact HLC.out⟩
   have FIN := Aside0.mk fin
   have HS' := Aside0.mk (show W'.heap.size = wr.heap.size from HSZ.out)
   have HLS := Aside0.mk (show w.heap.size ≤ W'.heap.size by have := HW.out.size; have := HSZ.out; omega)
   clear fin hl1 hl2 hl3 hl4 hkey
   by_cases hgt : (e3 : Int) > (a : Int)
   ·go_wp2
    go_roundw
    case rel => exact ⟨e3, 1, cnt', vis ++ [l], rfl, rfl, ⟨(FIN.out _ e3 1 (HWB.out.alloc HLS.out _) (World.grownBy_alloc W' _ none) (by have := HM.out.more (x := l) (by have := HD.out; simp only at this; omega); rw [← HD.out] at this; exact this)).1⟩, ⟨by have := HM.out.more (x := l) (by have := HD.out; simp only at this; omega); rw [← HD.out] at this; exact this⟩, HV', ⟨HWB.out.alloc HLS.out _⟩⟩
    case measure => exact (FIN.out _ e3 1 (HWB.out.alloc HLS.out _) (World.grownBy_alloc W' _ none) (by have := HM.out.more (x := l) (by have := HD.out; simp only at this; omega); rw [← HD.out] at this; exact this)).2
   ·by_cases heq : e3 = a
    ·subst heq
     go_wp2
     go_roundw
     case rel => exact ⟨e3, b + 1, cnt', vis ++ [l], rfl, rfl, ⟨(FIN.out _ e3 (b + 1) (HWB.out.alloc HLS.out _) (World.grownBy_alloc W' _ none) (HM.out.same HD.out.symm)).1⟩, ⟨HM.out.same HD.out.symm⟩, HV', ⟨HWB.out.alloc HLS.out _⟩⟩
     case measure => exact (FIN.out _ e3 (b + 1) (HWB.out.alloc HLS.out _) (World.grownBy_alloc W' _ none) (HM.out.same HD.out.symm)).2
    ·have heq' : ¬ (e3 : Int) = (a : Int) := by omega
     go_wp2
     go_roundw
     case rel => exact ⟨a, b, cnt', vis ++ [l], rfl, rfl, ⟨(FIN.out _ a b (HWB.out.alloc HLS.out _) (World.grownBy_alloc W' _ none) (HM.out.less (by have := HD.out; simp only at this; omega))).1⟩, ⟨HM.out.less (by have := HD.out; simp only at this; omega)⟩, HV', ⟨HWB.out.alloc HLS.out _⟩⟩
     case measure => exact (FIN.out _ a b (HWB.out.alloc HLS.out _) (World.grownBy_alloc W' _ none) (HM.out.less (by have := HD.out; simp only at this; omega))).2
end Go.Proofs.Ytepjhdblmghckaa.G


namespace Go.Proofs.Ytepjhdblmghckaa.G
open Go.Proofs.Ytepjhdblmghckaa.Q Go.Proofs.Ytepjhdblmghckaa.K Go.Proofs.Ytepjhdblmghckaa.Bf
open Go.RowKit Go.Shelf Go.Proofs.YtepjhdblmghckaaW.PrintWords Go.Proofs.YtepjhdblmghckaaW.PrintLast Go.Proofs.YtepjhdblmghckaaW.PrintMore
set_option linter.unusedVariables false
def pancake_Worst.f (a0 : Int) : Option (Int × Int × Int) := some (if 1 ≤ a0 ∧ a0 ≤ 7 then (((wrst a0.toNat false).1 : Nat), ((wrst a0.toNat false).2 : Nat), 0) else (0, 0, 1))
set_option maxRecDepth 100000 in
set_option maxHeartbeats 4000000 in
theorem pancake_Worst.calls (a0 : Int) (r1 r2 r3 : Int) (w : World) (h : pancake_Worst.f a0 = some (r1, r2, r3)) :
  Calls Try.prog 42 #[.int .i64 a0] w fun e w' => e = .returned (.tuple #[.int .i64 r1, .int .i64 r2, .int .i64 r3]) ∧ Below w.heap.size w w' := by
 unfold pancake_Worst.f at h
 go_enter Try.func42, Try.ntmps42
 by_cases h1 : a0 < 1
 ·rw [if_neg (by omega)] at h
  cases h
  go_wp2
  refine bodyPost_ret (results_tmp3 rfl _ _ _) rfl ⟨rfl, Below.refl _ _⟩
 ·by_cases h2 : a0 > 7
  ·rw [if_neg (by omega)] at h
   cases h
   go_wp2
   refine bodyPost_ret (results_tmp3 rfl _ _ _) rfl ⟨rfl, Below.refl _ _⟩
  ·rw [if_pos (by omega)] at h
   cases h
   obtain ⟨n, rfl⟩ := Int.eq_ofNat_of_zero_le (show 0 ≤ a0 by omega)
   have hn : n ≤ 7 := by omega
   go_wp2_with (go_at_call 72; refine stopper ?_)
   unfold Hold
   refine (worst_calls n hn false w).mono ?_
   rintro e w1 ⟨rfl, hb⟩
   have HB := Aside0.mk hb
   clear hb
   go_wp2
   refine bodyPost_ret (results_tmp3 rfl _ _ _) rfl ⟨rfl, HB.out⟩
end Go.Proofs.Ytepjhdblmghckaa.G


namespace Go.Proofs.Ytepjhdblmghckaa.G
open Go.Proofs.Ytepjhdblmghckaa.Q Go.Proofs.Ytepjhdblmghckaa.K Go.Proofs.Ytepjhdblmghckaa.Bf
set_option linter.unusedVariables false
def insI (a : Int) : List Int → List Int
 | [] => [a]
 | b :: l => if a ≤ b then a :: b :: l else b :: insI a l
def isort : List Int → List Int
 | [] => []
 | a :: l => insI a (isort l)
theorem insI_perm (a : Int) : ∀ l, (insI a l).Perm (a :: l)
 | [] => List.Perm.refl _
 | b :: l => by
  rw [insI]
  split
  ·exact List.Perm.refl _
  ·exact ((insI_perm a l).cons b).trans (List.Perm.swap a b l)
theorem isort_perm : ∀ l, (isort l).Perm l
 | [] => List.Perm.refl _
 | a :: l => (insI_perm a (isort l)).trans ((isort_perm l).cons a)
theorem insI_sorted (a : Int) : ∀ l : List Int, l.Pairwise (· ≤ ·) → (insI a l).Pairwise (· ≤ ·)
 | [], _ => by simp [insI]
 | b :: l, h => by
  rw [insI]
  rw [List.pairwise_cons] at h
  split
  ·rename_i hab
   rw [List.pairwise_cons, List.pairwise_cons]
   exact ⟨fun x hx => by
    rcases List.mem_cons.1 hx with rfl | hx
    ·exact hab
    ·have := h.1 x hx; omega, h⟩
  ·rename_i hab
   rw [List.pairwise_cons]
   refine ⟨fun x hx => ?_, insI_sorted a l h.2⟩
   rcases List.mem_cons.1 ((insI_perm a l).mem_iff.1 hx) with rfl | hx
   ·omega
   ·exact h.1 x hx
theorem isort_sorted : ∀ l, (isort l).Pairwise (· ≤ ·)
 | [] => List.Pairwise.nil
 | a :: l => insI_sorted a _ (isort_sorted l)
theorem sortL_sorted (l : List Int) : (sortL l).Pairwise (· ≤ ·) := by
 have h := List.pairwise_mergeSort (le := fun x y : Int => decide (x ≤ y)) (fun a b c h1 h2 => by simp at *; omega) (fun a b => by simp; omega) l
 exact h.imp (fun h => by simpa using h)
theorem perm_sorted_eq : ∀ (l m : List Int), l.Perm m → l.Pairwise (· ≤ ·) → m.Pairwise (· ≤ ·) → l = m
 | [], m, hp, _, _ => (List.nil_perm.1 hp).symm
 | a :: l, [], hp, _, _ => by have := hp.length_eq; simp at this
 | a :: l, b :: m, hp, hl, hm => by
  rw [List.pairwise_cons] at hl hm
  have hab : a = b := by
   have h1 : a ∈ b :: m := hp.mem_iff.1 (by simp)
   have h2 : b ∈ a :: l := hp.mem_iff.2 (by simp)
   rcases List.mem_cons.1 h1 with h1 | h1
   ·exact h1
   ·rcases List.mem_cons.1 h2 with h2 | h2
    ·exact h2.symm
    ·have := hl.1 b h2; have := hm.1 a h1; omega
  subst hab
  rw [perm_sorted_eq l m (List.Perm.cons_inv hp) hl.2 hm.2]
theorem sortL_eq (l : List Int) : sortL l = isort l := perm_sorted_eq _ _ ((List.mergeSort_perm ..).trans (isort_perm l).symm) (sortL_sorted l) (isort_sorted l)
def cirStepK (p pl : List Int) (st : List Bool × List (List Int)) (line : Nat) : List Bool × List (List Int) :=
 if st.1.getD line false = true then st else ((folF p pl (unseen st.1 + 1) (2 * line) st.1 []).2, st.2 ++ [isort (folF p pl (unseen st.1 + 1) (2 * line) st.1 []).1])
def circK (s : List Int) : List (List Int) := ((List.range (s.length + 1)).foldl (cirStepK (picL s) (plL s)) (List.replicate (s.length + 1) false, [])).2
theorem circL_eq (s : List Int) : circL s = circK s := by
 have e : cirStep (picL s) (plL s) = cirStepK (picL s) (plL s) := by
  funext st line
  unfold cirStep cirStepK
  rw [sortL_eq]
 unfold circL circK cirTo
 rw [e]
def cmpK (s : List Int) : List Cmp := cmpF (plL s) (circK s).length (circK s) []
theorem cmpL_eq (s : List Int) : cmpL s = cmpK s := by unfold cmpL cmpK; rw [circL_eq]
def foundB {α : Type} [DecidableEq α] (next : α → List α) (start t : α) (M : Nat) : Bool := ((List.range M).find? (fun k => (ball next start k).contains t)).isSome
theorem least_small {α : Type} [DecidableEq α] {next : α → List α} {start t : α} {M N : Nat} (hM : M ≤ N) (h : foundB next start t M = true) : least next start t N = least next start t M := by
 unfold foundB at h
 unfold least
 obtain ⟨d, rfl⟩ := Nat.exists_eq_add_of_le hM
 obtain ⟨x, hx⟩ := Option.isSome_iff_exists.1 h
 rw [List.range_add, List.find?_append]
 simp only [hx, Option.some_or]
theorem gap_small {n : Nat} {sg : Bool} {a b : List Int} (M : Nat) (hM : M ≤ 15 ^ n + 1) (h : foundB (nextK n sg false) a b M = true) : gap n sg a b = least (nextK n sg false) a b M := least_small hM h
theorem mostOf_congr {d d' : List Int → Nat} : ∀ (l : List (List Int)), (∀ x, x ∈ l → d x = d' x) → mostOf d l = mostOf d' l
 | [], _ => rfl
 | x :: l, h => by unfold mostOf; rw [h x (by simp), mostOf_congr l (fun y hy => h y (by simp [hy]))]
theorem mostOf_mem {d : List Int → Nat} {l m : List (List Int)} (h : ∀ x, x ∈ l ↔ x ∈ m) : mostOf d l = mostOf d m := by
 have one : ∀ l m : List (List Int), (∀ x, x ∈ l → x ∈ m) → mostOf d l ≤ mostOf d m := fun l m h => by
  rcases mostOf_at d l with h0 | ⟨x, hx, e⟩
  ·omega
  ·rw [← e]; exact mostOf_le d m x (h x hx)
 exact Nat.le_antisymm (one l m (fun x hx => (h x).1 hx)) (one m l (fun x hx => (h x).2 hx))
theorem wrst_of {n : Nat} {sg : Bool} {L : List (List Int)} (hnd : L.Nodup) (hst : firstL n ∈ L) (hcl : ∀ x, x ∈ L → ∀ y, y ∈ nextK n sg false x → y ∈ L) (hr : ∀ x, x ∈ L → x ∈ ball (nextK n sg false) (firstL n) (15 ^ n)) (hv : ∀ x, x ∈ L → Vs n x) :
  wrst n sg = (mostOf (gap n sg (firstL n)) L, L.countP (fun x => decide (gap n sg (firstL n) x = mostOf (gap n sg (firstL n)) L))) := by
 have hball : ∀ k x, x ∈ ball (nextK n sg false) (firstL n) k → x ∈ L := by
  intro k
  induction k with
  | zero => intro x hx; simp [ball] at hx; rw [hx]; exact hst
  | succ k ih =>
   intro x hx
   rcases ball_succ.1 hx with hx | ⟨y, hy, hxy⟩
   ·exact ih x hx
   ·exact hcl y (ih y hy) x hxy
 have hmem : ∀ x, x ∈ reach n sg ↔ x ∈ L := fun x => by
  unfold reach
  rw [mem_uniq, List.mem_filter, decide_eq_true_eq]
  exact ⟨fun h => hball _ x h.2, fun h => ⟨univ_mem n x (hv x h), hr x h⟩⟩
 have hperm : (reach n sg).Perm L := (List.perm_ext_iff_of_nodup (uniq_nodup _) hnd).2 hmem
 unfold wrst
 simp only
 rw [mostOf_mem hmem, hperm.countP_eq]
theorem aw1 : pancake_Flips.f [3, 1, 2] [1, 2, 3] = some (2, 0) := by
 have h : gap 3 false [1, 2, 3] [3, 1, 2] = 2 := by rw [gap_small 4 (by decide) (by decide +kernel)]; decide +kernel
 unfold pancake_Flips.f
 rw [if_pos (by decide +kernel)]
 rw [show ([3, 1, 2] : List Int).length = 3 from rfl, h]
 rfl
def all3 : List (List Int) := [[1, 2, 3], [2, 1, 3], [3, 2, 1], [3, 1, 2], [2, 3, 1], [1, 3, 2]]
theorem aw3 : pancake_Worst.f 3 = some (3, 1, 0) := by
 have hb : ∀ x, x ∈ all3 → x ∈ ball (nextK 3 false false) (firstL 3) 3 := by decide +kernel
 have hd : ∀ x, x ∈ all3 → gap 3 false (firstL 3) x = least (nextK 3 false false) (firstL 3) x 4 := fun x hx => gap_small 4 (by decide) (by
  have : ∀ x, x ∈ all3 → foundB (nextK 3 false false) (firstL 3) x 4 = true := by decide +kernel
  exact this x hx)
 have hw := wrst_of (n := 3) (sg := false) (L := all3) (by decide +kernel) (by decide +kernel) (by decide +kernel) (fun x hx => ball_mono (by decide) (hb x hx)) (fun x hx => by
  have : ∀ x, x ∈ all3 → x.length = 3 ∧ x.all (fun y => decide (-7 ≤ y ∧ y ≤ 7)) = true := by decide +kernel
  obtain ⟨h1, h2⟩ := this x hx
  refine ⟨h1, fun j => ?_⟩
  by_cases hj : j < x.length
  ·have := List.all_eq_true.1 h2 (nth x j) (getD_mem hj)
   simpa using this
  ·rw [nth_end _ _ (by omega)]; omega)
 have e : (mostOf (gap 3 false (firstL 3)) all3, all3.countP (fun x => decide (gap 3 false (firstL 3) x = mostOf (gap 3 false (firstL 3)) all3))) = (3, 1) := by
  rw [mostOf_congr all3 hd, List.countP_congr (p := fun x => decide (gap 3 false (firstL 3) x = _)) (q := fun x => decide (least (nextK 3 false false) (firstL 3) x 4 = mostOf (fun x => least (nextK 3 false false) (firstL 3) x 4) all3)) (fun x hx => by rw [hd x hx])]
  decide +kernel
 unfold pancake_Worst.f
 rw [if_pos (by decide), show (3 : Int).toNat = 3 from rfl, hw, e]
 rfl
theorem aw4 : pancake_Distance.f [2, 1] = some (3, 0) := by
 unfold pancake_Distance.f
 rw [cmpL_eq, circL_eq]
 kernel_rfl
theorem aw5 : pancake_Circles.f [-1] = some ([[0, 1]], 0) := by
 unfold pancake_Circles.f
 rw [circL_eq]
 kernel_rfl
theorem aw6 : pancake_Components.f [2, 1] = some (1, 1, 1, false, 0) := by
 unfold pancake_Components.f
 rw [cmpL_eq]
 kernel_rfl
end Go.Proofs.Ytepjhdblmghckaa.G

namespace Go.Proofs.Ytepjhdblmghckaa.G
end Go.Proofs.Ytepjhdblmghckaa.G
namespace Go.Proofs.Ytepjhdblmghckaa.Q
open Go.Proofs.Ytepjhdblmghckaa.G
open Go.RowKit Go.Proofs.YtepjhdblmghckaaW.PrintWords Go.Proofs.YtepjhdblmghckaaW.PrintLast Go.Proofs.YtepjhdblmghckaaW.PrintMore
attribute [local go_sem] max2_int min2_int max_two min_two max_three min_three max_four min_four
set_option linter.unusedVariables false
set_option linter.unusedSimpArgs false
def pancake_Check.f (k : Nat) (l0 : List Int) : Option (Int) := (pancake_check.f k false 7 (([l0] : List (List Int)))).bind fun t230 => (some t230)
set_option maxHeartbeats 8000000 in
set_option maxRecDepth 100000 in
theorem pancake_Check.calls (k : Nat) (P0_ : Nat → Prop) (A0 : Option Addr) (c0 : Nat) (l0 : List Int) (r : Int) (w : World) (hs0 : Kd.V (Kd.int .i64) 3 w w.heap.size (fun k_ => P0_ k_) (.slice A0 l0.length c0) l0) (h : pancake_Check.f k l0 = some r) :
  Calls Try.prog 58 #[.slice A0 l0.length c0] w fun e w' => e = .returned (.int .i64 r) ∧ Below w.heap.size w w' := by
 have HO0 := Aside0.mk (show Kd.V (Kd.int .i64) 3 w w.heap.size (fun k_ => (P0_ k_ ∨ w.heap.size ≤ k_)) (.slice A0 l0.length c0) l0 from Kd.V_mono hs0 (fun k_ hk => .inl hk))
 have HB := Aside0.mk (Below.refl w.heap.size w)
 have H : ((pancake_check.f k false 7 (([l0] : List (List Int)))).bind fun t230 => (some t230)) = some r := h
 clear h
 obtain ⟨y227, hy227⟩ : ∃ y_ : List (List Int), y_ = (([l0] : List (List Int))) := ⟨_, rfl⟩
 replace H : ((pancake_check.f k false 7 y227).bind fun t230 => (some t230)) = some r := by first | (rw [hy227]; with_reducible exact H) | (have H2_ := (Option.bind_some _ _).symm.trans H; rw [hy227]; with_reducible exact H2_) | (have H2_ := (Option.bind_some _ _).symm.trans H; with_reducible exact H2_) | with_reducible exact H | (rw [hy227]; exact H) | exact H
 have Ny227 := Aside0.mk hy227
 clear hy227
 replace H := Option.bind_eq_some_iff.mp H
 obtain ⟨t230, A20, H⟩ := H
 replace H : (some t230) = some r := H
 have A2 := Aside0.mk A20
 clear A20
 obtain rfl := Option.some.inj H
 go_enter Try.func58, Try.ntmps58
 go_wp2_with (first|((with_reducible refine gate_dst (N := 4) rfl ?_);refine Kd.N_lit (Kd.slice 3 (Kd.int .i64)) _ 22 ?hg (N' := 4) ?hd (xs := ([l0] : List (List Int))) (inner := [.slice A0 l0.length c0]) (ok := (fun k_ => (P0_ k_ ∨ w.heap.size ≤ k_))) (okp := (fun k_ => (P0_ k_ ∨ w.heap.size ≤ k_))) ?hr ?hp (fun _ hk => hk) ((show ∀ k_, w.heap.size ≤ k_ → (fun k_ => (P0_ k_ ∨ w.heap.size ≤ k_)) k_ from fun k_ hk => (.inr (Nat.le_trans (below_size (by repeat (first|(with_reducible first|exact HB.out|apply below_alloc|apply pw_below_drewN|apply below_drew1)|exact HB.out))) hk))) _ (Nat.le_refl _)) (Below.refl _ _) (Nat.le_refl _) (by simp) ?_;(case hd => rfl);(case hg => rfl);(case hr => first|(go_simp;done)|(go_simp;rfl));(case hp => exact (Reps.one (show Kd.FK (Kd.slice 3 (Kd.int .i64)) _ _ l0 [.slice A0 l0.length c0] from (Kd.FK_slice_mk (Kd.V_reads' (Kd.V_mono (ok' := (fun k_ => (P0_ k_ ∨ w.heap.size ≤ k_))) (HO0.out) (fun k_ hk => hk))).2.1 (Kd.V_F (Kd.V_mono (ok' := (fun k_ => (P0_ k_ ∨ w.heap.size ≤ k_))) (HO0.out) (fun k_ hk => hk))))) (Reps.none _ _)));intro v228 w3 ho4 hb hg_ hnew_;clear hg_ hnew_;(first|rw [← Ny227.out] at ho4|(simp only [Int.reduceToNat] at ho4;rw [← Ny227.out] at ho4));have n0_ := Aside0.mk (Kd.V_elder' (by (with_reducible repeat (first|apply Kd.V_alloc|apply Kd.V_drewN|apply Kd.V_drew));exact HO0.out) (Kd.N_base ho4) hb);have n1_ := Aside0.mk (Kd.N_lower ho4 (below_size (by repeat (first|(with_reducible first|exact HB.out|apply below_alloc|apply pw_below_drewN|apply below_drew1)|exact HB.out))));have n2_ := Aside0.mk (below_step (by repeat (first|(with_reducible first|exact HB.out|apply below_alloc|apply pw_below_drewN|apply below_drew1)|exact HB.out)) hb);clear HO0;clear HB;have HO0 := n0_;have HO229 := n1_;have HB := n2_;clear n0_ n1_ n2_;clear hb ho4;obtain ⟨Ao5, co5, eo5⟩ := Kd.N_slice HO229.out;subst eo5)|((with_reducible refine gate_callee (f := 68) rfl ?_);refine goesL_ (some 5) rfl rfl Try.func68 (by kernel_rfl) rfl #[.bool false, .int .i64 7, .slice Ao5 y227.length co5] rfl (by (try simp only [List.map_toArray, List.map_cons, List.map_nil]);first|done|rfl|(simp only [List.length_drop, List.length_take];rfl)) ?_;(with_reducible refine (pancake_check.calls k false 7 _ _ y227 t230 _ ?side1 ?side2 A2.out).mono ?_);(case side1 => repeat (first|exact (Kd.N_reads' HO229.out).2.2|(with_reducible refine Kd.C_alloc ?_ _)|(with_reducible refine Kd.C_drewN ?_ _)|(with_reducible refine Kd.C_drew ?_)));(case side2 => exact (Kd.N_reads' HO229.out).2.1);rintro e w6 ⟨rfl, hb⟩;refine ⟨_, rfl, ?_⟩;have n0_ := Aside0.mk (Kd.V_below (by (with_reducible repeat (first|apply Kd.V_alloc|apply Kd.V_drewN|apply Kd.V_drew));exact HO0.out) hb);have n1_ := Aside0.mk (Kd.N_below (by (with_reducible repeat (first|apply Kd.N_alloc|apply Kd.N_drewN|apply Kd.N_drew));exact HO229.out) hb);have n2_ := Aside0.mk (below_step (by repeat (first|(with_reducible first|exact HB.out|apply below_alloc|apply pw_below_drewN|apply below_drew1)|exact HB.out)) hb);clear HO0;clear HO229;clear HB;have HO0 := n0_;have HO229 := n1_;have HB := n2_;clear n0_ n1_ n2_;(try clear hb);(try clear hb2);(try clear hk);(try clear hi)))
 go_ret
 exact ⟨by first | rfl | (simp [errW_none, errW_some] <;> rfl) | (simp [*, errW_none, errW_some] <;> rfl), by repeat (first | (with_reducible first | exact HB.out | apply below_alloc | apply pw_below_drewN | apply below_drew1) | exact HB.out)⟩
end Go.Proofs.Ytepjhdblmghckaa.Q

namespace Go.Proofs.Ytepjhdblmghckaa.G
end Go.Proofs.Ytepjhdblmghckaa.G
namespace Go.Proofs.Ytepjhdblmghckaa.Q
open Go.Proofs.Ytepjhdblmghckaa.G
open Go.RowKit Go.Proofs.YtepjhdblmghckaaW.PrintWords Go.Proofs.YtepjhdblmghckaaW.PrintLast Go.Proofs.YtepjhdblmghckaaW.PrintMore
attribute [local go_sem] max2_int min2_int max_two min_two max_three min_three max_four min_four
set_option linter.unusedVariables false
set_option linter.unusedSimpArgs false
def pancake_Gaps.l0 : Nat → List Int → Int → List Int → Int → Int → Option (Int × Int)
 | 0, _, _, _, _, _ => none
 | k + 1, x0, x5, x15, x16, x17 => if x17 < x16 then (if 0 ≤ x17 then (if x17 < (x15.length : Int) then (if (wrap64 (x17 + 1)) < (x0.length : Int) then (if 0 ≤ (wrap64 (x17 + 1)) then (if (wrap64 ((rd x0 (wrap64 (x17 + 1))) - (rd x15 x17))) > 1 then (pancake_Gaps.l0 k x0 (wrap64 (x5 + 1)) x15 x16 (wrap64 (x17 + 1))) else (if (wrap64 ((rd x0 (wrap64 (x17 + 1))) - (rd x15 x17))) < (-1) then (pancake_Gaps.l0 k x0 (wrap64 (x5 + 1)) x15 x16 (wrap64 (x17 + 1))) else (pancake_Gaps.l0 k x0 x5 x15 x16 (wrap64 (x17 + 1))))) else (none)) else (if (wrap64 ((wrap64 ((x0.length : Int) + 1)) - (rd x15 x17))) > 1 then (pancake_Gaps.l0 k x0 (wrap64 (x5 + 1)) x15 x16 (wrap64 (x17 + 1))) else (if (wrap64 ((wrap64 ((x0.length : Int) + 1)) - (rd x15 x17))) < (-1) then (pancake_Gaps.l0 k x0 (wrap64 (x5 + 1)) x15 x16 (wrap64 (x17 + 1))) else (pancake_Gaps.l0 k x0 x5 x15 x16 (wrap64 (x17 + 1)))))) else (none)) else (none)) else (some (x5, 0))
def pancake_Gaps.f (k : Nat) (l0 : List Int) : Option (Int × Int) := (pancake_Check.f k l0).bind fun t231 => (if t231 = 0 then (pancake_Gaps.l0 k l0 0 l0 (l0.length : Int) 0) else (some (0, t231)))
set_option maxHeartbeats 8000000 in
set_option maxRecDepth 100000 in
theorem pancake_Gaps.calls (k : Nat) (A0 : Option Addr) (c0 : Nat) (l0 : List Int) (r1 : Int) (r2 : Int) (w : World) (hr0 : Kd.C (Kd.int .i64) w A0 l0.length l0) (hc0 : l0.length ≤ c0) (h : pancake_Gaps.f k l0 = some (r1, r2)) :
  Calls Try.prog 30 #[.slice A0 l0.length c0] w fun e w' => e = .returned (.tuple #[.int .i64 r1, .int .i64 r2]) ∧ Below w.heap.size w w' := by
 have HR0 := Aside0.mk hr0
 have HC0 := Aside0.mk hc0
 clear hr0 hc0
 have HB := Aside0.mk (Below.refl w.heap.size w)
 have H : ((pancake_Check.f k l0).bind fun t231 => (if t231 = 0 then (pancake_Gaps.l0 k l0 0 l0 (l0.length : Int) 0) else (some (0, t231)))) = some (r1, r2) := h
 clear h
 replace H := Option.bind_eq_some_iff.mp H
 obtain ⟨t231, A20, H⟩ := H
 replace H : (if t231 = 0 then (pancake_Gaps.l0 k l0 0 l0 (l0.length : Int) 0) else (some (0, t231))) = some (r1, r2) := H
 have A2 := Aside0.mk A20
 clear A20
 by_cases c3 : t231 = 0
 ·rw [if_pos c3] at H
  have c3b0 : (t231 == 0) = true := beq_iff_eq.mpr c3
  have c3b1 : (t231 != 0) = false := bne_eq_false_iff_eq.mpr c3
  clear c3
  have H' := Aside0.mk H
  clear H
  go_enter Try.func30, Try.ntmps30
  go_wp2_with (first|((with_reducible refine gate_callee (f := 58) rfl ?_);refine goesL_ (some 11) rfl rfl Try.func58 (by kernel_rfl) rfl #[.slice A0 l0.length c0] rfl (by (try simp only [List.map_toArray, List.map_cons, List.map_nil]);first|done|rfl|(simp only [List.length_drop, List.length_take];rfl)) ?_;(with_reducible refine (pancake_Check.calls k (fun k_ => k_ < w.heap.size) _ _ l0 t231 _ ?side1 A2.out).mono ?_);(case side1 => exact Kd.V_mk HC0.out (Kd.F_below (Kd.C_F (Kd.heap_int .i64) HR0.out) (by repeat (first|(with_reducible first|exact HB.out|apply below_alloc|apply pw_below_drewN|apply below_drew1)|exact HB.out))));rintro e w4 ⟨rfl, hb⟩;refine ⟨_, rfl, ?_⟩;have n0_ := Aside0.mk (below_step (by repeat (first|(with_reducible first|exact HB.out|apply below_alloc|apply pw_below_drewN|apply below_drew1)|exact HB.out)) hb);clear HB;have HB := n0_;clear n0_;(try clear hb);(try clear hb2);(try clear hk);(try clear hi)))
  go_loopg [5, 17] k (fun kq v5 v17 w' => ∃ (x5_1 : Int) (x17_1 : Int), v5 = .int .i64 x5_1 ∧ v17 = .int .i64 x17_1 ∧ Aside0 (pancake_Gaps.l0 kq l0 x5_1 l0 (l0.length : Int) x17_1 = some (r1, r2)) ∧ Aside0 (kq ≤ k) ∧ Aside0 (Below w.heap.size w w'))
  case atStart => exact ⟨(0), (0), (by first | rfl | (simp; done) | (simp [*]; done)), (by first | rfl | (simp; done) | (simp [*]; done)), H', ⟨Nat.le_refl _⟩, ⟨by repeat (first | (with_reducible first | exact HB.out | apply below_alloc | apply pw_below_drewN | apply below_drew1) | exact HB.out)⟩⟩
  case round =>
   clear H'
   obtain ⟨x5_1, x17_1, rfl, rfl, HA, HK1, HB⟩ := hrel
   cases gk with
   | zero => exact absurd HA.out (by simp [pancake_Gaps.l0])
   | succ k1 =>
    have H := HA.out
    clear HA
    simp only [pancake_Gaps.l0] at H
    by_cases c5 : x17_1 < (l0.length : Int)
    ·rw [if_pos c5] at H
     have c5b0 : decide (x17_1 < (l0.length : Int)) = true := decide_eq_true c5
     clear c5
     by_cases c6 : 0 ≤ x17_1
     rotate_left
     ·rw [if_neg c6] at H
      exact absurd H (by simp)
     rw [if_pos c6] at H
     have c6b0 : decide (0 ≤ x17_1) = true := decide_eq_true c6
     clear c6
     by_cases c7 : x17_1 < (l0.length : Int)
     rotate_left
     ·rw [if_neg c7] at H
      exact absurd H (by simp)
     rw [if_pos c7] at H
     have c7b0 : decide (x17_1 < (l0.length : Int)) = true := decide_eq_true c7
     clear c7
     by_cases c8 : (wrap64 (x17_1 + 1)) < (l0.length : Int)
     ·rw [if_pos c8] at H
      have c8b0 : decide ((wrap64 (x17_1 + 1)) < (l0.length : Int)) = true := decide_eq_true c8
      clear c8
      obtain ⟨ji9, hji9⟩ : ∃ j_ : Int, (wrap64 (x17_1 + 1)) = j_ := ⟨_, rfl⟩
      replace H : (if 0 ≤ (ji9) then (if (wrap64 ((rd l0 (ji9)) - (rd l0 x17_1))) > 1 then (pancake_Gaps.l0 k1 l0 (wrap64 (x5_1 + 1)) l0 (l0.length : Int) ji9) else (if (wrap64 ((rd l0 (ji9)) - (rd l0 x17_1))) < (-1) then (pancake_Gaps.l0 k1 l0 (wrap64 (x5_1 + 1)) l0 (l0.length : Int) ji9) else (pancake_Gaps.l0 k1 l0 x5_1 l0 (l0.length : Int) ji9))) else (none)) = some (r1, r2) := by first | (rw [hji9] at H; exact H) | (simp only [hji9] at H ⊢; exact H)
      (try rw [hji9] at c8b0)
      have hji9w : (IntKind.i64.wrap (x17_1 + 1)) = ji9 := (i64_w _).trans hji9
      by_cases c10 : 0 ≤ (ji9)
      rotate_left
      ·rw [if_neg c10] at H
       exact absurd H (by simp)
      rw [if_pos c10] at H
      have c10b0 : decide (0 ≤ (ji9)) = true := decide_eq_true c10
      clear c10
      by_cases c11 : (wrap64 ((rd l0 (ji9)) - (rd l0 x17_1))) > 1
      ·rw [if_pos c11] at H
       have c11b0 : decide (1 < (wrap64 ((rd l0 (ji9)) - (rd l0 x17_1)))) = true := decide_eq_true c11
       clear c11
       have H' := Aside0.mk H
       clear H
       have p232 : 0 ≤ (x17_1 : Int) := of_decide_eq_true (by first | (with_reducible assumption) | assumption)
       have q232 : x17_1 < (l0.length : Int) := of_decide_eq_true (by first | (with_reducible assumption) | assumption)
       obtain ⟨ad232, e232, hx232_0⟩ := Kd.at_int HR0.out x17_1 p232 q232
       cases e232
       replace hx232_0 := (HB.out.cell (World.block_lt_of_cell? w _ hx232_0)).trans hx232_0
       replace p232 := eq_true p232
       replace q232 := eq_true q232
       have p233 : 0 ≤ ((ji9) : Int) := of_decide_eq_true (by first | (with_reducible assumption) | assumption)
       have q233 : (ji9) < (l0.length : Int) := of_decide_eq_true (by first | (with_reducible assumption) | assumption)
       obtain ⟨ad233, e233, hx233_0⟩ := Kd.at_int HR0.out (ji9) p233 q233
       obtain rfl : ad232 = ad233 := (by injection e233)
       replace hx233_0 := (HB.out.cell (World.block_lt_of_cell? w _ hx233_0)).trans hx233_0
       replace p233 := eq_true p233
       replace q233 := eq_true q233
       go_wp2
       go_roundg k1
       case measure => have := HK1.out; omega
       case rel => exact ⟨(wrap64 (x5_1 + 1)), (ji9), (by first | rfl | (simp; done) | (simp [*]; done)), (by first | rfl | (simp; done) | (simp only [← hji9] <;> (first | rfl | simp)) | (simp [*]; done)), H', ⟨by have := HK1.out; omega⟩, ⟨by repeat (first | (with_reducible first | exact HB.out | apply below_alloc | apply pw_below_drewN | apply below_drew1) | exact HB.out)⟩⟩
      ·rw [if_neg c11] at H
       have c11b0 : decide (1 < (wrap64 ((rd l0 (ji9)) - (rd l0 x17_1)))) = false := decide_eq_false c11
       clear c11
       by_cases c12 : (wrap64 ((rd l0 (ji9)) - (rd l0 x17_1))) < (-1)
       ·rw [if_pos c12] at H
        have c12b0 : decide ((wrap64 ((rd l0 (ji9)) - (rd l0 x17_1))) < (-1)) = true := decide_eq_true c12
        clear c12
        have H' := Aside0.mk H
        clear H
        have p232 : 0 ≤ (x17_1 : Int) := of_decide_eq_true (by first | (with_reducible assumption) | assumption)
        have q232 : x17_1 < (l0.length : Int) := of_decide_eq_true (by first | (with_reducible assumption) | assumption)
        obtain ⟨ad232, e232, hx232_0⟩ := Kd.at_int HR0.out x17_1 p232 q232
        cases e232
        replace hx232_0 := (HB.out.cell (World.block_lt_of_cell? w _ hx232_0)).trans hx232_0
        replace p232 := eq_true p232
        replace q232 := eq_true q232
        have p233 : 0 ≤ ((ji9) : Int) := of_decide_eq_true (by first | (with_reducible assumption) | assumption)
        have q233 : (ji9) < (l0.length : Int) := of_decide_eq_true (by first | (with_reducible assumption) | assumption)
        obtain ⟨ad233, e233, hx233_0⟩ := Kd.at_int HR0.out (ji9) p233 q233
        obtain rfl : ad232 = ad233 := (by injection e233)
        replace hx233_0 := (HB.out.cell (World.block_lt_of_cell? w _ hx233_0)).trans hx233_0
        replace p233 := eq_true p233
        replace q233 := eq_true q233
        go_wp2
        go_roundg k1
        case measure => have := HK1.out; omega
        case rel => exact ⟨(wrap64 (x5_1 + 1)), (ji9), (by first | rfl | (simp; done) | (simp [*]; done)), (by first | rfl | (simp; done) | (simp only [← hji9] <;> (first | rfl | simp)) | (simp [*]; done)), H', ⟨by have := HK1.out; omega⟩, ⟨by repeat (first | (with_reducible first | exact HB.out | apply below_alloc | apply pw_below_drewN | apply below_drew1) | exact HB.out)⟩⟩
       ·rw [if_neg c12] at H
        have c12b0 : decide ((wrap64 ((rd l0 (ji9)) - (rd l0 x17_1))) < (-1)) = false := decide_eq_false c12
        clear c12
        have H' := Aside0.mk H
        clear H
        have p232 : 0 ≤ (x17_1 : Int) := of_decide_eq_true (by first | (with_reducible assumption) | assumption)
        have q232 : x17_1 < (l0.length : Int) := of_decide_eq_true (by first | (with_reducible assumption) | assumption)
        obtain ⟨ad232, e232, hx232_0⟩ := Kd.at_int HR0.out x17_1 p232 q232
        cases e232
        replace hx232_0 := (HB.out.cell (World.block_lt_of_cell? w _ hx232_0)).trans hx232_0
        replace p232 := eq_true p232
        replace q232 := eq_true q232
        have p233 : 0 ≤ ((ji9) : Int) := of_decide_eq_true (by first | (with_reducible assumption) | assumption)
        have q233 : (ji9) < (l0.length : Int) := of_decide_eq_true (by first | (with_reducible assumption) | assumption)
        obtain ⟨ad233, e233, hx233_0⟩ := Kd.at_int HR0.out (ji9) p233 q233
        obtain rfl : ad232 = ad233 := (by injection e233)
        replace hx233_0 := (HB.out.cell (World.block_lt_of_cell? w _ hx233_0)).trans hx233_0
        replace p233 := eq_true p233
        replace q233 := eq_true q233
        go_wp2
        go_roundg k1
        case measure => have := HK1.out; omega
        case rel => exact ⟨(x5_1), (ji9), (by first | rfl | (simp; done) | (simp [*]; done)), (by first | rfl | (simp; done) | (simp only [← hji9] <;> (first | rfl | simp)) | (simp [*]; done)), H', ⟨by have := HK1.out; omega⟩, ⟨by repeat (first | (with_reducible first | exact HB.out | apply below_alloc | apply pw_below_drewN | apply below_drew1) | exact HB.out)⟩⟩
     ·rw [if_neg c8] at H
      have c8b0 : decide ((wrap64 (x17_1 + 1)) < (l0.length : Int)) = false := decide_eq_false c8
      clear c8
      by_cases c13 : (wrap64 ((wrap64 ((l0.length : Int) + 1)) - (rd l0 x17_1))) > 1
      ·rw [if_pos c13] at H
       have c13b0 : decide (1 < (wrap64 ((wrap64 ((l0.length : Int) + 1)) - (rd l0 x17_1)))) = true := decide_eq_true c13
       clear c13
       have H' := Aside0.mk H
       clear H
       have p232 : 0 ≤ (x17_1 : Int) := of_decide_eq_true (by first | (with_reducible assumption) | assumption)
       have q232 : x17_1 < (l0.length : Int) := of_decide_eq_true (by first | (with_reducible assumption) | assumption)
       obtain ⟨ad232, e232, hx232_0⟩ := Kd.at_int HR0.out x17_1 p232 q232
       cases e232
       replace hx232_0 := (HB.out.cell (World.block_lt_of_cell? w _ hx232_0)).trans hx232_0
       replace p232 := eq_true p232
       replace q232 := eq_true q232
       go_wp2
       go_roundg k1
       case measure => have := HK1.out; omega
       case rel => exact ⟨(wrap64 (x5_1 + 1)), (wrap64 (x17_1 + 1)), (by first | rfl | (simp; done) | (simp [*]; done)), (by first | rfl | (simp; done) | (simp [*]; done)), H', ⟨by have := HK1.out; omega⟩, ⟨by repeat (first | (with_reducible first | exact HB.out | apply below_alloc | apply pw_below_drewN | apply below_drew1) | exact HB.out)⟩⟩
      ·rw [if_neg c13] at H
       have c13b0 : decide (1 < (wrap64 ((wrap64 ((l0.length : Int) + 1)) - (rd l0 x17_1)))) = false := decide_eq_false c13
       clear c13
       by_cases c14 : (wrap64 ((wrap64 ((l0.length : Int) + 1)) - (rd l0 x17_1))) < (-1)
       ·rw [if_pos c14] at H
        have c14b0 : decide ((wrap64 ((wrap64 ((l0.length : Int) + 1)) - (rd l0 x17_1))) < (-1)) = true := decide_eq_true c14
        clear c14
        have H' := Aside0.mk H
        clear H
        have p232 : 0 ≤ (x17_1 : Int) := of_decide_eq_true (by first | (with_reducible assumption) | assumption)
        have q232 : x17_1 < (l0.length : Int) := of_decide_eq_true (by first | (with_reducible assumption) | assumption)
        obtain ⟨ad232, e232, hx232_0⟩ := Kd.at_int HR0.out x17_1 p232 q232
        cases e232
        replace hx232_0 := (HB.out.cell (World.block_lt_of_cell? w _ hx232_0)).trans hx232_0
        replace p232 := eq_true p232
        replace q232 := eq_true q232
        go_wp2
        go_roundg k1
        case measure => have := HK1.out; omega
        case rel => exact ⟨(wrap64 (x5_1 + 1)), (wrap64 (x17_1 + 1)), (by first | rfl | (simp; done) | (simp [*]; done)), (by first | rfl | (simp; done) | (simp [*]; done)), H', ⟨by have := HK1.out; omega⟩, ⟨by repeat (first | (with_reducible first | exact HB.out | apply below_alloc | apply pw_below_drewN | apply below_drew1) | exact HB.out)⟩⟩
       ·rw [if_neg c14] at H
        have c14b0 : decide ((wrap64 ((wrap64 ((l0.length : Int) + 1)) - (rd l0 x17_1))) < (-1)) = false := decide_eq_false c14
        clear c14
        have H' := Aside0.mk H
        clear H
        have p232 : 0 ≤ (x17_1 : Int) := of_decide_eq_true (by first | (with_reducible assumption) | assumption)
        have q232 : x17_1 < (l0.length : Int) := of_decide_eq_true (by first | (with_reducible assumption) | assumption)
        obtain ⟨ad232, e232, hx232_0⟩ := Kd.at_int HR0.out x17_1 p232 q232
        cases e232
        replace hx232_0 := (HB.out.cell (World.block_lt_of_cell? w _ hx232_0)).trans hx232_0
        replace p232 := eq_true p232
        replace q232 := eq_true q232
        go_wp2
        go_roundg k1
        case measure => have := HK1.out; omega
        case rel => exact ⟨(x5_1), (wrap64 (x17_1 + 1)), (by first | rfl | (simp; done) | (simp [*]; done)), (by first | rfl | (simp; done) | (simp [*]; done)), H', ⟨by have := HK1.out; omega⟩, ⟨by repeat (first | (with_reducible first | exact HB.out | apply below_alloc | apply pw_below_drewN | apply below_drew1) | exact HB.out)⟩⟩
    ·rw [if_neg c5] at H
     have c5b0 : decide (x17_1 < (l0.length : Int)) = false := decide_eq_false c5
     clear c5
     simp only [Option.some.injEq, Prod.mk.injEq] at H
     obtain ⟨rfl, rfl⟩ := H
     go_wp2
     go_ret2
     exact ⟨by first | rfl | (simp [errW_none, errW_some] <;> rfl) | (simp [*, errW_none, errW_some] <;> rfl), by repeat (first | (with_reducible first | exact HB.out | apply below_alloc | apply pw_below_drewN | apply below_drew1) | exact HB.out)⟩
 ·rw [if_neg c3] at H
  have c3b0 : (t231 == 0) = false := beq_eq_false_iff_ne.mpr c3
  have c3b1 : (t231 != 0) = true := bne_iff_ne.mpr c3
  simp only [Option.some.injEq, Prod.mk.injEq] at H
  obtain ⟨rfl, rfl⟩ := H
  go_enter Try.func30, Try.ntmps30
  go_wp2_with (first|((with_reducible refine gate_callee (f := 58) rfl ?_);refine goesL_ (some 11) rfl rfl Try.func58 (by kernel_rfl) rfl #[.slice A0 l0.length c0] rfl (by (try simp only [List.map_toArray, List.map_cons, List.map_nil]);first|done|rfl|(simp only [List.length_drop, List.length_take];rfl)) ?_;(with_reducible refine (pancake_Check.calls k (fun k_ => k_ < w.heap.size) _ _ l0 t231 _ ?side1 A2.out).mono ?_);(case side1 => exact Kd.V_mk HC0.out (Kd.F_below (Kd.C_F (Kd.heap_int .i64) HR0.out) (by repeat (first|(with_reducible first|exact HB.out|apply below_alloc|apply pw_below_drewN|apply below_drew1)|exact HB.out))));rintro e w15 ⟨rfl, hb⟩;refine ⟨_, rfl, ?_⟩;have n0_ := Aside0.mk (below_step (by repeat (first|(with_reducible first|exact HB.out|apply below_alloc|apply pw_below_drewN|apply below_drew1)|exact HB.out)) hb);clear HB;have HB := n0_;clear n0_;(try clear hb);(try clear hb2);(try clear hk);(try clear hi)))
  go_ret2
  exact ⟨by first | rfl | (simp [errW_none, errW_some] <;> rfl) | (simp [*, errW_none, errW_some] <;> rfl), by repeat (first | (with_reducible first | exact HB.out | apply below_alloc | apply pw_below_drewN | apply below_drew1) | exact HB.out)⟩
end Go.Proofs.Ytepjhdblmghckaa.Q

namespace Go.Proofs.Ytepjhdblmghckaa.G
end Go.Proofs.Ytepjhdblmghckaa.G
namespace Go.Proofs.Ytepjhdblmghckaa.Q
open Go.Proofs.Ytepjhdblmghckaa.G
open Go.RowKit Go.Proofs.YtepjhdblmghckaaW.PrintWords Go.Proofs.YtepjhdblmghckaaW.PrintLast Go.Proofs.YtepjhdblmghckaaW.PrintMore
attribute [local go_sem] max2_int min2_int max_two min_two max_three min_three max_four min_four
set_option linter.unusedVariables false
set_option linter.unusedSimpArgs false
def pancake_CheckBurnt.f (k : Nat) (l0 : List Int) : Option (Int) := (pancake_check.f k true 6 (([l0] : List (List Int)))).bind fun t247 => (some t247)
set_option maxHeartbeats 8000000 in
set_option maxRecDepth 100000 in
theorem pancake_CheckBurnt.calls (k : Nat) (P0_ : Nat → Prop) (A0 : Option Addr) (c0 : Nat) (l0 : List Int) (r : Int) (w : World) (hs0 : Kd.V (Kd.int .i64) 3 w w.heap.size (fun k_ => P0_ k_) (.slice A0 l0.length c0) l0) (h : pancake_CheckBurnt.f k l0 = some r) :
  Calls Try.prog 59 #[.slice A0 l0.length c0] w fun e w' => e = .returned (.int .i64 r) ∧ Below w.heap.size w w' := by
 have HO0 := Aside0.mk (show Kd.V (Kd.int .i64) 3 w w.heap.size (fun k_ => (P0_ k_ ∨ w.heap.size ≤ k_)) (.slice A0 l0.length c0) l0 from Kd.V_mono hs0 (fun k_ hk => .inl hk))
 have HB := Aside0.mk (Below.refl w.heap.size w)
 have H : ((pancake_check.f k true 6 (([l0] : List (List Int)))).bind fun t247 => (some t247)) = some r := h
 clear h
 obtain ⟨y244, hy244⟩ : ∃ y_ : List (List Int), y_ = (([l0] : List (List Int))) := ⟨_, rfl⟩
 replace H : ((pancake_check.f k true 6 y244).bind fun t247 => (some t247)) = some r := by first | (rw [hy244]; with_reducible exact H) | (have H2_ := (Option.bind_some _ _).symm.trans H; rw [hy244]; with_reducible exact H2_) | (have H2_ := (Option.bind_some _ _).symm.trans H; with_reducible exact H2_) | with_reducible exact H | (rw [hy244]; exact H) | exact H
 have Ny244 := Aside0.mk hy244
 clear hy244
 replace H := Option.bind_eq_some_iff.mp H
 obtain ⟨t247, A20, H⟩ := H
 replace H : (some t247) = some r := H
 have A2 := Aside0.mk A20
 clear A20
 obtain rfl := Option.some.inj H
 go_enter Try.func59, Try.ntmps59
 go_wp2_with (first|((with_reducible refine gate_dst (N := 4) rfl ?_);refine Kd.N_lit (Kd.slice 3 (Kd.int .i64)) _ 22 ?hg (N' := 4) ?hd (xs := ([l0] : List (List Int))) (inner := [.slice A0 l0.length c0]) (ok := (fun k_ => (P0_ k_ ∨ w.heap.size ≤ k_))) (okp := (fun k_ => (P0_ k_ ∨ w.heap.size ≤ k_))) ?hr ?hp (fun _ hk => hk) ((show ∀ k_, w.heap.size ≤ k_ → (fun k_ => (P0_ k_ ∨ w.heap.size ≤ k_)) k_ from fun k_ hk => (.inr (Nat.le_trans (below_size (by repeat (first|(with_reducible first|exact HB.out|apply below_alloc|apply pw_below_drewN|apply below_drew1)|exact HB.out))) hk))) _ (Nat.le_refl _)) (Below.refl _ _) (Nat.le_refl _) (by simp) ?_;(case hd => rfl);(case hg => rfl);(case hr => first|(go_simp;done)|(go_simp;rfl));(case hp => exact (Reps.one (show Kd.FK (Kd.slice 3 (Kd.int .i64)) _ _ l0 [.slice A0 l0.length c0] from (Kd.FK_slice_mk (Kd.V_reads' (Kd.V_mono (ok' := (fun k_ => (P0_ k_ ∨ w.heap.size ≤ k_))) (HO0.out) (fun k_ hk => hk))).2.1 (Kd.V_F (Kd.V_mono (ok' := (fun k_ => (P0_ k_ ∨ w.heap.size ≤ k_))) (HO0.out) (fun k_ hk => hk))))) (Reps.none _ _)));intro v245 w3 ho4 hb hg_ hnew_;clear hg_ hnew_;(first|rw [← Ny244.out] at ho4|(simp only [Int.reduceToNat] at ho4;rw [← Ny244.out] at ho4));have n0_ := Aside0.mk (Kd.V_elder' (by (with_reducible repeat (first|apply Kd.V_alloc|apply Kd.V_drewN|apply Kd.V_drew));exact HO0.out) (Kd.N_base ho4) hb);have n1_ := Aside0.mk (Kd.N_lower ho4 (below_size (by repeat (first|(with_reducible first|exact HB.out|apply below_alloc|apply pw_below_drewN|apply below_drew1)|exact HB.out))));have n2_ := Aside0.mk (below_step (by repeat (first|(with_reducible first|exact HB.out|apply below_alloc|apply pw_below_drewN|apply below_drew1)|exact HB.out)) hb);clear HO0;clear HB;have HO0 := n0_;have HO246 := n1_;have HB := n2_;clear n0_ n1_ n2_;clear hb ho4;obtain ⟨Ao5, co5, eo5⟩ := Kd.N_slice HO246.out;subst eo5)|((with_reducible refine gate_callee (f := 68) rfl ?_);refine goesL_ (some 5) rfl rfl Try.func68 (by kernel_rfl) rfl #[.bool true, .int .i64 6, .slice Ao5 y244.length co5] rfl (by (try simp only [List.map_toArray, List.map_cons, List.map_nil]);first|done|rfl|(simp only [List.length_drop, List.length_take];rfl)) ?_;(with_reducible refine (pancake_check.calls k true 6 _ _ y244 t247 _ ?side1 ?side2 A2.out).mono ?_);(case side1 => repeat (first|exact (Kd.N_reads' HO246.out).2.2|(with_reducible refine Kd.C_alloc ?_ _)|(with_reducible refine Kd.C_drewN ?_ _)|(with_reducible refine Kd.C_drew ?_)));(case side2 => exact (Kd.N_reads' HO246.out).2.1);rintro e w6 ⟨rfl, hb⟩;refine ⟨_, rfl, ?_⟩;have n0_ := Aside0.mk (Kd.V_below (by (with_reducible repeat (first|apply Kd.V_alloc|apply Kd.V_drewN|apply Kd.V_drew));exact HO0.out) hb);have n1_ := Aside0.mk (Kd.N_below (by (with_reducible repeat (first|apply Kd.N_alloc|apply Kd.N_drewN|apply Kd.N_drew));exact HO246.out) hb);have n2_ := Aside0.mk (below_step (by repeat (first|(with_reducible first|exact HB.out|apply below_alloc|apply pw_below_drewN|apply below_drew1)|exact HB.out)) hb);clear HO0;clear HO246;clear HB;have HO0 := n0_;have HO246 := n1_;have HB := n2_;clear n0_ n1_ n2_;(try clear hb);(try clear hb2);(try clear hk);(try clear hi)))
 go_ret
 exact ⟨by first | rfl | (simp [errW_none, errW_some] <;> rfl) | (simp [*, errW_none, errW_some] <;> rfl), by repeat (first | (with_reducible first | exact HB.out | apply below_alloc | apply pw_below_drewN | apply below_drew1) | exact HB.out)⟩
end Go.Proofs.Ytepjhdblmghckaa.Q

namespace Go.Proofs.Ytepjhdblmghckaa.G
end Go.Proofs.Ytepjhdblmghckaa.G
namespace Go.Proofs.Ytepjhdblmghckaa.Q
open Go.Proofs.Ytepjhdblmghckaa.G
open Go.RowKit Go.Proofs.YtepjhdblmghckaaW.PrintWords Go.Proofs.YtepjhdblmghckaaW.PrintLast Go.Proofs.YtepjhdblmghckaaW.PrintMore
attribute [local go_sem] max2_int min2_int max_two min_two max_three min_three max_four min_four
set_option linter.unusedVariables false
set_option linter.unusedSimpArgs false
def pancake_FlipBurnt.f (k : Nat) (l0 : List Int) (a1 : Int) : Option (List Int × Int) := (pancake_CheckBurnt.f k l0).bind fun t248 => (if t248 = 0 then ((pancake_topFlipped.f l0 a1 true).bind fun bt249 => (some (bt249.1, bt249.2))) else (some (([] : List Int), t248)))
set_option maxHeartbeats 8000000 in
set_option maxRecDepth 100000 in
theorem pancake_FlipBurnt.calls (k : Nat) (A0 : Option Addr) (c0 : Nat) (l0 : List Int) (a1 : Int) (r1 : List Int) (r2 : Int) (w : World) (hr0 : Kd.C (Kd.int .i64) w A0 l0.length l0) (hc0 : l0.length ≤ c0) (h : pancake_FlipBurnt.f k l0 a1 = some (r1, r2)) :
  Calls Try.prog 33 #[.slice A0 l0.length c0, .int .i64 a1] w fun e w' => ∃ v0_ : Value, e = .returned (.tuple #[v0_, .int .i64 r2]) ∧ Kd.R (Kd.int .i64) 3 w' w.heap.size (fun _ => True) v0_ r1 ∧ Below w.heap.size w w' := by
 have HR0 := Aside0.mk hr0
 have HC0 := Aside0.mk hc0
 clear hr0 hc0
 have HB := Aside0.mk (Below.refl w.heap.size w)
 have H : ((pancake_CheckBurnt.f k l0).bind fun t248 => (if t248 = 0 then ((pancake_topFlipped.f l0 a1 true).bind fun bt249 => (some (bt249.1, bt249.2))) else (some (([] : List Int), t248)))) = some (r1, r2) := h
 clear h
 replace H := Option.bind_eq_some_iff.mp H
 obtain ⟨t248, A30, H⟩ := H
 replace H : (if t248 = 0 then ((pancake_topFlipped.f l0 a1 true).bind fun bt249 => (some (bt249.1, bt249.2))) else (some (([] : List Int), t248))) = some (r1, r2) := H
 have A3 := Aside0.mk A30
 clear A30
 by_cases c4 : t248 = 0
 ·rw [if_pos c4] at H
  have c4b0 : (t248 == 0) = true := beq_iff_eq.mpr c4
  have c4b1 : (t248 != 0) = false := bne_eq_false_iff_eq.mpr c4
  clear c4
  replace H := Option.bind_eq_some_iff.mp H
  obtain ⟨⟨t249, t250⟩, A50, H⟩ := H
  replace H : (some (t249, t250)) = some (r1, r2) := H
  have A5 := Aside0.mk A50
  clear A50
  simp only [Option.some.injEq, Prod.mk.injEq] at H
  obtain ⟨rfl, rfl⟩ := H
  go_enter Try.func33, Try.ntmps33
  go_wp2_with (first|((with_reducible refine gate_callee (f := 59) rfl ?_);refine goesL_ (some 8) rfl rfl Try.func59 (by kernel_rfl) rfl #[.slice A0 l0.length c0] rfl (by (try simp only [List.map_toArray, List.map_cons, List.map_nil]);first|done|rfl|(simp only [List.length_drop, List.length_take];rfl)) ?_;(with_reducible refine (pancake_CheckBurnt.calls k (fun k_ => k_ < w.heap.size) _ _ l0 t248 _ ?side1 A3.out).mono ?_);(case side1 => exact Kd.V_mk HC0.out (Kd.F_below (Kd.C_F (Kd.heap_int .i64) HR0.out) (by repeat (first|(with_reducible first|exact HB.out|apply below_alloc|apply pw_below_drewN|apply below_drew1)|exact HB.out))));rintro e w6 ⟨rfl, hb⟩;refine ⟨_, rfl, ?_⟩;have n0_ := Aside0.mk (below_step (by repeat (first|(with_reducible first|exact HB.out|apply below_alloc|apply pw_below_drewN|apply below_drew1)|exact HB.out)) hb);clear HB;have HB := n0_;clear n0_;(try clear hb);(try clear hb2);(try clear hk);(try clear hi))|((with_reducible refine gate_callee (f := 71) rfl ?_);refine goesL_ (some 14) rfl rfl Try.func71 (by kernel_rfl) rfl #[.slice A0 l0.length c0, .int .i64 a1, .bool true] rfl (by (try simp only [List.map_toArray, List.map_cons, List.map_nil]);first|done|rfl|(simp only [List.length_drop, List.length_take];rfl)) ?_;(with_reducible refine (pancake_topFlipped.calls _ _ l0 a1 true t249 t250 _ ?side1 ?side2 A5.out).mono ?_);(case side1 => repeat (first|exact (Kd.C_below HR0.out HB.out)|(with_reducible refine Kd.C_alloc ?_ _)|(with_reducible refine Kd.C_drewN ?_ _)|(with_reducible refine Kd.C_drew ?_)));(case side2 => exact HC0.out);rintro e w7 ⟨v251, rfl, ho0, hb⟩;refine ⟨_, rfl, ?_⟩;have n0_ := Aside0.mk (Kd.R_lower ho0 (below_size (by repeat (first|(with_reducible first|exact HB.out|apply below_alloc|apply pw_below_drewN|apply below_drew1)|exact HB.out))));have n1_ := Aside0.mk (below_step (by repeat (first|(with_reducible first|exact HB.out|apply below_alloc|apply pw_below_drewN|apply below_drew1)|exact HB.out)) hb);clear HB;have HO252 := n0_;have HB := n1_;clear n0_ n1_;(try clear hb);(try clear hb2);(try clear hk);(try clear hi);(try clear ho0)))
  go_ret2
  exact ⟨_, by first | rfl | (simp [errW_none, errW_some] <;> rfl) | (simp [*, errW_none, errW_some] <;> rfl), by (with_reducible repeat (first | apply Kd.R_alloc | apply Kd.R_drewN | apply Kd.R_drew)); exact HO252.out, by repeat (first | (with_reducible first | exact HB.out | apply below_alloc | apply pw_below_drewN | apply below_drew1) | exact HB.out)⟩
 ·rw [if_neg c4] at H
  have c4b0 : (t248 == 0) = false := beq_eq_false_iff_ne.mpr c4
  have c4b1 : (t248 != 0) = true := bne_iff_ne.mpr c4
  simp only [Option.some.injEq, Prod.mk.injEq] at H
  obtain ⟨rfl, rfl⟩ := H
  go_enter Try.func33, Try.ntmps33
  go_wp2_with (first|((with_reducible refine gate_callee (f := 59) rfl ?_);refine goesL_ (some 8) rfl rfl Try.func59 (by kernel_rfl) rfl #[.slice A0 l0.length c0] rfl (by (try simp only [List.map_toArray, List.map_cons, List.map_nil]);first|done|rfl|(simp only [List.length_drop, List.length_take];rfl)) ?_;(with_reducible refine (pancake_CheckBurnt.calls k (fun k_ => k_ < w.heap.size) _ _ l0 t248 _ ?side1 A3.out).mono ?_);(case side1 => exact Kd.V_mk HC0.out (Kd.F_below (Kd.C_F (Kd.heap_int .i64) HR0.out) (by repeat (first|(with_reducible first|exact HB.out|apply below_alloc|apply pw_below_drewN|apply below_drew1)|exact HB.out))));rintro e w8 ⟨rfl, hb⟩;refine ⟨_, rfl, ?_⟩;have n0_ := Aside0.mk (below_step (by repeat (first|(with_reducible first|exact HB.out|apply below_alloc|apply pw_below_drewN|apply below_drew1)|exact HB.out)) hb);clear HB;have HB := n0_;clear n0_;(try clear hb);(try clear hb2);(try clear hk);(try clear hi)))
  go_ret2
  exact ⟨_, by first | rfl | (simp [errW_none, errW_some] <;> rfl) | (simp [*, errW_none, errW_some] <;> rfl), by first | exact Kd.R_nil _ _ _ _ _ | exact Kd.N_nil _ _ _ _ _ | exact Kd.V_nil _ _ _ _ _ | exact Kd.Q_nil _ _ _ _ _ | exact Kd.S_nil _ _ _ _ _, by repeat (first | (with_reducible first | exact HB.out | apply below_alloc | apply pw_below_drewN | apply below_drew1) | exact HB.out)⟩
end Go.Proofs.Ytepjhdblmghckaa.Q


namespace Go.Proofs.Ytepjhdblmghckaa.G
open Go.Proofs.Ytepjhdblmghckaa.Q Go.Proofs.Ytepjhdblmghckaa.K Go.Proofs.Ytepjhdblmghckaa.Bf
open Go.RowKit Go.Shelf Go.Proofs.YtepjhdblmghckaaW.PrintWords Go.Proofs.YtepjhdblmghckaaW.PrintLast Go.Proofs.YtepjhdblmghckaaW.PrintMore
set_option linter.unusedVariables false
set_option linter.unusedSimpArgs false
theorem aw2 : pancake_Gaps.f 100 [1, 3, 2] = some (2, 0) := by kernel_rfl
theorem aw7 : pancake_FlipBurnt.f 100 [1] 1 = some ([-1], 0) := by kernel_rfl
theorem aw8 : chk1 false 7 [] = 70 := by kernel_rfl
theorem C_new (W : World) (l : List Int) (hl : l.length ≤ 100) : Kd.C (Kd.int .i64) (W.alloc (.cells (l.map (Value.int .i64)).toArray 3)) (some ⟨W.heap.size, 0, none⟩) l.length l := by
 have hb := Blk.new W (l.map (Value.int .i64)).toArray 3
 refine ⟨rfl, by omega, fun _ => ⟨_, rfl, fun j p hj => ⟨[.int .i64 p], rfl, rfl, fun i u hu => ?_⟩⟩⟩
 match i, hu with
 | 0, hu =>
  cases hu
  show (W.alloc _).cell? (Addr.add ⟨W.heap.size, 0, none⟩ (j * 1 + 0)) = _
  rw [Addr.add_lit, Nat.mul_one, Nat.add_zero, Nat.zero_add]
  exact hb.cell j (by simp [hj])
 | i + 1, hu => simp at hu
def bibelotlaw07_awake.f : Option Bool := some true
set_option maxRecDepth 100000 in
set_option maxHeartbeats 8000000 in
theorem bibelotlaw07_awake.calls (r : Bool) (w : World) (h : bibelotlaw07_awake.f = some r) :
  Calls Try.prog 26 #[] w fun e w' => e = .returned (.bool r) ∧ Below w.heap.size w w' := by
 cases h
 go_enter Try.func26, Try.ntmps26
 go_wp2_with (go_at_call 28; refine stopper ?_)
 try unfold Hold
 have c1 := C_new w [3, 1, 2] (by decide)
 have c2 := C_new (w.alloc (.cells #[.int .i64 3, .int .i64 1, .int .i64 2] 3)) [1, 2, 3] (by decide)
 have hb := (((Below.refl w.heap.size w).alloc (Nat.le_refl _) (.cells #[.int .i64 3, .int .i64 1, .int .i64 2] 3)).alloc (by simp) (.cells #[.int .i64 1, .int .i64 2, .int .i64 3] 3))
 rw [World.size_alloc] at c2
 obtain ⟨w0, hw0⟩ : ∃ w0, (w.alloc (.cells #[.int .i64 3, .int .i64 1, .int .i64 2] 3)).alloc (.cells #[.int .i64 1, .int .i64 2, .int .i64 3] 3) = w0 := ⟨_, rfl⟩
 have c1' := Kd.C_below c1 ((Below.refl _ _).alloc (Nat.le_refl _) (.cells #[.int .i64 1, .int .i64 2, .int .i64 3] 3))
 rw [show (w.alloc (.cells ([3, 1, 2].map (Value.int .i64)).toArray 3)).alloc (.cells #[.int .i64 1, .int .i64 2, .int .i64 3] 3) = w0 from hw0] at c1'
 rw [show (w.alloc (.cells #[.int .i64 3, .int .i64 1, .int .i64 2] 3)).alloc (.cells ([1, 2, 3].map (Value.int .i64)).toArray 3) = w0 from hw0] at c2
 rw [hw0] at hb ⊢
 refine (pancake_Flips.calls (some ⟨w.heap.size, 0, none⟩) 3 [3, 1, 2] (some ⟨w.heap.size + 1, 0, none⟩) 3 [1, 2, 3] 2 0 w0 c1' (by decide) c2 (by decide) aw1).mono ?_
 rintro e w1 ⟨rfl, hb1⟩
 have HB1 := Aside0.mk (hb.trans (hb1.mono hb.size))
 clear c1 c2 c1' hb hw0 hb1
 go_wp2_with (go_at_call 30; refine stopper ?_)
 try unfold Hold
 have c1 := C_new w1 [1, 3, 2] (by decide)
 rw [show w1.alloc (.cells ([1, 3, 2].map (Value.int .i64)).toArray 3) = w1.alloc (.cells #[.int .i64 1, .int .i64 3, .int .i64 2] 3) from rfl] at c1
 have hb := HB1.out.alloc HB1.out.size (.cells #[.int .i64 1, .int .i64 3, .int .i64 2] 3)
 obtain ⟨z1, hz⟩ : ∃ z1, w1.alloc (.cells #[.int .i64 1, .int .i64 3, .int .i64 2] 3) = z1 := ⟨_, rfl⟩
 obtain ⟨y1, hy⟩ : ∃ y1, w1.heap.size = y1 := ⟨_, rfl⟩
 rw [hz, hy] at c1
 rw [hz] at hb
 try rw [hz]
 try rw [hy]
 refine (pancake_Gaps.calls 100 (some ⟨y1, 0, none⟩) 3 [1, 3, 2] 2 0 z1 c1 (by decide) aw2).mono ?_
 rintro e w2 ⟨rfl, hb1⟩
 have HB2 := Aside0.mk (hb.trans (hb1.mono hb.size))
 clear c1 hb hz hy hb1
 go_wp2_with (go_at_call 42; refine stopper ?_)
 try unfold Hold
 refine (pancake_Worst.calls 3 3 1 0 w2 aw3).mono ?_
 rintro e w3 ⟨rfl, hb1⟩
 have HB3 := Aside0.mk (HB2.out.trans (hb1.mono HB2.out.size))
 clear hb1
 go_wp2_with (go_at_call 23; refine stopper ?_)
 try unfold Hold
 have c1 := C_new w3 [2, 1] (by decide)
 rw [show w3.alloc (.cells ([2, 1].map (Value.int .i64)).toArray 3) = w3.alloc (.cells #[.int .i64 2, .int .i64 1] 3) from rfl] at c1
 have hb := HB3.out.alloc HB3.out.size (.cells #[.int .i64 2, .int .i64 1] 3)
 obtain ⟨z3, hz⟩ : ∃ z3, w3.alloc (.cells #[.int .i64 2, .int .i64 1] 3) = z3 := ⟨_, rfl⟩
 obtain ⟨y3, hy⟩ : ∃ y3, w3.heap.size = y3 := ⟨_, rfl⟩
 rw [hz, hy] at c1
 rw [hz] at hb
 try rw [hz]
 try rw [hy]
 refine (pancake_Distance.calls (some ⟨y3, 0, none⟩) 2 [2, 1] 3 0 z3 c1 (by decide) aw4).mono ?_
 rintro e w4 ⟨rfl, hb1⟩
 have HB4 := Aside0.mk (hb.trans (hb1.mono hb.size))
 clear c1 hb hz hy hb1
 go_wp2_with (go_at_call 36; refine stopper ?_)
 try unfold Hold
 have c1 := C_new w4 [-1] (by decide)
 rw [show w4.alloc (.cells ([-1].map (Value.int .i64)).toArray 3) = w4.alloc (.cells #[.int .i64 (-1)] 3) from rfl] at c1
 have hb := HB4.out.alloc HB4.out.size (.cells #[.int .i64 (-1)] 3)
 obtain ⟨z4, hz⟩ : ∃ z4, w4.alloc (.cells #[.int .i64 (-1)] 3) = z4 := ⟨_, rfl⟩
 obtain ⟨y4, hy⟩ : ∃ y4, w4.heap.size = y4 := ⟨_, rfl⟩
 rw [hz, hy] at c1
 rw [hz] at hb
 try rw [hz]
 try rw [hy]
 refine (pancake_Circles.calls (some ⟨y4, 0, none⟩) 1 [-1] [[0, 1]] 0 z4 c1 (by decide) aw5).mono ?_
 rintro e w5 ⟨v5, rfl, hv5, hb1⟩
 have HB5 := Aside0.mk (hb.trans (hb1.mono hb.size))
 clear c1 hb hz hy hb1
 obtain ⟨A5, c5, ev5⟩ := Kd.S_slice hv5
 subst ev5
 have HV5 := Aside0.mk hv5
 clear hv5
 go_wp2_with (go_at_call 22; refine stopper ?_)
 try unfold Hold
 have c1 := C_new w5 [2, 1] (by decide)
 rw [show w5.alloc (.cells ([2, 1].map (Value.int .i64)).toArray 3) = w5.alloc (.cells #[.int .i64 2, .int .i64 1] 3) from rfl] at c1
 have hb := HB5.out.alloc HB5.out.size (.cells #[.int .i64 2, .int .i64 1] 3)
 obtain ⟨z5, hz⟩ : ∃ z5, w5.alloc (.cells #[.int .i64 2, .int .i64 1] 3) = z5 := ⟨_, rfl⟩
 obtain ⟨y5, hy⟩ : ∃ y5, w5.heap.size = y5 := ⟨_, rfl⟩
 rw [hz, hy] at c1
 rw [hz] at hb
 try rw [hz]
 try rw [hy]
 refine (pancake_Components.calls (some ⟨y5, 0, none⟩) 2 [2, 1] 1 1 1 false 0 z5 c1 (by decide) aw6).mono ?_
 rintro e w6 ⟨rfl, hb1⟩
 have HV6 := Aside0.mk (Kd.S_below (Kd.S_below HV5.out (show Below w5.heap.size w5 z5 by rw [← hz]; exact (Below.refl _ _).alloc (Nat.le_refl _) _)) hb1)
 have HB6 := Aside0.mk (hb.trans (hb1.mono hb.size))
 clear c1 hb hz hy hb1
 go_wp2_with (go_at_call 33; refine stopper ?_)
 try unfold Hold
 have c1 := C_new w6 [1] (by decide)
 rw [show w6.alloc (.cells ([1].map (Value.int .i64)).toArray 3) = w6.alloc (.cells #[.int .i64 1] 3) from rfl] at c1
 have hb := HB6.out.alloc HB6.out.size (.cells #[.int .i64 1] 3)
 obtain ⟨z6, hz⟩ : ∃ z6, w6.alloc (.cells #[.int .i64 1] 3) = z6 := ⟨_, rfl⟩
 obtain ⟨y6, hy⟩ : ∃ y6, w6.heap.size = y6 := ⟨_, rfl⟩
 rw [hz, hy] at c1
 rw [hz] at hb
 try rw [hz]
 try rw [hy]
 refine (pancake_FlipBurnt.calls 100 (some ⟨y6, 0, none⟩) 1 [1] 1 [-1] 0 z6 c1 (by decide) aw7).mono ?_
 rintro e w7 ⟨v7, rfl, hv7, hb1⟩
 have HV7 := Aside0.mk (Kd.S_below (Kd.S_below HV6.out (show Below w6.heap.size w6 z6 by rw [← hz]; exact (Below.refl _ _).alloc (Nat.le_refl _) _)) hb1)
 obtain ⟨A7, c7, ev7⟩ := Kd.R_slice hv7
 subst ev7
 obtain ⟨ad7, e7, hc7⟩ := Kd.at_int (Kd.R_reads' hv7).2.2 0 (by decide) (by decide)
 subst e7
 have HB7 := Aside0.mk (hb.trans (hb1.mono hb.size))
 clear c1 hb hz hy hb1
 have hS := Kd.S_reads' HV7.out
 obtain ⟨ad5, cs5, e5, _, ⟨A8, c8, e8, hl8, hc8⟩, hcell⟩ := Kd.C_get hS.2.2 [] 0 (by decide) (by decide)
 subst e5
 subst e8
 have hc9 := hcell 0 _ rfl
 have hc9' : w7.cell? ad5 = some (.slice A8 2 c8) := by simpa [Addr.add_zero'] using hc9
 have hc7' : w7.cell? ad7 = some (.int .i64 (-1)) := by
  have e : rd [-1] 0 = -1 := by decide
  rw [e] at hc7
  simpa [Addr.add_zero'] using hc7
 have HCK := Aside0.mk (check58_one none 0 [] w7 (Kd.C_nil _ _) (Nat.le_refl _))
 rw [aw8] at HCK
 clear hS hl8 hc8 hcell hc9 hc7 hv7
 go_wp2_with (go_at_call 58; refine stopper ?_)
 try unfold Hold
 refine HCK.out.mono ?_
 rintro e w8 ⟨rfl, hb1⟩
 have HB8 := Aside0.mk (HB7.out.trans (hb1.mono HB7.out.size))
 clear hb1
 go_wp2
 go_ret
 exact ⟨rfl, HB8.out⟩
end Go.Proofs.Ytepjhdblmghckaa.G


namespace Go.Proofs.Ytepjhdblmghckaa.G
open Go.Proofs.Ytepjhdblmghckaa.Q Go.Proofs.Ytepjhdblmghckaa.K Go.Proofs.Ytepjhdblmghckaa.Bf
open Go.RowKit Go.Shelf Go.Proofs.YtepjhdblmghckaaW.PrintWords Go.Proofs.YtepjhdblmghckaaW.PrintLast Go.Proofs.YtepjhdblmghckaaW.PrintMore
set_option linter.unusedVariables false
set_option linter.unusedSimpArgs false
set_option maxRecDepth 100000 in
set_option maxHeartbeats 8000000 in
theorem forts_calls (k : Nat) (a0 : Int) (A1 : Option Addr) (c1 : Nat) (l1 : List Int) (w : World) (hr1 : Kd.C (Kd.int .i64) w A1 l1.length l1) (hc1 : l1.length ≤ c1)
  (n : Nat) (hn : n ≤ 40) (x : List Int) (d A B C : Int) (D : Bool) (h1 : bibelotlaw07_many.f a0 40 = some (n : Int)) (h2 : fortL l1 n = x) (h5 : pancake_Distance.f x = some (d, 0)) (h6 : pancake_Components.f x = some (A, B, C, D, 0))
  (h8 : bibelotref07_Components.f k x = some (A, B, C, D)) (h11 : bibelotref07_Distance.f k x = some d) (h13 : bibelotlaw07_awake.f = some true) :
  Calls Try.prog 3 #[.int .i64 a0, .slice A1 l1.length c1] w fun e w' => e = .returned (.bool true) ∧ Below w.heap.size w w' := by
 have HR1 := Aside0.mk hr1
 have HC1 := Aside0.mk hc1
 have HF1 := Aside0.mk h1
 have HF2 := Aside0.mk h2
 have HF5 := Aside0.mk h5
 have HF6 := Aside0.mk h6
 have HF8 := Aside0.mk h8
 have HF11 := Aside0.mk h11
 clear hr1 hc1 h1 h2 h5 h6 h8 h11
 go_enter Try.func3, Try.ntmps3
 go_wp2_with (go_at_call 21; refine stopper ?_)
 try unfold Hold
 refine (bibelotlaw07_many.calls a0 40 (n : Int) w HF1.out).mono ?_
 rintro e w1 ⟨rfl, hd⟩
 have hb := hd.below
 have HB1 := Aside0.mk hb
 have HR1_ := Aside0.mk (Kd.C_below HR1.out hb)
 clear HR1
 have HR1 := HR1_
 clear HR1_
 clear hb hd
 go_wp2_with (go_at_call 20; refine stopper ?_)
 try unfold Hold
 refine (fort_calls A1 c1 l1 n w1 HR1.out HC1.out hn).mono ?_
 rintro e w2 ⟨v2, rfl, hv, hb⟩
 have HB2 := Aside0.mk (HB1.out.trans (hb.mono HB1.out.size))
 rw [HF2.out] at hv
 obtain ⟨A2, c2, rfl⟩ := Kd.R_slice hv
 have HX := Aside0.mk (Kd.R_reads' hv).2.2
 have HXc := Aside0.mk (Kd.R_reads' hv).2.1
 clear hv HR1
 clear hb HB1
 go_wp2_with (go_at_call 22; refine stopper ?_)
 try unfold Hold
 refine (pancake_Components.calls A2 c2 x A B C D 0 w2 HX.out HXc.out HF6.out).mono ?_
 rintro e w3 ⟨rfl, hb⟩
 have HB3 := Aside0.mk (HB2.out.trans (hb.mono HB2.out.size))
 have HX_ := Aside0.mk (Kd.C_below HX.out hb)
 clear HX
 have HX := HX_
 clear HX_
 clear hb HB2
 go_wp2_with (go_at_call 23; refine stopper ?_)
 try unfold Hold
 refine (pancake_Distance.calls A2 c2 x d 0 w3 HX.out HXc.out HF5.out).mono ?_
 rintro e w4 ⟨rfl, hb⟩
 have HB4 := Aside0.mk (HB3.out.trans (hb.mono HB3.out.size))
 have HX_ := Aside0.mk (Kd.C_below HX.out hb)
 clear HX
 have HX := HX_
 clear HX_
 clear hb HB3
 go_wp2_with (go_at_call 24; refine stopper ?_)
 try unfold Hold
 refine (bibelotref07_Components.calls k A2 c2 x A B C D w4 HX.out HXc.out HF8.out).mono ?_
 rintro e w5 ⟨rfl, hb⟩
 have HB5 := Aside0.mk (HB4.out.trans (hb.mono HB4.out.size))
 have HX_ := Aside0.mk (Kd.C_below HX.out hb)
 clear HX
 have HX := HX_
 clear HX_
 clear hb HB4
 go_wp2_with (go_at_call 25; refine stopper ?_)
 try unfold Hold
 obtain ⟨w9, hw9⟩ : ∃ w9, w5.alloc (.cells #[.int .i64 A, .int .i64 B, .int .i64 C, .bool D] 31) = w9 := ⟨_, rfl⟩
 obtain ⟨b8, hb8⟩ : ∃ b8, w5.heap.size = b8 := ⟨_, rfl⟩
 have hb : Below w5.heap.size w5 w9 := by rw [← hw9]; exact (Below.refl _ w5).alloc (Nat.le_refl _) _
 have HB9 := Aside0.mk (HB5.out.trans (hb.mono HB5.out.size))
 have HX_ := Aside0.mk (Kd.C_below HX.out hb)
 clear HX
 have HX := HX_
 clear HX_
 rw [hw9]
 clear hb HB5 hw9 hb8
 refine (bibelotref07_Distance.calls k A2 c2 x d w9 HX.out HXc.out HF11.out).mono ?_
 rintro e w10 ⟨rfl, hb⟩
 have HB10 := Aside0.mk (HB9.out.trans (hb.mono HB9.out.size))
 clear hb HB9
 go_wp2_with (go_at_call 26; refine stopper ?_)
 try unfold Hold
 refine (bibelotlaw07_awake.calls true _ h13).mono ?_
 rintro e w15 ⟨rfl, hb⟩
 have HB15 := Aside0.mk (HB10.out.trans (hb.mono HB10.out.size))
 go_wp2
 go_ret
 exact ⟨rfl, HB15.out⟩
end Go.Proofs.Ytepjhdblmghckaa.G


namespace Go.Proofs.Ytepjhdblmghckaa.G
open Go.Proofs.Ytepjhdblmghckaa.Q Go.Proofs.Ytepjhdblmghckaa.K Go.Proofs.Ytepjhdblmghckaa.Bf
open Go.RowKit Go.Proofs.YtepjhdblmghckaaW.PrintWords Go.Proofs.YtepjhdblmghckaaW.PrintLast Go.Proofs.YtepjhdblmghckaaW.PrintMore
set_option linter.unusedVariables false
structure Stk (sg : Bool) (n : Nat) (l : List Int) : Prop where
 len : l.length = n
 rng : ∀ x, x ∈ l → x ≠ 0 ∧ -(n : Int) ≤ x ∧ x ≤ n
 nd : (l.map Int.natAbs).Nodup
 pos : sg = false → ∀ x, x ∈ l → 0 < x
theorem isL_iff (sg : Bool) (n : Nat) : ∀ (l : List Int) (seen : Nat → Bool), isL sg n l seen = true ↔ (∀ x, x ∈ l → 1 ≤ absS sg n x ∧ absS sg n x ≤ n ∧ seen (absS sg n x).toNat = false) ∧ (l.map fun x => (absS sg n x).toNat).Nodup
 | [], seen => by simp [isL]
 | x :: r, seen => by
  rw [isL]
  by_cases hc : absS sg n x < 1 ∨ (n : Int) < absS sg n x ∨ seen (absS sg n x).toNat = true
  ·rw [if_pos hc]
   refine ⟨fun h => (by cases h), fun h => ?_⟩
   have := h.1 x (by simp)
   rcases hc with hc | hc | hc
   ·omega
   ·omega
   ·rw [hc] at this; exact absurd this.2.2 (by simp)
  ·rw [if_neg hc, isL_iff sg n r]
   have h1 : ¬ absS sg n x < 1 := fun h => hc (.inl h)
   have h2 : ¬ (n : Int) < absS sg n x := fun h => hc (.inr (.inl h))
   have h3 : seen (absS sg n x).toNat = false := by
    cases hq : seen (absS sg n x).toNat
    ·rfl
    ·exact absurd (.inr (.inr hq)) hc
   rw [List.map_cons, List.nodup_cons]
   constructor
   ·rintro ⟨h4, h5⟩
    refine ⟨fun y hy => ?_, fun hm => ?_, h5⟩
    ·rcases List.mem_cons.1 hy with rfl | hy
     ·exact ⟨by omega, by omega, h3⟩
     ·have := h4 y hy
      refine ⟨this.1, this.2.1, ?_⟩
      have h6 := this.2.2
      unfold upd at h6
      split at h6
      ·cases h6
      ·exact h6
    ·obtain ⟨y, hy, he⟩ := List.mem_map.1 hm
     have h6 := (h4 y hy).2.2
     rw [he] at h6
     simp [upd] at h6
   ·rintro ⟨h4, h5, h6⟩
    refine ⟨fun y hy => ?_, h6⟩
    have := h4 y (by simp [hy])
    refine ⟨this.1, this.2.1, ?_⟩
    unfold upd
    rw [if_neg (fun he => h5 (List.mem_map.2 ⟨y, hy, he⟩))]
    exact this.2.2
theorem absS_ok {sg : Bool} {n : Nat} {x : Int} : (1 ≤ absS sg n x ∧ absS sg n x ≤ n) ↔ (x ≠ 0 ∧ -(n : Int) ≤ x ∧ x ≤ n ∧ (sg = false → 0 < x)) := by
 unfold absS
 cases sg
 ·simp; omega
 ·simp only [true_and]
  split
  ·simp; omega
  ·simp; omega
theorem absS_nat {sg : Bool} {n : Nat} {x : Int} (h : x ≠ 0 ∧ -(n : Int) ≤ x ∧ x ≤ n ∧ (sg = false → 0 < x)) : (absS sg n x).toNat = x.natAbs := by
 unfold absS
 cases sg
 ·have := h.2.2.2 rfl
  simp; omega
 ·simp only [true_and]
  split <;> omega
theorem isSt_iff {sg : Bool} {most : Int} {l : List Int} : isSt sg most l = true ↔ (1 ≤ l.length ∧ (l.length : Int) ≤ most) ∧ Stk sg l.length l := by
 unfold isSt
 split
 ·rename_i h
  refine ⟨fun e => (by cases e), fun e => ?_⟩
  have := e.1
  omega
 ·rename_i h
  rw [isL_iff]
  constructor
  ·rintro ⟨h1, h2⟩
   have hr : ∀ x, x ∈ l → x ≠ 0 ∧ -(l.length : Int) ≤ x ∧ x ≤ l.length ∧ (sg = false → 0 < x) := fun x hx => absS_ok.1 ⟨(h1 x hx).1, (h1 x hx).2.1⟩
   refine ⟨by omega, ⟨rfl, fun x hx => ⟨(hr x hx).1, (hr x hx).2.1, (hr x hx).2.2.1⟩, ?_, fun hs x hx => (hr x hx).2.2.2 hs⟩⟩
   have e : l.map Int.natAbs = l.map fun x => (absS sg l.length x).toNat := List.map_congr_left (fun x hx => (absS_nat (hr x hx)).symm)
   rw [e]; exact h2
  ·rintro ⟨_, h2⟩
   have hr : ∀ x, x ∈ l → x ≠ 0 ∧ -(l.length : Int) ≤ x ∧ x ≤ l.length ∧ (sg = false → 0 < x) := fun x hx => ⟨(h2.rng x hx).1, (h2.rng x hx).2.1, (h2.rng x hx).2.2, fun hs => h2.pos hs x hx⟩
   refine ⟨fun x hx => ⟨(absS_ok.2 (hr x hx)).1, (absS_ok.2 (hr x hx)).2, rfl⟩, ?_⟩
   have e : (l.map fun x => (absS sg l.length x).toNat) = l.map Int.natAbs := List.map_congr_left (fun x hx => absS_nat (hr x hx))
   rw [e]; exact h2.nd
theorem isSt_stk {sg : Bool} {most : Int} {n : Nat} {l : List Int} (h : Stk sg n l) (h1 : 1 ≤ n) (h2 : (n : Int) ≤ most) : isSt sg most l = true := isSt_iff.2 ⟨⟨by rw [h.len]; exact h1, by rw [h.len]; exact h2⟩, by rw [h.len]; exact h⟩
theorem Stk.signed {sg : Bool} {n : Nat} {l : List Int} (h : Stk sg n l) : Stk true n l := ⟨h.len, h.rng, h.nd, fun e => by cases e⟩
theorem many_f (a : Int) (m : Nat) (h1 : 1 ≤ m) (h2 : m ≤ 1000) : ∃ n : Nat, 1 ≤ n ∧ n ≤ m ∧ bibelotlaw07_many.f a (m : Int) = some (n : Int) := by
 have hu : IntKind.u64.wrap (m : Int) = (m : Int) := u64_small (by omega) (by omega)
 have hr : 0 ≤ Int.tmod (IntKind.u64.wrap a) (m : Int) ∧ Int.tmod (IntKind.u64.wrap a) (m : Int) < m := ⟨Int.tmod_nonneg _ (u64_nonneg a).1, Int.tmod_lt_of_pos _ (by omega)⟩
 refine ⟨(Int.tmod (IntKind.u64.wrap a) (m : Int)).toNat + 1, by omega, by omega, ?_⟩
 unfold bibelotlaw07_many.f
 rw [hu, if_neg (by omega), w64 (x := Int.tmod (IntKind.u64.wrap a) (m : Int)) (by omega) (by omega), w64 (by omega) (by omega)]
 congr 1
 omega
theorem abs_f (x : Int) (h : -1000000000 ≤ x ∧ x ≤ 1000000000) : bibelotref07_Abs.f x = some (x.natAbs : Int) := by
 unfold bibelotref07_Abs.f mx
 rw [w64 (by omega) (by omega)]
 congr 1
 split <;> omega
end Go.Proofs.Ytepjhdblmghckaa.G


namespace Go.Proofs.Ytepjhdblmghckaa.G
open Go.Proofs.Ytepjhdblmghckaa.Q Go.Proofs.Ytepjhdblmghckaa.K Go.Proofs.Ytepjhdblmghckaa.Bf
open Go.RowKit Go.Proofs.YtepjhdblmghckaaW.PrintWords Go.Proofs.YtepjhdblmghckaaW.PrintLast Go.Proofs.YtepjhdblmghckaaW.PrintMore
set_option linter.unusedVariables false
def Smalls (l : List Int) : Prop := ∀ i, -1000000 ≤ nth l i ∧ nth l i ≤ 1000000
theorem Stk.small {sg : Bool} {n : Nat} {l : List Int} (h : Stk sg n l) (hn : n ≤ 1000) : Smalls l := fun i => by
 by_cases hi : i < l.length
 ·have := h.rng (nth l i) (by unfold nth; rw [List.getD_eq_getElem?_getD, List.getElem?_eq_getElem hi]; exact List.getElem_mem hi)
  omega
 ·rw [nth_end _ _ (by omega)]; omega
theorem awake_ev : Ev (fun _ : Nat => bibelotlaw07_awake.f) true := Ev.now true
end Go.Proofs.Ytepjhdblmghckaa.G


namespace Go.Proofs.Ytepjhdblmghckaa.G
open Go.Proofs.Ytepjhdblmghckaa.Q Go.Proofs.Ytepjhdblmghckaa.K Go.Proofs.Ytepjhdblmghckaa.Bf
open Go.RowKit Go.Proofs.YtepjhdblmghckaaW.PrintWords Go.Proofs.YtepjhdblmghckaaW.PrintLast Go.Proofs.YtepjhdblmghckaaW.PrintMore
set_option linter.unusedVariables false
theorem nth_get (l : List Int) (p : Nat) (h : p < l.length) : nth l p = l[p] := by
 unfold nth; rw [List.getD_eq_getElem?_getD, List.getElem?_eq_getElem h]; rfl
theorem nth_in (l : List Int) (p : Nat) (h : p < l.length) : nth l p ∈ l := by
 rw [nth_get l p h]; exact List.getElem_mem h
theorem mem_nth {l : List Int} {x : Int} (h : x ∈ l) : ∃ p, p < l.length ∧ nth l p = x := by
 obtain ⟨p, hp, rfl⟩ := List.getElem_of_mem h
 exact ⟨p, hp, nth_get l p hp⟩
theorem stk_nth {sg : Bool} {n : Nat} {l : List Int} : Stk sg n l ↔ l.length = n ∧ (∀ p, p < n → nth l p ≠ 0 ∧ -(n : Int) ≤ nth l p ∧ nth l p ≤ n) ∧ (∀ p q, p < n → q < n → (nth l p).natAbs = (nth l q).natAbs → p = q) ∧ (sg = false → ∀ p, p < n → 0 < nth l p) := by
 constructor
 ·intro h
  refine ⟨h.len, fun p hp => h.rng _ (nth_in l p (by rw [h.len]; exact hp)), fun p q hp hq he => ?_, fun hs p hp => h.pos hs _ (nth_in l p (by rw [h.len]; exact hp))⟩
  have hnd := List.pairwise_iff_getElem.1 h.nd
  rcases Nat.lt_trichotomy p q with hlt | he2 | hlt
  ·have := hnd p q (by rw [List.length_map, h.len]; exact hp) (by rw [List.length_map, h.len]; exact hq) hlt
   rw [List.getElem_map, List.getElem_map, ← nth_get l p (by rw [h.len]; exact hp), ← nth_get l q (by rw [h.len]; exact hq)] at this
   exact absurd he this
  ·exact he2
  ·have := hnd q p (by rw [List.length_map, h.len]; exact hq) (by rw [List.length_map, h.len]; exact hp) hlt
   rw [List.getElem_map, List.getElem_map, ← nth_get l p (by rw [h.len]; exact hp), ← nth_get l q (by rw [h.len]; exact hq)] at this
   exact absurd he.symm this
 ·rintro ⟨h1, h2, h3, h4⟩
  refine ⟨h1, fun x hx => ?_, ?_, fun hs x hx => ?_⟩
  ·obtain ⟨p, hp, rfl⟩ := mem_nth hx
   exact h2 p (by omega)
  ·refine List.pairwise_iff_getElem.2 (fun p q hp hq hlt he => ?_)
   rw [List.length_map] at hp hq
   rw [List.getElem_map, List.getElem_map, ← nth_get l p hp, ← nth_get l q hq] at he
   have := h3 p q (by omega) (by omega) he
   omega
  ·obtain ⟨p, hp, rfl⟩ := mem_nth hx
   exact h4 hs p (by omega)
section
variable {α : Type} [DecidableEq α] {next : α → List α}
end
end Go.Proofs.Ytepjhdblmghckaa.G


namespace Go.Proofs.Ytepjhdblmghckaa.G
open Go.Proofs.Ytepjhdblmghckaa.Q Go.Proofs.Ytepjhdblmghckaa.K Go.Proofs.Ytepjhdblmghckaa.Bf
open Go.RowKit Go.Proofs.YtepjhdblmghckaaW.PrintWords Go.Proofs.YtepjhdblmghckaaW.PrintLast Go.Proofs.YtepjhdblmghckaaW.PrintMore
set_option linter.unusedVariables false
theorem up1 (e : Nat) (h : e ≤ 1000000000) : wrap64 ((e : Int) + 1) = ((e + 1 : Nat) : Int) := by rw [w64 (by omega) (by omega)]; rfl
end Go.Proofs.Ytepjhdblmghckaa.G


namespace Go.Proofs.Ytepjhdblmghckaa.G
open Go.Proofs.Ytepjhdblmghckaa.Q Go.Proofs.Ytepjhdblmghckaa.K Go.Proofs.Ytepjhdblmghckaa.Bf
open Go.RowKit Go.Proofs.YtepjhdblmghckaaW.PrintWords Go.Proofs.YtepjhdblmghckaaW.PrintLast Go.Proofs.YtepjhdblmghckaaW.PrintMore
set_option linter.unusedVariables false
theorem picTo_succ (l : List Int) (i : Nat) (h : i < l.length) : picTo (l.take (i + 1)) = picTo (l.take i) ++ pic1 (nth l i) := by
 unfold picTo
 rw [List.take_add_one, List.getElem?_eq_getElem h, List.flatMap_append, nth_get l i h]
 simp
theorem rpicture_l0 (l : List Int) (hl : l.length ≤ 1000) (hs : Smalls l) : ∀ d i : Nat, i + d = l.length → Ev (fun k => bibelotref07_Picture.l0 k l (picTo (l.take i)) (i : Int)) (picL l)
 | 0, i, h => by
  have hp := picTo_len l
  refine Ev.step (f := fun _ => some (picL l)) (fun k => ?_) (Ev.now _)
  rw [bibelotref07_Picture.l0, if_neg (by omega), List.take_of_length_le (by omega), if_pos (by omega), w64 (x := 2 * (l.length : Int)) (by omega) (by omega), w64 (by omega) (by omega)]
  rfl
 | d + 1, i, h => by
  have ih := rpicture_l0 l hl hs d (i + 1) (by omega)
  have hp := picTo_len (l.take i)
  rw [List.length_take] at hp
  have hv := hs i
  obtain ⟨v, hve⟩ : ∃ v, nth l i = v := ⟨_, rfl⟩
  rw [picTo_succ l i (by omega), hve] at ih
  rw [hve] at hv
  refine Ev.step (fun k => ?_) ih
  have hw : wrap64 ((i : Int) + 1) = ((i + 1 : Nat) : Int) := up1 i (by omega)
  rw [bibelotref07_Picture.l0, if_pos (by omega), if_pos (by omega), rd_nth, hve, abs_f _ (by omega), Option.bind_some, hw]
  by_cases hpos : v > 0
  ·have e : pic1 v = [wrap64 (wrap64 (2 * (v.natAbs : Int)) - 1), wrap64 (2 * (v.natAbs : Int))] := by
    unfold pic1
    rw [if_pos hpos, w64 (x := 2 * (v.natAbs : Int)) (by omega) (by omega), w64 (by omega) (by omega), show 2 * (v.natAbs : Int) = 2 * v by omega]
   rw [if_pos hpos, Option.bind_some, if_pos (by simp only [List.length_cons, List.length_nil]; omega), ← e]
  ·have e : pic1 v = [wrap64 (2 * (v.natAbs : Int)), wrap64 (wrap64 (2 * (v.natAbs : Int)) - 1)] := by
    unfold pic1
    rw [if_neg hpos, w64 (x := 2 * (v.natAbs : Int)) (by omega) (by omega), w64 (by omega) (by omega), show 2 * (v.natAbs : Int) = -2 * v by omega]
   rw [if_neg hpos, Option.bind_some, if_pos (by simp only [List.length_cons, List.length_nil]; omega), ← e]
theorem rpicture_ev (l : List Int) (hl : l.length ≤ 1000) (hs : Smalls l) : Ev (fun k => bibelotref07_Picture.f k l) (picL l) := rpicture_l0 l hl hs l.length 0 (by omega)
end Go.Proofs.Ytepjhdblmghckaa.G


namespace Go.Proofs.Ytepjhdblmghckaa.G
open Go.Proofs.Ytepjhdblmghckaa.Q Go.Proofs.Ytepjhdblmghckaa.K Go.Proofs.Ytepjhdblmghckaa.Bf
open Go.RowKit Go.Proofs.YtepjhdblmghckaaW.PrintWords Go.Proofs.YtepjhdblmghckaaW.PrintLast Go.Proofs.YtepjhdblmghckaaW.PrintMore
set_option linter.unusedVariables false
def joinN (g : List Int) (a b : Nat) : List Int := g.map (fun z => if z = nth g b then nth g a else z)
theorem joinN_len (g : List Int) (a b : Nat) : (joinN g a b).length = g.length := List.length_map ..
theorem nth_joinN {g : List Int} (a b : Nat) {i : Nat} (h : i < g.length) : nth (joinN g a b) i = if nth g i = nth g b then nth g a else nth g i := by
 rw [nth_get _ i (by rw [joinN_len]; exact h), nth_get g i h]
 unfold joinN
 rw [List.getElem_map]
theorem joined_l0 (g : List Int) (hg : g.length ≤ 1000000) (x y : Int) : ∀ d i : Nat, i + d = g.length → Ev (fun k => bibelotref07_joined.l0 k g x y ((g.take i).map (fun z => if z = y then x else z)) (i : Int)) (g.map (fun z => if z = y then x else z))
 | 0, i, h => by
  refine Ev.step (f := fun _ => some (g.map (fun z => if z = y then x else z))) (fun k => ?_) (Ev.now _)
  rw [bibelotref07_joined.l0, if_neg (by omega), List.take_of_length_le (by omega)]
 | d + 1, i, h => by
  have ih := joined_l0 g hg x y d (i + 1) (by omega)
  have hl : ((g.take i).map (fun z => if z = y then x else z)).length < 17592186044416 := by rw [List.length_map, List.length_take]; omega
  rw [List.take_add_one, List.getElem?_eq_getElem (by omega), List.map_append, ← nth_get g i (by omega)] at ih
  refine Ev.step (fun k => ?_) ih
  rw [bibelotref07_joined.l0, if_pos (by omega), if_pos (by omega), rd_nth, if_pos hl, if_pos hl, up1 i (by omega)]
  by_cases e : nth g i = y
  ·rw [if_pos e]; simp [e]
  ·rw [if_neg e]; simp [e]
theorem joined_ev {g : List Int} (hg : g.length ≤ 1000000) {a b : Nat} (ha : a < g.length) (hb : b < g.length) : Ev (fun k => bibelotref07_joined.f k g (a : Int) (b : Int)) (joinN g a b) := by
 refine Ev.congr (fun k => ?_) (joined_l0 g hg (nth g a) (nth g b) g.length 0 (by omega))
 unfold bibelotref07_joined.f
 rw [if_pos (by omega), if_pos (by omega), if_pos (by omega), if_pos (by omega), rd_nth, rd_nth]
 rfl
def mergeL (E : List (Nat × Nat)) (g : List Int) : List Int := E.foldl (fun g e => joinN g e.1 e.2) g
theorem mergeL_len : ∀ (E : List (Nat × Nat)) (g : List Int), (mergeL E g).length = g.length
 | [], _ => rfl
 | e :: E, g => by
  show (mergeL E (joinN g e.1 e.2)).length = _
  rw [mergeL_len E, joinN_len]
theorem mergeL_snoc (E : List (Nat × Nat)) (e : Nat × Nat) (g : List Int) : mergeL (E ++ [e]) g = joinN (mergeL E g) e.1 e.2 := by
 unfold mergeL; rw [List.foldl_append]; rfl
theorem joinN_keep {g : List Int} (x y : Nat) {a b : Nat} (ha : a < g.length) (hb : b < g.length) (h : nth g a = nth g b) : nth (joinN g x y) a = nth (joinN g x y) b := by
 rw [nth_joinN x y ha, nth_joinN x y hb, h]
theorem mergeL_keep : ∀ (E : List (Nat × Nat)) {g : List Int} {a b : Nat}, a < g.length → b < g.length → nth g a = nth g b → nth (mergeL E g) a = nth (mergeL E g) b
 | [], _, _, _, _, _, h => h
 | e :: E, g, a, b, ha, hb, h => by
  show nth (mergeL E (joinN g e.1 e.2)) a = nth (mergeL E (joinN g e.1 e.2)) b
  exact mergeL_keep E (by rw [joinN_len]; exact ha) (by rw [joinN_len]; exact hb) (joinN_keep _ _ ha hb h)
theorem mergeL_pair : ∀ (E : List (Nat × Nat)) {g : List Int}, (∀ e, e ∈ E → e.1 < g.length ∧ e.2 < g.length) → ∀ e, e ∈ E → nth (mergeL E g) e.1 = nth (mergeL E g) e.2
 | e0 :: E, g, hE, e, he => by
  show nth (mergeL E (joinN g e0.1 e0.2)) e.1 = nth (mergeL E (joinN g e0.1 e0.2)) e.2
  rcases List.mem_cons.1 he with rfl | he
  ·have hb := hE e (List.mem_cons_self ..)
   refine mergeL_keep E (by rw [joinN_len]; exact hb.1) (by rw [joinN_len]; exact hb.2) ?_
   rw [nth_joinN _ _ hb.1, nth_joinN _ _ hb.2, if_pos (Eq.refl (nth g e.2))]
   split <;> rfl
  ·exact mergeL_pair E (fun z hz => by rw [joinN_len]; exact hE z (List.mem_cons_of_mem _ hz)) e he
def Resp (S : Nat → Prop) (g : List Int) : Prop := ∀ a b, a < g.length → b < g.length → nth g a = nth g b → S a → S b
theorem mergeL_resp {S : Nat → Prop} : ∀ (E : List (Nat × Nat)) {g : List Int}, (∀ e, e ∈ E → e.1 < g.length ∧ e.2 < g.length ∧ (S e.1 ↔ S e.2)) → Resp S g → Resp S (mergeL E g)
 | [], _, _, h => h
 | e :: E, g, hE, h => by
  show Resp S (mergeL E (joinN g e.1 e.2))
  have he := hE e (List.mem_cons_self ..)
  refine mergeL_resp E (fun z hz => by rw [joinN_len]; exact hE z (List.mem_cons_of_mem _ hz)) (fun a b ha hb hab hS => ?_)
  rw [joinN_len] at ha hb
  rw [nth_joinN _ _ ha, nth_joinN _ _ hb] at hab
  by_cases h1 : nth g a = nth g e.2
  ·have s2 : S e.2 := h a e.2 ha he.2.1 h1 hS
   by_cases h2 : nth g b = nth g e.2
   ·exact h e.2 b he.2.1 hb h2.symm s2
   ·rw [if_pos h1, if_neg h2] at hab
    exact h e.1 b he.1 hb hab (he.2.2.2 s2)
  ·rw [if_neg h1] at hab
   by_cases h2 : nth g b = nth g e.2
   ·rw [if_pos h2] at hab
    exact h e.2 b he.2.1 hb h2.symm (he.2.2.1 (h a e.1 ha he.1 hab hS))
   ·rw [if_neg h2] at hab
    exact h a b ha hb hab hS
def idL (m : Nat) : List Int := (List.range m).map (fun (k : Nat) => (k : Int))
theorem idL_len (m : Nat) : (idL m).length = m := by simp [idL]
theorem nth_idL {m i : Nat} (h : i < m) : nth (idL m) i = (i : Int) := by
 rw [nth_get _ i (by rw [idL_len]; exact h)]
 unfold idL
 simp
theorem idL_resp (S : Nat → Prop) (m : Nat) : Resp S (idL m) := fun a b ha hb h hS => by
 rw [idL_len] at ha hb
 rw [nth_idL ha, nth_idL hb] at h
 have : a = b := by omega
 rw [← this]; exact hS
def blackE (p : List Int) (j : Nat) : Nat × Nat := ((nth p (2 * j)).toNat / 2, (nth p (2 * j + 1)).toNat / 2)
def rndTo (p : List Int) (n j : Nat) : List Int := mergeL ((List.range j).map (blackE p)) (idL (n + 1))
def rndL (s : List Int) : List Int := rndTo (picL s) s.length (s.length + 1)
theorem rndTo_len (p : List Int) (n j : Nat) : (rndTo p n j).length = n + 1 := by unfold rndTo; rw [mergeL_len, idL_len]
theorem rndL_len (s : List Int) : (rndL s).length = s.length + 1 := rndTo_len ..
theorem rndTo_succ (p : List Int) (n j : Nat) : rndTo p n (j + 1) = joinN (rndTo p n j) (blackE p j).1 (blackE p j).2 := by
 unfold rndTo
 rw [List.range_succ, List.map_append, List.map_singleton, mergeL_snoc]
theorem half_eq {x : Int} (h0 : 0 ≤ x) (h1 : x ≤ 1000000) : wrap64 (Int.tdiv x 2) = ((x.toNat / 2 : Nat) : Int) := by
 rw [Int.tdiv_eq_ediv_of_nonneg h0, w64 (by omega) (by omega)]
 omega
theorem round_l1 (p : List Int) (n : Nat) (hn : n ≤ 1000) (hp : p.length = 2 * n + 2) (hr : ∀ q, 0 ≤ nth p q ∧ nth p q < 2 * (n : Int) + 2) : ∀ d j : Nat, j + d = n + 1 → Ev (fun k => bibelotref07_round.l1 k p (rndTo p n j) ((2 * j : Nat) : Int)) (rndTo p n (n + 1))
 | 0, j, h => by
  have e : j = n + 1 := by omega
  subst e
  refine Ev.step (f := fun _ => some (rndTo p n (n + 1))) (fun k => ?_) (Ev.now _)
  rw [bibelotref07_round.l1, if_neg (by omega)]
 | d + 1, j, h => by
  have ih := round_l1 p n hn hp hr d (j + 1) (by omega)
  have ha := hr (2 * j)
  have hb := hr (2 * j + 1)
  rw [rndTo_succ] at ih
  have hj := joined_ev (g := rndTo p n j) (a := (blackE p j).1) (b := (blackE p j).2) (by rw [rndTo_len]; omega) (by rw [rndTo_len]; unfold blackE; dsimp only; omega) (by rw [rndTo_len]; unfold blackE; dsimp only; omega)
  refine Ev.step (fun k => ?_) (Ev.bind (f := fun k t => bibelotref07_round.l1 k p t ((2 * (j + 1) : Nat) : Int)) hj ih)
  have e1 : wrap64 (((2 * j : Nat) : Int) + 1) = ((2 * j + 1 : Nat) : Int) := by rw [w64 (by omega) (by omega)]; omega
  have e2 : wrap64 (((2 * j : Nat) : Int) + 2) = ((2 * (j + 1) : Nat) : Int) := by rw [w64 (by omega) (by omega)]; omega
  rw [bibelotref07_round.l1, if_pos (by omega), if_pos (by omega), e1, if_pos (by omega), if_pos (by omega), rd_nth, rd_nth, half_eq ha.1 (by omega), half_eq hb.1 (by omega), e2]
  rfl
theorem round_l0 (s p : List Int) (hn : s.length ≤ 1000) (hp : p.length = 2 * s.length + 2) (hr : ∀ q, 0 ≤ nth p q ∧ nth p q < 2 * (s.length : Int) + 2) : ∀ d i : Nat, i + d = s.length + 1 → Ev (fun k => bibelotref07_round.l0 k s p (idL i) (i : Int)) (rndTo p s.length (s.length + 1))
 | 0, i, h => by
  have e : i = s.length + 1 := by omega
  subst e
  refine Ev.step (fun k => ?_) (round_l1 p s.length hn hp hr (s.length + 1) 0 (by omega))
  rw [bibelotref07_round.l0, if_neg (by omega)]
  rfl
 | d + 1, i, h => by
  have ih := round_l0 s p hn hp hr d (i + 1) (by omega)
  have e : idL (i + 1) = idL i ++ [(i : Int)] := by unfold idL; rw [List.range_succ, List.map_append]; rfl
  rw [e] at ih
  refine Ev.step (fun k => ?_) ih
  rw [bibelotref07_round.l0, if_pos (by omega), if_pos (by rw [idL_len]; omega), up1 i (by omega)]
theorem round_ev {s : List Int} (hn : s.length ≤ 40) (hm : ∀ x, x ∈ s → x ≠ 0 ∧ -(s.length : Int) ≤ x ∧ x ≤ s.length) (hs : Smalls s) : Ev (fun k => bibelotref07_round.f k s) (rndL s) := by
 unfold bibelotref07_round.f
 refine Ev.bind (rpicture_ev s (by omega) hs) ?_
 exact round_l0 s (picL s) (by omega) (picL_len s) (picL_range s hm) (s.length + 1) 0 (by omega)
def firstIn (g : List Int) (i : Nat) : Bool := (List.range i).all (fun j => decide (nth g j ≠ nth g i))
def clsUp (g : List Int) (i k : Nat) : List Int := ((List.range k).filter (fun q => decide (nth g q = nth g i))).map (fun (q : Nat) => (q : Int))
def clsOf (g : List Int) (i : Nat) : List Int := clsUp g i g.length
def clsTo (g : List Int) (i : Nat) : List (List Int) := ((List.range i).filter (firstIn g)).map (clsOf g)
theorem firstIn_iff (g : List Int) (i : Nat) : firstIn g i = true ↔ ∀ j, j < i → nth g j ≠ nth g i := by
 unfold firstIn
 rw [List.all_eq_true]
 exact ⟨fun h j hj => of_decide_eq_true (h j (List.mem_range.2 hj)), fun h j hj => decide_eq_true (h j (List.mem_range.1 hj))⟩
theorem clsTo_succ (g : List Int) (i : Nat) : clsTo g (i + 1) = if firstIn g i = true then clsTo g i ++ [clsOf g i] else clsTo g i := by
 unfold clsTo
 rw [List.range_succ, List.filter_append]
 by_cases h : firstIn g i = true
 ·rw [if_pos h]; simp [h]
 ·rw [if_neg h]; simp [h]
theorem clsTo_le (g : List Int) (i : Nat) : (clsTo g i).length ≤ i := by
 unfold clsTo
 rw [List.length_map]
 exact Nat.le_trans (List.length_filter_le _ _) (by simp)
theorem clsUp_le (g : List Int) (i k : Nat) : (clsUp g i k).length ≤ k := by
 unfold clsUp
 rw [List.length_map]
 exact Nat.le_trans (List.length_filter_le _ _) (by simp)
theorem clsUp_succ (g : List Int) (i k : Nat) : clsUp g i (k + 1) = if nth g k = nth g i then clsUp g i k ++ [(k : Int)] else clsUp g i k := by
 unfold clsUp
 rw [List.range_succ, List.filter_append]
 by_cases h : nth g k = nth g i
 ·rw [if_pos h]; simp [h]
 ·rw [if_neg h]; simp [h]
theorem getD_set (l : List Bool) (k q : Nat) (h : k < l.length) : (l.set k true).getD q false = if q = k then true else l.getD q false := by
 rw [List.getD_eq_getElem?_getD, List.getD_eq_getElem?_getD, List.getElem?_set]
 by_cases e : q = k
 ·rw [if_pos e, if_pos e.symm, if_pos h]; rfl
 ·rw [if_neg e, if_neg (fun h => e h.symm)]
theorem circles_l1 (g : List Int) (hg : g.length ≤ 1000000) (i : Nat) (hi : i < g.length) (x4 : List (List Int)) (hx4 : x4.length ≤ 1000000) (res : List (List Int))
  (cont : ∀ done : List Bool, done.length = g.length → (∀ q, q < g.length → (done.getD q false = true ↔ ∃ j, j < i + 1 ∧ nth g j = nth g q)) → Ev (fun k => bibelotref07_Circles.l0 k g (x4 ++ [clsOf g i]) done ((i + 1 : Nat) : Int)) res) :
  ∀ (d k : Nat) (done : List Bool), k + d = g.length → done.length = g.length → (∀ q, q < g.length → (done.getD q false = true ↔ (∃ j, j < i ∧ nth g j = nth g q) ∨ (q < k ∧ nth g q = nth g i))) →
   Ev (fun kk => bibelotref07_Circles.l1 kk g x4 done (i : Int) (clsUp g i k) (k : Int)) res
 | 0, k, done, h, hd, hq => by
  have e : k = g.length := by omega
  subst e
  refine Ev.step (fun kk => ?_) (cont done hd (fun q hql => ?_))
  ·rw [bibelotref07_Circles.l1, if_neg (by omega), if_pos (by omega), up1 i (by omega)]
   rfl
  ·rw [hq q hql]
   constructor
   ·rintro (⟨j, hj, he⟩ | ⟨_, he⟩)
    ·exact ⟨j, by omega, he⟩
    ·exact ⟨i, by omega, he.symm⟩
   ·rintro ⟨j, hj, he⟩
    by_cases e : j = i
    ·subst e; exact .inr ⟨hql, he.symm⟩
    ·exact .inl ⟨j, by omega, he⟩
 | d + 1, k, done, h, hd, hq => by
  by_cases he : nth g k = nth g i
  ·have ih := circles_l1 g hg i hi x4 hx4 res cont d (k + 1) (done.set k true) (by omega) (by rw [List.length_set]; exact hd) (fun q hql => by
    rw [getD_set done k q (by omega)]
    by_cases e : q = k
    ·rw [if_pos e]
     exact ⟨fun _ => .inr ⟨by omega, by rw [e]; exact he⟩, fun _ => rfl⟩
    ·rw [if_neg e, hq q hql]
     constructor
     ·rintro (h | ⟨h1, h2⟩)
      ·exact .inl h
      ·exact .inr ⟨by omega, h2⟩
     ·rintro (h | ⟨h1, h2⟩)
      ·exact .inl h
      ·exact .inr ⟨by omega, h2⟩)
   rw [clsUp_succ, if_pos he] at ih
   refine Ev.step (fun kk => ?_) ih
   have hl := clsUp_le g i k
   rw [bibelotref07_Circles.l1, if_pos (by omega), if_pos (by omega), if_pos (by omega), if_pos (by omega), rd_nth, rd_nth, if_pos he, if_pos (by omega), if_pos (by omega), up1 k (by omega), Int.toNat_natCast]
  ·have ih := circles_l1 g hg i hi x4 hx4 res cont d (k + 1) done (by omega) hd (fun q hql => by
    rw [hq q hql]
    constructor
    ·rintro (h | ⟨h1, h2⟩)
     ·exact .inl h
     ·exact .inr ⟨by omega, h2⟩
    ·rintro (h | ⟨h1, h2⟩)
     ·exact .inl h
     ·by_cases e : q = k
      ·rw [e] at h2; exact absurd h2 he
      ·exact .inr ⟨by omega, h2⟩)
   rw [clsUp_succ, if_neg he] at ih
   refine Ev.step (fun kk => ?_) ih
   rw [bibelotref07_Circles.l1, if_pos (by omega), if_pos (by omega), if_pos (by omega), if_pos (by omega), rd_nth, rd_nth, if_neg he, up1 k (by omega)]
theorem clsUp_first {g : List Int} {i : Nat} (h : firstIn g i = true) : ∀ k, k ≤ i → clsUp g i k = []
 | 0, _ => rfl
 | k + 1, hk => by
  rw [clsUp_succ, if_neg ((firstIn_iff g i).1 h k (by omega)), clsUp_first h k (by omega)]
theorem circles_l0 (g : List Int) (hg : g.length ≤ 1000000) : ∀ (d i : Nat) (done : List Bool), i + d = g.length → done.length = g.length → (∀ q, q < g.length → (done.getD q false = true ↔ ∃ j, j < i ∧ nth g j = nth g q)) →
   Ev (fun k => bibelotref07_Circles.l0 k g (clsTo g i) done (i : Int)) (clsTo g g.length)
 | 0, i, done, h, hd, hq => by
  have e : i = g.length := by omega
  subst e
  refine Ev.step (f := fun _ => some (clsTo g g.length)) (fun k => ?_) (Ev.now _)
  rw [bibelotref07_Circles.l0, if_neg (by omega)]
 | d + 1, i, done, h, hd, hq => by
  have hle := clsTo_le g i
  by_cases hdn : done.getD i false = true
  ·have ih := circles_l0 g hg d (i + 1) done (by omega) hd (fun q hql => by
    rw [hq q hql]
    constructor
    ·rintro ⟨j, hj, he⟩; exact ⟨j, by omega, he⟩
    ·rintro ⟨j, hj, he⟩
     by_cases e : j = i
     ·obtain ⟨j', hj', he'⟩ := (hq i (by omega)).1 hdn
      exact ⟨j', hj', by rw [he', ← he, e]⟩
     ·exact ⟨j, by omega, he⟩)
   have hf : ¬ firstIn g i = true := fun hf => by
    obtain ⟨j, hj, he⟩ := (hq i (by omega)).1 hdn
    exact (firstIn_iff g i).1 hf j hj he
   rw [clsTo_succ, if_neg hf] at ih
   refine Ev.step (fun k => ?_) ih
   rw [bibelotref07_Circles.l0, if_pos (by omega), if_pos (by omega), if_pos (by omega)]
   unfold rdOf
   rw [Int.toNat_natCast, if_pos hdn, up1 i (by omega)]
  ·have hf : firstIn g i = true := (firstIn_iff g i).2 (fun j hj he => hdn ((hq i (by omega)).2 ⟨j, hj, he⟩))
   refine Ev.step (fun k => ?_) (circles_l1 g hg i (by omega) (clsTo g i) (by omega) (clsTo g g.length) (fun done' hd' hq' => by
    have ih := circles_l0 g hg d (i + 1) done' (by omega) hd' hq'
    rw [clsTo_succ, if_pos hf] at ih
    exact ih) (d + 1) i done h hd (fun q hql => by
     rw [hq q hql]
     constructor
     ·exact .inl
     ·rintro (h | ⟨h1, h2⟩)
      ·exact h
      ·exact absurd h2 ((firstIn_iff g i).1 hf q h1)))
   rw [bibelotref07_Circles.l0, if_pos (by omega), if_pos (by omega), if_pos (by omega)]
   unfold rdOf
   rw [Int.toNat_natCast, if_neg hdn, clsUp_first hf i (Nat.le_refl _)]
theorem rcircles_ev {s : List Int} (hn : s.length ≤ 40) (hm : ∀ x, x ∈ s → x ≠ 0 ∧ -(s.length : Int) ≤ x ∧ x ≤ s.length) (hs : Smalls s) : Ev (fun k => bibelotref07_Circles.f k s) (clsTo (rndL s) (s.length + 1)) := by
 unfold bibelotref07_Circles.f
 refine Ev.bind (round_ev hn hm hs) ?_
 have hl := rndL_len s
 have h := circles_l0 (rndL s) (by omega) (rndL s).length 0 (List.replicate (rndL s).length false) (by omega) (by simp) (fun q hq => by
  constructor
  ·intro h
   rw [List.getD_eq_getElem?_getD, List.getElem?_replicate] at h
   split at h <;> cases h
  ·rintro ⟨j, hj, _⟩; omega)
 rw [hl] at h
 refine Ev.congr (fun k => ?_) h
 rw [if_pos (by omega), if_pos (by omega), hl]
 rfl
end Go.Proofs.Ytepjhdblmghckaa.G


namespace Go.Proofs.Ytepjhdblmghckaa.G
open Go.Proofs.Ytepjhdblmghckaa.Q Go.Proofs.Ytepjhdblmghckaa.K Go.Proofs.Ytepjhdblmghckaa.Bf
open Go.RowKit Go.Proofs.YtepjhdblmghckaaW.PrintWords Go.Proofs.YtepjhdblmghckaaW.PrintLast Go.Proofs.YtepjhdblmghckaaW.PrintMore
set_option linter.unusedVariables false
theorem nth_app (a b : List Int) (j : Nat) : nth (a ++ b) j = if j < a.length then nth a j else nth b (j - a.length) := by
 unfold nth
 rw [List.getD_eq_getElem?_getD, List.getElem?_append]
 split
 ·rw [List.getD_eq_getElem?_getD]
 ·rw [List.getD_eq_getElem?_getD]
theorem pic1_len (v : Int) : (pic1 v).length = 2 := by unfold pic1; split <;> rfl
theorem nth_flat : ∀ (s : List Int) (i e : Nat), i < s.length → e < 2 → nth (s.flatMap pic1) (2 * i + e) = nth (pic1 (nth s i)) e
 | x :: l, 0, e, _, he => by
  rw [List.flatMap_cons, nth_app, pic1_len, if_pos (by omega), Nat.mul_zero, Nat.zero_add]
  rfl
 | x :: l, i + 1, e, hi, he => by
  rw [List.flatMap_cons, nth_app, pic1_len, if_neg (by omega), show 2 * (i + 1) + e - 2 = 2 * i + e by omega, nth_flat l i e (by simpa using hi) he]
  rfl
theorem picL_mid (s : List Int) (i e : Nat) (hi : i < s.length) (he : e < 2) : nth (picL s) (2 * i + 1 + e) = if nth s i > 0 then 2 * nth s i - 1 + e else -2 * nth s i - e := by
 unfold picL
 rw [nth_app, picTo_len, if_pos (by omega)]
 have : nth (picTo s) (2 * i + 1 + e) = nth (s.flatMap pic1) (2 * i + e) := by
  unfold picTo nth
  rw [show 2 * i + 1 + e = (2 * i + e) + 1 by omega]
  rfl
 rw [this, nth_flat s i e hi he]
 unfold pic1
 match e, he with
 | 0, _ => split <;> simp [nth]
 | 1, _ => split <;> simp [nth]
theorem picL_last (s : List Int) : nth (picL s) (2 * s.length + 1) = 2 * (s.length : Int) + 1 := by
 unfold picL
 rw [nth_app, picTo_len, if_neg (by omega), show 2 * s.length + 1 - (1 + 2 * s.length) = 0 by omega]
 rfl
structure PicP (N : Nat) (p pl : List Int) : Prop where
 p_lt : ∀ q, q < N → (nth p q).toNat < N
 l_lt : ∀ x, x < N → (nth pl x).toNat < N
 pp : ∀ x, x < N → (nth p (nth pl x).toNat).toNat = x
 lp : ∀ q, q < N → (nth pl (nth p q).toNat).toNat = q
theorem pl_set (l : List Int) (a : Nat) (v : Int) (x : Nat) (h : a < l.length) : nth (l.set a v) x = if x = a then v else nth l x := by
 unfold nth
 rw [List.getD_eq_getElem?_getD, List.getElem?_set]
 by_cases e : x = a
 ·rw [if_pos e, if_pos e.symm, if_pos h]; rfl
 ·rw [if_neg e, if_neg (fun h => e h.symm), List.getD_eq_getElem?_getD]
theorem plTo_at {p : List Int} {N : Nat} (hN : p.length = N) (hlt : ∀ q, q < N → (nth p q).toNat < N) (hinj : ∀ q q', q < N → q' < N → (nth p q).toNat = (nth p q').toNat → q = q') : ∀ k, k ≤ N → ∀ q, q < k → nth (plTo p k) (nth p q).toNat = (q : Int)
 | 0, _, q, hq => by omega
 | k + 1, hk, q, hq => by
  rw [plTo_step, pl_set _ _ _ _ (by rw [plTo_len, hN]; exact hlt k (by omega))]
  by_cases e : q = k
  ·rw [e, if_pos rfl]
  ·rw [if_neg (fun h => e (hinj q k (by omega) (by omega) h))]
   exact plTo_at hN hlt hinj k (by omega) q (by omega)
theorem stk_has {s : List Int} {n : Nat} (hs : Stk true n s) {w : Nat} (h1 : 1 ≤ w) (h2 : w ≤ n) : ∃ i, i < n ∧ (nth s i).natAbs = w := by
 by_cases hw : w ∈ s.map Int.natAbs
 ·obtain ⟨v, hv, e⟩ := List.mem_map.1 hw
  obtain ⟨i, hi, e2⟩ := mem_nth hv
  exact ⟨i, by rw [← hs.len]; exact hi, by rw [e2, e]⟩
 ·exfalso
  have hnd : (w :: s.map Int.natAbs).Nodup := List.nodup_cons.2 ⟨hw, hs.nd⟩
  have hsub : (w :: s.map Int.natAbs) ⊆ (List.range n).map (· + 1) := by
   intro z hz
   rcases List.mem_cons.1 hz with rfl | hz
   ·exact List.mem_map.2 ⟨z - 1, List.mem_range.2 (by omega), by omega⟩
   ·obtain ⟨v, hv, rfl⟩ := List.mem_map.1 hz
    have := hs.rng v hv
    exact List.mem_map.2 ⟨v.natAbs - 1, List.mem_range.2 (by omega), by omega⟩
  have := hnd.length_le_of_subset hsub
  rw [List.length_cons, List.length_map, List.length_map, List.length_range, hs.len] at this
  omega
theorem pic_pos {s : List Int} {n : Nat} (hs : Stk true n s) (q : Nat) (hq : q < 2 * n + 2) : (q = 0 ∧ (nth (picL s) q).toNat = 0) ∨ (q = 2 * n + 1 ∧ (nth (picL s) q).toNat = 2 * n + 1) ∨
  ∃ i e, i < n ∧ e < 2 ∧ q = 2 * i + 1 + e ∧ ((0 < nth s i ∧ (nth (picL s) q).toNat = 2 * (nth s i).natAbs - 1 + e) ∨ (nth s i < 0 ∧ (nth (picL s) q).toNat = 2 * (nth s i).natAbs - e)) := by
 have hl := hs.len
 by_cases h0 : q = 0
 ·exact .inl ⟨h0, by rw [h0]; rfl⟩
 ·by_cases h1 : q = 2 * n + 1
  ·refine .inr (.inl ⟨h1, ?_⟩)
   rw [h1, ← hl, picL_last]
   omega
  ·refine .inr (.inr ⟨(q - 1) / 2, (q - 1) % 2, by omega, by omega, by omega, ?_⟩)
   have hm := picL_mid s ((q - 1) / 2) ((q - 1) % 2) (by omega) (by omega)
   rw [show 2 * ((q - 1) / 2) + 1 + (q - 1) % 2 = q by omega] at hm
   have hv := hs.rng (nth s ((q - 1) / 2)) (nth_in s _ (by omega))
   rw [hm]
   by_cases hp : nth s ((q - 1) / 2) > 0
   ·rw [if_pos hp]; exact .inl ⟨hp, by omega⟩
   ·rw [if_neg hp]; exact .inr ⟨by omega, by omega⟩
theorem pic_ok {s : List Int} {n : Nat} (hs : Stk true n s) : PicP (2 * n + 2) (picL s) (plL s) := by
 have hl := hs.len
 have hlen : (picL s).length = 2 * n + 2 := by rw [picL_len, hl]
 have hr : ∀ i, i < n → 1 ≤ (nth s i).natAbs ∧ (nth s i).natAbs ≤ n := fun i hi => by
  have hv := hs.rng (nth s i) (nth_in s i (by omega))
  omega
 have hnd := (stk_nth.1 hs).2.2.1
 have hlt : ∀ q, q < 2 * n + 2 → (nth (picL s) q).toNat < 2 * n + 2 := fun q hq => by
  rcases pic_pos hs q hq with ⟨_, h⟩ | ⟨_, h⟩ | ⟨i, e, hi, he, _, ⟨_, h⟩ | ⟨_, h⟩⟩
  ·omega
  ·omega
  ·have := hr i hi; omega
  ·have := hr i hi; omega
 have hinj : ∀ q q', q < 2 * n + 2 → q' < 2 * n + 2 → (nth (picL s) q).toNat = (nth (picL s) q').toNat → q = q' := fun q q' hq hq' he => by
  rcases pic_pos hs q hq with ⟨e0, h⟩ | ⟨e0, h⟩ | ⟨i, e, hi, hee, e0, h⟩
  ·rcases pic_pos hs q' hq' with ⟨e1, h'⟩ | ⟨e1, h'⟩ | ⟨i', e', hi', hee', e1, h'⟩
   ·omega
   ·omega
   ·have := hr i' hi'
    rcases h' with ⟨_, h'⟩ | ⟨_, h'⟩ <;> omega
  ·rcases pic_pos hs q' hq' with ⟨e1, h'⟩ | ⟨e1, h'⟩ | ⟨i', e', hi', hee', e1, h'⟩
   ·omega
   ·omega
   ·have := hr i' hi'
    rcases h' with ⟨_, h'⟩ | ⟨_, h'⟩ <;> omega
  ·have h1 := hr i hi
   rcases pic_pos hs q' hq' with ⟨e1, h'⟩ | ⟨e1, h'⟩ | ⟨i', e', hi', hee', e1, h'⟩
   ·rcases h with ⟨_, h⟩ | ⟨_, h⟩ <;> omega
   ·rcases h with ⟨_, h⟩ | ⟨_, h⟩ <;> omega
   ·have h2 := hr i' hi'
    have hab : (nth s i).natAbs = (nth s i').natAbs := by rcases h with ⟨_, h⟩ | ⟨_, h⟩ <;> rcases h' with ⟨_, h'⟩ | ⟨_, h'⟩ <;> omega
    have hii := hnd i i' hi hi' hab
    subst hii
    rcases h with ⟨s1, h⟩ | ⟨s1, h⟩ <;> rcases h' with ⟨s2, h'⟩ | ⟨s2, h'⟩ <;> omega
 have hat : ∀ q, q < 2 * n + 2 → nth (plL s) (nth (picL s) q).toNat = (q : Int) := fun q hq => by
  unfold plL
  rw [hlen]
  exact plTo_at hlen hlt hinj (2 * n + 2) (Nat.le_refl _) q hq
 have hsur : ∀ x, x < 2 * n + 2 → ∃ q, q < 2 * n + 2 ∧ (nth (picL s) q).toNat = x := fun x hx => by
  by_cases h0 : x = 0
  ·exact ⟨0, by omega, by rw [h0]; rfl⟩
  ·by_cases h1 : x = 2 * n + 1
   ·refine ⟨2 * n + 1, by omega, ?_⟩
    rw [← hl, picL_last]; omega
   ·obtain ⟨i, hi, hw⟩ := stk_has hs (w := (x + 1) / 2) (by omega) (by omega)
    have hv := hs.rng (nth s i) (nth_in s i (by omega))
    by_cases hp : nth s i > 0
    ·refine ⟨2 * i + 1 + (x + 1) % 2, by omega, ?_⟩
     rw [picL_mid s i _ (by omega) (by omega), if_pos hp]
     omega
    ·refine ⟨2 * i + 1 + x % 2, by omega, ?_⟩
     rw [picL_mid s i _ (by omega) (by omega), if_neg hp]
     omega
 refine ⟨hlt, fun x hx => ?_, fun x hx => ?_, fun q hq => ?_⟩
 ·obtain ⟨q, hq, e⟩ := hsur x hx
  rw [← e, hat q hq]; omega
 ·obtain ⟨q, hq, e⟩ := hsur x hx
  rw [← e, hat q hq, Int.toNat_natCast]
 ·rw [hat q hq, Int.toNat_natCast]
theorem x1 : ∀ x, x < 128 → x ^^^ 1 = if x % 2 = 0 then x + 1 else x - 1 := by decide +kernel
def beta (p pl : List Int) (x : Nat) : Nat := (nth p ((nth pl x).toNat ^^^ 1)).toNat
theorem x1_lt {n : Nat} (hn : n ≤ 40) {x : Nat} (hx : x < 2 * n + 2) : x ^^^ 1 < 2 * n + 2 ∧ (x ^^^ 1) ^^^ 1 = x ∧ (x ^^^ 1) / 2 = x / 2 ∧ x ^^^ 1 ≠ x := by
 have h := x1 x (by omega)
 have h2 := x1 (x ^^^ 1) (by rw [h]; split <;> omega)
 rw [h2]
 rw [h]
 by_cases e : x % 2 = 0
 ·rw [if_pos e]
  refine ⟨by omega, ?_, by omega, by omega⟩
  rw [if_neg (by omega)]; omega
 ·rw [if_neg e]
  refine ⟨by omega, ?_, by omega, by omega⟩
  rw [if_pos (by omega)]; omega
theorem half_same {n : Nat} (hn : n ≤ 40) {x y : Nat} (hx : x < 2 * n + 2) (hy : y < 2 * n + 2) (h : x / 2 = y / 2) : x = y ∨ x = y ^^^ 1 := by
 have h1 := x1 y (by omega)
 rw [h1]
 split <;> omega
def it (p pl : List Int) (x0 : Nat) : Nat → Nat
 | 0 => x0
 | i + 1 => hop p pl (it p pl x0 i)
def outs (p pl : List Int) (x0 K : Nat) : List Int := (List.range K).map (fun t => ((it p pl x0 t / 2 : Nat) : Int))
theorem outs_succ (p pl : List Int) (x0 K : Nat) : outs p pl x0 (K + 1) = outs p pl x0 K ++ [((it p pl x0 K / 2 : Nat) : Int)] := by unfold outs; rw [List.range_succ, List.map_append]; rfl
def Fresh (p pl : List Int) (S0 : Nat → Prop) (x0 K : Nat) : Prop := ∀ t, t < K → ¬ S0 (it p pl x0 t / 2) ∧ ∀ u, u < t → it p pl x0 u / 2 ≠ it p pl x0 t / 2
section
variable {n : Nat} {p pl : List Int} (hn : n ≤ 40) (P : PicP (2 * n + 2) p pl)
include hn P
theorem beta_lt {x : Nat} (hx : x < 2 * n + 2) : beta p pl x < 2 * n + 2 := P.p_lt _ (x1_lt hn (P.l_lt x hx)).1
theorem beta_inv {x : Nat} (hx : x < 2 * n + 2) : beta p pl (beta p pl x) = x := by
 have h := x1_lt hn (P.l_lt x hx)
 show (nth p ((nth pl (nth p ((nth pl x).toNat ^^^ 1)).toNat).toNat ^^^ 1)).toNat = x
 rw [P.lp _ h.1, h.2.1, P.pp x hx]
theorem beta_ne {x : Nat} (hx : x < 2 * n + 2) : beta p pl x ≠ x := fun e => by
 have h := x1_lt hn (P.l_lt x hx)
 have h2 : (nth pl (beta p pl x)).toNat = (nth pl x).toNat ^^^ 1 := P.lp _ h.1
 rw [e] at h2
 exact h.2.2.2 h2.symm
theorem it_lt {x0 : Nat} (h0 : x0 < 2 * n + 2) : ∀ i, it p pl x0 i < 2 * n + 2
 | 0 => h0
 | i + 1 => beta_lt hn P (x1_lt hn (it_lt h0 i)).1
theorem fol_run (S0 : Nat → Prop) {x0 : Nat} (h0 : x0 < 2 * n + 2) : ∀ (fuel i : Nat) (seen : List Bool), seen.length = n + 1 → (∀ j, j < n + 1 → (seen.getD j false = true ↔ S0 j ∨ ∃ t, t < i ∧ it p pl x0 t / 2 = j)) → Fresh p pl S0 x0 i → unseen seen < fuel →
  ∃ K seen', i ≤ K ∧ folF p pl fuel (it p pl x0 i) seen (outs p pl x0 i) = (outs p pl x0 K, seen') ∧ seen'.length = n + 1 ∧ (∀ j, j < n + 1 → (seen'.getD j false = true ↔ S0 j ∨ ∃ t, t < K ∧ it p pl x0 t / 2 = j)) ∧ Fresh p pl S0 x0 K ∧ (S0 (it p pl x0 K / 2) ∨ ∃ t, t < K ∧ it p pl x0 t / 2 = it p pl x0 K / 2)
 | 0, i, seen, _, _, _, hf => by omega
 | fuel + 1, i, seen, hl, hs, hfr, hf => by
  have hlt := it_lt hn P h0 i
  have hi2 : it p pl x0 i / 2 < n + 1 := by omega
  rw [folF]
  by_cases h : seen.getD (it p pl x0 i / 2) false = true
  ·rw [if_pos h]
   exact ⟨i, seen, Nat.le_refl _, rfl, hl, hs, hfr, (hs _ hi2).1 h⟩
  ·rw [if_neg h, ← outs_succ]
   have hne : ¬ (S0 (it p pl x0 i / 2) ∨ ∃ t, t < i ∧ it p pl x0 t / 2 = it p pl x0 i / 2) := fun hh => h ((hs _ hi2).2 hh)
   have hu := unseen_set (seen := seen) (j := it p pl x0 i / 2) (by omega) (by simpa using h)
   obtain ⟨K, seen', hK, he, hr⟩ := fol_run S0 h0 fuel (i + 1) (seen.set (it p pl x0 i / 2) true) (by rw [List.length_set]; exact hl) (fun j hj => by
    rw [getD_set _ _ _ (by omega)]
    by_cases e : j = it p pl x0 i / 2
    ·rw [if_pos e]
     exact ⟨fun _ => .inr ⟨i, by omega, e.symm⟩, fun _ => rfl⟩
    ·rw [if_neg e, hs j hj]
     constructor
     ·rintro (h | ⟨t, ht, e2⟩)
      ·exact .inl h
      ·exact .inr ⟨t, by omega, e2⟩
     ·rintro (h | ⟨t, ht, e2⟩)
      ·exact .inl h
      ·by_cases et : t = i
       ·rw [et] at e2; exact absurd e2.symm e
       ·exact .inr ⟨t, by omega, e2⟩) (fun t ht => by
    by_cases et : t = i
    ·subst et
     exact ⟨fun h => hne (.inl h), fun u hu e => hne (.inr ⟨u, hu, e⟩)⟩
    ·exact hfr t (by omega)) (by omega)
   exact ⟨K, seen', by omega, he, hr⟩
theorem fol_ring {S0 : Nat → Prop} (hS : ∀ x, x < 2 * n + 2 → S0 (x / 2) → S0 (beta p pl x / 2)) {x0 K : Nat} (h0 : x0 < 2 * n + 2) (hx0 : ¬ S0 (x0 / 2)) (hfr : Fresh p pl S0 x0 K) (hit : S0 (it p pl x0 K / 2) ∨ ∃ t, t < K ∧ it p pl x0 t / 2 = it p pl x0 K / 2) : 0 < K ∧ it p pl x0 K = x0 := by
 match K, hfr, hit with
 | 0, _, hit =>
  rcases hit with h | ⟨t, ht, _⟩
  ·exact absurd h hx0
  ·omega
 | K + 1, hfr, hit =>
  refine ⟨by omega, ?_⟩
  have hlt := it_lt hn P h0
  have hxK := x1_lt hn (hlt K)
  have hnext : it p pl x0 (K + 1) = beta p pl (it p pl x0 K ^^^ 1) := rfl
  have hback : beta p pl (it p pl x0 (K + 1)) = it p pl x0 K ^^^ 1 := by rw [hnext, beta_inv hn P hxK.1]
  rcases hit with h | ⟨j, hj, e⟩
  ·have := hS _ (hlt (K + 1)) h
   rw [hback, hxK.2.2.1] at this
   exact absurd this (hfr K (by omega)).1
  ·rcases half_same hn (hlt (K + 1)) (hlt j) e.symm with h | h
   ·match j, hj, h with
    | 0, _, h => exact h
    | j + 1, hj, h =>
     exfalso
     have h2 : beta p pl (it p pl x0 (K + 1)) = beta p pl (it p pl x0 (j + 1)) := by rw [h]
     have hxj := x1_lt hn (hlt j)
     rw [hback, show it p pl x0 (j + 1) = beta p pl (it p pl x0 j ^^^ 1) from rfl, beta_inv hn P hxj.1] at h2
     have h3 : it p pl x0 K / 2 = it p pl x0 j / 2 := by rw [← hxK.2.2.1, h2, hxj.2.2.1]
     exact (hfr K (by omega)).2 j (by omega) h3.symm
   ·exfalso
    have hxj := x1_lt hn (hlt j)
    have h2 : it p pl x0 K ^^^ 1 = it p pl x0 (j + 1) := by rw [← hback, h]; rfl
    have h3 : it p pl x0 (j + 1) / 2 = it p pl x0 K / 2 := by rw [← h2, hxK.2.2.1]
    by_cases e1 : j + 1 = K
    ·rw [e1] at h2; exact hxK.2.2.2 h2
    ·by_cases e2 : j = K
     ·subst e2
      exact beta_ne hn P hxK.1 (by rw [← hnext]; exact h)
     ·exact (hfr K (by omega)).2 (j + 1) (by omega) h3
theorem fol_closed {x0 K : Nat} (h0 : x0 < 2 * n + 2) (hK : 0 < K) (hr : it p pl x0 K = x0) {x : Nat} (hx : x < 2 * n + 2) (h : ∃ t, t < K ∧ it p pl x0 t / 2 = x / 2) : ∃ t, t < K ∧ it p pl x0 t / 2 = beta p pl x / 2 := by
 have hlt := it_lt hn P h0
 obtain ⟨t, ht, e⟩ := h
 have hnext : ∀ i, it p pl x0 (i + 1) = beta p pl (it p pl x0 i ^^^ 1) := fun _ => rfl
 have hback : ∀ i, beta p pl (it p pl x0 (i + 1)) = it p pl x0 i ^^^ 1 := fun i => by rw [hnext, beta_inv hn P (x1_lt hn (hlt i)).1]
 rcases half_same hn hx (hlt t) e.symm with h | h
 ·match t, ht, h with
  | 0, _, h =>
   obtain ⟨k, rfl⟩ : ∃ k, K = k + 1 := ⟨K - 1, by omega⟩
   refine ⟨k, by omega, ?_⟩
   rw [h, show it p pl x0 0 = it p pl x0 (k + 1) from hr.symm, hback, (x1_lt hn (hlt k)).2.2.1]
  | t + 1, ht, h => exact ⟨t, by omega, by rw [h, hback, (x1_lt hn (hlt t)).2.2.1]⟩
 ·by_cases e1 : t + 1 = K
  ·exact ⟨0, hK, by rw [h, ← hnext, e1, hr]; rfl⟩
  ·exact ⟨t + 1, by omega, by rw [h, ← hnext]⟩
end
end Go.Proofs.Ytepjhdblmghckaa.G


namespace Go.Proofs.Ytepjhdblmghckaa.G
open Go.Proofs.Ytepjhdblmghckaa.Q Go.Proofs.Ytepjhdblmghckaa.K Go.Proofs.Ytepjhdblmghckaa.Bf
open Go.RowKit Go.Proofs.YtepjhdblmghckaaW.PrintWords Go.Proofs.YtepjhdblmghckaaW.PrintLast Go.Proofs.YtepjhdblmghckaaW.PrintMore
set_option linter.unusedVariables false
structure BlackG (n : Nat) (p pl g : List Int) : Prop where
 len : g.length = n + 1
 same : ∀ x, x < 2 * n + 2 → nth g (beta p pl x / 2) = nth g (x / 2)
 least : ∀ S : Nat → Prop, (∀ x, x < 2 * n + 2 → S (x / 2) → S (beta p pl x / 2)) → Resp S g
theorem beta_even {n : Nat} (hn : n ≤ 40) {p pl : List Int} (P : PicP (2 * n + 2) p pl) {j : Nat} (hj : j < n + 1) : beta p pl (nth p (2 * j)).toNat = (nth p (2 * j + 1)).toNat ∧ beta p pl (nth p (2 * j + 1)).toNat = (nth p (2 * j)).toNat := by
 have h1 := x1 (2 * j) (by omega)
 have h2 := x1 (2 * j + 1) (by omega)
 rw [if_pos (by omega)] at h1
 rw [if_neg (by omega), show 2 * j + 1 - 1 = 2 * j by omega] at h2
 unfold beta
 rw [P.lp _ (by omega), P.lp _ (by omega), h1, h2]
 exact ⟨rfl, rfl⟩
theorem round_black {s : List Int} {n : Nat} (hn : n ≤ 40) (hs : Stk true n s) : BlackG n (picL s) (plL s) (rndL s) := by
 have P := pic_ok hs
 have hl := hs.len
 have hE : ∀ e, e ∈ (List.range (n + 1)).map (blackE (picL s)) → e.1 < (idL (n + 1)).length ∧ e.2 < (idL (n + 1)).length := fun e he => by
  obtain ⟨j, hj, rfl⟩ := List.mem_map.1 he
  rw [List.mem_range] at hj
  have h1 := P.p_lt (2 * j) (by omega)
  have h2 := P.p_lt (2 * j + 1) (by omega)
  rw [idL_len]
  unfold blackE
  dsimp only
  omega
 have hg : rndL s = mergeL ((List.range (n + 1)).map (blackE (picL s))) (idL (n + 1)) := by unfold rndL rndTo; rw [hl]
 refine ⟨by rw [rndL_len, hl], fun x hx => ?_, fun S hS => ?_⟩
 ·have hq := P.l_lt x hx
  have hp := P.pp x hx
  obtain ⟨q, hqe⟩ : ∃ q, (nth (plL s) x).toNat = q := ⟨_, rfl⟩
  rw [hqe] at hq hp
  have hm := mergeL_pair _ hE (blackE (picL s) (q / 2)) (List.mem_map.2 ⟨q / 2, List.mem_range.2 (by omega), rfl⟩)
  rw [← hg] at hm
  have hb := beta_even hn P (j := q / 2) (by omega)
  unfold blackE at hm
  by_cases e : q % 2 = 0
  ·rw [show 2 * (q / 2) = q by omega] at hm hb
   rw [hp] at hm hb
   rw [hb.1]
   exact hm.symm
  ·rw [show 2 * (q / 2) + 1 = q by omega] at hm hb
   rw [hp] at hm hb
   rw [hb.2]
   exact hm
 ·rw [hg]
  refine mergeL_resp _ (fun e he => ⟨(hE e he).1, (hE e he).2, ?_⟩) (idL_resp S _)
  obtain ⟨j, hj, rfl⟩ := List.mem_map.1 he
  rw [List.mem_range] at hj
  have hb := beta_even hn P (j := j) hj
  have s1 := hS (nth (picL s) (2 * j)).toNat (P.p_lt _ (by omega))
  have s2 := hS (nth (picL s) (2 * j + 1)).toNat (P.p_lt _ (by omega))
  rw [hb.1] at s1
  rw [hb.2] at s2
  exact ⟨s1, s2⟩
theorem outs_nodup (p pl : List Int) (S0 : Nat → Prop) (x0 : Nat) : ∀ K, Fresh p pl S0 x0 K → (outs p pl x0 K).Nodup
 | 0, _ => by simp [outs]
 | K + 1, h => by
  rw [outs_succ, List.nodup_append]
  refine ⟨outs_nodup p pl S0 x0 K (fun t ht => h t (by omega)), by simp, fun a ha b hb => ?_⟩
  rw [List.mem_singleton] at hb
  subst hb
  unfold outs at ha
  obtain ⟨u, hu, rfl⟩ := List.mem_map.1 ha
  have := (h K (by omega)).2 u (List.mem_range.1 hu)
  omega
theorem clsUp_sorted (g : List Int) (i k : Nat) : (clsUp g i k).Pairwise (· < ·) := by
 unfold clsUp
 rw [List.pairwise_map]
 exact (List.pairwise_lt_range.filter _).imp (fun h => by omega)
theorem mem_clsOf {g : List Int} {i : Nat} {z : Int} : z ∈ clsOf g i ↔ ∃ q, q < g.length ∧ nth g q = nth g i ∧ z = (q : Int) := by
 unfold clsOf clsUp
 rw [List.mem_map]
 constructor
 ·rintro ⟨q, hq, rfl⟩
  rw [List.mem_filter, List.mem_range, decide_eq_true_eq] at hq
  exact ⟨q, hq.1, hq.2, rfl⟩
 ·rintro ⟨q, h1, h2, rfl⟩
  exact ⟨q, by rw [List.mem_filter, List.mem_range, decide_eq_true_eq]; exact ⟨h1, h2⟩, rfl⟩
theorem fol_group {n : Nat} (hn : n ≤ 40) {p pl g : List Int} (P : PicP (2 * n + 2) p pl) (B : BlackG n p pl g) {l : Nat} (hl : l < n + 1) {seen : List Bool} (hsl : seen.length = n + 1) (hs : ∀ j, j < n + 1 → (seen.getD j false = true ↔ ∃ i, i < l ∧ nth g i = nth g j)) (hnl : seen.getD l false = false) :
  ∃ L seen', folF p pl (unseen seen + 1) (2 * l) seen [] = (L, seen') ∧ sortL L = clsOf g l ∧ seen'.length = n + 1 ∧ ∀ j, j < n + 1 → (seen'.getD j false = true ↔ ∃ i, i < l + 1 ∧ nth g i = nth g j) := by
 have h0 : 2 * l < 2 * n + 2 := by omega
 have hx0 : ¬ ∃ i, i < l ∧ nth g i = nth g (2 * l / 2) := fun h => by
  rw [show 2 * l / 2 = l by omega] at h
  have := (hs l hl).2 h
  rw [hnl] at this; cases this
 have hS : ∀ x, x < 2 * n + 2 → (∃ i, i < l ∧ nth g i = nth g (x / 2)) → ∃ i, i < l ∧ nth g i = nth g (beta p pl x / 2) := fun x hx => by
  rintro ⟨i, hi, e⟩
  exact ⟨i, hi, by rw [B.same x hx]; exact e⟩
 obtain ⟨K, seen', _, he, hsl', hs', hfr, hit⟩ := fol_run hn P (fun j => ∃ i, i < l ∧ nth g i = nth g j) h0 (unseen seen + 1) 0 seen hsl (fun j hj => by
  rw [hs j hj]
  exact ⟨.inl, fun h => h.elim id (fun ⟨t, ht, _⟩ => absurd ht (by omega))⟩) (fun t ht => absurd ht (by omega)) (by omega)
 obtain ⟨hK, hring⟩ := fol_ring hn P hS h0 hx0 hfr hit
 have hgrp : ∀ t, nth g (it p pl (2 * l) t / 2) = nth g l := by
  intro t
  induction t with
  | zero => show nth g (2 * l / 2) = nth g l; rw [show 2 * l / 2 = l by omega]
  | succ t ih =>
   have hx := x1_lt hn (it_lt hn P h0 t)
   show nth g (beta p pl (it p pl (2 * l) t ^^^ 1) / 2) = nth g l
   rw [B.same _ hx.1, hx.2.2.1, ih]
 have hmem : ∀ j, j < n + 1 → ((∃ t, t < K ∧ it p pl (2 * l) t / 2 = j) ↔ nth g j = nth g l) := fun j hj => by
  constructor
  ·rintro ⟨t, _, e⟩
   rw [← e]; exact hgrp t
  ·intro e
   have hR := B.least (fun j => ∃ t, t < K ∧ it p pl (2 * l) t / 2 = j) (fun x hx h => fol_closed hn P h0 hK hring hx h)
   exact hR l j (by rw [B.len]; exact hl) (by rw [B.len]; exact hj) e.symm ⟨0, hK, by show 2 * l / 2 = l; omega⟩
 refine ⟨outs p pl (2 * l) K, seen', he, ?_, hsl', fun j hj => ?_⟩
 ·refine perm_sorted_eq _ _ ?_ (sortL_sorted _) ((clsUp_sorted g l _).imp (fun h => by omega))
  refine (List.mergeSort_perm ..).trans ((List.perm_ext_iff_of_nodup (outs_nodup p pl _ _ K hfr) ((clsUp_sorted g l _).imp (fun h => by omega))).2 (fun z => ?_))
  rw [show clsUp g l g.length = clsOf g l from rfl, mem_clsOf]
  unfold outs
  rw [List.mem_map]
  constructor
  ·rintro ⟨t, ht, rfl⟩
   have := it_lt hn P h0 t
   exact ⟨it p pl (2 * l) t / 2, by rw [B.len]; omega, hgrp t, rfl⟩
  ·rintro ⟨q, hq, e, rfl⟩
   rw [B.len] at hq
   obtain ⟨t, ht, e2⟩ := (hmem q hq).2 e
   exact ⟨t, List.mem_range.2 ht, by rw [e2]⟩
 ·rw [hs' j hj, hmem j hj]
  constructor
  ·rintro (⟨i, hi, e⟩ | e)
   ·exact ⟨i, by omega, e⟩
   ·exact ⟨l, by omega, e.symm⟩
  ·rintro ⟨i, hi, e⟩
   by_cases e2 : i = l
   ·rw [e2] at e; exact .inr e.symm
   ·exact .inl ⟨i, by omega, e⟩
theorem cir_to {n : Nat} (hn : n ≤ 40) {p pl g : List Int} (P : PicP (2 * n + 2) p pl) (B : BlackG n p pl g) : ∀ k, k ≤ n + 1 → (cirTo p pl n k).1.length = n + 1 ∧ (∀ j, j < n + 1 → ((cirTo p pl n k).1.getD j false = true ↔ ∃ i, i < k ∧ nth g i = nth g j)) ∧ (cirTo p pl n k).2 = clsTo g k
 | 0, _ => by
  refine ⟨by simp [cirTo], fun j hj => ⟨fun h => ?_, fun ⟨i, hi, _⟩ => absurd hi (by omega)⟩, rfl⟩
  have : (List.replicate (n + 1) false).getD j false = true := h
  rw [List.getD_eq_getElem?_getD, List.getElem?_replicate] at this
  split at this <;> cases this
 | k + 1, hk => by
  obtain ⟨h1, h2, h3⟩ := cir_to hn P B k (by omega)
  rw [cirTo_step]
  unfold cirStep
  rw [clsTo_succ]
  by_cases hd : (cirTo p pl n k).1.getD k false = true
  ·have hf : ¬ firstIn g k = true := fun hf => by
    obtain ⟨j, hj, he⟩ := (h2 k (by omega)).1 hd
    exact (firstIn_iff g k).1 hf j hj he
   rw [if_pos hd, if_neg hf]
   refine ⟨h1, fun j hj => ?_, h3⟩
   rw [h2 j hj]
   constructor
   ·rintro ⟨i, hi, e⟩; exact ⟨i, by omega, e⟩
   ·rintro ⟨i, hi, e⟩
    by_cases ei : i = k
    ·obtain ⟨i', hi', e'⟩ := (h2 k (by omega)).1 hd
     exact ⟨i', hi', by rw [e', ← e, ei]⟩
    ·exact ⟨i, by omega, e⟩
  ·have hf : firstIn g k = true := (firstIn_iff g k).2 (fun j hj he => hd ((h2 k (by omega)).2 ⟨j, hj, he⟩))
   rw [if_neg hd, if_pos hf]
   obtain ⟨L, seen', he, hL, hl', hs'⟩ := fol_group hn P B (l := k) (by omega) h1 h2 (by simpa using hd)
   rw [he]
   exact ⟨hl', hs', by rw [h3, hL]⟩
theorem circL_cls {s : List Int} {n : Nat} (hn : n ≤ 40) (hs : Stk true n s) : circL s = clsTo (rndL s) (n + 1) := by
 have h := (cir_to hn (pic_ok hs) (round_black hn hs) (n + 1) (Nat.le_refl _)).2.2
 unfold circL
 rw [hs.len]
 exact h
end Go.Proofs.Ytepjhdblmghckaa.G


namespace Go.Proofs.Ytepjhdblmghckaa.G
open Go.Proofs.Ytepjhdblmghckaa.Q Go.Proofs.Ytepjhdblmghckaa.K Go.Proofs.Ytepjhdblmghckaa.Bf
open Go.RowKit Go.Proofs.YtepjhdblmghckaaW.PrintWords Go.Proofs.YtepjhdblmghckaaW.PrintLast Go.Proofs.YtepjhdblmghckaaW.PrintMore
set_option linter.unusedVariables false
def linOf (pl : List Int) (i : Nat) : S57 := ⟨(spanOf pl i).1, (spanOf pl i).2⟩
def linTo (pl : List Int) (k : Nat) : List S57 := (List.range k).map (linOf pl)
theorem mn_eq (a b : Int) : mn a b = min a b := by unfold mn; split <;> omega
theorem mx_eq (a b : Int) : mx a b = max a b := by unfold mx; split <;> omega
theorem linTo_len (pl : List Int) (k : Nat) : (linTo pl k).length = k := by simp [linTo]
theorem linTo_succ (pl : List Int) (k : Nat) : linTo pl (k + 1) = linTo pl k ++ [linOf pl k] := by unfold linTo; rw [List.range_succ, List.map_append]; rfl
theorem rd_lin {pl : List Int} {k i : Nat} (h : i < k) : rd_T57 (linTo pl k) (i : Int) = linOf pl i := by
 unfold rd_T57 linTo
 simp [h]
theorem lines_l1 (s pl : List Int) (hn : s.length ≤ 1000) (hp : pl.length = 2 * s.length + 2) : ∀ d i : Nat, i + d = s.length + 1 → Ev (fun k => bibelotref07_Lines.l1 k s pl (linTo pl i) (i : Int)) (linTo pl (s.length + 1))
 | 0, i, h => by
  have e : i = s.length + 1 := by omega
  subst e
  refine Ev.step (f := fun _ => some (linTo pl (s.length + 1))) (fun k => ?_) (Ev.now _)
  rw [bibelotref07_Lines.l1, if_neg (by omega)]
 | d + 1, i, h => by
  have ih := lines_l1 s pl hn hp d (i + 1) (by omega)
  have hl := linTo_len pl i
  rw [linTo_succ] at ih
  refine Ev.step (fun k => ?_) ih
  have e1 : wrap64 (2 * (i : Int)) = ((2 * i : Nat) : Int) := by rw [w64 (by omega) (by omega)]; omega
  have e2 : wrap64 (((2 * i : Nat) : Int) + 1) = ((2 * i + 1 : Nat) : Int) := by rw [w64 (by omega) (by omega)]; omega
  rw [bibelotref07_Lines.l1, e1, e2, if_pos (by omega), if_pos (by omega), if_pos (by omega), if_pos (by omega), if_pos (by omega), if_pos (by omega), up1 i (by omega), rd_nth, rd_nth, mn_eq, mx_eq]
  rfl
theorem lines_l0 (s p : List Int) (hn : s.length ≤ 1000) (hp : p.length = 2 * s.length + 2) (hr : ∀ q, 0 ≤ nth p q ∧ nth p q < 2 * (s.length : Int) + 2) : ∀ d i : Nat, i + d = p.length → Ev (fun k => bibelotref07_Lines.l0 k s p (plTo p i) (i : Int)) (linTo (plTo p p.length) (s.length + 1))
 | 0, i, h => by
  have e : i = p.length := by omega
  subst e
  refine Ev.step (fun k => ?_) (lines_l1 s (plTo p p.length) hn (by rw [plTo_len, hp]) (s.length + 1) 0 (by omega))
  rw [bibelotref07_Lines.l0, if_neg (by omega)]
  rfl
 | d + 1, i, h => by
  have ih := lines_l0 s p hn hp hr d (i + 1) (by omega)
  have hv := hr i
  have hl := plTo_len p i
  rw [plTo_step] at ih
  refine Ev.step (fun k => ?_) ih
  rw [bibelotref07_Lines.l0, if_pos (by omega), if_pos (by omega), rd_nth, if_pos (by omega), if_pos (by omega), up1 i (by omega)]
theorem lines_ev {s : List Int} (hn : s.length ≤ 40) (hm : ∀ x, x ∈ s → x ≠ 0 ∧ -(s.length : Int) ≤ x ∧ x ≤ s.length) (hs : Smalls s) : Ev (fun k => bibelotref07_Lines.f k s) (linTo (plL s) (s.length + 1)) := by
 unfold bibelotref07_Lines.f
 refine Ev.bind (rpicture_ev s (by omega) hs) ?_
 have hl := picL_len s
 refine Ev.congr (fun k => ?_) (lines_l0 s (picL s) (by omega) hl (picL_range s hm) (picL s).length 0 (by omega))
 rw [if_pos (by omega), if_pos (by omega)]
 rfl
def crossD (a b : S57) : Bool := (decide (b.f0 < a.f0) && decide (a.f0 < b.f1)) != (decide (b.f0 < a.f1) && decide (a.f1 < b.f1))
theorem within_f (x y z : Int) : bibelotref07_within.f x y z = some (decide (x < z) && decide (z < y)) := by
 unfold bibelotref07_within.f
 by_cases h : x < z
 ·rw [if_pos h]; simp [h]
 ·rw [if_neg h]; simp [h]
theorem cross_f (a b : S57) : bibelotref07_Cross.f a.f0 a.f1 b.f0 b.f1 = some (crossD a b) := by
 unfold bibelotref07_Cross.f
 rw [within_f, Option.bind_some, within_f, Option.bind_some]
 rfl
def lets (p g : List Int) (left : List Bool) (k : Nat) : List Int := ((p.take k).map (fun x => nth g (x.toNat / 2))).filter (fun z => left.getD z.toNat false)
theorem lets_le (p g : List Int) (left : List Bool) (k : Nat) : (lets p g left k).length ≤ k := by
 unfold lets
 refine Nat.le_trans (List.length_filter_le _ _) ?_
 rw [List.length_map, List.length_take]; omega
theorem lets_succ (p g : List Int) (left : List Bool) {k : Nat} (h : k < p.length) : lets p g left (k + 1) = if left.getD (nth g ((nth p k).toNat / 2)).toNat false = true then lets p g left k ++ [nth g ((nth p k).toNat / 2)] else lets p g left k := by
 unfold lets
 rw [List.take_add_one, List.getElem?_eq_getElem h, nth_get p k h, List.map_append, List.filter_append]
 by_cases e : left.getD (nth g (p[k].toNat / 2)).toNat false = true
 ·rw [if_pos e]; simp only [Option.toList_some, List.map_cons, List.map_nil, List.filter_cons, List.filter_nil, e, if_true]
 ·rw [if_neg e]; simp only [Option.toList_some, List.map_cons, List.map_nil, List.filter_cons, List.filter_nil, e]; simp
def ahead (l : List Int) (i : Nat) : Int := nth l ((i + l.length - 1) % l.length)
def begN (l : List Int) (g : Int) (k : Nat) : Nat := (List.range k).countP (fun i => decide (nth l i = g) && decide (ahead l i ≠ g))
theorem begN_step (l : List Int) (g : Int) (k : Nat) : begN l g (k + 1) = begN l g k + if nth l k = g ∧ ahead l k ≠ g then 1 else 0 := by
 unfold begN
 rw [List.range_succ, List.countP_append, List.countP_singleton]
 congr 1
 by_cases h : nth l k = g ∧ ahead l k ≠ g
 ·rw [if_pos h, if_pos (by simp [h])]
 ·rw [if_neg h, if_neg (by simpa using h)]
theorem begN_le (l : List Int) (g : Int) (k : Nat) : begN l g k ≤ k := Nat.le_trans List.countP_le_length (by simp)
theorem whole_l1 (g : Int) (l : List Int) (hl : l.length ≤ 1000000) : ∀ d i : Nat, i + d = l.length → Ev (fun k => bibelotref07_whole.l1 k g l ((begN l g i : Nat) : Int) (i : Int)) (decide (begN l g l.length ≤ 1))
 | 0, i, h => by
  have e : i = l.length := by omega
  subst e
  refine Ev.step (f := fun _ => some (decide (begN l g l.length ≤ 1))) (fun k => ?_) (Ev.now _)
  rw [bibelotref07_whole.l1, if_neg (by omega)]
  congr 1
  exact decide_eq_decide.2 (by omega)
 | d + 1, i, h => by
  have ih := whole_l1 g l hl d (i + 1) (by omega)
  have hb := begN_le l g i
  rw [begN_step] at ih
  have em : Int.tmod (wrap64 (wrap64 ((i : Int) + (l.length : Int)) - 1)) (l.length : Int) = (((i + l.length - 1) % l.length : Nat) : Int) := by
   rw [w64 (x := (i : Int) + (l.length : Int)) (by omega) (by omega), w64 (by omega) (by omega), Int.tmod_eq_emod_of_nonneg (by omega), show (i : Int) + (l.length : Int) - 1 = ((i + l.length - 1 : Nat) : Int) by omega]
   rfl
  have hlt := Nat.mod_lt (i + l.length - 1) (show l.length > 0 by omega)
  refine Ev.step (fun k => ?_) ih
  rw [bibelotref07_whole.l1, if_pos (by omega), if_pos (by omega), rd_nth, em, up1 i (by omega)]
  by_cases h1 : nth l i = g
  ·rw [if_pos h1, if_neg (by omega), if_pos (by omega), if_pos (by omega), rd_nth]
   by_cases h2 : nth l ((i + l.length - 1) % l.length) = g
   ·rw [if_pos h2, if_neg (fun h => h.2 h2)]
    rfl
   ·rw [if_neg h2, if_pos ⟨h1, h2⟩, up1 _ (by omega)]
  ·rw [if_neg h1, if_neg (fun h => h1 h.1)]
   rfl
def wholeB (p g : List Int) (left : List Bool) (z : Int) : Bool := decide (begN (lets p g left p.length) z (lets p g left p.length).length ≤ 1)
theorem whole_l0 (n : Nat) (hn : n ≤ 1000) (p g : List Int) (left : List Bool) (z : Int) (hp : p.length = 2 * n + 2) (hr : ∀ q, 0 ≤ nth p q ∧ nth p q < 2 * (n : Int) + 2) (hg : g.length = n + 1) (hgr : ∀ q, 0 ≤ nth g q ∧ nth g q < left.length) : ∀ d i : Nat, i + d = p.length → Ev (fun k => bibelotref07_whole.l0 k g left z p (lets p g left i) (i : Int)) (wholeB p g left z)
 | 0, i, h => by
  have e : i = p.length := by omega
  subst e
  have hle := lets_le p g left p.length
  refine Ev.step (fun k => ?_) (whole_l1 z (lets p g left p.length) (by omega) (lets p g left p.length).length 0 (by omega))
  rw [bibelotref07_whole.l0, if_neg (by omega)]
  rfl
 | d + 1, i, h => by
  have ih := whole_l0 n hn p g left z hp hr hg hgr d (i + 1) (by omega)
  have hv := hr i
  have hgv := hgr ((nth p i).toNat / 2)
  have hle := lets_le p g left i
  rw [lets_succ p g left (by omega)] at ih
  refine Ev.step (fun k => ?_) ih
  rw [bibelotref07_whole.l0, if_pos (by omega), if_pos (by omega), rd_nth, half_eq hv.1 (by omega), if_pos (by omega), if_pos (by omega), rd_nth, if_pos (by omega), if_pos (by omega), up1 i (by omega)]
  unfold rdOf
  by_cases e : left.getD (nth g ((nth p i).toNat / 2)).toNat false = true
  ·rw [if_pos e, if_pos e, if_pos (by omega)]
  ·rw [if_neg e, if_neg e]
theorem whole_ev {s : List Int} (hn : s.length ≤ 40) (hm : ∀ x, x ∈ s → x ≠ 0 ∧ -(s.length : Int) ≤ x ∧ x ≤ s.length) (hs : Smalls s) {g : List Int} {left : List Bool} (hg : g.length = s.length + 1) (hgr : ∀ q, 0 ≤ nth g q ∧ nth g q < left.length) (z : Int) : Ev (fun k => bibelotref07_whole.f k s g left z) (wholeB (picL s) g left z) := by
 unfold bibelotref07_whole.f
 refine Ev.bind (rpicture_ev s (by omega) hs) ?_
 exact whole_l0 s.length (by omega) (picL s) g left z (picL_len s) (picL_range s hm) hg hgr (picL s).length 0 (by omega)
end Go.Proofs.Ytepjhdblmghckaa.G


namespace Go.Proofs.Ytepjhdblmghckaa.G
open Go.Proofs.Ytepjhdblmghckaa.Q Go.Proofs.Ytepjhdblmghckaa.K Go.Proofs.Ytepjhdblmghckaa.Bf
open Go.RowKit Go.Proofs.YtepjhdblmghckaaW.PrintWords Go.Proofs.YtepjhdblmghckaaW.PrintLast Go.Proofs.YtepjhdblmghckaaW.PrintMore
set_option linter.unusedVariables false
def crossE (pl : List Int) (i k : Nat) : List (Nat × Nat) := ((List.range k).filter (fun q => crossD (linOf pl i) (linOf pl q))).map (fun q => (i, q))
def allE (pl : List Int) (i : Nat) : List (Nat × Nat) := (List.range i).flatMap (fun i => crossE pl i i)
theorem crossE_succ (pl : List Int) (i k : Nat) : crossE pl i (k + 1) = if crossD (linOf pl i) (linOf pl k) = true then crossE pl i k ++ [(i, k)] else crossE pl i k := by
 unfold crossE
 rw [List.range_succ, List.filter_append]
 by_cases h : crossD (linOf pl i) (linOf pl k) = true
 ·rw [if_pos h]; simp [h]
 ·rw [if_neg h]; simp [h]
theorem allE_succ (pl : List Int) (i : Nat) : allE pl (i + 1) = allE pl i ++ crossE pl i i := by unfold allE; rw [List.range_succ, List.flatMap_append, List.flatMap_singleton]
section
variable (s pl c : List Int) (m : Nat) (hm : m ≤ 1000) (hc : c.length = m) (res : Int × Int × Int × Bool)
include hm hc
theorem com_l1 (i : Nat) (hi : i < m) (cont : Ev (fun k => bibelotref07_Components.l0 k s (linTo pl m) c (mergeL (allE pl (i + 1)) c) ((i + 1 : Nat) : Int)) res) :
  ∀ d k : Nat, k + d = i → Ev (fun kk => bibelotref07_Components.l1 kk s (linTo pl m) c (mergeL (allE pl i ++ crossE pl i k) c) (i : Int) (k : Int)) res
 | 0, k, h => by
  have e : k = i := by omega
  subst e
  rw [← allE_succ]
  refine Ev.step (fun kk => ?_) cont
  rw [bibelotref07_Components.l1, if_neg (by omega), up1 k (by omega)]
 | d + 1, k, h => by
  have ih := com_l1 i hi cont d (k + 1) (by omega)
  have hl := linTo_len pl m
  rw [crossE_succ] at ih
  by_cases hx : crossD (linOf pl i) (linOf pl k) = true
  ·rw [if_pos hx, ← List.append_assoc, mergeL_snoc] at ih
   have hj := joined_ev (g := mergeL (allE pl i ++ crossE pl i k) c) (a := i) (b := k) (by rw [mergeL_len]; omega) (by rw [mergeL_len]; omega) (by rw [mergeL_len]; omega)
   refine Ev.step (fun kk => ?_) (Ev.bind (f := fun kk t => bibelotref07_Components.l1 kk s (linTo pl m) c t (i : Int) ((k + 1 : Nat) : Int)) hj ih)
   rw [bibelotref07_Components.l1, if_pos (by omega), if_pos (by omega), if_pos (by omega), if_pos (by omega), if_pos (by omega), rd_lin (by omega), rd_lin (by omega), cross_f, Option.bind_some, if_pos hx, up1 k (by omega)]
  ·rw [if_neg hx] at ih
   refine Ev.step (fun kk => ?_) ih
   rw [bibelotref07_Components.l1, if_pos (by omega), if_pos (by omega), if_pos (by omega), if_pos (by omega), if_pos (by omega), rd_lin (by omega), rd_lin (by omega), cross_f, Option.bind_some, if_neg hx, up1 k (by omega)]
theorem com_l0 (cont : Ev (fun k => bibelotref07_Components.l2 k s (linTo pl m) c (mergeL (allE pl m) c) (m : Int) (List.replicate m false) (List.replicate m false) 0) res) :
  ∀ d i : Nat, i + d = m → Ev (fun kk => bibelotref07_Components.l0 kk s (linTo pl m) c (mergeL (allE pl i) c) (i : Int)) res
 | 0, i, h => by
  have e : i = m := by omega
  subst e
  have hl := linTo_len pl i
  refine Ev.step (fun kk => ?_) cont
  rw [bibelotref07_Components.l0, if_neg (by omega), if_pos (by omega), if_pos (by omega), hl]
  rfl
 | d + 1, i, h => by
  have ih := com_l0 cont d (i + 1) (by omega)
  have hl := linTo_len pl m
  have h1 := com_l1 s pl c m hm hc res i (by omega) ih i 0 (by omega)
  refine Ev.step (fun kk => ?_) h1
  rw [bibelotref07_Components.l0, if_pos (by omega)]
  simp [crossE]
end
def flg (m : Nat) (f : Nat → Bool) : List Bool := (List.range m).map f
theorem flg_len (m : Nat) (f : Nat → Bool) : (flg m f).length = m := by simp [flg]
theorem flg_at {m q : Nat} (f : Nat → Bool) (h : q < m) : (flg m f).getD q false = f q := by simp [flg, h]
theorem flg_of {m : Nat} {f : Nat → Bool} {l : List Bool} (hl : l.length = m) (h : ∀ q, q < m → (l.getD q false = true ↔ f q = true)) : l = flg m f := by
 apply List.ext_getElem (by rw [hl, flg_len])
 intro q h1 h2
 have e1 : l[q] = l.getD q false := by simp [List.getD_eq_getElem?_getD, h1]
 have e2 : (flg m f)[q] = f q := by simp [flg]
 rw [e1, e2]
 have := h q (by omega)
 cases hx : l.getD q false <;> cases hy : f q <;> simp_all
theorem set_at (l : List Bool) (k q : Nat) (b : Bool) (h : k < l.length) : (l.set k b).getD q false = if q = k then b else l.getD q false := by
 rw [List.getD_eq_getElem?_getD, List.getD_eq_getElem?_getD, List.getElem?_set]
 by_cases e : q = k
 ·rw [if_pos e, if_pos e.symm, if_pos h]; rfl
 ·rw [if_neg e, if_neg (fun h => e h.symm)]
def isG (g : List Int) (i q : Nat) : Bool := (List.range i).any (fun j => decide ((nth g j).toNat = q))
def twoG (c g : List Int) (i q : Nat) : Bool := (List.range i).any (fun j => decide ((nth g j).toNat = q) && (List.range j).any (fun k => decide (nth c j = nth c k)))
def evenL (pl : List Int) (j : Nat) : Bool := decide (((linOf pl j).f0 + (linOf pl j).f1).tmod 2 = 0)
def turnG (pl g : List Int) (i q : Nat) : Bool := (List.range i).any (fun j => decide ((nth g j).toNat = q) && evenL pl j)
def badG (pl c g : List Int) (m q : Nat) : Bool := twoG c g m q && !turnG pl g m q
theorem isG_succ (g : List Int) (i q : Nat) : isG g (i + 1) q = (isG g i q || decide ((nth g i).toNat = q)) := by unfold isG; rw [List.range_succ, List.any_append]; simp
theorem twoG_succ (c g : List Int) (i q : Nat) : twoG c g (i + 1) q = (twoG c g i q || (decide ((nth g i).toNat = q) && (List.range i).any (fun k => decide (nth c i = nth c k)))) := by unfold twoG; rw [List.range_succ, List.any_append]; simp
theorem turnG_succ (pl g : List Int) (i q : Nat) : turnG pl g (i + 1) q = (turnG pl g i q || (decide ((nth g i).toNat = q) && evenL pl i)) := by unfold turnG; rw [List.range_succ, List.any_append]; simp
theorem any_succ (f : Nat → Bool) (k : Nat) : (List.range (k + 1)).any f = ((List.range k).any f || f k) := by rw [List.range_succ, List.any_append]; simp
section
variable (s pl c g : List Int) (m : Nat) (hm : m ≤ 1000) (hc : c.length = m) (hg : g.length = m) (hgr : ∀ q, q < m → 0 ≤ nth g q ∧ nth g q < (m : Int)) (res : Int × Int × Int × Bool)
include hm hc hg hgr
theorem com_l3 (i : Nat) (hi : i < m) (cont : Ev (fun k => bibelotref07_Components.l2 k s (linTo pl m) c g (m : Int) (flg m (isG g (i + 1))) (flg m (twoG c g (i + 1))) ((i + 1 : Nat) : Int)) res) :
  ∀ d k : Nat, k + d = i → Ev (fun kk => bibelotref07_Components.l3 kk s (linTo pl m) c g (m : Int) (flg m (isG g (i + 1))) (flg m (fun q => twoG c g i q || (decide ((nth g i).toNat = q) && (List.range k).any (fun k => decide (nth c i = nth c k))))) (i : Int) (k : Int)) res
 | 0, k, h => by
  have e : k = i := by omega
  subst e
  have hf : flg m (fun q => twoG c g k q || (decide ((nth g k).toNat = q) && (List.range k).any (fun q => decide (nth c k = nth c q)))) = flg m (twoG c g (k + 1)) := congrArg (flg m) (funext fun q => (twoG_succ c g k q).symm)
  rw [hf]
  refine Ev.step (fun kk => ?_) cont
  rw [bibelotref07_Components.l3, if_neg (by omega), up1 k (by omega)]
 | d + 1, k, h => by
  have ih := com_l3 i hi cont d (k + 1) (by omega)
  have hv := hgr i hi
  have hfl := flg_len m (fun q => twoG c g i q || (decide ((nth g i).toNat = q) && (List.range k).any (fun k => decide (nth c i = nth c k))))
  by_cases e : nth c i = nth c k
  ·have hf : (flg m (fun q => twoG c g i q || (decide ((nth g i).toNat = q) && (List.range k).any (fun k => decide (nth c i = nth c k))))).set (nth g i).toNat true = flg m (fun q => twoG c g i q || (decide ((nth g i).toNat = q) && (List.range (k + 1)).any (fun k => decide (nth c i = nth c k)))) := by
    refine flg_of (by rw [List.length_set, hfl]) (fun q hq => ?_)
    rw [set_at _ _ _ _ (by omega), flg_at _ hq, any_succ]
    by_cases eq : q = (nth g i).toNat
    ·rw [if_pos eq]; simp [eq, e]
    ·rw [if_neg eq]
     have : decide ((nth g i).toNat = q) = false := decide_eq_false (fun h => eq h.symm)
     simp [this]
   rw [← hf] at ih
   refine Ev.step (fun kk => ?_) ih
   rw [bibelotref07_Components.l3, if_pos (by omega), if_pos (by omega), if_pos (by omega), if_pos (by omega), if_pos (by omega), rd_nth, rd_nth, if_pos e, if_pos (by omega), rd_nth, if_pos (by omega), if_pos (by omega), up1 k (by omega)]
  ·have hf : flg m (fun q => twoG c g i q || (decide ((nth g i).toNat = q) && (List.range k).any (fun k => decide (nth c i = nth c k)))) = flg m (fun q => twoG c g i q || (decide ((nth g i).toNat = q) && (List.range (k + 1)).any (fun k => decide (nth c i = nth c k)))) := by
    refine congrArg (flg m) (funext fun q => ?_)
    rw [any_succ]; simp [e]
   rw [← hf] at ih
   refine Ev.step (fun kk => ?_) ih
   rw [bibelotref07_Components.l3, if_pos (by omega), if_pos (by omega), if_pos (by omega), if_pos (by omega), if_pos (by omega), rd_nth, rd_nth, if_neg e, up1 k (by omega)]
theorem com_l2 (cont : Ev (fun k => bibelotref07_Components.l4 k s (linTo pl m) g (m : Int) (flg m (isG g m)) (flg m (twoG c g m)) 0) res) :
  ∀ d i : Nat, i + d = m → Ev (fun kk => bibelotref07_Components.l2 kk s (linTo pl m) c g (m : Int) (flg m (isG g i)) (flg m (twoG c g i)) (i : Int)) res
 | 0, i, h => by
  have e : i = m := by omega
  subst e
  refine Ev.step (fun kk => ?_) cont
  rw [bibelotref07_Components.l2, if_neg (by omega)]
 | d + 1, i, h => by
  have ih := com_l2 cont d (i + 1) (by omega)
  have hv := hgr i (by omega)
  have hfl := flg_len m (isG g i)
  have h1 := com_l3 s pl c g m hm hc hg hgr res i (by omega) ih i 0 (by omega)
  have hf : (flg m (isG g i)).set (nth g i).toNat true = flg m (isG g (i + 1)) := by
   refine flg_of (by rw [List.length_set, hfl]) (fun q hq => ?_)
   rw [set_at _ _ _ _ (by omega), flg_at _ hq, isG_succ]
   by_cases eq : q = (nth g i).toNat
   ·rw [if_pos eq]; simp [eq]
   ·rw [if_neg eq]
    have : decide ((nth g i).toNat = q) = false := decide_eq_false (fun h => eq h.symm)
    simp [this]
  have hf2 : flg m (fun q => twoG c g i q || (decide ((nth g i).toNat = q) && (List.range 0).any (fun k => decide (nth c i = nth c k)))) = flg m (twoG c g i) := congrArg (flg m) (funext fun q => by simp)
  rw [hf2, ← hf] at h1
  refine Ev.step (fun kk => ?_) h1
  rw [bibelotref07_Components.l2, if_pos (by omega), if_pos (by omega), if_pos (by omega), rd_nth, if_pos (by omega), if_pos (by omega)]
  rfl
theorem com_l4 (hpl : ∀ q, 0 ≤ nth pl q ∧ nth pl q ≤ 1000000) (cont : Ev (fun k => bibelotref07_Components.l5 k s g (m : Int) (flg m (isG g m)) (flg m (badG pl c g m)) (List.replicate m false) 0 0 0 0 false) res) :
  ∀ d i : Nat, i + d = m → Ev (fun kk => bibelotref07_Components.l4 kk s (linTo pl m) g (m : Int) (flg m (isG g m)) (flg m (fun q => twoG c g m q && !turnG pl g i q)) (i : Int)) res
 | 0, i, h => by
  have e : i = m := by omega
  subst e
  refine Ev.step (fun kk => ?_) cont
  rw [bibelotref07_Components.l4, if_neg (by omega), if_pos (by omega), if_pos (by omega)]
  rfl
 | d + 1, i, h => by
  have ih := com_l4 hpl cont d (i + 1) (by omega)
  have hv := hgr i (by omega)
  have hl := linTo_len pl m
  have hfl := flg_len m (fun q => twoG c g m q && !turnG pl g i q)
  have hs1 : 0 ≤ (linOf pl i).f0 ∧ (linOf pl i).f0 ≤ 1000000 ∧ 0 ≤ (linOf pl i).f1 ∧ (linOf pl i).f1 ≤ 1000000 := by
   have a := hpl (2 * i)
   have b := hpl (2 * i + 1)
   unfold linOf spanOf
   dsimp only
   omega
  have ew : wrap64 ((linOf pl i).f0 + (linOf pl i).f1) = (linOf pl i).f0 + (linOf pl i).f1 := w64 (by omega) (by omega)
  by_cases e : ((linOf pl i).f0 + (linOf pl i).f1).tmod 2 = 0
  ·have hf : (flg m (fun q => twoG c g m q && !turnG pl g i q)).set (nth g i).toNat false = flg m (fun q => twoG c g m q && !turnG pl g (i + 1) q) := by
    refine flg_of (by rw [List.length_set, hfl]) (fun q hq => ?_)
    have he : evenL pl i = true := decide_eq_true e
    rw [set_at _ _ _ _ (by omega), flg_at _ hq, turnG_succ]
    by_cases eq : q = (nth g i).toNat
    ·rw [if_pos eq]; simp [eq, he]
    ·rw [if_neg eq]
     have : decide ((nth g i).toNat = q) = false := decide_eq_false (fun h => eq h.symm)
     simp [this]
   rw [← hf] at ih
   refine Ev.step (fun kk => ?_) ih
   rw [bibelotref07_Components.l4, if_pos (by omega), if_pos (by omega), if_pos (by omega), rd_lin (by omega), ew, if_pos e, if_pos (by omega), rd_nth, if_pos (by omega), if_pos (by omega), up1 i (by omega)]
  ·have hf : flg m (fun q => twoG c g m q && !turnG pl g i q) = flg m (fun q => twoG c g m q && !turnG pl g (i + 1) q) := by
    refine congrArg (flg m) (funext fun q => ?_)
    have he : evenL pl i = false := decide_eq_false e
    rw [turnG_succ]; simp [he]
   rw [← hf] at ih
   refine Ev.step (fun kk => ?_) ih
   rw [bibelotref07_Components.l4, if_pos (by omega), if_pos (by omega), if_pos (by omega), rd_lin (by omega), ew, if_neg e, up1 i (by omega)]
end
end Go.Proofs.Ytepjhdblmghckaa.G


namespace Go.Proofs.Ytepjhdblmghckaa.G
open Go.Proofs.Ytepjhdblmghckaa.Q Go.Proofs.Ytepjhdblmghckaa.K Go.Proofs.Ytepjhdblmghckaa.Bf
open Go.RowKit Go.Proofs.YtepjhdblmghckaaW.PrintWords Go.Proofs.YtepjhdblmghckaaW.PrintLast Go.Proofs.YtepjhdblmghckaaW.PrintMore
set_option linter.unusedVariables false
def cntB (f : Nat → Bool) (k : Nat) : Nat := (List.range k).countP f
theorem cntB_succ (f : Nat → Bool) (k : Nat) : cntB f (k + 1) = cntB f k + if f k = true then 1 else 0 := by unfold cntB; rw [List.range_succ, List.countP_append, List.countP_singleton]
theorem cntB_le (f : Nat → Bool) (k : Nat) : cntB f k ≤ k := Nat.le_trans List.countP_le_length (by simp)
def hurG (p g : List Int) (m : Nat) (bad : Nat → Bool) (q : Nat) : Bool := bad q && wholeB p g (flg m bad) (q : Int)
def lessG (bad : Nat → Bool) (i q : Nat) : Bool := bad q && !decide (q = i)
def newG (p g : List Int) (m : Nat) (bad : Nat → Bool) (i k : Nat) : Bool := lessG bad i k && !hurG p g m bad k && wholeB p g (flg m (lessG bad i)) (k : Int)
def superG (p g : List Int) (m : Nat) (bad : Nat → Bool) (i k : Nat) : Bool := (List.range k).any (newG p g m bad i)
def fortG (p g : List Int) (m : Nat) (bad : Nat → Bool) : Nat → Bool
 | 0 => decide (cntB (hurG p g m bad) m % 2 = 1)
 | i + 1 => if hurG p g m bad i = true then fortG p g m bad i && superG p g m bad i m else fortG p g m bad i
theorem hur_set (p g : List Int) (m : Nat) (bad : Nat → Bool) (i : Nat) (hi : i < m) (b : Bool) (hb : hurG p g m bad i = b) : (flg m (fun q => decide (q < i) && hurG p g m bad q)).set i b = flg m (fun q => decide (q < i + 1) && hurG p g m bad q) := by
 have hl := flg_len m (fun q => decide (q < i) && hurG p g m bad q)
 refine flg_of (by rw [List.length_set, hl]) (fun q hq => ?_)
 rw [set_at _ _ _ _ (by omega), flg_at _ hq]
 by_cases eq : q = i
 ·rw [if_pos eq, eq, hb]; simp
 ·rw [if_neg eq]
  by_cases h1 : q < i
  ·simp [h1, show q < i + 1 by omega]
  ·simp [h1, show ¬ q < i + 1 by omega]
section
variable (s p g : List Int) (m : Nat) (hm : m ≤ 1000) (hg : g.length = m) (is_ bad : Nat → Bool)
 (W : ∀ (f : Nat → Bool) (z : Int), Ev (fun k => bibelotref07_whole.f k s g (flg m f) z) (wholeB p g (flg m f) z)) (res : Int × Int × Int × Bool)
include hm hg W
theorem com_l7 (i : Nat) (hi : i < m) (b : Bool) (A B C : Int) (cont : Ev (fun k => bibelotref07_Components.l6 k s g (m : Int) (flg m bad) (flg m (hurG p g m bad)) ((i + 1 : Nat) : Int) A B C (b && superG p g m bad i m)) res) :
  ∀ d k : Nat, k + d = m → Ev (fun kk => bibelotref07_Components.l7 kk s g (m : Int) (flg m bad) (flg m (hurG p g m bad)) (i : Int) (flg m (lessG bad i)) (superG p g m bad i k) (k : Int) A B C b) res
 | 0, k, h => by
  have e : k = m := by omega
  subst e
  refine Ev.step (fun kk => ?_) cont
  rw [bibelotref07_Components.l7, if_neg (by omega), up1 i (by omega)]
  cases b
  ·rw [if_neg (by decide), Bool.false_and]
  ·rw [if_pos rfl, Bool.true_and]
 | d + 1, k, h => by
  have ih := com_l7 i hi b A B C cont d (k + 1) (by omega)
  have hl1 := flg_len m (lessG bad i)
  have hl2 := flg_len m (hurG p g m bad)
  have hsu : superG p g m bad i (k + 1) = (superG p g m bad i k || newG p g m bad i k) := by unfold superG; exact any_succ _ _
  rw [hsu] at ih
  by_cases e0 : superG p g m bad i k = true
  ·rw [e0, Bool.true_or] at ih
   refine Ev.step (fun kk => ?_) ih
   rw [bibelotref07_Components.l7, if_pos (by omega), if_pos e0, up1 k (by omega)]
  ·rw [Bool.eq_false_iff.2 e0, Bool.false_or] at ih
   have hkl : (k : Int).toNat = k := Int.toNat_natCast k
   have a1 : rdOf false (flg m (lessG bad i)) (k : Int) = lessG bad i k := by unfold rdOf; rw [hkl]; exact flg_at _ (by omega)
   have a2 : rdOf false (flg m (hurG p g m bad)) (k : Int) = hurG p g m bad k := by unfold rdOf; rw [hkl]; exact flg_at _ (by omega)
   by_cases e1 : lessG bad i k = true
   ·by_cases e2 : hurG p g m bad k = true
    ·have en : newG p g m bad i k = false := by unfold newG; rw [e2]; simp
     rw [en] at ih
     refine Ev.step (fun kk => ?_) ih
     rw [bibelotref07_Components.l7, if_pos (by omega), if_neg e0, if_pos (by omega), if_pos (by omega), a1, if_pos e1, if_pos (by omega), a2, if_pos e2, up1 k (by omega)]
    ·have en : newG p g m bad i k = wholeB p g (flg m (lessG bad i)) (k : Int) := by unfold newG; rw [e1, Bool.eq_false_iff.2 e2]; simp
     rw [en] at ih
     refine Ev.step (fun kk => ?_) (Ev.bind (f := fun kk t => bibelotref07_Components.l7 kk s g (m : Int) (flg m bad) (flg m (hurG p g m bad)) (i : Int) (flg m (lessG bad i)) t ((k + 1 : Nat) : Int) A B C b) (W (lessG bad i) (k : Int)) ih)
     rw [bibelotref07_Components.l7, if_pos (by omega), if_neg e0, if_pos (by omega), if_pos (by omega), a1, if_pos e1, if_pos (by omega), a2, if_neg e2, up1 k (by omega)]
   ·have en : newG p g m bad i k = false := by unfold newG; rw [Bool.eq_false_iff.2 e1]; simp
    rw [en] at ih
    refine Ev.step (fun kk => ?_) ih
    rw [bibelotref07_Components.l7, if_pos (by omega), if_neg e0, if_pos (by omega), if_pos (by omega), a1, if_neg e1, up1 k (by omega)]
theorem com_l6 (A B C : Int) : ∀ d i : Nat, i + d = m → Ev (fun kk => bibelotref07_Components.l6 kk s g (m : Int) (flg m bad) (flg m (hurG p g m bad)) (i : Int) A B C (fortG p g m bad i)) (A, B, C, fortG p g m bad m)
 | 0, i, h => by
  have e : i = m := by omega
  subst e
  refine Ev.step (f := fun _ => some (A, B, C, fortG p g i bad i)) (fun kk => ?_) (Ev.now _)
  rw [bibelotref07_Components.l6, if_neg (by omega)]
 | d + 1, i, h => by
  have ih := com_l6 A B C d (i + 1) (by omega)
  have hl2 := flg_len m (hurG p g m bad)
  have hl3 := flg_len m bad
  have a2 : rdOf false (flg m (hurG p g m bad)) (i : Int) = hurG p g m bad i := by unfold rdOf; rw [Int.toNat_natCast]; exact flg_at _ (by omega)
  by_cases e2 : hurG p g m bad i = true
  ·have ef : fortG p g m bad (i + 1) = (fortG p g m bad i && superG p g m bad i m) := by rw [fortG, if_pos e2]
   rw [ef] at ih
   have h7 := com_l7 s p g m hm hg bad W (A, B, C, fortG p g m bad m) i (by omega) (fortG p g m bad i) A B C ih m 0 (by omega)
   have es : (flg m bad).set i false = flg m (lessG bad i) := by
    refine flg_of (by rw [List.length_set, hl3]) (fun q hq => ?_)
    rw [set_at _ _ _ _ (by omega), flg_at _ hq]
    unfold lessG
    by_cases eq : q = i
    ·rw [if_pos eq]; simp [eq]
    ·rw [if_neg eq]; simp [eq]
   rw [← es] at h7
   refine Ev.step (fun kk => ?_) h7
   rw [bibelotref07_Components.l6, if_pos (by omega), if_pos (by omega), if_pos (by omega), a2, if_pos e2, if_pos (by simp only [List.length_nil]; omega), Option.bind_some, List.nil_append, if_pos (by omega), Int.toNat_natCast]
   rfl
  ·have ef : fortG p g m bad (i + 1) = fortG p g m bad i := by rw [fortG, if_neg e2]
   rw [ef] at ih
   refine Ev.step (fun kk => ?_) ih
   rw [bibelotref07_Components.l6, if_pos (by omega), if_pos (by omega), if_pos (by omega), a2, if_neg e2, up1 i (by omega)]
theorem com_j6 (i : Nat) (hi : i < m) (A : Int) (cont : Ev (fun k => bibelotref07_Components.l5 k s g (m : Int) (flg m is_) (flg m bad) (flg m (fun q => decide (q < i + 1) && hurG p g m bad q)) ((i + 1 : Nat) : Int) A ((cntB bad (i + 1) : Nat) : Int) ((cntB (hurG p g m bad) (i + 1) : Nat) : Int) false) res) :
  Ev (fun kk => bibelotref07_Components.j6 kk s g (m : Int) (flg m is_) (flg m bad) (flg m (fun q => decide (q < i) && hurG p g m bad q)) (i : Int) A ((cntB bad i : Nat) : Int) ((cntB (hurG p g m bad) i : Nat) : Int) false) res := by
 have hl1 := flg_len m bad
 have hl2 := flg_len m (fun q => decide (q < i) && hurG p g m bad q)
 have b1 := cntB_le bad i
 have b2 := cntB_le (hurG p g m bad) i
 have a1 : rdOf false (flg m bad) (i : Int) = bad i := by unfold rdOf; rw [Int.toNat_natCast]; exact flg_at _ (by omega)
 have a3 : rdOf false (flg m (fun q => decide (q < i + 1) && hurG p g m bad q)) (i : Int) = hurG p g m bad i := by unfold rdOf; rw [Int.toNat_natCast, flg_at _ (by omega)]; simp
 rw [cntB_succ, cntB_succ] at cont
 by_cases e1 : bad i = true
 ·have eh : hurG p g m bad i = wholeB p g (flg m bad) (i : Int) := by unfold hurG; rw [e1, Bool.true_and]
  have hset := hur_set p g m bad i hi _ eh
  refine Ev.step (f := fun kk => (bibelotref07_whole.f kk s g (flg m bad) (i : Int)).bind (fun t => if (i : Int) < ((flg m (fun q => decide (q < i) && hurG p g m bad q)).length : Int) then ((some ((flg m (fun q => decide (q < i) && hurG p g m bad q)).set (i : Int).toNat t : List Bool)).bind fun y229 => (if rdOf false y229 (i : Int) = true then (bibelotref07_Components.l5 kk s g (m : Int) (flg m is_) (flg m bad) y229 (wrap64 ((i : Int) + 1)) A (wrap64 (((cntB bad i : Nat) : Int) + 1)) (wrap64 (((cntB (hurG p g m bad) i : Nat) : Int) + 1)) false) else (bibelotref07_Components.l5 kk s g (m : Int) (flg m is_) (flg m bad) y229 (wrap64 ((i : Int) + 1)) A (wrap64 (((cntB bad i : Nat) : Int) + 1)) ((cntB (hurG p g m bad) i : Nat) : Int) false))) else none)) (fun kk => ?_) (Ev.bind (W bad (i : Int)) ?_)
  ·rw [bibelotref07_Components.j6, if_pos (by omega), if_pos (by omega), a1, if_pos e1]
  ·refine Ev.congr (fun kk => ?_) cont
   rw [if_pos (by omega), Option.bind_some, Int.toNat_natCast, hset, a3, up1 i (by omega), up1 _ (by omega), if_pos e1]
   by_cases e2 : hurG p g m bad i = true
   ·rw [if_pos e2, if_pos e2, up1 _ (by omega)]
   ·rw [if_neg e2, if_neg e2]
    rfl
 ·have eh : hurG p g m bad i = false := by unfold hurG; rw [Bool.eq_false_iff.2 e1, Bool.false_and]
  have hset := hur_set p g m bad i hi _ eh
  rw [if_neg e1, eh, if_neg (by decide)] at cont
  refine Ev.step (fun kk => ?_) cont
  rw [bibelotref07_Components.j6, if_pos (by omega), if_pos (by omega), a1, if_neg e1, if_pos (by omega), Option.bind_some, Int.toNat_natCast, hset, a3, eh, if_neg (by decide), up1 i (by omega)]
  rfl
theorem com_l5 (hfin : Ev (fun k => bibelotref07_Components.l6 k s g (m : Int) (flg m bad) (flg m (hurG p g m bad)) 0 ((cntB is_ m : Nat) : Int) ((cntB bad m : Nat) : Int) ((cntB (hurG p g m bad) m : Nat) : Int) (fortG p g m bad 0)) res) :
  ∀ d i : Nat, i + d = m → Ev (fun kk => bibelotref07_Components.l5 kk s g (m : Int) (flg m is_) (flg m bad) (flg m (fun q => decide (q < i) && hurG p g m bad q)) (i : Int) ((cntB is_ i : Nat) : Int) ((cntB bad i : Nat) : Int) ((cntB (hurG p g m bad) i : Nat) : Int) false) res
 | 0, i, h => by
  have e : i = m := by omega
  subst e
  have hf : flg i (fun q => decide (q < i) && hurG p g i bad q) = flg i (hurG p g i bad) := by
   unfold flg
   refine List.map_congr_left (fun q hq => ?_)
   rw [List.mem_range] at hq
   simp [hq]
  have hb : (Int.tmod ((cntB (hurG p g i bad) i : Nat) : Int) 2 == 1) = fortG p g i bad 0 := by
   unfold fortG
   rw [Int.tmod_eq_emod_of_nonneg (by omega)]
   by_cases h1 : cntB (hurG p g i bad) i % 2 = 1
   ·rw [decide_eq_true h1]; exact beq_iff_eq.2 (by omega)
   ·rw [decide_eq_false h1]; exact beq_eq_false_iff_ne.2 (by omega)
  rw [← hb] at hfin
  rw [hf]
  refine Ev.step (fun kk => ?_) hfin
  rw [bibelotref07_Components.l5, if_neg (by omega)]
 | d + 1, i, h => by
  have ih := com_l5 hfin d (i + 1) (by omega)
  have hl := flg_len m is_
  have b1 := cntB_le is_ i
  have a1 : rdOf false (flg m is_) (i : Int) = is_ i := by unfold rdOf; rw [Int.toNat_natCast]; exact flg_at _ (by omega)
  rw [cntB_succ is_] at ih
  by_cases e : is_ i = true
  ·rw [if_pos e] at ih
   refine Ev.step (fun kk => ?_) (com_j6 s p g m hm hg is_ bad W res i (by omega) _ ih)
   rw [bibelotref07_Components.l5, if_pos (by omega), if_pos (by omega), if_pos (by omega), a1, if_pos e, up1 _ (by omega)]
  ·rw [if_neg e] at ih
   refine Ev.step (fun kk => ?_) (com_j6 s p g m hm hg is_ bad W res i (by omega) _ ih)
   rw [bibelotref07_Components.l5, if_pos (by omega), if_pos (by omega), if_pos (by omega), a1, if_neg e]
   rfl
end
def grpL (s : List Int) : List Int := mergeL (allE (plL s) (s.length + 1)) (rndL s)
def badD (s : List Int) : Nat → Bool := badG (plL s) (rndL s) (grpL s) (s.length + 1)
def comD (s : List Int) : Int × Int × Int × Bool := (((cntB (isG (grpL s) (s.length + 1)) (s.length + 1) : Nat) : Int), ((cntB (badD s) (s.length + 1) : Nat) : Int), ((cntB (hurG (picL s) (grpL s) (s.length + 1) (badD s)) (s.length + 1) : Nat) : Int), fortG (picL s) (grpL s) (s.length + 1) (badD s) (s.length + 1))
theorem mergeL_in {N : Nat} : ∀ (E : List (Nat × Nat)) {g : List Int}, (∀ q, 0 ≤ nth g q ∧ nth g q < (N : Int)) → ∀ q, 0 ≤ nth (mergeL E g) q ∧ nth (mergeL E g) q < (N : Int)
 | [], _, h, q => h q
 | e :: E, g, h, q => mergeL_in E (g := joinN g e.1 e.2) (fun q => by
   by_cases hq : q < g.length
   ·rw [nth_joinN _ _ hq]
    split
    ·exact h _
    ·exact h _
   ·rw [nth_end _ _ (by rw [joinN_len]; omega)]
    have := h q
    rw [nth_end _ _ (by omega)] at this
    exact this) q
theorem idL_in (n : Nat) (q : Nat) : 0 ≤ nth (idL (n + 1)) q ∧ nth (idL (n + 1)) q < ((n + 1 : Nat) : Int) := by
 by_cases h : q < n + 1
 ·rw [nth_idL h]; omega
 ·rw [nth_end _ _ (by rw [idL_len]; omega)]; omega
theorem rndL_in (s : List Int) (q : Nat) : 0 ≤ nth (rndL s) q ∧ nth (rndL s) q < ((s.length + 1 : Nat) : Int) := by
 unfold rndL rndTo
 exact mergeL_in _ (idL_in s.length) q
theorem grpL_in (s : List Int) (q : Nat) : 0 ≤ nth (grpL s) q ∧ nth (grpL s) q < ((s.length + 1 : Nat) : Int) := mergeL_in _ (rndL_in s) q
theorem grpL_len (s : List Int) : (grpL s).length = s.length + 1 := by unfold grpL; rw [mergeL_len, rndL_len]
theorem rcomponents_ev {s : List Int} (hn : s.length ≤ 40) (hm : ∀ x, x ∈ s → x ≠ 0 ∧ -(s.length : Int) ≤ x ∧ x ≤ s.length) (hs : Smalls s) : Ev (fun k => bibelotref07_Components.f k s) (comD s) := by
 unfold bibelotref07_Components.f
 refine Ev.bind (lines_ev hn hm hs) (Ev.bind (round_ev hn hm hs) (Ev.bind (round_ev hn hm hs) ?_))
 have hc := rndL_len s
 have hg := grpL_len s
 have hgr := grpL_in s
 have W : ∀ (f : Nat → Bool) (z : Int), Ev (fun k => bibelotref07_whole.f k s (grpL s) (flg (s.length + 1) f) z) (wholeB (picL s) (grpL s) (flg (s.length + 1) f) z) := fun f z => whole_ev hn hm hs hg (fun q => by rw [flg_len]; exact hgr q) z
 have h6 := com_l6 s (picL s) (grpL s) (s.length + 1) (by omega) hg (badD s) W ((cntB (isG (grpL s) (s.length + 1)) (s.length + 1) : Nat) : Int) ((cntB (badD s) (s.length + 1) : Nat) : Int) ((cntB (hurG (picL s) (grpL s) (s.length + 1) (badD s)) (s.length + 1) : Nat) : Int) (s.length + 1) 0 (by omega)
 have h5 := com_l5 s (picL s) (grpL s) (s.length + 1) (by omega) hg (isG (grpL s) (s.length + 1)) (badD s) W (comD s) h6 (s.length + 1) 0 (by omega)
 have ef : flg (s.length + 1) (fun q => decide (q < 0) && hurG (picL s) (grpL s) (s.length + 1) (badD s) q) = List.replicate (s.length + 1) false := (flg_of (by simp) (fun q hq => by
  rw [List.getD_eq_getElem?_getD, List.getElem?_replicate, if_pos hq]; simp)).symm
 rw [ef] at h5
 have h4 := com_l4 s (plL s) (rndL s) (grpL s) (s.length + 1) (by omega) hc hg (fun q _ => hgr q) (comD s) (fun q => by have := plL_range s q; omega) h5 (s.length + 1) 0 (by omega)
 have ef2 : flg (s.length + 1) (fun q => twoG (rndL s) (grpL s) (s.length + 1) q && !turnG (plL s) (grpL s) 0 q) = flg (s.length + 1) (twoG (rndL s) (grpL s) (s.length + 1)) := congrArg (flg _) (funext fun q => by unfold turnG; simp)
 rw [ef2] at h4
 have h2 := com_l2 s (plL s) (rndL s) (grpL s) (s.length + 1) (by omega) hc hg (fun q _ => hgr q) (comD s) h4 (s.length + 1) 0 (by omega)
 have ef3 : flg (s.length + 1) (isG (grpL s) 0) = List.replicate (s.length + 1) false := (flg_of (by simp) (fun q hq => by
  rw [List.getD_eq_getElem?_getD, List.getElem?_replicate, if_pos hq]; simp [isG])).symm
 have ef4 : flg (s.length + 1) (twoG (rndL s) (grpL s) 0) = List.replicate (s.length + 1) false := (flg_of (by simp) (fun q hq => by
  rw [List.getD_eq_getElem?_getD, List.getElem?_replicate, if_pos hq]; simp [twoG])).symm
 rw [ef3, ef4] at h2
 exact com_l0 s (plL s) (rndL s) (s.length + 1) (by omega) hc (comD s) h2 (s.length + 1) 0 (by omega)
def disD (s : List Int) : Int := (s.length : Int) + 1 - ((clsTo (rndL s) (s.length + 1)).length : Int) + (comD s).2.2.1 + if (comD s).2.2.2 = true then 1 else 0
theorem rdistance_ev {s : List Int} (hn : s.length ≤ 40) (hm : ∀ x, x ∈ s → x ≠ 0 ∧ -(s.length : Int) ≤ x ∧ x ≤ s.length) (hs : Smalls s) : Ev (fun k => bibelotref07_Distance.f k s) (disD s) := by
 unfold bibelotref07_Distance.f
 refine Ev.bind (rcomponents_ev hn hm hs) (Ev.bind (rcircles_ev hn hm hs) ?_)
 have h1 := clsTo_le (rndL s) (s.length + 1)
 have h2 := cntB_le (hurG (picL s) (grpL s) (s.length + 1) (badD s)) (s.length + 1)
 have e3 : (comD s).2.2.1 = ((cntB (hurG (picL s) (grpL s) (s.length + 1) (badD s)) (s.length + 1) : Nat) : Int) := rfl
 refine Ev.congr (fun k => ?_) (Ev.now (disD s))
 unfold disD
 rw [e3]
 obtain ⟨H, hH⟩ : ∃ H, cntB (hurG (picL s) (grpL s) (s.length + 1) (badD s)) (s.length + 1) = H := ⟨_, rfl⟩
 rw [hH] at h2 ⊢
 obtain ⟨C, hC⟩ : ∃ C, (clsTo (rndL s) (s.length + 1)).length = C := ⟨_, rfl⟩
 rw [hC] at h1 ⊢
 obtain ⟨n, hn'⟩ : ∃ n, s.length = n := ⟨_, rfl⟩
 rw [hn'] at h1 h2 hn ⊢
 by_cases hb : (comD s).2.2.2 = true
 ·rw [if_pos hb, if_pos hb, w64 (x := (n : Int) + 1) (by omega) (by omega), w64 (x := (n : Int) + 1 - (C : Int)) (by omega) (by omega), w64 (x := (n : Int) + 1 - (C : Int) + (H : Int)) (by omega) (by omega), w64 (by omega) (by omega)]
 ·rw [if_neg hb, if_neg hb, w64 (x := (n : Int) + 1) (by omega) (by omega), w64 (x := (n : Int) + 1 - (C : Int)) (by omega) (by omega), w64 (x := (n : Int) + 1 - (C : Int) + (H : Int)) (by omega) (by omega), Int.add_zero]
end Go.Proofs.Ytepjhdblmghckaa.G


namespace Go.Proofs.Ytepjhdblmghckaa.G
open Go.Proofs.Ytepjhdblmghckaa.Q Go.Proofs.Ytepjhdblmghckaa.K Go.Proofs.Ytepjhdblmghckaa.Bf
open Go.RowKit Go.Proofs.YtepjhdblmghckaaW.PrintWords Go.Proofs.YtepjhdblmghckaaW.PrintLast Go.Proofs.YtepjhdblmghckaaW.PrintMore
set_option linter.unusedVariables false
structure LinP (m : Nat) (pl : List Int) : Prop where
 pos : ∀ x, x < 2 * m → 0 ≤ nth pl x ∧ nth pl x ≤ 1000000
 inj : ∀ x y, x < 2 * m → y < 2 * m → nth pl x = nth pl y → x = y
theorem lin_of {n : Nat} {p pl : List Int} (hn : n ≤ 40) (P : PicP (2 * n + 2) p pl) (h0 : ∀ q, 0 ≤ nth pl q ∧ nth pl q ≤ 1000000) : LinP (n + 1) pl := by
 refine ⟨fun x _ => h0 x, fun x y hx hy h => ?_⟩
 have e1 := P.pp x (by omega)
 have e2 := P.pp y (by omega)
 rw [h, e2] at e1
 exact e1.symm
def crossN (pl : List Int) (i k : Nat) : Bool := crossD (linOf pl i) (linOf pl k)
theorem cross_plain (a b c d : Int) (hab : a ≠ b) (hcd : c ≠ d) (h1 : a ≠ c) (h2 : a ≠ d) (h3 : b ≠ c) (h4 : b ≠ d) :
  (crossD ⟨min a b, max a b⟩ ⟨min c d, max c d⟩ = true ↔ (min a b < min c d ∧ min c d < max a b ∧ max a b < max c d) ∨ (min c d < min a b ∧ min a b < max c d ∧ max c d < max a b)) := by
 show ((decide (min c d < min a b) && decide (min a b < max c d)) != (decide (min c d < max a b) && decide (max a b < max c d))) = true ↔ _
 rw [bne_iff_ne, ne_eq, Bool.eq_iff_iff, Bool.and_eq_true, Bool.and_eq_true, decide_eq_true_eq, decide_eq_true_eq, decide_eq_true_eq, decide_eq_true_eq]
 have e1 : (min a b = a ∧ max a b = b ∧ a < b) ∨ (min a b = b ∧ max a b = a ∧ b < a) := by omega
 have e2 : (min c d = c ∧ max c d = d ∧ c < d) ∨ (min c d = d ∧ max c d = c ∧ d < c) := by omega
 rcases e1 with ⟨p1, p2, p3⟩ | ⟨p1, p2, p3⟩ <;> rcases e2 with ⟨q1, q2, q3⟩ | ⟨q1, q2, q3⟩ <;> rw [p1, p2, q1, q2] <;> omega
theorem cross_self (pl : List Int) (i : Nat) : crossN pl i i = false := by
 unfold crossN crossD linOf spanOf
 simp
theorem cross_iff {m : Nat} {pl : List Int} (L : LinP m pl) {i k : Nat} (hi : i < m) (hk : k < m) : (crossN pl i k = true ↔ crossB (spanOf pl i) (spanOf pl k) = true) := by
 by_cases e : i = k
 ·subst e
  rw [cross_self]
  unfold crossB
  simp
 ·have ne : ∀ x y, x < 2 * m → y < 2 * m → x ≠ y → nth pl x ≠ nth pl y := fun x y hx hy h he => h (L.inj x y hx hy he)
  have h := cross_plain (nth pl (2 * i)) (nth pl (2 * i + 1)) (nth pl (2 * k)) (nth pl (2 * k + 1)) (ne _ _ (by omega) (by omega) (by omega)) (ne _ _ (by omega) (by omega) (by omega)) (ne _ _ (by omega) (by omega) (by omega)) (ne _ _ (by omega) (by omega) (by omega)) (ne _ _ (by omega) (by omega) (by omega)) (ne _ _ (by omega) (by omega) (by omega))
  refine Iff.trans h ?_
  unfold crossB spanOf
  simp only [Bool.and_eq_true, Bool.or_eq_true, Bool.not_eq_true', decide_eq_true_eq, Bool.and_eq_false_iff, beq_eq_false_iff_ne]
  constructor
  ·intro h
   refine ⟨?_, ?_⟩
   ·rcases h with h | h <;> exact .inl (by omega)
   ·rcases h with ⟨h1, h2, h3⟩ | ⟨h1, h2, h3⟩
    ·exact .inl ⟨⟨h1, h2⟩, h3⟩
    ·exact .inr ⟨⟨h1, h2⟩, h3⟩
  ·rintro ⟨_, ⟨⟨h1, h2⟩, h3⟩ | ⟨⟨h1, h2⟩, h3⟩⟩
   ·exact .inl ⟨h1, h2, h3⟩
   ·exact .inr ⟨h1, h2, h3⟩
theorem cross_symm {m : Nat} {pl : List Int} (L : LinP m pl) {i k : Nat} (hi : i < m) (hk : k < m) (h : crossN pl i k = true) : crossN pl k i = true := by
 by_cases e : i = k
 ·subst e; exact h
 ·have ne : ∀ x y, x < 2 * m → y < 2 * m → x ≠ y → nth pl x ≠ nth pl y := fun x y hx hy h he => h (L.inj x y hx hy he)
  have h1 := cross_plain (nth pl (2 * i)) (nth pl (2 * i + 1)) (nth pl (2 * k)) (nth pl (2 * k + 1)) (ne _ _ (by omega) (by omega) (by omega)) (ne _ _ (by omega) (by omega) (by omega)) (ne _ _ (by omega) (by omega) (by omega)) (ne _ _ (by omega) (by omega) (by omega)) (ne _ _ (by omega) (by omega) (by omega)) (ne _ _ (by omega) (by omega) (by omega))
  have h2 := cross_plain (nth pl (2 * k)) (nth pl (2 * k + 1)) (nth pl (2 * i)) (nth pl (2 * i + 1)) (ne _ _ (by omega) (by omega) (by omega)) (ne _ _ (by omega) (by omega) (by omega)) (ne _ _ (by omega) (by omega) (by omega)) (ne _ _ (by omega) (by omega) (by omega)) (ne _ _ (by omega) (by omega) (by omega)) (ne _ _ (by omega) (by omega) (by omega))
  exact h2.2 (by have := h1.1 h; omega)
structure CompG (m : Nat) (pl c g : List Int) : Prop where
 len : g.length = m
 clen : c.length = m
 same : ∀ i k, i < m → k < m → nth c i = nth c k → nth g i = nth g k
 cross : ∀ i k, i < m → k < m → crossN pl i k = true → nth g i = nth g k
 least : ∀ S : Nat → Prop, (∀ i k, i < m → k < m → nth c i = nth c k → S i → S k) → (∀ i k, i < m → k < m → crossN pl i k = true → S i → S k) → Resp S g
theorem mem_allE {pl : List Int} {m : Nat} {e : Nat × Nat} : e ∈ allE pl m ↔ e.1 < m ∧ e.2 < e.1 ∧ crossN pl e.1 e.2 = true := by
 unfold allE crossE
 rw [List.mem_flatMap]
 constructor
 ·rintro ⟨i, hi, he⟩
  obtain ⟨q, hq, rfl⟩ := List.mem_map.1 he
  rw [List.mem_filter, List.mem_range] at hq
  exact ⟨List.mem_range.1 hi, hq.1, hq.2⟩
 ·rintro ⟨h1, h2, h3⟩
  exact ⟨e.1, List.mem_range.2 h1, List.mem_map.2 ⟨e.2, List.mem_filter.2 ⟨List.mem_range.2 h2, h3⟩, rfl⟩⟩
theorem grp_comp {m : Nat} {pl c : List Int} (L : LinP m pl) (hc : c.length = m) : CompG m pl c (mergeL (allE pl m) c) := by
 have hE : ∀ e, e ∈ allE pl m → e.1 < c.length ∧ e.2 < c.length := fun e he => by
  have := mem_allE.1 he
  omega
 refine ⟨by rw [mergeL_len, hc], hc, fun i k hi hk h => mergeL_keep _ (by omega) (by omega) h, fun i k hi hk h => ?_, fun S h1 h2 => ?_⟩
 ·by_cases e : i = k
  ·rw [e]
  ·by_cases hlt : k < i
   ·exact mergeL_pair _ hE (i, k) (mem_allE.2 ⟨hi, hlt, h⟩)
   ·exact (mergeL_pair _ hE (k, i) (mem_allE.2 ⟨hk, (by show i < k; omega), cross_symm L hi hk h⟩)).symm
 ·refine mergeL_resp _ (fun e he => ⟨(hE e he).1, (hE e he).2, ?_⟩) (fun a b ha hb h => h1 a b (by omega) (by omega) h)
  have := mem_allE.1 he
  exact ⟨h2 _ _ this.1 (by omega) this.2.2, h2 _ _ (by omega) this.1 (cross_symm L this.1 (by omega) this.2.2)⟩
def InCs (cs : List (List Int)) (j : Nat) : Prop := ∃ a, a ∈ cs ∧ (j : Int) ∈ a
theorem joined_iff {m : Nat} {pl : List Int} (L : LinP m pl) {own a : List Int} (ho : ∀ z, z ∈ own → ∃ j, j < m ∧ z = (j : Int)) (ha : ∀ z, z ∈ a → ∃ j, j < m ∧ z = (j : Int)) :
  joinedB pl own a = true ↔ ∃ i k, i < m ∧ k < m ∧ (i : Int) ∈ own ∧ (k : Int) ∈ a ∧ crossN pl i k = true := by
 unfold joinedB crossL
 rw [List.any_eq_true]
 constructor
 ·rintro ⟨x, hx, h⟩
  rw [List.any_eq_true] at h
  obtain ⟨y, hy, h⟩ := h
  obtain ⟨i, hi, rfl⟩ := ho x hx
  obtain ⟨k, hk, rfl⟩ := ha y hy
  exact ⟨i, k, hi, hk, hx, hy, (cross_iff L hi hk).2 h⟩
 ·rintro ⟨i, k, hi, hk, hx, hy, h⟩
  exact ⟨i, hx, List.any_eq_true.2 ⟨k, hy, (cross_iff L hi hk).1 h⟩⟩
structure Gi (m : Nat) (pl c g : List Int) (T : Nat → Prop) (i0 : Nat) (own : List Int) (b : Bool) (cs : List (List Int)) : Prop where
 lin : ∀ z, z ∈ own → ∃ j, j < m ∧ z = (j : Int)
 fst : (i0 : Int) ∈ own
 cls : ∀ i k, i < m → k < m → nth c i = nth c k → (i : Int) ∈ own → (k : Int) ∈ own
 bad : b = true ↔ ∃ i k, i < m ∧ k < i ∧ (i : Int) ∈ own ∧ (k : Int) ∈ own ∧ nth c i = nth c k
 grp : ∀ j, j < m → (j : Int) ∈ own → nth g j = nth g i0
 cir : ∀ a, a ∈ cs → ∃ i, i < m ∧ a = clsOf c i
 dis : cs.Pairwise (fun a b => ∀ x, x ∈ a → x ∉ b)
 apart : ∀ j, j < m → (j : Int) ∈ own → ¬ InCs cs j
 tot : ∀ j, j < m → (T j ↔ (j : Int) ∈ own ∨ InCs cs j)
section
variable {m : Nat} {pl c g : List Int} (L : LinP m pl) (C : CompG m pl c g)
theorem cls_lin (hc : c.length = m) {i : Nat} : ∀ z, z ∈ clsOf c i → ∃ j, j < m ∧ z = (j : Int) := fun z hz => by
 obtain ⟨q, hq, _, e⟩ := mem_clsOf.1 hz
 exact ⟨q, by omega, e⟩
theorem cls_two (hc : c.length = m) {i0 : Nat} (h0 : i0 < m) : (1 < (clsOf c i0).length ↔ ∃ i k, i < m ∧ k < i ∧ (i : Int) ∈ clsOf c i0 ∧ (k : Int) ∈ clsOf c i0 ∧ nth c i = nth c k) := by
 constructor
 ·intro h
  match hl : clsOf c i0, h with
  | x :: y :: r, _ =>
   have hs := clsUp_sorted c i0 c.length
   rw [show clsUp c i0 c.length = clsOf c i0 from rfl, hl] at hs
   have hxy : x < y := (List.pairwise_cons.1 hs).1 y (by simp)
   obtain ⟨q, hq, e1, rfl⟩ := mem_clsOf.1 (show x ∈ clsOf c i0 by rw [hl]; simp)
   obtain ⟨q', hq', e2, rfl⟩ := mem_clsOf.1 (show y ∈ clsOf c i0 by rw [hl]; simp)
   exact ⟨q', q, by omega, by omega, by simp, by simp, by rw [e1, e2]⟩
 ·rintro ⟨i, k, hi, hk, h1, h2, _⟩
  match hl : clsOf c i0, h1, h2 with
  | [x], h1, h2 =>
   rw [List.mem_singleton] at h1 h2
   omega
  | x :: y :: r, _, _ => simp
include L C
theorem grow_run {T : Nat → Prop} {i0 : Nat} : ∀ (fuel : Nat) (own : List Int) (b : Bool) (cs : List (List Int)), Gi m pl c g T i0 own b cs → cs.length ≤ fuel →
  ∃ own' b' cs', growF pl fuel (own, b) cs = ((own', b'), cs') ∧ Gi m pl c g T i0 own' b' cs' ∧ cs'.length ≤ cs.length ∧ ∀ a, a ∈ cs' → ¬ joinedB pl own' a = true
 | 0, own, b, cs, h, hl => by
  have e : cs = [] := List.eq_nil_of_length_eq_zero (by omega)
  subst e
  exact ⟨own, b, [], rfl, h, Nat.le_refl _, fun a ha => by cases ha⟩
 | fuel + 1, own, b, cs, h, hl => by
  rw [growF]
  by_cases hi : idxI (joinedB pl own) cs < 0
  ·rw [if_pos hi]
   refine ⟨own, b, cs, rfl, h, Nat.le_refl _, fun a ha hj => ?_⟩
   have : cs.any (joinedB pl own) = true := List.any_eq_true.2 ⟨a, ha, hj⟩
   unfold idxI at hi
   rw [if_pos this] at hi
   omega
  ·rw [if_neg hi]
   obtain ⟨hlt, hidx⟩ := idxI_lt hi
   obtain ⟨q, hq⟩ : ∃ q, (idxI (joinedB pl own) cs).toNat = q := ⟨_, rfl⟩
   rw [hq] at hlt hidx ⊢
   have hmem : cs.getD q [] ∈ cs := getD_mem hlt
   have hjoin : joinedB pl own (cs.getD q []) = true := by
    unfold idxI at hidx
    by_cases hany : cs.any (joinedB pl own) = true
    ·rw [if_pos hany] at hidx
     have hfi : cs.findIdx (joinedB pl own) = q := by omega
     have := List.findIdx_getElem (p := joinedB pl own) (w := by rw [hfi]; exact hlt)
     simp only [hfi] at this
     rw [List.getD_eq_getElem?_getD, List.getElem?_eq_getElem hlt]
     exact this
    ·rw [if_neg hany] at hidx; omega
   obtain ⟨a, hae⟩ : ∃ a, cs.getD q [] = a := ⟨_, rfl⟩
   rw [hae] at hmem hjoin ⊢
   obtain ⟨ia, hia, hac⟩ := h.cir a hmem
   have hal : ∀ z, z ∈ a → ∃ j, j < m ∧ z = (j : Int) := by rw [hac]; exact cls_lin C.clen
   obtain ⟨x, y, hx, hy, hxo, hya, hxy⟩ := (joined_iff L h.lin hal).1 hjoin
   have hsub : ∀ d, d ∈ cs.eraseIdx q → d ∈ cs := fun d hd => List.mem_of_mem_eraseIdx hd
   have hsplit : ∀ d, d ∈ cs → d = a ∨ d ∈ cs.eraseIdx q := fun d hd => by
    obtain ⟨k, hk, rfl⟩ := List.getElem_of_mem hd
    by_cases e : k = q
    ·left; subst e; rw [← hae, List.getD_eq_getElem?_getD, List.getElem?_eq_getElem hk]; rfl
    ·right
     exact List.mem_eraseIdx_iff_getElem.2 ⟨k, hk, e, rfl⟩
   have hgrpa : ∀ j, j < m → (j : Int) ∈ a → nth g j = nth g i0 := fun j hj hja => by
    rw [hac] at hja hya
    obtain ⟨q1, _, e1, hz1⟩ := mem_clsOf.1 hja
    obtain ⟨q2, _, e2, hz2⟩ := mem_clsOf.1 hya
    have h1 : nth g j = nth g y := C.same j y hj hy (by
     have a1 : q1 = j := by omega
     have a2 : q2 = y := by omega
     rw [← a1, ← a2, e1, e2])
    rw [h1, ← C.cross x y hx hy hxy]
    exact h.grp x hx hxo
   have hdisa : ∀ d, d ∈ cs.eraseIdx q → ∀ z, z ∈ a → z ∉ d := fun d hd z hz hzd => by
    obtain ⟨k, hk, hne, rfl⟩ := List.mem_eraseIdx_iff_getElem.1 hd
    have hp := List.pairwise_iff_getElem.1 h.dis
    have hqa : cs[q] = a := by rw [← hae, List.getD_eq_getElem?_getD, List.getElem?_eq_getElem hlt]; rfl
    rcases Nat.lt_or_gt_of_ne hne with hh | hh
    ·exact hp k q hk hlt hh z hzd (by rw [hqa]; exact hz)
    ·exact hp q k hlt hk hh z (by rw [hqa]; exact hz) hzd
   have hnew : Gi m pl c g T i0 (own ++ a) (b || decide (1 < a.length)) (cs.eraseIdx q) := by
    refine ⟨fun z hz => ?_, List.mem_append_left _ h.fst, fun i k hi hk hc hio => ?_, ?_, fun j hj hjo => ?_, fun d hd => h.cir d (hsub d hd), h.dis.sublist (List.eraseIdx_sublist ..), fun j hj hjo => ?_, fun j hj => ?_⟩
    ·rcases List.mem_append.1 hz with hz | hz
     ·exact h.lin z hz
     ·exact hal z hz
    ·rcases List.mem_append.1 hio with hio | hio
     ·exact List.mem_append_left _ (h.cls i k hi hk hc hio)
     ·refine List.mem_append_right _ ?_
      rw [hac] at hio ⊢
      obtain ⟨q1, _, e1, hz1⟩ := mem_clsOf.1 hio
      refine mem_clsOf.2 ⟨k, by rw [C.clen]; exact hk, ?_, rfl⟩
      have a1 : q1 = i := by omega
      rw [← hc, ← a1, e1]
    ·rw [Bool.or_eq_true, decide_eq_true_eq, h.bad, hac, cls_two C.clen hia]
     constructor
     ·rintro (⟨i, k, h1, h2, h3, h4, h5⟩ | ⟨i, k, h1, h2, h3, h4, h5⟩)
      ·exact ⟨i, k, h1, h2, List.mem_append_left _ h3, List.mem_append_left _ h4, h5⟩
      ·exact ⟨i, k, h1, h2, List.mem_append_right _ h3, List.mem_append_right _ h4, h5⟩
     ·rintro ⟨i, k, h1, h2, h3, h4, h5⟩
      rcases List.mem_append.1 h3 with h3 | h3
      ·exact .inl ⟨i, k, h1, h2, h3, h.cls i k h1 (by omega) h5 h3, h5⟩
      ·refine .inr ⟨i, k, h1, h2, h3, ?_, h5⟩
       obtain ⟨q1, _, e1, hz1⟩ := mem_clsOf.1 h3
       refine mem_clsOf.2 ⟨k, by rw [C.clen]; omega, ?_, rfl⟩
       have a1 : q1 = i := by omega
       rw [← h5, ← a1, e1]
    ·rcases List.mem_append.1 hjo with hjo | hjo
     ·exact h.grp j hj hjo
     ·exact hgrpa j hj hjo
    ·rintro ⟨d, hd, hjd⟩
     rcases List.mem_append.1 hjo with hjo | hjo
     ·exact h.apart j hj hjo ⟨d, hsub d hd, hjd⟩
     ·exact hdisa d hd _ hjo hjd
    ·rw [h.tot j hj]
     constructor
     ·rintro (h1 | ⟨d, hd, hjd⟩)
      ·exact .inl (List.mem_append_left _ h1)
      ·rcases hsplit d hd with rfl | hd
       ·exact .inl (List.mem_append_right _ hjd)
       ·exact .inr ⟨d, hd, hjd⟩
     ·rintro (h1 | ⟨d, hd, hjd⟩)
      ·rcases List.mem_append.1 h1 with h1 | h1
       ·exact .inl h1
       ·exact .inr ⟨a, hmem, h1⟩
      ·exact .inr ⟨d, hsub d hd, hjd⟩
   have hle : (cs.eraseIdx q).length ≤ fuel := by rw [List.length_eraseIdx_of_lt hlt]; omega
   obtain ⟨own', b', cs', h1, h2, h3, h4⟩ := grow_run fuel _ _ _ hnew hle
   exact ⟨own', b', cs', h1, h2, by rw [List.length_eraseIdx_of_lt hlt] at h3; omega, h4⟩
end
end Go.Proofs.Ytepjhdblmghckaa.G


namespace Go.Proofs.Ytepjhdblmghckaa.G
open Go.Proofs.Ytepjhdblmghckaa.Q Go.Proofs.Ytepjhdblmghckaa.K Go.Proofs.Ytepjhdblmghckaa.Bf
open Go.RowKit Go.Proofs.YtepjhdblmghckaaW.PrintWords Go.Proofs.YtepjhdblmghckaaW.PrintLast Go.Proofs.YtepjhdblmghckaaW.PrintMore
set_option linter.unusedVariables false
def IsComp (m : Nat) (pl c g : List Int) (o : Cmp) (i : Nat) : Prop := i < m ∧ (∀ z, z ∈ o.1 ↔ ∃ j, j < m ∧ nth g j = nth g i ∧ z = (j : Int)) ∧ o.2 = badG pl c g m (nth g i).toNat
theorem turned_even {m : Nat} {pl : List Int} (L : LinP m pl) {j : Nat} (hj : j < m) : turnedB pl (j : Int) = evenL pl j := by
 unfold turnedB evenL linOf
 have h1 := L.pos (2 * j) (by omega)
 have h2 := L.pos (2 * j + 1) (by omega)
 rw [Int.toNat_natCast]
 unfold spanOf
 dsimp only
 rw [Int.tmod_eq_emod_of_nonneg (by omega), Int.tmod_eq_emod_of_nonneg (by omega)]
 exact decide_eq_decide.2 (by omega)
structure St (m : Nat) (pl c g : List Int) (cs : List (List Int)) (out : List Cmp) : Prop where
 cir : ∀ a, a ∈ cs → ∃ i, i < m ∧ a = clsOf c i
 dis : cs.Pairwise (fun a b => ∀ x, x ∈ a → x ∉ b)
 outc : ∀ o, o ∈ out → ∃ i, IsComp m pl c g o i
 outd : out.Pairwise (fun a b => ∀ x, x ∈ a.1 → x ∉ b.1)
 use : ∀ j, j < m → (InCs cs j ↔ ¬ ∃ o, o ∈ out ∧ (j : Int) ∈ o.1)
theorem St.cross {m : Nat} {pl c g : List Int} (C : CompG m pl c g) {cs : List (List Int)} {out : List Cmp} (h : St m pl c g cs out) {i k : Nat} (hi : i < m) (hk : k < m) (hx : crossN pl i k = true) (hin : InCs cs i) : InCs cs k := by
 rw [h.use k hk]
 rintro ⟨o, ho, hko⟩
 obtain ⟨i1, _, hcl, _⟩ := h.outc o ho
 obtain ⟨j, hj, e, ez⟩ := (hcl _).1 hko
 have ejk : k = j := by omega
 refine (h.use i hi).1 hin ⟨o, ho, (hcl _).2 ⟨i, hi, ?_, rfl⟩⟩
 rw [C.cross i k hi hk hx, ejk, e]
section
variable {m : Nat} {pl c g : List Int} (L : LinP m pl) (C : CompG m pl c g) (hg0 : ∀ q, 0 ≤ nth g q)
include L C hg0
theorem cmp_step {a : List Int} {r : List (List Int)} {out : List Cmp} (h : St m pl c g (a :: r) out) :
  ∃ own b cs', growF pl r.length (a, decide (1 < a.length)) r = ((own, b), cs') ∧ cs'.length ≤ r.length ∧ St m pl c g cs' (out ++ [(own, b && !own.any (turnedB pl))]) := by
 obtain ⟨i0, hi0, ha⟩ := h.cir a (List.mem_cons_self ..)
 have hal : ∀ z, z ∈ a → ∃ j, j < m ∧ z = (j : Int) := by rw [ha]; exact cls_lin C.clen
 have hpw := List.pairwise_cons.1 h.dis
 have hma : ∀ j, j < m → ((j : Int) ∈ a ↔ nth c j = nth c i0) := fun j hj => by
  rw [ha]
  constructor
  ·intro hz
   obtain ⟨q1, _, e1, hz1⟩ := mem_clsOf.1 hz
   have a1 : q1 = j := by omega
   rw [← a1]; exact e1
  ·intro e
   exact mem_clsOf.2 ⟨j, by rw [C.clen]; exact hj, e, rfl⟩
 have hG : Gi m pl c g (InCs (a :: r)) i0 a (decide (1 < a.length)) r := by
  refine ⟨hal, (hma i0 hi0).2 rfl, fun i k hi hk hc hio => (hma k hk).2 (by rw [← hc]; exact (hma i hi).1 hio), ?_, fun j hj hjo => C.same j i0 hj hi0 ((hma j hj).1 hjo), fun d hd => h.cir d (List.mem_cons_of_mem _ hd), hpw.2, fun j hj hjo => ?_, fun j hj => ?_⟩
  ·rw [decide_eq_true_eq, ha]
   exact cls_two C.clen hi0
  ·rintro ⟨d, hd, hjd⟩
   exact hpw.1 d hd _ hjo hjd
  ·constructor
   ·rintro ⟨d, hd, hjd⟩
    rcases List.mem_cons.1 hd with rfl | hd
    ·exact .inl hjd
    ·exact .inr ⟨d, hd, hjd⟩
   ·rintro (hj | ⟨d, hd, hjd⟩)
    ·exact ⟨a, List.mem_cons_self .., hj⟩
    ·exact ⟨d, List.mem_cons_of_mem _ hd, hjd⟩
 obtain ⟨own, b, cs', hgr, hG', hle, hno⟩ := grow_run L C r.length a (decide (1 < a.length)) r hG (Nat.le_refl _)
 refine ⟨own, b, cs', hgr, hle, ?_⟩
 have hcr : ∀ i k, i < m → k < m → crossN pl i k = true → (i : Int) ∈ own → (k : Int) ∈ own := fun i k hi hk hx hio => by
  have hT := h.cross C hi hk hx ((hG'.tot i hi).2 (.inl hio))
  rcases (hG'.tot k hk).1 hT with hko | ⟨d, hd, hkd⟩
  ·exact hko
  ·exfalso
   obtain ⟨i1, hi1, hd1⟩ := hG'.cir d hd
   exact hno d hd ((joined_iff L hG'.lin (by rw [hd1]; exact cls_lin C.clen)).2 ⟨i, k, hi, hk, hio, hkd, hx⟩)
 have hR := C.least (fun j => (j : Int) ∈ own) (fun i k hi hk hc hio => hG'.cls i k hi hk hc hio) hcr
 have hmem : ∀ z, z ∈ own ↔ ∃ j, j < m ∧ nth g j = nth g i0 ∧ z = (j : Int) := fun z => by
  constructor
  ·intro hz
   obtain ⟨j, hj, rfl⟩ := hG'.lin z hz
   exact ⟨j, hj, hG'.grp j hj hz, rfl⟩
  ·rintro ⟨j, hj, e, rfl⟩
   exact hR i0 j (by rw [C.len]; exact hi0) (by rw [C.len]; exact hj) e.symm hG'.fst
 have hq : ∀ j, j < m → ((nth g j).toNat = (nth g i0).toNat ↔ (j : Int) ∈ own) := fun j hj => by
  rw [hmem]
  have h1 := hg0 j
  have h2 := hg0 i0
  constructor
  ·intro e; exact ⟨j, hj, by omega, rfl⟩
  ·rintro ⟨j', hj', e, ez⟩
   have : j = j' := by omega
   rw [this, e]
 have hbad : (b && !own.any (turnedB pl)) = badG pl c g m (nth g i0).toNat := by
  unfold badG
  have e1 : b = twoG c g m (nth g i0).toNat := by
   rw [Bool.eq_iff_iff, hG'.bad]
   unfold twoG
   rw [List.any_eq_true]
   constructor
   ·rintro ⟨i, k, hi, hk, hio, hko, hc⟩
    exact ⟨i, List.mem_range.2 hi, by rw [Bool.and_eq_true, decide_eq_true_eq, List.any_eq_true]; exact ⟨(hq i hi).2 hio, k, List.mem_range.2 hk, decide_eq_true hc⟩⟩
   ·rintro ⟨i, hi, hh⟩
    rw [List.mem_range] at hi
    rw [Bool.and_eq_true, decide_eq_true_eq, List.any_eq_true] at hh
    obtain ⟨hiq, k, hk, hc⟩ := hh
    rw [List.mem_range] at hk
    have hio := (hq i hi).1 hiq
    exact ⟨i, k, hi, hk, hio, hG'.cls i k hi (by omega) (of_decide_eq_true hc) hio, of_decide_eq_true hc⟩
  have e2 : own.any (turnedB pl) = turnG pl g m (nth g i0).toNat := by
   rw [Bool.eq_iff_iff]
   unfold turnG
   rw [List.any_eq_true, List.any_eq_true]
   constructor
   ·rintro ⟨z, hz, ht⟩
    obtain ⟨j, hj, rfl⟩ := hG'.lin z hz
    exact ⟨j, List.mem_range.2 hj, by rw [Bool.and_eq_true, decide_eq_true_eq]; exact ⟨(hq j hj).2 hz, by rw [← turned_even L hj]; exact ht⟩⟩
   ·rintro ⟨j, hj, hh⟩
    rw [List.mem_range] at hj
    rw [Bool.and_eq_true, decide_eq_true_eq] at hh
    exact ⟨(j : Int), (hq j hj).1 hh.1, by rw [turned_even L hj]; exact hh.2⟩
  rw [e1, e2]
 refine ⟨hG'.cir, hG'.dis, fun o ho => ?_, ?_, fun j hj => ?_⟩
 ·rcases List.mem_append.1 ho with ho | ho
  ·exact h.outc o ho
  ·rw [List.mem_singleton] at ho
   subst ho
   exact ⟨i0, hi0, hmem, hbad⟩
 ·rw [List.pairwise_append]
  refine ⟨h.outd, List.pairwise_singleton _ _, fun o ho o' ho' x hx hx' => ?_⟩
  rw [List.mem_singleton] at ho'
  subst ho'
  obtain ⟨j, hj, rfl⟩ := hG'.lin x hx'
  exact (h.use j hj).1 ((hG'.tot j hj).2 (.inl hx')) ⟨o, ho, hx⟩
 ·constructor
  ·rintro hin ⟨o, ho, hjo⟩
   rcases List.mem_append.1 ho with ho | ho
   ·exact (h.use j hj).1 ((hG'.tot j hj).2 (.inr hin)) ⟨o, ho, hjo⟩
   ·rw [List.mem_singleton] at ho
    subst ho
    exact hG'.apart j hj hjo hin
  ·intro hn
   have hT : InCs (a :: r) j := (h.use j hj).2 (fun ⟨o, ho, hjo⟩ => hn ⟨o, List.mem_append_left _ ho, hjo⟩)
   rcases (hG'.tot j hj).1 hT with hjo | hin
   ·exact absurd ⟨_, List.mem_append_right _ (List.mem_singleton.2 rfl), hjo⟩ hn
   ·exact hin
theorem cmp_run : ∀ (fuel : Nat) (cs : List (List Int)) (out : List Cmp), St m pl c g cs out → cs.length ≤ fuel → St m pl c g [] (cmpF pl fuel cs out)
 | 0, cs, out, h, hl => by
  have e : cs = [] := List.eq_nil_of_length_eq_zero (by omega)
  subst e
  exact h
 | fuel + 1, [], out, h, _ => h
 | fuel + 1, a :: r, out, h, hl => by
  obtain ⟨own, b, cs', hgr, hle, hS⟩ := cmp_step L C hg0 h
  rw [cmpF, hgr]
  exact cmp_run fuel cs' _ hS (by rw [List.length_cons] at hl; omega)
end
structure AllC (m : Nat) (pl c g : List Int) (l : List Cmp) : Prop where
 outc : ∀ o, o ∈ l → ∃ i, IsComp m pl c g o i
 outd : l.Pairwise (fun a b => ∀ x, x ∈ a.1 → x ∉ b.1)
 all : ∀ j, j < m → ∃ o, o ∈ l ∧ (j : Int) ∈ o.1
theorem cls_cover {c : List Int} {m : Nat} (hc : c.length = m) : ∀ k, k ≤ m → ∀ j, j < m → (InCs (clsTo c k) j ↔ ∃ i, i < k ∧ nth c i = nth c j)
 | 0, _, j, _ => by
  constructor
  ·rintro ⟨a, ha, _⟩; cases ha
  ·rintro ⟨i, hi, _⟩; omega
 | k + 1, hk, j, hj => by
  have ih := cls_cover hc k (by omega) j hj
  rw [clsTo_succ]
  by_cases hf : firstIn c k = true
  ·rw [if_pos hf]
   constructor
   ·rintro ⟨a, ha, hja⟩
    rcases List.mem_append.1 ha with ha | ha
    ·obtain ⟨i, hi, e⟩ := ih.1 ⟨a, ha, hja⟩
     exact ⟨i, by omega, e⟩
    ·rw [List.mem_singleton] at ha
     subst ha
     obtain ⟨q, _, e, hz⟩ := mem_clsOf.1 hja
     have : q = j := by omega
     exact ⟨k, by omega, by rw [← this, e]⟩
   ·rintro ⟨i, hi, e⟩
    by_cases hik : i = k
    ·exact ⟨clsOf c k, List.mem_append_right _ (List.mem_singleton.2 rfl), mem_clsOf.2 ⟨j, by omega, by rw [← e, hik], rfl⟩⟩
    ·obtain ⟨a, ha, hja⟩ := ih.2 ⟨i, by omega, e⟩
     exact ⟨a, List.mem_append_left _ ha, hja⟩
  ·rw [if_neg hf, ih]
   constructor
   ·rintro ⟨i, hi, e⟩; exact ⟨i, by omega, e⟩
   ·rintro ⟨i, hi, e⟩
    by_cases hik : i = k
    ·rw [firstIn_iff] at hf
     have hn : ∃ j', j' < k ∧ nth c j' = nth c k := by
      refine Classical.byContradiction (fun hn => hf (fun j' hj' he => hn ⟨j', hj', he⟩))
     obtain ⟨j', hj', he⟩ := hn
     exact ⟨j', hj', by rw [he, ← e, hik]⟩
    ·exact ⟨i, by omega, e⟩
theorem cls_dis' (c : List Int) : ∀ k, k ≤ c.length → (clsTo c k).Pairwise (fun a b => ∀ x, x ∈ a → x ∉ b)
 | 0, _ => List.Pairwise.nil
 | k + 1, hk => by
  rw [clsTo_succ]
  by_cases hf : firstIn c k = true
  ·rw [if_pos hf, List.pairwise_append]
   refine ⟨cls_dis' c k (by omega), List.pairwise_singleton _ _, fun a ha b hb x hx hx' => ?_⟩
   rw [List.mem_singleton] at hb
   subst hb
   obtain ⟨q, hq, e, rfl⟩ := mem_clsOf.1 hx'
   obtain ⟨i, hi, e2⟩ := (cls_cover (c := c) rfl k (by omega) q hq).1 ⟨a, ha, hx⟩
   exact (firstIn_iff c k).1 hf i hi (by rw [e2, e])
  ·rw [if_neg hf]; exact cls_dis' c k (by omega)
theorem cls_cir (c : List Int) (k : Nat) : ∀ a, a ∈ clsTo c k → ∃ i, i < k ∧ a = clsOf c i := fun a ha => by
 unfold clsTo at ha
 obtain ⟨i, hi, rfl⟩ := List.mem_map.1 ha
 rw [List.mem_filter, List.mem_range] at hi
 exact ⟨i, hi.1, rfl⟩
theorem cmpL_all {s : List Int} {n : Nat} (hn : n ≤ 40) (hs : Stk true n s) : LinP (n + 1) (plL s) ∧ CompG (n + 1) (plL s) (rndL s) (grpL s) ∧ AllC (n + 1) (plL s) (rndL s) (grpL s) (cmpL s) := by
 have hl := hs.len
 have L := lin_of hn (pic_ok hs) (fun q => by have := plL_range s q; omega)
 have hc : (rndL s).length = n + 1 := by rw [rndL_len, hl]
 have C := grp_comp L hc
 have eg : grpL s = mergeL (allE (plL s) (n + 1)) (rndL s) := by unfold grpL; rw [hl]
 rw [← eg] at C
 have hS : St (n + 1) (plL s) (rndL s) (grpL s) (circL s) [] := by
  rw [circL_cls hn hs]
  refine ⟨cls_cir _ _, cls_dis' _ _ (by omega), (fun o ho => by cases ho), List.Pairwise.nil, fun j hj => ?_⟩
  rw [cls_cover hc (n + 1) (Nat.le_refl _) j hj]
  exact ⟨(fun _ ⟨o, ho, _⟩ => by cases ho), fun _ => ⟨j, hj, rfl⟩⟩
 have h := cmp_run L C (fun q => (grpL_in s q).1) (circL s).length (circL s) [] hS (Nat.le_refl _)
 refine ⟨L, C, h.outc, h.outd, fun j hj => ?_⟩
 refine Classical.byContradiction (fun hh => ?_)
 obtain ⟨a, ha, _⟩ := (h.use j hj).2 hh
 cases ha
end Go.Proofs.Ytepjhdblmghckaa.G


namespace Go.Proofs.Ytepjhdblmghckaa.G
open Go.Proofs.Ytepjhdblmghckaa.Q Go.Proofs.Ytepjhdblmghckaa.K Go.Proofs.Ytepjhdblmghckaa.Bf
open Go.RowKit Go.Proofs.YtepjhdblmghckaaW.PrintWords Go.Proofs.YtepjhdblmghckaaW.PrintLast Go.Proofs.YtepjhdblmghckaaW.PrintMore
set_option linter.unusedVariables false
def sqStep (row : List Int) (i : Int) : List Int := if row.getLast? = some i then row else row ++ [i]
def sqTo (A : List Int) (k : Nat) : List Int := (A.take k).foldl sqStep []
theorem sqTo_succ {A : List Int} {k : Nat} (h : k < A.length) : sqTo A (k + 1) = sqStep (sqTo A k) (nth A k) := by
 unfold sqTo
 rw [List.take_succ_eq_append_getElem h, List.foldl_append, nth_get A k h]
 rfl
def begL (A : List Int) (a : Int) (k : Nat) : Nat := (List.range k).countP (fun i => decide (nth A i = a) && (decide (i = 0) || decide (nth A (i - 1) ≠ a)))
theorem begL_step (A : List Int) (a : Int) (k : Nat) : begL A a (k + 1) = begL A a k + if nth A k = a ∧ (k = 0 ∨ nth A (k - 1) ≠ a) then 1 else 0 := by
 unfold begL
 rw [List.range_succ, List.countP_append, List.countP_singleton]
 congr 1
 by_cases h : nth A k = a ∧ (k = 0 ∨ nth A (k - 1) ≠ a)
 ·rw [if_pos h, if_pos (by simpa using h)]
 ·rw [if_neg h, if_neg (by simpa using h)]
theorem sqTo_spec (A : List Int) (a : Int) : ∀ k, k ≤ A.length → (sqTo A k).getLast? = (if k = 0 then none else some (nth A (k - 1))) ∧ (sqTo A k).count a = begL A a k ∧ (0 < k → nth (sqTo A k) 0 = nth A 0 ∧ 0 < (sqTo A k).length) ∧ ∀ z, z ∈ sqTo A k ↔ z ∈ A.take k
 | 0, _ => ⟨rfl, rfl, fun h => absurd h (by omega), fun z => by simp [sqTo]⟩
 | k + 1, hk => by
  obtain ⟨h1, h2, h3, h4⟩ := sqTo_spec A a k (by omega)
  rw [sqTo_succ (by omega), begL_step]
  have ht : A.take (k + 1) = A.take k ++ [nth A k] := by rw [List.take_succ_eq_append_getElem (by omega), nth_get A k (by omega)]
  unfold sqStep
  by_cases e : (sqTo A k).getLast? = some (nth A k)
  ·rw [if_pos e]
   rw [e] at h1
   have hk0 : k ≠ 0 := fun h => by rw [if_pos h] at h1; cases h1
   rw [if_neg hk0] at h1
   injection h1 with h1
   refine ⟨by rw [if_neg (by omega), e]; rfl, ?_, fun _ => h3 (by omega), fun z => ?_⟩
   ·rw [h2, if_neg (fun h => ?_)]
    ·rfl
    ·rcases h.2 with h' | h'
     ·exact hk0 h'
     ·exact h' (by rw [← h1]; exact h.1)
   ·rw [h4, ht, List.mem_append, List.mem_singleton]
    constructor
    ·exact .inl
    ·rintro (h | h)
     ·exact h
     ·rw [← h4, h]
      exact List.mem_of_getLast? e
  ·rw [if_neg e]
   have hne : k = 0 ∨ nth A (k - 1) ≠ nth A k := by
    by_cases hk0 : k = 0
    ·exact .inl hk0
    ·rw [h1, if_neg hk0] at e
     exact .inr (fun h => e (by rw [h]))
   refine ⟨by rw [if_neg (by omega), List.getLast?_append]; rfl, ?_, fun _ => ⟨?_, by simp⟩, fun z => ?_⟩
   ·rw [List.count_append, h2, List.count_singleton]
    congr 1
    by_cases ha : nth A k = a
    ·rw [if_pos (by simpa using ha), if_pos ⟨ha, by rw [← ha]; exact hne⟩]
    ·rw [if_neg (by simpa using ha), if_neg (fun h => ha h.1)]
   ·by_cases hk0 : k = 0
    ·subst hk0
     rfl
    ·obtain ⟨h5, h6⟩ := h3 (by omega)
     rw [nth_app, if_pos h6, h5]
   ·rw [List.mem_append, h4, ht, List.mem_append]
theorem begN_begL (A : List Int) (a : Int) : ∀ k, k + 1 ≤ A.length → begN A a (k + 1) + (if nth A 0 = a ∧ nth A (A.length - 1) = a then 1 else 0) = begL A a (k + 1)
 | 0, hk => by
  rw [begN_step, begL_step]
  have e : ahead A 0 = nth A (A.length - 1) := by unfold ahead; rw [Nat.zero_add, Nat.mod_eq_of_lt (by omega)]
  have b0 : begN A a 0 = 0 := rfl
  have b1 : begL A a 0 = 0 := rfl
  rw [e, b0, b1]
  by_cases h1 : nth A 0 = a
  ·by_cases h2 : nth A (A.length - 1) = a
   ·rw [if_neg (fun h => h.2 h2), if_pos ⟨h1, h2⟩, if_pos ⟨h1, .inl rfl⟩]
   ·rw [if_pos ⟨h1, h2⟩, if_neg (fun h => h2 h.2), if_pos ⟨h1, .inl rfl⟩]
  ·rw [if_neg (fun h => h1 h.1), if_neg (fun h => h1 h.1), if_neg (fun h => h1 h.1)]
 | k + 1, hk => by
  have ih := begN_begL A a k (by omega)
  rw [begN_step, begL_step]
  have e : ahead A (k + 1) = nth A k := by
   unfold ahead
   rw [show k + 1 + A.length - 1 = k + A.length by omega, Nat.add_mod_right, Nat.mod_eq_of_lt (by omega)]
  rw [e, show k + 1 - 1 = k by omega]
  by_cases h : nth A (k + 1) = a ∧ nth A k ≠ a
  ·rw [if_pos h, if_pos (show nth A (k + 1) = a ∧ (k + 1 = 0 ∨ nth A k ≠ a) from ⟨h.1, .inr h.2⟩)]; omega
  ·rw [if_neg h, if_neg (show ¬ (nth A (k + 1) = a ∧ (k + 1 = 0 ∨ nth A k ≠ a)) from fun h' => h ⟨h'.1, h'.2.resolve_left (by omega)⟩)]; omega
theorem count_tail (l : List Int) (a : Int) (h : 0 < l.length) : l.count a = l.tail.count a + if nth l 0 = a then 1 else 0 := by
 match l, h with
 | x :: t, _ =>
  rw [List.tail_cons, List.count_cons]
  congr 1
  by_cases e : x = a
  ·rw [if_pos (by simpa using e), if_pos (by exact e)]
  ·rw [if_neg (by simpa using e), if_neg (by exact e)]
theorem nth_last {l : List Int} {z : Int} (h : l.getLast? = some z) : nth l (l.length - 1) = z ∧ 0 < l.length := by
 rw [List.getLast?_eq_getElem?] at h
 obtain ⟨hl, he⟩ := List.getElem?_eq_some_iff.1 h
 exact ⟨by rw [nth_get l _ hl, he], by omega⟩
theorem one_run {A : List Int} {a : Int} (ha : a ∈ A) : ((rowCut (sqTo A A.length)).count a = 1 ↔ begN A a A.length ≤ 1) := by
 have hlen : 0 < A.length := List.length_pos_of_mem ha
 obtain ⟨h1, h2, h3, h4⟩ := sqTo_spec A a A.length (Nat.le_refl _)
 rw [if_neg (by omega)] at h1
 obtain ⟨h5, h6⟩ := h3 hlen
 have hb := begN_begL A a (A.length - 1) (by omega)
 rw [show A.length - 1 + 1 = A.length by omega] at hb
 have hmem : a ∈ sqTo A A.length := (h4 a).2 (by rw [List.take_length]; exact ha)
 have hpos : 0 < (sqTo A A.length).count a := List.count_pos_iff.2 hmem
 obtain ⟨h7, _⟩ := nth_last h1
 obtain ⟨q, hq⟩ : ∃ q, sqTo A A.length = q := ⟨_, rfl⟩
 rw [hq] at h1 h2 h5 h6 hmem hpos h7 ⊢
 have hct := count_tail q a h6
 unfold rowCut
 by_cases hc : 1 < q.length ∧ nth q 0 = nth q (q.length - 1)
 ·rw [if_pos hc]
  rw [h5, h7] at hc
  rw [h5] at hct
  by_cases h0 : nth A 0 = a
  ·rw [if_pos ⟨h0, by rw [← hc.2, h0]⟩] at hb
   rw [if_pos h0] at hct
   have : 0 < q.tail.count a := by
    refine List.count_pos_iff.2 ?_
    match q, hc.1, h7 with
    | x :: y :: t, _, h7 =>
     have e : nth (x :: y :: t) ((x :: y :: t).length - 1) = nth (y :: t) ((y :: t).length - 1) := by
      simp only [List.length_cons]
      rfl
     rw [e, ← hc.2, h0] at h7
     rw [List.tail_cons, ← h7]
     exact nth_in _ _ (by simp)
   omega
  ·rw [if_neg (fun h => h0 h.1)] at hb
   rw [if_neg h0] at hct
   omega
 ·rw [if_neg hc]
  by_cases hl1 : 1 < q.length
  ·have hne : ¬ (nth A 0 = a ∧ nth A (A.length - 1) = a) := fun h => hc ⟨hl1, by rw [h5, h7, h.1, h.2]⟩
   rw [if_neg hne] at hb
   omega
  ·have hq1 : q.length = 1 := by omega
   match q, hq1 with
   | [x], _ =>
    rw [List.mem_singleton] at hmem
    subst hmem
    have h0 : nth A 0 = a := h5.symm
    have hL : nth A (A.length - 1) = a := h7.symm
    rw [if_pos ⟨h0, hL⟩] at hb
    have : [a].count a = 1 := by simp
    omega
theorem outTo_at {row : List Int} {N : Nat} (hr : ∀ i, i ∈ row → 0 ≤ i ∧ i < (N : Int)) {a : Nat} (ha : a < N) : ∀ k, k ≤ row.length → (outTo row N k).length = N ∧ (outTo row N k).getD a false = (decide ((a : Int) ∈ row.take k) && decide (row.count (a : Int) = 1))
 | 0, _ => by
  refine ⟨by simp [outTo], ?_⟩
  have : outTo row N 0 = List.replicate N false := rfl
  rw [this, List.getD_eq_getElem?_getD, List.getElem?_replicate, if_pos ha]
  simp
 | k + 1, hk => by
  obtain ⟨h1, h2⟩ := outTo_at hr ha k (by omega)
  have ht : row.take (k + 1) = row.take k ++ [nth row k] := by rw [List.take_succ_eq_append_getElem (by omega), nth_get row k (by omega)]
  have hs : outTo row N (k + 1) = (outTo row N k).set (nth row k).toNat (decide (row.count (nth row k) = 1)) := by
   unfold outTo; rw [ht, List.foldl_append]; rfl
  have hv := hr (nth row k) (nth_in row k (by omega))
  rw [hs]
  refine ⟨by rw [List.length_set, h1], ?_⟩
  rw [set_at _ _ _ _ (by omega), ht]
  by_cases e : a = (nth row k).toNat
  ·have e2 : nth row k = (a : Int) := by omega
   rw [if_pos e, e2]
   simp
  ·rw [if_neg e, h2]
   have e2 : (a : Int) ≠ nth row k := by omega
   congr 1
   exact decide_eq_decide.2 (by rw [List.mem_append, List.mem_singleton]; exact ⟨.inl, fun h => h.resolve_right e2⟩)
theorem rowCut_mem {row : List Int} {z : Int} (h : z ∈ rowCut row) : z ∈ row := by
 unfold rowCut at h
 split at h
 ·exact List.mem_of_mem_tail h
 ·exact h
theorem rowTo_sq (M : Im) : ∀ (p row : List Int), p.foldl (rowStep M) row = (p.filterMap M).foldl sqStep row
 | [], _ => rfl
 | x :: p, row => by
  rw [List.foldl_cons, rowTo_sq M p]
  cases h : M x with
  | none => rw [List.filterMap_cons_none h]; unfold rowStep; rw [h]
  | some i => rw [List.filterMap_cons_some h, List.foldl_cons]; unfold rowStep sqStep; rw [h]
theorem rowTo_letters (M : Im) (p : List Int) : rowTo M p p.length = sqTo (p.filterMap M) (p.filterMap M).length := by
 unfold rowTo sqTo
 rw [List.take_length, List.take_length, rowTo_sq]
end Go.Proofs.Ytepjhdblmghckaa.G


namespace Go.Proofs.Ytepjhdblmghckaa.G
open Go.Proofs.Ytepjhdblmghckaa.Q Go.Proofs.Ytepjhdblmghckaa.K Go.Proofs.Ytepjhdblmghckaa.Bf
open Go.RowKit Go.Proofs.YtepjhdblmghckaaW.PrintWords Go.Proofs.YtepjhdblmghckaaW.PrintLast Go.Proofs.YtepjhdblmghckaaW.PrintMore
set_option linter.unusedVariables false
abbrev cA (l : List Cmp) (a : Nat) : Cmp := l.getD a ([], false)
def labL (g : List Int) (l : List Cmp) (a : Nat) : Nat := (nth g (nth (cA l a).1 0).toNat).toNat
structure Lb (m : Nat) (pl c g : List Int) (l : List Cmp) : Prop where
 lt : ∀ a, a < l.length → labL g l a < m ∧ isG g m (labL g l a) = true
 bad : ∀ a, a < l.length → (cA l a).2 = badG pl c g m (labL g l a)
 lin : ∀ a, a < l.length → ∀ z, z ∈ (cA l a).1 ↔ ∃ j, j < m ∧ (nth g j).toNat = labL g l a ∧ z = (j : Int)
 inj : ∀ a b, a < l.length → b < l.length → labL g l a = labL g l b → a = b
 sur : ∀ q, isG g m q = true → ∃ a, a < l.length ∧ labL g l a = q
theorem isG_iff {g : List Int} {m q : Nat} : isG g m q = true ↔ ∃ j, j < m ∧ (nth g j).toNat = q := by
 unfold isG
 rw [List.any_eq_true]
 exact ⟨fun ⟨j, hj, h⟩ => ⟨j, List.mem_range.1 hj, of_decide_eq_true h⟩, fun ⟨j, hj, h⟩ => ⟨j, List.mem_range.2 hj, decide_eq_true h⟩⟩
theorem lab_ok {m : Nat} {pl c g : List Int} {l : List Cmp} (A : AllC m pl c g l) (hg : ∀ q, 0 ≤ nth g q ∧ nth g q < (m : Int)) : Lb m pl c g l := by
 have key : ∀ a, a < l.length → ∃ i, IsComp m pl c g (cA l a) i ∧ labL g l a = (nth g i).toNat := fun a ha => by
  obtain ⟨i, hi, h1, h2⟩ := A.outc (cA l a) (getD_mem ha)
  refine ⟨i, ⟨hi, h1, h2⟩, ?_⟩
  have hmem : (i : Int) ∈ (cA l a).1 := (h1 _).2 ⟨i, hi, rfl, rfl⟩
  have hpos : 0 < (cA l a).1.length := List.length_pos_of_mem hmem
  obtain ⟨j, hj, e, ez⟩ := (h1 _).1 (nth_in (cA l a).1 0 hpos)
  unfold labL
  rw [ez, Int.toNat_natCast, e]
 have lin : ∀ a, a < l.length → ∀ z, z ∈ (cA l a).1 ↔ ∃ j, j < m ∧ (nth g j).toNat = labL g l a ∧ z = (j : Int) := fun a ha z => by
  obtain ⟨i, ⟨hi, h1, h2⟩, hl⟩ := key a ha
  rw [h1]
  have gi := hg i
  constructor
  ·rintro ⟨j, hj, e, ez⟩; exact ⟨j, hj, by rw [hl, e], ez⟩
  ·rintro ⟨j, hj, e, ez⟩
   have gj := hg j
   exact ⟨j, hj, by omega, ez⟩
 refine ⟨fun a ha => ?_, fun a ha => ?_, lin, fun a b ha hb h => ?_, fun q hq => ?_⟩
 ·obtain ⟨i, ⟨hi, h1, h2⟩, hl⟩ := key a ha
  have gi := hg i
  exact ⟨by omega, isG_iff.2 ⟨i, hi, hl.symm⟩⟩
 ·obtain ⟨i, ⟨hi, h1, h2⟩, hl⟩ := key a ha
  rw [hl]; exact h2
 ·obtain ⟨i, ⟨hi, h1, h2⟩, hl⟩ := key a ha
  have ma : (i : Int) ∈ (cA l a).1 := (h1 _).2 ⟨i, hi, rfl, rfl⟩
  have mb : (i : Int) ∈ (cA l b).1 := (lin b hb _).2 ⟨i, hi, by rw [← h, hl], rfl⟩
  have hp := List.pairwise_iff_getElem.1 A.outd
  have ga : ∀ a (ha : a < l.length), cA l a = l[a] := fun a ha => by unfold cA; rw [List.getD_eq_getElem?_getD, List.getElem?_eq_getElem ha]; rfl
  rw [ga a ha] at ma
  rw [ga b hb] at mb
  rcases Nat.lt_trichotomy a b with hh | hh | hh
  ·exact absurd mb (hp a b ha hb hh _ ma)
  ·exact hh
  ·exact absurd ma (hp b a hb ha hh _ mb)
 ·obtain ⟨j, hj, e⟩ := isG_iff.1 hq
  obtain ⟨o, ho, hjo⟩ := A.all j hj
  obtain ⟨a, ha, rfl⟩ := List.getElem_of_mem ho
  have ga : cA l a = l[a] := by unfold cA; rw [List.getD_eq_getElem?_getD, List.getElem?_eq_getElem ha]; rfl
  rw [← ga] at hjo
  obtain ⟨j', hj', e', ez⟩ := (lin a ha _).1 hjo
  have : j = j' := by omega
  exact ⟨a, ha, by rw [← e', ← this, e]⟩
theorem cnt_bij {m N : Nat} (lab : Nat → Nat) (f : Nat → Bool) (hlt : ∀ a, a < N → lab a < m) (hinj : ∀ a b, a < N → b < N → lab a = lab b → a = b) (hsur : ∀ q, q < m → f q = true → ∃ a, a < N ∧ lab a = q) : cntB f m = cntB (fun a => f (lab a)) N := by
 unfold cntB
 rw [List.countP_eq_length_filter, List.countP_eq_length_filter, show ((List.range N).filter (fun a => f (lab a))).length = (((List.range N).filter (fun a => f (lab a))).map lab).length from (List.length_map ..).symm]
 refine List.Perm.length_eq ?_
 have nd : (((List.range N).filter (fun a => f (lab a))).map lab).Nodup := by
  have h0 : ((List.range N).filter (fun a => f (lab a))).Pairwise (· < ·) := List.pairwise_lt_range.filter _
  rw [List.Nodup, List.pairwise_map]
  refine List.Pairwise.imp_of_mem (fun {a b} ha hb h e => ?_) h0
  rw [List.mem_filter, List.mem_range] at ha hb
  have := hinj a b ha.1 hb.1 e
  omega
 refine (List.perm_ext_iff_of_nodup (List.nodup_range.filter _) nd).2 (fun q => ?_)
 rw [List.mem_filter, List.mem_range, List.mem_map]
 constructor
 ·rintro ⟨h1, h2⟩
  obtain ⟨a, ha, rfl⟩ := hsur q h1 h2
  exact ⟨a, by rw [List.mem_filter, List.mem_range]; exact ⟨ha, h2⟩, rfl⟩
 ·rintro ⟨a, ha, rfl⟩
  rw [List.mem_filter, List.mem_range] at ha
  exact ⟨hlt a ha.1, ha.2⟩
theorem lineTo_at (i : Int) : ∀ (xs : List Int) (M : Im) (y : Int), lineTo M i xs y = if y / 2 ∈ xs then some i else M y
 | [], M, y => by simp [lineTo]
 | x :: xs, M, y => by
  have h := lineTo_at i xs ((M.put (2 * x) i).put (2 * x + 1) i) y
  have e : lineTo M i (x :: xs) y = lineTo ((M.put (2 * x) i).put (2 * x + 1) i) i xs y := rfl
  rw [e, h]
  by_cases h1 : y / 2 ∈ xs
  ·rw [if_pos h1, if_pos (List.mem_cons_of_mem _ h1)]
  ·rw [if_neg h1]
   unfold Im.put
   by_cases h2 : y / 2 = x
   ·rw [if_pos (List.mem_cons.2 (.inl h2))]
    by_cases h3 : y = 2 * x + 1
    ·rw [if_pos h3]
    ·rw [if_neg h3, if_pos (by omega)]
   ·rw [if_neg (by omega), if_neg (by omega), if_neg (fun h => (List.mem_cons.1 h).elim h2 h1)]
section
variable {m : Nat} {pl c g : List Int} {l : List Cmp} (B : Lb m pl c g l) (hg : ∀ q, 0 ≤ nth g q ∧ nth g q < (m : Int)) (wo : Int)
def lf (l : List Cmp) (wo : Int) (a : Nat) : Bool := (cA l a).2 && !decide ((a : Int) = wo)
include B
theorem who_at (y : Int) : ∀ k, k ≤ l.length → ∀ v, (whoTo l wo k y = some v ↔ ∃ a, a < k ∧ v = (a : Int) ∧ lf l wo a = true ∧ y / 2 ∈ (cA l a).1)
 | 0, _, v => by
  constructor
  ·intro h; cases h
  ·rintro ⟨a, ha, _⟩; omega
 | k + 1, hk, v => by
  have ih := who_at y k (by omega)
  rw [whoTo_step]
  unfold whoStep
  by_cases h1 : (l.getD k ([], false)).2 = true ∧ (k : Int) ≠ wo
  ·have hlf : lf l wo k = true := by unfold lf; rw [h1.1]; simp [h1.2]
   rw [if_pos h1, lineTo_at]
   by_cases h2 : y / 2 ∈ (l.getD k ([], false)).1
   ·rw [if_pos h2]
    constructor
    ·intro h; injection h with h; exact ⟨k, by omega, h.symm, hlf, h2⟩
    ·rintro ⟨a, ha, e, _, hy⟩
     obtain ⟨j, hj, e1, ez⟩ := (B.lin k (by omega) _).1 h2
     obtain ⟨j', hj', e2, ez'⟩ := (B.lin a (by omega) _).1 hy
     have ejj : j = j' := by omega
     have := B.inj a k (by omega) (by omega) (by rw [← e2, ← ejj, e1])
     rw [e, this]
   ·rw [if_neg h2, ih]
    constructor
    ·rintro ⟨a, ha, h⟩; exact ⟨a, by omega, h⟩
    ·rintro ⟨a, ha, e, hl, hy⟩
     by_cases eak : a = k
     ·subst eak; exact absurd hy h2
     ·exact ⟨a, by omega, e, hl, hy⟩
  ·rw [if_neg h1, ih]
   constructor
   ·rintro ⟨a, ha, h⟩; exact ⟨a, by omega, h⟩
   ·rintro ⟨a, ha, e, hl, hy⟩
    by_cases eak : a = k
    ·subst eak
     exfalso
     unfold lf at hl
     rw [Bool.and_eq_true, Bool.not_eq_true', decide_eq_false_iff_not] at hl
     exact h1 hl
    ·exact ⟨a, by omega, e, hl, hy⟩
include hg
theorem lets_eq (D : Nat → Bool) (hD : ∀ a, a < l.length → D (labL g l a) = lf l wo a) : ∀ p : List Int, (∀ x, x ∈ p → 0 ≤ x ∧ x < 2 * (m : Int)) →
  (p.map (fun x => nth g (x.toNat / 2))).filter (fun z => (flg m D).getD z.toNat false) = (p.filterMap (whoTo l wo l.length)).map (fun a => ((labL g l a.toNat : Nat) : Int))
 | [], _ => rfl
 | x :: p, hp => by
  have ih := lets_eq D hD p (fun y hy => hp y (List.mem_cons_of_mem _ hy))
  have hx := hp x (List.mem_cons_self ..)
  have hgx := hg (x.toNat / 2)
  have hj : x.toNat / 2 < m := by omega
  have ej : x / 2 = ((x.toNat / 2 : Nat) : Int) := by omega
  obtain ⟨a, ha, hla⟩ := B.sur _ (isG_iff.2 ⟨x.toNat / 2, hj, rfl⟩)
  have hD' : (flg m D).getD (nth g (x.toNat / 2)).toNat false = lf l wo a := by rw [flg_at _ (by omega), ← hla, hD a ha]
  have hline : x / 2 ∈ (cA l a).1 := (B.lin a ha _).2 ⟨x.toNat / 2, hj, hla.symm, ej⟩
  rw [List.map_cons, List.filter_cons, hD', ih]
  by_cases e : lf l wo a = true
  ·have hM : whoTo l wo l.length x = some (a : Int) := (who_at B wo x l.length (Nat.le_refl _) _).2 ⟨a, ha, rfl, e, hline⟩
   rw [if_pos e, List.filterMap_cons_some hM, List.map_cons, Int.toNat_natCast, hla]
   congr 1
   omega
  ·have hM : whoTo l wo l.length x = none := by
    cases h : whoTo l wo l.length x with
    | none => rfl
    | some v =>
     exfalso
     obtain ⟨a', ha', _, e', hy⟩ := (who_at B wo x l.length (Nat.le_refl _) _).1 h
     obtain ⟨j', hj', e2, ez'⟩ := (B.lin a' ha' _).1 hy
     have ejj : x.toNat / 2 = j' := by omega
     have := B.inj a a' ha ha' (by rw [hla, ← e2, ejj])
     rw [this] at e
     exact e e'
   rw [if_neg e, List.filterMap_cons_none hM]
theorem hurd_at (D : Nat → Bool) (hD : ∀ a, a < l.length → D (labL g l a) = lf l wo a) (p : List Int) (hp : ∀ x, x ∈ p → 0 ≤ x ∧ x < 2 * (m : Int)) (hall : ∀ j, j < m → ∃ x, x ∈ p ∧ x.toNat / 2 = j) {a : Nat} (ha : a < l.length) :
  (hurdF p l wo).getD a false = (D (labL g l a) && wholeB p g (flg m D) ((labL g l a : Nat) : Int)) := by
 obtain ⟨M, hM⟩ : ∃ M, whoTo l wo l.length = M := ⟨_, rfl⟩
 obtain ⟨A, hA⟩ : ∃ A, p.filterMap M = A := ⟨_, rfl⟩
 have hin : ∀ z, z ∈ A → 0 ≤ z ∧ z < (l.length : Int) ∧ lf l wo z.toNat = true := fun z hz => by
  rw [← hA] at hz
  obtain ⟨x, hx, e⟩ := List.mem_filterMap.1 hz
  rw [← hM] at e
  obtain ⟨b, hb, rfl, hl, _⟩ := (who_at B wo x l.length (Nat.le_refl _) _).1 e
  exact ⟨by omega, by omega, by rw [Int.toNat_natCast]; exact hl⟩
 have hrow : rowTo (whoTo l wo l.length) p p.length = sqTo A A.length := by rw [rowTo_letters, hM, hA]
 have hsub : ∀ z, z ∈ rowCut (sqTo A A.length) → z ∈ A := fun z hz => by
  have := ((sqTo_spec A z A.length (Nat.le_refl _)).2.2.2 z).1 (rowCut_mem hz)
  rw [List.take_length] at this
  exact this
 have hout := (outTo_at (row := rowCut (sqTo A A.length)) (N := l.length) (fun z hz => ⟨(hin z (hsub z hz)).1, (hin z (hsub z hz)).2.1⟩) ha _ (Nat.le_refl _)).2
 unfold hurdF
 rw [hrow, hout, List.take_length, hD a ha]
 have hlets : lets p g (flg m D) p.length = A.map (fun a => ((labL g l a.toNat : Nat) : Int)) := by
  unfold lets
  rw [List.take_length, lets_eq B hg wo D hD p hp, hM, hA]
 by_cases e : lf l wo a = true
 ·rw [e, Bool.true_and]
  have haA : (a : Int) ∈ A := by
   obtain ⟨j, hj, e1⟩ := isG_iff.1 (B.lt a ha).2
   obtain ⟨x, hx, ex⟩ := hall j hj
   have hx0 := hp x hx
   rw [← hA]
   refine List.mem_filterMap.2 ⟨x, hx, ?_⟩
   rw [← hM]
   exact (who_at B wo x l.length (Nat.le_refl _) _).2 ⟨a, ha, rfl, e, (B.lin a ha _).2 ⟨j, hj, e1, by omega⟩⟩
  have hone := one_run haA
  have hbeg : begN (A.map (fun a => ((labL g l a.toNat : Nat) : Int))) ((labL g l a : Nat) : Int) A.length = begN A (a : Int) A.length := by
   unfold begN
   have hnm : ∀ i, i < A.length → nth (A.map (fun a => ((labL g l a.toNat : Nat) : Int))) i = ((labL g l (nth A i).toNat : Nat) : Int) := fun i hi => by
    rw [nth_get _ i (by rw [List.length_map]; exact hi), List.getElem_map, nth_get A i hi]
   have hiff : ∀ i, i < A.length → ((nth (A.map (fun a => ((labL g l a.toNat : Nat) : Int))) i = ((labL g l a : Nat) : Int)) ↔ nth A i = (a : Int)) := fun i hi => by
    rw [hnm i hi]
    have hz := hin _ (nth_in A i hi)
    constructor
    ·intro h
     have := B.inj (nth A i).toNat a (by omega) ha (by omega)
     omega
    ·intro h; rw [h, Int.toNat_natCast]
   refine List.countP_congr (fun i hi => ?_)
   rw [List.mem_range] at hi
   have hmod : (i + A.length - 1) % A.length < A.length := Nat.mod_lt _ (by omega)
   unfold ahead
   rw [List.length_map, Bool.and_eq_true, Bool.and_eq_true, decide_eq_true_eq, decide_eq_true_eq, decide_eq_true_eq, decide_eq_true_eq, hiff i hi, Ne, Ne, hiff _ hmod]
  unfold wholeB
  rw [hlets, List.length_map, hbeg]
  by_cases h1 : (rowCut (sqTo A A.length)).count (a : Int) = 1
  ·have hmem : (a : Int) ∈ rowCut (sqTo A A.length) := List.count_pos_iff.1 (by omega)
   rw [decide_eq_true h1, decide_eq_true hmem, decide_eq_true (hone.1 h1)]
   rfl
  ·rw [decide_eq_false h1, decide_eq_false (fun h => h1 (hone.2 h)), Bool.and_false]
 ·have hnot : (a : Int) ∉ rowCut (sqTo A A.length) := fun h => by
   have := (hin _ (hsub _ h)).2.2
   rw [Int.toNat_natCast] at this
   exact e this
  rw [decide_eq_false hnot, Bool.false_and, Bool.eq_false_iff.2 e, Bool.false_and]
end
end Go.Proofs.Ytepjhdblmghckaa.G


namespace Go.Proofs.Ytepjhdblmghckaa.G
open Go.Proofs.Ytepjhdblmghckaa.Q Go.Proofs.Ytepjhdblmghckaa.K Go.Proofs.Ytepjhdblmghckaa.Bf
open Go.RowKit Go.Proofs.YtepjhdblmghckaaW.PrintWords Go.Proofs.YtepjhdblmghckaaW.PrintLast Go.Proofs.YtepjhdblmghckaaW.PrintMore
set_option linter.unusedVariables false
theorem count_and (a b : Nat → Bool) : ∀ L : List Nat, L.countP (fun i => a i && b i) ≤ L.countP a ∧ (L.countP (fun i => a i && b i) = L.countP a ↔ ∀ i, i ∈ L → a i = true → b i = true)
 | [] => ⟨Nat.le_refl _, fun _ i hi => (by cases hi), fun _ => rfl⟩
 | x :: L => by
  obtain ⟨h1, h2⟩ := count_and a b L
  rw [List.countP_cons, List.countP_cons]
  cases ha : a x with
  | false =>
   refine ⟨by simp; exact h1, ?_⟩
   simp only [Bool.false_and, if_neg (show ¬ (false = true) by decide), Nat.add_zero]
   rw [h2]
   constructor
   ·intro h i hi hai
    rcases List.mem_cons.1 hi with rfl | hi
    ·rw [ha] at hai; cases hai
    ·exact h i hi hai
   ·intro h i hi; exact h i (List.mem_cons_of_mem _ hi)
  | true =>
   cases hb : b x with
   | false =>
    simp only [Bool.true_and, if_neg (show ¬ (false = true) by decide), if_true]
    refine ⟨by omega, ⟨fun h => by omega, fun h => ?_⟩⟩
    have := h x (List.mem_cons_self ..) ha
    rw [hb] at this; cases this
   | true =>
    simp only [Bool.true_and, if_true]
    refine ⟨by omega, ?_⟩
    rw [Nat.add_right_cancel_iff, h2]
    constructor
    ·intro h i hi hai
     rcases List.mem_cons.1 hi with rfl | hi
     ·exact hb
     ·exact h i hi hai
    ·intro h i hi; exact h i (List.mem_cons_of_mem _ hi)
theorem fort_iff (p g : List Int) (m : Nat) (bad : Nat → Bool) : ∀ k, (fortG p g m bad k = true ↔ cntB (hurG p g m bad) m % 2 = 1 ∧ ∀ i, i < k → hurG p g m bad i = true → superG p g m bad i m = true)
 | 0 => by
  unfold fortG
  rw [decide_eq_true_eq]
  exact ⟨fun h => ⟨h, fun i hi => absurd hi (by omega)⟩, fun h => h.1⟩
 | k + 1 => by
  have ih := fort_iff p g m bad k
  rw [fortG]
  by_cases h : hurG p g m bad k = true
  ·rw [if_pos h, Bool.and_eq_true, ih]
   constructor
   ·rintro ⟨⟨h1, h2⟩, h3⟩
    refine ⟨h1, fun i hi hh => ?_⟩
    by_cases e : i = k
    ·rw [e]; exact h3
    ·exact h2 i (by omega) hh
   ·rintro ⟨h1, h2⟩
    exact ⟨⟨h1, fun i hi hh => h2 i (by omega) hh⟩, h2 k (by omega) h⟩
  ·rw [if_neg h, ih]
   constructor
   ·rintro ⟨h1, h2⟩
    refine ⟨h1, fun i hi hh => ?_⟩
    by_cases e : i = k
    ·rw [e] at hh; exact absurd hh h
    ·exact h2 i (by omega) hh
   ·rintro ⟨h1, h2⟩
    exact ⟨h1, fun i hi hh => h2 i (by omega) hh⟩
theorem bad_is {pl c g : List Int} {m q : Nat} (h : badG pl c g m q = true) : isG g m q = true := by
 unfold badG at h
 rw [Bool.and_eq_true] at h
 have h1 := h.1
 unfold twoG at h1
 rw [List.any_eq_true] at h1
 obtain ⟨j, hj, hh⟩ := h1
 rw [Bool.and_eq_true] at hh
 exact isG_iff.2 ⟨j, List.mem_range.1 hj, of_decide_eq_true hh.1⟩
theorem tal_com {s : List Int} {n : Nat} (hn : n ≤ 40) (hs : Stk true n s) : comD s = ((((talF (picL s) (cmpL s)).1 : Nat) : Int), (((talF (picL s) (cmpL s)).2.1 : Nat) : Int), (((talF (picL s) (cmpL s)).2.2.1 : Nat) : Int), (talF (picL s) (cmpL s)).2.2.2) := by
 have hl := hs.len
 obtain ⟨Ln, Cm, Al⟩ := cmpL_all hn hs
 have P := pic_ok hs
 have hg : ∀ q, 0 ≤ nth (grpL s) q ∧ nth (grpL s) q < ((n + 1 : Nat) : Int) := fun q => by have := grpL_in s q; rw [hl] at this; exact this
 have B := lab_ok Al hg
 have hrng := picL_range s (fun x hx => by have := hs.rng x hx; rw [hl]; exact this)
 have hlen : (picL s).length = 2 * n + 2 := by rw [picL_len, hl]
 have hp : ∀ x, x ∈ picL s → 0 ≤ x ∧ x < 2 * ((n + 1 : Nat) : Int) := fun x hx => by
  obtain ⟨q, hq, rfl⟩ := mem_nth hx
  have := hrng q
  rw [hl] at this
  omega
 have hall : ∀ j, j < n + 1 → ∃ x, x ∈ picL s ∧ x.toNat / 2 = j := fun j hj => by
  have h1 := P.l_lt (2 * j) (by omega)
  exact ⟨nth (picL s) (nth (plL s) (2 * j)).toNat, nth_in _ _ (by omega), by rw [P.pp (2 * j) (by omega)]; omega⟩
 have eb : badD s = badG (plL s) (rndL s) (grpL s) (n + 1) := by unfold badD; rw [hl]
 unfold comD
 rw [hl]
 obtain ⟨bad, hbe⟩ : ∃ bad, badD s = bad := ⟨_, rfl⟩
 rw [hbe] at eb ⊢
 obtain ⟨p, hpe⟩ : ∃ p, picL s = p := ⟨_, rfl⟩
 rw [hpe] at hp hall ⊢
 obtain ⟨l, hle⟩ : ∃ l, cmpL s = l := ⟨_, rfl⟩
 rw [hle] at B ⊢
 obtain ⟨g, hge⟩ : ∃ g, grpL s = g := ⟨_, rfl⟩
 rw [hge] at B hg eb ⊢
 have hlb : ∀ a, a < l.length → labL g l a < n + 1 := fun a ha => (B.lt a ha).1
 have hbad : ∀ a, a < l.length → (cA l a).2 = bad (labL g l a) := fun a ha => by rw [eb]; exact B.bad a ha
 have hbi : ∀ q, bad q = true → isG g (n + 1) q = true := fun q h => by rw [eb] at h; exact bad_is h
 have his : ∀ a, a < l.length → (hurdF p l (-1)).getD a false = hurG p g (n + 1) bad (labL g l a) := fun a ha => hurd_at B hg (-1) bad (fun a ha => by
  rw [← hbad a ha]
  unfold lf
  rw [decide_eq_false (by omega : ¬ (a : Int) = -1)]
  simp) p hp hall ha
 have hnow : ∀ i, i < l.length → ∀ a, a < l.length → (hurdF p l (i : Int)).getD a false = (lessG bad (labL g l i) (labL g l a) && wholeB p g (flg (n + 1) (lessG bad (labL g l i))) ((labL g l a : Nat) : Int)) := fun i hi a ha => hurd_at B hg (i : Int) (lessG bad (labL g l i)) (fun a ha => by
  unfold lf lessG
  rw [hbad a ha]
  congr 2
  exact decide_eq_decide.2 ⟨fun h => by rw [B.inj a i ha hi h], fun h => by rw [show a = i by omega]⟩) p hp hall ha
 have hany : ∀ i, i < l.length → anyNew (hurdF p l (i : Int)) (hurdF p l (-1)) = superG p g (n + 1) bad (labL g l i) (n + 1) := fun i hi => by
  rw [Bool.eq_iff_iff]
  unfold anyNew superG
  rw [hurdF_len, List.any_eq_true, List.any_eq_true]
  constructor
  ·rintro ⟨k, hk, h⟩
   rw [List.mem_range] at hk
   rw [hnow i hi k hk, his k hk] at h
   refine ⟨labL g l k, List.mem_range.2 (hlb k hk), ?_⟩
   unfold newG
   simp only [Bool.and_eq_true] at h ⊢
   exact ⟨⟨h.1.1, h.2⟩, h.1.2⟩
  ·rintro ⟨q, hq, h⟩
   unfold newG at h
   simp only [Bool.and_eq_true] at h
   have hbq : bad q = true := by
    have := h.1.1
    unfold lessG at this
    rw [Bool.and_eq_true] at this
    exact this.1
   obtain ⟨k, hk, rfl⟩ := B.sur q (hbi q hbq)
   refine ⟨k, List.mem_range.2 hk, ?_⟩
   rw [hnow i hi k hk, his k hk]
   simp only [Bool.and_eq_true]
   exact ⟨⟨h.1.1, h.2⟩, h.1.2⟩
 have e1 : cntB (isG g (n + 1)) (n + 1) = l.length := by
  rw [cnt_bij (labL g l) (isG g (n + 1)) hlb B.inj (fun q _ h => B.sur q h)]
  unfold cntB
  rw [List.countP_eq_length.2 (fun a ha => (B.lt a (List.mem_range.1 ha)).2), List.length_range]
 have e2 : cntB bad (n + 1) = badN l l.length := by
  rw [cnt_bij (labL g l) bad hlb B.inj (fun q _ h => B.sur q (hbi q h))]
  unfold cntB badN
  refine List.countP_congr (fun a ha => ?_)
  rw [← hbad a (List.mem_range.1 ha)]
 have hhi : ∀ q, hurG p g (n + 1) bad q = true → bad q = true := fun q h => by
  unfold hurG at h
  rw [Bool.and_eq_true] at h
  exact h.1
 have e3 : cntB (hurG p g (n + 1) bad) (n + 1) = hurN (hurdF p l (-1)) l.length := by
  rw [cnt_bij (labL g l) (hurG p g (n + 1) bad) hlb B.inj (fun q _ h => B.sur q (hbi q (hhi q h)))]
  unfold cntB hurN
  refine List.countP_congr (fun a ha => ?_)
  rw [his a (List.mem_range.1 ha)]
 have e4 : fortG p g (n + 1) bad (n + 1) = (decide (hurN (hurdF p l (-1)) l.length % 2 = 1) && decide (supN p l (hurdF p l (-1)) l.length = hurN (hurdF p l (-1)) l.length)) := by
  rw [Bool.eq_iff_iff, fort_iff, Bool.and_eq_true, decide_eq_true_eq, decide_eq_true_eq, e3]
  refine and_congr_right (fun _ => ?_)
  have hc := (count_and (fun i => (hurdF p l (-1)).getD i false) (fun i => anyNew (hurdF p l (i : Int)) (hurdF p l (-1))) (List.range l.length)).2
  refine Iff.trans ?_ hc.symm
  constructor
  ·intro h i hi hh
   rw [List.mem_range] at hi
   have hh2 := his i hi
   rw [hh] at hh2
   show anyNew (hurdF p l (i : Int)) (hurdF p l (-1)) = true
   rw [hany i hi]
   exact h _ (hlb i hi) hh2.symm
  ·intro h q hq hh
   obtain ⟨i, hi, rfl⟩ := B.sur q (hbi q (hhi q hh))
   have := h i (List.mem_range.2 hi) (by show (hurdF p l (-1)).getD i false = true; rw [his i hi]; exact hh)
   rw [← hany i hi]
   exact this
 rw [e1, e2, e3, e4]
 rfl
theorem dis_com {s : List Int} {n : Nat} (hn : n ≤ 40) (hs : Stk true n s) : disD s = (s.length : Int) + 1 - ((circL s).length : Int) + (((talF (picL s) (cmpL s)).2.2.1 : Nat) : Int) + (if (talF (picL s) (cmpL s)).2.2.2 = true then 1 else 0) := by
 unfold disD
 rw [tal_com hn hs, circL_cls hn hs, hs.len]
end Go.Proofs.Ytepjhdblmghckaa.G


namespace Go.Proofs.Ytepjhdblmghckaa.G
open Go.Proofs.Ytepjhdblmghckaa.Q Go.Proofs.Ytepjhdblmghckaa.K Go.Proofs.Ytepjhdblmghckaa.Bf
open Go.RowKit
set_option linter.unusedVariables false
theorem fblk_stk (k : Nat) : Stk false (fblk k).length (fblk k) := by
 match k with
 | 0 => exact ⟨rfl, by decide, by decide, fun _ => by decide⟩
 | 1 => exact ⟨rfl, by decide, by decide, fun _ => by decide⟩
 | 2 => exact ⟨rfl, by decide, by decide, fun _ => by decide⟩
 | k + 3 => exact ⟨rfl, (by decide : ∀ x : Int, x ∈ [5, 1, 3, 2, 4] → x ≠ 0 ∧ -5 ≤ x ∧ x ≤ 5), (by decide : ([5, 1, 3, 2, 4].map Int.natAbs).Nodup), fun _ => (by decide : ∀ x : Int, x ∈ [5, 1, 3, 2, 4] → 0 < x)⟩
theorem fadd_stk {out b : List Int} (h : Stk false out.length out) (hb : Stk false b.length b) : Stk false (fadd out b).length (fadd out b) := by
 have hl := fadd_len out b
 have hmem : ∀ x, x ∈ fadd out b → (1 ≤ x ∧ x ≤ out.length) ∨ ((out.length : Int) + 1 ≤ x ∧ x ≤ (out.length : Int) + b.length) := fun x hx => by
  unfold fadd at hx
  rcases List.mem_append.1 hx with hx | hx
  ·have h1 := h.rng x hx
   have h2 := h.pos rfl x hx
   exact .inl ⟨by omega, h1.2.2⟩
  ·obtain ⟨v, hv, rfl⟩ := List.mem_map.1 hx
   have h1 := hb.rng v hv
   have h2 := hb.pos rfl v hv
   exact .inr ⟨by omega, by omega⟩
 refine ⟨rfl, fun x hx => ?_, ?_, fun _ x hx => ?_⟩
 ·have := hmem x hx
  rw [hl]
  omega
 ·unfold fadd
  rw [List.map_append, List.nodup_append]
  refine ⟨h.nd, ?_, fun p hp q hq => ?_⟩
  ·rw [List.map_map]
   have hnd := hb.nd
   rw [List.Nodup, List.pairwise_map] at hnd ⊢
   refine hnd.imp_of_mem (fun {u v} hu hv huv he => huv ?_)
   have h1 := hb.pos rfl u hu
   have h2 := hb.pos rfl v hv
   simp only [Function.comp_apply] at he
   omega
  ·obtain ⟨u, hu, rfl⟩ := List.mem_map.1 hp
   rw [List.map_map] at hq
   obtain ⟨v, hv, rfl⟩ := List.mem_map.1 hq
   have h1 := h.rng u hu
   have h2 := hb.pos rfl v hv
   simp only [Function.comp_apply]
   omega
 ·have := hmem x hx; omega
theorem fortR_stk (l : List Int) (n : Nat) : ∀ (d i : Nat) (out : List Int), Stk false out.length out → out.length ≤ n → Stk false (fortR l n d i out).length (fortR l n d i out) ∧ (fortR l n d i out).length ≤ n
 | 0, i, out, h, hn => ⟨h, hn⟩
 | d + 1, i, out, h, hn => by
  rw [fortR]
  by_cases hb : n < out.length + (fblk (fkey l i)).length
  ·rw [if_pos hb]; exact ⟨h, hn⟩
  ·rw [if_neg hb]
   exact fortR_stk l n d (i + 1) _ (fadd_stk h (fblk_stk _)) (by rw [fadd_len]; omega)
theorem fortL_stk (l : List Int) {n : Nat} (h1 : 1 ≤ n) : Stk false (fortL l n).length (fortL l n) ∧ 1 ≤ (fortL l n).length ∧ (fortL l n).length ≤ n := by
 obtain ⟨a, b⟩ := fortR_stk l n n 0 [] ⟨rfl, fun x hx => (by cases hx), List.Pairwise.nil, fun _ x hx => (by cases hx)⟩ (Nat.zero_le _)
 unfold fortL
 by_cases hz : (fortR l n n 0 []).length = 0
 ·rw [if_pos hz]; exact ⟨fblk_stk 2, by decide, h1⟩
 ·rw [if_neg hz]; exact ⟨a, by omega, b⟩
end Go.Proofs.Ytepjhdblmghckaa.G


namespace Go.Proofs.Ytepjhdblmghckaa.Pure
open Go.Proofs.Ytepjhdblmghckaa.G Go.Proofs.Ytepjhdblmghckaa.K Go.Proofs.Ytepjhdblmghckaa.Bf
open Go.RowKit Go.Proofs.Ytepjhdblmghckaa.Q Go.Proofs.YtepjhdblmghckaaW.PrintWords Go.Proofs.YtepjhdblmghckaaW.PrintLast
set_option linter.unusedVariables false
theorem PancakeForts_w (a0 : Int) (A1 : Option Addr) (c1 : Nat) (l1 : List Int) (w : World) (hr1 : Kd.C (Kd.int .i64) w A1 l1.length l1) (hc1 : l1.length ≤ c1) :
  Calls Try.prog 3 #[.int .i64 a0, .slice A1 l1.length c1] w fun e w' => e = .returned (.bool true) ∧ Below w.heap.size w w' := by
 obtain ⟨N, hN1, hN, hNe⟩ := many_f a0 40 (by decide) (by decide)
 have h40 : bibelotlaw07_many.f a0 40 = some (N : Int) := hNe
 obtain ⟨hx0, hn1, hn⟩ := fortL_stk l1 hN1
 obtain ⟨x, hxe⟩ : ∃ x, fortL l1 N = x := ⟨_, rfl⟩
 rw [hxe] at hx0 hn1 hn
 have hx := hx0.signed
 have hn40 : x.length ≤ 40 := by omega
 have hs := isSt_stk (most := 40) hx hn1 (by omega)
 have hm : ∀ v, v ∈ x → v ≠ 0 ∧ -(x.length : Int) ≤ v ∧ v ≤ x.length := fun v hv => hx.rng v hv
 have hsm := hx.small (by omega : x.length ≤ 1000)
 have hdis : pancake_Distance.f x = some (disD x, 0) := by unfold pancake_Distance.f; rw [if_pos hs, dis_com hn40 hx]
 have hcom : pancake_Components.f x = some ((comD x).1, (comD x).2.1, (comD x).2.2.1, (comD x).2.2.2, 0) := by unfold pancake_Components.f; rw [if_pos hs, tal_com hn40 hx]
 have e2 := rcomponents_ev hn40 hm hsm
 have e5 := rdistance_ev hn40 hm hsm
 obtain ⟨K2, g2⟩ := e2
 obtain ⟨K5, g5⟩ := e5
 obtain ⟨K7, g7⟩ := awake_ev
 exact forts_calls (K2 + K5) a0 A1 c1 l1 w hr1 hc1 N hN x (disD x) (comD x).1 (comD x).2.1 (comD x).2.2.1 (comD x).2.2.2 h40 hxe hdis hcom (g2 _ (by omega)) (g5 _ (by omega)) (g7 K7 (Nat.le_refl _))
end Go.Proofs.Ytepjhdblmghckaa.Pure
