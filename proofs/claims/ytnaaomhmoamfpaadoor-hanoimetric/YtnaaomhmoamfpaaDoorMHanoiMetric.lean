/- HanoiMetric: without the reference: distances obey the laws of a metric, are 0 just for the same discs, and do not change if pegs are renamed in both; a move changes one by at most 1: the walk and the plain law, for every input. -/
import Derived.Test.YtnaaomhmoamfpaaDoorLHanoiMetric
/- HanoiPlays: the walk. -/
namespace Go.Proofs.YtnaaomhmoamfpaaDoor.G
set_option linter.unusedVariables false
set_option linter.unusedSimpArgs false
set_option linter.unusedSectionVars false
open Go.Proofs.YtnaaomhmoamfpaaDoor.Q Go.Proofs.YtnaaomhmoamfpaaDoor.Hn Go.Proofs.YtnaaomhmoamfpaaDoor.K
open Go.RowKit Go.Shelf Go.Proofs.YtnaaomhmoamfpaaDoorW.PrintWords Go.Proofs.YtnaaomhmoamfpaaDoorW.PrintLast Go.Proofs.YtnaaomhmoamfpaaDoorW.PrintMore
/-- A list that lies in blocks of ok, read at v. -/
def RdK {α : Type} (d : Kd α) (w : World) (ok : Nat → Prop) (v : Value) (l : List α) : Prop := ∃ A c, v = .slice A l.length c ∧ l.length ≤ c ∧ Kd.F d w ok A l.length l
section
variable {α : Type} {d : Kd α} {w w1 : World} {v : Value} {l : List α} {ok ok' : Nat → Prop}
theorem RdK.of {e base : Nat} (h : Kd.R d e w base ok v l) : RdK d w ok v l := by
  obtain ⟨A, c, rfl⟩ := Kd.R_slice h
  exact ⟨A, c, rfl, (Kd.R_reads' h).2.1, Kd.R_F h⟩
theorem RdK.below (h : RdK d w ok v l) (hb : Below w.heap.size w w1) : RdK d w1 ok v l := by
  obtain ⟨A, c, e, hl, hf⟩ := h
  exact ⟨A, c, e, hl, Kd.F_below hf hb⟩
theorem RdK.mono (h : RdK d w ok v l) (hk : ∀ k, ok k → ok' k) : RdK d w ok' v l := by
  obtain ⟨A, c, e, hl, hf⟩ := h
  exact ⟨A, c, e, hl, Kd.F_mono hf hk⟩
theorem RdK.step (h : RdK d w ok v l) (hm : ∀ k, ok k → k < w.heap.size → w1.heap[k]? = w.heap[k]?) : RdK d w1 ok v l := by
  obtain ⟨A, c, e, hl, hf⟩ := h
  exact ⟨A, c, e, hl, Kd.F_step hf hm⟩
theorem RdK.bound (h : RdK d w ok v l) : RdK d w (fun k => ok k ∧ k < w.heap.size) v l := by
  obtain ⟨A, c, e, hl, hf⟩ := h
  exact ⟨A, c, e, hl, Kd.F_bound hf⟩
end
theorem moves_calls' {x : List Int} (hb : okD x = true) {ok : Nat → Prop} (A : Option Addr) (c : Nat) (w : World) (h : RdK (Kd.int .i64) w ok (.slice A x.length c) x) :
    Calls Tryd.prog 42 #[.slice A x.length c, .int .i64 3] w fun e w' => ∃ v, e = .returned v ∧ Kd.R k52 52 w' w.heap.size (fun _ => True) v ((movesL x 3).map mkS) ∧ Below w.heap.size w w' := by
  obtain ⟨_, h1, _⟩ := (okD_iff x).1 hb
  obtain ⟨k, hk⟩ := Ev.rounds (rmoves_ev x 3 (by omega) (by omega))
  obtain ⟨A', c', e, hl, hf⟩ := h
  cases e
  exact bibelotref03_Moves.calls k A c x 3 _ w (Kd.F_now hf) hl hk
theorem rplay_calls' {x : List Int} (hx : x.length ≤ 40) (ms : List S52) (hm : ms.length ≤ 1000) {ok ok' : Nat → Prop} (A A1 : Option Addr) (c c1 : Nat) (w : World) (h : RdK (Kd.int .i64) w ok (.slice A x.length c) x) (h1 : RdK k52 w ok' (.slice A1 ms.length c1) ms) :
    Calls Tryd.prog 57 #[.slice A x.length c, .slice A1 ms.length c1, .int .i64 3] w fun e w' => ∃ v, e = .returned (.tuple #[v, .int .i64 ((playL x ms).2 : Int)]) ∧ Kd.R (Kd.int .i64) 3 w' w.heap.size (fun _ => True) v (playL x ms).1 ∧ Below w.heap.size w w' := by
  obtain ⟨k, hk⟩ := Ev.rounds (aplay_ev x ms (by omega) (by omega))
  obtain ⟨A', c', e, hl, hf⟩ := h
  cases e
  obtain ⟨A', c', e, hl1, hf1⟩ := h1
  cases e
  exact bibelotref03_Play.calls k A c x A1 c1 ms 3 _ _ w (Kd.F_now hf) hl (Kd.F_now hf1) hl1 hk
theorem play_calls' {x : List Int} (hx : okD x = true) (ms : List S52) {ok ok' : Nat → Prop} (A A1 : Option Addr) (c c1 : Nat) (w : World) (h : RdK (Kd.int .i64) w ok (.slice A x.length c) x) (h1 : RdK k52 w ok' (.slice A1 ms.length c1) ms) :
    Calls Tryd.prog 56 #[.slice A x.length c, .slice A1 ms.length c1] w fun e w' => ∃ v, e = .returned (.tuple #[v, .int .i64 ((playL x ms).2 : Int), .int .i64 0]) ∧ Kd.R (Kd.int .i64) 3 w' w.heap.size (fun _ => True) v (playL x ms).1 ∧ Below w.heap.size w w' := by
  obtain ⟨A', c', e, hl, hf⟩ := h
  cases e
  obtain ⟨A', c', e, hl1, hf1⟩ := h1
  cases e
  exact hanoi_Play.calls A c x A1 c1 ms _ _ _ w (Kd.F_now hf) hl (Kd.F_now hf1) hl1 (by unfold hanoi_Play.f; rw [if_pos hx])
theorem way_calls' (ms : List S52) : ∃ wy : List S52, wy.length ≤ 200 ∧ ∀ (A : Option Addr) (c : Nat) (w : World), Kd.C k52 w A ms.length ms → ms.length ≤ c →
    Calls Tryd.prog 55 #[.slice A ms.length c] w fun e w' => ∃ v, e = .returned v ∧ Kd.R k52 52 w' w.heap.size (fun _ => True) v wy ∧ Below w.heap.size w w' := by
  have hmn : 0 ≤ mn (ms.length : Int) 200 ∧ mn (ms.length : Int) 200 ≤ (ms.length : Int) ∧ mn (ms.length : Int) 200 ≤ 200 := by unfold mn; omega
  have h1 : (ms.take (mn (ms.length : Int) 200).toNat).length ≤ 200 := by rw [List.length_take]; omega
  obtain ⟨wy, hwy, hlw⟩ : ∃ wy, bibelotlaw03_way.f ms = some wy ∧ wy.length ≤ 200 := by
    unfold bibelotlaw03_way.f
    rw [if_pos hmn.1, if_pos hmn.2.1, Option.bind_some, if_pos (by simp only [List.length_nil]; omega)]
    exact ⟨_, rfl, by rw [List.nil_append]; exact h1⟩
  exact ⟨wy, hlw, fun A c w hr hc => bibelotlaw03_way.calls A c ms _ w hr hc hwy⟩
theorem ints_calls' {x : List Int} (hx : x.length ≤ 1000) (y : List Int) {ok ok' : Nat → Prop} (A A1 : Option Addr) (c c1 : Nat) (w : World) (h : RdK (Kd.int .i64) w ok (.slice A x.length c) x) (h1 : RdK (Kd.int .i64) w ok' (.slice A1 y.length c1) y) :
    Calls Tryd.prog 49 #[.slice A x.length c, .slice A1 y.length c1] w fun e w' => e = .returned (.bool (decide (x = y))) ∧ ∃ m, w' = w.drewN m := by
  obtain ⟨k, hk⟩ := Ev.rounds (ints_ev x y hx)
  obtain ⟨A', c', e, hl, hf⟩ := h
  cases e
  obtain ⟨A', c', e, hl1, hf1⟩ := h1
  cases e
  exact CallsMono (bibelotlaw03_ints.calls k A c x A1 c1 y _ w (Kd.F_now hf) hl (Kd.F_now hf1) hl1 hk)
theorem fresh_ne0 {W : World} {gb k : Nat} (h : gb < W.heap.size) (hk : W.heap.size ≤ k) : k ≠ gb := by omega
theorem fresh_ne {W : World} {gb k : Nat} {o : Obj} (h : gb < W.heap.size) (hk : (W.alloc o).heap.size ≤ k) : k ≠ gb := by
  simp at hk
  omega
def Hold (p : Prop) : Prop := p
theorem stopper {p : Prop} (h : Hold p) : p := h
theorem rd_one {W : World} {g : Nat} {p q : Int} (h : Blk W g #[.int .i64 p, .int .i64 q] 52) : RdK k52 W (fun k => k = g) (.slice (some ⟨g, 0, none⟩) 1 1) [⟨p, q⟩] := by
  refine ⟨some ⟨g, 0, none⟩, 1, rfl, Nat.le_refl _, fun W' hW => ?_⟩
  have hb : Blk W' g #[.int .i64 p, .int .i64 q] 52 := (hW g rfl h.lt).trans h
  refine ⟨rfl, by simp, fun _ => ⟨_, rfl, fun j x hj => ?_⟩⟩
  match j, hj with
  | 0, hj =>
    obtain rfl := Option.some.inj hj
    refine ⟨[.int .i64 p, .int .i64 q], rfl, k52.K_of_M (k52_mkM W' 0 (fun _ => True) _), fun k u hu => ?_⟩
    match k, hu with
    | 0, hu =>
      obtain rfl := Option.some.inj hu
      exact hb.cell 0 rfl
    | 1, hu =>
      obtain rfl := Option.some.inj hu
      exact hb.cell 1 rfl
    | k + 2, hu => cases hu
  | j + 1, hj => cases hj
theorem playL_len' (ms : List S52) : ∀ d : List Int, (playL d ms).1.length = d.length := by
  induction ms with
  | nil => intro d; rfl
  | cons m ms ih =>
    intro d
    rw [playL]
    split
    · show (playL (putM d m) ms).1.length = d.length
      rw [ih]; unfold putM; rw [List.length_set]
    · rfl
/-- What the moves become: each one that can be made. -/
structure PlN (l n : Nat) (v16 : Value) (now : List Int) (nx : List S52) (v15 : Value) (wo wi : World) : Prop where
  ok : okD now = true
  len : nx.length = n
  R : RdK (Kd.int .i64) wi (fun k => some k ≠ v16.ownBlock) v15 now
  N : Kd.R k52 52 wi wo.heap.size (fun _ => True) v16 nx
  bel : Below wo.heap.size wo wi
/-- One move out of those that can be made. -/
theorem pick_move {now : List Int} (ho : okD now = true) (z : Int) : ∃ (j : Nat) (p q : Int), j < ((movesL now 3).map mkS).length ∧ IntKind.i64.wrap (Int.tmod (IntKind.u64.wrap z) (IntKind.u64.wrap (((movesL now 3).map mkS).length : Int))) = (j : Int) ∧ ((movesL now 3).map mkS).length ≤ 120 ∧ 0 < ((movesL now 3).map mkS).length ∧
    rd_T52 ((movesL now 3).map mkS) (j : Int) = ⟨p, q⟩ ∧ (playL now [⟨p, q⟩]).2 = 1 ∧ okD (playL now [⟨p, q⟩]).1 = true := by
  obtain ⟨m0, m120⟩ := moves_some now ho
  have hL : (((movesL now 3).map mkS).length : Int) = ((movesL now 3).length : Int) := by rw [List.length_map]
  have hu : IntKind.u64.wrap ((movesL now 3).length : Int) = ((movesL now 3).length : Int) := u64w (by omega) (by omega)
  obtain ⟨b0, b1⟩ := umod_bd z ((movesL now 3).length : Int) (by omega)
  obtain ⟨j, hj⟩ := Int.eq_ofNat_of_zero_le b0
  have hjl : j < (movesL now 3).length := by omega
  obtain ⟨mv, hmv⟩ : ∃ mv, (movesL now 3)[j] = mv := ⟨_, rfl⟩
  have hmem : mv ∈ movesL now 3 := hmv ▸ List.getElem_mem hjl
  have hrd : rd_T52 ((movesL now 3).map mkS) (j : Int) = mkS mv := by simp [rd_T52, hjl, hmv]
  have hB : mvB now (mkS mv) = true := (mvB_mem now (mkS mv)).2 ⟨mv.1, mv.2, hmem, rfl, rfl⟩
  have hpl : playL now [mkS mv] = (putM now (mkS mv), 1) := by rw [playL, if_pos hB, playL]
  refine ⟨j, (mkS mv).f0, (mkS mv).f1, by rw [List.length_map]; exact hjl, ?_, by rw [List.length_map]; exact m120, by rw [List.length_map]; exact m0, hrd, by show (playL now [mkS mv]).2 = 1; rw [hpl], by show okD (playL now [mkS mv]).1 = true; rw [hpl]; exact putM_ok ho hB⟩
  rw [hL, hu, utmod, i64_w, w64 (by omega) (by omega), hj]
set_option maxHeartbeats 8000000 in
set_option maxRecDepth 100000 in
/-- One round of the inner loop: regions 15 to 18. -/
theorem plays_walk (n0 : Int) (A1 : Option Addr) (c1 : Nat) (l1 : List Int) (A2 : Option Addr) (c2 : Nat) (l2 : List S52) (w : World) (hr1 : Kd.C (Kd.int .i64) w A1 l1.length l1) (hc1 : l1.length ≤ c1) (hr2 : Kd.C k52 w A2 l2.length l2) (hc2 : l2.length ≤ c2) :
    Calls Tryd.prog 16 #[.int .i64 n0, .slice A1 l1.length c1, .slice A2 l2.length c2] w fun e w' => e = .returned (.bool true) ∧ Below w.heap.size w w' := by
  obtain ⟨n, hn1, hn40, hmn, hm⟩ := many_calls' n0 40 w (by omega) (by omega)
  have hdx := fun W hr => discs_calls' A1 c1 l1 n (by omega) W hr hc1
  have hox := discsL_ok l1 n hn1 hn40
  have hlx := discsL_len l1 n
  obtain ⟨wy, hwl, hwy⟩ := way_calls' l2
  obtain ⟨x, hx⟩ : ∃ x, discsL l1 n = x := ⟨_, rfl⟩
  rw [hx] at hlx hox
  simp only [hx] at hdx
  have HC1 := Aside0.mk hr1
  have HC2 := Aside0.mk hr2
  have HM := Aside0.mk hm
  have DX := Aside0.mk hdx
  have OKX := Aside0.mk hox
  have LX := Aside0.mk hlx
  have HW := Aside0.mk (fun W hr => hwy A2 c2 W hr hc2)
  have HWL := Aside0.mk hwl
  clear hr1 hr2 hm hdx hox hlx hmn hx hwy hwl
  go_enter Tryd.func16, Tryd.ntmps16
  go_wp2_with fail
  refine (HM.out _).mono ?_
  rintro e w1 ⟨rfl, ⟨m1, rfl⟩⟩
  go_wp2_with fail
  refine (DX.out _ (Kd.C_drewN HC1.out m1)).mono ?_
  rintro e w2 ⟨v7, rfl, ho, hb⟩
  have O7 := Aside0.mk (RdK.of ho)
  have B2 := Aside0.mk ((pw_below_drewN (Below.refl w.heap.size w) m1).trans hb)
  clear ho hb
  go_wp2_with fail
  refine (HW.out _ (Kd.C_below HC2.out B2.out)).mono ?_
  rintro e w3 ⟨v8, rfl, ho, hb⟩
  have O8 := Aside0.mk (RdK.of ho)
  replace O7 := Aside0.mk (O7.out.below hb)
  have B3 := Aside0.mk (B2.out.trans (hb.mono B2.out.size))
  clear ho hb HM DX HW B2
  obtain ⟨A7, c7, e7, _, _⟩ := O7.out
  subst e7
  go_wp2
  go_loopw [8, 9] (fun v8 r wr => ∃ (i : Nat) (wl : List S52) (A8 : Option Addr) (c8 : Nat), i ≤ 2 ∧ r = .int .i64 (i : Int) ∧ v8 = .slice A8 wl.length c8 ∧ wl.length ≤ 200 ∧ Aside0 (RdK k52 wr (fun _ => True) (.slice A8 wl.length c8) wl) ∧ Aside0 (Below w3.heap.size w3 wr)) (fun _ r _ => 2 - (intOf r).toNat)
  case atStart =>
    obtain ⟨A8, c8, e8, _, _⟩ := O8.out
    subst e8
    exact ⟨0, wy, A8, c8, by omega, rfl, rfl, HWL.out, O8, ⟨Below.refl _ _⟩⟩
  case round =>
    obtain ⟨i, wl, A8, c8, hi, rfl, rfl, hwl, RW, BR⟩ := hrel
    by_cases hi2 : i < 2
    · have P7 := Aside0.mk (O7.out.below BR.out)
      have hc9 : (i : Int) < 2 := by omega
      have hwi : IntKind.i64.wrap ((i : Int) + 1) = ((i + 1 : Nat) : Int) := by rw [i64_w, w64 (by omega) (by omega)]; omega
      obtain ⟨pl, hpl⟩ : ∃ pl, playL x wl = pl := ⟨_, rfl⟩
      have hpc := play_calls' OKX.out wl A7 A8 c7 c8 wr P7.out RW.out
      have hrc : ∀ W, Below wr.heap.size wr W → _ := fun W hW => rplay_calls' (x := x) (by have := (okD_iff x).1 OKX.out; omega) wl (by omega) A7 A8 c7 c8 W (P7.out.below hW) (RW.out.below hW)
      have hpn := playL_len' wl x
      simp only [hpl] at hpc hrc hpn
      have hpx : pl.1.length ≤ 1000 := by have := (okD_iff x).1 OKX.out; omega
      have HPC := Aside0.mk hpc
      have HRC := Aside0.mk hrc
      have HPX := Aside0.mk hpx
      clear hpc hrc hpl hpn hpx
      go_wp2_with fail
      refine HPC.out.mono ?_
      rintro e w4 ⟨v10, rfl, ho, hb⟩
      have O10 := Aside0.mk (RdK.of ho)
      have B4 := Aside0.mk hb
      clear ho hb
      go_wp2_with fail
      refine (HRC.out _ B4.out).mono ?_
      rintro e w5 ⟨v13, rfl, ho, hb⟩
      have O13 := Aside0.mk (RdK.of ho)
      replace O10 := Aside0.mk (O10.out.below hb)
      have B5 := Aside0.mk (B4.out.trans (hb.mono B4.out.size))
      clear ho hb HPC HRC B4
      obtain ⟨A10, c10, e10, _, _⟩ := O10.out
      subst e10
      obtain ⟨A13, c13, e13, _, _⟩ := O13.out
      subst e13
      have HIC := Aside0.mk (ints_calls' HPX.out pl.1 A10 A13 c10 c13 w5 O10.out O13.out)
      simp only [decide_true] at HIC
      go_wp2_with fail
      refine HIC.out.mono ?_
      rintro e w6 ⟨rfl, m6, rfl⟩
      replace B5 := Aside0.mk (pw_below_drewN B5.out m6)
      clear HIC O10 O13
      obtain ⟨W6, hW6⟩ : ∃ W, w5.drewN m6 = W := ⟨_, rfl⟩
      rw [hW6] at B5
      rw [hW6]
      clear hW6
      go_wp2
      obtain ⟨wo, hwo⟩ : ∃ z, z = wr := ⟨_, rfl⟩
      subst hwo
      go_loopw [15, 16, 17] (fun v15 v16 r wi => ∃ (t : Nat) (now : List Int) (nx : List S52) (A15 : Option Addr) (c15 : Nat), t ≤ wl.length ∧ r = .int .i64 (t : Int) ∧ v15 = .slice A15 now.length c15 ∧ Aside0 (PlN wl.length t v16 now nx (.slice A15 now.length c15) W6 wi)) (fun _ _ r _ => wl.length - (intOf r).toNat)
      case atStart => exact ⟨0, x, [], A7, c7, by omega, rfl, rfl, ⟨⟨OKX.out, rfl, (P7.out.below B5.out).mono (fun _ _ => by simp [Value.ownBlock]), Kd.R_nil _ _ _ _ _, Below.refl _ _⟩⟩⟩
      case round =>
        obtain ⟨t, now, nx, A15, c15, ht, rfl, rfl, HI⟩ := hrel
        by_cases htl : t < wl.length
        · have hc17 : (t : Int) < (wl.length : Int) := by omega
          have h0t : (0 : Int) ≤ (t : Int) := by omega
          have hwt : IntKind.i64.wrap ((t : Int) + 1) = ((t + 1 : Nat) : Int) := by rw [i64_w, w64 (by omega) (by omega)]; omega
          have BZ := Aside0.mk (B5.out.trans (HI.out.bel.mono B5.out.size))
          have MC := Aside0.mk (moves_calls' HI.out.ok A15 c15 wr HI.out.R)
          have hlt16 := Kd.R_lt HI.out.N
          have HL16 := Aside0.mk hlt16
          clear hlt16
          go_wp2_with fail
          refine MC.out.mono ?_
          rintro e wm ⟨v18, rfl, ho, hb⟩
          have BM := Aside0.mk hb
          obtain ⟨A18, c18, e18⟩ := Kd.R_slice ho
          subst e18
          obtain ⟨A8', c8', e8, hl8, hf8⟩ := RW.out.below (BZ.out.trans (hb.mono BZ.out.size))
          cases e8
          obtain ⟨ad8, e8, hx0, hx1⟩ := at_T52 (Kd.F_now hf8) (t : Int) h0t hc17
          subst e8
          obtain ⟨F0, hF0⟩ : ∃ F, (rd_T52 wl (t : Int)).f0 = F := ⟨_, rfl⟩
          obtain ⟨F1, hF1⟩ : ∃ F, (rd_T52 wl (t : Int)).f1 = F := ⟨_, rfl⟩
          rw [Int.toNat_natCast, hF0] at hx0
          rw [Int.toNat_natCast, hF1] at hx1
          obtain ⟨j, p, q, hj, hji, hc120, hc0, hrd, hpl1, hplo⟩ := pick_move HI.out.ok (IntKind.i64.wrap (F0 + F1))
          obtain ⟨ad18, e18, hy0, hy1⟩ := at_T52 (Kd.R_reads' ho).2.2 (j : Int) (by omega) (by omega)
          subst e18
          rw [hrd, Int.toNat_natCast] at hy0 hy1
          obtain ⟨can, hcan⟩ : ∃ can, (movesL now 3).map mkS = can := ⟨_, rfl⟩
          rw [hcan] at hj hc120 hc0 hji ⊢
          have hjl : (j : Int) < (can.length : Int) := by omega
          have hj0 : (0 : Int) ≤ (j : Int) := by omega
          have hu52 := Tryd.underlying52
          have hnz : ¬ (IntKind.u64.wrap (can.length : Int) = 0) := by rw [u64w (by omega) (by omega)]; omega
          have BD := Aside0.mk (show Below wr.heap.size wr wm.drew from hb.drew)
          have PL := Aside0.mk hplo
          have HF0 := Aside0.mk hF0
          clear MC ho hb hf8 hF0 hF1 hrd hpl1 hplo hcan
          go_upto_region 16 with fail
          refine start_ (n := 22) (S := fun w' => w'.cell? (ad8.add (t * 2)) = some (.int .i64 F0) ∧ w'.cell? ⟨(ad8.add (t * 2)).block, (ad8.add (t * 2)).off + 1, none⟩ = some (.int .i64 F1) ∧ w'.cell? (ad18.add (j * 2)) = some (.int .i64 p) ∧ w'.cell? ⟨(ad18.add (j * 2)).block, (ad18.add (j * 2)).off + 1, none⟩ = some (.int .i64 q)) (ds := [21]) #[false, false, false, false, false, false, false, false, false, false, false, false, false, false, false, false, false, false, false, false, false, false] (by kernel_rfl) rfl rfl ⟨hx0, hx1, hy0, hy1⟩ (fun hHeld => ?_)
          generalize wm.drew = wd at hHeld BD ⊢
          clear hx0 hx1 hy0 hy1
          refine pure_ (i := 0) (N := (some 65)) (v := ?_) (a' := ?_) #[true, false, false, false, false, false, false, false, false, false, false, false, false, false, false, false, false, false, false, false, false, false] rfl rfl (by kernel_rfl) (fun _ _ _ h => h) (Or.inl ⟨by rfl, ?_⟩) ?_ ?_
          rotate_left
          · intro w'
            go_simp
            with_reducible rfl
          rotate_left
          · simp only [Act.put, List.setIfInBounds_toArray, List.set_cons_zero, List.set_cons_succ]
            rfl
          refine pure_ (i := 1) (N := (some 66)) (v := ?_) (a' := ?_) #[true, true, false, false, false, false, false, false, false, false, false, false, false, false, false, false, false, false, false, false, false, false] rfl rfl (by kernel_rfl) (fun _ _ _ h => h) (Or.inl ⟨by rfl, ?_⟩) ?_ ?_
          rotate_left
          · intro w'
            go_simp
            with_reducible rfl
          rotate_left
          · simp only [Act.put, List.setIfInBounds_toArray, List.set_cons_zero, List.set_cons_succ]
            rfl
          refine pure_ (i := 2) (N := (some 67)) (v := ?_) (a' := ?_) #[true, true, true, false, false, false, false, false, false, false, false, false, false, false, false, false, false, false, false, false, false, false] rfl rfl (by kernel_rfl) (fun _ _ _ h => h) (Or.inl ⟨by rfl, ?_⟩) ?_ ?_
          rotate_left
          · intro w'
            go_simp
            with_reducible rfl
          rotate_left
          · simp only [Act.put, List.setIfInBounds_toArray, List.set_cons_zero, List.set_cons_succ]
            rfl
          refine pure_ (i := 3) (N := (some 68)) (v := ?_) (a' := ?_) #[true, true, true, true, false, false, false, false, false, false, false, false, false, false, false, false, false, false, false, false, false, false] rfl rfl (by kernel_rfl) (fun _ _ _ h => h) (Or.inl ⟨by rfl, ?_⟩) ?_ ?_
          rotate_left
          · intro w'
            go_simp
            with_reducible rfl
          rotate_left
          · simp only [Act.put, List.setIfInBounds_toArray, List.set_cons_zero, List.set_cons_succ]
            rfl
          refine pure_ (i := 4) (N := (some 69)) (v := ?_) (a' := ?_) #[true, true, true, true, true, false, false, false, false, false, false, false, false, false, false, false, false, false, false, false, false, false] rfl rfl (by kernel_rfl) (fun _ _ _ h => h) (Or.inl ⟨by rfl, ?_⟩) ?_ ?_
          rotate_left
          · intro w'
            go_simp
            with_reducible rfl
          rotate_left
          · simp only [Act.put, List.setIfInBounds_toArray, List.set_cons_zero, List.set_cons_succ]
            rfl
          refine take_ (i := 5) (N := (some 70)) (v := ?_) (a' := ?_) #[true, true, true, true, true, true, false, false, false, false, false, false, false, false, false, false, false, false, false, false, false, false] rfl rfl (by kernel_rfl) (fun _ _ _ h => h) (Or.inl ⟨by rfl, ?_⟩) hHeld ?_ ?_
          rotate_left
          · rintro w' ⟨s0, s1, s2, s3⟩
            go_simp
            with_reducible rfl
          rotate_left
          · simp only [Act.put, List.setIfInBounds_toArray, List.set_cons_zero, List.set_cons_succ]
            rfl
          refine pure_ (i := 6) (N := (some 71)) (v := ?_) (a' := ?_) #[true, true, true, true, true, true, true, false, false, false, false, false, false, false, false, false, false, false, false, false, false, false] rfl rfl (by kernel_rfl) (fun _ _ _ h => h) (Or.inl ⟨by rfl, ?_⟩) ?_ ?_
          rotate_left
          · intro w'
            go_simp
            with_reducible rfl
          rotate_left
          · simp only [Act.put, List.setIfInBounds_toArray, List.set_cons_zero, List.set_cons_succ]
            rfl
          refine pure_ (i := 7) (N := (some 72)) (v := ?_) (a' := ?_) #[true, true, true, true, true, true, true, true, false, false, false, false, false, false, false, false, false, false, false, false, false, false] rfl rfl (by kernel_rfl) (fun _ _ _ h => h) (Or.inl ⟨by rfl, ?_⟩) ?_ ?_
          rotate_left
          · intro w'
            go_simp
            with_reducible rfl
          rotate_left
          · simp only [Act.put, List.setIfInBounds_toArray, List.set_cons_zero, List.set_cons_succ]
            rfl
          refine pure_ (i := 8) (N := (some 73)) (v := ?_) (a' := ?_) #[true, true, true, true, true, true, true, true, true, false, false, false, false, false, false, false, false, false, false, false, false, false] rfl rfl (by kernel_rfl) (fun _ _ _ h => h) (Or.inl ⟨by rfl, ?_⟩) ?_ ?_
          rotate_left
          · intro w'
            go_simp
            with_reducible rfl
          rotate_left
          · simp only [Act.put, List.setIfInBounds_toArray, List.set_cons_zero, List.set_cons_succ]
            rfl
          refine pure_ (i := 9) (N := (some 74)) (v := ?_) (a' := ?_) #[true, true, true, true, true, true, true, true, true, true, false, false, false, false, false, false, false, false, false, false, false, false] rfl rfl (by kernel_rfl) (fun _ _ _ h => h) (Or.inl ⟨by rfl, ?_⟩) ?_ ?_
          rotate_left
          · intro w'
            go_simp
            with_reducible rfl
          rotate_left
          · simp only [Act.put, List.setIfInBounds_toArray, List.set_cons_zero, List.set_cons_succ]
            rfl
          refine take_ (i := 10) (N := (some 75)) (v := ?_) (a' := ?_) #[true, true, true, true, true, true, true, true, true, true, true, false, false, false, false, false, false, false, false, false, false, false] rfl rfl (by kernel_rfl) (fun _ _ _ h => h) (Or.inl ⟨by rfl, ?_⟩) hHeld ?_ ?_
          rotate_left
          · rintro w' ⟨s0, s1, s2, s3⟩
            go_simp
            with_reducible rfl
          rotate_left
          · simp only [Act.put, List.setIfInBounds_toArray, List.set_cons_zero, List.set_cons_succ]
            rfl
          refine pure_ (i := 11) (N := (some 76)) (v := ?_) (a' := ?_) #[true, true, true, true, true, true, true, true, true, true, true, true, false, false, false, false, false, false, false, false, false, false] rfl rfl (by kernel_rfl) (fun _ _ _ h => h) (Or.inl ⟨by rfl, ?_⟩) ?_ ?_
          rotate_left
          · intro w'
            go_simp
            with_reducible rfl
          rotate_left
          · simp only [Act.put, List.setIfInBounds_toArray, List.set_cons_zero, List.set_cons_succ]
            rfl
          refine pure_ (i := 12) (N := (some 77)) (v := ?_) (a' := ?_) #[true, true, true, true, true, true, true, true, true, true, true, true, true, false, false, false, false, false, false, false, false, false] rfl rfl (by kernel_rfl) (fun _ _ _ h => h) (Or.inl ⟨by rfl, ?_⟩) ?_ ?_
          rotate_left
          · intro w'
            go_simp
            with_reducible rfl
          rotate_left
          · simp only [Act.put, List.setIfInBounds_toArray, List.set_cons_zero, List.set_cons_succ]
            rfl
          refine pure_ (i := 13) (N := (some 78)) (v := ?_) (a' := ?_) #[true, true, true, true, true, true, true, true, true, true, true, true, true, true, false, false, false, false, false, false, false, false] rfl rfl (by kernel_rfl) (fun _ _ _ h => h) (Or.inl ⟨by rfl, ?_⟩) ?_ ?_
          rotate_left
          · intro w'
            go_simp
            with_reducible rfl
          rotate_left
          · simp only [Act.put, List.setIfInBounds_toArray, List.set_cons_zero, List.set_cons_succ]
            rfl
          refine pure_ (i := 14) (N := (some 79)) (v := ?_) (a' := ?_) #[true, true, true, true, true, true, true, true, true, true, true, true, true, true, true, false, false, false, false, false, false, false] rfl rfl (by kernel_rfl) (fun _ _ _ h => h) (Or.inl ⟨by rfl, ?_⟩) ?_ ?_
          rotate_left
          · intro w'
            go_simp
            with_reducible rfl
          rotate_left
          · simp only [Act.put, List.setIfInBounds_toArray, List.set_cons_zero, List.set_cons_succ]
            rfl
          refine pure_ (i := 15) (N := (some 80)) (v := ?_) (a' := ?_) #[true, true, true, true, true, true, true, true, true, true, true, true, true, true, true, true, false, false, false, false, false, false] rfl rfl (by kernel_rfl) (fun _ _ _ h => h) (Or.inl ⟨by rfl, ?_⟩) ?_ ?_
          rotate_left
          · intro w'
            go_simp
            with_reducible rfl
          rotate_left
          · simp only [Act.put, List.setIfInBounds_toArray, List.set_cons_zero, List.set_cons_succ]
            rfl
          refine pure_ (i := 16) (N := (some 81)) (v := ?_) (a' := ?_) #[true, true, true, true, true, true, true, true, true, true, true, true, true, true, true, true, true, false, false, false, false, false] rfl rfl (by kernel_rfl) (fun _ _ _ h => h) (Or.inl ⟨by rfl, ?_⟩) ?_ ?_
          rotate_left
          · intro w'
            go_simp
            with_reducible rfl
          rotate_left
          · simp only [Act.put, List.setIfInBounds_toArray, List.set_cons_zero, List.set_cons_succ]
            rfl
          refine pure_ (i := 17) (N := (some 82)) (v := ?_) (a' := ?_) #[true, true, true, true, true, true, true, true, true, true, true, true, true, true, true, true, true, true, false, false, false, false] rfl rfl (by kernel_rfl) (fun _ _ _ h => h) (Or.inl ⟨by rfl, ?_⟩) ?_ ?_
          rotate_left
          · intro w'
            go_simp
            with_reducible rfl
          rotate_left
          · simp only [Act.put, List.setIfInBounds_toArray, List.set_cons_zero, List.set_cons_succ]
            rfl
          refine pure_ (i := 18) (N := (some 83)) (v := ?_) (a' := ?_) #[true, true, true, true, true, true, true, true, true, true, true, true, true, true, true, true, true, true, true, false, false, false] rfl rfl (by kernel_rfl) (fun _ _ _ h => h) (Or.inl ⟨by rfl, ?_⟩) ?_ ?_
          rotate_left
          · intro w'
            go_simp
            with_reducible rfl
          rotate_left
          · simp only [Act.put, List.setIfInBounds_toArray, List.set_cons_zero, List.set_cons_succ]
            rfl
          refine take_ (i := 19) (N := (some 84)) (v := ?_) (a' := ?_) #[true, true, true, true, true, true, true, true, true, true, true, true, true, true, true, true, true, true, true, true, false, false] rfl rfl (by kernel_rfl) (fun _ _ _ h => h) (Or.inl ⟨by rfl, ?_⟩) hHeld ?_ ?_
          rotate_left
          · rintro w' ⟨s0, s1, s2, s3⟩
            go_simp
            with_reducible rfl
          rotate_left
          · simp only [Act.put, List.setIfInBounds_toArray, List.set_cons_zero, List.set_cons_succ]
            rfl
          refine one_ (i := 20) (N := (some 19)) #[true, true, true, true, true, true, true, true, true, true, true, true, true, true, true, true, true, true, true, true, true, false] rfl rfl (by kernel_rfl) (by decide) (fun K hK => ?_)
          refine box_step ?hg (N := 19) ?hd (cs := #[.int .i64 0, .int .i64 0]) (t := 52) ?hr ?_
          case hd => rfl
          case hg => rfl
          case hr => first | (go_simp; done) | (go_simp; rfl)
          intro gb hg wb hbox hb
          have hs0 := (hb.cell (World.block_lt_of_cell? _ _ hHeld.1)).trans hHeld.1
          have hs1 := (hb.cell (World.block_lt_of_cell? _ _ hHeld.2.1)).trans hHeld.2.1
          have hs2 := (hb.cell (World.block_lt_of_cell? _ _ hHeld.2.2.1)).trans hHeld.2.2.1
          have hs3 := (hb.cell (World.block_lt_of_cell? _ _ hHeld.2.2.2)).trans hHeld.2.2.2
          have BB := Aside0.mk (BD.out.trans (hb.mono BD.out.size))
          have GB := Aside0.mk (show wr.heap.size ≤ gb by rw [hg]; exact BD.out.size)
          have BK := Aside0.mk (show Blk wb gb #[.int .i64 0, .int .i64 0] 52 from hbox)
          refine hK.out _ _ ⟨hs0, hs1, hs2, hs3⟩ (fun hHeld => ?_)
          clear hK K hs0 hs1 hs2 hs3 hb hbox hg
          refine norm_ (a' := ?_) ?_ ?_
          rotate_left
          · show Act.put _ (some 19) _ = _
            simp only [Act.put, List.setIfInBounds_toArray, List.set_cons_zero, List.set_cons_succ]
            rfl
          refine last_ (i := 21) (N := none) #[true, true, true, true, true, true, true, true, true, true, true, true, true, true, true, true, true, true, true, true, true, true] rfl rfl (by kernel_rfl) (by decide) (fun K hK => ?_)
          have hs0 := BK.out.cell 0 (v := .int .i64 0) rfl
          have hf0 := BK.out.free 0
          have hs1 := BK.out.cell 1 (v := .int .i64 0) rfl
          have hf1 := BK.out.free 1
          refine skip_ (w1 := ?_) (by rfl) rfl ?_ ?_
          rotate_left
          · go_simp
            rfl
          refine hK.out _ _ ?_
          clear hK K hs0 hf0 hs1 hf1
          refine done_ (by kernel_rfl) ?_
          have HS1 := Aside0.mk (show Below wr.heap.size wr ((wb.setCell ⟨gb, 0, none⟩ (.int .i64 p)).setCell ⟨gb, 1, none⟩ (.int .i64 q)) from (BB.out.setCell GB.out _).setCell GB.out _)
          have HS2 := Aside0.mk (show Blk ((wb.setCell ⟨gb, 0, none⟩ (.int .i64 p)).setCell ⟨gb, 1, none⟩ (.int .i64 q)) gb #[.int .i64 p, .int .i64 q] 52 from (BK.out.set 0 _).set 1 _)
          have HS3 := Aside0.mk (show Kd.R k52 52 ((wb.setCell ⟨gb, 0, none⟩ (.int .i64 p)).setCell ⟨gb, 1, none⟩ (.int .i64 q)) W6.heap.size (fun k => k ≠ gb) u16 nx from Kd.R_far (p := ⟨gb, 1, none⟩) (Kd.R_far (p := ⟨gb, 0, none⟩) (Kd.R_below (Kd.R_mono (Kd.R_elderB HI.out.N gb GB.out) (fun k hk => hk.2)) BB.out) (fun k hk => hk) _) (fun k hk => hk) _)
          obtain ⟨Ws, hWs⟩ : ∃ W, (wb.setCell ⟨gb, 0, none⟩ (.int .i64 p)).setCell ⟨gb, 1, none⟩ (.int .i64 q) = W := ⟨_, rfl⟩
          rw [hWs] at HS1 HS2 HS3
          rw [hWs]
          clear hWs BK hHeld hji hnz
          have HS4 := Aside0.mk (HI.out.R.below HS1.out)
          have hk0 := HS2.out.cell 0 (v := .int .i64 p) rfl
          have hk1 := HS2.out.cell 1 (v := .int .i64 q) rfl
          have HG := Aside0.mk (show u16.ownBlock ≠ some gb from fun e => by have := HL16.out gb e; have := GB.out; omega)
          go_wp2_with ((with_reducible refine gate_builtin (b := .append) (xs := #[.tmp 85, .tmp 87]) rfl ?_); at_builtin; refine stopper ?_)
          unfold Hold
          refine Kd.R_append k52 (w0 := W6) W6.heap.size rfl (.tmp 85) (.tmp 87) 48 52 (.agg #[(.int .i64 0), (.int .i64 0)]) 16 rfl Go.Proofs.YtnaaomhmoamfpaaDoor.G.u48 info52 rfl (by decide) (by omega) u16 nx (⟨p, q⟩ : S52) [.int .i64 p, .int .i64 q] (fun k => k ≠ gb) (fun _ => False) (by rfl) (by first | (go_simp; done) | (go_simp; rfl)) (k52_mkM _ _ _ (⟨p, q⟩ : S52)) (fun _ hk => hk.elim) (fun k hk => fresh_ne0 HS2.out.lt hk) HS3.out (HI.out.bel.trans (HS1.out.mono HI.out.bel.size)) ((HI.out.bel.trans (HS1.out.mono HI.out.bel.size)).size) (by have := HI.out.len; omega) ?_
          intro va wa ho hb hg hat
          have NA := Aside0.mk ho
          have BA := Aside0.mk hb
          have RA := Aside0.mk (RdK.step HS4.out (fun k hk hlt => hg.block k hlt hk))
          have hz0 := (Blk.grown HS2.out hg HG.out).cell 0 (v := .int .i64 p) rfl
          have hz1 := (Blk.grown HS2.out hg HG.out).cell 1 (v := .int .i64 q) rfl
          clear ho hb hg hat
          go_wp2_with fail
          have HX := Aside0.mk (show now.length ≤ 40 from ((okD_iff now).1 HI.out.ok).2.1)
          refine (rplay_calls' (x := now) HX.out [⟨p, q⟩] (by simp) A15 (some ⟨wa.heap.size, 0, none⟩) c15 1 _ (RA.out.below ((Below.refl _ wa).alloc (Nat.le_refl _) _)) (rd_one (Blk.new wa _ 52))).mono ?_
          rintro e wq ⟨v15', rfl, ho, hb⟩
          obtain ⟨nw, hnw⟩ : ∃ nw, (playL now [⟨p, q⟩]).1 = nw := ⟨_, rfl⟩
          rw [hnw] at ho PL
          clear hnw
          obtain ⟨A', c', e'⟩ := Kd.R_slice ho
          subst e'
          have X1 := Aside0.mk (show RdK (Kd.int .i64) wq (fun k => some k ≠ va.ownBlock) (.slice A' nw.length c') nw from RdK.of (Kd.R_mono (Kd.R_new' ho (fun k e => by have := Kd.R_lt NA.out k e; simp; omega)) (fun _ h => h.2)))
          have X2 := Aside0.mk (show Kd.R k52 52 wq W6.heap.size (fun _ => True) va (nx ++ [⟨p, q⟩]) from Kd.R_mono (Kd.R_below (Kd.R_alloc NA.out _) hb) (fun _ _ => trivial))
          have X3 := Aside0.mk (show Below W6.heap.size W6 wq from (BA.out.alloc BA.out.size _).trans (hb.mono (by have := BA.out.size; simp; omega)))
          clear ho hb
          go_wp2
          go_roundw
          case rel => exact ⟨t + 1, nw, nx ++ [⟨p, q⟩], A', c', by omega, rfl, rfl, ⟨⟨PL.out, by rw [List.length_append, HI.out.len]; rfl, X1.out, X2.out, X3.out⟩⟩⟩
          case measure => simp [intOf]; omega
        · obtain rfl : t = wl.length := by omega
          obtain ⟨A16, c16, e16⟩ := Kd.R_slice HI.out.N
          subst e16
          go_wp2
          go_roundw
          case rel => exact ⟨i + 1, nx, A16, c16, by omega, rfl, rfl, by have := HI.out.len; omega, ⟨RdK.of HI.out.N⟩, ⟨BR.out.trans ((B5.out.trans (HI.out.bel.mono B5.out.size)).mono BR.out.size)⟩⟩
          case measure => simp [intOf]; omega
    · obtain rfl : i = 2 := by omega
      go_wp2_with fail
      refine (awake_calls' wr).mono ?_
      rintro e w9 ⟨rfl, hb9⟩
      go_wp2
      go_ret
      exact ⟨rfl, B3.out.trans ((BR.out.trans (hb9.mono BR.out.size)).mono B3.out.size)⟩
end Go.Proofs.YtnaaomhmoamfpaaDoor.G
/- Metric: how many moves there are; the laws of a metric, for lists of discs. -/
namespace Go.Proofs.YtnaaomhmoamfpaaDoor.G
set_option linter.unusedVariables false
set_option linter.unusedSimpArgs false
set_option linter.unusedSectionVars false
open Go.Proofs.YtnaaomhmoamfpaaDoor.Q Go.Proofs.YtnaaomhmoamfpaaDoor.Hn Go.Proofs.YtnaaomhmoamfpaaDoor.K
open Go.RowKit Go.Proofs.YtnaaomhmoamfpaaDoorW.PrintWords Go.Proofs.YtnaaomhmoamfpaaDoorW.PrintLast Go.Proofs.YtnaaomhmoamfpaaDoorW.PrintMore
def one01 (b : Bool) : Nat := if b then 1 else 0
theorem movesTo3_len (l : List Int) (i : Nat) : (movesTo l i 3).length = one01 (!cov l i 0 && decide ((0 : Int) ≠ nth l i)) + one01 (!cov l i 1 && decide ((1 : Int) ≠ nth l i)) + one01 (!cov l i 2 && decide ((2 : Int) ≠ nth l i)) := by
  unfold movesTo
  rw [List.length_map, show List.range 3 = [0, 1, 2] from rfl]
  simp only [List.filter_cons, List.filter_nil, Int.natCast_zero, Int.natCast_one, show ((2 : Nat) : Int) = 2 from rfl]
  generalize (!cov l i 0 && decide ((0 : Int) ≠ nth l i)) = a
  generalize (!cov l i 1 && decide ((1 : Int) ≠ nth l i)) = b
  generalize (!cov l i 2 && decide ((2 : Int) ≠ nth l i)) = c
  cases a <;> cases b <;> cases c <;> rfl
theorem one_t {b : Bool} (h : b = true) : one01 b = 1 := by rw [h]; rfl
theorem one_f {b : Bool} (h : b = false) : one01 b = 0 := by rw [h]; rfl
theorem free_t {l : List Int} {i : Nat} {q : Int} (hi : i ≤ l.length) (h : ∀ j, j < i → nth l j ≠ q) (hne : q ≠ nth l i) : (!cov l i q && decide (q ≠ nth l i)) = true := by
  rw [(cov_no l q i hi).2 h, decide_eq_true hne]; rfl
theorem free_f {l : List Int} {i : Nat} {q : Int} (hi : i ≤ l.length) (h : (∃ j, j < i ∧ nth l j = q) ∨ q = nth l i) : (!cov l i q && decide (q ≠ nth l i)) = false := by
  rcases h with h | h
  · rw [(cov_iff l q i hi).2 h]; rfl
  · rw [decide_eq_false (fun hn => hn h), Bool.and_false]
theorem movesAt_zero (l : List Int) (h0 : 0 < l.length) (hp : Peg (nth l 0)) : (movesAt l 3 0).length = 2 := by
  unfold movesAt
  have hc : ∀ q, cov l 0 q = false := fun q => cov_zero l q
  rw [if_neg (by rw [hc]; decide), movesTo3_len]
  have no : ∀ q : Int, q ≠ nth l 0 → one01 (!cov l 0 q && decide (q ≠ nth l 0)) = 1 := fun q hq => one_t (free_t (Nat.zero_le _) (fun j hj => absurd hj (by omega)) hq)
  have ye : ∀ q : Int, q = nth l 0 → one01 (!cov l 0 q && decide (q ≠ nth l 0)) = 0 := fun q hq => one_f (free_f (Nat.zero_le _) (.inr hq))
  unfold Peg at hp
  rcases (by omega : nth l 0 = 0 ∨ nth l 0 = 1 ∨ nth l 0 = 2) with e | e | e
  · rw [ye 0 (by omega), no 1 (by omega), no 2 (by omega)]
  · rw [no 0 (by omega), ye 1 (by omega), no 2 (by omega)]
  · rw [no 0 (by omega), no 1 (by omega), ye 2 (by omega)]
theorem movesAt_one (l : List Int) (n : Nat) (hn0 : 0 < n) (hn : n < l.length) (hp0 : Peg (nth l 0)) (hp : Peg (nth l n)) (hs : ∀ j, j < n → nth l j = nth l 0) (hne : nth l n ≠ nth l 0) : (movesAt l 3 n).length = 1 := by
  unfold movesAt
  rw [if_neg (by rw [Bool.not_eq_true]; exact (cov_no l _ n (by omega)).2 (fun j hj e => hne (e.symm.trans (hs j hj)))), movesTo3_len]
  have no : ∀ q : Int, q ≠ nth l n → q ≠ nth l 0 → one01 (!cov l n q && decide (q ≠ nth l n)) = 1 := fun q h1 h2 => one_t (free_t (by omega) (fun j hj e => h2 (e.symm.trans (hs j hj))) h1)
  have ye : ∀ q : Int, q = nth l n ∨ q = nth l 0 → one01 (!cov l n q && decide (q ≠ nth l n)) = 0 := fun q hq => one_f (free_f (by omega) (by
    rcases hq with hq | hq
    · exact .inr hq
    · exact .inl ⟨0, hn0, hq.symm⟩))
  unfold Peg at hp hp0
  rcases (by omega : (nth l 0 = 0 ∧ nth l n = 1) ∨ (nth l 0 = 0 ∧ nth l n = 2) ∨ (nth l 0 = 1 ∧ nth l n = 0) ∨ (nth l 0 = 1 ∧ nth l n = 2) ∨ (nth l 0 = 2 ∧ nth l n = 0) ∨ (nth l 0 = 2 ∧ nth l n = 1)) with e | e | e | e | e | e
  · rw [ye 0 (by omega), ye 1 (by omega), no 2 (by omega) (by omega)]
  · rw [ye 0 (by omega), no 1 (by omega) (by omega), ye 2 (by omega)]
  · rw [ye 0 (by omega), ye 1 (by omega), no 2 (by omega) (by omega)]
  · rw [no 0 (by omega) (by omega), ye 1 (by omega), ye 2 (by omega)]
  · rw [ye 0 (by omega), no 1 (by omega) (by omega), ye 2 (by omega)]
  · rw [no 0 (by omega) (by omega), ye 1 (by omega), ye 2 (by omega)]
theorem movesAt_cov (l : List Int) (n : Nat) (hn : n < l.length) (h : ∃ j, j < n ∧ nth l j = nth l n) : (movesAt l 3 n).length = 0 := by
  unfold movesAt
  rw [if_pos ((cov_iff l _ n (by omega)).2 h)]; rfl
theorem movesAt_none (l : List Int) (n : Nat) (hn0 : 0 < n) (hn : n < l.length) (hp0 : Peg (nth l 0)) (hp : Peg (nth l n)) (hj : ∃ j, j < n ∧ Peg (nth l j) ∧ nth l j ≠ nth l 0) : (movesAt l 3 n).length = 0 := by
  by_cases hc : ∃ j, j < n ∧ nth l j = nth l n
  · exact movesAt_cov l n hn hc
  · unfold movesAt
    have hc' : ∀ j, j < n → nth l j ≠ nth l n := fun j hj e => hc ⟨j, hj, e⟩
    rw [if_neg (by rw [Bool.not_eq_true]; exact (cov_no l _ n (by omega)).2 hc'), movesTo3_len]
    obtain ⟨j, hj, hpj, hne⟩ := hj
    have h1 := hc' j hj
    have h2 := hc' 0 hn0
    have ye : ∀ q : Int, Peg q → one01 (!cov l n q && decide (q ≠ nth l n)) = 0 := fun q hq => one_f (free_f (by omega) (by
      unfold Peg at hp hp0 hpj hq
      by_cases e1 : q = nth l n
      · exact .inr e1
      · by_cases e2 : q = nth l 0
        · exact .inl ⟨0, hn0, e2.symm⟩
        · exact .inl ⟨j, hj, by omega⟩))
    rw [ye 0 (by unfold Peg; omega), ye 1 (by unfold Peg; omega), ye 2 (by unfold Peg; omega)]
theorem movesIn_cnt (l : List Int) (hd : ∀ i, i < l.length → Peg (nth l i)) (n : Nat) (h1 : n + 1 ≤ l.length) : ((∀ j, j < n + 1 → nth l j = nth l 0) ∧ (movesIn l 3 (n + 1)).length = 2) ∨ ((∃ j, j < n + 1 ∧ nth l j ≠ nth l 0) ∧ (movesIn l 3 (n + 1)).length = 3) := by
  induction n with
  | zero =>
    refine .inl ⟨fun j hj => by rw [show j = 0 by omega], ?_⟩
    rw [movesIn_succ, List.length_append, movesAt_zero l (by omega) (hd 0 (by omega))]; rfl
  | succ n ih =>
    rw [movesIn_succ, List.length_append]
    rcases ih (by omega) with ⟨a, e⟩ | ⟨⟨j, hj, hne⟩, e⟩
    · by_cases c : nth l (n + 1) = nth l 0
      · refine .inl ⟨fun j hj => ?_, ?_⟩
        · by_cases cj : j = n + 1
          · rw [cj]; exact c
          · exact a j (by omega)
        · rw [e, movesAt_cov l (n + 1) (by omega) ⟨0, by omega, c.symm⟩]
      · exact .inr ⟨⟨n + 1, by omega, c⟩, by rw [e, movesAt_one l (n + 1) (by omega) (by omega) (hd 0 (by omega)) (hd _ (by omega)) a c]⟩
    · exact .inr ⟨⟨j, by omega, hne⟩, by rw [e, movesAt_none l (n + 1) (by omega) (by omega) (hd 0 (by omega)) (hd _ (by omega)) ⟨j, hj, hd j (by omega), hne⟩]⟩
theorem moves_len3 (x : List Int) (h : okD x = true) : 2 ≤ (movesL x 3).length ∧ (movesL x 3).length ≤ 3 := by
  obtain ⟨h0, h1, hd⟩ := (okD_iff x).1 h
  obtain ⟨n, hn⟩ : ∃ n, x.length = n + 1 := ⟨x.length - 1, by omega⟩
  have := movesIn_cnt x hd n (by omega)
  rw [← hn] at this
  unfold movesL
  rcases this with ⟨_, e⟩ | ⟨_, e⟩
  · rw [e]; decide
  · rw [e]; decide
/-- The first move that can be made, made. -/
theorem play_first (x : List Int) (h : okD x = true) : ∃ (m : S52) (ms : List S52) (y : List Int), (movesL x 3).map mkS = m :: ms ∧ hanoi_Play.f x [m] = some (y, 1, 0) ∧ okD y = true ∧ y.length = x.length ∧
    ∀ t : Nat → Int, Discs t x.length → dst (nth y) t x.length ≤ dst (nth x) t x.length + 1 ∧ dst (nth x) t x.length ≤ dst (nth y) t x.length + 1 := by
  obtain ⟨h0, h1, hd⟩ := (okD_iff x).1 h
  have hl := moves_len3 x h
  obtain ⟨mv, r, hm⟩ : ∃ mv r, movesL x 3 = mv :: r := List.exists_cons_of_length_pos (by omega)
  have hmem : mv ∈ movesL x 3 := by rw [hm]; exact List.mem_cons_self ..
  have hB : mvB x (mkS mv) = true := (mvB_mem x (mkS mv)).2 ⟨mv.1, mv.2, hmem, rfl, rfl⟩
  obtain ⟨g1, g2, g3, g4⟩ := moves_mem.1 (show (mv.1, mv.2) ∈ movesL x 3 from hmem)
  have hput : putM x (mkS mv) = x.set mv.1 (mv.2 : Int) := by unfold putM; rfl
  refine ⟨mkS mv, r.map mkS, putM x (mkS mv), by rw [hm]; rfl, ?_, putM_ok h hB, putM_len _ _, fun t ht => ?_⟩
  · unfold hanoi_Play.f
    rw [if_pos h, playL, if_pos hB, playL]; rfl
  · have e : dst (nth (putM x (mkS mv))) t x.length = dst (upd (nth x) mv.1 (mv.2 : Int)) t x.length := dst_congr (fun i hi => by
      rw [hput]
      by_cases c : i = mv.1
      · subst c; rw [upd_same]; simp [nth, hi]
      · rw [upd_other _ _ c]
        simp only [nth]
        rw [List.getD_eq_getElem?_getD, List.getElem?_set_ne (fun e => c e.symm), ← List.getD_eq_getElem?_getD]) (fun _ _ => rfl)
    rw [e]
    exact dst_move x.length hd ht ⟨g1, by unfold Peg; omega, g4, fun i hi => g3 i hi⟩
/-- The pegs renamed. -/
def nm (f0 f1 f2 : Int) (p : Int) : Int := if p = 0 then f0 else if p = 1 then f1 else f2
/-- Three names for three pegs. -/
def Names (f0 f1 f2 : Int) : Prop := Peg f0 ∧ Peg f1 ∧ Peg f2 ∧ f0 ≠ f1 ∧ f0 ≠ f2 ∧ f1 ≠ f2
theorem nm_peg {f0 f1 f2 : Int} (h : Names f0 f1 f2) (p : Int) : Peg (nm f0 f1 f2 p) := by
  obtain ⟨a, b, c, _⟩ := h
  unfold nm; split
  · exact a
  · split
    · exact b
    · exact c
theorem nth_map' (f : Int → Int) (x : List Int) (i : Nat) (h : i < x.length) : nth (x.map f) i = f (nth x i) := by simp [nth, h]
theorem ok_map {f0 f1 f2 : Int} (h : Names f0 f1 f2) {x : List Int} (hx : okD x = true) : okD (x.map (nm f0 f1 f2)) = true := by
  obtain ⟨h0, h1, hd⟩ := (okD_iff x).1 hx
  refine (okD_iff _).2 ⟨by simpa using h0, by simpa using h1, fun i hi => ?_⟩
  rw [List.length_map] at hi
  rw [nth_map' _ _ _ hi]
  exact nm_peg h _
theorem dst_map {f0 f1 f2 : Int} (h : Names f0 f1 f2) {x y : List Int} (hx : okD x = true) (hy : okD y = true) (hl : y.length = x.length) : dst (nth (x.map (nm f0 f1 f2))) (nth (y.map (nm f0 f1 f2))) x.length = dst (nth x) (nth y) x.length := by
  obtain ⟨_, _, hd⟩ := (okD_iff x).1 hx
  obtain ⟨_, _, hd'⟩ := (okD_iff y).1 hy
  rw [dst_congr (fun i hi => nth_map' _ x i hi) (fun i hi => nth_map' _ y i (by omega))]
  refine dst_name hd (fun i hi => hd' i (by omega)) (fun a b ha hb e => ?_) (fun a _ => nm_peg h a)
  obtain ⟨p0, p1, p2, n1, n2, n3⟩ := h
  unfold Peg at *
  unfold nm at e
  split at e <;> split at e <;> (try split at e) <;> (try split at e) <;> first | omega | exact absurd e (by omega) | exact absurd e.symm (by omega)
theorem both_of {x y : List Int} (hx : okD x = true) (hy : okD y = true) (hl : y.length = x.length) : both x y = true := by
  unfold both; rw [hx, hy, decide_eq_true hl.symm]; rfl
theorem dst_bd (x y : List Int) (hx : okD x = true) (hy : okD y = true) (hl : y.length = x.length) : 0 ≤ dst (nth x) (nth y) x.length ∧ dst (nth x) (nth y) x.length ≤ 1099511627776 := by
  obtain ⟨h0, h1, hd⟩ := (okD_iff x).1 hx
  obtain ⟨_, _, hd'⟩ := (okD_iff y).1 hy
  refine ⟨dst_nonneg _ _ _, ?_⟩
  have hf := dst_far (nth x) (nth y) x.length hd (fun i hi => hd' i (by omega))
  have hb : far (nth x) x.length ≤ 2 ^ x.length - 1 := by
    have := fun p => tp_le (nth x) x.length p
    unfold far
    have a := this 0; have b := this 1; have c := this 2
    omega
  have hp : (2 : Int) ^ x.length ≤ 2 ^ 40 := pow_le h1
  have h40 : (2 : Int) ^ 40 = 1099511627776 := by decide
  omega
theorem dst_eq0 {x y : List Int} (hx : okD x = true) (hy : okD y = true) (hl : y.length = x.length) : (dst (nth x) (nth y) x.length = 0) ↔ x = y := by
  constructor
  · intro h
    have := dst_zero h
    apply List.ext_getElem hl.symm
    intro i h1 h2
    have e := this i h1
    simpa [nth, h1, h2] using e
  · rintro rfl
    exact dst_same (fun _ _ => rfl)
end Go.Proofs.YtnaaomhmoamfpaaDoor.G
/- HanoiMetric: the walk. -/
namespace Go.Proofs.YtnaaomhmoamfpaaDoor.G
set_option linter.unusedVariables false
set_option linter.unusedSimpArgs false
set_option linter.unusedSectionVars false
open Go.Proofs.YtnaaomhmoamfpaaDoor.Q Go.Proofs.YtnaaomhmoamfpaaDoor.Hn Go.Proofs.YtnaaomhmoamfpaaDoor.K
open Go.RowKit Go.Shelf Go.Proofs.YtnaaomhmoamfpaaDoorW.PrintWords Go.Proofs.YtnaaomhmoamfpaaDoorW.PrintLast Go.Proofs.YtnaaomhmoamfpaaDoorW.PrintMore
theorem take_map_succ (f : Int → Int) (x : List Int) (t : Nat) (h : t < x.length) : (x.take t).map f ++ [f (nth x t)] = (x.take (t + 1)).map f := by
  have e : nth x t = x[t] := by simp [nth, h]
  rw [List.take_succ_eq_append_getElem h, e, List.map_append]; rfl
theorem Rd.at {w : World} {A : Option Addr} {c : Nat} {l : List Int} (h : Rd w (.slice A l.length c) l) (i : Nat) (hi : i < l.length) : ∃ ad, A = some ad ∧ w.cell? (ad.add i) = some (.int .i64 (nth l i)) := by
  obtain ⟨A', c', e, hl, hf⟩ := h
  cases e
  obtain ⟨ad, ea, hc⟩ := Kd.at_int (Kd.F_now hf) (i : Int) (by omega) (by omega)
  rw [rd_nth] at hc
  exact ⟨ad, ea, hc⟩
theorem nm_at {f0 f1 f2 : Int} {p : Int} (hp : Peg p) : ∃ k : Nat, p = (k : Int) ∧ k < 3 ∧ (#[Value.int .i64 f0, .int .i64 f1, .int .i64 f2] : Array Value)[k]? = some (.int .i64 (nm f0 f1 f2 p)) := by
  unfold Peg at hp
  rcases (by omega : p = 0 ∨ p = 1 ∨ p = 2) with rfl | rfl | rfl
  · exact ⟨0, rfl, by omega, rfl⟩
  · exact ⟨1, rfl, by omega, rfl⟩
  · exact ⟨2, rfl, by omega, rfl⟩
theorem names_k (z : Int) : ∃ k : Nat, IntKind.i64.wrap (Int.tmod (IntKind.u64.wrap z) 6) = (k : Int) ∧ k < 6 := by
  obtain ⟨b0, b1⟩ := umod_bd z 6 (by omega)
  obtain ⟨k, hk⟩ := Int.eq_ofNat_of_zero_le b0
  refine ⟨k, ?_, by omega⟩
  rw [utmod, i64_w, w64 (by omega) (by omega), hk]
theorem names_at {W : World} {b : Nat} (h : Blk W b #[.int .i64 0, .int .i64 1, .int .i64 2, .int .i64 1, .int .i64 2, .int .i64 0, .int .i64 2, .int .i64 0, .int .i64 1, .int .i64 0, .int .i64 2, .int .i64 1, .int .i64 2, .int .i64 1, .int .i64 0, .int .i64 1, .int .i64 0, .int .i64 2] 80) (k : Nat) (hk : k < 6) : ∃ f0 f1 f2, Names f0 f1 f2 ∧ W.cell? ⟨b, k * 3, none⟩ = some (.int .i64 f0) ∧ W.cell? ⟨b, k * 3 + 1, none⟩ = some (.int .i64 f1) ∧ W.cell? ⟨b, k * 3 + 2, none⟩ = some (.int .i64 f2) := by
  match k, hk with
  | 0, _ => exact ⟨0, 1, 2, by unfold Names Peg; omega, h.cell 0 rfl, h.cell 1 rfl, h.cell 2 rfl⟩
  | 1, _ => exact ⟨1, 2, 0, by unfold Names Peg; omega, h.cell 3 rfl, h.cell 4 rfl, h.cell 5 rfl⟩
  | 2, _ => exact ⟨2, 0, 1, by unfold Names Peg; omega, h.cell 6 rfl, h.cell 7 rfl, h.cell 8 rfl⟩
  | 3, _ => exact ⟨0, 2, 1, by unfold Names Peg; omega, h.cell 9 rfl, h.cell 10 rfl, h.cell 11 rfl⟩
  | 4, _ => exact ⟨2, 1, 0, by unfold Names Peg; omega, h.cell 12 rfl, h.cell 13 rfl, h.cell 14 rfl⟩
  | 5, _ => exact ⟨1, 0, 2, by unfold Names Peg; omega, h.cell 15 rfl, h.cell 16 rfl, h.cell 17 rfl⟩
  | k + 6, hk => exact absurd hk (by omega)
/-- What holds between two rounds. -/
structure MtI (x y : List Int) (f0 f1 f2 : Int) (wl : World) (t : Nat) (p q : Value) (wr : World) : Prop where
  P : Kd.R (Kd.int .i64) 3 wr wl.heap.size (fun k => some k ≠ q.ownBlock) p ((x.take t).map (nm f0 f1 f2))
  Q : Kd.R (Kd.int .i64) 3 wr wl.heap.size (fun k => some k ≠ p.ownBlock) q ((y.take t).map (nm f0 f1 f2))
  bel : Below wl.heap.size wl wr
set_option maxHeartbeats 8000000 in
set_option maxRecDepth 100000 in
theorem metric_walk (n0 : Int) (A0 A1 A2 : Option Addr) (c0 c1 c2 : Nat) (l0 l1 l2 : List Int) (a2 : Int) (w : World) (hr0 : Kd.C (Kd.int .i64) w A0 l0.length l0) (hr1 : Kd.C (Kd.int .i64) w A1 l1.length l1) (hr2 : Kd.C (Kd.int .i64) w A2 l2.length l2) (hc0 : l0.length ≤ c0) (hc1 : l1.length ≤ c1) (hc2 : l2.length ≤ c2) :
    Calls Tryd.prog 18 #[.int .i64 n0, .agg #[.slice A0 l0.length c0, .slice A1 l1.length c1, .slice A2 l2.length c2], .int .i64 a2] w fun e w' => e = .returned (.bool true) ∧ Below w.heap.size w w' := by
  obtain ⟨n, hn1, hn40, hmn, hm⟩ := many_calls' n0 40 w (by omega) (by omega)
  have hdx := fun W hr => discs_calls' A0 c0 l0 n (by omega) W hr hc0
  have hdy := fun W hr => discs_calls' A1 c1 l1 n (by omega) W hr hc1
  have hdz := fun W hr => discs_calls' A2 c2 l2 n (by omega) W hr hc2
  have hox := discsL_ok l0 n hn1 hn40
  have hoy := discsL_ok l1 n hn1 hn40
  have hoz := discsL_ok l2 n hn1 hn40
  have hlx := discsL_len l0 n
  have hly := discsL_len l1 n
  have hlz := discsL_len l2 n
  obtain ⟨x, hx⟩ : ∃ x, discsL l0 n = x := ⟨_, rfl⟩
  obtain ⟨y, hy⟩ : ∃ x, discsL l1 n = x := ⟨_, rfl⟩
  obtain ⟨z, hz⟩ : ∃ x, discsL l2 n = x := ⟨_, rfl⟩
  rw [hx] at hlx hox
  rw [hy] at hly hoy
  rw [hz] at hlz hoz
  simp only [hx] at hdx
  simp only [hy] at hdy
  simp only [hz] at hdz
  have HC0 := Aside0.mk hr0
  have HC1 := Aside0.mk hr1
  have HC2 := Aside0.mk hr2
  have HM := Aside0.mk hm
  have DX := Aside0.mk hdx
  have DY := Aside0.mk hdy
  have DZ := Aside0.mk hdz
  have OKX := Aside0.mk hox
  have OKY := Aside0.mk hoy
  have OKZ := Aside0.mk hoz
  have LX := Aside0.mk hlx
  have LY := Aside0.mk hly
  have LZ := Aside0.mk hlz
  clear hr0 hr1 hr2 hm hdx hdy hdz hox hoy hoz hlx hly hlz hmn hx hy hz
  go_enter Tryd.func18, Tryd.ntmps18
  go_wp2_with fail
  refine (HM.out _).mono ?_
  rintro e w1 ⟨rfl, ⟨m1, rfl⟩⟩
  go_upto_region 2 with fail
  obtain ⟨W1, hW1⟩ : ∃ W1, (w.alloc (Obj.cells #[Value.slice A0 l0.length c0, Value.slice A1 l1.length c1, Value.slice A2 l2.length c2] 59)).drewN m1 = W1 := ⟨_, rfl⟩
  have hba : Blk W1 w.heap.size #[Value.slice A0 l0.length c0, Value.slice A1 l1.length c1, Value.slice A2 l2.length c2] 59 := by rw [← hW1]; exact Blk.new w _ 59
  have E1 := Aside0.mk (show Below w.heap.size w W1 by rw [← hW1]; exact pw_below_drewN ((Below.refl _ w).alloc (Nat.le_refl _) _) m1)
  rw [hW1]
  have E2 := Aside0.mk (show Below w.heap.size w W1.drew from E1.out.drew)
  have hca0 : W1.drew.cell? ⟨w.heap.size, 0, none⟩ = some (.slice A0 l0.length c0) := hba.drew.cell 0 rfl
  have hca1 : W1.drew.cell? ⟨w.heap.size, 1, none⟩ = some (.slice A1 l1.length c1) := hba.drew.cell 1 rfl
  have hca2 : W1.drew.cell? ⟨w.heap.size, 2, none⟩ = some (.slice A2 l2.length c2) := hba.drew.cell 2 rfl
  clear hW1 HM hba E1
  go_cut [7, 8, 9] (fun a b c wc => ∃ Ax cx Ay cy Az cz, a = .slice Ax x.length cx ∧ b = .slice Ay y.length cy ∧ c = .slice Az z.length cz ∧ Aside0 (Rd wc (.slice Ax x.length cx) x) ∧ Aside0 (Rd wc (.slice Ay y.length cy) y) ∧ Aside0 (Rd wc (.slice Az z.length cz) z) ∧ Aside0 (Below w.heap.size w wc))
  case first =>
    refine start_ (n := 15) (S := fun w' => w'.cell? ⟨w.heap.size, 0, none⟩ = some (.slice A0 l0.length c0) ∧ w'.cell? ⟨w.heap.size, 1, none⟩ = some (.slice A1 l1.length c1) ∧ w'.cell? ⟨w.heap.size, 2, none⟩ = some (.slice A2 l2.length c2)) (ds := []) #[false, false, false, false, false, false, false, false, false, false, false, false, false, false, false] (by kernel_rfl) rfl rfl ⟨hca0, hca1, hca2⟩ (fun hHeld => ?_)
    generalize W1.drew = Wd at hHeld E2 ⊢
    clear hca0 hca1 hca2
    refine pure_ (i := 0) (N := (some 34)) (v := ?_) (a' := ?_) #[true, false, false, false, false, false, false, false, false, false, false, false, false, false, false] rfl rfl (by kernel_rfl) (fun _ _ _ h => h) (Or.inl ⟨by rfl, ?_⟩) ?_ ?_
    rotate_left
    · intro w'
      go_simp
      with_reducible rfl
    rotate_left
    · simp only [Act.put, List.setIfInBounds_toArray, List.set_cons_zero, List.set_cons_succ]
      rfl
    refine take_ (i := 1) (N := (some 35)) (v := ?_) (a' := ?_) #[true, true, false, false, false, false, false, false, false, false, false, false, false, false, false] rfl rfl (by kernel_rfl) (fun _ _ _ h => h) (Or.inl ⟨by rfl, ?_⟩) hHeld ?_ ?_
    rotate_left
    · rintro w' ⟨s0, s1, s2⟩
      go_simp
      with_reducible rfl
    rotate_left
    · simp only [Act.put, List.setIfInBounds_toArray, List.set_cons_zero, List.set_cons_succ]
      rfl
    refine pure_ (i := 2) (N := (some 36)) (v := ?_) (a' := ?_) #[true, true, true, false, false, false, false, false, false, false, false, false, false, false, false] rfl rfl (by kernel_rfl) (fun _ _ _ h => h) (Or.inl ⟨by rfl, ?_⟩) ?_ ?_
    rotate_left
    · intro w'
      go_simp
      with_reducible rfl
    rotate_left
    · simp only [Act.put, List.setIfInBounds_toArray, List.set_cons_zero, List.set_cons_succ]
      rfl
    refine pure_ (i := 4) (N := (some 38)) (v := ?_) (a' := ?_) #[true, true, true, false, true, false, false, false, false, false, false, false, false, false, false] rfl rfl (by kernel_rfl) (fun _ _ _ h => h) (Or.inl ⟨by rfl, ?_⟩) ?_ ?_
    rotate_left
    · intro w'
      go_simp
      with_reducible rfl
    rotate_left
    · simp only [Act.put, List.setIfInBounds_toArray, List.set_cons_zero, List.set_cons_succ]
      rfl
    refine take_ (i := 5) (N := (some 39)) (v := ?_) (a' := ?_) #[true, true, true, false, true, true, false, false, false, false, false, false, false, false, false] rfl rfl (by kernel_rfl) (fun _ _ _ h => h) (Or.inl ⟨by rfl, ?_⟩) hHeld ?_ ?_
    rotate_left
    · rintro w' ⟨s0, s1, s2⟩
      go_simp
      with_reducible rfl
    rotate_left
    · simp only [Act.put, List.setIfInBounds_toArray, List.set_cons_zero, List.set_cons_succ]
      rfl
    refine pure_ (i := 6) (N := (some 40)) (v := ?_) (a' := ?_) #[true, true, true, false, true, true, true, false, false, false, false, false, false, false, false] rfl rfl (by kernel_rfl) (fun _ _ _ h => h) (Or.inl ⟨by rfl, ?_⟩) ?_ ?_
    rotate_left
    · intro w'
      go_simp
      with_reducible rfl
    rotate_left
    · simp only [Act.put, List.setIfInBounds_toArray, List.set_cons_zero, List.set_cons_succ]
      rfl
    refine pure_ (i := 8) (N := (some 42)) (v := ?_) (a' := ?_) #[true, true, true, false, true, true, true, false, true, false, false, false, false, false, false] rfl rfl (by kernel_rfl) (fun _ _ _ h => h) (Or.inl ⟨by rfl, ?_⟩) ?_ ?_
    rotate_left
    · intro w'
      go_simp
      with_reducible rfl
    rotate_left
    · simp only [Act.put, List.setIfInBounds_toArray, List.set_cons_zero, List.set_cons_succ]
      rfl
    refine take_ (i := 9) (N := (some 43)) (v := ?_) (a' := ?_) #[true, true, true, false, true, true, true, false, true, true, false, false, false, false, false] rfl rfl (by kernel_rfl) (fun _ _ _ h => h) (Or.inl ⟨by rfl, ?_⟩) hHeld ?_ ?_
    rotate_left
    · rintro w' ⟨s0, s1, s2⟩
      go_simp
      with_reducible rfl
    rotate_left
    · simp only [Act.put, List.setIfInBounds_toArray, List.set_cons_zero, List.set_cons_succ]
      rfl
    refine pure_ (i := 10) (N := (some 44)) (v := ?_) (a' := ?_) #[true, true, true, false, true, true, true, false, true, true, true, false, false, false, false] rfl rfl (by kernel_rfl) (fun _ _ _ h => h) (Or.inl ⟨by rfl, ?_⟩) ?_ ?_
    rotate_left
    · intro w'
      go_simp
      with_reducible rfl
    rotate_left
    · simp only [Act.put, List.setIfInBounds_toArray, List.set_cons_zero, List.set_cons_succ]
      rfl
    refine one_ (i := 3) (N := (some 37)) #[true, true, true, true, true, true, true, false, true, true, true, false, false, false, false] rfl rfl (by kernel_rfl) (by decide) (fun K hK => ?_)
    refine goes_ Tryd.func40 (by kernel_rfl) rfl #[.slice A0 l0.length c0, .int .i64 (n : Int)] (by rfl) rfl rfl (by (try simp only [List.map_toArray, List.map_cons, List.map_nil]); first | done | rfl) ?_
    refine (DX.out _ (Kd.C_below HC0.out E2.out)).mono ?_
    rintro e wx ⟨vx, rfl, ho, hb⟩
    refine ⟨_, rfl, ?_⟩
    have Ox := Aside0.mk ho
    have Bx := Aside0.mk (E2.out.trans (hb.mono E2.out.size))
    have hc0 := hb.cell (p := ⟨w.heap.size, 0, none⟩) (World.block_lt_of_cell? _ _ hHeld.1)
    have hc1 := hb.cell (p := ⟨w.heap.size, 1, none⟩) (World.block_lt_of_cell? _ _ hHeld.2.1)
    have hc2 := hb.cell (p := ⟨w.heap.size, 2, none⟩) (World.block_lt_of_cell? _ _ hHeld.2.2)
    clear ho hb
    refine hK.out _ _ ⟨hc0.trans hHeld.1, hc1.trans hHeld.2.1, hc2.trans hHeld.2.2⟩ (fun hHeld => ?_)
    clear hK K hc0 hc1 hc2
    refine norm_ (a' := ?_) ?_ ?_
    rotate_left
    · show Act.put _ (some 37) _ = _
      simp only [Act.put, List.setIfInBounds_toArray, List.set_cons_zero, List.set_cons_succ]
      rfl
    refine one_ (i := 7) (N := (some 41)) #[true, true, true, true, true, true, true, true, true, true, true, false, false, false, false] rfl rfl (by kernel_rfl) (by decide) (fun K hK => ?_)
    refine goes_ Tryd.func40 (by kernel_rfl) rfl #[.slice A1 l1.length c1, .int .i64 (n : Int)] (by rfl) rfl rfl (by (try simp only [List.map_toArray, List.map_cons, List.map_nil]); first | done | rfl) ?_
    refine (DY.out _ (Kd.C_below HC1.out Bx.out)).mono ?_
    rintro e wy ⟨vy, rfl, ho, hb⟩
    refine ⟨_, rfl, ?_⟩
    have Oy := Aside0.mk ho
    have By := Aside0.mk (Bx.out.trans (hb.mono Bx.out.size))
    replace Ox := Aside0.mk (Kd.R_below Ox.out hb)
    have hc0 := hb.cell (p := ⟨w.heap.size, 0, none⟩) (World.block_lt_of_cell? _ _ hHeld.1)
    have hc1 := hb.cell (p := ⟨w.heap.size, 1, none⟩) (World.block_lt_of_cell? _ _ hHeld.2.1)
    have hc2 := hb.cell (p := ⟨w.heap.size, 2, none⟩) (World.block_lt_of_cell? _ _ hHeld.2.2)
    clear ho hb
    refine hK.out _ _ ⟨hc0.trans hHeld.1, hc1.trans hHeld.2.1, hc2.trans hHeld.2.2⟩ (fun hHeld => ?_)
    clear hK K hc0 hc1 hc2
    refine norm_ (a' := ?_) ?_ ?_
    rotate_left
    · show Act.put _ (some 41) _ = _
      simp only [Act.put, List.setIfInBounds_toArray, List.set_cons_zero, List.set_cons_succ]
      rfl
    refine one_ (i := 11) (N := (some 45)) #[true, true, true, true, true, true, true, true, true, true, true, true, false, false, false] rfl rfl (by kernel_rfl) (by decide) (fun K hK => ?_)
    refine goes_ Tryd.func40 (by kernel_rfl) rfl #[.slice A2 l2.length c2, .int .i64 (n : Int)] (by rfl) rfl rfl (by (try simp only [List.map_toArray, List.map_cons, List.map_nil]); first | done | rfl) ?_
    refine (DZ.out _ (Kd.C_below HC2.out By.out)).mono ?_
    rintro e wz ⟨vz, rfl, ho, hb⟩
    refine ⟨_, rfl, ?_⟩
    have Oz := Aside0.mk ho
    have Bz := Aside0.mk (By.out.trans (hb.mono By.out.size))
    replace Ox := Aside0.mk (Kd.R_below Ox.out hb)
    replace Oy := Aside0.mk (Kd.R_below Oy.out hb)
    have hc0 := hb.cell (p := ⟨w.heap.size, 0, none⟩) (World.block_lt_of_cell? _ _ hHeld.1)
    have hc1 := hb.cell (p := ⟨w.heap.size, 1, none⟩) (World.block_lt_of_cell? _ _ hHeld.2.1)
    have hc2 := hb.cell (p := ⟨w.heap.size, 2, none⟩) (World.block_lt_of_cell? _ _ hHeld.2.2)
    clear ho hb
    refine hK.out _ _ ⟨hc0.trans hHeld.1, hc1.trans hHeld.2.1, hc2.trans hHeld.2.2⟩ (fun hHeld => ?_)
    clear hK K hc0 hc1 hc2
    refine norm_ (a' := ?_) ?_ ?_
    rotate_left
    · show Act.put _ (some 45) _ = _
      simp only [Act.put, List.setIfInBounds_toArray, List.set_cons_zero, List.set_cons_succ]
      rfl
    refine pure_ (i := 12) (N := (some 7)) (v := ?_) (a' := ?_) #[true, true, true, true, true, true, true, true, true, true, true, true, true, false, false] rfl rfl (by kernel_rfl) (fun _ _ _ h => h) (Or.inl ⟨by rfl, ?_⟩) ?_ ?_
    rotate_left
    · intro w'
      go_simp
      with_reducible rfl
    rotate_left
    · simp only [Act.put, List.setIfInBounds_toArray, List.set_cons_zero, List.set_cons_succ]
      rfl
    refine pure_ (i := 13) (N := (some 8)) (v := ?_) (a' := ?_) #[true, true, true, true, true, true, true, true, true, true, true, true, true, true, false] rfl rfl (by kernel_rfl) (fun _ _ _ h => h) (Or.inl ⟨by rfl, ?_⟩) ?_ ?_
    rotate_left
    · intro w'
      go_simp
      with_reducible rfl
    rotate_left
    · simp only [Act.put, List.setIfInBounds_toArray, List.set_cons_zero, List.set_cons_succ]
      rfl
    refine pure_ (i := 14) (N := (some 9)) (v := ?_) (a' := ?_) #[true, true, true, true, true, true, true, true, true, true, true, true, true, true, true] rfl rfl (by kernel_rfl) (fun _ _ _ h => h) (Or.inl ⟨by rfl, ?_⟩) ?_ ?_
    rotate_left
    · intro w'
      go_simp
      with_reducible rfl
    rotate_left
    · simp only [Act.put, List.setIfInBounds_toArray, List.set_cons_zero, List.set_cons_succ]
      rfl
    refine done_ (by kernel_rfl) ?_
    obtain ⟨Ax, cx, ex, _, _⟩ := Rd.of Ox.out
    obtain ⟨Ay, cy, ey, _, _⟩ := Rd.of Oy.out
    obtain ⟨Az, cz, ez, _, _⟩ := Rd.of Oz.out
    subst ex; subst ey; subst ez
    have RX := Aside0.mk (Rd.of Ox.out)
    have RY := Aside0.mk (Rd.of Oy.out)
    have RZ := Aside0.mk (Rd.of Oz.out)
    go_wp2
    go_meet
    case rel => exact ⟨Ax, cx, Ay, cy, Az, cz, rfl, rfl, rfl, RX, RY, RZ, Bz⟩
  case rest =>
    obtain ⟨Ax, cx, Ay, cy, Az, cz, rfl, rfl, rfl, RX, RY, RZ, BW⟩ := hcut
    have l1 : y.length = x.length := LY.out.trans LX.out.symm
    have l2' : z.length = x.length := LZ.out.trans LX.out.symm
    obtain ⟨a, ha⟩ : ∃ a, dst (nth x) (nth y) x.length = a := ⟨_, rfl⟩
    obtain ⟨c, hc⟩ : ∃ c, dst (nth x) (nth z) x.length = c := ⟨_, rfl⟩
    obtain ⟨d, hd⟩ : ∃ d, dst (nth z) (nth y) z.length = d := ⟨_, rfl⟩
    have ha' : dst (nth y) (nth x) y.length = a := by rw [dst_symm, l1, ha]
    have ab := dst_bd x y OKX.out OKY.out l1
    have cb := dst_bd x z OKX.out OKZ.out l2'
    have db := dst_bd z y OKZ.out OKY.out (l1.trans l2'.symm)
    have htri := dst_tri x.length (nth x) (nth y) (nth z) ((okD_iff x).1 OKX.out).2.2 (fun i hi => ((okD_iff y).1 OKY.out).2.2 i (by omega)) (fun i hi => ((okD_iff z).1 OKZ.out).2.2 i (by omega))
    have hz := dst_eq0 OKX.out OKY.out l1
    rw [ha] at ab hz htri
    rw [hc] at cb htri
    rw [← l2', hd] at htri
    rw [hd] at db
    have dxy := fun W (h : Below wc.heap.size wc W) => dist_calls' (both_of OKX.out OKY.out l1) Ax Ay cx cy W (RX.out.below h) (RY.out.below h)
    have dyx := fun W (h : Below wc.heap.size wc W) => dist_calls' (both_of OKY.out OKX.out l1.symm) Ay Ax cy cx W (RY.out.below h) (RX.out.below h)
    have dxz := fun W (h : Below wc.heap.size wc W) => dist_calls' (both_of OKX.out OKZ.out l2') Ax Az cx cz W (RX.out.below h) (RZ.out.below h)
    have dzy := fun W (h : Below wc.heap.size wc W) => dist_calls' (both_of OKZ.out OKY.out (l1.trans l2'.symm)) Az Ay cz cy W (RZ.out.below h) (RY.out.below h)
    simp only [ha] at dxy
    simp only [ha'] at dyx
    simp only [hc] at dxz
    simp only [hd] at dzy
    have DXY := Aside0.mk dxy
    have DYX := Aside0.mk dyx
    have DXZ := Aside0.mk dxz
    have DZY := Aside0.mk dzy
    have HA := Aside0.mk ha
    have HZ := Aside0.mk hz
    have HL1 := Aside0.mk l1
    obtain ⟨a0, a1⟩ := ab
    obtain ⟨cb0, cb1⟩ := cb
    obtain ⟨db0, db1⟩ := db
    clear dxy dyx dxz dzy ha hz hc hd ha' l1 l2'
    go_wp2_with fail
    refine (DXY.out _ (Below.refl _ _)).mono ?_
    rintro e w1 ⟨rfl, hb⟩
    have B1 := Aside0.mk hb
    clear hb
    go_wp2_with fail
    refine (DYX.out _ B1.out).mono ?_
    rintro e w2 ⟨rfl, hb⟩
    have B2 := Aside0.mk (B1.out.trans (hb.mono B1.out.size))
    clear hb B1
    go_wp2_with fail
    refine (DXZ.out _ B2.out).mono ?_
    rintro e w3 ⟨rfl, hb⟩
    have B3 := Aside0.mk (B2.out.trans (hb.mono B2.out.size))
    clear hb B2
    go_wp2_with fail
    refine (DZY.out _ B3.out).mono ?_
    rintro e w4 ⟨rfl, hb⟩
    have B4 := Aside0.mk (B3.out.trans (hb.mono B3.out.size))
    clear hb B3 DXY DYX DXZ DZY RZ
    go_upto_region 8 with fail
    obtain ⟨W5, hW5⟩ : ∃ W, w4.alloc (Obj.cells #[Value.int IntKind.i64 0, Value.int IntKind.i64 1, Value.int IntKind.i64 2, Value.int IntKind.i64 1, Value.int IntKind.i64 2, Value.int IntKind.i64 0, Value.int IntKind.i64 2, Value.int IntKind.i64 0, Value.int IntKind.i64 1, Value.int IntKind.i64 0, Value.int IntKind.i64 2, Value.int IntKind.i64 1, Value.int IntKind.i64 2, Value.int IntKind.i64 1, Value.int IntKind.i64 0, Value.int IntKind.i64 1, Value.int IntKind.i64 0, Value.int IntKind.i64 2] 80) = W := ⟨_, rfl⟩
    have HB80 := Aside0.mk (show Blk W5 w4.heap.size #[Value.int IntKind.i64 0, Value.int IntKind.i64 1, Value.int IntKind.i64 2, Value.int IntKind.i64 1, Value.int IntKind.i64 2, Value.int IntKind.i64 0, Value.int IntKind.i64 2, Value.int IntKind.i64 0, Value.int IntKind.i64 1, Value.int IntKind.i64 0, Value.int IntKind.i64 2, Value.int IntKind.i64 1, Value.int IntKind.i64 2, Value.int IntKind.i64 1, Value.int IntKind.i64 0, Value.int IntKind.i64 1, Value.int IntKind.i64 0, Value.int IntKind.i64 2] 80 by rw [← hW5]; exact Blk.new w4 _ 80)
    have B5 := Aside0.mk (show Below wc.heap.size wc W5 by rw [← hW5]; exact B4.out.alloc B4.out.size _)
    rw [hW5]
    clear hW5 B4
    have hu79 := Tryd.underlying79
    obtain ⟨kn, hk, hk6⟩ := names_k a2
    obtain ⟨f0, f1, f2, hnm, hx0, hx1, hx2⟩ := names_at HB80.out kn hk6
    have HN := Aside0.mk hnm
    have hk0 : (0 : Int) ≤ (kn : Int) := by omega
    have hk1 : (kn : Int) < 6 := by omega
    clear HB80 hnm
    obtain ⟨W6, hW6⟩ : ∃ W, W5.alloc (Obj.cells #[Value.int IntKind.i64 f0, Value.int IntKind.i64 f1, Value.int IntKind.i64 f2] 79) = W := ⟨_, rfl⟩
    have HBN := Aside0.mk (show Blk W6 W5.heap.size #[.int .i64 f0, .int .i64 f1, .int .i64 f2] 79 by rw [← hW6]; exact Blk.new W5 _ 79)
    have B6 := Aside0.mk (show Below wc.heap.size wc W6 by rw [← hW6]; exact B5.out.alloc B5.out.size _)
    have HW6 := Aside0.mk hW6
    clear hW6
    go_upto_region 9 with fail
    rw [HW6.out]
    clear HW6 B5 hk hx0 hx1 hx2 hk0 hk1 hk6 hu79
    go_wp2
    go_loopw [20, 21, 22] (fun p q r wr => ∃ t : Nat, t ≤ n ∧ r = .int .i64 (t : Int) ∧ Aside0 (MtI x y f0 f1 f2 W6 t p q wr)) (fun _ _ r _ => n - (intOf r).toNat)
    case atStart => exact ⟨0, by omega, rfl, ⟨⟨Kd.R_nil _ _ _ _ _, Kd.R_nil _ _ _ _ _, Below.refl _ _⟩⟩⟩
    case round =>
      obtain ⟨t, ht, rfl, HI⟩ := hrel
      by_cases htn : t < n
      · have tlx : t < x.length := by have := LX.out; omega
        have tly : t < y.length := by have := LY.out; omega
        have BC := Aside0.mk (B6.out.trans (HI.out.bel.mono B6.out.size))
        obtain ⟨adx, ex, hcx⟩ := (RX.out.below BC.out).at t tlx
        subst ex
        obtain ⟨kx, ekx, hkx, hax⟩ := nm_at (f0 := f0) (f1 := f1) (f2 := f2) (((okD_iff x).1 OKX.out).2.2 t tlx)
        have hbx := (HBN.out.below HI.out.bel HBN.out.lt).cell kx hax
        obtain ⟨vx, hvx⟩ : ∃ v, nm f0 f1 f2 (nth x t) = v := ⟨_, rfl⟩
        rw [hvx] at hbx
        rw [ekx] at hcx
        have HVX := Aside0.mk hvx
        obtain ⟨ky, eky, hky, hay⟩ := nm_at (f0 := f0) (f1 := f1) (f2 := f2) (((okD_iff y).1 OKY.out).2.2 t tly)
        obtain ⟨vy, hvy⟩ : ∃ v, nm f0 f1 f2 (nth y t) = v := ⟨_, rfl⟩
        rw [hvy] at hay
        have EKY := Aside0.mk eky
        have HAY := Aside0.mk hay
        have HVY := Aside0.mk hvy
        have hi0 : (0 : Int) ≤ (t : Int) := by omega
        have hi1 : (t : Int) < (x.length : Int) := by omega
        have hi2 : (t : Int) < (y.length : Int) := by omega
        have hi3 : (t : Int) < (n : Int) := by omega
        have hj0 : (0 : Int) ≤ (kx : Int) := by omega
        have hj1 : (kx : Int) < 3 := by omega
        have hj2 : (0 : Int) ≤ (ky : Int) := by omega
        have hj3 : (ky : Int) < 3 := by omega
        have hwt : IntKind.i64.wrap ((t : Int) + 1) = ((t + 1 : Nat) : Int) := by rw [i64_w, w64 (by omega) (by omega)]; omega
        clear ekx hax hvx eky hay hvy
        go_wp2_with ((with_reducible refine gate_builtin (b := .append) (xs := #[.tmp 88, .tmp 95]) rfl ?_); at_builtin; refine stopper ?_)
        unfold Hold
        refine Kd.R_append (Kd.int .i64) (w0 := W6) W6.heap.size rfl (.tmp 88) (.tmp 95) 46 3 (.int .i64 0) 8 rfl Tryd.underlying46 info3 rfl (by decide) (by omega) u20 ((x.take t).map (nm f0 f1 f2)) (vx) [.int .i64 (vx)] (fun k => some k ≠ Value.ownBlock u21) (fun _ => False) (by rfl) (by first | (go_simp; done) | (go_simp; rfl)) rfl (fun _ h => h.elim) (fun k hk e => absurd (Kd.R_lt HI.out.Q k e.symm) (Nat.not_lt.2 hk)) HI.out.P HI.out.bel HI.out.bel.size (by rw [List.length_map]; have := List.length_take_le t x; have := List.length_take_le t y; omega) ?_
        intro p1 wp ho hb hg hat
        have P1 := Aside0.mk ho
        have Q1 := Aside0.mk (Kd.R_after (Kd.R_mono HI.out.Q (fun k hk => (⟨trivial, hk⟩ : True ∧ _))) hg hat)
        have BP := Aside0.mk hb
        have BC2 := Aside0.mk (B6.out.trans (hb.mono B6.out.size))
        obtain ⟨ady, ey, hcy⟩ := (RY.out.below BC2.out).at t tly
        subst ey
        rw [EKY.out] at hcy
        have hby := (HBN.out.below BP.out HBN.out.lt).cell ky HAY.out
        clear ho hb hg hat hcx hbx
        go_wp2_with ((with_reducible refine gate_builtin (b := .append) (xs := #[.tmp 97, .tmp 104]) rfl ?_); at_builtin; refine stopper ?_)
        unfold Hold
        refine Kd.R_append (Kd.int .i64) (w0 := W6) W6.heap.size rfl (.tmp 97) (.tmp 104) 46 3 (.int .i64 0) 8 rfl Tryd.underlying46 info3 rfl (by decide) (by omega) u21 ((y.take t).map (nm f0 f1 f2)) (vy) [.int .i64 (vy)] (fun k => some k ≠ Value.ownBlock p1) (fun _ => False) (by rfl) (by first | (go_simp; done) | (go_simp; rfl)) rfl (fun _ h => h.elim) (fun k hk e => absurd (Kd.R_lt P1.out k e.symm) (Nat.not_lt.2 hk)) (Kd.R_mono Q1.out (fun k hk => hk.2)) BP.out BP.out.size (by rw [List.length_map]; have := List.length_take_le t x; have := List.length_take_le t y; omega) ?_
        intro q1 wq ho hb hg hat
        have Q2 := Aside0.mk ho
        have P2 := Aside0.mk (Kd.R_after (Kd.R_mono P1.out (fun k hk => (⟨trivial, hk⟩ : True ∧ _))) hg hat)
        have BQ := Aside0.mk hb
        clear ho hb hg hat hcy hby
        go_wp2
        go_roundw
        case rel => exact ⟨t + 1, by omega, rfl, ⟨⟨by rw [← take_map_succ _ x t (by omega), HVX.out]; exact Kd.R_mono P2.out (fun k hk => hk.2), by rw [← take_map_succ _ y t tly, HVY.out]; exact Q2.out, BQ.out⟩⟩⟩
        case measure => simp [intOf]; omega
      · obtain rfl : t = n := by omega
        have hP : Kd.R (Kd.int .i64) 3 wr W6.heap.size (fun k => some k ≠ u21.ownBlock) u20 (x.map (nm f0 f1 f2)) := by
          have := HI.out.P
          rwa [List.take_of_length_le (by have := LX.out; omega)] at this
        have hQ : Kd.R (Kd.int .i64) 3 wr W6.heap.size (fun k => some k ≠ u20.ownBlock) u21 (y.map (nm f0 f1 f2)) := by
          have := HI.out.Q
          rwa [List.take_of_length_le (by have := LY.out; omega)] at this
        obtain ⟨px, hpx⟩ : ∃ l, x.map (nm f0 f1 f2) = l := ⟨_, rfl⟩
        obtain ⟨py, hpy⟩ : ∃ l, y.map (nm f0 f1 f2) = l := ⟨_, rfl⟩
        have hlm : py.length = px.length := by rw [← hpx, ← hpy, List.length_map, List.length_map, HL1.out]
        have e0 : dst (nth px) (nth py) px.length = a := by rw [← hpx, ← hpy, List.length_map, dst_map HN.out OKX.out OKY.out HL1.out, HA.out]
        have hbo : both px py = true := both_of (by rw [← hpx]; exact ok_map HN.out OKX.out) (by rw [← hpy]; exact ok_map HN.out OKY.out) hlm
        rw [hpx] at hP
        rw [hpy] at hQ
        obtain ⟨Ap, cp, ep⟩ := Kd.R_slice hP
        subst ep
        obtain ⟨Aq, cq, eq⟩ := Kd.R_slice hQ
        subst eq
        have BC := Aside0.mk (B6.out.trans (HI.out.bel.mono B6.out.size))
        have hd := dist_calls' hbo Ap Aq cp cq wr (Rd.of hP) (Rd.of hQ)
        rw [e0] at hd
        have DPQ := Aside0.mk hd
        clear hP hQ hd e0 hlm hbo hpx hpy HI
        obtain ⟨bz, hbz⟩ : ∃ bz, decide (x = y) = bz := ⟨_, rfl⟩
        have hz1 : (a == 0) = bz := by rw [← hbz, Bool.eq_iff_iff, beq_iff_eq, decide_eq_true_eq]; exact HZ.out
        have HBZ := Aside0.mk hbz
        clear hbz
        go_wp2_with fail
        with_reducible refine DPQ.out.mono ?_
        rintro e w7 ⟨rfl, hb⟩
        have B7 := Aside0.mk (BC.out.trans (hb.mono BC.out.size))
        clear hb DPQ BC
        have hic := ints_calls' (x := x) (by have := LX.out; omega) y (ok := fun _ => True) (ok' := fun _ => True) Ax Ay cx cy w7 (RX.out.below B7.out) (RY.out.below B7.out)
        rw [HBZ.out] at hic
        have HIC := Aside0.mk hic
        clear hic
        have hgt : ¬ c + d < a := by omega
        go_wp2_with fail
        with_reducible refine HIC.out.mono ?_
        rintro e w8 ⟨rfl, m8, rfl⟩
        go_upto_region 18 with fail
        obtain ⟨W8, hW8⟩ : ∃ W, w7.drewN m8 = W := ⟨_, rfl⟩
        have B8 := Aside0.mk (show Below wc.heap.size wc W8 by rw [← hW8]; exact pw_below_drewN B7.out m8)
        rw [hW8]
        clear hW8 B7 HIC hz1
        obtain ⟨m0, ms, ny, hmv, hpl, hok, hnl, hdy⟩ := play_first x OKX.out
        have hml := moves_len3 x OKX.out
        have hMl : 2 ≤ (m0 :: ms).length ∧ (m0 :: ms).length ≤ 3 := by rw [← hmv, List.length_map]; exact hml
        obtain ⟨M, hM⟩ : ∃ M, m0 :: ms = M := ⟨_, rfl⟩
        obtain ⟨A', c', e', hlx, hfx⟩ := RX.out.below B8.out
        cases e'
        have HMC := Aside0.mk (hanoi_Moves.calls Ax cx x M 0 W8 (Kd.F_now hfx) hlx (by unfold hanoi_Moves.f; rw [if_pos OKX.out, hmv, hM]))
        have hdn := hdy (nth y) (fun i hi => ((okD_iff y).1 OKY.out).2.2 i (by have := HL1.out; omega))
        rw [HA.out] at hdn
        obtain ⟨u, hu⟩ : ∃ u, dst (nth ny) (nth y) x.length = u := ⟨_, rfl⟩
        have hub := dst_bd ny y hok OKY.out (HL1.out.trans hnl.symm)
        rw [hnl, hu] at hub
        rw [hu] at hdn
        obtain ⟨ub0, ub1⟩ := hub
        obtain ⟨hd0, hd1⟩ := hdn
        rw [hM] at hMl
        obtain ⟨hM0, hM1⟩ := hMl
        have HPL := Aside0.mk hpl
        have HOK := Aside0.mk hok
        have HNL := Aside0.mk hnl
        have HU := Aside0.mk hu
        have HM := Aside0.mk hM
        clear hmv hpl hok hnl hdy hml hM hu hfx hlx
        go_wp2_with fail
        with_reducible refine HMC.out.mono ?_
        rintro e w9 ⟨v25, rfl, ho, hb⟩
        have B9 := Aside0.mk (B8.out.trans (hb.mono B8.out.size))
        obtain ⟨g, cap, ev, _, _, _⟩ := Kd.R_form ho (by omega)
        subst ev
        have hcap := (Kd.R_reads' ho).2.1
        have hC1 : Kd.C k52 w9 (some ⟨g, 0, none⟩) ([m0] : List S52).length [m0] := by
          have := Kd.C_take (Kd.R_reads' ho).2.2 (m := 1) (by omega)
          rw [← HM.out] at this
          exact this
        obtain ⟨A', c', e', hlx, hfx⟩ := RX.out.below B9.out
        cases e'
        have HPC := Aside0.mk (show Calls Tryd.prog 56 #[.slice Ax x.length cx, .slice (some ⟨g, 0, none⟩) 1 1] w9 _ from hanoi_Play.calls Ax cx x (some ⟨g, 0, none⟩) 1 [m0] ny 1 0 w9 (Kd.F_now hfx) hlx hC1 (by simp) HPL.out)
        have hM2 : ¬ (M.length : Int) < 2 := by omega
        have hM3 : ¬ (3 : Int) < (M.length : Int) := by omega
        have hc1 : (1 : Int) ≤ (cap : Int) := by omega
        clear ho hb HMC B8 hC1 hfx hlx
        go_wp2_with fail
        with_reducible refine HPC.out.mono ?_
        rintro e wA ⟨v27, rfl, ho, hb⟩
        have BA := Aside0.mk (B9.out.trans (hb.mono B9.out.size))
        obtain ⟨An, cn, en⟩ := Kd.R_slice ho
        subst en
        have hdc := dist_calls' (both_of HOK.out OKY.out (HL1.out.trans HNL.out.symm)) An Ay cn cy wA (Rd.of ho) (RY.out.below BA.out)
        rw [HNL.out, HU.out] at hdc
        have HDC := Aside0.mk hdc
        clear ho hb hdc HPC B9
        have hu1 : a - 1 ≤ u := by omega
        have hu2 : u ≤ a + 1 := by omega
        rw [HNL.out]
        go_wp2_with fail
        with_reducible refine HDC.out.mono ?_
        rintro e wB ⟨rfl, hb⟩
        have BB := Aside0.mk (BA.out.trans (hb.mono BA.out.size))
        clear hb BA HDC
        go_wp2_with fail
        with_reducible refine (awake_calls' wB).mono ?_
        rintro e wC ⟨rfl, hb⟩
        have BF := Aside0.mk (BW.out.trans ((BB.out.trans (hb.mono BB.out.size)).mono BW.out.size))
        clear hb BB
        go_wp2
        go_ret
        exact ⟨rfl, BF.out⟩
end Go.Proofs.YtnaaomhmoamfpaaDoor.G
/- HanoiMetric: the laws of a metric: the walk, as the row asks for it. -/
namespace Go.Proofs.YtnaaomhmoamfpaaDoor.Pure
set_option linter.unusedVariables false
set_option linter.unusedSimpArgs false
set_option linter.unusedSectionVars false
open Go.Proofs.YtnaaomhmoamfpaaDoor.G
open Go.RowKit Go.Proofs.YtnaaomhmoamfpaaDoor.Q Go.Proofs.YtnaaomhmoamfpaaDoorW.PrintWords Go.Proofs.YtnaaomhmoamfpaaDoorW.PrintLast Go.Proofs.YtnaaomhmoamfpaaDoorW.PrintMore
theorem HanoiMetric (n0 : Int) (a0 : Option Addr) (len0 cap0 : Nat) (z0 : List Int) (a1 : Option Addr) (len1 cap1 : Nat) (z1 : List Int) (a2 : Option Addr) (len2 cap2 : Nat) (z2 : List Int) (by_ : Int) (w : World) (w0 : ((a0 = none ∧ len0 = 0 ∧ cap0 = 0 ∧ z0 = []) ∨ ∃ x, a0 = some x ∧ len0 ≤ cap0 ∧ cap0 ≤ maxLen ∧ z0.length = cap0 ∧ (∀ i, i < z0.length → w.cell? (x.add i) = some (.int .i64 (z0.getD i 0))) ∧ ∀ n ∈ z0, (Lit.int .i64 n).wf = true)) (w1 : ((a1 = none ∧ len1 = 0 ∧ cap1 = 0 ∧ z1 = []) ∨ ∃ x, a1 = some x ∧ len1 ≤ cap1 ∧ cap1 ≤ maxLen ∧ z1.length = cap1 ∧ (∀ i, i < z1.length → w.cell? (x.add i) = some (.int .i64 (z1.getD i 0))) ∧ ∀ n ∈ z1, (Lit.int .i64 n).wf = true)) (w2 : ((a2 = none ∧ len2 = 0 ∧ cap2 = 0 ∧ z2 = []) ∨ ∃ x, a2 = some x ∧ len2 ≤ cap2 ∧ cap2 ≤ maxLen ∧ z2.length = cap2 ∧ (∀ i, i < z2.length → w.cell? (x.add i) = some (.int .i64 (z2.getD i 0))) ∧ ∀ n ∈ z2, (Lit.int .i64 n).wf = true)) :
    Calls Tryd.prog 18 #[.int .i64 n0, .agg #[.slice a0 len0 cap0, .slice a1 len1 cap1, .slice a2 len2 cap2], .int .i64 by_] w fun e w' => e = .returned (.bool true) ∧ Below w.heap.size w w' := by
  obtain ⟨l0, rfl, hr0, _, _, hc0⟩ := ReadsInt.ofRowC w0
  obtain ⟨l1, rfl, hr1, _, _, hc1⟩ := ReadsInt.ofRowC w1
  obtain ⟨l2, rfl, hr2, _, _, hc2⟩ := ReadsInt.ofRowC w2
  exact metric_walk n0 _ _ _ _ _ _ l0 l1 l2 by_ w (Kd.C_of_reads (d := (0 : Int)) (h1 := fun _ => rfl) hr0) (Kd.C_of_reads (d := (0 : Int)) (h1 := fun _ => rfl) hr1) (Kd.C_of_reads (d := (0 : Int)) (h1 := fun _ => rfl) hr2) hc0 hc1 hc2
end Go.Proofs.YtnaaomhmoamfpaaDoor.Pure
