/- HanoiPlays: the discs after any moves, as long as they can be made, and how many those are; after moves that can be made: the walk and the plain law, for every input. -/
import Derived.Test.YtnaaomhmoamfpaaDoorLHanoiPlays
/- HanoiPlays: the walk. -/
namespace Go.Proofs.YtnaaomhmoamfpaaDoor.G
set_option linter.unusedVariables false
set_option linter.unusedSimpArgs false
set_option linter.unusedSectionVars false
open Go.Proofs.YtnaaomhmoamfpaaDoor.Q Go.Proofs.YtnaaomhmoamfpaaDoor.Hn Go.Proofs.YtnaaomhmoamfpaaDoor.K
open Go.RowKit Go.Shelf Go.Proofs.YtnaaomhmoamfpaaDoorW.PrintWords Go.Proofs.YtnaaomhmoamfpaaDoorW.PrintLast Go.Proofs.YtnaaomhmoamfpaaDoorW.PrintMore
/-- A list that lies in blocks of ok, read at v. -/
def RdK {α : Type} (d : Kd α) (w : World) (ok : Nat → Prop) (v : Value) (l : List α) : Prop := ∃ A c, v = .slice A l.length c ∧ l.length ≤ c ∧ Kd.F d w ok A l.length l
section
variable {α : Type} {d : Kd α} {w w1 : World} {v : Value} {l : List α} {ok ok' : Nat → Prop}
theorem RdK.of {e base : Nat} (h : Kd.R d e w base ok v l) : RdK d w ok v l := by
  obtain ⟨A, c, rfl⟩ := Kd.R_slice h
  exact ⟨A, c, rfl, (Kd.R_reads' h).2.1, Kd.R_F h⟩
theorem RdK.below (h : RdK d w ok v l) (hb : Below w.heap.size w w1) : RdK d w1 ok v l := by
  obtain ⟨A, c, e, hl, hf⟩ := h
  exact ⟨A, c, e, hl, Kd.F_below hf hb⟩
theorem RdK.mono (h : RdK d w ok v l) (hk : ∀ k, ok k → ok' k) : RdK d w ok' v l := by
  obtain ⟨A, c, e, hl, hf⟩ := h
  exact ⟨A, c, e, hl, Kd.F_mono hf hk⟩
theorem RdK.step (h : RdK d w ok v l) (hm : ∀ k, ok k → k < w.heap.size → w1.heap[k]? = w.heap[k]?) : RdK d w1 ok v l := by
  obtain ⟨A, c, e, hl, hf⟩ := h
  exact ⟨A, c, e, hl, Kd.F_step hf hm⟩
theorem RdK.bound (h : RdK d w ok v l) : RdK d w (fun k => ok k ∧ k < w.heap.size) v l := by
  obtain ⟨A, c, e, hl, hf⟩ := h
  exact ⟨A, c, e, hl, Kd.F_bound hf⟩
end
theorem moves_calls' {x : List Int} (hb : okD x = true) {ok : Nat → Prop} (A : Option Addr) (c : Nat) (w : World) (h : RdK (Kd.int .i64) w ok (.slice A x.length c) x) :
    Calls Tryd.prog 42 #[.slice A x.length c, .int .i64 3] w fun e w' => ∃ v, e = .returned v ∧ Kd.R k52 52 w' w.heap.size (fun _ => True) v ((movesL x 3).map mkS) ∧ Below w.heap.size w w' := by
  obtain ⟨_, h1, _⟩ := (okD_iff x).1 hb
  obtain ⟨k, hk⟩ := Ev.rounds (rmoves_ev x 3 (by omega) (by omega))
  obtain ⟨A', c', e, hl, hf⟩ := h
  cases e
  exact bibelotref03_Moves.calls k A c x 3 _ w (Kd.F_now hf) hl hk
theorem rplay_calls' {x : List Int} (hx : x.length ≤ 40) (ms : List S52) (hm : ms.length ≤ 1000) {ok ok' : Nat → Prop} (A A1 : Option Addr) (c c1 : Nat) (w : World) (h : RdK (Kd.int .i64) w ok (.slice A x.length c) x) (h1 : RdK k52 w ok' (.slice A1 ms.length c1) ms) :
    Calls Tryd.prog 57 #[.slice A x.length c, .slice A1 ms.length c1, .int .i64 3] w fun e w' => ∃ v, e = .returned (.tuple #[v, .int .i64 ((playL x ms).2 : Int)]) ∧ Kd.R (Kd.int .i64) 3 w' w.heap.size (fun _ => True) v (playL x ms).1 ∧ Below w.heap.size w w' := by
  obtain ⟨k, hk⟩ := Ev.rounds (aplay_ev x ms (by omega) (by omega))
  obtain ⟨A', c', e, hl, hf⟩ := h
  cases e
  obtain ⟨A', c', e, hl1, hf1⟩ := h1
  cases e
  exact bibelotref03_Play.calls k A c x A1 c1 ms 3 _ _ w (Kd.F_now hf) hl (Kd.F_now hf1) hl1 hk
theorem play_calls' {x : List Int} (hx : okD x = true) (ms : List S52) {ok ok' : Nat → Prop} (A A1 : Option Addr) (c c1 : Nat) (w : World) (h : RdK (Kd.int .i64) w ok (.slice A x.length c) x) (h1 : RdK k52 w ok' (.slice A1 ms.length c1) ms) :
    Calls Tryd.prog 56 #[.slice A x.length c, .slice A1 ms.length c1] w fun e w' => ∃ v, e = .returned (.tuple #[v, .int .i64 ((playL x ms).2 : Int), .int .i64 0]) ∧ Kd.R (Kd.int .i64) 3 w' w.heap.size (fun _ => True) v (playL x ms).1 ∧ Below w.heap.size w w' := by
  obtain ⟨A', c', e, hl, hf⟩ := h
  cases e
  obtain ⟨A', c', e, hl1, hf1⟩ := h1
  cases e
  exact hanoi_Play.calls A c x A1 c1 ms _ _ _ w (Kd.F_now hf) hl (Kd.F_now hf1) hl1 (by unfold hanoi_Play.f; rw [if_pos hx])
theorem way_calls' (ms : List S52) : ∃ wy : List S52, wy.length ≤ 200 ∧ ∀ (A : Option Addr) (c : Nat) (w : World), Kd.C k52 w A ms.length ms → ms.length ≤ c →
    Calls Tryd.prog 55 #[.slice A ms.length c] w fun e w' => ∃ v, e = .returned v ∧ Kd.R k52 52 w' w.heap.size (fun _ => True) v wy ∧ Below w.heap.size w w' := by
  have hmn : 0 ≤ mn (ms.length : Int) 200 ∧ mn (ms.length : Int) 200 ≤ (ms.length : Int) ∧ mn (ms.length : Int) 200 ≤ 200 := by unfold mn; omega
  have h1 : (ms.take (mn (ms.length : Int) 200).toNat).length ≤ 200 := by rw [List.length_take]; omega
  obtain ⟨wy, hwy, hlw⟩ : ∃ wy, bibelotlaw03_way.f ms = some wy ∧ wy.length ≤ 200 := by
    unfold bibelotlaw03_way.f
    rw [if_pos hmn.1, if_pos hmn.2.1, Option.bind_some, if_pos (by simp only [List.length_nil]; omega)]
    exact ⟨_, rfl, by rw [List.nil_append]; exact h1⟩
  exact ⟨wy, hlw, fun A c w hr hc => bibelotlaw03_way.calls A c ms _ w hr hc hwy⟩
theorem ints_calls' {x : List Int} (hx : x.length ≤ 1000) (y : List Int) {ok ok' : Nat → Prop} (A A1 : Option Addr) (c c1 : Nat) (w : World) (h : RdK (Kd.int .i64) w ok (.slice A x.length c) x) (h1 : RdK (Kd.int .i64) w ok' (.slice A1 y.length c1) y) :
    Calls Tryd.prog 49 #[.slice A x.length c, .slice A1 y.length c1] w fun e w' => e = .returned (.bool (decide (x = y))) ∧ ∃ m, w' = w.drewN m := by
  obtain ⟨k, hk⟩ := Ev.rounds (ints_ev x y hx)
  obtain ⟨A', c', e, hl, hf⟩ := h
  cases e
  obtain ⟨A', c', e, hl1, hf1⟩ := h1
  cases e
  exact CallsMono (bibelotlaw03_ints.calls k A c x A1 c1 y _ w (Kd.F_now hf) hl (Kd.F_now hf1) hl1 hk)
theorem fresh_ne0 {W : World} {gb k : Nat} (h : gb < W.heap.size) (hk : W.heap.size ≤ k) : k ≠ gb := by omega
theorem fresh_ne {W : World} {gb k : Nat} {o : Obj} (h : gb < W.heap.size) (hk : (W.alloc o).heap.size ≤ k) : k ≠ gb := by
  simp at hk
  omega
def Hold (p : Prop) : Prop := p
theorem stopper {p : Prop} (h : Hold p) : p := h
theorem rd_one {W : World} {g : Nat} {p q : Int} (h : Blk W g #[.int .i64 p, .int .i64 q] 52) : RdK k52 W (fun k => k = g) (.slice (some ⟨g, 0, none⟩) 1 1) [⟨p, q⟩] := by
  refine ⟨some ⟨g, 0, none⟩, 1, rfl, Nat.le_refl _, fun W' hW => ?_⟩
  have hb : Blk W' g #[.int .i64 p, .int .i64 q] 52 := (hW g rfl h.lt).trans h
  refine ⟨rfl, by simp, fun _ => ⟨_, rfl, fun j x hj => ?_⟩⟩
  match j, hj with
  | 0, hj =>
    obtain rfl := Option.some.inj hj
    refine ⟨[.int .i64 p, .int .i64 q], rfl, k52.K_of_M (k52_mkM W' 0 (fun _ => True) _), fun k u hu => ?_⟩
    match k, hu with
    | 0, hu =>
      obtain rfl := Option.some.inj hu
      exact hb.cell 0 rfl
    | 1, hu =>
      obtain rfl := Option.some.inj hu
      exact hb.cell 1 rfl
    | k + 2, hu => cases hu
  | j + 1, hj => cases hj
theorem playL_len' (ms : List S52) : ∀ d : List Int, (playL d ms).1.length = d.length := by
  induction ms with
  | nil => intro d; rfl
  | cons m ms ih =>
    intro d
    rw [playL]
    split
    · show (playL (putM d m) ms).1.length = d.length
      rw [ih]; unfold putM; rw [List.length_set]
    · rfl
/-- What the moves become: each one that can be made. -/
structure PlN (l n : Nat) (v16 : Value) (now : List Int) (nx : List S52) (v15 : Value) (wo wi : World) : Prop where
  ok : okD now = true
  len : nx.length = n
  R : RdK (Kd.int .i64) wi (fun k => some k ≠ v16.ownBlock) v15 now
  N : Kd.R k52 52 wi wo.heap.size (fun _ => True) v16 nx
  bel : Below wo.heap.size wo wi
/-- One move out of those that can be made. -/
theorem pick_move {now : List Int} (ho : okD now = true) (z : Int) : ∃ (j : Nat) (p q : Int), j < ((movesL now 3).map mkS).length ∧ IntKind.i64.wrap (Int.tmod (IntKind.u64.wrap z) (IntKind.u64.wrap (((movesL now 3).map mkS).length : Int))) = (j : Int) ∧ ((movesL now 3).map mkS).length ≤ 120 ∧ 0 < ((movesL now 3).map mkS).length ∧
    rd_T52 ((movesL now 3).map mkS) (j : Int) = ⟨p, q⟩ ∧ (playL now [⟨p, q⟩]).2 = 1 ∧ okD (playL now [⟨p, q⟩]).1 = true := by
  obtain ⟨m0, m120⟩ := moves_some now ho
  have hL : (((movesL now 3).map mkS).length : Int) = ((movesL now 3).length : Int) := by rw [List.length_map]
  have hu : IntKind.u64.wrap ((movesL now 3).length : Int) = ((movesL now 3).length : Int) := u64w (by omega) (by omega)
  obtain ⟨b0, b1⟩ := umod_bd z ((movesL now 3).length : Int) (by omega)
  obtain ⟨j, hj⟩ := Int.eq_ofNat_of_zero_le b0
  have hjl : j < (movesL now 3).length := by omega
  obtain ⟨mv, hmv⟩ : ∃ mv, (movesL now 3)[j] = mv := ⟨_, rfl⟩
  have hmem : mv ∈ movesL now 3 := hmv ▸ List.getElem_mem hjl
  have hrd : rd_T52 ((movesL now 3).map mkS) (j : Int) = mkS mv := by simp [rd_T52, hjl, hmv]
  have hB : mvB now (mkS mv) = true := (mvB_mem now (mkS mv)).2 ⟨mv.1, mv.2, hmem, rfl, rfl⟩
  have hpl : playL now [mkS mv] = (putM now (mkS mv), 1) := by rw [playL, if_pos hB, playL]
  refine ⟨j, (mkS mv).f0, (mkS mv).f1, by rw [List.length_map]; exact hjl, ?_, by rw [List.length_map]; exact m120, by rw [List.length_map]; exact m0, hrd, by show (playL now [mkS mv]).2 = 1; rw [hpl], by show okD (playL now [mkS mv]).1 = true; rw [hpl]; exact putM_ok ho hB⟩
  rw [hL, hu, utmod, i64_w, w64 (by omega) (by omega), hj]
set_option maxHeartbeats 8000000 in
set_option maxRecDepth 100000 in
/-- One round of the inner loop: regions 15 to 18. -/
theorem plays_walk (n0 : Int) (A1 : Option Addr) (c1 : Nat) (l1 : List Int) (A2 : Option Addr) (c2 : Nat) (l2 : List S52) (w : World) (hr1 : Kd.C (Kd.int .i64) w A1 l1.length l1) (hc1 : l1.length ≤ c1) (hr2 : Kd.C k52 w A2 l2.length l2) (hc2 : l2.length ≤ c2) :
    Calls Tryd.prog 16 #[.int .i64 n0, .slice A1 l1.length c1, .slice A2 l2.length c2] w fun e w' => e = .returned (.bool true) ∧ Below w.heap.size w w' := by
  obtain ⟨n, hn1, hn40, hmn, hm⟩ := many_calls' n0 40 w (by omega) (by omega)
  have hdx := fun W hr => discs_calls' A1 c1 l1 n (by omega) W hr hc1
  have hox := discsL_ok l1 n hn1 hn40
  have hlx := discsL_len l1 n
  obtain ⟨wy, hwl, hwy⟩ := way_calls' l2
  obtain ⟨x, hx⟩ : ∃ x, discsL l1 n = x := ⟨_, rfl⟩
  rw [hx] at hlx hox
  simp only [hx] at hdx
  have HC1 := Aside0.mk hr1
  have HC2 := Aside0.mk hr2
  have HM := Aside0.mk hm
  have DX := Aside0.mk hdx
  have OKX := Aside0.mk hox
  have LX := Aside0.mk hlx
  have HW := Aside0.mk (fun W hr => hwy A2 c2 W hr hc2)
  have HWL := Aside0.mk hwl
  clear hr1 hr2 hm hdx hox hlx hmn hx hwy hwl
  go_enter Tryd.func16, Tryd.ntmps16
  go_wp2_with fail
  refine (HM.out _).mono ?_
  rintro e w1 ⟨rfl, ⟨m1, rfl⟩⟩
  go_wp2_with fail
  refine (DX.out _ (Kd.C_drewN HC1.out m1)).mono ?_
  rintro e w2 ⟨v7, rfl, ho, hb⟩
  have O7 := Aside0.mk (RdK.of ho)
  have B2 := Aside0.mk ((pw_below_drewN (Below.refl w.heap.size w) m1).trans hb)
  clear ho hb
  go_wp2_with fail
  refine (HW.out _ (Kd.C_below HC2.out B2.out)).mono ?_
  rintro e w3 ⟨v8, rfl, ho, hb⟩
  have O8 := Aside0.mk (RdK.of ho)
  replace O7 := Aside0.mk (O7.out.below hb)
  have B3 := Aside0.mk (B2.out.trans (hb.mono B2.out.size))
  clear ho hb HM DX HW B2
  obtain ⟨A7, c7, e7, _, _⟩ := O7.out
  subst e7
  go_wp2
  go_loopw [8, 9] (fun v8 r wr => ∃ (i : Nat) (wl : List S52) (A8 : Option Addr) (c8 : Nat), i ≤ 2 ∧ r = .int .i64 (i : Int) ∧ v8 = .slice A8 wl.length c8 ∧ wl.length ≤ 200 ∧ Aside0 (RdK k52 wr (fun _ => True) (.slice A8 wl.length c8) wl) ∧ Aside0 (Below w3.heap.size w3 wr)) (fun _ r _ => 2 - (intOf r).toNat)
  case atStart =>
    obtain ⟨A8, c8, e8, _, _⟩ := O8.out
    subst e8
    exact ⟨0, wy, A8, c8, by omega, rfl, rfl, HWL.out, O8, ⟨Below.refl _ _⟩⟩
  case round =>
    obtain ⟨i, wl, A8, c8, hi, rfl, rfl, hwl, RW, BR⟩ := hrel
    by_cases hi2 : i < 2
    · have P7 := Aside0.mk (O7.out.below BR.out)
      have hc9 : (i : Int) < 2 := by omega
      have hwi : IntKind.i64.wrap ((i : Int) + 1) = ((i + 1 : Nat) : Int) := by rw [i64_w, w64 (by omega) (by omega)]; omega
      obtain ⟨pl, hpl⟩ : ∃ pl, playL x wl = pl := ⟨_, rfl⟩
      have hpc := play_calls' OKX.out wl A7 A8 c7 c8 wr P7.out RW.out
      have hrc : ∀ W, Below wr.heap.size wr W → _ := fun W hW => rplay_calls' (x := x) (by have := (okD_iff x).1 OKX.out; omega) wl (by omega) A7 A8 c7 c8 W (P7.out.below hW) (RW.out.below hW)
      have hpn := playL_len' wl x
      simp only [hpl] at hpc hrc hpn
      have hpx : pl.1.length ≤ 1000 := by have := (okD_iff x).1 OKX.out; omega
      have HPC := Aside0.mk hpc
      have HRC := Aside0.mk hrc
      have HPX := Aside0.mk hpx
      clear hpc hrc hpl hpn hpx
      go_wp2_with fail
      refine HPC.out.mono ?_
      rintro e w4 ⟨v10, rfl, ho, hb⟩
      have O10 := Aside0.mk (RdK.of ho)
      have B4 := Aside0.mk hb
      clear ho hb
      go_wp2_with fail
      refine (HRC.out _ B4.out).mono ?_
      rintro e w5 ⟨v13, rfl, ho, hb⟩
      have O13 := Aside0.mk (RdK.of ho)
      replace O10 := Aside0.mk (O10.out.below hb)
      have B5 := Aside0.mk (B4.out.trans (hb.mono B4.out.size))
      clear ho hb HPC HRC B4
      obtain ⟨A10, c10, e10, _, _⟩ := O10.out
      subst e10
      obtain ⟨A13, c13, e13, _, _⟩ := O13.out
      subst e13
      have HIC := Aside0.mk (ints_calls' HPX.out pl.1 A10 A13 c10 c13 w5 O10.out O13.out)
      simp only [decide_true] at HIC
      go_wp2_with fail
      refine HIC.out.mono ?_
      rintro e w6 ⟨rfl, m6, rfl⟩
      replace B5 := Aside0.mk (pw_below_drewN B5.out m6)
      clear HIC O10 O13
      obtain ⟨W6, hW6⟩ : ∃ W, w5.drewN m6 = W := ⟨_, rfl⟩
      rw [hW6] at B5
      rw [hW6]
      clear hW6
      go_wp2
      obtain ⟨wo, hwo⟩ : ∃ z, z = wr := ⟨_, rfl⟩
      subst hwo
      go_loopw [15, 16, 17] (fun v15 v16 r wi => ∃ (t : Nat) (now : List Int) (nx : List S52) (A15 : Option Addr) (c15 : Nat), t ≤ wl.length ∧ r = .int .i64 (t : Int) ∧ v15 = .slice A15 now.length c15 ∧ Aside0 (PlN wl.length t v16 now nx (.slice A15 now.length c15) W6 wi)) (fun _ _ r _ => wl.length - (intOf r).toNat)
      case atStart => exact ⟨0, x, [], A7, c7, by omega, rfl, rfl, ⟨⟨OKX.out, rfl, (P7.out.below B5.out).mono (fun _ _ => by simp [Value.ownBlock]), Kd.R_nil _ _ _ _ _, Below.refl _ _⟩⟩⟩
      case round =>
        obtain ⟨t, now, nx, A15, c15, ht, rfl, rfl, HI⟩ := hrel
        by_cases htl : t < wl.length
        · have hc17 : (t : Int) < (wl.length : Int) := by omega
          have h0t : (0 : Int) ≤ (t : Int) := by omega
          have hwt : IntKind.i64.wrap ((t : Int) + 1) = ((t + 1 : Nat) : Int) := by rw [i64_w, w64 (by omega) (by omega)]; omega
          have BZ := Aside0.mk (B5.out.trans (HI.out.bel.mono B5.out.size))
          have MC := Aside0.mk (moves_calls' HI.out.ok A15 c15 wr HI.out.R)
          have hlt16 := Kd.R_lt HI.out.N
          have HL16 := Aside0.mk hlt16
          clear hlt16
          go_wp2_with fail
          refine MC.out.mono ?_
          rintro e wm ⟨v18, rfl, ho, hb⟩
          have BM := Aside0.mk hb
          obtain ⟨A18, c18, e18⟩ := Kd.R_slice ho
          subst e18
          obtain ⟨A8', c8', e8, hl8, hf8⟩ := RW.out.below (BZ.out.trans (hb.mono BZ.out.size))
          cases e8
          obtain ⟨ad8, e8, hx0, hx1⟩ := at_T52 (Kd.F_now hf8) (t : Int) h0t hc17
          subst e8
          obtain ⟨F0, hF0⟩ : ∃ F, (rd_T52 wl (t : Int)).f0 = F := ⟨_, rfl⟩
          obtain ⟨F1, hF1⟩ : ∃ F, (rd_T52 wl (t : Int)).f1 = F := ⟨_, rfl⟩
          rw [Int.toNat_natCast, hF0] at hx0
          rw [Int.toNat_natCast, hF1] at hx1
          obtain ⟨j, p, q, hj, hji, hc120, hc0, hrd, hpl1, hplo⟩ := pick_move HI.out.ok (IntKind.i64.wrap (F0 + F1))
          obtain ⟨ad18, e18, hy0, hy1⟩ := at_T52 (Kd.R_reads' ho).2.2 (j : Int) (by omega) (by omega)
          subst e18
          rw [hrd, Int.toNat_natCast] at hy0 hy1
          obtain ⟨can, hcan⟩ : ∃ can, (movesL now 3).map mkS = can := ⟨_, rfl⟩
          rw [hcan] at hj hc120 hc0 hji ⊢
          have hjl : (j : Int) < (can.length : Int) := by omega
          have hj0 : (0 : Int) ≤ (j : Int) := by omega
          have hu52 := Tryd.underlying52
          have hnz : ¬ (IntKind.u64.wrap (can.length : Int) = 0) := by rw [u64w (by omega) (by omega)]; omega
          have BD := Aside0.mk (show Below wr.heap.size wr wm.drew from hb.drew)
          have PL := Aside0.mk hplo
          have HF0 := Aside0.mk hF0
          clear MC ho hb hf8 hF0 hF1 hrd hpl1 hplo hcan
          go_upto_region 16 with fail
          refine start_ (n := 22) (S := fun w' => w'.cell? (ad8.add (t * 2)) = some (.int .i64 F0) ∧ w'.cell? ⟨(ad8.add (t * 2)).block, (ad8.add (t * 2)).off + 1, none⟩ = some (.int .i64 F1) ∧ w'.cell? (ad18.add (j * 2)) = some (.int .i64 p) ∧ w'.cell? ⟨(ad18.add (j * 2)).block, (ad18.add (j * 2)).off + 1, none⟩ = some (.int .i64 q)) (ds := [21]) #[false, false, false, false, false, false, false, false, false, false, false, false, false, false, false, false, false, false, false, false, false, false] (by kernel_rfl) rfl rfl ⟨hx0, hx1, hy0, hy1⟩ (fun hHeld => ?_)
          generalize wm.drew = wd at hHeld BD ⊢
          clear hx0 hx1 hy0 hy1
          refine pure_ (i := 0) (N := (some 65)) (v := ?_) (a' := ?_) #[true, false, false, false, false, false, false, false, false, false, false, false, false, false, false, false, false, false, false, false, false, false] rfl rfl (by kernel_rfl) (fun _ _ _ h => h) (Or.inl ⟨by rfl, ?_⟩) ?_ ?_
          rotate_left
          · intro w'
            go_simp
            with_reducible rfl
          rotate_left
          · simp only [Act.put, List.setIfInBounds_toArray, List.set_cons_zero, List.set_cons_succ]
            rfl
          refine pure_ (i := 1) (N := (some 66)) (v := ?_) (a' := ?_) #[true, true, false, false, false, false, false, false, false, false, false, false, false, false, false, false, false, false, false, false, false, false] rfl rfl (by kernel_rfl) (fun _ _ _ h => h) (Or.inl ⟨by rfl, ?_⟩) ?_ ?_
          rotate_left
          · intro w'
            go_simp
            with_reducible rfl
          rotate_left
          · simp only [Act.put, List.setIfInBounds_toArray, List.set_cons_zero, List.set_cons_succ]
            rfl
          refine pure_ (i := 2) (N := (some 67)) (v := ?_) (a' := ?_) #[true, true, true, false, false, false, false, false, false, false, false, false, false, false, false, false, false, false, false, false, false, false] rfl rfl (by kernel_rfl) (fun _ _ _ h => h) (Or.inl ⟨by rfl, ?_⟩) ?_ ?_
          rotate_left
          · intro w'
            go_simp
            with_reducible rfl
          rotate_left
          · simp only [Act.put, List.setIfInBounds_toArray, List.set_cons_zero, List.set_cons_succ]
            rfl
          refine pure_ (i := 3) (N := (some 68)) (v := ?_) (a' := ?_) #[true, true, true, true, false, false, false, false, false, false, false, false, false, false, false, false, false, false, false, false, false, false] rfl rfl (by kernel_rfl) (fun _ _ _ h => h) (Or.inl ⟨by rfl, ?_⟩) ?_ ?_
          rotate_left
          · intro w'
            go_simp
            with_reducible rfl
          rotate_left
          · simp only [Act.put, List.setIfInBounds_toArray, List.set_cons_zero, List.set_cons_succ]
            rfl
          refine pure_ (i := 4) (N := (some 69)) (v := ?_) (a' := ?_) #[true, true, true, true, true, false, false, false, false, false, false, false, false, false, false, false, false, false, false, false, false, false] rfl rfl (by kernel_rfl) (fun _ _ _ h => h) (Or.inl ⟨by rfl, ?_⟩) ?_ ?_
          rotate_left
          · intro w'
            go_simp
            with_reducible rfl
          rotate_left
          · simp only [Act.put, List.setIfInBounds_toArray, List.set_cons_zero, List.set_cons_succ]
            rfl
          refine take_ (i := 5) (N := (some 70)) (v := ?_) (a' := ?_) #[true, true, true, true, true, true, false, false, false, false, false, false, false, false, false, false, false, false, false, false, false, false] rfl rfl (by kernel_rfl) (fun _ _ _ h => h) (Or.inl ⟨by rfl, ?_⟩) hHeld ?_ ?_
          rotate_left
          · rintro w' ⟨s0, s1, s2, s3⟩
            go_simp
            with_reducible rfl
          rotate_left
          · simp only [Act.put, List.setIfInBounds_toArray, List.set_cons_zero, List.set_cons_succ]
            rfl
          refine pure_ (i := 6) (N := (some 71)) (v := ?_) (a' := ?_) #[true, true, true, true, true, true, true, false, false, false, false, false, false, false, false, false, false, false, false, false, false, false] rfl rfl (by kernel_rfl) (fun _ _ _ h => h) (Or.inl ⟨by rfl, ?_⟩) ?_ ?_
          rotate_left
          · intro w'
            go_simp
            with_reducible rfl
          rotate_left
          · simp only [Act.put, List.setIfInBounds_toArray, List.set_cons_zero, List.set_cons_succ]
            rfl
          refine pure_ (i := 7) (N := (some 72)) (v := ?_) (a' := ?_) #[true, true, true, true, true, true, true, true, false, false, false, false, false, false, false, false, false, false, false, false, false, false] rfl rfl (by kernel_rfl) (fun _ _ _ h => h) (Or.inl ⟨by rfl, ?_⟩) ?_ ?_
          rotate_left
          · intro w'
            go_simp
            with_reducible rfl
          rotate_left
          · simp only [Act.put, List.setIfInBounds_toArray, List.set_cons_zero, List.set_cons_succ]
            rfl
          refine pure_ (i := 8) (N := (some 73)) (v := ?_) (a' := ?_) #[true, true, true, true, true, true, true, true, true, false, false, false, false, false, false, false, false, false, false, false, false, false] rfl rfl (by kernel_rfl) (fun _ _ _ h => h) (Or.inl ⟨by rfl, ?_⟩) ?_ ?_
          rotate_left
          · intro w'
            go_simp
            with_reducible rfl
          rotate_left
          · simp only [Act.put, List.setIfInBounds_toArray, List.set_cons_zero, List.set_cons_succ]
            rfl
          refine pure_ (i := 9) (N := (some 74)) (v := ?_) (a' := ?_) #[true, true, true, true, true, true, true, true, true, true, false, false, false, false, false, false, false, false, false, false, false, false] rfl rfl (by kernel_rfl) (fun _ _ _ h => h) (Or.inl ⟨by rfl, ?_⟩) ?_ ?_
          rotate_left
          · intro w'
            go_simp
            with_reducible rfl
          rotate_left
          · simp only [Act.put, List.setIfInBounds_toArray, List.set_cons_zero, List.set_cons_succ]
            rfl
          refine take_ (i := 10) (N := (some 75)) (v := ?_) (a' := ?_) #[true, true, true, true, true, true, true, true, true, true, true, false, false, false, false, false, false, false, false, false, false, false] rfl rfl (by kernel_rfl) (fun _ _ _ h => h) (Or.inl ⟨by rfl, ?_⟩) hHeld ?_ ?_
          rotate_left
          · rintro w' ⟨s0, s1, s2, s3⟩
            go_simp
            with_reducible rfl
          rotate_left
          · simp only [Act.put, List.setIfInBounds_toArray, List.set_cons_zero, List.set_cons_succ]
            rfl
          refine pure_ (i := 11) (N := (some 76)) (v := ?_) (a' := ?_) #[true, true, true, true, true, true, true, true, true, true, true, true, false, false, false, false, false, false, false, false, false, false] rfl rfl (by kernel_rfl) (fun _ _ _ h => h) (Or.inl ⟨by rfl, ?_⟩) ?_ ?_
          rotate_left
          · intro w'
            go_simp
            with_reducible rfl
          rotate_left
          · simp only [Act.put, List.setIfInBounds_toArray, List.set_cons_zero, List.set_cons_succ]
            rfl
          refine pure_ (i := 12) (N := (some 77)) (v := ?_) (a' := ?_) #[true, true, true, true, true, true, true, true, true, true, true, true, true, false, false, false, false, false, false, false, false, false] rfl rfl (by kernel_rfl) (fun _ _ _ h => h) (Or.inl ⟨by rfl, ?_⟩) ?_ ?_
          rotate_left
          · intro w'
            go_simp
            with_reducible rfl
          rotate_left
          · simp only [Act.put, List.setIfInBounds_toArray, List.set_cons_zero, List.set_cons_succ]
            rfl
          refine pure_ (i := 13) (N := (some 78)) (v := ?_) (a' := ?_) #[true, true, true, true, true, true, true, true, true, true, true, true, true, true, false, false, false, false, false, false, false, false] rfl rfl (by kernel_rfl) (fun _ _ _ h => h) (Or.inl ⟨by rfl, ?_⟩) ?_ ?_
          rotate_left
          · intro w'
            go_simp
            with_reducible rfl
          rotate_left
          · simp only [Act.put, List.setIfInBounds_toArray, List.set_cons_zero, List.set_cons_succ]
            rfl
          refine pure_ (i := 14) (N := (some 79)) (v := ?_) (a' := ?_) #[true, true, true, true, true, true, true, true, true, true, true, true, true, true, true, false, false, false, false, false, false, false] rfl rfl (by kernel_rfl) (fun _ _ _ h => h) (Or.inl ⟨by rfl, ?_⟩) ?_ ?_
          rotate_left
          · intro w'
            go_simp
            with_reducible rfl
          rotate_left
          · simp only [Act.put, List.setIfInBounds_toArray, List.set_cons_zero, List.set_cons_succ]
            rfl
          refine pure_ (i := 15) (N := (some 80)) (v := ?_) (a' := ?_) #[true, true, true, true, true, true, true, true, true, true, true, true, true, true, true, true, false, false, false, false, false, false] rfl rfl (by kernel_rfl) (fun _ _ _ h => h) (Or.inl ⟨by rfl, ?_⟩) ?_ ?_
          rotate_left
          · intro w'
            go_simp
            with_reducible rfl
          rotate_left
          · simp only [Act.put, List.setIfInBounds_toArray, List.set_cons_zero, List.set_cons_succ]
            rfl
          refine pure_ (i := 16) (N := (some 81)) (v := ?_) (a' := ?_) #[true, true, true, true, true, true, true, true, true, true, true, true, true, true, true, true, true, false, false, false, false, false] rfl rfl (by kernel_rfl) (fun _ _ _ h => h) (Or.inl ⟨by rfl, ?_⟩) ?_ ?_
          rotate_left
          · intro w'
            go_simp
            with_reducible rfl
          rotate_left
          · simp only [Act.put, List.setIfInBounds_toArray, List.set_cons_zero, List.set_cons_succ]
            rfl
          refine pure_ (i := 17) (N := (some 82)) (v := ?_) (a' := ?_) #[true, true, true, true, true, true, true, true, true, true, true, true, true, true, true, true, true, true, false, false, false, false] rfl rfl (by kernel_rfl) (fun _ _ _ h => h) (Or.inl ⟨by rfl, ?_⟩) ?_ ?_
          rotate_left
          · intro w'
            go_simp
            with_reducible rfl
          rotate_left
          · simp only [Act.put, List.setIfInBounds_toArray, List.set_cons_zero, List.set_cons_succ]
            rfl
          refine pure_ (i := 18) (N := (some 83)) (v := ?_) (a' := ?_) #[true, true, true, true, true, true, true, true, true, true, true, true, true, true, true, true, true, true, true, false, false, false] rfl rfl (by kernel_rfl) (fun _ _ _ h => h) (Or.inl ⟨by rfl, ?_⟩) ?_ ?_
          rotate_left
          · intro w'
            go_simp
            with_reducible rfl
          rotate_left
          · simp only [Act.put, List.setIfInBounds_toArray, List.set_cons_zero, List.set_cons_succ]
            rfl
          refine take_ (i := 19) (N := (some 84)) (v := ?_) (a' := ?_) #[true, true, true, true, true, true, true, true, true, true, true, true, true, true, true, true, true, true, true, true, false, false] rfl rfl (by kernel_rfl) (fun _ _ _ h => h) (Or.inl ⟨by rfl, ?_⟩) hHeld ?_ ?_
          rotate_left
          · rintro w' ⟨s0, s1, s2, s3⟩
            go_simp
            with_reducible rfl
          rotate_left
          · simp only [Act.put, List.setIfInBounds_toArray, List.set_cons_zero, List.set_cons_succ]
            rfl
          refine one_ (i := 20) (N := (some 19)) #[true, true, true, true, true, true, true, true, true, true, true, true, true, true, true, true, true, true, true, true, true, false] rfl rfl (by kernel_rfl) (by decide) (fun K hK => ?_)
          refine box_step ?hg (N := 19) ?hd (cs := #[.int .i64 0, .int .i64 0]) (t := 52) ?hr ?_
          case hd => rfl
          case hg => rfl
          case hr => first | (go_simp; done) | (go_simp; rfl)
          intro gb hg wb hbox hb
          have hs0 := (hb.cell (World.block_lt_of_cell? _ _ hHeld.1)).trans hHeld.1
          have hs1 := (hb.cell (World.block_lt_of_cell? _ _ hHeld.2.1)).trans hHeld.2.1
          have hs2 := (hb.cell (World.block_lt_of_cell? _ _ hHeld.2.2.1)).trans hHeld.2.2.1
          have hs3 := (hb.cell (World.block_lt_of_cell? _ _ hHeld.2.2.2)).trans hHeld.2.2.2
          have BB := Aside0.mk (BD.out.trans (hb.mono BD.out.size))
          have GB := Aside0.mk (show wr.heap.size ≤ gb by rw [hg]; exact BD.out.size)
          have BK := Aside0.mk (show Blk wb gb #[.int .i64 0, .int .i64 0] 52 from hbox)
          refine hK.out _ _ ⟨hs0, hs1, hs2, hs3⟩ (fun hHeld => ?_)
          clear hK K hs0 hs1 hs2 hs3 hb hbox hg
          refine norm_ (a' := ?_) ?_ ?_
          rotate_left
          · show Act.put _ (some 19) _ = _
            simp only [Act.put, List.setIfInBounds_toArray, List.set_cons_zero, List.set_cons_succ]
            rfl
          refine last_ (i := 21) (N := none) #[true, true, true, true, true, true, true, true, true, true, true, true, true, true, true, true, true, true, true, true, true, true] rfl rfl (by kernel_rfl) (by decide) (fun K hK => ?_)
          have hs0 := BK.out.cell 0 (v := .int .i64 0) rfl
          have hf0 := BK.out.free 0
          have hs1 := BK.out.cell 1 (v := .int .i64 0) rfl
          have hf1 := BK.out.free 1
          refine skip_ (w1 := ?_) (by rfl) rfl ?_ ?_
          rotate_left
          · go_simp
            rfl
          refine hK.out _ _ ?_
          clear hK K hs0 hf0 hs1 hf1
          refine done_ (by kernel_rfl) ?_
          have HS1 := Aside0.mk (show Below wr.heap.size wr ((wb.setCell ⟨gb, 0, none⟩ (.int .i64 p)).setCell ⟨gb, 1, none⟩ (.int .i64 q)) from (BB.out.setCell GB.out _).setCell GB.out _)
          have HS2 := Aside0.mk (show Blk ((wb.setCell ⟨gb, 0, none⟩ (.int .i64 p)).setCell ⟨gb, 1, none⟩ (.int .i64 q)) gb #[.int .i64 p, .int .i64 q] 52 from (BK.out.set 0 _).set 1 _)
          have HS3 := Aside0.mk (show Kd.R k52 52 ((wb.setCell ⟨gb, 0, none⟩ (.int .i64 p)).setCell ⟨gb, 1, none⟩ (.int .i64 q)) W6.heap.size (fun k => k ≠ gb) u16 nx from Kd.R_far (p := ⟨gb, 1, none⟩) (Kd.R_far (p := ⟨gb, 0, none⟩) (Kd.R_below (Kd.R_mono (Kd.R_elderB HI.out.N gb GB.out) (fun k hk => hk.2)) BB.out) (fun k hk => hk) _) (fun k hk => hk) _)
          obtain ⟨Ws, hWs⟩ : ∃ W, (wb.setCell ⟨gb, 0, none⟩ (.int .i64 p)).setCell ⟨gb, 1, none⟩ (.int .i64 q) = W := ⟨_, rfl⟩
          rw [hWs] at HS1 HS2 HS3
          rw [hWs]
          clear hWs BK hHeld hji hnz
          have HS4 := Aside0.mk (HI.out.R.below HS1.out)
          have hk0 := HS2.out.cell 0 (v := .int .i64 p) rfl
          have hk1 := HS2.out.cell 1 (v := .int .i64 q) rfl
          have HG := Aside0.mk (show u16.ownBlock ≠ some gb from fun e => by have := HL16.out gb e; have := GB.out; omega)
          go_wp2_with ((with_reducible refine gate_builtin (b := .append) (xs := #[.tmp 85, .tmp 87]) rfl ?_); at_builtin; refine stopper ?_)
          unfold Hold
          refine Kd.R_append k52 (w0 := W6) W6.heap.size rfl (.tmp 85) (.tmp 87) 48 52 (.agg #[(.int .i64 0), (.int .i64 0)]) 16 rfl Go.Proofs.YtnaaomhmoamfpaaDoor.G.u48 info52 rfl (by decide) (by omega) u16 nx (⟨p, q⟩ : S52) [.int .i64 p, .int .i64 q] (fun k => k ≠ gb) (fun _ => False) (by rfl) (by first | (go_simp; done) | (go_simp; rfl)) (k52_mkM _ _ _ (⟨p, q⟩ : S52)) (fun _ hk => hk.elim) (fun k hk => fresh_ne0 HS2.out.lt hk) HS3.out (HI.out.bel.trans (HS1.out.mono HI.out.bel.size)) ((HI.out.bel.trans (HS1.out.mono HI.out.bel.size)).size) (by have := HI.out.len; omega) ?_
          intro va wa ho hb hg hat
          have NA := Aside0.mk ho
          have BA := Aside0.mk hb
          have RA := Aside0.mk (RdK.step HS4.out (fun k hk hlt => hg.block k hlt hk))
          have hz0 := (Blk.grown HS2.out hg HG.out).cell 0 (v := .int .i64 p) rfl
          have hz1 := (Blk.grown HS2.out hg HG.out).cell 1 (v := .int .i64 q) rfl
          clear ho hb hg hat
          go_wp2_with fail
          have HX := Aside0.mk (show now.length ≤ 40 from ((okD_iff now).1 HI.out.ok).2.1)
          refine (rplay_calls' (x := now) HX.out [⟨p, q⟩] (by simp) A15 (some ⟨wa.heap.size, 0, none⟩) c15 1 _ (RA.out.below ((Below.refl _ wa).alloc (Nat.le_refl _) _)) (rd_one (Blk.new wa _ 52))).mono ?_
          rintro e wq ⟨v15', rfl, ho, hb⟩
          obtain ⟨nw, hnw⟩ : ∃ nw, (playL now [⟨p, q⟩]).1 = nw := ⟨_, rfl⟩
          rw [hnw] at ho PL
          clear hnw
          obtain ⟨A', c', e'⟩ := Kd.R_slice ho
          subst e'
          have X1 := Aside0.mk (show RdK (Kd.int .i64) wq (fun k => some k ≠ va.ownBlock) (.slice A' nw.length c') nw from RdK.of (Kd.R_mono (Kd.R_new' ho (fun k e => by have := Kd.R_lt NA.out k e; simp; omega)) (fun _ h => h.2)))
          have X2 := Aside0.mk (show Kd.R k52 52 wq W6.heap.size (fun _ => True) va (nx ++ [⟨p, q⟩]) from Kd.R_mono (Kd.R_below (Kd.R_alloc NA.out _) hb) (fun _ _ => trivial))
          have X3 := Aside0.mk (show Below W6.heap.size W6 wq from (BA.out.alloc BA.out.size _).trans (hb.mono (by have := BA.out.size; simp; omega)))
          clear ho hb
          go_wp2
          go_roundw
          case rel => exact ⟨t + 1, nw, nx ++ [⟨p, q⟩], A', c', by omega, rfl, rfl, ⟨⟨PL.out, by rw [List.length_append, HI.out.len]; rfl, X1.out, X2.out, X3.out⟩⟩⟩
          case measure => simp [intOf]; omega
        · obtain rfl : t = wl.length := by omega
          obtain ⟨A16, c16, e16⟩ := Kd.R_slice HI.out.N
          subst e16
          go_wp2
          go_roundw
          case rel => exact ⟨i + 1, nx, A16, c16, by omega, rfl, rfl, by have := HI.out.len; omega, ⟨RdK.of HI.out.N⟩, ⟨BR.out.trans ((B5.out.trans (HI.out.bel.mono B5.out.size)).mono BR.out.size)⟩⟩
          case measure => simp [intOf]; omega
    · obtain rfl : i = 2 := by omega
      go_wp2_with fail
      refine (awake_calls' wr).mono ?_
      rintro e w9 ⟨rfl, hb9⟩
      go_wp2
      go_ret
      exact ⟨rfl, B3.out.trans ((BR.out.trans (hb9.mono BR.out.size)).mono B3.out.size)⟩
end Go.Proofs.YtnaaomhmoamfpaaDoor.G
/- HanoiPlays: the discs after any moves: the walk, as the row asks for it. -/
namespace Go.Proofs.YtnaaomhmoamfpaaDoor.Pure
set_option linter.unusedVariables false
set_option linter.unusedSimpArgs false
set_option linter.unusedSectionVars false
open Go.Proofs.YtnaaomhmoamfpaaDoor.G
open Go.Proofs.YtnaaomhmoamfpaaDoor.Hn
open Go.RowKit Go.Proofs.YtnaaomhmoamfpaaDoor.Q Go.Proofs.YtnaaomhmoamfpaaDoorW.PrintWords Go.Proofs.YtnaaomhmoamfpaaDoorW.PrintLast Go.Proofs.YtnaaomhmoamfpaaDoorW.PrintMore
theorem HanoiPlays_walk (a0 : Int) (a1 : Option Addr) (len1 cap1 : Nat) (z1 : List Int) (A2 : Option Addr) (c2 : Nat) (l2 : List S52) (w : World) (w1 : ((a1 = none ∧ len1 = 0 ∧ cap1 = 0 ∧ z1 = []) ∨ ∃ x, a1 = some x ∧ len1 ≤ cap1 ∧ cap1 ≤ maxLen ∧ z1.length = cap1 ∧ (∀ i, i < z1.length → w.cell? (x.add i) = some (.int .i64 (z1.getD i 0))) ∧ ∀ n ∈ z1, (Lit.int .i64 n).wf = true)) (hr2 : Kd.C k52 w A2 l2.length l2) (hc2 : l2.length ≤ c2) :
    Calls Tryd.prog 16 #[.int .i64 a0, .slice a1 len1 cap1, .slice A2 l2.length c2] w fun e w' => e = .returned (.bool true) ∧ Below w.heap.size w w' := by
  obtain ⟨l1, rfl, hr1, hm1, hw1, hc1⟩ := ReadsInt.ofRowC w1
  exact plays_walk a0 _ _ l1 _ _ l2 w (Kd.C_of_reads (d := (0 : Int)) (h1 := fun _ => rfl) hr1) hc1 hr2 hc2
end Go.Proofs.YtnaaomhmoamfpaaDoor.Pure
