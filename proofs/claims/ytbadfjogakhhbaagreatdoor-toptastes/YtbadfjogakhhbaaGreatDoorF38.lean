/- TopTastes: the law, put together. -/
import Derived.Test.YtbadfjogakhhbaaGreatDoorF37
import Derived.Test.YtbadfjogakhhbaaGreatDoorF33
namespace Go.Proofs.YtbadfjogakhhbaaGreatDoor.Re
open Go Go.RowKit
set_option linter.unusedVariables false
set_option linter.unusedSimpArgs false
set_option linter.unusedSectionVars false
section
variable [Sig] {P : Program} {G : Nat → Option Obj} {B : Nat → Prop} {st : St}
theorem Goes.block {m id : Nat} {c : Code} {fr fr' : Fr} {st st' : St} {x y : LX} (h : Goes P G B m c fr st x fr' st') (hy : (match x with | .ext i => (match Nat.beq i id with | true => LX.nor | false => .ext i) | z => z) = y) : Goes P G B m (.block id c) fr st y fr' st' := by
  intro E a w hw hf hm Q hQ
  subst hy
  refine wpIn_block (h E a w hw hf hm _ ?_)
  intro E1 a1 w1 g0 g1 g2 g3
  have := hQ E1 a1 w1 g0 g1 g2 g3
  cases x with
  | nor => exact this
  | ret => exact this
  | ext i =>
    show (if i = id then Q .normal a1 w1 else Q (.exit i) a1 w1)
    by_cases hb : i = id
    · subst hb
      rw [if_pos rfl]
      simpa [LX.exit] using this
    · rw [if_neg hb]
      have hf : Nat.beq i id = false := by
        cases e : Nat.beq i id with
        | true => exact absurd (Nat.eq_of_beq_eq_true e) hb
        | false => rfl
      simpa [hf, LX.exit] using this
/-- Rounds of a loop. -/
theorem Goes.loop {m : Nat} {c : Code} {x : LX} {fr' : Fr} {st' : St} (hx : x.isNor = false) (n : Nat) (fr : Nat → Fr) (st : Nat → St) (hstep : ∀ j, j < n → Goes P G B m c (fr (j + 1)) (st (j + 1)) .nor (fr j) (st j)) (hlast : Goes P G B m c (fr 0) (st 0) x fr' st') : Goes P G B m (.loop c) (fr n) (st n) x fr' st' := by
  intro E a w hw hf hm Q hQ
  refine loop_sound (I := fun j a1 w1 => j ≤ n ∧ ∃ E1, Env.up m E E1 ∧ WR G B E1 (st j) w1 ∧ FR E1 (fr j) a1 ∧ Keep B w w1) (k := n) ⟨Nat.le_refl n, E, ⟨hm, fun _ _ => ⟨rfl, rfl⟩⟩, hw, hf, Keep.refl B w⟩ ?_
  rintro j a1 w1 ⟨hj, E1, g0, g1, g2, g3⟩
  cases j with
  | zero =>
    refine hlast E1 a1 w1 g1 g2 g0.1 _ ?_
    intro E2 a2 w2 k0 k1 k2 k3
    have := hQ E2 a2 w2 (g0.trans k0) k1 k2 (g3.trans k3)
    cases x with
    | nor => cases hx
    | ret => exact this
    | ext i => exact this
  | succ j =>
    refine hstep j (by omega) E1 a1 w1 g1 g2 g0.1 _ ?_
    intro E2 a2 w2 k0 k1 k2 k3
    exact ⟨j, Nat.lt_succ_self j, by omega, E2, g0.trans k0, k1, k2, g3.trans k3⟩
end
noncomputable def r3X : Code := match callInfo Tryz.prog 3 with
  | some (_, c) => match cutB 2 c with
    | .seq (.seq r _) _ => r
    | _ => .ret
  | none => .ret
theorem shape : ∃ fn c, callInfo Tryz.prog 3 = some (fn, c) ∧ cutB 2 c = .seq (.seq r3X (.block 0 (.loop loopX))) (cutB 3 c) := by
  have hb : (match callInfo Tryz.prog 3 with
    | some (_, c) => match cutB 2 c with
      | .seq (.seq _ (.block i (.loop _))) _ => Nat.beq i 0
      | _ => false
    | none => false) = true := by kernel_rfl
  split at hb
  · rename_i fn c hc
    split at hb
    · rename_i r i x y hcut
      have hi := Nat.eq_of_beq_eq_true hb
      subst hi
      refine ⟨fn, c, hc, ?_⟩
      have e1 : r3X = r := by unfold r3X; rw [hc]; simp only; rw [hcut]
      have e2 : loopX = x := by unfold loopX; rw [hc]; simp only; rw [hcut]
      have e3 : cutB 3 c = y := by
        letI : Sig := ⟨fun _ => 0, 0, 0, fun _ _ _ => none, fun _ _ _ _ h => (by cases h), fun _ => undef, fun _ => none, fun _ _ _ => none, fun _ _ _ _ h => (by cases h)⟩
        rw [← cutB_cutB 2 0 c, hcut]; rfl
      rw [e1, e2, e3]
      exact hcut
    · cases hb
  · cases hb
def lit0 : Lit := ⟨203, [(0, Vl 0), (3, nilS), (4, nilS)], []⟩
def litZ : Nat → Lit
  | 0 => ⟨203, [(3, nilS), (4, nilS)], []⟩
  | n + 1 => litN (n + 1)
theorem r3_run (σ gt gw val gf l m ok mok) : @runP (SX σ gt gw val gf l m ok mok) Tryz.prog (@GT (SX σ gt gw val gf l m ok mok)) (KK [] []) 4000 0 [0, 3, 4, 5] r3X (frL lit0) (stL lit0) = litX .nor (lp 0 pL bL) := by kernel_rfl
theorem litX_nor (l : Lit) : litX .nor l = litR l := by unfold litX litR; rfl
theorem rest_lit {σ : Nat → Int} {gt gw : TypeId} {val : Nat → Value} {gf : Nat → Option Obj} {n : Nat} (hn : n ≤ 5) (ok : ∀ e ∈ tabT n, EOK σ e) (hF : ∀ t ∈ fT n, @FOK (SX σ gt gw val gf (tabT n) [] ok gn) t) (hG : ∀ t ∈ sT n, @SOK (SX σ gt gw val gf (tabT n) [] ok gn) t) : @RestOK (SX σ gt gw val gf (tabT n) [] ok gn) Tryz.prog (@GT (SX σ gt gw val gf (tabT n) [] ok gn)) 3 tT (litZ n) := by
  match n, hn, ok, hF, hG with
  | 0, _, ok, hF, hG =>
    letI : Sig := SX σ gt gw val gf (tabT 0) [] ok gn
    exact rest_ok (t := tT) (l := litZ 0) (n := 3) (k := 4000) (K := KK [t9] []) mixed (kk (fa nine_fact Re.fn) Re.fn) (rt_0 σ gt gw val gf (tabT 0) [] ok gn) rfl
  | 1, _, ok, hF, hG =>
    letI : Sig := SX σ gt gw val gf (tabT 1) [] ok gn
    exact rest_ok (t := tT) (l := litZ 1) (n := 3) (k := 4000) (K := KK (fT 1) (sT 1)) mixed (kk hF hG) (rt_1 σ gt gw val gf [] ok gn) rfl
  | 2, _, ok, hF, hG =>
    letI : Sig := SX σ gt gw val gf (tabT 2) [] ok gn
    exact rest_ok (t := tT) (l := litZ 2) (n := 3) (k := 4000) (K := KK (fT 2) (sT 2)) mixed (kk hF hG) (rt_2 σ gt gw val gf [] ok gn) rfl
  | 3, _, ok, hF, hG =>
    letI : Sig := SX σ gt gw val gf (tabT 3) [] ok gn
    exact rest_ok (t := tT) (l := litZ 3) (n := 3) (k := 4000) (K := KK (fT 3) (sT 3)) mixed (kk hF hG) (rt_3 σ gt gw val gf [] ok gn) rfl
  | 4, _, ok, hF, hG =>
    letI : Sig := SX σ gt gw val gf (tabT 4) [] ok gn
    exact rest_ok (t := tT) (l := litZ 4) (n := 3) (k := 4000) (K := KK (fT 4) (sT 4)) mixed (kk hF hG) (rt_4 σ gt gw val gf [] ok gn) rfl
  | 5, _, ok, hF, hG =>
    letI : Sig := SX σ gt gw val gf (tabT 5) [] ok gn
    exact rest_ok (t := tT) (l := litZ 5) (n := 3) (k := 4000) (K := KK (fT 5) (sT 5)) mixed (kk hF hG) (rt_5 σ gt gw val gf [] ok gn) rfl
  | k + 6, h, _, _, _ => exact absurd h (by omega)
theorem tastes_sf {σ : Nat → Int} {gt gw : TypeId} {val : Nat → Value} {gf : Nat → Option Obj} {n : Nat} (hn : n ≤ 5) {len : Int} {D : Nat → Obs} (hσ : σ = sgT len D) (hA : ∀ i, i < n → At (SX σ gt gw val gf [] [] gn gn) i (D i)) (hm : ∀ e ∈ memE, MO σ val gf e) (hx : n < 5 → ¬ (n : Int) < len) : @SFactOK (SX σ gt gw val gf [] [] gn gn) Tryz.prog (@GT (SX σ gt gw val gf [] [] gn gn)) tT := by
  obtain ⟨fn, c, hci, hcut⟩ := shape
  -- behind the loop
  have hrest : @RestOK (SX σ gt gw val gf [] [] gn gn) Tryz.prog (@GT (SX σ gt gw val gf [] [] gn gn)) 3 tT (litZ n) := by
    have hD : ∀ i, i < n → OK1 (D i) := fun i hi => (hA i hi).ok
    have ok : ∀ e ∈ tabT n, EOK σ e := by rw [hσ]; exact tabT_ok hn hD
    have hF := @fT_ok (SX σ gt gw val gf (tabT n) [] ok gn) len D n hn hD hσ
    have hG := @sT_ok (SX σ gt gw val gf (tabT n) [] ok gn) len D n hn hD hσ
    refine RestOK_same (S' := SX σ gt gw val gf [] [] gn gn) (T := SX σ gt gw val gf (tabT n) [] ok gn) ⟨fun _ => rfl, fun _ => rfl, rfl, rfl, rfl⟩ ?_
    exact rest_lit hn ok hF hG
  -- the last look
  have hlast : ∀ B, @Goes (SX σ gt gw val gf [] [] gn gn) Tryz.prog (@GT (SX σ gt gw val gf [] [] gn gn)) B 0 loopX (frL (lp n pL bL)) (stL (lp n pL bL)) (.ext 0) (frL (litZ n)) (stL (litZ n)) := by
    have ok : ∀ e ∈ tabE n (decide ((n : Int) < len)), EOK σ e := ga (e_lss _ (a := n) (b := len) rfl (by show some (σ 90) = _; rw [hσ, sgT_90]) (by simp)) gn
    match n, hn, hx, ok with
    | 0, _, hx, ok => rw [decide_eq_false (hx (by omega))] at ok; exact piece (S' := SX σ gt gw val gf [] [] gn gn) ok hm (F := []) (G := []) gn gn rfl rfl (rx_0_false _ _ _ _ _ _ _)
    | 1, _, hx, ok => rw [decide_eq_false (hx (by omega))] at ok; exact piece (S' := SX σ gt gw val gf [] [] gn gn) ok hm (F := []) (G := []) gn gn rfl rfl (rx_1_false _ _ _ _ _ _ _)
    | 2, _, hx, ok => rw [decide_eq_false (hx (by omega))] at ok; exact piece (S' := SX σ gt gw val gf [] [] gn gn) ok hm (F := []) (G := []) gn gn rfl rfl (rx_2_false _ _ _ _ _ _ _)
    | 3, _, hx, ok => rw [decide_eq_false (hx (by omega))] at ok; exact piece (S' := SX σ gt gw val gf [] [] gn gn) ok hm (F := []) (G := []) gn gn rfl rfl (rx_3_false _ _ _ _ _ _ _)
    | 4, _, hx, ok => rw [decide_eq_false (hx (by omega))] at ok; exact piece (S' := SX σ gt gw val gf [] [] gn gn) ok hm (F := []) (G := []) gn gn rfl rfl (rx_4_false _ _ _ _ _ _ _)
    | 5, _, hx, ok =>
      cases hd : decide (((5 : Nat) : Int) < len) with
      | true => rw [hd] at ok; exact piece (S' := SX σ gt gw val gf [] [] gn gn) ok hm (F := []) (G := []) gn gn rfl rfl (rx_5_true _ _ _ _ _ _ _)
      | false => rw [hd] at ok; exact piece (S' := SX σ gt gw val gf [] [] gn gn) ok hm (F := []) (G := []) gn gn rfl rfl (rx_5_false _ _ _ _ _ _ _)
    | k + 6, h, _, _ => exact absurd h (by omega)
  have hz : (litS (litZ n)).isSome = true := by
    match n, hn with
    | 0, _ => rfl
    | 1, _ => rfl
    | 2, _ => rfl
    | 3, _ => rfl
    | 4, _ => rfl
    | 5, _ => rfl
    | k + 6, h => exact absurd h (by omega)
  letI : Sig := SX σ gt gw val gf [] [] gn gn
  have hfirst : ∀ B, Goes Tryz.prog GT B 0 r3X (frL lit0) (stL lit0) .nor (frL (lp 0 pL bL)) (stL (lp 0 pL bL)) := fun B => by
    have h := r3_run σ gt gw val gf [] [] gn gn
    unfold litX at h
    rw [litS_eq (l := lp 0 pL bL) rfl] at h
    exact Goes.of_run mixed (kk (l := []) (s := []) Re.fn Re.fn) h
  have hloop : ∀ B, Goes Tryz.prog GT B 0 (.loop loopX) (frL (lp 0 pL bL)) (stL (lp 0 pL bL)) (.ext 0) (frL (litZ n)) (stL (litZ n)) := fun B => by
    have h := Goes.loop (P := Tryz.prog) (G := GT) (B := B) (m := 0) (c := loopX) (x := .ext 0) rfl n (fun j => frL (lp (n - j) pL bL)) (fun j => stL (lp (n - j) pL bL)) (fun j hj => by
      have hr := round_all (S' := SX σ gt gw val gf [] [] gn gn) (i := n - (j + 1)) (o := D (n - (j + 1))) (by omega) (hA _ (by omega)) B
      rw [show n - (j + 1) + 1 = n - j by omega] at hr
      exact hr) (hlast B)
    rw [Nat.sub_self] at h
    exact h
  refine sfact_cut mixed (kk (l := []) (s := []) Re.fn Re.fn) (k := 4000) (n := 2) (ts := [0, 3, 4]) (l := lit0) ?_ ?_
  · rw [← litX_nor]
    exact half_3 σ gt gw val gf [] [] gn gn
  · obtain ⟨fn', c', hci', fr, st, hl, x, fr', st', r, st1, h3, h4, h5, h6, h7, h8⟩ := hrest
    have hcc : (fn', c') = (fn, c) := Option.some.inj (hci'.symm.trans hci)
    injection hcc with e1 e2
    subst e1 e2
    rw [litS_eq hz] at hl
    injection hl with hl
    injection hl with e3 e4
    subst e3 e4
    refine ⟨fn', c', hci', _, _, litS_eq (l := lit0) rfl, x, fr', st', r, st1, fun B => ?_, h4, h5, h6, h7, h8⟩
    rw [hcut]
    exact Goes.seq (Goes.seq (hfirst B) (Goes.block (hloop B) rfl)) (h3 B)
/-- The law of any list that is known by name. -/
theorem tastes_go (gt gw : TypeId) (gf : Nat → Option Obj) (x : Value) {p : Option Addr} {n c : Nat} (hx : x = .slice p n c) (hr : ∀ i, i < n → ∃ v pi ni ci, Rd gf x i v ∧ v = .slice pi ni ci ∧ ∀ j, j < ni → ∃ z : Int, Rd gf v j (.int .i64 z)) :
    ∃ (σ : Nat → Int) (val : Nat → Value), val 0 = x ∧ @SFactOK (SX σ gt gw val gf [] [] gn gn) Tryz.prog (@GT (SX σ gt gw val gf [] [] gn gn)) tT := by
  have hex : ∀ i, ∃ (d : Obs × Value), i < n → Rd gf x i d.2 ∧ (∃ pi ni ci, d.2 = .slice pi ni ci) ∧ OK1 d.1 ∧ (∀ (S' : Sig) (v0 e0 e1 e2 : Nat), S'.gt = gt → S'.gw = gw → S'.gf = gf → S'.val v0 = d.2 → S'.σ e0 = d.1.d0 → S'.σ e1 = d.1.d1 → S'.σ e2 = d.1.d2 → @FOK S' (dieF d.1.k (Vl v0) (S e0) (S e1) (S e2))) ∧
      (∀ (S' : Sig) (a b c d0 e f : Nat), S'.gt = gt → S'.gw = gw → S'.gf = gf → S'.σ a = d.1.p0 → S'.σ b = d.1.p1 → S'.σ c = d.1.p2 → S'.σ d0 = d.1.q0 → S'.σ e = d.1.q1 → S'.σ f = d.1.q2 → @SOK S' (dDn (S a) (S b) (S c) (S d0) (S e) (S f))) := fun i => by
    by_cases hi : i < n
    · obtain ⟨v, pi, ni, ci, h1, h2, h3⟩ := hr i hi
      obtain ⟨o, k1, k2, k3⟩ := obs_ex gt gw gf v h2 h3
      exact ⟨(o, v), fun _ => ⟨h1, ⟨pi, ni, ci, h2⟩, k1, k2, k3⟩⟩
    · exact ⟨(⟨0, 0, 0, 0, 0, 0, 0, 0, 0, 0, 0⟩, undef), fun h => absurd h hi⟩
  let D : Nat → Obs := fun i => (Classical.choose (hex i)).1
  let V' : Nat → Value := fun i => (Classical.choose (hex i)).2
  have hD : ∀ i, i < n → Rd gf x i (V' i) ∧ (∃ pi ni ci, V' i = .slice pi ni ci) ∧ OK1 (D i) ∧ (∀ (S' : Sig) (v0 e0 e1 e2 : Nat), S'.gt = gt → S'.gw = gw → S'.gf = gf → S'.val v0 = V' i → S'.σ e0 = (D i).d0 → S'.σ e1 = (D i).d1 → S'.σ e2 = (D i).d2 → @FOK S' (dieF (D i).k (Vl v0) (S e0) (S e1) (S e2))) ∧
      (∀ (S' : Sig) (a b c d0 e f : Nat), S'.gt = gt → S'.gw = gw → S'.gf = gf → S'.σ a = (D i).p0 → S'.σ b = (D i).p1 → S'.σ c = (D i).p2 → S'.σ d0 = (D i).q0 → S'.σ e = (D i).q1 → S'.σ f = (D i).q2 → @SOK S' (dDn (S a) (S b) (S c) (S d0) (S e) (S f))) := fun i hi => Classical.choose_spec (hex i) hi
  clear_value D V'
  let val : Nat → Value := fun j => if j = 0 then x else if j < 20 then pAt x (j - 10) else V' (j - 20)
  have v0 : val 0 = x := by simp [val]
  have v1 : ∀ i, i < 5 → val (10 + i) = pAt x i := fun i hi => by
    show (if 10 + i = 0 then x else if 10 + i < 20 then pAt x (10 + i - 10) else V' (10 + i - 20)) = _
    rw [if_neg (by omega), if_pos (by omega), show 10 + i - 10 = i by omega]
  have v2 : ∀ i, val (20 + i) = V' i := fun i => by
    show (if 20 + i = 0 then x else if 20 + i < 20 then pAt x (20 + i - 10) else V' (20 + i - 20)) = _
    rw [if_neg (by omega), if_neg (by omega), show 20 + i - 20 = i by omega]
  clear_value val
  have hs : ∀ i j, i < 5 → j < 13 → sgT n D (100 * (i + 1) + j) = sg1 (D i) j := fun i j hi hj => sgT_o hi hj
  have hlen : MO (sgT n D) val gf (30, Vl 0, Vl 0, S 90) := mo_len (p := p) (n := n) (c := c) (by rw [v0, hx]) (by rw [sgT_90])
  refine ⟨sgT n D, val, v0, ?_⟩
  refine tastes_sf (n := min n 5) (by omega) (len := n) (D := D) rfl (fun i hi => ?_) (ga hlen gn) (fun h => by omega)
  have hin : i < n := by omega
  have hi5 : i < 5 := by omega
  obtain ⟨r1, ⟨pi, ni, ci, r2⟩, r3, r4, r5⟩ := hD i hin
  have hv : ∀ j k, j + k < 13 → sgT n D (100 * (i + 1) + j + k) = sg1 (D i) (j + k) := fun j k hj => by rw [Nat.add_assoc]; exact hs i _ hi5 hj
  refine ⟨r3, hs i 0 hi5 (by omega), hs i 1 hi5 (by omega), hs i 2 hi5 (by omega), hv 3 0 (by omega), hv 3 1 (by omega), hv 3 2 (by omega), ?_, ?_, ?_, ?_, ?_⟩
  · show UN _ (sgT n D _) (sgT n D _) (sgT n D _)
    rw [hv 6 0 (by omega), hv 6 1 (by omega), hv 6 2 (by omega)]
    exact un_uAt _
  · show (i : Int) < sgT n D 90
    rw [sgT_90]
    omega
  · exact r4 _ _ _ _ _ rfl rfl rfl (v2 i) (hs i 0 hi5 (by omega)) (hs i 1 hi5 (by omega)) (hs i 2 hi5 (by omega))
  · exact r5 _ _ _ _ _ _ _ rfl rfl rfl (hv 3 0 (by omega)) (hv 3 1 (by omega)) (hv 3 2 (by omega)) (hv 10 0 (by omega)) (hv 10 1 (by omega)) (hv 10 2 (by omega))
  · have rr : Rd gf (val 0) i (V' i) := by rw [v0]; exact r1
    exact ga hlen <| ga (mo_idx (a := 0) (b := 10 + i) rr (by show val (10 + i) = pAt (val 0) i; rw [v0]; exact v1 i hi5)) <| ga (mo_read (a := 0) (b := 10 + i) rr (by show val (10 + i) = pAt (val 0) i; rw [v0]; exact v1 i hi5) (by show some (val (20 + i)) = _; rw [v2]) (fun k hk => by
      injection hk with hk
      subst hk
      show oneS (val (20 + i))
      rw [v2, r2]
      exact .inl ⟨_, _, _, rfl⟩)) gn
end Go.Proofs.YtbadfjogakhhbaaGreatDoor.Re
