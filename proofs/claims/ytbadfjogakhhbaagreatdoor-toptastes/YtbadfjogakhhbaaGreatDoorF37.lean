/- TopTastes: one observation out of a list; the first loop. -/
import Derived.Test.YtbadfjogakhhbaaGreatDoorF36
namespace Go.Proofs.YtbadfjogakhhbaaGreatDoor.Re
open Go Go.RowKit
set_option linter.unusedVariables false
set_option linter.unusedSimpArgs false
set_option linter.unusedSectionVars false
theorem obs_ex (gt gw : TypeId) (gf : Nat → Option Obj) (x : Value) {p : Option Addr} {n c : Nat} (hx : x = .slice p n c) (hr : ∀ j, j < n → ∃ z : Int, Rd gf x j (.int .i64 z)) :
    ∃ o : Obs, OK1 o ∧ (∀ (S' : Sig) (v0 e0 e1 e2 : Nat), S'.gt = gt → S'.gw = gw → S'.gf = gf → S'.val v0 = x → S'.σ e0 = o.d0 → S'.σ e1 = o.d1 → S'.σ e2 = o.d2 → @FOK S' (dieF o.k (Vl v0) (S e0) (S e1) (S e2))) ∧
      (∀ (S' : Sig) (a b c d e f : Nat), S'.gt = gt → S'.gw = gw → S'.gf = gf → S'.σ a = o.p0 → S'.σ b = o.p1 → S'.σ c = o.p2 → S'.σ d = o.q0 → S'.σ e = o.q1 → S'.σ f = o.q2 → @SOK S' (dDn (S a) (S b) (S c) (S d) (S e) (S f))) := by
  obtain ⟨k, d0, d1, d2, hk, hd, hF⟩ := dieA_fact gt gw gf x hx hr
  have key : ∀ (at_ p0 p1 p2 : Nat), (1 ≤ p0 ∧ p0 ≤ 20) → (1 ≤ p1 ∧ p1 ≤ 20) → (1 ≤ p2 ∧ p2 ≤ 20) → (pAtN p0 p1 p2 at_ ≤ p0 ∧ pAtN p0 p1 p2 at_ ≤ p1 ∧ pAtN p0 p1 p2 at_ ≤ p2) → (∀ q0 q1 q2 : Int, (1 ≤ q0 ∧ q0 ≤ q1 ∧ q1 ≤ q2 ∧ q2 ≤ 20) → q0 = (pAtN p0 p1 p2 at_ : Int) → OK1 ⟨k, at_, p0, p1, p2, d0, d1, d2, q0, q1, q2⟩) →
      ∃ o : Obs, OK1 o ∧ (∀ (S' : Sig) (v0 e0 e1 e2 : Nat), S'.gt = gt → S'.gw = gw → S'.gf = gf → S'.val v0 = x → S'.σ e0 = o.d0 → S'.σ e1 = o.d1 → S'.σ e2 = o.d2 → @FOK S' (dieF o.k (Vl v0) (S e0) (S e1) (S e2))) ∧
        (∀ (S' : Sig) (a b c d e f : Nat), S'.gt = gt → S'.gw = gw → S'.gf = gf → S'.σ a = o.p0 → S'.σ b = o.p1 → S'.σ c = o.p2 → S'.σ d = o.q0 → S'.σ e = o.q1 → S'.σ f = o.q2 → @SOK S' (dDn (S a) (S b) (S c) (S d) (S e) (S f))) := by
    intro at_ p0 p1 p2 h0 h1 h2 hm hO
    obtain ⟨q0, q1, q2, g1, g2, g3⟩ := dieD_fact gt gw gf h0 h1 h2
    have hq : q0 = (pAtN p0 p1 p2 at_ : Int) := by
      have : pAtN p0 p1 p2 at_ = p0 ∨ pAtN p0 p1 p2 at_ = p1 ∨ pAtN p0 p1 p2 at_ = p2 := by unfold pAtN; split <;> simp
      omega
    exact ⟨_, hO q0 q1 q2 g1 hq, hF, g3⟩
  have n0 : ((1 + d0).toNat : Int) = 1 + d0 := Int.toNat_of_nonneg (by omega)
  have n1 : ((1 + d1).toNat : Int) = 1 + d1 := Int.toNat_of_nonneg (by omega)
  have n2 : ((1 + d2).toNat : Int) = 1 + d2 := Int.toNat_of_nonneg (by omega)
  have P0 : 1 ≤ (1 + d0).toNat ∧ (1 + d0).toNat ≤ 20 := by omega
  have P1 : 1 ≤ (1 + d1).toNat ∧ (1 + d1).toNat ≤ 20 := by omega
  have P2 : 1 ≤ (1 + d2).toNat ∧ (1 + d2).toNat ≤ 20 := by omega
  match k, hk with
  | 0, _ => exact key 0 1 1 1 (by omega) (by omega) (by omega) (by simp [pAtN]) (fun q0 q1 q2 h hq => ⟨by simp, by simp, by simp, .inl ⟨rfl, rfl, rfl, rfl, rfl⟩, h, hq⟩)
  | 1, _ =>
    by_cases h0 : d0 = 0
    · exact key 0 (1 + d0).toNat 1 1 (by omega) (by omega) (by omega) (by simp only [pAtN]; omega) (fun q0 q1 q2 h hq => ⟨P0, by simp, by simp, .inr (.inl ⟨rfl, n0, rfl, rfl, .inl ⟨rfl, by show (1 + d0).toNat = 1; omega⟩⟩), h, hq⟩)
    · exact key 1 (1 + d0).toNat 1 1 (by omega) (by omega) (by omega) (by simp only [pAtN]; omega) (fun q0 q1 q2 h hq => ⟨P0, by simp, by simp, .inr (.inl ⟨rfl, n0, rfl, rfl, .inr ⟨rfl, by show 1 < (1 + d0).toNat; omega⟩⟩), h, hq⟩)
  | 2, _ =>
    by_cases h0 : d0 = 0
    · exact key 0 (1 + d0).toNat (1 + d1).toNat 1 (by omega) (by omega) (by omega) (by simp only [pAtN]; omega) (fun q0 q1 q2 h hq => ⟨P0, P1, by simp, .inr (.inr (.inl ⟨rfl, n0, n1, rfl, by show (1 + d0).toNat ≤ (1 + d1).toNat; omega, .inl ⟨rfl, by show (1 + d0).toNat = 1; omega⟩⟩)), h, hq⟩)
    · exact key 2 (1 + d0).toNat (1 + d1).toNat 1 (by omega) (by omega) (by omega) (by simp only [pAtN]; omega) (fun q0 q1 q2 h hq => ⟨P0, P1, by simp, .inr (.inr (.inl ⟨rfl, n0, n1, rfl, by show (1 + d0).toNat ≤ (1 + d1).toNat; omega, .inr ⟨rfl, by show 1 < (1 + d0).toNat; omega⟩⟩)), h, hq⟩)
  | 3, _ => exact key 0 (1 + d0).toNat (1 + d1).toNat (1 + d2).toNat (by omega) (by omega) (by omega) (by simp only [pAtN]; omega) (fun q0 q1 q2 h hq => ⟨P0, P1, P2, .inr (.inr (.inr ⟨rfl, rfl, n0, n1, n2, by show (1 + d0).toNat ≤ (1 + d1).toNat; omega, by show (1 + d1).toNat ≤ (1 + d2).toNat; omega⟩)), h, hq⟩)
  | k + 4, hk => exact absurd hk (by omega)
theorem FOK_same {S' T : Sig} (H : Nm id id S' T) {t : Fact} (h : @FOK T t) (hs : (stBl t.bl).isSome = true) : @FOK S' t := by
  have h2 := FOK_ren H h (by rw [renB_id]; exact hs)
  have e : t.ren id id = t := by unfold Fact.ren; rw [rens_id, renB_id, ren_id]
  rw [e] at h2
  exact h2
theorem nm_X (S' : Sig) (l m : List Row) (ok : ∀ e ∈ l, EOK S'.σ e) (mok : ∀ e ∈ m, MO S'.σ S'.val S'.gf e) : Nm id id S' (SX S'.σ S'.gt S'.gw S'.val S'.gf l m ok mok) := ⟨fun _ => rfl, fun _ => rfl, rfl, rfl, rfl⟩
theorem nm_Y (S' : Sig) (l m : List Row) (ok : ∀ e ∈ l, EOK S'.σ e) (mok : ∀ e ∈ m, MO S'.σ S'.val S'.gf e) : Nm id id (SX S'.σ S'.gt S'.gw S'.val S'.gf l m ok mok) S' := ⟨fun _ => rfl, fun _ => rfl, rfl, rfl, rfl⟩
def frL (l : Lit) : Fr := match litS l with
  | some (f, _) => f
  | none => ⟨.leaf, 0, []⟩
def stL (l : Lit) : St := match litS l with
  | some (_, s) => s
  | none => ⟨.leaf, 0⟩
theorem litS_eq {l : Lit} (h : (litS l).isSome = true) : litS l = some (frL l, stL l) := by
  obtain ⟨⟨f, s⟩, h⟩ := Option.isSome_iff_exists.1 h
  rw [h]
  simp [frL, stL, h]
theorem litS_parts {l : Lit} {f : Fr} {s : St} (h : litS l = some (f, s)) : ∃ t, litT l.ts .leaf = some t ∧ f = ⟨t, l.sz, []⟩ ∧ stBl l.bl = some s := by
  unfold litS at h
  split at h
  · rename_i t s' h1 h2
    injection h with h; injection h with h3 h4
    subst h3 h4
    exact ⟨t, h1, rfl, h2⟩
  · cases h
section
variable [Sig]
theorem Imp.app {a a' b b' : List (List V × TypeId)} (h : Imp a a') (k : Imp b b') : Imp (a ++ b) (a' ++ b') := by
  induction h with
  | nil => exact k
  | cons h _ ih => exact .cons h ih
theorem Imp.fm {P P' Q Q' : Nat → List V} (hP : ∀ i E us, VRs E (P i) us → VRs E (P' i) us) (hQ : ∀ i E us, VRs E (Q i) us → VRs E (Q' i) us) : ∀ (l : List Nat), Imp (l.flatMap fun i => [(P i, 3), (Q i, 3)]) (l.flatMap fun i => [(P' i, 3), (Q' i, 3)])
  | [] => .nil
  | i :: l => by
    simp only [List.flatMap_cons]
    exact Imp.app (.cons (hP i) (.cons (hQ i) .nil)) (Imp.fm hP hQ l)
theorem Imp.bks {n : Nat} {P P' Q Q' : Nat → List V} (hP : ∀ i E us, VRs E (P i) us → VRs E (P' i) us) (hQ : ∀ i E us, VRs E (Q i) us → VRs E (Q' i) us) : Imp (bks n P Q) (bks n P' Q') :=
  .cons (fun _ _ h => h) (.cons (fun _ _ h => h) (Imp.app (Imp.fm hP hQ _) (Imp.refl _)))
theorem put_w {i : Nat} {x : List V} {f : Nat → List V} (h : ∀ E us, VRs E x us → VRs E (f i) us) : ∀ j E us, VRs E (put i x f j) us → VRs E (f j) us := fun j E us hu => by
  unfold put at hu
  split at hu
  · rename_i hb
    rw [Nat.eq_of_beq_eq_true hb]
    exact h E us hu
  · exact hu
end
/-- A piece out of a run, under its own table. -/
theorem piece {S' : Sig} {l m : List Row} (ok : ∀ e ∈ l, EOK S'.σ e) (mok : ∀ e ∈ m, MO S'.σ S'.val S'.gf e) {F : List Fact} {G : List SFact} (hF : ∀ t ∈ F, @FOK S' t ∧ (stBl t.bl).isSome = true) (hG : ∀ t ∈ G, @SOK S' t ∧ (stBl t.post).isSome = true) {ts : List Nat} {a b : Lit} {x : LX} (ha : (litS a).isSome = true) (hb : (litS b).isSome = true) (hrun : @rdR (SX S'.σ S'.gt S'.gw S'.val S'.gf l m ok mok) (KK F G) ts a = litX x b) : ∀ B, @Goes S' Tryz.prog (@GT S') B 0 loopX (frL a) (stL a) x (frL b) (stL b) := by
  intro B
  refine Goes_same (nm_X S' l m ok mok) ?_
  letI : Sig := SX S'.σ S'.gt S'.gw S'.val S'.gf l m ok mok
  unfold rdR litX at hrun
  rw [litS_eq ha, litS_eq hb] at hrun
  exact Goes.of_run mixed (kk (fun t ht => FOK_same (nm_Y S' l m ok mok) (hF t ht).1 (hF t ht).2) (fun t ht => SOK_same (nm_Y S' l m ok mok) (hG t ht).1 (hG t ht).2)) hrun
theorem lp_fr {n : Nat} {P Q P' Q' : Nat → List V} (h : (litS (lp n P Q)).isSome = true) (h' : (litS (lp n P' Q')).isSome = true) : frL (lp n P Q) = frL (lp n P' Q') := by
  obtain ⟨t, h1, h2, _⟩ := litS_parts (litS_eq h)
  obtain ⟨t', h1', h2', _⟩ := litS_parts (litS_eq h')
  have e1 : (lp n P Q).ts = (lp n P' Q').ts := by cases n <;> rfl
  have e2 : (lp n P Q).sz = (lp n P' Q').sz := by cases n <;> rfl
  rw [e1, h1'] at h1
  injection h1 with h1
  rw [h2, h2', e2, h1]
theorem round_go {S' : Sig} {i k at_ : Nat} {x : Bool} (ok : ∀ e ∈ tabG i k x, EOK S'.σ e) (mok : ∀ e ∈ memG i, MO S'.σ S'.val S'.gf e) (h1 : @FOK S' (dieF k (Vl (20 + i)) (dS i 0) (dS i 1) (dS i 2))) (h1s : (stBl (dieF k (Vl (20 + i)) (dS i 0) (dS i 1) (dS i 2)).bl).isSome = true) (h2 : @SOK S' (dDm k i)) (h2s : (stBl (dDm k i).post).isSome = true)
    (ha : (litS (lp i pL bL)).isSome = true) (hb : (litS (lp (i + 1) (put i (mix k i) pL) (put i (unit at_) bL))).isSome = true) (hc : (litS (lp (i + 1) pL bL)).isSome = true)
    (hrun : @rdR (SX S'.σ S'.gt S'.gw S'.val S'.gf (tabG i k x) (memG i) ok mok) (KK [dieF k (Vl (20 + i)) (dS i 0) (dS i 1) (dS i 2)] [dDm k i]) [0, 3, 4, 5] (lp i pL bL) = litX .nor (lp (i + 1) (put i (mix k i) pL) (put i (unit at_) bL)))
    (hw1 : ∀ E us, @VRs S' E (mix k i) us → @VRs S' E (pL i) us) (hw2 : ∀ E us, @VRs S' E (unit at_) us → @VRs S' E (bL i) us) : ∀ B, @Goes S' Tryz.prog (@GT S') B 0 loopX (frL (lp i pL bL)) (stL (lp i pL bL)) .nor (frL (lp (i + 1) pL bL)) (stL (lp (i + 1) pL bL)) := by
  intro B
  have h := piece ok mok (F := [dieF k (Vl (20 + i)) (dS i 0) (dS i 1) (dS i 2)]) (G := [dDm k i]) (fun t ht => by rw [List.mem_singleton.1 ht]; exact ⟨h1, h1s⟩) (fun t ht => by rw [List.mem_singleton.1 ht]; exact ⟨h2, h2s⟩) ha hb hrun B
  rw [lp_fr hb hc] at h
  obtain ⟨_, _, _, e1⟩ := litS_parts (litS_eq hb)
  obtain ⟨_, _, _, e2⟩ := litS_parts (litS_eq hc)
  exact @Goes.words S' _ _ _ _ _ _ _ _ _ _ _ h e1 e2 (@Imp.bks S' (i + 1) _ _ _ _ (put_w hw1) (put_w hw2))
/-- What is known of observation i under the names of the law. -/
structure At (S' : Sig) (i : Nat) (o : Obs) : Prop where
  ok : OK1 o
  d0 : S'.σ (100 * (i + 1) + 0) = o.d0
  d1 : S'.σ (100 * (i + 1) + 1) = o.d1
  d2 : S'.σ (100 * (i + 1) + 2) = o.d2
  p0 : S'.σ (100 * (i + 1) + 3 + 0) = o.p0
  p1 : S'.σ (100 * (i + 1) + 3 + 1) = o.p1
  p2 : S'.σ (100 * (i + 1) + 3 + 2) = o.p2
  un : UN o.at_ (S'.σ (100 * (i + 1) + 6 + 0)) (S'.σ (100 * (i + 1) + 6 + 1)) (S'.σ (100 * (i + 1) + 6 + 2))
  len : (i : Int) < S'.σ 90
  fk : @FOK S' (dieF o.k (Vl (20 + i)) (dS i 0) (dS i 1) (dS i 2))
  sk : @SOK S' (dDn (pS i 0) (pS i 1) (pS i 2) (qS i 0) (qS i 1) (qS i 2))
  mem : ∀ e ∈ memG i, MO S'.σ S'.val S'.gf e
theorem dDm_ok {S' : Sig} {i : Nat} {o : Obs} (h : At S' i o) : (∀ E us, @VRs S' E (mix o.k i) us → @VRs S' E (pL i) us) ∧ @SOK S' (dDm o.k i) := by
  have c0 : cI S'.σ (pS i 0) = some (o.p0 : Int) := congrArg some h.p0
  have c1 : cI S'.σ (pS i 1) = some (o.p1 : Int) := congrArg some h.p1
  have c2 : cI S'.σ (pS i 2) = some (o.p2 : Int) := congrArg some h.p2
  have one : ∀ v : V, cI S'.σ v = some 1 → (∀ E x, @VR S' E (I 1) x → @VR S' E v x) ∧ (∀ E x, @VR S' E v x → @VR S' E (I 1) x) := fun v hv => ⟨@w_num S' _ _ 1 rfl hv, @w_num S' _ _ 1 hv rfl⟩
  have both : (∀ E us, @VRs S' E (mix o.k i) us → @VRs S' E (pL i) us) ∧ (∀ E us, @VRs S' E (pL i) us → @VRs S' E (mix o.k i) us) := by
    rcases h.ok.sh with ⟨e, _, a0, a1, a2⟩ | ⟨e, _, a1, a2, _⟩ | ⟨e, _, _, a2, _⟩ | ⟨e, _⟩ <;> rw [e]
    · have o0 := one (pS i 0) (by rw [c0, a0]; rfl)
      have o1 := one (pS i 1) (by rw [c1, a1]; rfl)
      have o2 := one (pS i 2) (by rw [c2, a2]; rfl)
      exact ⟨@w_cons S' _ _ _ _ o0.1 (@w_cons S' _ _ _ _ o1.1 (@w_cons S' _ _ _ _ o2.1 (@w_nil' S'))), @w_cons S' _ _ _ _ o0.2 (@w_cons S' _ _ _ _ o1.2 (@w_cons S' _ _ _ _ o2.2 (@w_nil' S')))⟩
    · have o1 := one (pS i 1) (by rw [c1, a1]; rfl)
      have o2 := one (pS i 2) (by rw [c2, a2]; rfl)
      exact ⟨@w_cons S' _ _ _ _ (@w_id S' _) (@w_cons S' _ _ _ _ o1.1 (@w_cons S' _ _ _ _ o2.1 (@w_nil' S'))), @w_cons S' _ _ _ _ (@w_id S' _) (@w_cons S' _ _ _ _ o1.2 (@w_cons S' _ _ _ _ o2.2 (@w_nil' S')))⟩
    · have o2 := one (pS i 2) (by rw [c2, a2]; rfl)
      exact ⟨@w_cons S' _ _ _ _ (@w_id S' _) (@w_cons S' _ _ _ _ (@w_id S' _) (@w_cons S' _ _ _ _ o2.1 (@w_nil' S'))), @w_cons S' _ _ _ _ (@w_id S' _) (@w_cons S' _ _ _ _ (@w_id S' _) (@w_cons S' _ _ _ _ o2.2 (@w_nil' S')))⟩
    · exact ⟨fun _ _ h => h, fun _ _ h => h⟩
  refine ⟨both.1, ?_⟩
  exact @SOK.words2 S' _ (dDm o.k i) h.sk rfl (fun _ _ h => h) (.cons both.1 .nil) (fun _ _ h => h) (.cons both.2 (.cons (fun _ _ h => h) .nil)) rfl rfl
theorem tabG_ok {S' : Sig} {i : Nat} {o : Obs} (h : At S' i o) {k : Nat} (hk : k = o.k) {x : Bool} (hx : x = true ↔ 1 < o.p0) : ∀ e ∈ tabG i k x, EOK S'.σ e := by
  have c0 : cI S'.σ (pS i 0) = some (o.p0 : Int) := congrArg some h.p0
  have c1 : cI S'.σ (pS i 1) = some (o.p1 : Int) := congrArg some h.p1
  have c2 : cI S'.σ (pS i 2) = some (o.p2 : Int) := congrArg some h.p2
  have e0 : cI S'.σ (dS i 0) = some o.d0 := congrArg some h.d0
  have e1 : cI S'.σ (dS i 1) = some o.d1 := congrArg some h.d1
  have e2 : cI S'.σ (dS i 2) = some o.d2 := congrArg some h.d2
  have b0 := h.ok.b0
  have b1 := h.ok.b1
  have b2 := h.ok.b2
  have sh := h.ok.sh
  have hl := h.len
  intro e he
  unfold tabG at he
  simp only [List.cons_append, List.mem_cons, List.mem_append] at he
  rcases he with rfl | rfl | he | he
  · exact e_lss true (a := i) (b := S'.σ 90) rfl rfl (by simpa using hl)
  · exact e_lss x (a := 1) rfl c0 (by rw [hx]; omega)
  · obtain ⟨j, hj, rfl⟩ := up_mem he
    subst hk
    have : j = 0 ∨ j = 1 ∨ j = 2 := by omega
    rcases this with rfl | rfl | rfl
    · exact e_add (a := 1) rfl e0 c0 (by omega) (by omega)
    · exact e_add (a := 1) rfl e1 c1 (by omega) (by omega)
    · exact e_add (a := 1) rfl e2 c2 (by omega) (by omega)
  · obtain ⟨j, hj, rfl⟩ := up_mem he
    subst hk
    have : j = 0 ∨ j = 1 ∨ j = 2 := by omega
    rcases this with rfl | rfl | rfl
    · exact e_lss false c0 c0 (by simp)
    · exact e_lss false c1 c0 (by simp <;> omega)
    · exact e_lss false c2 c0 (by simp <;> omega)
theorem round_all {S' : Sig} {i : Nat} {o : Obs} (hi : i < 5) (h : At S' i o) : ∀ B, @Goes S' Tryz.prog (@GT S') B 0 loopX (frL (lp i pL bL)) (stL (lp i pL bL)) .nor (frL (lp (i + 1) pL bL)) (stL (lp (i + 1) pL bL)) := by
  obtain ⟨hw, hD⟩ := dDm_ok h
  have hf := h.fk
  have hu := @unit_y S' S' _ _ _ _ h.un
  have hok := fun k hk x hx => tabG_ok h (k := k) hk (x := x) hx
  have hm := h.mem
  rcases h.ok.sh with ⟨e, ea, a0, a1, a2⟩ | ⟨e, _, a1, a2, ⟨ea, a0⟩ | ⟨ea, a0⟩⟩ | ⟨e, _, _, a2, _, ⟨ea, a0⟩ | ⟨ea, a0⟩⟩ | ⟨e, ea, _⟩ <;> rw [e] at hw hD hf hok <;> rw [ea] at hu
  · match i, hi, hw, hD, hf, hu, hok, hm with
    | 0, _, hw, hD, hf, hu, hok, hm => exact round_go (x := false) (hok 0 rfl _ (by simp <;> omega)) hm hf rfl hD rfl rfl rfl rfl (rd_0_0_0 false _ _ _ _ _ _ _) hw hu
    | 1, _, hw, hD, hf, hu, hok, hm => exact round_go (x := false) (hok 0 rfl _ (by simp <;> omega)) hm hf rfl hD rfl rfl rfl rfl (rd_1_0_0 false _ _ _ _ _ _ _) hw hu
    | 2, _, hw, hD, hf, hu, hok, hm => exact round_go (x := false) (hok 0 rfl _ (by simp <;> omega)) hm hf rfl hD rfl rfl rfl rfl (rd_2_0_0 false _ _ _ _ _ _ _) hw hu
    | 3, _, hw, hD, hf, hu, hok, hm => exact round_go (x := false) (hok 0 rfl _ (by simp <;> omega)) hm hf rfl hD rfl rfl rfl rfl (rd_3_0_0 false _ _ _ _ _ _ _) hw hu
    | 4, _, hw, hD, hf, hu, hok, hm => exact round_go (x := false) (hok 0 rfl _ (by simp <;> omega)) hm hf rfl hD rfl rfl rfl rfl (rd_4_0_0 false _ _ _ _ _ _ _) hw hu
    | i + 5, hi, _, _, _, _, _, _ => exact absurd hi (by omega)
  · match i, hi, hw, hD, hf, hu, hok, hm with
    | 0, _, hw, hD, hf, hu, hok, hm => exact round_go (x := false) (hok 1 rfl _ (by simp <;> omega)) hm hf rfl hD rfl rfl rfl rfl (rd_0_1_0 _ _ _ _ _ _ _) hw hu
    | 1, _, hw, hD, hf, hu, hok, hm => exact round_go (x := false) (hok 1 rfl _ (by simp <;> omega)) hm hf rfl hD rfl rfl rfl rfl (rd_1_1_0 _ _ _ _ _ _ _) hw hu
    | 2, _, hw, hD, hf, hu, hok, hm => exact round_go (x := false) (hok 1 rfl _ (by simp <;> omega)) hm hf rfl hD rfl rfl rfl rfl (rd_2_1_0 _ _ _ _ _ _ _) hw hu
    | 3, _, hw, hD, hf, hu, hok, hm => exact round_go (x := false) (hok 1 rfl _ (by simp <;> omega)) hm hf rfl hD rfl rfl rfl rfl (rd_3_1_0 _ _ _ _ _ _ _) hw hu
    | 4, _, hw, hD, hf, hu, hok, hm => exact round_go (x := false) (hok 1 rfl _ (by simp <;> omega)) hm hf rfl hD rfl rfl rfl rfl (rd_4_1_0 _ _ _ _ _ _ _) hw hu
    | i + 5, hi, _, _, _, _, _, _ => exact absurd hi (by omega)
  · match i, hi, hw, hD, hf, hu, hok, hm with
    | 0, _, hw, hD, hf, hu, hok, hm => exact round_go (x := true) (hok 1 rfl _ (by simp <;> omega)) hm hf rfl hD rfl rfl rfl rfl (rd_0_1_1 _ _ _ _ _ _ _) hw hu
    | 1, _, hw, hD, hf, hu, hok, hm => exact round_go (x := true) (hok 1 rfl _ (by simp <;> omega)) hm hf rfl hD rfl rfl rfl rfl (rd_1_1_1 _ _ _ _ _ _ _) hw hu
    | 2, _, hw, hD, hf, hu, hok, hm => exact round_go (x := true) (hok 1 rfl _ (by simp <;> omega)) hm hf rfl hD rfl rfl rfl rfl (rd_2_1_1 _ _ _ _ _ _ _) hw hu
    | 3, _, hw, hD, hf, hu, hok, hm => exact round_go (x := true) (hok 1 rfl _ (by simp <;> omega)) hm hf rfl hD rfl rfl rfl rfl (rd_3_1_1 _ _ _ _ _ _ _) hw hu
    | 4, _, hw, hD, hf, hu, hok, hm => exact round_go (x := true) (hok 1 rfl _ (by simp <;> omega)) hm hf rfl hD rfl rfl rfl rfl (rd_4_1_1 _ _ _ _ _ _ _) hw hu
    | i + 5, hi, _, _, _, _, _, _ => exact absurd hi (by omega)
  · match i, hi, hw, hD, hf, hu, hok, hm with
    | 0, _, hw, hD, hf, hu, hok, hm => exact round_go (x := false) (hok 2 rfl _ (by simp <;> omega)) hm hf rfl hD rfl rfl rfl rfl (rd_0_2_0 _ _ _ _ _ _ _) hw hu
    | 1, _, hw, hD, hf, hu, hok, hm => exact round_go (x := false) (hok 2 rfl _ (by simp <;> omega)) hm hf rfl hD rfl rfl rfl rfl (rd_1_2_0 _ _ _ _ _ _ _) hw hu
    | 2, _, hw, hD, hf, hu, hok, hm => exact round_go (x := false) (hok 2 rfl _ (by simp <;> omega)) hm hf rfl hD rfl rfl rfl rfl (rd_2_2_0 _ _ _ _ _ _ _) hw hu
    | 3, _, hw, hD, hf, hu, hok, hm => exact round_go (x := false) (hok 2 rfl _ (by simp <;> omega)) hm hf rfl hD rfl rfl rfl rfl (rd_3_2_0 _ _ _ _ _ _ _) hw hu
    | 4, _, hw, hD, hf, hu, hok, hm => exact round_go (x := false) (hok 2 rfl _ (by simp <;> omega)) hm hf rfl hD rfl rfl rfl rfl (rd_4_2_0 _ _ _ _ _ _ _) hw hu
    | i + 5, hi, _, _, _, _, _, _ => exact absurd hi (by omega)
  · match i, hi, hw, hD, hf, hu, hok, hm with
    | 0, _, hw, hD, hf, hu, hok, hm => exact round_go (x := true) (hok 2 rfl _ (by simp <;> omega)) hm hf rfl hD rfl rfl rfl rfl (rd_0_2_2 _ _ _ _ _ _ _) hw hu
    | 1, _, hw, hD, hf, hu, hok, hm => exact round_go (x := true) (hok 2 rfl _ (by simp <;> omega)) hm hf rfl hD rfl rfl rfl rfl (rd_1_2_2 _ _ _ _ _ _ _) hw hu
    | 2, _, hw, hD, hf, hu, hok, hm => exact round_go (x := true) (hok 2 rfl _ (by simp <;> omega)) hm hf rfl hD rfl rfl rfl rfl (rd_2_2_2 _ _ _ _ _ _ _) hw hu
    | 3, _, hw, hD, hf, hu, hok, hm => exact round_go (x := true) (hok 2 rfl _ (by simp <;> omega)) hm hf rfl hD rfl rfl rfl rfl (rd_3_2_2 _ _ _ _ _ _ _) hw hu
    | 4, _, hw, hD, hf, hu, hok, hm => exact round_go (x := true) (hok 2 rfl _ (by simp <;> omega)) hm hf rfl hD rfl rfl rfl rfl (rd_4_2_2 _ _ _ _ _ _ _) hw hu
    | i + 5, hi, _, _, _, _, _, _ => exact absurd hi (by omega)
  · match i, hi, hw, hD, hf, hu, hok, hm with
    | 0, _, hw, hD, hf, hu, hok, hm => exact round_go (x := decide (1 < o.p0)) (hok 3 rfl _ (by simp)) hm hf rfl hD rfl rfl rfl rfl (rd_0_3_0 _ _ _ _ _ _ _ _) hw hu
    | 1, _, hw, hD, hf, hu, hok, hm => exact round_go (x := decide (1 < o.p0)) (hok 3 rfl _ (by simp)) hm hf rfl hD rfl rfl rfl rfl (rd_1_3_0 _ _ _ _ _ _ _ _) hw hu
    | 2, _, hw, hD, hf, hu, hok, hm => exact round_go (x := decide (1 < o.p0)) (hok 3 rfl _ (by simp)) hm hf rfl hD rfl rfl rfl rfl (rd_2_3_0 _ _ _ _ _ _ _ _) hw hu
    | 3, _, hw, hD, hf, hu, hok, hm => exact round_go (x := decide (1 < o.p0)) (hok 3 rfl _ (by simp)) hm hf rfl hD rfl rfl rfl rfl (rd_3_3_0 _ _ _ _ _ _ _ _) hw hu
    | 4, _, hw, hD, hf, hu, hok, hm => exact round_go (x := decide (1 < o.p0)) (hok 3 rfl _ (by simp)) hm hf rfl hD rfl rfl rfl rfl (rd_4_3_0 _ _ _ _ _ _ _ _) hw hu
    | i + 5, hi, _, _, _, _, _, _ => exact absurd hi (by omega)
end Go.Proofs.YtbadfjogakhhbaaGreatDoor.Re
