/- What die comes to: of a list that is known by name alone; of three numbers. -/
import Derived.Test.YtbadfjogakhhbaaGreatDoorF28
namespace Go.Proofs.YtbadfjogakhhbaaGreatDoor.Re
open Go Go.RowKit
set_option linter.unusedVariables false
set_option linter.unusedSimpArgs false
set_option linter.unusedSectionVars false
/-- Blocks in the words of another signature. -/
inductive XI (T S : Sig) : List (List V × TypeId) → List (List V × TypeId) → Prop
  | nil : XI T S [] []
  | cons {l l' : List V} {t : TypeId} {r r' : List (List V × TypeId)} (h : ∀ E us, @VRs T E l us → @VRs S E l' us) (k : XI T S r r') : XI T S ((l, t) :: r) ((l', t) :: r')
section
variable {T S : Sig}
theorem XI.len {l l' : List (List V × TypeId)} (h : XI T S l l') : l'.length = l.length := by
  induction h with
  | nil => rfl
  | cons _ _ ih => simp [ih]
theorem XI.get {l l' : List (List V × TypeId)} (h : XI T S l l') : ∀ {i : Nat} {c' : List V} {t : TypeId}, l'[i]? = some (c', t) → ∃ c, l[i]? = some (c, t) ∧ ∀ E us, @VRs T E c us → @VRs S E c' us := by
  induction h with
  | nil => intro i c' t h; simp at h
  | cons h k ih =>
    intro i c' t hi
    cases i with
    | zero => simp at hi; obtain ⟨rfl, rfl⟩ := hi; exact ⟨_, rfl, h⟩
    | succ i => simpa using ih (by simpa using hi)
/-- The same memory. -/
structure Sm (T S : Sig) : Prop where
  gt : T.gt = S.gt
  gw : T.gw = S.gw
  gf : T.gf = S.gf
theorem Sm.G (H : Sm T S) : @GT T = @GT S := by
  funext g
  unfold GT
  rw [H.gt, H.gw]
theorem WR_x (H : Sm T S) {B : Nat → Prop} {E : Env} {w : World} {bl bl' : List (List V × TypeId)} {st st' : St} (hw : @WR T (@GT T) B E st w) (h : stBl bl = some st) (h' : stBl bl' = some st') (hi : XI T S bl bl') : @WR S (@GT S) B E st' w := by
  obtain ⟨p1, p2, p3⟩ := @stBl_get S _ _ h
  obtain ⟨q1, q2, q3⟩ := @stBl_get S _ _ h'
  obtain ⟨hwn, hlive, hinj, hbase, hsize, hglob⟩ := hw
  have bw : ∀ b o, st'.h.get b = some o → ∃ l ty l', o = .cells l' ty ∧ st.h.get b = some (.cells l ty) ∧ ∀ E us, @VRs T E l us → @VRs S E l' us := fun b o hb => by
    obtain ⟨l', ty, e1, rfl⟩ := q3 b o hb
    obtain ⟨l, e2, e3⟩ := hi.get e1
    exact ⟨l, ty, l', rfl, p2 b l ty e2, e3⟩
  refine @WR.mk S _ _ _ _ _ (by rw [q1, hi.len, ← p1]; exact hwn) (fun b o hb => ?_) (fun b b' o o' hb hb' he => ?_) (fun b o hb => ?_) hsize (fun g o hg => hglob g o (by rw [H.G, H.gf]; exact hg))
  · obtain ⟨l, ty, l', rfl, e, hl⟩ := bw b o hb
    obtain ⟨h1, c, c1, c2, us, rest, c3, c4⟩ := hlive b _ e
    exact ⟨by rw [q1, hi.len, ← p1]; exact h1, c, c1, c2, us, rest, c3, hl _ _ c4⟩
  · obtain ⟨l, ty, l', rfl, e, hl⟩ := bw b o hb
    obtain ⟨l2, ty2, l2', rfl, e2, hl2⟩ := bw b' o' hb'
    exact hinj b b' _ _ e e2 he
  · obtain ⟨l, ty, l', rfl, e, hl⟩ := bw b o hb
    exact hbase b _ e
theorem FOK_x {t t' : Fact} (H : Sm T S) (h : @FOK T t) (hf : t'.f = t.f) (ha : ∀ E us, @VRs S E t'.args us → @VRs T E t.args us) (hv : ∀ E x, @VR T E t.v x → @VR S E t'.v x) (hb : XI T S t.bl t'.bl) (hs : (stBl t'.bl).isSome = true) : @FOK S t' := by
  obtain ⟨h1, h2⟩ := h
  obtain ⟨st2, hst2⟩ := Option.isSome_iff_exists.1 hs
  refine ⟨by rw [hf]; exact h1, fun w E us hG hus => ?_⟩
  rw [hf]
  refine CallsIn.mono (h2 w E us (fun g o hg => hG g o (by rw [H.G, H.gf] at hg; exact hg)) (ha E us hus)) ?_
  rintro _ w' ⟨x, E', st', q1, q2, q3, q4, q5, q6⟩
  exact ⟨x, E', st2, hst2, q2, q3, WR_x H q4 q1 hst2 hb, hv _ _ q5, q6⟩
theorem SOK_x {t t' : SFact} (H : Sm T S) (h : @SOK T t) (hf : t'.f = t.f) (ha : ∀ E us, @VRs S E t'.args us → @VRs T E t.args us) (hp : XI S T t'.pre t.pre) (hv : ∀ E x, @VR T E t.v x → @VR S E t'.v x) (hb : XI T S t.post t'.post) (h0 : (stBl t'.pre).isSome = true) (hs : (stBl t'.post).isSome = true) : @SOK S t' := by
  obtain ⟨⟨h1, h2⟩, h3⟩ := h
  obtain ⟨st2, hst2⟩ := Option.isSome_iff_exists.1 hs
  obtain ⟨st1, hst1⟩ := Option.isSome_iff_exists.1 h3
  refine ⟨⟨by rw [hf]; exact h1, fun B E w us st0 hst0 hw hus => ?_⟩, h0⟩
  rw [hf]
  refine CallsIn.mono (h2 B E w us st1 hst1 (WR_x ⟨H.gt.symm, H.gw.symm, H.gf.symm⟩ hw hst0 hst1 hp) (ha E us hus)) ?_
  rintro _ w' ⟨x, E', st', q1, q2, q3, q4, q5, q6⟩
  exact ⟨x, E', st2, hst2, q2, q3, WR_x H q4 q1 hst2 hb, hv _ _ q5, q6⟩
theorem x_nil : ∀ E us, @VRs T E [] us → @VRs S E [] us := fun _ _ h => h
theorem x_cons {v v' : V} {l l' : List V} (h : ∀ E x, @VR T E v x → @VR S E v' x) (k : ∀ E us, @VRs T E l us → @VRs S E l' us) : ∀ E us, @VRs T E (v :: l) us → @VRs S E (v' :: l') us := fun E us ⟨u, r, h1, h2, h3⟩ => ⟨u, r, h1, h _ _ h2, k _ _ h3⟩
theorem x_num {v v' : V} {a : Int} (h : cI T.σ v = some a) (h' : cI S.σ v' = some a) : ∀ E x, @VR T E v x → @VR S E v' x := fun E x hx => by
  rw [@cI_ok T _ _ _ h _ hx]; exact @cI_VR S _ _ _ h'
end
/-- An element of a list that is known by name alone. -/
def Rd (gf : Nat → Option Obj) (x : Value) (j : Nat) (z : Value) : Prop := ∃ A n c b off cc ty fz, x = .slice (some A) n c ∧ j < n ∧ A.add j = ⟨b, off, none⟩ ∧ gf b = some (.cells cc ty fz) ∧ cc[off]? = some z
def pAt (x : Value) (j : Nat) : Value := match x with
  | .slice (some A) _ _ => .pointer (some (A.add j))
  | _ => undef
def lenS : Value → Nat
  | .slice _ n _ => n
  | _ => 0
theorem mo_idx {σ : Nat → Int} {val : Nat → Value} {gf : Nat → Option Obj} {a b j : Nat} {z : Value} (hr : Rd gf (val a) j z) (hb : val b = pAt (val a) j) : MO σ val gf (31, .val a, I j, .val b) := by
  obtain ⟨A, n, c, bb, off, cc, ty, fz, h1, h2, h3, h4, h5⟩ := hr
  have e : val b = .pointer (some (A.add j)) := by rw [hb, h1]; rfl
  refine ⟨fun k hk => ?_, _, _, _, rfl, rfl, rfl, A, n, c, (j : Int), h1, rfl, by omega, by omega, by rw [e]; simp⟩
  injection hk with hk
  subst hk
  exact .inr ⟨_, e⟩
theorem mo_read {σ : Nat → Int} {val : Nat → Value} {gf : Nat → Option Obj} {a b j : Nat} {v : V} {z : Value} (hr : Rd gf (val a) j z) (hb : val b = pAt (val a) j) (hv : dV σ val v = some z) (h1s : ∀ k, v = .val k → oneS (val k)) : MO σ val gf (32, .val b, .val b, v) := by
  obtain ⟨A, n, c, bb, off, cc, ty, fz, h1, h2, h3, h4, h5⟩ := hr
  have e : val b = .pointer (some (A.add j)) := by rw [hb, h1]; rfl
  exact ⟨h1s, _, _, z, rfl, rfl, hv, bb, off, cc, ty, fz, by rw [e, h3], h4, h5⟩
theorem mo_len {σ : Nat → Int} {val : Nat → Value} {gf : Nat → Option Obj} {a s : Nat} {p : Option Addr} {n c : Nat} (h : val a = .slice p n c) (hs : σ s = n) : MO σ val gf (30, .val a, .val a, S s) := ⟨fun k hk => (by cases hk), _, _, _, rfl, rfl, rfl, p, n, c, h, by rw [hs]⟩
theorem smallI_cases (x : Int) (m : Nat) (hm : m < 1000) : ∃ v : Nat, v ≤ m ∧ smallI x (.ofNat m) = .ofNat v := by
  have e1 : wrap64 (Int.ofNat m + 1) = (m : Int) + 1 := by unfold wrap64; simp only [Int.ofNat_eq_natCast]; omega
  have e2 : IntKind.u64.wrap ((m : Int) + 1) = (m : Int) + 1 := by rw [IntKind.wrap_u64]; omega
  have e3 : 0 ≤ IntKind.u64.wrap x := by rw [IntKind.wrap_u64]; omega
  unfold smallI
  rw [e1, e2, Int.tmod_eq_emod_of_nonneg e3]
  have h1 := Int.emod_nonneg (IntKind.u64.wrap x) (show (m : Int) + 1 ≠ 0 by omega)
  have h2 := Int.emod_lt_of_pos (IntKind.u64.wrap x) (show (0 : Int) < (m : Int) + 1 by omega)
  generalize IntKind.u64.wrap x % ((m : Int) + 1) = y at *
  refine ⟨y.toNat, by omega, ?_⟩
  unfold wrap64
  simp only [Int.ofNat_eq_natCast]
  omega
theorem smallI_id {x m : Nat} (h : x ≤ m) (hm : m < 1000) : smallI x (.ofNat m) = x := by
  have e1 : wrap64 (Int.ofNat m + 1) = (m : Int) + 1 := by unfold wrap64; simp only [Int.ofNat_eq_natCast]; omega
  have e2 : IntKind.u64.wrap ((m : Int) + 1) = (m : Int) + 1 := by rw [IntKind.wrap_u64]; omega
  have e3 : IntKind.u64.wrap (x : Int) = x := by rw [IntKind.wrap_u64]; omega
  unfold smallI
  rw [e1, e2, e3, Int.tmod_eq_emod_of_nonneg (by omega), Int.emod_eq_of_lt (by omega) (by omega)]
  unfold wrap64
  omega
def dieV : Nat → V
  | 0 => .sl 0 0 1 1
  | k => .gs 0 0 k 1
def dieL (a b c : V) : Nat → List V
  | 0 => [I 0]
  | 1 => [a]
  | 2 => [a, b]
  | _ => [a, b, c]
def dieF (k : Nat) (v a b c : V) : Fact := ⟨5, [v, I 3, I 19], dieV k, [(dieL a b c k, 3)]⟩
def sgA (z0 z1 z2 : Int) (s0 s1 s2 n : Nat) : Nat → Int
  | 0 => z0
  | 1 => z1
  | 2 => z2
  | 10 => s0
  | 11 => s1
  | 12 => s2
  | 20 => n
  | _ => 0
def vlA (x : Value) : Nat → Value
  | 0 => x
  | j + 1 => pAt x j
theorem tabA_ok (z0 z1 z2 : Int) (s0 s1 s2 n : Nat) {n0 n1 n2 n3 o1 o2 o3 : Bool} (h0 : n0 = decide (0 < n)) (h1 : n1 = decide (1 < n)) (h2 : n2 = decide (2 < n)) (h3 : n3 = decide (3 < n)) (k1 : o1 = decide (s0 ≤ s1)) (k2 : o2 = decide (s0 ≤ s2)) (k3 : o3 = decide (s1 ≤ s2)) : ∀ e ∈ tabA n0 n1 n2 n3 o1 o2 o3, EOK (sgA z0 z1 z2 s0 s1 s2 n) e := by
  unfold tabA
  exact ga (e_lss _ (a := 0) (b := n) rfl rfl (by rw [h0]; simp)) <| ga (e_lss _ (a := 1) (b := n) rfl rfl (by rw [h1]; simp <;> omega)) <| ga (e_lss _ (a := 2) (b := n) rfl rfl (by rw [h2]; simp <;> omega)) <| ga (e_lss _ (a := 3) (b := n) rfl rfl (by rw [h3]; simp <;> omega)) <|
    ga (e_leq _ (a := s0) (b := s1) rfl rfl (by rw [k1]; simp)) <| ga (e_leq _ (a := s0) (b := s2) rfl rfl (by rw [k2]; simp)) <| ga (e_leq _ (a := s1) (b := s2) rfl rfl (by rw [k3]; simp)) gn
theorem kA_ok {T : Sig} (h0 : smallI (T.σ 0) (.ofNat 19) = T.σ 10) (h1 : smallI (T.σ 1) (.ofNat 19) = T.σ 11) (h2 : smallI (T.σ 2) (.ofNat 19) = T.σ 12) : ∀ t ∈ [dM 0 19, dM 1 19, dM 2 19], @FOK T t :=
  fa (small_sym (i := 0) (j := 10) (m := 19) h0 (by kernel_rfl)) <| fa (small_sym (i := 1) (j := 11) (m := 19) h1 (by kernel_rfl)) <| fa (small_sym (i := 2) (j := 12) (m := 19) h2 (by kernel_rfl)) fn
theorem dieA_fact (gt gw : TypeId) (gf : Nat → Option Obj) (x : Value) {p : Option Addr} {n c : Nat} (hx : x = .slice p n c) (hr : ∀ j, j < n → ∃ z : Int, Rd gf x j (.int .i64 z)) :
    ∃ (k : Nat) (d0 d1 d2 : Int), k ≤ 3 ∧ (0 ≤ d0 ∧ d0 ≤ d1 ∧ d1 ≤ d2 ∧ d2 ≤ 19) ∧ ∀ (S' : Sig) (v0 e0 e1 e2 : Nat), S'.gt = gt → S'.gw = gw → S'.gf = gf → S'.val v0 = x → S'.σ e0 = d0 → S'.σ e1 = d1 → S'.σ e2 = d2 → @FOK S' (dieF k (Vl v0) (S e0) (S e1) (S e2)) := by
  have hz : ∀ j, ∃ z : Int, j < n → Rd gf x j (.int .i64 z) := fun j => by
    by_cases h : j < n
    · obtain ⟨z, hz⟩ := hr j h; exact ⟨z, fun _ => hz⟩
    · exact ⟨0, fun h' => absurd h' h⟩
  obtain ⟨z0, r0⟩ := hz 0
  obtain ⟨z1, r1⟩ := hz 1
  obtain ⟨z2, r2⟩ := hz 2
  obtain ⟨s0, b0, m0⟩ := smallI_cases z0 19 (by decide)
  obtain ⟨s1, b1, m1⟩ := smallI_cases z1 19 (by decide)
  obtain ⟨s2, b2, m2⟩ := smallI_cases z2 19 (by decide)
  have hone : ∀ (S' : Sig) (v0 : Nat), S'.val v0 = x → ∀ E u, @VR S' E (Vl v0) u → u = x ∧ oneS u := fun S' v0 h E u hu => by rw [← h]; exact hu
  have harg : ∀ (T S' : Sig) (v0 : Nat), S'.val v0 = x → T.val 0 = x → ∀ E us, @VRs S' E [Vl v0, I 3, I 19] us → @VRs T E [Vl 0, I 3, I 19] us := fun T S' v0 h h0 => x_cons (fun E u hu => by
    have hu : u = S'.val v0 ∧ oneS u := hu
    exact ⟨by rw [hu.1, h, h0], hu.2⟩) (x_cons (fun _ _ h => h) (x_cons (fun _ _ h => h) x_nil))
  have hlen : ∀ σ : Nat → Int, σ 20 = n → MO σ (vlA x) gf (30, Vl 0, Vl 0, S 20) := fun σ hs => mo_len (p := p) (c := c) hx hs
  have hi : ∀ (σ : Nat → Int) j z, (j < n → Rd gf x j z) → j < n → MO σ (vlA x) gf (31, Vl 0, I j, Vl (j + 1)) := fun σ j z h hj => mo_idx (val := vlA x) (a := 0) (b := j + 1) (h hj) rfl
  have hd : ∀ (σ : Nat → Int) (j s : Nat) (z : Int), (j < n → Rd gf x j (.int .i64 z)) → j < n → σ s = z → MO σ (vlA x) gf (32, Vl (j + 1), Vl (j + 1), S s) := fun σ j s z h hj hs => mo_read (val := vlA x) (a := 0) (b := j + 1) (h hj) rfl (by show some (Value.int .i64 (σ s)) = _; rw [hs]) (fun k hk => by cases hk)
  have ok := tabA_ok z0 z1 z2 s0 s1 s2 n rfl rfl rfl rfl rfl rfl rfl
  generalize hsg : sgA z0 z1 z2 s0 s1 s2 n = σ at ok
  have g0 : σ 0 = z0 := by rw [← hsg]; rfl
  have g1 : σ 1 = z1 := by rw [← hsg]; rfl
  have g2 : σ 2 = z2 := by rw [← hsg]; rfl
  have g3 : σ 10 = s0 := by rw [← hsg]; rfl
  have g4 : σ 11 = s1 := by rw [← hsg]; rfl
  have g5 : σ 12 = s2 := by rw [← hsg]; rfl
  have g6 : σ 20 = n := by rw [← hsg]; rfl
  have e0 : smallI (σ 0) (.ofNat 19) = σ 10 := by rw [g0, g3]; exact m0
  have e1 : smallI (σ 1) (.ofNat 19) = σ 11 := by rw [g1, g4]; exact m1
  have e2 : smallI (σ 2) (.ofNat 19) = σ 12 := by rw [g2, g5]; exact m2
  clear hsg
  by_cases c0 : 0 < n
  rotate_left
  · rw [show decide (0 < n) = false by simp; omega] at ok
    refine ⟨0, 0, 0, 0, by omega, by omega, fun S' v0 x0 x1 x2 q1 q2 q3 q4 q5 q6 q7 => ?_⟩
    have hm : ∀ e ∈ memA 0, MO σ (vlA x) gf e := by
      unfold memA
      exact ga (hlen σ g6) <| gn
    letI : Sig := SX σ gt gw (vlA x) gf _ _ ok hm
    have hf := fr (l := [dM 0 19, dM 1 19, dM 2 19]) (s := []) (kA_ok e0 e1 e2) fn (dA (dieV 0) [I 0]) rfl rfl (dieA_0 _ _ _ _ _ _ σ gt gw (vlA x) gf ok hm)
    exact FOK_x (T := SX σ gt gw (vlA x) gf _ _ ok hm) ⟨q1.symm, q2.symm, q3.symm⟩ hf rfl (harg _ S' v0 q4 rfl) (fun _ _ h => h) (.cons (fun _ _ h => h) .nil) rfl
  by_cases c1 : 1 < n
  rotate_left
  · rw [show decide (0 < n) = true by simpa using c0, show decide (1 < n) = false by simp; omega] at ok
    refine ⟨1, s0, s0, s0, by omega, by omega, fun S' v0 x0 x1 x2 q1 q2 q3 q4 q5 q6 q7 => ?_⟩
    have hm : ∀ e ∈ memA 1, MO σ (vlA x) gf e := by
      unfold memA
      exact ga (hlen σ g6) <| ga (hi σ 0 _ r0 (by omega)) <| ga (hd σ 0 0 z0 r0 (by omega) g0) <| gn
    letI : Sig := SX σ gt gw (vlA x) gf _ _ ok hm
    have hf := fr (l := [dM 0 19, dM 1 19, dM 2 19]) (s := []) (kA_ok e0 e1 e2) fn (dA (dieV 1) [S 10]) rfl rfl (dieA_1 _ _ _ _ _ σ gt gw (vlA x) gf ok hm)
    exact FOK_x (T := SX σ gt gw (vlA x) gf _ _ ok hm) ⟨q1.symm, q2.symm, q3.symm⟩ hf rfl (harg _ S' v0 q4 rfl) (fun _ _ h => h) (.cons (x_cons (x_num (show cI σ (S 10) = some _ from congrArg some g3) (congrArg some q5)) (x_nil)) .nil) rfl
  by_cases c2 : 2 < n
  rotate_left
  · rw [show decide (0 < n) = true by simpa using c0, show decide (1 < n) = true by simpa using c1, show decide (2 < n) = false by simp; omega] at ok
    by_cases k1 : s0 ≤ s1
    · rw [show decide (s0 ≤ s1) = true by simp; omega] at ok
      refine ⟨2, s0, s1, s1, by omega, by omega, fun S' v0 x0 x1 x2 q1 q2 q3 q4 q5 q6 q7 => ?_⟩
      have hm : ∀ e ∈ memA 2, MO σ (vlA x) gf e := by
        unfold memA
        exact ga (hlen σ g6) <| ga (hi σ 0 _ r0 (by omega)) <| ga (hd σ 0 0 z0 r0 (by omega) g0) <| ga (hi σ 1 _ r1 (by omega)) <| ga (hd σ 1 1 z1 r1 (by omega) g1) <| gn
      letI : Sig := SX σ gt gw (vlA x) gf _ _ ok hm
      have hf := fr (l := [dM 0 19, dM 1 19, dM 2 19]) (s := []) (kA_ok e0 e1 e2) fn (dA (dieV 2) [S 10, S 11]) rfl rfl (dieA_2_1 _ _ _ σ gt gw (vlA x) gf ok hm)
      exact FOK_x (T := SX σ gt gw (vlA x) gf _ _ ok hm) ⟨q1.symm, q2.symm, q3.symm⟩ hf rfl (harg _ S' v0 q4 rfl) (fun _ _ h => h) (.cons (x_cons (x_num (show cI σ (S 10) = some _ from congrArg some g3) (congrArg some q5)) (x_cons (x_num (show cI σ (S 11) = some _ from congrArg some g4) (congrArg some q6)) (x_nil))) .nil) rfl
    · rw [show decide (s0 ≤ s1) = false by simp; omega] at ok
      refine ⟨2, s1, s0, s0, by omega, by omega, fun S' v0 x0 x1 x2 q1 q2 q3 q4 q5 q6 q7 => ?_⟩
      have hm : ∀ e ∈ memA 2, MO σ (vlA x) gf e := by
        unfold memA
        exact ga (hlen σ g6) <| ga (hi σ 0 _ r0 (by omega)) <| ga (hd σ 0 0 z0 r0 (by omega) g0) <| ga (hi σ 1 _ r1 (by omega)) <| ga (hd σ 1 1 z1 r1 (by omega) g1) <| gn
      letI : Sig := SX σ gt gw (vlA x) gf _ _ ok hm
      have hf := fr (l := [dM 0 19, dM 1 19, dM 2 19]) (s := []) (kA_ok e0 e1 e2) fn (dA (dieV 2) [S 11, S 10]) rfl rfl (dieA_2_0 _ _ _ σ gt gw (vlA x) gf ok hm)
      exact FOK_x (T := SX σ gt gw (vlA x) gf _ _ ok hm) ⟨q1.symm, q2.symm, q3.symm⟩ hf rfl (harg _ S' v0 q4 rfl) (fun _ _ h => h) (.cons (x_cons (x_num (show cI σ (S 11) = some _ from congrArg some g4) (congrArg some q5)) (x_cons (x_num (show cI σ (S 10) = some _ from congrArg some g3) (congrArg some q6)) (x_nil))) .nil) rfl
  rw [show decide (0 < n) = true by simpa using c0, show decide (1 < n) = true by simpa using c1, show decide (2 < n) = true by simpa using c2] at ok
  by_cases c3 : 3 < n <;> by_cases k1 : s0 ≤ s1 <;> by_cases k2 : s0 ≤ s2 <;> by_cases k3 : s1 ≤ s2
  · rw [show decide (3 < n) = true by simp; omega, show decide (s0 ≤ s1) = true by simp; omega, show decide (s0 ≤ s2) = true by simp; omega, show decide (s1 ≤ s2) = true by simp; omega] at ok
    refine ⟨3, s0, s1, s2, by omega, by omega, fun S' v0 x0 x1 x2 q1 q2 q3 q4 q5 q6 q7 => ?_⟩
    have hm : ∀ e ∈ memA 3, MO σ (vlA x) gf e := by
      unfold memA
      exact ga (hlen σ g6) <| ga (hi σ 0 _ r0 (by omega)) <| ga (hd σ 0 0 z0 r0 (by omega) g0) <| ga (hi σ 1 _ r1 (by omega)) <| ga (hd σ 1 1 z1 r1 (by omega) g1) <| ga (hi σ 2 _ r2 (by omega)) <| ga (hd σ 2 2 z2 r2 (by omega) g2) <| gn
    letI : Sig := SX σ gt gw (vlA x) gf _ _ ok hm
    have hf := fr (l := [dM 0 19, dM 1 19, dM 2 19]) (s := []) (kA_ok e0 e1 e2) fn (dA (dieV 3) [S 10, S 11, S 12]) rfl rfl (dieA_3_1_111 σ gt gw (vlA x) gf ok hm)
    exact FOK_x (T := SX σ gt gw (vlA x) gf _ _ ok hm) ⟨q1.symm, q2.symm, q3.symm⟩ hf rfl (harg _ S' v0 q4 rfl) (fun _ _ h => h) (.cons (x_cons (x_num (show cI σ (S 10) = some _ from congrArg some g3) (congrArg some q5)) (x_cons (x_num (show cI σ (S 11) = some _ from congrArg some g4) (congrArg some q6)) (x_cons (x_num (show cI σ (S 12) = some _ from congrArg some g5) (congrArg some q7)) (x_nil)))) .nil) rfl
  · rw [show decide (3 < n) = true by simp; omega, show decide (s0 ≤ s1) = true by simp; omega, show decide (s0 ≤ s2) = true by simp; omega, show decide (s1 ≤ s2) = false by simp; omega] at ok
    refine ⟨3, s0, s2, s1, by omega, by omega, fun S' v0 x0 x1 x2 q1 q2 q3 q4 q5 q6 q7 => ?_⟩
    have hm : ∀ e ∈ memA 3, MO σ (vlA x) gf e := by
      unfold memA
      exact ga (hlen σ g6) <| ga (hi σ 0 _ r0 (by omega)) <| ga (hd σ 0 0 z0 r0 (by omega) g0) <| ga (hi σ 1 _ r1 (by omega)) <| ga (hd σ 1 1 z1 r1 (by omega) g1) <| ga (hi σ 2 _ r2 (by omega)) <| ga (hd σ 2 2 z2 r2 (by omega) g2) <| gn
    letI : Sig := SX σ gt gw (vlA x) gf _ _ ok hm
    have hf := fr (l := [dM 0 19, dM 1 19, dM 2 19]) (s := []) (kA_ok e0 e1 e2) fn (dA (dieV 3) [S 10, S 12, S 11]) rfl rfl (dieA_3_1_110 σ gt gw (vlA x) gf ok hm)
    exact FOK_x (T := SX σ gt gw (vlA x) gf _ _ ok hm) ⟨q1.symm, q2.symm, q3.symm⟩ hf rfl (harg _ S' v0 q4 rfl) (fun _ _ h => h) (.cons (x_cons (x_num (show cI σ (S 10) = some _ from congrArg some g3) (congrArg some q5)) (x_cons (x_num (show cI σ (S 12) = some _ from congrArg some g5) (congrArg some q6)) (x_cons (x_num (show cI σ (S 11) = some _ from congrArg some g4) (congrArg some q7)) (x_nil)))) .nil) rfl
  · exact absurd k3 (by omega)
  · rw [show decide (3 < n) = true by simp; omega, show decide (s0 ≤ s1) = true by simp; omega, show decide (s0 ≤ s2) = false by simp; omega, show decide (s1 ≤ s2) = false by simp; omega] at ok
    refine ⟨3, s2, s0, s1, by omega, by omega, fun S' v0 x0 x1 x2 q1 q2 q3 q4 q5 q6 q7 => ?_⟩
    have hm : ∀ e ∈ memA 3, MO σ (vlA x) gf e := by
      unfold memA
      exact ga (hlen σ g6) <| ga (hi σ 0 _ r0 (by omega)) <| ga (hd σ 0 0 z0 r0 (by omega) g0) <| ga (hi σ 1 _ r1 (by omega)) <| ga (hd σ 1 1 z1 r1 (by omega) g1) <| ga (hi σ 2 _ r2 (by omega)) <| ga (hd σ 2 2 z2 r2 (by omega) g2) <| gn
    letI : Sig := SX σ gt gw (vlA x) gf _ _ ok hm
    have hf := fr (l := [dM 0 19, dM 1 19, dM 2 19]) (s := []) (kA_ok e0 e1 e2) fn (dA (dieV 3) [S 12, S 10, S 11]) rfl rfl (dieA_3_1_100 σ gt gw (vlA x) gf ok hm)
    exact FOK_x (T := SX σ gt gw (vlA x) gf _ _ ok hm) ⟨q1.symm, q2.symm, q3.symm⟩ hf rfl (harg _ S' v0 q4 rfl) (fun _ _ h => h) (.cons (x_cons (x_num (show cI σ (S 12) = some _ from congrArg some g5) (congrArg some q5)) (x_cons (x_num (show cI σ (S 10) = some _ from congrArg some g3) (congrArg some q6)) (x_cons (x_num (show cI σ (S 11) = some _ from congrArg some g4) (congrArg some q7)) (x_nil)))) .nil) rfl
  · rw [show decide (3 < n) = true by simp; omega, show decide (s0 ≤ s1) = false by simp; omega, show decide (s0 ≤ s2) = true by simp; omega, show decide (s1 ≤ s2) = true by simp; omega] at ok
    refine ⟨3, s1, s0, s2, by omega, by omega, fun S' v0 x0 x1 x2 q1 q2 q3 q4 q5 q6 q7 => ?_⟩
    have hm : ∀ e ∈ memA 3, MO σ (vlA x) gf e := by
      unfold memA
      exact ga (hlen σ g6) <| ga (hi σ 0 _ r0 (by omega)) <| ga (hd σ 0 0 z0 r0 (by omega) g0) <| ga (hi σ 1 _ r1 (by omega)) <| ga (hd σ 1 1 z1 r1 (by omega) g1) <| ga (hi σ 2 _ r2 (by omega)) <| ga (hd σ 2 2 z2 r2 (by omega) g2) <| gn
    letI : Sig := SX σ gt gw (vlA x) gf _ _ ok hm
    have hf := fr (l := [dM 0 19, dM 1 19, dM 2 19]) (s := []) (kA_ok e0 e1 e2) fn (dA (dieV 3) [S 11, S 10, S 12]) rfl rfl (dieA_3_1_011 σ gt gw (vlA x) gf ok hm)
    exact FOK_x (T := SX σ gt gw (vlA x) gf _ _ ok hm) ⟨q1.symm, q2.symm, q3.symm⟩ hf rfl (harg _ S' v0 q4 rfl) (fun _ _ h => h) (.cons (x_cons (x_num (show cI σ (S 11) = some _ from congrArg some g4) (congrArg some q5)) (x_cons (x_num (show cI σ (S 10) = some _ from congrArg some g3) (congrArg some q6)) (x_cons (x_num (show cI σ (S 12) = some _ from congrArg some g5) (congrArg some q7)) (x_nil)))) .nil) rfl
  · exact absurd k3 (by omega)
  · rw [show decide (3 < n) = true by simp; omega, show decide (s0 ≤ s1) = false by simp; omega, show decide (s0 ≤ s2) = false by simp; omega, show decide (s1 ≤ s2) = true by simp; omega] at ok
    refine ⟨3, s1, s2, s0, by omega, by omega, fun S' v0 x0 x1 x2 q1 q2 q3 q4 q5 q6 q7 => ?_⟩
    have hm : ∀ e ∈ memA 3, MO σ (vlA x) gf e := by
      unfold memA
      exact ga (hlen σ g6) <| ga (hi σ 0 _ r0 (by omega)) <| ga (hd σ 0 0 z0 r0 (by omega) g0) <| ga (hi σ 1 _ r1 (by omega)) <| ga (hd σ 1 1 z1 r1 (by omega) g1) <| ga (hi σ 2 _ r2 (by omega)) <| ga (hd σ 2 2 z2 r2 (by omega) g2) <| gn
    letI : Sig := SX σ gt gw (vlA x) gf _ _ ok hm
    have hf := fr (l := [dM 0 19, dM 1 19, dM 2 19]) (s := []) (kA_ok e0 e1 e2) fn (dA (dieV 3) [S 11, S 12, S 10]) rfl rfl (dieA_3_1_001 σ gt gw (vlA x) gf ok hm)
    exact FOK_x (T := SX σ gt gw (vlA x) gf _ _ ok hm) ⟨q1.symm, q2.symm, q3.symm⟩ hf rfl (harg _ S' v0 q4 rfl) (fun _ _ h => h) (.cons (x_cons (x_num (show cI σ (S 11) = some _ from congrArg some g4) (congrArg some q5)) (x_cons (x_num (show cI σ (S 12) = some _ from congrArg some g5) (congrArg some q6)) (x_cons (x_num (show cI σ (S 10) = some _ from congrArg some g3) (congrArg some q7)) (x_nil)))) .nil) rfl
  · rw [show decide (3 < n) = true by simp; omega, show decide (s0 ≤ s1) = false by simp; omega, show decide (s0 ≤ s2) = false by simp; omega, show decide (s1 ≤ s2) = false by simp; omega] at ok
    refine ⟨3, s2, s1, s0, by omega, by omega, fun S' v0 x0 x1 x2 q1 q2 q3 q4 q5 q6 q7 => ?_⟩
    have hm : ∀ e ∈ memA 3, MO σ (vlA x) gf e := by
      unfold memA
      exact ga (hlen σ g6) <| ga (hi σ 0 _ r0 (by omega)) <| ga (hd σ 0 0 z0 r0 (by omega) g0) <| ga (hi σ 1 _ r1 (by omega)) <| ga (hd σ 1 1 z1 r1 (by omega) g1) <| ga (hi σ 2 _ r2 (by omega)) <| ga (hd σ 2 2 z2 r2 (by omega) g2) <| gn
    letI : Sig := SX σ gt gw (vlA x) gf _ _ ok hm
    have hf := fr (l := [dM 0 19, dM 1 19, dM 2 19]) (s := []) (kA_ok e0 e1 e2) fn (dA (dieV 3) [S 12, S 11, S 10]) rfl rfl (dieA_3_1_000 σ gt gw (vlA x) gf ok hm)
    exact FOK_x (T := SX σ gt gw (vlA x) gf _ _ ok hm) ⟨q1.symm, q2.symm, q3.symm⟩ hf rfl (harg _ S' v0 q4 rfl) (fun _ _ h => h) (.cons (x_cons (x_num (show cI σ (S 12) = some _ from congrArg some g5) (congrArg some q5)) (x_cons (x_num (show cI σ (S 11) = some _ from congrArg some g4) (congrArg some q6)) (x_cons (x_num (show cI σ (S 10) = some _ from congrArg some g3) (congrArg some q7)) (x_nil)))) .nil) rfl
  · rw [show decide (3 < n) = false by simp; omega, show decide (s0 ≤ s1) = true by simp; omega, show decide (s0 ≤ s2) = true by simp; omega, show decide (s1 ≤ s2) = true by simp; omega] at ok
    refine ⟨3, s0, s1, s2, by omega, by omega, fun S' v0 x0 x1 x2 q1 q2 q3 q4 q5 q6 q7 => ?_⟩
    have hm : ∀ e ∈ memA 3, MO σ (vlA x) gf e := by
      unfold memA
      exact ga (hlen σ g6) <| ga (hi σ 0 _ r0 (by omega)) <| ga (hd σ 0 0 z0 r0 (by omega) g0) <| ga (hi σ 1 _ r1 (by omega)) <| ga (hd σ 1 1 z1 r1 (by omega) g1) <| ga (hi σ 2 _ r2 (by omega)) <| ga (hd σ 2 2 z2 r2 (by omega) g2) <| gn
    letI : Sig := SX σ gt gw (vlA x) gf _ _ ok hm
    have hf := fr (l := [dM 0 19, dM 1 19, dM 2 19]) (s := []) (kA_ok e0 e1 e2) fn (dA (dieV 3) [S 10, S 11, S 12]) rfl rfl (dieA_3_0_111 σ gt gw (vlA x) gf ok hm)
    exact FOK_x (T := SX σ gt gw (vlA x) gf _ _ ok hm) ⟨q1.symm, q2.symm, q3.symm⟩ hf rfl (harg _ S' v0 q4 rfl) (fun _ _ h => h) (.cons (x_cons (x_num (show cI σ (S 10) = some _ from congrArg some g3) (congrArg some q5)) (x_cons (x_num (show cI σ (S 11) = some _ from congrArg some g4) (congrArg some q6)) (x_cons (x_num (show cI σ (S 12) = some _ from congrArg some g5) (congrArg some q7)) (x_nil)))) .nil) rfl
  · rw [show decide (3 < n) = false by simp; omega, show decide (s0 ≤ s1) = true by simp; omega, show decide (s0 ≤ s2) = true by simp; omega, show decide (s1 ≤ s2) = false by simp; omega] at ok
    refine ⟨3, s0, s2, s1, by omega, by omega, fun S' v0 x0 x1 x2 q1 q2 q3 q4 q5 q6 q7 => ?_⟩
    have hm : ∀ e ∈ memA 3, MO σ (vlA x) gf e := by
      unfold memA
      exact ga (hlen σ g6) <| ga (hi σ 0 _ r0 (by omega)) <| ga (hd σ 0 0 z0 r0 (by omega) g0) <| ga (hi σ 1 _ r1 (by omega)) <| ga (hd σ 1 1 z1 r1 (by omega) g1) <| ga (hi σ 2 _ r2 (by omega)) <| ga (hd σ 2 2 z2 r2 (by omega) g2) <| gn
    letI : Sig := SX σ gt gw (vlA x) gf _ _ ok hm
    have hf := fr (l := [dM 0 19, dM 1 19, dM 2 19]) (s := []) (kA_ok e0 e1 e2) fn (dA (dieV 3) [S 10, S 12, S 11]) rfl rfl (dieA_3_0_110 σ gt gw (vlA x) gf ok hm)
    exact FOK_x (T := SX σ gt gw (vlA x) gf _ _ ok hm) ⟨q1.symm, q2.symm, q3.symm⟩ hf rfl (harg _ S' v0 q4 rfl) (fun _ _ h => h) (.cons (x_cons (x_num (show cI σ (S 10) = some _ from congrArg some g3) (congrArg some q5)) (x_cons (x_num (show cI σ (S 12) = some _ from congrArg some g5) (congrArg some q6)) (x_cons (x_num (show cI σ (S 11) = some _ from congrArg some g4) (congrArg some q7)) (x_nil)))) .nil) rfl
  · exact absurd k3 (by omega)
  · rw [show decide (3 < n) = false by simp; omega, show decide (s0 ≤ s1) = true by simp; omega, show decide (s0 ≤ s2) = false by simp; omega, show decide (s1 ≤ s2) = false by simp; omega] at ok
    refine ⟨3, s2, s0, s1, by omega, by omega, fun S' v0 x0 x1 x2 q1 q2 q3 q4 q5 q6 q7 => ?_⟩
    have hm : ∀ e ∈ memA 3, MO σ (vlA x) gf e := by
      unfold memA
      exact ga (hlen σ g6) <| ga (hi σ 0 _ r0 (by omega)) <| ga (hd σ 0 0 z0 r0 (by omega) g0) <| ga (hi σ 1 _ r1 (by omega)) <| ga (hd σ 1 1 z1 r1 (by omega) g1) <| ga (hi σ 2 _ r2 (by omega)) <| ga (hd σ 2 2 z2 r2 (by omega) g2) <| gn
    letI : Sig := SX σ gt gw (vlA x) gf _ _ ok hm
    have hf := fr (l := [dM 0 19, dM 1 19, dM 2 19]) (s := []) (kA_ok e0 e1 e2) fn (dA (dieV 3) [S 12, S 10, S 11]) rfl rfl (dieA_3_0_100 σ gt gw (vlA x) gf ok hm)
    exact FOK_x (T := SX σ gt gw (vlA x) gf _ _ ok hm) ⟨q1.symm, q2.symm, q3.symm⟩ hf rfl (harg _ S' v0 q4 rfl) (fun _ _ h => h) (.cons (x_cons (x_num (show cI σ (S 12) = some _ from congrArg some g5) (congrArg some q5)) (x_cons (x_num (show cI σ (S 10) = some _ from congrArg some g3) (congrArg some q6)) (x_cons (x_num (show cI σ (S 11) = some _ from congrArg some g4) (congrArg some q7)) (x_nil)))) .nil) rfl
  · rw [show decide (3 < n) = false by simp; omega, show decide (s0 ≤ s1) = false by simp; omega, show decide (s0 ≤ s2) = true by simp; omega, show decide (s1 ≤ s2) = true by simp; omega] at ok
    refine ⟨3, s1, s0, s2, by omega, by omega, fun S' v0 x0 x1 x2 q1 q2 q3 q4 q5 q6 q7 => ?_⟩
    have hm : ∀ e ∈ memA 3, MO σ (vlA x) gf e := by
      unfold memA
      exact ga (hlen σ g6) <| ga (hi σ 0 _ r0 (by omega)) <| ga (hd σ 0 0 z0 r0 (by omega) g0) <| ga (hi σ 1 _ r1 (by omega)) <| ga (hd σ 1 1 z1 r1 (by omega) g1) <| ga (hi σ 2 _ r2 (by omega)) <| ga (hd σ 2 2 z2 r2 (by omega) g2) <| gn
    letI : Sig := SX σ gt gw (vlA x) gf _ _ ok hm
    have hf := fr (l := [dM 0 19, dM 1 19, dM 2 19]) (s := []) (kA_ok e0 e1 e2) fn (dA (dieV 3) [S 11, S 10, S 12]) rfl rfl (dieA_3_0_011 σ gt gw (vlA x) gf ok hm)
    exact FOK_x (T := SX σ gt gw (vlA x) gf _ _ ok hm) ⟨q1.symm, q2.symm, q3.symm⟩ hf rfl (harg _ S' v0 q4 rfl) (fun _ _ h => h) (.cons (x_cons (x_num (show cI σ (S 11) = some _ from congrArg some g4) (congrArg some q5)) (x_cons (x_num (show cI σ (S 10) = some _ from congrArg some g3) (congrArg some q6)) (x_cons (x_num (show cI σ (S 12) = some _ from congrArg some g5) (congrArg some q7)) (x_nil)))) .nil) rfl
  · exact absurd k3 (by omega)
  · rw [show decide (3 < n) = false by simp; omega, show decide (s0 ≤ s1) = false by simp; omega, show decide (s0 ≤ s2) = false by simp; omega, show decide (s1 ≤ s2) = true by simp; omega] at ok
    refine ⟨3, s1, s2, s0, by omega, by omega, fun S' v0 x0 x1 x2 q1 q2 q3 q4 q5 q6 q7 => ?_⟩
    have hm : ∀ e ∈ memA 3, MO σ (vlA x) gf e := by
      unfold memA
      exact ga (hlen σ g6) <| ga (hi σ 0 _ r0 (by omega)) <| ga (hd σ 0 0 z0 r0 (by omega) g0) <| ga (hi σ 1 _ r1 (by omega)) <| ga (hd σ 1 1 z1 r1 (by omega) g1) <| ga (hi σ 2 _ r2 (by omega)) <| ga (hd σ 2 2 z2 r2 (by omega) g2) <| gn
    letI : Sig := SX σ gt gw (vlA x) gf _ _ ok hm
    have hf := fr (l := [dM 0 19, dM 1 19, dM 2 19]) (s := []) (kA_ok e0 e1 e2) fn (dA (dieV 3) [S 11, S 12, S 10]) rfl rfl (dieA_3_0_001 σ gt gw (vlA x) gf ok hm)
    exact FOK_x (T := SX σ gt gw (vlA x) gf _ _ ok hm) ⟨q1.symm, q2.symm, q3.symm⟩ hf rfl (harg _ S' v0 q4 rfl) (fun _ _ h => h) (.cons (x_cons (x_num (show cI σ (S 11) = some _ from congrArg some g4) (congrArg some q5)) (x_cons (x_num (show cI σ (S 12) = some _ from congrArg some g5) (congrArg some q6)) (x_cons (x_num (show cI σ (S 10) = some _ from congrArg some g3) (congrArg some q7)) (x_nil)))) .nil) rfl
  · rw [show decide (3 < n) = false by simp; omega, show decide (s0 ≤ s1) = false by simp; omega, show decide (s0 ≤ s2) = false by simp; omega, show decide (s1 ≤ s2) = false by simp; omega] at ok
    refine ⟨3, s2, s1, s0, by omega, by omega, fun S' v0 x0 x1 x2 q1 q2 q3 q4 q5 q6 q7 => ?_⟩
    have hm : ∀ e ∈ memA 3, MO σ (vlA x) gf e := by
      unfold memA
      exact ga (hlen σ g6) <| ga (hi σ 0 _ r0 (by omega)) <| ga (hd σ 0 0 z0 r0 (by omega) g0) <| ga (hi σ 1 _ r1 (by omega)) <| ga (hd σ 1 1 z1 r1 (by omega) g1) <| ga (hi σ 2 _ r2 (by omega)) <| ga (hd σ 2 2 z2 r2 (by omega) g2) <| gn
    letI : Sig := SX σ gt gw (vlA x) gf _ _ ok hm
    have hf := fr (l := [dM 0 19, dM 1 19, dM 2 19]) (s := []) (kA_ok e0 e1 e2) fn (dA (dieV 3) [S 12, S 11, S 10]) rfl rfl (dieA_3_0_000 σ gt gw (vlA x) gf ok hm)
    exact FOK_x (T := SX σ gt gw (vlA x) gf _ _ ok hm) ⟨q1.symm, q2.symm, q3.symm⟩ hf rfl (harg _ S' v0 q4 rfl) (fun _ _ h => h) (.cons (x_cons (x_num (show cI σ (S 12) = some _ from congrArg some g5) (congrArg some q5)) (x_cons (x_num (show cI σ (S 11) = some _ from congrArg some g4) (congrArg some q6)) (x_cons (x_num (show cI σ (S 10) = some _ from congrArg some g3) (congrArg some q7)) (x_nil)))) .nil) rfl
def sgD (p0 p1 p2 : Nat) : Nat → Int
  | 0 => p0
  | 1 => p1
  | 2 => p2
  | 10 => p0
  | 11 => p1
  | 12 => p2
  | _ => 0
theorem tabD_ok (p0 p1 p2 : Nat) {o1 o2 o3 : Bool} (k1 : o1 = decide (p0 ≤ p1)) (k2 : o2 = decide (p0 ≤ p2)) (k3 : o3 = decide (p1 ≤ p2)) : ∀ e ∈ tabD o1 o2 o3, EOK (sgD p0 p1 p2) e := by
  unfold tabD
  exact ga (e_leq _ (a := p0) (b := p1) rfl rfl (by rw [k1]; simp)) <| ga (e_leq _ (a := p0) (b := p2) rfl rfl (by rw [k2]; simp)) <| ga (e_leq _ (a := p1) (b := p2) rfl rfl (by rw [k3]; simp)) gn
def dDn (a b c d e f : V) : SFact := ⟨5, [.gs 0 0 3 1, I 3, I 60], [([a, b, c], 3)], .gs 1 0 3 1, [([a, b, c], 3), ([d, e, f], 3)]⟩
theorem dieD_fact (gt gw : TypeId) (gf : Nat → Option Obj) {p0 p1 p2 : Nat} (h0 : 1 ≤ p0 ∧ p0 ≤ 20) (h1 : 1 ≤ p1 ∧ p1 ≤ 20) (h2 : 1 ≤ p2 ∧ p2 ≤ 20) :
    ∃ q0 q1 q2 : Int, (1 ≤ q0 ∧ q0 ≤ q1 ∧ q1 ≤ q2 ∧ q2 ≤ 20) ∧ (q0 ≤ p0 ∧ q0 ≤ p1 ∧ q0 ≤ p2 ∧ (q0 = p0 ∨ q0 = p1 ∨ q0 = p2)) ∧ ∀ (S' : Sig) (a b c d e f : Nat), S'.gt = gt → S'.gw = gw → S'.gf = gf → S'.σ a = p0 → S'.σ b = p1 → S'.σ c = p2 → S'.σ d = q0 → S'.σ e = q1 → S'.σ f = q2 → @SOK S' (dDn (S a) (S b) (S c) (S d) (S e) (S f)) := by
  have ok := tabD_ok p0 p1 p2 rfl rfl rfl
  generalize hsg : sgD p0 p1 p2 = σ at ok
  have g0 : σ 0 = p0 := by rw [← hsg]; rfl
  have g1 : σ 1 = p1 := by rw [← hsg]; rfl
  have g2 : σ 2 = p2 := by rw [← hsg]; rfl
  have g3 : σ 10 = p0 := by rw [← hsg]; rfl
  have g4 : σ 11 = p1 := by rw [← hsg]; rfl
  have g5 : σ 12 = p2 := by rw [← hsg]; rfl
  have e0 : smallI (σ 0) (.ofNat 60) = σ 10 := by rw [g0, g3]; exact smallI_id (by omega) (by decide)
  have e1 : smallI (σ 1) (.ofNat 60) = σ 11 := by rw [g1, g4]; exact smallI_id (by omega) (by decide)
  have e2 : smallI (σ 2) (.ofNat 60) = σ 12 := by rw [g2, g5]; exact smallI_id (by omega) (by decide)
  have hm : ∀ e ∈ ([] : List Row), MO σ (fun _ => undef) gf e := gn
  clear hsg
  by_cases k1 : p0 ≤ p1 <;> by_cases k2 : p0 ≤ p2 <;> by_cases k3 : p1 ≤ p2
  · rw [show decide (p0 ≤ p1) = true by simp; omega, show decide (p0 ≤ p2) = true by simp; omega, show decide (p1 ≤ p2) = true by simp; omega] at ok
    refine ⟨p0, p1, p2, by omega, by omega, fun S' a b c d e f q1 q2 q3 r0 r1 r2 t0 t1 t2 => ?_⟩
    letI : Sig := SX σ gt gw (fun _ => undef) gf _ [] ok hm
    have hf := sr (l := [dM 0 60, dM 1 60, dM 2 60]) (s := []) (fa (small_sym (i := 0) (j := 10) (m := 60) e0 (by kernel_rfl)) <| fa (small_sym (i := 1) (j := 11) (m := 60) e1 (by kernel_rfl)) <| fa (small_sym (i := 2) (j := 12) (m := 60) e2 (by kernel_rfl)) fn) fn (dD [S 10, S 11, S 12]) (dieD_111 σ gt gw (fun _ => undef) gf [] ok hm) rfl rfl
    exact SOK_x (T := SX σ gt gw (fun _ => undef) gf _ [] ok hm) ⟨q1.symm, q2.symm, q3.symm⟩ hf rfl (fun _ _ h => h) (.cons (x_cons (x_num (congrArg some r0) (show cI σ (S 0) = some _ from congrArg some g0)) (x_cons (x_num (congrArg some r1) (show cI σ (S 1) = some _ from congrArg some g1)) (x_cons (x_num (congrArg some r2) (show cI σ (S 2) = some _ from congrArg some g2)) (x_nil)))) .nil) (fun _ _ h => h) (.cons (x_cons (x_num (show cI σ (S 0) = some _ from congrArg some g0) (congrArg some r0)) (x_cons (x_num (show cI σ (S 1) = some _ from congrArg some g1) (congrArg some r1)) (x_cons (x_num (show cI σ (S 2) = some _ from congrArg some g2) (congrArg some r2)) (x_nil)))) (.cons (x_cons (x_num (show cI σ (S 10) = some _ from congrArg some g3) (congrArg some t0)) (x_cons (x_num (show cI σ (S 11) = some _ from congrArg some g4) (congrArg some t1)) (x_cons (x_num (show cI σ (S 12) = some _ from congrArg some g5) (congrArg some t2)) (x_nil)))) .nil)) rfl rfl
  · rw [show decide (p0 ≤ p1) = true by simp; omega, show decide (p0 ≤ p2) = true by simp; omega, show decide (p1 ≤ p2) = false by simp; omega] at ok
    refine ⟨p0, p2, p1, by omega, by omega, fun S' a b c d e f q1 q2 q3 r0 r1 r2 t0 t1 t2 => ?_⟩
    letI : Sig := SX σ gt gw (fun _ => undef) gf _ [] ok hm
    have hf := sr (l := [dM 0 60, dM 1 60, dM 2 60]) (s := []) (fa (small_sym (i := 0) (j := 10) (m := 60) e0 (by kernel_rfl)) <| fa (small_sym (i := 1) (j := 11) (m := 60) e1 (by kernel_rfl)) <| fa (small_sym (i := 2) (j := 12) (m := 60) e2 (by kernel_rfl)) fn) fn (dD [S 10, S 12, S 11]) (dieD_110 σ gt gw (fun _ => undef) gf [] ok hm) rfl rfl
    exact SOK_x (T := SX σ gt gw (fun _ => undef) gf _ [] ok hm) ⟨q1.symm, q2.symm, q3.symm⟩ hf rfl (fun _ _ h => h) (.cons (x_cons (x_num (congrArg some r0) (show cI σ (S 0) = some _ from congrArg some g0)) (x_cons (x_num (congrArg some r1) (show cI σ (S 1) = some _ from congrArg some g1)) (x_cons (x_num (congrArg some r2) (show cI σ (S 2) = some _ from congrArg some g2)) (x_nil)))) .nil) (fun _ _ h => h) (.cons (x_cons (x_num (show cI σ (S 0) = some _ from congrArg some g0) (congrArg some r0)) (x_cons (x_num (show cI σ (S 1) = some _ from congrArg some g1) (congrArg some r1)) (x_cons (x_num (show cI σ (S 2) = some _ from congrArg some g2) (congrArg some r2)) (x_nil)))) (.cons (x_cons (x_num (show cI σ (S 10) = some _ from congrArg some g3) (congrArg some t0)) (x_cons (x_num (show cI σ (S 12) = some _ from congrArg some g5) (congrArg some t1)) (x_cons (x_num (show cI σ (S 11) = some _ from congrArg some g4) (congrArg some t2)) (x_nil)))) .nil)) rfl rfl
  · exact absurd k3 (by omega)
  · rw [show decide (p0 ≤ p1) = true by simp; omega, show decide (p0 ≤ p2) = false by simp; omega, show decide (p1 ≤ p2) = false by simp; omega] at ok
    refine ⟨p2, p0, p1, by omega, by omega, fun S' a b c d e f q1 q2 q3 r0 r1 r2 t0 t1 t2 => ?_⟩
    letI : Sig := SX σ gt gw (fun _ => undef) gf _ [] ok hm
    have hf := sr (l := [dM 0 60, dM 1 60, dM 2 60]) (s := []) (fa (small_sym (i := 0) (j := 10) (m := 60) e0 (by kernel_rfl)) <| fa (small_sym (i := 1) (j := 11) (m := 60) e1 (by kernel_rfl)) <| fa (small_sym (i := 2) (j := 12) (m := 60) e2 (by kernel_rfl)) fn) fn (dD [S 12, S 10, S 11]) (dieD_100 σ gt gw (fun _ => undef) gf [] ok hm) rfl rfl
    exact SOK_x (T := SX σ gt gw (fun _ => undef) gf _ [] ok hm) ⟨q1.symm, q2.symm, q3.symm⟩ hf rfl (fun _ _ h => h) (.cons (x_cons (x_num (congrArg some r0) (show cI σ (S 0) = some _ from congrArg some g0)) (x_cons (x_num (congrArg some r1) (show cI σ (S 1) = some _ from congrArg some g1)) (x_cons (x_num (congrArg some r2) (show cI σ (S 2) = some _ from congrArg some g2)) (x_nil)))) .nil) (fun _ _ h => h) (.cons (x_cons (x_num (show cI σ (S 0) = some _ from congrArg some g0) (congrArg some r0)) (x_cons (x_num (show cI σ (S 1) = some _ from congrArg some g1) (congrArg some r1)) (x_cons (x_num (show cI σ (S 2) = some _ from congrArg some g2) (congrArg some r2)) (x_nil)))) (.cons (x_cons (x_num (show cI σ (S 12) = some _ from congrArg some g5) (congrArg some t0)) (x_cons (x_num (show cI σ (S 10) = some _ from congrArg some g3) (congrArg some t1)) (x_cons (x_num (show cI σ (S 11) = some _ from congrArg some g4) (congrArg some t2)) (x_nil)))) .nil)) rfl rfl
  · rw [show decide (p0 ≤ p1) = false by simp; omega, show decide (p0 ≤ p2) = true by simp; omega, show decide (p1 ≤ p2) = true by simp; omega] at ok
    refine ⟨p1, p0, p2, by omega, by omega, fun S' a b c d e f q1 q2 q3 r0 r1 r2 t0 t1 t2 => ?_⟩
    letI : Sig := SX σ gt gw (fun _ => undef) gf _ [] ok hm
    have hf := sr (l := [dM 0 60, dM 1 60, dM 2 60]) (s := []) (fa (small_sym (i := 0) (j := 10) (m := 60) e0 (by kernel_rfl)) <| fa (small_sym (i := 1) (j := 11) (m := 60) e1 (by kernel_rfl)) <| fa (small_sym (i := 2) (j := 12) (m := 60) e2 (by kernel_rfl)) fn) fn (dD [S 11, S 10, S 12]) (dieD_011 σ gt gw (fun _ => undef) gf [] ok hm) rfl rfl
    exact SOK_x (T := SX σ gt gw (fun _ => undef) gf _ [] ok hm) ⟨q1.symm, q2.symm, q3.symm⟩ hf rfl (fun _ _ h => h) (.cons (x_cons (x_num (congrArg some r0) (show cI σ (S 0) = some _ from congrArg some g0)) (x_cons (x_num (congrArg some r1) (show cI σ (S 1) = some _ from congrArg some g1)) (x_cons (x_num (congrArg some r2) (show cI σ (S 2) = some _ from congrArg some g2)) (x_nil)))) .nil) (fun _ _ h => h) (.cons (x_cons (x_num (show cI σ (S 0) = some _ from congrArg some g0) (congrArg some r0)) (x_cons (x_num (show cI σ (S 1) = some _ from congrArg some g1) (congrArg some r1)) (x_cons (x_num (show cI σ (S 2) = some _ from congrArg some g2) (congrArg some r2)) (x_nil)))) (.cons (x_cons (x_num (show cI σ (S 11) = some _ from congrArg some g4) (congrArg some t0)) (x_cons (x_num (show cI σ (S 10) = some _ from congrArg some g3) (congrArg some t1)) (x_cons (x_num (show cI σ (S 12) = some _ from congrArg some g5) (congrArg some t2)) (x_nil)))) .nil)) rfl rfl
  · exact absurd k3 (by omega)
  · rw [show decide (p0 ≤ p1) = false by simp; omega, show decide (p0 ≤ p2) = false by simp; omega, show decide (p1 ≤ p2) = true by simp; omega] at ok
    refine ⟨p1, p2, p0, by omega, by omega, fun S' a b c d e f q1 q2 q3 r0 r1 r2 t0 t1 t2 => ?_⟩
    letI : Sig := SX σ gt gw (fun _ => undef) gf _ [] ok hm
    have hf := sr (l := [dM 0 60, dM 1 60, dM 2 60]) (s := []) (fa (small_sym (i := 0) (j := 10) (m := 60) e0 (by kernel_rfl)) <| fa (small_sym (i := 1) (j := 11) (m := 60) e1 (by kernel_rfl)) <| fa (small_sym (i := 2) (j := 12) (m := 60) e2 (by kernel_rfl)) fn) fn (dD [S 11, S 12, S 10]) (dieD_001 σ gt gw (fun _ => undef) gf [] ok hm) rfl rfl
    exact SOK_x (T := SX σ gt gw (fun _ => undef) gf _ [] ok hm) ⟨q1.symm, q2.symm, q3.symm⟩ hf rfl (fun _ _ h => h) (.cons (x_cons (x_num (congrArg some r0) (show cI σ (S 0) = some _ from congrArg some g0)) (x_cons (x_num (congrArg some r1) (show cI σ (S 1) = some _ from congrArg some g1)) (x_cons (x_num (congrArg some r2) (show cI σ (S 2) = some _ from congrArg some g2)) (x_nil)))) .nil) (fun _ _ h => h) (.cons (x_cons (x_num (show cI σ (S 0) = some _ from congrArg some g0) (congrArg some r0)) (x_cons (x_num (show cI σ (S 1) = some _ from congrArg some g1) (congrArg some r1)) (x_cons (x_num (show cI σ (S 2) = some _ from congrArg some g2) (congrArg some r2)) (x_nil)))) (.cons (x_cons (x_num (show cI σ (S 11) = some _ from congrArg some g4) (congrArg some t0)) (x_cons (x_num (show cI σ (S 12) = some _ from congrArg some g5) (congrArg some t1)) (x_cons (x_num (show cI σ (S 10) = some _ from congrArg some g3) (congrArg some t2)) (x_nil)))) .nil)) rfl rfl
  · rw [show decide (p0 ≤ p1) = false by simp; omega, show decide (p0 ≤ p2) = false by simp; omega, show decide (p1 ≤ p2) = false by simp; omega] at ok
    refine ⟨p2, p1, p0, by omega, by omega, fun S' a b c d e f q1 q2 q3 r0 r1 r2 t0 t1 t2 => ?_⟩
    letI : Sig := SX σ gt gw (fun _ => undef) gf _ [] ok hm
    have hf := sr (l := [dM 0 60, dM 1 60, dM 2 60]) (s := []) (fa (small_sym (i := 0) (j := 10) (m := 60) e0 (by kernel_rfl)) <| fa (small_sym (i := 1) (j := 11) (m := 60) e1 (by kernel_rfl)) <| fa (small_sym (i := 2) (j := 12) (m := 60) e2 (by kernel_rfl)) fn) fn (dD [S 12, S 11, S 10]) (dieD_000 σ gt gw (fun _ => undef) gf [] ok hm) rfl rfl
    exact SOK_x (T := SX σ gt gw (fun _ => undef) gf _ [] ok hm) ⟨q1.symm, q2.symm, q3.symm⟩ hf rfl (fun _ _ h => h) (.cons (x_cons (x_num (congrArg some r0) (show cI σ (S 0) = some _ from congrArg some g0)) (x_cons (x_num (congrArg some r1) (show cI σ (S 1) = some _ from congrArg some g1)) (x_cons (x_num (congrArg some r2) (show cI σ (S 2) = some _ from congrArg some g2)) (x_nil)))) .nil) (fun _ _ h => h) (.cons (x_cons (x_num (show cI σ (S 0) = some _ from congrArg some g0) (congrArg some r0)) (x_cons (x_num (show cI σ (S 1) = some _ from congrArg some g1) (congrArg some r1)) (x_cons (x_num (show cI σ (S 2) = some _ from congrArg some g2) (congrArg some r2)) (x_nil)))) (.cons (x_cons (x_num (show cI σ (S 12) = some _ from congrArg some g5) (congrArg some t0)) (x_cons (x_num (show cI σ (S 11) = some _ from congrArg some g4) (congrArg some t1)) (x_cons (x_num (show cI σ (S 10) = some _ from congrArg some g3) (congrArg some t2)) (x_nil)))) .nil)) rfl rfl
end Go.Proofs.YtbadfjogakhhbaaGreatDoor.Re
