/- Facts in the words of another signature; values known by name. -/
import Derived.Test.YtbadfjogakhhbaaDoorF27
namespace Go.Proofs.YtbadfjogakhhbaaDoor.Re
open Go Go.RowKit
set_option linter.unusedVariables false
set_option linter.unusedSimpArgs false
set_option linter.unusedSectionVars false
def Vl (j : Nat) : V := .val j
def endF (t : Fact) : Option (V × St) := match stBl t.bl with
  | some s => some (t.v, s)
  | none => none
/-- Blocks in the words of another signature. -/
inductive XI (T S : Sig) : List (List V × TypeId) → List (List V × TypeId) → Prop
  | nil : XI T S [] []
  | cons {l l' : List V} {t : TypeId} {r r' : List (List V × TypeId)} (h : ∀ E us, @VRs T E l us → @VRs S E l' us) (k : XI T S r r') : XI T S ((l, t) :: r) ((l', t) :: r')
section
variable {T S : Sig}
theorem XI.len {l l' : List (List V × TypeId)} (h : XI T S l l') : l'.length = l.length := by
  induction h with
  | nil => rfl
  | cons _ _ ih => simp [ih]
theorem XI.get {l l' : List (List V × TypeId)} (h : XI T S l l') : ∀ {i : Nat} {c' : List V} {t : TypeId}, l'[i]? = some (c', t) → ∃ c, l[i]? = some (c, t) ∧ ∀ E us, @VRs T E c us → @VRs S E c' us := by
  induction h with
  | nil => intro i c' t h; simp at h
  | cons h k ih =>
    intro i c' t hi
    cases i with
    | zero => simp at hi; obtain ⟨rfl, rfl⟩ := hi; exact ⟨_, rfl, h⟩
    | succ i => simpa using ih (by simpa using hi)
/-- The same memory. -/
structure Sm (T S : Sig) : Prop where
  gt : T.gt = S.gt
  gw : T.gw = S.gw
  gf : T.gf = S.gf
theorem Sm.G (H : Sm T S) : @GT T = @GT S := by
  funext g
  unfold GT
  rw [H.gt]
theorem WR_x (H : Sm T S) {B : Nat → Prop} {E : Env} {w : World} {bl bl' : List (List V × TypeId)} {st st' : St} (hw : @WR T (@GT T) B E st w) (h : stBl bl = some st) (h' : stBl bl' = some st') (hi : XI T S bl bl') : @WR S (@GT S) B E st' w := by
  obtain ⟨p1, p2, p3⟩ := @stBl_get S _ _ h
  obtain ⟨q1, q2, q3⟩ := @stBl_get S _ _ h'
  obtain ⟨hwn, hlive, hinj, hbase, hsize, hglob⟩ := hw
  have bw : ∀ b o, st'.h.get b = some o → ∃ l ty l', o = .cells l' ty ∧ st.h.get b = some (.cells l ty) ∧ ∀ E us, @VRs T E l us → @VRs S E l' us := fun b o hb => by
    obtain ⟨l', ty, e1, rfl⟩ := q3 b o hb
    obtain ⟨l, e2, e3⟩ := hi.get e1
    exact ⟨l, ty, l', rfl, p2 b l ty e2, e3⟩
  refine @WR.mk S _ _ _ _ _ (by rw [q1, hi.len, ← p1]; exact hwn) (fun b o hb => ?_) (fun b b' o o' hb hb' he => ?_) (fun b o hb => ?_) hsize (fun g o hg => hglob g o (by rw [H.G, H.gf]; exact hg))
  · obtain ⟨l, ty, l', rfl, e, hl⟩ := bw b o hb
    obtain ⟨h1, c, c1, c2, us, rest, c3, c4⟩ := hlive b _ e
    exact ⟨by rw [q1, hi.len, ← p1]; exact h1, c, c1, c2, us, rest, c3, hl _ _ c4⟩
  · obtain ⟨l, ty, l', rfl, e, hl⟩ := bw b o hb
    obtain ⟨l2, ty2, l2', rfl, e2, hl2⟩ := bw b' o' hb'
    exact hinj b b' _ _ e e2 he
  · obtain ⟨l, ty, l', rfl, e, hl⟩ := bw b o hb
    exact hbase b _ e
theorem FOK_x {t t' : Fact} (H : Sm T S) (h : @FOK T t) (hf : t'.f = t.f) (ha : ∀ E us, @VRs S E t'.args us → @VRs T E t.args us) (hv : ∀ E x, @VR T E t.v x → @VR S E t'.v x) (hb : XI T S t.bl t'.bl) (hs : (stBl t'.bl).isSome = true) : @FOK S t' := by
  obtain ⟨h1, h2⟩ := h
  obtain ⟨st2, hst2⟩ := Option.isSome_iff_exists.1 hs
  refine ⟨by rw [hf]; exact h1, fun w E us hG hus => ?_⟩
  rw [hf]
  refine CallsIn.mono (h2 w E us (fun g o hg => hG g o (by rw [H.G, H.gf] at hg; exact hg)) (ha E us hus)) ?_
  rintro _ w' ⟨x, E', st', q1, q2, q3, q4, q5, q6⟩
  exact ⟨x, E', st2, hst2, q2, q3, WR_x H q4 q1 hst2 hb, hv _ _ q5, q6⟩
theorem SOK_x {t t' : SFact} (H : Sm T S) (h : @SOK T t) (hf : t'.f = t.f) (ha : ∀ E us, @VRs S E t'.args us → @VRs T E t.args us) (hp : XI S T t'.pre t.pre) (hv : ∀ E x, @VR T E t.v x → @VR S E t'.v x) (hb : XI T S t.post t'.post) (h0 : (stBl t'.pre).isSome = true) (hs : (stBl t'.post).isSome = true) : @SOK S t' := by
  obtain ⟨⟨h1, h2⟩, h3⟩ := h
  obtain ⟨st2, hst2⟩ := Option.isSome_iff_exists.1 hs
  obtain ⟨st1, hst1⟩ := Option.isSome_iff_exists.1 h3
  refine ⟨⟨by rw [hf]; exact h1, fun B E w us st0 hst0 hw hus => ?_⟩, h0⟩
  rw [hf]
  refine CallsIn.mono (h2 B E w us st1 hst1 (WR_x ⟨H.gt.symm, H.gw.symm, H.gf.symm⟩ hw hst0 hst1 hp) (ha E us hus)) ?_
  rintro _ w' ⟨x, E', st', q1, q2, q3, q4, q5, q6⟩
  exact ⟨x, E', st2, hst2, q2, q3, WR_x H q4 q1 hst2 hb, hv _ _ q5, q6⟩
theorem x_nil : ∀ E us, @VRs T E [] us → @VRs S E [] us := fun _ _ h => h
theorem x_cons {v v' : V} {l l' : List V} (h : ∀ E x, @VR T E v x → @VR S E v' x) (k : ∀ E us, @VRs T E l us → @VRs S E l' us) : ∀ E us, @VRs T E (v :: l) us → @VRs S E (v' :: l') us := fun E us ⟨u, r, h1, h2, h3⟩ => ⟨u, r, h1, h _ _ h2, k _ _ h3⟩
theorem x_num {v v' : V} {a : Int} (h : cI T.σ v = some a) (h' : cI S.σ v' = some a) : ∀ E x, @VR T E v x → @VR S E v' x := fun E x hx => by
  rw [@cI_ok T _ _ _ h _ hx]; exact @cI_VR S _ _ _ h'
end
/-- An element of a list that is known by name alone. -/
def Rd (gf : Nat → Option Obj) (x : Value) (j : Nat) (z : Value) : Prop := ∃ A n c b off cc ty fz, x = .slice (some A) n c ∧ j < n ∧ A.add j = ⟨b, off, none⟩ ∧ gf b = some (.cells cc ty fz) ∧ cc[off]? = some z
def pAt (x : Value) (j : Nat) : Value := match x with
  | .slice (some A) _ _ => .pointer (some (A.add j))
  | _ => undef
def lenS : Value → Nat
  | .slice _ n _ => n
  | _ => 0
theorem mo_idx {σ : Nat → Int} {val : Nat → Value} {gf : Nat → Option Obj} {a b j : Nat} {z : Value} (hr : Rd gf (val a) j z) (hb : val b = pAt (val a) j) : MO σ val gf (31, .val a, I j, .val b) := by
  obtain ⟨A, n, c, bb, off, cc, ty, fz, h1, h2, h3, h4, h5⟩ := hr
  have e : val b = .pointer (some (A.add j)) := by rw [hb, h1]; rfl
  refine ⟨fun k hk => ?_, _, _, _, rfl, rfl, rfl, A, n, c, (j : Int), h1, rfl, by omega, by omega, by rw [e]; simp⟩
  injection hk with hk
  subst hk
  exact .inr ⟨_, e⟩
theorem mo_read {σ : Nat → Int} {val : Nat → Value} {gf : Nat → Option Obj} {a b j : Nat} {v : V} {z : Value} (hr : Rd gf (val a) j z) (hb : val b = pAt (val a) j) (hv : dV σ val v = some z) (h1s : ∀ k, v = .val k → oneS (val k)) : MO σ val gf (32, .val b, .val b, v) := by
  obtain ⟨A, n, c, bb, off, cc, ty, fz, h1, h2, h3, h4, h5⟩ := hr
  have e : val b = .pointer (some (A.add j)) := by rw [hb, h1]; rfl
  exact ⟨h1s, _, _, z, rfl, rfl, hv, bb, off, cc, ty, fz, by rw [e, h3], h4, h5⟩
theorem mo_len {σ : Nat → Int} {val : Nat → Value} {gf : Nat → Option Obj} {a s : Nat} {p : Option Addr} {n c : Nat} (h : val a = .slice p n c) (hs : σ s = n) : MO σ val gf (30, .val a, .val a, S s) := ⟨fun k hk => (by cases hk), _, _, _, rfl, rfl, rfl, p, n, c, h, by rw [hs]⟩
theorem smallI_cases (x : Int) (m : Nat) (hm : m < 1000) : ∃ v : Nat, v ≤ m ∧ smallI x (.ofNat m) = .ofNat v := by
  have e1 : wrap64 (Int.ofNat m + 1) = (m : Int) + 1 := by unfold wrap64; simp only [Int.ofNat_eq_natCast]; omega
  have e2 : IntKind.u64.wrap ((m : Int) + 1) = (m : Int) + 1 := by rw [IntKind.wrap_u64]; omega
  have e3 : 0 ≤ IntKind.u64.wrap x := by rw [IntKind.wrap_u64]; omega
  unfold smallI
  rw [e1, e2, Int.tmod_eq_emod_of_nonneg e3]
  have h1 := Int.emod_nonneg (IntKind.u64.wrap x) (show (m : Int) + 1 ≠ 0 by omega)
  have h2 := Int.emod_lt_of_pos (IntKind.u64.wrap x) (show (0 : Int) < (m : Int) + 1 by omega)
  generalize IntKind.u64.wrap x % ((m : Int) + 1) = y at *
  refine ⟨y.toNat, by omega, ?_⟩
  unfold wrap64
  simp only [Int.ofNat_eq_natCast]
  omega
theorem smallI_id {x m : Nat} (h : x ≤ m) (hm : m < 1000) : smallI x (.ofNat m) = x := by
  have e1 : wrap64 (Int.ofNat m + 1) = (m : Int) + 1 := by unfold wrap64; simp only [Int.ofNat_eq_natCast]; omega
  have e2 : IntKind.u64.wrap ((m : Int) + 1) = (m : Int) + 1 := by rw [IntKind.wrap_u64]; omega
  have e3 : IntKind.u64.wrap (x : Int) = x := by rw [IntKind.wrap_u64]; omega
  unfold smallI
  rw [e1, e2, e3, Int.tmod_eq_emod_of_nonneg (by omega), Int.emod_eq_of_lt (by omega) (by omega)]
  unfold wrap64
  omega
end Go.Proofs.YtbadfjogakhhbaaDoor.Re
