/- Seat ZD: tables of operations on unknown numbers; contracts of small, less, lowest for them. -/
import Derived.Test.YtbadfjogakhhbaaDoorF22
namespace Go.Proofs.YtbadfjogakhhbaaDoor.Re
open Go Go.RowKit
set_option linter.unusedVariables false
set_option linter.unusedSimpArgs false
set_option linter.unusedSectionVars false
def opN : BinOp → Nat
  | .add => 1
  | .sub => 2
  | .mul => 3
  | .lss => 4
  | .leq => 5
  | .gtr => 6
  | .geq => 7
  | .eql => 8
  | .neq => 9
  | _ => 0
def skN : SK → Nat
  | .bin op => opN op
  | .min => 20
  | .max => 21
abbrev Row := Nat × V × V × V
def tbL : List Row → Nat → V → V → Option V
  | [], _, _, _ => none
  | (k, v, u, r) :: l, k', v', u' => match Nat.beq k k' && vSame v v' && vSame u u' with
    | true => some r
    | false => tbL l k' v' u'
def tbOf (l : List Row) (k : SK) (v u : V) : Option V := match skN k with
  | 0 => none
  | n + 1 => tbL l (n + 1) v u
def kOp : Nat → Option SK
  | 1 => some (.bin .add)
  | 2 => some (.bin .sub)
  | 3 => some (.bin .mul)
  | 4 => some (.bin .lss)
  | 5 => some (.bin .leq)
  | 6 => some (.bin .gtr)
  | 7 => some (.bin .geq)
  | 8 => some (.bin .eql)
  | 9 => some (.bin .neq)
  | 20 => some .min
  | 21 => some .max
  | _ => none
theorem kOp_skN (k : SK) : skN k = 0 ∨ kOp (skN k) = some k := by
  cases k with
  | bin op => cases op <;> first | exact .inl rfl | exact .inr rfl
  | min => exact .inr rfl
  | max => exact .inr rfl
/-- What is asked of an entry. -/
def EOK (σ : Nat → Int) (e : Row) : Prop := ∃ k a b z, kOp e.1 = some k ∧ cI σ e.2.1 = some a ∧ cI σ e.2.2.1 = some b ∧ binI k a b = some z ∧ cV σ e.2.2.2 = some z
theorem tbL_ok {σ : Nat → Int} : ∀ {l : List Row}, (∀ e ∈ l, EOK σ e) → ∀ {n : Nat} {v u r : V}, tbL l n v u = some r → EOK σ (n, v, u, r)
  | [], _, n, v, u, r, h => by cases h
  | (k, v0, u0, r0) :: l, hl, n, v, u, r, h => by
    unfold tbL at h
    split at h
    · rename_i hb
      simp only [Bool.and_eq_true] at hb
      injection h with h
      have e1 := Nat.eq_of_beq_eq_true hb.1.1
      letI : Sig := ⟨fun _ => 0, 0, 0, fun _ _ _ => none, fun _ _ _ _ h => (by cases h), fun _ => undef, fun _ => none, fun _ _ _ => none, fun _ _ _ _ h => (by cases h)⟩
      have e2 := vSame_ok hb.1.2
      have e3 := vSame_ok hb.2
      subst e1 e2 e3 h
      exact hl _ (by simp)
    · exact tbL_ok (fun e he => hl e (by simp [he])) h
theorem tbOf_ok {σ : Nat → Int} {l : List Row} (hl : ∀ e ∈ l, EOK σ e) : ∀ k v u r, tbOf l k v u = some r → ∃ a b z, cI σ v = some a ∧ cI σ u = some b ∧ binI k a b = some z ∧ cV σ r = some z := fun k v u r h => by
  unfold tbOf at h
  split at h
  · cases h
  · rename_i n hn
    obtain ⟨k', a, b, z, h1, h2, h3, h4, h5⟩ := tbL_ok hl h
    have h1 : kOp (n + 1) = some k' := h1
    rcases kOp_skN k with h0 | h0
    · omega
    · rw [hn, h1] at h0
      injection h0 with h0
      subst h0
      exact ⟨a, b, z, h2, h3, h4, h5⟩
/-- The signature of a table. -/
abbrev SG (σ : Nat → Int) (gt gw : TypeId) (l : List Row) (ok : ∀ e ∈ l, EOK σ e) : Sig := ⟨σ, gt, gw, tbOf l, tbOf_ok ok, fun _ => undef, fun _ => none, fun _ _ _ => none, fun _ _ _ _ h => by cases h⟩
section
variable {σ : Nat → Int}
/-- A whole number or an unknown one, and what it is. -/
theorem e_cmp {k : Nat} {op : SK} {v u : V} {a b : Int} {c : Bool} (hk : kOp k = some op) (hv : cI σ v = some a) (hu : cI σ u = some b) (h : binI op a b = some (.bool c)) : EOK σ (k, v, u, .raw (.bool c)) := ⟨op, a, b, _, hk, hv, hu, h, rfl⟩
theorem e_val {k : Nat} {op : SK} {v u r : V} {a b c : Int} (hk : kOp k = some op) (hv : cI σ v = some a) (hu : cI σ u = some b) (hr : cI σ r = some c) (h : binI op a b = some (.int .i64 c)) : EOK σ (k, v, u, r) := by
  refine ⟨op, a, b, _, hk, hv, hu, h, ?_⟩
  show cV σ r = _
  unfold cI at hr
  unfold cV
  split at hr
  · injection hr with hr; subst hr; rfl
  · injection hr with hr; subst hr; rfl
  · cases hr
theorem e_lss {v u : V} {a b : Int} (c : Bool) (hv : cI σ v = some a) (hu : cI σ u = some b) (h : c = true ↔ a < b) : EOK σ (4, v, u, .raw (.bool c)) := e_cmp rfl hv hu (by simp [binI]; cases c <;> simp_all)
theorem e_leq {v u : V} {a b : Int} (c : Bool) (hv : cI σ v = some a) (hu : cI σ u = some b) (h : c = true ↔ a ≤ b) : EOK σ (5, v, u, .raw (.bool c)) := e_cmp rfl hv hu (by simp [binI]; cases c <;> simp_all)
theorem e_gtr {v u : V} {a b : Int} (c : Bool) (hv : cI σ v = some a) (hu : cI σ u = some b) (h : c = true ↔ b < a) : EOK σ (6, v, u, .raw (.bool c)) := e_cmp rfl hv hu (by simp [binI]; cases c <;> simp_all)
theorem e_geq {v u : V} {a b : Int} (c : Bool) (hv : cI σ v = some a) (hu : cI σ u = some b) (h : c = true ↔ b ≤ a) : EOK σ (7, v, u, .raw (.bool c)) := e_cmp rfl hv hu (by simp [binI]; cases c <;> simp_all)
theorem e_eql {v u : V} {a b : Int} (c : Bool) (hv : cI σ v = some a) (hu : cI σ u = some b) (h : c = true ↔ a = b) : EOK σ (8, v, u, .raw (.bool c)) := e_cmp rfl hv hu (by simp [binI]; cases c <;> simp_all)
theorem e_neq {v u : V} {a b : Int} (c : Bool) (hv : cI σ v = some a) (hu : cI σ u = some b) (h : c = true ↔ a ≠ b) : EOK σ (9, v, u, .raw (.bool c)) := e_cmp rfl hv hu (by simp [binI]; cases c <;> simp_all)
theorem wrap_in {n : Int} (h : -1000000 ≤ n ∧ n ≤ 1000000) : IntKind.i64.wrap n = n := by rw [IntKind.wrap_i64]; omega
theorem e_add {v u r : V} {a b c : Int} (hv : cI σ v = some a) (hu : cI σ u = some b) (hr : cI σ r = some c) (h : c = a + b) (hb : -1000000 ≤ c ∧ c ≤ 1000000) : EOK σ (1, v, u, r) := e_val rfl hv hu hr (by simp only [binI]; rw [← h, wrap_in hb])
theorem e_sub {v u r : V} {a b c : Int} (hv : cI σ v = some a) (hu : cI σ u = some b) (hr : cI σ r = some c) (h : c = a - b) (hb : -1000000 ≤ c ∧ c ≤ 1000000) : EOK σ (2, v, u, r) := e_val rfl hv hu hr (by simp only [binI]; rw [← h, wrap_in hb])
theorem e_mul {v u r : V} {a b c : Int} (hv : cI σ v = some a) (hu : cI σ u = some b) (hr : cI σ r = some c) (h : c = a * b) (hb : -1000000 ≤ c ∧ c ≤ 1000000) : EOK σ (3, v, u, r) := e_val rfl hv hu hr (by simp only [binI]; rw [← h, wrap_in hb])
theorem e_min {v u r : V} {a b c : Int} (hv : cI σ v = some a) (hu : cI σ u = some b) (hr : cI σ r = some c) (h : c = if b < a then b else a) : EOK σ (20, v, u, r) := e_val rfl hv hu hr (by simp only [binI]; rw [← h])
theorem e_max {v u r : V} {a b c : Int} (hv : cI σ v = some a) (hu : cI σ u = some b) (hr : cI σ r = some c) (h : c = if a < b then b else a) : EOK σ (21, v, u, r) := e_val rfl hv hu hr (by simp only [binI]; rw [← h])
end
variable [Sig]
/-- A fact that says the same in other words. -/
theorem FactOK.words {P : Program} {G : Nat → Option Obj} {t t' : Fact} (h : FactOK P G t) (hf : t'.f = t.f) (hb : t'.bl = t.bl) (ha : ∀ E us, VRs E t'.args us → VRs E t.args us) (hv : ∀ E x, VR E t.v x → VR E t'.v x) : FactOK P G t' := by
  obtain ⟨h1, h2⟩ := h
  refine ⟨by rw [hf]; exact h1, fun w E us hG hus => ?_⟩
  rw [hf]
  refine CallsIn.mono (h2 w E us hG (ha E us hus)) ?_
  rintro _ w' ⟨x, E', st', q1, q2, q3, q4, q5, q6⟩
  exact ⟨x, E', st', by rw [hb]; exact q1, q2, q3, q4, hv _ _ q5, q6⟩
theorem SFactOK.words {P : Program} {G : Nat → Option Obj} {t t' : SFact} (h : SFactOK P G t) (hf : t'.f = t.f) (ha : t'.args = t.args) (hp : t'.pre = t.pre) (hb : t'.post = t.post) (hv : ∀ E x, VR E t.v x → VR E t'.v x) : SFactOK P G t' := by
  obtain ⟨h1, h2⟩ := h
  refine ⟨by rw [hf]; exact h1, fun B E w us st0 h0 hw hus => ?_⟩
  rw [hf]
  refine CallsIn.mono (h2 B E w us st0 (by rw [← hp]; exact h0) hw (by rw [← ha]; exact hus)) ?_
  rintro _ w' ⟨x, E', st', q1, q2, q3, q4, q5, q6⟩
  exact ⟨x, E', st', by rw [hb]; exact q1, q2, q3, q4, hv _ _ q5, q6⟩
/-- A contract without memory as a fact. -/
theorem fact_of_calls {f : FuncId} {args : List V} {v : V} (hci : (callInfo Tryd.prog f).isSome = true) (h : ∀ (E : Env) (w : World) (us : List Value), (∀ g o, (GT g = some o ∨ Sig.gf g = some o) → g < w.heap.size ∧ w.heap[g]? = some o) → VRs E args us → Calls Tryd.prog f us.toArray w fun e w' => (∃ x, e = .returned x ∧ ∀ E', VR E' v x) ∧ Below w.heap.size w w') : FOK ⟨f, args, v, []⟩ := by
  refine ⟨ci_of hci, fun w E us hG hv => ?_⟩
  refine CallsIn.mono (callsIn_wide.2 (h E w us hG hv)) ?_
  rintro _ w' ⟨⟨x, rfl, hx⟩, hb⟩
  exact ⟨x, ⟨0, fun _ => 0, fun _ => 0⟩, ⟨.leaf, 0⟩, rfl, rfl, hb.size, ⟨rfl, fun b o hb => by simp [T.get] at hb, fun b b' o o' hb => by simp [T.get] at hb, fun b o hb => by simp [T.get] at hb, fun k hk => Nat.lt_of_lt_of_le hk hb.size, fun g o hg => ⟨(hG g o hg).1, by rw [hb.block g (hG g o hg).1]; exact (hG g o hg).2⟩⟩, hx _, ⟨hb.os, hb.tape, hb.output, hb.size, hb.block⟩⟩
/-- small of an unknown number. -/
theorem small_sym {i j m : Nat} (h : smallI (Sig.σ i) (.ofNat m) = Sig.σ j) (hm : (IntKind.u64.wrap (wrap64 (.ofNat m + 1)) == 0) = false) : FOK ⟨5, [.sym i, I m], .sym j, []⟩ := by
  refine fact_of_calls (by kernel_rfl) fun E w us hG hv => ?_
  obtain ⟨u, r, rfl, h1, u2, r2, rfl, h2, h3⟩ := hv
  have h1 : u = .int .i64 (Sig.σ i) := h1
  have h2 : u2 = .int .i64 (.ofNat m) := h2
  have h3 : r2 = [] := h3
  subst h1 h2 h3
  refine (small_calls (Sig.σ i) (.ofNat m) w (beq_eq_false_iff_ne.1 hm)).mono ?_
  rintro _ w' ⟨rfl, hb⟩
  exact ⟨⟨_, rfl, fun E' => by show _ = _; rw [h]⟩, hb⟩
theorem cI_VR {E : Env} {v : V} {a : Int} (h : cI Sig.σ v = some a) : VR E v (.int .i64 a) := by
  unfold cI at h
  split at h
  · injection h with h; subst h; rfl
  · injection h with h; subst h; rfl
  · cases h
end Go.Proofs.YtbadfjogakhhbaaDoor.Re
