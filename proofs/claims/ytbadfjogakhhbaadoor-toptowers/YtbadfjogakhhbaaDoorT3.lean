/- TopTowers: what is known of its numbers; words; pieces. -/
import Derived.Test.YtbadfjogakhhbaaDoorT2
import Derived.Test.YtbadfjogakhhbaaDoorU1
import Derived.Test.YtbadfjogakhhbaaDoorU2
import Derived.Test.YtbadfjogakhhbaaDoorU3
namespace Go.Proofs.YtbadfjogakhhbaaDoor.Re
open Go Go.RowKit
set_option linter.unusedVariables false
set_option linter.unusedSimpArgs false
set_option linter.unusedSectionVars false
/-- These values are these numbers. -/
def Nums (σ : Nat → Int) (l : List V) (xs : List Int) : Prop := l.map (cI σ) = xs.map some
theorem nums_app {σ : Nat → Int} {l l' : List V} {xs xs' : List Int} (h : Nums σ l xs) (h' : Nums σ l' xs') : Nums σ (l ++ l') (xs ++ xs') := by
  unfold Nums at *
  rw [List.map_append, List.map_append, h, h']
theorem nums_up {σ : Nat → Int} {n : Nat} {f : Nat → V} {xs : List Int} (hl : xs.length = n) (h : ∀ j, j < n → cI σ (f j) = some (xs.getD j 0)) : Nums σ (up n f) xs := by
  unfold Nums up
  apply List.ext_getElem (by simp [hl])
  intro j h1 h2
  simp only [List.length_map, List.length_range] at h1
  simp only [List.getElem_map, List.getElem_range]
  rw [h j h1, List.getD_eq_getElem?_getD, List.getElem?_eq_getElem (by omega)]
  rfl
theorem nums_map {σ : Nat → Int} {n : Nat} {f : Nat → V} {g : Nat → Int} (h : ∀ j, j < n → cI σ (f j) = some (g j)) : Nums σ (up n f) ((List.range n).map g) := by
  unfold Nums up
  rw [List.map_map, List.map_map]
  exact List.map_congr_left fun j hj => h j (List.mem_range.1 hj)
theorem nums_one {σ : Nat → Int} {v : V} {z : Int} (h : cI σ v = some z) : Nums σ [v] [z] := by
  unfold Nums; simp [h]
theorem nums_ins {σ : Nat → Int} {l : List V} {xs : List Int} (h : Nums σ l xs) {v : V} {z : Int} (hv : cI σ v = some z) (a : Nat) : Nums σ (insL l a v) (xs.take a ++ z :: xs.drop a) := by
  unfold Nums insL at *
  rw [List.map_append, List.map_cons, List.map_take, List.map_drop, h, hv, List.map_append, List.map_cons, List.map_take, List.map_drop]
theorem nums_isN [Sig] : ∀ {l : List V} {xs : List Int}, Nums Sig.σ l xs → IsN l xs
  | [], [], _ => isN_nil
  | v :: l, z :: xs, h => by
    unfold Nums at h
    rw [List.map_cons, List.map_cons] at h
    injection h with h1 h2
    exact isN_cons h1 (nums_isN h2)
  | [], _ :: _, h => by simp [Nums] at h
  | _ :: _, [], h => by simp [Nums] at h
theorem nums_V [Sig] {E : Env} : ∀ {l : List V} {xs : List Int}, Nums Sig.σ l xs → VRs E l (xs.map fun z => Value.int .i64 z)
  | [], [], _ => rfl
  | v :: l, z :: xs, h => by
    unfold Nums at h
    rw [List.map_cons, List.map_cons] at h
    injection h with h1 h2
    exact ⟨_, _, rfl, cI_VR h1, nums_V h2⟩
  | [], _ :: _, h => by simp [Nums] at h
  | _ :: _, [], h => by simp [Nums] at h
theorem nums_w [Sig] {l l' : List V} {xs : List Int} (h : Nums Sig.σ l xs) (h' : Nums Sig.σ l' xs) : ∀ E us, VRs E l us → VRs E l' us := fun E us hu => by
  rw [(nums_isN h).2 E us hu]
  exact nums_V h'
theorem smF_ok [Sig] {i m : Nat} {v : V} {z : Int} (hm : m < 1000) (hv : cI Sig.σ v = some z) (h : smallI (Sig.σ i) (.ofNat m) = z) : FOK (smF i m v) := by
  have hw : IntKind.u64.wrap (wrap64 (Int.ofNat m + 1)) ≠ 0 := by
    have e1 : wrap64 (Int.ofNat m + 1) = (m : Int) + 1 := by unfold wrap64; simp only [Int.ofNat_eq_natCast]; omega
    rw [e1, IntKind.wrap_u64]
    omega
  exact FOK.words2 (t' := smF i m v) (small_fact i (.ofNat m) z hw h) rfl (fun _ _ h => h) (w_num (a := z) rfl hv) (Imp.refl _) rfl
/-- What is known of the law's numbers. -/
structure Tw (σ : Nat → Int) (val : Nat → Value) (gf : Nat → Option Obj) (n : Nat) (A : Nat → List Int) (at_ : Nat → Nat) : Prop where
  h1 : 1 ≤ n
  hn : n ≤ 5
  of0 : smallI (σ 0) (.ofNat 4) = .ofNat (n - 1)
  of1 : smallI (σ 1) (.ofNat 2) = σ 70
  A0 : A 0 = []
  atl : ∀ x, x < n → at_ x < x + 1
  A1 : ∀ x, x < n → A (x + 1) = (A x).take (at_ x) ++ ((x + 1 : Nat) : Int) :: (A x).drop (at_ x)
  sA : ∀ x j, x ≤ n → j < x → σ (100 * x + j) = (A x).getD j 0
  mv : ∀ x, x < n → (((x + 1 : Nat) : Int) ≤ σ 90 ∧ (∀ e ∈ mem1 x, MO σ val gf e) ∧ smallI (σ (40 + x)) (.ofNat x) = .ofNat (at_ x)) ∨ (¬ ((x + 1 : Nat) : Int) ≤ σ 90 ∧ at_ x = x)
  fw : ∀ i, i < n → (((i : Nat) : Int) < σ 90 ∧ (∀ e ∈ mem1 i, MO σ val gf e) ∧ smallI (σ (40 + i)) (.ofNat 2) = σ (60 + i)) ∨ (¬ ((i : Nat) : Int) < σ 90 ∧ σ (60 + i) = 0)
  mem : ∀ e ∈ mem0, MO σ val gf e
  wo : G.pancake_Worst.f (n : Int) = some (σ 80, σ 81, 0)
  fs : G.pancake_Flips.f (A n ++ G.tailL n) (G.firstL 7) = some (σ 82, 0)
  fa : G.pancake_Flips.f (A n) (G.firstL n) = some (σ 83, 0)
  le1 : σ 82 ≤ σ 83
  le2 : σ 83 ≤ σ 80
  di : Q.hanoi_Distance.f 60 ((List.range n).map (fun i => σ (60 + i)) ++ List.replicate (7 - n) (σ 70)) (List.replicate n 0 ++ List.replicate (7 - n) (σ 70)) = some (σ 84, 0)
  df : Q.hanoi_Distance.f 60 ((List.range n).map (fun i => σ (60 + i))) (List.replicate n 0) = some (σ 84, 0)
section
variable {σ : Nat → Int} {val : Nat → Value} {gf : Nat → Option Obj} {n : Nat} {A : Nat → List Int} {at_ : Nat → Nat} (h : Tw σ val gf n A at_)
include h
theorem Tw.len : ∀ x, x ≤ n → (A x).length = x
  | 0, _ => by rw [h.A0]; rfl
  | x + 1, hx => by
    have ih := Tw.len x (by omega)
    have := h.atl x (by omega)
    rw [h.A1 x (by omega), List.length_append, List.length_take, List.length_cons, List.length_drop, ih]
    omega
theorem Tw.nA {x : Nat} (hx : x ≤ n) : Nums σ (aL x) (A x) := nums_up (h.len x hx) fun j hj => congrArg some (h.sA x j hx hj)
theorem Tw.w1 {S' : Sig} (hs : S'.σ = σ) {x : Nat} (hx : x < n) : ∀ E us, @VRs S' E (insL (aL x) (at_ x) (I (x + 1))) us → @VRs S' E (aL (x + 1)) us := by
  subst hs
  refine @nums_w S' _ _ (A (x + 1)) ?_ (h.nA (by omega))
  rw [h.A1 x hx]
  exact nums_ins (h.nA (by omega)) rfl _
theorem nF (i : Nat) : Nums σ (fL i) ((List.range i).map fun j => σ (60 + j)) := nums_map fun j _ => rfl
theorem Tw.w2 {S' : Sig} (hs : S'.σ = σ) {i : Nat} {v : V} (hv : cI σ v = some (σ (60 + i))) : ∀ E us, @VRs S' E (fL i ++ [v]) us → @VRs S' E (fL (i + 1)) us := by
  subst hs
  refine @nums_w S' _ _ ((List.range (i + 1)).map fun j => S'.σ (60 + j)) ?_ (nF h (i + 1))
  rw [List.range_succ, List.map_append]
  exact nums_app (nF h i) (nums_one hv)
end
/-- A piece out of a run, under its own table. -/
theorem pieceC {S' : Sig} {l m : List Row} (ok : ∀ e ∈ l, EOK S'.σ e) (mok : ∀ e ∈ m, MO S'.σ S'.val S'.gf e) {F : List Fact} (hF : ∀ t ∈ F, @FOK S' t ∧ (stBl t.bl).isSome = true) {ts : List Nat} {c : Code} {a b : Lit} {x : LX} (ha : (litS a).isSome = true) (hb : (litS b).isSome = true) (hrun : @rnC (SX S'.σ S'.gt S'.gw S'.val S'.gf l m ok mok) (KK F []) ts c a = litX x b) : ∀ B, @Goes S' Tryd.prog (@GT S') B 0 c (frL a) (stL a) x (frL b) (stL b) := by
  intro B
  refine Goes_same (nm_X S' l m ok mok) ?_
  letI : Sig := SX S'.σ S'.gt S'.gw S'.val S'.gf l m ok mok
  unfold rnC litX at hrun
  rw [litS_eq ha, litS_eq hb] at hrun
  exact Goes.of_run mixed (kk (fun t ht => FOK_same (nm_Y S' l m ok mok) (hF t ht).1 (hF t ht).2) gn) hrun
theorem fr_same {a b : Lit} (ht : a.ts = b.ts) (hs : a.sz = b.sz) (h : (litS a).isSome = true) (h' : (litS b).isSome = true) : frL a = frL b := by
  obtain ⟨t, h1, h2, _⟩ := litS_parts (litS_eq h)
  obtain ⟨t', h1', h2', _⟩ := litS_parts (litS_eq h')
  rw [ht, h1'] at h1
  injection h1 with h1
  rw [h2, h2', hs, h1]
/-- A round: a run, then other words for what it leaves. -/
theorem round_go {S' : Sig} {l m : List Row} (ok : ∀ e ∈ l, EOK S'.σ e) (mok : ∀ e ∈ m, MO S'.σ S'.val S'.gf e) {F : List Fact} (hF : ∀ t ∈ F, @FOK S' t ∧ (stBl t.bl).isSome = true) {ts : List Nat} {c : Code} {a b b' : Lit} (ha : (litS a).isSome = true) (hb : (litS b).isSome = true) (hc : (litS b').isSome = true) (ht : b.ts = b'.ts) (hs : b.sz = b'.sz) (hi : @Imp S' b.bl b'.bl) (hrun : @rnC (SX S'.σ S'.gt S'.gw S'.val S'.gf l m ok mok) (KK F []) ts c a = litX .nor b) : ∀ B, @Goes S' Tryd.prog (@GT S') B 0 c (frL a) (stL a) .nor (frL b') (stL b') := by
  intro B
  have h := pieceC ok mok hF ha hb hrun B
  rw [fr_same ht hs hb hc] at h
  obtain ⟨_, _, _, e1⟩ := litS_parts (litS_eq hb)
  obtain ⟨_, _, _, e2⟩ := litS_parts (litS_eq hc)
  exact @Goes.words S' _ _ _ _ _ _ _ _ _ _ _ h e1 e2 hi
theorem imp2 [Sig] {l l' : List V} (h : ∀ E us, VRs E l us → VRs E l' us) : Imp [ofB, (l, 3)] [ofB, (l', 3)] := .cons (fun _ _ h => h) (.cons h .nil)
theorem imp4 [Sig] {a b l l' : List V} (h : ∀ E us, VRs E l us → VRs E l' us) : Imp [ofB, (a, 3), (b, 3), (l, 3)] [ofB, (a, 3), (b, 3), (l', 3)] := .cons (fun _ _ h => h) (.cons (fun _ _ h => h) (.cons (fun _ _ h => h) (.cons h .nil)))
theorem one_fact {S' : Sig} {t : Fact} (h : @FOK S' t) (hs : (stBl t.bl).isSome = true) : ∀ t' ∈ [t], @FOK S' t' ∧ (stBl t'.bl).isSome = true := ga ⟨h, hs⟩ gn
end Go.Proofs.YtbadfjogakhhbaaDoor.Re
