/- TopTowers: the pieces joined. -/
import Derived.Test.YtbadfjogakhhbaaDoorT4
namespace Go.Proofs.YtbadfjogakhhbaaDoor.Re
open Go Go.RowKit
set_option linter.unusedVariables false
set_option linter.unusedSimpArgs false
set_option linter.unusedSectionVars false
set_option maxRecDepth 100000
theorem shape : ∀ fn c, callInfo Tryd.prog 3 = some (fn, c) → cutB 2 c = .seq (.seq r1 (.block 0 (.loop x1))) (cutB 3 c) ∧ cutB 4 c = .seq (.seq r2 (.block 2 (.loop x2))) (cutB 5 c) := by
  intro fn c hc
  letI : Sig := ⟨fun _ => 0, 0, 0, fun _ _ _ => none, fun _ _ _ _ h => (by cases h), fun _ => undef, fun _ => none, fun _ _ _ => none, fun _ _ _ _ h => (by cases h)⟩
  have hb : (match callInfo Tryd.prog 3 with
    | some (_, c) => match cutB 2 c with
      | .seq (.seq _ (.block i (.loop _))) _ => Nat.beq i 0
      | _ => false
    | none => false) = true := by kernel_rfl
  have hb2 : (match callInfo Tryd.prog 3 with
    | some (_, c) => match cutB 4 c with
      | .seq (.seq _ (.block i (.loop _))) _ => Nat.beq i 2
      | _ => false
    | none => false) = true := by kernel_rfl
  rw [hc] at hb hb2
  simp only at hb hb2
  constructor
  · split at hb
    · rename_i r i x y hcut
      have hi := Nat.eq_of_beq_eq_true hb
      subst hi
      have e1 : r1 = r := by unfold r1; rw [hc]; simp only; rw [hcut]
      have e2 : x1 = x := by unfold x1; rw [hc]; simp only; rw [hcut]
      have e3 : cutB 3 c = y := by rw [← cutB_cutB 2 0 c, hcut]; rfl
      rw [e1, e2, e3]
      exact hcut
    · cases hb
  · split at hb2
    · rename_i r i x y hcut
      have hi := Nat.eq_of_beq_eq_true hb2
      subst hi
      have e1 : r2 = r := by unfold r2; rw [hc]; simp only; rw [hcut]
      have e2 : x2 = x := by unfold x2; rw [hc]; simp only; rw [hcut]
      have e3 : cutB 5 c = y := by rw [← cutB_cutB 4 0 c, hcut]; rfl
      rw [e1, e2, e3]
      exact hcut
    · cases hb2
/-- A loop of the law, then the rest. -/
theorem rest_loop {S' : Sig} {n i : Nat} {t : SFact} {r x : Code} {l l0 l' : Lit} (hcut : ∀ fn c, callInfo Tryd.prog t.f = some (fn, c) → cutB n c = .seq (.seq r (.block i (.loop x))) (cutB (n + 1) c)) (hl : (litS l).isSome = true) (hl' : (litS l').isSome = true) (hr : ∀ B, @Goes S' Tryd.prog (@GT S') B t.pre.length r (frL l) (stL l) .nor (frL l0) (stL l0)) (hx : ∀ B, @Goes S' Tryd.prog (@GT S') B t.pre.length (.loop x) (frL l0) (stL l0) (.ext i) (frL l') (stL l')) (h : @RestOK S' Tryd.prog (@GT S') (n + 1) t l') : @RestOK S' Tryd.prog (@GT S') n t l := by
  obtain ⟨fn, c, hci, fr, st, hs, x', fr', st', r', st1, h3, h4, h5, h6, h7, h8⟩ := h
  rw [litS_eq hl'] at hs
  injection hs with hs
  injection hs with e3 e4
  subst e3 e4
  refine ⟨fn, c, hci, _, _, litS_eq hl, x', fr', st', r', st1, fun B => ?_, h4, h5, h6, h7, h8⟩
  rw [hcut fn c hci]
  refine Goes.seq (Goes.seq (hr B) (Goes.block (hx B) ?_)) (h3 B)
  simp
/-- Rounds, and the look that ends them. -/
theorem loop_go {S' : Sig} {n i : Nat} {x : Code} {l' : Lit} (L : Nat → Lit) (hstep : ∀ j, j < n → ∀ B, @Goes S' Tryd.prog (@GT S') B 0 x (frL (L j)) (stL (L j)) .nor (frL (L (j + 1))) (stL (L (j + 1)))) (hlast : ∀ B, @Goes S' Tryd.prog (@GT S') B 0 x (frL (L n)) (stL (L n)) (.ext i) (frL l') (stL l')) : ∀ B, @Goes S' Tryd.prog (@GT S') B 0 (.loop x) (frL (L 0)) (stL (L 0)) (.ext i) (frL l') (stL l') := by
  intro B
  have h := @Goes.loop S' Tryd.prog (@GT S') B 0 x (.ext i) (frL l') (stL l') rfl n (fun j => frL (L (n - j))) (fun j => stL (L (n - j))) (fun j hj => by
    have hr := hstep (n - (j + 1)) (by omega) B
    rw [show n - (j + 1) + 1 = n - j by omega] at hr
    exact hr) (hlast B)
  rw [Nat.sub_self] at h
  exact h
theorem nI (σ : Nat → Int) (n : Nat) : Nums σ (idL n) (G.firstL n) := nums_map fun j _ => rfl
theorem nT (σ : Nat → Int) (n : Nat) : Nums σ (up (7 - n) fun j => I (n + 1 + j)) (G.tailL n) := nums_map fun j _ => rfl
theorem nC {σ : Nat → Int} {m i : Nat} : Nums σ (up m fun _ => S i) (List.replicate m (σ i)) := by
  have := nums_map (σ := σ) (n := m) (f := fun _ => S i) (g := fun _ => σ i) (fun j _ => rfl)
  rw [List.map_const'] at this
  simpa using this
theorem nZ {σ : Nat → Int} {m : Nat} : Nums σ (zL m) (List.replicate m 0) := by
  have := nums_map (σ := σ) (n := m) (f := fun _ => I 0) (g := fun _ => 0) (fun j _ => rfl)
  rw [List.map_const'] at this
  simpa [zL] using this
/-- The facts of the law's end. -/
theorem end_facts {S' : Sig} {n : Nat} {A : Nat → List Int} {at_ : Nat → Nat} (h : Tw S'.σ S'.val S'.gf n A at_) (s1 : (stBl [(sL n, 3), (idL 7, 3)]).isSome = true) (s2 : (stBl [(aL n, 3), (idL n, 3)]).isSome = true) (s3 : (stBl [(fL n ++ cL n, 3), (zL n ++ cL n, 3)]).isSome = true) (s4 : (stBl [(fL n, 3), (zL n, 3)]).isSome = true) : @FOK S' (dWo n) ∧ @SOK S' (dFs n) ∧ @SOK S' (dFa n) ∧ @SOK S' (dDi n) ∧ @SOK S' (dDf n) := by
  have hl := h.len n (Nat.le_refl n)
  have hn := h.hn
  have nA := h.nA (Nat.le_refl n)
  have f7 : ∀ m, (G.firstL m).length = m := fun m => by simp [G.firstL]
  refine ⟨@worst_fact S' n (S 80) (S 81) _ _ rfl rfl h.wo, ?_, ?_, ?_, ?_⟩
  · exact @flips_fact S' _ _ _ _ _ (S 82) _ 7 (@nums_isN S' _ _ (nums_app nA (nT _ n))) (@nums_isN S' _ _ (nI _ 7)) (by rw [List.length_append, hl]; simp [G.tailL]; omega) (f7 7) (by decide) (.inr rfl) rfl s1 h.fs
  · exact @flips_fact S' _ _ _ _ _ (S 83) _ n (@nums_isN S' _ _ nA) (@nums_isN S' _ _ (nI _ n)) hl (f7 n) (by omega) (.inl rfl) rfl s2 h.fa
  · exact @distance_fact S' _ _ _ _ (S 84) _ 7 60 (@nums_isN S' _ _ (nums_app (nF h n) nC)) (@nums_isN S' _ _ (nums_app nZ nC)) (by simp; omega) (by simp; omega) (by decide) rfl s3 h.di
  · exact @distance_fact S' _ _ _ _ (S 84) _ n 60 (@nums_isN S' _ _ (nF h n)) (@nums_isN S' _ _ nZ) (by simp) (by simp) (by omega) rfl s4 h.df
theorem tabW_ok {σ : Nat → Int} (h1 : σ 82 ≤ σ 83) (h2 : σ 83 ≤ σ 80) : ∀ e ∈ tabW, EOK σ e :=
  ga (e_leq true (a := σ 82) (b := σ 83) rfl rfl (by simpa using h1)) <| ga (e_leq true (a := σ 83) (b := σ 80) rfl rfl (by simpa using h2)) <| ga (e_eql true (a := σ 84) (b := σ 84) rfl rfl (by simp)) gn
theorem tw_1 {σ : Nat → Int} {gt gw : TypeId} {val : Nat → Value} {gf : Nat → Option Obj} {A : Nat → List Int} {at_ : Nat → Nat} (h : Tw σ val gf 1 A at_) : @SFactOK (SX σ gt gw val gf [] [] gn gn) Tryd.prog (@GT (SX σ gt gw val gf [] [] gn gn)) tW := by
  have hend : @RestOK (SX σ gt gw val gf [] [] gn gn) Tryd.prog (@GT (SX σ gt gw val gf [] [] gn gn)) 9 tW (e4 1) := by
    have ok := tabW_ok h.le1 h.le2
    refine RestOK_same (S' := (SX σ gt gw val gf [] [] gn gn)) (T := SX σ gt gw val gf tabW [] ok gn) ⟨fun _ => rfl, fun _ => rfl, rfl, rfl, rfl⟩ ?_
    obtain ⟨f1, f2, f3, f4, f5⟩ := @end_facts (SX σ gt gw val gf tabW [] ok gn) 1 A at_ h rfl rfl rfl rfl
    letI : Sig := SX σ gt gw val gf tabW [] ok gn
    exact rest_ok mixed (kk (ga f1 (ga seven_fact gn)) (ga f2 (ga f3 (ga f4 (ga f5 gn))))) (w9_1 σ gt gw val gf [] ok gn) rfl
  have la : ∀ x, x < 1 → _ := fun x hx => ra_all (S' := (SX σ gt gw val gf [] [] gn gn)) (x := x) h hx
  have lb : ∀ x, x < 1 → _ := fun x hx => rb_all (S' := (SX σ gt gw val gf [] [] gn gn)) (x := x) h hx
  have h0 := @smF_ok (SX σ gt gw val gf [] [] gn gn) 0 4 (I 0) _ (by decide) rfl h.of0
  have h8 := @smF_ok (SX σ gt gw val gf [] [] gn gn) 1 2 (S 70) _ (by decide) rfl h.of1
  letI : Sig := (SX σ gt gw val gf [] [] gn gn)
  refine sfact_cut mixed (kk (ga h0 gn) gn) (k := 4000) (n := 2) (l := lA 1) (by rw [← litX_nor]; exact w0_1 σ gt gw val gf [] [] gn gn) ?_
  refine rest_loop (S' := (SX σ gt gw val gf [] [] gn gn)) (i := 0) (r := r1) (x := x1) (l0 := l1 1 0 []) (l' := e1 1) (fun fn c hc => (shape fn c hc).1) rfl rfl (pieceC (l := []) (m := []) gn gn gn rfl rfl (w1_1 σ gt gw val gf [] [] gn gn)) (loop_go (n := 1) (fun x => l1 1 x (aL x)) (fun j hj => la j hj) (pieceC (l := []) (m := []) gn gn gn rfl rfl (w3_1 σ gt gw val gf [] [] gn gn))) ?_
  refine mid_ok mixed (kk (l := []) (s := []) gn gn) (l2 := e2 1) (by rw [← litX_nor]; exact w4_1 σ gt gw val gf [] [] gn gn) rfl ?_
  refine rest_loop (S' := (SX σ gt gw val gf [] [] gn gn)) (i := 2) (r := r2) (x := x2) (l0 := l2 1 0 []) (l' := e3 1) (fun fn c hc => (shape fn c hc).2) rfl rfl (pieceC (l := []) (m := []) gn gn gn rfl rfl (w5_1 σ gt gw val gf [] [] gn gn)) (loop_go (n := 1) (fun x => l2 1 x (fL x)) (fun j hj => lb j hj) (pieceC (l := []) (m := []) gn gn gn rfl rfl (w7_1 σ gt gw val gf [] [] gn gn))) ?_
  exact mid_ok mixed (kk (ga h8 gn) gn) (l2 := e4 1) (by rw [← litX_nor]; exact w8_1 σ gt gw val gf [] [] gn gn) rfl hend
theorem tw_2 {σ : Nat → Int} {gt gw : TypeId} {val : Nat → Value} {gf : Nat → Option Obj} {A : Nat → List Int} {at_ : Nat → Nat} (h : Tw σ val gf 2 A at_) : @SFactOK (SX σ gt gw val gf [] [] gn gn) Tryd.prog (@GT (SX σ gt gw val gf [] [] gn gn)) tW := by
  have hend : @RestOK (SX σ gt gw val gf [] [] gn gn) Tryd.prog (@GT (SX σ gt gw val gf [] [] gn gn)) 9 tW (e4 2) := by
    have ok := tabW_ok h.le1 h.le2
    refine RestOK_same (S' := (SX σ gt gw val gf [] [] gn gn)) (T := SX σ gt gw val gf tabW [] ok gn) ⟨fun _ => rfl, fun _ => rfl, rfl, rfl, rfl⟩ ?_
    obtain ⟨f1, f2, f3, f4, f5⟩ := @end_facts (SX σ gt gw val gf tabW [] ok gn) 2 A at_ h rfl rfl rfl rfl
    letI : Sig := SX σ gt gw val gf tabW [] ok gn
    exact rest_ok mixed (kk (ga f1 (ga seven_fact gn)) (ga f2 (ga f3 (ga f4 (ga f5 gn))))) (w9_2 σ gt gw val gf [] ok gn) rfl
  have la : ∀ x, x < 2 → _ := fun x hx => ra_all (S' := (SX σ gt gw val gf [] [] gn gn)) (x := x) h hx
  have lb : ∀ x, x < 2 → _ := fun x hx => rb_all (S' := (SX σ gt gw val gf [] [] gn gn)) (x := x) h hx
  have h0 := @smF_ok (SX σ gt gw val gf [] [] gn gn) 0 4 (I 1) _ (by decide) rfl h.of0
  have h8 := @smF_ok (SX σ gt gw val gf [] [] gn gn) 1 2 (S 70) _ (by decide) rfl h.of1
  letI : Sig := (SX σ gt gw val gf [] [] gn gn)
  refine sfact_cut mixed (kk (ga h0 gn) gn) (k := 4000) (n := 2) (l := lA 2) (by rw [← litX_nor]; exact w0_2 σ gt gw val gf [] [] gn gn) ?_
  refine rest_loop (S' := (SX σ gt gw val gf [] [] gn gn)) (i := 0) (r := r1) (x := x1) (l0 := l1 2 0 []) (l' := e1 2) (fun fn c hc => (shape fn c hc).1) rfl rfl (pieceC (l := []) (m := []) gn gn gn rfl rfl (w1_2 σ gt gw val gf [] [] gn gn)) (loop_go (n := 2) (fun x => l1 2 x (aL x)) (fun j hj => la j hj) (pieceC (l := []) (m := []) gn gn gn rfl rfl (w3_2 σ gt gw val gf [] [] gn gn))) ?_
  refine mid_ok mixed (kk (l := []) (s := []) gn gn) (l2 := e2 2) (by rw [← litX_nor]; exact w4_2 σ gt gw val gf [] [] gn gn) rfl ?_
  refine rest_loop (S' := (SX σ gt gw val gf [] [] gn gn)) (i := 2) (r := r2) (x := x2) (l0 := l2 2 0 []) (l' := e3 2) (fun fn c hc => (shape fn c hc).2) rfl rfl (pieceC (l := []) (m := []) gn gn gn rfl rfl (w5_2 σ gt gw val gf [] [] gn gn)) (loop_go (n := 2) (fun x => l2 2 x (fL x)) (fun j hj => lb j hj) (pieceC (l := []) (m := []) gn gn gn rfl rfl (w7_2 σ gt gw val gf [] [] gn gn))) ?_
  exact mid_ok mixed (kk (ga h8 gn) gn) (l2 := e4 2) (by rw [← litX_nor]; exact w8_2 σ gt gw val gf [] [] gn gn) rfl hend
theorem tw_3 {σ : Nat → Int} {gt gw : TypeId} {val : Nat → Value} {gf : Nat → Option Obj} {A : Nat → List Int} {at_ : Nat → Nat} (h : Tw σ val gf 3 A at_) : @SFactOK (SX σ gt gw val gf [] [] gn gn) Tryd.prog (@GT (SX σ gt gw val gf [] [] gn gn)) tW := by
  have hend : @RestOK (SX σ gt gw val gf [] [] gn gn) Tryd.prog (@GT (SX σ gt gw val gf [] [] gn gn)) 9 tW (e4 3) := by
    have ok := tabW_ok h.le1 h.le2
    refine RestOK_same (S' := (SX σ gt gw val gf [] [] gn gn)) (T := SX σ gt gw val gf tabW [] ok gn) ⟨fun _ => rfl, fun _ => rfl, rfl, rfl, rfl⟩ ?_
    obtain ⟨f1, f2, f3, f4, f5⟩ := @end_facts (SX σ gt gw val gf tabW [] ok gn) 3 A at_ h rfl rfl rfl rfl
    letI : Sig := SX σ gt gw val gf tabW [] ok gn
    exact rest_ok mixed (kk (ga f1 (ga seven_fact gn)) (ga f2 (ga f3 (ga f4 (ga f5 gn))))) (w9_3 σ gt gw val gf [] ok gn) rfl
  have la : ∀ x, x < 3 → _ := fun x hx => ra_all (S' := (SX σ gt gw val gf [] [] gn gn)) (x := x) h hx
  have lb : ∀ x, x < 3 → _ := fun x hx => rb_all (S' := (SX σ gt gw val gf [] [] gn gn)) (x := x) h hx
  have h0 := @smF_ok (SX σ gt gw val gf [] [] gn gn) 0 4 (I 2) _ (by decide) rfl h.of0
  have h8 := @smF_ok (SX σ gt gw val gf [] [] gn gn) 1 2 (S 70) _ (by decide) rfl h.of1
  letI : Sig := (SX σ gt gw val gf [] [] gn gn)
  refine sfact_cut mixed (kk (ga h0 gn) gn) (k := 4000) (n := 2) (l := lA 3) (by rw [← litX_nor]; exact w0_3 σ gt gw val gf [] [] gn gn) ?_
  refine rest_loop (S' := (SX σ gt gw val gf [] [] gn gn)) (i := 0) (r := r1) (x := x1) (l0 := l1 3 0 []) (l' := e1 3) (fun fn c hc => (shape fn c hc).1) rfl rfl (pieceC (l := []) (m := []) gn gn gn rfl rfl (w1_3 σ gt gw val gf [] [] gn gn)) (loop_go (n := 3) (fun x => l1 3 x (aL x)) (fun j hj => la j hj) (pieceC (l := []) (m := []) gn gn gn rfl rfl (w3_3 σ gt gw val gf [] [] gn gn))) ?_
  refine mid_ok mixed (kk (l := []) (s := []) gn gn) (l2 := e2 3) (by rw [← litX_nor]; exact w4_3 σ gt gw val gf [] [] gn gn) rfl ?_
  refine rest_loop (S' := (SX σ gt gw val gf [] [] gn gn)) (i := 2) (r := r2) (x := x2) (l0 := l2 3 0 []) (l' := e3 3) (fun fn c hc => (shape fn c hc).2) rfl rfl (pieceC (l := []) (m := []) gn gn gn rfl rfl (w5_3 σ gt gw val gf [] [] gn gn)) (loop_go (n := 3) (fun x => l2 3 x (fL x)) (fun j hj => lb j hj) (pieceC (l := []) (m := []) gn gn gn rfl rfl (w7_3 σ gt gw val gf [] [] gn gn))) ?_
  exact mid_ok mixed (kk (ga h8 gn) gn) (l2 := e4 3) (by rw [← litX_nor]; exact w8_3 σ gt gw val gf [] [] gn gn) rfl hend
theorem tw_4 {σ : Nat → Int} {gt gw : TypeId} {val : Nat → Value} {gf : Nat → Option Obj} {A : Nat → List Int} {at_ : Nat → Nat} (h : Tw σ val gf 4 A at_) : @SFactOK (SX σ gt gw val gf [] [] gn gn) Tryd.prog (@GT (SX σ gt gw val gf [] [] gn gn)) tW := by
  have hend : @RestOK (SX σ gt gw val gf [] [] gn gn) Tryd.prog (@GT (SX σ gt gw val gf [] [] gn gn)) 9 tW (e4 4) := by
    have ok := tabW_ok h.le1 h.le2
    refine RestOK_same (S' := (SX σ gt gw val gf [] [] gn gn)) (T := SX σ gt gw val gf tabW [] ok gn) ⟨fun _ => rfl, fun _ => rfl, rfl, rfl, rfl⟩ ?_
    obtain ⟨f1, f2, f3, f4, f5⟩ := @end_facts (SX σ gt gw val gf tabW [] ok gn) 4 A at_ h rfl rfl rfl rfl
    letI : Sig := SX σ gt gw val gf tabW [] ok gn
    exact rest_ok mixed (kk (ga f1 (ga seven_fact gn)) (ga f2 (ga f3 (ga f4 (ga f5 gn))))) (w9_4 σ gt gw val gf [] ok gn) rfl
  have la : ∀ x, x < 4 → _ := fun x hx => ra_all (S' := (SX σ gt gw val gf [] [] gn gn)) (x := x) h hx
  have lb : ∀ x, x < 4 → _ := fun x hx => rb_all (S' := (SX σ gt gw val gf [] [] gn gn)) (x := x) h hx
  have h0 := @smF_ok (SX σ gt gw val gf [] [] gn gn) 0 4 (I 3) _ (by decide) rfl h.of0
  have h8 := @smF_ok (SX σ gt gw val gf [] [] gn gn) 1 2 (S 70) _ (by decide) rfl h.of1
  letI : Sig := (SX σ gt gw val gf [] [] gn gn)
  refine sfact_cut mixed (kk (ga h0 gn) gn) (k := 4000) (n := 2) (l := lA 4) (by rw [← litX_nor]; exact w0_4 σ gt gw val gf [] [] gn gn) ?_
  refine rest_loop (S' := (SX σ gt gw val gf [] [] gn gn)) (i := 0) (r := r1) (x := x1) (l0 := l1 4 0 []) (l' := e1 4) (fun fn c hc => (shape fn c hc).1) rfl rfl (pieceC (l := []) (m := []) gn gn gn rfl rfl (w1_4 σ gt gw val gf [] [] gn gn)) (loop_go (n := 4) (fun x => l1 4 x (aL x)) (fun j hj => la j hj) (pieceC (l := []) (m := []) gn gn gn rfl rfl (w3_4 σ gt gw val gf [] [] gn gn))) ?_
  refine mid_ok mixed (kk (l := []) (s := []) gn gn) (l2 := e2 4) (by rw [← litX_nor]; exact w4_4 σ gt gw val gf [] [] gn gn) rfl ?_
  refine rest_loop (S' := (SX σ gt gw val gf [] [] gn gn)) (i := 2) (r := r2) (x := x2) (l0 := l2 4 0 []) (l' := e3 4) (fun fn c hc => (shape fn c hc).2) rfl rfl (pieceC (l := []) (m := []) gn gn gn rfl rfl (w5_4 σ gt gw val gf [] [] gn gn)) (loop_go (n := 4) (fun x => l2 4 x (fL x)) (fun j hj => lb j hj) (pieceC (l := []) (m := []) gn gn gn rfl rfl (w7_4 σ gt gw val gf [] [] gn gn))) ?_
  exact mid_ok mixed (kk (ga h8 gn) gn) (l2 := e4 4) (by rw [← litX_nor]; exact w8_4 σ gt gw val gf [] [] gn gn) rfl hend
theorem tw_5 {σ : Nat → Int} {gt gw : TypeId} {val : Nat → Value} {gf : Nat → Option Obj} {A : Nat → List Int} {at_ : Nat → Nat} (h : Tw σ val gf 5 A at_) : @SFactOK (SX σ gt gw val gf [] [] gn gn) Tryd.prog (@GT (SX σ gt gw val gf [] [] gn gn)) tW := by
  have hend : @RestOK (SX σ gt gw val gf [] [] gn gn) Tryd.prog (@GT (SX σ gt gw val gf [] [] gn gn)) 9 tW (e4 5) := by
    have ok := tabW_ok h.le1 h.le2
    refine RestOK_same (S' := (SX σ gt gw val gf [] [] gn gn)) (T := SX σ gt gw val gf tabW [] ok gn) ⟨fun _ => rfl, fun _ => rfl, rfl, rfl, rfl⟩ ?_
    obtain ⟨f1, f2, f3, f4, f5⟩ := @end_facts (SX σ gt gw val gf tabW [] ok gn) 5 A at_ h rfl rfl rfl rfl
    letI : Sig := SX σ gt gw val gf tabW [] ok gn
    exact rest_ok mixed (kk (ga f1 (ga seven_fact gn)) (ga f2 (ga f3 (ga f4 (ga f5 gn))))) (w9_5 σ gt gw val gf [] ok gn) rfl
  have la : ∀ x, x < 5 → _ := fun x hx => ra_all (S' := (SX σ gt gw val gf [] [] gn gn)) (x := x) h hx
  have lb : ∀ x, x < 5 → _ := fun x hx => rb_all (S' := (SX σ gt gw val gf [] [] gn gn)) (x := x) h hx
  have h0 := @smF_ok (SX σ gt gw val gf [] [] gn gn) 0 4 (I 4) _ (by decide) rfl h.of0
  have h8 := @smF_ok (SX σ gt gw val gf [] [] gn gn) 1 2 (S 70) _ (by decide) rfl h.of1
  letI : Sig := (SX σ gt gw val gf [] [] gn gn)
  refine sfact_cut mixed (kk (ga h0 gn) gn) (k := 4000) (n := 2) (l := lA 5) (by rw [← litX_nor]; exact w0_5 σ gt gw val gf [] [] gn gn) ?_
  refine rest_loop (S' := (SX σ gt gw val gf [] [] gn gn)) (i := 0) (r := r1) (x := x1) (l0 := l1 5 0 []) (l' := e1 5) (fun fn c hc => (shape fn c hc).1) rfl rfl (pieceC (l := []) (m := []) gn gn gn rfl rfl (w1_5 σ gt gw val gf [] [] gn gn)) (loop_go (n := 5) (fun x => l1 5 x (aL x)) (fun j hj => la j hj) (pieceC (l := []) (m := []) gn gn gn rfl rfl (w3_5 σ gt gw val gf [] [] gn gn))) ?_
  refine mid_ok mixed (kk (l := []) (s := []) gn gn) (l2 := e2 5) (by rw [← litX_nor]; exact w4_5 σ gt gw val gf [] [] gn gn) rfl ?_
  refine rest_loop (S' := (SX σ gt gw val gf [] [] gn gn)) (i := 2) (r := r2) (x := x2) (l0 := l2 5 0 []) (l' := e3 5) (fun fn c hc => (shape fn c hc).2) rfl rfl (pieceC (l := []) (m := []) gn gn gn rfl rfl (w5_5 σ gt gw val gf [] [] gn gn)) (loop_go (n := 5) (fun x => l2 5 x (fL x)) (fun j hj => lb j hj) (pieceC (l := []) (m := []) gn gn gn rfl rfl (w7_5 σ gt gw val gf [] [] gn gn))) ?_
  exact mid_ok mixed (kk (ga h8 gn) gn) (l2 := e4 5) (by rw [← litX_nor]; exact w8_5 σ gt gw val gf [] [] gn gn) rfl hend
theorem towers_sf {σ : Nat → Int} {gt gw : TypeId} {val : Nat → Value} {gf : Nat → Option Obj} {n : Nat} {A : Nat → List Int} {at_ : Nat → Nat} (h : Tw σ val gf n A at_) : @SFactOK (SX σ gt gw val gf [] [] gn gn) Tryd.prog (@GT (SX σ gt gw val gf [] [] gn gn)) tW := by
  have h1 := h.h1
  have hn := h.hn
  match n, h1, hn, h with
  | 1, _, _, h => exact tw_1 h
  | 2, _, _, h => exact tw_2 h
  | 3, _, _, h => exact tw_3 h
  | 4, _, _, h => exact tw_4 h
  | 5, _, _, h => exact tw_5 h
  | k + 6, _, hn, _ => exact absurd hn (by omega)
end Go.Proofs.YtbadfjogakhhbaaDoor.Re
