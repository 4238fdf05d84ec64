/- PancakeSmall: the components and the distance of any short row: a part of the proof (4 of 6): contracts of the functions, and plain lemmas. -/
import Derived.Test.YtepjhdblmghckaaUr
import Derived.Test.YtepjhdblmghckaaEr1
import Derived.Test.YtepjhdblmghckaaEr2
import Derived.Test.YtepjhdblmghckaaEr3
import Derived.Shelf.SlicesE.Delete
set_option linter.unusedVariables false
set_option linter.unusedSimpArgs false

namespace Go.Proofs.Ytepjhdblmghckaa.G
open Go.Proofs.Ytepjhdblmghckaa.Q Go.Proofs.Ytepjhdblmghckaa.K Go.Proofs.Ytepjhdblmghckaa.It Go.Proofs.Ytepjhdblmghckaa.Bf
open Go.RowKit Go.Shelf Go.Proofs.YtepjhdblmghckaaW.PrintWords Go.Proofs.YtepjhdblmghckaaW.PrintLast Go.Proofs.YtepjhdblmghckaaW.PrintMore
set_option linter.unusedVariables false
set_option linter.unusedSimpArgs false
attribute [local go_sem] Oper.semAt_some
structure FinS (n : Nat) (sg an : Bool) (to_ : List Int) (U : Option (List Int)) (M : Km) (L : List (List Int)) : Prop where
 by_ : ByOk n sg an to_ M
 exact : ∀ x e, Sof M x = some e → Exact (nextK n sg an) to_ x e
 found : ∀ x e, Sof M x = some e → least (nextK n sg an) to_ x (15 ^ n + 1) = e
 tr : ∃ q, bfs n sg an U (15 ^ n) (ini to_) = (M, q, L)
 valid : ∀ x, (M x).isSome = true → Vs n x
 nodup : L.Nodup
 all : ∀ x, x ∈ L ↔ (M x).isSome = true
 done : (∀ x, M x = none → ∀ j, x ∉ ball (nextK n sg an) to_ j) ∨ ∃ u, U = some u ∧ (M u).isSome = true
def Fin (n : Nat) (sg an : Bool) (to_ : List Int) (U : Option (List Int)) (W0 W : World) : Prop :=
 ∃ M k L, FinS n sg an to_ U M L ∧ Kn W (W0.heap.size + 2) k n M ∧ Blk W (W0.heap.size + 3) #[.map (some (W0.heap.size + 2))] 116 ∧ Below W0.heap.size W0 W
theorem sof_some {M : Km} {x : List Int} : (Sof M x).isSome = (M x).isSome := by unfold Sof; cases M x <;> rfl
theorem Hd.fin {n : Nat} {sg an : Bool} {to_ : List Int} {U : Option (List Int)} {W0 wr : World} {k : Nat} {M : Km} {q L : List (List Int)} {v : Value} (h : Hd n sg an to_ U W0 wr k M q L v) (he : q = [] ∨ ∃ s r, q = s :: r ∧ U = some s) : FinS n sg an to_ U M L := by
 have htr : ∃ q, bfs n sg an U (15 ^ n) (ini to_) = (M, q, L) := by
  obtain ⟨j, h1, h2⟩ := h.tr
  have h3 := rd_count h.rd
  refine ⟨q, ?_⟩
  have h4 := h2 (15 ^ n - j)
  rw [show 15 ^ n - j + j = 15 ^ n by omega] at h4
  rw [h4]
  apply bfs_stop
  rcases he with rfl | ⟨s, r, rfl, hU⟩
  ·rfl
  ·simp [stops, hU]
 obtain ⟨A, B, d, hq, hs⟩ := h.rd.st
 refine ⟨h.by_, hs.exact, fun x e hx => h.rd.found hx (rd_count h.rd), htr, fun x hx => h.rd.v x (by rw [sof_some]; exact hx), h.rd.nodup, fun x => ⟨fun hx => by rw [← sof_some]; exact h.rd.seen x hx, fun hx => h.full x (by rw [sof_some]; exact hx)⟩, ?_⟩
 rcases he with rfl | ⟨s, r, rfl, hU⟩
 ·left
  have : A = [] ∧ B = [] := by simpa using hq.symm
  obtain ⟨rfl, rfl⟩ := this
  intro x hx j
  exact hs.never (Sof_none.2 hx) j
 ·right
  refine ⟨s, hU, ?_⟩
  obtain ⟨d, h1, _⟩ := h.rd.pop.some_
  rw [← sof_some, h1]; rfl
set_option maxRecDepth 100000 in
set_option maxHeartbeats 8000000 in
theorem search_loop (n : Nat) (sg an : Bool) (hn : n ≤ 7) (to_ : List Int) (U : Option (List Int)) (uv : Value) (W0 W : World) (hU : Un n U uv W0) (hH : ∃ k M q L v, Hd n sg an to_ U W0 W k M q L v) (x0 x1 x4 x5 x6 x9 x10 x11 x12 x13 x14 x15 x16 x17 x18 x19 x20 x21 x22 x23 x24 x25 x26 x27 x28 x29 x30 x31 x32 x33 x34 x35 x36 x37 x38 x39 x40 x41 x42 x43 x44 x45 x46 x47 x48 x49 x50 x51 x52 x53 x54 x55 x56 x57 x58 x59 x60 x61 x62 x63 : Value) (Q : Exit → Act → World → Prop)
  (hend : ∀ (W' : World) (rs : List Nat) (x0 x1 x4 x5 x6 x9 x10 x11 x12 x13 x14 x15 x16 x17 x18 x19 x20 x21 x22 x23 x24 x25 x26 x27 x28 x29 x30 x31 x32 x33 x34 x35 x36 x37 x38 x39 x40 x41 x42 x43 x44 x45 x46 x47 x48 x49 x50 x51 x52 x53 x54 x55 x56 x57 x58 x59 x60 x61 x62 x63 : Value), Mk W0.heap.size rs W' → Fin n sg an to_ U W0 W' → Q .normal { tmps := #[x0, x1, uv, Value.pointer (some { block := W0.heap.size, off := 0 }), x4, x5, x6, Value.pointer (some { block := W0.heap.size + 3, off := 0 }), Value.pointer (some { block := W0.heap.size + 5, off := 0 }), x9, x10, x11, x12, x13, x14, x15, x16, x17, x18, x19, x20, x21, x22, x23, x24, x25, x26, x27, x28, x29, x30, x31, x32, x33, x34, x35, x36, x37, x38, x39, x40, x41, x42, x43, x44, x45, x46, x47, x48, x49, x50, x51, x52, x53, x54, x55, x56, x57, x58, x59, x60, x61, x62, x63], defers := rs.map mark } W') :
  (Code.block 0 (.loop roundC)).wpIn Fence.wide 8 Try.prog Q { tmps := #[x0, x1, uv, Value.pointer (some { block := W0.heap.size, off := 0 }), x4, x5, x6, Value.pointer (some { block := W0.heap.size + 3, off := 0 }), Value.pointer (some { block := W0.heap.size + 5, off := 0 }), x9, x10, x11, x12, x13, x14, x15, x16, x17, x18, x19, x20, x21, x22, x23, x24, x25, x26, x27, x28, x29, x30, x31, x32, x33, x34, x35, x36, x37, x38, x39, x40, x41, x42, x43, x44, x45, x46, x47, x48, x49, x50, x51, x52, x53, x54, x55, x56, x57, x58, x59, x60, x61, x62, x63], defers := [] } W := by
 refine wpIn_block ?_
 refine wpIn_loop (fun a w => ∃ (rs : List Nat) (x0 x1 x4 x5 x6 x9 x10 x11 x12 x13 x14 x15 x16 x17 x18 x19 x20 x21 x22 x23 x24 x25 x26 x27 x28 x29 x30 x31 x32 x33 x34 x35 x36 x37 x38 x39 x40 x41 x42 x43 x44 x45 x46 x47 x48 x49 x50 x51 x52 x53 x54 x55 x56 x57 x58 x59 x60 x61 x62 x63 : Value), a = { tmps := #[x0, x1, uv, Value.pointer (some { block := W0.heap.size, off := 0 }), x4, x5, x6, Value.pointer (some { block := W0.heap.size + 3, off := 0 }), Value.pointer (some { block := W0.heap.size + 5, off := 0 }), x9, x10, x11, x12, x13, x14, x15, x16, x17, x18, x19, x20, x21, x22, x23, x24, x25, x26, x27, x28, x29, x30, x31, x32, x33, x34, x35, x36, x37, x38, x39, x40, x41, x42, x43, x44, x45, x46, x47, x48, x49, x50, x51, x52, x53, x54, x55, x56, x57, x58, x59, x60, x61, x62, x63], defers := rs.map mark } ∧ (∃ k M q L v, Hd n sg an to_ U W0 w k M q L v) ∧ Mk W0.heap.size rs w)
  (fun _ w => lst (fun k => ∃ M q L v, Hd n sg an to_ U W0 w k M q L v)) ⟨[], _, _, _, _, _, _, _, _, _, _, _, _, _, _, _, _, _, _, _, _, _, _, _, _, _, _, _, _, _, _, _, _, _, _, _, _, _, _, _, _, _, _, _, _, _, _, _, _, _, _, _, _, _, _, _, _, _, _, _, _, rfl, hH, ⟨List.nodup_nil, fun r hr => by cases hr⟩⟩ ?_
 rintro a w ⟨rs, x0, x1, x4, x5, x6, x9, x10, x11, x12, x13, x14, x15, x16, x17, x18, x19, x20, x21, x22, x23, x24, x25, x26, x27, x28, x29, x30, x31, x32, x33, x34, x35, x36, x37, x38, x39, x40, x41, x42, x43, x44, x45, x46, x47, x48, x49, x50, x51, x52, x53, x54, x55, x56, x57, x58, x59, x60, x61, x62, x63, rfl, ⟨k0, M0, q0, L0, v0, h0⟩, hM⟩
 obtain ⟨k, hk⟩ : ∃ k, k = lst (fun k => ∃ M q L v, Hd n sg an to_ U W0 w k M q L v) := ⟨_, rfl⟩
 have hsp := lst_spec (R := fun k => ∃ M q L v, Hd n sg an to_ U W0 w k M q L v) ⟨k0, M0, q0, L0, v0, h0⟩
 rw [← hk] at hsp
 obtain ⟨M, q, L, v, h⟩ := hsp
 clear h0 M0 q0 L0 v0 k0
 have hkb : k ≤ 400000000 := by
  have h1 := h.k_
  have h2 := p15 hn
  have h3 := h.ql
  have h4 := rd_count h.rd
  omega
 rw [round_eq]
 refine wpIn_seq_k (fun K hK => ?_)
 refine search_test 8 n sg an to_ U uv W0 w k M q L v h (rs.map mark) _ _ _ _ _ _ _ _ _ _ _ _ _ _ _ _ _ _ _ _ _ _ _ _ _ _ _ _ _ _ _ _ _ _ _ _ _ _ _ _ _ _ _ _ _ _ _ _ _ _ _ _ _ _ _ _ _ _ _ _ K _ ?_ ?_
 ·intro x0 x1 x4 x5 x6 x9 x10 x11 x12 x13 x14 x15 x16 x17 x18 x19 x20 x21 x22 x23 x24 x25 x26 x27 x28 x29 x30 x31 x32 x33 x34 x35 x36 x37 x38 x39 x40 x41 x42 x43 x44 x45 x46 x47 x48 x49 x50 x51 x52 x53 x54 x55 x56 x57 x58 x59 x60 x61 x62 x63 hq
  exact hend w rs _ _ _ _ _ _ _ _ _ _ _ _ _ _ _ _ _ _ _ _ _ _ _ _ _ _ _ _ _ _ _ _ _ _ _ _ _ _ _ _ _ _ _ _ _ _ _ _ _ _ _ _ _ _ _ _ _ _ _ _ hM ⟨M, L.length, L, h.fin (.inl hq), h.map_, h.box7, h.below⟩
 ·intro x0 x1 x4 x5 x6 x9 x10 x11 x12 x13 x14 x15 x16 x17 x18 x19 x20 x21 x22 x23 x24 x25 x26 x27 x28 x29 x30 x31 x32 x33 x34 x35 x36 x37 x38 x39 x40 x41 x42 x43 x44 x45 x46 x47 x48 x49 x50 x51 x52 x53 x54 x55 x56 x57 x58 x59 x60 x61 x62 x63 hq
  refine hK _ _ ?_
  clear hK
  cases q with
  | nil => exact absurd rfl hq
  | cons s q =>
   refine wpIn_block ?_
   refine search_take 8 (by omega) _ n sg an hn to_ U uv W0 w hU k M s q L v h (rs.map mark) _ _ _ _ _ _ _ _ _ _ _ _ _ _ _ _ _ _ _ _ _ _ _ _ _ _ _ _ _ _ _ _ _ _ _ _ _ _ _ _ _ _ _ _ _ _ _ _ _ _ _ _ _ _ _ _ _ _ _ _ _ ?_ ?_
   ·intro W6 x0 x1 x4 x5 x6 x9 x10 x11 x12 x13 x14 x15 x16 x17 x18 x19 x20 x21 x22 x23 x24 x25 x26 x27 x28 x29 x30 x31 x32 x33 x34 x35 x36 x37 x38 x39 x40 x41 x42 x43 x44 x45 x46 x47 x48 x49 x50 x51 x52 x53 x54 x55 x56 x57 x58 x59 x60 x61 x62 x63 hs hrx hkn hb7 hbel
    exact hend W6 rs _ _ _ _ _ _ _ _ _ _ _ _ _ _ _ _ _ _ _ _ _ _ _ _ _ _ _ _ _ _ _ _ _ _ _ _ _ _ _ _ _ _ _ _ _ _ _ _ _ _ _ _ _ _ _ _ _ _ _ _ (hM.rx hrx) ⟨M, L.length, L, h.fin (.inr ⟨s, q, rfl, hs⟩), hkn, hb7, hbel⟩
   ·intro W6 b9 v1 x0 x1 x4 x5 x6 x10 x11 x12 x13 x14 x15 x16 x17 x18 x19 x20 x21 x22 x23 x24 x25 x26 x27 x28 x29 x30 x31 x32 x33 x34 x35 x36 x37 x38 x40 x41 x42 x43 x44 x45 x46 x47 x48 x49 x50 x51 x52 x53 x54 x55 x56 x57 x58 x59 x60 x61 x62 x63 hrx hBd hb1 hb2
    refine search_range 4 n sg an hn to_ U W0 W6 b9 k hkb s M q L v1 hBd hb1 hb2 rs (hM.rx hrx) _ _ _ _ _ _ _ _ _ _ _ _ _ _ _ _ _ _ _ _ _ _ _ _ _ _ _ _ _ _ _ _ _ _ _ _ _ _ _ _ _ _ _ _ _ _ _ _ _ _ _ _ _ _ _ _ _ _ _ _ ?_
    rintro W' D' hm ⟨k', M', q', L', v', hlt, hH'⟩
    refine ⟨⟨D' :: rs, _, _, _, _, _, _, _, _, _, _, _, _, _, _, _, _, _, _, _, _, _, _, _, _, _, _, _, _, _, _, _, _, _, _, _, _, _, _, _, _, _, _, _, _, _, _, _, _, _, _, _, _, _, _, _, _, _, _, _, _, rfl, ⟨k', M', q', L', v', hH'⟩, hm⟩, ?_⟩
    have h1 := lst_le (R := fun k => ∃ M q L v, Hd n sg an to_ U W0 W' k M q L v) (k := k') ⟨M', q', L', v', hH'⟩
    rw [← hk]
    exact Nat.lt_of_le_of_lt h1 hlt
end Go.Proofs.Ytepjhdblmghckaa.G


namespace Go.Proofs.Ytepjhdblmghckaa.G
open Go.Proofs.Ytepjhdblmghckaa.Q Go.Proofs.Ytepjhdblmghckaa.K Go.Proofs.Ytepjhdblmghckaa.It Go.Proofs.Ytepjhdblmghckaa.Bf
open Go.RowKit Go.Shelf Go.Proofs.YtepjhdblmghckaaW.PrintWords Go.Proofs.YtepjhdblmghckaaW.PrintLast Go.Proofs.YtepjhdblmghckaaW.PrintMore
set_option linter.unusedVariables false
set_option linter.unusedSimpArgs false
attribute [local go_sem] Oper.semAt_some
def unscope : Code → Code
 | .scope c => c
 | c => c
noncomputable def bodyC : Code := unscope (sndC (codeOf Try.f84))
theorem all_eq : codeOf Try.f84 = .seq (fstC (codeOf Try.f84)) (.scope (.seq (fstC bodyC) (.seq (fstC (dropC 1 bodyC)) (.seq (.label 0) (.seq (.block 0 (.loop roundC)) (dropC 4 bodyC)))))) := by kernel_rfl
theorem Kn.put_size {W W' : World} {b k n : Nat} {M : Km} (h : Kn W b k n M) {l : List Int} (hl : Vs n l) (e : St3) (hk : k < 1000000000)
  (hrun : (Instr.mapUpdate 116 (.map (some b)) (.agg (stk (nth l))) (stepE e)).run Try.prog W = .ok () W') : W'.heap.size = W.heap.size := by
 obtain ⟨D, ⟨es, clock, hb, F, hs, rfl⟩, h2, h3, h4⟩ := h
 obtain ⟨es', clock', hrun2, F', hput, _⟩ := Maps.fit_store (R' := stepR) law92 u116 hb F (Nat.lt_of_le_of_lt hs (show k < maxLen by unfold maxLen; omega)) (fun _ _ _ _ hz => hz) (key_KL hl) (stepR_E e)
 have := hrun.symm.trans hrun2
 rw [(Result.ok.inj this).2]
 simp [Go.ChangeMaps.setBlock]
theorem leaves_marks2 {R : Ending → World → Prop} {f : Func} {tmps : Array Value} (B N : Nat) : ∀ (rs : List Nat) (W : World), Mk B rs W → B ≤ W.heap.size → (∀ W', Below B W W' → (∀ j : Nat, (∀ t : Option (List Deferred), W.heap[j]? ≠ some (Obj.deferred t)) → W'.heap[j]? = W.heap[j]?) → LeavesIn Fence.wide N Try.prog f tmps R [] .returning W') → LeavesInM Fence.wide N Try.prog f tmps R (rs.map mark) .returning W
 | [], W, _, _, h => h W (Below.refl _ _) (fun _ _ => rfl)
 | r :: rs, W, hM, hB, h => by
  obtain ⟨hnd, hall⟩ := hM
  obtain ⟨hr, hrs⟩ := List.nodup_cons.1 hnd
  have h1 := hall r (by simp)
  refine ⟨by simp, .inl ⟨r, _, rfl, run_takeDeferred h1.2, ?_⟩⟩
  have hbel : Below B W (W.putObj r (.deferred none)) := ⟨rfl, rfl, rfl, by simp, fun k hk => World.putObj_heap_other (by omega)⟩
  have hoth : ∀ j, (∀ t : Option (List Deferred), W.heap[j]? ≠ some (Obj.deferred t)) → (W.putObj r (.deferred none)).heap[j]? = W.heap[j]? := fun j hj => World.putObj_heap_other (fun e => by first | exact hj _ (e ▸ h1.2) | exact hj _ (e.symm ▸ h1.2))
  refine leaves_marks2 B N rs _ ⟨hrs, fun x hx => ?_⟩ (by simpa using hB) (fun W' hW' ho => h W' (hbel.trans hW') (fun j hj => (ho j (fun t => by rw [hoth j hj]; exact hj t)).trans (hoth j hj)))
  have h2 := hall x (List.mem_cons_of_mem _ hx)
  exact ⟨h2.1, (World.putObj_heap_other (fun e => hr (by first | (rw [← e]; exact hx) | (rw [e]; exact hx)))).trans h2.2⟩
set_option maxRecDepth 100000 in
set_option maxHeartbeats 4000000 in
theorem search_out (n : Nat) (sg an : Bool) (to_ : List Int) (U : Option (List Int)) (uv : Value) (W0 W : World) (rs : List Nat) (hM : Mk W0.heap.size rs W) (h : Fin n sg an to_ U W0 W) (x0 x1 x4 x5 x6 x9 x10 x11 x12 x13 x14 x15 x16 x17 x18 x19 x20 x21 x22 x23 x24 x25 x26 x27 x28 x29 x30 x31 x32 x33 x34 x35 x36 x37 x38 x39 x40 x41 x42 x43 x44 x45 x46 x47 x48 x49 x50 x51 x52 x53 x54 x55 x56 x57 x58 x59 x60 x61 x62 x63 : Value) (R : Ending → World → Prop)
  (hR : ∀ W', Fin n sg an to_ U W0 W' → R (.returned (.map (some (W0.heap.size + 2)))) W') :
  (dropC 4 bodyC).wpIn Fence.wide 8 Try.prog (bodyPostM Fence.wide 8 Try.prog Try.f84 R) { tmps := #[x0, x1, uv, Value.pointer (some { block := W0.heap.size, off := 0 }), x4, x5, x6, Value.pointer (some { block := W0.heap.size + 3, off := 0 }), Value.pointer (some { block := W0.heap.size + 5, off := 0 }), x9, x10, x11, x12, x13, x14, x15, x16, x17, x18, x19, x20, x21, x22, x23, x24, x25, x26, x27, x28, x29, x30, x31, x32, x33, x34, x35, x36, x37, x38, x39, x40, x41, x42, x43, x44, x45, x46, x47, x48, x49, x50, x51, x52, x53, x54, x55, x56, x57, x58, x59, x60, x61, x62, x63], defers := rs.map mark } W := by
 obtain ⟨c0, hc0⟩ : ∃ c0, dropC 4 bodyC = c0 := ⟨_, rfl⟩
 rw [hc0]
 simp only [bodyC, unscope, dropC, codeOf, Try.f84, sndC, fstC] at hc0
 subst hc0
 obtain ⟨M, k, L, hF, hk, h7, hb⟩ := h
 have hc7 := h7.cell 0 (v := .map (some (W0.heap.size + 2))) rfl
 have HM := Aside0.mk hM
 have HR := Aside0.mk hR
 have HB := Aside0.mk hb
 have HF := Aside0.mk hF
 have HKN := Aside0.mk hk
 have H7 := Aside0.mk h7
 clear hM hR hb hF hk h7
 gi_wp2
 have hlt := H7.out.lt
 refine leaves_marks2 W0.heap.size 8 rs W HM.out (by omega) (fun W' hW' ho => ?_)
 refine ⟨_, results_tmp rfl _ _ _, ?_⟩
 exact HR.out W' ⟨M, k, L, HF.out, HKN.out.mapsTo (ho _ (fun t e => by obtain ⟨D, ⟨es, clock, h1, _⟩, _⟩ := HKN.out; rw [h1] at e; cases e)), (ho _ (fun t e => by have e2 := H7.out.symm.trans e; cases e2)).trans H7.out, HB.out.trans hW'⟩
set_option maxRecDepth 100000 in
set_option maxHeartbeats 8000000 in
theorem search_calls (n : Nat) (sg an : Bool) (hn : n ≤ 7) (to_ : List Int) (hto : Vs n to_) (U : Option (List Int)) (uv : Value) (W0 : World) (hU : Un n U uv W0) :
  Calls Try.prog 84 #[.agg #[.int .i64 n, .bool sg, .bool an], .agg (stk (nth to_)), uv] W0 fun e w' => e = .returned (.map (some (W0.heap.size + 2))) ∧ Fin n sg an to_ U W0 w' := by
 refine (callsIn_wide (n := 8)).1 ?_
 refine callsIn_of_wp_marks Try.func84 rfl trivial ?_ rfl
 obtain ⟨tm, htm⟩ : ∃ tm, nth to_ = tm := ⟨_, rfl⟩
 simp only [Try.ntmps84, List.size_toArray, List.length_cons, List.length_nil, Nat.reduceAdd, Nat.reduceSub, Array.replicate_succ, Array.replicate_zero, List.push_toArray, List.append_toArray, List.nil_append, List.cons_append, stk]
 change (codeOf Try.f84).wpIn _ _ _ _ _ _
 rw [all_eq, htm]
 obtain ⟨Wa, hWa⟩ : ∃ Wa, (W0.alloc (.cells #[.int .i64 n, .bool sg, .bool an] 88)).alloc (.cells (stk tm) 92) = Wa := ⟨_, rfl⟩
 have hsa : Wa.heap.size = W0.heap.size + 2 := by rw [← hWa]; simp
 have hba : Below W0.heap.size W0 Wa := by
  rw [← hWa]; exact ((Below.refl _ _).alloc (Nat.le_refl _) _).alloc (by simp) _
 have h3 : Blk Wa W0.heap.size #[.int .i64 n, .bool sg, .bool an] 88 := by
  rw [← hWa]; exact (Blk.new _ _ _).alloc _
 have h4 : Blk Wa (W0.heap.size + 1) (stk tm) 92 := by
  rw [← hWa]
  have := Blk.new (W0.alloc (.cells #[.int .i64 n, .bool sg, .bool an] 88)) (stk tm) 92
  rw [World.size_alloc] at this
  exact this
 have hWa' := hWa
 unfold stk at hWa'
 obtain ⟨W3, hput, hS3, hg3⟩ := (Kn.made Wa n).put hn hto zeroS (by omega)
 have hsE := (Kn.made Wa n).put_size hto zeroS (by omega) hput
 rw [World.size_alloc, hsa] at hsE
 have HSE := Aside0.mk hsE
 clear hsE
 rw [htm, hsa] at hput
 rw [hsa] at hS3 hg3
 unfold stk at hput
 simp only [stepE, zeroS, Int.natCast_zero] at hput
 have h33 : Blk W3 W0.heap.size #[.int .i64 n, .bool sg, .bool an] 88 := (h3.alloc _).grown hg3 (by simp)
 have h43 : Blk W3 (W0.heap.size + 1) (stk tm) 92 := (h4.alloc _).grown hg3 (by simp)
 have hb3 : Below W0.heap.size W0 W3 := (hba.alloc (by omega) _).grown hg3 (by simp; omega) (fun k e => by cases e; omega)
 have hs3 := hg3.size
 rw [World.size_alloc, hsa] at hs3
 have hlt3 := h33.lt
 have hlt4 := h43.lt
 refine wpIn_seq_k (fun K0 hK0 => ?_)
 obtain ⟨c0, hc0⟩ : ∃ c0, fstC (codeOf Try.f84) = c0 := ⟨_, rfl⟩
 rw [hc0]
 simp only [codeOf, Try.f84, fstC] at hc0
 subst hc0
 have HK0 := Aside0.mk hK0
 have HU := Aside0.mk hU
 have H33 := Aside0.mk h33
 have HB3 := Aside0.mk hb3
 have HS3 := Aside0.mk hS3
 have HTO := Aside0.mk hto
 have HTM := Aside0.mk htm
 obtain ⟨t0, t1, t2, t3, t4, t5, t6⟩ := stk_cells (h4.alloc (.map #[] 0))
 obtain ⟨q0, q1, q2, q3, q4, q5, q6⟩ := stk_cells h43
 clear hK0 hU h33 hb3 hS3 hto htm hba h3 h4 h43 hg3
 gi_wp2
 refine HK0.out _ _ ?_
 clear HK0
 refine wpIn_scope ?_
 obtain ⟨c1, hc1⟩ : ∃ c1, fstC bodyC = c1 := ⟨_, rfl⟩
 obtain ⟨c2, hc2⟩ : ∃ c2, fstC (dropC 1 bodyC) = c2 := ⟨_, rfl⟩
 rw [hc1, hc2]
 simp only [bodyC, unscope, dropC, codeOf, Try.f84, sndC, fstC] at hc1 hc2
 subst hc1
 subst hc2
 have hm := run_makeMap (P := Try.prog)
 refine wpIn_seq_k (fun K1 hK1 => ?_)
 have HK1 := Aside0.mk hK1
 clear hK1
 try rw [hWa']
 clear hWa hWa'
 gi_wp2
 refine HK1.out _ _ ?_
 clear HK1 hput
 refine wpIn_seq_k (fun K1 hK1 => ?_)
 have HK1 := Aside0.mk hK1
 clear hK1
 gi_wp2
 refine HK1.out _ _ ?_
 clear HK1
 refine wpIn_seq ?_
 refine wpIn_label ?_
 show (Code.seq (.block 0 (.loop roundC)) (dropC 4 bodyC)).wpIn _ _ _ _ _ _
 refine wpIn_seq ?_
 clear t0 t1 t2 t3 t4 t5 t6 q0 q1 q2 q3 q4 q5 q6 hm
 obtain ⟨Wx, hWx⟩ : ∃ Wx, W3.alloc (.cells #[.map (some (W0.heap.size + 2))] 116) = Wx := ⟨_, rfl⟩
 obtain ⟨Wy, hWy⟩ : ∃ Wy, Wx.alloc (.cells (stk tm) 92) = Wy := ⟨_, rfl⟩
 obtain ⟨Wc, hWc⟩ : ∃ Wc, Wy.alloc (.cells #[.slice (some ⟨W3.heap.size + 1, 0, none⟩) 1 1] 134) = Wc := ⟨_, rfl⟩
 have hsx : Wx.heap.size = W3.heap.size + 1 := by rw [← hWx]; simp
 have hsy : Wy.heap.size = W3.heap.size + 1 + 1 := by rw [← hWy]; simp [hsx]
 have hBc : Below W3.heap.size W3 Wc := by
  rw [← hWc, ← hWy, ← hWx]
  exact (((Below.refl _ _).alloc (Nat.le_refl _) _).alloc (by simp) _).alloc (by simp; omega) _
 have hn1 : Blk Wc W3.heap.size #[.map (some (W0.heap.size + 2))] 116 := by
  rw [← hWc, ← hWy, ← hWx]
  exact ((Blk.new _ _ _).alloc _).alloc _
 have hn2 : Blk Wc (W3.heap.size + 1) (stk tm) 92 := by
  have h1 := Blk.new Wx (stk tm) 92
  rw [hsx, hWy] at h1
  rw [← hWc]
  exact h1.alloc _
 have hn3 : Blk Wc (W3.heap.size + 1 + 1) #[.slice (some ⟨W3.heap.size + 1, 0, none⟩) 1 1] 134 := by
  have h1 := Blk.new Wy #[.slice (some ⟨W3.heap.size + 1, 0, none⟩) 1 1] 134
  rw [hsy, hWc] at h1
  exact h1
 have e1 := hWy
 unfold stk at e1
 rw [hWx, e1, hWc]
 have hsE := HSE.out
 simp only [hsE, Nat.add_assoc, Nat.reduceAdd] at hn1 hn2 hn3 ⊢
 refine search_loop n sg an hn to_ U uv W0 Wc HU.out ⟨_, Km.put (fun _ => none) to_ zeroS, [to_], [to_], .slice (some ⟨W0.heap.size + 4, 0, none⟩) 1 1, ⟨?_, ByOk.begin n sg an to_, rfl, HS3.out.mapsTo (hBc.block _ HS3.out.lt), ?_, hn3, hn1, H33.out.below hBc H33.out.lt, HB3.out.trans (hBc.mono (by omega)), ?_, Nat.le_refl _, Th.begin n sg an to_ U⟩⟩ _ _ _ _ _ _ _ _ _ _ _ _ _ _ _ _ _ _ _ _ _ _ _ _ _ _ _ _ _ _ _ _ _ _ _ _ _ _ _ _ _ _ _ _ _ _ _ _ _ _ _ _ _ _ _ _ _ _ _ _ _ ?_
 ·have h := Rd.begin (next := nextK n sg an) (V := Vs n) HTO.out
  have e : Sof (Km.put (fun _ => none) to_ zeroS) = (fun x => if x = to_ then some 0 else none) := by
   funext x
   unfold Sof Km.put
   by_cases h : x = to_ <;> simp [h, zeroS]
  rw [e]; exact h
 ·refine ⟨by simp [flat_len], .inr ⟨W0.heap.size + 4, 0, 1, stk tm, rfl, Nat.le_refl _, hn2, Nat.le_refl _, by unfold maxLen; omega, rfl, ?_⟩⟩
  rw [flat_cons, flat_nil, HTM.out]
  simp [stk]
 ·intro x hx
  unfold Sof Km.put at hx
  by_cases h : x = to_
  ·rw [h]; simp
  ·rw [if_neg h] at hx; cases hx
 ·intro W' rs x0 x1 x4 x5 x6 x9 x10 x11 x12 x13 x14 x15 x16 x17 x18 x19 x20 x21 x22 x23 x24 x25 x26 x27 x28 x29 x30 x31 x32 x33 x34 x35 x36 x37 x38 x39 x40 x41 x42 x43 x44 x45 x46 x47 x48 x49 x50 x51 x52 x53 x54 x55 x56 x57 x58 x59 x60 x61 x62 x63 hM hfin
  show (dropC 4 bodyC).wpIn _ _ _ _ _ _
  refine wpIn_mono (search_out n sg an to_ U uv W0 W' rs hM hfin _ _ _ _ _ _ _ _ _ _ _ _ _ _ _ _ _ _ _ _ _ _ _ _ _ _ _ _ _ _ _ _ _ _ _ _ _ _ _ _ _ _ _ _ _ _ _ _ _ _ _ _ _ _ _ _ _ _ _ _ (fun e w' => e = .returned (.map (some (W0.heap.size + 2))) ∧ Fin n sg an to_ U W0 w') ?_) ?_
  ·exact fun W'' hW'' => ⟨rfl, hW''⟩
  ·intro e a w h
   cases e <;> first | exact h | exact h.elim
end Go.Proofs.Ytepjhdblmghckaa.G


namespace Go.Proofs.Ytepjhdblmghckaa.G
open Go.Proofs.Ytepjhdblmghckaa.Q Go.Proofs.Ytepjhdblmghckaa.K
open Go.RowKit Go.Shelf Go.Proofs.YtepjhdblmghckaaW.PrintWords Go.Proofs.YtepjhdblmghckaaW.PrintLast Go.Proofs.YtepjhdblmghckaaW.PrintMore
set_option linter.unusedVariables false
theorem i8w {x : Int} (h : -7 ≤ x ∧ x ≤ 7) : IntKind.i8.wrap x = x := by
 rcases h with ⟨h1, h2⟩
 have h3 : x = -7 ∨ x = -6 ∨ x = -5 ∨ x = -4 ∨ x = -3 ∨ x = -2 ∨ x = -1 ∨ x = 0 ∨ x = 1 ∨ x = 2 ∨ x = 3 ∨ x = 4 ∨ x = 5 ∨ x = 6 ∨ x = 7 := by omega
 rcases h3 with rfl | rfl | rfl | rfl | rfl | rfl | rfl | rfl | rfl | rfl | rfl | rfl | rfl | rfl | rfl <;> rfl
def fst (m : Nat → Int) (k : Nat) : Nat → Int := fun p => if p < k then m p else 0
theorem fst_upd (m : Nat → Int) (k : Nat) : upd (fst m k) k (m k) = fst m (k + 1) := by
 funext p
 unfold upd fst
 by_cases h : p = k
 ·subst h; simp
 ·rw [if_neg h]
  by_cases h2 : p < k
  ·rw [if_pos h2, if_pos (by omega)]
  ·rw [if_neg h2, if_neg (by omega)]
theorem stk_set {W : World} {b t : Nat} {m : Nat → Int} (h : Blk W b (stk m) t) (p : Nat) (x : Int) (hp : p < 7) : Blk (W.setCell ⟨b, p, none⟩ (.int .i8 x)) b (stk (upd m p x)) t :=
 row_stk ((stk_row h).set p x hp) (by simp [stk_size])
theorem stk_sets {W : World} {b t : Nat} {m : Nat → Int} (h : Blk W b (stk m) t) (f : Nat → Int) : Blk (((((((W.setCell ⟨b, 0, none⟩ (.int .i8 (f 0))).setCell ⟨b, 1, none⟩ (.int .i8 (f 1))).setCell ⟨b, 2, none⟩ (.int .i8 (f 2))).setCell ⟨b, 3, none⟩ (.int .i8 (f 3))).setCell ⟨b, 4, none⟩ (.int .i8 (f 4))).setCell ⟨b, 5, none⟩ (.int .i8 (f 5))).setCell ⟨b, 6, none⟩ (.int .i8 (f 6))) b (stk f) t := by
 have h7 := ((((((h.set 0 (.int .i8 (f 0))).set 1 (.int .i8 (f 1))).set 2 (.int .i8 (f 2))).set 3 (.int .i8 (f 3))).set 4 (.int .i8 (f 4))).set 5 (.int .i8 (f 5))).set 6 (.int .i8 (f 6))
 simpa [stk] using h7
theorem stk_sets_below {B : Nat} {W0 W : World} {b : Nat} {f : Nat → Int} (h : Below B W0 W) (hb : B ≤ b) : Below B W0 (((((((W.setCell ⟨b, 0, none⟩ (.int .i8 (f 0))).setCell ⟨b, 1, none⟩ (.int .i8 (f 1))).setCell ⟨b, 2, none⟩ (.int .i8 (f 2))).setCell ⟨b, 3, none⟩ (.int .i8 (f 3))).setCell ⟨b, 4, none⟩ (.int .i8 (f 4))).setCell ⟨b, 5, none⟩ (.int .i8 (f 5))).setCell ⟨b, 6, none⟩ (.int .i8 (f 6))) :=
 (((((((h.setCell hb _).setCell hb _).setCell hb _).setCell hb _).setCell hb _).setCell hb _).setCell hb _)
theorem stk_congr {m m' : Nat → Int} (h : ∀ j, j < 7 → m j = m' j) : stk m = stk m' := stk_ext m' _ (stk_size m) (fun j hj => by rw [stk_get m j hj, h j hj])
set_option maxHeartbeats 4000000 in
theorem packed_calls (A : Option Addr) (c : Nat) (l : List Int) (w : World) (n : Nat) (hn : n ≤ 7) (hl : Vs n l) (hr : Kd.C (Kd.int .i64) w A l.length l) :
  Calls Try.prog 70 #[.slice A l.length c] w fun e w' => e = .returned (.agg (stk (nth l))) ∧ Below w.heap.size w w' := by
 obtain ⟨hlen, hb⟩ := hl
 have HC := Aside0.mk hr
 have HL := Aside0.mk hlen
 have HB := Aside0.mk hb
 rw [hlen]
 clear hr hlen hb
 go_enter Try.func70, Try.ntmps70
 go_upto_region 2 with fail
 obtain ⟨W0, hW0⟩ : ∃ W, (w.alloc (Obj.cells (stk (fun _ => 0)) 92)).alloc (Obj.cells (stk (fun _ => 0)) 92) = W := ⟨_, rfl⟩
 have HB0 := Aside0.mk (show Blk W0 w.heap.size (stk (fun _ => 0)) 92 by rw [← hW0]; exact (Blk.new w _ 92).alloc _)
 have HB1 := Aside0.mk (show Blk W0 (w.heap.size + 1) (stk (fst (nth l) 0)) 92 by
  rw [← hW0]
  have := Blk.new (w.alloc (Obj.cells (stk (fun _ => 0)) 92)) (stk (fun _ => 0)) 92
  rw [World.size_alloc] at this
  exact this)
 have HW0 := Aside0.mk (show Below w.heap.size w W0 by rw [← hW0]; exact ((Below.refl _ w).alloc (Nat.le_refl _) _).alloc (by simp) _)
 unfold stk at hW0
 try rw [hW0]
 clear hW0
 go_wp2
 go_loopw [8] (fun i wr => ∃ (k : Nat), k ≤ n ∧ i = .int .i64 (k : Int) ∧ Aside0 (Blk wr w.heap.size (stk (fun _ => 0)) 92) ∧ Aside0 (Blk wr (w.heap.size + 1) (stk (fst (nth l) k)) 92) ∧ Aside0 (Below w.heap.size w wr)) (fun i _ => n - (intOf i).toNat)
 case atStart => exact ⟨0, Nat.zero_le _, rfl, HB0, HB1, HW0⟩
 case round =>
  obtain ⟨k, hk, rfl, H0, H1, HW⟩ := hrel
  by_cases hlt : k < n
  ·have hi0 : (0 : Int) ≤ (k : Int) := by omega
   have hi1 : (k : Int) < (n : Int) := by omega
   have h7 : (k : Int) < 7 := by omega
   obtain ⟨ad', e, hc⟩ := Kd.at_int (Kd.C_below HC.out HW.out) (k : Int) hi0 (by have := HL.out; omega)
   cases e
   rw [rd_nth, Int.toNat_natCast] at hc
   have hwx := i8w (HB.out k)
   have hg := H1.out.cell k (stk_get (fst (nth l) k) k (by omega))
   have hf := H1.out.free k
   have HU := Aside0.mk (fst_upd (nth l) k)
   have hwt : IntKind.i64.wrap ((k : Int) + 1) = ((k + 1 : Nat) : Int) := by rw [iw64 (by omega) (by omega)]; omega
   obtain ⟨x, hx⟩ : ∃ x, nth l k = x := ⟨_, rfl⟩
   rw [hx] at hc hwx HU
   clear hx
   go_wp2
   go_roundw
   case rel => exact ⟨k + 1, by omega, rfl, ⟨H0.out.setOther (by simp) _⟩, ⟨by rw [← HU.out]; exact stk_set H1.out k x (by omega)⟩, ⟨HW.out.setCell (by simp) _⟩⟩
   case measure => simp [intOf]; omega
  ·have hi1 : ¬ (k : Int) < (n : Int) := by omega
   have hkn : k = n := by omega
   have HX := Aside0.mk (show stk (fst (nth l) k) = stk (nth l) from stk_congr (fun j hj => by
    unfold fst
    by_cases h : j < k
    ·rw [if_pos h]
    ·rw [if_neg h, nth_end]
     have := HL.out; omega))
   rw [HX.out] at H1
   clear hkn
   obtain ⟨tm, htm⟩ : ∃ tm, nth l = tm := ⟨_, rfl⟩
   rw [htm] at H1
   have HTM := Aside0.mk htm
   obtain ⟨t0, t1, t2, t3, t4, t5, t6⟩ := stk_cells H1.out
   obtain ⟨q0, q1, q2, q3, q4, q5, q6⟩ := stk_cells H0.out
   have f0 := H0.out.free 0
   have f1 := H0.out.free 1
   have f2 := H0.out.free 2
   have f3 := H0.out.free 3
   have f4 := H0.out.free 4
   have f5 := H0.out.free 5
   have f6 := H0.out.free 6
   clear HX htm
   go_wp2
   refine bodyPost_ret (results_cell_row rfl _ _ w.heap.size 92 (stk tm) (0, 0) _ rfl (stk_sets H0.out tm) u92 rfl (by kernel_rfl)) rfl ⟨by rw [HTM.out], stk_sets_below HW.out (Nat.le_refl _)⟩
def upTo (n : Nat) : Nat → Int := fun p => if p < n then ((p + 1 : Nat) : Int) else 0
theorem upTo_step (k : Nat) : upd (upTo k) k ((k + 1 : Nat) : Int) = upTo (k + 1) := by
 funext p
 unfold upd upTo
 by_cases h : p = k
 ·subst h; simp
 ·rw [if_neg h]
  by_cases h2 : p < k
  ·rw [if_pos h2, if_pos (by omega)]
  ·rw [if_neg h2, if_neg (by omega)]
def firstL (n : Nat) : List Int := (List.range n).map (fun p => ((p + 1 : Nat) : Int))
theorem nth_firstL (n : Nat) : nth (firstL n) = upTo n := by
 funext p
 unfold nth firstL upTo
 by_cases h : p < n
 ·simp [h]
 ·simp [h]
theorem vs_firstL {n : Nat} (hn : n ≤ 7) : Vs n (firstL n) := by
 refine ⟨by simp [firstL], fun p => ?_⟩
 rw [nth_firstL]
 unfold upTo
 split <;> omega
set_option maxHeartbeats 4000000 in
theorem first_calls (n : Nat) (hn : n ≤ 7) (sg an : Bool) (w : World) :
  Calls Try.prog 85 #[.agg #[.int .i64 n, .bool sg, .bool an]] w fun e w' => e = .returned (.agg (stk (nth (firstL n)))) ∧ Below w.heap.size w w' := by
 rw [nth_firstL]
 go_enter Try.func85, Try.ntmps85
 go_upto_region 2 with fail
 obtain ⟨W0, hW0⟩ : ∃ W, ((w.alloc (Obj.cells #[.int .i64 n, .bool sg, .bool an] 88)).alloc (Obj.cells (stk (fun _ => 0)) 92)).alloc (Obj.cells (stk (fun _ => 0)) 92) = W := ⟨_, rfl⟩
 have HB0 := Aside0.mk (show Blk W0 (w.heap.size + 1) (stk (fun _ => 0)) 92 by
  rw [← hW0]
  have := (Blk.new (w.alloc (Obj.cells #[.int .i64 n, .bool sg, .bool an] 88)) (stk (fun _ => 0)) 92).alloc (Obj.cells (stk (fun _ => 0)) 92)
  rw [World.size_alloc] at this
  exact this)
 have HB1 := Aside0.mk (show Blk W0 (w.heap.size + 2) (stk (upTo 0)) 92 by
  rw [← hW0]
  have := Blk.new ((w.alloc (Obj.cells #[.int .i64 n, .bool sg, .bool an] 88)).alloc (Obj.cells (stk (fun _ => 0)) 92)) (stk (fun _ => 0)) 92
  rw [World.size_alloc, World.size_alloc] at this
  exact this)
 have HW0 := Aside0.mk (show Below w.heap.size w W0 by rw [← hW0]; exact (((Below.refl _ w).alloc (Nat.le_refl _) _).alloc (by simp) _).alloc (by simp; omega) _)
 have hc0 : W0.cell? ⟨w.heap.size, 0, none⟩ = some (.int .i64 n) := by
  have : Blk W0 w.heap.size #[.int .i64 n, .bool sg, .bool an] 88 := by
   rw [← hW0]; exact ((Blk.new w _ 88).alloc _).alloc _
  exact this.cell 0 rfl
 unfold stk at hW0
 try rw [hW0]
 clear hW0
 go_wp2
 go_loopw [7] (fun i wr => ∃ (k : Nat), k ≤ n ∧ i = .int .i64 (k : Int) ∧ Aside0 (Blk wr (w.heap.size + 1) (stk (fun _ => 0)) 92) ∧ Aside0 (Blk wr (w.heap.size + 2) (stk (upTo k)) 92) ∧ Aside0 (Below w.heap.size w wr)) (fun i _ => n - (intOf i).toNat)
 case atStart => exact ⟨0, Nat.zero_le _, rfl, HB0, HB1, HW0⟩
 case round =>
  obtain ⟨k, hk, rfl, H0, H1, HW⟩ := hrel
  by_cases hlt : k < n
  ·have hi0 : (0 : Int) ≤ (k : Int) := by omega
   have hi1 : (k : Int) < (n : Int) := by omega
   have h7 : (k : Int) < 7 := by omega
   have hg := H1.out.cell k (stk_get (upTo k) k (by omega))
   have hf := H1.out.free k
   have HU := Aside0.mk (upTo_step k)
   have hwt : IntKind.i64.wrap ((k : Int) + 1) = ((k + 1 : Nat) : Int) := by rw [iw64 (by omega) (by omega)]; omega
   have hwx : IntKind.i8.wrap ((k + 1 : Nat) : Int) = ((k + 1 : Nat) : Int) := i8w (by omega)
   go_wp2
   go_roundw
   case rel => exact ⟨k + 1, by omega, rfl, ⟨H0.out.setOther (by simp) _⟩, ⟨by rw [← HU.out]; exact stk_set H1.out k _ (by omega)⟩, ⟨HW.out.setCell (by simp; omega) _⟩⟩
   case measure => simp [intOf]; omega
  ·have hi1 : ¬ (k : Int) < (n : Int) := by omega
   have HKN := Aside0.mk (show k = n by omega)
   obtain ⟨tm, htm⟩ : ∃ tm, upTo k = tm := ⟨_, rfl⟩
   rw [htm] at H1
   have HTM := Aside0.mk htm
   obtain ⟨t0, t1, t2, t3, t4, t5, t6⟩ := stk_cells H1.out
   obtain ⟨q0, q1, q2, q3, q4, q5, q6⟩ := stk_cells H0.out
   have f0 := H0.out.free 0
   have f1 := H0.out.free 1
   have f2 := H0.out.free 2
   have f3 := H0.out.free 3
   have f4 := H0.out.free 4
   have f5 := H0.out.free 5
   have f6 := H0.out.free 6
   clear htm
   go_wp2
   refine bodyPost_ret (results_cell_row rfl _ _ (w.heap.size + 1) 92 (stk tm) (0, 0) _ rfl (stk_sets H0.out tm) u92 rfl (by kernel_rfl)) rfl ⟨by rw [← HTM.out, HKN.out], stk_sets_below HW.out (by omega)⟩
end Go.Proofs.Ytepjhdblmghckaa.G


namespace Go.Proofs.Ytepjhdblmghckaa.G
open Go.Proofs.Ytepjhdblmghckaa.Q Go.Proofs.Ytepjhdblmghckaa.K Go.Proofs.Ytepjhdblmghckaa.Bf
open Go.RowKit Go.Shelf Go.Proofs.YtepjhdblmghckaaW.PrintWords Go.Proofs.YtepjhdblmghckaaW.PrintLast Go.Proofs.YtepjhdblmghckaaW.PrintMore
set_option linter.unusedVariables false
def gap (n : Nat) (sg : Bool) (a b : List Int) : Nat := least (nextK n sg false) a b (15 ^ n + 1)
theorem FinS.gap {n : Nat} {sg : Bool} {a b : List Int} {M : Km} {L : List (List Int)} (h : FinS n sg false a (some b) M L) : ((M b).getD zeroS).2 = gap n sg a b := by
 cases hb : M b with
 | some e =>
  have h1 := h.found b e.2 (by unfold Sof; rw [hb]; rfl)
  exact h1.symm
 | none =>
  rcases h.done with hd | ⟨u, hu, hm⟩
  ·exact (least_none (hd b hb)).symm
  ·cases hu
   rw [hb] at hm
   cases hm
theorem stepAgg (x : St3) : stepE x = .agg #[.int .i64 (x.1.1 : Int), .int .i64 (x.1.2 : Int), .int .i64 (x.2 : Int)] := rfl
set_option maxRecDepth 100000 in
set_option maxHeartbeats 4000000 in
theorem between_calls (n : Nat) (hn : n ≤ 7) (sg : Bool) (s t : List Int) (hs : Vs n s) (ht : Vs n t) (w : World) :
  Calls Try.prog 69 #[.agg #[.int .i64 n, .bool sg, .bool false], .agg (stk (nth s)), .agg (stk (nth t))] w fun e w' => e = .returned (.int .i64 (gap n sg t s : Nat)) ∧ Below w.heap.size w w' := by
 obtain ⟨sm, hsm⟩ : ∃ sm, nth s = sm := ⟨_, rfl⟩
 obtain ⟨tm, htm⟩ : ∃ tm, nth t = tm := ⟨_, rfl⟩
 obtain ⟨W0, hW0⟩ : ∃ W0, ((w.alloc (.cells #[.int .i64 n, .bool sg, .bool false] 88)).alloc (.cells (stk sm) 92)).alloc (.cells (stk tm) 92) = W0 := ⟨_, rfl⟩
 have hsz : W0.heap.size = w.heap.size + 3 := by rw [← hW0]; simp
 have hB : Below w.heap.size w W0 := by rw [← hW0]; exact (((Below.refl _ w).alloc (Nat.le_refl _) _).alloc (by simp) _).alloc (by simp; omega) _
 have h0 : Blk W0 w.heap.size #[.int .i64 n, .bool sg, .bool false] 88 := by
  rw [← hW0]; exact ((Blk.new _ _ _).alloc _).alloc _
 have h1 : Blk W0 (w.heap.size + 1) (stk sm) 92 := by
  rw [← hW0]
  have := (Blk.new (w.alloc (.cells #[.int .i64 n, .bool sg, .bool false] 88)) (stk sm) 92).alloc (.cells (stk tm) 92)
  rw [World.size_alloc] at this
  exact this
 have h2 : Blk W0 (w.heap.size + 2) (stk tm) 92 := by
  rw [← hW0]
  have := Blk.new ((w.alloc (.cells #[.int .i64 n, .bool sg, .bool false] 88)).alloc (.cells (stk sm) 92)) (stk tm) 92
  rw [World.size_alloc, World.size_alloc] at this
  exact this
 have HC := Aside0.mk (search_calls n sg false hn t ht (some s) (.pointer (some ⟨w.heap.size + 1, 0, none⟩)) W0.drew (.inr ⟨w.heap.size + 1, s, rfl, rfl, hs, by show w.heap.size + 1 < W0.heap.size; omega, by rw [hsm]; exact h1.drew⟩))
 rw [htm] at HC
 have k0 := h0.cell 0 (v := .int .i64 n) rfl
 have k1 := h0.cell 1 (v := .bool sg) rfl
 have k2 := h0.cell 2 (v := .bool false) rfl
 obtain ⟨t0, t1, t2, t3, t4, t5, t6⟩ := stk_cells h2
 obtain ⟨q0, q1, q2, q3, q4, q5, q6⟩ := stk_cells h1
 have HB := Aside0.mk hB
 have HS := Aside0.mk hs
 have H1 := Aside0.mk h1
 have HSZ := Aside0.mk hsz
 have HSM := Aside0.mk hsm
 unfold stk at hW0 HC
 rw [hsm, htm]
 unfold stk
 clear h0 h1 h2 hB hs ht hsz hsm htm
 go_enter Try.func69, Try.ntmps69
 go_upto_region 1 with fail
 try rw [hW0]
 clear hW0
 refine start_ (n := 7) (S := fun w' => w'.cell? ⟨w.heap.size, 0, none⟩ = some (.int .i64 (n : Int)) ∧ w'.cell? ⟨w.heap.size, 1, none⟩ = some (.bool sg) ∧ w'.cell? ⟨w.heap.size, 2, none⟩ = some (.bool false) ∧ w'.cell? ⟨w.heap.size + 2, 0, none⟩ = some (.int .i8 (tm 0)) ∧ w'.cell? ⟨w.heap.size + 2, 1, none⟩ = some (.int .i8 (tm 1)) ∧ w'.cell? ⟨w.heap.size + 2, 2, none⟩ = some (.int .i8 (tm 2)) ∧ w'.cell? ⟨w.heap.size + 2, 3, none⟩ = some (.int .i8 (tm 3)) ∧ w'.cell? ⟨w.heap.size + 2, 4, none⟩ = some (.int .i8 (tm 4)) ∧ w'.cell? ⟨w.heap.size + 2, 5, none⟩ = some (.int .i8 (tm 5)) ∧ w'.cell? ⟨w.heap.size + 2, 6, none⟩ = some (.int .i8 (tm 6)) ∧ w'.cell? ⟨w.heap.size + 1, 0, none⟩ = some (.int .i8 (sm 0)) ∧ w'.cell? ⟨w.heap.size + 1, 1, none⟩ = some (.int .i8 (sm 1)) ∧ w'.cell? ⟨w.heap.size + 1, 2, none⟩ = some (.int .i8 (sm 2)) ∧ w'.cell? ⟨w.heap.size + 1, 3, none⟩ = some (.int .i8 (sm 3)) ∧ w'.cell? ⟨w.heap.size + 1, 4, none⟩ = some (.int .i8 (sm 4)) ∧ w'.cell? ⟨w.heap.size + 1, 5, none⟩ = some (.int .i8 (sm 5)) ∧ w'.cell? ⟨w.heap.size + 1, 6, none⟩ = some (.int .i8 (sm 6))) (ds := [4]) #[false, false, false, false, false, false, false] (by kernel_rfl) rfl rfl ⟨k0, k1, k2, t0, t1, t2, t3, t4, t5, t6, q0, q1, q2, q3, q4, q5, q6⟩ (fun hHeld => ?_)
 refine take_ (i := 0) (N := (some 7)) (v := ?_) (a' := ?_) #[true, false, false, false, false, false, false] rfl rfl (by kernel_rfl) (fun _ _ _ h => h) (Or.inl ⟨by rfl, ?_⟩) hHeld ?_ ?_
 rotate_left
 ·rintro w' ⟨s0, s1, s2, s3, s4, s5, s6, s7, s8, s9, s10, s11, s12, s13, s14, s15, s16⟩
  go_simp
  with_reducible rfl
 rotate_left
 ·simp only [Act.put, List.setIfInBounds_toArray, List.set_cons_zero, List.set_cons_succ]
  rfl
 refine take_ (i := 1) (N := (some 8)) (v := ?_) (a' := ?_) #[true, true, false, false, false, false, false] rfl rfl (by kernel_rfl) (fun _ _ _ h => h) (Or.inl ⟨by rfl, ?_⟩) hHeld ?_ ?_
 rotate_left
 ·rintro w' ⟨s0, s1, s2, s3, s4, s5, s6, s7, s8, s9, s10, s11, s12, s13, s14, s15, s16⟩
  go_simp
  with_reducible rfl
 rotate_left
 ·simp only [Act.put, List.setIfInBounds_toArray, List.set_cons_zero, List.set_cons_succ]
  rfl
 refine take_ (i := 3) (N := (some 10)) (v := ?_) (a' := ?_) #[true, true, false, true, false, false, false] rfl rfl (by kernel_rfl) (fun _ _ _ h => h) (Or.inl ⟨by rfl, ?_⟩) hHeld ?_ ?_
 rotate_left
 ·rintro w' ⟨s0, s1, s2, s3, s4, s5, s6, s7, s8, s9, s10, s11, s12, s13, s14, s15, s16⟩
  go_simp
  with_reducible rfl
 rotate_left
 ·simp only [Act.put, List.setIfInBounds_toArray, List.set_cons_zero, List.set_cons_succ]
  rfl
 refine one_ (i := 2) (N := (some 9)) #[true, true, true, true, false, false, false] rfl rfl (by kernel_rfl) (by decide) (fun K hK => ?_)
 refine goes_ Try.func84 (by kernel_rfl) rfl #[.agg #[.int .i64 n, .bool sg, .bool false], .agg (stk tm), .pointer (some ⟨w.heap.size + 1, 0, none⟩)] (by rfl) rfl rfl (by (try simp only [List.map_toArray, List.map_cons, List.map_nil]); first | done | rfl) ?_
 refine HC.out.mono ?_
 rintro e w' ⟨rfl, M, k, L, hF, hk, h7, hb⟩
 have hl := hk.look HS.out
 have hg := hF.gap
 obtain ⟨x, hx⟩ : ∃ x, (M s).getD zeroS = x := ⟨_, rfl⟩
 rw [hx, HSM.out, stepAgg, show W0.drew.heap.size = W0.heap.size from rfl] at hl
 rw [hx] at hg
 have HG := Aside0.mk hg
 have HBW := Aside0.mk hb
 clear hg hb hx hF hk h7
 unfold stk at hl
 refine ⟨_, rfl, ?_⟩
 have hcc : ∀ (p : Addr) v, W0.drew.cell? p = some v → w'.cell? p = some v := fun p v hp => by rw [HBW.out.cell (p := p) (World.block_lt_of_cell? _ _ hp)]; exact hp
 refine hK.out _ _ ⟨hcc _ _ hHeld.1, hcc _ _ hHeld.2.1, hcc _ _ hHeld.2.2.1, hcc _ _ hHeld.2.2.2.1, hcc _ _ hHeld.2.2.2.2.1, hcc _ _ hHeld.2.2.2.2.2.1, hcc _ _ hHeld.2.2.2.2.2.2.1, hcc _ _ hHeld.2.2.2.2.2.2.2.1, hcc _ _ hHeld.2.2.2.2.2.2.2.2.1, hcc _ _ hHeld.2.2.2.2.2.2.2.2.2.1, hcc _ _ hHeld.2.2.2.2.2.2.2.2.2.2.1, hcc _ _ hHeld.2.2.2.2.2.2.2.2.2.2.2.1, hcc _ _ hHeld.2.2.2.2.2.2.2.2.2.2.2.2.1, hcc _ _ hHeld.2.2.2.2.2.2.2.2.2.2.2.2.2.1, hcc _ _ hHeld.2.2.2.2.2.2.2.2.2.2.2.2.2.2.1, hcc _ _ hHeld.2.2.2.2.2.2.2.2.2.2.2.2.2.2.2.1, hcc _ _ hHeld.2.2.2.2.2.2.2.2.2.2.2.2.2.2.2.2⟩ (fun hHeld => ?_)
 clear hcc hK K hHeld
 refine norm_ (a' := ?_) ?_ ?_
 rotate_left
 ·show Act.put _ (some 9) _ = _
  simp only [Act.put, List.setIfInBounds_toArray, List.set_cons_zero, List.set_cons_succ]
  rfl
 refine last_ (i := 4) (N := (some 11)) #[true, true, true, true, true, false, false] rfl rfl (by kernel_rfl) (by decide) (fun K hK => ?_)
 rw [if_pos (by rfl)]
 have HK := Aside0.mk hK.out
 clear hK
 unfold Oper.wp
 go_simp
 refine HK.out _ _ ?_
 clear HK K
 have hfd := fun W => field115 (x.1.1 : Int) (x.1.2 : Int) (x.2 : Int) W
 refine pure_ (i := 5) (N := (some 12)) (v := ?_) (a' := ?_) #[true, true, true, true, true, true, false] rfl rfl (by kernel_rfl) (fun _ _ _ h => h) (Or.inl ⟨by rfl, ?_⟩) ?_ ?_
 rotate_left
 ·intro w'
  go_simp
  with_reducible rfl
 rotate_left
 ·simp only [Act.put, List.setIfInBounds_toArray, List.set_cons_zero, List.set_cons_succ]
  rfl
 refine pure_ (i := 6) (N := (some 6)) (v := ?_) (a' := ?_) #[true, true, true, true, true, true, true] rfl rfl (by kernel_rfl) (fun _ _ _ h => h) (Or.inl ⟨by rfl, ?_⟩) ?_ ?_
 rotate_left
 ·intro w'
  go_simp
  with_reducible rfl
 rotate_left
 ·simp only [Act.put, List.setIfInBounds_toArray, List.set_cons_zero, List.set_cons_succ]
  rfl
 refine done_ (by kernel_rfl) ?_
 go_wp2
 go_ret
 have hB := HB.out.drew
 exact ⟨by rw [← HG.out]; rfl, hB.trans (HBW.out.mono hB.size)⟩
end Go.Proofs.Ytepjhdblmghckaa.G


namespace Go.Proofs.Ytepjhdblmghckaa.G
open Go.Proofs.Ytepjhdblmghckaa.Q Go.Proofs.Ytepjhdblmghckaa.K Go.Proofs.Ytepjhdblmghckaa.Bf
open Go.RowKit Go.Shelf Go.Proofs.YtepjhdblmghckaaW.PrintWords Go.Proofs.YtepjhdblmghckaaW.PrintLast Go.Proofs.YtepjhdblmghckaaW.PrintMore
set_option linter.unusedVariables false
def Rg (W : World) (b r k n : Nat) (M : Km) (vis : List (List Int)) (cnt : Nat) : Prop :=
 ∃ (D : DataW Unit) (left : Lit → Bool), W.ranges Try.prog 92 stepR b r k D left cnt ∧
  (∀ l, Vs n l → Go.Maps.has D (KL l) = (M l).isSome ∧ D.atKey (KL l) (stepD zeroS) = stepD ((M l).getD zeroS)) ∧
  (∀ kl, Go.Maps.has D kl = true → ∃ l, Vs n l ∧ kl = KL l) ∧
  (∀ l, Vs n l → left (KL l) = ((M l).isSome && !decide (l ∈ vis))) ∧ (∀ kl, left kl = true → Go.Maps.has D kl = true)
theorem Kn.range {W : World} {b k n : Nat} {M : Km} (h : Kn W b k n M) :
  ∃ W' cnt, (Instr.range 116 (.map (some b))).run Try.prog W = .ok (.pointer (some ⟨W.heap.size, 0, none⟩)) W' ∧ Rg W' b W.heap.size k n M [] cnt ∧ W.grownBy W' none ∧ W'.heap.size = W.heap.size + 1 := by
 obtain ⟨D, h1, h2, h3, h4⟩ := h
 obtain ⟨W', hrun, hr, hg, hs⟩ := h1.range law92 u116
 exact ⟨W', _, hrun, ⟨D, _, hr, h3, h4, fun l hl => by rw [(h3 l hl).1]; simp, fun kl h => h⟩, hg, hs⟩
theorem Rg.kept {W W' : World} {b r k n : Nat} {M : Km} {vis : List (List Int)} {cnt : Nat} {row : Option Nat} (h : Rg W b r k n M vis cnt) (hg : W.grownBy W' row) (hb : some b ≠ row) (hr : some r ≠ row) : Rg W' b r k n M vis cnt := by
 obtain ⟨D, left, h1, h2⟩ := h
 exact ⟨D, left, h1.kept hg hb hr, h2⟩
theorem Rg.lt {W : World} {b r k n : Nat} {M : Km} {vis : List (List Int)} {cnt : Nat} (h : Rg W b r k n M vis cnt) : r < W.heap.size ∧ b < W.heap.size ∧ W.rangeLeft b r = cnt ∧ r ≠ b := by
 obtain ⟨D, left, h1, h2⟩ := h
 exact ⟨h1.lt, h1.owns.lt, h1.left_eq, h1.ne⟩
theorem stepR_form {v : Value} {y : DataW Unit × List MemPlace} {x : St3} (h : stepR v = some y) (hy : y.1 = stepD x) : v = stepE x := by
 obtain ⟨y1, y2⟩ := y
 simp only at hy
 rw [hy] at h
 exact stepR_inv h
theorem Rg.next {W : World} {b r k n : Nat} {M : Km} {vis : List (List Int)} {cnt : Nat} (h : Rg W b r k n M vis cnt) (hn : n ≤ 7) :
  (cnt = 0 ∧ (∀ l, Vs n l → (M l).isSome = true → l ∈ vis) ∧ (Instr.next (.pointer (some ⟨r, 0, none⟩)) false 0).run Try.prog W = .ok (.tuple #[.bool false]) W) ∨
  ∃ l e key W' cnt', Vs n l ∧ M l = some e ∧ l ∉ vis ∧ (Instr.next (.pointer (some ⟨r, 0, none⟩)) false 0).run Try.prog W = .ok (.tuple #[.bool true, key, stepE e]) W' ∧
   Rg W' b r k n M (vis ++ [l]) cnt' ∧ cnt' < cnt ∧ W.grownBy W' (some r) ∧ W'.heap.size = W.heap.size ∧ (Instr.entry (.pointer (some ⟨r, 0, none⟩))).run Try.prog W' = .ok (.tuple #[key, stepE e]) W' := by
 obtain ⟨D, left, h1, h2, h3, h4, h5⟩ := h
 rcases h1.next law92 0 with ⟨hc, hno, hrun⟩ | ⟨key, v, kl, y, W', cnt', hkey, hl, hv, hat, hrun, hr', hlt, hg, hsz, hent⟩
 ·refine .inl ⟨hc, fun l hl hs => ?_, hrun⟩
  have := h4 l hl
  rw [hno, hs] at this
  simpa using this.symm
 ·obtain ⟨l, hvl, rfl⟩ := h3 kl (h5 kl hl)
  have hlf := h4 l hvl
  rw [hl] at hlf
  have hm : (M l).isSome = true ∧ l ∉ vis := by simpa using hlf.symm
  obtain ⟨e, he⟩ := Option.isSome_iff_exists.1 hm.1
  have hy : y.1 = stepD e := by
   rw [← hat (stepD zeroS), (h2 l hvl).2, he]; rfl
  obtain rfl := stepR_form hv hy
  refine .inr ⟨l, e, key, W', cnt', hvl, he, hm.2, hrun, ⟨D, _, hr', h2, h3, fun x hx => ?_, fun kl hkl => h5 kl (by simp only [Bool.and_eq_true] at hkl; exact hkl.1)⟩, hlt, hg, hsz, hent⟩
  rw [h4 x hx]
  by_cases ex : x = l
  ·subst ex
   have : (KL x).sameKey (KL x) = true := WideAt.sameKey_self (KL_lit hx)
   simp [this]
  ·have : (KL x).sameKey (KL l) = false := by
    cases hs : (KL x).sameKey (KL l)
    ·rfl
    ·exact absurd (KL_inj hx hvl hn (WideAt.sameKey_eq hs)) ex
   simp [this, ex]
def uniq : List (List Int) → List (List Int)
 | [] => []
 | a :: l => if a ∈ l then uniq l else a :: uniq l
theorem mem_uniq : ∀ (l : List (List Int)) (x : List Int), x ∈ uniq l ↔ x ∈ l
 | [], x => by simp [uniq]
 | a :: l, x => by
  unfold uniq
  split
  ·rename_i h
   rw [mem_uniq l x, List.mem_cons]
   exact ⟨.inr, fun h' => h'.elim (fun e => e ▸ h) id⟩
  ·rw [List.mem_cons, List.mem_cons, mem_uniq l x]
theorem uniq_nodup : ∀ l : List (List Int), (uniq l).Nodup
 | [] => by simp [uniq]
 | a :: l => by
  unfold uniq
  split
  ·exact uniq_nodup l
  ·rename_i h
   exact List.nodup_cons.2 ⟨fun h' => h ((mem_uniq l a).1 h'), uniq_nodup l⟩
def reach (n : Nat) (sg : Bool) : List (List Int) := uniq ((univ n).filter (fun x => decide (x ∈ ball (nextK n sg false) (firstL n) (15 ^ n))))
def mostOf (d : List Int → Nat) : List (List Int) → Nat
 | [] => 0
 | x :: l => max (d x) (mostOf d l)
def wrst (n : Nat) (sg : Bool) : Nat × Nat :=
 let d := gap n sg (firstL n)
 (mostOf d (reach n sg), (reach n sg).countP (fun x => decide (d x = mostOf d (reach n sg))))
theorem mostOf_le (d : List Int → Nat) : ∀ (l : List (List Int)) (x : List Int), x ∈ l → d x ≤ mostOf d l
 | a :: l, x, h => by
  unfold mostOf
  rcases List.mem_cons.1 h with rfl | h
  ·omega
  ·have := mostOf_le d l x h; omega
theorem mostOf_at (d : List Int → Nat) : ∀ l : List (List Int), mostOf d l = 0 ∨ ∃ x, x ∈ l ∧ d x = mostOf d l
 | [] => .inl rfl
 | a :: l => by
  unfold mostOf
  rcases Nat.le_total (mostOf d l) (d a) with h | h
  ·exact .inr ⟨a, by simp, by omega⟩
  ·rcases mostOf_at d l with h1 | ⟨x, hx, h2⟩
   ·exact .inl (by omega)
   ·exact .inr ⟨x, List.mem_cons_of_mem _ hx, by omega⟩
structure Mo (d : List Int → Nat) (vis : List (List Int)) (a b : Nat) : Prop where
 le : ∀ x, x ∈ vis → d x ≤ a
 at_ : a = 0 ∨ ∃ x, x ∈ vis ∧ d x = a
 many : b = vis.countP (fun x => decide (d x = a))
theorem Mo.begin (d : List Int → Nat) : Mo d [] 0 0 := ⟨fun x h => (by cases h), .inl rfl, rfl⟩
theorem Mo.more {d : List Int → Nat} {vis : List (List Int)} {a b : Nat} (h : Mo d vis a b) {x : List Int} (hx : a < d x) : Mo d (vis ++ [x]) (d x) 1 := by
 refine ⟨fun y hy => ?_, .inr ⟨x, by simp, rfl⟩, ?_⟩
 ·rcases List.mem_append.1 hy with hy | hy
  ·have := h.le y hy; omega
  ·simp at hy; subst hy; omega
 ·rw [List.countP_append]
  have : vis.countP (fun y => decide (d y = d x)) = 0 := by
   rw [List.countP_eq_zero]
   intro y hy
   have := h.le y hy
   simp; omega
  rw [this]; simp
theorem Mo.same {d : List Int → Nat} {vis : List (List Int)} {a b : Nat} (h : Mo d vis a b) {x : List Int} (hx : d x = a) : Mo d (vis ++ [x]) a (b + 1) := by
 refine ⟨fun y hy => ?_, .inr ⟨x, by simp, hx⟩, ?_⟩
 ·rcases List.mem_append.1 hy with hy | hy
  ·exact h.le y hy
  ·simp at hy; subst hy; omega
 ·rw [List.countP_append, ← h.many]; simp [hx]
theorem Mo.less {d : List Int → Nat} {vis : List (List Int)} {a b : Nat} (h : Mo d vis a b) {x : List Int} (hx : d x < a) : Mo d (vis ++ [x]) a b := by
 refine ⟨fun y hy => ?_, ?_, ?_⟩
 ·rcases List.mem_append.1 hy with hy | hy
  ·exact h.le y hy
  ·simp at hy; subst hy; omega
 ·rcases h.at_ with h1 | ⟨y, hy, h2⟩
  ·exact .inl h1
  ·exact .inr ⟨y, by simp [hy], h2⟩
 ·rw [List.countP_append, ← h.many]; simp; omega
theorem least_lt' {α : Type} [DecidableEq α] (next : α → List α) (s t : α) (N : Nat) : least next s t (N + 1) < N + 1 := by
 unfold least
 cases h : (List.range (N + 1)).find? (fun k => (ball next s k).contains t) with
 | none => simp
 | some j =>
  have := List.mem_of_find?_eq_some h
  simpa using this
theorem FinS.reached {n : Nat} {sg : Bool} {a : List Int} {M : Km} {L : List (List Int)} (h : FinS n sg false a none M L) (x : List Int) : (M x).isSome = true ↔ x ∈ ball (nextK n sg false) a (15 ^ n) := by
 constructor
 ·intro hm
  obtain ⟨e, he⟩ := Option.isSome_iff_exists.1 hm
  have hs : Sof M x = some e.2 := by unfold Sof; rw [he]; rfl
  have h1 := h.exact x e.2 hs
  have h2 := h.found x e.2 hs
  have h3 := least_lt' (nextK n sg false) a x (15 ^ n)
  exact ball_mono (by omega) h1.1
 ·intro hb
  cases hm : M x with
  | some e => rfl
  | none =>
   rcases h.done with hd | ⟨u, hu, _⟩
   ·exact absurd hb (hd x hm _)
   ·cases hu
theorem worst_of {n : Nat} {sg : Bool} {M : Km} {L vis : List (List Int)} {a b : Nat} (h : FinS n sg false (firstL n) none M L) (hv : vis.Nodup) (hvis : ∀ x, x ∈ vis ↔ (M x).isSome = true) (hM : Mo (G.gap n sg (firstL n)) vis a b) : wrst n sg = (a, b) := by
 have hmem : ∀ x, x ∈ reach n sg ↔ x ∈ vis := fun x => by
  unfold reach
  rw [mem_uniq, List.mem_filter, hvis, h.reached, decide_eq_true_eq]
  exact ⟨fun h => h.2, fun hb => ⟨univ_mem n x (h.valid x ((h.reached x).2 hb)), hb⟩⟩
 have hperm : (reach n sg).Perm vis := (List.perm_ext_iff_of_nodup (uniq_nodup _) hv).2 hmem
 have ha : mostOf (G.gap n sg (firstL n)) (reach n sg) = a := by
  apply Nat.le_antisymm
  ·rcases mostOf_at (G.gap n sg (firstL n)) (reach n sg) with h0 | ⟨x, hx, hd⟩
   ·omega
   ·rw [← hd]; exact hM.le x ((hmem x).1 hx)
  ·rcases hM.at_ with h0 | ⟨x, hx, hd⟩
   ·omega
   ·rw [← hd]; exact mostOf_le _ _ x ((hmem x).2 hx)
 unfold wrst
 simp only [ha]
 rw [hM.many, hperm.countP_eq]
theorem FinS.gapM {n : Nat} {sg : Bool} {a : List Int} {M : Km} {L : List (List Int)} {U : Option (List Int)} (h : FinS n sg false a U M L) {x : List Int} {e : St3} (he : M x = some e) : e.2 = Go.Proofs.Ytepjhdblmghckaa.G.gap n sg a x :=
 (h.found x e.2 (by unfold Sof; rw [he]; rfl)).symm
end Go.Proofs.Ytepjhdblmghckaa.G


namespace Go.Proofs.Ytepjhdblmghckaa.G
open Go.Proofs.Ytepjhdblmghckaa.Q Go.Proofs.Ytepjhdblmghckaa.K
open Go.RowKit Go.Proofs.YtepjhdblmghckaaW.PrintWords Go.Proofs.YtepjhdblmghckaaW.PrintLast Go.Proofs.YtepjhdblmghckaaW.PrintMore
set_option linter.unusedVariables false
def absS (signed : Bool) (n : Nat) (x : Int) : Int := if signed = true ∧ x < 0 ∧ -(n : Int) ≤ x then -x else x
def isL (signed : Bool) (n : Nat) : List Int → (Nat → Bool) → Bool
 | [], _ => true
 | x :: r, seen => if absS signed n x < 1 ∨ (n : Int) < absS signed n x ∨ seen (absS signed n x).toNat = true then false else isL signed n r (upd seen (absS signed n x).toNat true)
def isSt (signed : Bool) (most : Int) (s : List Int) : Bool := if s.length < 1 ∨ most < (s.length : Int) then false else isL signed s.length s (fun _ => false)
def pancake_isStack.f (signed : Bool) (most : Int) (s : List Int) : Option Bool := if most ≤ 40 then some (isSt signed most s) else none
def bools (m : Nat → Bool) : Array Value := arr Value.bool 41 m
theorem bools_zero : bools (fun _ => false) = #[.bool false, .bool false, .bool false, .bool false, .bool false, .bool false, .bool false, .bool false, .bool false, .bool false, .bool false, .bool false, .bool false, .bool false, .bool false, .bool false, .bool false, .bool false, .bool false, .bool false, .bool false, .bool false, .bool false, .bool false, .bool false, .bool false, .bool false, .bool false, .bool false, .bool false, .bool false, .bool false, .bool false, .bool false, .bool false, .bool false, .bool false, .bool false, .bool false, .bool false, .bool false] := by
 kernel_rfl
theorem drop_nth (l : List Int) (k : Nat) (h : k < l.length) : l.drop k = nth l k :: l.drop (k + 1) := by
 rw [List.drop_eq_getElem_cons h]; simp [nth, h]
set_option maxHeartbeats 8000000 in
set_option maxRecDepth 100000 in
theorem pancake_isStack.calls (a0 : Bool) (a1 : Int) (A2 : Option Addr) (c2 : Nat) (l2 : List Int) (r : Bool) (w : World) (hr2 : Kd.C (Kd.int .i64) w A2 l2.length l2) (hc2 : l2.length ≤ c2) (h : pancake_isStack.f a0 a1 l2 = some r) :
  Calls Try.prog 83 #[.bool a0, .int .i64 a1, .slice A2 l2.length c2] w fun e w' => e = .returned (.bool r) ∧ Below w.heap.size w w' := by
 unfold pancake_isStack.f at h
 split at h
 case isFalse => cases h
 case isTrue h40 =>
  obtain rfl := Option.some.inj h
  clear h
  have HC := Aside0.mk hr2
  clear hr2
  by_cases hs : l2.length < 1 ∨ a1 < (l2.length : Int)
  ·have e : isSt a0 a1 l2 = false := by unfold isSt; rw [if_pos hs]
   rw [e]
   clear e
   by_cases h1 : l2.length < 1
   ·have h1' : (l2.length : Int) < 1 := by omega
    go_enter Try.func83, Try.ntmps83
    go_wp2
    go_ret
    exact ⟨rfl, (Below.refl _ w).alloc (Nat.le_refl _) _⟩
   ·have h1' : ¬ (l2.length : Int) < 1 := by omega
    have h2' : a1 < (l2.length : Int) := by omega
    go_enter Try.func83, Try.ntmps83
    go_wp2
    go_ret
    exact ⟨rfl, (Below.refl _ w).alloc (Nat.le_refl _) _⟩
  ·have e : isSt a0 a1 l2 = isL a0 l2.length l2 (fun _ => false) := by unfold isSt; rw [if_neg hs]
   rw [e]
   clear e
   have h1' : ¬ (l2.length : Int) < 1 := by omega
   have h2' : ¬ a1 < (l2.length : Int) := by omega
   have hl40 : l2.length ≤ 40 := by omega
   obtain ⟨N, hN⟩ : ∃ N, l2.length = N := ⟨_, rfl⟩
   have HL := Aside0.mk hN
   obtain ⟨r, hr⟩ : ∃ r, isL a0 N l2 (fun _ => false) = r := ⟨_, rfl⟩
   rw [hN] at h1' h2' hl40 ⊢
   rw [hr]
   have HR := Aside0.mk hr
   clear hr hN hs
   obtain ⟨ad, e, _⟩ := Kd.at_int HC.out 0 (by omega) (by have := HL.out; omega)
   subst e
   go_enter Try.func83, Try.ntmps83
   go_upto_region 4 with fail
   rw [← bools_zero]
   obtain ⟨W0, hW0⟩ : ∃ W, w.alloc (Obj.cells (bools fun _ => false) 133) = W := ⟨_, rfl⟩
   have HB0 := Aside0.mk (show Blk W0 w.heap.size (bools fun _ => false) 133 by rw [← hW0]; exact Blk.new w _ 133)
   have HW0 := Aside0.mk (show Below w.heap.size w W0 by rw [← hW0]; exact (Below.refl _ w).alloc (Nat.le_refl _) _)
   rw [hW0]
   clear hW0
   go_wp2
   go_loopw [9, 21] (fun x i wr => ∃ (k : Nat) (seen : Nat → Bool), k ≤ N ∧ i = .int .i64 (k : Int) ∧ Aside0 (Blk wr w.heap.size (bools seen) 133) ∧ Aside0 (isL a0 N (l2.drop k) seen = r) ∧ Aside0 (Below w.heap.size w wr)) (fun _ i _ => N - (intOf i).toNat)
   case atStart => exact ⟨0, _, Nat.zero_le _, rfl, HB0, HR, HW0⟩
   case round =>
    obtain ⟨k, seen, hk, rfl, HB, HI, HW⟩ := hrel
    by_cases hlt : k < N
    ·have hi0 : (0 : Int) ≤ (k : Int) := by omega
     have hi1 : (k : Int) < (N : Int) := by omega
     obtain ⟨ad', e, hc⟩ := Kd.at_int (Kd.C_below HC.out HW.out) (k : Int) hi0 (by have := HL.out; omega)
     cases e
     rw [rd_nth, Int.toNat_natCast] at hc
     have hdr := drop_nth l2 k (by have := HL.out; omega)
     have hI := HI.out
     rw [hdr, isL] at hI
     obtain ⟨x, hx⟩ : ∃ x, nth l2 k = x := ⟨_, rfl⟩
     rw [hx] at hc hI
     obtain ⟨y, hy⟩ : ∃ y, absS a0 N x = y := ⟨_, rfl⟩
     rw [hy] at hI
     have HY := Aside0.mk hy
     have HI2 := Aside0.mk hI
     have hwt : IntKind.i64.wrap ((k : Int) + 1) = ((k + 1 : Nat) : Int) := by rw [iw64 (by omega) (by omega)]; omega
     clear hI hy hdr hx HI
     go_upto_region 7 with fail
     obtain ⟨tb, htb⟩ : ∃ tb, decide (a0 = true ∧ x < 0 ∧ -(N : Int) ≤ x) = tb := ⟨_, rfl⟩
     have HT := Aside0.mk htb
     clear htb
     go_cut [36] (fun v wc => v = .bool tb ∧ wc = wr)
     case first =>
      have hT := HT.out
      cases a0
      ·rw [decide_eq_false (by simp)] at hT
       subst hT
       go_wp2
       go_meet
       case rel => exact ⟨rfl, rfl⟩
      ·by_cases h1 : x < 0
       ·by_cases h2 : -(N : Int) ≤ x
        ·have h2b : -x ≤ (N : Int) := by omega
         rw [decide_eq_true ⟨rfl, h1, h2⟩] at hT
         subst hT
         go_wp2
         go_meet
         case rel => exact ⟨rfl, rfl⟩
        ·have h2b : ¬ -x ≤ (N : Int) := by omega
         rw [decide_eq_false (by omega)] at hT
         subst hT
         go_wp2
         go_meet
         case rel => exact ⟨rfl, rfl⟩
       ·rw [decide_eq_false (by omega)] at hT
        subst hT
        go_wp2
        go_meet
        case rel => exact ⟨rfl, rfl⟩
     case rest =>
     obtain ⟨rfl, rfl⟩ := hcut
     go_upto_if 36 with fail
     go_cut [9] (fun v wd => v = .int .i64 y ∧ wd = wc)
     case first =>
      have hY := HY.out
      unfold absS at hY
      have hT := HT.out
      by_cases ht : a0 = true ∧ x < 0 ∧ -(N : Int) ≤ x
      ·rw [decide_eq_true ht] at hT
       rw [if_pos ht] at hY
       subst hT
       have h1 := ht.2.1
       have h2 := ht.2.2
       clear ht
       go_wp2
       go_meet
       case rel => exact ⟨rfl, rfl⟩
      ·rw [decide_eq_false ht] at hT
       rw [if_neg ht] at hY
       subst hT
       subst hY
       clear ht
       go_wp2
       go_meet
       case rel => exact ⟨rfl, rfl⟩
     case rest =>
      obtain ⟨rfl, rfl⟩ := hcut
      by_cases h1 : y < 1
      ·have hI := HI2.out
       rw [if_pos (.inl h1)] at hI
       subst hI
       go_wp2
       go_ret
       exact ⟨rfl, HW.out⟩
      ·by_cases h2 : (N : Int) < y
       ·have hI := HI2.out
        rw [if_pos (.inr (.inl h2))] at hI
        subst hI
        go_wp2
        go_ret
        exact ⟨rfl, HW.out⟩
       ·obtain ⟨yn, rfl⟩ := Int.eq_ofNat_of_zero_le (show 0 ≤ y by omega)
        have hg := HB.out.cell yn (arr_get Value.bool 41 seen yn (by omega))
        have hf := HB.out.free yn
        by_cases h3 : seen yn = true
        ·have hI := HI2.out
         rw [if_pos (.inr (.inr (by rw [Int.toNat_natCast]; exact h3)))] at hI
         subst hI
         rw [h3] at hg
         go_wp2
         go_ret
         exact ⟨rfl, HW.out⟩
        ·have hI := HI2.out
         rw [if_neg (by rw [Int.toNat_natCast]; rintro (h | h | h) <;> first | omega | exact h3 h), Int.toNat_natCast] at hI
         have HI3 := Aside0.mk hI
         rw [Bool.not_eq_true] at h3
         rw [h3] at hg
         have h40 : (yn : Int) < 41 := by omega
         clear hI h3 HI2
         go_wp2
         go_roundw
         case rel => exact ⟨k + 1, upd seen yn true, by omega, rfl, ⟨by unfold bools; rw [← arr_set Value.bool 41 seen yn true (by omega)]; exact HB.out.set yn _⟩, HI3, ⟨HW.out.setCell (Nat.le_refl _) _⟩⟩
         case measure => simp [intOf]; omega
    ·have hI := HI.out
     rw [List.drop_of_length_le (by have := HL.out; omega), isL] at hI
     subst hI
     go_wp2
     go_ret
     exact ⟨rfl, HW.out⟩
end Go.Proofs.Ytepjhdblmghckaa.G

namespace Go.Proofs.Ytepjhdblmghckaa.G
end Go.Proofs.Ytepjhdblmghckaa.G
namespace Go.Proofs.Ytepjhdblmghckaa.Q
open Go.Proofs.Ytepjhdblmghckaa.G
open Go.RowKit Go.Proofs.YtepjhdblmghckaaW.PrintWords Go.Proofs.YtepjhdblmghckaaW.PrintLast Go.Proofs.YtepjhdblmghckaaW.PrintMore
attribute [local go_sem] max2_int min2_int max_two min_two max_three min_three max_four min_four
set_option linter.unusedVariables false
set_option linter.unusedSimpArgs false
def pancake_check.l0 : Nat → Bool → Int → List (List Int) → List (List Int) → Int → Int → Option (Int)
 | 0, _, _, _, _, _, _ => none
 | k + 1, x0, x1, x2, x9, x10, x11 => if x11 < x10 then (if 0 ≤ x11 then (if x11 < (x9.length : Int) then ((pancake_isStack.f x0 x1 (rd_L1 x9 x11)).bind fun t293 => (if t293 = true then (pancake_check.l0 k x0 x1 x2 x9 x10 (wrap64 (x11 + 1))) else (some 70))) else (none)) else (none)) else (if (x2.length : Int) > 1 then (if 0 < (x2.length : Int) then (if 1 < (x2.length : Int) then (if ((rd_L1 x2 0).length : Int) = ((rd_L1 x2 1).length : Int) then (some 0) else (some 6)) else (none)) else (none)) else (some 0))
def pancake_check.f (k : Nat) (a0 : Bool) (a1 : Int) (l2 : List (List Int)) : Option (Int) := pancake_check.l0 k a0 a1 l2 l2 (l2.length : Int) 0
set_option maxHeartbeats 8000000 in
set_option maxRecDepth 100000 in
theorem pancake_check.calls (k : Nat) (a0 : Bool) (a1 : Int) (A2 : Option Addr) (c2 : Nat) (l2 : List (List Int)) (r : Int) (w : World) (hr2 : Kd.C (Kd.slice 3 (Kd.int .i64)) w A2 l2.length l2) (hc2 : l2.length ≤ c2) (h : pancake_check.f k a0 a1 l2 = some r) :
  Calls Try.prog 68 #[.bool a0, .int .i64 a1, .slice A2 l2.length c2] w fun e w' => e = .returned (.int .i64 r) ∧ Below w.heap.size w w' := by
 have HR2 := Aside0.mk hr2
 have HC2 := Aside0.mk hc2
 clear hr2 hc2
 have HB := Aside0.mk (Below.refl w.heap.size w)
 have H : (pancake_check.l0 k a0 a1 l2 l2 (l2.length : Int) 0) = some r := h
 clear h
 have H' := Aside0.mk H
 clear H
 go_enter Try.func68, Try.ntmps68
 go_wp2
 repeat (go_quiet (fail); try go_wp2)
 go_loopg [11] k (fun kq v11 w' => ∃ (x11_1 : Int), v11 = .int .i64 x11_1 ∧ Aside0 (pancake_check.l0 kq a0 a1 l2 l2 (l2.length : Int) x11_1 = some r) ∧ Aside0 (kq ≤ k) ∧ Aside0 (Below w.heap.size w w'))
 case atStart => exact ⟨(0), (by first | rfl | (simp; done) | (simp [*]; done)), H', ⟨Nat.le_refl _⟩, ⟨by repeat (first | (with_reducible first | exact HB.out | apply below_alloc | apply pw_below_drewN | apply below_drew1) | exact HB.out)⟩⟩
 case round =>
  clear H'
  obtain ⟨x11_1, rfl, HA, HK1, HB⟩ := hrel
  cases gk with
  | zero => exact absurd HA.out (by simp [pancake_check.l0])
  | succ k1 =>
   have H := HA.out
   clear HA
   simp only [pancake_check.l0] at H
   by_cases c4 : x11_1 < (l2.length : Int)
   ·rw [if_pos c4] at H
    have c4b0 : decide (x11_1 < (l2.length : Int)) = true := decide_eq_true c4
    clear c4
    by_cases c5 : 0 ≤ x11_1
    rotate_left
    ·rw [if_neg c5] at H
     exact absurd H (by simp)
    rw [if_pos c5] at H
    have c5b0 : decide (0 ≤ x11_1) = true := decide_eq_true c5
    clear c5
    by_cases c6 : x11_1 < (l2.length : Int)
    rotate_left
    ·rw [if_neg c6] at H
     exact absurd H (by simp)
    rw [if_pos c6] at H
    have c6b0 : decide (x11_1 < (l2.length : Int)) = true := decide_eq_true c6
    clear c6
    replace H := Option.bind_eq_some_iff.mp H
    obtain ⟨t293, A70, H⟩ := H
    replace H : (if t293 = true then (pancake_check.l0 k1 a0 a1 l2 l2 (l2.length : Int) (wrap64 (x11_1 + 1))) else (some 70)) = some r := H
    have A7 := Aside0.mk A70
    clear A70
    by_cases c8 : t293 = true
    ·subst c8
     have H1 : (pancake_check.l0 k1 a0 a1 l2 l2 (l2.length : Int) (wrap64 (x11_1 + 1))) = some r := by rw [if_pos rfl] at H; exact H
     clear H
     have H := H1
     clear H1
     have H' := Aside0.mk H
     clear H
     have p292 : 0 ≤ (x11_1 : Int) := of_decide_eq_true (by first | (with_reducible assumption) | assumption)
     have q292 : x11_1 < (l2.length : Int) := of_decide_eq_true (by first | (with_reducible assumption) | assumption)
     obtain ⟨ad292, A292_0, c292_0, e292, hx292_0, hl292_0, hi292_0⟩ := at_L1 HR2.out x11_1 p292 q292
     cases e292
     replace hx292_0 := (HB.out.cell (World.block_lt_of_cell? w _ hx292_0)).trans hx292_0
     have HR292_0 := Aside0.mk hi292_0
     have HC292_0 := Aside0.mk hl292_0
     clear hi292_0 hl292_0
     replace p292 := eq_true p292
     replace q292 := eq_true q292
     go_wp2_with (first|(go_at_call 83;(with_reducible refine (pancake_isStack.calls a0 a1 _ _ (rd_L1 l2 x11_1) true _ ?side1 ?side2 A7.out).mono ?_);(case side1 => repeat (first|exact (Kd.C_below HR292_0.out HB.out)|(with_reducible refine Kd.C_alloc ?_ _)|(with_reducible refine Kd.C_drewN ?_ _)|(with_reducible refine Kd.C_drew ?_)));(case side2 => exact HC292_0.out);rintro e w9 ⟨rfl, hb⟩;have n0_ := Aside0.mk (below_step (by repeat (first|(with_reducible first|exact HB.out|apply below_alloc|apply pw_below_drewN|apply below_drew1)|exact HB.out)) hb);clear HB;have HB := n0_;clear n0_;(try clear hb);(try clear hb2);(try clear hk);(try clear hi)))
     repeat (go_quiet (first|(go_at_call 83;(with_reducible refine (pancake_isStack.calls a0 a1 _ _ (rd_L1 l2 x11_1) true _ ?side1 ?side2 A7.out).mono ?_);(case side1 => repeat (first|exact (Kd.C_below HR292_0.out HB.out)|(with_reducible refine Kd.C_alloc ?_ _)|(with_reducible refine Kd.C_drewN ?_ _)|(with_reducible refine Kd.C_drew ?_)));(case side2 => exact HC292_0.out);rintro e w9 ⟨rfl, hb⟩;have n0_ := Aside0.mk (below_step (by repeat (first|(with_reducible first|exact HB.out|apply below_alloc|apply pw_below_drewN|apply below_drew1)|exact HB.out)) hb);clear HB;have HB := n0_;clear n0_;(try clear hb);(try clear hb2);(try clear hk);(try clear hi)));try go_wp2_with (first|(go_at_call 83;(with_reducible refine (pancake_isStack.calls a0 a1 _ _ (rd_L1 l2 x11_1) true _ ?side1 ?side2 A7.out).mono ?_);(case side1 => repeat (first|exact (Kd.C_below HR292_0.out HB.out)|(with_reducible refine Kd.C_alloc ?_ _)|(with_reducible refine Kd.C_drewN ?_ _)|(with_reducible refine Kd.C_drew ?_)));(case side2 => exact HC292_0.out);rintro e w9 ⟨rfl, hb⟩;have n0_ := Aside0.mk (below_step (by repeat (first|(with_reducible first|exact HB.out|apply below_alloc|apply pw_below_drewN|apply below_drew1)|exact HB.out)) hb);clear HB;have HB := n0_;clear n0_;(try clear hb);(try clear hb2);(try clear hk);(try clear hi))))
     go_roundg k1
     case measure => have := HK1.out; omega
     case rel => exact ⟨(wrap64 (x11_1 + 1)), (by first | rfl | (simp; done) | (simp [*]; done)), H', ⟨by have := HK1.out; omega⟩, ⟨by repeat (first | (with_reducible first | exact HB.out | apply below_alloc | apply pw_below_drewN | apply below_drew1) | exact HB.out)⟩⟩
    ·replace c8 := Bool.eq_false_iff.mpr c8
     subst c8
     have H1 : (some 70) = some r := by rw [if_neg (show ¬ (false = true) by decide)] at H; exact H
     clear H
     have H := H1
     clear H1
     obtain rfl := Option.some.inj H
     have p292 : 0 ≤ (x11_1 : Int) := of_decide_eq_true (by first | (with_reducible assumption) | assumption)
     have q292 : x11_1 < (l2.length : Int) := of_decide_eq_true (by first | (with_reducible assumption) | assumption)
     obtain ⟨ad292, A292_0, c292_0, e292, hx292_0, hl292_0, hi292_0⟩ := at_L1 HR2.out x11_1 p292 q292
     cases e292
     replace hx292_0 := (HB.out.cell (World.block_lt_of_cell? w _ hx292_0)).trans hx292_0
     have HR292_0 := Aside0.mk hi292_0
     have HC292_0 := Aside0.mk hl292_0
     clear hi292_0 hl292_0
     replace p292 := eq_true p292
     replace q292 := eq_true q292
     go_wp2_with (first|(go_at_call 83;(with_reducible refine (pancake_isStack.calls a0 a1 _ _ (rd_L1 l2 x11_1) false _ ?side1 ?side2 A7.out).mono ?_);(case side1 => repeat (first|exact (Kd.C_below HR292_0.out HB.out)|(with_reducible refine Kd.C_alloc ?_ _)|(with_reducible refine Kd.C_drewN ?_ _)|(with_reducible refine Kd.C_drew ?_)));(case side2 => exact HC292_0.out);rintro e w10 ⟨rfl, hb⟩;have n0_ := Aside0.mk (below_step (by repeat (first|(with_reducible first|exact HB.out|apply below_alloc|apply pw_below_drewN|apply below_drew1)|exact HB.out)) hb);clear HB;have HB := n0_;clear n0_;(try clear hb);(try clear hb2);(try clear hk);(try clear hi)))
     repeat (go_quiet (first|(go_at_call 83;(with_reducible refine (pancake_isStack.calls a0 a1 _ _ (rd_L1 l2 x11_1) false _ ?side1 ?side2 A7.out).mono ?_);(case side1 => repeat (first|exact (Kd.C_below HR292_0.out HB.out)|(with_reducible refine Kd.C_alloc ?_ _)|(with_reducible refine Kd.C_drewN ?_ _)|(with_reducible refine Kd.C_drew ?_)));(case side2 => exact HC292_0.out);rintro e w10 ⟨rfl, hb⟩;have n0_ := Aside0.mk (below_step (by repeat (first|(with_reducible first|exact HB.out|apply below_alloc|apply pw_below_drewN|apply below_drew1)|exact HB.out)) hb);clear HB;have HB := n0_;clear n0_;(try clear hb);(try clear hb2);(try clear hk);(try clear hi)));try go_wp2_with (first|(go_at_call 83;(with_reducible refine (pancake_isStack.calls a0 a1 _ _ (rd_L1 l2 x11_1) false _ ?side1 ?side2 A7.out).mono ?_);(case side1 => repeat (first|exact (Kd.C_below HR292_0.out HB.out)|(with_reducible refine Kd.C_alloc ?_ _)|(with_reducible refine Kd.C_drewN ?_ _)|(with_reducible refine Kd.C_drew ?_)));(case side2 => exact HC292_0.out);rintro e w10 ⟨rfl, hb⟩;have n0_ := Aside0.mk (below_step (by repeat (first|(with_reducible first|exact HB.out|apply below_alloc|apply pw_below_drewN|apply below_drew1)|exact HB.out)) hb);clear HB;have HB := n0_;clear n0_;(try clear hb);(try clear hb2);(try clear hk);(try clear hi))))
     go_ret
     exact ⟨by first | rfl | (simp [errW_none, errW_some] <;> rfl) | (simp [*, errW_none, errW_some] <;> rfl), by repeat (first | (with_reducible first | exact HB.out | apply below_alloc | apply pw_below_drewN | apply below_drew1) | exact HB.out)⟩
   ·rw [if_neg c4] at H
    have c4b0 : decide (x11_1 < (l2.length : Int)) = false := decide_eq_false c4
    clear c4
    by_cases c11 : (l2.length : Int) > 1
    ·rw [if_pos c11] at H
     have c11b0 : decide (1 < (l2.length : Int)) = true := decide_eq_true c11
     have c11b1 : decide (1 < l2.length) = true := decide_eq_true (by omega)
     clear c11
     by_cases c12 : 0 < (l2.length : Int)
     rotate_left
     ·rw [if_neg c12] at H
      exact absurd H (by simp)
     rw [if_pos c12] at H
     have c12b0 : decide (0 < (l2.length : Int)) = true := decide_eq_true c12
     have c12b1 : decide (0 < l2.length) = true := decide_eq_true (by omega)
     clear c12
     by_cases c13 : 1 < (l2.length : Int)
     rotate_left
     ·rw [if_neg c13] at H
      exact absurd H (by simp)
     rw [if_pos c13] at H
     have c13b0 : decide (1 < (l2.length : Int)) = true := decide_eq_true c13
     have c13b1 : decide (1 < l2.length) = true := decide_eq_true (by omega)
     clear c13
     by_cases c14 : ((rd_L1 l2 0).length : Int) = ((rd_L1 l2 1).length : Int)
     ·rw [if_pos c14] at H
      have c14b0 : (((rd_L1 l2 0).length : Int) == ((rd_L1 l2 1).length : Int)) = true := beq_iff_eq.mpr c14
      have c14b1 : (((rd_L1 l2 0).length : Int) != ((rd_L1 l2 1).length : Int)) = false := bne_eq_false_iff_eq.mpr c14
      have c14b2 : ((rd_L1 l2 0).length == (rd_L1 l2 1).length) = true := by first | simpa using c14 | (simp at c14 ⊢; omega)
      clear c14
      obtain rfl := Option.some.inj H
      have p294 : 0 ≤ (0 : Int) := (by omega)
      have q294 : 0 < (l2.length : Int) := of_decide_eq_true (by first | (with_reducible assumption) | assumption)
      obtain ⟨ad294, A294_0, c294_0, e294, hx294_0, hl294_0, hi294_0⟩ := at_L1 HR2.out 0 p294 q294
      cases e294
      have qi294 : (0 < l2.length) = True := eq_true (by omega)
      (try rw [show ((0 : Int)).toNat = 0 from rfl] at hx294_0)
      (try rw [Addr.add_zero'] at hx294_0)
      replace hx294_0 := (HB.out.cell (World.block_lt_of_cell? w _ hx294_0)).trans hx294_0
      have HR294_0 := Aside0.mk hi294_0
      have HC294_0 := Aside0.mk hl294_0
      clear hi294_0 hl294_0
      replace p294 := eq_true p294
      replace q294 := eq_true q294
      have p295 : 0 ≤ (1 : Int) := (by omega)
      have q295 : 1 < (l2.length : Int) := of_decide_eq_true (by first | (with_reducible assumption) | assumption)
      obtain ⟨ad295, A295_0, c295_0, e295, hx295_0, hl295_0, hi295_0⟩ := at_L1 HR2.out 1 p295 q295
      obtain rfl : ad294 = ad295 := (by injection e295)
      (try simp only [show (1 : Int).toNat = 1 from rfl, Nat.reduceMul, Nat.reduceEqDiff, Go.Addr.add, ↓reduceIte] at hx295_0)
      have qi295 : (1 < l2.length) = True := eq_true (by omega)
      (try rw [show ((1 : Int)).toNat = 1 from rfl] at hx295_0)
      replace hx295_0 := (HB.out.cell (World.block_lt_of_cell? w _ hx295_0)).trans hx295_0
      have HR295_0 := Aside0.mk hi295_0
      have HC295_0 := Aside0.mk hl295_0
      clear hi295_0 hl295_0
      replace p295 := eq_true p295
      replace q295 := eq_true q295
      go_wp2
      repeat (go_quiet (fail); try go_wp2)
      go_ret
      exact ⟨by first | rfl | (simp [errW_none, errW_some] <;> rfl) | (simp [*, errW_none, errW_some] <;> rfl), by repeat (first | (with_reducible first | exact HB.out | apply below_alloc | apply pw_below_drewN | apply below_drew1) | exact HB.out)⟩
     ·rw [if_neg c14] at H
      have c14b0 : (((rd_L1 l2 0).length : Int) == ((rd_L1 l2 1).length : Int)) = false := beq_eq_false_iff_ne.mpr c14
      have c14b1 : (((rd_L1 l2 0).length : Int) != ((rd_L1 l2 1).length : Int)) = true := bne_iff_ne.mpr c14
      have c14b2 : ((rd_L1 l2 0).length == (rd_L1 l2 1).length) = false := by first | simpa using c14 | (simp at c14 ⊢; omega)
      obtain rfl := Option.some.inj H
      have p294 : 0 ≤ (0 : Int) := (by omega)
      have q294 : 0 < (l2.length : Int) := of_decide_eq_true (by first | (with_reducible assumption) | assumption)
      obtain ⟨ad294, A294_0, c294_0, e294, hx294_0, hl294_0, hi294_0⟩ := at_L1 HR2.out 0 p294 q294
      cases e294
      have qi294 : (0 < l2.length) = True := eq_true (by omega)
      (try rw [show ((0 : Int)).toNat = 0 from rfl] at hx294_0)
      (try rw [Addr.add_zero'] at hx294_0)
      replace hx294_0 := (HB.out.cell (World.block_lt_of_cell? w _ hx294_0)).trans hx294_0
      have HR294_0 := Aside0.mk hi294_0
      have HC294_0 := Aside0.mk hl294_0
      clear hi294_0 hl294_0
      replace p294 := eq_true p294
      replace q294 := eq_true q294
      have p295 : 0 ≤ (1 : Int) := (by omega)
      have q295 : 1 < (l2.length : Int) := of_decide_eq_true (by first | (with_reducible assumption) | assumption)
      obtain ⟨ad295, A295_0, c295_0, e295, hx295_0, hl295_0, hi295_0⟩ := at_L1 HR2.out 1 p295 q295
      obtain rfl : ad294 = ad295 := (by injection e295)
      (try simp only [show (1 : Int).toNat = 1 from rfl, Nat.reduceMul, Nat.reduceEqDiff, Go.Addr.add, ↓reduceIte] at hx295_0)
      have qi295 : (1 < l2.length) = True := eq_true (by omega)
      (try rw [show ((1 : Int)).toNat = 1 from rfl] at hx295_0)
      replace hx295_0 := (HB.out.cell (World.block_lt_of_cell? w _ hx295_0)).trans hx295_0
      have HR295_0 := Aside0.mk hi295_0
      have HC295_0 := Aside0.mk hl295_0
      clear hi295_0 hl295_0
      replace p295 := eq_true p295
      replace q295 := eq_true q295
      go_wp2
      repeat (go_quiet (fail); try go_wp2)
      go_ret
      exact ⟨by first | rfl | (simp [errW_none, errW_some] <;> rfl) | (simp [*, errW_none, errW_some] <;> rfl), by repeat (first | (with_reducible first | exact HB.out | apply below_alloc | apply pw_below_drewN | apply below_drew1) | exact HB.out)⟩
    ·rw [if_neg c11] at H
     have c11b0 : decide (1 < (l2.length : Int)) = false := decide_eq_false c11
     have c11b1 : decide (1 < l2.length) = false := decide_eq_false (by omega)
     clear c11
     obtain rfl := Option.some.inj H
     go_wp2
     repeat (go_quiet (fail); try go_wp2)
     go_ret
     exact ⟨by first | rfl | (simp [errW_none, errW_some] <;> rfl) | (simp [*, errW_none, errW_some] <;> rfl), by repeat (first | (with_reducible first | exact HB.out | apply below_alloc | apply pw_below_drewN | apply below_drew1) | exact HB.out)⟩
end Go.Proofs.Ytepjhdblmghckaa.Q


namespace Go.Proofs.Ytepjhdblmghckaa.G
open Go.Proofs.Ytepjhdblmghckaa.Q Go.Proofs.Ytepjhdblmghckaa.K Go.Proofs.Ytepjhdblmghckaa.Bf
open Go.RowKit Go.Shelf Go.Proofs.YtepjhdblmghckaaW.PrintWords Go.Proofs.YtepjhdblmghckaaW.PrintLast Go.Proofs.YtepjhdblmghckaaW.PrintMore
set_option linter.unusedVariables false
theorem isL_mem (sg : Bool) (n : Nat) : ∀ (l : List Int) (seen : Nat → Bool), isL sg n l seen = true → ∀ x, x ∈ l → -(n : Int) ≤ x ∧ x ≤ n
 | [], _, _, x, hx => by cases hx
 | y :: r, seen, h, x, hx => by
  rw [isL] at h
  split at h
  ·cases h
  ·rename_i hn
   rcases List.mem_cons.1 hx with rfl | hx
   ·have h1 : ¬ absS sg n x < 1 := fun e => hn (.inl e)
    have h2 : ¬ (n : Int) < absS sg n x := fun e => hn (.inr (.inl e))
    unfold absS at h1 h2
    split at h1 <;> omega
   ·exact isL_mem sg n r _ h x hx
theorem isSt_len {sg : Bool} {most : Int} {l : List Int} (h : isSt sg most l = true) : 1 ≤ l.length ∧ (l.length : Int) ≤ most := by
 unfold isSt at h
 split at h
 ·cases h
 ·rename_i hn
  omega
theorem isSt_vs {sg : Bool} {most : Int} {l : List Int} (h : isSt sg most l = true) (hm : most ≤ 7) : Vs l.length l := by
 have hl := isSt_len h
 refine ⟨rfl, fun j => ?_⟩
 unfold isSt at h
 split at h
 ·cases h
 ·have hx := isL_mem sg l.length l _ h
  unfold nth
  by_cases hj : j < l.length
  ·have := hx (l.getD j 0) (by rw [List.getD_eq_getElem?_getD, List.getElem?_eq_getElem hj]; exact List.getElem_mem hj)
   omega
  ·rw [List.getD_eq_getElem?_getD, List.getElem?_eq_none (by omega)]
   simp
def chk2 (sg : Bool) (most : Int) (l0 l1 : List Int) : Int := if isSt sg most l0 = true then (if isSt sg most l1 = true then (if l0.length = l1.length then 0 else 6) else 70) else 70
theorem chk2_f (sg : Bool) (most : Int) (hm : most ≤ 40) (l0 l1 : List Int) : pancake_check.f 3 sg most [l0, l1] = some (chk2 sg most l0 l1) := by
 unfold pancake_check.f chk2
 have w1 : wrap64 (0 + 1) = 1 := w64 (by decide) (by decide)
 have w2 : wrap64 (1 + 1) = 2 := w64 (by decide) (by decide)
 simp only [pancake_check.l0, List.length_cons, List.length_nil, rd_L1, pancake_isStack.f, if_pos hm, Option.bind_some, w1, w2]
 by_cases h0 : isSt sg most l0 = true <;> by_cases h1 : isSt sg most l1 = true <;> by_cases h2 : l0.length = l1.length <;> simp [h0, h1, h2] <;> omega
theorem two_rows {W : World} {b t : Nat} {A0 A1 : Option Addr} {c0 c1 : Nat} {l0 l1 : List Int} (h : Blk W b #[.slice A0 l0.length c0, .slice A1 l1.length c1] t) (h0 : Kd.C (Kd.int .i64) W A0 l0.length l0) (hc0 : l0.length ≤ c0) (h1 : Kd.C (Kd.int .i64) W A1 l1.length l1) (hc1 : l1.length ≤ c1) :
  Kd.C (Kd.slice 3 (Kd.int .i64)) W (some ⟨b, 0, none⟩) [l0, l1].length [l0, l1] := by
 refine ⟨rfl, by simp, fun _ => ⟨_, rfl, fun j p hj => ?_⟩⟩
 match j, hj with
 | 0, hj =>
  cases hj
  refine ⟨[.slice A0 l0.length c0], rfl, ⟨A0, c0, rfl, hc0, h0⟩, fun i u hu => ?_⟩
  match i, hu with
  | 0, hu => cases hu; exact h.cell 0 rfl
  | i + 1, hu => simp at hu
 | 1, hj =>
  cases hj
  refine ⟨[.slice A1 l1.length c1], rfl, ⟨A1, c1, rfl, hc1, h1⟩, fun i u hu => ?_⟩
  match i, hu with
  | 0, hu => cases hu; exact h.cell 1 rfl
  | i + 1, hu => simp at hu
 | j + 2, hj => simp at hj
def pancake_Flips.f (l0 l1 : List Int) : Option (Int × Int) := some (if chk2 false 7 l0 l1 = 0 then ((gap l0.length false l1 l0 : Nat), 0) else (0, chk2 false 7 l0 l1))
set_option maxRecDepth 100000 in
set_option maxHeartbeats 4000000 in
theorem pancake_Flips.calls (A0 : Option Addr) (c0 : Nat) (l0 : List Int) (A1 : Option Addr) (c1 : Nat) (l1 : List Int) (r1 r2 : Int) (w : World) (hr0 : Kd.C (Kd.int .i64) w A0 l0.length l0) (hc0 : l0.length ≤ c0) (hr1 : Kd.C (Kd.int .i64) w A1 l1.length l1) (hc1 : l1.length ≤ c1) (h : pancake_Flips.f l0 l1 = some (r1, r2)) :
  Calls Try.prog 28 #[.slice A0 l0.length c0, .slice A1 l1.length c1] w fun e w' => e = .returned (.tuple #[.int .i64 r1, .int .i64 r2]) ∧ Below w.heap.size w w' := by
 obtain ⟨W0, hW0⟩ : ∃ W0, w.alloc (.cells #[.slice A0 l0.length c0, .slice A1 l1.length c1] 22) = W0 := ⟨_, rfl⟩
 have hB : Below w.heap.size w W0 := by rw [← hW0]; exact (Below.refl _ w).alloc (Nat.le_refl _) _
 have hk : Blk W0 w.heap.size #[.slice A0 l0.length c0, .slice A1 l1.length c1] 22 := by rw [← hW0]; exact Blk.new _ _ _
 have HC := Aside0.mk (pancake_check.calls 3 false 7 (some ⟨w.heap.size, 0, none⟩) 2 [l0, l1] (chk2 false 7 l0 l1) W0 (two_rows hk (Kd.C_below hr0 hB) hc0 (Kd.C_below hr1 hB) hc1) (Nat.le_refl _) (chk2_f false 7 (by decide) l0 l1))
 have HB := Aside0.mk hB
 have HR0 := Aside0.mk hr0
 have HR1 := Aside0.mk hr1
 obtain ⟨ce, hce⟩ : ∃ ce, chk2 false 7 l0 l1 = ce := ⟨_, rfl⟩
 unfold pancake_Flips.f at h
 rw [hce] at h HC
 have HCE := Aside0.mk hce
 clear hB hk hr0 hr1 hce
 go_enter Try.func28, Try.ntmps28
 by_cases he : ce = 0
 ·rw [if_pos he] at h
  subst he
  cases h
  have hst : isSt false 7 l0 = true ∧ isSt false 7 l1 = true ∧ l0.length = l1.length := by
   have h := HCE.out
   unfold chk2 at h
   by_cases h0 : isSt false 7 l0 = true <;> by_cases h1 : isSt false 7 l1 = true <;> by_cases h2 : l0.length = l1.length <;> simp [h0, h1, h2] at h
   exact ⟨h0, h1, h2⟩
  have v0 := isSt_vs hst.1 (by decide)
  have v1 := isSt_vs hst.2.1 (by decide)
  rw [← hst.2.2] at v1
  have hn : l0.length ≤ 7 := by have := (isSt_len hst.1).2; omega
  have HV0 := Aside0.mk v0
  have HV1 := Aside0.mk v1
  clear v0 v1 hst
  go_wp2_with (go_at_call 68; refine HC.out.mono ?_; rintro e w1 ⟨rfl, hb⟩; have HB1 := Aside0.mk (HB.out.trans (hb.mono HB.out.size)); clear hb)
  go_wp2_with (go_at_call 70; refine stopper ?_)
  unfold Hold
  refine (packed_calls A0 c0 l0 _ l0.length hn HV0.out (Kd.C_below HR0.out HB1.out)).mono ?_
  rintro e w2 ⟨rfl, hb⟩
  have HB2 := Aside0.mk (HB1.out.trans (hb.mono HB1.out.size))
  clear hb
  go_wp2_with (go_at_call 70; refine stopper ?_)
  unfold Hold
  refine (packed_calls A1 c1 l1 _ l0.length hn HV1.out (Kd.C_below HR1.out HB2.out)).mono ?_
  rintro e w3 ⟨rfl, hb⟩
  have HB3 := Aside0.mk (HB2.out.trans (hb.mono HB2.out.size))
  clear hb
  go_wp2_with (go_at_call 69; refine stopper ?_)
  unfold Hold
  refine (between_calls l0.length hn false l0 l1 HV0.out HV1.out _).mono ?_
  rintro e w4 ⟨rfl, hb⟩
  have HB4 := Aside0.mk (HB3.out.trans (hb.mono HB3.out.size))
  clear hb
  go_wp2
  refine bodyPost_ret (results_tmp2 rfl _ _ _) rfl ⟨rfl, HB4.out⟩
 ·rw [if_neg he] at h
  cases h
  go_wp2_with (go_at_call 68; refine HC.out.mono ?_; rintro e w1 ⟨rfl, hb⟩; have HB1 := Aside0.mk (HB.out.trans (hb.mono HB.out.size)); clear hb)
  refine bodyPost_ret (results_tmp2 rfl _ _ _) rfl ⟨rfl, HB1.out⟩
end Go.Proofs.Ytepjhdblmghckaa.G


namespace Go.Proofs.Ytepjhdblmghckaa.G
open Go.Proofs.Ytepjhdblmghckaa.Q Go.Proofs.Ytepjhdblmghckaa.K Go.Proofs.Ytepjhdblmghckaa.Bf
open Go.RowKit Go.Shelf Go.Proofs.YtepjhdblmghckaaW.PrintWords Go.Proofs.YtepjhdblmghckaaW.PrintLast Go.Proofs.YtepjhdblmghckaaW.PrintMore
set_option linter.unusedVariables false
def chk1 (sg : Bool) (most : Int) (l0 : List Int) : Int := if isSt sg most l0 = true then 0 else 70
theorem chk1_f (sg : Bool) (most : Int) (hm : most ≤ 40) (l0 : List Int) : pancake_check.f 2 sg most [l0] = some (chk1 sg most l0) := by
 unfold pancake_check.f chk1
 have w1 : wrap64 (0 + 1) = 1 := w64 (by decide) (by decide)
 simp only [pancake_check.l0, List.length_cons, List.length_nil, rd_L1, pancake_isStack.f, if_pos hm, Option.bind_some, w1]
 by_cases h0 : isSt sg most l0 = true <;> simp [h0]
theorem one_row {W : World} {b t : Nat} {A0 : Option Addr} {c0 : Nat} {l0 : List Int} (h : Blk W b #[.slice A0 l0.length c0] t) (h0 : Kd.C (Kd.int .i64) W A0 l0.length l0) (hc0 : l0.length ≤ c0) :
  Kd.C (Kd.slice 3 (Kd.int .i64)) W (some ⟨b, 0, none⟩) [l0].length [l0] := by
 refine ⟨rfl, by simp, fun _ => ⟨_, rfl, fun j p hj => ?_⟩⟩
 match j, hj with
 | 0, hj =>
  cases hj
  refine ⟨[.slice A0 l0.length c0], rfl, ⟨A0, c0, rfl, hc0, h0⟩, fun i u hu => ?_⟩
  match i, hu with
  | 0, hu => cases hu; exact h.cell 0 rfl
  | i + 1, hu => simp at hu
 | j + 1, hj => simp at hj
set_option maxHeartbeats 4000000 in
theorem check58_one (A0 : Option Addr) (c0 : Nat) (l0 : List Int) (w : World) (hr0 : Kd.C (Kd.int .i64) w A0 l0.length l0) (hc0 : l0.length ≤ c0) :
  Calls Try.prog 58 #[.slice A0 l0.length c0] w fun e w' => e = .returned (.int .i64 (chk1 false 7 l0)) ∧ Below w.heap.size w w' := by
 obtain ⟨W0, hW0⟩ : ∃ W0, w.alloc (.cells #[.slice A0 l0.length c0] 22) = W0 := ⟨_, rfl⟩
 have hB : Below w.heap.size w W0 := by rw [← hW0]; exact (Below.refl _ w).alloc (Nat.le_refl _) _
 have hk : Blk W0 w.heap.size #[.slice A0 l0.length c0] 22 := by rw [← hW0]; exact Blk.new _ _ _
 have HC := Aside0.mk (pancake_check.calls 2 false 7 (some ⟨w.heap.size, 0, none⟩) 1 [l0] (chk1 false 7 l0) W0 (one_row hk (Kd.C_below hr0 hB) hc0) (Nat.le_refl _) (chk1_f false 7 (by decide) l0))
 have HB := Aside0.mk hB
 clear hB hk hr0
 go_enter Try.func58, Try.ntmps58
 go_wp2_with (go_at_call 68; refine HC.out.mono ?_; rintro e w1 ⟨rfl, hb⟩; have HB1 := Aside0.mk (HB.out.trans (hb.mono HB.out.size)); clear hb)
 go_ret
 exact ⟨rfl, HB1.out⟩
end Go.Proofs.Ytepjhdblmghckaa.G


namespace Go.Proofs.Ytepjhdblmghckaa.G
open Go.Proofs.Ytepjhdblmghckaa.Q Go.Proofs.Ytepjhdblmghckaa.K Go.Proofs.Ytepjhdblmghckaa.Bf
open Go.RowKit Go.Shelf Go.Proofs.YtepjhdblmghckaaW.PrintWords Go.Proofs.YtepjhdblmghckaaW.PrintLast Go.Proofs.YtepjhdblmghckaaW.PrintMore
set_option linter.unusedVariables false
theorem nth_mem {l : List Int} {B : Int} (hB : 0 ≤ B) (h : ∀ x, x ∈ l → -B ≤ x ∧ x ≤ B) (p : Nat) : -B ≤ nth l p ∧ nth l p ≤ B := by
 by_cases hp : p < l.length
 ·have := h (l.getD p 0) (by rw [List.getD_eq_getElem?_getD, List.getElem?_eq_getElem hp]; exact List.getElem_mem hp)
  unfold nth
  exact this
 ·rw [nth_end _ _ (by omega)]; omega
theorem flippedR_calls {W : World} {base : Nat} {ok : Nat → Prop} {v : Value} {l : List Int} (sg : Bool) (h : Kd.R (Kd.int .i64) 3 W base ok v l) (i k : Nat) (hik : i ≤ k) (hk : k < l.length) (hn : l.length ≤ 1000) (hm : ∀ x, x ∈ l → -100 ≤ x ∧ x ≤ 100) :
  Calls Try.prog 75 #[v, .int .i64 (i : Int), .int .i64 (k : Int), .bool sg] W fun e w' => e = .returned (.tuple #[]) ∧ Kd.R (Kd.int .i64) 3 w' base ok v (flL sg l i k) ∧ Below base W w' := by
 have ho := Kd.own_of_R h
 rcases ho.2 with ⟨_, h0⟩ | ⟨g, cap, cur, rfl, hb, hh, hnc, hcm, hsz, htake⟩
 ·omega
 ·have hrow : Row .i64 W g 3 l.length cur (nth l) := by
   refine ⟨hh, by omega, fun p hp => ?_⟩
   have h1 := congrArg (fun z => z[p]?) htake
   simp only [Nat.mul_one] at h1
   rw [List.getElem?_take, if_pos hp] at h1
   rw [← Array.getElem?_toList, h1]
   unfold encs
   rw [List.getElem?_map, List.getElem?_eq_getElem hp]
   simp [nth, hp]
  refine (flipped64_calls (c := cap) sg hrow hik hk (by omega) hnc (fun p => nth_mem (by decide) hm p)).mono ?_
  rintro e w' ⟨rfl, cs', hr', _, hz', ha⟩
  refine ⟨rfl, ?_, ⟨ha.os, ha.tape, ha.output, by rw [ha.size]; exact Nat.le_refl _, fun j hj => ha.other j (by omega)⟩⟩
  have hl : (flL sg l i k).length = l.length := flL_len sg l i k
  have hown : w'.ownsRow base 3 1 (.slice (some ⟨g, 0, none⟩) l.length cap) (flL sg l i k).length (encs (Value.int .i64) (flL sg l i k)) := by
   rw [hl]
   refine ⟨by simp [encs, hl], .inr ⟨g, cap, cs', rfl, hb, hr'.blk, hnc, hcm, by rw [hz', hsz], ?_⟩⟩
   apply List.ext_getElem?
   intro p
   rw [Nat.mul_one, List.getElem?_take]
   by_cases hp : p < l.length
   ·rw [if_pos hp, Array.getElem?_toList, hr'.val p hp]
    unfold encs
    rw [List.getElem?_map, List.getElem?_eq_getElem (by rw [hl]; exact hp), Option.map_some]
    congr 2
    rw [← nth_flL sg l i k hk]
    simp [nth, hl, hp]
   ·rw [if_neg hp, List.getElem?_eq_none (by simp [encs, hl]; omega)]
  exact Kd.R_of_own hown h.1
def small (l : List Int) : Bool := decide (0 < l.length) && decide (l.length ≤ 40) && l.all (fun x => decide (-100 ≤ x) && decide (x ≤ 100))
theorem small_ok {l : List Int} (h : small l = true) : 0 < l.length ∧ l.length ≤ 40 ∧ ∀ x, x ∈ l → -100 ≤ x ∧ x ≤ 100 := by
 unfold small at h
 simp only [Bool.and_eq_true, decide_eq_true_eq, List.all_eq_true] at h
 exact ⟨h.1.1, h.1.2, h.2⟩
def pancake_topFlipped.f (l : List Int) (k : Int) (sg : Bool) : Option (List Int × Int) := if small l = true then some (if k < 1 ∨ (l.length : Int) < k then ([], 1) else (flL sg l 0 (k.toNat - 1), 0)) else none
set_option maxRecDepth 100000 in
set_option maxHeartbeats 4000000 in
theorem pancake_topFlipped.calls (A0 : Option Addr) (c0 : Nat) (l0 : List Int) (a1 : Int) (a2 : Bool) (r1 : List Int) (r2 : Int) (w : World) (hr0 : Kd.C (Kd.int .i64) w A0 l0.length l0) (hc0 : l0.length ≤ c0) (h : pancake_topFlipped.f l0 a1 a2 = some (r1, r2)) :
  Calls Try.prog 71 #[.slice A0 l0.length c0, .int .i64 a1, .bool a2] w fun e w' => ∃ v0_ : Value, e = .returned (.tuple #[v0_, .int .i64 r2]) ∧ Kd.R (Kd.int .i64) 3 w' w.heap.size (fun _ => True) v0_ r1 ∧ Below w.heap.size w w' := by
 unfold pancake_topFlipped.f at h
 split at h
 ·rename_i hs
  obtain ⟨hs1, hs2, hs3⟩ := small_ok hs
  have HC := Aside0.mk (slices_Clone_int_int.calls A0 c0 l0 l0 w hr0 hc0 (by unfold slices_Clone_int_int.f; rw [if_pos ⟨hs1, by omega⟩]))
  have HS := Aside0.mk hs3
  clear hs hs3 hr0
  by_cases h1 : a1 < 1
  ·rw [if_pos (.inl h1)] at h
   cases h
   go_enter Try.func71, Try.ntmps71
   go_wp2
   refine bodyPost_ret (results_tmp2 rfl _ _ _) rfl ⟨_, rfl, Kd.R_nil _ _ _ _ _, Below.refl _ _⟩
  ·by_cases h2 : (l0.length : Int) < a1
   ·rw [if_pos (.inr h2)] at h
    cases h
    go_enter Try.func71, Try.ntmps71
    go_wp2
    refine bodyPost_ret (results_tmp2 rfl _ _ _) rfl ⟨_, rfl, Kd.R_nil _ _ _ _ _, Below.refl _ _⟩
   ·rw [if_neg (by rintro (h | h) <;> omega)] at h
    cases h
    obtain ⟨q, hq⟩ : ∃ q : Nat, a1 = ((q + 1 : Nat) : Int) := ⟨(a1 - 1).toNat, by omega⟩
    subst hq
    have hw1 : IntKind.i64.wrap (((q + 1 : Nat) : Int) - 1) = (q : Int) := by rw [iw64 (by omega) (by omega)]; omega
    have e1 : ((q + 1 : Nat) : Int).toNat - 1 = q := by omega
    rw [e1]
    have hql : q < l0.length := by omega
    go_enter Try.func71, Try.ntmps71
    go_wp2_with (go_at_call 74; refine stopper ?_)
    unfold Hold
    refine HC.out.mono ?_
    rintro e w1 ⟨v1, rfl, hv1, hb1⟩
    have HF := Aside0.mk (flippedR_calls a2 hv1 0 q (Nat.zero_le _) hql (by omega) HS.out)
    have HB1 := Aside0.mk hb1
    clear hv1 hb1
    go_wp2_with (go_at_call 75; refine stopper ?_)
    unfold Hold
    refine HF.out.mono ?_
    rintro e w2 ⟨rfl, hv2, hb2⟩
    have HV2 := Aside0.mk hv2
    have HB2 := Aside0.mk (HB1.out.trans hb2)
    clear hv2 hb2
    go_wp2
    refine bodyPost_ret (results_tmp2 rfl _ _ _) rfl ⟨_, rfl, HV2.out, HB2.out⟩
 ·cases h
set_option maxHeartbeats 4000000 in
theorem check55_one (A0 : Option Addr) (c0 : Nat) (l0 : List Int) (w : World) (hr0 : Kd.C (Kd.int .i64) w A0 l0.length l0) (hc0 : l0.length ≤ c0) :
  Calls Try.prog 55 #[.slice A0 l0.length c0] w fun e w' => e = .returned (.int .i64 (chk1 true 40 l0)) ∧ Below w.heap.size w w' := by
 obtain ⟨W0, hW0⟩ : ∃ W0, w.alloc (.cells #[.slice A0 l0.length c0] 22) = W0 := ⟨_, rfl⟩
 have hB : Below w.heap.size w W0 := by rw [← hW0]; exact (Below.refl _ w).alloc (Nat.le_refl _) _
 have hk : Blk W0 w.heap.size #[.slice A0 l0.length c0] 22 := by rw [← hW0]; exact Blk.new _ _ _
 have HC := Aside0.mk (pancake_check.calls 2 true 40 (some ⟨w.heap.size, 0, none⟩) 1 [l0] (chk1 true 40 l0) W0 (one_row hk (Kd.C_below hr0 hB) hc0) (Nat.le_refl _) (chk1_f true 40 (by decide) l0))
 have HB := Aside0.mk hB
 clear hB hk hr0
 go_enter Try.func55, Try.ntmps55
 go_wp2_with (go_at_call 68; refine HC.out.mono ?_; rintro e w1 ⟨rfl, hb⟩; have HB1 := Aside0.mk (HB.out.trans (hb.mono HB.out.size)); clear hb)
 go_ret
 exact ⟨rfl, HB1.out⟩
theorem isSt_small {sg : Bool} {most : Int} {l : List Int} (h : isSt sg most l = true) (hm : most ≤ 40) : 0 < l.length ∧ l.length ≤ 40 ∧ ∀ x, x ∈ l → -100 ≤ x ∧ x ≤ 100 := by
 have hl := isSt_len h
 refine ⟨by omega, by omega, fun x hx => ?_⟩
 unfold isSt at h
 split at h
 ·cases h
 ·have := isL_mem sg l.length l _ h x hx
  omega
end Go.Proofs.Ytepjhdblmghckaa.G


namespace Go.Proofs.Ytepjhdblmghckaa.G
open Go.Proofs.Ytepjhdblmghckaa.Q Go.Proofs.Ytepjhdblmghckaa.K Go.Proofs.Ytepjhdblmghckaa.Bf
open Go.RowKit Go.Shelf Go.Proofs.YtepjhdblmghckaaW.PrintWords Go.Proofs.YtepjhdblmghckaaW.PrintLast Go.Proofs.YtepjhdblmghckaaW.PrintMore
set_option linter.unusedVariables false
theorem info57 : (Try.prog.info? 57).map (fun i => (i.zero, i.size, i.bytes)) = some (some (.agg #[(.int .i64 0), (.int .i64 0)]), 2, 16) := by kernel_rfl
end Go.Proofs.Ytepjhdblmghckaa.G


namespace Go.Proofs.Ytepjhdblmghckaa.G
open Go.Proofs.Ytepjhdblmghckaa.Q Go.Proofs.Ytepjhdblmghckaa.K Go.Proofs.Ytepjhdblmghckaa.Bf
open Go.RowKit Go.Shelf Go.Proofs.YtepjhdblmghckaaW.PrintWords Go.Proofs.YtepjhdblmghckaaW.PrintLast Go.Proofs.YtepjhdblmghckaaW.PrintMore
set_option linter.unusedVariables false
theorem isL_nz (sg : Bool) (n : Nat) : ∀ (l : List Int) (seen : Nat → Bool), isL sg n l seen = true → ∀ x, x ∈ l → x ≠ 0 ∧ -(n : Int) ≤ x ∧ x ≤ n
 | [], _, _, x, hx => by cases hx
 | y :: r, seen, h, x, hx => by
  rw [isL] at h
  split at h
  ·cases h
  ·rename_i hn
   rcases List.mem_cons.1 hx with rfl | hx
   ·have h1 : ¬ absS sg n x < 1 := fun e => hn (.inl e)
    have h2 : ¬ (n : Int) < absS sg n x := fun e => hn (.inr (.inl e))
    unfold absS at h1 h2
    split at h1 <;> omega
   ·exact isL_nz sg n r _ h x hx
def pic1 (x : Int) : List Int := if x > 0 then [2 * x - 1, 2 * x] else [-2 * x, -2 * x - 1]
def picTo (s : List Int) : List Int := 0 :: s.flatMap pic1
def picL (s : List Int) : List Int := picTo s ++ [2 * (s.length : Int) + 1]
theorem picTo_len (s : List Int) : (picTo s).length = 1 + 2 * s.length := by
 unfold picTo
 rw [List.length_cons, List.length_flatMap]
 have : s.map (fun x => (pic1 x).length) = List.replicate s.length 2 := by
  rw [List.eq_replicate_iff]
  refine ⟨by simp, fun b hb => ?_⟩
  obtain ⟨x, _, rfl⟩ := List.mem_map.1 hb
  unfold pic1; split <;> rfl
 rw [this, List.sum_replicate_nat]
 omega
theorem picTo_step (s : List Int) (k : Nat) (h : k < s.length) : picTo (s.take k) ++ pic1 (nth s k) = picTo (s.take (k + 1)) := by
 unfold picTo
 rw [List.take_succ_eq_append_getElem h, List.flatMap_append, List.cons_append]
 congr 2
 simp [nth, h]
theorem two_lit (W : World) (a b : Int) : ReadsRow (fun x cs => (Kd.int .i64).M (W.alloc (.cells #[.int .i64 a, .int .i64 b] 3)) 0 (fun _ => False) x cs) (Kd.int .i64).sz (W.alloc (.cells #[.int .i64 a, .int .i64 b] 3)) (some ⟨W.heap.size, 0, none⟩) 2 [a, b] := by
 have hb := Blk.new W #[.int .i64 a, .int .i64 b] 3
 refine ⟨rfl, by omega, fun _ => ⟨_, rfl, fun j p hj => ?_⟩⟩
 match j, hj with
 | 0, hj => cases hj; exact ⟨[.int .i64 a], rfl, rfl, fun i u hu => by match i, hu with | 0, hu => cases hu; exact hb.cell 0 rfl | i + 1, hu => simp at hu⟩
 | 1, hj => cases hj; exact ⟨[.int .i64 b], rfl, rfl, fun i u hu => by match i, hu with | 0, hu => cases hu; exact hb.cell 1 rfl | i + 1, hu => simp at hu⟩
 | j + 2, hj => simp at hj
theorem one_lit (W : World) (a : Int) (base : Nat) (ok : Nat → Prop) (hb : base ≤ W.heap.size) (hok : ok W.heap.size) : Kd.R (Kd.int .i64) 3 (W.alloc (.cells #[.int .i64 a] 3)) base ok (.slice (some ⟨W.heap.size, 0, none⟩) 1 1) [a] := by
 refine Kd.R_of_own ?_ (fun k hk => ?_)
 ·exact World.ownsRow_lit (base := base) (e := 3) (size := 1) W #[.int .i64 a] 1 hb (by decide) rfl
 ·have : W.heap.size = k := by simpa [Value.ownBlock] using hk
  rw [← this]; exact hok
def plTo (p : List Int) (k : Nat) : List Int := (List.range k).foldl (fun P (at_ : Nat) => P.set (nth p at_).toNat (at_ : Int)) (List.replicate p.length 0)
theorem plTo_step (p : List Int) (k : Nat) : plTo p (k + 1) = (plTo p k).set (nth p k).toNat (k : Int) := by
 unfold plTo
 rw [List.range_succ, List.foldl_append]
 rfl
theorem plTo_len (p : List Int) (k : Nat) : (plTo p k).length = p.length := by
 induction k with
 | zero => simp [plTo]
 | succ k ih => rw [plTo_step, List.length_set, ih]
def plL (s : List Int) : List Int := plTo (picL s) (picL s).length
theorem picL_len (s : List Int) : (picL s).length = 2 * s.length + 2 := by
 unfold picL
 rw [List.length_append, picTo_len]
 simp
 omega
theorem picL_range (s : List Int) (h : ∀ x, x ∈ s → x ≠ 0 ∧ -(s.length : Int) ≤ x ∧ x ≤ s.length) : ∀ p, 0 ≤ nth (picL s) p ∧ nth (picL s) p < 2 * (s.length : Int) + 2 := by
 have hall : ∀ y, y ∈ picL s → 0 ≤ y ∧ y < 2 * (s.length : Int) + 2 := fun y hy => by
  unfold picL picTo at hy
  rcases List.mem_append.1 hy with hy | hy
  ·rcases List.mem_cons.1 hy with rfl | hy
   ·omega
   ·obtain ⟨x, hx, hy⟩ := List.mem_flatMap.1 hy
    have := h x hx
    unfold pic1 at hy
    split at hy <;> simp at hy <;> omega
  ·simp at hy; omega
 intro p
 by_cases hp : p < (picL s).length
 ·have := hall ((picL s).getD p 0) (by rw [List.getD_eq_getElem?_getD, List.getElem?_eq_getElem hp]; exact List.getElem_mem hp)
  exact this
 ·rw [nth_end _ _ (by omega)]; omega
def PicOk (base b : Nat) (s : List Int) (W : World) : Prop :=
 ∃ A c A2 c2, Blk W b #[.slice A (2 * s.length + 2) c, .slice A2 (2 * s.length + 2) c2] 96 ∧
  Kd.R (Kd.int .i64) 3 W base (fun j => j ≠ b) (.slice A (2 * s.length + 2) c) (picL s) ∧
  Kd.R (Kd.int .i64) 3 W base (fun j => j ≠ b ∧ some j ≠ (Value.slice A (2 * s.length + 2) c).ownBlock) (.slice A2 (2 * s.length + 2) c2) (plL s)
structure PicI (w : World) (s : List Int) (k : Nat) (v : Value) (W : World) : Prop where
 blk : Blk W (w.heap.size + 1) #[v, .slice none 0 0] 96
 row : Kd.R (Kd.int .i64) 3 W w.heap.size (fun j => j ≠ w.heap.size + 1) v (picTo (s.take k))
 below : Below w.heap.size w W
set_option maxRecDepth 100000 in
set_option maxHeartbeats 8000000 in
theorem pictured_calls (A0 : Option Addr) (c0 : Nat) (s : List Int) (w : World) (hr0 : Kd.C (Kd.int .i64) w A0 s.length s) (hs : s.length ≤ 40) (hm0 : ∀ x, x ∈ s → x ≠ 0 ∧ -(s.length : Int) ≤ x ∧ x ≤ s.length) :
  Calls Try.prog 60 #[.slice A0 s.length c0] w fun e w' => e = .returned (.pointer (some ⟨w.heap.size + 1, 0, none⟩)) ∧ PicOk w.heap.size (w.heap.size + 1) s w' ∧ Below w.heap.size w w' := by
 have hm : ∀ x, x ∈ s → -100 ≤ x ∧ x ≤ 100 := fun x hx => by have := hm0 x hx; omega
 have HPT := Aside0.mk (picL_range s hm0)
 have HC := Aside0.mk hr0
 have HM := Aside0.mk hm
 obtain ⟨n, hn⟩ : ∃ n, s.length = n := ⟨_, rfl⟩
 rw [hn] at hs ⊢
 have HN := Aside0.mk hn
 clear hr0 hm hn
 have hL := one_lit w 0 w.heap.size (fun j => j ≠ w.heap.size + 1) (Nat.le_refl _) (by omega)
 have HI0 := Aside0.mk (show PicI w s 0 (.slice (some ⟨w.heap.size, 0, none⟩) 1 1) ((w.alloc (.cells #[.int .i64 0] 3)).alloc (.cells #[.slice (some ⟨w.heap.size, 0, none⟩) 1 1, .slice none 0 0] 96)) from
  ⟨by
   have := Blk.new (w.alloc (.cells #[.int .i64 0] 3)) #[.slice (some ⟨w.heap.size, 0, none⟩) 1 1, .slice none 0 0] 96
   rw [World.size_alloc] at this
   exact this, Kd.R_alloc hL _, ((Below.refl _ w).alloc (Nat.le_refl _) _).alloc (by simp) _⟩)
 clear hL
 go_enter Try.func60, Try.ntmps60
 go_wp2
 go_loopw [13] (fun i wr => ∃ (k : Nat) (v : Value), k ≤ n ∧ i = .int .i64 (k : Int) ∧ Aside0 (PicI w s k v wr)) (fun i _ => n - (intOf i).toNat)
 case atStart => exact ⟨0, _, Nat.zero_le _, rfl, HI0⟩
 case round =>
  obtain ⟨k, v, hk, rfl, HI⟩ := hrel
  by_cases hlt : k < n
  ·have hi0 : (0 : Int) ≤ (k : Int) := by omega
   have hi1 : (k : Int) < (n : Int) := by omega
   obtain ⟨ad', e, hc⟩ := Kd.at_int (Kd.C_below HC.out HI.out.below) (k : Int) hi0 (by have := HN.out; omega)
   cases e
   rw [rd_nth, Int.toNat_natCast] at hc
   have hx := nth_mem (B := 100) (by decide) HM.out k
   have HST := Aside0.mk (picTo_step s k (by rw [HN.out]; exact hlt))
   obtain ⟨x, hxe⟩ : ∃ x, nth s k = x := ⟨_, rfl⟩
   rw [hxe] at hc hx HST
   have hwt : IntKind.i64.wrap ((k : Int) + 1) = ((k + 1 : Nat) : Int) := by rw [iw64 (by omega) (by omega)]; omega
   have hv := HI.out.blk.cell 0 (v := v) rfl
   have hf := HI.out.blk.free 0
   have HLB := Aside0.mk HI.out.blk.lt
   obtain ⟨xs, hxs⟩ : ∃ xs, picTo (s.take k) = xs := ⟨_, rfl⟩
   have hxl : xs.length = 1 + 2 * k := by rw [← hxs, picTo_len, List.length_take]; have := HN.out; omega
   have HR := Aside0.mk HI.out.row
   have HB := Aside0.mk HI.out.blk
   have HW := Aside0.mk HI.out.below
   rw [hxs] at HR HST
   have HXL := Aside0.mk hxl
   clear hxe hxs hxl HI
   by_cases hpos : x > 0
   ·have hw2 : IntKind.i64.wrap (2 * x) = 2 * x := iw64 (by omega) (by omega)
    have hw3 : IntKind.i64.wrap (2 * x - 1) = 2 * x - 1 := iw64 (by omega) (by omega)
    have HP := Aside0.mk (show pic1 x = [2 * x - 1, 2 * x] from if_pos hpos)
    clear hx
    go_wp2_with ((with_reducible refine gate_builtin (b := .append) (xs := #[.tmp 23, .tmp 29]) rfl ?_); at_builtin; refine stopper ?_)
    unfold Hold
    refine Kd.R_append_rows (Kd.int .i64) (Rr := fun x cs => (Kd.int .i64).M (wr.alloc (.cells #[.int .i64 (2 * x - 1), .int .i64 (2 * x)] 3)) 0 (fun _ => False) x cs) (w0 := w) w.heap.size rfl (.tmp 23) (.tmp 29) 22 3 (.int .i64 0) 8 rfl Try.underlying22 info3 rfl (by decide) (by decide) v xs [2 * x - 1, 2 * x] (some ⟨wr.heap.size, 0, none⟩) 2 2 (fun j => j ≠ w.heap.size + 1) (fun _ => False) rfl rfl (Kd.R_alloc HR.out _) (two_lit wr _ _) (fun x cs h => h) (fun _ h => h.elim) (fun k hk => by have := HLB.out;rw [World.size_alloc] at hk;omega) (HW.out.alloc HW.out.size _) (by have := HW.out.size;rw [World.size_alloc];omega) (by have := HXL.out;omega) ?_
    intro v1 wy ho hb hg hat
    rw [← HP.out, HST.out] at ho
    have hne : v.ownBlock ≠ some (w.heap.size + 1) := fun e => HR.out.1 _ e rfl
    have hbk : Blk wy (w.heap.size + 1) #[v, .slice none 0 0] 96 := (HB.out.alloc _).grown hg hne
    obtain ⟨A1, c1, ev⟩ := Kd.R_slice ho
    subst ev
    have hv2 := hbk.cell 0 (v := v) rfl
    have hf2 := hbk.free 0
    have HBK := Aside0.mk hbk
    have HO := Aside0.mk ho
    have HWY := Aside0.mk hb
    clear ho hb hg hat hne hbk hv hf hc HR HB HW
    generalize hlen : (picTo (List.take (k + 1) s)).length = ln at *
    go_wp2
    go_roundw
    case rel => exact ⟨k + 1, _, by omega, rfl, ⟨HBK.out.set 0 _, by rw [← hlen]; rw [← hlen] at HO; exact Kd.R_far HO.out (fun j hj => hj) _, HWY.out.setCell (by simp) _⟩⟩
    case measure => simp [intOf]; omega
   ·have hw2 : IntKind.i64.wrap (-2 * x) = -2 * x := iw64 (by omega) (by omega)
    have hw3 : IntKind.i64.wrap (-2 * x - 1) = -2 * x - 1 := iw64 (by omega) (by omega)
    have HP := Aside0.mk (show pic1 x = [-2 * x, -2 * x - 1] from if_neg hpos)
    clear hx
    go_wp2_with ((with_reducible refine gate_builtin (b := .append) (xs := #[.tmp 37, .tmp 43]) rfl ?_); at_builtin; refine stopper ?_)
    unfold Hold
    refine Kd.R_append_rows (Kd.int .i64) (Rr := fun x cs => (Kd.int .i64).M (wr.alloc (.cells #[.int .i64 (-2 * x), .int .i64 (-2 * x - 1)] 3)) 0 (fun _ => False) x cs) (w0 := w) w.heap.size rfl (.tmp 37) (.tmp 43) 22 3 (.int .i64 0) 8 rfl Try.underlying22 info3 rfl (by decide) (by decide) v xs [-2 * x, -2 * x - 1] (some ⟨wr.heap.size, 0, none⟩) 2 2 (fun j => j ≠ w.heap.size + 1) (fun _ => False) rfl rfl (Kd.R_alloc HR.out _) (two_lit wr _ _) (fun x cs h => h) (fun _ h => h.elim) (fun k hk => by have := HLB.out;rw [World.size_alloc] at hk;omega) (HW.out.alloc HW.out.size _) (by have := HW.out.size;rw [World.size_alloc];omega) (by have := HXL.out;omega) ?_
    intro v1 wy ho hb hg hat
    rw [← HP.out, HST.out] at ho
    have hne : v.ownBlock ≠ some (w.heap.size + 1) := fun e => HR.out.1 _ e rfl
    have hbk : Blk wy (w.heap.size + 1) #[v, .slice none 0 0] 96 := (HB.out.alloc _).grown hg hne
    obtain ⟨A1, c1, ev⟩ := Kd.R_slice ho
    subst ev
    have hv2 := hbk.cell 0 (v := v) rfl
    have hf2 := hbk.free 0
    have HBK := Aside0.mk hbk
    have HO := Aside0.mk ho
    have HWY := Aside0.mk hb
    clear ho hb hg hat hne hbk hv hf hc HR HB HW
    generalize hlen : (picTo (List.take (k + 1) s)).length = ln at *
    go_wp2
    go_roundw
    case rel => exact ⟨k + 1, _, by omega, rfl, ⟨HBK.out.set 0 _, by rw [← hlen]; rw [← hlen] at HO; exact Kd.R_far HO.out (fun j hj => hj) _, HWY.out.setCell (by simp) _⟩⟩
    case measure => simp [intOf]; omega
  ·have hi1 : ¬ (k : Int) < (n : Int) := by omega
   have HKN := Aside0.mk (show k = n by omega)
   have HR0 := HI.out.row
   rw [List.take_of_length_le (by have := HN.out; have := HKN.out; omega)] at HR0
   have hv := HI.out.blk.cell 0 (v := v) rfl
   have hf := HI.out.blk.free 0
   have HLB := Aside0.mk HI.out.blk.lt
   have HR := Aside0.mk HR0
   have HB := Aside0.mk HI.out.blk
   have HW := Aside0.mk HI.out.below
   have hw2 : IntKind.i64.wrap (2 * (n : Int)) = 2 * (n : Int) := iw64 (by omega) (by omega)
   have hw3 : IntKind.i64.wrap (2 * (n : Int) + 1) = 2 * (n : Int) + 1 := iw64 (by omega) (by omega)
   have HXL := Aside0.mk (picTo_len s)
   have HPL := Aside0.mk (show picTo s ++ [2 * (n : Int) + 1] = picL s by unfold picL; rw [HN.out])
   clear HR0 HI
   go_wp2_with ((with_reducible refine gate_builtin (b := .append) (xs := #[.tmp 52, .tmp 57]) rfl ?_); at_builtin; refine stopper ?_)
   unfold Hold
   refine Kd.R_append (Kd.int .i64) (w0 := w) w.heap.size rfl (.tmp 52) (.tmp 57) 22 3 (.int .i64 0) 8 rfl Try.underlying22 info3 rfl (by decide) (by decide) v (picTo s) (2 * (n : Int) + 1) [.int .i64 (2 * (n : Int) + 1)] (fun j => j ≠ w.heap.size + 1) (fun j => j ≠ w.heap.size + 1 ∧ some j ≠ v.ownBlock) rfl rfl rfl (fun k h => h) (fun k hk => by have := HLB.out; omega) HR.out HW.out HW.out.size (by have := HXL.out; have := HN.out; omega) ?_
   intro v1 wy ho hb hg hat
   rw [HPL.out] at ho
   have hne : v.ownBlock ≠ some (w.heap.size + 1) := fun e => HR.out.1 _ e rfl
   have hbk : Blk wy (w.heap.size + 1) #[v, .slice none 0 0] 96 := HB.out.grown hg hne
   obtain ⟨A1, c1, ev⟩ := Kd.R_slice ho
   subst ev
   have hv2 := hbk.cell 0 (v := v) rfl
   have hf2 := hbk.free 0
   have hv3 := hbk.cell 1 (v := .slice none 0 0) rfl
   have hf3 := hbk.free 1
   have HBK := Aside0.mk hbk
   have HWY := Aside0.mk hb
   obtain ⟨pl, hpl⟩ : ∃ pl, picL s = pl := ⟨_, rfl⟩
   have hln : pl.length = 2 * n + 2 := by rw [← hpl, picL_len, HN.out]
   rw [hpl, hln] at ho
   have HO := Aside0.mk ho
   rw [hpl, hln]
   have HPE := Aside0.mk hpl
   have HLN := Aside0.mk hln
   clear ho hb hg hat hne hbk hv hf HR HB HW hpl hln
   go_upto_region 10 with fail
   obtain ⟨Wz, hWz⟩ : ∃ Wz, wy.setCell ⟨w.heap.size + 1, 0, none⟩ (.slice A1 (2 * n + 2) c1) = Wz := ⟨_, rfl⟩
   have hbz : Blk Wz (w.heap.size + 1) #[.slice A1 (2 * n + 2) c1, .slice none 0 0] 96 := by rw [← hWz]; exact HBK.out.set 0 _
   have hrz : Kd.R (Kd.int .i64) 3 Wz w.heap.size (fun j => j ≠ w.heap.size + 1) (.slice A1 (2 * n + 2) c1) pl := by rw [← hWz]; exact Kd.R_far HO.out (fun j hj => hj) _
   have hwz : Below w.heap.size w Wz := by rw [← hWz]; exact HWY.out.setCell (by simp) _
   have hv := hbz.cell 0 (v := .slice A1 (2 * n + 2) c1) rfl
   have hv4 := hbz.cell 1 (v := .slice none 0 0) rfl
   have hf4 := hbz.free 1
   have hlz := hbz.lt
   have HBZ := Aside0.mk hbz
   have HRZ := Aside0.mk hrz
   have HWZ := Aside0.mk hwz
   try rw [hWz]
   clear hWz hbz hrz hwz HBK HO HWY hv2 hf2 hv3 hf3
   go_wp2_with (at_make; refine stopper ?_)
   unfold Hold
   refine Kd.R_make (Kd.int .i64) (w0 := w) w.heap.size 3 rfl (N := 67) rfl 22 (.tmp 66) (.tmp 66) rfl ((2 * n + 2 : Nat) : Int) (by first | rfl | simp) (by first | rfl | simp) Try.underlying22 (.int .i64 0) 8 info3 rfl (by decide) (by decide) (0 : Int) (ok := fun j => j ≠ w.heap.size + 1 ∧ some j ≠ (Value.slice A1 (2 * n + 2) c1).ownBlock) (okp := fun _ => False) rfl (fun _ h => h.elim) ⟨by omega, fun e => by
    have h := (Kd.R_bound HRZ.out).1 _ e.symm
    have := h.2.2.1
    omega⟩ (by omega) (by omega) HWZ.out HWZ.out.size ?_
   intro v2 wm ho hb hg hat
   rw [Int.toNat_natCast] at ho
   have hown := Kd.own_of_R ho
   rcases hown.2 with ⟨_, h0⟩ | ⟨g, cap, cur, rfl, hgb, _⟩
   ·simp at h0
   rw [List.length_replicate] at ho
   have hgok := ho.1 g rfl
   have hbm : Blk wm (w.heap.size + 1) #[.slice A1 (2 * n + 2) c1, .slice none 0 0] 96 := HBZ.out.grown hg (by simp)
   have hrm : Kd.R (Kd.int .i64) 3 wm w.heap.size (fun j => j ≠ w.heap.size + 1 ∧ j ≠ g) (.slice A1 (2 * n + 2) c1) pl := by
    have h1 := Kd.R_step HRZ.out (w1 := wm) (fun j _ hj => hg.block j hj (by simp))
    exact Kd.R_of_own (by exact Kd.own_of_R h1) (fun j hj => ⟨h1.1 j hj, fun e => hgok.2 (by rw [hj, e])⟩)
   have hv5 := hbm.cell 0 (v := .slice A1 (2 * n + 2) c1) rfl
   have hv6 := hbm.cell 1 (v := .slice none 0 0) rfl
   have hf6 := hbm.free 1
   have HBM := Aside0.mk hbm
   have HRM := Aside0.mk hrm
   have HWM := Aside0.mk hb
   have HQM := Aside0.mk ho
   have HGK := Aside0.mk hgok
   have HGB := Aside0.mk hgb
   simp only [List.length_replicate]
   clear ho hb hg hat hown hgok hbm hrm hgb hv hv4 hf4 hlz HBZ HRZ HWZ
   go_wp2
   obtain ⟨Wl, hWl⟩ : ∃ Wl, wm.setCell ⟨w.heap.size + 1, 1, none⟩ (.slice (some ⟨g, 0, none⟩) (2 * n + 2) cap) = Wl := ⟨_, rfl⟩
   have hne2 : g ≠ w.heap.size + 1 := HGK.out.1
   have HBL := Aside0.mk (show Blk Wl (w.heap.size + 1) #[.slice A1 (2 * n + 2) c1, .slice (some ⟨g, 0, none⟩) (2 * n + 2) cap] 96 by rw [← hWl]; exact HBM.out.set 1 _)
   have HRL := Aside0.mk (show Kd.R (Kd.int .i64) 3 Wl w.heap.size (fun j => j ≠ w.heap.size + 1 ∧ j ≠ g) (.slice A1 (2 * n + 2) c1) pl by rw [← hWl]; exact Kd.R_far HRM.out (fun j hj => hj.1) _)
   have HQL := Aside0.mk (show Kd.R (Kd.int .i64) 3 Wl w.heap.size (fun j => j ≠ w.heap.size + 1 ∧ some j ≠ (Value.slice A1 (2 * n + 2) c1).ownBlock) (.slice (some ⟨g, 0, none⟩) (2 * n + 2) cap) (plTo pl 0) by
    rw [← hWl, show plTo pl 0 = List.replicate (2 * n + 2) 0 by unfold plTo; rw [HLN.out]; rfl]
    exact Kd.R_far HQM.out (fun j hj => hj.1) _)
   have HWL := Aside0.mk (show Below w.heap.size w Wl by rw [← hWl]; exact HWM.out.setCell (by simp) _)
   have HPT2 := Aside0.mk (show ∀ q, 0 ≤ nth pl q ∧ nth pl q < 2 * (n : Int) + 2 by rw [← HPE.out, ← HN.out]; exact HPT.out)
   try rw [hWl]
   clear hWl HBM HRM HQM HWM hv5 hv6 hf6
   go_loopw [75] (fun i wl => ∃ j : Nat, j ≤ 2 * n + 2 ∧ i = .int .i64 (j : Int) ∧ Aside0 (Blk wl (w.heap.size + 1) #[.slice A1 (2 * n + 2) c1, .slice (some ⟨g, 0, none⟩) (2 * n + 2) cap] 96) ∧ Aside0 (Kd.R (Kd.int .i64) 3 wl w.heap.size (fun j => j ≠ w.heap.size + 1 ∧ j ≠ g) (.slice A1 (2 * n + 2) c1) pl) ∧ Aside0 (Kd.R (Kd.int .i64) 3 wl w.heap.size (fun j => j ≠ w.heap.size + 1 ∧ some j ≠ (Value.slice A1 (2 * n + 2) c1).ownBlock) (.slice (some ⟨g, 0, none⟩) (2 * n + 2) cap) (plTo pl j)) ∧ Aside0 (Below w.heap.size w wl)) (fun i _ => 2 * n + 2 - (intOf i).toNat)
   case atStart => exact ⟨0, Nat.zero_le _, rfl, HBL, HRL, HQL, HWL⟩
   case round =>
    obtain ⟨j, hj, rfl, HB, HR, HQ, HW⟩ := hrel
    by_cases hjl : j < 2 * n + 2
    ·have hi0 : (0 : Int) ≤ (j : Int) := by omega
     have hi1 : (j : Int) < 2 * (n : Int) + 2 := by omega
     obtain ⟨ad', e, hc⟩ := Kd.at_int (Kd.R_reads' HR.out).2.2 (j : Int) hi0 (by have := HLN.out; omega)
     rw [rd_nth, Int.toNat_natCast] at hc
     have hx := HPT2.out j
     have HPS := Aside0.mk (plTo_step pl j)
     obtain ⟨x, hxe⟩ : ∃ x, nth pl j = x := ⟨_, rfl⟩
     rw [hxe] at hc hx HPS
     obtain ⟨xn, rfl⟩ := Int.eq_ofNat_of_zero_le hx.1
     have hx1 := hx.2
     have hx0 := hx.1
     have hwt : IntKind.i64.wrap ((j : Int) + 1) = ((j + 1 : Nat) : Int) := by rw [iw64 (by omega) (by omega)]; omega
     have hlp : (plTo pl j).length = 2 * n + 2 := by rw [plTo_len, HLN.out]
     have hq := HQ.out
     rw [← hlp] at hq
     obtain ⟨hg1, hg2⟩ := Kd.R_cell (0 : Int) hq (xn : Int) hx0 (by rw [hlp]; omega)
     rw [Int.toNat_natCast] at hg1 hg2
     have hp0 := HB.out.cell 0 (v := .slice A1 (2 * n + 2) c1) rfl
     have hp1 := HB.out.cell 1 (v := .slice (some ⟨g, 0, none⟩) (2 * n + 2) cap) rfl
     subst e
     clear hxe hx hlp hq
     go_wp2
     go_roundw
     case rel => exact ⟨j + 1, by omega, rfl, ⟨HB.out.setOther (fun e => hne2 e.symm) _⟩, ⟨Kd.R_far HR.out (fun k hk => hk.2) _⟩, ⟨by rw [HPS.out]; exact Kd.R_putn HQ.out (xn : Int) (j : Int)⟩, ⟨HW.out.setCell (by have := HGB.out; simpa using this) _⟩⟩
     case measure => simp [intOf]; omega
    ·have hi1 : ¬ (j : Int) < 2 * (n : Int) + 2 := by omega
     have HJN := Aside0.mk (show j = 2 * n + 2 by omega)
     go_wp2
     go_ret
     refine ⟨rfl, ⟨A1, c1, some ⟨g, 0, none⟩, cap, ?_⟩, HW.out⟩
     rw [HN.out, HPE.out]
     refine ⟨HB.out, Kd.R_mono HR.out (fun k hk => hk.1), ?_⟩
     have h1 := HQ.out
     rw [HJN.out] at h1
     unfold plL
     rw [HPE.out, HLN.out]
     exact h1
theorem isSt_range {sg : Bool} {most : Int} {l : List Int} (h : isSt sg most l = true) : ∀ x, x ∈ l → x ≠ 0 ∧ -(l.length : Int) ≤ x ∧ x ≤ l.length := by
 unfold isSt at h
 split at h
 ·cases h
 ·exact isL_nz sg l.length l _ h
def pancake_Picture.f (l0 : List Int) : Option (List Int × Int) := some (if isSt true 40 l0 = true then (picL l0, 0) else ([], 70))
set_option maxHeartbeats 4000000 in
theorem pancake_Picture.calls (A0 : Option Addr) (c0 : Nat) (l0 : List Int) (r1 : List Int) (r2 : Int) (w : World) (hr0 : Kd.C (Kd.int .i64) w A0 l0.length l0) (hc0 : l0.length ≤ c0) (h : pancake_Picture.f l0 = some (r1, r2)) :
  Calls Try.prog 35 #[.slice A0 l0.length c0] w fun e w' => ∃ v0_ : Value, e = .returned (.tuple #[v0_, .int .i64 r2]) ∧ Kd.R (Kd.int .i64) 3 w' w.heap.size (fun _ => True) v0_ r1 ∧ Below w.heap.size w w' := by
 have HC := Aside0.mk (check55_one A0 c0 l0 w hr0 hc0)
 have HR0 := Aside0.mk hr0
 clear hr0
 unfold pancake_Picture.f at h
 unfold chk1 at HC
 go_enter Try.func35, Try.ntmps35
 by_cases hst : isSt true 40 l0 = true
 ·rw [if_pos hst] at h HC
  cases h
  have HRG := Aside0.mk (isSt_range hst)
  have HSM := Aside0.mk (isSt_small hst (by decide))
  clear hst
  go_wp2_with (go_at_call 55; refine stopper ?_)
  unfold Hold
  refine HC.out.mono ?_
  rintro e w1 ⟨rfl, hb⟩
  have HB1 := Aside0.mk hb
  clear hb
  go_wp2_with (go_at_call 60; refine stopper ?_)
  unfold Hold
  refine (pictured_calls A0 c0 l0 w1 (Kd.C_below HR0.out HB1.out) HSM.out.2.1 HRG.out).mono ?_
  rintro e w2 ⟨rfl, ⟨A, c, A2, c2, hblk, hp, hq⟩, hb⟩
  have HB2 := Aside0.mk (HB1.out.trans (hb.mono HB1.out.size))
  have HP := Aside0.mk hp
  have hv := hblk.cell 0 (v := .slice A (2 * l0.length + 2) c) rfl
  clear hb hp hq hblk
  go_wp2
  refine bodyPost_ret (results_tmp2 rfl _ _ _) rfl ⟨_, rfl, Kd.R_mono (Kd.R_lower HP.out HB1.out.size) (fun _ _ => trivial), HB2.out⟩
 ·rw [if_neg hst] at h HC
  cases h
  clear hst
  go_wp2_with (go_at_call 55; refine stopper ?_)
  unfold Hold
  refine HC.out.mono ?_
  rintro e w1 ⟨rfl, hb⟩
  have HB1 := Aside0.mk hb
  clear hb
  go_wp2
  refine bodyPost_ret (results_tmp2 rfl _ _ _) rfl ⟨_, rfl, Kd.R_nil _ _ _ _ _, HB1.out⟩
end Go.Proofs.Ytepjhdblmghckaa.G


namespace Go.Proofs.Ytepjhdblmghckaa.G
open Go.Proofs.Ytepjhdblmghckaa.Q Go.Proofs.Ytepjhdblmghckaa.K Go.Proofs.Ytepjhdblmghckaa.Bf
open Go.RowKit Go.Shelf Go.Sort Go.Proofs.YtepjhdblmghckaaW.PrintWords Go.Proofs.YtepjhdblmghckaaW.PrintLast Go.Proofs.YtepjhdblmghckaaW.PrintMore
set_option linter.unusedVariables false
def sortL (l : List Int) : List Int := l.mergeSort fun x y => decide (x ≤ y)
theorem sortL_len (l : List Int) : (sortL l).length = l.length := List.length_mergeSort _
theorem xor_one : ∀ a : Nat, a < 128 → bits .xor .i64 (a : Int) 1 = ((a ^^^ 1 : Nat) : Int) := by decide +kernel
theorem sortR_calls {W : World} {base : Nat} {ok : Nat → Prop} {v : Value} {l : List Int} (h : Kd.R (Kd.int .i64) 3 W base ok v l) (hl : 0 < l.length) (hn : l.length ≤ 1000000) :
  Calls Try.prog 81 #[v] W fun e w' => e = .returned (.tuple #[]) ∧ Kd.R (Kd.int .i64) 3 w' base ok v (sortL l) ∧ Below base W w' := by
 have ho := Kd.own_of_R h
 rcases ho.2 with ⟨_, h0⟩ | ⟨g, cap, cur, rfl, hb, hh, hnc, hcm, hsz, htake⟩
 ·omega
 ·have hcs : ∀ p, p < l.length → cur[p]? = some (.int .i64 (nth l p)) := fun p hp => by
   have h1 := congrArg (fun z => z[p]?) htake
   simp only [Nat.mul_one] at h1
   rw [List.getElem?_take, if_pos hp] at h1
   rw [← Array.getElem?_toList, h1]
   unfold encs
   rw [List.getElem?_map, List.getElem?_eq_getElem hp]
   simp [nth, hp]
  have hblk : Blk W g cur 3 := hh
  have hH : Holds (Value.int .i64) W g 0 l.toArray := fun p hp => by
   have hp' : p < l.length := by simpa using hp
   have e : l.toArray[p]! = nth l p := by
    rw [getElem!_pos l.toArray p hp]
    simp [nth, hp']
   rw [e, Nat.zero_add]
   exact ⟨hblk.cell p (hcs p hp'), hblk.free p⟩
  refine (Try.slices_Sort_int g 0 cap l W hH hblk.lt (by omega)).mono ?_
  rintro e w' ⟨rfl, q, os, rfl⟩
  have hlen := sortL_len l
  have hput : (grow (putRow (Value.int .i64) (Sort.ahead W q) g 0 (sortL l).toArray) os).heap[g]? = some (.cells (putCells (Value.int .i64) 0 (sortL l).toArray cur) 3 (0, 0)) := by
   have hlt := hblk.lt
   unfold grow putRow mapBlock
   simp only
   rw [Array.getElem?_append_left (by simpa using hlt), Array.getElem?_modify, if_pos rfl, show (Sort.ahead W q).heap = W.heap from rfl, hh]
   rfl
  refine ⟨rfl, ?_, ⟨rfl, rfl, rfl, by simp [grow, putRow, mapBlock, Sort.ahead], fun k hk => ?_⟩⟩
  ·refine Kd.R_of_own ?_ h.1
   change World.ownsRow (grow (putRow (Value.int .i64) (Sort.ahead W q) g 0 (sortL l).toArray) os) base 3 1 (.slice (some ⟨g, 0, none⟩) l.length cap) (sortL l).length (encs (Value.int .i64) (sortL l))
   rw [hlen]
   refine ⟨by simp [encs, hlen], .inr ⟨g, cap, _, rfl, hb, hput, hnc, hcm, by simp [putCells, hsz], ?_⟩⟩
   apply List.ext_getElem?
   intro p
   rw [Nat.mul_one, List.getElem?_take]
   by_cases hp : p < l.length
   ·rw [if_pos hp, Array.getElem?_toList]
    unfold putCells encs
    rw [Array.getElem?_mapIdx, hcs p hp, Option.map_some, if_pos ⟨Nat.zero_le _, by simp [hlen]; omega⟩, List.getElem?_map, List.getElem?_eq_getElem (by rw [hlen]; exact hp), Option.map_some]
    congr 2
    rw [getElem!_pos (sortL l).toArray (p - 0) (by simp [hlen]; omega)]
    simp
   ·rw [if_neg hp, List.getElem?_eq_none (by simp [encs, hlen]; omega)]
  ·have hlt := hblk.lt
   unfold grow putRow mapBlock
   simp only
   rw [Array.getElem?_append_left (by simp; omega), Array.getElem?_modify, if_neg (by omega)]
   rfl
def hop (p pl : List Int) (x : Nat) : Nat := (nth p ((nth pl (x ^^^ 1)).toNat ^^^ 1)).toNat
def folF (p pl : List Int) : Nat → Nat → List Bool → List Int → List Int × List Bool
 | 0, _, seen, out => (out, seen)
 | k + 1, x, seen, out => if seen.getD (x / 2) false = true then (out, seen) else folF p pl k (hop p pl x) (seen.set (x / 2) true) (out ++ [((x / 2 : Nat) : Int)])
def unseen (seen : List Bool) : Nat := seen.countP (fun b => !b)
theorem unseen_set {seen : List Bool} {j : Nat} (h : j < seen.length) (hj : seen.getD j false = false) : unseen (seen.set j true) + 1 = unseen seen := by
 induction seen generalizing j with
 | nil => simp at h
 | cons b l ih =>
  cases j with
  | zero =>
   simp at hj
   subst hj
   simp [unseen]
  | succ j =>
   have := ih (j := j) (by simpa using h) (by simpa using hj)
   simp only [unseen, List.set_cons_succ, List.countP_cons] at this ⊢
   omega
theorem folF_stop (p pl : List Int) (x : Nat) (seen : List Bool) (out : List Int) (k : Nat) (h : seen.getD (x / 2) false = true) : folF p pl (k + 1) x seen out = (out, seen) := by
 rw [folF, if_pos h]
theorem folF_go (p pl : List Int) (x : Nat) (seen : List Bool) (out : List Int) (h : seen.getD (x / 2) false = false) (hl : x / 2 < seen.length) :
  folF p pl (unseen seen + 1) x seen out = folF p pl (unseen (seen.set (x / 2) true) + 1) (hop p pl x) (seen.set (x / 2) true) (out ++ [((x / 2 : Nat) : Int)]) := by
 rw [folF, if_neg (by rw [h]; simp), ← unseen_set hl h]
end Go.Proofs.Ytepjhdblmghckaa.G


namespace Go.Proofs.Ytepjhdblmghckaa.G
open Go.Proofs.Ytepjhdblmghckaa.Q Go.Proofs.Ytepjhdblmghckaa.K Go.Proofs.Ytepjhdblmghckaa.Bf
open Go.RowKit Go.Shelf Go.Proofs.YtepjhdblmghckaaW.PrintWords Go.Proofs.YtepjhdblmghckaaW.PrintLast Go.Proofs.YtepjhdblmghckaaW.PrintMore
set_option linter.unusedVariables false
structure FolI (N bs bx b g cap n : Nat) (p pl : List Int) (seen : List Bool) (W : World) : Prop where
 sb : Blk W bs #[.slice (some ⟨g, 0, none⟩) (n + 1) cap] 62
 xb : Blk W bx #[.pointer (some ⟨b, 0, none⟩)] 79
 pic : ∃ A c A2 c2, Blk W b #[.slice A (2 * n + 2) c, .slice A2 (2 * n + 2) c2] 96 ∧ Kd.R (Kd.int .i64) 3 W 0 (fun j => j ≠ g ∧ j < N) (.slice A (2 * n + 2) c) p ∧ Kd.R (Kd.int .i64) 3 W 0 (fun j => j ≠ g ∧ j < N) (.slice A2 (2 * n + 2) c2) pl
 row : Kd.R Kd.bool 4 W 0 (fun j => j = g) (.slice (some ⟨g, 0, none⟩) (n + 1) cap) seen
 lt : bs < N ∧ bx < N ∧ b < N ∧ g < N ∧ bs ≠ g ∧ bx ≠ g ∧ b ≠ g
theorem rowB_block {W : World} {base g n cap : Nat} {ok : Nat → Prop} {seen : List Bool} (h : Kd.R Kd.bool 4 W base ok (.slice (some ⟨g, 0, none⟩) n cap) seen) : n = seen.length ∧ ∃ cur, W.heap[g]? = some (.cells cur 4 (0, 0)) := by
 obtain ⟨A, c, e⟩ := Kd.R_slice h
 injection e with e1 e2 e3
 refine ⟨e2, ?_⟩
 have ho := Kd.own_of_R h
 rcases ho.2 with ⟨h0, _⟩ | ⟨g', cap', cur, hv, _, hh, _⟩
 ·cases h0
 ·injection hv with h1
  injection h1 with h1
  injection h1 with h1
  subst h1
  exact ⟨cur, hh⟩
def sliceLen : Value → Nat
 | .slice _ n _ => n
 | _ => 0
structure Rest (g : Nat) (w W : World) : Prop where
 os : W.os = w.os
 tape : W.tape = w.tape
 output : W.output = w.output
 size : w.heap.size ≤ W.heap.size
 other : ∀ k, k < w.heap.size → k ≠ g → W.heap[k]? = w.heap[k]?
theorem FolI.keep {N bs bx b g cap n : Nat} {p pl : List Int} {seen : List Bool} {W W' : World} (h : FolI N bs bx b g cap n p pl seen W) (hb : ∀ k, k < N → W'.heap[k]? = W.heap[k]?) : FolI N bs bx b g cap n p pl seen W' := by
 obtain ⟨A, c, A2, c2, h1, h2, h3⟩ := h.pic
 obtain ⟨l1, l2, l3, l4, l5, l6, l7⟩ := h.lt
 exact ⟨(hb _ l1).trans h.sb, (hb _ l2).trans h.xb, ⟨A, c, A2, c2, (hb _ l3).trans h1, Kd.R_step h2 (fun k hk _ => hb k hk.2), Kd.R_step h3 (fun k hk _ => hb k hk.2)⟩, Kd.R_step h.row (fun k hk _ => by subst hk; exact hb _ l4), h.lt⟩
theorem FolI.put {N bs bx b g cap n : Nat} {p pl : List Int} {seen : List Bool} {W : World} (h : FolI N bs bx b g cap n p pl seen W) (i : Nat) (v : Bool) : FolI N bs bx b g cap n p pl (seen.set i v) (W.setCell ⟨g, i, none⟩ (.bool v)) := by
 obtain ⟨A, c, A2, c2, h1, h2, h3⟩ := h.pic
 obtain ⟨l1, l2, l3, l4, l5, l6, l7⟩ := h.lt
 exact ⟨h.sb.setOther l5 _, h.xb.setOther l6 _, ⟨A, c, A2, c2, h1.setOther l7 _, Kd.R_far h2 (fun k hk => hk.1) _, Kd.R_far h3 (fun k hk => hk.1) _⟩, Kd.R_putn h.row (i : Int) v, h.lt⟩
theorem xor1 : ∀ a : Nat, a < 128 → a ^^^ 1 = if a % 2 = 0 then a + 1 else a - 1 := by decide +kernel
theorem xor1_lt {a m : Nat} (h : a < 2 * m) (hm : m ≤ 60) : a ^^^ 1 < 2 * m := by
 rw [xor1 a (by omega)]
 split <;> omega
set_option maxRecDepth 100000 in
set_option maxHeartbeats 8000000 in
theorem follow_calls (N bs bx b g cap n : Nat) (hn : n ≤ 40) (p pl : List Int) (seen : List Bool) (line : Nat) (hline : line ≤ n) (w : World) (hN : N ≤ w.heap.size) (h : FolI N bs bx b g cap n p pl seen w)
  (hp : ∀ q, 0 ≤ nth p q ∧ nth p q < 2 * (n : Int) + 2) (hpl : ∀ q, 0 ≤ nth pl q ∧ nth pl q < 2 * (n : Int) + 2) (hs : seen.getD line false = false) :
  Calls Try.prog 80 #[.int .i64 (line : Int), .pointer (some ⟨bs, 0, none⟩), .pointer (some ⟨bx, 0, none⟩)] w fun e w' => ∃ v, e = .returned v ∧
   Kd.R (Kd.int .i64) 3 w' w.heap.size (fun _ => True) v (sortL (folF p pl (unseen seen + 1) (2 * line) seen []).1) ∧ FolI N bs bx b g cap n p pl (folF p pl (unseen seen + 1) (2 * line) seen []).2 w' ∧
   Rest g w w' := by
 have HI := Aside0.mk h
 have HP := Aside0.mk hp
 have HPL := Aside0.mk hpl
 have HS := Aside0.mk hs
 have hw1 : IntKind.i64.wrap (2 * (line : Int)) = 2 * (line : Int) := iw64 (by omega) (by omega)
 clear h hp hpl hs
 go_enter Try.func80, Try.ntmps80
 go_wp2
 obtain ⟨R0, hR0⟩ : ∃ R0, folF p pl (unseen seen + 1) (2 * line) seen [] = R0 := ⟨_, rfl⟩
 have HR0 := Aside0.mk hR0
 have hsl := (rowB_block HI.out.row).1
 have hus : unseen seen ≤ n + 1 := by rw [hsl]; exact List.countP_le_length
 have HUS := Aside0.mk hus
 clear hR0 hsl hus
 go_loopw [5, 6] (fun o xv wr => ∃ (x : Nat) (out : List Int) (sn : List Bool), x < 2 * n + 2 ∧ xv = .int .i64 (x : Int) ∧ Aside0 (Kd.R (Kd.int .i64) 3 wr w.heap.size (fun j => w.heap.size ≤ j) o out) ∧ Aside0 (FolI N bs bx b g cap n p pl sn wr) ∧ Aside0 (folF p pl (unseen sn + 1) x sn out = R0) ∧ Aside0 (out.length + unseen sn ≤ n + 1) ∧ Aside0 (Rest g w wr) ∧ Aside0 (out = [] → x = 2 * line ∧ sn = seen)) (fun o _ _ => n + 2 - sliceLen o)
 case atStart => exact ⟨2 * line, [], seen, by omega, by simp, ⟨Kd.R_nil _ _ _ _ _⟩, HI, HR0, ⟨by have := HUS.out; simpa using this⟩, ⟨⟨rfl, rfl, rfl, Nat.le_refl _, fun _ _ _ => rfl⟩⟩, ⟨fun _ => ⟨rfl, rfl⟩⟩⟩
 case round =>
  obtain ⟨x, out, sn, hx, rfl, HO, HF, HE, HL, HW, HZ⟩ := hrel
  have hq0 : (0 : Int) ≤ (x : Int) / 2 := by omega
  have hq1 : (x : Int) / 2 < (n : Int) + 1 := by omega
  have hsl := (rowB_block HF.out.row).1
  have hs0 := HF.out.sb.cell 0 (v := .slice (some ⟨g, 0, none⟩) (n + 1) cap) rfl
  obtain ⟨hg1, hg2⟩ := Kd.R_cell (h1 := fun _ => rfl) (enc := Value.bool) false (by rw [← hsl]; exact HF.out.row) ((x / 2 : Nat) : Int) (by omega) (by rw [← hsl]; omega)
  rw [Int.toNat_natCast] at hg1 hg2
  have HSL := Aside0.mk hsl
  have hgd : rdOf false sn ((x / 2 : Nat) : Int) = sn.getD (x / 2) false := by
   unfold rdOf
   rw [Int.toNat_natCast]
  rw [hgd] at hg1
  clear hsl hgd
  by_cases hsq : sn.getD (x / 2) false = true
  ·rw [hsq] at hg1
   have HE2 := Aside0.mk ((folF_stop p pl x sn out (unseen sn) hsq).symm.trans HE.out)
   have HNE := Aside0.mk (show 0 < out.length by
    cases ho : out with
    | nil =>
     obtain ⟨e1, e2⟩ := HZ.out ho
     rw [e1, e2, show 2 * line / 2 = line by omega, HS.out] at hsq
     cases hsq
    | cons a l => simp)
   obtain ⟨A, c, ev⟩ := Kd.R_slice HO.out
   subst ev
   clear hsq
   go_wp2_with (go_at_call 81; refine stopper ?_)
   unfold Hold
   refine (sortR_calls HO.out HNE.out (by have := HL.out; omega)).mono ?_
   rintro e w2 ⟨rfl, hv2, hb2⟩
   have HV2 := Aside0.mk hv2
   have HB2 := Aside0.mk hb2
   clear hv2 hb2
   go_wp2
   go_ret
   refine ⟨_, rfl, ?_, ?_, ⟨HB2.out.os.trans HW.out.os, HB2.out.tape.trans HW.out.tape, HB2.out.output.trans HW.out.output, Nat.le_trans HW.out.size HB2.out.size, fun k hk hg => (HB2.out.block k hk).trans (HW.out.other k hk hg)⟩⟩
   ·rw [HR0.out, ← HE2.out]
    exact Kd.R_mono HV2.out (fun _ _ => trivial)
   ·rw [HR0.out, ← HE2.out]
    exact HF.out.keep (fun k hk => HB2.out.block k (by omega))
  ·rw [Bool.not_eq_true] at hsq
   rw [hsq] at hg1
   have HSQ := Aside0.mk hsq
   have HSN := Aside0.mk (show sliceLen u5 = out.length by obtain ⟨A, c, e⟩ := Kd.R_slice HO.out; rw [e]; rfl)
   clear hsq
   go_wp2_with ((with_reducible refine gate_builtin (b := .append) (xs := #[.tmp 19, .tmp 22]) rfl ?_); at_builtin; refine stopper ?_)
   unfold Hold
   obtain ⟨W1, hW1⟩ : ∃ W1, wr.setCell ⟨g, x / 2, none⟩ (.bool true) = W1 := ⟨_, rfl⟩
   have hF1 : FolI N bs bx b g cap n p pl (sn.set (x / 2) true) W1 := by rw [← hW1]; exact HF.out.put (x / 2) true
   have hsz1 : W1.heap.size = wr.heap.size := by rw [← hW1]; simp [World.setCell]
   have hglt := HF.out.lt.2.2.2.1
   have hO1 : Kd.R (Kd.int .i64) 3 W1 w.heap.size (fun j => w.heap.size ≤ j) u5 out := by rw [← hW1]; exact Kd.R_far HO.out (fun j hj => by simp only; omega) _
   have hW1r : Rest g w W1 := by
    rw [← hW1]
    exact ⟨HW.out.os, HW.out.tape, HW.out.output, by simpa [World.setCell] using HW.out.size, fun k hk hg => (Below.heap_setCell _ _ _ _ hg).trans (HW.out.other k hk hg)⟩
   rw [hW1, ← hsz1]
   have HF1 := Aside0.mk hF1
   have HW1 := Aside0.mk hW1r
   refine Kd.R_append (Kd.int .i64) (w0 := W1) w.heap.size rfl (.tmp 19) (.tmp 22) 22 3 (.int .i64 0) 8 rfl Try.underlying22 info3 rfl (by decide) (by decide) u5 out ((x : Int) / 2) [.int .i64 ((x : Int) / 2)] (fun j => w.heap.size ≤ j) (fun j => w.heap.size ≤ j ∧ some j ≠ u5.ownBlock) rfl rfl rfl (fun k h => h) (fun k hk => by have := HW1.out.size; omega) hO1 ((Below.refl W1.heap.size W1).mono HW1.out.size) HW1.out.size (by have := HL.out; omega) ?_
   intro v1 wy ho hb hg hat
   have HO1 := Aside0.mk ho
   have HF2 := Aside0.mk (HF1.out.keep (fun k hk => hb.block k (by omega)))
   have HW2 := Aside0.mk (show Rest g w wy from ⟨hb.os.trans HW1.out.os, hb.tape.trans HW1.out.tape, hb.output.trans HW1.out.output, Nat.le_trans HW1.out.size hb.size, fun k hk hg => (hb.block k hk).trans (HW1.out.other k hk hg)⟩)
   obtain ⟨A, c, A2, c2, hbb, hpp, hqq⟩ := HF2.out.pic
   have hx1 := xor_one x (by omega)
   have hxl : x ^^^ 1 < 2 * n + 2 := by have := xor1_lt (a := x) (m := n + 1) (by omega) (by omega); omega
   have hbx := HF2.out.xb.cell 0 (v := .pointer (some ⟨b, 0, none⟩)) rfl
   have hb0 := hbb.cell 0 (v := .slice A (2 * n + 2) c) rfl
   have hb1 := hbb.cell 1 (v := .slice A2 (2 * n + 2) c2) rfl
   obtain ⟨ad2, e2, hc2⟩ := Kd.at_int (Kd.R_reads' hqq).2.2 ((x ^^^ 1 : Nat) : Int) (by omega) (by first | omega | (have := (Kd.R_reads' hqq).1; omega))
   rw [rd_nth, Int.toNat_natCast] at hc2
   have hy := HPL.out (x ^^^ 1)
   have hhop : hop p pl x = (nth p ((nth pl (x ^^^ 1)).toNat ^^^ 1)).toNat := rfl
   obtain ⟨y, hye⟩ : ∃ y, nth pl (x ^^^ 1) = y := ⟨_, rfl⟩
   rw [hye] at hc2 hy hhop
   obtain ⟨yn, rfl⟩ := Int.eq_ofNat_of_zero_le hy.1
   rw [Int.toNat_natCast] at hhop
   have hx2 := xor_one yn (by omega)
   have hyl : yn ^^^ 1 < 2 * n + 2 := by have := xor1_lt (a := yn) (m := n + 1) (by omega) (by omega); omega
   obtain ⟨ad1, e1, hc1⟩ := Kd.at_int (Kd.R_reads' hpp).2.2 ((yn ^^^ 1 : Nat) : Int) (by omega) (by first | omega | (have := (Kd.R_reads' hpp).1; omega))
   rw [rd_nth, Int.toNat_natCast] at hc1
   have hz := HP.out (yn ^^^ 1)
   obtain ⟨z, hze⟩ : ∃ z, nth p (yn ^^^ 1) = z := ⟨_, rfl⟩
   rw [hze] at hc1 hz hhop
   obtain ⟨zn, rfl⟩ := Int.eq_ofNat_of_zero_le hz.1
   rw [Int.toNat_natCast] at hhop
   obtain ⟨x1, hx1e⟩ : ∃ x1, x ^^^ 1 = x1 := ⟨_, rfl⟩
   obtain ⟨y1, hy1e⟩ : ∃ y1, yn ^^^ 1 = y1 := ⟨_, rfl⟩
   rw [hx1e] at hx1 hxl hc2
   rw [hy1e] at hx2 hyl hc1
   have hx10 : (0 : Int) ≤ (x1 : Int) := by omega
   have hx11 : (x1 : Int) < 2 * (n : Int) + 2 := by omega
   have hy10 : (0 : Int) ≤ (y1 : Int) := by omega
   have hy11 : (y1 : Int) < 2 * (n : Int) + 2 := by omega
   have HHOP := Aside0.mk hhop
   have HZL := Aside0.mk (show zn < 2 * n + 2 by omega)
   have HGO := Aside0.mk (folF_go p pl x sn out HSQ.out (by have := HSL.out; omega))
   have HUN := Aside0.mk (unseen_set (seen := sn) (j := x / 2) (by have := HSL.out; omega) HSQ.out)
   subst e1
   subst e2
   obtain ⟨Av, cv, ev⟩ := Kd.R_slice ho
   subst ev
   have HLV := Aside0.mk (show (out ++ [(x : Int) / 2]).length = out.length + 1 by simp)
   clear hye hze hx1e hy1e hhop hy hz hpp hqq hbb hb hg hat ho hO1 hF1 hW1r hW1 hsz1 hg1 hg2 hs0
   go_upto_region 6 with fail
   go_quiet (fail)
   go_wp2
   go_roundw
   case rel => exact ⟨zn, out ++ [(x : Int) / 2], sn.set (x / 2) true, HZL.out, rfl, ⟨by have h1 := Kd.R_drewN HO1.out nq; rw [HLV.out] at h1; exact h1⟩, ⟨HF2.out.keep (fun k hk => rfl)⟩, ⟨by rw [← HE.out, HGO.out, HHOP.out]; rfl⟩, ⟨by have := HUN.out; have := HL.out; have := HLV.out; omega⟩, ⟨⟨HW2.out.os, HW2.out.tape, HW2.out.output, HW2.out.size, HW2.out.other⟩⟩, ⟨fun e => by simp at e⟩⟩
   case measure =>
    have h1 := HSN.out
    have h2 := HL.out
    have h3 := HUN.out
    show n + 2 - (out.length + 1) < n + 2 - sliceLen u5
    rw [h1]
    omega
end Go.Proofs.Ytepjhdblmghckaa.G


namespace Go.Proofs.Ytepjhdblmghckaa.G
open Go.Proofs.Ytepjhdblmghckaa.Q Go.Proofs.Ytepjhdblmghckaa.K Go.Proofs.Ytepjhdblmghckaa.Bf
open Go.RowKit Go.Shelf Go.Proofs.YtepjhdblmghckaaW.PrintWords Go.Proofs.YtepjhdblmghckaaW.PrintLast Go.Proofs.YtepjhdblmghckaaW.PrintMore
set_option linter.unusedVariables false
def cirStep (p pl : List Int) (st : List Bool × List (List Int)) (line : Nat) : List Bool × List (List Int) :=
 if st.1.getD line false = true then st else ((folF p pl (unseen st.1 + 1) (2 * line) st.1 []).2, st.2 ++ [sortL (folF p pl (unseen st.1 + 1) (2 * line) st.1 []).1])
def cirTo (p pl : List Int) (n k : Nat) : List Bool × List (List Int) := (List.range k).foldl (cirStep p pl) (List.replicate (n + 1) false, [])
def circL (s : List Int) : List (List Int) := (cirTo (picL s) (plL s) s.length (s.length + 1)).2
theorem cirTo_step (p pl : List Int) (n k : Nat) : cirTo p pl n (k + 1) = cirStep p pl (cirTo p pl n k) k := by
 unfold cirTo
 rw [List.range_succ, List.foldl_append]
 rfl
theorem folF_len (p pl : List Int) : ∀ (k x : Nat) (seen : List Bool) (out : List Int), (folF p pl k x seen out).2.length = seen.length
 | 0, _, _, _ => rfl
 | k + 1, x, seen, out => by
  rw [folF]
  split
  ·rfl
  ·rw [folF_len p pl k, List.length_set]
theorem plTo_range (p : List Int) (k : Nat) : ∀ y, y ∈ plTo p k → 0 ≤ y ∧ (y = 0 ∨ y < k) := by
 induction k with
 | zero =>
  intro y hy
  have : y ∈ List.replicate p.length (0 : Int) := hy
  rw [List.mem_replicate] at this
  omega
 | succ k ih =>
  intro y hy
  rw [plTo_step] at hy
  rcases List.mem_or_eq_of_mem_set hy with hy | rfl
  ·have := ih y hy; omega
  ·omega
theorem plL_range (s : List Int) (q : Nat) : 0 ≤ nth (plL s) q ∧ nth (plL s) q < 2 * (s.length : Int) + 2 := by
 unfold plL
 by_cases hq : q < (plTo (picL s) (picL s).length).length
 ·have := plTo_range (picL s) (picL s).length ((plTo (picL s) (picL s).length).getD q 0) (by rw [List.getD_eq_getElem?_getD, List.getElem?_eq_getElem hq]; exact List.getElem_mem hq)
  rw [picL_len] at this
  unfold nth
  rw [picL_len]
  omega
 ·rw [nth_end _ _ (by omega)]; omega
set_option maxRecDepth 100000 in
set_option maxHeartbeats 8000000 in
theorem circles_calls (b base : Nat) (s : List Int) (hs : s.length ≤ 40) (hm : ∀ x, x ∈ s → x ≠ 0 ∧ -(s.length : Int) ≤ x ∧ x ≤ s.length) (w : World) (hP : PicOk base b s w) :
  Calls Try.prog 62 #[.pointer (some ⟨b, 0, none⟩)] w fun e w' => ∃ v, e = .returned v ∧ Kd.S (Kd.slice 3 (Kd.int .i64)) 22 w' w.heap.size (fun _ => True) v (circL s) ∧ Below w.heap.size w w' := by
 obtain ⟨n, hn⟩ : ∃ n, s.length = n := ⟨_, rfl⟩
 have HPR := Aside0.mk (picL_range s hm)
 have HPLR := Aside0.mk (plL_range s)
 have HCI := Aside0.mk (show circL s = (cirTo (picL s) (plL s) s.length (s.length + 1)).2 from rfl)
 obtain ⟨A, c, A2, c2, hbb, hpp, hqq⟩ := hP
 rw [hn] at hs HPR HPLR HCI hbb hpp hqq
 obtain ⟨p, hpe⟩ : ∃ p, picL s = p := ⟨_, rfl⟩
 obtain ⟨pl, hple⟩ : ∃ pl, plL s = pl := ⟨_, rfl⟩
 rw [hpe] at HPR HCI hpp
 rw [hple] at HPLR HCI hqq
 have hbl := hbb.lt
 have HBB := Aside0.mk hbb
 have HPP := Aside0.mk hpp
 have HQQ := Aside0.mk hqq
 have hb0 := hbb.cell 0 (v := .slice A (2 * n + 2) c) rfl
 clear hbb hpp hqq hm hn hpe hple
 go_enter Try.func62, Try.ntmps62
 go_wp2_with (at_make; refine stopper ?_)
 unfold Hold
 have hba : Below w.heap.size w (w.alloc (Obj.cells #[Value.pointer (some { block := b, off := 0 })] 79)) := (Below.refl _ w).alloc (Nat.le_refl _) _
 refine Kd.R_make Kd.bool (w0 := w) w.heap.size 4 rfl (N := 13) rfl 62 (.tmp 12) (.tmp 12) rfl ((n + 1 : Nat) : Int) (by show Value.int .i64 ((2 * (n : Int) + 2) / 2) = _; congr 1; omega) (by show Value.int .i64 ((2 * (n : Int) + 2) / 2) = _; congr 1; omega) Try.underlying62 (.bool false) 1 info4 rfl (by decide) (by decide) false (ok := fun _ => True) (okp := fun _ => False) rfl (fun _ h => h.elim) trivial (by omega) (by omega) hba hba.size ?_
 intro v2 wm ho hb hg hat
 rw [Int.toNat_natCast] at ho
 have hown := Kd.own_of_R ho
 rcases hown.2 with ⟨_, h0⟩ | ⟨g, cap, cur, rfl, hgb, hgh, _⟩
 ·simp at h0
 have hgl : g < wm.heap.size := (Array.getElem?_eq_some_iff.1 hgh).1
 rw [List.length_replicate] at ho
 have hbx : Blk wm w.heap.size #[.pointer (some ⟨b, 0, none⟩)] 79 := (Blk.new w _ 79).grown hg (by simp)
 have hgx : g ≠ w.heap.size := fun e => by
  have e2 := hbx.symm.trans (e ▸ hgh)
  injection e2 with e2
  injection e2 with _ e3
  cases e3
 obtain ⟨Wl, hWl⟩ : ∃ Wl, wm.alloc (.cells #[.slice (some ⟨g, 0, none⟩) (n + 1) cap] 62) = Wl := ⟨_, rfl⟩
 have hsl : Wl.heap.size = wm.heap.size + 1 := by rw [← hWl]; simp
 have hbl2 : Below w.heap.size w Wl := by rw [← hWl]; exact hb.alloc hb.size _
 have hkeep : ∀ k, k < wm.heap.size → Wl.heap[k]? = wm.heap[k]? := fun k hk => by rw [← hWl]; exact Below.heap_alloc _ _ _ hk
 have HIN := Aside0.mk (show FolI Wl.heap.size wm.heap.size w.heap.size b g cap n p pl (List.replicate (n + 1) false) Wl from by
  have hwl := hbl2
  refine ⟨by rw [← hWl]; exact Blk.new _ _ _, (hkeep _ hbx.lt).trans hbx, ⟨A, c, A2, c2, HBB.out.below hwl hbl, ?_, ?_⟩, ?_, by have := hb.size; omega, by have := hb.size; omega, by have := hb.size; omega, by omega, by omega, by omega, by omega⟩
  ·have h1 := Kd.R_step (Kd.R_bound (Kd.R_lower HPP.out (Nat.zero_le _))) (w1 := Wl) (fun k hk _ => hwl.block k hk.2.2.1)
   exact Kd.R_mono h1 (fun k hk => ⟨by have := hk.2.2.1; omega, by have := hk.2.2.1; have := hb.size; omega⟩)
  ·have h1 := Kd.R_step (Kd.R_bound (Kd.R_lower HQQ.out (Nat.zero_le _))) (w1 := Wl) (fun k hk _ => hwl.block k hk.2.2.1)
   exact Kd.R_mono h1 (fun k hk => ⟨by have := hk.2.2.1; omega, by have := hk.2.2.1; have := hb.size; omega⟩)
  ·have h1 := Kd.R_lower (Kd.R_step ho (w1 := Wl) (fun k _ hk => hkeep k hk)) (Nat.zero_le _)
   exact Kd.R_of_own (by rw [show (List.replicate (n + 1) false).length = n + 1 from List.length_replicate ..]; have := Kd.own_of_R h1; rw [List.length_replicate] at this; exact this) (fun k hk => by simpa [Value.ownBlock] using hk.symm))
 have HBL := Aside0.mk hbl2
 have HGW := Aside0.mk hgb
 have HSL := Aside0.mk hsl
 have HGH := Aside0.mk (show w.heap.size ≤ wm.heap.size from hb.size)
 have hs0 : Wl.cell? ⟨wm.heap.size, 0, none⟩ = some (.slice (some ⟨g, 0, none⟩) (n + 1) cap) := HIN.out.sb.cell 0 rfl
 simp only [List.length_replicate]
 clear ho hb hg hat hown hgb hgh hgl hbx hgx hbl2 hsl hkeep hba hb0
 go_wp2
 obtain ⟨N, hNe⟩ : ∃ N, Wl.heap.size = N := ⟨_, rfl⟩
 obtain ⟨bs, hbs⟩ : ∃ bs, wm.heap.size = bs := ⟨_, rfl⟩
 rw [hNe, hbs] at HIN
 rw [hbs] at HSL HGH hs0
 rw [hNe] at HSL
 try rw [hWl]
 try rw [hbs]
 have HNE := Aside0.mk hNe
 have HNW := Aside0.mk (show w.heap.size ≤ N by have := HSL.out; have := HGH.out; omega)
 clear hWl hbs hNe hs0
 go_loopw [5, 17] (fun o iv wr => ∃ (k : Nat) (sn : List Bool) (out : List (List Int)), k ≤ n + 1 ∧ iv = .int .i64 (k : Int) ∧ Aside0 (cirTo p pl n k = (sn, out)) ∧ Aside0 (out.length ≤ k) ∧ Aside0 (Kd.S (Kd.slice 3 (Kd.int .i64)) 22 wr N (fun j => N ≤ j) o out) ∧ Aside0 (FolI N bs w.heap.size b g cap n p pl sn wr) ∧ Aside0 (Below w.heap.size w wr) ∧ Aside0 (N ≤ wr.heap.size)) (fun _ iv _ => n + 1 - (intOf iv).toNat)
 case atStart => exact ⟨0, List.replicate (n + 1) false, [], Nat.zero_le _, rfl, ⟨rfl⟩, ⟨Nat.le_refl _⟩, ⟨Kd.S_nil _ _ _ _ _⟩, HIN, HBL, ⟨by rw [HNE.out]; exact Nat.le_refl _⟩⟩
 case round =>
  obtain ⟨k, sn, out, hk, rfl, HC, HOL, HO, HF, HW, HN⟩ := hrel
  by_cases hlt : k < n + 1
  ·have hi0 : (0 : Int) ≤ (k : Int) := by omega
   have hi1 : (k : Int) < (n : Int) + 1 := by omega
   have hsl := (rowB_block HF.out.row).1
   have hs0 := HF.out.sb.cell 0 (v := .slice (some ⟨g, 0, none⟩) (n + 1) cap) rfl
   obtain ⟨hg1, hg2⟩ := Kd.R_cell (h1 := fun _ => rfl) (enc := Value.bool) false (by rw [← hsl]; exact HF.out.row) (k : Int) (by omega) (by rw [← hsl]; omega)
   rw [Int.toNat_natCast] at hg1 hg2
   have hgd : rdOf false sn (k : Int) = sn.getD k false := by
    unfold rdOf
    rw [Int.toNat_natCast]
   rw [hgd] at hg1
   have HST := Aside0.mk (cirTo_step p pl n k)
   have hwt : IntKind.i64.wrap ((k : Int) + 1) = ((k + 1 : Nat) : Int) := by rw [iw64 (by omega) (by omega)]; omega
   clear hsl hgd
   by_cases hsq : sn.getD k false = true
   ·rw [hsq] at hg1
    have HSQ := Aside0.mk hsq
    clear hsq
    go_wp2
    go_roundw
    case rel => exact ⟨k + 1, sn, out, by omega, rfl, ⟨by rw [HST.out, HC.out, cirStep, if_pos HSQ.out]⟩, ⟨by have := HOL.out; omega⟩, HO, HF, HW, HN⟩
    case measure => simp [intOf]; omega
   ·rw [Bool.not_eq_true] at hsq
    rw [hsq] at hg1
    have HSQ := Aside0.mk hsq
    clear hsq
    go_wp2_with (go_at_call 80; refine stopper ?_)
    unfold Hold
    refine (follow_calls N bs w.heap.size b g cap n hs p pl sn k (by omega) wr HN.out HF.out HPR.out HPLR.out HSQ.out).mono ?_
    rintro e w2 ⟨v2, rfl, hv2, hf2, hr2⟩
    obtain ⟨r, hre⟩ : ∃ r, folF p pl (unseen sn + 1) (2 * k) sn [] = r := ⟨_, rfl⟩
    rw [hre] at hv2 hf2
    have HRE := Aside0.mk hre
    have HV2 := Aside0.mk hv2
    have HF2 := Aside0.mk hf2
    have HR2 := Aside0.mk hr2
    have HVB := Aside0.mk (Kd.R_base hv2)
    have HO2 := Aside0.mk (Kd.S_step (Kd.S_mono (ok' := fun j => N ≤ j ∧ j < wr.heap.size) (Kd.S_bound HO.out) (fun j hj => ⟨hj.1, hj.2.2.1⟩)) (w1 := w2) (fun j hj hl => hr2.other j hl (by have := HF.out.lt.2.2.2.1; omega)))
    have HULT := Aside0.mk (Kd.S_lt HO.out)
    obtain ⟨Av, cv, ev⟩ := Kd.R_slice hv2
    subst ev
    clear hre hv2 hf2 hr2
    go_wp2_with ((with_reducible refine gate_builtin (b := .append) (xs := #[.tmp 25, .tmp 29]) rfl ?_); at_builtin; refine stopper ?_)
    unfold Hold
    refine Kd.S_append (Kd.slice 3 (Kd.int .i64)) (w0 := w2) N rfl (.tmp 25) (.tmp 29) 45 22 (.slice none 0 0) 24 rfl Try.underlying45 info22 rfl (by decide) (by decide) u5 out (sortL r.1) [.slice Av (sortL r.1).length cv] (fun j => N ≤ j) (fun j => some j = (Value.slice Av (sortL r.1).length cv).ownBlock) rfl rfl ⟨_, rfl, Kd.R_of_own (Kd.own_of_R (Kd.R_lower HV2.out HN.out)) (fun k hk => hk.symm)⟩ (fun k hk => ⟨by have := HVB.out k hk.symm;have := HN.out;omega, fun e => by have h1 := HVB.out k hk.symm;have h2 := HULT.out k e.symm;omega⟩) (fun k hk => by have := HN.out;have := HR2.out.size;omega) (Kd.S_mono HO2.out (fun k hk => ⟨hk.1, fun e => by have h1 := HVB.out k e.symm;omega⟩)) ((Below.refl w2.heap.size w2).mono (by have := HN.out;have := HR2.out.size;omega)) (by have := HN.out;have := HR2.out.size;omega) (by have := HOL.out;omega) ?_
    intro v1 wy ho hb hg hat
    have HOY := Aside0.mk ho
    have HFY := Aside0.mk (HF2.out.keep (fun j hj => hb.block j hj))
    have HWY := Aside0.mk (show Below w.heap.size w wy from by
     have h1 : Below w.heap.size w w2 := ⟨HR2.out.os.trans HW.out.os, HR2.out.tape.trans HW.out.tape, HR2.out.output.trans HW.out.output, Nat.le_trans HW.out.size HR2.out.size, fun j hj => (HR2.out.other j (by have := HW.out.size; omega) (by have := HGW.out; omega)).trans (HW.out.block j hj)⟩
     exact h1.trans (hb.mono HNW.out))
    have HNY := Aside0.mk (show N ≤ wy.heap.size by have := HN.out; have := HR2.out.size; have := hb.size; omega)
    clear ho hb hg hat hg1 hg2 hs0
    go_wp2
    go_roundw
    case rel => exact ⟨k + 1, r.2, out ++ [sortL r.1], by omega, rfl, ⟨by rw [HST.out, HC.out, cirStep, if_neg (by simp only; rw [HSQ.out]; simp)]; simp only; rw [HRE.out]⟩, ⟨by have := HOL.out; simp; omega⟩, HOY, HFY, HWY, HNY⟩
    case measure => simp [intOf]; omega
  ·have hi1 : ¬ (k : Int) < (n : Int) + 1 := by omega
   have HKN := Aside0.mk (show k = n + 1 by omega)
   go_wp2
   go_ret
   refine ⟨_, rfl, ?_, HW.out⟩
   rw [HCI.out, ← HKN.out, HC.out]
   exact Kd.S_mono (Kd.S_lower HO.out HNW.out) (fun _ _ => trivial)
def pancake_Circles.f (l0 : List Int) : Option (List (List Int) × Int) := some (if isSt true 40 l0 = true then (circL l0, 0) else ([], 70))
set_option maxHeartbeats 4000000 in
theorem pancake_Circles.calls (A0 : Option Addr) (c0 : Nat) (l0 : List Int) (r1 : List (List Int)) (r2 : Int) (w : World) (hr0 : Kd.C (Kd.int .i64) w A0 l0.length l0) (hc0 : l0.length ≤ c0) (h : pancake_Circles.f l0 = some (r1, r2)) :
  Calls Try.prog 36 #[.slice A0 l0.length c0] w fun e w' => ∃ v0_ : Value, e = .returned (.tuple #[v0_, .int .i64 r2]) ∧ Kd.S (Kd.slice 3 (Kd.int .i64)) 22 w' w.heap.size (fun _ => True) v0_ r1 ∧ Below w.heap.size w w' := by
 have HC := Aside0.mk (check55_one A0 c0 l0 w hr0 hc0)
 have HR0 := Aside0.mk hr0
 clear hr0
 unfold pancake_Circles.f at h
 unfold chk1 at HC
 go_enter Try.func36, Try.ntmps36
 by_cases hst : isSt true 40 l0 = true
 ·rw [if_pos hst] at h HC
  cases h
  have HRG := Aside0.mk (isSt_range hst)
  have HSM := Aside0.mk (isSt_small hst (by decide))
  clear hst
  go_wp2_with (go_at_call 55; refine stopper ?_)
  unfold Hold
  refine HC.out.mono ?_
  rintro e w1 ⟨rfl, hb⟩
  have HB1 := Aside0.mk hb
  clear hb
  go_wp2_with (go_at_call 60; refine stopper ?_)
  unfold Hold
  refine (pictured_calls A0 c0 l0 w1 (Kd.C_below HR0.out HB1.out) HSM.out.2.1 HRG.out).mono ?_
  rintro e w2 ⟨rfl, hp, hb⟩
  have HB2 := Aside0.mk (HB1.out.trans (hb.mono HB1.out.size))
  have HP := Aside0.mk hp
  clear hb hp
  go_wp2_with (go_at_call 62; refine stopper ?_)
  unfold Hold
  refine (circles_calls _ _ l0 HSM.out.2.1 HRG.out w2 HP.out).mono ?_
  rintro e w3 ⟨v3, rfl, hv3, hb⟩
  have HB3 := Aside0.mk (HB2.out.trans (hb.mono HB2.out.size))
  have HV3 := Aside0.mk (Kd.S_lower hv3 HB2.out.size)
  clear hb hv3
  go_wp2
  refine bodyPost_ret (results_tmp2 rfl _ _ _) rfl ⟨_, rfl, HV3.out, HB3.out⟩
 ·rw [if_neg hst] at h HC
  cases h
  clear hst
  go_wp2_with (go_at_call 55; refine stopper ?_)
  unfold Hold
  refine HC.out.mono ?_
  rintro e w1 ⟨rfl, hb⟩
  have HB1 := Aside0.mk hb
  clear hb
  go_wp2
  refine bodyPost_ret (results_tmp2 rfl _ _ _) rfl ⟨_, rfl, Kd.S_nil _ _ _ _ _, HB1.out⟩
end Go.Proofs.Ytepjhdblmghckaa.G


namespace Go.Proofs.Ytepjhdblmghckaa.G
open Go.Proofs.Ytepjhdblmghckaa.Q Go.Proofs.Ytepjhdblmghckaa.K Go.Proofs.Ytepjhdblmghckaa.Bf
open Go.RowKit Go.Shelf Go.Proofs.YtepjhdblmghckaaW.PrintWords Go.Proofs.YtepjhdblmghckaaW.PrintLast Go.Proofs.YtepjhdblmghckaaW.PrintMore
set_option linter.unusedVariables false
attribute [local go_sem] max2_int min2_int max_two min_two
def spanOf (pl : List Int) (line : Nat) : Int × Int := (min (nth pl (2 * line)) (nth pl (2 * line + 1)), max (nth pl (2 * line)) (nth pl (2 * line + 1)))
set_option maxRecDepth 100000 in
set_option maxHeartbeats 4000000 in
theorem span_calls (b base : Nat) (s : List Int) (hs : s.length ≤ 40) (line : Nat) (hline : line ≤ s.length) (w : World) (hP : PicOk base b s w) :
  Calls Try.prog 92 #[.pointer (some ⟨b, 0, none⟩), .int .i64 (line : Int)] w fun e w' => e = .returned (.agg #[.int .i64 (spanOf (plL s) line).1, .int .i64 (spanOf (plL s) line).2]) ∧ Below w.heap.size w w' := by
 obtain ⟨n, hn⟩ : ∃ n, s.length = n := ⟨_, rfl⟩
 obtain ⟨A, c, A2, c2, hbb, hpp, hqq⟩ := hP
 rw [hn] at hs hline hbb hpp hqq
 obtain ⟨pl, hple⟩ : ∃ pl, plL s = pl := ⟨_, rfl⟩
 rw [hple] at hqq ⊢
 obtain ⟨W0, hW0⟩ : ∃ W0, w.alloc (.cells #[.int .i64 0, .int .i64 0] 124) = W0 := ⟨_, rfl⟩
 have hB : Below w.heap.size w W0 := by rw [← hW0]; exact (Below.refl _ w).alloc (Nat.le_refl _) _
 have hN : Blk W0 w.heap.size #[.int .i64 0, .int .i64 0] 124 := by rw [← hW0]; exact Blk.new _ _ _
 have hb1 := (hbb.below hB hbb.lt).cell 1 (v := .slice A2 (2 * n + 2) c2) rfl
 obtain ⟨ad, e1, hc1⟩ := Kd.at_int (Kd.C_below (Kd.R_reads' hqq).2.2 hB) ((2 * line : Nat) : Int) (by omega) (by first | omega | (have := (Kd.R_reads' hqq).1; omega))
 obtain ⟨ad', e2, hc2⟩ := Kd.at_int (Kd.C_below (Kd.R_reads' hqq).2.2 hB) ((2 * line + 1 : Nat) : Int) (by omega) (by first | omega | (have := (Kd.R_reads' hqq).1; omega))
 rw [rd_nth, Int.toNat_natCast] at hc1 hc2
 subst e1
 cases e2
 unfold spanOf
 obtain ⟨x, hx⟩ : ∃ x, nth pl (2 * line) = x := ⟨_, rfl⟩
 obtain ⟨y, hy⟩ : ∃ y, nth pl (2 * line + 1) = y := ⟨_, rfl⟩
 rw [hx] at hc1 ⊢
 rw [hy] at hc2 ⊢
 have hw1 : IntKind.i64.wrap (2 * (line : Int)) = 2 * (line : Int) := iw64 (by omega) (by omega)
 have hw2 : IntKind.i64.wrap (2 * (line : Int) + 1) = 2 * (line : Int) + 1 := iw64 (by omega) (by omega)
 have ht1 : (2 * (line : Int)).toNat = 2 * line := by omega
 have ht2 : (2 * (line : Int) + 1).toNat = 2 * line + 1 := by omega
 have hi0 : (0 : Int) ≤ 2 * (line : Int) := by omega
 have hi1 : 2 * (line : Int) < 2 * (n : Int) + 2 := by omega
 have hi2 : (0 : Int) ≤ 2 * (line : Int) + 1 := by omega
 have hi3 : 2 * (line : Int) + 1 < 2 * (n : Int) + 2 := by omega
 have hc3 : W0.cell? { block := ad.block, off := ad.off + (2 * line + 1) } = some (.int .i64 y) := by
  have h := hc2
  simp only [Addr.add] at h
  first | exact h | (split at h <;> first | omega | exact h) | simpa using h
 have HB := Aside0.mk hB
 have HN := Aside0.mk hN
 have n0 := hN.cell 0 (v := .int .i64 0) rfl
 have n1 := hN.cell 1 (v := .int .i64 0) rfl
 have f0 := hN.free 0
 have f1 := hN.free 1
 clear hbb hpp hqq hB hN hx hy hple hn
 go_enter Try.func92, Try.ntmps92
 go_upto_region 1 with fail
 try rw [hW0]
 clear hW0
 go_quiet (fail)
 have HB2 := Aside0.mk (pw_below_drewN HB.out nq)
 rcases Int.lt_trichotomy x y with hlt | rfl | hgt
 ·have m1 : min x y = x := by omega
  have m2 : max x y = y := by omega
  have q1 : ¬ y < x := by omega
  have q2 : ¬ y ≤ x := by omega
  have q3 : x ≤ y := by omega
  have M12 := Aside0.mk (And.intro m1 m2)
  clear m1 m2
  go_wp2
  refine bodyPost_ret (results_cell_row rfl _ _ w.heap.size 124 #[.int .i64 x, .int .i64 y] (0, 0) _ rfl (show Blk _ w.heap.size _ 124 from by simpa using ((HN.out.drewN nq).set 0 (.int .i64 x)).set 1 (.int .i64 y)) Try.underlying124 rfl (by kernel_rfl)) rfl ⟨by rw [M12.out.1, M12.out.2], (HB2.out.setCell (Nat.le_refl _) _).setCell (Nat.le_refl _) _⟩
 ·have m1 : min x x = x := by omega
  have m2 : max x x = x := by omega
  have M12 := Aside0.mk (And.intro m1 m2)
  clear m1 m2
  go_wp2
  refine bodyPost_ret (results_cell_row rfl _ _ w.heap.size 124 #[.int .i64 x, .int .i64 x] (0, 0) _ rfl (show Blk _ w.heap.size _ 124 from by simpa using ((HN.out.drewN nq).set 0 (.int .i64 x)).set 1 (.int .i64 x)) Try.underlying124 rfl (by kernel_rfl)) rfl ⟨by rw [M12.out.1, M12.out.2], (HB2.out.setCell (Nat.le_refl _) _).setCell (Nat.le_refl _) _⟩
 ·have m1 : min x y = y := by omega
  have m2 : max x y = x := by omega
  have q1 : ¬ x < y := by omega
  have q2 : ¬ x ≤ y := by omega
  have q3 : y ≤ x := by omega
  have M12 := Aside0.mk (And.intro m1 m2)
  clear m1 m2
  go_wp2
  refine bodyPost_ret (results_cell_row rfl _ _ w.heap.size 124 #[.int .i64 y, .int .i64 x] (0, 0) _ rfl (show Blk _ w.heap.size _ 124 from by simpa using ((HN.out.drewN nq).set 0 (.int .i64 y)).set 1 (.int .i64 x)) Try.underlying124 rfl (by kernel_rfl)) rfl ⟨by rw [M12.out.1, M12.out.2], (HB2.out.setCell (Nat.le_refl _) _).setCell (Nat.le_refl _) _⟩
end Go.Proofs.Ytepjhdblmghckaa.G


namespace Go.Proofs.Ytepjhdblmghckaa.G
open Go.Proofs.Ytepjhdblmghckaa.Q Go.Proofs.Ytepjhdblmghckaa.K Go.Proofs.Ytepjhdblmghckaa.Bf
open Go.RowKit Go.Shelf Go.Proofs.YtepjhdblmghckaaW.PrintWords Go.Proofs.YtepjhdblmghckaaW.PrintLast Go.Proofs.YtepjhdblmghckaaW.PrintMore
set_option linter.unusedVariables false
theorem eq124 (W : World) (a b c d : Int) : (Op.equalIn 10000 124 (.agg #[.int .i64 a, .int .i64 b]) (.agg #[.int .i64 c, .int .i64 d])).run Try.prog W = .ok (a == c && b == d) W := by
 have hu0 := Try.underlying124
 have hf := show Try.prog.fieldsOf 124 = _ from by unfold Program.fieldsOf; rw [hu0]
 have hu : Try.prog.underlying 124 = some (.struct (Try.prog.fieldsOf 124)) := by rw [hf]; exact hu0
 have hp : Try.prog.stoodInHeld 124 = false := by kernel_rfl
 rw [show (10000 : Nat) = 9999 + 1 from rfl, run_equalIn_struct W 9999 124 _ _ hu hp, hf]
 have e1 : ∀ x y : Int, (Op.equalIn 9999 3 (.int .i64 x) (.int .i64 y)).run Try.prog W = .ok (x == y) W := fun x y => run_equalIn_int W 9998 3 .i64 .i64 x y Try.underlying3
 have p0 : ∀ x y : Int, (part 3 #[Value.int .i64 x, Value.int .i64 y] 0).run Try.prog W = .ok (.int .i64 x) W := fun x y => by simp [part, Try.isAgg3]
 have p1 : ∀ x y : Int, (part 3 #[Value.int .i64 x, Value.int .i64 y] 1).run Try.prog W = .ok (.int .i64 y) W := fun x y => by simp [part, Try.isAgg3]
 simp only [Op.eqFields, Sem.run_bind, p0, p1, e1, Result.andThen_ok]
 by_cases h : a = c <;> by_cases k : b = d <;> simp [h, k, Sem.run_pure, p0, p1, e1, Result.andThen_ok]
set_option linter.unusedSimpArgs false
def crossB (a b : Int × Int) : Bool := !(a.1 == b.1 && a.2 == b.2) && ((decide (a.1 < b.1) && decide (b.1 < a.2) && decide (a.2 < b.2)) || (decide (b.1 < a.1) && decide (a.1 < b.2) && decide (b.2 < a.2)))
set_option maxRecDepth 100000 in
set_option maxHeartbeats 8000000 in
theorem cross_calls (x0 x1 y0 y1 : Int) (w : World) :
  Calls Try.prog 93 #[.agg #[.int .i64 x0, .int .i64 x1], .agg #[.int .i64 y0, .int .i64 y1]] w fun e w' => e = .returned (.bool (crossB (x0, x1) (y0, y1))) ∧ Below w.heap.size w w' := by
 unfold crossB
 simp only
 have heq := fun W => eq124 W x0 x1 y0 y1
 obtain ⟨W0, hW0⟩ : ∃ W0, (w.alloc (.cells #[.int .i64 x0, .int .i64 x1] 124)).alloc (.cells #[.int .i64 y0, .int .i64 y1] 124) = W0 := ⟨_, rfl⟩
 have hB : Below w.heap.size w W0 := by rw [← hW0]; exact ((Below.refl _ w).alloc (Nat.le_refl _) _).alloc (by simp) _
 have h0 : Blk W0 w.heap.size #[.int .i64 x0, .int .i64 x1] 124 := by rw [← hW0]; exact (Blk.new _ _ _).alloc _
 have h1 : Blk W0 (w.heap.size + 1) #[.int .i64 y0, .int .i64 y1] 124 := by
  rw [← hW0]
  have := Blk.new (w.alloc (.cells #[.int .i64 x0, .int .i64 x1] 124)) #[.int .i64 y0, .int .i64 y1] 124
  rw [World.size_alloc] at this
  exact this
 have a0 := h0.cell 0 (v := .int .i64 x0) rfl
 have a1 := h0.cell 1 (v := .int .i64 x1) rfl
 have b0 := h1.cell 0 (v := .int .i64 y0) rfl
 have b1 := h1.cell 1 (v := .int .i64 y1) rfl
 have HB := Aside0.mk hB
 clear h0 h1 hB
 obtain ⟨q, hq⟩ : ∃ q, (x0 == y0 && x1 == y1) = q := ⟨_, rfl⟩
 rw [hq] at heq ⊢
 clear hq
 go_enter Try.func93, Try.ntmps93
 go_upto_region 1 with fail
 try rw [hW0]
 clear hW0
 cases q
 ·by_cases c1 : x0 < y0 <;> by_cases c2 : y0 < x1 <;> by_cases c3 : x1 < y1 <;> by_cases c4 : y0 < x0 <;> by_cases c5 : x0 < y1 <;> by_cases c6 : y1 < x1 <;> first
   | (exfalso; omega)
   | (go_wp2; go_ret; exact ⟨by simp [c1, c2, c3, c4, c5, c6], HB.out⟩)
 ·go_wp2
  go_ret
  exact ⟨by simp, HB.out⟩
end Go.Proofs.Ytepjhdblmghckaa.G


namespace Go.Proofs.Ytepjhdblmghckaa.G
open Go.Proofs.Ytepjhdblmghckaa.Q Go.Proofs.Ytepjhdblmghckaa.K Go.Proofs.Ytepjhdblmghckaa.Bf
open Go.RowKit Go.Shelf Go.Proofs.YtepjhdblmghckaaW.PrintWords Go.Proofs.YtepjhdblmghckaaW.PrintLast Go.Proofs.YtepjhdblmghckaaW.PrintMore
set_option linter.unusedVariables false
def idxI {α : Type} (p : α → Bool) (l : List α) : Int := if l.any p = true then ((l.findIdx p : Nat) : Int) else -1
theorem idxI_hit {α : Type} {p : α → Bool} {l : List α} (z : α) {k : Nat} (hk : k < l.length) (h : p (l.getD k z) = true) (hm : ∀ j, j < k → p (l.getD j z) = false) : idxI p l = (k : Int) := by
 have hg : ∀ j (hj : j < l.length), l.getD j z = l[j] := fun j hj => by simp [List.getD_eq_getElem?_getD, hj]
 have e : l.findIdx p = k := by
  rw [List.findIdx_eq hk]
  exact ⟨by rw [← hg k hk]; exact h, fun j hj => by rw [← hg j (by omega)]; exact hm j hj⟩
 unfold idxI
 rw [if_pos (by rw [List.any_eq_true]; exact ⟨l[k], List.getElem_mem hk, by rw [← hg k hk]; exact h⟩), e]
theorem idxI_miss {α : Type} {p : α → Bool} {l : List α} (z : α) (hm : ∀ j, j < l.length → p (l.getD j z) = false) : idxI p l = -1 := by
 unfold idxI
 rw [if_neg]
 rw [List.any_eq_true]
 rintro ⟨x, hx, hp⟩
 obtain ⟨j, hj, rfl⟩ := List.mem_iff_getElem.1 hx
 have := hm j hj
 rw [List.getD_eq_getElem?_getD, List.getElem?_eq_getElem hj] at this
 simp only [Option.getD_some] at this
 rw [this] at hp
 cases hp
set_option maxRecDepth 100000 in
set_option maxHeartbeats 4000000 in
theorem idx101_calls (g : Nat) (lb : Array Value) (eg : ∀ args w, (callFunc g args).run Try.prog w = .ok (.enter g args) w) (p : Int → Bool) (A : Option Addr) (c : Nat) (l : List Int) (w : World) (hC : Kd.C (Kd.int .i64) w A l.length l) (hl : l.length ≤ 1000000)
  (hp : ∀ x, x ∈ l → ∀ W, Below w.heap.size w W → Calls Try.prog g (#[.int .i64 x] ++ lb) W fun e W' => e = .returned (.bool (p x)) ∧ Below W.heap.size W W') :
  Calls Try.prog 101 #[.slice A l.length c, .func (.func g) #[] lb] w fun e w' => e = .returned (.int .i64 (idxI p l)) ∧ Below w.heap.size w w' := by
 obtain ⟨n, hn⟩ : ∃ n, l.length = n := ⟨_, rfl⟩
 have HC := Aside0.mk hC
 have HP := Aside0.mk hp
 have HN := Aside0.mk hn
 rw [hn] at hl HC ⊢
 clear hC hp hn
 go_enter Try.func101, Try.ntmps101
 go_wp2
 go_loopw [5, 8] (fun _ s8 wr => ∃ k : Nat, k ≤ n ∧ s8 = .int .i64 (k : Int) ∧ Aside0 (Below w.heap.size w wr) ∧ Aside0 (∀ j, j < k → p (l.getD j 0) = false)) (fun _ s8 _ => n - (intOf s8).toNat)
 case atStart => exact ⟨0, Nat.zero_le _, rfl, ⟨Below.refl _ _⟩, ⟨fun j hj => absurd hj (Nat.not_lt_zero _)⟩⟩
 case round =>
  obtain ⟨k, hk, rfl, HB, HA⟩ := hrel
  by_cases hlt : k < n
  ·have hi0 : (0 : Int) ≤ (k : Int) := by omega
   have hi1 : (k : Int) < (n : Int) := by omega
   obtain ⟨ad, e1, hc1⟩ := Kd.at_int (Kd.C_below HC.out HB.out) (k : Int) hi0 (by omega)
   rw [rd_nth, Int.toNat_natCast] at hc1
   have hmem : l.getD k 0 ∈ l := by
    rw [List.getD_eq_getElem?_getD, List.getElem?_eq_getElem (by rw [HN.out]; exact hlt)]
    exact List.getElem_mem _
   have hcall := HP.out _ hmem wr HB.out
   have hwt : IntKind.i64.wrap ((k : Int) + 1) = ((k + 1 : Nat) : Int) := by rw [iw64 (by omega) (by omega)]; omega
   have HNT := Aside0.mk (show nth l k = l.getD k 0 from rfl)
   rw [HNT.out] at hc1
   obtain ⟨x, hx⟩ : ∃ x, l.getD k 0 = x := ⟨_, rfl⟩
   rw [hx] at hc1 hcall
   have HX := Aside0.mk hx
   subst e1
   clear hx hmem
   cases hq : p x with
   | true =>
    rw [hq] at hcall
    have HQ := Aside0.mk hq
    have HCL := Aside0.mk hcall
    clear hq hcall
    go_wp2_with (go_at_fn g; refine stopper ?_)
    unfold Hold
    refine HCL.out.mono ?_
    rintro e w2 ⟨rfl, hb⟩
    have HB2 := Aside0.mk (HB.out.trans (hb.mono HB.out.size))
    clear hb
    go_wp2
    go_ret
    exact ⟨by rw [idxI_hit 0 (by rw [HN.out]; exact hlt) (by rw [HX.out]; exact HQ.out) HA.out]; rfl, HB2.out⟩
   | false =>
    rw [hq] at hcall
    have HQ := Aside0.mk hq
    have HCL := Aside0.mk hcall
    clear hq hcall
    go_wp2_with (go_at_fn g; refine stopper ?_)
    unfold Hold
    refine HCL.out.mono ?_
    rintro e w2 ⟨rfl, hb⟩
    have HB2 := Aside0.mk (HB.out.trans (hb.mono HB.out.size))
    clear hb
    go_wp2
    go_roundw
    case rel => exact ⟨k + 1, by omega, rfl, HB2, ⟨fun j hj => by
     by_cases e : j = k
     ·subst e; rw [HX.out]; exact HQ.out
     ·exact HA.out j (by omega)⟩⟩
    case measure => simp [intOf]; omega
  ·have hi1 : ¬ (k : Int) < (n : Int) := by omega
   have HKN := Aside0.mk (show k = n by omega)
   go_wp2
   go_ret
   exact ⟨by rw [idxI_miss 0 (fun j hj => HA.out j (by have := HN.out; have := HKN.out; omega))]; rfl, HB.out⟩
set_option maxRecDepth 100000 in
set_option maxHeartbeats 4000000 in
theorem any89_calls (g : Nat) (lb : Array Value) (eg : ∀ args w, (callFunc g args).run Try.prog w = .ok (.enter g args) w) (p : Int → Bool) (A : Option Addr) (c : Nat) (l : List Int) (w : World) (hC : Kd.C (Kd.int .i64) w A l.length l) (hl : l.length ≤ 1000000)
  (hp : ∀ x, x ∈ l → ∀ W, Below w.heap.size w W → Calls Try.prog g (#[.int .i64 x] ++ lb) W fun e W' => e = .returned (.bool (p x)) ∧ Below W.heap.size W W') :
  Calls Try.prog 89 #[.slice A l.length c, .func (.func g) #[] lb] w fun e w' => e = .returned (.bool (l.any p)) ∧ Below w.heap.size w w' := by
 have HI := Aside0.mk (idx101_calls g lb eg p A c l w hC hl hp)
 clear hC hp
 go_enter Try.func89, Try.ntmps89
 go_wp2_with (go_at_call 101; refine stopper ?_)
 unfold Hold
 refine HI.out.mono ?_
 rintro e w2 ⟨rfl, hb⟩
 have HB := Aside0.mk hb
 clear hb
 have HQ0 := Aside0.mk (rfl : l.any p = l.any p)
 obtain ⟨q, hqe⟩ : ∃ q, l.any p = q := ⟨_, rfl⟩
 have HQ := Aside0.mk hqe
 cases q with
 | true =>
  have hq := HQ.out
  have e : idxI p l = ((l.findIdx p : Nat) : Int) := by unfold idxI; rw [if_pos hq]
  rw [e]
  have hge : (0 : Int) ≤ ((l.findIdx p : Nat) : Int) := by omega
  obtain ⟨m, hm⟩ : ∃ m, l.findIdx p = m := ⟨_, rfl⟩
  rw [hm] at hge ⊢
  clear hq e hqe hm
  go_wp2
  go_ret
  exact ⟨by rw [HQ.out]; rfl, HB.out⟩
 | false =>
  have hq := HQ.out
  have e : idxI p l = -1 := by unfold idxI; rw [if_neg (by rw [hq]; simp)]
  rw [e]
  clear hq e hqe
  go_wp2
  go_ret
  exact ⟨by rw [HQ.out]; rfl, HB.out⟩
set_option maxRecDepth 100000 in
set_option maxHeartbeats 4000000 in
theorem idx94_calls (g : Nat) (lb : Array Value) (eg : ∀ args w, (callFunc g args).run Try.prog w = .ok (.enter g args) w) (p : List Int → Bool) (A : Option Addr) (c : Nat) (l : List (List Int)) (w : World) (hC : Kd.C (Kd.slice 3 (Kd.int .i64)) w A l.length l) (hl : l.length ≤ 1000000)
  (hp : ∀ x, x ∈ l → ∀ W A' c', Below w.heap.size w W → x.length ≤ c' → Kd.C (Kd.int .i64) W A' x.length x → Calls Try.prog g (#[.slice A' x.length c'] ++ lb) W fun e W' => e = .returned (.bool (p x)) ∧ Below W.heap.size W W') :
  Calls Try.prog 94 #[.slice A l.length c, .func (.func g) #[] lb] w fun e w' => e = .returned (.int .i64 (idxI p l)) ∧ Below w.heap.size w w' := by
 obtain ⟨n, hn⟩ : ∃ n, l.length = n := ⟨_, rfl⟩
 have HC := Aside0.mk hC
 have HP := Aside0.mk hp
 have HN := Aside0.mk hn
 rw [hn] at hl HC ⊢
 clear hC hp hn
 go_enter Try.func94, Try.ntmps94
 go_wp2
 go_loopw [5, 8] (fun _ s8 wr => ∃ k : Nat, k ≤ n ∧ s8 = .int .i64 (k : Int) ∧ Aside0 (Below w.heap.size w wr) ∧ Aside0 (∀ j, j < k → p (l.getD j []) = false)) (fun _ s8 _ => n - (intOf s8).toNat)
 case atStart => exact ⟨0, Nat.zero_le _, rfl, ⟨Below.refl _ _⟩, ⟨fun j hj => absurd hj (Nat.not_lt_zero _)⟩⟩
 case round =>
  obtain ⟨k, hk, rfl, HB, HA⟩ := hrel
  by_cases hlt : k < n
  ·have hi0 : (0 : Int) ≤ (k : Int) := by omega
   have hi1 : (k : Int) < (n : Int) := by omega
   obtain ⟨ad, cs, e1, _, ⟨A', c', e2, hl2, hc2⟩, hc1⟩ := Kd.C_get (Kd.C_below HC.out HB.out) [] (k : Int) hi0 (by omega)
   subst e2
   have hc1 := hc1 0 _ rfl
   rw [Int.toNat_natCast, show (Kd.slice 3 (Kd.int .i64)).sz = 1 from rfl, Nat.mul_one, Nat.add_zero] at hc1
   rw [Int.toNat_natCast] at hl2 hc2
   have hmem : l.getD k [] ∈ l := by
    rw [List.getD_eq_getElem?_getD, List.getElem?_eq_getElem (by rw [HN.out]; exact hlt)]
    exact List.getElem_mem _
   have hcall := HP.out _ hmem wr A' c' HB.out hl2 hc2
   have hwt : IntKind.i64.wrap ((k : Int) + 1) = ((k + 1 : Nat) : Int) := by rw [iw64 (by omega) (by omega)]; omega
   obtain ⟨x, hx⟩ : ∃ x, l.getD k [] = x := ⟨_, rfl⟩
   rw [hx] at hc1 hcall
   have HX := Aside0.mk hx
   subst e1
   clear hx hmem hl2 hc2
   obtain ⟨xn, hxn⟩ : ∃ xn, x.length = xn := ⟨_, rfl⟩
   rw [hxn] at hc1 hcall
   clear hxn
   cases hq : p x with
   | true =>
    rw [hq] at hcall
    have HQ := Aside0.mk hq
    have HCL := Aside0.mk hcall
    clear hq hcall
    go_wp2_with (go_at_fn g; refine stopper ?_)
    unfold Hold
    refine HCL.out.mono ?_
    rintro e w2 ⟨rfl, hb⟩
    have HB2 := Aside0.mk (HB.out.trans (hb.mono HB.out.size))
    clear hb
    go_wp2
    go_ret
    exact ⟨by rw [idxI_hit [] (by rw [HN.out]; exact hlt) (by rw [HX.out]; exact HQ.out) HA.out]; rfl, HB2.out⟩
   | false =>
    rw [hq] at hcall
    have HQ := Aside0.mk hq
    have HCL := Aside0.mk hcall
    clear hq hcall
    go_wp2_with (go_at_fn g; refine stopper ?_)
    unfold Hold
    refine HCL.out.mono ?_
    rintro e w2 ⟨rfl, hb⟩
    have HB2 := Aside0.mk (HB.out.trans (hb.mono HB.out.size))
    clear hb
    go_wp2
    go_roundw
    case rel => exact ⟨k + 1, by omega, rfl, HB2, ⟨fun j hj => by
     by_cases e : j = k
     ·subst e; rw [HX.out]; exact HQ.out
     ·exact HA.out j (by omega)⟩⟩
    case measure => simp [intOf]; omega
  ·have hi1 : ¬ (k : Int) < (n : Int) := by omega
   have HKN := Aside0.mk (show k = n by omega)
   go_wp2
   go_ret
   exact ⟨by rw [idxI_miss [] (fun j hj => HA.out j (by have := HN.out; have := HKN.out; omega))]; rfl, HB.out⟩
end Go.Proofs.Ytepjhdblmghckaa.G


namespace Go.Proofs.Ytepjhdblmghckaa.G
open Go.Proofs.Ytepjhdblmghckaa.Q Go.Proofs.Ytepjhdblmghckaa.K Go.Proofs.Ytepjhdblmghckaa.Bf
open Go.RowKit Go.Shelf Go.Proofs.YtepjhdblmghckaaW.PrintWords Go.Proofs.YtepjhdblmghckaaW.PrintLast Go.Proofs.YtepjhdblmghckaaW.PrintMore
set_option linter.unusedVariables false
theorem PicOk.below {base b : Nat} {s : List Int} {W W' : World} (h : PicOk base b s W) (hb : Below W.heap.size W W') : PicOk base b s W' := by
 obtain ⟨A, c, A2, c2, h1, h2, h3⟩ := h
 exact ⟨A, c, A2, c2, blk_below h1 hb, Kd.R_below h2 hb, Kd.R_below h3 hb⟩
def crossL (pl : List Int) (x y : Int) : Bool := crossB (spanOf pl x.toNat) (spanOf pl y.toNat)
def joinedB (pl : List Int) (a b : List Int) : Bool := a.any fun x => b.any fun y => crossL pl x y
set_option maxRecDepth 100000 in
set_option maxHeartbeats 4000000 in
theorem c91_calls (b base bx xx : Nat) (s : List Int) (hs : s.length ≤ 40) (w : World) (hP : PicOk base b s w) (hbx : Blk w bx #[.pointer (some ⟨b, 0, none⟩)] 79) (x y : Nat) (hxx : Blk w xx #[.int .i64 (x : Int)] 3) (hx : x ≤ s.length) (hy : y ≤ s.length) :
  Calls Try.prog 91 #[.int .i64 (y : Int), .pointer (some ⟨bx, 0, none⟩), .pointer (some ⟨xx, 0, none⟩)] w fun e w' => e = .returned (.bool (crossB (spanOf (plL s) x) (spanOf (plL s) y))) ∧ Below w.heap.size w w' := by
 have k0 := hbx.cell 0 (v := .pointer (some ⟨b, 0, none⟩)) rfl
 have k1 := hxx.cell 0 (v := .int .i64 (x : Int)) rfl
 have HP := Aside0.mk hP
 clear hP hbx hxx
 go_enter Try.func91, Try.ntmps91
 go_upto_region 1 with fail
 refine start_ (n := 8) (S := fun w' => w'.cell? ⟨bx, 0, none⟩ = some (.pointer (some ⟨b, 0, none⟩)) ∧ w'.cell? ⟨xx, 0, none⟩ = some (.int .i64 (x : Int))) (ds := []) #[false, false, false, false, false, false, false, false] (by kernel_rfl) rfl rfl ⟨k0, k1⟩ (fun hHeld => ?_)
 refine take_ (i := 0) (N := (some 5)) (v := ?_) (a' := ?_) #[true, false, false, false, false, false, false, false] rfl rfl (by kernel_rfl) (fun _ _ _ h => h) (Or.inl ⟨by rfl, ?_⟩) hHeld ?_ ?_
 rotate_left
 ·rintro w' ⟨s0, s1⟩
  go_simp
  with_reducible rfl
 rotate_left
 ·simp only [Act.put, List.setIfInBounds_toArray, List.set_cons_zero, List.set_cons_succ]
  rfl
 refine take_ (i := 1) (N := (some 6)) (v := ?_) (a' := ?_) #[true, true, false, false, false, false, false, false] rfl rfl (by kernel_rfl) (fun _ _ _ h => h) (Or.inl ⟨by rfl, ?_⟩) hHeld ?_ ?_
 rotate_left
 ·rintro w' ⟨s0, s1⟩
  go_simp
  with_reducible rfl
 rotate_left
 ·simp only [Act.put, List.setIfInBounds_toArray, List.set_cons_zero, List.set_cons_succ]
  rfl
 refine take_ (i := 3) (N := (some 8)) (v := ?_) (a' := ?_) #[true, true, false, true, false, false, false, false] rfl rfl (by kernel_rfl) (fun _ _ _ h => h) (Or.inl ⟨by rfl, ?_⟩) hHeld ?_ ?_
 rotate_left
 ·rintro w' ⟨s0, s1⟩
  go_simp
  with_reducible rfl
 rotate_left
 ·simp only [Act.put, List.setIfInBounds_toArray, List.set_cons_zero, List.set_cons_succ]
  rfl
 refine pure_ (i := 4) (N := (some 9)) (v := ?_) (a' := ?_) #[true, true, false, true, true, false, false, false] rfl rfl (by kernel_rfl) (fun _ _ _ h => h) (Or.inl ⟨by rfl, ?_⟩) ?_ ?_
 rotate_left
 ·intro w'
  go_simp
  with_reducible rfl
 rotate_left
 ·simp only [Act.put, List.setIfInBounds_toArray, List.set_cons_zero, List.set_cons_succ]
  rfl
 refine one_ (i := 2) (N := (some 7)) #[true, true, true, true, true, false, false, false] rfl rfl (by kernel_rfl) (by decide) (fun K hK => ?_)
 refine goes_ Try.func92 (by kernel_rfl) rfl #[.pointer (some ⟨b, 0, none⟩), .int .i64 (x : Int)] (by rfl) rfl rfl (by (try simp only [List.map_toArray, List.map_cons, List.map_nil]); first | done | rfl) ?_
 refine (span_calls b base s hs x hx w.drew (HP.out.below (Below.refl _ _).drew)).mono ?_
 rintro e w1 ⟨rfl, hb⟩
 refine ⟨_, rfl, ?_⟩
 have hcc : ∀ (p : Addr) v, w.drew.cell? p = some v → w1.cell? p = some v := fun p v hp => by rw [hb.cell (p := p) (World.block_lt_of_cell? _ _ hp)]; exact hp
 refine hK.out _ _ ⟨hcc _ _ hHeld.1, hcc _ _ hHeld.2⟩ (fun hHeld => ?_)
 have HB1 := Aside0.mk ((Below.refl w.heap.size w).drew.trans hb)
 clear hcc hK K hb
 refine norm_ (a' := ?_) ?_ ?_
 rotate_left
 ·show Act.put _ (some 7) _ = _
  simp only [Act.put, List.setIfInBounds_toArray, List.set_cons_zero, List.set_cons_succ]
  rfl
 refine one_ (i := 5) (N := (some 10)) #[true, true, true, true, true, true, false, false] rfl rfl (by kernel_rfl) (by decide) (fun K hK => ?_)
 refine goes_ Try.func92 (by kernel_rfl) rfl #[.pointer (some ⟨b, 0, none⟩), .int .i64 (y : Int)] (by rfl) rfl rfl (by (try simp only [List.map_toArray, List.map_cons, List.map_nil]); first | done | rfl) ?_
 refine (span_calls b base s hs y hy w1 (HP.out.below HB1.out)).mono ?_
 rintro e w2 ⟨rfl, hb⟩
 refine ⟨_, rfl, ?_⟩
 have hcc : ∀ (p : Addr) v, w1.cell? p = some v → w2.cell? p = some v := fun p v hp => by rw [hb.cell (p := p) (World.block_lt_of_cell? _ _ hp)]; exact hp
 refine hK.out _ _ ⟨hcc _ _ hHeld.1, hcc _ _ hHeld.2⟩ (fun hHeld => ?_)
 have HB2 := Aside0.mk (HB1.out.trans (hb.mono HB1.out.size))
 clear hcc hK K hb
 refine norm_ (a' := ?_) ?_ ?_
 rotate_left
 ·show Act.put _ (some 10) _ = _
  simp only [Act.put, List.setIfInBounds_toArray, List.set_cons_zero, List.set_cons_succ]
  rfl
 refine one_ (i := 6) (N := (some 11)) #[true, true, true, true, true, true, true, false] rfl rfl (by kernel_rfl) (by decide) (fun K hK => ?_)
 refine goes_ Try.func93 (by kernel_rfl) rfl #[.agg #[.int .i64 (spanOf (plL s) x).1, .int .i64 (spanOf (plL s) x).2], .agg #[.int .i64 (spanOf (plL s) y).1, .int .i64 (spanOf (plL s) y).2]] (by rfl) rfl rfl (by (try simp only [List.map_toArray, List.map_cons, List.map_nil]); first | done | rfl) ?_
 refine (cross_calls (spanOf (plL s) x).1 (spanOf (plL s) x).2 (spanOf (plL s) y).1 (spanOf (plL s) y).2 w2).mono ?_
 rintro e w3 ⟨rfl, hb⟩
 refine ⟨_, rfl, ?_⟩
 have hcc : ∀ (p : Addr) v, w2.cell? p = some v → w3.cell? p = some v := fun p v hp => by rw [hb.cell (p := p) (World.block_lt_of_cell? _ _ hp)]; exact hp
 refine hK.out _ _ ⟨hcc _ _ hHeld.1, hcc _ _ hHeld.2⟩ (fun hHeld => ?_)
 have HB3 := Aside0.mk (HB2.out.trans (hb.mono HB2.out.size))
 clear hcc hK K hb
 refine norm_ (a' := ?_) ?_ ?_
 rotate_left
 ·show Act.put _ (some 11) _ = _
  simp only [Act.put, List.setIfInBounds_toArray, List.set_cons_zero, List.set_cons_succ]
  rfl
 refine pure_ (i := 7) (N := (some 4)) (v := ?_) (a' := ?_) #[true, true, true, true, true, true, true, true] rfl rfl (by kernel_rfl) (fun _ _ _ h => h) (Or.inl ⟨by rfl, ?_⟩) ?_ ?_
 rotate_left
 ·intro w'
  go_simp
  with_reducible rfl
 rotate_left
 ·simp only [Act.put, List.setIfInBounds_toArray, List.set_cons_zero, List.set_cons_succ]
  rfl
 refine done_ (by kernel_rfl) ?_
 go_wp2
 go_ret
 exact ⟨rfl, HB3.out⟩
set_option maxRecDepth 100000 in
set_option maxHeartbeats 4000000 in
theorem c90_calls (b base bx bb : Nat) (s : List Int) (hs : s.length ≤ 40) (w : World) (hP : PicOk base b s w) (hbx : Blk w bx #[.pointer (some ⟨b, 0, none⟩)] 79) (A : Option Addr) (c : Nat) (l : List Int) (hbb : Blk w bb #[.slice A l.length c] 22) (hl : Kd.C (Kd.int .i64) w A l.length l) (hll : l.length ≤ 1000000) (hm : ∀ y, y ∈ l → 0 ≤ y ∧ y ≤ s.length) (x : Nat) (hx : x ≤ s.length) :
  Calls Try.prog 90 #[.int .i64 (x : Int), .pointer (some ⟨bb, 0, none⟩), .pointer (some ⟨bx, 0, none⟩)] w fun e w' => e = .returned (.bool (l.any fun y => crossL (plL s) x y)) ∧ Below w.heap.size w w' := by
 obtain ⟨W0, hW0⟩ : ∃ W0, w.alloc (.cells #[.int .i64 (x : Int)] 3) = W0 := ⟨_, rfl⟩
 have hB : Below w.heap.size w W0 := by rw [← hW0]; exact (Below.refl _ w).alloc (Nat.le_refl _) _
 have hN : Blk W0 w.heap.size #[.int .i64 (x : Int)] 3 := by rw [← hW0]; exact Blk.new _ _ _
 have hb0 := (blk_below hbb hB).cell 0 (v := .slice A l.length c) rfl
 have HP := Aside0.mk (hP.below hB)
 have HBX := Aside0.mk (blk_below hbx hB)
 have HN := Aside0.mk hN
 have HL := Aside0.mk (Kd.C_below hl hB)
 have HM := Aside0.mk hm
 have HB := Aside0.mk hB
 have eg := enters_of Try.func91 (by kernel_rfl) rfl
 obtain ⟨n, hn⟩ : ∃ n, l.length = n := ⟨_, rfl⟩
 have HNN := Aside0.mk hn
 rw [hn] at hb0
 clear hP hbx hbb hl hm hB hN hn
 go_enter Try.func90, Try.ntmps90
 go_upto_region 1 with fail
 try rw [hW0]
 clear hW0
 go_wp2_with (go_at_call 89; refine stopper ?_)
 try unfold Hold
 rw [← HNN.out]
 refine (any89_calls 91 #[.pointer (some ⟨bx, 0, none⟩), .pointer (some ⟨w.heap.size, 0, none⟩)] eg (fun y => crossL (plL s) x y) A c l W0 HL.out hll (fun y hy W hbw => ?_)).mono ?_
 ·have hy' := HM.out y hy
  obtain ⟨yn, rfl⟩ := Int.eq_ofNat_of_zero_le hy'.1
  have h := c91_calls b base bx w.heap.size s hs W (HP.out.below hbw) (blk_below HBX.out hbw) x yn (blk_below HN.out hbw) hx (by omega)
  unfold crossL
  simp only [Int.toNat_natCast]
  exact h
 ·rintro e w1 ⟨rfl, hb⟩
  have HB1 := Aside0.mk (HB.out.trans (hb.mono HB.out.size))
  clear hb
  go_wp2
  go_ret
  exact ⟨rfl, HB1.out⟩
set_option maxRecDepth 100000 in
set_option maxHeartbeats 4000000 in
theorem c88_calls (b base bx : Nat) (s : List Int) (hs : s.length ≤ 40) (w : World) (hP : PicOk base b s w) (hbx : Blk w bx #[.pointer (some ⟨b, 0, none⟩)] 79) (A1 A2 : Option Addr) (c1 c2 : Nat) (l1 l2 : List Int) (h1 : Kd.C (Kd.int .i64) w A1 l1.length l1) (h2 : Kd.C (Kd.int .i64) w A2 l2.length l2) (hl1 : l1.length ≤ 1000000) (hl2 : l2.length ≤ 1000000) (hm1 : ∀ y, y ∈ l1 → 0 ≤ y ∧ y ≤ s.length) (hm2 : ∀ y, y ∈ l2 → 0 ≤ y ∧ y ≤ s.length) :
  Calls Try.prog 88 #[.slice A1 l1.length c1, .slice A2 l2.length c2, .pointer (some ⟨bx, 0, none⟩)] w fun e w' => e = .returned (.bool (joinedB (plL s) l1 l2)) ∧ Below w.heap.size w w' := by
 obtain ⟨W0, hW0⟩ : ∃ W0, w.alloc (.cells #[.slice A2 l2.length c2] 22) = W0 := ⟨_, rfl⟩
 have hB : Below w.heap.size w W0 := by rw [← hW0]; exact (Below.refl _ w).alloc (Nat.le_refl _) _
 have hN : Blk W0 w.heap.size #[.slice A2 l2.length c2] 22 := by rw [← hW0]; exact Blk.new _ _ _
 have HP := Aside0.mk (hP.below hB)
 have HBX := Aside0.mk (blk_below hbx hB)
 have HN := Aside0.mk hN
 have HL1 := Aside0.mk (Kd.C_below h1 hB)
 have HL2 := Aside0.mk (Kd.C_below h2 hB)
 have HM1 := Aside0.mk hm1
 have HM2 := Aside0.mk hm2
 have HB := Aside0.mk hB
 have eg := enters_of Try.func90 (by kernel_rfl) rfl
 have EC := Aside0.mk (any89_calls 90 #[.pointer (some ⟨w.heap.size, 0, none⟩), .pointer (some ⟨bx, 0, none⟩)] eg (fun x => l2.any fun y => crossL (plL s) x y) A1 c1 l1 W0 HL1.out hl1 (fun y hy W hbw => by
  have hy' := HM1.out y hy
  obtain ⟨yn, rfl⟩ := Int.eq_ofNat_of_zero_le hy'.1
  exact c90_calls b base bx w.heap.size s hs W (HP.out.below hbw) (blk_below HBX.out hbw) A2 c2 l2 (blk_below HN.out hbw) (Kd.C_below HL2.out hbw) hl2 HM2.out yn (by omega)))
 obtain ⟨n1, hn1⟩ : ∃ n1, l1.length = n1 := ⟨_, rfl⟩
 obtain ⟨n2, hn2⟩ : ∃ n2, l2.length = n2 := ⟨_, rfl⟩
 rw [hn1] at EC ⊢
 rw [hn2] at hW0 ⊢
 clear hP hbx h1 h2 hm1 hm2 hB hN hn1 hn2
 go_enter Try.func88, Try.ntmps88
 go_upto_region 1 with fail
 try rw [hW0]
 clear hW0
 go_wp2_with (go_at_call 89; refine stopper ?_)
 try unfold Hold
 refine EC.out.mono ?_
 rintro e w1 ⟨rfl, hb⟩
 have HB1 := Aside0.mk (HB.out.trans (hb.mono HB.out.size))
 clear hb
 go_wp2
 go_ret
 exact ⟨rfl, HB1.out⟩
set_option maxRecDepth 100000 in
set_option maxHeartbeats 4000000 in
theorem c95_calls (b base bx bj bo : Nat) (s : List Int) (hs : s.length ≤ 40) (w : World) (hP : PicOk base b s w) (hbx : Blk w bx #[.pointer (some ⟨b, 0, none⟩)] 79) (hbj : Blk w bj #[.func (.func 88) #[] #[.pointer (some ⟨bx, 0, none⟩)]] 39) (A1 A2 : Option Addr) (c1 c2 : Nat) (l1 l2 : List Int) (bad : Bool) (hbo : Blk w bo #[.slice A1 l1.length c1, .bool bad] 110) (h1 : Kd.C (Kd.int .i64) w A1 l1.length l1) (h2 : Kd.C (Kd.int .i64) w A2 l2.length l2) (hl1 : l1.length ≤ 1000000) (hl2 : l2.length ≤ 1000000) (hm1 : ∀ y, y ∈ l1 → 0 ≤ y ∧ y ≤ s.length) (hm2 : ∀ y, y ∈ l2 → 0 ≤ y ∧ y ≤ s.length) :
  Calls Try.prog 95 #[.slice A2 l2.length c2, .pointer (some ⟨bj, 0, none⟩), .pointer (some ⟨bo, 0, none⟩)] w fun e w' => e = .returned (.bool (joinedB (plL s) l1 l2)) ∧ Below w.heap.size w w' := by
 have k0 := hbj.cell 0 (v := .func (.func 88) #[] #[.pointer (some ⟨bx, 0, none⟩)]) rfl
 have k1 := hbo.cell 0 (v := .slice A1 l1.length c1) rfl
 have EC := Aside0.mk (c88_calls b base bx s hs w hP hbx A1 A2 c1 c2 l1 l2 h1 h2 hl1 hl2 hm1 hm2)
 have eg := enters_of Try.func88 (by kernel_rfl) rfl
 obtain ⟨n1, hn1⟩ : ∃ n1, l1.length = n1 := ⟨_, rfl⟩
 obtain ⟨n2, hn2⟩ : ∃ n2, l2.length = n2 := ⟨_, rfl⟩
 rw [hn1, hn2] at EC
 rw [hn1] at k1
 rw [hn2]
 clear hP hbx hbj hbo h1 h2 hl1 hl2 hm1 hm2 hn1 hn2
 go_enter Try.func95, Try.ntmps95
 go_wp2_with (go_at_fn 88; refine stopper ?_)
 try unfold Hold
 refine EC.out.mono ?_
 rintro e w1 ⟨rfl, hb⟩
 have HB1 := Aside0.mk hb
 clear hb
 go_wp2
 go_ret
 exact ⟨rfl, HB1.out⟩
end Go.Proofs.Ytepjhdblmghckaa.G


namespace Go.Proofs
open Go.Shelf Go.Lib
def Try.del_ren : Go.Shelf.Ren := ⟨fun | 45 => 96 | n => n, fun | 22 => 45 | 23 => 22 | n => n, fun | n => n⟩
theorem Try.laysDel : SlLaysE.n45 Try.prog Try.del_ren := {
 mixed := by kernel_rfl
 f45 := ⟨_, by kernel_rfl, Try.func96⟩
 t0 := Try.underlying0
 a0 := Try.isAgg0
 z0 := Try.sizeOf0
 v0 := Try.zeroValue0
 t3 := Try.underlying3
 a3 := Try.isAgg3
 z3 := Try.sizeOf3
 v3 := Try.zeroValue3
 t4 := Try.underlying4
 a4 := Try.isAgg4
 z4 := Try.sizeOf4
 v4 := Try.zeroValue4
 t22 := Try.underlying45
 a22 := Try.isAgg45
 z22 := Try.sizeOf45
 v22 := Try.zeroValue45
 a23 := Try.isAgg22
 z23 := Try.sizeOf22 }
end Go.Proofs
namespace Go.Proofs.Ytepjhdblmghckaa.G
open Go.Proofs.Ytepjhdblmghckaa.Q Go.Proofs.Ytepjhdblmghckaa.K Go.Proofs.Ytepjhdblmghckaa.Bf
open Go.RowKit Go.Shelf Go.Sort Go.Proofs.YtepjhdblmghckaaW.PrintWords Go.Proofs.YtepjhdblmghckaaW.PrintLast Go.Proofs.YtepjhdblmghckaaW.PrintMore
set_option linter.unusedVariables false
abbrev Sl3 := Option Addr × Nat × Nat
def sv (x : Sl3) : Value := .slice x.1 x.2.1 x.2.2
theorem sv_one : OneCell sv := fun x => rfl
def CrI (N g : Nat) (W : World) (A : Option Addr) (cap : Nat) (cs : List (List Int)) : Prop :=
 cs = [] ∨ ∃ off, ∃ d : Array Sl3, A = some ⟨g, off, none⟩ ∧ d.size = cs.length ∧ cs.length ≤ cap ∧ cap ≤ 9223372036854775807 ∧ Holds sv W g off d ∧
  ∀ j, j < cs.length → (d[j]!).2.1 = (cs.getD j []).length ∧ (cs.getD j []).length ≤ (d[j]!).2.2 ∧ Kd.F (Kd.int .i64) W (fun k => k ≠ g ∧ k < N) (d[j]!).1 (cs.getD j []).length (cs.getD j [])
theorem cell_same {W W' : World} {a : Addr} (h : W'.heap[a.block]? = W.heap[a.block]?) : W'.cell? a = W.cell? a := by unfold World.cell?; rw [h]
theorem frozen_same {W W' : World} {a : Addr} (h : W'.heap[a.block]? = W.heap[a.block]?) : W'.frozen? a = W.frozen? a := by unfold World.frozen?; rw [h]
theorem CrI.keep {N g : Nat} {W W' : World} {A : Option Addr} {cap : Nat} {cs : List (List Int)} (h : CrI N g W A cap cs) (hg : g < N) (hb : ∀ k, k < N → W'.heap[k]? = W.heap[k]?) : CrI N g W' A cap cs := by
 rcases h with h | ⟨off, d, h1, h2, h3, h4, h5, h6⟩
 ·exact .inl h
 ·exact .inr ⟨off, d, h1, h2, h3, h4, fun j hj => by rw [cell_same (hb g hg), frozen_same (hb g hg)]; exact h5 j hj, fun j hj => ⟨(h6 j hj).1, (h6 j hj).2.1, Kd.F_step (h6 j hj).2.2 (fun k hk _ => hb k hk.2)⟩⟩
theorem CrI.at {N g : Nat} {W : World} {A : Option Addr} {cap : Nat} {cs : List (List Int)} (h : CrI N g W A cap cs) (j : Nat) (hj : j < cs.length) :
  ∃ off A' c', A = some ⟨g, off, none⟩ ∧ W.cell? ⟨g, off + j, none⟩ = some (.slice A' (cs.getD j []).length c') ∧ (cs.getD j []).length ≤ c' ∧ Kd.F (Kd.int .i64) W (fun k => k ≠ g ∧ k < N) A' (cs.getD j []).length (cs.getD j []) := by
 rcases h with h | ⟨off, d, h1, h2, h3, h4, h5, h6⟩
 ·rw [h] at hj; cases hj
 ·refine ⟨off, (d[j]!).1, (d[j]!).2.2, h1, ?_, (h6 j hj).2.1, (h6 j hj).2.2⟩
  rw [(h5 j (by omega)).1, ← (h6 j hj).1]
  rfl
theorem CrI.C {N g : Nat} {W : World} {A : Option Addr} {cap : Nat} {cs : List (List Int)} (h : CrI N g W A cap cs) : Kd.C (Kd.slice 3 (Kd.int .i64)) W A cs.length cs := by
 have hlen : cs.length ≤ 9223372036854775807 := by
  rcases h with h | ⟨off, d, h1, h2, h3, h4, h5, h6⟩
  ·rw [h]; simp
  ·omega
 refine ⟨rfl, hlen, fun hp => ?_⟩
 obtain ⟨off, _, _, e, _⟩ := h.at 0 hp
 refine ⟨_, e, fun j p hj => ?_⟩
 have hjl := (List.getElem?_eq_some_iff.1 hj).1
 obtain ⟨off2, A', c', e2, hc, hl, hF⟩ := h.at j hjl
 have hp : cs.getD j [] = p := by rw [List.getD_eq_getElem?_getD, hj]; rfl
 rw [hp] at hc hl hF
 rw [e] at e2
 cases e2
 refine ⟨[.slice A' p.length c'], rfl, ⟨A', c', rfl, hl, Kd.F_now hF⟩, fun i u hu => ?_⟩
 match i, hu with
 | 0, hu =>
  cases hu
  show W.cell? (Addr.add ⟨g, off, none⟩ (j * 1 + 0)) = _
  rw [Addr.add_lit, Nat.mul_one, Nat.add_zero]
  exact hc
 | i + 1, hu => simp at hu
theorem CrI.tail {N g : Nat} {W : World} {off cap : Nat} {c : List Int} {cs : List (List Int)} (h : CrI N g W (some ⟨g, off, none⟩) cap (c :: cs)) :
  CrI N g W (if cap = 1 then some ⟨g, off, none⟩ else some ⟨g, off + 1, none⟩) (cap - 1) cs := by
 rcases h with h | ⟨off', d, h1, h2, h3, h4, h5, h6⟩
 ·cases h
 ·cases h1
  by_cases hc : cs = []
  ·exact .inl hc
  ·have hl : 0 < cs.length := List.length_pos_iff.2 hc
   simp only [List.length_cons] at h2 h3 h6
   right
   have hg : ∀ j, j < cs.length → (d.extract 1 d.size)[j]! = d[j + 1]! := fun j hj => by
    rw [getElem!_pos _ j (by simp; omega), getElem!_pos d (j + 1) (by omega), Array.getElem_extract]
    congr 1
    omega
   refine ⟨off + 1, d.extract 1 d.size, by rw [if_neg (by omega)], by simp; omega, by omega, by omega, fun j hj => ?_, fun j hj => ?_⟩
   ·have hj' : j < cs.length := by simp at hj; omega
    rw [hg j hj', show off + 1 + j = off + (j + 1) by omega]
    exact h5 (j + 1) (by omega)
   ·rw [hg j hj]
    exact h6 (j + 1) (by omega)
theorem choose_arr {α : Type} [Inhabited α] {n : Nat} {P : Nat → α → Prop} (h : ∀ j, j < n → ∃ x, P j x) : ∃ d : Array α, d.size = n ∧ ∀ j, j < n → P j d[j]! := by
 refine ⟨Array.ofFn (n := n) fun j => Classical.choose (h j.1 j.2), by simp, fun j hj => ?_⟩
 rw [getElem!_pos _ j (by simpa using hj), Array.getElem_ofFn]
 exact Classical.choose_spec (h j hj)
theorem CrI.of_R {base : Nat} {ok : Nat → Prop} {N : Nat} {W : World} {v : Value} {cs : List (List Int)} (h : Kd.R (Kd.slice 3 (Kd.int .i64)) 22 W base ok v cs) (hN : W.heap.size ≤ N) (hne : cs ≠ []) :
  ∃ g cap, v = .slice (some ⟨g, 0, none⟩) cs.length cap ∧ CrI N g W (some ⟨g, 0, none⟩) cap cs ∧ base ≤ g ∧ g < W.heap.size := by
 have hl : 0 < cs.length := List.length_pos_iff.2 hne
 obtain ⟨inner, ho⟩ := Kd.R_own h
 rcases ho.2 with ⟨_, h0⟩ | ⟨g, cap, cur, rfl, hg, hh, hnc, hcm, hsz, htake⟩
 ·omega
 ·have hlt : g < W.heap.size := (Array.getElem?_eq_some_iff.1 hh).1
  have hel : ∀ j, j < cs.length → ∃ x : Sl3, (W.cell? ⟨g, 0 + j, none⟩ = some (sv x) ∧ W.frozen? ⟨g, 0 + j, none⟩ = false) ∧ x.2.1 = (cs.getD j []).length ∧ (cs.getD j []).length ≤ x.2.2 ∧ Kd.F (Kd.int .i64) W (fun k => k ≠ g ∧ k < N) x.1 (cs.getD j []).length (cs.getD j []) := fun j hj => by
   obtain ⟨c, _, ⟨u, rfl, hu⟩, hcell, hfz⟩ := Kd.R_elem h [] (j : Int) (by omega) (by omega)
   rw [Int.toNat_natCast] at hu hcell hfz
   have hc0 := hcell 0 u rfl
   have hf0 := hfz 0
   rw [show (Kd.slice 3 (Kd.int .i64)).sz = 1 from rfl, Nat.mul_one, Nat.add_zero] at hc0 hf0
   obtain ⟨A', c', rfl⟩ := Kd.R_slice hu
   refine ⟨(A', (cs.getD j []).length, c'), ⟨by rw [Nat.zero_add]; exact hc0, by rw [Nat.zero_add]; exact hf0⟩, rfl, (Kd.R_reads' hu).2.1, ?_⟩
   exact Kd.F_mono (Kd.F_bound (Kd.R_F hu)) (fun k hk => ⟨hk.1.2, by have := hk.2; omega⟩)
  obtain ⟨d, hd, hP⟩ := choose_arr hel
  refine ⟨g, cap, rfl, .inr ⟨0, d, rfl, hd, hnc, ?_, fun j hj => (hP j (by omega)).1, fun j hj => (hP j hj).2⟩, hg, hlt⟩
  unfold maxLen at hcm
  omega
theorem info22_ : ∃ i0, Try.prog.info? 22 = some i0 ∧ i0.size = 1 := by
 have h : (Try.prog.info? 22).map (fun i => i.size) = some 1 := by kernel_rfl
 cases hi : Try.prog.info? 22 with
 | none => rw [hi] at h; cases h
 | some i0 => rw [hi] at h; exact ⟨i0, rfl, by simpa using h⟩
set_option maxRecDepth 100000 in
theorem CrI.del {N g : Nat} {W : World} {A : Option Addr} {cap : Nat} {cs : List (List Int)} (h : CrI N g W A cap cs) (k : Nat) (hk : k < cs.length) :
  Calls Try.prog 96 #[.slice A cs.length cap, .int .i64 (k : Int), .int .i64 ((k + 1 : Nat) : Int)] W fun e W' => e = .returned (.slice A (cs.length - 1) cap) ∧ CrI N g W' A cap (cs.eraseIdx k) ∧ Rest g W W' := by
 have hlen0 : (cs.eraseIdx k).length = cs.length - 1 := List.length_eraseIdx_of_lt hk
 rcases h with h | ⟨off, d, rfl, h2, h3, h4, h5, h6⟩
 ·rw [h] at hk; cases hk
 ·obtain ⟨i0, hi0, hz1⟩ := info22_
  rw [← h2]
  refine (AnyE.slices_Delete Try.laysDel sv sv_one (none, 0, 0) Try.zeroValue22 i0 hi0 hz1 g off cap k (k + 1) d W h5 (by omega) h4 (by omega) (by omega)).mono ?_
  rintro e W' ⟨rfl, q, rfl⟩
  obtain ⟨dn, hdn⟩ : ∃ dn : Array Sl3, (d.toList.take k ++ d.toList.drop (k + 1) ++ List.replicate (k + 1 - k) (none, 0, 0)).toArray = dn := ⟨_, rfl⟩
  rw [hdn]
  have hsz : dn.size = d.size := by rw [← hdn]; simp; omega
  have hget : ∀ j, j < d.size - 1 → dn[j]! = d[if j < k then j else j + 1]! := fun j hj => by
   have hidx : (if j < k then j else j + 1) < d.size := by split <;> omega
   rw [getElem!_pos dn j (by omega), getElem!_pos d _ hidx]
   have e1 : dn[j]? = d[if j < k then j else j + 1]? := by
    rw [← hdn, List.getElem?_toArray, List.append_assoc]
    by_cases hjk : j < k
    ·rw [List.getElem?_append_left (by simp; omega), List.getElem?_take, if_pos hjk, if_pos hjk, Array.getElem?_toList]
    ·rw [List.getElem?_append_right (by simp; omega), List.getElem?_append_left (by simp; omega), List.getElem?_drop, if_neg hjk, Array.getElem?_toList]
     congr 1
     simp
     omega
   rw [Array.getElem?_eq_getElem (by omega), Array.getElem?_eq_getElem hidx] at e1
   exact Option.some.inj e1
  have hgc : ∀ j, j < cs.length - 1 → (cs.eraseIdx k).getD j [] = cs.getD (if j < k then j else j + 1) [] := fun j hj => by
   rw [List.getD_eq_getElem?_getD, List.getD_eq_getElem?_getD, List.getElem?_eraseIdx]
   split <;> rfl
  have hoth : ∀ b, b ≠ g → (putRow sv (Sort.ahead W q) g off dn).heap[b]? = W.heap[b]? := fun b hb => by
   unfold putRow mapBlock
   simp only
   rw [Array.getElem?_modify, if_neg (fun e => hb e.symm)]
   rfl
  have hH := holds_putRow sv (Sort.ahead W q) g off d dn (holds_ahead sv W q g off d h5) hsz
  refine ⟨by rw [show k + 1 - k = 1 by omega], ?_, ⟨rfl, rfl, rfl, by simp [putRow, mapBlock, Sort.ahead], fun b _ hb => hoth b hb⟩⟩
  by_cases hc : cs.eraseIdx k = []
  ·exact .inl hc
  ·refine .inr ⟨off, dn.extract 0 (d.size - 1), rfl, by rw [hlen0]; simp; omega, by omega, h4, fun j hj => ?_, fun j hj => ?_⟩
   ·have hj' : j < d.size - 1 := by simp at hj; omega
    have e : (dn.extract 0 (d.size - 1))[j]! = dn[j]! := by
     rw [getElem!_pos _ j hj, getElem!_pos dn j (by omega), Array.getElem_extract]
     congr 1
     omega
    rw [e]
    exact hH j (by omega)
   ·rw [hlen0] at hj
    have e : (dn.extract 0 (d.size - 1))[j]! = dn[j]! := by
     rw [getElem!_pos _ j (by simp; omega), getElem!_pos dn j (by omega), Array.getElem_extract]
     congr 1
     omega
    rw [e, hget j (by omega), hgc j hj]
    have hidx : (if j < k then j else j + 1) < cs.length := by split <;> omega
    have := h6 _ hidx
    exact ⟨this.1, this.2.1, Kd.F_step this.2.2 (fun b hb _ => hoth b hb.1)⟩
end Go.Proofs.Ytepjhdblmghckaa.G


namespace Go.Proofs.Ytepjhdblmghckaa.G
open Go.Proofs.Ytepjhdblmghckaa.Q Go.Proofs.Ytepjhdblmghckaa.K Go.Proofs.Ytepjhdblmghckaa.Bf
open Go.RowKit Go.Shelf Go.Proofs.YtepjhdblmghckaaW.PrintWords Go.Proofs.YtepjhdblmghckaaW.PrintLast Go.Proofs.YtepjhdblmghckaaW.PrintMore
set_option linter.unusedVariables false
set_option linter.unusedSimpArgs false
abbrev Cmp := List Int × Bool
def growF (pl : List Int) : Nat → Cmp → List (List Int) → Cmp × List (List Int)
 | 0, o, cs => (o, cs)
 | k + 1, o, cs => if idxI (joinedB pl o.1) cs < 0 then (o, cs) else
   growF pl k (o.1 ++ cs.getD (idxI (joinedB pl o.1) cs).toNat [], o.2 || decide (1 < (cs.getD (idxI (joinedB pl o.1) cs).toNat []).length)) (cs.eraseIdx (idxI (joinedB pl o.1) cs).toNat)
def turnedB (pl : List Int) (x : Int) : Bool := decide (((spanOf pl x.toNat).2 - (spanOf pl x.toNat).1).tmod 2 = 0)
def cmpF (pl : List Int) : Nat → List (List Int) → List Cmp → List Cmp
 | 0, _, out => out
 | _ + 1, [], out => out
 | k + 1, c :: r, out => cmpF pl k (growF pl r.length (c, decide (1 < c.length)) r).2 (out ++ [((growF pl r.length (c, decide (1 < c.length)) r).1.1, (growF pl r.length (c, decide (1 < c.length)) r).1.2 && !(growF pl r.length (c, decide (1 < c.length)) r).1.1.any (turnedB pl))])
def cmpL (s : List Int) : List Cmp := cmpF (plL s) (circL s).length (circL s) []
structure Tot (n T : Nat) (cs : List (List Int)) : Prop where
 ne : ∀ c, c ∈ cs → 0 < c.length
 mem : ∀ c, c ∈ cs → ∀ x, x ∈ c → 0 ≤ x ∧ x ≤ (n : Int)
 sum : (cs.map List.length).sum ≤ T
theorem Tot.len {n T : Nat} {cs : List (List Int)} (h : Tot n T cs) : cs.length ≤ T := by
 have : ∀ l : List (List Int), (∀ c, c ∈ l → 0 < c.length) → l.length ≤ (l.map List.length).sum := by
  intro l
  induction l with
  | nil => intro _; simp
  | cons c l ih =>
   intro h
   have h1 := h c (by simp)
   have h2 := ih (fun x hx => h x (by simp [hx]))
   simp only [List.length_cons, List.map_cons, List.sum_cons]
   omega
 exact Nat.le_trans (this cs h.ne) h.sum
theorem sum_erase : ∀ (l : List Nat) (k : Nat) (hk : k < l.length), (l.eraseIdx k).sum + l.getD k 0 = l.sum
 | a :: l, 0, _ => by simp; omega
 | a :: l, k + 1, hk => by
  have := sum_erase l k (by simpa using hk)
  simp only [List.eraseIdx_cons_succ, List.sum_cons, List.getD_cons_succ]
  omega
theorem erase_map {α β : Type} (f : α → β) : ∀ (l : List α) (k : Nat), (l.map f).eraseIdx k = (l.eraseIdx k).map f
 | [], _ => rfl
 | a :: l, 0 => rfl
 | a :: l, k + 1 => by simp [List.eraseIdx_cons_succ, erase_map f l k]
theorem getD_mem {α : Type} {l : List α} {k : Nat} {z : α} (hk : k < l.length) : l.getD k z ∈ l := by
 rw [List.getD_eq_getElem?_getD, List.getElem?_eq_getElem hk]
 exact List.getElem_mem hk
theorem Tot.erase {n T : Nat} {cs : List (List Int)} (h : Tot n T cs) (k : Nat) (hk : k < cs.length) : Tot n (T - (cs.getD k []).length) (cs.eraseIdx k) ∧ (cs.getD k []).length ≤ T := by
 have h1 := sum_erase (cs.map List.length) k (by simpa using hk)
 have h2 := h.sum
 have e1 : (cs.map List.length).getD k 0 = (cs.getD k []).length := by
  rw [List.getD_eq_getElem?_getD, List.getD_eq_getElem?_getD, List.getElem?_map, List.getElem?_eq_getElem hk]
  rfl
 have e2 : (cs.map List.length).eraseIdx k = (cs.eraseIdx k).map List.length := erase_map ..
 rw [e1, e2] at h1
 refine ⟨⟨fun c hc => h.ne c (List.mem_of_mem_eraseIdx hc), fun c hc => h.mem c (List.mem_of_mem_eraseIdx hc), by omega⟩, by omega⟩
theorem Tot.tail {n T : Nat} {c : List Int} {cs : List (List Int)} (h : Tot n T (c :: cs)) : Tot n (T - c.length) cs ∧ c.length ≤ T := by
 have h2 := h.sum
 simp only [List.map_cons, List.sum_cons] at h2
 exact ⟨⟨fun x hx => h.ne x (by simp [hx]), fun x hx => h.mem x (by simp [hx]), by omega⟩, by omega⟩
theorem idxI_lt {α : Type} {p : α → Bool} {l : List α} (h : ¬ idxI p l < 0) : (idxI p l).toNat < l.length ∧ idxI p l = ((idxI p l).toNat : Int) := by
 unfold idxI at h ⊢
 by_cases hany : l.any p = true
 ·simp only [hany, if_true, Int.toNat_natCast] at h ⊢
  rw [List.any_eq_true] at hany
  obtain ⟨x, hx, hp⟩ := hany
  exact ⟨List.findIdx_lt_length_of_exists ⟨x, hx, hp⟩, by first | trivial | rfl⟩
 ·rw [if_neg hany] at h
  exact absurd (by decide) h
abbrev kCmp : Kd Cmp := Kd.pair (Kd.slice 3 (Kd.int .i64)) Kd.bool
theorem Rest.below {g B : Nat} {w0 w W : World} (h0 : Below B w0 w) (hB : B ≤ w.heap.size) (hg : B ≤ g) (h : Rest g w W) : Below B w0 W :=
 ⟨h.os.trans h0.os, h.tape.trans h0.tape, h.output.trans h0.output, Nat.le_trans h0.size h.size, fun k hk => (h.other k (by omega) (by omega)).trans (h0.block k hk)⟩
theorem Rest.refl (g : Nat) (w : World) : Rest g w w := ⟨rfl, rfl, rfl, Nat.le_refl _, fun _ _ _ => rfl⟩
theorem Rest.trans {g : Nat} {w W W' : World} (h : Rest g w W) (h' : Rest g W W') : Rest g w W' :=
 ⟨h'.os.trans h.os, h'.tape.trans h.tape, h'.output.trans h.output, Nat.le_trans h.size h'.size, fun k hk hg => (h'.other k (by have := h.size; omega) hg).trans (h.other k hk hg)⟩
theorem Rest.of_below {g B : Nat} {w W W' : World} (h : Rest g w W) (hB : w.heap.size ≤ B) (h' : Below B W W') : Rest g w W' :=
 ⟨h'.os.trans h.os, h'.tape.trans h.tape, h'.output.trans h.output, Nat.le_trans h.size h'.size, fun k hk hg => (h'.block k (by omega)).trans (h.other k hk hg)⟩
theorem st_func {P : Program} {w : World} (a : Addr) (m : Mode) (fn : Fn) (f c : Array Value) : (store a (.func fn f c) m).run P w = stored P w a (.func fn f c) m := run_store P w a _ m rfl
attribute [local go_sem] st_func
theorem CrI.keep' {N g : Nat} {W W' : World} {A : Option Addr} {cap : Nat} {cs : List (List Int)} (h : CrI N g W A cap cs) (hN : W.heap.size ≤ N) (hg : g < W.heap.size) (hb : ∀ k, k < W.heap.size → W'.heap[k]? = W.heap[k]?) : CrI N g W' A cap cs := by
 rcases h with h | ⟨off, d, h1, h2, h3, h4, h5, h6⟩
 ·exact .inl h
 ·exact .inr ⟨off, d, h1, h2, h3, h4, fun j hj => by rw [cell_same (hb g hg), frozen_same (hb g hg)]; exact h5 j hj, fun j hj => ⟨(h6 j hj).1, (h6 j hj).2.1, Kd.F_step (h6 j hj).2.2 (fun k _ hk => hb k hk)⟩⟩
theorem cmpF_nil (pl : List Int) (f : Nat) (out : List Cmp) : cmpF pl f [] out = out := by cases f <;> rfl
theorem growF_step {pl : List Int} {own : List Int} {bad : Bool} {cs : List (List Int)} {k p : Nat} (h : idxI (joinedB pl own) cs = (k : Int)) :
  growF pl (p + 1) (own, bad) cs = growF pl p (own ++ cs.getD k [], bad || decide (1 < (cs.getD k []).length)) (cs.eraseIdx k) := by
 rw [growF]
 simp only [h, Int.toNat_natCast]
 rw [if_neg (by omega)]
theorem growF_stop {pl : List Int} {own : List Int} {bad : Bool} {cs : List (List Int)} (h : idxI (joinedB pl own) cs < 0) (k : Nat) : growF pl k (own, bad) cs = ((own, bad), cs) := by
 cases k with
 | zero => rfl
 | succ k => rw [growF, if_pos h]
theorem info110 : (Try.prog.info? 110).map (fun i => (i.zero, i.size, i.bytes)) = some (some (.agg #[.slice none 0 0, .bool false]), 2, 32) := by kernel_rfl
structure Cm0 (w : World) (N bx bj b : Nat) (W : World) : Prop where
 below : Below w.heap.size w W
 size : N ≤ W.heap.size
 bxb : Blk W bx #[.pointer (some ⟨b, 0, none⟩)] 79
 bjb : Blk W bj #[.func (.func 88) #[] #[.pointer (some ⟨bx, 0, none⟩)]] 39
theorem Cm0.rest {w : World} {N bx bj b g : Nat} {W W' : World} (h : Cm0 w N bx bj b W) (hr : Rest g W W') (hx : bx ≠ g) (hj : bj ≠ g) (hg : w.heap.size ≤ g) : Cm0 w N bx bj b W' :=
 ⟨hr.below h.below h.below.size hg, Nat.le_trans h.size hr.size, (hr.other _ h.bxb.lt hx).trans h.bxb, (hr.other _ h.bjb.lt hj).trans h.bjb⟩
theorem pop45 (ad : Addr) (n c : Nat) (hc : n + 1 ≤ c) (W : World) :
  (Instr.slice 45 (.slice (some ad) (n + 1) c) (some (.int .i64 1)) none none).run Try.prog W = .ok (.slice (if c = 1 then some ad else some (ad.add 1)) n (c - 1)) W := by
 have he : Try.prog.elem 45 = 22 := by kernel_rfl
 have hu : Try.prog.underlying 45 = some (.slice (Try.prog.elem 45)) := by rw [he]; exact Try.underlying45
 rw [run_slice_l (P := Try.prog) W 45 (some ad) (n + 1) c hu .i64 1 (by omega) (by omega), he, Try.sizeOf22]
 have e1 : (1 : Int).toNat = 1 := rfl
 simp only [Result.andThen, sliced, e1, Option.map_some, Nat.one_mul, Nat.add_sub_cancel]
theorem cell_alloc' {w : World} {p : Addr} {v : Value} (h : w.cell? p = some v) (o : Obj) : (w.alloc o).cell? p = some v := by
 rw [((Below.refl w.heap.size w).alloc (Nat.le_refl _) o).cell (World.block_lt_of_cell? _ _ h)]
 exact h
structure Own5 (N1 g : Nat) (w W : World) (bo : Nat) (v : Value) (c : List Int) : Prop where
 blk : Blk W bo #[.slice none 0 0, .bool false] 110
 row : Kd.R (Kd.int .i64) 3 W N1 (fun j => j ≠ bo) v c
 below : Below N1 w W
 lt : N1 ≤ bo
theorem own5_a {wr w2 : World} {N1 g : Nat} {v : Value} {c : List Int} (hN : wr.heap.size = N1) (hv : Kd.R (Kd.int .i64) 3 w2 wr.drew.heap.size (fun _ => True) v c) (hb : Below wr.drew.heap.size wr.drew w2) :
  Own5 N1 g wr (w2.alloc (.cells #[.slice none 0 0, .bool false] 110)) w2.heap.size v c := by
 have e : wr.drew.heap.size = wr.heap.size := rfl
 have h1 : wr.heap.size ≤ w2.heap.size := hb.size
 rw [e, hN] at hv hb
 exact ⟨Blk.new _ _ _, Kd.R_alloc (Kd.R_mono (Kd.R_bound hv) (fun k hk => by have := hk.2.2.1; omega)) _, (((Below.refl N1 wr).drew).trans hb).alloc (by omega) _, by omega⟩
theorem own5_b {wr w2 : World} {N1 g : Nat} {v : Value} {c : List Int} (hN : wr.heap.size = N1) (hv : Kd.R (Kd.int .i64) 3 w2 (wr.alloc (.cells #[.slice none 0 0, .bool false] 110)).drew.heap.size (fun _ => True) v c) (hb : Below (wr.alloc (.cells #[.slice none 0 0, .bool false] 110)).drew.heap.size (wr.alloc (.cells #[.slice none 0 0, .bool false] 110)).drew w2) :
  Own5 N1 g wr w2 wr.heap.size v c := by
 have e : (wr.alloc (.cells #[.slice none 0 0, .bool false] 110)).drew.heap.size = N1 + 1 := by show (wr.alloc _).heap.size = _; rw [World.size_alloc, hN]
 rw [e] at hv hb
 have hx : Blk (wr.alloc (.cells #[.slice none 0 0, .bool false] 110)).drew wr.heap.size #[.slice none 0 0, .bool false] 110 := (Blk.new wr _ _).drew
 refine ⟨hx.below hb (by omega), Kd.R_lower (Kd.R_mono (Kd.R_bound hv) (fun k hk => by have := hk.2.1; omega)) (Nat.le_succ _), ?_, by omega⟩
 exact ((((Below.refl N1 wr).alloc (by omega) _).drew).trans (hb.mono (Nat.le_succ _)))
set_option maxRecDepth 100000 in
set_option maxHeartbeats 8000000 in
theorem components_calls (b base : Nat) (s : List Int) (hs : s.length ≤ 40) (hm : ∀ x, x ∈ s → x ≠ 0 ∧ -(s.length : Int) ≤ x ∧ x ≤ s.length) (w : World) (hP : PicOk base b s w) (T : Nat) (hT : T ≤ 100000) (hTot : Tot s.length T (circL s)) (hne : circL s ≠ []) :
  Calls Try.prog 78 #[.pointer (some ⟨b, 0, none⟩)] w fun e w' => ∃ v, e = .returned v ∧ Kd.R kCmp 110 w' w.heap.size (fun _ => True) v (cmpL s) ∧ Below w.heap.size w w' := by
 have HP := Aside0.mk hP
 have HTot := Aside0.mk hTot
 have HNE := Aside0.mk hne
 have HML := Aside0.mk hm
 have HCM := Aside0.mk (show cmpL s = cmpF (plL s) (circL s).length (circL s) [] from rfl)
 obtain ⟨R0, hR0⟩ : ∃ R0, cmpL s = R0 := ⟨_, rfl⟩
 rw [hR0] at HCM ⊢
 obtain ⟨Wa, hWa⟩ : ∃ Wa, w.alloc (.cells #[.pointer (some ⟨b, 0, none⟩)] 79) = Wa := ⟨_, rfl⟩
 have hBa : Below w.heap.size w Wa := by rw [← hWa]; exact (Below.refl _ w).alloc (Nat.le_refl _) _
 have hXa : Blk Wa w.heap.size #[.pointer (some ⟨b, 0, none⟩)] 79 := by rw [← hWa]; exact Blk.new _ _ _
 have hx0 := hXa.cell 0 (v := .pointer (some ⟨b, 0, none⟩)) rfl
 have HBA := Aside0.mk hBa
 have HXA := Aside0.mk hXa
 have hsa : Wa.heap.size = w.heap.size + 1 := by rw [← hWa]; simp
 have HSA := Aside0.mk hsa
 clear hBa hXa hP hTot hne hm hR0 hsa
 go_enter Try.func78, Try.ntmps78
 go_upto_region 1 with fail
 try rw [hWa]
 clear hWa
 go_wp2_with (go_at_call 62; refine stopper ?_)
 try unfold Hold
 refine (circles_calls b base s hs HML.out Wa (HP.out.below HBA.out)).mono ?_
 rintro e w1 ⟨v1, rfl, hv1, hb1⟩
 obtain ⟨cs0, hcs0⟩ : ∃ cs0, circL s = cs0 := ⟨_, rfl⟩
 rw [hcs0] at HCM HTot HNE hv1
 obtain ⟨g, cap0, rfl, hCr, hg1, hg2⟩ := CrI.of_R (N := w1.heap.size + 1) (Kd.S_R hv1) (Nat.le_succ _) HNE.out
 have HCr := Aside0.mk hCr
 have HB1 := Aside0.mk hb1
 have HG := Aside0.mk (And.intro hg1 hg2)
 obtain ⟨n0, hn0⟩ : ∃ n0, cs0.length = n0 := ⟨_, rfl⟩
 have HN0 := Aside0.mk hn0
 rw [hn0]
 clear hcs0 hv1 hb1 hCr hg1 hg2 hn0 hx0
 go_wp2_with fail
 obtain ⟨W0, hW0⟩ : ∃ W0, w1.alloc (.cells #[.func (.func 88) #[] #[.pointer (some ⟨w.heap.size, 0, none⟩)]] 39) = W0 := ⟨_, rfl⟩
 obtain ⟨bx, hbx⟩ : ∃ bx, w.heap.size = bx := ⟨_, rfl⟩
 obtain ⟨bj, hbj⟩ : ∃ bj, w1.heap.size = bj := ⟨_, rfl⟩
 have hs0 : W0.heap.size = bj + 1 := by rw [← hW0, ← hbj]; simp
 have hb0 : Below bj w1 W0 := by rw [← hW0, ← hbj]; exact (Below.refl _ w1).alloc (Nat.le_refl _) _
 have hj0 : Blk W0 bj #[.func (.func 88) #[] #[.pointer (some ⟨bx, 0, none⟩)]] 39 := by
  rw [← hW0, ← hbx, ← hbj]
  exact Blk.new w1 _ 39
 have HBJ := Aside0.mk hbj
 have HBX := Aside0.mk hbx
 have HLT := Aside0.mk (show bx < bj ∧ bx < g ∧ g < bj by have := HG.out; have := HSA.out; have := HB1.out.size; omega)
 have HIN := Aside0.mk (show Cm0 w (bj + 1) bx bj b W0 from ⟨(HBA.out.trans (HB1.out.mono HBA.out.size)).trans (hb0.mono (by have := HLT.out; omega)), by omega, by rw [← HBX.out]; exact (HXA.out.below HB1.out (by have := HSA.out; omega)).below hb0 (by have := HLT.out; have := HBX.out; omega), hj0⟩)
 have HCR0 := Aside0.mk (show CrI (bj + 1) g W0 (some ⟨g, 0, none⟩) cap0 cs0 from by
  have h1 : CrI (bj + 1) g w1 (some ⟨g, 0, none⟩) cap0 cs0 := by rw [← hbj]; exact HCr.out
  refine CrI.keep' h1 (by have := HBJ.out; omega) HG.out.2 (fun k hk => hb0.block k (by have := HBJ.out; omega)))
 have HS0 := Aside0.mk hs0
 try rw [hW0]
 try rw [hbx]
 try rw [hbj]
 clear hW0 hbx hbj hs0 hb0 hj0
 go_loopw [3, 5] (fun cv ov wr => ∃ (cs : List (List Int)) (n : Nat) (A : Option Addr) (cap : Nat) (out : List Cmp), cv = .slice A n cap ∧ Aside0 (cs.length = n) ∧ Aside0 (CrI (bj + 1) g wr A cap cs) ∧ Aside0 (Kd.R kCmp 110 wr (bj + 1) (fun j => bj + 1 ≤ j) ov out) ∧ Aside0 (Cm0 w (bj + 1) bx bj b wr) ∧ Aside0 (∃ f, n ≤ f ∧ cmpF (plL s) f cs out = R0) ∧ Aside0 (Tot s.length T cs) ∧ Aside0 (out.length + n ≤ T)) (fun cv _ _ => sliceLen cv)
 case atStart => exact ⟨cs0, n0, _, cap0, [], rfl, HN0, HCR0, ⟨Kd.R_nil _ _ _ _ _⟩, HIN, ⟨n0, Nat.le_refl _, by rw [HCM.out, HN0.out]⟩, HTot, ⟨by have := HTot.out.len; have := HN0.out; simp; omega⟩⟩
 case round =>
  obtain ⟨cs, n, A, cap, out, rfl, HN, HCR, HO, HC0, HR, HTT, HOL⟩ := hrel
  by_cases hn : n = 0
  ·subst hn
   go_wp2
   go_ret
   refine ⟨_, rfl, ?_, HC0.out.below⟩
   have hcs : cs = [] := List.eq_nil_of_length_eq_zero HN.out
   obtain ⟨f, _, h1⟩ := HR.out
   rw [hcs, cmpF_nil] at h1
   rw [← h1]
   exact Kd.R_mono (Kd.R_lower HO.out (by have := HLT.out; have := HBX.out; omega)) (fun _ _ => trivial)
  ·obtain ⟨m, rfl⟩ := Nat.exists_eq_succ_of_ne_zero hn
   obtain ⟨c, r, rfl⟩ : ∃ c r, cs = c :: r := by
    cases cs with
    | nil => exact absurd HN.out (by simp)
    | cons c r => exact ⟨c, r, rfl⟩
   obtain ⟨off, A', c', rfl, hhd, hl, hF⟩ := HCR.out.at 0 (by simp)
   rw [Nat.add_zero] at hhd
   simp only [List.getD_cons_zero] at hhd hl hF
   have hcne := HTT.out.ne c (by simp)
   have HCL := Aside0.mk (fun (W : World) (hW : Below wr.heap.size wr W) => slices_Clone_int_int.calls A' c' c c W (Kd.C_below (Kd.F_now hF) hW) hl (by unfold slices_Clone_int_int.f; rw [if_pos ⟨hcne, by have := HTT.out.tail.2; omega⟩]))
   have HF := Aside0.mk hF
   obtain ⟨cn, hcn⟩ : ∃ cn, c.length = cn := ⟨_, rfl⟩
   have HCN := Aside0.mk hcn
   rw [hcn] at hhd HCL hl
   obtain ⟨N1, hN1⟩ : ∃ N1, wr.heap.size = N1 := ⟨_, rfl⟩
   have HN1 := Aside0.mk hN1
   clear hF hcne hcn hN1 hn
   have hi0 : (0 : Int) < (m : Int) + 1 := by omega
   go_upto_region 5 with fail
   apply wp_scope_straight
   apply wp_seq_k
   intro _ _
   refine start_ (n := 12) (S := fun w' => w'.cell? ⟨g, off, none⟩ = some (.slice A' cn c')) (ds := [11]) #[false, false, false, false, false, false, false, false, false, false, false, false] (by kernel_rfl) rfl rfl hhd (fun hHeld => ?_)
   refine pure_ (i := 0) (N := (some 17)) (v := ?_) (a' := ?_) #[true, false, false, false, false, false, false, false, false, false, false, false] rfl rfl (by kernel_rfl) (fun _ _ _ h => h) (Or.inl ⟨by rfl, ?_⟩) ?_ ?_
   rotate_left
   ·intro w'
    go_simp
    with_reducible rfl
   rotate_left
   ·simp only [Act.put, List.setIfInBounds_toArray, List.set_cons_zero, List.set_cons_succ]
    rfl
   refine pure_ (i := 1) (N := (some 18)) (v := ?_) (a' := ?_) #[true, true, false, false, false, false, false, false, false, false, false, false] rfl rfl (by kernel_rfl) (fun _ _ _ h => h) (Or.inl ⟨by rfl, ?_⟩) ?_ ?_
   rotate_left
   ·intro w'
    go_simp
    with_reducible rfl
   rotate_left
   ·simp only [Act.put, List.setIfInBounds_toArray, List.set_cons_zero, List.set_cons_succ]
    rfl
   refine take_ (i := 2) (N := (some 19)) (v := ?_) (a' := ?_) #[true, true, true, false, false, false, false, false, false, false, false, false] rfl rfl (by kernel_rfl) (fun _ _ _ h => h) (Or.inl ⟨by rfl, ?_⟩) hHeld ?_ ?_
   rotate_left
   ·rintro w' s0
    go_simp
    with_reducible rfl
   rotate_left
   ·simp only [Act.put, List.setIfInBounds_toArray, List.set_cons_zero, List.set_cons_succ]
    rfl
   refine pure_ (i := 4) (N := (some 21)) (v := ?_) (a' := ?_) #[true, true, true, false, true, false, false, false, false, false, false, false] rfl rfl (by kernel_rfl) (fun _ _ _ h => h) (Or.inl ⟨by rfl, ?_⟩) ?_ ?_
   rotate_left
   ·intro w'
    go_simp
    with_reducible rfl
   rotate_left
   ·simp only [Act.put, List.setIfInBounds_toArray, List.set_cons_zero, List.set_cons_succ]
    rfl
   refine pure_ (i := 5) (N := (some 22)) (v := ?_) (a' := ?_) #[true, true, true, false, true, true, false, false, false, false, false, false] rfl rfl (by kernel_rfl) (fun _ _ _ h => h) (Or.inl ⟨by rfl, ?_⟩) ?_ ?_
   rotate_left
   ·intro w'
    go_simp
    with_reducible rfl
   rotate_left
   ·simp only [Act.put, List.setIfInBounds_toArray, List.set_cons_zero, List.set_cons_succ]
    rfl
   refine take_ (i := 6) (N := (some 23)) (v := ?_) (a' := ?_) #[true, true, true, false, true, true, true, false, false, false, false, false] rfl rfl (by kernel_rfl) (fun _ _ _ h => h) (Or.inl ⟨by rfl, ?_⟩) hHeld ?_ ?_
   rotate_left
   ·rintro w' s0
    go_simp
    with_reducible rfl
   rotate_left
   ·simp only [Act.put, List.setIfInBounds_toArray, List.set_cons_zero, List.set_cons_succ]
    rfl
   refine pure_ (i := 7) (N := (some 24)) (v := ?_) (a' := ?_) #[true, true, true, false, true, true, true, true, false, false, false, false] rfl rfl (by kernel_rfl) (fun _ _ _ h => h) (Or.inl ⟨by rfl, ?_⟩) ?_ ?_
   rotate_left
   ·intro w'
    go_simp
    with_reducible rfl
   rotate_left
   ·simp only [Act.put, List.setIfInBounds_toArray, List.set_cons_zero, List.set_cons_succ]
    rfl
   refine pure_ (i := 8) (N := (some 25)) (v := ?_) (a' := ?_) #[true, true, true, false, true, true, true, true, true, false, false, false] rfl rfl (by kernel_rfl) (fun _ _ _ h => h) (Or.inl ⟨by rfl, ?_⟩) ?_ ?_
   rotate_left
   ·intro w'
    go_simp
    with_reducible rfl
   rotate_left
   ·simp only [Act.put, List.setIfInBounds_toArray, List.set_cons_zero, List.set_cons_succ]
    rfl
   refine join_ (σ := (Option Addr × Nat) × Nat) 1 #[true, true, true, true, true, true, true, true, true, true, true, false] (fun s => [(20, .slice s.1.1 cn s.1.2), (26, .agg #[.slice s.1.1 cn s.1.2, .bool (decide ((1 : Int) < (cn : Int)))]), (6, .pointer (some ⟨s.2, 0, none⟩))]) (fun s w' => Own5 N1 g wr w' s.2 (.slice s.1.1 cn s.1.2) c) ?_ ?_
   rotate_left
   ·intro hcont
    refine two_ (i := 3) (j := 10) (Ni := (some 20)) (Nj := (some 6)) #[true, true, true, true, true, true, true, true, true, false, false, false] #[true, true, true, false, true, true, true, true, true, false, true, false] rfl rfl rfl rfl (by kernel_rfl) (by decide) (by decide) (fun K hK => ?_) (fun K hK => ?_)
    ·skip
     refine goes_ Try.func74 (by kernel_rfl) rfl #[.slice A' cn c'] (by rfl) rfl rfl (by (try simp only [List.map_toArray, List.map_cons, List.map_nil]); first | done | rfl) ?_
     refine (HCL.out wr.drew ((Below.refl _ _).drew)).mono ?_
     rintro e w2 ⟨v2, rfl, hv2, hb2⟩
     obtain ⟨Av, cv, ev⟩ := Kd.R_slice hv2
     rw [HCN.out] at ev
     subst ev
     refine ⟨_, rfl, ?_⟩
     refine hK.out _ _ (by rw [hb2.cell (World.block_lt_of_cell? _ _ hHeld)]; exact hHeld) (fun hHeld => ?_)
     have HV2 := Aside0.mk hv2
     have HB2 := Aside0.mk hb2
     clear hv2 hb2 hK K
     refine norm_ (a' := ?_) ?_ ?_
     rotate_left
     ·show Act.put _ (some 20) _ = _
      simp only [Act.put, List.setIfInBounds_toArray, List.set_cons_zero, List.set_cons_succ]
      rfl
     refine pure_ (i := 9) (N := (some 26)) (v := ?_) (a' := ?_) #[true, true, true, true, true, true, true, true, true, true, false, false] rfl rfl (by kernel_rfl) (fun _ _ _ h => h) (Or.inl ⟨by rfl, ?_⟩) ?_ ?_
     rotate_left
     ·intro w'
      go_simp
      with_reducible rfl
     rotate_left
     ·simp only [Act.put, List.setIfInBounds_toArray, List.set_cons_zero, List.set_cons_succ]
      rfl
     refine one_ (i := 10) (N := (some 6)) #[true, true, true, true, true, true, true, true, true, true, true, false] rfl rfl (by kernel_rfl) (by decide) (fun K hK => ?_)
     rw [if_pos (by rfl)]
     have HK := Aside0.mk hK.out
     clear hK
     unfold Oper.wp
     go_simp
     refine HK.out _ _ (cell_alloc' hHeld _) (fun hHeld => ?_)
     exact hcont ((Av, cv), w2.heap.size) _ (own5_a HN1.out HV2.out HB2.out)
    ·skip
     rw [if_pos (by rfl)]
     have HK := Aside0.mk hK.out
     clear hK
     unfold Oper.wp
     go_simp
     refine HK.out _ _ (cell_alloc' hHeld _) (fun hHeld => ?_)
     clear HK K
     refine one_ (i := 3) (N := (some 20)) #[true, true, true, true, true, true, true, true, true, false, true, false] rfl rfl (by kernel_rfl) (by decide) (fun K hK => ?_)
     refine goes_ Try.func74 (by kernel_rfl) rfl #[.slice A' cn c'] (by rfl) rfl rfl (by (try simp only [List.map_toArray, List.map_cons, List.map_nil]); first | done | rfl) ?_
     refine (HCL.out (wr.alloc (.cells #[.slice none 0 0, .bool false] 110)).drew (((Below.refl _ _).alloc (Nat.le_refl _) _).drew)).mono ?_
     rintro e w2 ⟨v2, rfl, hv2, hb2⟩
     obtain ⟨Av, cv, ev⟩ := Kd.R_slice hv2
     rw [HCN.out] at ev
     subst ev
     refine ⟨_, rfl, ?_⟩
     refine hK.out _ _ (by rw [hb2.cell (World.block_lt_of_cell? _ _ hHeld)]; exact hHeld) (fun hHeld => ?_)
     have HV2 := Aside0.mk hv2
     have HB2 := Aside0.mk hb2
     clear hv2 hb2 hK K
     refine norm_ (a' := ?_) ?_ ?_
     rotate_left
     ·show Act.put _ (some 20) _ = _
      simp only [Act.put, List.setIfInBounds_toArray, List.set_cons_zero, List.set_cons_succ]
      rfl
     refine pure_ (i := 9) (N := (some 26)) (v := ?_) (a' := ?_) #[true, true, true, true, true, true, true, true, true, true, true, false] rfl rfl (by kernel_rfl) (fun _ _ _ h => h) (Or.inl ⟨by rfl, ?_⟩) ?_ ?_
     rotate_left
     ·intro w'
      go_simp
      with_reducible rfl
     rotate_left
     ·simp only [Act.put, List.setIfInBounds_toArray, List.set_cons_zero, List.set_cons_succ]
      rfl
     exact hcont ((Av, cv), wr.heap.size) w2 (own5_b HN1.out HV2.out HB2.out)
   rintro ⟨⟨Av, cv⟩, bo⟩ w5 hF5
   have HF5 := Aside0.mk hF5
   have f0 := hF5.blk.cell 0 (v := .slice none 0 0) rfl
   have f1 := hF5.blk.cell 1 (v := .bool false) rfl
   have g0 := hF5.blk.free 0
   have g1 := hF5.blk.free 1
   clear hF5
   refine norm_ (a' := ?_) ?_ ?_
   rotate_left
   ·simp only [putAll, Act.put, List.setIfInBounds_toArray, List.set_cons_zero, List.set_cons_succ]
    rfl
   refine last_ (i := 11) (N := none) #[true, true, true, true, true, true, true, true, true, true, true, true] rfl rfl (by kernel_rfl) (by decide) (fun K hK => ?_)
   rw [if_pos (by rfl)]
   have HK := Aside0.mk hK.out
   clear hK
   unfold Oper.wp
   go_simp
   refine HK.out _ _ ?_
   clear HK K
   refine done_ (by kernel_rfl) ?_
   obtain ⟨q, hq⟩ : ∃ q, decide ((1 : Int) < (cn : Int)) = q := ⟨_, rfl⟩
   rw [hq]
   have HQ := Aside0.mk hq
   obtain ⟨W6, hW6⟩ : ∃ W6, (w5.setCell ⟨bo, 0, none⟩ (.slice Av cn cv)).setCell ⟨bo, 1, none⟩ (.bool q) = W6 := ⟨_, rfl⟩
   have HBK := Aside0.mk (show Blk W6 bo #[.slice Av cn cv, .bool q] 110 by rw [← hW6]; exact (HF5.out.blk.set 0 _).set 1 _)
   have HRW := Aside0.mk (show Kd.R (Kd.int .i64) 3 W6 N1 (fun j => j ≠ bo) (.slice Av cn cv) c by rw [← hW6]; exact Kd.R_far (Kd.R_far HF5.out.row (fun k hk => hk) _) (fun k hk => hk) _)
   have HBW := Aside0.mk (show Below N1 wr W6 by rw [← hW6]; exact (HF5.out.below.setCell HF5.out.lt _).setCell HF5.out.lt _)
   have HNN := Aside0.mk (show bj + 1 ≤ N1 by have := HC0.out.size; have := HN1.out; omega)
   have HBO := Aside0.mk HF5.out.lt
   have HCT := Aside0.mk (CrI.tail (HCR.out.keep (by have := HLT.out; omega) (fun k hk => HBW.out.block k (by have := HNN.out; omega))))
   have HRS := Aside0.mk (show Rest g wr W6 from ⟨HBW.out.os, HBW.out.tape, HBW.out.output, HBW.out.size, fun k hk _ => HBW.out.block k (by have := HN1.out; omega)⟩)
   try rw [hW6]
   have hpop := fun W => pop45 ⟨g, off, none⟩ m cap (by
    rcases HCR.out with h | ⟨_, _, _, _, h, _⟩
    ·cases h
    ·have := HN.out; simp only [List.length_cons] at h this; omega) W
   rw [Addr.add_lit] at hpop
   obtain ⟨A2, hA2⟩ : ∃ A2, (if cap = 1 then some (⟨g, off, none⟩ : Addr) else some ⟨g, off + 1, none⟩) = A2 := ⟨_, rfl⟩
   rw [hA2] at hpop HCT
   clear hq hW6 f0 f1 g0 g1 hHeld hhd hl HF5 hA2
   go_wp2
   go_step3
   go_wp2
   obtain ⟨wo, hwo⟩ : ∃ z, z = wr := ⟨_, rfl⟩
   subst hwo
   obtain ⟨G0, hG0⟩ : ∃ G0, growF (plL s) m (c, q) r = G0 := ⟨_, rfl⟩
   have HG0 := Aside0.mk hG0
   have HTL := Aside0.mk HTT.out.tail
   have HCM2 := Aside0.mk (HTT.out.mem c (by simp))
   clear hG0
   go_loopw [3] (fun cv2 wi => ∃ (cs2 : List (List Int)) (n2 : Nat) (A3 : Option Addr) (cap2 : Nat) (own : List Int) (ow : Option Addr) (oc : Nat) (bad : Bool), cv2 = .slice A3 n2 cap2 ∧ Aside0 (cs2.length = n2 ∧ n2 ≤ m) ∧ Aside0 (CrI (bj + 1) g wi A3 cap2 cs2) ∧ Aside0 (Blk wi bo #[.slice ow own.length oc, .bool bad] 110) ∧ Aside0 (Kd.R (Kd.int .i64) 3 wi N1 (fun j => j ≠ bo) (.slice ow own.length oc) own) ∧ Aside0 (Rest g wo wi) ∧ Aside0 (growF (plL s) n2 (own, bad) cs2 = G0) ∧ Aside0 (Tot s.length (T - own.length) cs2) ∧ Aside0 (own.length ≤ T ∧ ∀ x, x ∈ own → 0 ≤ x ∧ x ≤ (s.length : Int))) (fun cv2 _ => sliceLen cv2)
   case atStart => exact ⟨r, m, A2, _, c, Av, cv, q, rfl, ⟨by have := HN.out; simpa using this, Nat.le_refl _⟩, HCT, ⟨by rw [HCN.out]; exact HBK.out⟩, ⟨by rw [HCN.out]; exact HRW.out⟩, HRS, HG0, ⟨HTL.out.1⟩, ⟨HTL.out.2, HCM2.out⟩⟩
   case round =>
    obtain ⟨cs2, n2, A3, cap2, own, ow, oc, bad, rfl, HN2, HCR2, HBO2, HOW, HRE, HGR, HT2, HOM⟩ := hrel
    have HC2 := Aside0.mk (HC0.out.rest HRE.out (by have := HLT.out; omega) (by have := HLT.out; omega) (by have := HLT.out; have := HBX.out; omega))
    have HIX := Aside0.mk (idx94_calls 95 #[.pointer (some ⟨bj, 0, none⟩), .pointer (some ⟨bo, 0, none⟩)] (enters_of Try.func95 (by kernel_rfl) rfl) (joinedB (plL s) own) A3 cap2 cs2 wr HCR2.out.C (by have := HT2.out.len; omega) (fun x hx W A4 c4 hbw hx1 hx2 => c95_calls b base bx bj bo s hs W (HP.out.below (HC2.out.below.trans (hbw.mono HC2.out.below.size))) (blk_below HC2.out.bxb hbw) (blk_below HC2.out.bjb hbw) ow A4 oc c4 own x bad (blk_below HBO2.out hbw) (Kd.C_below (Kd.R_reads' HOW.out).2.2 hbw) hx2 (by have := HOM.out.1; omega) (by
     have h1 := HT2.out.sum
     have h2 : ∀ (l : List (List Int)), x ∈ l → x.length ≤ (l.map List.length).sum := fun l => by
      induction l with
      | nil => intro h; cases h
      | cons a l ih =>
       intro h
       simp only [List.map_cons, List.sum_cons]
       rcases List.mem_cons.1 h with rfl | h
       ·omega
       ·have := ih h; omega
     have := h2 cs2 hx
     omega) HOM.out.2 (HT2.out.mem x hx)))
    rw [HN2.out.1] at HIX
    obtain ⟨ix, hix⟩ : ∃ ix, idxI (joinedB (plL s) own) cs2 = ix := ⟨_, rfl⟩
    rw [hix] at HIX
    have HIX2 := Aside0.mk hix
    clear hix
    go_wp2_with (go_at_call 94; refine stopper ?_)
    try unfold Hold
    refine HIX.out.mono ?_
    rintro e w2 ⟨rfl, hb2⟩
    have HB2 := Aside0.mk hb2
    clear hb2
    by_cases hlt : ix < 0
    ·have HGS := Aside0.mk (show G0 = ((own, bad), cs2) by rw [← HGR.out]; exact growF_stop (by rw [HIX2.out]; exact hlt) n2)
     have hbk := blk_below HBO2.out HB2.out
     have HCR3 := Aside0.mk (HCR2.out.keep (W' := w2) (by have := HLT.out; omega) (fun j hj => HB2.out.block j (by have := HC2.out.size; omega)))
     have HRE3 := Aside0.mk (HRE.out.of_below HRE.out.size HB2.out)
     have HOW3 := Aside0.mk (Kd.R_below HOW.out HB2.out)
     have HC3 := Aside0.mk (HC2.out.rest (Rest.of_below (Rest.refl g wr) (Nat.le_refl _) HB2.out) (by have := HLT.out; omega) (by have := HLT.out; omega) (by have := HLT.out; have := HBX.out; omega))
     obtain ⟨on, hon⟩ : ∃ on, own.length = on := ⟨_, rfl⟩
     rw [hon] at hbk HOW3
     have HON := Aside0.mk hon
     have HBK3 := Aside0.mk hbk
     have o0 := hbk.cell 0 (v := .slice ow on oc) rfl
     have HT0 := Aside0.mk (show (bad && !((own.take 0).any (turnedB (plL s)))) = bad by simp)
     have HON2 := Aside0.mk (show on ≤ T by have := HOM.out.1; omega)
     have HPR := Aside0.mk (plL_range s)
     clear hbk hon
     obtain ⟨wi0, hwi0⟩ : ∃ z, z = wr := ⟨_, rfl⟩
     subst hwi0
     go_wp2
     go_loopw [61] (fun jv wj => ∃ j : Nat, j ≤ on ∧ jv = .int .i64 (j : Int) ∧ Aside0 (Blk wj bo #[.slice ow on oc, .bool (bad && !((own.take j).any (turnedB (plL s))))] 110) ∧ Aside0 (Rest bo w2 wj)) (fun jv _ => on - (intOf jv).toNat)
     case atStart => exact ⟨0, Nat.zero_le _, rfl, ⟨by rw [HT0.out]; exact HBK3.out⟩, ⟨Rest.refl _ _⟩⟩
     case round =>
      obtain ⟨j, hj, rfl, HBJ2, HRJ⟩ := hrel
      by_cases hjl : j < on
      ·have hj0 : (0 : Int) ≤ (j : Int) := by omega
       have hj1 : (j : Int) < (on : Int) := by omega
       have HOJ := Aside0.mk (Kd.R_step HOW3.out (fun k hk hl => HRJ.out.other k hl hk))
       obtain ⟨ad, e1, hc1⟩ := Kd.at_int (Kd.R_reads' HOJ.out).2.2 (j : Int) hj0 (by have := HON.out; omega)
       rw [rd_nth, Int.toNat_natCast] at hc1
       have hmem : nth own j ∈ own := getD_mem (by rw [HON.out]; exact hjl)
       have hx := HOM.out.2 _ hmem
       have HTS := Aside0.mk (show (own.take (j + 1)).any (turnedB (plL s)) = ((own.take j).any (turnedB (plL s)) || turnedB (plL s) (nth own j)) by
        rw [List.take_succ_eq_append_getElem (by rw [HON.out]; exact hjl), List.any_append, List.any_cons, List.any_nil, Bool.or_false]
        congr 2
        have h1 : j < own.length := by rw [HON.out]; exact hjl
        simp [nth, h1])
       obtain ⟨xv, hxv⟩ : ∃ xv, nth own j = xv := ⟨_, rfl⟩
       rw [hxv] at hc1 hx HTS
       obtain ⟨xl, rfl⟩ := Int.eq_ofNat_of_zero_le hx.1
       have hxl : xl ≤ s.length := by omega
       have hwt : IntKind.i64.wrap ((j : Int) + 1) = ((j + 1 : Nat) : Int) := by rw [iw64 (by omega) (by have := HON2.out; omega)]; omega
       have HBW2 := Aside0.mk (show Below w.heap.size w wr from HRJ.out.below HC3.out.below HC3.out.below.size (by have := HBO.out; have := HNN.out; have := HLT.out; have := HBX.out; omega))
       have HSP := Aside0.mk (span_calls b base s hs xl hxl wr (HP.out.below HBW2.out))
       have hsr1 := HPR.out (2 * xl)
       have hsr2 := HPR.out (2 * xl + 1)
       have hsp1 : 0 ≤ (spanOf (plL s) xl).2 - (spanOf (plL s) xl).1 ∧ (spanOf (plL s) xl).2 - (spanOf (plL s) xl).1 ≤ 100 := by
        unfold spanOf
        simp only
        omega
       have HTB := Aside0.mk (show turnedB (plL s) ((xl : Nat) : Int) = decide (((spanOf (plL s) xl).2 - (spanOf (plL s) xl).1).tmod 2 = 0) by unfold turnedB; rw [Int.toNat_natCast])
       obtain ⟨a1, ha1⟩ : ∃ a1, (spanOf (plL s) xl).1 = a1 := ⟨_, rfl⟩
       obtain ⟨a2, ha2⟩ : ∃ a2, (spanOf (plL s) xl).2 = a2 := ⟨_, rfl⟩
       rw [ha1, ha2] at HSP hsp1 HTB
       have hws : IntKind.i64.wrap (a2 - a1) = a2 - a1 := iw64 (by omega) (by omega)
       have hbx0 := (show Blk wr bx #[.pointer (some ⟨b, 0, none⟩)] 79 from (HRJ.out.other bx HC3.out.bxb.lt (by have := HBO.out; have := HNN.out; have := HLT.out; omega)).trans HC3.out.bxb).cell 0 (v := .pointer (some ⟨b, 0, none⟩)) rfl
       subst e1
       clear hmem hx hxv hsr1 hsr2 ha1 ha2 hxl
       have hwm : IntKind.i64.wrap ((a2 - a1).tmod 2) = (a2 - a1).tmod 2 := by
        have : 0 ≤ (a2 - a1).tmod 2 ∧ (a2 - a1).tmod 2 < 2 := ⟨Int.tmod_nonneg _ hsp1.1, Int.tmod_lt_of_pos _ (by omega)⟩
        exact iw64 (by omega) (by omega)
       go_wp2_with (go_at_call 92; refine stopper ?_)
       try unfold Hold
       refine HSP.out.mono ?_
       rintro e w3 ⟨rfl, hb3⟩
       obtain ⟨W4, hW4⟩ : ∃ W4, w3.alloc (.cells #[.int .i64 a1, .int .i64 a2] 124) = W4 := ⟨_, rfl⟩
       have hb4 : Below wr.heap.size wr W4 := by rw [← hW4]; exact hb3.alloc hb3.size _
       have hbk4 := blk_below HBJ2.out hb4
       have o1 := hbk4.cell 1 (v := .bool (bad && !((own.take j).any (turnedB (plL s))))) rfl
       have p1 := hbk4.free 1
       have hn4 : Blk W4 w3.heap.size #[.int .i64 a1, .int .i64 a2] 124 := by rw [← hW4]; exact Blk.new _ _ _
       have q0 := hn4.cell 0 (v := .int .i64 a1) rfl
       have q1 := hn4.cell 1 (v := .int .i64 a2) rfl
       have HBK5 := Aside0.mk hbk4
       have HRJ4 := Aside0.mk (HRJ.out.of_below HRJ.out.size hb4)
       clear hbk4 hb3 hb4 hn4
       go_upto_region 16 with fail
       try rw [hW4]
       clear hW4
       have hmod : (a2 - a1).tmod 2 = (a2 - a1) % 2 := Int.tmod_eq_emod_of_nonneg hsp1.1
       rw [hmod] at HTB
       clear hmod
       obtain ⟨tb, htb⟩ : ∃ tb, ((a2 - a1) % 2 == 0) = tb := ⟨_, rfl⟩
       have HTE := Aside0.mk (show turnedB (plL s) ((xl : Nat) : Int) = tb by rw [HTB.out, ← htb]; rfl)
       cases tb
       ·go_wp2
        go_roundw
        case rel => exact ⟨j + 1, by omega, rfl, ⟨by rw [HTS.out, HTE.out, Bool.or_false]; exact HBK5.out⟩, HRJ4⟩
        case measure => simp [intOf]; omega
       ·skip
        go_wp2
        go_roundw
        case rel => exact ⟨j + 1, by omega, rfl, ⟨by rw [HTS.out, HTE.out, Bool.or_true, Bool.not_true, Bool.and_false]; exact HBK5.out.set 1 _⟩, ⟨HRJ4.out.os, HRJ4.out.tape, HRJ4.out.output, by simpa [World.setCell] using HRJ4.out.size, fun k hk hkb => (Below.heap_setCell _ _ _ _ hkb).trans (HRJ4.out.other k hk hkb)⟩⟩
        case measure => simp [intOf]; omega
      ·have hj1 : ¬ (j : Int) < (on : Int) := by omega
       have HJ := Aside0.mk (show j = on by omega)
       have hOJ := Kd.R_step HOW3.out (fun k hk hl => HRJ.out.other k hl hk)
       have hBK := HBJ2.out
       rw [HJ.out, List.take_of_length_le (by have := HON.out; omega)] at hBK
       obtain ⟨bd, hbd⟩ : ∃ bd, (bad && !(own.any (turnedB (plL s)))) = bd := ⟨_, rfl⟩
       rw [hbd] at hBK
       have HBD := Aside0.mk hbd
       have o0 := hBK.cell 0 (v := .slice ow on oc) rfl
       have o1 := hBK.cell 1 (v := .bool bd) rfl
       have HBKJ := Aside0.mk hBK
       have HOJ := Aside0.mk hOJ
       have hrb := Kd.R_base hOJ
       have HRB := Aside0.mk hrb
       have HUL := Aside0.mk (Kd.R_lt HO.out)
       have HBB := Aside0.mk (show bj + 1 ≤ N1 ∧ N1 ≤ bo ∧ g < bj + 1 ∧ wo.heap.size = N1 ∧ N1 ≤ wr.heap.size from ⟨HNN.out, HBO.out, by have := HLT.out; omega, HN1.out, by have := HRJ.out.size; have := HRE3.out.size; have := HN1.out; omega⟩)
       have HOO := Aside0.mk (show Kd.R kCmp 110 wr (bj + 1) (fun j => bj + 1 ≤ j) u5 out from Kd.R_step HO.out (fun k hk hl => by
        have h1 := HBB.out
        exact (HRJ.out.other k (by have := HRE3.out.size; omega) (by omega)).trans (HRE3.out.other k hl (by omega))))
       clear hOJ hBK hbd hrb
       go_wp2_with ((with_reducible refine gate_builtin (b := .append) (xs := #[.tmp 77, .tmp 79]) rfl ?_); at_builtin; refine stopper ?_)
       try unfold Hold
       refine Kd.R_append kCmp (w0 := wr) (bj + 1) rfl (.tmp 77) (.tmp 79) 106 110 (.agg #[.slice none 0 0, .bool false]) 32 rfl Try.underlying106 info110 rfl (by decide) (by decide) u5 out (own, bd) [.slice ow on oc, .bool bd] (fun j => bj + 1 ≤ j) (fun k => some k = (Value.slice ow on oc).ownBlock) rfl rfl ⟨[.slice ow on oc], [.bool bd], rfl, ⟨_, rfl, Kd.R_of_own (Kd.own_of_R (Kd.R_lower HOJ.out HBB.out.1)) (fun k hk => hk.symm)⟩, rfl⟩ (fun k hk => ⟨by have := HRB.out k hk.symm;have := HBB.out;omega, fun e => by have h1 := HRB.out k hk.symm;have h2 := HUL.out k e.symm;have h3 := HBB.out;omega⟩) (fun k hk => by have := HBB.out;omega) HOO.out (Below.refl _ _) (by have := HBB.out;omega) (by have := HOL.out;omega) ?_
       intro v1 wy ho hb hg hat
       have HHO := Aside0.mk ho
       have HHB := Aside0.mk hb
       clear ho hb hg hat o0 o1
       go_wp2
       rw [Exit.noGoto_normal]
       go_wp2
       go_roundw
       case rel =>
        have hkeep : ∀ k, k < bj + 1 → wy.heap[k]? = w2.heap[k]? := fun k hk => (HHB.out.block k hk).trans (HRJ.out.other k (by have := HBB.out; have := HRE3.out.size; omega) (by have := HBB.out; omega))
        obtain ⟨f, hf1, hf2⟩ := HR.out
        have hG : growF (plL s) r.length (c, decide (1 < c.length)) r = ((own, bad), cs2) := by
         have hrl : r.length = m := by have := HN.out; simpa using this
         have hq2 : decide (1 < c.length) = q := by rw [← HQ.out, HCN.out]; exact decide_eq_decide.2 (by omega)
         rw [hrl, hq2, HG0.out, HGS.out]
        obtain ⟨f', rfl⟩ : ∃ f', f = f' + 1 := ⟨f - 1, by omega⟩
        rw [cmpF, hG] at hf2
        simp only at hf2
        rw [HBD.out] at hf2
        have hbel : Below w.heap.size w wr := HRJ.out.below HC3.out.below HC3.out.below.size (by have := HBB.out; have := HLT.out; have := HBX.out; omega)
        refine ⟨cs2, n2, A3, cap2, out ++ [(own, bd)], rfl, ⟨HN2.out.1⟩, ⟨HCR3.out.keep (by have := HBB.out; omega) hkeep⟩, HHO, ⟨⟨hbel.trans (HHB.out.mono (by have := HLT.out; have := HBX.out; omega)), by have := HBB.out; have := HHB.out.size; omega, (hkeep _ (by have := HLT.out; omega)).trans HC3.out.bxb, (hkeep _ (by omega)).trans HC3.out.bjb⟩⟩, ⟨f', by have := HN2.out.2; omega, hf2⟩, ⟨⟨HT2.out.ne, HT2.out.mem, by have := HT2.out.sum; omega⟩⟩, ⟨by have := HOL.out; have := HN2.out.2; rw [List.length_append, List.length_singleton]; omega⟩⟩
       case measure =>
        simp [sliceLen]
        have := HN2.out.2
        omega
    ·have HK0 := Aside0.mk (idxI_lt (p := joinedB (plL s) own) (l := cs2) (by rw [HIX2.out]; exact hlt))
     obtain ⟨k, rfl⟩ := Int.eq_ofNat_of_zero_le (show 0 ≤ ix by omega)
     have hkl : k < n2 := by
      have h1 := HK0.out.1
      rw [HIX2.out, Int.toNat_natCast, HN2.out.1] at h1
      exact h1
     have HCR3 := Aside0.mk (HCR2.out.keep (W' := w2) (by have := HLT.out; omega) (fun j hj => HB2.out.block j (by have := HC2.out.size; omega)))
     obtain ⟨off3, Ax, cx, rfl, hck, hlk, hFk⟩ := HCR3.out.at k (by rw [HN2.out.1]; exact hkl)
     have hbk := blk_below HBO2.out HB2.out
     have o0 := hbk.cell 0 (v := .slice ow own.length oc) rfl
     have o1 := hbk.cell 1 (v := .bool bad) rfl
     have p1 := hbk.free 1
     have HBK3 := Aside0.mk hbk
     have HFK := Aside0.mk hFk
     have HLK := Aside0.mk hlk
     obtain ⟨x, hx⟩ : ∃ x, cs2.getD k [] = x := ⟨_, rfl⟩
     rw [hx] at hck HFK HLK
     have HX := Aside0.mk hx
     obtain ⟨xn, hxn⟩ : ∃ xn, x.length = xn := ⟨_, rfl⟩
     rw [hxn] at hck
     have HXN := Aside0.mk hxn
     obtain ⟨on, hon⟩ : ∃ on, own.length = on := ⟨_, rfl⟩
     rw [hon] at o0
     have HON := Aside0.mk hon
     have hk0 : (0 : Int) ≤ (k : Int) := by omega
     have hk1 : (k : Int) < (n2 : Int) := by omega
     have hkw : IntKind.i64.wrap ((k : Int) + 1) = ((k + 1 : Nat) : Int) := by rw [iw64 (by omega) (by have := HN2.out; have := HT2.out.len; omega)]; omega
     have HNL := Aside0.mk (show on ≤ T ∧ xn ≤ T ∧ (cs2.length ≤ T) by
      refine ⟨by have := HOM.out.1; omega, ?_, by have := HT2.out.len; omega⟩
      have h1 := (HT2.out.erase k (by rw [HN2.out.1]; exact hkl)).2
      rw [hx, hxn] at h1
      omega)
     clear hbk hFk hlk hx hxn hon hlt
     cases bad
     ·skip
      go_upto_region 10 with fail
      obtain ⟨W3, hW3⟩ : ∃ W3, w2.setCell ⟨bo, 1, none⟩ (.bool (decide ((1 : Int) < (xn : Int)))) = W3 := ⟨_, rfl⟩
      have hne : bo ≠ g := by have := HBO.out; have := HLT.out; have := HNN.out; omega
      have HNE := Aside0.mk hne
      have HBK4 := Aside0.mk (show Blk W3 bo #[.slice ow on oc, .bool (decide ((1 : Int) < (xn : Int)))] 110 by rw [← hW3, ← HON.out]; exact HBK3.out.set 1 _)
      have hck3 : W3.cell? ⟨g, off3 + k, none⟩ = some (.slice Ax xn cx) := by rw [← hW3]; exact (cell_same (Below.heap_setCell _ _ _ _ (Ne.symm hne))).trans hck
      have o03 := HBK4.out.cell 0 (v := .slice ow on oc) rfl
      have HOW4 := Aside0.mk (show Kd.R (Kd.int .i64) 3 W3 N1 (fun j => j ≠ bo) (.slice ow on oc) own by rw [← hW3, ← HON.out]; exact Kd.R_far (Kd.R_below HOW.out HB2.out) (fun k hk => hk) _)
      have HFK4 := Aside0.mk (show Kd.F (Kd.int .i64) W3 (fun k => k ≠ g ∧ k < bj + 1) Ax x.length x by rw [← hW3]; exact Kd.F_far HFK.out (fun k hk => by have := hk.2; have := HNN.out; have := HBO.out; simp only; omega) _)
      have HRE4 := Aside0.mk (show Rest g wo W3 by
       have h1 := HRE.out.of_below HRE.out.size HB2.out
       rw [← hW3]
       exact ⟨h1.os, h1.tape, h1.output, by simpa [World.setCell] using h1.size, fun j hj hg => (Below.heap_setCell _ _ _ _ (by have := HBO.out; have := HN1.out; simp only; omega)).trans (h1.other j hj hg)⟩)
      have HCR4 := Aside0.mk (HCR3.out.keep (W' := W3) (by have := HLT.out; omega) (fun j hj => by rw [← hW3]; exact Below.heap_setCell _ _ _ _ (by have := HBO.out; have := HNN.out; simp only; omega)))
      try rw [hW3]
      clear hW3 hck o0 o1 p1 hne
      refine start_ (n := 9) (S := fun w' => w'.cell? ⟨bo, 0, none⟩ = some (.slice ow on oc) ∧ w'.cell? ⟨g, off3 + k, none⟩ = some (.slice Ax xn cx)) (ds := [8]) #[false, false, false, false, false, false, false, false, false] (by kernel_rfl) rfl rfl ⟨o03, hck3⟩ (fun hHeld => ?_)
      refine pure_ (i := 0) (N := (some 45)) (v := ?_) (a' := ?_) #[true, false, false, false, false, false, false, false, false] rfl rfl (by kernel_rfl) (fun _ _ _ h => h) (Or.inl ⟨by rfl, ?_⟩) ?_ ?_
      rotate_left
      ·intro w'
       go_simp
       with_reducible rfl
      rotate_left
      ·simp only [Act.put, List.setIfInBounds_toArray, List.set_cons_zero, List.set_cons_succ]
       rfl
      refine take_ (i := 1) (N := (some 46)) (v := ?_) (a' := ?_) #[true, true, false, false, false, false, false, false, false] rfl rfl (by kernel_rfl) (fun _ _ _ h => h) (Or.inl ⟨by rfl, ?_⟩) hHeld ?_ ?_
      rotate_left
      ·rintro w' ⟨s0, s1⟩
       go_simp
       with_reducible rfl
      rotate_left
      ·simp only [Act.put, List.setIfInBounds_toArray, List.set_cons_zero, List.set_cons_succ]
       rfl
      refine pure_ (i := 2) (N := (some 47)) (v := ?_) (a' := ?_) #[true, true, true, false, false, false, false, false, false] rfl rfl (by kernel_rfl) (fun _ _ _ h => h) (Or.inl ⟨by rfl, ?_⟩) ?_ ?_
      rotate_left
      ·intro w'
       go_simp
       with_reducible rfl
      rotate_left
      ·simp only [Act.put, List.setIfInBounds_toArray, List.set_cons_zero, List.set_cons_succ]
       rfl
      refine pure_ (i := 3) (N := (some 48)) (v := ?_) (a' := ?_) #[true, true, true, true, false, false, false, false, false] rfl rfl (by kernel_rfl) (fun _ _ _ h => h) (Or.inl ⟨by rfl, ?_⟩) ?_ ?_
      rotate_left
      ·intro w'
       go_simp
       with_reducible rfl
      rotate_left
      ·simp only [Act.put, List.setIfInBounds_toArray, List.set_cons_zero, List.set_cons_succ]
       rfl
      refine pure_ (i := 4) (N := (some 49)) (v := ?_) (a' := ?_) #[true, true, true, true, true, false, false, false, false] rfl rfl (by kernel_rfl) (fun _ _ _ h => h) (Or.inl ⟨by rfl, ?_⟩) ?_ ?_
      rotate_left
      ·intro w'
       go_simp
       with_reducible rfl
      rotate_left
      ·simp only [Act.put, List.setIfInBounds_toArray, List.set_cons_zero, List.set_cons_succ]
       rfl
      refine take_ (i := 5) (N := (some 50)) (v := ?_) (a' := ?_) #[true, true, true, true, true, true, false, false, false] rfl rfl (by kernel_rfl) (fun _ _ _ h => h) (Or.inl ⟨by rfl, ?_⟩) hHeld ?_ ?_
      rotate_left
      ·rintro w' ⟨s0, s1⟩
       go_simp
       with_reducible rfl
      rotate_left
      ·simp only [Act.put, List.setIfInBounds_toArray, List.set_cons_zero, List.set_cons_succ]
       rfl
      refine one_ (i := 6) (N := (some 51)) #[true, true, true, true, true, true, true, false, false] rfl rfl (by kernel_rfl) (by decide) (fun K hK => ?_)
      refine Kd.R_append_rows_step (Kd.int .i64) (Rr := fun x cs => (Kd.int .i64).K W3.drew x cs) (w0 := W3.drew) N1 (by rfl) (.tmp 46) (.tmp 50) 22 3 (.int .i64 0) 8 rfl Try.underlying22 info3 rfl (by decide) (by decide) (.slice ow on oc) own x Ax xn cx (fun j => j ≠ bo) (fun _ => False) rfl rfl (Kd.R_drew HOW4.out) (by rw [← HXN.out];exact Kd.C_drew (Kd.F_now HFK4.out)) (fun x cs h => h) (fun _ h => h.elim) (fun k hk => by have := HBK4.out.lt;have e : W3.drew.heap.size = W3.heap.size := rfl;omega) (Below.refl _ _) (by have := HRE4.out.size;have := HN1.out;have e : W3.drew.heap.size = W3.heap.size := rfl;omega) (by have := HNL.out;have := HON.out;omega) ?_
      intro v1 w4 ho hb hg hat
      obtain ⟨Av1, cv1, ev⟩ := Kd.R_slice ho
      subst ev
      have hnb : (Value.slice ow on oc).ownBlock ≠ some bo := fun e => HOW4.out.1 _ e rfl
      have hb4 : Blk w4 bo #[.slice ow on oc, .bool (decide ((1 : Int) < (xn : Int)))] 110 := HBK4.out.drew.grown hg hnb
      have HB4 := Aside0.mk hb4
      have HO4 := Aside0.mk ho
      have HBE4 := Aside0.mk (show Below N1 W3 w4 from ⟨hb.os, hb.tape, hb.output, hb.size, hb.block⟩)
      have hgk : w4.heap[g]? = W3.heap[g]? := hb.block g (by have := HLT.out; have := HNN.out; omega)
      refine hK.out _ _ ⟨hb4.cell 0 rfl, (cell_same hgk).trans hck3⟩ (fun hHeld => ?_)
      have o04 := hb4.cell 0 (v := .slice ow on oc) rfl
      have p04 := hb4.free 0
      obtain ⟨ln, hln⟩ : ∃ ln, (own ++ x).length = ln := ⟨_, rfl⟩
      rw [hln]
      have HLN := Aside0.mk hln
      rw [hln] at HO4
      clear hK K ho hb hg hat hnb hb4 hgk hck3 o03 hln hHeld
      refine norm_ (a' := ?_) ?_ ?_
      rotate_left
      ·show Act.put _ (some 51) _ = _
       simp only [Act.put, List.setIfInBounds_toArray, List.set_cons_zero, List.set_cons_succ]
       rfl
      refine pure_ (i := 7) (N := (some 52)) (v := ?_) (a' := ?_) #[true, true, true, true, true, true, true, true, false] rfl rfl (by kernel_rfl) (fun _ _ _ h => h) (Or.inl ⟨by rfl, ?_⟩) ?_ ?_
      rotate_left
      ·intro w'
       go_simp
       with_reducible rfl
      rotate_left
      ·simp only [Act.put, List.setIfInBounds_toArray, List.set_cons_zero, List.set_cons_succ]
       rfl
      refine last_ (i := 8) (N := none) #[true, true, true, true, true, true, true, true, true] rfl rfl (by kernel_rfl) (by decide) (fun K hK => ?_)
      rw [if_pos (by rfl)]
      have HK := Aside0.mk hK.out
      clear hK
      unfold Oper.wp
      go_simp
      refine HK.out _ _ ?_
      clear HK K
      refine done_ (by kernel_rfl) ?_
      obtain ⟨W5, hW5⟩ : ∃ W5, w4.setCell ⟨bo, 0, none⟩ (.slice Av1 ln cv1) = W5 := ⟨_, rfl⟩
      have HBK5 := Aside0.mk (show Blk W5 bo #[.slice Av1 ln cv1, .bool (decide ((1 : Int) < (xn : Int)))] 110 by rw [← hW5]; exact HB4.out.set 0 _)
      have HOW5 := Aside0.mk (show Kd.R (Kd.int .i64) 3 W5 N1 (fun j => j ≠ bo) (.slice Av1 ln cv1) (own ++ x) by rw [← hW5]; exact Kd.R_far HO4.out (fun k hk => hk) _)
      have hk5 : ∀ j, j < N1 → W5.heap[j]? = W3.heap[j]? := fun j hj => by rw [← hW5]; exact (Below.heap_setCell _ _ _ _ (by have := HBO.out; simp only; omega)).trans (HBE4.out.block j hj)
      have HRE5 := Aside0.mk (show Rest g wo W5 from ⟨by rw [← hW5]; exact HBE4.out.os.trans HRE4.out.os, by rw [← hW5]; exact HBE4.out.tape.trans HRE4.out.tape, by rw [← hW5]; exact HBE4.out.output.trans HRE4.out.output, by rw [← hW5]; simpa [World.setCell] using Nat.le_trans HRE4.out.size HBE4.out.size, fun j hj hg => (hk5 j (by have := HN1.out; omega)).trans (HRE4.out.other j hj hg)⟩)
      have HCR5 := Aside0.mk (HCR4.out.keep (W' := W5) (by have := HLT.out; omega) (fun j hj => hk5 j (by have := HNN.out; omega)))
      have HDEL := Aside0.mk (HCR5.out.del k (by rw [HN2.out.1]; exact hkl))
      rw [HN2.out.1] at HDEL
      try rw [hW5]
      clear hW5 o04 p04 hk5
      go_wp2_with (go_at_call 96; refine stopper ?_)
      try unfold Hold
      refine HDEL.out.mono ?_
      rintro e w6 ⟨rfl, hcr6, hre6⟩
      have HCR6 := Aside0.mk hcr6
      have HRE6 := Aside0.mk hre6
      clear hcr6 hre6
      go_wp2
      go_roundw
      case rel =>
       have herase := HT2.out.erase k (by rw [HN2.out.1]; exact hkl)
       rw [HX.out, HXN.out] at herase
       have hxm := HT2.out.mem _ (getD_mem (z := []) (show k < cs2.length by rw [HN2.out.1]; exact hkl))
       rw [HX.out] at hxm
       have hlen : (own ++ x).length = on + xn := by rw [List.length_append, HON.out, HXN.out]
       have hbo6 : w6.heap[bo]? = W5.heap[bo]? := HRE6.out.other bo HBK5.out.lt HNE.out
       refine ⟨cs2.eraseIdx k, n2 - 1, _, cap2, own ++ x, Av1, cv1, (decide ((1 : Int) < (xn : Int))), rfl, ⟨by rw [List.length_eraseIdx_of_lt (by rw [HN2.out.1];exact hkl), HN2.out.1], by have := HN2.out.2;omega⟩, HCR6, ⟨by rw [HLN.out];exact hbo6.trans HBK5.out⟩, ⟨by rw [HLN.out];exact Kd.R_step (Kd.R_mono (ok' := fun j => j ≠ bo ∧ j ≠ g) (Kd.R_bound HOW5.out) (fun j hj => ⟨hj.1, by have := hj.2.1;have := HNN.out;have := HLT.out;omega⟩)) (fun j hj hl => HRE6.out.other j hl hj.2) |> fun h => Kd.R_mono h (fun j hj => hj.1)⟩, ⟨HRE5.out.trans HRE6.out⟩, ⟨?_⟩, ⟨by rw [hlen, ← Nat.sub_sub, ← HON.out];exact herase.1⟩, ⟨by rw [hlen];have := HOM.out.1;have := HON.out;have := herase.2;omega, fun y hy => by
        rcases List.mem_append.1 hy with hy | hy
        ·exact HOM.out.2 y hy
        ·exact hxm y hy⟩⟩
       have h := growF_step (bad := false) (p := n2 - 1) HIX2.out
       rw [HX.out, HXN.out, show n2 - 1 + 1 = n2 by omega, HGR.out] at h
       rw [h]
       congr 2
       first | done | (rw [Bool.false_or]; exact decide_eq_decide.2 (by omega)) | rfl
      case measure =>
       simp [sliceLen]
       omega
     ·skip
      go_upto_region 10 with fail
      obtain ⟨W3, hW3⟩ : ∃ W3, w2.setCell ⟨bo, 1, none⟩ (.bool true) = W3 := ⟨_, rfl⟩
      have hne : bo ≠ g := by have := HBO.out; have := HLT.out; have := HNN.out; omega
      have HNE := Aside0.mk hne
      have HBK4 := Aside0.mk (show Blk W3 bo #[.slice ow on oc, .bool true] 110 by rw [← hW3, ← HON.out]; exact HBK3.out.set 1 _)
      have hck3 : W3.cell? ⟨g, off3 + k, none⟩ = some (.slice Ax xn cx) := by rw [← hW3]; exact (cell_same (Below.heap_setCell _ _ _ _ (Ne.symm hne))).trans hck
      have o03 := HBK4.out.cell 0 (v := .slice ow on oc) rfl
      have HOW4 := Aside0.mk (show Kd.R (Kd.int .i64) 3 W3 N1 (fun j => j ≠ bo) (.slice ow on oc) own by rw [← hW3, ← HON.out]; exact Kd.R_far (Kd.R_below HOW.out HB2.out) (fun k hk => hk) _)
      have HFK4 := Aside0.mk (show Kd.F (Kd.int .i64) W3 (fun k => k ≠ g ∧ k < bj + 1) Ax x.length x by rw [← hW3]; exact Kd.F_far HFK.out (fun k hk => by have := hk.2; have := HNN.out; have := HBO.out; simp only; omega) _)
      have HRE4 := Aside0.mk (show Rest g wo W3 by
       have h1 := HRE.out.of_below HRE.out.size HB2.out
       rw [← hW3]
       exact ⟨h1.os, h1.tape, h1.output, by simpa [World.setCell] using h1.size, fun j hj hg => (Below.heap_setCell _ _ _ _ (by have := HBO.out; have := HN1.out; simp only; omega)).trans (h1.other j hj hg)⟩)
      have HCR4 := Aside0.mk (HCR3.out.keep (W' := W3) (by have := HLT.out; omega) (fun j hj => by rw [← hW3]; exact Below.heap_setCell _ _ _ _ (by have := HBO.out; have := HNN.out; simp only; omega)))
      try rw [hW3]
      clear hW3 hck o0 o1 p1 hne
      refine start_ (n := 9) (S := fun w' => w'.cell? ⟨bo, 0, none⟩ = some (.slice ow on oc) ∧ w'.cell? ⟨g, off3 + k, none⟩ = some (.slice Ax xn cx)) (ds := [8]) #[false, false, false, false, false, false, false, false, false] (by kernel_rfl) rfl rfl ⟨o03, hck3⟩ (fun hHeld => ?_)
      refine pure_ (i := 0) (N := (some 45)) (v := ?_) (a' := ?_) #[true, false, false, false, false, false, false, false, false] rfl rfl (by kernel_rfl) (fun _ _ _ h => h) (Or.inl ⟨by rfl, ?_⟩) ?_ ?_
      rotate_left
      ·intro w'
       go_simp
       with_reducible rfl
      rotate_left
      ·simp only [Act.put, List.setIfInBounds_toArray, List.set_cons_zero, List.set_cons_succ]
       rfl
      refine take_ (i := 1) (N := (some 46)) (v := ?_) (a' := ?_) #[true, true, false, false, false, false, false, false, false] rfl rfl (by kernel_rfl) (fun _ _ _ h => h) (Or.inl ⟨by rfl, ?_⟩) hHeld ?_ ?_
      rotate_left
      ·rintro w' ⟨s0, s1⟩
       go_simp
       with_reducible rfl
      rotate_left
      ·simp only [Act.put, List.setIfInBounds_toArray, List.set_cons_zero, List.set_cons_succ]
       rfl
      refine pure_ (i := 2) (N := (some 47)) (v := ?_) (a' := ?_) #[true, true, true, false, false, false, false, false, false] rfl rfl (by kernel_rfl) (fun _ _ _ h => h) (Or.inl ⟨by rfl, ?_⟩) ?_ ?_
      rotate_left
      ·intro w'
       go_simp
       with_reducible rfl
      rotate_left
      ·simp only [Act.put, List.setIfInBounds_toArray, List.set_cons_zero, List.set_cons_succ]
       rfl
      refine pure_ (i := 3) (N := (some 48)) (v := ?_) (a' := ?_) #[true, true, true, true, false, false, false, false, false] rfl rfl (by kernel_rfl) (fun _ _ _ h => h) (Or.inl ⟨by rfl, ?_⟩) ?_ ?_
      rotate_left
      ·intro w'
       go_simp
       with_reducible rfl
      rotate_left
      ·simp only [Act.put, List.setIfInBounds_toArray, List.set_cons_zero, List.set_cons_succ]
       rfl
      refine pure_ (i := 4) (N := (some 49)) (v := ?_) (a' := ?_) #[true, true, true, true, true, false, false, false, false] rfl rfl (by kernel_rfl) (fun _ _ _ h => h) (Or.inl ⟨by rfl, ?_⟩) ?_ ?_
      rotate_left
      ·intro w'
       go_simp
       with_reducible rfl
      rotate_left
      ·simp only [Act.put, List.setIfInBounds_toArray, List.set_cons_zero, List.set_cons_succ]
       rfl
      refine take_ (i := 5) (N := (some 50)) (v := ?_) (a' := ?_) #[true, true, true, true, true, true, false, false, false] rfl rfl (by kernel_rfl) (fun _ _ _ h => h) (Or.inl ⟨by rfl, ?_⟩) hHeld ?_ ?_
      rotate_left
      ·rintro w' ⟨s0, s1⟩
       go_simp
       with_reducible rfl
      rotate_left
      ·simp only [Act.put, List.setIfInBounds_toArray, List.set_cons_zero, List.set_cons_succ]
       rfl
      refine one_ (i := 6) (N := (some 51)) #[true, true, true, true, true, true, true, false, false] rfl rfl (by kernel_rfl) (by decide) (fun K hK => ?_)
      refine Kd.R_append_rows_step (Kd.int .i64) (Rr := fun x cs => (Kd.int .i64).K W3.drew x cs) (w0 := W3.drew) N1 (by rfl) (.tmp 46) (.tmp 50) 22 3 (.int .i64 0) 8 rfl Try.underlying22 info3 rfl (by decide) (by decide) (.slice ow on oc) own x Ax xn cx (fun j => j ≠ bo) (fun _ => False) rfl rfl (Kd.R_drew HOW4.out) (by rw [← HXN.out];exact Kd.C_drew (Kd.F_now HFK4.out)) (fun x cs h => h) (fun _ h => h.elim) (fun k hk => by have := HBK4.out.lt;have e : W3.drew.heap.size = W3.heap.size := rfl;omega) (Below.refl _ _) (by have := HRE4.out.size;have := HN1.out;have e : W3.drew.heap.size = W3.heap.size := rfl;omega) (by have := HNL.out;have := HON.out;omega) ?_
      intro v1 w4 ho hb hg hat
      obtain ⟨Av1, cv1, ev⟩ := Kd.R_slice ho
      subst ev
      have hnb : (Value.slice ow on oc).ownBlock ≠ some bo := fun e => HOW4.out.1 _ e rfl
      have hb4 : Blk w4 bo #[.slice ow on oc, .bool true] 110 := HBK4.out.drew.grown hg hnb
      have HB4 := Aside0.mk hb4
      have HO4 := Aside0.mk ho
      have HBE4 := Aside0.mk (show Below N1 W3 w4 from ⟨hb.os, hb.tape, hb.output, hb.size, hb.block⟩)
      have hgk : w4.heap[g]? = W3.heap[g]? := hb.block g (by have := HLT.out; have := HNN.out; omega)
      refine hK.out _ _ ⟨hb4.cell 0 rfl, (cell_same hgk).trans hck3⟩ (fun hHeld => ?_)
      have o04 := hb4.cell 0 (v := .slice ow on oc) rfl
      have p04 := hb4.free 0
      obtain ⟨ln, hln⟩ : ∃ ln, (own ++ x).length = ln := ⟨_, rfl⟩
      rw [hln]
      have HLN := Aside0.mk hln
      rw [hln] at HO4
      clear hK K ho hb hg hat hnb hb4 hgk hck3 o03 hln hHeld
      refine norm_ (a' := ?_) ?_ ?_
      rotate_left
      ·show Act.put _ (some 51) _ = _
       simp only [Act.put, List.setIfInBounds_toArray, List.set_cons_zero, List.set_cons_succ]
       rfl
      refine pure_ (i := 7) (N := (some 52)) (v := ?_) (a' := ?_) #[true, true, true, true, true, true, true, true, false] rfl rfl (by kernel_rfl) (fun _ _ _ h => h) (Or.inl ⟨by rfl, ?_⟩) ?_ ?_
      rotate_left
      ·intro w'
       go_simp
       with_reducible rfl
      rotate_left
      ·simp only [Act.put, List.setIfInBounds_toArray, List.set_cons_zero, List.set_cons_succ]
       rfl
      refine last_ (i := 8) (N := none) #[true, true, true, true, true, true, true, true, true] rfl rfl (by kernel_rfl) (by decide) (fun K hK => ?_)
      rw [if_pos (by rfl)]
      have HK := Aside0.mk hK.out
      clear hK
      unfold Oper.wp
      go_simp
      refine HK.out _ _ ?_
      clear HK K
      refine done_ (by kernel_rfl) ?_
      obtain ⟨W5, hW5⟩ : ∃ W5, w4.setCell ⟨bo, 0, none⟩ (.slice Av1 ln cv1) = W5 := ⟨_, rfl⟩
      have HBK5 := Aside0.mk (show Blk W5 bo #[.slice Av1 ln cv1, .bool true] 110 by rw [← hW5]; exact HB4.out.set 0 _)
      have HOW5 := Aside0.mk (show Kd.R (Kd.int .i64) 3 W5 N1 (fun j => j ≠ bo) (.slice Av1 ln cv1) (own ++ x) by rw [← hW5]; exact Kd.R_far HO4.out (fun k hk => hk) _)
      have hk5 : ∀ j, j < N1 → W5.heap[j]? = W3.heap[j]? := fun j hj => by rw [← hW5]; exact (Below.heap_setCell _ _ _ _ (by have := HBO.out; simp only; omega)).trans (HBE4.out.block j hj)
      have HRE5 := Aside0.mk (show Rest g wo W5 from ⟨by rw [← hW5]; exact HBE4.out.os.trans HRE4.out.os, by rw [← hW5]; exact HBE4.out.tape.trans HRE4.out.tape, by rw [← hW5]; exact HBE4.out.output.trans HRE4.out.output, by rw [← hW5]; simpa [World.setCell] using Nat.le_trans HRE4.out.size HBE4.out.size, fun j hj hg => (hk5 j (by have := HN1.out; omega)).trans (HRE4.out.other j hj hg)⟩)
      have HCR5 := Aside0.mk (HCR4.out.keep (W' := W5) (by have := HLT.out; omega) (fun j hj => hk5 j (by have := HNN.out; omega)))
      have HDEL := Aside0.mk (HCR5.out.del k (by rw [HN2.out.1]; exact hkl))
      rw [HN2.out.1] at HDEL
      try rw [hW5]
      clear hW5 o04 p04 hk5
      go_wp2_with (go_at_call 96; refine stopper ?_)
      try unfold Hold
      refine HDEL.out.mono ?_
      rintro e w6 ⟨rfl, hcr6, hre6⟩
      have HCR6 := Aside0.mk hcr6
      have HRE6 := Aside0.mk hre6
      clear hcr6 hre6
      go_wp2
      go_roundw
      case rel =>
       have herase := HT2.out.erase k (by rw [HN2.out.1]; exact hkl)
       rw [HX.out, HXN.out] at herase
       have hxm := HT2.out.mem _ (getD_mem (z := []) (show k < cs2.length by rw [HN2.out.1]; exact hkl))
       rw [HX.out] at hxm
       have hlen : (own ++ x).length = on + xn := by rw [List.length_append, HON.out, HXN.out]
       have hbo6 : w6.heap[bo]? = W5.heap[bo]? := HRE6.out.other bo HBK5.out.lt HNE.out
       refine ⟨cs2.eraseIdx k, n2 - 1, _, cap2, own ++ x, Av1, cv1, true, rfl, ⟨by rw [List.length_eraseIdx_of_lt (by rw [HN2.out.1];exact hkl), HN2.out.1], by have := HN2.out.2;omega⟩, HCR6, ⟨by rw [HLN.out];exact hbo6.trans HBK5.out⟩, ⟨by rw [HLN.out];exact Kd.R_step (Kd.R_mono (ok' := fun j => j ≠ bo ∧ j ≠ g) (Kd.R_bound HOW5.out) (fun j hj => ⟨hj.1, by have := hj.2.1;have := HNN.out;have := HLT.out;omega⟩)) (fun j hj hl => HRE6.out.other j hl hj.2) |> fun h => Kd.R_mono h (fun j hj => hj.1)⟩, ⟨HRE5.out.trans HRE6.out⟩, ⟨?_⟩, ⟨by rw [hlen, ← Nat.sub_sub, ← HON.out];exact herase.1⟩, ⟨by rw [hlen];have := HOM.out.1;have := HON.out;have := herase.2;omega, fun y hy => by
        rcases List.mem_append.1 hy with hy | hy
        ·exact HOM.out.2 y hy
        ·exact hxm y hy⟩⟩
       have h := growF_step (bad := true) (p := n2 - 1) HIX2.out
       rw [HX.out, HXN.out, show n2 - 1 + 1 = n2 by omega, HGR.out] at h
       rw [h]
       congr 2
       first | done | (rw [Bool.false_or]; exact decide_eq_decide.2 (by omega)) | rfl
      case measure =>
       simp [sliceLen]
       omega
end Go.Proofs.Ytepjhdblmghckaa.G


namespace Go.Proofs.Ytepjhdblmghckaa.G
open Go.Proofs.Ytepjhdblmghckaa.Q Go.Proofs.Ytepjhdblmghckaa.K Go.Proofs.Ytepjhdblmghckaa.Bf
open Go.RowKit Go.Shelf Go.Proofs.YtepjhdblmghckaaW.PrintWords Go.Proofs.YtepjhdblmghckaaW.PrintLast Go.Proofs.YtepjhdblmghckaaW.PrintMore
set_option linter.unusedVariables false
abbrev Im := Int → Option Int
def Im.put (M : Im) (x v : Int) : Im := fun y => if y = x then some v else M y
theorem law3 : Go.Maps.Keyed Try.prog 3 := Go.Maps.int_keyed Try.underlying3
theorem u129 : Try.prog.underlying 129 = some (.map 3 3) := by kernel_rfl
def Sm (x : Int) : Prop := -1000000000 ≤ x ∧ x ≤ 1000000000
theorem Sm.wf {x : Int} (h : Sm x) : (Lit.int .i64 x).wf = true := by
 have e1 : IntKind.i64.min = -9223372036854775808 := by decide
 have e2 : IntKind.i64.max = 9223372036854775807 := by decide
 obtain ⟨h1, h2⟩ := h
 simp only [Lit.wf, e1, e2, Bool.and_eq_true, decide_eq_true_eq]
 omega
theorem Sm.key {x : Int} (h : Sm x) : keyOf Try.prog 3 (.int .i64 x) = some (.int .i64 x) := Go.Maps.keyOf_int_mk Try.underlying3 h.wf
def Wi (W : World) (b k : Nat) (M : Im) : Prop :=
 ∃ D : DataW Unit, W.ownsMap Try.prog 3 (plainElem Try.prog 3) b k D ∧ Go.Maps.IsMap D ∧
  ∀ x, Sm x → Go.Maps.has D (.int .i64 x) = (M x).isSome ∧ D.atKey (.int .i64 x) (.lit (.int .i64 0)) = .lit (.int .i64 ((M x).getD 0))
theorem Wi.made (W : World) : Wi (W.alloc (.map #[] 0)) W.heap.size 0 (fun _ => none) := by
 refine ⟨.map [], World.ownsMap_made W Try.prog 3 _, Go.Maps.isMap_empty, fun l hl => ⟨rfl, ?_⟩⟩
 rw [Go.Maps.atKey_of_not_has (by rfl)]
 rfl
theorem Wi.lt {W : World} {b k : Nat} {M : Im} (h : Wi W b k M) : b < W.heap.size := by
 obtain ⟨D, h1, _⟩ := h; exact h1.lt
theorem Wi.mapsTo {W W' : World} {b k : Nat} {M : Im} (h : Wi W b k M) (hb : W'.heap[b]? = W.heap[b]?) : Wi W' b k M := by
 obtain ⟨D, ⟨es, clock, h1, h2⟩, h3⟩ := h
 exact ⟨D, ⟨es, clock, hb.trans h1, h2⟩, h3⟩
theorem Wi.below {W W' : World} {b k : Nat} {M : Im} (h : Wi W b k M) (hb : Below W.heap.size W W') : Wi W' b k M := h.mapsTo (hb.block b h.lt)
theorem Wi.mono {W : World} {b k k' : Nat} {M : Im} (h : Wi W b k M) (hk : k ≤ k') : Wi W b k' M := by
 obtain ⟨D, h1, h2⟩ := h; exact ⟨D, h1.mono hk, h2⟩
theorem Wi.look_ok {W : World} {b k : Nat} {M : Im} (h : Wi W b k M) {x : Int} (hx : Sm x) :
  (Instr.lookup 129 (.map (some b)) (.int .i64 x) true).run Try.prog W = .ok (.tuple #[.int .i64 ((M x).getD 0), .bool (M x).isSome]) W := by
 obtain ⟨D, h1, h2, h3⟩ := h
 obtain ⟨v, ps, hrun, hat⟩ := h1.look_ok law3 u129 (Try.zeroValue3 W) (show plainElem Try.prog 3 (.int .i64 0) = some (.lit (.int .i64 0), []) from plainElem_int Try.underlying3 (show (Lit.int .i64 0).wf = true from Sm.wf ⟨by omega, by omega⟩)) hx.key
 rw [hrun, (h3 x hx).1]
 rw [(h3 x hx).2] at hat
 obtain ⟨a, rfl, hz, _⟩ := plainElem_int_inv Try.underlying3 hat
 simp only [Prod.mk.injEq, DataW.lit.injEq, Lit.int.injEq, true_and] at hz
 rw [hz.1]
theorem Wi.put {W : World} {b k : Nat} {M : Im} (h : Wi W b k M) {x v : Int} (hx : Sm x) (hv : Sm v) (hk : k < 1000000000000) :
  ∃ W', (Instr.mapUpdate 129 (.map (some b)) (.int .i64 x) (.int .i64 v)).run Try.prog W = .ok () W' ∧ Wi W' b (k + 1) (M.put x v) ∧ W.grownBy W' (some b) := by
 obtain ⟨D, h1, h2, h3⟩ := h
 have hkm : k < maxLen := by unfold maxLen; omega
 have hkey := hx.key
 obtain ⟨W', hrun, ho, hg⟩ := h1.update law3 u129 hkm hkey (plainElem_int Try.underlying3 hv.wf)
 refine ⟨W', hrun, ⟨_, ho, h2.put _ _, fun y hy => ?_⟩, hg⟩
 by_cases e' : y = x
 ·subst e'
  have e : M.put y v y = some v := by unfold Im.put; rw [if_pos rfl]
  rw [e]
  exact ⟨Go.Maps.has_put_same h2 (law3.key hkey) _, Go.Maps.atKey_put_same h2 (law3.key hkey) _ _⟩
 ·have e : M.put x v y = M y := by unfold Im.put; rw [if_neg e']
  have hne : (Lit.int .i64 y) ≠ (Lit.int .i64 x) := fun h => e' (by injection h)
  rw [e, Go.Maps.has_put_other hne, Go.Maps.atKey_put_other hne]
  exact h3 y hy
def lineTo (M : Im) (i : Int) (xs : List Int) : Im := xs.foldl (fun M x => (M.put (2 * x) i).put (2 * x + 1) i) M
def whoStep (l : List Cmp) (wo : Int) (M : Im) (i : Nat) : Im := if (l.getD i ([], false)).2 = true ∧ (i : Int) ≠ wo then lineTo M (i : Int) (l.getD i ([], false)).1 else M
def whoTo (l : List Cmp) (wo : Int) (k : Nat) : Im := (List.range k).foldl (whoStep l wo) (fun _ => none)
def rowStep (M : Im) (row : List Int) (x : Int) : List Int := match M x with
 | none => row
 | some i => if row.getLast? = some i then row else row ++ [i]
def rowTo (M : Im) (p : List Int) (k : Nat) : List Int := (p.take k).foldl (rowStep M) []
def rowCut (row : List Int) : List Int := if 1 < row.length ∧ nth row 0 = nth row (row.length - 1) then row.tail else row
def outTo (row : List Int) (n k : Nat) : List Bool := (row.take k).foldl (fun out i => out.set i.toNat (decide (row.count i = 1))) (List.replicate n false)
def hurdF (p : List Int) (l : List Cmp) (wo : Int) : List Bool := outTo (rowCut (rowTo (whoTo l wo l.length) p p.length)) l.length (rowCut (rowTo (whoTo l wo l.length) p p.length)).length
theorem lineTo_snoc (M : Im) (i : Int) (xs : List Int) (x : Int) : lineTo M i (xs ++ [x]) = ((lineTo M i xs).put (2 * x) i).put (2 * x + 1) i := by
 unfold lineTo; rw [List.foldl_append]; rfl
theorem lineTo_take (M : Im) (i : Int) (xs : List Int) (j : Nat) (hj : j < xs.length) : lineTo M i (xs.take (j + 1)) = ((lineTo M i (xs.take j)).put (2 * nth xs j) i).put (2 * nth xs j + 1) i := by
 rw [List.take_succ_eq_append_getElem hj, lineTo_snoc]
 simp [nth, hj]
theorem whoTo_step (l : List Cmp) (wo : Int) (k : Nat) : whoTo l wo (k + 1) = whoStep l wo (whoTo l wo k) k := by
 unfold whoTo; rw [List.range_succ, List.foldl_append]; rfl
theorem rowTo_step (M : Im) (p : List Int) (k : Nat) (hk : k < p.length) : rowTo M p (k + 1) = rowStep M (rowTo M p k) (nth p k) := by
 unfold rowTo
 rw [List.take_succ_eq_append_getElem hk, List.foldl_append]
 simp [nth, hk]
theorem rowTo_len (M : Im) (p : List Int) (k : Nat) : (rowTo M p k).length ≤ k := by
 induction k with
 | zero => simp [rowTo]
 | succ k ih =>
  by_cases hk : k < p.length
  ·rw [rowTo_step _ _ _ hk]
   unfold rowStep
   split
   ·omega
   ·split
    ·omega
    ·simp; omega
  ·have : rowTo M p (k + 1) = rowTo M p k := by unfold rowTo; rw [List.take_of_length_le (by omega), List.take_of_length_le (by omega)]
   rw [this]; omega
def Im.In (M : Im) (n : Nat) : Prop := ∀ x v, M x = some v → 0 ≤ v ∧ v < (n : Int)
theorem Im.In.put {M : Im} {n : Nat} (h : M.In n) {x v : Int} (hv : 0 ≤ v ∧ v < (n : Int)) : (M.put x v).In n := fun y z hy => by
 unfold Im.put at hy
 split at hy
 ·cases hy; exact hv
 ·exact h y z hy
theorem lineTo_in {M : Im} {n : Nat} (h : M.In n) {i : Int} (hi : 0 ≤ i ∧ i < (n : Int)) (xs : List Int) : (lineTo M i xs).In n := by
 induction xs generalizing M with
 | nil => exact h
 | cons x xs ih => exact ih ((h.put hi).put hi)
theorem whoTo_in (l : List Cmp) (wo : Int) (k : Nat) (hk : k ≤ l.length) : (whoTo l wo k).In l.length := by
 induction k with
 | zero => intro x v h; cases h
 | succ k ih =>
  rw [whoTo_step]
  unfold whoStep
  split
  ·exact lineTo_in (ih (by omega)) (by omega) _
  ·exact ih (by omega)
theorem rowTo_in {M : Im} {n : Nat} (h : M.In n) (p : List Int) (k : Nat) : ∀ i, i ∈ rowTo M p k → 0 ≤ i ∧ i < (n : Int) := by
 induction k with
 | zero => intro i hi; simp [rowTo] at hi
 | succ k ih =>
  by_cases hk : k < p.length
  ·rw [rowTo_step _ _ _ hk]
   unfold rowStep
   intro i hi
   split at hi
   ·exact ih i hi
   ·rename_i v hv
    split at hi
    ·exact ih i hi
    ·rcases List.mem_append.1 hi with hi | hi
     ·exact ih i hi
     ·rw [List.mem_singleton] at hi
      subst hi
      exact h _ _ hv
  ·have : rowTo M p (k + 1) = rowTo M p k := by unfold rowTo; rw [List.take_of_length_le (by omega), List.take_of_length_le (by omega)]
   rw [this]; exact ih
theorem outTo_len (row : List Int) (n k : Nat) : (outTo row n k).length = n := by
 induction k with
 | zero => simp [outTo]
 | succ k ih =>
  by_cases hk : k < row.length
  ·unfold outTo at ih ⊢
   rw [List.take_succ_eq_append_getElem hk, List.foldl_append]
   simp only [List.foldl_cons, List.foldl_nil, List.length_set]
   exact ih
  ·unfold outTo at ih ⊢
   rw [List.take_of_length_le (by omega)] at ih ⊢
   exact ih
theorem outTo_step (row : List Int) (n k : Nat) (hk : k < row.length) : outTo row n (k + 1) = (outTo row n k).set (nth row k).toNat (decide (row.count (nth row k) = 1)) := by
 unfold outTo
 rw [List.take_succ_eq_append_getElem hk, List.foldl_append]
 simp [nth, hk]
end Go.Proofs.Ytepjhdblmghckaa.G
