/- What the search finds; the worst stack. -/
import Derived.Test.YtbadfjogakhhbaaDoorPc
import Derived.Test.YtbadfjogakhhbaaDoorPb
import Derived.Maps.Range
namespace Go.Proofs.YtbadfjogakhhbaaDoor.G
open Go.Proofs.YtbadfjogakhhbaaDoor.Q Go.Proofs.YtbadfjogakhhbaaDoor.K Go.Proofs.YtbadfjogakhhbaaDoor.It Go.Proofs.YtbadfjogakhhbaaDoor.Bf
open Go.RowKit Go.Shelf Go.Proofs.YtbadfjogakhhbaaDoorW.PrintWords Go.Proofs.YtbadfjogakhhbaaDoorW.PrintLast Go.Proofs.YtbadfjogakhhbaaDoorW.PrintMore
set_option linter.unusedVariables false
set_option linter.unusedSimpArgs false
attribute [local go_sem] Oper.semAt_some
def unscope : Code → Code
  | .scope c => c
  | c => c
noncomputable def bodyC : Code := unscope (sndC (codeOf Tryd.f43))
theorem all_eq : codeOf Tryd.f43 = .seq (fstC (codeOf Tryd.f43)) (.scope (.seq (fstC bodyC) (.seq (fstC (dropC 1 bodyC)) (.seq (.label 0) (.seq (.block 0 (.loop roundC)) (dropC 4 bodyC)))))) := by kernel_rfl
theorem Kn.put_size {W W' : World} {b k n : Nat} {M : Km} (h : Kn W b k n M) {l : List Int} (hl : Vs n l) (e : St3) (hk : k < 1000000000)
    (hrun : (Instr.mapUpdate 93 (.map (some b)) (.agg (stk (nth l))) (stepE e)).run Tryd.prog W = .ok () W') : W'.heap.size = W.heap.size := by
  obtain ⟨D, ⟨es, clock, hb, F, hs, rfl⟩, h2, h3, h4⟩ := h
  obtain ⟨es', clock', hrun2, F', hput, _⟩ := Maps.fit_store (R' := stepR) law92 u116 hb F (Nat.lt_of_le_of_lt hs (show k < maxLen by unfold maxLen; omega)) (fun _ _ _ _ hz => hz) (key_KL hl) (stepR_E e)
  have := hrun.symm.trans hrun2
  rw [(Result.ok.inj this).2]
  simp [Go.ChangeMaps.setBlock]
theorem leaves_marks2 {R : Ending → World → Prop} {f : Func} {tmps : Array Value} (B N : Nat) : ∀ (rs : List Nat) (W : World), Mk B rs W → B ≤ W.heap.size → (∀ W', Below B W W' → (∀ j : Nat, (∀ t : Option (List Deferred), W.heap[j]? ≠ some (Obj.deferred t)) → W'.heap[j]? = W.heap[j]?) → LeavesIn Fence.wide N Tryd.prog f tmps R [] .returning W') → LeavesInM Fence.wide N Tryd.prog f tmps R (rs.map mark) .returning W
  | [], W, _, _, h => h W (Below.refl _ _) (fun _ _ => rfl)
  | r :: rs, W, hM, hB, h => by
    obtain ⟨hnd, hall⟩ := hM
    obtain ⟨hr, hrs⟩ := List.nodup_cons.1 hnd
    have h1 := hall r (by simp)
    refine ⟨by simp, .inl ⟨r, _, rfl, run_takeDeferred h1.2, ?_⟩⟩
    have hbel : Below B W (W.putObj r (.deferred none)) := ⟨rfl, rfl, rfl, by simp, fun k hk => World.putObj_heap_other (by omega)⟩
    have hoth : ∀ j, (∀ t : Option (List Deferred), W.heap[j]? ≠ some (Obj.deferred t)) → (W.putObj r (.deferred none)).heap[j]? = W.heap[j]? := fun j hj => World.putObj_heap_other (fun e => by first | exact hj _ (e ▸ h1.2) | exact hj _ (e.symm ▸ h1.2))
    refine leaves_marks2 B N rs _ ⟨hrs, fun x hx => ?_⟩ (by simpa using hB) (fun W' hW' ho => h W' (hbel.trans hW') (fun j hj => (ho j (fun t => by rw [hoth j hj]; exact hj t)).trans (hoth j hj)))
    have h2 := hall x (List.mem_cons_of_mem _ hx)
    exact ⟨h2.1, (World.putObj_heap_other (fun e => hr (by first | (rw [← e]; exact hx) | (rw [e]; exact hx)))).trans h2.2⟩
set_option maxRecDepth 100000 in
set_option maxHeartbeats 4000000 in
theorem search_out (n : Nat) (sg an : Bool) (to_ : List Int) (U : Option (List Int)) (uv : Value) (W0 W : World) (rs : List Nat) (hM : Mk W0.heap.size rs W) (h : Fin n sg an to_ U W0 W) (x0 x1 x4 x5 x6 x9 x10 x11 x12 x13 x14 x15 x16 x17 x18 x19 x20 x21 x22 x23 x24 x25 x26 x27 x28 x29 x30 x31 x32 x33 x34 x35 x36 x37 x38 x39 x40 x41 x42 x43 x44 x45 x46 x47 x48 x49 x50 x51 x52 x53 x54 x55 x56 x57 x58 x59 x60 x61 x62 x63 : Value) (R : Ending → World → Prop)
    (hR : ∀ W', Fin n sg an to_ U W0 W' → R (.returned (.map (some (W0.heap.size + 2)))) W') :
    (dropC 4 bodyC).wpIn Fence.wide 8 Tryd.prog (bodyPostM Fence.wide 8 Tryd.prog Tryd.f43 R) { tmps := #[x0, x1, uv, Value.pointer (some { block := W0.heap.size, off := 0 }), x4, x5, x6, Value.pointer (some { block := W0.heap.size + 3, off := 0 }), Value.pointer (some { block := W0.heap.size + 5, off := 0 }), x9, x10, x11, x12, x13, x14, x15, x16, x17, x18, x19, x20, x21, x22, x23, x24, x25, x26, x27, x28, x29, x30, x31, x32, x33, x34, x35, x36, x37, x38, x39, x40, x41, x42, x43, x44, x45, x46, x47, x48, x49, x50, x51, x52, x53, x54, x55, x56, x57, x58, x59, x60, x61, x62, x63], defers := rs.map mark } W := by
  obtain ⟨c0, hc0⟩ : ∃ c0, dropC 4 bodyC = c0 := ⟨_, rfl⟩
  rw [hc0]
  simp only [bodyC, unscope, dropC, codeOf, Tryd.f43, sndC, fstC] at hc0
  subst hc0
  obtain ⟨M, k, L, hF, hk, h7, hb⟩ := h
  have hc7 := h7.cell 0 (v := .map (some (W0.heap.size + 2))) rfl
  have HM := Aside0.mk hM
  have HR := Aside0.mk hR
  have HB := Aside0.mk hb
  have HF := Aside0.mk hF
  have HKN := Aside0.mk hk
  have H7 := Aside0.mk h7
  clear hM hR hb hF hk h7
  gi_wp2
  have hlt := H7.out.lt
  refine leaves_marks2 W0.heap.size 8 rs W HM.out (by omega) (fun W' hW' ho => ?_)
  refine ⟨_, results_tmp rfl _ _ _, ?_⟩
  exact HR.out W' ⟨M, k, L, HF.out, HKN.out.mapsTo (ho _ (fun t e => by obtain ⟨D, ⟨es, clock, h1, _⟩, _⟩ := HKN.out; rw [h1] at e; cases e)), (ho _ (fun t e => by have e2 := H7.out.symm.trans e; cases e2)).trans H7.out, HB.out.trans hW'⟩
set_option maxRecDepth 100000 in
set_option maxHeartbeats 8000000 in
theorem search_calls (n : Nat) (sg an : Bool) (hn : n ≤ 7) (to_ : List Int) (hto : Vs n to_) (U : Option (List Int)) (uv : Value) (W0 : World) (hU : Un n U uv W0) :
    Calls Tryd.prog 43 #[.agg #[.int .i64 n, .bool sg, .bool an], .agg (stk (nth to_)), uv] W0 fun e w' => e = .returned (.map (some (W0.heap.size + 2))) ∧ Fin n sg an to_ U W0 w' := by
  refine (callsIn_wide (n := 8)).1 ?_
  refine callsIn_of_wp_marks Tryd.func43 rfl trivial ?_ rfl
  obtain ⟨tm, htm⟩ : ∃ tm, nth to_ = tm := ⟨_, rfl⟩
  simp only [Tryd.ntmps43, List.size_toArray, List.length_cons, List.length_nil, Nat.reduceAdd, Nat.reduceSub, Array.replicate_succ, Array.replicate_zero, List.push_toArray, List.append_toArray, List.nil_append, List.cons_append, stk]
  change (codeOf Tryd.f43).wpIn _ _ _ _ _ _
  rw [all_eq, htm]
  obtain ⟨Wa, hWa⟩ : ∃ Wa, (W0.alloc (.cells #[.int .i64 n, .bool sg, .bool an] 47)).alloc (.cells (stk tm) 53) = Wa := ⟨_, rfl⟩
  have hsa : Wa.heap.size = W0.heap.size + 2 := by rw [← hWa]; simp
  have hba : Below W0.heap.size W0 Wa := by
    rw [← hWa]; exact ((Below.refl _ _).alloc (Nat.le_refl _) _).alloc (by simp) _
  have h3 : Blk Wa W0.heap.size #[.int .i64 n, .bool sg, .bool an] 47 := by
    rw [← hWa]; exact (Blk.new _ _ _).alloc _
  have h4 : Blk Wa (W0.heap.size + 1) (stk tm) 53 := by
    rw [← hWa]
    have := Blk.new (W0.alloc (.cells #[.int .i64 n, .bool sg, .bool an] 47)) (stk tm) 53
    rw [World.size_alloc] at this
    exact this
  have hWa' := hWa
  unfold stk at hWa'
  obtain ⟨W3, hput, hS3, hg3⟩ := (Kn.made Wa n).put hn hto zeroS (by omega)
  have hsE := (Kn.made Wa n).put_size hto zeroS (by omega) hput
  rw [World.size_alloc, hsa] at hsE
  have HSE := Aside0.mk hsE
  clear hsE
  rw [htm, hsa] at hput
  rw [hsa] at hS3 hg3
  unfold stk at hput
  simp only [stepE, zeroS, Int.natCast_zero] at hput
  have h33 : Blk W3 W0.heap.size #[.int .i64 n, .bool sg, .bool an] 47 := (h3.alloc _).grown hg3 (by simp)
  have h43 : Blk W3 (W0.heap.size + 1) (stk tm) 53 := (h4.alloc _).grown hg3 (by simp)
  have hb3 : Below W0.heap.size W0 W3 := (hba.alloc (by omega) _).grown hg3 (by simp; omega) (fun k e => by cases e; omega)
  have hs3 := hg3.size
  rw [World.size_alloc, hsa] at hs3
  have hlt3 := h33.lt
  have hlt4 := h43.lt
  refine wpIn_seq_k (fun K0 hK0 => ?_)
  obtain ⟨c0, hc0⟩ : ∃ c0, fstC (codeOf Tryd.f43) = c0 := ⟨_, rfl⟩
  rw [hc0]
  simp only [codeOf, Tryd.f43, fstC] at hc0
  subst hc0
  have HK0 := Aside0.mk hK0
  have HU := Aside0.mk hU
  have H33 := Aside0.mk h33
  have HB3 := Aside0.mk hb3
  have HS3 := Aside0.mk hS3
  have HTO := Aside0.mk hto
  have HTM := Aside0.mk htm
  obtain ⟨t0, t1, t2, t3, t4, t5, t6⟩ := stk_cells (h4.alloc (.map #[] 0))
  obtain ⟨q0, q1, q2, q3, q4, q5, q6⟩ := stk_cells h43
  clear hK0 hU h33 hb3 hS3 hto htm hba h3 h4 h43 hg3
  gi_wp2
  refine HK0.out _ _ ?_
  clear HK0
  refine wpIn_scope ?_
  obtain ⟨c1, hc1⟩ : ∃ c1, fstC bodyC = c1 := ⟨_, rfl⟩
  obtain ⟨c2, hc2⟩ : ∃ c2, fstC (dropC 1 bodyC) = c2 := ⟨_, rfl⟩
  rw [hc1, hc2]
  simp only [bodyC, unscope, dropC, codeOf, Tryd.f43, sndC, fstC] at hc1 hc2
  subst hc1
  subst hc2
  have hm := run_makeMap (P := Tryd.prog)
  refine wpIn_seq_k (fun K1 hK1 => ?_)
  have HK1 := Aside0.mk hK1
  clear hK1
  try rw [hWa']
  clear hWa hWa'
  gi_wp2
  refine HK1.out _ _ ?_
  clear HK1 hput
  refine wpIn_seq_k (fun K1 hK1 => ?_)
  have HK1 := Aside0.mk hK1
  clear hK1
  gi_wp2
  refine HK1.out _ _ ?_
  clear HK1
  refine wpIn_seq ?_
  refine wpIn_label ?_
  show (Code.seq (.block 0 (.loop roundC)) (dropC 4 bodyC)).wpIn _ _ _ _ _ _
  refine wpIn_seq ?_
  clear t0 t1 t2 t3 t4 t5 t6 q0 q1 q2 q3 q4 q5 q6 hm
  obtain ⟨Wx, hWx⟩ : ∃ Wx, W3.alloc (.cells #[.map (some (W0.heap.size + 2))] 93) = Wx := ⟨_, rfl⟩
  obtain ⟨Wy, hWy⟩ : ∃ Wy, Wx.alloc (.cells (stk tm) 53) = Wy := ⟨_, rfl⟩
  obtain ⟨Wc, hWc⟩ : ∃ Wc, Wy.alloc (.cells #[.slice (some ⟨W3.heap.size + 1, 0, none⟩) 1 1] 129) = Wc := ⟨_, rfl⟩
  have hsx : Wx.heap.size = W3.heap.size + 1 := by rw [← hWx]; simp
  have hsy : Wy.heap.size = W3.heap.size + 1 + 1 := by rw [← hWy]; simp [hsx]
  have hBc : Below W3.heap.size W3 Wc := by
    rw [← hWc, ← hWy, ← hWx]
    exact (((Below.refl _ _).alloc (Nat.le_refl _) _).alloc (by simp) _).alloc (by simp; omega) _
  have hn1 : Blk Wc W3.heap.size #[.map (some (W0.heap.size + 2))] 93 := by
    rw [← hWc, ← hWy, ← hWx]
    exact ((Blk.new _ _ _).alloc _).alloc _
  have hn2 : Blk Wc (W3.heap.size + 1) (stk tm) 53 := by
    have h1 := Blk.new Wx (stk tm) 53
    rw [hsx, hWy] at h1
    rw [← hWc]
    exact h1.alloc _
  have hn3 : Blk Wc (W3.heap.size + 1 + 1) #[.slice (some ⟨W3.heap.size + 1, 0, none⟩) 1 1] 129 := by
    have h1 := Blk.new Wy #[.slice (some ⟨W3.heap.size + 1, 0, none⟩) 1 1] 129
    rw [hsy, hWc] at h1
    exact h1
  have e1 := hWy
  unfold stk at e1
  rw [hWx, e1, hWc]
  have hsE := HSE.out
  simp only [hsE, Nat.add_assoc, Nat.reduceAdd] at hn1 hn2 hn3 ⊢
  refine search_loop n sg an hn to_ U uv W0 Wc HU.out ⟨_, Km.put (fun _ => none) to_ zeroS, [to_], [to_], .slice (some ⟨W0.heap.size + 4, 0, none⟩) 1 1, ⟨?_, ByOk.begin n sg an to_, rfl, HS3.out.mapsTo (hBc.block _ HS3.out.lt), ?_, hn3, hn1, H33.out.below hBc H33.out.lt, HB3.out.trans (hBc.mono (by omega)), ?_, Nat.le_refl _, Th.begin n sg an to_ U⟩⟩ _ _ _ _ _ _ _ _ _ _ _ _ _ _ _ _ _ _ _ _ _ _ _ _ _ _ _ _ _ _ _ _ _ _ _ _ _ _ _ _ _ _ _ _ _ _ _ _ _ _ _ _ _ _ _ _ _ _ _ _ _ ?_
  · have h := Rd.begin (next := nextK n sg an) (V := Vs n) HTO.out
    have e : Sof (Km.put (fun _ => none) to_ zeroS) = (fun x => if x = to_ then some 0 else none) := by
      funext x
      unfold Sof Km.put
      by_cases h : x = to_ <;> simp [h, zeroS]
    rw [e]; exact h
  · refine ⟨by simp [flat_len], .inr ⟨W0.heap.size + 4, 0, 1, stk tm, rfl, Nat.le_refl _, hn2, Nat.le_refl _, by unfold maxLen; omega, rfl, ?_⟩⟩
    rw [flat_cons, flat_nil, HTM.out]
    simp [stk]
  · intro x hx
    unfold Sof Km.put at hx
    by_cases h : x = to_
    · rw [h]; simp
    · rw [if_neg h] at hx; cases hx
  · intro W' rs x0 x1 x4 x5 x6 x9 x10 x11 x12 x13 x14 x15 x16 x17 x18 x19 x20 x21 x22 x23 x24 x25 x26 x27 x28 x29 x30 x31 x32 x33 x34 x35 x36 x37 x38 x39 x40 x41 x42 x43 x44 x45 x46 x47 x48 x49 x50 x51 x52 x53 x54 x55 x56 x57 x58 x59 x60 x61 x62 x63 hM hfin
    show (dropC 4 bodyC).wpIn _ _ _ _ _ _
    refine wpIn_mono (search_out n sg an to_ U uv W0 W' rs hM hfin _ _ _ _ _ _ _ _ _ _ _ _ _ _ _ _ _ _ _ _ _ _ _ _ _ _ _ _ _ _ _ _ _ _ _ _ _ _ _ _ _ _ _ _ _ _ _ _ _ _ _ _ _ _ _ _ _ _ _ _ (fun e w' => e = .returned (.map (some (W0.heap.size + 2))) ∧ Fin n sg an to_ U W0 w') ?_) ?_
    · exact fun W'' hW'' => ⟨rfl, hW''⟩
    · intro e a w h
      cases e <;> first | exact h | exact h.elim
end Go.Proofs.YtbadfjogakhhbaaDoor.G
namespace Go.Proofs.YtbadfjogakhhbaaDoor.G
open Go.Proofs.YtbadfjogakhhbaaDoor.Q Go.Proofs.YtbadfjogakhhbaaDoor.K
open Go.RowKit Go.Shelf Go.Proofs.YtbadfjogakhhbaaDoorW.PrintWords Go.Proofs.YtbadfjogakhhbaaDoorW.PrintLast Go.Proofs.YtbadfjogakhhbaaDoorW.PrintMore
set_option linter.unusedVariables false
theorem i8w {x : Int} (h : -7 ≤ x ∧ x ≤ 7) : IntKind.i8.wrap x = x := by
  rcases h with ⟨h1, h2⟩
  have h3 : x = -7 ∨ x = -6 ∨ x = -5 ∨ x = -4 ∨ x = -3 ∨ x = -2 ∨ x = -1 ∨ x = 0 ∨ x = 1 ∨ x = 2 ∨ x = 3 ∨ x = 4 ∨ x = 5 ∨ x = 6 ∨ x = 7 := by omega
  rcases h3 with rfl | rfl | rfl | rfl | rfl | rfl | rfl | rfl | rfl | rfl | rfl | rfl | rfl | rfl | rfl <;> rfl
/-- The first k of the numbers, the others 0. -/
def fst (m : Nat → Int) (k : Nat) : Nat → Int := fun p => if p < k then m p else 0
theorem fst_upd (m : Nat → Int) (k : Nat) : upd (fst m k) k (m k) = fst m (k + 1) := by
  funext p
  unfold upd fst
  by_cases h : p = k
  · subst h; simp
  · rw [if_neg h]
    by_cases h2 : p < k
    · rw [if_pos h2, if_pos (by omega)]
    · rw [if_neg h2, if_neg (by omega)]
theorem stk_set {W : World} {b t : Nat} {m : Nat → Int} (h : Blk W b (stk m) t) (p : Nat) (x : Int) (hp : p < 7) : Blk (W.setCell ⟨b, p, none⟩ (.int .i8 x)) b (stk (upd m p x)) t :=
  row_stk ((stk_row h).set p x hp) (by simp [stk_size])
theorem stk_sets {W : World} {b t : Nat} {m : Nat → Int} (h : Blk W b (stk m) t) (f : Nat → Int) : Blk (((((((W.setCell ⟨b, 0, none⟩ (.int .i8 (f 0))).setCell ⟨b, 1, none⟩ (.int .i8 (f 1))).setCell ⟨b, 2, none⟩ (.int .i8 (f 2))).setCell ⟨b, 3, none⟩ (.int .i8 (f 3))).setCell ⟨b, 4, none⟩ (.int .i8 (f 4))).setCell ⟨b, 5, none⟩ (.int .i8 (f 5))).setCell ⟨b, 6, none⟩ (.int .i8 (f 6))) b (stk f) t := by
  have h7 := ((((((h.set 0 (.int .i8 (f 0))).set 1 (.int .i8 (f 1))).set 2 (.int .i8 (f 2))).set 3 (.int .i8 (f 3))).set 4 (.int .i8 (f 4))).set 5 (.int .i8 (f 5))).set 6 (.int .i8 (f 6))
  simpa [stk] using h7
theorem stk_sets_below {B : Nat} {W0 W : World} {b : Nat} {f : Nat → Int} (h : Below B W0 W) (hb : B ≤ b) : Below B W0 (((((((W.setCell ⟨b, 0, none⟩ (.int .i8 (f 0))).setCell ⟨b, 1, none⟩ (.int .i8 (f 1))).setCell ⟨b, 2, none⟩ (.int .i8 (f 2))).setCell ⟨b, 3, none⟩ (.int .i8 (f 3))).setCell ⟨b, 4, none⟩ (.int .i8 (f 4))).setCell ⟨b, 5, none⟩ (.int .i8 (f 5))).setCell ⟨b, 6, none⟩ (.int .i8 (f 6))) :=
  (((((((h.setCell hb _).setCell hb _).setCell hb _).setCell hb _).setCell hb _).setCell hb _).setCell hb _)
theorem stk_congr {m m' : Nat → Int} (h : ∀ j, j < 7 → m j = m' j) : stk m = stk m' := stk_ext m' _ (stk_size m) (fun j hj => by rw [stk_get m j hj, h j hj])
set_option maxHeartbeats 4000000 in
theorem packed_calls (A : Option Addr) (c : Nat) (l : List Int) (w : World) (n : Nat) (hn : n ≤ 7) (hl : Vs n l) (hr : Kd.C (Kd.int .i64) w A l.length l) :
    Calls Tryd.prog 20 #[.slice A l.length c] w fun e w' => e = .returned (.agg (stk (nth l))) ∧ Below w.heap.size w w' := by
  obtain ⟨hlen, hb⟩ := hl
  have HC := Aside0.mk hr
  have HL := Aside0.mk hlen
  have HB := Aside0.mk hb
  rw [hlen]
  clear hr hlen hb
  go_enter Tryd.func20, Tryd.ntmps20
  go_upto_region 2 with fail
  obtain ⟨W0, hW0⟩ : ∃ W, (w.alloc (Obj.cells (stk (fun _ => 0)) 53)).alloc (Obj.cells (stk (fun _ => 0)) 53) = W := ⟨_, rfl⟩
  have HB0 := Aside0.mk (show Blk W0 w.heap.size (stk (fun _ => 0)) 53 by rw [← hW0]; exact (Blk.new w _ 53).alloc _)
  have HB1 := Aside0.mk (show Blk W0 (w.heap.size + 1) (stk (fst (nth l) 0)) 53 by
    rw [← hW0]
    have := Blk.new (w.alloc (Obj.cells (stk (fun _ => 0)) 53)) (stk (fun _ => 0)) 53
    rw [World.size_alloc] at this
    exact this)
  have HW0 := Aside0.mk (show Below w.heap.size w W0 by rw [← hW0]; exact ((Below.refl _ w).alloc (Nat.le_refl _) _).alloc (by simp) _)
  unfold stk at hW0
  try rw [hW0]
  clear hW0
  go_wp2
  go_loopw [8] (fun i wr => ∃ (k : Nat), k ≤ n ∧ i = .int .i64 (k : Int) ∧ Aside0 (Blk wr w.heap.size (stk (fun _ => 0)) 53) ∧ Aside0 (Blk wr (w.heap.size + 1) (stk (fst (nth l) k)) 53) ∧ Aside0 (Below w.heap.size w wr)) (fun i _ => n - (intOf i).toNat)
  case atStart => exact ⟨0, Nat.zero_le _, rfl, HB0, HB1, HW0⟩
  case round =>
    obtain ⟨k, hk, rfl, H0, H1, HW⟩ := hrel
    by_cases hlt : k < n
    · have hi0 : (0 : Int) ≤ (k : Int) := by omega
      have hi1 : (k : Int) < (n : Int) := by omega
      have h7 : (k : Int) < 7 := by omega
      obtain ⟨ad', e, hc⟩ := Kd.at_int (Kd.C_below HC.out HW.out) (k : Int) hi0 (by have := HL.out; omega)
      cases e
      rw [rd_nth, Int.toNat_natCast] at hc
      have hwx := i8w (HB.out k)
      have hg := H1.out.cell k (stk_get (fst (nth l) k) k (by omega))
      have hf := H1.out.free k
      have HU := Aside0.mk (fst_upd (nth l) k)
      have hwt : IntKind.i64.wrap ((k : Int) + 1) = ((k + 1 : Nat) : Int) := by rw [iw64 (by omega) (by omega)]; omega
      obtain ⟨x, hx⟩ : ∃ x, nth l k = x := ⟨_, rfl⟩
      rw [hx] at hc hwx HU
      clear hx
      go_wp2
      go_roundw
      case rel => exact ⟨k + 1, by omega, rfl, ⟨H0.out.setOther (by simp) _⟩, ⟨by rw [← HU.out]; exact stk_set H1.out k x (by omega)⟩, ⟨HW.out.setCell (by simp) _⟩⟩
      case measure => simp [intOf]; omega
    · have hi1 : ¬ (k : Int) < (n : Int) := by omega
      have hkn : k = n := by omega
      have HX := Aside0.mk (show stk (fst (nth l) k) = stk (nth l) from stk_congr (fun j hj => by
        unfold fst
        by_cases h : j < k
        · rw [if_pos h]
        · rw [if_neg h, nth_end]
          have := HL.out; omega))
      rw [HX.out] at H1
      clear hkn
      obtain ⟨tm, htm⟩ : ∃ tm, nth l = tm := ⟨_, rfl⟩
      rw [htm] at H1
      have HTM := Aside0.mk htm
      obtain ⟨t0, t1, t2, t3, t4, t5, t6⟩ := stk_cells H1.out
      obtain ⟨q0, q1, q2, q3, q4, q5, q6⟩ := stk_cells H0.out
      have f0 := H0.out.free 0
      have f1 := H0.out.free 1
      have f2 := H0.out.free 2
      have f3 := H0.out.free 3
      have f4 := H0.out.free 4
      have f5 := H0.out.free 5
      have f6 := H0.out.free 6
      clear HX htm
      go_wp2
      refine bodyPost_ret (results_cell_row rfl _ _ w.heap.size 53 (stk tm) (0, 0) _ rfl (stk_sets H0.out tm) u92 rfl (by kernel_rfl)) rfl ⟨by rw [HTM.out], stk_sets_below HW.out (Nat.le_refl _)⟩
/-- The numbers in order, the first n of them. -/
def upTo (n : Nat) : Nat → Int := fun p => if p < n then ((p + 1 : Nat) : Int) else 0
theorem upTo_step (k : Nat) : upd (upTo k) k ((k + 1 : Nat) : Int) = upTo (k + 1) := by
  funext p
  unfold upd upTo
  by_cases h : p = k
  · subst h; simp
  · rw [if_neg h]
    by_cases h2 : p < k
    · rw [if_pos h2, if_pos (by omega)]
    · rw [if_neg h2, if_neg (by omega)]
/-- The list 1, 2, .., n. -/
def firstL (n : Nat) : List Int := (List.range n).map (fun p => ((p + 1 : Nat) : Int))
theorem nth_firstL (n : Nat) : nth (firstL n) = upTo n := by
  funext p
  unfold nth firstL upTo
  by_cases h : p < n
  · simp [h]
  · simp [h]
theorem vs_firstL {n : Nat} (hn : n ≤ 7) : Vs n (firstL n) := by
  refine ⟨by simp [firstL], fun p => ?_⟩
  rw [nth_firstL]
  unfold upTo
  split <;> omega
set_option maxHeartbeats 4000000 in
theorem first_calls (n : Nat) (hn : n ≤ 7) (sg an : Bool) (w : World) :
    Calls Tryd.prog 44 #[.agg #[.int .i64 n, .bool sg, .bool an]] w fun e w' => e = .returned (.agg (stk (nth (firstL n)))) ∧ Below w.heap.size w w' := by
  rw [nth_firstL]
  go_enter Tryd.func44, Tryd.ntmps44
  go_upto_region 2 with fail
  obtain ⟨W0, hW0⟩ : ∃ W, ((w.alloc (Obj.cells #[.int .i64 n, .bool sg, .bool an] 47)).alloc (Obj.cells (stk (fun _ => 0)) 53)).alloc (Obj.cells (stk (fun _ => 0)) 53) = W := ⟨_, rfl⟩
  have HB0 := Aside0.mk (show Blk W0 (w.heap.size + 1) (stk (fun _ => 0)) 53 by
    rw [← hW0]
    have := (Blk.new (w.alloc (Obj.cells #[.int .i64 n, .bool sg, .bool an] 47)) (stk (fun _ => 0)) 53).alloc (Obj.cells (stk (fun _ => 0)) 53)
    rw [World.size_alloc] at this
    exact this)
  have HB1 := Aside0.mk (show Blk W0 (w.heap.size + 2) (stk (upTo 0)) 53 by
    rw [← hW0]
    have := Blk.new ((w.alloc (Obj.cells #[.int .i64 n, .bool sg, .bool an] 47)).alloc (Obj.cells (stk (fun _ => 0)) 53)) (stk (fun _ => 0)) 53
    rw [World.size_alloc, World.size_alloc] at this
    exact this)
  have HW0 := Aside0.mk (show Below w.heap.size w W0 by rw [← hW0]; exact (((Below.refl _ w).alloc (Nat.le_refl _) _).alloc (by simp) _).alloc (by simp; omega) _)
  have hc0 : W0.cell? ⟨w.heap.size, 0, none⟩ = some (.int .i64 n) := by
    have : Blk W0 w.heap.size #[.int .i64 n, .bool sg, .bool an] 47 := by
      rw [← hW0]; exact ((Blk.new w _ 47).alloc _).alloc _
    exact this.cell 0 rfl
  unfold stk at hW0
  try rw [hW0]
  clear hW0
  go_wp2
  go_loopw [7] (fun i wr => ∃ (k : Nat), k ≤ n ∧ i = .int .i64 (k : Int) ∧ Aside0 (Blk wr (w.heap.size + 1) (stk (fun _ => 0)) 53) ∧ Aside0 (Blk wr (w.heap.size + 2) (stk (upTo k)) 53) ∧ Aside0 (Below w.heap.size w wr)) (fun i _ => n - (intOf i).toNat)
  case atStart => exact ⟨0, Nat.zero_le _, rfl, HB0, HB1, HW0⟩
  case round =>
    obtain ⟨k, hk, rfl, H0, H1, HW⟩ := hrel
    by_cases hlt : k < n
    · have hi0 : (0 : Int) ≤ (k : Int) := by omega
      have hi1 : (k : Int) < (n : Int) := by omega
      have h7 : (k : Int) < 7 := by omega
      have hg := H1.out.cell k (stk_get (upTo k) k (by omega))
      have hf := H1.out.free k
      have HU := Aside0.mk (upTo_step k)
      have hwt : IntKind.i64.wrap ((k : Int) + 1) = ((k + 1 : Nat) : Int) := by rw [iw64 (by omega) (by omega)]; omega
      have hwx : IntKind.i8.wrap ((k + 1 : Nat) : Int) = ((k + 1 : Nat) : Int) := i8w (by omega)
      go_wp2
      go_roundw
      case rel => exact ⟨k + 1, by omega, rfl, ⟨H0.out.setOther (by simp) _⟩, ⟨by rw [← HU.out]; exact stk_set H1.out k _ (by omega)⟩, ⟨HW.out.setCell (by simp; omega) _⟩⟩
      case measure => simp [intOf]; omega
    · have hi1 : ¬ (k : Int) < (n : Int) := by omega
      have HKN := Aside0.mk (show k = n by omega)
      obtain ⟨tm, htm⟩ : ∃ tm, upTo k = tm := ⟨_, rfl⟩
      rw [htm] at H1
      have HTM := Aside0.mk htm
      obtain ⟨t0, t1, t2, t3, t4, t5, t6⟩ := stk_cells H1.out
      obtain ⟨q0, q1, q2, q3, q4, q5, q6⟩ := stk_cells H0.out
      have f0 := H0.out.free 0
      have f1 := H0.out.free 1
      have f2 := H0.out.free 2
      have f3 := H0.out.free 3
      have f4 := H0.out.free 4
      have f5 := H0.out.free 5
      have f6 := H0.out.free 6
      clear htm
      go_wp2
      refine bodyPost_ret (results_cell_row rfl _ _ (w.heap.size + 1) 53 (stk tm) (0, 0) _ rfl (stk_sets H0.out tm) u92 rfl (by kernel_rfl)) rfl ⟨by rw [← HTM.out, HKN.out], stk_sets_below HW.out (by omega)⟩
end Go.Proofs.YtbadfjogakhhbaaDoor.G
namespace Go.Proofs.YtbadfjogakhhbaaDoor.G
open Go.Proofs.YtbadfjogakhhbaaDoor.Q Go.Proofs.YtbadfjogakhhbaaDoor.K Go.Proofs.YtbadfjogakhhbaaDoor.Bf
open Go.RowKit Go.Shelf Go.Proofs.YtbadfjogakhhbaaDoorW.PrintWords Go.Proofs.YtbadfjogakhhbaaDoorW.PrintLast Go.Proofs.YtbadfjogakhhbaaDoorW.PrintMore
set_option linter.unusedVariables false
/-- The least number of moves from one stack to another one. -/
def gap (n : Nat) (sg : Bool) (a b : List Int) : Nat := least (nextK n sg false) a b (15 ^ n + 1)
theorem FinS.gap {n : Nat} {sg : Bool} {a b : List Int} {M : Km} {L : List (List Int)} (h : FinS n sg false a (some b) M L) : ((M b).getD zeroS).2 = gap n sg a b := by
  cases hb : M b with
  | some e =>
    have h1 := h.found b e.2 (by unfold Sof; rw [hb]; rfl)
    exact h1.symm
  | none =>
    rcases h.done with hd | ⟨u, hu, hm⟩
    · exact (least_none (hd b hb)).symm
    · cases hu
      rw [hb] at hm
      cases hm
theorem stepAgg (x : St3) : stepE x = .agg #[.int .i64 (x.1.1 : Int), .int .i64 (x.1.2 : Int), .int .i64 (x.2 : Int)] := rfl
set_option maxRecDepth 100000 in
set_option maxHeartbeats 4000000 in
theorem between_calls (n : Nat) (hn : n ≤ 7) (sg : Bool) (s t : List Int) (hs : Vs n s) (ht : Vs n t) (w : World) :
    Calls Tryd.prog 19 #[.agg #[.int .i64 n, .bool sg, .bool false], .agg (stk (nth s)), .agg (stk (nth t))] w fun e w' => e = .returned (.int .i64 (gap n sg t s : Nat)) ∧ Below w.heap.size w w' := by
  obtain ⟨sm, hsm⟩ : ∃ sm, nth s = sm := ⟨_, rfl⟩
  obtain ⟨tm, htm⟩ : ∃ tm, nth t = tm := ⟨_, rfl⟩
  obtain ⟨W0, hW0⟩ : ∃ W0, ((w.alloc (.cells #[.int .i64 n, .bool sg, .bool false] 47)).alloc (.cells (stk sm) 53)).alloc (.cells (stk tm) 53) = W0 := ⟨_, rfl⟩
  have hsz : W0.heap.size = w.heap.size + 3 := by rw [← hW0]; simp
  have hB : Below w.heap.size w W0 := by rw [← hW0]; exact (((Below.refl _ w).alloc (Nat.le_refl _) _).alloc (by simp) _).alloc (by simp; omega) _
  have h0 : Blk W0 w.heap.size #[.int .i64 n, .bool sg, .bool false] 47 := by
    rw [← hW0]; exact ((Blk.new _ _ _).alloc _).alloc _
  have h1 : Blk W0 (w.heap.size + 1) (stk sm) 53 := by
    rw [← hW0]
    have := (Blk.new (w.alloc (.cells #[.int .i64 n, .bool sg, .bool false] 47)) (stk sm) 53).alloc (.cells (stk tm) 53)
    rw [World.size_alloc] at this
    exact this
  have h2 : Blk W0 (w.heap.size + 2) (stk tm) 53 := by
    rw [← hW0]
    have := Blk.new ((w.alloc (.cells #[.int .i64 n, .bool sg, .bool false] 47)).alloc (.cells (stk sm) 53)) (stk tm) 53
    rw [World.size_alloc, World.size_alloc] at this
    exact this
  have HC := Aside0.mk (search_calls n sg false hn t ht (some s) (.pointer (some ⟨w.heap.size + 1, 0, none⟩)) W0.drew (.inr ⟨w.heap.size + 1, s, rfl, rfl, hs, by show w.heap.size + 1 < W0.heap.size; omega, by rw [hsm]; exact h1.drew⟩))
  rw [htm] at HC
  have k0 := h0.cell 0 (v := .int .i64 n) rfl
  have k1 := h0.cell 1 (v := .bool sg) rfl
  have k2 := h0.cell 2 (v := .bool false) rfl
  obtain ⟨t0, t1, t2, t3, t4, t5, t6⟩ := stk_cells h2
  obtain ⟨q0, q1, q2, q3, q4, q5, q6⟩ := stk_cells h1
  have HB := Aside0.mk hB
  have HS := Aside0.mk hs
  have H1 := Aside0.mk h1
  have HSZ := Aside0.mk hsz
  have HSM := Aside0.mk hsm
  unfold stk at hW0 HC
  rw [hsm, htm]
  unfold stk
  clear h0 h1 h2 hB hs ht hsz hsm htm
  go_enter Tryd.func19, Tryd.ntmps19
  go_upto_region 1 with fail
  try rw [hW0]
  clear hW0
  refine start_ (n := 7) (S := fun w' => w'.cell? ⟨w.heap.size, 0, none⟩ = some (.int .i64 (n : Int)) ∧ w'.cell? ⟨w.heap.size, 1, none⟩ = some (.bool sg) ∧ w'.cell? ⟨w.heap.size, 2, none⟩ = some (.bool false) ∧ w'.cell? ⟨w.heap.size + 2, 0, none⟩ = some (.int .i8 (tm 0)) ∧ w'.cell? ⟨w.heap.size + 2, 1, none⟩ = some (.int .i8 (tm 1)) ∧ w'.cell? ⟨w.heap.size + 2, 2, none⟩ = some (.int .i8 (tm 2)) ∧ w'.cell? ⟨w.heap.size + 2, 3, none⟩ = some (.int .i8 (tm 3)) ∧ w'.cell? ⟨w.heap.size + 2, 4, none⟩ = some (.int .i8 (tm 4)) ∧ w'.cell? ⟨w.heap.size + 2, 5, none⟩ = some (.int .i8 (tm 5)) ∧ w'.cell? ⟨w.heap.size + 2, 6, none⟩ = some (.int .i8 (tm 6)) ∧ w'.cell? ⟨w.heap.size + 1, 0, none⟩ = some (.int .i8 (sm 0)) ∧ w'.cell? ⟨w.heap.size + 1, 1, none⟩ = some (.int .i8 (sm 1)) ∧ w'.cell? ⟨w.heap.size + 1, 2, none⟩ = some (.int .i8 (sm 2)) ∧ w'.cell? ⟨w.heap.size + 1, 3, none⟩ = some (.int .i8 (sm 3)) ∧ w'.cell? ⟨w.heap.size + 1, 4, none⟩ = some (.int .i8 (sm 4)) ∧ w'.cell? ⟨w.heap.size + 1, 5, none⟩ = some (.int .i8 (sm 5)) ∧ w'.cell? ⟨w.heap.size + 1, 6, none⟩ = some (.int .i8 (sm 6))) (ds := [4]) #[false, false, false, false, false, false, false] (by kernel_rfl) rfl rfl ⟨k0, k1, k2, t0, t1, t2, t3, t4, t5, t6, q0, q1, q2, q3, q4, q5, q6⟩ (fun hHeld => ?_)
  refine take_ (i := 0) (N := (some 7)) (v := ?_) (a' := ?_) #[true, false, false, false, false, false, false] rfl rfl (by kernel_rfl) (fun _ _ _ h => h) (Or.inl ⟨by rfl, ?_⟩) hHeld ?_ ?_
  rotate_left
  · rintro w' ⟨s0, s1, s2, s3, s4, s5, s6, s7, s8, s9, s10, s11, s12, s13, s14, s15, s16⟩
    go_simp
    with_reducible rfl
  rotate_left
  · simp only [Act.put, List.setIfInBounds_toArray, List.set_cons_zero, List.set_cons_succ]
    rfl
  refine take_ (i := 1) (N := (some 8)) (v := ?_) (a' := ?_) #[true, true, false, false, false, false, false] rfl rfl (by kernel_rfl) (fun _ _ _ h => h) (Or.inl ⟨by rfl, ?_⟩) hHeld ?_ ?_
  rotate_left
  · rintro w' ⟨s0, s1, s2, s3, s4, s5, s6, s7, s8, s9, s10, s11, s12, s13, s14, s15, s16⟩
    go_simp
    with_reducible rfl
  rotate_left
  · simp only [Act.put, List.setIfInBounds_toArray, List.set_cons_zero, List.set_cons_succ]
    rfl
  refine take_ (i := 3) (N := (some 10)) (v := ?_) (a' := ?_) #[true, true, false, true, false, false, false] rfl rfl (by kernel_rfl) (fun _ _ _ h => h) (Or.inl ⟨by rfl, ?_⟩) hHeld ?_ ?_
  rotate_left
  · rintro w' ⟨s0, s1, s2, s3, s4, s5, s6, s7, s8, s9, s10, s11, s12, s13, s14, s15, s16⟩
    go_simp
    with_reducible rfl
  rotate_left
  · simp only [Act.put, List.setIfInBounds_toArray, List.set_cons_zero, List.set_cons_succ]
    rfl
  refine one_ (i := 2) (N := (some 9)) #[true, true, true, true, false, false, false] rfl rfl (by kernel_rfl) (by decide) (fun K hK => ?_)
  refine goes_ Tryd.func43 (by kernel_rfl) rfl #[.agg #[.int .i64 n, .bool sg, .bool false], .agg (stk tm), .pointer (some ⟨w.heap.size + 1, 0, none⟩)] (by rfl) rfl rfl (by (try simp only [List.map_toArray, List.map_cons, List.map_nil]); first | done | rfl) ?_
  refine HC.out.mono ?_
  rintro e w' ⟨rfl, M, k, L, hF, hk, h7, hb⟩
  have hl := hk.look HS.out
  have hg := hF.gap
  obtain ⟨x, hx⟩ : ∃ x, (M s).getD zeroS = x := ⟨_, rfl⟩
  rw [hx, HSM.out, stepAgg, show W0.drew.heap.size = W0.heap.size from rfl] at hl
  rw [hx] at hg
  have HG := Aside0.mk hg
  have HBW := Aside0.mk hb
  clear hg hb hx hF hk h7
  unfold stk at hl
  refine ⟨_, rfl, ?_⟩
  have hcc : ∀ (p : Addr) v, W0.drew.cell? p = some v → w'.cell? p = some v := fun p v hp => by rw [HBW.out.cell (p := p) (World.block_lt_of_cell? _ _ hp)]; exact hp
  refine hK.out _ _ ⟨hcc _ _ hHeld.1, hcc _ _ hHeld.2.1, hcc _ _ hHeld.2.2.1, hcc _ _ hHeld.2.2.2.1, hcc _ _ hHeld.2.2.2.2.1, hcc _ _ hHeld.2.2.2.2.2.1, hcc _ _ hHeld.2.2.2.2.2.2.1, hcc _ _ hHeld.2.2.2.2.2.2.2.1, hcc _ _ hHeld.2.2.2.2.2.2.2.2.1, hcc _ _ hHeld.2.2.2.2.2.2.2.2.2.1, hcc _ _ hHeld.2.2.2.2.2.2.2.2.2.2.1, hcc _ _ hHeld.2.2.2.2.2.2.2.2.2.2.2.1, hcc _ _ hHeld.2.2.2.2.2.2.2.2.2.2.2.2.1, hcc _ _ hHeld.2.2.2.2.2.2.2.2.2.2.2.2.2.1, hcc _ _ hHeld.2.2.2.2.2.2.2.2.2.2.2.2.2.2.1, hcc _ _ hHeld.2.2.2.2.2.2.2.2.2.2.2.2.2.2.2.1, hcc _ _ hHeld.2.2.2.2.2.2.2.2.2.2.2.2.2.2.2.2⟩ (fun hHeld => ?_)
  clear hcc hK K hHeld
  refine norm_ (a' := ?_) ?_ ?_
  rotate_left
  · show Act.put _ (some 9) _ = _
    simp only [Act.put, List.setIfInBounds_toArray, List.set_cons_zero, List.set_cons_succ]
    rfl
  refine last_ (i := 4) (N := (some 11)) #[true, true, true, true, true, false, false] rfl rfl (by kernel_rfl) (by decide) (fun K hK => ?_)
  rw [if_pos (by rfl)]
  have HK := Aside0.mk hK.out
  clear hK
  unfold Oper.wp
  go_simp
  refine HK.out _ _ ?_
  clear HK K
  have hfd := fun W => field115 (x.1.1 : Int) (x.1.2 : Int) (x.2 : Int) W
  refine pure_ (i := 5) (N := (some 12)) (v := ?_) (a' := ?_) #[true, true, true, true, true, true, false] rfl rfl (by kernel_rfl) (fun _ _ _ h => h) (Or.inl ⟨by rfl, ?_⟩) ?_ ?_
  rotate_left
  · intro w'
    go_simp
    with_reducible rfl
  rotate_left
  · simp only [Act.put, List.setIfInBounds_toArray, List.set_cons_zero, List.set_cons_succ]
    rfl
  refine pure_ (i := 6) (N := (some 6)) (v := ?_) (a' := ?_) #[true, true, true, true, true, true, true] rfl rfl (by kernel_rfl) (fun _ _ _ h => h) (Or.inl ⟨by rfl, ?_⟩) ?_ ?_
  rotate_left
  · intro w'
    go_simp
    with_reducible rfl
  rotate_left
  · simp only [Act.put, List.setIfInBounds_toArray, List.set_cons_zero, List.set_cons_succ]
    rfl
  refine done_ (by kernel_rfl) ?_
  go_wp2
  go_ret
  have hB := HB.out.drew
  exact ⟨by rw [← HG.out]; rfl, hB.trans (HBW.out.mono hB.size)⟩
end Go.Proofs.YtbadfjogakhhbaaDoor.G
namespace Go.Proofs.YtbadfjogakhhbaaDoor.G
open Go.Proofs.YtbadfjogakhhbaaDoor.Q Go.Proofs.YtbadfjogakhhbaaDoor.K Go.Proofs.YtbadfjogakhhbaaDoor.Bf
open Go.RowKit Go.Shelf Go.Proofs.YtbadfjogakhhbaaDoorW.PrintWords Go.Proofs.YtbadfjogakhhbaaDoorW.PrintLast Go.Proofs.YtbadfjogakhhbaaDoorW.PrintMore
set_option linter.unusedVariables false
/-- A range over the map in block b is under way; vis have been met. -/
def Rg (W : World) (b r k n : Nat) (M : Km) (vis : List (List Int)) (cnt : Nat) : Prop :=
  ∃ (D : DataW Unit) (left : Lit → Bool), W.ranges Tryd.prog 53 stepR b r k D left cnt ∧
    (∀ l, Vs n l → Go.Maps.has D (KL l) = (M l).isSome ∧ D.atKey (KL l) (stepD zeroS) = stepD ((M l).getD zeroS)) ∧
    (∀ kl, Go.Maps.has D kl = true → ∃ l, Vs n l ∧ kl = KL l) ∧
    (∀ l, Vs n l → left (KL l) = ((M l).isSome && !decide (l ∈ vis))) ∧ (∀ kl, left kl = true → Go.Maps.has D kl = true)
theorem Kn.range {W : World} {b k n : Nat} {M : Km} (h : Kn W b k n M) :
    ∃ W' cnt, (Instr.range 93 (.map (some b))).run Tryd.prog W = .ok (.pointer (some ⟨W.heap.size, 0, none⟩)) W' ∧ Rg W' b W.heap.size k n M [] cnt ∧ W.grownBy W' none ∧ W'.heap.size = W.heap.size + 1 := by
  obtain ⟨D, h1, h2, h3, h4⟩ := h
  obtain ⟨W', hrun, hr, hg, hs⟩ := h1.range law92 u116
  exact ⟨W', _, hrun, ⟨D, _, hr, h3, h4, fun l hl => by rw [(h3 l hl).1]; simp, fun kl h => h⟩, hg, hs⟩
theorem Rg.kept {W W' : World} {b r k n : Nat} {M : Km} {vis : List (List Int)} {cnt : Nat} {row : Option Nat} (h : Rg W b r k n M vis cnt) (hg : W.grownBy W' row) (hb : some b ≠ row) (hr : some r ≠ row) : Rg W' b r k n M vis cnt := by
  obtain ⟨D, left, h1, h2⟩ := h
  exact ⟨D, left, h1.kept hg hb hr, h2⟩
theorem Rg.lt {W : World} {b r k n : Nat} {M : Km} {vis : List (List Int)} {cnt : Nat} (h : Rg W b r k n M vis cnt) : r < W.heap.size ∧ b < W.heap.size ∧ W.rangeLeft b r = cnt ∧ r ≠ b := by
  obtain ⟨D, left, h1, h2⟩ := h
  exact ⟨h1.lt, h1.owns.lt, h1.left_eq, h1.ne⟩
theorem stepR_form {v : Value} {y : DataW Unit × List MemPlace} {x : St3} (h : stepR v = some y) (hy : y.1 = stepD x) : v = stepE x := by
  obtain ⟨y1, y2⟩ := y
  simp only at hy
  rw [hy] at h
  exact stepR_inv h
theorem Rg.next {W : World} {b r k n : Nat} {M : Km} {vis : List (List Int)} {cnt : Nat} (h : Rg W b r k n M vis cnt) (hn : n ≤ 7) :
    (cnt = 0 ∧ (∀ l, Vs n l → (M l).isSome = true → l ∈ vis) ∧ (Instr.next (.pointer (some ⟨r, 0, none⟩)) false 0).run Tryd.prog W = .ok (.tuple #[.bool false]) W) ∨
    ∃ l e key W' cnt', Vs n l ∧ M l = some e ∧ l ∉ vis ∧ (Instr.next (.pointer (some ⟨r, 0, none⟩)) false 0).run Tryd.prog W = .ok (.tuple #[.bool true, key, stepE e]) W' ∧
      Rg W' b r k n M (vis ++ [l]) cnt' ∧ cnt' < cnt ∧ W.grownBy W' (some r) ∧ W'.heap.size = W.heap.size ∧ (Instr.entry (.pointer (some ⟨r, 0, none⟩))).run Tryd.prog W' = .ok (.tuple #[key, stepE e]) W' := by
  obtain ⟨D, left, h1, h2, h3, h4, h5⟩ := h
  rcases h1.next law92 0 with ⟨hc, hno, hrun⟩ | ⟨key, v, kl, y, W', cnt', hkey, hl, hv, hat, hrun, hr', hlt, hg, hsz, hent⟩
  · refine .inl ⟨hc, fun l hl hs => ?_, hrun⟩
    have := h4 l hl
    rw [hno, hs] at this
    simpa using this.symm
  · obtain ⟨l, hvl, rfl⟩ := h3 kl (h5 kl hl)
    have hlf := h4 l hvl
    rw [hl] at hlf
    have hm : (M l).isSome = true ∧ l ∉ vis := by simpa using hlf.symm
    obtain ⟨e, he⟩ := Option.isSome_iff_exists.1 hm.1
    have hy : y.1 = stepD e := by
      rw [← hat (stepD zeroS), (h2 l hvl).2, he]; rfl
    obtain rfl := stepR_form hv hy
    refine .inr ⟨l, e, key, W', cnt', hvl, he, hm.2, hrun, ⟨D, _, hr', h2, h3, fun x hx => ?_, fun kl hkl => h5 kl (by simp only [Bool.and_eq_true] at hkl; exact hkl.1)⟩, hlt, hg, hsz, hent⟩
    rw [h4 x hx]
    by_cases ex : x = l
    · subst ex
      have : (KL x).sameKey (KL x) = true := WideAt.sameKey_self (KL_lit hx)
      simp [this]
    · have : (KL x).sameKey (KL l) = false := by
        cases hs : (KL x).sameKey (KL l)
        · rfl
        · exact absurd (KL_inj hx hvl hn (WideAt.sameKey_eq hs)) ex
      simp [this, ex]
/-- Each once. -/
def uniq : List (List Int) → List (List Int)
  | [] => []
  | a :: l => if a ∈ l then uniq l else a :: uniq l
theorem mem_uniq : ∀ (l : List (List Int)) (x : List Int), x ∈ uniq l ↔ x ∈ l
  | [], x => by simp [uniq]
  | a :: l, x => by
    unfold uniq
    split
    · rename_i h
      rw [mem_uniq l x, List.mem_cons]
      exact ⟨.inr, fun h' => h'.elim (fun e => e ▸ h) id⟩
    · rw [List.mem_cons, List.mem_cons, mem_uniq l x]
theorem uniq_nodup : ∀ l : List (List Int), (uniq l).Nodup
  | [] => by simp [uniq]
  | a :: l => by
    unfold uniq
    split
    · exact uniq_nodup l
    · rename_i h
      exact List.nodup_cons.2 ⟨fun h' => h ((mem_uniq l a).1 h'), uniq_nodup l⟩
/-- Those that can be brought into order. -/
def reach (n : Nat) (sg : Bool) : List (List Int) := uniq ((univ n).filter (fun x => decide (x ∈ ball (nextK n sg false) (firstL n) (15 ^ n))))
def mostOf (d : List Int → Nat) : List (List Int) → Nat
  | [] => 0
  | x :: l => max (d x) (mostOf d l)
/-- The greatest number of moves, and how many need it. -/
def wrst (n : Nat) (sg : Bool) : Nat × Nat :=
  let d := gap n sg (firstL n)
  (mostOf d (reach n sg), (reach n sg).countP (fun x => decide (d x = mostOf d (reach n sg))))
theorem mostOf_le (d : List Int → Nat) : ∀ (l : List (List Int)) (x : List Int), x ∈ l → d x ≤ mostOf d l
  | a :: l, x, h => by
    unfold mostOf
    rcases List.mem_cons.1 h with rfl | h
    · omega
    · have := mostOf_le d l x h; omega
theorem mostOf_at (d : List Int → Nat) : ∀ l : List (List Int), mostOf d l = 0 ∨ ∃ x, x ∈ l ∧ d x = mostOf d l
  | [] => .inl rfl
  | a :: l => by
    unfold mostOf
    rcases Nat.le_total (mostOf d l) (d a) with h | h
    · exact .inr ⟨a, by simp, by omega⟩
    · rcases mostOf_at d l with h1 | ⟨x, hx, h2⟩
      · exact .inl (by omega)
      · exact .inr ⟨x, List.mem_cons_of_mem _ hx, by omega⟩
/-- What the loop has reckoned. -/
structure Mo (d : List Int → Nat) (vis : List (List Int)) (a b : Nat) : Prop where
  le : ∀ x, x ∈ vis → d x ≤ a
  at_ : a = 0 ∨ ∃ x, x ∈ vis ∧ d x = a
  many : b = vis.countP (fun x => decide (d x = a))
theorem Mo.begin (d : List Int → Nat) : Mo d [] 0 0 := ⟨fun x h => (by cases h), .inl rfl, rfl⟩
theorem Mo.more {d : List Int → Nat} {vis : List (List Int)} {a b : Nat} (h : Mo d vis a b) {x : List Int} (hx : a < d x) : Mo d (vis ++ [x]) (d x) 1 := by
  refine ⟨fun y hy => ?_, .inr ⟨x, by simp, rfl⟩, ?_⟩
  · rcases List.mem_append.1 hy with hy | hy
    · have := h.le y hy; omega
    · simp at hy; subst hy; omega
  · rw [List.countP_append]
    have : vis.countP (fun y => decide (d y = d x)) = 0 := by
      rw [List.countP_eq_zero]
      intro y hy
      have := h.le y hy
      simp; omega
    rw [this]; simp
theorem Mo.same {d : List Int → Nat} {vis : List (List Int)} {a b : Nat} (h : Mo d vis a b) {x : List Int} (hx : d x = a) : Mo d (vis ++ [x]) a (b + 1) := by
  refine ⟨fun y hy => ?_, .inr ⟨x, by simp, hx⟩, ?_⟩
  · rcases List.mem_append.1 hy with hy | hy
    · exact h.le y hy
    · simp at hy; subst hy; omega
  · rw [List.countP_append, ← h.many]; simp [hx]
theorem Mo.less {d : List Int → Nat} {vis : List (List Int)} {a b : Nat} (h : Mo d vis a b) {x : List Int} (hx : d x < a) : Mo d (vis ++ [x]) a b := by
  refine ⟨fun y hy => ?_, ?_, ?_⟩
  · rcases List.mem_append.1 hy with hy | hy
    · exact h.le y hy
    · simp at hy; subst hy; omega
  · rcases h.at_ with h1 | ⟨y, hy, h2⟩
    · exact .inl h1
    · exact .inr ⟨y, by simp [hy], h2⟩
  · rw [List.countP_append, ← h.many]; simp; omega
theorem least_lt' {α : Type} [DecidableEq α] (next : α → List α) (s t : α) (N : Nat) : least next s t (N + 1) < N + 1 := by
  unfold least
  cases h : (List.range (N + 1)).find? (fun k => (ball next s k).contains t) with
  | none => simp
  | some j =>
    have := List.mem_of_find?_eq_some h
    simpa using this
theorem FinS.reached {n : Nat} {sg : Bool} {a : List Int} {M : Km} {L : List (List Int)} (h : FinS n sg false a none M L) (x : List Int) : (M x).isSome = true ↔ x ∈ ball (nextK n sg false) a (15 ^ n) := by
  constructor
  · intro hm
    obtain ⟨e, he⟩ := Option.isSome_iff_exists.1 hm
    have hs : Sof M x = some e.2 := by unfold Sof; rw [he]; rfl
    have h1 := h.exact x e.2 hs
    have h2 := h.found x e.2 hs
    have h3 := least_lt' (nextK n sg false) a x (15 ^ n)
    exact ball_mono (by omega) h1.1
  · intro hb
    cases hm : M x with
    | some e => rfl
    | none =>
      rcases h.done with hd | ⟨u, hu, _⟩
      · exact absurd hb (hd x hm _)
      · cases hu
theorem worst_of {n : Nat} {sg : Bool} {M : Km} {L vis : List (List Int)} {a b : Nat} (h : FinS n sg false (firstL n) none M L) (hv : vis.Nodup) (hvis : ∀ x, x ∈ vis ↔ (M x).isSome = true) (hM : Mo (G.gap n sg (firstL n)) vis a b) : wrst n sg = (a, b) := by
  have hmem : ∀ x, x ∈ reach n sg ↔ x ∈ vis := fun x => by
    unfold reach
    rw [mem_uniq, List.mem_filter, hvis, h.reached, decide_eq_true_eq]
    exact ⟨fun h => h.2, fun hb => ⟨univ_mem n x (h.valid x ((h.reached x).2 hb)), hb⟩⟩
  have hperm : (reach n sg).Perm vis := (List.perm_ext_iff_of_nodup (uniq_nodup _) hv).2 hmem
  have ha : mostOf (G.gap n sg (firstL n)) (reach n sg) = a := by
    apply Nat.le_antisymm
    · rcases mostOf_at (G.gap n sg (firstL n)) (reach n sg) with h0 | ⟨x, hx, hd⟩
      · omega
      · rw [← hd]; exact hM.le x ((hmem x).1 hx)
    · rcases hM.at_ with h0 | ⟨x, hx, hd⟩
      · omega
      · rw [← hd]; exact mostOf_le _ _ x ((hmem x).2 hx)
  unfold wrst
  simp only [ha]
  rw [hM.many, hperm.countP_eq]
theorem FinS.gapM {n : Nat} {sg : Bool} {a : List Int} {M : Km} {L : List (List Int)} {U : Option (List Int)} (h : FinS n sg false a U M L) {x : List Int} {e : St3} (he : M x = some e) : e.2 = Go.Proofs.YtbadfjogakhhbaaDoor.G.gap n sg a x :=
  (h.found x e.2 (by unfold Sof; rw [he]; rfl)).symm
end Go.Proofs.YtbadfjogakhhbaaDoor.G
namespace Go.Proofs.YtbadfjogakhhbaaDoor.G
open Go.Proofs.YtbadfjogakhhbaaDoor.Q Go.Proofs.YtbadfjogakhhbaaDoor.K Go.Proofs.YtbadfjogakhhbaaDoor.Bf
open Go.RowKit Go.Shelf Go.Proofs.YtbadfjogakhhbaaDoorW.PrintWords Go.Proofs.YtbadfjogakhhbaaDoorW.PrintLast Go.Proofs.YtbadfjogakhhbaaDoorW.PrintMore
set_option linter.unusedVariables false
theorem nodup_count {n : Nat} {M : Km} {vis L : List (List Int)} (hv : vis.Nodup) (hm : ∀ x, x ∈ vis → (M x).isSome = true) (hval : ∀ x, (M x).isSome = true → Vs n x) : vis.length ≤ 15 ^ n := vs_count hv (fun x hx => hval x (hm x hx))
set_option maxRecDepth 100000 in
set_option maxHeartbeats 8000000 in
theorem worst_calls (n : Nat) (hn : n ≤ 7) (sg : Bool) (w : World) :
    Calls Tryd.prog 17 #[.agg #[.int .i64 n, .bool sg, .bool false]] w fun e w' => e = .returned (.tuple #[.int .i64 ((wrst n sg).1 : Nat), .int .i64 ((wrst n sg).2 : Nat)]) ∧ Below w.heap.size w w' := by
  obtain ⟨W0, hW0⟩ : ∃ W0, w.alloc (.cells #[.int .i64 n, .bool sg, .bool false] 47) = W0 := ⟨_, rfl⟩
  have hB : Below w.heap.size w W0 := by rw [← hW0]; exact (Below.refl _ w).alloc (Nat.le_refl _) _
  have h0 : Blk W0 w.heap.size #[.int .i64 n, .bool sg, .bool false] 47 := by rw [← hW0]; exact Blk.new _ _ _
  have k0 := h0.cell 0 (v := .int .i64 n) rfl
  have k1 := h0.cell 1 (v := .bool sg) rfl
  have k2 := h0.cell 2 (v := .bool false) rfl
  clear h0
  go_enter Tryd.func17, Tryd.ntmps17
  go_upto_region 2 with fail
  try rw [hW0]
  clear hW0
  refine start_ (n := 5) (S := fun w' => w'.cell? ⟨w.heap.size, 0, none⟩ = some (.int .i64 (n : Int)) ∧ w'.cell? ⟨w.heap.size, 1, none⟩ = some (.bool sg) ∧ w'.cell? ⟨w.heap.size, 2, none⟩ = some (.bool false)) (ds := [4]) #[false, false, false, false, false] (by kernel_rfl) rfl rfl ⟨k0, k1, k2⟩ (fun hHeld => ?_)
  have HB0 := Aside0.mk hB.drew
  clear hB
  generalize W0.drew = Wd at hHeld HB0 ⊢
  clear k0 k1 k2
  refine take_ (i := 0) (N := (some 8)) (v := ?_) (a' := ?_) #[true, false, false, false, false] rfl rfl (by kernel_rfl) (fun _ _ _ h => h) (Or.inl ⟨by rfl, ?_⟩) hHeld ?_ ?_
  rotate_left
  · rintro w' ⟨s0, s1, s2⟩
    go_simp
    with_reducible rfl
  rotate_left
  · simp only [Act.put, List.setIfInBounds_toArray, List.set_cons_zero, List.set_cons_succ]
    rfl
  refine take_ (i := 1) (N := (some 9)) (v := ?_) (a' := ?_) #[true, true, false, false, false] rfl rfl (by kernel_rfl) (fun _ _ _ h => h) (Or.inl ⟨by rfl, ?_⟩) hHeld ?_ ?_
  rotate_left
  · rintro w' ⟨s0, s1, s2⟩
    go_simp
    with_reducible rfl
  rotate_left
  · simp only [Act.put, List.setIfInBounds_toArray, List.set_cons_zero, List.set_cons_succ]
    rfl
  refine one_ (i := 2) (N := (some 10)) #[true, true, true, false, false] rfl rfl (by kernel_rfl) (by decide) (fun K hK => ?_)
  refine goes_ Tryd.func44 (by kernel_rfl) rfl #[.agg #[.int .i64 n, .bool sg, .bool false]] (by rfl) rfl rfl (by (try simp only [List.map_toArray, List.map_cons, List.map_nil]); first | done | rfl) ?_
  refine (first_calls n hn sg false Wd).mono ?_
  rintro e w1 ⟨rfl, hb⟩
  refine ⟨_, rfl, ?_⟩
  obtain ⟨fm, hfm⟩ : ∃ fm, nth (firstL n) = fm := ⟨_, rfl⟩
  rw [hfm]
  have HFM := Aside0.mk hfm
  clear hfm
  have HB1 := Aside0.mk (HB0.out.trans (hb.mono HB0.out.size))
  have hcc : ∀ (p : Addr) v, Wd.cell? p = some v → w1.cell? p = some v := fun p v hp => by rw [hb.cell (p := p) (World.block_lt_of_cell? _ _ hp)]; exact hp
  refine hK.out _ _ ⟨hcc _ _ hHeld.1, hcc _ _ hHeld.2.1, hcc _ _ hHeld.2.2⟩ (fun hHeld => ?_)
  clear hcc hK K hb
  simp only [stk]
  refine norm_ (a' := ?_) ?_ ?_
  rotate_left
  · show Act.put _ (some 10) _ = _
    simp only [Act.put, List.setIfInBounds_toArray, List.set_cons_zero, List.set_cons_succ]
    rfl
  refine one_ (i := 3) (N := (some 11)) #[true, true, true, true, false] rfl rfl (by kernel_rfl) (by decide) (fun K hK => ?_)
  refine goes_ Tryd.func43 (by kernel_rfl) rfl #[.agg #[.int .i64 n, .bool sg, .bool false], .agg (stk fm), .pointer none] (by rfl) rfl rfl (by (try simp only [List.map_toArray, List.map_cons, List.map_nil]); first | done | rfl) ?_
  rw [← HFM.out]
  refine (search_calls n sg false hn (firstL n) (vs_firstL hn) none (.pointer none) w1 (.inl ⟨rfl, rfl⟩)).mono ?_
  rintro e w2 ⟨rfl, M, k, L, hF, hk, h7, hb⟩
  refine ⟨_, rfl, ?_⟩
  obtain ⟨bm, hbm⟩ : ∃ bm, w1.heap.size + 2 = bm := ⟨_, rfl⟩
  rw [hbm] at hk h7 ⊢
  have HBM := Aside0.mk (show w.heap.size ≤ bm by have := HB1.out.size; omega)
  have HF := Aside0.mk hF
  have HKN := Aside0.mk hk
  have HB2 := Aside0.mk (HB1.out.trans (hb.mono HB1.out.size))
  have hcc : ∀ (p : Addr) v, w1.cell? p = some v → w2.cell? p = some v := fun p v hp => by rw [hb.cell (p := p) (World.block_lt_of_cell? _ _ hp)]; exact hp
  refine hK.out _ _ ⟨hcc _ _ hHeld.1, hcc _ _ hHeld.2.1, hcc _ _ hHeld.2.2⟩ (fun hHeld => ?_)
  clear hcc hK K hb hbm hF hk h7
  refine norm_ (a' := ?_) ?_ ?_
  rotate_left
  · show Act.put _ (some 11) _ = _
    simp only [Act.put, List.setIfInBounds_toArray, List.set_cons_zero, List.set_cons_succ]
    rfl
  refine last_ (i := 4) (N := (some 12)) #[true, true, true, true, true] rfl rfl (by kernel_rfl) (by decide) (fun K hK => ?_)
  rw [if_pos (by rfl)]
  have HK := Aside0.mk hK.out
  clear hK
  obtain ⟨w3, cnt0, hrun, hr0, hg3, hs3⟩ := HKN.out.range
  obtain ⟨ri, hri⟩ : ∃ ri, w2.heap.size = ri := ⟨_, rfl⟩
  rw [hri] at hrun hr0
  have HR0 := Aside0.mk hr0
  have HB3 := Aside0.mk (HB2.out.grown hg3 (by exact HB2.out.size) (fun k e => by cases e))
  have HRI := Aside0.mk (show w.heap.size ≤ ri by have := HB2.out.size; omega)
  clear hr0 hg3 hs3 hri
  unfold Oper.wp
  go_simp
  refine HK.out _ _ ?_
  clear HK K hrun hHeld
  refine done_ (by kernel_rfl) ?_
  go_wp2
  go_loopw [4, 5] (fun x y wr => ∃ (a b cnt : Nat) (vis : List (List Int)), x = .int .i64 (a : Int) ∧ y = .int .i64 (b : Int) ∧ Aside0 (Rg wr bm ri k n M vis cnt) ∧ Aside0 (Mo (gap n sg (firstL n)) vis a b) ∧ Aside0 (vis.Nodup ∧ ∀ x, x ∈ vis → (M x).isSome = true) ∧ Aside0 (Below w.heap.size w wr)) (fun _ _ wr => wr.rangeLeft bm ri)
  case atStart => exact ⟨0, 0, cnt0, [], rfl, rfl, HR0, ⟨Mo.begin _⟩, ⟨List.nodup_nil, fun x hx => (by cases hx)⟩, HB3⟩
  case round =>
    obtain ⟨a, b, cnt, vis, rfl, rfl, HR, HM, HV, HW⟩ := hrel
    have HLT := Aside0.mk HR.out.lt
    rcases HR.out.next hn with ⟨hc, hall, hrun⟩ | ⟨l, e, key, W', cnt', hvl, he, hnv, hrun, hr', hlt, hg, hsz, hent⟩
    · have HALL := Aside0.mk hall
      clear hall hc
      go_wp2
      have hw := worst_of HF.out HV.out.1 (fun x => ⟨HV.out.2 x, fun hx => HALL.out x (HF.out.valid x hx) hx⟩) HM.out
      refine bodyPost_ret (results_tmp2 rfl _ _ _) rfl ⟨by rw [hw]; rfl, HW.out⟩
    · have hd := HF.out.gapM he
      obtain ⟨⟨e1, e2⟩, e3⟩ := e
      simp only [stepE] at hrun hent
      have hcnt : vis.length ≤ 15 ^ n := nodup_count (L := vis) HV.out.1 HV.out.2 HF.out.valid
      have hbl : b ≤ vis.length := by rw [HM.out.many]; exact List.countP_le_length
      have h15 := p15 hn
      have hwb : IntKind.i64.wrap ((b : Int) + 1) = ((b + 1 : Nat) : Int) := by rw [iw64 (by omega) (by omega)]; omega
      have HR' := Aside0.mk hr'
      have HLC := Aside0.mk hlt
      have HG := Aside0.mk hg
      have HSZ := Aside0.mk hsz
      have HD := Aside0.mk hd
      have HNV := Aside0.mk hnv
      have HE := Aside0.mk he
      have HWB := Aside0.mk (HW.out.grown hg (by exact HW.out.size) (fun k e => by cases e; exact HRI.out))
      clear hr' hlt hg hsz hd hnv he hvl hcnt hbl h15
      have hmem : ∀ x, x ∈ vis ++ [l] → (M x).isSome = true := fun x hx => by
        rcases List.mem_append.1 hx with hx | hx
        · exact HV.out.2 x hx
        · simp at hx; subst hx; rw [HE.out]; rfl
      have hnd : (vis ++ [l]).Nodup := List.nodup_append.2 ⟨HV.out.1, by simp, fun x hx y hy => by simp at hy; subst hy; rintro rfl; exact HNV.out hx⟩
      have HV' := Aside0.mk (And.intro hnd hmem)
      clear hmem hnd
      have hkey := HLT.out
      obtain ⟨hl1, hl2, hl3, hl4⟩ := HLT.out
      have fin : ∀ (W2 : World) (a2 b2 : Nat), Below w.heap.size w W2 → W'.grownBy W2 none → Mo (gap n sg (firstL n)) (vis ++ [l]) a2 b2 → Rg W2 bm ri k n M (vis ++ [l]) cnt' ∧ W2.rangeLeft bm ri < wr.rangeLeft bm ri := fun W2 a2 b2 _ hg2 _ => by
        have h2 := HR'.out.kept hg2 (by simp) (by simp)
        exact ⟨h2, by rw [h2.lt.2.2.1, hl3]; exact HLC.out⟩
      have FIN := Aside0.mk fin
      have HS' := Aside0.mk (show W'.heap.size = wr.heap.size from HSZ.out)
      have HLS := Aside0.mk (show w.heap.size ≤ W'.heap.size by have := HW.out.size; have := HSZ.out; omega)
      clear fin hl1 hl2 hl3 hl4 hkey
      by_cases hgt : (e3 : Int) > (a : Int)
      · go_wp2
        go_roundw
        case rel => exact ⟨e3, 1, cnt', vis ++ [l], rfl, rfl, ⟨(FIN.out _ e3 1 (HWB.out.alloc HLS.out _) (World.grownBy_alloc W' _ none) (by have := HM.out.more (x := l) (by have := HD.out; simp only at this; omega); rw [← HD.out] at this; exact this)).1⟩, ⟨by have := HM.out.more (x := l) (by have := HD.out; simp only at this; omega); rw [← HD.out] at this; exact this⟩, HV', ⟨HWB.out.alloc HLS.out _⟩⟩
        case measure => exact (FIN.out _ e3 1 (HWB.out.alloc HLS.out _) (World.grownBy_alloc W' _ none) (by have := HM.out.more (x := l) (by have := HD.out; simp only at this; omega); rw [← HD.out] at this; exact this)).2
      · by_cases heq : e3 = a
        · subst heq
          go_wp2
          go_roundw
          case rel => exact ⟨e3, b + 1, cnt', vis ++ [l], rfl, rfl, ⟨(FIN.out _ e3 (b + 1) (HWB.out.alloc HLS.out _) (World.grownBy_alloc W' _ none) (HM.out.same HD.out.symm)).1⟩, ⟨HM.out.same HD.out.symm⟩, HV', ⟨HWB.out.alloc HLS.out _⟩⟩
          case measure => exact (FIN.out _ e3 (b + 1) (HWB.out.alloc HLS.out _) (World.grownBy_alloc W' _ none) (HM.out.same HD.out.symm)).2
        · have heq' : ¬ (e3 : Int) = (a : Int) := by omega
          go_wp2
          go_roundw
          case rel => exact ⟨a, b, cnt', vis ++ [l], rfl, rfl, ⟨(FIN.out _ a b (HWB.out.alloc HLS.out _) (World.grownBy_alloc W' _ none) (HM.out.less (by have := HD.out; simp only at this; omega))).1⟩, ⟨HM.out.less (by have := HD.out; simp only at this; omega)⟩, HV', ⟨HWB.out.alloc HLS.out _⟩⟩
          case measure => exact (FIN.out _ a b (HWB.out.alloc HLS.out _) (World.grownBy_alloc W' _ none) (HM.out.less (by have := HD.out; simp only at this; omega))).2
end Go.Proofs.YtbadfjogakhhbaaDoor.G
