/- A part that the chapter's proofs share: contracts of the functions, and plain lemmas (part 4). -/
import Derived.Test.YtnaaomhmoamfpaaDoorA3
import Derived.Stop.RegionWithIn
import Derived.Test.YtnaaomhmoamfpaaDoorA1
import Derived.Test.YtnaaomhmoamfpaaDoorA2
/- Total: the sum of all distances: what its call comes to. -/
namespace Go.Proofs.YtnaaomhmoamfpaaDoor.G
set_option linter.unusedVariables false
set_option linter.unusedSimpArgs false
set_option linter.unusedSectionVars false
open Go.Proofs.YtnaaomhmoamfpaaDoor.Q Go.Proofs.YtnaaomhmoamfpaaDoor.Hn Go.Proofs.YtnaaomhmoamfpaaDoor.K Go.Proofs.YtnaaomhmoamfpaaDoor.It
open Go.RowKit Go.Shelf Go.Proofs.YtnaaomhmoamfpaaDoorW.PrintWords Go.Proofs.YtnaaomhmoamfpaaDoorW.PrintLast Go.Proofs.YtnaaomhmoamfpaaDoorW.PrintMore
attribute [local go_sem] Oper.semAt_some

/-- The position whose number is c. -/
def code (N c : Nat) : List Int := (List.range N).map (fun i => (dgt 3 c i : Int))
theorem code_len (N c : Nat) : (code N c).length = N := by simp [code]
theorem nth_code (N c i : Nat) (h : i < N) : nth (code N c) i = dgt 3 c i := by simp [nth, code, h]
theorem code_ok (N c : Nat) (h0 : 0 < N) (h1 : N ≤ 40) : okD (code N c) = true := by
  rw [okD_iff, code_len]
  refine ⟨h0, h1, fun i hi => ?_⟩
  rw [code_len] at hi
  rw [nth_code N c i hi]
  have := dgt_lt (P := 3) (c := c) (i := i) (by omega)
  unfold Peg
  omega
/-- The sum of the distances from c to all of L. -/
def rowSum (N : Nat) (c : Nat) (L : List Nat) : Int := (L.map (fun d => dst (nth (code N c)) (nth (code N d)) N)).sum
def allSum (N : Nat) (L : List Nat) : Int := (L.map (fun c => rowSum N c (List.range (3 ^ N)))).sum
theorem sum_bound {f : Nat → Int} {b : Int} (h : ∀ x, 0 ≤ f x ∧ f x ≤ b) (L : List Nat) : 0 ≤ (L.map f).sum ∧ (L.map f).sum ≤ L.length * b := by
  induction L with
  | nil => simp
  | cons a L ih =>
    have := h a
    simp only [List.map_cons, List.sum_cons, List.length_cons]
    have e : ((L.length + 1 : Nat) : Int) * b = L.length * b + b := by rw [Int.natCast_add, Int.add_mul]; simp
    omega
theorem dst_small (N : Nat) (h0 : 0 < N) (h1 : N ≤ 7) (c d : Nat) : 0 ≤ dst (nth (code N c)) (nth (code N d)) N ∧ dst (nth (code N c)) (nth (code N d)) N ≤ 127 := by
  refine ⟨dst_nonneg _ _ _, ?_⟩
  obtain ⟨_, _, hc⟩ := (okD_iff _).1 (code_ok N c h0 (by omega))
  obtain ⟨_, _, hd⟩ := (okD_iff _).1 (code_ok N d h0 (by omega))
  unfold DiscsL at hc hd
  rw [code_len] at hc hd
  have h := dst_far (nth (code N c)) (nth (code N d)) N hc hd
  have hp := pow_le h1
  have : far (nth (code N c)) N ≤ 2 ^ N - 1 := by
    unfold far
    have := tp_le (nth (code N c)) N 0; have := tp_le (nth (code N c)) N 1; have := tp_le (nth (code N c)) N 2
    omega
  have e : (2 : Int) ^ 7 = 128 := by decide
  omega
theorem pow3_le (N : Nat) (h1 : N ≤ 7) : 3 ^ N ≤ 2187 := by
  have := Nat.pow_le_pow_right (show 0 < 3 by omega) h1
  simpa using this
theorem row_bound (N : Nat) (h0 : 0 < N) (h1 : N ≤ 7) (c : Nat) (L : List Nat) (hL : L.length ≤ 2187) : 0 ≤ rowSum N c L ∧ rowSum N c L ≤ 300000 := by
  have := sum_bound (dst_small N h0 h1 c) L
  unfold rowSum
  omega
theorem all_bound (N : Nat) (h0 : 0 < N) (h1 : N ≤ 7) (L : List Nat) (hL : L.length ≤ 2187) : 0 ≤ allSum N L ∧ allSum N L ≤ 700000000 := by
  have := sum_bound (fun c => row_bound N h0 h1 c (List.range (3 ^ N)) (by simp; exact pow3_le N h1)) L
  unfold allSum
  omega
theorem row_snoc (N c d : Nat) (L : List Nat) : rowSum N c (L ++ [d]) = rowSum N c L + dst (nth (code N c)) (nth (code N d)) N := by simp [rowSum]
theorem all_snoc (N c : Nat) (L : List Nat) : allSum N (L ++ [c]) = allSum N L + rowSum N c (List.range (3 ^ N)) := by simp [allSum]

def total (N : Nat) : Int := allSum N (List.range (3 ^ N))
def hanoi_Total.f (n : Int) : Option (Int × Int) := if 1 ≤ n ∧ n ≤ 7 then some (total n.toNat, 0) else some (0, 1)

/-- The position's cells, cut to N, are its code. -/
theorem code_V {W : World} {b N c : Nat} (h : Blk W b (digs 3 N c 0) 90) (hN : N ≤ 16) : Kd.V (Kd.int .i64) 3 W W.heap.size (fun k => k = b) (.slice (some ⟨b, 0, none⟩) (code N c).length 16) (code N c) := by
  refine Kd.V_mk (by rw [code_len]; exact hN) (fun W' hW => ?_)
  have h' : Blk W' b (digs 3 N c 0) 90 := (hW b rfl h.lt).trans h
  refine Kd.C_of_reads (enc := Value.int .i64) (d := (0 : Int)) (h1 := fun _ => rfl) ?_
  refine ⟨rfl, by rw [code_len]; omega, fun _ => ⟨⟨b, 0, none⟩, rfl, fun j hj => ?_⟩⟩
  rw [code_len] at hj
  rw [Addr.add_mid, Nat.zero_add, h'.cell j (digs_get _ _ _ _ _ (by omega))]
  have : (code N c).getD j 0 = nth (code N c) j := rfl
  rw [this, nth_code N c j hj]
  simp [mid, hj]

theorem cut16 (N b : Nat) (hN : N ≤ 16) (W : World) : (Instr.sliceAt 90 (.pointer (some ⟨b, 0, none⟩)) none (some (.int .i64 (N : Int))) none).run Tryd.prog W = .ok (.slice (some ⟨b, 0, none⟩) N 16) W := by
  have hl : Tryd.prog.arrayLen 90 = 16 := by kernel_rfl
  have hu : Tryd.prog.underlying 90 = some (.array (Tryd.prog.arrayLen 90) (Tryd.prog.elem 90)) := by kernel_rfl
  have he : Tryd.prog.elem 90 = 3 := by kernel_rfl
  rw [run_sliceAt_array_h (P := Tryd.prog) W 90 ⟨b, 0, none⟩ hu .i64 (N : Int) (by omega) (by rw [hl]; omega)]
  rw [he, hl]
  obtain ⟨i0, hi0, _, hsz, _⟩ := info_parts info3
  have hs : (sizeOf 3).run Tryd.prog W = .ok 1 W := by simp [sizeOf, typeInfo, hi0, hsz]
  rw [hs]
  simp [Result.andThen, slicedAt, Addr.add]

theorem dist_calls (N x y Bx By : Nat) (W : World) (h0 : 0 < N) (h7 : N ≤ 7) (hx : Blk W Bx (digs 3 N x 0) 90) (hy : Blk W By (digs 3 N y 0) 90) :
    Calls Tryd.prog 44 #[.slice (some ⟨Bx, 0, none⟩) N 16, .slice (some ⟨By, 0, none⟩) N 16] W fun e w' => e = .returned (.tuple #[.int .i64 (dst (nth (code N x)) (nth (code N y)) N), .int .i64 0]) ∧ Below W.heap.size W w' := by
  have hb : both (code N x) (code N y) = true := by simp [both, code_ok _ _ h0 (show N ≤ 40 by omega), code_len]
  obtain ⟨k, hk⟩ := (distance_ev (code N x) (code N y)).rounds
  rw [if_pos hb, code_len] at hk
  have := hanoi_Distance.calls k _ (some ⟨Bx, 0, none⟩) 16 (code N x) _ (some ⟨By, 0, none⟩) 16 (code N y) _ _ W (code_V hx (by omega)) (code_V hy (by omega)) hk
  rw [code_len, code_len] at this
  exact this

set_option maxRecDepth 100000 in
set_option maxHeartbeats 4000000 in
theorem hanoi_Total.calls (a0 : Int) (r1 : Int) (r2 : Int) (w : World) (h : hanoi_Total.f a0 = some (r1, r2)) :
    Calls Tryd.prog 23 #[.int .i64 a0] w fun e w' => e = .returned (.tuple #[.int .i64 r1, .int .i64 r2]) ∧ Below w.heap.size w w' := by
  unfold hanoi_Total.f at h
  by_cases hn : 1 ≤ a0 ∧ a0 ≤ 7
  · rw [if_pos hn] at h
    cases h
    obtain ⟨N, rfl⟩ := Int.eq_ofNat_of_zero_le (show 0 ≤ a0 by omega)
    obtain ⟨hn1, hn2⟩ := hn
    have hN0 : 0 < N := by omega
    have hN7 : N ≤ 7 := by omega
    have hx1 : ¬ (N : Int) < 1 := by omega
    have hx2 : ¬ (N : Int) > 7 := by omega
    simp only [Int.toNat_natCast]
    refine (callsIn_wide (n := 8)).1 ?_
    refine callsIn_of_wp_marks Tryd.func23 rfl trivial ?_ rfl
    simp only [Tryd.ntmps23, List.size_toArray, List.length_cons, List.length_nil, Nat.reduceAdd, Nat.reduceSub, Array.replicate_succ, Array.replicate_zero, List.push_toArray, List.append_toArray, List.nil_append, List.cons_append]
    gi_wp2_with (refine ⟨trivial, ?_⟩; gi_at_call 63; refine (positions_calls Fence.wide _ trivial rfl _ _ _).mono ?_; rintro e w' ⟨rfl, rfl⟩)
    obtain ⟨W0, hW0⟩ : ∃ W0, (((w.alloc (Obj.cells #[Value.int IntKind.i64 ↑N] 3)).alloc (Obj.cells #[Value.int IntKind.i64 0] 2)).alloc (Obj.cells #[Value.int IntKind.i64 ↑N] 3)).alloc (Obj.cells #[Value.int IntKind.i64 3] 3) = W0 := ⟨_, rfl⟩
    have hz : W0.heap.size = w.heap.size + 4 := by rw [← hW0]; simp
    have hb0 : Blk W0 w.heap.size #[Value.int IntKind.i64 ↑N] 3 := by rw [← hW0]; exact (((Blk.new w _ _).alloc _).alloc _).alloc _
    have hb1 : Blk W0 (w.heap.size + 1) #[Value.int IntKind.i64 0] 2 := by rw [← hW0]; have := Blk.new (w.alloc (Obj.cells #[Value.int IntKind.i64 ↑N] 3)) #[Value.int IntKind.i64 0] 2; rw [World.size_alloc] at this; exact (this.alloc _).alloc _
    have hb2 : Blk W0 (w.heap.size + 1 + 1) #[Value.int IntKind.i64 ↑N] 3 := by rw [← hW0]; have := Blk.new ((w.alloc (Obj.cells #[Value.int IntKind.i64 ↑N] 3)).alloc (Obj.cells #[Value.int IntKind.i64 0] 2)) #[Value.int IntKind.i64 ↑N] 3; rw [World.size_alloc, World.size_alloc] at this; exact this.alloc _
    have hb3 : Blk W0 (w.heap.size + 1 + 1 + 1) #[Value.int IntKind.i64 3] 3 := by rw [← hW0]; have := Blk.new (((w.alloc (Obj.cells #[Value.int IntKind.i64 ↑N] 3)).alloc (Obj.cells #[Value.int IntKind.i64 0] 2)).alloc (Obj.cells #[Value.int IntKind.i64 ↑N] 3)) #[Value.int IntKind.i64 3] 3; rwa [World.size_alloc, World.size_alloc, World.size_alloc] at this
    have hbw : Below w.heap.size w W0 := by rw [← hW0]; exact (((((Below.refl _ w).alloc (Nat.le_refl _) _).alloc (by simp) _).alloc (by simp; omega) _).alloc (by simp; omega) _)
    rw [hW0]
    clear hW0
    have hp3 := pow3_le N hN7
    have H0 := Aside0.mk hb0
    have H1 := Aside0.mk hb1
    have H2 := Aside0.mk hb2
    have H3 := Aside0.mk hb3
    have HW := Aside0.mk hbw
    clear hb0 hb1 hb2 hb3 hbw
    refine range_outer (T := 90) (keep := own2 (w.heap.size + 1 + 1) (w.heap.size + 1 + 1 + 1)) (L := List.range (3 ^ N)) rfl (by omega) (gf := 89) (lb := #[Value.pointer (some ⟨w.heap.size + 1 + 1, 0, none⟩), Value.pointer (some ⟨w.heap.size + 1 + 1 + 1, 0, none⟩)]) rfl trivial (enters_of Tryd.func89 (by kernel_rfl) rfl)
      (positions_it Fence.wide 7 trivial rfl (by omega) (w.heap.size + 1 + 1) (w.heap.size + 1 + 1 + 1) N 3 (by omega) (by omega) (by omega) W0 H2.out H3.out) (Below.refl _ _) (fun k hk => by rcases hk with rfl | rfl <;> omega) (fun _ => rfl)
      (fun pre W => Aside0 (Blk W w.heap.size #[.int .i64 N] 3 ∧ Blk W (w.heap.size + 1) #[.int .i64 (allSum N pre)] 2 ∧ Below w.heap.size w W ∧ W0.heap.size ≤ W.heap.size)) (fun _ _ _ => False)
      (fun s A A' hs hst => .mk ⟨hst.same _ _ hs.out.1 (.inl (by omega)), hst.same _ _ hs.out.2.1 (.inl (by omega)), hst.below hs.out.2.2.1 (by omega) (Nat.le_refl _), Nat.le_trans hs.out.2.2.2 hst.size⟩)
      (fun _ _ _ _ hs _ => hs) (.mk ⟨H0.out, H1.out, HW.out, Nat.le_refl _⟩)
      (fun x a' A => ∃ Bx, Aside0 (Blk A Bx (digs 3 N x 0) 90) ∧ w.heap.size + 3 < Bx ∧ a' = { tmps := #[Value.int IntKind.i64 ↑N, Value.pointer (some { block := w.heap.size, off := 0 }), Value.int IntKind.i64 0, Value.int IntKind.i64 0, Value.pointer (some { block := w.heap.size + 1, off := 0 }), Value.pointer (some { block := Bx, off := 0 }), undef, undef, undef, Value.int IntKind.i64 ↑N, Value.bool false, Value.bool false, Value.int IntKind.i64 ↑N, Value.bool false, Value.bool false, Value.int IntKind.i64 ↑N, Value.func (Fn.func 89) #[] #[Value.pointer (some { block := w.heap.size + 1 + 1, off := 0 }), Value.pointer (some { block := w.heap.size + 1 + 1 + 1, off := 0 })], Value.agg (digs 3 N x 0), undef, undef, undef, undef, undef, undef, undef, undef, undef, undef, undef, undef, undef, undef, undef], defers := [] })
      (fun x a' A A' hx hbk => by obtain ⟨Bx, h1, h2, h3⟩ := hx; exact ⟨Bx, .mk (hbk _ _ h1.out rfl), h2, h3⟩) ?assign ?body ?done ?stop
    case assign =>
      intro l pre x rest W K hL hi hr hK
      have hsW := hi.out.2.2.2
      have HK := Aside0.mk hK
      clear hK hr hL
      unfold digs at HK
      obtain ⟨m, hm⟩ : ∃ m, mid 3 N x 0 = m := ⟨_, rfl⟩
      unfold digs
      rw [hm] at HK ⊢
      simp only [List.zip_toArray, List.zip_cons_cons, List.zip_nil_left]
      gi_wp2
      refine HK.out _ _ ((RB.refl _ _ _).alloc _) (.mk ⟨hi.out.1.alloc _, hi.out.2.1.alloc _, hi.out.2.2.1.alloc (by have := hi.out.2.2.1.size; omega) _, by simp; omega⟩) ⟨W.heap.size, .mk (Blk.new _ _ _), by omega, rfl⟩
    case body =>
      rintro l pre x rest a' W hL hle ⟨r, hr⟩ hI ⟨Bx, hBx, hlt, rfl⟩
      have hsW := hI.out.2.2.2
      have hcN := hI.out.1.cell 0 (v := .int .i64 N) rfl
      have HR := Aside0.mk hr
      have HL := Aside0.mk hL
      have hxl := hBx.out.lt
      have hll := (Array.getElem?_eq_some_iff.1 hr).1
      obtain ⟨D, hD⟩ : ∃ D, digs 3 N x 0 = D := ⟨_, rfl⟩
      rw [hD]
      have HD := Aside0.mk hD
      clear hr hL hD
      gi_wp2_with (refine ⟨trivial, ?_⟩; gi_at_call 63; refine (CallsIn.inRound l (positions_calls Fence.wide _ trivial rfl _ _ _)).mono ?_; rintro e w' ⟨rfl, rfl⟩)
      obtain ⟨V0, hV0⟩ : ∃ V0, (W.alloc (Obj.cells #[Value.int IntKind.i64 ↑N] 3)).alloc (Obj.cells #[Value.int IntKind.i64 3] 3) = V0 := ⟨_, rfl⟩
      have hzV : V0.heap.size = W.heap.size + 2 := by rw [← hV0]; simp
      have J0 := Aside0.mk (show Blk V0 w.heap.size #[.int .i64 N] 3 by rw [← hV0]; exact (hI.out.1.alloc _).alloc _)
      have J1 := Aside0.mk (show Blk V0 (w.heap.size + 1) #[.int .i64 (allSum N pre)] 2 by rw [← hV0]; exact (hI.out.2.1.alloc _).alloc _)
      have J2 := Aside0.mk (show Blk V0 W.heap.size #[Value.int IntKind.i64 ↑N] 3 by rw [← hV0]; exact (Blk.new _ _ _).alloc _)
      have J3 := Aside0.mk (show Blk V0 (W.heap.size + 1) #[Value.int IntKind.i64 3] 3 by rw [← hV0]; have := Blk.new (W.alloc (Obj.cells #[Value.int IntKind.i64 ↑N] 3)) #[Value.int IntKind.i64 3] 3; rwa [World.size_alloc] at this)
      have JB := Aside0.mk (show Below w.heap.size w V0 by rw [← hV0]; exact (hI.out.2.2.1.alloc (by have := hI.out.2.2.1.size; omega) _).alloc (by have := hI.out.2.2.1.size; simp; omega) _)
      have JX := Aside0.mk (show Blk V0 Bx (digs 3 N x 0) 90 by rw [← hV0]; exact (hBx.out.alloc _).alloc _)
      have JR := Aside0.mk (show RB 90 (own2 (w.heap.size + 1 + 1) (w.heap.size + 1 + 1 + 1)) W V0 by rw [← hV0]; exact ((RB.refl _ _ _).alloc _).alloc _)
      have JL := Aside0.mk (show V0.heap[l]? = some (Obj.loop r) by rw [← hV0]; exact (Below.heap_alloc _ _ _ (by simp; omega)).trans ((Below.heap_alloc _ _ _ hll).trans HR.out))
      rw [hV0]
      clear hV0
      refine range_inner (T := 90) (keep := own2 W.heap.size (W.heap.size + 1)) (L := List.range (3 ^ N)) (l₀ := l) (r₀ := r) rfl JL.out (by omega) (gf := 89) (lb := #[Value.pointer (some ⟨W.heap.size, 0, none⟩), Value.pointer (some ⟨W.heap.size + 1, 0, none⟩)]) rfl trivial (enters_of Tryd.func89 (by kernel_rfl) rfl)
        ((positions_it Fence.wide (8 - 1 - 1 - 1) trivial rfl (by omega) W.heap.size (W.heap.size + 1) N 3 (by omega) (by omega) (by omega) V0 J2.out J3.out).inRound l) (Below.refl _ _) (fun k hk => by rcases hk with rfl | rfl <;> omega) (fun _ => rfl)
        (fun q V => Aside0 (Blk V w.heap.size #[.int .i64 N] 3 ∧ Blk V (w.heap.size + 1) #[.int .i64 (allSum N pre + rowSum N x q)] 2 ∧ Below w.heap.size w V ∧ V0.heap.size ≤ V.heap.size ∧ Blk V Bx (digs 3 N x 0) 90 ∧ RB 90 (own2 (w.heap.size + 1 + 1) (w.heap.size + 1 + 1 + 1)) W V)) (fun _ _ _ => False)
        (fun s A A' hs hst => .mk ⟨hst.same _ _ hs.out.1 (.inl (by omega)), hst.same _ _ hs.out.2.1 (.inl (by omega)), hst.below hs.out.2.2.1 (by omega) (Nat.le_refl _), Nat.le_trans hs.out.2.2.2.1 hst.size, hst.same _ _ hs.out.2.2.2.2.1 (.inl (by omega)), hs.out.2.2.2.2.2.step hst (by omega)⟩)
        (fun _ _ _ _ hs _ => hs) (.mk ⟨J0.out, by simpa [rowSum] using J1.out, JB.out, Nat.le_refl _, JX.out, JR.out⟩)
        (fun y a' A => ∃ By, Aside0 (Blk A By (digs 3 N y 0) 90) ∧ Bx < By ∧ a' = { tmps := #[Value.int IntKind.i64 ↑N, Value.pointer (some { block := w.heap.size, off := 0 }), Value.int IntKind.i64 0, Value.int IntKind.i64 0, Value.pointer (some { block := w.heap.size + 1, off := 0 }), Value.pointer (some { block := Bx, off := 0 }), Value.pointer (some { block := By, off := 0 }), undef, undef, Value.int IntKind.i64 ↑N, Value.bool false, Value.bool false, Value.int IntKind.i64 ↑N, Value.bool false, Value.bool false, Value.int IntKind.i64 ↑N, Value.func (Fn.func 89) #[] #[Value.pointer (some { block := w.heap.size + 1 + 1, off := 0 }), Value.pointer (some { block := w.heap.size + 1 + 1 + 1, off := 0 })], Value.agg D, Value.int IntKind.i64 ↑N, Value.func (Fn.func 89) #[] #[Value.pointer (some { block := W.heap.size, off := 0 }), Value.pointer (some { block := W.heap.size + 1, off := 0 })], Value.agg (digs 3 N y 0), undef, undef, undef, undef, undef, undef, undef, undef, undef, undef, undef, undef], defers := [] })
        (fun x a' A A' hx hbk => by obtain ⟨By, h1, h2, h3⟩ := hx; exact ⟨By, .mk (hbk _ _ h1.out rfl), h2, h3⟩) ?assign2 ?body2 ?done2 ?stop2
      case assign2 =>
        intro l2 q y rest2 V K hL hi hr hK
        have hsV := hi.out.2.2.2.1
        have HK := Aside0.mk hK
        clear hK hr hL
        unfold digs at HK
        obtain ⟨m, hm⟩ : ∃ m, mid 3 N y 0 = m := ⟨_, rfl⟩
        unfold digs
        rw [hm] at HK ⊢
        simp only [List.zip_toArray, List.zip_cons_cons, List.zip_nil_left]
        gi_wp2
        refine HK.out _ _ ((RB.refl _ _ _).alloc _) (.mk ⟨hi.out.1.alloc _, hi.out.2.1.alloc _, hi.out.2.2.1.alloc (by have := hi.out.2.2.1.size; omega) _, by simp; omega, hi.out.2.2.2.2.1.alloc _, hi.out.2.2.2.2.2.alloc _⟩) ⟨V.heap.size, .mk (Blk.new _ _ _), by omega, rfl⟩
      case body2 =>
        rintro l2 q y rest2 a' V hL2 hle2 ⟨r2, hr2⟩ hI2 ⟨By, hBy, hlt2, rfl⟩
        have hcN2 := hI2.out.1.cell 0 (v := .int .i64 N) rfl
        have hcB2 := hI2.out.2.1.cell 0 (v := .int .i64 (allSum N pre + rowSum N x q)) rfl
        have hfB2 := hI2.out.2.1.free 0
        have HL2 := Aside0.mk hL2
        have HD2 := Aside0.mk (fun (A : World) (e : A.heap = V.heap) => dist_calls N x y Bx By A hN0 hN7 (show Blk A Bx (digs 3 N x 0) 90 by unfold Blk; rw [e]; exact hI2.out.2.2.2.2.1) (show Blk A By (digs 3 N y 0) 90 by unfold Blk; rw [e]; exact hBy.out))
        obtain ⟨dxy, hdxy⟩ : ∃ d, dst (nth (code N x)) (nth (code N y)) N = d := ⟨_, rfl⟩
        rw [hdxy] at HD2
        have HE := Aside0.mk hdxy
        clear hL2 hr2 hdxy
        have hcx := cut16 N Bx (by omega)
        have hcy := cut16 N By (by omega)
        gi_wp2
        gi_region_with (refine ⟨trivial, ?_⟩; gi_at_call 44; refine CallsIn.mono (CallsIn.inRound l2 (CallsIn.inRound l (callsIn_wide.2 (HD2.out _ rfl)))) ?_; rintro e w' ⟨rfl, hb⟩)
        clear hcN2 hcB2 hfB2 hcN hcx hcy HD2
        all_goals (
          have i1 := (hI2.out.1.drew).below hb hI2.out.1.lt
          have i2 := (hI2.out.2.1.drew).below hb hI2.out.2.1.lt
          have i3 := (hI2.out.2.2.2.2.1.drew).below hb hI2.out.2.2.2.2.1.lt
          have i4 := hb.size
          have i5 : Below w.heap.size w w' := (hI2.out.2.2.1.drew).trans (hb.mono hI2.out.2.2.1.size)
          have i6 := hI2.out.2.2.2.2.2.drew.below hb
          have i7 := ((RB.refl 90 (own2 W.heap.size (W.heap.size + 1)) V).drew).below hb
          have hc3 := i2.cell 0 (v := .int .i64 (allSum N pre + rowSum N x q)) rfl
          have hf3 := i2.free 0
          have q1 : pre.length ≤ 2187 := by have := congrArg List.length HL.out; simp at this; omega
          have q2 : q.length ≤ 2187 := by have := congrArg List.length HL2.out; simp at this; omega
          have q3 := all_bound N hN0 hN7 pre q1
          have q4 := row_bound N hN0 hN7 x q q2
          have q5 := dst_small N hN0 hN7 x y
          rw [HE.out] at q5
          have hs : IntKind.i64.wrap (allSum N pre + rowSum N x q + dxy) = allSum N pre + rowSum N x q + dxy := by rw [i64_w]; exact w64 (by omega) (by omega)
          have q6 : allSum N pre + rowSum N x (q ++ [y]) = allSum N pre + rowSum N x q + dxy := by rw [row_snoc, HE.out, Int.add_assoc]
          have I1 := Aside0.mk i1
          have I2 := Aside0.mk i2
          have I3 := Aside0.mk i3
          have I5 := Aside0.mk i5
          have I6 := Aside0.mk i6
          have I7 := Aside0.mk i7
          have Q6 := Aside0.mk q6
          have HB := Aside0.mk hb
          clear i1 i2 i3 i5 i6 i7 hb q1 q2 q3 q4 q5 q6
          generalize allSum N pre + rowSum N x q = sm at *
          gi_wp2
          refine ⟨I7.out.set (fun o ho => ?_), .mk ⟨I1.out.setOther (by simp) _, ?_, I5.out.setCell (by simp) _, by have := hI2.out.2.2.2.1; simp [World.setCell] at i4 ⊢; omega, I3.out.setOther (by simp; omega) _, I6.out.set (fun o ho => ?_)⟩⟩
          · have e := ho.symm.trans hI2.out.2.1
            injection e with e
            subst e
            exact ⟨by rintro (h | h) <;> omega, rfl, rfl⟩
          · rw [Q6.out]; exact I2.out.set 0 _
          · have e := ho.symm.trans hI.out.2.1
            injection e with e
            subst e
            exact ⟨by rintro (h | h) <;> omega, rfl, rfl⟩)
      case done2 =>
        rintro V hI2
        exact ⟨hI2.out.2.2.2.2.2, .mk ⟨hI2.out.1, by rw [all_snoc]; exact hI2.out.2.1, hI2.out.2.2.1, by have := hI2.out.2.2.2.1; omega⟩⟩
      case stop2 =>
        intro c pre x rest W _ hs
        exact hs.elim
    case done =>
      rintro D W hD hI hK
      have hc1 := hI.out.2.1.cell 0 (v := .int .i64 (allSum N (List.range (3 ^ N)))) rfl
      have HI := Aside0.mk hI
      have HK := Aside0.mk hK
      clear hI hK
      gi_wp2
      refine ⟨by simp, .inl ⟨_, _, rfl, run_takeDeferred HK.out, ?_⟩⟩
      exact ⟨_, results_tmp2 rfl _ _ _, rfl, HI.out.out.2.2.1.trans (belowK_b (w := w) (Nat.le_refl _) W D _ _ (by omega) HK.out rfl rfl)⟩
    case stop =>
      intro D c pre x rest W _ _ hs
      exact hs.elim
  · rw [if_neg hn] at h
    cases h
    refine (callsIn_wide (n := 8)).1 ?_
    refine callsIn_of_wp Tryd.func23 rfl trivial ?_ rfl
    simp only [Tryd.ntmps23, List.size_toArray, List.length_cons, List.length_nil, Nat.reduceAdd, Nat.reduceSub, Array.replicate_succ, Array.replicate_zero, List.push_toArray, List.append_toArray, List.nil_append, List.cons_append]
    by_cases h1 : a0 < 1
    · gi_wp2
      refine bodyPost_ret (results_tmp2 rfl _ _ _) rfl ?_
      exact ⟨rfl, (Below.refl _ w).alloc (Nat.le_refl _) _⟩
    · have h2 : a0 > 7 := by omega
      gi_wp2
      refine bodyPost_ret (results_tmp2 rfl _ _ _) rfl ?_
      exact ⟨rfl, (Below.refl _ w).alloc (Nat.le_refl _) _⟩
end Go.Proofs.YtnaaomhmoamfpaaDoor.G
/- Fewest: what one step of the search does: the loop's head: asked whether it goes on, the queue's head taken. -/
namespace Go.Proofs.YtnaaomhmoamfpaaDoor.G
set_option linter.unusedVariables false
set_option linter.unusedSimpArgs false
set_option linter.unusedSectionVars false
open Go.Proofs.YtnaaomhmoamfpaaDoor.Q Go.Proofs.YtnaaomhmoamfpaaDoor.Hn Go.Proofs.YtnaaomhmoamfpaaDoor.K Go.Proofs.YtnaaomhmoamfpaaDoor.It Go.Proofs.YtnaaomhmoamfpaaDoor.Bf
open Go.RowKit Go.Shelf Go.Proofs.YtnaaomhmoamfpaaDoorW.PrintWords Go.Proofs.YtnaaomhmoamfpaaDoorW.PrintLast Go.Proofs.YtnaaomhmoamfpaaDoorW.PrintMore
attribute [local go_sem] Oper.semAt_some

def unloop : Code → Code
  | .loop c => c
  | c => c
/-- The loop's round; the statements that take the queue's head. -/
noncomputable def roundC : Code := unloop ((findBlk 4 (codeOf Tryd.f29)).getD .skip)
noncomputable def takeC : Code := (findBlk 5 (codeOf Tryd.f29)).getD .skip

theorem start_goal {n P : Nat} (hP : 2 ≤ P) (hn : n ≠ 0) : startP n ≠ goalP n P := fun e => by
  have e1 := congrFun (congrArg nth e) 0
  rw [nth_goal, nth_start] at e1
  simp only [goalTo] at e1
  rw [if_pos (by omega)] at e1
  omega

set_option maxRecDepth 100000 in
set_option maxHeartbeats 4000000 in
theorem search_test (n P : Nat) (hn : n ≤ 16) (hP3 : 3 ≤ P) (hP8 : P ≤ 8) (W0 W5 : World) (b9 k : Nat) (S : Se (List Int)) (q L : List (List Int)) (v : Value) (h : Hd n P W0 W5 b9 k S q L v) (ds : List Deferred) (x2 x3 x4 x5 x6 x9 x12 x13 x14 x15 x16 x17 x18 x19 x20 x21 x22 x23 x24 x25 x26 x27 x28 x29 x30 x31 x32 x33 x34 x35 x36 x37 x38 x39 x40 x41 x42 x43 x44 x45 x46 x47 x48 x49 x50 x51 x52 x53 x54 x55 x56 x57 x58 x59 x60 x61 x62 x63 x64 x65 x66 x67 x68 x69 x70 x71 x72 x73 x74 x75 x76 x77 x78 x79 x80 x81 x82 x83 x84 x85 x86 x87 x88 x89 x90 : Value)
    (K : Act → World → Prop) (Q' : Exit → Act → World → Prop)
    (hX : ∀ (x2 x3 x4 x5 x6 x9 x12 x13 x14 x15 x16 x17 x18 x19 x20 x21 x22 x23 x24 x25 x26 x27 x28 x29 x30 x31 x32 x33 x34 x35 x36 x37 x38 x39 x40 x41 x42 x43 x44 x45 x46 x47 x48 x49 x50 x51 x52 x53 x54 x55 x56 x57 x58 x59 x60 x61 x62 x63 x64 x65 x66 x67 x68 x69 x70 x71 x72 x73 x74 x75 x76 x77 x78 x79 x80 x81 x82 x83 x84 x85 x86 x87 x88 x89 x90 : Value), fewest n P = (S (goalP n P)).getD 0 → Q' (.exit 4) { tmps := #[Value.int IntKind.i64 (n : Int), Value.int IntKind.i64 (P : Int), x2, x3, x4, x5, x6, Value.pointer (some { block := W0.heap.size, off := 0 }), Value.pointer (some { block := W0.heap.size + 1, off := 0 }), x9, Value.pointer (some { block := b9, off := 0 }), Value.pointer (some { block := b9 + 1 + 1, off := 0 }), x12, x13, x14, x15, x16, x17, x18, x19, x20, x21, x22, x23, x24, x25, x26, x27, x28, x29, x30, x31, x32, x33, x34, x35, x36, x37, x38, x39, x40, x41, x42, x43, x44, x45, x46, x47, x48, x49, x50, x51, x52, x53, x54, x55, x56, x57, x58, x59, x60, x61, x62, x63, x64, x65, x66, x67, x68, x69, x70, x71, x72, x73, x74, x75, x76, x77, x78, x79, x80, x81, x82, x83, x84, x85, x86, x87, x88, x89, x90], defers := ds } W5)
    (hK : ∀ (x2 x3 x4 x5 x6 x9 x12 x13 x14 x15 x16 x17 x18 x19 x20 x21 x22 x23 x24 x25 x26 x27 x28 x29 x30 x31 x32 x33 x34 x35 x36 x37 x38 x39 x40 x41 x42 x43 x44 x45 x46 x47 x48 x49 x50 x51 x52 x53 x54 x55 x56 x57 x58 x59 x60 x61 x62 x63 x64 x65 x66 x67 x68 x69 x70 x71 x72 x73 x74 x75 x76 x77 x78 x79 x80 x81 x82 x83 x84 x85 x86 x87 x88 x89 x90 : Value), n ≠ 0 → q ≠ [] → K { tmps := #[Value.int IntKind.i64 (n : Int), Value.int IntKind.i64 (P : Int), x2, x3, x4, x5, x6, Value.pointer (some { block := W0.heap.size, off := 0 }), Value.pointer (some { block := W0.heap.size + 1, off := 0 }), x9, Value.pointer (some { block := b9, off := 0 }), Value.pointer (some { block := b9 + 1 + 1, off := 0 }), x12, x13, x14, x15, x16, x17, x18, x19, x20, x21, x22, x23, x24, x25, x26, x27, x28, x29, x30, x31, x32, x33, x34, x35, x36, x37, x38, x39, x40, x41, x42, x43, x44, x45, x46, x47, x48, x49, x50, x51, x52, x53, x54, x55, x56, x57, x58, x59, x60, x61, x62, x63, x64, x65, x66, x67, x68, x69, x70, x71, x72, x73, x74, x75, x76, x77, x78, x79, x80, x81, x82, x83, x84, x85, x86, x87, x88, x89, x90], defers := ds } W5) :
    (fstC roundC).wpIn Fence.wide 8 Tryd.prog (Exit.then K Q') { tmps := #[Value.int IntKind.i64 (n : Int), Value.int IntKind.i64 (P : Int), x2, x3, x4, x5, x6, Value.pointer (some { block := W0.heap.size, off := 0 }), Value.pointer (some { block := W0.heap.size + 1, off := 0 }), x9, Value.pointer (some { block := b9, off := 0 }), Value.pointer (some { block := b9 + 1 + 1, off := 0 }), x12, x13, x14, x15, x16, x17, x18, x19, x20, x21, x22, x23, x24, x25, x26, x27, x28, x29, x30, x31, x32, x33, x34, x35, x36, x37, x38, x39, x40, x41, x42, x43, x44, x45, x46, x47, x48, x49, x50, x51, x52, x53, x54, x55, x56, x57, x58, x59, x60, x61, x62, x63, x64, x65, x66, x67, x68, x69, x70, x71, x72, x73, x74, x75, x76, x77, x78, x79, x80, x81, x82, x83, x84, x85, x86, x87, x88, x89, x90], defers := ds } W5 := by
  obtain ⟨c0, hc0⟩ : ∃ c0, fstC roundC = c0 := ⟨_, rfl⟩
  have hc := hc0
  simp only [roundC, unloop, codeOf, Tryd.f29, findBlk, Option.or_some, Option.none_or, Option.or_none, if_true, if_false, Nat.reduceEqDiff, reduceIte, Option.getD_some, sndC, fstC] at hc
  rw [hc0]
  clear hc0
  subst hc
  have hans := h.answer
  obtain ⟨A, cap, hv, hcap⟩ := q_slice h.row
  have hc11 := h.box11.cell 0 (v := v) rfl
  rw [hv] at hc11
  have heq := pos_eq (vp_start n P (by omega)) (vp_goal n P (by omega)) hn hP8 W5
  have hb8 := h.box8
  have hb7 := h.box7
  rw [nth_goal] at heq
  obtain ⟨sm, hsm⟩ : ∃ m, nth (startP n) = m := ⟨_, rfl⟩
  obtain ⟨g, hg⟩ : ∃ g, goalTo P n = g := ⟨_, rfl⟩
  rw [hsm, hg] at heq
  rw [hsm] at hb7
  rw [hg] at hb8
  obtain ⟨q0, q1, q2, q3, q4, q5, q6, q7, q8, q9, q10, q11, q12, q13, q14, q15⟩ := pos_cells hb7
  obtain ⟨r0, r1, r2, r3, r4, r5, r6, r7, r8, r9, r10, r11, r12, r13, r14, r15⟩ := pos_cells hb8
  unfold posF at heq
  have HX := Aside0.mk hX
  have HK := Aside0.mk hK
  have HA := Aside0.mk hans
  clear hX hK hans h hv hb7 hb8 hg hsm hcap
  by_cases hn0 : n = 0
  · have he1 : decide (startP n = goalP n P) = true := by subst hn0; rfl
    rw [he1] at heq
    have HN := Aside0.mk hn0
    clear hn0 he1
    gi_wp2
    exact HX.out _ _ _ _ _ _ _ _ _ _ _ _ _ _ _ _ _ _ _ _ _ _ _ _ _ _ _ _ _ _ _ _ _ _ _ _ _ _ _ _ _ _ _ _ _ _ _ _ _ _ _ _ _ _ _ _ _ _ _ _ _ _ _ _ _ _ _ _ _ _ _ _ _ _ _ _ _ _ _ _ _ _ _ _ _ (HA.out (.inl HN.out))
  · have he1 : decide (startP n = goalP n P) = false := by simpa using start_goal (by omega) hn0
    rw [he1] at heq
    have HN := Aside0.mk hn0
    clear hn0 he1
    cases q with
    | nil =>
      simp only [List.length_nil] at hc11
      gi_wp2
      exact HX.out _ _ _ _ _ _ _ _ _ _ _ _ _ _ _ _ _ _ _ _ _ _ _ _ _ _ _ _ _ _ _ _ _ _ _ _ _ _ _ _ _ _ _ _ _ _ _ _ _ _ _ _ _ _ _ _ _ _ _ _ _ _ _ _ _ _ _ _ _ _ _ _ _ _ _ _ _ _ _ _ _ _ _ _ _ (HA.out (.inr (by first | rfl | trivial)))
    | cons s q =>
      simp only [List.length_cons] at hc11
      have hlen : ((q.length + 1 : Nat) : Int) > 0 := by omega
      gi_wp2
      exact HK.out _ _ _ _ _ _ _ _ _ _ _ _ _ _ _ _ _ _ _ _ _ _ _ _ _ _ _ _ _ _ _ _ _ _ _ _ _ _ _ _ _ _ _ _ _ _ _ _ _ _ _ _ _ _ _ _ _ _ _ _ _ _ _ _ _ _ _ _ _ _ _ _ _ _ _ _ _ _ _ _ _ _ _ _ _ HN.out (by simp)

end Go.Proofs.YtnaaomhmoamfpaaDoor.G
/- Fewest: what one step of the search does: the queue's head taken. -/
namespace Go.Proofs.YtnaaomhmoamfpaaDoor.G
set_option linter.unusedVariables false
set_option linter.unusedSimpArgs false
set_option linter.unusedSectionVars false
open Go.Proofs.YtnaaomhmoamfpaaDoor.Q Go.Proofs.YtnaaomhmoamfpaaDoor.Hn Go.Proofs.YtnaaomhmoamfpaaDoor.K Go.Proofs.YtnaaomhmoamfpaaDoor.It Go.Proofs.YtnaaomhmoamfpaaDoor.Bf
open Go.RowKit Go.Shelf Go.Proofs.YtnaaomhmoamfpaaDoorW.PrintWords Go.Proofs.YtnaaomhmoamfpaaDoorW.PrintLast Go.Proofs.YtnaaomhmoamfpaaDoorW.PrintMore
attribute [local go_sem] Oper.semAt_some

set_option maxRecDepth 100000 in
set_option maxHeartbeats 4000000 in
theorem search_take (B : Code) (n P : Nat) (hn : n ≤ 16) (hP3 : 3 ≤ P) (hP8 : P ≤ 8) (W0 W5 : World) (b9 k : Nat) (S : Se (List Int)) (s : List Int) (q L : List (List Int)) (v : Value) (h : Hd n P W0 W5 b9 k S (s :: q) L v) (hn0 : n ≠ 0) (ds : List Deferred) (x2 x3 x4 x5 x6 x9 x12 x13 x14 x15 x16 x17 x18 x19 x20 x21 x22 x23 x24 x25 x26 x27 x28 x29 x30 x31 x32 x33 x34 x35 x36 x37 x38 x39 x40 x41 x42 x43 x44 x45 x46 x47 x48 x49 x50 x51 x52 x53 x54 x55 x56 x57 x58 x59 x60 x61 x62 x63 x64 x65 x66 x67 x68 x69 x70 x71 x72 x73 x74 x75 x76 x77 x78 x79 x80 x81 x82 x83 x84 x85 x86 x87 x88 x89 x90 : Value)
    (Q' : Exit → Act → World → Prop)
    (hK : ∀ (W6 : World) (b12 : Nat) (v1 : Value) (x2 x3 x4 x5 x6 x9 x13 x14 x15 x16 x17 x18 x19 x20 x21 x22 x23 x24 x25 x26 x27 x28 x29 x30 x31 x32 x33 x34 x35 x36 x37 x38 x39 x40 x41 x42 x43 x44 x45 x46 x47 x48 x49 x50 x51 x52 x53 x54 x55 x56 x57 x58 x59 x60 x62 x63 x64 x65 x66 x67 x68 x69 x70 x71 x72 x73 x74 x75 x76 x77 x78 x79 x80 x81 x82 x83 x84 x85 x86 x87 x88 x89 x90 : Value), b12 = W5.heap.size → RX W5 W6 → Bd n P W0 W6 b9 b12 k s [] S q L v1 → Blk W6 (b12 + 1) #[.slice (some ⟨b12, 0, none⟩) n 16] 46 → Blk W6 (b12 + 2) #[.int .i64 (P : Int)] 3 →
      B.wpIn Fence.wide 8 Tryd.prog Q' { tmps := #[Value.int IntKind.i64 (n : Int), Value.int IntKind.i64 (P : Int), x2, x3, x4, x5, x6, Value.pointer (some { block := W0.heap.size, off := 0 }), Value.pointer (some { block := W0.heap.size + 1, off := 0 }), x9, Value.pointer (some { block := b9, off := 0 }), Value.pointer (some { block := b9 + 1 + 1, off := 0 }), Value.pointer (some { block := b12, off := 0 }), x13, x14, x15, x16, x17, x18, x19, x20, x21, x22, x23, x24, x25, x26, x27, x28, x29, x30, x31, x32, x33, x34, x35, x36, x37, x38, x39, x40, x41, x42, x43, x44, x45, x46, x47, x48, x49, x50, x51, x52, x53, x54, x55, x56, x57, x58, x59, x60, Value.func (.func 91) #[] #[.pointer (some ⟨b12 + 1, 0, none⟩), .pointer (some ⟨b12 + 2, 0, none⟩)], x62, x63, x64, x65, x66, x67, x68, x69, x70, x71, x72, x73, x74, x75, x76, x77, x78, x79, x80, x81, x82, x83, x84, x85, x86, x87, x88, x89, x90], defers := ds } W6) :
    (Code.seq (fstC takeC) (.seq (fstC (sndC takeC)) (.seq (fstC (sndC (sndC takeC))) B))).wpIn Fence.wide 8 Tryd.prog Q' { tmps := #[Value.int IntKind.i64 (n : Int), Value.int IntKind.i64 (P : Int), x2, x3, x4, x5, x6, Value.pointer (some { block := W0.heap.size, off := 0 }), Value.pointer (some { block := W0.heap.size + 1, off := 0 }), x9, Value.pointer (some { block := b9, off := 0 }), Value.pointer (some { block := b9 + 1 + 1, off := 0 }), x12, x13, x14, x15, x16, x17, x18, x19, x20, x21, x22, x23, x24, x25, x26, x27, x28, x29, x30, x31, x32, x33, x34, x35, x36, x37, x38, x39, x40, x41, x42, x43, x44, x45, x46, x47, x48, x49, x50, x51, x52, x53, x54, x55, x56, x57, x58, x59, x60, x61, x62, x63, x64, x65, x66, x67, x68, x69, x70, x71, x72, x73, x74, x75, x76, x77, x78, x79, x80, x81, x82, x83, x84, x85, x86, x87, x88, x89, x90], defers := ds } W5 := by
  obtain ⟨c0, hc0⟩ : ∃ c0, fstC takeC = c0 := ⟨_, rfl⟩
  obtain ⟨c1, hc1⟩ : ∃ c1, fstC (sndC takeC) = c1 := ⟨_, rfl⟩
  obtain ⟨c2, hc2⟩ : ∃ c2, fstC (sndC (sndC takeC)) = c2 := ⟨_, rfl⟩
  rw [hc0, hc1, hc2]
  simp only [takeC, unloop, codeOf, Tryd.f29, findBlk, Option.or_some, Option.none_or, Option.or_none, if_true, if_false, Nat.reduceEqDiff, reduceIte, Option.getD_some, Option.getD_none, sndC, fstC] at hc0 hc1 hc2
  subst hc0
  subst hc1
  subst hc2
  obtain ⟨A, cap, hv, hcap⟩ := q_slice h.row
  have hrow := h.row
  rw [hv] at hrow
  simp only [List.length_cons] at hrow hcap
  obtain ⟨gq, o, hA, hbg, hgl, hcells⟩ := row_head hrow
  subst hA
  have hc11 := h.box11.cell 0 (v := v) rfl
  rw [hv] at hc11
  simp only [List.length_cons] at hc11
  have hgcell := q_typed h.row gq (by rw [hv]; rfl)
  have htail := row_tail hrow
  have hpop : ∀ W, (Instr.slice 99 (.slice (some ⟨gq, o, none⟩) (q.length + 1) cap) (some (.int .i64 1)) none none).run Tryd.prog W = .ok (.slice (if cap = 1 then some (⟨gq, o, none⟩ : Addr) else some ((⟨gq, o, none⟩ : Addr).add 16)) q.length (cap - 1)) W := fun W => pop_run ⟨gq, o, none⟩ q.length cap (by omega) W
  obtain ⟨sm, hsm⟩ : ∃ sm, nth s = sm := ⟨_, rfl⟩
  rw [hsm] at hcells
  have z0 := hcells 0 (by omega)
  rw [Nat.add_zero] at z0
  have z1 := hcells 1 (by omega)
  have z2 := hcells 2 (by omega)
  have z3 := hcells 3 (by omega)
  have z4 := hcells 4 (by omega)
  have z5 := hcells 5 (by omega)
  have z6 := hcells 6 (by omega)
  have z7 := hcells 7 (by omega)
  have z8 := hcells 8 (by omega)
  have z9 := hcells 9 (by omega)
  have z10 := hcells 10 (by omega)
  have z11 := hcells 11 (by omega)
  have z12 := hcells 12 (by omega)
  have z13 := hcells 13 (by omega)
  have z14 := hcells 14 (by omega)
  have z15 := hcells 15 (by omega)
  have hcut := cut16 n W5.heap.size hn
  have hf11 := h.box11.free 0
  have hl11 := h.box11.lt
  have hlb := h.below.size
  generalize hv1 : (if cap = 1 then some (⟨gq, o, none⟩ : Addr) else some ((⟨gq, o, none⟩ : Addr).add 16)) = A1 at hpop htail
  have hown1 : (Value.slice A1 q.length (cap - 1)).ownBlock = some gq := by rw [← hv1]; split <;> rfl
  have HSM := Aside0.mk hsm
  have HTL := Aside0.mk htail
  have HH := Aside0.mk h
  have HV := Aside0.mk hv
  have HG := Aside0.mk hgcell
  have HO := Aside0.mk hown1
  have HK := Aside0.mk hK
  have hlen : (0 : Int) < ((q.length + 1 : Nat) : Int) := by omega
  have HN := Aside0.mk hn0
  clear hsm hrow htail hn0 hcells hv1 h hv hgcell hown1 hK
  gi_wp2_with (refine ⟨trivial, ?_⟩; gi_at_call 67; refine CallsIn.mono (moves_calls Fence.wide _ trivial rfl _ _ _ _ _) ?_; rintro e w' ⟨rfl, rfl⟩)
  obtain ⟨Wa, hWa⟩ : ∃ Wa, W5.setCell ⟨b9 + 1 + 1, 0, none⟩ (Value.slice A1 q.length (cap - 1)) = Wa := ⟨_, rfl⟩
  rw [hWa]
  have hsa : Wa.heap.size = W5.heap.size := by rw [← hWa]; simp [World.setCell]
  obtain ⟨W6, hW6⟩ : ∃ W6, ((Wa.alloc (.cells (posF sm) 90)).alloc (.cells #[.slice (some ⟨W5.heap.size, 0, none⟩) n 16] 46)).alloc (.cells #[.int .i64 (P : Int)] 3) = W6 := ⟨_, rfl⟩
  have e6 := hW6
  unfold posF at e6
  rw [e6]
  have hBa : Below Wa.heap.size Wa W6 := by rw [← hW6]; exact (((Below.refl _ _).alloc (Nat.le_refl _) _).alloc (by simp) _).alloc (by simp; omega) _
  have hs6 : W6.heap.size = W5.heap.size + 3 := by rw [← hW6]; simp [hsa]
  have hgne : gq ≠ b9 + 1 + 1 := fun e => by
    obtain ⟨_, cells, hcl⟩ := HG.out
    have e2 := HH.out.box11.symm.trans (e ▸ hcl)
    injection e2 with e2
    injection e2 with _ e3
    cases e3
  have hblk : ∀ (j t : Nat) (cs : Array Value), j ≠ b9 + 1 + 1 → Blk W5 j cs t → Blk W6 j cs t := fun j t cs hj hb => by
    have h1 : Blk Wa j cs t := by rw [← hWa]; exact hb.setOther (by simpa using hj) _
    exact h1.below hBa h1.lt
  have hle := HH.out.le
  refine HK.out W6 W5.heap.size (.slice A1 q.length (cap - 1)) _ _ _ _ _ _ _ _ _ _ _ _ _ _ _ _ _ _ _ _ _ _ _ _ _ _ _ _ _ _ _ _ _ _ _ _ _ _ _ _ _ _ _ _ _ _ _ _ _ _ _ _ _ _ _ _ _ _ _ _ _ _ _ _ _ _ _ _ _ _ _ _ _ _ _ _ _ _ _ _ _ _ _ rfl ?_ ⟨?_, HH.out.goal.resolve_left HN.out, ?_, ?_, ?_, ?_, ?_, ?_, ?_, ?_, ?_, ?_, hle, hl11, by omega⟩ ?_ ?_
  · refine RX.below (A' := Wa) ?_ hBa
    rw [← hWa]
    exact (RX.refl _).set (fun o ho => by have e := ho.symm.trans HH.out.box11; injection e with e; rw [e]; rfl)
  · exact HH.out.rd.pop
  · have := HH.out.k_
    simp only [List.length_cons] at this
    omega
  · refine Seen.mapsTo (W := Wa) ?_ (hBa.block _ (by rw [hsa]; omega))
    rw [← hWa]
    exact HH.out.map_.set (by simp; omega) _
  · refine q_move HTL.out (fun j hj => ?_)
    rw [HO.out] at hj
    injection hj with hj
    subst hj
    rw [hBa.block _ (by omega), ← hWa]
    exact Below.heap_setCell _ _ _ _ (by simpa using hgne)
  · intro j hj
    rw [HO.out] at hj
    injection hj with hj
    subst hj
    exact .inl hgl
  · have h1 : Blk Wa (b9 + 1 + 1) #[.slice A1 q.length (cap - 1)] 99 := by rw [← hWa]; exact HH.out.box11.set 0 _
    exact h1.below hBa h1.lt
  · exact hblk _ _ _ (by omega) HH.out.box10
  · exact hblk _ _ _ (by omega) HH.out.box8
  · exact hblk _ _ _ (by omega) HH.out.box7
  · have h1 : Blk (Wa.alloc (.cells (posF sm) 90)) Wa.heap.size (posF sm) 90 := Blk.new _ _ _
    rw [hsa] at h1
    rw [HSM.out, ← hW6]
    exact (h1.alloc _).alloc _
  · refine Below.trans (b := Wa) ?_ (hBa.mono (by omega))
    rw [← hWa]
    exact HH.out.below.setCell (by simp; omega) _
  · have h1 := Blk.new (Wa.alloc (.cells (posF sm) 90)) #[.slice (some ⟨W5.heap.size, 0, none⟩) n 16] 46
    rw [World.size_alloc, hsa] at h1
    rw [← hW6]
    exact h1.alloc _
  · have h1 := Blk.new ((Wa.alloc (.cells (posF sm) 90)).alloc (.cells #[.slice (some ⟨W5.heap.size, 0, none⟩) n 16] 46)) #[.int .i64 (P : Int)] 3
    rw [World.size_alloc, World.size_alloc, hsa] at h1
    rw [← hW6]
    exact h1
end Go.Proofs.YtnaaomhmoamfpaaDoor.G
/- Fewest: what one step of the search does: the range over the moves, the loop. -/
namespace Go.Proofs.YtnaaomhmoamfpaaDoor.G
set_option linter.unusedVariables false
set_option linter.unusedSimpArgs false
set_option linter.unusedSectionVars false
open Go.Proofs.YtnaaomhmoamfpaaDoor.Q Go.Proofs.YtnaaomhmoamfpaaDoor.Hn Go.Proofs.YtnaaomhmoamfpaaDoor.K Go.Proofs.YtnaaomhmoamfpaaDoor.It Go.Proofs.YtnaaomhmoamfpaaDoor.Bf
open Go.RowKit Go.Shelf Go.Proofs.YtnaaomhmoamfpaaDoorW.PrintWords Go.Proofs.YtnaaomhmoamfpaaDoorW.PrintLast Go.Proofs.YtnaaomhmoamfpaaDoorW.PrintMore
attribute [local go_sem] Oper.semAt_some

def mark (r : Nat) : Deferred := { target := .collected r, args := #[] }
/-- The marks that the ranges have left. -/
def Mk (B : Nat) (rs : List Nat) (W : World) : Prop := rs.Nodup ∧ ∀ r, r ∈ rs → B ≤ r ∧ W.heap[r]? = some (.deferred (some []))
theorem Mk.rx {B : Nat} {rs : List Nat} {W W' : World} (h : Mk B rs W) (hx : RX W W') : Mk B rs W' := ⟨h.1, fun r hr => ⟨(h.2 r hr).1, hx.same _ _ (h.2 r hr).2 rfl⟩⟩
theorem Mk.step {B T N : Nat} {rs : List Nat} {W W' : World} (h : Mk B rs W) (hN : ∀ r, r ∈ rs → r < N) (hx : Step T N W W') : Mk B rs W' := ⟨h.1, fun r hr => ⟨(h.2 r hr).1, hx.same _ _ (h.2 r hr).2 (.inl (hN r hr))⟩⟩
theorem Mk.lt {B : Nat} {rs : List Nat} {W : World} (h : Mk B rs W) : ∀ r, r ∈ rs → r < W.heap.size := fun r hr => (Array.getElem?_eq_some_iff.1 (h.2 r hr).2).1
theorem Mk.cons {B D : Nat} {rs : List Nat} {W : World} (h : Mk B rs W) (hn : ∀ r, r ∈ rs → r < D) (hB : B ≤ D) (hD : W.heap[D]? = some (.deferred (some []))) : Mk B (D :: rs) W :=
  ⟨List.nodup_cons.2 ⟨fun hm => Nat.lt_irrefl _ (hn D hm), h.1⟩, fun r hr => by
    rcases List.mem_cons.1 hr with rfl | hr
    · exact ⟨hB, hD⟩
    · exact h.2 r hr⟩

theorem mem_moves {l : List Int} {P : Nat} {x : Nat × Nat} (h : x ∈ movesL l P) : x.1 < l.length ∧ x.2 < P := by
  unfold movesL movesIn at h
  obtain ⟨i, hi, hx⟩ := List.mem_flatMap.1 h
  unfold movesAt at hx
  split at hx
  · cases hx
  · unfold movesTo at hx
    obtain ⟨t, ht, rfl⟩ := List.mem_map.1 hx
    have := (List.mem_filter.1 ht).1
    exact ⟨by simpa using hi, by simpa using this⟩
theorem pos_F {W : World} {b : Nat} {s : List Int} (hb : Blk W b (posF (nth s)) 90) (hs : s.length ≤ 16) : Kd.F (Kd.int .i64) W (fun k => k = b) (some ⟨b, 0, none⟩) s.length s := fun W' hW => by
  have h' : Blk W' b (posF (nth s)) 90 := (hW b rfl hb.lt).trans hb
  refine Kd.C_of_reads (enc := Value.int .i64) (d := (0 : Int)) (h1 := fun _ => rfl) ?_
  refine ⟨rfl, by omega, fun _ => ⟨⟨b, 0, none⟩, rfl, fun j hj => ?_⟩⟩
  rw [Addr.add_mid, Nat.zero_add, h'.cell j (posF_get _ _ (by omega))]
  rfl

noncomputable def asgC : Code := match (findBlk 6 (codeOf Tryd.f29)).getD .skip with
  | .rangeFunc _ _ a _ => a
  | c => c
theorem range_eq : findBlk 6 (codeOf Tryd.f29) = some (.rangeFunc (.tmp 61) #[62, 63] asgC (.block 7 (stepC 0))) := by kernel_rfl

set_option maxRecDepth 100000 in
set_option maxHeartbeats 4000000 in
theorem search_range (n P : Nat) (hn : n ≤ 16) (hP3 : 3 ≤ P) (hP8 : P ≤ 8) (hle : P ^ n ≤ 70000) (W0 W6 : World) (b9 b12 k : Nat) (hk2 : k ≤ 200000) (S : Se (List Int)) (s : List Int) (q L : List (List Int)) (v : Value) (h : Bd n P W0 W6 b9 b12 k s [] S q L v)
    (hb1 : Blk W6 (b12 + 1) #[.slice (some ⟨b12, 0, none⟩) n 16] 46) (hb2 : Blk W6 (b12 + 2) #[.int .i64 (P : Int)] 3) (rs : List Nat) (hM : Mk W0.heap.size rs W6) (x2 x3 x4 x5 x6 x9 x13 x14 x15 x16 x17 x18 x19 x20 x21 x22 x23 x24 x25 x26 x27 x28 x29 x30 x31 x32 x33 x34 x35 x36 x37 x38 x39 x40 x41 x42 x43 x44 x45 x46 x47 x48 x49 x50 x51 x52 x53 x54 x55 x56 x57 x58 x59 x60 x62 x63 x64 x65 x66 x67 x68 x69 x70 x71 x72 x73 x74 x75 x76 x77 x78 x79 x80 x81 x82 x83 x84 x85 x86 x87 x88 x89 x90 : Value)
    (Q : Exit → Act → World → Prop)
    (hgo : ∀ (W' : World) (D : Nat), Mk W0.heap.size (D :: rs) W' → (∃ k' S q L v, k' < k ∧ Hd n P W0 W' b9 k' S q L v) → Q .normal { tmps := #[Value.int IntKind.i64 (n : Int), Value.int IntKind.i64 (P : Int), x2, x3, x4, x5, x6, Value.pointer (some { block := W0.heap.size, off := 0 }), Value.pointer (some { block := W0.heap.size + 1, off := 0 }), x9, Value.pointer (some { block := b9, off := 0 }), Value.pointer (some { block := b9 + 1 + 1, off := 0 }), Value.pointer (some { block := b12, off := 0 }), x13, x14, x15, x16, x17, x18, x19, x20, x21, x22, x23, x24, x25, x26, x27, x28, x29, x30, x31, x32, x33, x34, x35, x36, x37, x38, x39, x40, x41, x42, x43, x44, x45, x46, x47, x48, x49, x50, x51, x52, x53, x54, x55, x56, x57, x58, x59, x60, Value.func (.func 91) #[] #[.pointer (some ⟨b12 + 1, 0, none⟩), .pointer (some ⟨b12 + 2, 0, none⟩)], x62, x63, x64, x65, x66, x67, x68, x69, x70, x71, x72, x73, x74, x75, x76, x77, x78, x79, x80, x81, x82, x83, x84, x85, x86, x87, x88, x89, x90], defers := (D :: rs).map mark } W')
    (hend : ∀ (W' : World) (D : Nat), Mk W0.heap.size (D :: rs) W' → Fin n P W0 W' b9 → Q (.exit 4) { tmps := #[Value.int IntKind.i64 (n : Int), Value.int IntKind.i64 (P : Int), x2, x3, x4, x5, x6, Value.pointer (some { block := W0.heap.size, off := 0 }), Value.pointer (some { block := W0.heap.size + 1, off := 0 }), x9, Value.pointer (some { block := b9, off := 0 }), Value.pointer (some { block := b9 + 1 + 1, off := 0 }), Value.pointer (some { block := b12, off := 0 }), x13, x14, x15, x16, x17, x18, x19, x20, x21, x22, x23, x24, x25, x26, x27, x28, x29, x30, x31, x32, x33, x34, x35, x36, x37, x38, x39, x40, x41, x42, x43, x44, x45, x46, x47, x48, x49, x50, x51, x52, x53, x54, x55, x56, x57, x58, x59, x60, Value.func (.func 91) #[] #[.pointer (some ⟨b12 + 1, 0, none⟩), .pointer (some ⟨b12 + 2, 0, none⟩)], x62, x63, x64, x65, x66, x67, x68, x69, x70, x71, x72, x73, x74, x75, x76, x77, x78, x79, x80, x81, x82, x83, x84, x85, x86, x87, x88, x89, x90], defers := (D :: rs).map mark } W') :
    (Code.block 6 (.rangeFunc (.tmp 61) #[62, 63] asgC (.block 7 (stepC 0)))).wpIn Fence.wide 8 Tryd.prog Q { tmps := #[Value.int IntKind.i64 (n : Int), Value.int IntKind.i64 (P : Int), x2, x3, x4, x5, x6, Value.pointer (some { block := W0.heap.size, off := 0 }), Value.pointer (some { block := W0.heap.size + 1, off := 0 }), x9, Value.pointer (some { block := b9, off := 0 }), Value.pointer (some { block := b9 + 1 + 1, off := 0 }), Value.pointer (some { block := b12, off := 0 }), x13, x14, x15, x16, x17, x18, x19, x20, x21, x22, x23, x24, x25, x26, x27, x28, x29, x30, x31, x32, x33, x34, x35, x36, x37, x38, x39, x40, x41, x42, x43, x44, x45, x46, x47, x48, x49, x50, x51, x52, x53, x54, x55, x56, x57, x58, x59, x60, Value.func (.func 91) #[] #[.pointer (some ⟨b12 + 1, 0, none⟩), .pointer (some ⟨b12 + 2, 0, none⟩)], x62, x63, x64, x65, x66, x67, x68, x69, x70, x71, x72, x73, x74, x75, x76, x77, x78, x79, x80, x81, x82, x83, x84, x85, x86, x87, x88, x89, x90], defers := rs.map mark } W6 := by
  have hvs : Vp n P s := by
    obtain ⟨ds, h1, h2⟩ := h.rm.some_
    exact h.rm.v s (by rw [h1]; rfl)
  have hlen : s.length = n := hvs.1
  have hsz := h.size
  have hlt := h.lt
  have hle0 := h.le
  have hbelow := h.below.size
  have hMl := hM.lt
  refine wpIn_block ?_
  refine range_outer (T := 127) (keep := keepS b12) (L := movesL s P) rfl (by omega) (gf := 91) (lb := #[.pointer (some ⟨b12 + 1, 0, none⟩), .pointer (some ⟨b12 + 2, 0, none⟩)]) rfl trivial (enters_of Tryd.func91 (by kernel_rfl) rfl)
    (encs := fun (x : Nat × Nat) => #[.int .i64 (x.1 : Int), .int .i64 (x.2 : Int)])
    (moves_it Fence.wide 7 trivial rfl (by omega) (fun k => k = b12) (b12 + 1) (b12 + 2) P 16 ⟨b12, 0, none⟩ s (by omega) hP8 (fun i hi => hvs.2 i (by omega)) W6 (by rw [hlen]; exact hb1) hb2 (pos_F h.box12 (by omega)) (fun k hk => by subst hk; omega))
    (Below.refl _ _) (fun k hk => by rcases hk with (hk | hk) | hk <;> omega) (fun _ => rfl)
    (fun pre W => Isr n P W0 b9 b12 k s pre W ∧ Mk W0.heap.size rs W) (fun c pre W => Xsr n P W0 b9 c pre W ∧ Mk W0.heap.size rs W)
    (fun pre A A' hs hst => by
      obtain ⟨⟨S, q, L, v, hB⟩, hm⟩ := hs
      exact ⟨⟨S, q, L, v, .mk (hB.out.step hst hbelow)⟩, hm.step hMl hst⟩)
    (fun c pre A A' hs hst => by
      obtain ⟨⟨hc, hB⟩, hm⟩ := hs
      exact ⟨⟨hc, .mk (hB.out.step hst hbelow)⟩, hm.step hMl hst⟩)
    ⟨⟨S, q, L, v, .mk h⟩, hM⟩
    (fun x a' A => ∃ (x2 x3 x4 x5 x6 x7 x9 x15 x16 x17 x18 x19 x20 x21 x22 x23 x24 x25 x26 x27 x28 x29 x30 x31 x32 x33 x34 x35 x36 x37 x38 x39 x40 x41 x42 x43 x44 x45 x46 x47 x48 x49 x50 x51 x52 x53 x54 x55 x56 x57 x58 x59 x60 x61 x62 x63 x64 x65 x66 x67 x68 x69 x70 x71 x72 x73 x74 x75 x76 x77 x78 x79 x80 x81 x82 x83 x84 x85 x86 x87 x88 x89 x90 : Value), a' = { tmps := #[Value.int IntKind.i64 (n : Int), Value.int IntKind.i64 (P : Int), x2, x3, x4, x5, x6, x7, Value.pointer (some { block := W0.heap.size + 1, off := 0 }), x9, Value.pointer (some { block := b9, off := 0 }), Value.pointer (some { block := b9 + 1 + 1, off := 0 }), Value.pointer (some { block := b12, off := 0 }), Value.int IntKind.i64 (x.1 : Int), Value.int IntKind.i64 (x.2 : Int), x15, x16, x17, x18, x19, x20, x21, x22, x23, x24, x25, x26, x27, x28, x29, x30, x31, x32, x33, x34, x35, x36, x37, x38, x39, x40, x41, x42, x43, x44, x45, x46, x47, x48, x49, x50, x51, x52, x53, x54, x55, x56, x57, x58, x59, x60, x61, x62, x63, x64, x65, x66, x67, x68, x69, x70, x71, x72, x73, x74, x75, x76, x77, x78, x79, x80, x81, x82, x83, x84, x85, x86, x87, x88, x89, x90], defers := [] }) (fun x a' A A' hx _ => hx) ?assign ?body ?done ?stop
  case assign =>
    intro l pre x rest W K hL hi hr hK
    obtain ⟨c0, hc0⟩ : ∃ c0, asgC = c0 := ⟨_, rfl⟩
    have hc := hc0
    unfold asgC at hc
    simp only [codeOf, Tryd.f29, findBlk, Option.or_some, Option.none_or, Option.or_none, if_true, if_false, Nat.reduceEqDiff, reduceIte, Option.getD_some, Option.getD_none] at hc
    rw [hc0]
    clear hc0
    subst hc
    have HK := Aside0.mk hK
    have HI := Aside0.mk hi
    clear hK hr hL hi hgo hend h hb1 hb2 hM hMl hvs
    simp only [List.zip_toArray, List.zip_cons_cons, List.zip_nil_left]
    gi_wp2
    exact HK.out _ _ (RB.refl _ _ _) HI.out ⟨_, _, _, _, _, _, _, _, _, _, _, _, _, _, _, _, _, _, _, _, _, _, _, _, _, _, _, _, _, _, _, _, _, _, _, _, _, _, _, _, _, _, _, _, _, _, _, _, _, _, _, _, _, _, _, _, _, _, _, _, _, _, _, _, _, _, _, _, _, _, _, _, _, _, _, _, _, _, _, _, _, _, _, rfl⟩
  case body =>
    rintro l pre ⟨d, tq⟩ rest a' W hL hle2 hr ⟨⟨S', q', L', v', hB'⟩, hM'⟩ ⟨x2, x3, x4, x5, x6, x7, x9, x15, x16, x17, x18, x19, x20, x21, x22, x23, x24, x25, x26, x27, x28, x29, x30, x31, x32, x33, x34, x35, x36, x37, x38, x39, x40, x41, x42, x43, x44, x45, x46, x47, x48, x49, x50, x51, x52, x53, x54, x55, x56, x57, x58, x59, x60, x61, x62, x63, x64, x65, x66, x67, x68, x69, x70, x71, x72, x73, x74, x75, x76, x77, x78, x79, x80, x81, x82, x83, x84, x85, x86, x87, x88, x89, x90, rfl⟩
    have hmm : (d, tq) ∈ movesL s P := by rw [hL]; simp
    obtain ⟨hd, hto⟩ := mem_moves hmm
    refine wpIn_mono (search_body l n P hn hP3 hP8 hle W0 W b9 b12 k s pre d tq (by rw [← hlen]; exact hd) hto (List.mem_map.2 ⟨_, hmm, rfl⟩) hk2 S' q' L' v' hB'.out _ _ _ _ _ _ _ _ _ _ _ _ _ _ _ _ _ _ _ _ _ _ _ _ _ _ _ _ _ _ _ _ _ _ _ _ _ _ _ _ _ _ _ _ _ _ _ _ _ _ _ _ _ _ _ _ _ _ _ _ _ _ _ _ _ _ _ _ _ _ _ _ _ _ _ _ _ _ _ _ _ _ _) ?_
    rintro e a3 W3 hp
    cases e with
    | normal => exact ⟨hp.1, hp.2, hM'.rx hp.1.rx⟩
    | ret => exact ⟨hp.1, hp.2, hM'.rx hp.1⟩
    | exit id => exact ⟨hp.1, hp.2, hM'.rx hp.1⟩
    | goto t => exact ⟨hp.1, hp.2, hM'.rx hp.1⟩
    | panic ch => exact hp
    | outgrown => exact hp
  case done =>
    rintro D' W hD ⟨⟨S', q', L', v', hB'⟩, hM'⟩ hdef
    have hB := hB'.out
    have hk := hB.k_
    exact hgo W D' (hM'.cons (fun r hr => by have := hMl r hr; omega) (by omega) hdef) ⟨2 * (P ^ n - L'.length) + q'.length, S', q', L', v', hk, ⟨Rm.finish hB.rm, .inr hB.goal, rfl, by omega, hB.map_, hB.row, hB.box11, hB.box10, hB.box7, hB.box8, hB.below, hB.le⟩⟩
  case stop =>
    rintro D' c pre x rest W hL hD ⟨⟨hc, hB⟩, hM'⟩ hdef
    subst hc
    refine wpIn_exit ?_
    exact hend W D' (hM'.cons (fun r hr => by have := hMl r hr; omega) (by omega) hdef) hB.out

theorem round_eq : roundC = .seq (fstC roundC) (.block 5 (.seq (fstC takeC) (.seq (fstC (sndC takeC)) (.seq (fstC (sndC (sndC takeC))) (.block 6 (.rangeFunc (.tmp 61) #[62, 63] asgC (.block 7 (stepC 0)))))))) := by kernel_rfl

set_option maxRecDepth 100000 in
set_option maxHeartbeats 4000000 in
theorem search_loop (n P : Nat) (hn : n ≤ 16) (hP3 : 3 ≤ P) (hP8 : P ≤ 8) (hle : P ^ n ≤ 70000) (W0 W : World) (b9 : Nat) (hH : ∃ k S q L v, Hd n P W0 W b9 k S q L v) (x2 x3 x4 x5 x6 x9 x12 x13 x14 x15 x16 x17 x18 x19 x20 x21 x22 x23 x24 x25 x26 x27 x28 x29 x30 x31 x32 x33 x34 x35 x36 x37 x38 x39 x40 x41 x42 x43 x44 x45 x46 x47 x48 x49 x50 x51 x52 x53 x54 x55 x56 x57 x58 x59 x60 x61 x62 x63 x64 x65 x66 x67 x68 x69 x70 x71 x72 x73 x74 x75 x76 x77 x78 x79 x80 x81 x82 x83 x84 x85 x86 x87 x88 x89 x90 : Value) (Q : Exit → Act → World → Prop)
    (hend : ∀ (W' : World) (rs : List Nat) (x2 x3 x4 x5 x6 x9 x12 x13 x14 x15 x16 x17 x18 x19 x20 x21 x22 x23 x24 x25 x26 x27 x28 x29 x30 x31 x32 x33 x34 x35 x36 x37 x38 x39 x40 x41 x42 x43 x44 x45 x46 x47 x48 x49 x50 x51 x52 x53 x54 x55 x56 x57 x58 x59 x60 x61 x62 x63 x64 x65 x66 x67 x68 x69 x70 x71 x72 x73 x74 x75 x76 x77 x78 x79 x80 x81 x82 x83 x84 x85 x86 x87 x88 x89 x90 : Value), Mk W0.heap.size rs W' → Fin n P W0 W' b9 → Q .normal { tmps := #[Value.int IntKind.i64 (n : Int), Value.int IntKind.i64 (P : Int), x2, x3, x4, x5, x6, Value.pointer (some { block := W0.heap.size, off := 0 }), Value.pointer (some { block := W0.heap.size + 1, off := 0 }), x9, Value.pointer (some { block := b9, off := 0 }), Value.pointer (some { block := b9 + 1 + 1, off := 0 }), x12, x13, x14, x15, x16, x17, x18, x19, x20, x21, x22, x23, x24, x25, x26, x27, x28, x29, x30, x31, x32, x33, x34, x35, x36, x37, x38, x39, x40, x41, x42, x43, x44, x45, x46, x47, x48, x49, x50, x51, x52, x53, x54, x55, x56, x57, x58, x59, x60, x61, x62, x63, x64, x65, x66, x67, x68, x69, x70, x71, x72, x73, x74, x75, x76, x77, x78, x79, x80, x81, x82, x83, x84, x85, x86, x87, x88, x89, x90], defers := rs.map mark } W') :
    (Code.block 4 (.loop roundC)).wpIn Fence.wide 8 Tryd.prog Q { tmps := #[Value.int IntKind.i64 (n : Int), Value.int IntKind.i64 (P : Int), x2, x3, x4, x5, x6, Value.pointer (some { block := W0.heap.size, off := 0 }), Value.pointer (some { block := W0.heap.size + 1, off := 0 }), x9, Value.pointer (some { block := b9, off := 0 }), Value.pointer (some { block := b9 + 1 + 1, off := 0 }), x12, x13, x14, x15, x16, x17, x18, x19, x20, x21, x22, x23, x24, x25, x26, x27, x28, x29, x30, x31, x32, x33, x34, x35, x36, x37, x38, x39, x40, x41, x42, x43, x44, x45, x46, x47, x48, x49, x50, x51, x52, x53, x54, x55, x56, x57, x58, x59, x60, x61, x62, x63, x64, x65, x66, x67, x68, x69, x70, x71, x72, x73, x74, x75, x76, x77, x78, x79, x80, x81, x82, x83, x84, x85, x86, x87, x88, x89, x90], defers := [] } W := by
  refine wpIn_block ?_
  refine wpIn_loop (fun a w => ∃ (rs : List Nat) (x2 x3 x4 x5 x6 x9 x12 x13 x14 x15 x16 x17 x18 x19 x20 x21 x22 x23 x24 x25 x26 x27 x28 x29 x30 x31 x32 x33 x34 x35 x36 x37 x38 x39 x40 x41 x42 x43 x44 x45 x46 x47 x48 x49 x50 x51 x52 x53 x54 x55 x56 x57 x58 x59 x60 x61 x62 x63 x64 x65 x66 x67 x68 x69 x70 x71 x72 x73 x74 x75 x76 x77 x78 x79 x80 x81 x82 x83 x84 x85 x86 x87 x88 x89 x90 : Value), a = { tmps := #[Value.int IntKind.i64 (n : Int), Value.int IntKind.i64 (P : Int), x2, x3, x4, x5, x6, Value.pointer (some { block := W0.heap.size, off := 0 }), Value.pointer (some { block := W0.heap.size + 1, off := 0 }), x9, Value.pointer (some { block := b9, off := 0 }), Value.pointer (some { block := b9 + 1 + 1, off := 0 }), x12, x13, x14, x15, x16, x17, x18, x19, x20, x21, x22, x23, x24, x25, x26, x27, x28, x29, x30, x31, x32, x33, x34, x35, x36, x37, x38, x39, x40, x41, x42, x43, x44, x45, x46, x47, x48, x49, x50, x51, x52, x53, x54, x55, x56, x57, x58, x59, x60, x61, x62, x63, x64, x65, x66, x67, x68, x69, x70, x71, x72, x73, x74, x75, x76, x77, x78, x79, x80, x81, x82, x83, x84, x85, x86, x87, x88, x89, x90], defers := rs.map mark } ∧ (∃ k S q L v, Hd n P W0 w b9 k S q L v) ∧ Mk W0.heap.size rs w)
    (fun _ w => lst (fun k => ∃ S q L v, Hd n P W0 w b9 k S q L v)) ⟨[], _, _, _, _, _, _, _, _, _, _, _, _, _, _, _, _, _, _, _, _, _, _, _, _, _, _, _, _, _, _, _, _, _, _, _, _, _, _, _, _, _, _, _, _, _, _, _, _, _, _, _, _, _, _, _, _, _, _, _, _, _, _, _, _, _, _, _, _, _, _, _, _, _, _, _, _, _, _, _, _, _, _, _, _, _, rfl, hH, ⟨List.nodup_nil, fun r hr => by cases hr⟩⟩ ?_
  rintro a w ⟨rs, x2, x3, x4, x5, x6, x9, x12, x13, x14, x15, x16, x17, x18, x19, x20, x21, x22, x23, x24, x25, x26, x27, x28, x29, x30, x31, x32, x33, x34, x35, x36, x37, x38, x39, x40, x41, x42, x43, x44, x45, x46, x47, x48, x49, x50, x51, x52, x53, x54, x55, x56, x57, x58, x59, x60, x61, x62, x63, x64, x65, x66, x67, x68, x69, x70, x71, x72, x73, x74, x75, x76, x77, x78, x79, x80, x81, x82, x83, x84, x85, x86, x87, x88, x89, x90, rfl, ⟨k0, S0, q0, L0, v0, h0⟩, hM⟩
  obtain ⟨k, hk⟩ : ∃ k, k = lst (fun k => ∃ S q L v, Hd n P W0 w b9 k S q L v) := ⟨_, rfl⟩
  have hsp := lst_spec (R := fun k => ∃ S q L v, Hd n P W0 w b9 k S q L v) ⟨k0, S0, q0, L0, v0, h0⟩
  rw [← hk] at hsp
  obtain ⟨S, q, L, v, h⟩ := hsp
  clear h0 S0 q0 L0 v0 k0
  rw [round_eq]
  refine wpIn_seq_k (fun K hK => ?_)
  refine search_test n P hn hP3 hP8 W0 w b9 k S q L v h (rs.map mark) _ _ _ _ _ _ _ _ _ _ _ _ _ _ _ _ _ _ _ _ _ _ _ _ _ _ _ _ _ _ _ _ _ _ _ _ _ _ _ _ _ _ _ _ _ _ _ _ _ _ _ _ _ _ _ _ _ _ _ _ _ _ _ _ _ _ _ _ _ _ _ _ _ _ _ _ _ _ _ _ _ _ _ _ _ K _ ?_ ?_
  · intro x2 x3 x4 x5 x6 x9 x12 x13 x14 x15 x16 x17 x18 x19 x20 x21 x22 x23 x24 x25 x26 x27 x28 x29 x30 x31 x32 x33 x34 x35 x36 x37 x38 x39 x40 x41 x42 x43 x44 x45 x46 x47 x48 x49 x50 x51 x52 x53 x54 x55 x56 x57 x58 x59 x60 x61 x62 x63 x64 x65 x66 x67 x68 x69 x70 x71 x72 x73 x74 x75 x76 x77 x78 x79 x80 x81 x82 x83 x84 x85 x86 x87 x88 x89 x90 hans
    exact hend w rs _ _ _ _ _ _ _ _ _ _ _ _ _ _ _ _ _ _ _ _ _ _ _ _ _ _ _ _ _ _ _ _ _ _ _ _ _ _ _ _ _ _ _ _ _ _ _ _ _ _ _ _ _ _ _ _ _ _ _ _ _ _ _ _ _ _ _ _ _ _ _ _ _ _ _ _ _ _ _ _ _ _ _ _ _ hM ⟨S, L.length, h.map_, hans, h.box10, h.box8, h.below⟩
  · intro x2 x3 x4 x5 x6 x9 x12 x13 x14 x15 x16 x17 x18 x19 x20 x21 x22 x23 x24 x25 x26 x27 x28 x29 x30 x31 x32 x33 x34 x35 x36 x37 x38 x39 x40 x41 x42 x43 x44 x45 x46 x47 x48 x49 x50 x51 x52 x53 x54 x55 x56 x57 x58 x59 x60 x61 x62 x63 x64 x65 x66 x67 x68 x69 x70 x71 x72 x73 x74 x75 x76 x77 x78 x79 x80 x81 x82 x83 x84 x85 x86 x87 x88 x89 x90 hn0 hq
    refine hK _ _ ?_
    clear hK
    cases q with
    | nil => exact absurd rfl hq
    | cons s q =>
      refine wpIn_block ?_
      refine search_take _ n P hn hP3 hP8 W0 w b9 k S s q L v h hn0 (rs.map mark) _ _ _ _ _ _ _ _ _ _ _ _ _ _ _ _ _ _ _ _ _ _ _ _ _ _ _ _ _ _ _ _ _ _ _ _ _ _ _ _ _ _ _ _ _ _ _ _ _ _ _ _ _ _ _ _ _ _ _ _ _ _ _ _ _ _ _ _ _ _ _ _ _ _ _ _ _ _ _ _ _ _ _ _ _ _ ?_
      intro W6 b12 v1 x2 x3 x4 x5 x6 x9 x13 x14 x15 x16 x17 x18 x19 x20 x21 x22 x23 x24 x25 x26 x27 x28 x29 x30 x31 x32 x33 x34 x35 x36 x37 x38 x39 x40 x41 x42 x43 x44 x45 x46 x47 x48 x49 x50 x51 x52 x53 x54 x55 x56 x57 x58 x59 x60 x62 x63 x64 x65 x66 x67 x68 x69 x70 x71 x72 x73 x74 x75 x76 x77 x78 x79 x80 x81 x82 x83 x84 x85 x86 x87 x88 x89 x90 hb hrx hBd hb1 hb2
      refine search_range n P hn hP3 hP8 hle W0 W6 b9 b12 k h.kb S s q L v1 hBd hb1 hb2 rs (hM.rx hrx) _ _ _ _ _ _ _ _ _ _ _ _ _ _ _ _ _ _ _ _ _ _ _ _ _ _ _ _ _ _ _ _ _ _ _ _ _ _ _ _ _ _ _ _ _ _ _ _ _ _ _ _ _ _ _ _ _ _ _ _ _ _ _ _ _ _ _ _ _ _ _ _ _ _ _ _ _ _ _ _ _ _ _ _ ?_ ?_
      · rintro W' D' hm ⟨k', S', q', L', v', hlt, hH'⟩
        refine ⟨⟨D' :: rs, _, _, _, _, _, _, _, _, _, _, _, _, _, _, _, _, _, _, _, _, _, _, _, _, _, _, _, _, _, _, _, _, _, _, _, _, _, _, _, _, _, _, _, _, _, _, _, _, _, _, _, _, _, _, _, _, _, _, _, _, _, _, _, _, _, _, _, _, _, _, _, _, _, _, _, _, _, _, _, _, _, _, _, _, _, rfl, ⟨k', S', q', L', v', hH'⟩, hm⟩, ?_⟩
        have h1 := lst_le (R := fun k => ∃ S q L v, Hd n P W0 W' b9 k S q L v) (k := k') ⟨S', q', L', v', hH'⟩
        rw [← hk]
        exact Nat.lt_of_le_of_lt h1 hlt
      · intro W' D' hm hfin
        exact hend W' (D' :: rs) _ _ _ _ _ _ _ _ _ _ _ _ _ _ _ _ _ _ _ _ _ _ _ _ _ _ _ _ _ _ _ _ _ _ _ _ _ _ _ _ _ _ _ _ _ _ _ _ _ _ _ _ _ _ _ _ _ _ _ _ _ _ _ _ _ _ _ _ _ _ _ _ _ _ _ _ _ _ _ _ _ _ _ _ _ hm hfin
end Go.Proofs.YtnaaomhmoamfpaaDoor.G
/- Fewest: what one step of the search does: before the search: the size reckoned. -/
namespace Go.Proofs.YtnaaomhmoamfpaaDoor.G
set_option linter.unusedVariables false
set_option linter.unusedSimpArgs false
set_option linter.unusedSectionVars false
open Go.Proofs.YtnaaomhmoamfpaaDoor.Q Go.Proofs.YtnaaomhmoamfpaaDoor.Hn Go.Proofs.YtnaaomhmoamfpaaDoor.K Go.Proofs.YtnaaomhmoamfpaaDoor.It Go.Proofs.YtnaaomhmoamfpaaDoor.Bf
open Go.RowKit Go.Shelf Go.Proofs.YtnaaomhmoamfpaaDoorW.PrintWords Go.Proofs.YtnaaomhmoamfpaaDoorW.PrintLast Go.Proofs.YtnaaomhmoamfpaaDoorW.PrintMore
attribute [local go_sem] Oper.semAt_some

def unscope : Code → Code
  | .scope c => c
  | c => c
noncomputable def bodyC : Code := unscope (sndC (codeOf Tryd.f29))

set_option maxRecDepth 100000 in
set_option maxHeartbeats 4000000 in
theorem fewest_size (B : Code) (n P : Nat) (hn : n ≤ 40) (hP3 : 3 ≤ P) (hP8 : P ≤ 8) (hask : asked n P = true) (w : World) (x2 x3 x4 x5 x6 x7 x8 x9 x10 x11 x12 x13 x14 x15 x16 x17 x18 x19 x20 x21 x22 x23 x24 x25 x26 x27 x28 x29 x30 x31 x32 x33 x34 x35 x36 x37 x38 x39 x40 x41 x42 x43 x44 x45 x46 x47 x48 x49 x50 x51 x52 x53 x54 x55 x56 x57 x58 x59 x60 x61 x62 x63 x64 x65 x66 x67 x68 x69 x70 x71 x72 x73 x74 x75 x76 x77 x78 x79 x80 x81 x82 x83 x84 x85 x86 x87 x88 x89 x90 : Value) (Q' : Exit → Act → World → Prop)
    (hK : ∀ (x2 x3 x4 x5 x6 x7 x8 x9 x10 x11 x12 x13 x14 x15 x16 x17 x18 x19 x20 x21 x22 x23 x24 x25 x26 x27 x28 x29 x30 x31 x32 x33 x34 x35 x36 x37 x38 x39 x40 x41 x42 x43 x44 x45 x46 x47 x48 x49 x50 x51 x52 x53 x54 x55 x56 x57 x58 x59 x60 x61 x62 x63 x64 x65 x66 x67 x68 x69 x70 x71 x72 x73 x74 x75 x76 x77 x78 x79 x80 x81 x82 x83 x84 x85 x86 x87 x88 x89 x90 : Value), P ^ n ≤ 70000 → B.wpIn Fence.wide 8 Tryd.prog Q' { tmps := #[Value.int IntKind.i64 (n : Int), Value.int IntKind.i64 (P : Int), x2, x3, x4, x5, x6, x7, x8, x9, x10, x11, x12, x13, x14, x15, x16, x17, x18, x19, x20, x21, x22, x23, x24, x25, x26, x27, x28, x29, x30, x31, x32, x33, x34, x35, x36, x37, x38, x39, x40, x41, x42, x43, x44, x45, x46, x47, x48, x49, x50, x51, x52, x53, x54, x55, x56, x57, x58, x59, x60, x61, x62, x63, x64, x65, x66, x67, x68, x69, x70, x71, x72, x73, x74, x75, x76, x77, x78, x79, x80, x81, x82, x83, x84, x85, x86, x87, x88, x89, x90], defers := [] } w)
    (hF : ∀ (x2 x3 x6 x7 x8 x9 x10 x11 x12 x13 x14 x15 x16 x17 x18 x19 x20 x21 x22 x23 x24 x25 x26 x27 x28 x29 x30 x31 x32 x33 x34 x35 x36 x37 x38 x39 x40 x41 x42 x43 x44 x45 x46 x47 x48 x49 x50 x51 x52 x53 x54 x55 x56 x57 x58 x59 x60 x61 x62 x63 x64 x65 x66 x67 x68 x69 x70 x71 x72 x73 x74 x75 x76 x77 x78 x79 x80 x81 x82 x83 x84 x85 x86 x87 x88 x89 x90 : Value), 70000 < P ^ n → Q' .ret { tmps := #[Value.int IntKind.i64 (n : Int), Value.int IntKind.i64 (P : Int), x2, x3, Value.int IntKind.i64 0, Value.int IntKind.i64 1, x6, x7, x8, x9, x10, x11, x12, x13, x14, x15, x16, x17, x18, x19, x20, x21, x22, x23, x24, x25, x26, x27, x28, x29, x30, x31, x32, x33, x34, x35, x36, x37, x38, x39, x40, x41, x42, x43, x44, x45, x46, x47, x48, x49, x50, x51, x52, x53, x54, x55, x56, x57, x58, x59, x60, x61, x62, x63, x64, x65, x66, x67, x68, x69, x70, x71, x72, x73, x74, x75, x76, x77, x78, x79, x80, x81, x82, x83, x84, x85, x86, x87, x88, x89, x90], defers := [] } w) :
    (Code.seq (fstC bodyC) (.seq (fstC (dropC 1 bodyC)) (.seq (fstC (dropC 2 bodyC)) B))).wpIn Fence.wide 8 Tryd.prog Q' { tmps := #[Value.int IntKind.i64 (n : Int), Value.int IntKind.i64 (P : Int), x2, x3, x4, x5, x6, x7, x8, x9, x10, x11, x12, x13, x14, x15, x16, x17, x18, x19, x20, x21, x22, x23, x24, x25, x26, x27, x28, x29, x30, x31, x32, x33, x34, x35, x36, x37, x38, x39, x40, x41, x42, x43, x44, x45, x46, x47, x48, x49, x50, x51, x52, x53, x54, x55, x56, x57, x58, x59, x60, x61, x62, x63, x64, x65, x66, x67, x68, x69, x70, x71, x72, x73, x74, x75, x76, x77, x78, x79, x80, x81, x82, x83, x84, x85, x86, x87, x88, x89, x90], defers := [] } w := by
  obtain ⟨c0, hc0⟩ : ∃ c0, fstC bodyC = c0 := ⟨_, rfl⟩
  obtain ⟨c1, hc1⟩ : ∃ c1, fstC (dropC 1 bodyC) = c1 := ⟨_, rfl⟩
  obtain ⟨c2, hc2⟩ : ∃ c2, fstC (dropC 2 bodyC) = c2 := ⟨_, rfl⟩
  rw [hc0, hc1, hc2]
  simp only [bodyC, unscope, dropC, codeOf, Tryd.f29, sndC, fstC] at hc0 hc1 hc2
  subst hc0
  subst hc1
  subst hc2
  have HA := Aside0.mk (asked_calls (n : Int) (P : Int))
  rw [hask] at HA
  have HK := Aside0.mk hK
  have HF := Aside0.mk hF
  clear hask hK hF
  dsimp only at HK HF ⊢
  gi_wp2_with (refine ⟨trivial, ?_⟩; gi_at_call 65; refine CallsIn.mono (callsIn_wide.2 (HA.out w)) ?_; rintro e w' ⟨rfl, rfl⟩)
  gi_loopw [6, 23] (fun t6 t23 wr => ∃ i : Nat, i ≤ n ∧ t23 = .int .i64 i ∧ t6 = .int .i64 ((P ^ i : Nat) : Int) ∧ P ^ i ≤ 70000 ∧ wr = w') (fun _ t23 _ => n - (intOf t23).toNat)
  case atStart => exact ⟨0, Nat.zero_le _, rfl, by simp, by simp, rfl⟩
  case round =>
    obtain ⟨i, hi, rfl, rfl, hp, rfl⟩ := hrel
    by_cases hlt : i < n
    · have hi1 : (i : Int) < (n : Int) := by omega
      obtain ⟨Z, hZ⟩ : ∃ Z, P ^ i = Z := ⟨_, rfl⟩
      have hp2 : P ^ (i + 1) = Z * P := by rw [Nat.pow_succ, hZ]
      rw [hZ] at hp ⊢
      have hzp : Z * P ≤ 560000 := Nat.mul_le_mul hp hP8
      have hw1 : IntKind.i64.wrap ((Z : Int) * (P : Int)) = ((Z * P : Nat) : Int) := by rw [i64_w, w64 (by rw [← Int.natCast_mul]; omega) (by rw [← Int.natCast_mul]; omega)]; simp
      have hw2 : IntKind.i64.wrap ((i : Int) + 1) = (i : Int) + 1 := by rw [i64_w]; exact w64 (by omega) (by omega)
      have hpn : P ^ (i + 1) ≤ P ^ n := Nat.pow_le_pow_right (by omega) (by omega)
      rw [hp2] at hpn
      have HZ := Aside0.mk hp2
      obtain ⟨Y0, hY0⟩ : ∃ Y : Nat, Z * P = Y := ⟨_, rfl⟩
      rw [hY0] at hw1 hpn hzp
      have HPN := Aside0.mk hpn
      have HY0 := Aside0.mk hY0
      clear hp2 hZ hpn hY0 hp
      by_cases hx : (Y0 : Int) > 70000
      · gi_wp2
        exact HF.out _ _ _ _ _ _ _ _ _ _ _ _ _ _ _ _ _ _ _ _ _ _ _ _ _ _ _ _ _ _ _ _ _ _ _ _ _ _ _ _ _ _ _ _ _ _ _ _ _ _ _ _ _ _ _ _ _ _ _ _ _ _ _ _ _ _ _ _ _ _ _ _ _ _ _ _ _ _ _ _ _ _ _ _ _ _ _ (by have := HPN.out; omega)
      · gi_wp2
        exact ⟨⟨i + 1, by omega, by simp, by rw [HZ.out, HY0.out], by rw [HZ.out, HY0.out]; omega, trivial⟩, by simp [intOf]; omega⟩
    · have hi1 : ¬ (i : Int) < (n : Int) := by omega
      have hin : i = n := by omega
      have HP := Aside0.mk (show P ^ n ≤ 70000 by rw [← hin]; exact hp)
      clear hin hp
      gi_wp2
      exact HK.out _ _ _ _ _ _ _ _ _ _ _ _ _ _ _ _ _ _ _ _ _ _ _ _ _ _ _ _ _ _ _ _ _ _ _ _ _ _ _ _ _ _ _ _ _ _ _ _ _ _ _ _ _ _ _ _ _ _ _ _ _ _ _ _ _ _ _ _ _ _ _ _ _ _ _ _ _ _ _ _ _ _ _ _ _ _ _ _ _ HP.out
end Go.Proofs.YtnaaomhmoamfpaaDoor.G
/- Fewest: what one step of the search does: before the search: the start and the goal laid. -/
namespace Go.Proofs.YtnaaomhmoamfpaaDoor.G
set_option linter.unusedVariables false
set_option linter.unusedSimpArgs false
set_option linter.unusedSectionVars false
open Go.Proofs.YtnaaomhmoamfpaaDoor.Q Go.Proofs.YtnaaomhmoamfpaaDoor.Hn Go.Proofs.YtnaaomhmoamfpaaDoor.K Go.Proofs.YtnaaomhmoamfpaaDoor.It Go.Proofs.YtnaaomhmoamfpaaDoor.Bf
open Go.RowKit Go.Shelf Go.Proofs.YtnaaomhmoamfpaaDoorW.PrintWords Go.Proofs.YtnaaomhmoamfpaaDoorW.PrintLast Go.Proofs.YtnaaomhmoamfpaaDoorW.PrintMore
attribute [local go_sem] Oper.semAt_some

set_option maxRecDepth 100000 in
set_option maxHeartbeats 4000000 in
theorem fewest_ends (B : Code) (n P : Nat) (hn : n ≤ 16) (hP3 : 3 ≤ P) (hP8 : P ≤ 8) (W0 : World) (x2 x3 x4 x5 x6 x7 x8 x9 x10 x11 x12 x13 x14 x15 x16 x17 x18 x19 x20 x21 x22 x23 x24 x25 x26 x27 x28 x29 x30 x31 x32 x33 x34 x35 x36 x37 x38 x39 x40 x41 x42 x43 x44 x45 x46 x47 x48 x49 x50 x51 x52 x53 x54 x55 x56 x57 x58 x59 x60 x61 x62 x63 x64 x65 x66 x67 x68 x69 x70 x71 x72 x73 x74 x75 x76 x77 x78 x79 x80 x81 x82 x83 x84 x85 x86 x87 x88 x89 x90 : Value) (Q' : Exit → Act → World → Prop)
    (hK : ∀ (W2 : World) (x2 x3 x4 x5 x6 x9 x10 x11 x12 x13 x14 x15 x16 x17 x18 x19 x20 x21 x22 x23 x24 x25 x26 x27 x28 x29 x30 x31 x32 x33 x34 x35 x36 x37 x38 x39 x40 x41 x42 x43 x44 x45 x46 x47 x48 x49 x50 x51 x52 x53 x54 x55 x56 x57 x58 x59 x60 x61 x62 x63 x64 x65 x66 x67 x68 x69 x70 x71 x72 x73 x74 x75 x76 x77 x78 x79 x80 x81 x82 x83 x84 x85 x86 x87 x88 x89 x90 : Value), Blk W2 W0.heap.size (posF (nth (startP n))) 90 → Blk W2 (W0.heap.size + 1) (posF (goalTo P n)) 90 → Below W0.heap.size W0 W2 → W2.heap.size = W0.heap.size + 2 → B.wpIn Fence.wide 8 Tryd.prog Q' { tmps := #[Value.int IntKind.i64 (n : Int), Value.int IntKind.i64 (P : Int), x2, x3, x4, x5, x6, Value.pointer (some { block := W0.heap.size, off := 0 }), Value.pointer (some { block := W0.heap.size + 1, off := 0 }), x9, x10, x11, x12, x13, x14, x15, x16, x17, x18, x19, x20, x21, x22, x23, x24, x25, x26, x27, x28, x29, x30, x31, x32, x33, x34, x35, x36, x37, x38, x39, x40, x41, x42, x43, x44, x45, x46, x47, x48, x49, x50, x51, x52, x53, x54, x55, x56, x57, x58, x59, x60, x61, x62, x63, x64, x65, x66, x67, x68, x69, x70, x71, x72, x73, x74, x75, x76, x77, x78, x79, x80, x81, x82, x83, x84, x85, x86, x87, x88, x89, x90], defers := [] } W2) :
    (Code.seq (fstC (dropC 3 bodyC)) (.seq (fstC (dropC 4 bodyC)) B)).wpIn Fence.wide 8 Tryd.prog Q' { tmps := #[Value.int IntKind.i64 (n : Int), Value.int IntKind.i64 (P : Int), x2, x3, x4, x5, x6, x7, x8, x9, x10, x11, x12, x13, x14, x15, x16, x17, x18, x19, x20, x21, x22, x23, x24, x25, x26, x27, x28, x29, x30, x31, x32, x33, x34, x35, x36, x37, x38, x39, x40, x41, x42, x43, x44, x45, x46, x47, x48, x49, x50, x51, x52, x53, x54, x55, x56, x57, x58, x59, x60, x61, x62, x63, x64, x65, x66, x67, x68, x69, x70, x71, x72, x73, x74, x75, x76, x77, x78, x79, x80, x81, x82, x83, x84, x85, x86, x87, x88, x89, x90], defers := [] } W0 := by
  obtain ⟨c0, hc0⟩ : ∃ c0, fstC (dropC 3 bodyC) = c0 := ⟨_, rfl⟩
  obtain ⟨c1, hc1⟩ : ∃ c1, fstC (dropC 4 bodyC) = c1 := ⟨_, rfl⟩
  rw [hc0, hc1]
  simp only [bodyC, unscope, dropC, codeOf, Tryd.f29, sndC, fstC] at hc0 hc1
  subst hc0
  subst hc1
  have HK := Aside0.mk hK
  clear hK
  dsimp only at HK ⊢
  gi_wp2
  gi_loopw [32] (fun t32 wq => ∃ j : Nat, j ≤ n ∧ t32 = .int .i64 j ∧ Aside0 (Blk wq W0.heap.size (posF (nth (startP n))) 90 ∧ Blk wq (W0.heap.size + 1) (posF (goalTo P j)) 90 ∧ Below W0.heap.size W0 wq ∧ wq.heap.size = W0.heap.size + 2)) (fun t32 _ => n - (intOf t32).toNat)
  case atStart =>
    refine ⟨0, Nat.zero_le _, rfl, .mk ⟨?_, ?_, ((Below.refl _ _).alloc (Nat.le_refl _) _).alloc (by simp) _, by simp⟩⟩
    · rw [nth_start]; exact (Blk.new _ _ _).alloc _
    · rw [goalTo_zero]
      have := Blk.new (W0.alloc (Obj.cells (posF (fun _ => 0)) 90)) (posF (fun _ => 0)) 90
      rw [World.size_alloc] at this
      exact this
  case round =>
    obtain ⟨j, hj, rfl, HQ⟩ := hrel
    have hw3 : IntKind.i64.wrap ((j : Int) + 1) = (j : Int) + 1 := by rw [i64_w]; exact w64 (by omega) (by omega)
    have hw4 : IntKind.i64.wrap ((P : Int) - 1) = (P : Int) - 1 := by rw [i64_w]; exact w64 (by omega) (by omega)
    by_cases hjn : j < n
    · have hj1 : (j : Int) < (n : Int) := by omega
      have hcj := HQ.out.2.1.cell j (posF_get _ _ (by omega))
      have hfj := HQ.out.2.1.free j
      gi_wp2
      refine ⟨⟨j + 1, by omega, by simp, .mk ⟨HQ.out.1.setOther (by simp) _, ?_, HQ.out.2.2.1.setCell (by simp) _, by simp [World.setCell]; exact HQ.out.2.2.2⟩⟩, by simp [intOf]; omega⟩
      rw [← goalTo_succ, ← posF_set _ _ _ (by omega)]
      exact HQ.out.2.1.set j _
    · have hj1 : ¬ (j : Int) < (n : Int) := by omega
      have hjn2 : j = n := by omega
      have HQ2 := Aside0.mk (show Blk wr (W0.heap.size + 1) (posF (goalTo P n)) 90 by rw [← hjn2]; exact HQ.out.2.1)
      clear hjn2
      gi_wp2
      exact HK.out _ _ _ _ _ _ _ _ _ _ _ _ _ _ _ _ _ _ _ _ _ _ _ _ _ _ _ _ _ _ _ _ _ _ _ _ _ _ _ _ _ _ _ _ _ _ _ _ _ _ _ _ _ _ _ _ _ _ _ _ _ _ _ _ _ _ _ _ _ _ _ _ _ _ _ _ _ _ _ _ _ _ _ _ _ _ _ _ HQ.out.1 HQ2.out HQ.out.2.2.1 HQ.out.2.2.2
end Go.Proofs.YtnaaomhmoamfpaaDoor.G
/- Fewest: what one step of the search does: before the search: the map made, the queue made. -/
namespace Go.Proofs.YtnaaomhmoamfpaaDoor.G
set_option linter.unusedVariables false
set_option linter.unusedSimpArgs false
set_option linter.unusedSectionVars false
open Go.Proofs.YtnaaomhmoamfpaaDoor.Q Go.Proofs.YtnaaomhmoamfpaaDoor.Hn Go.Proofs.YtnaaomhmoamfpaaDoor.K Go.Proofs.YtnaaomhmoamfpaaDoor.It Go.Proofs.YtnaaomhmoamfpaaDoor.Bf
open Go.RowKit Go.Shelf Go.Proofs.YtnaaomhmoamfpaaDoorW.PrintWords Go.Proofs.YtnaaomhmoamfpaaDoorW.PrintLast Go.Proofs.YtnaaomhmoamfpaaDoorW.PrintMore
attribute [local go_sem] Oper.semAt_some

set_option maxRecDepth 100000 in
set_option maxHeartbeats 4000000 in
theorem fewest_made (B : Code) (n P : Nat) (hn : n ≤ 16) (hP3 : 3 ≤ P) (hP8 : P ≤ 8) (hle : P ^ n ≤ 70000) (W0 W2 : World) (h7 : Blk W2 W0.heap.size (posF (nth (startP n))) 90) (h8 : Blk W2 (W0.heap.size + 1) (posF (goalTo P n)) 90) (hb : Below W0.heap.size W0 W2) (hsz2 : W2.heap.size = W0.heap.size + 2) (x2 x3 x4 x5 x6 x9 x10 x11 x12 x13 x14 x15 x16 x17 x18 x19 x20 x21 x22 x23 x24 x25 x26 x27 x28 x29 x30 x31 x32 x33 x34 x35 x36 x37 x38 x39 x40 x41 x42 x43 x44 x45 x46 x47 x48 x49 x50 x51 x52 x53 x54 x55 x56 x57 x58 x59 x60 x61 x62 x63 x64 x65 x66 x67 x68 x69 x70 x71 x72 x73 x74 x75 x76 x77 x78 x79 x80 x81 x82 x83 x84 x85 x86 x87 x88 x89 x90 : Value) (Q' : Exit → Act → World → Prop)
    (hK : ∀ (W : World) (b9 : Nat) (x2 x3 x4 x5 x6 x9 x12 x13 x14 x15 x16 x17 x18 x19 x20 x21 x22 x23 x24 x25 x26 x27 x28 x29 x30 x31 x32 x33 x34 x35 x36 x37 x38 x39 x40 x41 x42 x43 x44 x45 x46 x47 x48 x49 x50 x51 x52 x53 x54 x55 x56 x57 x58 x59 x60 x61 x62 x63 x64 x65 x66 x67 x68 x69 x70 x71 x72 x73 x74 x75 x76 x77 x78 x79 x80 x81 x82 x83 x84 x85 x86 x87 x88 x89 x90 : Value), (∃ k S q L v, Hd n P W0 W b9 k S q L v) → B.wpIn Fence.wide 8 Tryd.prog Q' { tmps := #[Value.int IntKind.i64 (n : Int), Value.int IntKind.i64 (P : Int), x2, x3, x4, x5, x6, Value.pointer (some { block := W0.heap.size, off := 0 }), Value.pointer (some { block := W0.heap.size + 1, off := 0 }), x9, Value.pointer (some { block := b9, off := 0 }), Value.pointer (some { block := b9 + 1 + 1, off := 0 }), x12, x13, x14, x15, x16, x17, x18, x19, x20, x21, x22, x23, x24, x25, x26, x27, x28, x29, x30, x31, x32, x33, x34, x35, x36, x37, x38, x39, x40, x41, x42, x43, x44, x45, x46, x47, x48, x49, x50, x51, x52, x53, x54, x55, x56, x57, x58, x59, x60, x61, x62, x63, x64, x65, x66, x67, x68, x69, x70, x71, x72, x73, x74, x75, x76, x77, x78, x79, x80, x81, x82, x83, x84, x85, x86, x87, x88, x89, x90], defers := [] } W) :
    (Code.seq (fstC (dropC 5 bodyC)) (.seq (fstC (dropC 6 bodyC)) (.seq (fstC (dropC 7 bodyC)) B))).wpIn Fence.wide 8 Tryd.prog Q' { tmps := #[Value.int IntKind.i64 (n : Int), Value.int IntKind.i64 (P : Int), x2, x3, x4, x5, x6, Value.pointer (some { block := W0.heap.size, off := 0 }), Value.pointer (some { block := W0.heap.size + 1, off := 0 }), x9, x10, x11, x12, x13, x14, x15, x16, x17, x18, x19, x20, x21, x22, x23, x24, x25, x26, x27, x28, x29, x30, x31, x32, x33, x34, x35, x36, x37, x38, x39, x40, x41, x42, x43, x44, x45, x46, x47, x48, x49, x50, x51, x52, x53, x54, x55, x56, x57, x58, x59, x60, x61, x62, x63, x64, x65, x66, x67, x68, x69, x70, x71, x72, x73, x74, x75, x76, x77, x78, x79, x80, x81, x82, x83, x84, x85, x86, x87, x88, x89, x90], defers := [] } W2 := by
  obtain ⟨c0, hc0⟩ : ∃ c0, fstC (dropC 5 bodyC) = c0 := ⟨_, rfl⟩
  obtain ⟨c1, hc1⟩ : ∃ c1, fstC (dropC 6 bodyC) = c1 := ⟨_, rfl⟩
  obtain ⟨c2, hc2⟩ : ∃ c2, fstC (dropC 7 bodyC) = c2 := ⟨_, rfl⟩
  rw [hc0, hc1, hc2]
  simp only [bodyC, unscope, dropC, codeOf, Tryd.f29, sndC, fstC] at hc0 hc1 hc2
  subst hc0
  subst hc1
  subst hc2
  have hm := run_makeMap (P := Tryd.prog)
  obtain ⟨W3, hput, hS3, hg3⟩ := (Seen.made W2 (Vp n P)).put hP8 hn (vp_start n P (by omega)) 0 (by omega) (by omega)
  have hB7 : Blk W3 W0.heap.size (posF (nth (startP n))) 90 := (h7.alloc _).grown hg3 (by simp; omega)
  have hB8 : Blk W3 (W0.heap.size + 1) (posF (goalTo P n)) 90 := (h8.alloc _).grown hg3 (by simp; omega)
  have hBW : Below W0.heap.size W0 W3 := (hb.alloc (by omega) _).grown hg3 (by simp; omega) (fun k e => by cases e; omega)
  have hlt3 := hB7.lt
  have hlt8 := hB8.lt
  have hsz3 := hg3.size
  rw [World.size_alloc, hsz2] at hsz3
  obtain ⟨q0, q1, q2, q3, q4, q5, q6, q7, q8, q9, q10, q11, q12, q13, q14, q15⟩ := pos_cells (h7.alloc (.map #[] 0))
  obtain ⟨r0, r1, r2, r3, r4, r5, r6, r7, r8, r9, r10, r11, r12, r13, r14, r15⟩ := pos_cells hB7
  have HB7 := Aside0.mk hB7
  have HB8 := Aside0.mk hB8
  have HBW := Aside0.mk hBW
  rw [hsz2] at hS3 hg3
  have HS3 := Aside0.mk hS3
  have HK := Aside0.mk hK
  clear hS3 hg3 hB7 hB8 hBW h7 h8 hb hK
  unfold posF at hput
  generalize hmm : nth (startP n) = m at *
  have HM := Aside0.mk hmm
  clear hmm
  simp only [Int.natCast_zero, hsz2] at hput
  dsimp only at HK ⊢
  gi_wp2
  refine wpIn_label ?_
  gi_wp2
  clear q0 q1 q2 q3 q4 q5 q6 q7 q8 q9 q10 q11 q12 q13 q14 q15 r0 r1 r2 r3 r4 r5 r6 r7 r8 r9 r10 r11 r12 r13 r14 r15 hput hm
  obtain ⟨Wa, hWa⟩ : ∃ Wa, W3.alloc (.cells #[.map (some (W0.heap.size + 2))] 98) = Wa := ⟨_, rfl⟩
  obtain ⟨Wb, hWb⟩ : ∃ Wb, Wa.alloc (.cells (posF m) 90) = Wb := ⟨_, rfl⟩
  obtain ⟨Wc, hWc⟩ : ∃ Wc, Wb.alloc (.cells #[.slice (some ⟨W3.heap.size + 1, 0, none⟩) 1 1] 99) = Wc := ⟨_, rfl⟩
  have hsa : Wa.heap.size = W3.heap.size + 1 := by rw [← hWa]; simp
  have hsb : Wb.heap.size = W3.heap.size + 1 + 1 := by rw [← hWb]; simp [hsa]
  have hBc : Below W3.heap.size W3 Wc := by
    rw [← hWc, ← hWb, ← hWa]
    exact (((Below.refl _ _).alloc (Nat.le_refl _) _).alloc (by simp) _).alloc (by simp; omega) _
  have hn1 : Blk Wc W3.heap.size #[.map (some (W0.heap.size + 2))] 98 := by
    rw [← hWc, ← hWb, ← hWa]
    exact ((Blk.new _ _ _).alloc _).alloc _
  have hn2 : Blk Wc (W3.heap.size + 1) (posF m) 90 := by
    have h1 := Blk.new Wa (posF m) 90
    rw [hsa, hWb] at h1
    rw [← hWc]
    exact h1.alloc _
  have hn3 : Blk Wc (W3.heap.size + 1 + 1) #[.slice (some ⟨W3.heap.size + 1, 0, none⟩) 1 1] 99 := by
    have h1 := Blk.new Wb #[.slice (some ⟨W3.heap.size + 1, 0, none⟩) 1 1] 99
    rw [hsb, hWc] at h1
    exact h1
  have e1 := hWb
  unfold posF at e1
  rw [hWa, e1, hWc]
  have hpos : 1 ≤ P ^ n := Nat.pow_pos (by omega)
  refine HK.out Wc W3.heap.size _ _ _ _ _ _ _ _ _ _ _ _ _ _ _ _ _ _ _ _ _ _ _ _ _ _ _ _ _ _ _ _ _ _ _ _ _ _ _ _ _ _ _ _ _ _ _ _ _ _ _ _ _ _ _ _ _ _ _ _ _ _ _ _ _ _ _ _ _ _ _ _ _ _ _ _ _ _ _ _ _ _ _ _ _ ⟨_, _, [startP n], [startP n], .slice (some ⟨W3.heap.size + 1, 0, none⟩) 1 1, ⟨Rd.begin (vp_start n P (by omega)), ?_, rfl, ?_, HS3.out.mapsTo (hBc.block _ HS3.out.lt), ?_, hn3, hn1, ?_, HB8.out.below hBc HB8.out.lt, HBW.out.trans (hBc.mono (by omega)), by omega⟩⟩
  · by_cases hn0 : n = 0
    · exact .inl hn0
    · exact .inr (by simp [(start_goal (n := n) (P := P) (by omega) hn0).symm])
  · simp only [List.length_cons, List.length_nil]; omega
  · refine ⟨by simp [flat_len], .inr ⟨W3.heap.size + 1, 0, 1, posF m, rfl, Nat.le_refl _, hn2, Nat.le_refl _, by unfold maxLen; omega, rfl, ?_⟩⟩
    rw [flat_cons, flat_nil, HM.out]
    simp [posF]
  · rw [HM.out]; exact HB7.out.below hBc HB7.out.lt
end Go.Proofs.YtnaaomhmoamfpaaDoor.G
/- Fewest: what one step of the search does: the whole of it: its contract. -/
namespace Go.Proofs.YtnaaomhmoamfpaaDoor.G
set_option linter.unusedVariables false
set_option linter.unusedSimpArgs false
set_option linter.unusedSectionVars false
open Go.Proofs.YtnaaomhmoamfpaaDoor.Q Go.Proofs.YtnaaomhmoamfpaaDoor.Hn Go.Proofs.YtnaaomhmoamfpaaDoor.K Go.Proofs.YtnaaomhmoamfpaaDoor.It Go.Proofs.YtnaaomhmoamfpaaDoor.Bf
open Go.RowKit Go.Shelf Go.Proofs.YtnaaomhmoamfpaaDoorW.PrintWords Go.Proofs.YtnaaomhmoamfpaaDoorW.PrintLast Go.Proofs.YtnaaomhmoamfpaaDoorW.PrintMore
attribute [local go_sem] Oper.semAt_some

theorem leaves_marks {R : Ending → World → Prop} {f : Func} {tmps : Array Value} (B : Nat) : ∀ (rs : List Nat) (W : World), Mk B rs W → B ≤ W.heap.size → (∀ W', Below B W W' → LeavesIn Fence.wide 8 Tryd.prog f tmps R [] .returning W') → LeavesInM Fence.wide 8 Tryd.prog f tmps R (rs.map mark) .returning W
  | [], W, _, _, h => h W (Below.refl _ _)
  | r :: rs, W, hM, hB, h => by
    obtain ⟨hnd, hall⟩ := hM
    obtain ⟨hr, hrs⟩ := List.nodup_cons.1 hnd
    have h1 := hall r (by simp)
    refine ⟨by simp, .inl ⟨r, _, rfl, run_takeDeferred h1.2, ?_⟩⟩
    have hbel : Below B W (W.putObj r (.deferred none)) := ⟨rfl, rfl, rfl, by simp, fun k hk => World.putObj_heap_other (by omega)⟩
    refine leaves_marks B rs _ ⟨hrs, fun x hx => ?_⟩ (by simpa using hB) (fun W' hW' => h W' (hbel.trans hW'))
    have h2 := hall x (List.mem_cons_of_mem _ hx)
    exact ⟨h2.1, (World.putObj_heap_other (fun e => hr (by first | (rw [← e]; exact hx) | (rw [e]; exact hx)))).trans h2.2⟩

theorem all_eq : codeOf Tryd.f29 = .seq (fstC (codeOf Tryd.f29)) (.scope (.seq (fstC bodyC) (.seq (fstC (dropC 1 bodyC)) (.seq (fstC (dropC 2 bodyC)) (.seq (fstC (dropC 3 bodyC)) (.seq (fstC (dropC 4 bodyC)) (.seq (fstC (dropC 5 bodyC)) (.seq (fstC (dropC 6 bodyC)) (.seq (fstC (dropC 7 bodyC)) (.seq (.block 4 (.loop roundC)) (dropC 9 bodyC))))))))))) := by kernel_rfl

set_option maxRecDepth 100000 in
set_option maxHeartbeats 4000000 in
theorem search_out (n P : Nat) (hP3 : 3 ≤ P) (hP8 : P ≤ 8) (W0 W : World) (b9 : Nat) (rs : List Nat) (hM : Mk W0.heap.size rs W) (h : Fin n P W0 W b9) (x2 x3 x4 x5 x6 x9 x12 x13 x14 x15 x16 x17 x18 x19 x20 x21 x22 x23 x24 x25 x26 x27 x28 x29 x30 x31 x32 x33 x34 x35 x36 x37 x38 x39 x40 x41 x42 x43 x44 x45 x46 x47 x48 x49 x50 x51 x52 x53 x54 x55 x56 x57 x58 x59 x60 x61 x62 x63 x64 x65 x66 x67 x68 x69 x70 x71 x72 x73 x74 x75 x76 x77 x78 x79 x80 x81 x82 x83 x84 x85 x86 x87 x88 x89 x90 : Value) (R : Ending → World → Prop)
    (hR : ∀ W', Below W0.heap.size W0 W' → R (.returned (.tuple #[.int .i64 (fewest n P : Int), .int .i64 0])) W') :
    (dropC 9 bodyC).wpIn Fence.wide 8 Tryd.prog (bodyPostM Fence.wide 8 Tryd.prog Tryd.f29 R) { tmps := #[Value.int IntKind.i64 (n : Int), Value.int IntKind.i64 (P : Int), x2, x3, x4, x5, x6, Value.pointer (some { block := W0.heap.size, off := 0 }), Value.pointer (some { block := W0.heap.size + 1, off := 0 }), x9, Value.pointer (some { block := b9, off := 0 }), Value.pointer (some { block := b9 + 1 + 1, off := 0 }), x12, x13, x14, x15, x16, x17, x18, x19, x20, x21, x22, x23, x24, x25, x26, x27, x28, x29, x30, x31, x32, x33, x34, x35, x36, x37, x38, x39, x40, x41, x42, x43, x44, x45, x46, x47, x48, x49, x50, x51, x52, x53, x54, x55, x56, x57, x58, x59, x60, x61, x62, x63, x64, x65, x66, x67, x68, x69, x70, x71, x72, x73, x74, x75, x76, x77, x78, x79, x80, x81, x82, x83, x84, x85, x86, x87, x88, x89, x90], defers := rs.map mark } W := by
  obtain ⟨c0, hc0⟩ : ∃ c0, dropC 9 bodyC = c0 := ⟨_, rfl⟩
  rw [hc0]
  simp only [bodyC, unscope, dropC, codeOf, Tryd.f29, sndC, fstC] at hc0
  subst hc0
  obtain ⟨S, k, hS, hf, h10, h8, hb⟩ := h
  have hlook := hS.look hP8 (vp_goal n P (by omega))
  rw [← hf] at hlook
  have hc10 := h10.cell 0 (v := .map (some (W0.heap.size + 2))) rfl
  rw [nth_goal] at hlook
  obtain ⟨g, hg⟩ : ∃ g, goalTo P n = g := ⟨_, rfl⟩
  rw [hg] at h8 hlook
  obtain ⟨r0, r1, r2, r3, r4, r5, r6, r7, r8, r9, r10, r11, r12, r13, r14, r15⟩ := pos_cells h8
  unfold posF at hlook
  have HM := Aside0.mk hM
  have HR := Aside0.mk hR
  have HB := Aside0.mk hb
  clear hM hR hb hS hf h10 h8 hg
  dsimp only
  gi_wp2
  refine leaves_marks W0.heap.size rs W HM.out HB.out.size (fun W' hW' => ?_)
  refine ⟨_, results_tmp2 rfl _ _ _, ?_⟩
  exact HR.out W' (HB.out.trans hW')

theorem ring_zero (n P : Nat) : asked n P = true → n ≤ 40 ∧ 3 ≤ P ∧ P ≤ 8 := by
  unfold asked
  simp only [Bool.and_eq_true, decide_eq_true_eq]
  omega
theorem pow_small {n P : Nat} (h : P ^ n ≤ 70000) (hP : 3 ≤ P) : n ≤ 16 := by
  rcases Nat.lt_or_ge n 17 with h1 | h1
  · omega
  · have h2 : 3 ^ 17 ≤ 3 ^ n := Nat.pow_le_pow_right (by omega) h1
    have h3 : 3 ^ n ≤ P ^ n := Nat.pow_le_pow_left hP n
    have h4 : (3 : Nat) ^ 17 = 129140163 := by decide
    omega

set_option maxRecDepth 100000 in
set_option maxHeartbeats 4000000 in
theorem fewest_calls (n P : Nat) (w : World) (hask : asked n P = true) :
    Calls Tryd.prog 29 #[.int .i64 (n : Int), .int .i64 (P : Int)] w fun e w' => e = .returned (.tuple (if P ^ n ≤ 70000 then #[.int .i64 (fewest n P : Int), .int .i64 0] else #[.int .i64 0, .int .i64 1])) ∧ Below w.heap.size w w' := by
  obtain ⟨hn, hP3, hP8⟩ := ring_zero n P hask
  refine (callsIn_wide (n := 8)).1 ?_
  refine callsIn_of_wp_marks Tryd.func29 rfl trivial ?_ rfl
  simp only [Tryd.ntmps29, List.size_toArray, List.length_cons, List.length_nil, Nat.reduceAdd, Nat.reduceSub, Array.replicate_succ, Array.replicate_zero, List.push_toArray, List.append_toArray, List.nil_append, List.cons_append]
  change (codeOf Tryd.f29).wpIn _ _ _ _ _ _
  rw [all_eq]
  refine wpIn_seq_k (fun K0 hK0 => ?_)
  obtain ⟨c0, hc0⟩ : ∃ c0, fstC (codeOf Tryd.f29) = c0 := ⟨_, rfl⟩
  rw [hc0]
  simp only [codeOf, Tryd.f29, fstC] at hc0
  subst hc0
  have HK0 := Aside0.mk hK0
  have HA := Aside0.mk hask
  clear hK0 hask
  gi_wp2
  refine HK0.out _ _ ?_
  clear HK0
  refine wpIn_scope ?_
  refine fewest_size _ n P hn hP3 hP8 HA.out w _ _ _ _ _ _ _ _ _ _ _ _ _ _ _ _ _ _ _ _ _ _ _ _ _ _ _ _ _ _ _ _ _ _ _ _ _ _ _ _ _ _ _ _ _ _ _ _ _ _ _ _ _ _ _ _ _ _ _ _ _ _ _ _ _ _ _ _ _ _ _ _ _ _ _ _ _ _ _ _ _ _ _ _ _ _ _ _ _ _ ?_ ?_
  · intro x2 x3 x4 x5 x6 x7 x8 x9 x10 x11 x12 x13 x14 x15 x16 x17 x18 x19 x20 x21 x22 x23 x24 x25 x26 x27 x28 x29 x30 x31 x32 x33 x34 x35 x36 x37 x38 x39 x40 x41 x42 x43 x44 x45 x46 x47 x48 x49 x50 x51 x52 x53 x54 x55 x56 x57 x58 x59 x60 x61 x62 x63 x64 x65 x66 x67 x68 x69 x70 x71 x72 x73 x74 x75 x76 x77 x78 x79 x80 x81 x82 x83 x84 x85 x86 x87 x88 x89 x90 hle
    have hn16 := pow_small hle hP3
    rw [if_pos hle]
    refine fewest_ends _ n P hn16 hP3 hP8 w _ _ _ _ _ _ _ _ _ _ _ _ _ _ _ _ _ _ _ _ _ _ _ _ _ _ _ _ _ _ _ _ _ _ _ _ _ _ _ _ _ _ _ _ _ _ _ _ _ _ _ _ _ _ _ _ _ _ _ _ _ _ _ _ _ _ _ _ _ _ _ _ _ _ _ _ _ _ _ _ _ _ _ _ _ _ _ _ _ _ ?_
    intro W2 x2 x3 x4 x5 x6 x9 x10 x11 x12 x13 x14 x15 x16 x17 x18 x19 x20 x21 x22 x23 x24 x25 x26 x27 x28 x29 x30 x31 x32 x33 x34 x35 x36 x37 x38 x39 x40 x41 x42 x43 x44 x45 x46 x47 x48 x49 x50 x51 x52 x53 x54 x55 x56 x57 x58 x59 x60 x61 x62 x63 x64 x65 x66 x67 x68 x69 x70 x71 x72 x73 x74 x75 x76 x77 x78 x79 x80 x81 x82 x83 x84 x85 x86 x87 x88 x89 x90 h7 h8 hb hsz
    refine fewest_made _ n P hn16 hP3 hP8 hle w W2 h7 h8 hb hsz _ _ _ _ _ _ _ _ _ _ _ _ _ _ _ _ _ _ _ _ _ _ _ _ _ _ _ _ _ _ _ _ _ _ _ _ _ _ _ _ _ _ _ _ _ _ _ _ _ _ _ _ _ _ _ _ _ _ _ _ _ _ _ _ _ _ _ _ _ _ _ _ _ _ _ _ _ _ _ _ _ _ _ _ _ _ _ _ ?_
    intro W b9 x2 x3 x4 x5 x6 x9 x12 x13 x14 x15 x16 x17 x18 x19 x20 x21 x22 x23 x24 x25 x26 x27 x28 x29 x30 x31 x32 x33 x34 x35 x36 x37 x38 x39 x40 x41 x42 x43 x44 x45 x46 x47 x48 x49 x50 x51 x52 x53 x54 x55 x56 x57 x58 x59 x60 x61 x62 x63 x64 x65 x66 x67 x68 x69 x70 x71 x72 x73 x74 x75 x76 x77 x78 x79 x80 x81 x82 x83 x84 x85 x86 x87 x88 x89 x90 hH
    refine wpIn_seq ?_
    refine search_loop n P hn16 hP3 hP8 hle w W b9 hH _ _ _ _ _ _ _ _ _ _ _ _ _ _ _ _ _ _ _ _ _ _ _ _ _ _ _ _ _ _ _ _ _ _ _ _ _ _ _ _ _ _ _ _ _ _ _ _ _ _ _ _ _ _ _ _ _ _ _ _ _ _ _ _ _ _ _ _ _ _ _ _ _ _ _ _ _ _ _ _ _ _ _ _ _ _ ?_
    intro W' rs x2 x3 x4 x5 x6 x9 x12 x13 x14 x15 x16 x17 x18 x19 x20 x21 x22 x23 x24 x25 x26 x27 x28 x29 x30 x31 x32 x33 x34 x35 x36 x37 x38 x39 x40 x41 x42 x43 x44 x45 x46 x47 x48 x49 x50 x51 x52 x53 x54 x55 x56 x57 x58 x59 x60 x61 x62 x63 x64 x65 x66 x67 x68 x69 x70 x71 x72 x73 x74 x75 x76 x77 x78 x79 x80 x81 x82 x83 x84 x85 x86 x87 x88 x89 x90 hM hfin
    show (dropC 9 bodyC).wpIn _ _ _ _ _ _
    refine wpIn_mono (search_out n P hP3 hP8 w W' b9 rs hM hfin _ _ _ _ _ _ _ _ _ _ _ _ _ _ _ _ _ _ _ _ _ _ _ _ _ _ _ _ _ _ _ _ _ _ _ _ _ _ _ _ _ _ _ _ _ _ _ _ _ _ _ _ _ _ _ _ _ _ _ _ _ _ _ _ _ _ _ _ _ _ _ _ _ _ _ _ _ _ _ _ _ _ _ _ _ (fun e w' => e = .returned (.tuple #[.int .i64 (fewest n P : Int), .int .i64 0]) ∧ Below w.heap.size w w') ?_) ?_
    · exact fun W'' hW'' => ⟨rfl, hW''⟩
    · intro e a w h
      cases e <;> first | exact h | exact h.elim
  · intro x2 x3 x6 x7 x8 x9 x10 x11 x12 x13 x14 x15 x16 x17 x18 x19 x20 x21 x22 x23 x24 x25 x26 x27 x28 x29 x30 x31 x32 x33 x34 x35 x36 x37 x38 x39 x40 x41 x42 x43 x44 x45 x46 x47 x48 x49 x50 x51 x52 x53 x54 x55 x56 x57 x58 x59 x60 x61 x62 x63 x64 x65 x66 x67 x68 x69 x70 x71 x72 x73 x74 x75 x76 x77 x78 x79 x80 x81 x82 x83 x84 x85 x86 x87 x88 x89 x90 hlt
    rw [if_neg (by omega)]
    rw [Exit.noGoto_ret]
    exact ⟨_, results_tmp2 rfl _ _ _, rfl, Below.refl _ _⟩

/-- Fewest's contract. -/
theorem hanoi_Fewest.calls (a0 a1 : Int) (r1 r2 : Int) (w : World) (h : hanoi_Fewest.f a0 a1 = some (r1, r2)) :
    Calls Tryd.prog 29 #[.int .i64 a0, .int .i64 a1] w fun e w' => e = .returned (.tuple #[.int .i64 r1, .int .i64 r2]) ∧ Below w.heap.size w w' := by
  unfold hanoi_Fewest.f at h
  by_cases ha : asked a0 a1 = true
  · have hr : 0 ≤ a0 ∧ 0 ≤ a1 := by
      have h1 := ha
      unfold asked at h1
      simp only [Bool.and_eq_true, decide_eq_true_eq] at h1
      omega
    obtain ⟨n, rfl⟩ := Int.eq_ofNat_of_zero_le hr.1
    obtain ⟨P, rfl⟩ := Int.eq_ofNat_of_zero_le hr.2
    have hc := fewest_calls n P w ha
    simp only [Int.toNat_natCast] at h
    by_cases hp : P ^ n ≤ 70000
    · rw [if_pos ⟨ha, hp⟩] at h
      rw [if_pos hp] at hc
      cases h
      exact hc
    · rw [if_neg (fun hh => hp hh.2)] at h
      rw [if_neg hp] at hc
      cases h
      exact hc
  · rw [if_neg (fun hh => ha hh.1)] at h
    cases h
    have HA := Aside0.mk (asked_calls a0 a1)
    have hb : asked a0 a1 = false := by simpa using ha
    rw [hb] at HA
    clear ha hb
    refine (callsIn_wide (n := 8)).1 ?_
    refine callsIn_of_wp Tryd.func29 rfl trivial ?_ rfl
    simp only [Tryd.ntmps29, List.size_toArray, List.length_cons, List.length_nil, Nat.reduceAdd, Nat.reduceSub, Array.replicate_succ, Array.replicate_zero, List.push_toArray, List.append_toArray, List.nil_append, List.cons_append]
    gi_wp2
    refine wpIn_scope ?_
    gi_wp2_with (refine ⟨trivial, ?_⟩; gi_at_call 65; refine CallsIn.mono (callsIn_wide.2 (HA.out w)) ?_; rintro e w' ⟨rfl, rfl⟩)
    rw [Exit.noGoto_ret]
    exact bodyPost_ret (results_tmp2 rfl _ _ _) rfl ⟨rfl, Below.refl _ _⟩
end Go.Proofs.YtnaaomhmoamfpaaDoor.G
/- The search by levels, reckoned on whole numbers: bit c of a level tells whether the position with the code c is reached. -/
namespace Go.Proofs.YtnaaomhmoamfpaaDoor.G
set_option linter.unusedVariables false
set_option linter.unusedSimpArgs false
set_option linter.unusedSectionVars false
open Go.Proofs.YtnaaomhmoamfpaaDoor.Q Go.Proofs.YtnaaomhmoamfpaaDoor.Hn Go.Proofs.YtnaaomhmoamfpaaDoor.K Go.Proofs.YtnaaomhmoamfpaaDoor.It Go.Proofs.YtnaaomhmoamfpaaDoor.Bf
open Go.RowKit

theorem cov_iff (l : List Int) (q : Int) : ∀ i, i ≤ l.length → (cov l i q = true ↔ ∃ j, j < i ∧ nth l j = q)
  | 0, _ => by simp [cov_zero]
  | i + 1, hi => by
    rw [cov_succ _ _ (by omega), Bool.or_eq_true, cov_iff l q i (by omega), decide_eq_true_eq]
    constructor
    · rintro (⟨j, h1, h2⟩ | h)
      · exact ⟨j, by omega, h2⟩
      · exact ⟨i, by omega, h.symm⟩
    · rintro ⟨j, h1, h2⟩
      by_cases e : j = i
      · subst e; exact .inr h2.symm
      · exact .inl ⟨j, by omega, h2⟩
theorem cov_no (l : List Int) (q : Int) (i : Nat) (hi : i ≤ l.length) : cov l i q = false ↔ ∀ j, j < i → nth l j ≠ q := by
  rw [← Bool.not_eq_true, cov_iff l q i hi]
  exact ⟨fun h j hj e => h ⟨j, hj, e⟩, fun h ⟨j, hj, e⟩ => h j hj e⟩
theorem moves_mem {l : List Int} {P d b : Nat} : (d, b) ∈ movesL l P ↔ d < l.length ∧ b < P ∧ (∀ i, i < d → nth l i ≠ nth l d ∧ nth l i ≠ (b : Int)) ∧ nth l d ≠ (b : Int) := by
  unfold movesL movesIn
  rw [List.mem_flatMap]
  constructor
  · rintro ⟨i, hi, hx⟩
    have hil : i < l.length := by simpa using hi
    unfold movesAt at hx
    split at hx
    · cases hx
    · rename_i hc
      unfold movesTo at hx
      obtain ⟨t, ht, e⟩ := List.mem_map.1 hx
      simp only [Prod.mk.injEq] at e
      obtain ⟨rfl, rfl⟩ := e
      obtain ⟨h1, h2⟩ := List.mem_filter.1 ht
      simp only [Bool.and_eq_true, Bool.not_eq_true', decide_eq_true_eq] at h2
      have h3 := (cov_no l _ i (by omega)).1 (by simpa using hc)
      have h4 := (cov_no l _ i (by omega)).1 h2.1
      exact ⟨hil, by simpa using h1, fun j hj => ⟨h3 j hj, h4 j hj⟩, fun e => h2.2 e.symm⟩
  · rintro ⟨h1, h2, h3, h4⟩
    refine ⟨d, by simpa using h1, ?_⟩
    unfold movesAt
    rw [if_neg (by rw [Bool.not_eq_true, cov_no l _ d (by omega)]; exact fun j hj => (h3 j hj).1)]
    unfold movesTo
    refine List.mem_map.2 ⟨b, List.mem_filter.2 ⟨by simpa using h2, ?_⟩, rfl⟩
    simp only [Bool.and_eq_true, Bool.not_eq_true', decide_eq_true_eq]
    exact ⟨(cov_no l _ d (by omega)).2 (fun j hj => (h3 j hj).2), fun e => h4 e.symm⟩
theorem next_mem {l t : List Int} {P : Nat} : t ∈ nextP P l ↔ ∃ d b, (d, b) ∈ movesL l P ∧ l.set d (b : Int) = t := by
  unfold nextP
  rw [List.mem_map]
  exact ⟨fun ⟨⟨d, b⟩, h, e⟩ => ⟨d, b, h, e⟩, fun ⟨d, b, h, e⟩ => ⟨(d, b), h, e⟩⟩
theorem vp_next {n P : Nat} {l t : List Int} (h : Vp n P l) (ht : t ∈ nextP P l) : Vp n P t := by
  obtain ⟨d, b, hm, rfl⟩ := next_mem.1 ht
  obtain ⟨h1, h2, _⟩ := moves_mem.1 hm
  exact vp_set h d b (by rw [← h.1]; exact h1) h2
theorem vp_ball {n P : Nat} (hP : 1 ≤ P) : ∀ k x, x ∈ ball (nextP P) (startP n) k → Vp n P x
  | 0, x, h => by
    simp only [ball, List.mem_singleton] at h
    rw [h]; exact vp_start n P hP
  | k + 1, x, h => by
    rcases ball_succ.1 h with h | ⟨y, hy, hx⟩
    · exact vp_ball hP k x h
    · exact vp_next (vp_ball hP k y hy) hx

/-- The code of n digits. -/
def cdN (P : Nat) (s : Nat → Int) : Nat → Nat
  | 0 => 0
  | n + 1 => cdN P s n + (s n).toNat * P ^ n
theorem cdN_lt {P : Nat} {s : Nat → Int} : ∀ n, (∀ i, i < n → 0 ≤ s i ∧ s i < P) → cdN P s n < P ^ n
  | 0, _ => by simp [cdN]
  | n + 1, h => by
    have h1 := cdN_lt n (fun i hi => h i (by omega))
    have h2 := h n (by omega)
    have h3 : (s n).toNat + 1 ≤ P := by omega
    have h4 : ((s n).toNat + 1) * P ^ n ≤ P * P ^ n := Nat.mul_le_mul_right _ h3
    rw [Nat.add_mul, Nat.one_mul] at h4
    rw [cdN, Nat.pow_succ, Nat.mul_comm (P ^ n) P]
    omega
theorem cdN_inj {P : Nat} {s t : Nat → Int} : ∀ n, (∀ i, i < n → 0 ≤ s i ∧ s i < P) → (∀ i, i < n → 0 ≤ t i ∧ t i < P) → cdN P s n = cdN P t n → ∀ i, i < n → s i = t i
  | 0, _, _, _ => fun i hi => by omega
  | n + 1, hs, ht, e => by
    have h1 := cdN_lt n (fun i hi => hs i (by omega))
    have h2 := cdN_lt n (fun i hi => ht i (by omega))
    rw [cdN, cdN] at e
    have hp : 0 < P ^ n := by omega
    have e1 : (s n).toNat = (t n).toNat := by
      have q1 : (cdN P s n + (s n).toNat * P ^ n) / P ^ n = (s n).toNat := by rw [Nat.add_mul_div_right _ _ hp, Nat.div_eq_of_lt h1, Nat.zero_add]
      have q2 : (cdN P t n + (t n).toNat * P ^ n) / P ^ n = (t n).toNat := by rw [Nat.add_mul_div_right _ _ hp, Nat.div_eq_of_lt h2, Nat.zero_add]
      rw [← q1, e, q2]
    rw [e1] at e
    have e2 : cdN P s n = cdN P t n := by omega
    intro i hi
    by_cases hin : i = n
    · subst hin
      have := hs i (by omega)
      have := ht i (by omega)
      omega
    · exact cdN_inj n (fun i hi => hs i (by omega)) (fun i hi => ht i (by omega)) e2 i (by omega)
theorem cdN_upd_above {P : Nat} {s : Nat → Int} {d : Nat} {q : Int} : ∀ n, n ≤ d → cdN P (upd s d q) n = cdN P s n
  | 0, _ => rfl
  | n + 1, h => by rw [cdN, cdN, cdN_upd_above (d := d) n (by omega), upd_other _ _ (show n ≠ d by omega)]
theorem cdN_upd {P : Nat} {s : Nat → Int} {d : Nat} {q : Int} : ∀ n, d < n → cdN P (upd s d q) n + (s d).toNat * P ^ d = cdN P s n + q.toNat * P ^ d
  | 0, h => by omega
  | n + 1, h => by
    rw [cdN, cdN]
    by_cases e : d = n
    · subst e
      rw [cdN_upd_above d (Nat.le_refl _), upd_same]
      omega
    · have := cdN_upd (P := P) (s := s) (d := d) (q := q) n (by omega)
      rw [upd_other _ _ (show n ≠ d by omega)]
      omega

theorem one_bit (c : Nat) : Nat.testBit 1 c = decide (c = 0) := by
  have := @Nat.testBit_two_pow 0 c
  rw [Nat.pow_zero] at this
  rw [this, Bool.eq_iff_iff, decide_eq_true_eq, decide_eq_true_eq]
  omega
theorem vp_digits {n P : Nat} {x : List Int} (hx : Vp n P x) : ∀ i, i < n → 0 ≤ nth x i ∧ nth x i < P := fun i hi => hx.2 i (by rw [hx.1]; exact hi)
def orN : Nat → (Nat → Nat) → Nat
  | 0, _ => 0
  | k + 1, f => orN k f ||| f k
theorem orN_bit {f : Nat → Nat} {j : Nat} : ∀ k, (orN k f).testBit j = true ↔ ∃ i, i < k ∧ (f i).testBit j = true
  | 0 => by simp [orN]
  | k + 1 => by
    rw [orN, Nat.testBit_or, Bool.or_eq_true, orN_bit k]
    constructor
    · rintro (⟨i, h1, h2⟩ | h)
      · exact ⟨i, by omega, h2⟩
      · exact ⟨k, by omega, h⟩
    · rintro ⟨i, h1, h2⟩
      by_cases e : i = k
      · subst e; exact .inr h2
      · exact .inl ⟨i, by omega, h2⟩
/-- The codes whose digits are all let in. -/
def msk (P : Nat) (al : Nat → Nat → Bool) : Nat → Nat
  | 0 => 1
  | i + 1 => orN P (fun q => if al i q = true then msk P al i <<< (q * P ^ i) else 0)
theorem msk_lt (P : Nat) (al : Nat → Nat → Bool) : ∀ n j, (msk P al n).testBit j = true → j < P ^ n
  | 0, j, h => by
    have : j = 0 := by
      rcases Nat.eq_zero_or_pos j with e | e
      · exact e
      · rw [msk, one_bit] at h
        simpa using h
    subst this; simp
  | n + 1, j, h => by
    rw [msk, orN_bit] at h
    obtain ⟨q, hq, hb⟩ := h
    split at hb
    · rw [Nat.testBit_shiftLeft] at hb
      simp only [Bool.and_eq_true, decide_eq_true_eq] at hb
      have := msk_lt P al n _ hb.2
      have h4 : (q + 1) * P ^ n ≤ P * P ^ n := Nat.mul_le_mul_right _ hq
      rw [Nat.add_mul, Nat.one_mul] at h4
      rw [Nat.pow_succ, Nat.mul_comm (P ^ n) P]
      omega
    · simp at hb
theorem msk_bit (P : Nat) (al : Nat → Nat → Bool) (s : Nat → Int) : ∀ n, (∀ i, i < n → 0 ≤ s i ∧ s i < P) → ((msk P al n).testBit (cdN P s n) = true ↔ ∀ i, i < n → al i (s i).toNat = true)
  | 0, _ => by simp [msk, cdN]
  | n + 1, h => by
    have hlt := cdN_lt n (fun i hi => h i (Nat.lt_succ_of_lt hi))
    have hn := h n (by omega)
    rw [msk, orN_bit, cdN]
    constructor
    · rintro ⟨q, hq, hb⟩
      split at hb
      · rename_i ha
        rw [Nat.testBit_shiftLeft] at hb
        simp only [Bool.and_eq_true, decide_eq_true_eq] at hb
        have h1 := msk_lt P al n _ hb.2
        have hqs : q = (s n).toNat := by
          rcases Nat.lt_trichotomy q (s n).toNat with h2 | h2 | h2
          · have : (q + 1) * P ^ n ≤ (s n).toNat * P ^ n := Nat.mul_le_mul_right _ h2
            rw [Nat.add_mul, Nat.one_mul] at this
            omega
          · exact h2
          · have : ((s n).toNat + 1) * P ^ n ≤ q * P ^ n := Nat.mul_le_mul_right _ h2
            rw [Nat.add_mul, Nat.one_mul] at this
            omega
        subst hqs
        rw [Nat.add_sub_cancel] at hb
        have h3 := (msk_bit P al s n (fun i hi => h i (Nat.lt_succ_of_lt hi))).1 hb.2
        intro i hi
        by_cases e : i = n
        · subst e; exact ha
        · exact h3 i (by omega)
      · simp at hb
    · intro ha
      refine ⟨(s n).toNat, by omega, ?_⟩
      rw [if_pos (ha n (by omega)), Nat.testBit_shiftLeft, Nat.add_sub_cancel]
      simp only [Bool.and_eq_true, decide_eq_true_eq]
      exact ⟨by omega, (msk_bit P al s n (fun i hi => h i (Nat.lt_succ_of_lt hi))).2 (fun i hi => ha i (by omega))⟩

/-- Disc d lies on a, may go to b. -/
def alw (d a b : Nat) (i q : Nat) : Bool := if i < d then (q != a) && (q != b) else if i = d then q == a else true
def mv (P n B d a b : Nat) : Nat := if a = b then 0 else if a < b then (B &&& msk P (alw d a b) n) <<< ((b - a) * P ^ d) else (B &&& msk P (alw d a b) n) >>> ((a - b) * P ^ d)
def stepB (P n B : Nat) : Nat := B ||| orN n (fun d => orN P (fun a => orN P (fun b => mv P n B d a b)))
def lev (P n : Nat) : Nat → Nat
  | 0 => 1
  | k + 1 => stepB P n (lev P n k)

theorem alw_iff {n P : Nat} {x : List Int} (hx : Vp n P x) {d a b : Nat} (hd : d < n) :
    (∀ i, i < n → alw d a b i (nth x i).toNat = true) ↔ nth x d = (a : Int) ∧ ∀ i, i < d → nth x i ≠ (a : Int) ∧ nth x i ≠ (b : Int) := by
  constructor
  · intro h
    have h1 := h d hd
    have hp := vp_digits hx d hd
    rw [alw, if_neg (by omega), if_pos rfl, beq_iff_eq] at h1
    refine ⟨by omega, fun i hi => ?_⟩
    have h2 := h i (by omega)
    have hq := vp_digits hx i (by omega)
    rw [alw, if_pos hi, Bool.and_eq_true, bne_iff_ne, bne_iff_ne] at h2
    omega
  · rintro ⟨h1, h2⟩ i hi
    have hq := vp_digits hx i hi
    unfold alw
    split
    · rename_i hid
      have := h2 i hid
      rw [Bool.and_eq_true, bne_iff_ne, bne_iff_ne]
      omega
    · split
      · rename_i hid
        subst hid
        rw [beq_iff_eq]; omega
      · rfl

/-- One move, on the codes. -/
theorem mv_bit {n P : Nat} (hP : 1 ≤ P) {B : Nat} {L : List (List Int)} (hL : ∀ x, x ∈ L → Vp n P x) (hB : ∀ c, B.testBit c = true ↔ ∃ x, x ∈ L ∧ cdN P (nth x) n = c) {d a b : Nat} (hd : d < n) (ha : a < P) (hb : b < P) (c : Nat) :
    (mv P n B d a b).testBit c = true ↔ ∃ x, x ∈ L ∧ nth x d = (a : Int) ∧ (d, b) ∈ movesL x P ∧ cdN P (nth (x.set d (b : Int))) n = c := by
  have key : ∀ x, x ∈ L → (msk P (alw d a b) n).testBit (cdN P (nth x) n) = true → a ≠ b → nth x d = (a : Int) ∧ (d, b) ∈ movesL x P ∧ cdN P (nth (x.set d (b : Int))) n + a * P ^ d = cdN P (nth x) n + b * P ^ d := by
    intro x hx hm hab
    have hv := hL x hx
    have h1 := (alw_iff hv hd).1 ((msk_bit P _ _ n (vp_digits hv)).1 hm)
    refine ⟨h1.1, moves_mem.2 ⟨by rw [hv.1]; exact hd, hb, fun i hi => ?_, by rw [h1.1]; omega⟩, ?_⟩
    · rw [h1.1]; exact h1.2 i hi
    · have := cdN_upd (P := P) (s := nth x) (q := (b : Int)) n hd
      rw [h1.1] at this
      rw [nth_set _ _ _ (by rw [hv.1]; exact hd)]
      simpa using this
  have back : ∀ x, x ∈ L → nth x d = (a : Int) → (d, b) ∈ movesL x P → a ≠ b ∧ (msk P (alw d a b) n).testBit (cdN P (nth x) n) = true := by
    intro x hx hxa hm
    have hv := hL x hx
    obtain ⟨_, _, h3, h4⟩ := moves_mem.1 hm
    rw [hxa] at h4 h3
    exact ⟨by omega, (msk_bit P _ _ n (vp_digits hv)).2 ((alw_iff hv hd).2 ⟨hxa, h3⟩)⟩
  unfold mv
  by_cases hab : a = b
  · rw [if_pos hab]
    simp only [Nat.zero_testBit, Bool.false_eq_true, false_iff]
    rintro ⟨x, hx, hxa, hm, _⟩
    exact (back x hx hxa hm).1 hab
  · rw [if_neg hab]
    by_cases hlt : a < b
    · rw [if_pos hlt, Nat.testBit_shiftLeft, Nat.testBit_and]
      simp only [Bool.and_eq_true, decide_eq_true_eq]
      have hmul : (b - a) * P ^ d + a * P ^ d = b * P ^ d := by rw [← Nat.add_mul, Nat.sub_add_cancel (by omega)]
      constructor
      · rintro ⟨h1, h2, h3⟩
        obtain ⟨x, hx, e⟩ := (hB _).1 h2
        rw [← e] at h3
        obtain ⟨k1, k2, k3⟩ := key x hx h3 hab
        exact ⟨x, hx, k1, k2, by omega⟩
      · rintro ⟨x, hx, hxa, hm, e⟩
        obtain ⟨_, k2⟩ := back x hx hxa hm
        obtain ⟨_, _, k3⟩ := key x hx k2 hab
        have e2 : c - (b - a) * P ^ d = cdN P (nth x) n := by omega
        rw [e2]
        exact ⟨by omega, (hB _).2 ⟨x, hx, rfl⟩, k2⟩
    · rw [if_neg hlt, Nat.testBit_shiftRight, Nat.testBit_and]
      simp only [Bool.and_eq_true]
      have hmul : (a - b) * P ^ d + b * P ^ d = a * P ^ d := by rw [← Nat.add_mul, Nat.sub_add_cancel (by omega)]
      constructor
      · rintro ⟨h2, h3⟩
        obtain ⟨x, hx, e⟩ := (hB _).1 h2
        rw [← e] at h3
        obtain ⟨k1, k2, k3⟩ := key x hx h3 hab
        exact ⟨x, hx, k1, k2, by omega⟩
      · rintro ⟨x, hx, hxa, hm, e⟩
        obtain ⟨_, k2⟩ := back x hx hxa hm
        obtain ⟨_, _, k3⟩ := key x hx k2 hab
        have e2 : (a - b) * P ^ d + c = cdN P (nth x) n := by omega
        rw [e2]
        exact ⟨(hB _).2 ⟨x, hx, rfl⟩, k2⟩

theorem cd_start (P n : Nat) : cdN P (nth (startP n)) n = 0 := by
  rw [nth_start]
  induction n with
  | zero => rfl
  | succ n ih => rw [cdN, ih]; simp
theorem cd_goal (P n : Nat) (hP : 1 ≤ P) : cdN P (nth (goalP n P)) n = P ^ n - 1 := by
  rw [nth_goal]
  have key : ∀ m, m ≤ n → cdN P (goalTo P n) m = P ^ m - 1 := by
    intro m
    induction m with
    | zero => intro _; rfl
    | succ m ih =>
      intro hm
      have e : (goalTo P n m).toNat = P - 1 := by unfold goalTo; rw [if_pos (by omega)]; omega
      have hp : 1 ≤ P ^ m := Nat.pow_pos hP
      rw [cdN, ih (by omega), e, Nat.pow_succ, Nat.mul_comm (P ^ m) P]
      have : (P - 1 + 1) * P ^ m = P * P ^ m := by rw [Nat.sub_add_cancel hP]
      rw [Nat.add_mul, Nat.one_mul] at this
      omega
  exact key n (Nat.le_refl _)

theorem lev_ball {n P : Nat} (hP : 1 ≤ P) : ∀ k c, (lev P n k).testBit c = true ↔ ∃ x, x ∈ ball (nextP P) (startP n) k ∧ cdN P (nth x) n = c
  | 0, c => by
    rw [lev, one_bit]
    simp only [decide_eq_true_eq, ball, List.mem_singleton]
    constructor
    · rintro rfl
      exact ⟨_, rfl, cd_start P n⟩
    · rintro ⟨x, rfl, e⟩
      rw [cd_start] at e
      omega
  | k + 1, c => by
    rw [lev, stepB, Nat.testBit_or, Bool.or_eq_true, lev_ball hP k, orN_bit]
    have hv := vp_ball (n := n) hP k
    constructor
    · rintro (⟨x, hx, e⟩ | ⟨d, hd, h⟩)
      · exact ⟨x, ball_succ.2 (.inl hx), e⟩
      · obtain ⟨a, ha, h⟩ := (orN_bit P).1 h
        obtain ⟨b, hb, h⟩ := (orN_bit P).1 h
        obtain ⟨x, hx, _, hm, e⟩ := (mv_bit hP hv (lev_ball hP k) hd ha hb c).1 h
        exact ⟨_, ball_succ.2 (.inr ⟨x, hx, next_mem.2 ⟨d, b, hm, rfl⟩⟩), e⟩
    · rintro ⟨t, ht, e⟩
      rcases ball_succ.1 ht with ht | ⟨x, hx, hxt⟩
      · exact .inl ⟨t, ht, e⟩
      · obtain ⟨d, b, hm, rfl⟩ := next_mem.1 hxt
        obtain ⟨h1, h2, _⟩ := moves_mem.1 hm
        have hvx := hv x hx
        have hd : d < n := by rw [← hvx.1]; exact h1
        have hp := vp_digits hvx d hd
        refine .inr ⟨d, hd, (orN_bit P).2 ⟨(nth x d).toNat, by omega, (orN_bit P).2 ⟨b, h2, ?_⟩⟩⟩
        exact (mv_bit hP hv (lev_ball hP k) hd (by omega) h2 c).2 ⟨x, hx, by omega, hm, e⟩

theorem goal_ball {n P : Nat} (hP : 1 ≤ P) (k : Nat) : goalP n P ∈ ball (nextP P) (startP n) k ↔ (lev P n k).testBit (P ^ n - 1) = true := by
  rw [lev_ball hP, ← cd_goal P n hP]
  constructor
  · intro h; exact ⟨_, h, rfl⟩
  · rintro ⟨x, hx, e⟩
    have hv := vp_ball hP k x hx
    have hg := vp_goal n P hP
    have := cdN_inj n (vp_digits hv) (vp_digits hg) e
    have e2 : x = goalP n P := by
      apply List.ext_getElem (by rw [hv.1, hg.1])
      intro i h1 h2
      have := this i (by rw [← hv.1]; exact h1)
      simpa [nth, h1, h2] using this
    rw [← e2]; exact hx
theorem fewest_is {n P f : Nat} (hP : 1 ≤ P) (hf : f < P ^ n + 1) (h1 : (lev P n f).testBit (P ^ n - 1) = true) (h2 : f = 0 ∨ (lev P n (f - 1)).testBit (P ^ n - 1) = false) : fewest n P = f := by
  unfold fewest
  refine least_exact ⟨(goal_ball hP f).2 h1, fun j hj hm => ?_⟩ hf
  rcases h2 with h2 | h2
  · omega
  · have := (goal_ball hP (f - 1)).1 (ball_mono (by omega) hm)
    rw [h2] at this
    cases this
theorem fewest_5_4 : fewest 5 4 = 13 := fewest_is (by decide) (by decide) (by decide +kernel) (.inr (by decide +kernel))
end Go.Proofs.YtnaaomhmoamfpaaDoor.G
/- What every law of the chapter asks besides: the fixed answers. -/
namespace Go.Proofs.YtnaaomhmoamfpaaDoor.G
set_option linter.unusedVariables false
set_option linter.unusedSimpArgs false
set_option linter.unusedSectionVars false
open Go.Proofs.YtnaaomhmoamfpaaDoor.Q Go.Proofs.YtnaaomhmoamfpaaDoor.Hn
open Go.RowKit Go.Proofs.YtnaaomhmoamfpaaDoorW.PrintWords

theorem aw_total : hanoi_Total.f 1 = some (6, 0) := by decide +kernel
theorem aw_frame : hanoi_Frame.f 5 4 = some (13, 0) := by decide +kernel
theorem aw_fewest : hanoi_Fewest.f 5 4 = some (13, 0) := by
  unfold hanoi_Fewest.f
  rw [if_pos ⟨by decide, by decide⟩]
  show some ((fewest 5 4 : Int), (0 : Int)) = _
  rw [fewest_5_4]
  rfl
theorem okR_01 : okR ⟨#[48, 49]⟩ := ⟨by decide, by decide⟩
theorem okR_00 : okR ⟨#[48, 48]⟩ := ⟨by decide, by decide⟩
theorem aw_rank : hanoi_Rank.f ⟨#[48, 49]⟩ = some (3, 0) := by
  unfold hanoi_Rank.f
  rw [checkR_f]
  have h : checkR ⟨#[48, 49]⟩ = 0 := if_pos ⟨by decide, okR_01⟩
  rw [h, Option.bind_some, if_pos rfl]
  unfold hanoi_rank.f
  rw [if_pos okR_01, Option.bind_some]
  decide +kernel
theorem aw_unrank : hanoi_Unrank.f 2 2 = some (⟨#[49, 49]⟩, 0) := by
  unfold hanoi_Unrank.f
  rw [if_neg (by decide)]
  have : unr (2 : Int).toNat (2 : Int).toNat = [49, 49] := by decide +kernel
  rw [this]
theorem aw_next : hanoi_Next.f ⟨#[48, 48]⟩ ⟨#[48, 49]⟩ = some (0, 0) := by
  have h : openR ⟨#[48, 48]⟩ ⟨#[48, 49]⟩ = 0 := by
    unfold openR
    rw [if_neg (fun h => h ⟨by decide, okR_00⟩), if_neg (fun h => h ⟨by decide, okR_01⟩), if_pos (by decide)]
  unfold hanoi_Next.f
  rw [if_neg (fun hh => hh h), if_neg (by decide +kernel)]
  decide +kernel
theorem aw_rings : hanoi_CheckRings.f ⟨#[]⟩ = some 31 := by
  rw [checkR_f]
  have h : checkR ⟨#[]⟩ = 31 := if_neg (fun h => absurd h.1 (by decide))
  rw [h]
theorem aw_dist : Ev (fun k => hanoi_Distance.f k [0, 0, 0] [2, 2, 2]) (7, 0) := by
  have h := distance_ev [0, 0, 0] [2, 2, 2]
  have e : (if both [0, 0, 0] [2, 2, 2] = true then (dst (nth [0, 0, 0]) (nth [2, 2, 2]) ([0, 0, 0] : List Int).length, 0) else (0, openD [0, 0, 0] [2, 2, 2])) = ((7 : Int), (0 : Int)) := by decide +kernel
  rw [e] at h
  exact h
theorem aw_check : Ev (fun k => hanoi_Check.f k []) 30 := check_ev []
end Go.Proofs.YtnaaomhmoamfpaaDoor.G
/- What every law of the chapter asks besides: the walk. -/
namespace Go.Proofs.YtnaaomhmoamfpaaDoor.G
set_option linter.unusedVariables false
set_option linter.unusedSimpArgs false
set_option linter.unusedSectionVars false
open Go.Proofs.YtnaaomhmoamfpaaDoor.Q
open Go.RowKit Go.Proofs.YtnaaomhmoamfpaaDoorW.PrintWords Go.Proofs.YtnaaomhmoamfpaaDoorW.PrintLast Go.Proofs.YtnaaomhmoamfpaaDoorW.PrintMore
attribute [local go_sem] max2_int min2_int max_two min_two max_three min_three max_four min_four   -- for this text's walks alone
/-- The fixed answers are as they should be. -/
def bibelotlaw03_awake.f (k : Nat) : Option (Bool) := some true
theorem bibelotlaw03_awake.mono : ∀ k, LeO (bibelotlaw03_awake.f k) (bibelotlaw03_awake.f (k + 1)) := fun k => LeO.refl _
theorem awake_ev : Ev (fun k => bibelotlaw03_awake.f k) true := Ev.now true
set_option maxHeartbeats 8000000 in
set_option maxRecDepth 100000 in
theorem awake_calls (w : World) : Calls Tryd.prog 26 #[] w fun e w' => e = .returned (.bool true) ∧ Below w.heap.size w w' := by
  have HB := Aside0.mk (Below.refl w.heap.size w)
  obtain ⟨k, hd, hc⟩ : ∃ k, hanoi_Distance.f k [0, 0, 0] [2, 2, 2] = some (7, 0) ∧ hanoi_Check.f k [] = some 30 := by
    obtain ⟨k1, h1⟩ := aw_dist
    obtain ⟨k2, h2⟩ := aw_check
    exact ⟨max k1 k2, h1 _ (by omega), h2 _ (by omega)⟩
  obtain ⟨y161, hy161⟩ : ∃ y_ : List Int, y_ = (([0, 0, 0] : List Int)) := ⟨_, rfl⟩
  obtain ⟨y164, hy164⟩ : ∃ y_ : List Int, y_ = (([2, 2, 2] : List Int)) := ⟨_, rfl⟩
  rw [← hy161, ← hy164] at hd
  have Ny161 := Aside0.mk hy161
  have Ny164 := Aside0.mk hy164
  clear hy161 hy164
  obtain ⟨t167, e167⟩ : ∃ t : Int, t = 7 := ⟨_, rfl⟩
  obtain ⟨t168, e168⟩ : ∃ t : Int, t = 0 := ⟨_, rfl⟩
  obtain ⟨t169, e169⟩ : ∃ t : Int, t = 6 := ⟨_, rfl⟩
  obtain ⟨t170, e170⟩ : ∃ t : Int, t = 0 := ⟨_, rfl⟩
  obtain ⟨t171, e171⟩ : ∃ t : Int, t = 13 := ⟨_, rfl⟩
  obtain ⟨t172, e172⟩ : ∃ t : Int, t = 0 := ⟨_, rfl⟩
  obtain ⟨t173, e173⟩ : ∃ t : Int, t = 13 := ⟨_, rfl⟩
  obtain ⟨t174, e174⟩ : ∃ t : Int, t = 0 := ⟨_, rfl⟩
  obtain ⟨t175, e175⟩ : ∃ t : Int, t = 3 := ⟨_, rfl⟩
  obtain ⟨t176, e176⟩ : ∃ t : Int, t = 0 := ⟨_, rfl⟩
  obtain ⟨t178, e178⟩ : ∃ t : Int, t = 0 := ⟨_, rfl⟩
  obtain ⟨t179, e179⟩ : ∃ t : Int, t = 0 := ⟨_, rfl⟩
  obtain ⟨t180, e180⟩ : ∃ t : Int, t = 0 := ⟨_, rfl⟩
  obtain ⟨t181, e181⟩ : ∃ t : Int, t = 30 := ⟨_, rfl⟩
  obtain ⟨t182, e182⟩ : ∃ t : Int, t = 31 := ⟨_, rfl⟩
  obtain ⟨t177, e177⟩ : ∃ t : ByteArray, t = (⟨#[49, 49]⟩ : ByteArray) := ⟨_, rfl⟩
  have A1 := Aside0.mk (show hanoi_Distance.f k y161 y164 = some (t167, t168) by rw [e167, e168]; exact hd)
  have A2 := Aside0.mk (show hanoi_Total.f 1 = some (t169, t170) by rw [e169, e170]; exact aw_total)
  have A3 := Aside0.mk (show hanoi_Frame.f 5 4 = some (t171, t172) by rw [e171, e172]; exact aw_frame)
  have A4 := Aside0.mk (show hanoi_Fewest.f 5 4 = some (t173, t174) by rw [e173, e174]; exact aw_fewest)
  have A5 := Aside0.mk (show hanoi_Rank.f (⟨#[48, 49]⟩ : ByteArray) = some (t175, t176) by rw [e175, e176]; exact aw_rank)
  have A6 := Aside0.mk (show hanoi_Unrank.f 2 2 = some (t177, t178) by rw [e177, e178]; exact aw_unrank)
  have A7 := Aside0.mk (show hanoi_Next.f (⟨#[48, 48]⟩ : ByteArray) (⟨#[48, 49]⟩ : ByteArray) = some (t179, t180) by rw [e179, e180]; exact aw_next)
  have A22 := Aside0.mk (show hanoi_Check.f k ([] : List Int) = some t181 by rw [e181]; exact hc)
  have A24 := Aside0.mk (show hanoi_CheckRings.f (⟨#[]⟩ : ByteArray) = some t182 by rw [e182]; exact aw_rings)
  clear hd hc
  have c8b0 : (t168 == 0) = true := beq_iff_eq.mpr e168
  have c8b1 : (t168 != 0) = false := bne_eq_false_iff_eq.mpr e168
  clear e168
  have c9b0 : (t167 == 7) = true := beq_iff_eq.mpr e167
  have c9b1 : (t167 != 7) = false := bne_eq_false_iff_eq.mpr e167
  clear e167
  have c10b0 : (t170 == 0) = true := beq_iff_eq.mpr e170
  have c10b1 : (t170 != 0) = false := bne_eq_false_iff_eq.mpr e170
  clear e170
  have c11b0 : (t169 == 6) = true := beq_iff_eq.mpr e169
  have c11b1 : (t169 != 6) = false := bne_eq_false_iff_eq.mpr e169
  clear e169
  have c12b0 : (t172 == 0) = true := beq_iff_eq.mpr e172
  have c12b1 : (t172 != 0) = false := bne_eq_false_iff_eq.mpr e172
  clear e172
  have c13b0 : (t171 == 13) = true := beq_iff_eq.mpr e171
  have c13b1 : (t171 != 13) = false := bne_eq_false_iff_eq.mpr e171
  clear e171
  have c14b0 : (t174 == 0) = true := beq_iff_eq.mpr e174
  have c14b1 : (t174 != 0) = false := bne_eq_false_iff_eq.mpr e174
  clear e174
  have c15b0 : (t173 == 13) = true := beq_iff_eq.mpr e173
  have c15b1 : (t173 != 13) = false := bne_eq_false_iff_eq.mpr e173
  clear e173
  have c16b0 : (t176 == 0) = true := beq_iff_eq.mpr e176
  have c16b1 : (t176 != 0) = false := bne_eq_false_iff_eq.mpr e176
  clear e176
  have c17b0 : (t175 == 3) = true := beq_iff_eq.mpr e175
  have c17b1 : (t175 != 3) = false := bne_eq_false_iff_eq.mpr e175
  clear e175
  have c18b0 : (t178 == 0) = true := beq_iff_eq.mpr e178
  have c18b1 : (t178 != 0) = false := bne_eq_false_iff_eq.mpr e178
  clear e178
  have c20b0 : (t180 == 0) = true := beq_iff_eq.mpr e180
  have c20b1 : (t180 != 0) = false := bne_eq_false_iff_eq.mpr e180
  clear e180
  have c21b0 : (t179 == 0) = true := beq_iff_eq.mpr e179
  have c21b1 : (t179 != 0) = false := bne_eq_false_iff_eq.mpr e179
  clear e179
  have c23b0 : (t181 == 30) = true := beq_iff_eq.mpr e181
  have c23b1 : (t181 != 30) = false := bne_eq_false_iff_eq.mpr e181
  clear e181
  have c24b0 : (t182 == 31) = true := beq_iff_eq.mpr e182
  have c24b1 : (t182 != 31) = false := bne_eq_false_iff_eq.mpr e182
  clear e182
  have e19 : t177.toList = ([49, 49] : List UInt8) := by rw [e177]; decide +kernel
  have c19b0 : (t177.toList == ([49, 49] : List UInt8)) = true := beq_iff_eq.mpr e19
  have c19b1 : (t177.toList != ([49, 49] : List UInt8)) = false := bne_eq_false_iff_eq.mpr e19
  clear e177 e19
  go_enter Tryd.func26, Tryd.ntmps26
  go_wp2_with (first | ((with_reducible refine gate_dst (N := 16) rfl ?_); refine Kd.R_lit (Kd.int .i64) _ 3 ?hg (N := 16) ?hd (xs := ([0, 0, 0] : List Int)) (inner := [.int .i64 0, .int .i64 0, .int .i64 0]) (ok := fun _ => True) (okp := fun _ => True) ?hr ?hp (fun _ hk => hk) trivial (Below.refl _ _) (Nat.le_refl _) (by simp) ?_; (case hd => rfl); (case hg => rfl); (case hr => first | (go_simp; done) | (go_simp; rfl)); (case hp => exact (Reps.one (show Kd.M (Kd.int .i64) _ _ _ 0 [.int .i64 0] from rfl) (Reps.one (show Kd.M (Kd.int .i64) _ _ _ 0 [.int .i64 0] from rfl) (Reps.one (show Kd.M (Kd.int .i64) _ _ _ 0 [.int .i64 0] from rfl) (Reps.none _ _))))); intro v162 w25 ho26 hb hg_ hnew_; clear hg_ hnew_; (first | rw [← Ny161.out] at ho26 | (simp only [Int.reduceToNat] at ho26; rw [← Ny161.out] at ho26)); have n0_ := Aside0.mk (Kd.R_lower ho26 (below_size (by repeat (first | (with_reducible first | exact HB.out | apply below_alloc | apply pw_below_drewN | apply below_drew1) | exact HB.out)))); have n1_ := Aside0.mk (below_step (by repeat (first | (with_reducible first | exact HB.out | apply below_alloc | apply pw_below_drewN | apply below_drew1) | exact HB.out)) hb); clear HB; have HO163 := n0_; have HB := n1_; clear n0_ n1_; clear hb ho26) | ((with_reducible refine gate_dst (N := 17) rfl ?_); refine Kd.R_lit (Kd.int .i64) _ 3 ?hg (N := 17) ?hd (xs := ([2, 2, 2] : List Int)) (inner := [.int .i64 2, .int .i64 2, .int .i64 2]) (ok := fun _ => True) (okp := fun _ => True) ?hr ?hp (fun _ hk => hk) trivial (Below.refl _ _) (Nat.le_refl _) (by simp) ?_; (case hd => rfl); (case hg => rfl); (case hr => first | (go_simp; done) | (go_simp; rfl)); (case hp => exact (Reps.one (show Kd.M (Kd.int .i64) _ _ _ 2 [.int .i64 2] from rfl) (Reps.one (show Kd.M (Kd.int .i64) _ _ _ 2 [.int .i64 2] from rfl) (Reps.one (show Kd.M (Kd.int .i64) _ _ _ 2 [.int .i64 2] from rfl) (Reps.none _ _))))); intro v165 w27 ho28 hb hg_ hnew_; clear hg_ hnew_; (first | rw [← Ny164.out] at ho28 | (simp only [Int.reduceToNat] at ho28; rw [← Ny164.out] at ho28)); have n0_ := Aside0.mk (Kd.R_elder' (by (with_reducible repeat (first | apply Kd.R_alloc | apply Kd.R_drewN | apply Kd.R_drew)); exact HO163.out) (Kd.R_base ho28) hb); have n1_ := Aside0.mk (Kd.R_lower (Kd.R_new' ho28 (Kd.R_lt (by (with_reducible repeat (first | apply Kd.R_alloc | apply Kd.R_drewN | apply Kd.R_drew)); exact HO163.out))) (below_size (by repeat (first | (with_reducible first | exact HB.out | apply below_alloc | apply pw_below_drewN | apply below_drew1) | exact HB.out)))); have n2_ := Aside0.mk (below_step (by repeat (first | (with_reducible first | exact HB.out | apply below_alloc | apply pw_below_drewN | apply below_drew1) | exact HB.out)) hb); clear HO163; clear HB; have HO163 := n0_; have HO166 := n1_; have HB := n2_; clear n0_ n1_ n2_; clear hb ho28; obtain ⟨Ao29, co29, eo29⟩ := Kd.R_slice HO163.out; subst eo29; obtain ⟨Ao30, co30, eo30⟩ := Kd.R_slice HO166.out; subst eo30) | ((with_reducible refine gate_callee (f := 44) rfl ?_); refine goesL_ (some 18) rfl rfl Tryd.func44 (by kernel_rfl) rfl #[.slice Ao29 y161.length co29, .slice Ao30 y164.length co30] rfl (by (try simp only [List.map_toArray, List.map_cons, List.map_nil]); first | done | rfl | (simp only [List.length_drop, List.length_take]; rfl)) ?_; (with_reducible refine (hanoi_Distance.calls k (fun k_ => some k_ = (.slice Ao29 y161.length co29 : Value).ownBlock) _ _ y161 (fun k_ => some k_ = (.slice Ao30 y164.length co30 : Value).ownBlock) _ _ y164 t167 t168 _ ?side1 ?side2 A1.out).mono ?_); (case side1 => exact Kd.R_V (Kd.R_tight rfl (HO163.out))); (case side2 => exact Kd.R_V (Kd.R_tight rfl (HO166.out))); rintro e w31 ⟨rfl, hb⟩; refine ⟨_, rfl, ?_⟩; have n0_ := Aside0.mk (Kd.R_below (by (with_reducible repeat (first | apply Kd.R_alloc | apply Kd.R_drewN | apply Kd.R_drew)); exact HO163.out) hb); have n1_ := Aside0.mk (Kd.R_below (by (with_reducible repeat (first | apply Kd.R_alloc | apply Kd.R_drewN | apply Kd.R_drew)); exact HO166.out) hb); have n2_ := Aside0.mk (below_step (by repeat (first | (with_reducible first | exact HB.out | apply below_alloc | apply pw_below_drewN | apply below_drew1) | exact HB.out)) hb); clear HO163; clear HO166; clear HB; have HO163 := n0_; have HO166 := n1_; have HB := n2_; clear n0_ n1_ n2_; (try clear hb); (try clear hb2); (try clear hk); (try clear hi)) | ((with_reducible refine gate_callee (f := 23) rfl ?_); refine goesL_ (some 22) rfl rfl Tryd.func23 (by kernel_rfl) rfl #[.int .i64 1] rfl (by (try simp only [List.map_toArray, List.map_cons, List.map_nil]); first | done | rfl | (simp only [List.length_drop, List.length_take]; rfl)) ?_; (with_reducible refine (hanoi_Total.calls 1 t169 t170 _ A2.out).mono ?_); rintro e w32 ⟨rfl, hb⟩; refine ⟨_, rfl, ?_⟩; have n0_ := Aside0.mk (Kd.R_below (by (with_reducible repeat (first | apply Kd.R_alloc | apply Kd.R_drewN | apply Kd.R_drew)); exact HO163.out) hb); have n1_ := Aside0.mk (Kd.R_below (by (with_reducible repeat (first | apply Kd.R_alloc | apply Kd.R_drewN | apply Kd.R_drew)); exact HO166.out) hb); have n2_ := Aside0.mk (below_step (by repeat (first | (with_reducible first | exact HB.out | apply below_alloc | apply pw_below_drewN | apply below_drew1) | exact HB.out)) hb); clear HO163; clear HO166; clear HB; have HO163 := n0_; have HO166 := n1_; have HB := n2_; clear n0_ n1_ n2_; (try clear hb); (try clear hb2); (try clear hk); (try clear hi)) | ((with_reducible refine gate_callee (f := 27) rfl ?_); refine goesL_ (some 26) rfl rfl Tryd.func27 (by kernel_rfl) rfl #[.int .i64 5, .int .i64 4] rfl (by (try simp only [List.map_toArray, List.map_cons, List.map_nil]); first | done | rfl | (simp only [List.length_drop, List.length_take]; rfl)) ?_; (with_reducible refine (hanoi_Frame.calls 5 4 t171 t172 _ A3.out).mono ?_); rintro e w33 ⟨rfl, hb⟩; refine ⟨_, rfl, ?_⟩; have n0_ := Aside0.mk (Kd.R_below (by (with_reducible repeat (first | apply Kd.R_alloc | apply Kd.R_drewN | apply Kd.R_drew)); exact HO163.out) hb); have n1_ := Aside0.mk (Kd.R_below (by (with_reducible repeat (first | apply Kd.R_alloc | apply Kd.R_drewN | apply Kd.R_drew)); exact HO166.out) hb); have n2_ := Aside0.mk (below_step (by repeat (first | (with_reducible first | exact HB.out | apply below_alloc | apply pw_below_drewN | apply below_drew1) | exact HB.out)) hb); clear HO163; clear HO166; clear HB; have HO163 := n0_; have HO166 := n1_; have HB := n2_; clear n0_ n1_ n2_; (try clear hb); (try clear hb2); (try clear hk); (try clear hi)) | ((with_reducible refine gate_callee (f := 29) rfl ?_); refine goesL_ (some 30) rfl rfl Tryd.func29 (by kernel_rfl) rfl #[.int .i64 5, .int .i64 4] rfl (by (try simp only [List.map_toArray, List.map_cons, List.map_nil]); first | done | rfl | (simp only [List.length_drop, List.length_take]; rfl)) ?_; (with_reducible refine (hanoi_Fewest.calls 5 4 t173 t174 _ A4.out).mono ?_); rintro e w34 ⟨rfl, hb⟩; refine ⟨_, rfl, ?_⟩; have n0_ := Aside0.mk (Kd.R_below (by (with_reducible repeat (first | apply Kd.R_alloc | apply Kd.R_drewN | apply Kd.R_drew)); exact HO163.out) hb); have n1_ := Aside0.mk (Kd.R_below (by (with_reducible repeat (first | apply Kd.R_alloc | apply Kd.R_drewN | apply Kd.R_drew)); exact HO166.out) hb); have n2_ := Aside0.mk (below_step (by repeat (first | (with_reducible first | exact HB.out | apply below_alloc | apply pw_below_drewN | apply below_drew1) | exact HB.out)) hb); clear HO163; clear HO166; clear HB; have HO163 := n0_; have HO166 := n1_; have HB := n2_; clear n0_ n1_ n2_; (try clear hb); (try clear hb2); (try clear hk); (try clear hi)) | ((with_reducible refine gate_callee (f := 33) rfl ?_); refine goesL_ (some 34) rfl rfl Tryd.func33 (by kernel_rfl) rfl #[.string (⟨#[48, 49]⟩ : ByteArray)] rfl (by (try simp only [List.map_toArray, List.map_cons, List.map_nil]); first | done | rfl | (simp only [List.length_drop, List.length_take]; rfl)) ?_; (with_reducible refine (hanoi_Rank.calls (⟨#[48, 49]⟩ : ByteArray) t175 t176 _ A5.out).mono ?_); rintro e w35 ⟨rfl, hb⟩; refine ⟨_, rfl, ?_⟩; have n0_ := Aside0.mk (Kd.R_below (by (with_reducible repeat (first | apply Kd.R_alloc | apply Kd.R_drewN | apply Kd.R_drew)); exact HO163.out) hb); have n1_ := Aside0.mk (Kd.R_below (by (with_reducible repeat (first | apply Kd.R_alloc | apply Kd.R_drewN | apply Kd.R_drew)); exact HO166.out) hb); have n2_ := Aside0.mk (below_step (by repeat (first | (with_reducible first | exact HB.out | apply below_alloc | apply pw_below_drewN | apply below_drew1) | exact HB.out)) hb); clear HO163; clear HO166; clear HB; have HO163 := n0_; have HO166 := n1_; have HB := n2_; clear n0_ n1_ n2_; (try clear hb); (try clear hb2); (try clear hk); (try clear hi)) | ((with_reducible refine gate_callee (f := 32) rfl ?_); refine goesL_ (some 38) rfl rfl Tryd.func32 (by kernel_rfl) rfl #[.int .i64 2, .int .i64 2] rfl (by (try simp only [List.map_toArray, List.map_cons, List.map_nil]); first | done | rfl | (simp only [List.length_drop, List.length_take]; rfl)) ?_; (with_reducible refine (hanoi_Unrank.calls 2 2 t177 t178 _ A6.out).mono ?_); rintro e w36 ⟨rfl, hb⟩; refine ⟨_, rfl, ?_⟩; have n0_ := Aside0.mk (Kd.R_below (by (with_reducible repeat (first | apply Kd.R_alloc | apply Kd.R_drewN | apply Kd.R_drew)); exact HO163.out) hb); have n1_ := Aside0.mk (Kd.R_below (by (with_reducible repeat (first | apply Kd.R_alloc | apply Kd.R_drewN | apply Kd.R_drew)); exact HO166.out) hb); have n2_ := Aside0.mk (below_step (by repeat (first | (with_reducible first | exact HB.out | apply below_alloc | apply pw_below_drewN | apply below_drew1) | exact HB.out)) hb); clear HO163; clear HO166; clear HB; have HO163 := n0_; have HO166 := n1_; have HB := n2_; clear n0_ n1_ n2_; (try clear hb); (try clear hb2); (try clear hk); (try clear hi)) | ((with_reducible refine gate_callee (f := 37) rfl ?_); refine goesL_ (some 42) rfl rfl Tryd.func37 (by kernel_rfl) rfl #[.string (⟨#[48, 48]⟩ : ByteArray), .string (⟨#[48, 49]⟩ : ByteArray)] rfl (by (try simp only [List.map_toArray, List.map_cons, List.map_nil]); first | done | rfl | (simp only [List.length_drop, List.length_take]; rfl)) ?_; (with_reducible refine (hanoi_Next.calls (⟨#[48, 48]⟩ : ByteArray) (⟨#[48, 49]⟩ : ByteArray) t179 t180 _ A7.out).mono ?_); rintro e w37 ⟨rfl, hb⟩; refine ⟨_, rfl, ?_⟩; have n0_ := Aside0.mk (Kd.R_below (by (with_reducible repeat (first | apply Kd.R_alloc | apply Kd.R_drewN | apply Kd.R_drew)); exact HO163.out) hb); have n1_ := Aside0.mk (Kd.R_below (by (with_reducible repeat (first | apply Kd.R_alloc | apply Kd.R_drewN | apply Kd.R_drew)); exact HO166.out) hb); have n2_ := Aside0.mk (below_step (by repeat (first | (with_reducible first | exact HB.out | apply below_alloc | apply pw_below_drewN | apply below_drew1) | exact HB.out)) hb); clear HO163; clear HO166; clear HB; have HO163 := n0_; have HO166 := n1_; have HB := n2_; clear n0_ n1_ n2_; (try clear hb); (try clear hb2); (try clear hk); (try clear hi)) | (go_at_call 62; (refine (hanoi_Check.calls k _ _ ([] : List Int) t181 _ ?side1 ?side2 A22.out).mono ?_); (case side1 => exact Kd.C_nil _ _); (case side2 => exact Nat.le_refl _); rintro e w38 ⟨rfl, hb⟩; have n0_ := Aside0.mk (Kd.R_below (by (with_reducible repeat (first | apply Kd.R_alloc | apply Kd.R_drewN | apply Kd.R_drew)); exact HO163.out) hb); have n1_ := Aside0.mk (Kd.R_below (by (with_reducible repeat (first | apply Kd.R_alloc | apply Kd.R_drewN | apply Kd.R_drew)); exact HO166.out) hb); have n2_ := Aside0.mk (below_step (by repeat (first | (with_reducible first | exact HB.out | apply below_alloc | apply pw_below_drewN | apply below_drew1) | exact HB.out)) hb); clear HO163; clear HO166; clear HB; have HO163 := n0_; have HO166 := n1_; have HB := n2_; clear n0_ n1_ n2_; (try clear hb); (try clear hb2); (try clear hk); (try clear hi)) | (go_at_call 53; (with_reducible refine (hanoi_CheckRings.calls (⟨#[]⟩ : ByteArray) t182 _ A24.out).mono ?_); rintro e w39 ⟨rfl, hb⟩; have n0_ := Aside0.mk (Kd.R_below (by (with_reducible repeat (first | apply Kd.R_alloc | apply Kd.R_drewN | apply Kd.R_drew)); exact HO163.out) hb); have n1_ := Aside0.mk (Kd.R_below (by (with_reducible repeat (first | apply Kd.R_alloc | apply Kd.R_drewN | apply Kd.R_drew)); exact HO166.out) hb); have n2_ := Aside0.mk (below_step (by repeat (first | (with_reducible first | exact HB.out | apply below_alloc | apply pw_below_drewN | apply below_drew1) | exact HB.out)) hb); clear HO163; clear HO166; clear HB; have HO163 := n0_; have HO166 := n1_; have HB := n2_; clear n0_ n1_ n2_; (try clear hb); (try clear hb2); (try clear hk); (try clear hi)))
  go_ret
  exact ⟨by first | rfl | (simp [errW_none, errW_some] <;> rfl) | (simp [*, errW_none, errW_some] <;> rfl), by repeat (first | (with_reducible first | exact HB.out | apply below_alloc | apply pw_below_drewN | apply below_drew1) | exact HB.out)⟩
theorem bibelotlaw03_awake.calls (k : Nat) (r : Bool) (w : World) (h : bibelotlaw03_awake.f k = some r) :
    Calls Tryd.prog 26 #[] w fun e w' => e = .returned (.bool r) ∧ Below w.heap.size w w' := by
  cases h
  exact awake_calls w
end Go.Proofs.YtnaaomhmoamfpaaDoor.G
namespace Go.Proofs.YtnaaomhmoamfpaaDoor.G
end Go.Proofs.YtnaaomhmoamfpaaDoor.G
namespace Go.Proofs.YtnaaomhmoamfpaaDoor.Q
set_option linter.unusedVariables false
set_option linter.unusedSimpArgs false
set_option linter.unusedSectionVars false
open Go.Proofs.YtnaaomhmoamfpaaDoor.G
open Go.RowKit Go.Proofs.YtnaaomhmoamfpaaDoorW.PrintWords Go.Proofs.YtnaaomhmoamfpaaDoorW.PrintLast Go.Proofs.YtnaaomhmoamfpaaDoorW.PrintMore
attribute [local go_sem] max2_int min2_int max_two min_two max_three min_three max_four min_four   -- for this text's walks alone

/-! ### bibelotlaw03_many: function 25 -/
def bibelotlaw03_many.f (a0 : Int) (a1 : Int) : Option (Int) := if (IntKind.u64.wrap (a1)) = 0 then (none) else (some (wrap64 (1 + (wrap64 (Int.tmod (IntKind.u64.wrap (a0)) (IntKind.u64.wrap (a1)))))))
set_option maxHeartbeats 8000000 in
set_option maxRecDepth 100000 in
theorem bibelotlaw03_many.calls (a0 : Int) (a1 : Int) (r : Int) (w : World) (h : bibelotlaw03_many.f a0 a1 = some r) :
    Calls Tryd.prog 25 #[.int .i64 a0, .int .i64 a1] w fun e w' => e = .returned (.int .i64 r) ∧ Drawn0 w w' := by
  have H : (if (IntKind.u64.wrap (a1)) = 0 then (none) else (some (wrap64 (1 + (wrap64 (Int.tmod (IntKind.u64.wrap (a0)) (IntKind.u64.wrap (a1)))))))) = some r := h
  clear h
  by_cases c3 : (IntKind.u64.wrap (a1)) = 0
  · rw [if_pos c3] at H
    exact absurd H (by simp)
  · rw [if_neg c3] at H
    have c3b0 : ((IntKind.u64.wrap (a1)) == 0) = false := beq_eq_false_iff_ne.mpr c3
    have c3b1 : ((IntKind.u64.wrap (a1)) != 0) = true := bne_iff_ne.mpr c3
    obtain rfl := Option.some.inj H
    go_enter Tryd.func25, Tryd.ntmps25
    go_wp2
    go_ret
    exact ⟨by first | rfl | (simp; done) | (simp [*]; done), by repeat (first | exact Drawn0.refl _ | apply Drawn0.step)⟩

end Go.Proofs.YtnaaomhmoamfpaaDoor.Q
namespace Go.Proofs.YtnaaomhmoamfpaaDoor.G
end Go.Proofs.YtnaaomhmoamfpaaDoor.G
namespace Go.Proofs.YtnaaomhmoamfpaaDoor.Q
set_option linter.unusedVariables false
set_option linter.unusedSimpArgs false
set_option linter.unusedSectionVars false
open Go.Proofs.YtnaaomhmoamfpaaDoor.G
open Go.RowKit Go.Proofs.YtnaaomhmoamfpaaDoorW.PrintWords Go.Proofs.YtnaaomhmoamfpaaDoorW.PrintLast Go.Proofs.YtnaaomhmoamfpaaDoorW.PrintMore
attribute [local go_sem] max2_int min2_int max_two min_two max_three min_three max_four min_four   -- for this text's walks alone

/-! ### bibelotref03_Decoded: function 46 -/
def bibelotref03_Decoded.l0 : Nat → Int → Int → Int → List Int → Int → Option (List Int)
  | 0, _, _, _, _, _ => none
  | k + 1, x0, x1, x2, x7, x8 => if x8 < x0 then (if x2 = 0 then (none) else (if x7.length < 17592186044416 then (bibelotref03_Decoded.l0 k x0 (wrap64 (Int.tdiv x1 x2)) x2 (x7 ++ [Int.tmod x1 x2]) (wrap64 (x8 + 1))) else (none))) else (some x7)
def bibelotref03_Decoded.f (k : Nat) (a0 : Int) (a1 : Int) (a2 : Int) : Option (List Int) := bibelotref03_Decoded.l0 k a0 a1 a2 ([] : List Int) 0
theorem bibelotref03_Decoded.mono_l : ∀ k, (∀ y0 y1 y2 y3 y4, LeO (bibelotref03_Decoded.l0 k y0 y1 y2 y3 y4) (bibelotref03_Decoded.l0 (k + 1) y0 y1 y2 y3 y4))
  | 0 => fun _ _ _ _ _ r h => by simp [bibelotref03_Decoded.l0] at h
  | k + 1 => by
    have ih0 := bibelotref03_Decoded.mono_l k
    · intro y0 y1 y2 y3 y4
      unfold bibelotref03_Decoded.l0
      repeat' first
      | (with_reducible exact ih0 _ _ _ _ _)
      | (with_reducible exact LeO.refl _)
      | (with_reducible exact LeO.none _)
      | (with_reducible refine LeO.ite ?_ ?_)
      | (with_reducible refine LeO.bind ?_ (fun _ => ?_))
      | exact ih0 _ _ _ _ _
      | exact LeO.none _
      | refine LeO.ite ?_ ?_
      | refine LeO.bind ?_ (fun _ => ?_)
theorem bibelotref03_Decoded.mono : ∀ a0 a1 a2 k, LeO (bibelotref03_Decoded.f k a0 a1 a2) (bibelotref03_Decoded.f (k + 1) a0 a1 a2) := by
  intro a0 a1 a2 k
  have ih0 := bibelotref03_Decoded.mono_l k
  unfold bibelotref03_Decoded.f
  repeat' first
      | (with_reducible exact ih0 _ _ _ _ _)
      | (with_reducible exact LeO.refl _)
      | (with_reducible exact LeO.none _)
      | (with_reducible refine LeO.ite ?_ ?_)
      | (with_reducible refine LeO.bind ?_ (fun _ => ?_))
      | exact ih0 _ _ _ _ _
      | exact LeO.none _
      | refine LeO.ite ?_ ?_
      | refine LeO.bind ?_ (fun _ => ?_)
set_option maxHeartbeats 8000000 in
set_option maxRecDepth 100000 in
theorem bibelotref03_Decoded.calls (k : Nat) (a0 : Int) (a1 : Int) (a2 : Int) (r : List Int) (w : World) (h : bibelotref03_Decoded.f k a0 a1 a2 = some r) :
    Calls Tryd.prog 46 #[.int .i64 a0, .int .i64 a1, .int .i64 a2] w fun e w' => ∃ v0_ : Value, e = .returned (v0_) ∧ Kd.R (Kd.int .i64) 3 w' w.heap.size (fun _ => True) v0_ r ∧ Below w.heap.size w w' := by
  have HB := Aside0.mk (Below.refl w.heap.size w)
  have H : (bibelotref03_Decoded.l0 k a0 a1 a2 ([] : List Int) 0) = some r := h
  clear h
  have H' := Aside0.mk H
  clear H
  go_enter Tryd.func46, Tryd.ntmps46
  go_wp2
  go_loopg [1, 7, 8] k (fun kq v1 v7 v8 w' => ∃ (x1_1 : Int) (x7_1 : List Int) (x8_1 : Int), v1 = .int .i64 x1_1 ∧ v8 = .int .i64 x8_1 ∧ Aside0 (bibelotref03_Decoded.l0 kq a0 x1_1 a2 x7_1 x8_1 = some r) ∧ Aside0 (kq ≤ k) ∧ Aside0 (Kd.R (Kd.int .i64) 3 w' w.heap.size (fun _ => True) v7 x7_1) ∧ Aside0 (Below w.heap.size w w'))
  case atStart => exact ⟨(a1), (([] : List Int)), (0), (by first | rfl | (simp; done) | (simp [*]; done)), (by first | rfl | (simp; done) | (simp [*]; done)), H', ⟨Nat.le_refl _⟩, ⟨by first | exact Kd.R_nil _ _ _ _ _ | exact Kd.N_nil _ _ _ _ _ | exact Kd.V_nil _ _ _ _ _ | exact Kd.Q_nil _ _ _ _ _ | exact Kd.S_nil _ _ _ _ _⟩, ⟨by repeat (first | (with_reducible first | exact HB.out | apply below_alloc | apply pw_below_drewN | apply below_drew1) | exact HB.out)⟩⟩
  case round =>
    clear H'
    try clear p2
    obtain ⟨x1_1, x7_1, x8_1, rfl, rfl, HA, HK1, HO_7, HB⟩ := hrel
    cases gk with
    | zero => exact absurd HA.out (by simp [bibelotref03_Decoded.l0])
    | succ k1 =>
      have H := HA.out
      clear HA
      simp only [bibelotref03_Decoded.l0] at H
      by_cases c4 : x8_1 < a0
      · rw [if_pos c4] at H
        have c4b0 : decide (x8_1 < a0) = true := decide_eq_true c4
        clear c4
        by_cases c5 : a2 = 0
        · rw [if_pos c5] at H
          exact absurd H (by simp)
        · rw [if_neg c5] at H
          have c5b0 : (a2 == 0) = false := beq_eq_false_iff_ne.mpr c5
          have c5b1 : (a2 != 0) = true := bne_iff_ne.mpr c5
          by_cases c6 : x7_1.length < 17592186044416
          · rw [if_pos c6] at H
            have LMc6 := Aside0.mk c6
            clear c6
            obtain ⟨y101, hy101⟩ : ∃ y_ : List Int, y_ = (x7_1 ++ [Int.tmod x1_1 a2]) := ⟨_, rfl⟩
            replace H : (bibelotref03_Decoded.l0 k1 a0 (wrap64 (Int.tdiv x1_1 a2)) a2 y101 (wrap64 (x8_1 + 1))) = some r := by first | (rw [hy101]; with_reducible exact H) | (have H2_ := (Option.bind_some _ _).symm.trans H; rw [hy101]; with_reducible exact H2_) | (have H2_ := (Option.bind_some _ _).symm.trans H; with_reducible exact H2_) | with_reducible exact H | (rw [hy101]; exact H) | exact H
            have Ny101 := Aside0.mk hy101
            clear hy101
            have H' := Aside0.mk H
            clear H
            go_wp2_with (first | ((with_reducible refine gate_builtin (b := .append) (xs := #[.tmp 14, .tmp 18]) rfl ?_); at_builtin; refine Kd.R_append (Kd.int .i64) (w0 := w) w.heap.size rfl (.tmp 14) (.tmp 18) 46 3 (.int .i64 0) 8 rfl Tryd.underlying46 info3 rfl (by decide) (by omega) u7 x7_1 (Int.tmod x1_1 a2) [.int .i64 (Int.tmod x1_1 a2)] (fun _ => True) (fun _ => False) rfl rfl ?aP (fun _ hk => hk.elim) ?aF ?aO ?aB ?aS ?aL ?_; (case aP => exact rfl); (case aB => exact (by repeat (first | (with_reducible first | exact HB.out | apply below_alloc | apply pw_below_drewN | apply below_drew1) | exact HB.out))); (case aF => exact (fun _ _ => trivial)); (case aO => exact (by (with_reducible repeat (first | apply Kd.R_alloc | apply Kd.R_drewN | apply Kd.R_drew)); exact HO_7.out)); (case aS => exact (below_size (by repeat (first | (with_reducible first | exact HB.out | apply below_alloc | apply pw_below_drewN | apply below_drew1) | exact HB.out)))); (case aL => have := LMc6.out; omega); intro v102 w7 ho hb hg hat; rw [← Ny101.out] at ho; have n0_ := Aside0.mk (hb); have n1_ := Aside0.mk (ho); clear HB; clear HO_7; have HB := n0_; have HO103 := n1_; clear n0_ n1_; clear ho hb hg hat))
            go_roundg k1
            case measure => have := HK1.out; omega
            case rel => exact ⟨(wrap64 (Int.tdiv x1_1 a2)), (y101), (wrap64 (x8_1 + 1)), (by first | rfl | (simp; done) | (simp [*]; done)), (by first | rfl | (simp; done) | (simp [*]; done)), H', ⟨by have := HK1.out; omega⟩, ⟨by (with_reducible repeat (first | apply Kd.R_alloc | apply Kd.R_drewN | apply Kd.R_drew)); exact HO103.out⟩, ⟨by repeat (first | (with_reducible first | exact HB.out | apply below_alloc | apply pw_below_drewN | apply below_drew1) | exact HB.out)⟩⟩
          · rw [if_neg c6] at H
            exact absurd H (by simp)
      · rw [if_neg c4] at H
        have c4b0 : decide (x8_1 < a0) = false := decide_eq_false c4
        clear c4
        obtain rfl := Option.some.inj H
        go_wp2
        go_ret
        exact ⟨_, by first | rfl | (simp [errW_none, errW_some] <;> rfl) | (simp [*, errW_none, errW_some] <;> rfl), by (with_reducible repeat (first | apply Kd.R_alloc | apply Kd.R_drewN | apply Kd.R_drew)); exact HO_7.out, by repeat (first | (with_reducible first | exact HB.out | apply below_alloc | apply pw_below_drewN | apply below_drew1) | exact HB.out)⟩

end Go.Proofs.YtnaaomhmoamfpaaDoor.Q
namespace Go.Proofs.YtnaaomhmoamfpaaDoor.G
end Go.Proofs.YtnaaomhmoamfpaaDoor.G
namespace Go.Proofs.YtnaaomhmoamfpaaDoor.Q
set_option linter.unusedVariables false
set_option linter.unusedSimpArgs false
set_option linter.unusedSectionVars false
open Go.Proofs.YtnaaomhmoamfpaaDoor.G
open Go.RowKit Go.Proofs.YtnaaomhmoamfpaaDoorW.PrintWords Go.Proofs.YtnaaomhmoamfpaaDoorW.PrintLast Go.Proofs.YtnaaomhmoamfpaaDoorW.PrintMore
attribute [local go_sem] max2_int min2_int max_two min_two max_three min_three max_four min_four   -- for this text's walks alone

/-! ### bibelotref03_power: function 64 -/
def bibelotref03_power.l0 : Nat → Int → Int → Int → Int → Option (Int)
  | 0, _, _, _, _ => none
  | k + 1, x0, x1, x5, x6 => if x6 < x1 then (bibelotref03_power.l0 k x0 x1 (wrap64 (x5 * x0)) (wrap64 (x6 + 1))) else (some x5)
def bibelotref03_power.f (k : Nat) (a0 : Int) (a1 : Int) : Option (Int) := bibelotref03_power.l0 k a0 a1 1 0
theorem bibelotref03_power.mono_l : ∀ k, (∀ y0 y1 y2 y3, LeO (bibelotref03_power.l0 k y0 y1 y2 y3) (bibelotref03_power.l0 (k + 1) y0 y1 y2 y3))
  | 0 => fun _ _ _ _ r h => by simp [bibelotref03_power.l0] at h
  | k + 1 => by
    have ih0 := bibelotref03_power.mono_l k
    · intro y0 y1 y2 y3
      unfold bibelotref03_power.l0
      repeat' first
      | (with_reducible exact ih0 _ _ _ _)
      | (with_reducible exact LeO.refl _)
      | (with_reducible exact LeO.none _)
      | (with_reducible refine LeO.ite ?_ ?_)
      | (with_reducible refine LeO.bind ?_ (fun _ => ?_))
      | exact ih0 _ _ _ _
      | exact LeO.none _
      | refine LeO.ite ?_ ?_
      | refine LeO.bind ?_ (fun _ => ?_)
theorem bibelotref03_power.mono : ∀ a0 a1 k, LeO (bibelotref03_power.f k a0 a1) (bibelotref03_power.f (k + 1) a0 a1) := by
  intro a0 a1 k
  have ih0 := bibelotref03_power.mono_l k
  unfold bibelotref03_power.f
  repeat' first
      | (with_reducible exact ih0 _ _ _ _)
      | (with_reducible exact LeO.refl _)
      | (with_reducible exact LeO.none _)
      | (with_reducible refine LeO.ite ?_ ?_)
      | (with_reducible refine LeO.bind ?_ (fun _ => ?_))
      | exact ih0 _ _ _ _
      | exact LeO.none _
      | refine LeO.ite ?_ ?_
      | refine LeO.bind ?_ (fun _ => ?_)
set_option maxHeartbeats 8000000 in
set_option maxRecDepth 100000 in
theorem bibelotref03_power.calls (k : Nat) (a0 : Int) (a1 : Int) (r : Int) (w : World) (h : bibelotref03_power.f k a0 a1 = some r) :
    Calls Tryd.prog 64 #[.int .i64 a0, .int .i64 a1] w fun e w' => e = .returned (.int .i64 r) ∧ Drawn0 w w' := by
  have H : (bibelotref03_power.l0 k a0 a1 1 0) = some r := h
  clear h
  have H' := Aside0.mk H
  clear H
  go_enter Tryd.func64, Tryd.ntmps64
  go_wp2
  go_loopg [5, 6] k (fun kq v5 v6 w' => ∃ (x5_1 : Int) (x6_1 : Int), v5 = .int .i64 x5_1 ∧ v6 = .int .i64 x6_1 ∧ Aside0 (bibelotref03_power.l0 kq a0 a1 x5_1 x6_1 = some r) ∧ Aside0 (kq ≤ k) ∧ Drawn0 w w')
  case atStart => exact ⟨(1), (0), (by first | rfl | (simp; done) | (simp [*]; done)), (by first | rfl | (simp; done) | (simp [*]; done)), H', ⟨Nat.le_refl _⟩, by repeat (first | exact Drawn0.refl _ | apply Drawn0.step)⟩
  case round =>
    clear H'
    try clear p2
    obtain ⟨x5_1, x6_1, rfl, rfl, HA, HK1, ⟨m1, rfl⟩⟩ := hrel
    cases gk with
    | zero => exact absurd HA.out (by simp [bibelotref03_power.l0])
    | succ k1 =>
      have H := HA.out
      clear HA
      simp only [bibelotref03_power.l0] at H
      by_cases c3 : x6_1 < a1
      · rw [if_pos c3] at H
        have c3b0 : decide (x6_1 < a1) = true := decide_eq_true c3
        clear c3
        have H' := Aside0.mk H
        clear H
        go_wp2
        go_roundg k1
        case measure => have := HK1.out; omega
        case rel => exact ⟨(wrap64 (x5_1 * a0)), (wrap64 (x6_1 + 1)), (by first | rfl | (simp; done) | (simp [*]; done)), (by first | rfl | (simp; done) | (simp [*]; done)), H', ⟨by have := HK1.out; omega⟩, by repeat (first | exact Drawn0.refl _ | apply Drawn0.step)⟩
      · rw [if_neg c3] at H
        have c3b0 : decide (x6_1 < a1) = false := decide_eq_false c3
        clear c3
        obtain rfl := Option.some.inj H
        go_wp2
        go_ret
        exact ⟨by first | rfl | (simp; done) | (simp [*]; done), by repeat (first | exact Drawn0.refl _ | apply Drawn0.step)⟩

end Go.Proofs.YtnaaomhmoamfpaaDoor.Q
/- The document's small functions: what they come to. -/
namespace Go.Proofs.YtnaaomhmoamfpaaDoor.G
set_option linter.unusedVariables false
set_option linter.unusedSimpArgs false
set_option linter.unusedSectionVars false
open Go.Proofs.YtnaaomhmoamfpaaDoor.Q Go.Proofs.YtnaaomhmoamfpaaDoor.Hn
open Go.RowKit Go.Proofs.YtnaaomhmoamfpaaDoorW.PrintWords

/-- The residue of a number, as Go tells it through uint. -/
def umod (a N : Int) : Int := IntKind.u64.wrap a % N
theorem u64_nonneg (a : Int) : 0 ≤ IntKind.u64.wrap a := by simp [IntKind.wrap, IntKind.bits, IntKind.signed]; omega
theorem umod_bd (a N : Int) (hN : 0 < N) : 0 ≤ umod a N ∧ umod a N < N := ⟨Int.emod_nonneg _ (by omega), Int.emod_lt_of_pos _ hN⟩
theorem utmod (a N : Int) : Int.tmod (IntKind.u64.wrap a) N = umod a N := by
  unfold umod
  rw [Int.tmod_eq_emod_of_nonneg (u64_nonneg a)]
def manyOf (a N : Int) : Int := 1 + umod a N
theorem many_f (a N : Int) (h0 : 1 ≤ N) (h1 : N ≤ 1000) : bibelotlaw03_many.f a N = some (manyOf a N) := by
  have hN : IntKind.u64.wrap N = N := u64w (by omega) (by omega)
  have hb := umod_bd a N (by omega)
  unfold bibelotlaw03_many.f manyOf
  rw [hN, if_neg (by omega), utmod, w64 (x := umod a N) (by omega) (by omega), w64 (by omega) (by omega)]
theorem many_bd (a N : Int) (h0 : 1 ≤ N) : 1 ≤ manyOf a N ∧ manyOf a N ≤ N := by
  have hb := umod_bd a N (by omega)
  unfold manyOf
  omega

/-- The digits of a number. -/
def codeP (P N c : Nat) : List Int := (List.range N).map (fun i => (dgt P c i : Int))
theorem codeP_len (P N c : Nat) : (codeP P N c).length = N := by simp [codeP]
theorem nth_codeP (P N c i : Nat) (h : i < N) : nth (codeP P N c) i = dgt P c i := by simp [nth, codeP, h]
theorem codeP_succ (P N c : Nat) : codeP P (N + 1) c = codeP P N c ++ [(dgt P c N : Int)] := by simp [codeP, List.range_succ]
theorem decoded_loop (n c P : Nat) (hn : n ≤ 1000) (hP : 1 ≤ P) (hc : c < 2 ^ 62) : ∀ d i, i + d = n → Ev (fun k => bibelotref03_Decoded.l0 k (n : Int) ((c / P ^ i : Nat) : Int) (P : Int) (codeP P i c) (i : Int)) (codeP P n c)
  | 0, i, h => by
    obtain rfl : i = n := by omega
    refine Ev.step (fun k => ?_) (Ev.now _)
    rw [bibelotref03_Decoded.l0, if_neg (by omega)]
  | d + 1, i, h => by
    refine Ev.step (fun k => ?_) (decoded_loop n c P hn hP hc d (i + 1) (by omega))
    have hq : c / P ^ i ≤ c := Nat.div_le_self _ _
    have e1 : Int.tdiv ((c / P ^ i : Nat) : Int) (P : Int) = ((c / P ^ (i + 1) : Nat) : Int) := by
      rw [Nat.pow_succ, ← Nat.div_div_eq_div_mul]; rfl
    have hq2 : c / P ^ (i + 1) ≤ c := Nat.div_le_self _ _
    have hz : (0 : Int) ≤ ((c / P ^ (i + 1) : Nat) : Int) := Int.natCast_nonneg _
    have e2 : Int.tmod ((c / P ^ i : Nat) : Int) (P : Int) = (dgt P c i : Int) := rfl
    rw [bibelotref03_Decoded.l0, if_pos (by omega), if_neg (by omega), if_pos (by rw [codeP_len]; omega), e1, e2, w64 (by omega) (by omega), w64 (by omega) (by omega), codeP_succ]
    rfl
theorem decoded_ev (n c P : Nat) (hn : n ≤ 1000) (hP : 1 ≤ P) (hc : c < 2 ^ 62) : Ev (fun k => bibelotref03_Decoded.f k (n : Int) (c : Int) (P : Int)) (codeP P n c) := by
  have := decoded_loop n c P hn hP hc n 0 (by omega)
  rw [Nat.pow_zero, Nat.div_one] at this
  exact this

theorem power_loop (P n : Nat) (hn : n ≤ 1000) (hP : 1 ≤ P) (hp : P ^ n < 2 ^ 62) : ∀ d i, i + d = n → Ev (fun k => bibelotref03_power.l0 k (P : Int) (n : Int) ((P ^ i : Nat) : Int) (i : Int)) ((P ^ n : Nat) : Int)
  | 0, i, h => by
    obtain rfl : i = n := by omega
    refine Ev.step (fun k => ?_) (Ev.now _)
    rw [bibelotref03_power.l0, if_neg (by omega)]
  | d + 1, i, h => by
    refine Ev.step (fun k => ?_) (power_loop P n hn hP hp d (i + 1) (by omega))
    have h1 : P ^ (i + 1) ≤ P ^ n := Nat.pow_le_pow_right hP (by omega)
    have e1 : ((P ^ i : Nat) : Int) * (P : Int) = ((P ^ (i + 1) : Nat) : Int) := by rw [Nat.pow_succ, Int.natCast_mul]
    rw [bibelotref03_power.l0, if_pos (by omega), e1, w64 (by omega) (by omega), w64 (by omega) (by omega)]
    rfl
theorem power_ev (P n : Nat) (hn : n ≤ 1000) (hP : 1 ≤ P) (hp : P ^ n < 2 ^ 62) : Ev (fun k => bibelotref03_power.f k (P : Int) (n : Int)) ((P ^ n : Nat) : Int) := by
  have := power_loop P n hn hP hp n 0 (by omega)
  rw [Nat.pow_zero] at this
  exact this
end Go.Proofs.YtnaaomhmoamfpaaDoor.G
