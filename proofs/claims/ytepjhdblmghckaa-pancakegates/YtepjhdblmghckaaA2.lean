/- A part that the chapter's proofs share: contracts of the functions, and plain lemmas (part 2). -/
import Derived.Test.YtepjhdblmghckaaA1
import Derived.Outline
import Derived.Maps.Range
/- A list as a stack's array; the stack in order: their contracts. -/
namespace Go.Proofs.Ytepjhdblmghckaa.G
set_option linter.unusedVariables false
set_option linter.unusedSimpArgs false
set_option linter.unusedSectionVars false
open Go.Proofs.Ytepjhdblmghckaa.Q Go.Proofs.Ytepjhdblmghckaa.K
open Go.RowKit Go.Shelf Go.Proofs.YtepjhdblmghckaaW.PrintWords Go.Proofs.YtepjhdblmghckaaW.PrintLast Go.Proofs.YtepjhdblmghckaaW.PrintMore
theorem i8w {x : Int} (h : -7 ≤ x ∧ x ≤ 7) : IntKind.i8.wrap x = x := by
  rcases h with ⟨h1, h2⟩
  have h3 : x = -7 ∨ x = -6 ∨ x = -5 ∨ x = -4 ∨ x = -3 ∨ x = -2 ∨ x = -1 ∨ x = 0 ∨ x = 1 ∨ x = 2 ∨ x = 3 ∨ x = 4 ∨ x = 5 ∨ x = 6 ∨ x = 7 := by omega
  rcases h3 with rfl | rfl | rfl | rfl | rfl | rfl | rfl | rfl | rfl | rfl | rfl | rfl | rfl | rfl | rfl <;> rfl
/-- The first k of the numbers, the others 0. -/
def fst (m : Nat → Int) (k : Nat) : Nat → Int := fun p => if p < k then m p else 0
theorem fst_upd (m : Nat → Int) (k : Nat) : upd (fst m k) k (m k) = fst m (k + 1) := by
  funext p
  unfold upd fst
  by_cases h : p = k
  · subst h; simp
  · rw [if_neg h]
    by_cases h2 : p < k
    · rw [if_pos h2, if_pos (by omega)]
    · rw [if_neg h2, if_neg (by omega)]
theorem stk_set {W : World} {b t : Nat} {m : Nat → Int} (h : Blk W b (stk m) t) (p : Nat) (x : Int) (hp : p < 7) : Blk (W.setCell ⟨b, p, none⟩ (.int .i8 x)) b (stk (upd m p x)) t :=
  row_stk ((stk_row h).set p x hp) (by simp [stk_size])
theorem stk_sets {W : World} {b t : Nat} {m : Nat → Int} (h : Blk W b (stk m) t) (f : Nat → Int) : Blk (((((((W.setCell ⟨b, 0, none⟩ (.int .i8 (f 0))).setCell ⟨b, 1, none⟩ (.int .i8 (f 1))).setCell ⟨b, 2, none⟩ (.int .i8 (f 2))).setCell ⟨b, 3, none⟩ (.int .i8 (f 3))).setCell ⟨b, 4, none⟩ (.int .i8 (f 4))).setCell ⟨b, 5, none⟩ (.int .i8 (f 5))).setCell ⟨b, 6, none⟩ (.int .i8 (f 6))) b (stk f) t := by
  have h7 := ((((((h.set 0 (.int .i8 (f 0))).set 1 (.int .i8 (f 1))).set 2 (.int .i8 (f 2))).set 3 (.int .i8 (f 3))).set 4 (.int .i8 (f 4))).set 5 (.int .i8 (f 5))).set 6 (.int .i8 (f 6))
  simpa [stk] using h7
theorem stk_sets_below {B : Nat} {W0 W : World} {b : Nat} {f : Nat → Int} (h : Below B W0 W) (hb : B ≤ b) : Below B W0 (((((((W.setCell ⟨b, 0, none⟩ (.int .i8 (f 0))).setCell ⟨b, 1, none⟩ (.int .i8 (f 1))).setCell ⟨b, 2, none⟩ (.int .i8 (f 2))).setCell ⟨b, 3, none⟩ (.int .i8 (f 3))).setCell ⟨b, 4, none⟩ (.int .i8 (f 4))).setCell ⟨b, 5, none⟩ (.int .i8 (f 5))).setCell ⟨b, 6, none⟩ (.int .i8 (f 6))) :=
  (((((((h.setCell hb _).setCell hb _).setCell hb _).setCell hb _).setCell hb _).setCell hb _).setCell hb _)
theorem stk_congr {m m' : Nat → Int} (h : ∀ j, j < 7 → m j = m' j) : stk m = stk m' := stk_ext m' _ (stk_size m) (fun j hj => by rw [stk_get m j hj, h j hj])
set_option maxHeartbeats 4000000 in
theorem packed_calls (A : Option Addr) (c : Nat) (l : List Int) (w : World) (n : Nat) (hn : n ≤ 7) (hl : Vs n l) (hr : Kd.C (Kd.int .i64) w A l.length l) :
    Calls Try.prog 70 #[.slice A l.length c] w fun e w' => e = .returned (.agg (stk (nth l))) ∧ Below w.heap.size w w' := by
  obtain ⟨hlen, hb⟩ := hl
  have HC := Aside0.mk hr
  have HL := Aside0.mk hlen
  have HB := Aside0.mk hb
  rw [hlen]
  clear hr hlen hb
  go_enter Try.func70, Try.ntmps70
  go_upto_region 2 with fail
  obtain ⟨W0, hW0⟩ : ∃ W, (w.alloc (Obj.cells (stk (fun _ => 0)) 92)).alloc (Obj.cells (stk (fun _ => 0)) 92) = W := ⟨_, rfl⟩
  have HB0 := Aside0.mk (show Blk W0 w.heap.size (stk (fun _ => 0)) 92 by rw [← hW0]; exact (Blk.new w _ 92).alloc _)
  have HB1 := Aside0.mk (show Blk W0 (w.heap.size + 1) (stk (fst (nth l) 0)) 92 by
    rw [← hW0]
    have := Blk.new (w.alloc (Obj.cells (stk (fun _ => 0)) 92)) (stk (fun _ => 0)) 92
    rw [World.size_alloc] at this
    exact this)
  have HW0 := Aside0.mk (show Below w.heap.size w W0 by rw [← hW0]; exact ((Below.refl _ w).alloc (Nat.le_refl _) _).alloc (by simp) _)
  unfold stk at hW0
  try rw [hW0]
  clear hW0
  go_wp2
  go_loopw [8] (fun i wr => ∃ (k : Nat), k ≤ n ∧ i = .int .i64 (k : Int) ∧ Aside0 (Blk wr w.heap.size (stk (fun _ => 0)) 92) ∧ Aside0 (Blk wr (w.heap.size + 1) (stk (fst (nth l) k)) 92) ∧ Aside0 (Below w.heap.size w wr)) (fun i _ => n - (intOf i).toNat)
  case atStart => exact ⟨0, Nat.zero_le _, rfl, HB0, HB1, HW0⟩
  case round =>
    obtain ⟨k, hk, rfl, H0, H1, HW⟩ := hrel
    by_cases hlt : k < n
    · have hi0 : (0 : Int) ≤ (k : Int) := by omega
      have hi1 : (k : Int) < (n : Int) := by omega
      have h7 : (k : Int) < 7 := by omega
      obtain ⟨ad', e, hc⟩ := Kd.at_int (Kd.C_below HC.out HW.out) (k : Int) hi0 (by have := HL.out; omega)
      cases e
      rw [rd_nth, Int.toNat_natCast] at hc
      have hwx := i8w (HB.out k)
      have hg := H1.out.cell k (stk_get (fst (nth l) k) k (by omega))
      have hf := H1.out.free k
      have HU := Aside0.mk (fst_upd (nth l) k)
      have hwt : IntKind.i64.wrap ((k : Int) + 1) = ((k + 1 : Nat) : Int) := by rw [iw64 (by omega) (by omega)]; omega
      obtain ⟨x, hx⟩ : ∃ x, nth l k = x := ⟨_, rfl⟩
      rw [hx] at hc hwx HU
      clear hx
      go_wp2
      go_roundw
      case rel => exact ⟨k + 1, by omega, rfl, ⟨H0.out.setOther (by simp) _⟩, ⟨by rw [← HU.out]; exact stk_set H1.out k x (by omega)⟩, ⟨HW.out.setCell (by simp) _⟩⟩
      case measure => simp [intOf]; omega
    · have hi1 : ¬ (k : Int) < (n : Int) := by omega
      have hkn : k = n := by omega
      have HX := Aside0.mk (show stk (fst (nth l) k) = stk (nth l) from stk_congr (fun j hj => by
        unfold fst
        by_cases h : j < k
        · rw [if_pos h]
        · rw [if_neg h, nth_end]
          have := HL.out; omega))
      rw [HX.out] at H1
      clear hkn
      obtain ⟨tm, htm⟩ : ∃ tm, nth l = tm := ⟨_, rfl⟩
      rw [htm] at H1
      have HTM := Aside0.mk htm
      obtain ⟨t0, t1, t2, t3, t4, t5, t6⟩ := stk_cells H1.out
      obtain ⟨q0, q1, q2, q3, q4, q5, q6⟩ := stk_cells H0.out
      have f0 := H0.out.free 0
      have f1 := H0.out.free 1
      have f2 := H0.out.free 2
      have f3 := H0.out.free 3
      have f4 := H0.out.free 4
      have f5 := H0.out.free 5
      have f6 := H0.out.free 6
      clear HX htm
      go_wp2
      refine bodyPost_ret (results_cell_row rfl _ _ w.heap.size 92 (stk tm) (0, 0) _ rfl (stk_sets H0.out tm) u92 rfl (by kernel_rfl)) rfl ⟨by rw [HTM.out], stk_sets_below HW.out (Nat.le_refl _)⟩
/-- The numbers in order, the first n of them. -/
def upTo (n : Nat) : Nat → Int := fun p => if p < n then ((p + 1 : Nat) : Int) else 0
theorem upTo_step (k : Nat) : upd (upTo k) k ((k + 1 : Nat) : Int) = upTo (k + 1) := by
  funext p
  unfold upd upTo
  by_cases h : p = k
  · subst h; simp
  · rw [if_neg h]
    by_cases h2 : p < k
    · rw [if_pos h2, if_pos (by omega)]
    · rw [if_neg h2, if_neg (by omega)]
/-- The list 1, 2, .., n. -/
def firstL (n : Nat) : List Int := (List.range n).map (fun p => ((p + 1 : Nat) : Int))
theorem nth_firstL (n : Nat) : nth (firstL n) = upTo n := by
  funext p
  unfold nth firstL upTo
  by_cases h : p < n
  · simp [h]
  · simp [h]
theorem vs_firstL {n : Nat} (hn : n ≤ 7) : Vs n (firstL n) := by
  refine ⟨by simp [firstL], fun p => ?_⟩
  rw [nth_firstL]
  unfold upTo
  split <;> omega
set_option maxHeartbeats 4000000 in
theorem first_calls (n : Nat) (hn : n ≤ 7) (sg an : Bool) (w : World) :
    Calls Try.prog 85 #[.agg #[.int .i64 n, .bool sg, .bool an]] w fun e w' => e = .returned (.agg (stk (nth (firstL n)))) ∧ Below w.heap.size w w' := by
  rw [nth_firstL]
  go_enter Try.func85, Try.ntmps85
  go_upto_region 2 with fail
  obtain ⟨W0, hW0⟩ : ∃ W, ((w.alloc (Obj.cells #[.int .i64 n, .bool sg, .bool an] 88)).alloc (Obj.cells (stk (fun _ => 0)) 92)).alloc (Obj.cells (stk (fun _ => 0)) 92) = W := ⟨_, rfl⟩
  have HB0 := Aside0.mk (show Blk W0 (w.heap.size + 1) (stk (fun _ => 0)) 92 by
    rw [← hW0]
    have := (Blk.new (w.alloc (Obj.cells #[.int .i64 n, .bool sg, .bool an] 88)) (stk (fun _ => 0)) 92).alloc (Obj.cells (stk (fun _ => 0)) 92)
    rw [World.size_alloc] at this
    exact this)
  have HB1 := Aside0.mk (show Blk W0 (w.heap.size + 2) (stk (upTo 0)) 92 by
    rw [← hW0]
    have := Blk.new ((w.alloc (Obj.cells #[.int .i64 n, .bool sg, .bool an] 88)).alloc (Obj.cells (stk (fun _ => 0)) 92)) (stk (fun _ => 0)) 92
    rw [World.size_alloc, World.size_alloc] at this
    exact this)
  have HW0 := Aside0.mk (show Below w.heap.size w W0 by rw [← hW0]; exact (((Below.refl _ w).alloc (Nat.le_refl _) _).alloc (by simp) _).alloc (by simp; omega) _)
  have hc0 : W0.cell? ⟨w.heap.size, 0, none⟩ = some (.int .i64 n) := by
    have : Blk W0 w.heap.size #[.int .i64 n, .bool sg, .bool an] 88 := by
      rw [← hW0]; exact ((Blk.new w _ 88).alloc _).alloc _
    exact this.cell 0 rfl
  unfold stk at hW0
  try rw [hW0]
  clear hW0
  go_wp2
  go_loopw [7] (fun i wr => ∃ (k : Nat), k ≤ n ∧ i = .int .i64 (k : Int) ∧ Aside0 (Blk wr (w.heap.size + 1) (stk (fun _ => 0)) 92) ∧ Aside0 (Blk wr (w.heap.size + 2) (stk (upTo k)) 92) ∧ Aside0 (Below w.heap.size w wr)) (fun i _ => n - (intOf i).toNat)
  case atStart => exact ⟨0, Nat.zero_le _, rfl, HB0, HB1, HW0⟩
  case round =>
    obtain ⟨k, hk, rfl, H0, H1, HW⟩ := hrel
    by_cases hlt : k < n
    · have hi0 : (0 : Int) ≤ (k : Int) := by omega
      have hi1 : (k : Int) < (n : Int) := by omega
      have h7 : (k : Int) < 7 := by omega
      have hg := H1.out.cell k (stk_get (upTo k) k (by omega))
      have hf := H1.out.free k
      have HU := Aside0.mk (upTo_step k)
      have hwt : IntKind.i64.wrap ((k : Int) + 1) = ((k + 1 : Nat) : Int) := by rw [iw64 (by omega) (by omega)]; omega
      have hwx : IntKind.i8.wrap ((k + 1 : Nat) : Int) = ((k + 1 : Nat) : Int) := i8w (by omega)
      go_wp2
      go_roundw
      case rel => exact ⟨k + 1, by omega, rfl, ⟨H0.out.setOther (by simp) _⟩, ⟨by rw [← HU.out]; exact stk_set H1.out k _ (by omega)⟩, ⟨HW.out.setCell (by simp; omega) _⟩⟩
      case measure => simp [intOf]; omega
    · have hi1 : ¬ (k : Int) < (n : Int) := by omega
      have HKN := Aside0.mk (show k = n by omega)
      obtain ⟨tm, htm⟩ : ∃ tm, upTo k = tm := ⟨_, rfl⟩
      rw [htm] at H1
      have HTM := Aside0.mk htm
      obtain ⟨t0, t1, t2, t3, t4, t5, t6⟩ := stk_cells H1.out
      obtain ⟨q0, q1, q2, q3, q4, q5, q6⟩ := stk_cells H0.out
      have f0 := H0.out.free 0
      have f1 := H0.out.free 1
      have f2 := H0.out.free 2
      have f3 := H0.out.free 3
      have f4 := H0.out.free 4
      have f5 := H0.out.free 5
      have f6 := H0.out.free 6
      clear htm
      go_wp2
      refine bodyPost_ret (results_cell_row rfl _ _ (w.heap.size + 1) 92 (stk tm) (0, 0) _ rfl (stk_sets H0.out tm) u92 rfl (by kernel_rfl)) rfl ⟨by rw [← HTM.out, HKN.out], stk_sets_below HW.out (by omega)⟩
end Go.Proofs.Ytepjhdblmghckaa.G
/- The least number of moves between two stacks: its contract. -/
namespace Go.Proofs.Ytepjhdblmghckaa.G
set_option linter.unusedVariables false
set_option linter.unusedSimpArgs false
set_option linter.unusedSectionVars false
open Go.Proofs.Ytepjhdblmghckaa.Q Go.Proofs.Ytepjhdblmghckaa.K Go.Proofs.Ytepjhdblmghckaa.Bf
open Go.RowKit Go.Shelf Go.Proofs.YtepjhdblmghckaaW.PrintWords Go.Proofs.YtepjhdblmghckaaW.PrintLast Go.Proofs.YtepjhdblmghckaaW.PrintMore
/-- The least number of moves from one stack to another one. -/
def gap (n : Nat) (sg : Bool) (a b : List Int) : Nat := least (nextK n sg false) a b (15 ^ n + 1)
theorem FinS.gap {n : Nat} {sg : Bool} {a b : List Int} {M : Km} {L : List (List Int)} (h : FinS n sg false a (some b) M L) : ((M b).getD zeroS).2 = gap n sg a b := by
  cases hb : M b with
  | some e =>
    have h1 := h.found b e.2 (by unfold Sof; rw [hb]; rfl)
    exact h1.symm
  | none =>
    rcases h.done with hd | ⟨u, hu, hm⟩
    · exact (least_none (hd b hb)).symm
    · cases hu
      rw [hb] at hm
      cases hm
theorem stepAgg (x : St3) : stepE x = .agg #[.int .i64 (x.1.1 : Int), .int .i64 (x.1.2 : Int), .int .i64 (x.2 : Int)] := rfl
set_option maxRecDepth 100000 in
set_option maxHeartbeats 4000000 in
theorem between_calls (n : Nat) (hn : n ≤ 7) (sg : Bool) (s t : List Int) (hs : Vs n s) (ht : Vs n t) (w : World) :
    Calls Try.prog 69 #[.agg #[.int .i64 n, .bool sg, .bool false], .agg (stk (nth s)), .agg (stk (nth t))] w fun e w' => e = .returned (.int .i64 (gap n sg t s : Nat)) ∧ Below w.heap.size w w' := by
  obtain ⟨sm, hsm⟩ : ∃ sm, nth s = sm := ⟨_, rfl⟩
  obtain ⟨tm, htm⟩ : ∃ tm, nth t = tm := ⟨_, rfl⟩
  obtain ⟨W0, hW0⟩ : ∃ W0, ((w.alloc (.cells #[.int .i64 n, .bool sg, .bool false] 88)).alloc (.cells (stk sm) 92)).alloc (.cells (stk tm) 92) = W0 := ⟨_, rfl⟩
  have hsz : W0.heap.size = w.heap.size + 3 := by rw [← hW0]; simp
  have hB : Below w.heap.size w W0 := by rw [← hW0]; exact (((Below.refl _ w).alloc (Nat.le_refl _) _).alloc (by simp) _).alloc (by simp; omega) _
  have h0 : Blk W0 w.heap.size #[.int .i64 n, .bool sg, .bool false] 88 := by
    rw [← hW0]; exact ((Blk.new _ _ _).alloc _).alloc _
  have h1 : Blk W0 (w.heap.size + 1) (stk sm) 92 := by
    rw [← hW0]
    have := (Blk.new (w.alloc (.cells #[.int .i64 n, .bool sg, .bool false] 88)) (stk sm) 92).alloc (.cells (stk tm) 92)
    rw [World.size_alloc] at this
    exact this
  have h2 : Blk W0 (w.heap.size + 2) (stk tm) 92 := by
    rw [← hW0]
    have := Blk.new ((w.alloc (.cells #[.int .i64 n, .bool sg, .bool false] 88)).alloc (.cells (stk sm) 92)) (stk tm) 92
    rw [World.size_alloc, World.size_alloc] at this
    exact this
  have HC := Aside0.mk (search_calls n sg false hn t ht (some s) (.pointer (some ⟨w.heap.size + 1, 0, none⟩)) W0.drew (.inr ⟨w.heap.size + 1, s, rfl, rfl, hs, by show w.heap.size + 1 < W0.heap.size; omega, by rw [hsm]; exact h1.drew⟩))
  rw [htm] at HC
  have k0 := h0.cell 0 (v := .int .i64 n) rfl
  have k1 := h0.cell 1 (v := .bool sg) rfl
  have k2 := h0.cell 2 (v := .bool false) rfl
  obtain ⟨t0, t1, t2, t3, t4, t5, t6⟩ := stk_cells h2
  obtain ⟨q0, q1, q2, q3, q4, q5, q6⟩ := stk_cells h1
  have HB := Aside0.mk hB
  have HS := Aside0.mk hs
  have H1 := Aside0.mk h1
  have HSZ := Aside0.mk hsz
  have HSM := Aside0.mk hsm
  unfold stk at hW0 HC
  rw [hsm, htm]
  unfold stk
  clear h0 h1 h2 hB hs ht hsz hsm htm
  go_enter Try.func69, Try.ntmps69
  go_upto_region 1 with fail
  try rw [hW0]
  clear hW0
  refine start_ (n := 7) (S := fun w' => w'.cell? ⟨w.heap.size, 0, none⟩ = some (.int .i64 (n : Int)) ∧ w'.cell? ⟨w.heap.size, 1, none⟩ = some (.bool sg) ∧ w'.cell? ⟨w.heap.size, 2, none⟩ = some (.bool false) ∧ w'.cell? ⟨w.heap.size + 2, 0, none⟩ = some (.int .i8 (tm 0)) ∧ w'.cell? ⟨w.heap.size + 2, 1, none⟩ = some (.int .i8 (tm 1)) ∧ w'.cell? ⟨w.heap.size + 2, 2, none⟩ = some (.int .i8 (tm 2)) ∧ w'.cell? ⟨w.heap.size + 2, 3, none⟩ = some (.int .i8 (tm 3)) ∧ w'.cell? ⟨w.heap.size + 2, 4, none⟩ = some (.int .i8 (tm 4)) ∧ w'.cell? ⟨w.heap.size + 2, 5, none⟩ = some (.int .i8 (tm 5)) ∧ w'.cell? ⟨w.heap.size + 2, 6, none⟩ = some (.int .i8 (tm 6)) ∧ w'.cell? ⟨w.heap.size + 1, 0, none⟩ = some (.int .i8 (sm 0)) ∧ w'.cell? ⟨w.heap.size + 1, 1, none⟩ = some (.int .i8 (sm 1)) ∧ w'.cell? ⟨w.heap.size + 1, 2, none⟩ = some (.int .i8 (sm 2)) ∧ w'.cell? ⟨w.heap.size + 1, 3, none⟩ = some (.int .i8 (sm 3)) ∧ w'.cell? ⟨w.heap.size + 1, 4, none⟩ = some (.int .i8 (sm 4)) ∧ w'.cell? ⟨w.heap.size + 1, 5, none⟩ = some (.int .i8 (sm 5)) ∧ w'.cell? ⟨w.heap.size + 1, 6, none⟩ = some (.int .i8 (sm 6))) (ds := [4]) #[false, false, false, false, false, false, false] (by kernel_rfl) rfl rfl ⟨k0, k1, k2, t0, t1, t2, t3, t4, t5, t6, q0, q1, q2, q3, q4, q5, q6⟩ (fun hHeld => ?_)
  refine take_ (i := 0) (N := (some 7)) (v := ?_) (a' := ?_) #[true, false, false, false, false, false, false] rfl rfl (by kernel_rfl) (fun _ _ _ h => h) (Or.inl ⟨by rfl, ?_⟩) hHeld ?_ ?_
  rotate_left
  · rintro w' ⟨s0, s1, s2, s3, s4, s5, s6, s7, s8, s9, s10, s11, s12, s13, s14, s15, s16⟩
    go_simp
    with_reducible rfl
  rotate_left
  · simp only [Act.put, List.setIfInBounds_toArray, List.set_cons_zero, List.set_cons_succ]
    rfl
  refine take_ (i := 1) (N := (some 8)) (v := ?_) (a' := ?_) #[true, true, false, false, false, false, false] rfl rfl (by kernel_rfl) (fun _ _ _ h => h) (Or.inl ⟨by rfl, ?_⟩) hHeld ?_ ?_
  rotate_left
  · rintro w' ⟨s0, s1, s2, s3, s4, s5, s6, s7, s8, s9, s10, s11, s12, s13, s14, s15, s16⟩
    go_simp
    with_reducible rfl
  rotate_left
  · simp only [Act.put, List.setIfInBounds_toArray, List.set_cons_zero, List.set_cons_succ]
    rfl
  refine take_ (i := 3) (N := (some 10)) (v := ?_) (a' := ?_) #[true, true, false, true, false, false, false] rfl rfl (by kernel_rfl) (fun _ _ _ h => h) (Or.inl ⟨by rfl, ?_⟩) hHeld ?_ ?_
  rotate_left
  · rintro w' ⟨s0, s1, s2, s3, s4, s5, s6, s7, s8, s9, s10, s11, s12, s13, s14, s15, s16⟩
    go_simp
    with_reducible rfl
  rotate_left
  · simp only [Act.put, List.setIfInBounds_toArray, List.set_cons_zero, List.set_cons_succ]
    rfl
  refine one_ (i := 2) (N := (some 9)) #[true, true, true, true, false, false, false] rfl rfl (by kernel_rfl) (by decide) (fun K hK => ?_)
  refine goes_ Try.func84 (by kernel_rfl) rfl #[.agg #[.int .i64 n, .bool sg, .bool false], .agg (stk tm), .pointer (some ⟨w.heap.size + 1, 0, none⟩)] (by rfl) rfl rfl (by (try simp only [List.map_toArray, List.map_cons, List.map_nil]); first | done | rfl) ?_
  refine HC.out.mono ?_
  rintro e w' ⟨rfl, M, k, L, hF, hk, h7, hb⟩
  have hl := hk.look HS.out
  have hg := hF.gap
  obtain ⟨x, hx⟩ : ∃ x, (M s).getD zeroS = x := ⟨_, rfl⟩
  rw [hx, HSM.out, stepAgg, show W0.drew.heap.size = W0.heap.size from rfl] at hl
  rw [hx] at hg
  have HG := Aside0.mk hg
  have HBW := Aside0.mk hb
  clear hg hb hx hF hk h7
  unfold stk at hl
  refine ⟨_, rfl, ?_⟩
  have hcc : ∀ (p : Addr) v, W0.drew.cell? p = some v → w'.cell? p = some v := fun p v hp => by rw [HBW.out.cell (p := p) (World.block_lt_of_cell? _ _ hp)]; exact hp
  refine hK.out _ _ ⟨hcc _ _ hHeld.1, hcc _ _ hHeld.2.1, hcc _ _ hHeld.2.2.1, hcc _ _ hHeld.2.2.2.1, hcc _ _ hHeld.2.2.2.2.1, hcc _ _ hHeld.2.2.2.2.2.1, hcc _ _ hHeld.2.2.2.2.2.2.1, hcc _ _ hHeld.2.2.2.2.2.2.2.1, hcc _ _ hHeld.2.2.2.2.2.2.2.2.1, hcc _ _ hHeld.2.2.2.2.2.2.2.2.2.1, hcc _ _ hHeld.2.2.2.2.2.2.2.2.2.2.1, hcc _ _ hHeld.2.2.2.2.2.2.2.2.2.2.2.1, hcc _ _ hHeld.2.2.2.2.2.2.2.2.2.2.2.2.1, hcc _ _ hHeld.2.2.2.2.2.2.2.2.2.2.2.2.2.1, hcc _ _ hHeld.2.2.2.2.2.2.2.2.2.2.2.2.2.2.1, hcc _ _ hHeld.2.2.2.2.2.2.2.2.2.2.2.2.2.2.2.1, hcc _ _ hHeld.2.2.2.2.2.2.2.2.2.2.2.2.2.2.2.2⟩ (fun hHeld => ?_)
  clear hcc hK K hHeld
  refine norm_ (a' := ?_) ?_ ?_
  rotate_left
  · show Act.put _ (some 9) _ = _
    simp only [Act.put, List.setIfInBounds_toArray, List.set_cons_zero, List.set_cons_succ]
    rfl
  refine last_ (i := 4) (N := (some 11)) #[true, true, true, true, true, false, false] rfl rfl (by kernel_rfl) (by decide) (fun K hK => ?_)
  rw [if_pos (by rfl)]
  have HK := Aside0.mk hK.out
  clear hK
  unfold Oper.wp
  go_simp
  refine HK.out _ _ ?_
  clear HK K
  have hfd := fun W => field115 (x.1.1 : Int) (x.1.2 : Int) (x.2 : Int) W
  refine pure_ (i := 5) (N := (some 12)) (v := ?_) (a' := ?_) #[true, true, true, true, true, true, false] rfl rfl (by kernel_rfl) (fun _ _ _ h => h) (Or.inl ⟨by rfl, ?_⟩) ?_ ?_
  rotate_left
  · intro w'
    go_simp
    with_reducible rfl
  rotate_left
  · simp only [Act.put, List.setIfInBounds_toArray, List.set_cons_zero, List.set_cons_succ]
    rfl
  refine pure_ (i := 6) (N := (some 6)) (v := ?_) (a' := ?_) #[true, true, true, true, true, true, true] rfl rfl (by kernel_rfl) (fun _ _ _ h => h) (Or.inl ⟨by rfl, ?_⟩) ?_ ?_
  rotate_left
  · intro w'
    go_simp
    with_reducible rfl
  rotate_left
  · simp only [Act.put, List.setIfInBounds_toArray, List.set_cons_zero, List.set_cons_succ]
    rfl
  refine done_ (by kernel_rfl) ?_
  go_wp2
  go_ret
  have hB := HB.out.drew
  exact ⟨by rw [← HG.out]; rfl, hB.trans (HBW.out.mono hB.size)⟩
end Go.Proofs.Ytepjhdblmghckaa.G
/- isStack: its contract. -/
namespace Go.Proofs.Ytepjhdblmghckaa.G
set_option linter.unusedVariables false
set_option linter.unusedSimpArgs false
set_option linter.unusedSectionVars false
open Go.Proofs.Ytepjhdblmghckaa.Q Go.Proofs.Ytepjhdblmghckaa.K
open Go.RowKit Go.Proofs.YtepjhdblmghckaaW.PrintWords Go.Proofs.YtepjhdblmghckaaW.PrintLast Go.Proofs.YtepjhdblmghckaaW.PrintMore
/-- A number's absolute value, if signs may be there. -/
def absS (signed : Bool) (n : Nat) (x : Int) : Int := if signed = true ∧ x < 0 ∧ -(n : Int) ≤ x then -x else x
/-- Are the numbers 1 to n, and none of those seen? -/
def isL (signed : Bool) (n : Nat) : List Int → (Nat → Bool) → Bool
  | [], _ => true
  | x :: r, seen => if absS signed n x < 1 ∨ (n : Int) < absS signed n x ∨ seen (absS signed n x).toNat = true then false else isL signed n r (upd seen (absS signed n x).toNat true)
def isSt (signed : Bool) (most : Int) (s : List Int) : Bool := if s.length < 1 ∨ most < (s.length : Int) then false else isL signed s.length s (fun _ => false)
def pancake_isStack.f (signed : Bool) (most : Int) (s : List Int) : Option Bool := if most ≤ 40 then some (isSt signed most s) else none
def bools (m : Nat → Bool) : Array Value := arr Value.bool 41 m
theorem bools_zero : bools (fun _ => false) = #[.bool false, .bool false, .bool false, .bool false, .bool false, .bool false, .bool false, .bool false, .bool false, .bool false, .bool false, .bool false, .bool false, .bool false, .bool false, .bool false, .bool false, .bool false, .bool false, .bool false, .bool false, .bool false, .bool false, .bool false, .bool false, .bool false, .bool false, .bool false, .bool false, .bool false, .bool false, .bool false, .bool false, .bool false, .bool false, .bool false, .bool false, .bool false, .bool false, .bool false, .bool false] := by
  kernel_rfl
theorem drop_nth (l : List Int) (k : Nat) (h : k < l.length) : l.drop k = nth l k :: l.drop (k + 1) := by
  rw [List.drop_eq_getElem_cons h]; simp [nth, h]
set_option maxHeartbeats 8000000 in
set_option maxRecDepth 100000 in
theorem pancake_isStack.calls (a0 : Bool) (a1 : Int) (A2 : Option Addr) (c2 : Nat) (l2 : List Int) (r : Bool) (w : World) (hr2 : Kd.C (Kd.int .i64) w A2 l2.length l2) (hc2 : l2.length ≤ c2) (h : pancake_isStack.f a0 a1 l2 = some r) :
    Calls Try.prog 83 #[.bool a0, .int .i64 a1, .slice A2 l2.length c2] w fun e w' => e = .returned (.bool r) ∧ Below w.heap.size w w' := by
  unfold pancake_isStack.f at h
  split at h
  case isFalse => cases h
  case isTrue h40 =>
    obtain rfl := Option.some.inj h
    clear h
    have HC := Aside0.mk hr2
    clear hr2
    by_cases hs : l2.length < 1 ∨ a1 < (l2.length : Int)
    · have e : isSt a0 a1 l2 = false := by unfold isSt; rw [if_pos hs]
      rw [e]
      clear e
      by_cases h1 : l2.length < 1
      · have h1' : (l2.length : Int) < 1 := by omega
        go_enter Try.func83, Try.ntmps83
        go_wp2
        go_ret
        exact ⟨rfl, (Below.refl _ w).alloc (Nat.le_refl _) _⟩
      · have h1' : ¬ (l2.length : Int) < 1 := by omega
        have h2' : a1 < (l2.length : Int) := by omega
        go_enter Try.func83, Try.ntmps83
        go_wp2
        go_ret
        exact ⟨rfl, (Below.refl _ w).alloc (Nat.le_refl _) _⟩
    · have e : isSt a0 a1 l2 = isL a0 l2.length l2 (fun _ => false) := by unfold isSt; rw [if_neg hs]
      rw [e]
      clear e
      have h1' : ¬ (l2.length : Int) < 1 := by omega
      have h2' : ¬ a1 < (l2.length : Int) := by omega
      have hl40 : l2.length ≤ 40 := by omega
      obtain ⟨N, hN⟩ : ∃ N, l2.length = N := ⟨_, rfl⟩
      have HL := Aside0.mk hN
      obtain ⟨r, hr⟩ : ∃ r, isL a0 N l2 (fun _ => false) = r := ⟨_, rfl⟩
      rw [hN] at h1' h2' hl40 ⊢
      rw [hr]
      have HR := Aside0.mk hr
      clear hr hN hs
      obtain ⟨ad, e, _⟩ := Kd.at_int HC.out 0 (by omega) (by have := HL.out; omega)
      subst e
      go_enter Try.func83, Try.ntmps83
      go_upto_region 4 with fail
      rw [← bools_zero]
      obtain ⟨W0, hW0⟩ : ∃ W, w.alloc (Obj.cells (bools fun _ => false) 133) = W := ⟨_, rfl⟩
      have HB0 := Aside0.mk (show Blk W0 w.heap.size (bools fun _ => false) 133 by rw [← hW0]; exact Blk.new w _ 133)
      have HW0 := Aside0.mk (show Below w.heap.size w W0 by rw [← hW0]; exact (Below.refl _ w).alloc (Nat.le_refl _) _)
      rw [hW0]
      clear hW0
      go_wp2
      go_loopw [9, 21] (fun x i wr => ∃ (k : Nat) (seen : Nat → Bool), k ≤ N ∧ i = .int .i64 (k : Int) ∧ Aside0 (Blk wr w.heap.size (bools seen) 133) ∧ Aside0 (isL a0 N (l2.drop k) seen = r) ∧ Aside0 (Below w.heap.size w wr)) (fun _ i _ => N - (intOf i).toNat)
      case atStart => exact ⟨0, _, Nat.zero_le _, rfl, HB0, HR, HW0⟩
      case round =>
        obtain ⟨k, seen, hk, rfl, HB, HI, HW⟩ := hrel
        by_cases hlt : k < N
        · have hi0 : (0 : Int) ≤ (k : Int) := by omega
          have hi1 : (k : Int) < (N : Int) := by omega
          obtain ⟨ad', e, hc⟩ := Kd.at_int (Kd.C_below HC.out HW.out) (k : Int) hi0 (by have := HL.out; omega)
          cases e
          rw [rd_nth, Int.toNat_natCast] at hc
          have hdr := drop_nth l2 k (by have := HL.out; omega)
          have hI := HI.out
          rw [hdr, isL] at hI
          obtain ⟨x, hx⟩ : ∃ x, nth l2 k = x := ⟨_, rfl⟩
          rw [hx] at hc hI
          obtain ⟨y, hy⟩ : ∃ y, absS a0 N x = y := ⟨_, rfl⟩
          rw [hy] at hI
          have HY := Aside0.mk hy
          have HI2 := Aside0.mk hI
          have hwt : IntKind.i64.wrap ((k : Int) + 1) = ((k + 1 : Nat) : Int) := by rw [iw64 (by omega) (by omega)]; omega
          clear hI hy hdr hx HI
          go_upto_region 7 with fail
          obtain ⟨tb, htb⟩ : ∃ tb, decide (a0 = true ∧ x < 0 ∧ -(N : Int) ≤ x) = tb := ⟨_, rfl⟩
          have HT := Aside0.mk htb
          clear htb
          go_cut [36] (fun v wc => v = .bool tb ∧ wc = wr)
          case first =>
            have hT := HT.out
            cases a0
            · rw [decide_eq_false (by simp)] at hT
              subst hT
              go_wp2
              go_meet
              case rel => exact ⟨rfl, rfl⟩
            · by_cases h1 : x < 0
              · by_cases h2 : -(N : Int) ≤ x
                · have h2b : -x ≤ (N : Int) := by omega
                  rw [decide_eq_true ⟨rfl, h1, h2⟩] at hT
                  subst hT
                  go_wp2
                  go_meet
                  case rel => exact ⟨rfl, rfl⟩
                · have h2b : ¬ -x ≤ (N : Int) := by omega
                  rw [decide_eq_false (by omega)] at hT
                  subst hT
                  go_wp2
                  go_meet
                  case rel => exact ⟨rfl, rfl⟩
              · rw [decide_eq_false (by omega)] at hT
                subst hT
                go_wp2
                go_meet
                case rel => exact ⟨rfl, rfl⟩
          case rest =>
          obtain ⟨rfl, rfl⟩ := hcut
          go_upto_if 36 with fail
          go_cut [9] (fun v wd => v = .int .i64 y ∧ wd = wc)
          case first =>
            have hY := HY.out
            unfold absS at hY
            have hT := HT.out
            by_cases ht : a0 = true ∧ x < 0 ∧ -(N : Int) ≤ x
            · rw [decide_eq_true ht] at hT
              rw [if_pos ht] at hY
              subst hT
              have h1 := ht.2.1
              have h2 := ht.2.2
              clear ht
              go_wp2
              go_meet
              case rel => exact ⟨rfl, rfl⟩
            · rw [decide_eq_false ht] at hT
              rw [if_neg ht] at hY
              subst hT
              subst hY
              clear ht
              go_wp2
              go_meet
              case rel => exact ⟨rfl, rfl⟩
          case rest =>
            obtain ⟨rfl, rfl⟩ := hcut
            by_cases h1 : y < 1
            · have hI := HI2.out
              rw [if_pos (.inl h1)] at hI
              subst hI
              go_wp2
              go_ret
              exact ⟨rfl, HW.out⟩
            · by_cases h2 : (N : Int) < y
              · have hI := HI2.out
                rw [if_pos (.inr (.inl h2))] at hI
                subst hI
                go_wp2
                go_ret
                exact ⟨rfl, HW.out⟩
              · obtain ⟨yn, rfl⟩ := Int.eq_ofNat_of_zero_le (show 0 ≤ y by omega)
                have hg := HB.out.cell yn (arr_get Value.bool 41 seen yn (by omega))
                have hf := HB.out.free yn
                by_cases h3 : seen yn = true
                · have hI := HI2.out
                  rw [if_pos (.inr (.inr (by rw [Int.toNat_natCast]; exact h3)))] at hI
                  subst hI
                  rw [h3] at hg
                  go_wp2
                  go_ret
                  exact ⟨rfl, HW.out⟩
                · have hI := HI2.out
                  rw [if_neg (by rw [Int.toNat_natCast]; rintro (h | h | h) <;> first | omega | exact h3 h), Int.toNat_natCast] at hI
                  have HI3 := Aside0.mk hI
                  rw [Bool.not_eq_true] at h3
                  rw [h3] at hg
                  have h40 : (yn : Int) < 41 := by omega
                  clear hI h3 HI2
                  go_wp2
                  go_roundw
                  case rel => exact ⟨k + 1, upd seen yn true, by omega, rfl, ⟨by unfold bools; rw [← arr_set Value.bool 41 seen yn true (by omega)]; exact HB.out.set yn _⟩, HI3, ⟨HW.out.setCell (Nat.le_refl _) _⟩⟩
                  case measure => simp [intOf]; omega
        · have hI := HI.out
          rw [List.drop_of_length_le (by have := HL.out; omega), isL] at hI
          subst hI
          go_wp2
          go_ret
          exact ⟨rfl, HW.out⟩
end Go.Proofs.Ytepjhdblmghckaa.G
namespace Go.Proofs.Ytepjhdblmghckaa.G
end Go.Proofs.Ytepjhdblmghckaa.G
namespace Go.Proofs.Ytepjhdblmghckaa.Q
set_option linter.unusedVariables false
set_option linter.unusedSimpArgs false
set_option linter.unusedSectionVars false
open Go.Proofs.Ytepjhdblmghckaa.G
open Go.RowKit Go.Proofs.YtepjhdblmghckaaW.PrintWords Go.Proofs.YtepjhdblmghckaaW.PrintLast Go.Proofs.YtepjhdblmghckaaW.PrintMore
attribute [local go_sem] max2_int min2_int max_two min_two max_three min_three max_four min_four   -- for this text's walks alone

/-! ### pancake_check: function 68 -/
def pancake_check.l0 : Nat → Bool → Int → List (List Int) → List (List Int) → Int → Int → Option (Int)
  | 0, _, _, _, _, _, _ => none
  | k + 1, x0, x1, x2, x9, x10, x11 => if x11 < x10 then (if 0 ≤ x11 then (if x11 < (x9.length : Int) then ((pancake_isStack.f x0 x1 (rd_L1 x9 x11)).bind fun t224 => (if t224 = true then (pancake_check.l0 k x0 x1 x2 x9 x10 (wrap64 (x11 + 1))) else (some 70))) else (none)) else (none)) else (if (x2.length : Int) > 1 then (if 0 < (x2.length : Int) then (if 1 < (x2.length : Int) then (if ((rd_L1 x2 0).length : Int) = ((rd_L1 x2 1).length : Int) then (some 0) else (some 6)) else (none)) else (none)) else (some 0))
def pancake_check.f (k : Nat) (a0 : Bool) (a1 : Int) (l2 : List (List Int)) : Option (Int) := pancake_check.l0 k a0 a1 l2 l2 (l2.length : Int) 0
theorem pancake_check.mono_l : ∀ k, (∀ y0 y1 y2 y3 y4 y5, LeO (pancake_check.l0 k y0 y1 y2 y3 y4 y5) (pancake_check.l0 (k + 1) y0 y1 y2 y3 y4 y5))
  | 0 => fun _ _ _ _ _ _ r h => by simp [pancake_check.l0] at h
  | k + 1 => by
    have ih0 := pancake_check.mono_l k
    · intro y0 y1 y2 y3 y4 y5
      unfold pancake_check.l0
      repeat' first
      | (with_reducible exact ih0 _ _ _ _ _ _)
      | (with_reducible exact LeO.refl _)
      | (with_reducible exact LeO.none _)
      | (with_reducible refine LeO.ite ?_ ?_)
      | (with_reducible refine LeO.bind ?_ (fun _ => ?_))
      | exact ih0 _ _ _ _ _ _
      | exact LeO.none _
      | refine LeO.ite ?_ ?_
      | refine LeO.bind ?_ (fun _ => ?_)
theorem pancake_check.mono : ∀ a0 a1 a2 k, LeO (pancake_check.f k a0 a1 a2) (pancake_check.f (k + 1) a0 a1 a2) := by
  intro a0 a1 a2 k
  have ih0 := pancake_check.mono_l k
  unfold pancake_check.f
  repeat' first
      | (with_reducible exact ih0 _ _ _ _ _ _)
      | (with_reducible exact LeO.refl _)
      | (with_reducible exact LeO.none _)
      | (with_reducible refine LeO.ite ?_ ?_)
      | (with_reducible refine LeO.bind ?_ (fun _ => ?_))
      | exact ih0 _ _ _ _ _ _
      | exact LeO.none _
      | refine LeO.ite ?_ ?_
      | refine LeO.bind ?_ (fun _ => ?_)
set_option maxHeartbeats 8000000 in
set_option maxRecDepth 100000 in
theorem pancake_check.calls (k : Nat) (a0 : Bool) (a1 : Int) (A2 : Option Addr) (c2 : Nat) (l2 : List (List Int)) (r : Int) (w : World) (hr2 : Kd.C (Kd.slice 3 (Kd.int .i64)) w A2 l2.length l2) (hc2 : l2.length ≤ c2) (h : pancake_check.f k a0 a1 l2 = some r) :
    Calls Try.prog 68 #[.bool a0, .int .i64 a1, .slice A2 l2.length c2] w fun e w' => e = .returned (.int .i64 r) ∧ Below w.heap.size w w' := by
  have HR2 := Aside0.mk hr2
  have HC2 := Aside0.mk hc2
  clear hr2 hc2
  have HB := Aside0.mk (Below.refl w.heap.size w)
  have H : (pancake_check.l0 k a0 a1 l2 l2 (l2.length : Int) 0) = some r := h
  clear h
  have H' := Aside0.mk H
  clear H
  go_enter Try.func68, Try.ntmps68
  go_wp2
  repeat (go_quiet (fail); try go_wp2)
  go_loopg [11] k (fun kq v11 w' => ∃ (x11_1 : Int), v11 = .int .i64 x11_1 ∧ Aside0 (pancake_check.l0 kq a0 a1 l2 l2 (l2.length : Int) x11_1 = some r) ∧ Aside0 (kq ≤ k) ∧ Aside0 (Below w.heap.size w w'))
  case atStart => exact ⟨(0), (by first | rfl | (simp; done) | (simp [*]; done)), H', ⟨Nat.le_refl _⟩, ⟨by repeat (first | (with_reducible first | exact HB.out | apply below_alloc | apply pw_below_drewN | apply below_drew1) | exact HB.out)⟩⟩
  case round =>
    clear H'
    try clear c2
    try clear p2
    obtain ⟨x11_1, rfl, HA, HK1, HB⟩ := hrel
    cases gk with
    | zero => exact absurd HA.out (by simp [pancake_check.l0])
    | succ k1 =>
      have H := HA.out
      clear HA
      simp only [pancake_check.l0] at H
      by_cases c4 : x11_1 < (l2.length : Int)
      · rw [if_pos c4] at H
        have c4b0 : decide (x11_1 < (l2.length : Int)) = true := decide_eq_true c4
        clear c4
        by_cases c5 : 0 ≤ x11_1
        · rw [if_pos c5] at H
          have c5b0 : decide (0 ≤ x11_1) = true := decide_eq_true c5
          clear c5
          by_cases c6 : x11_1 < (l2.length : Int)
          · rw [if_pos c6] at H
            have c6b0 : decide (x11_1 < (l2.length : Int)) = true := decide_eq_true c6
            clear c6
            replace H := Option.bind_eq_some_iff.mp H
            obtain ⟨t224, A70, H⟩ := H
            replace H : (if t224 = true then (pancake_check.l0 k1 a0 a1 l2 l2 (l2.length : Int) (wrap64 (x11_1 + 1))) else (some 70)) = some r := H
            have A7 := Aside0.mk A70
            clear A70
            by_cases c8 : t224 = true
            · subst c8
              have H1 : (pancake_check.l0 k1 a0 a1 l2 l2 (l2.length : Int) (wrap64 (x11_1 + 1))) = some r := by rw [if_pos rfl] at H; exact H
              clear H
              have H := H1
              clear H1
              have H' := Aside0.mk H
              clear H
              have p223 : 0 ≤ (x11_1 : Int) := of_decide_eq_true (by first | (with_reducible assumption) | assumption)
              have q223 : x11_1 < (l2.length : Int) := of_decide_eq_true (by first | (with_reducible assumption) | assumption)
              obtain ⟨ad223, A223_0, c223_0, e223, hx223_0, hl223_0, hi223_0⟩ := at_L1 HR2.out x11_1 p223 q223
              cases e223
              replace hx223_0 := (HB.out.cell (World.block_lt_of_cell? w _ hx223_0)).trans hx223_0
              have HR223_0 := Aside0.mk hi223_0
              have HC223_0 := Aside0.mk hl223_0
              clear hi223_0 hl223_0
              replace p223 := eq_true p223
              replace q223 := eq_true q223
              go_wp2_with (first | (go_at_call 83; (with_reducible refine (pancake_isStack.calls a0 a1 _ _ (rd_L1 l2 x11_1) true _ ?side1 ?side2 A7.out).mono ?_); (case side1 => repeat (first | exact (Kd.C_below HR223_0.out HB.out) | (with_reducible refine Kd.C_alloc ?_ _) | (with_reducible refine Kd.C_drewN ?_ _) | (with_reducible refine Kd.C_drew ?_))); (case side2 => exact HC223_0.out); rintro e w9 ⟨rfl, hb⟩; have n0_ := Aside0.mk (below_step (by repeat (first | (with_reducible first | exact HB.out | apply below_alloc | apply pw_below_drewN | apply below_drew1) | exact HB.out)) hb); clear HB; have HB := n0_; clear n0_; (try clear hb); (try clear hb2); (try clear hk); (try clear hi)))
              repeat (go_quiet (first | (go_at_call 83; (with_reducible refine (pancake_isStack.calls a0 a1 _ _ (rd_L1 l2 x11_1) true _ ?side1 ?side2 A7.out).mono ?_); (case side1 => repeat (first | exact (Kd.C_below HR223_0.out HB.out) | (with_reducible refine Kd.C_alloc ?_ _) | (with_reducible refine Kd.C_drewN ?_ _) | (with_reducible refine Kd.C_drew ?_))); (case side2 => exact HC223_0.out); rintro e w9 ⟨rfl, hb⟩; have n0_ := Aside0.mk (below_step (by repeat (first | (with_reducible first | exact HB.out | apply below_alloc | apply pw_below_drewN | apply below_drew1) | exact HB.out)) hb); clear HB; have HB := n0_; clear n0_; (try clear hb); (try clear hb2); (try clear hk); (try clear hi))); try go_wp2_with (first | (go_at_call 83; (with_reducible refine (pancake_isStack.calls a0 a1 _ _ (rd_L1 l2 x11_1) true _ ?side1 ?side2 A7.out).mono ?_); (case side1 => repeat (first | exact (Kd.C_below HR223_0.out HB.out) | (with_reducible refine Kd.C_alloc ?_ _) | (with_reducible refine Kd.C_drewN ?_ _) | (with_reducible refine Kd.C_drew ?_))); (case side2 => exact HC223_0.out); rintro e w9 ⟨rfl, hb⟩; have n0_ := Aside0.mk (below_step (by repeat (first | (with_reducible first | exact HB.out | apply below_alloc | apply pw_below_drewN | apply below_drew1) | exact HB.out)) hb); clear HB; have HB := n0_; clear n0_; (try clear hb); (try clear hb2); (try clear hk); (try clear hi))))
              go_roundg k1
              case measure => have := HK1.out; omega
              case rel => exact ⟨(wrap64 (x11_1 + 1)), (by first | rfl | (simp; done) | (simp [*]; done)), H', ⟨by have := HK1.out; omega⟩, ⟨by repeat (first | (with_reducible first | exact HB.out | apply below_alloc | apply pw_below_drewN | apply below_drew1) | exact HB.out)⟩⟩
            · replace c8 := Bool.eq_false_iff.mpr c8
              subst c8
              have H1 : (some 70) = some r := by rw [if_neg (show ¬ (false = true) by decide)] at H; exact H
              clear H
              have H := H1
              clear H1
              obtain rfl := Option.some.inj H
              have p223 : 0 ≤ (x11_1 : Int) := of_decide_eq_true (by first | (with_reducible assumption) | assumption)
              have q223 : x11_1 < (l2.length : Int) := of_decide_eq_true (by first | (with_reducible assumption) | assumption)
              obtain ⟨ad223, A223_0, c223_0, e223, hx223_0, hl223_0, hi223_0⟩ := at_L1 HR2.out x11_1 p223 q223
              cases e223
              replace hx223_0 := (HB.out.cell (World.block_lt_of_cell? w _ hx223_0)).trans hx223_0
              have HR223_0 := Aside0.mk hi223_0
              have HC223_0 := Aside0.mk hl223_0
              clear hi223_0 hl223_0
              replace p223 := eq_true p223
              replace q223 := eq_true q223
              go_wp2_with (first | (go_at_call 83; (with_reducible refine (pancake_isStack.calls a0 a1 _ _ (rd_L1 l2 x11_1) false _ ?side1 ?side2 A7.out).mono ?_); (case side1 => repeat (first | exact (Kd.C_below HR223_0.out HB.out) | (with_reducible refine Kd.C_alloc ?_ _) | (with_reducible refine Kd.C_drewN ?_ _) | (with_reducible refine Kd.C_drew ?_))); (case side2 => exact HC223_0.out); rintro e w10 ⟨rfl, hb⟩; have n0_ := Aside0.mk (below_step (by repeat (first | (with_reducible first | exact HB.out | apply below_alloc | apply pw_below_drewN | apply below_drew1) | exact HB.out)) hb); clear HB; have HB := n0_; clear n0_; (try clear hb); (try clear hb2); (try clear hk); (try clear hi)))
              repeat (go_quiet (first | (go_at_call 83; (with_reducible refine (pancake_isStack.calls a0 a1 _ _ (rd_L1 l2 x11_1) false _ ?side1 ?side2 A7.out).mono ?_); (case side1 => repeat (first | exact (Kd.C_below HR223_0.out HB.out) | (with_reducible refine Kd.C_alloc ?_ _) | (with_reducible refine Kd.C_drewN ?_ _) | (with_reducible refine Kd.C_drew ?_))); (case side2 => exact HC223_0.out); rintro e w10 ⟨rfl, hb⟩; have n0_ := Aside0.mk (below_step (by repeat (first | (with_reducible first | exact HB.out | apply below_alloc | apply pw_below_drewN | apply below_drew1) | exact HB.out)) hb); clear HB; have HB := n0_; clear n0_; (try clear hb); (try clear hb2); (try clear hk); (try clear hi))); try go_wp2_with (first | (go_at_call 83; (with_reducible refine (pancake_isStack.calls a0 a1 _ _ (rd_L1 l2 x11_1) false _ ?side1 ?side2 A7.out).mono ?_); (case side1 => repeat (first | exact (Kd.C_below HR223_0.out HB.out) | (with_reducible refine Kd.C_alloc ?_ _) | (with_reducible refine Kd.C_drewN ?_ _) | (with_reducible refine Kd.C_drew ?_))); (case side2 => exact HC223_0.out); rintro e w10 ⟨rfl, hb⟩; have n0_ := Aside0.mk (below_step (by repeat (first | (with_reducible first | exact HB.out | apply below_alloc | apply pw_below_drewN | apply below_drew1) | exact HB.out)) hb); clear HB; have HB := n0_; clear n0_; (try clear hb); (try clear hb2); (try clear hk); (try clear hi))))
              go_ret
              exact ⟨by first | rfl | (simp [errW_none, errW_some] <;> rfl) | (simp [*, errW_none, errW_some] <;> rfl), by repeat (first | (with_reducible first | exact HB.out | apply below_alloc | apply pw_below_drewN | apply below_drew1) | exact HB.out)⟩
          · rw [if_neg c6] at H
            exact absurd H (by simp)
        · rw [if_neg c5] at H
          exact absurd H (by simp)
      · rw [if_neg c4] at H
        have c4b0 : decide (x11_1 < (l2.length : Int)) = false := decide_eq_false c4
        clear c4
        by_cases c11 : (l2.length : Int) > 1
        · rw [if_pos c11] at H
          have c11b0 : decide (1 < (l2.length : Int)) = true := decide_eq_true c11
          have c11b1 : decide (1 < l2.length) = true := decide_eq_true (by omega)
          clear c11
          by_cases c12 : 0 < (l2.length : Int)
          · rw [if_pos c12] at H
            have c12b0 : decide (0 < (l2.length : Int)) = true := decide_eq_true c12
            have c12b1 : decide (0 < l2.length) = true := decide_eq_true (by omega)
            clear c12
            by_cases c13 : 1 < (l2.length : Int)
            · rw [if_pos c13] at H
              have c13b0 : decide (1 < (l2.length : Int)) = true := decide_eq_true c13
              have c13b1 : decide (1 < l2.length) = true := decide_eq_true (by omega)
              clear c13
              by_cases c14 : ((rd_L1 l2 0).length : Int) = ((rd_L1 l2 1).length : Int)
              · rw [if_pos c14] at H
                have c14b0 : (((rd_L1 l2 0).length : Int) == ((rd_L1 l2 1).length : Int)) = true := beq_iff_eq.mpr c14
                have c14b1 : (((rd_L1 l2 0).length : Int) != ((rd_L1 l2 1).length : Int)) = false := bne_eq_false_iff_eq.mpr c14
                have c14b2 : ((rd_L1 l2 0).length == (rd_L1 l2 1).length) = true := by first | simpa using c14 | (simp at c14 ⊢; omega)
                clear c14
                obtain rfl := Option.some.inj H
                have p225 : 0 ≤ (0 : Int) := (by omega)
                have q225 : 0 < (l2.length : Int) := of_decide_eq_true (by first | (with_reducible assumption) | assumption)
                obtain ⟨ad225, A225_0, c225_0, e225, hx225_0, hl225_0, hi225_0⟩ := at_L1 HR2.out 0 p225 q225
                cases e225
                have qi225 : (0 < l2.length) = True := eq_true (by omega)
                (try rw [show ((0 : Int)).toNat = 0 from rfl] at hx225_0)
                (try rw [Addr.add_zero'] at hx225_0)
                replace hx225_0 := (HB.out.cell (World.block_lt_of_cell? w _ hx225_0)).trans hx225_0
                have HR225_0 := Aside0.mk hi225_0
                have HC225_0 := Aside0.mk hl225_0
                clear hi225_0 hl225_0
                replace p225 := eq_true p225
                replace q225 := eq_true q225
                have p226 : 0 ≤ (1 : Int) := (by omega)
                have q226 : 1 < (l2.length : Int) := of_decide_eq_true (by first | (with_reducible assumption) | assumption)
                obtain ⟨ad226, A226_0, c226_0, e226, hx226_0, hl226_0, hi226_0⟩ := at_L1 HR2.out 1 p226 q226
                obtain rfl : ad225 = ad226 := (by injection e226)
                (try simp only [show (1 : Int).toNat = 1 from rfl, Nat.reduceMul, Nat.reduceEqDiff, Go.Addr.add, ↓reduceIte] at hx226_0)
                have qi226 : (1 < l2.length) = True := eq_true (by omega)
                (try rw [show ((1 : Int)).toNat = 1 from rfl] at hx226_0)
                replace hx226_0 := (HB.out.cell (World.block_lt_of_cell? w _ hx226_0)).trans hx226_0
                have HR226_0 := Aside0.mk hi226_0
                have HC226_0 := Aside0.mk hl226_0
                clear hi226_0 hl226_0
                replace p226 := eq_true p226
                replace q226 := eq_true q226
                go_wp2
                repeat (go_quiet (fail); try go_wp2)
                go_ret
                exact ⟨by first | rfl | (simp [errW_none, errW_some] <;> rfl) | (simp [*, errW_none, errW_some] <;> rfl), by repeat (first | (with_reducible first | exact HB.out | apply below_alloc | apply pw_below_drewN | apply below_drew1) | exact HB.out)⟩
              · rw [if_neg c14] at H
                have c14b0 : (((rd_L1 l2 0).length : Int) == ((rd_L1 l2 1).length : Int)) = false := beq_eq_false_iff_ne.mpr c14
                have c14b1 : (((rd_L1 l2 0).length : Int) != ((rd_L1 l2 1).length : Int)) = true := bne_iff_ne.mpr c14
                have c14b2 : ((rd_L1 l2 0).length == (rd_L1 l2 1).length) = false := by first | simpa using c14 | (simp at c14 ⊢; omega)
                obtain rfl := Option.some.inj H
                have p225 : 0 ≤ (0 : Int) := (by omega)
                have q225 : 0 < (l2.length : Int) := of_decide_eq_true (by first | (with_reducible assumption) | assumption)
                obtain ⟨ad225, A225_0, c225_0, e225, hx225_0, hl225_0, hi225_0⟩ := at_L1 HR2.out 0 p225 q225
                cases e225
                have qi225 : (0 < l2.length) = True := eq_true (by omega)
                (try rw [show ((0 : Int)).toNat = 0 from rfl] at hx225_0)
                (try rw [Addr.add_zero'] at hx225_0)
                replace hx225_0 := (HB.out.cell (World.block_lt_of_cell? w _ hx225_0)).trans hx225_0
                have HR225_0 := Aside0.mk hi225_0
                have HC225_0 := Aside0.mk hl225_0
                clear hi225_0 hl225_0
                replace p225 := eq_true p225
                replace q225 := eq_true q225
                have p226 : 0 ≤ (1 : Int) := (by omega)
                have q226 : 1 < (l2.length : Int) := of_decide_eq_true (by first | (with_reducible assumption) | assumption)
                obtain ⟨ad226, A226_0, c226_0, e226, hx226_0, hl226_0, hi226_0⟩ := at_L1 HR2.out 1 p226 q226
                obtain rfl : ad225 = ad226 := (by injection e226)
                (try simp only [show (1 : Int).toNat = 1 from rfl, Nat.reduceMul, Nat.reduceEqDiff, Go.Addr.add, ↓reduceIte] at hx226_0)
                have qi226 : (1 < l2.length) = True := eq_true (by omega)
                (try rw [show ((1 : Int)).toNat = 1 from rfl] at hx226_0)
                replace hx226_0 := (HB.out.cell (World.block_lt_of_cell? w _ hx226_0)).trans hx226_0
                have HR226_0 := Aside0.mk hi226_0
                have HC226_0 := Aside0.mk hl226_0
                clear hi226_0 hl226_0
                replace p226 := eq_true p226
                replace q226 := eq_true q226
                go_wp2
                repeat (go_quiet (fail); try go_wp2)
                go_ret
                exact ⟨by first | rfl | (simp [errW_none, errW_some] <;> rfl) | (simp [*, errW_none, errW_some] <;> rfl), by repeat (first | (with_reducible first | exact HB.out | apply below_alloc | apply pw_below_drewN | apply below_drew1) | exact HB.out)⟩
            · rw [if_neg c13] at H
              exact absurd H (by simp)
          · rw [if_neg c12] at H
            exact absurd H (by simp)
        · rw [if_neg c11] at H
          have c11b0 : decide (1 < (l2.length : Int)) = false := decide_eq_false c11
          have c11b1 : decide (1 < l2.length) = false := decide_eq_false (by omega)
          clear c11
          obtain rfl := Option.some.inj H
          go_wp2
          repeat (go_quiet (fail); try go_wp2)
          go_ret
          exact ⟨by first | rfl | (simp [errW_none, errW_some] <;> rfl) | (simp [*, errW_none, errW_some] <;> rfl), by repeat (first | (with_reducible first | exact HB.out | apply below_alloc | apply pw_below_drewN | apply below_drew1) | exact HB.out)⟩

end Go.Proofs.Ytepjhdblmghckaa.Q
/- Flips, FlipsBurnt: their contracts. -/
namespace Go.Proofs.Ytepjhdblmghckaa.G
set_option linter.unusedVariables false
set_option linter.unusedSimpArgs false
set_option linter.unusedSectionVars false
open Go.Proofs.Ytepjhdblmghckaa.Q Go.Proofs.Ytepjhdblmghckaa.K Go.Proofs.Ytepjhdblmghckaa.Bf
open Go.RowKit Go.Shelf Go.Proofs.YtepjhdblmghckaaW.PrintWords Go.Proofs.YtepjhdblmghckaaW.PrintLast Go.Proofs.YtepjhdblmghckaaW.PrintMore
theorem isL_mem (sg : Bool) (n : Nat) : ∀ (l : List Int) (seen : Nat → Bool), isL sg n l seen = true → ∀ x, x ∈ l → -(n : Int) ≤ x ∧ x ≤ n
  | [], _, _, x, hx => by cases hx
  | y :: r, seen, h, x, hx => by
    rw [isL] at h
    split at h
    · cases h
    · rename_i hn
      rcases List.mem_cons.1 hx with rfl | hx
      · have h1 : ¬ absS sg n x < 1 := fun e => hn (.inl e)
        have h2 : ¬ (n : Int) < absS sg n x := fun e => hn (.inr (.inl e))
        unfold absS at h1 h2
        split at h1 <;> omega
      · exact isL_mem sg n r _ h x hx
theorem isSt_len {sg : Bool} {most : Int} {l : List Int} (h : isSt sg most l = true) : 1 ≤ l.length ∧ (l.length : Int) ≤ most := by
  unfold isSt at h
  split at h
  · cases h
  · rename_i hn
    omega
theorem isSt_vs {sg : Bool} {most : Int} {l : List Int} (h : isSt sg most l = true) (hm : most ≤ 7) : Vs l.length l := by
  have hl := isSt_len h
  refine ⟨rfl, fun j => ?_⟩
  unfold isSt at h
  split at h
  · cases h
  · have hx := isL_mem sg l.length l _ h
    unfold nth
    by_cases hj : j < l.length
    · have := hx (l.getD j 0) (by rw [List.getD_eq_getElem?_getD, List.getElem?_eq_getElem hj]; exact List.getElem_mem hj)
      omega
    · rw [List.getD_eq_getElem?_getD, List.getElem?_eq_none (by omega)]
      simp
/-- What is wrong with two stacks. -/
def chk2 (sg : Bool) (most : Int) (l0 l1 : List Int) : Int := if isSt sg most l0 = true then (if isSt sg most l1 = true then (if l0.length = l1.length then 0 else 6) else 70) else 70
theorem chk2_f (sg : Bool) (most : Int) (hm : most ≤ 40) (l0 l1 : List Int) : pancake_check.f 3 sg most [l0, l1] = some (chk2 sg most l0 l1) := by
  unfold pancake_check.f chk2
  have w1 : wrap64 (0 + 1) = 1 := w64 (by decide) (by decide)
  have w2 : wrap64 (1 + 1) = 2 := w64 (by decide) (by decide)
  simp only [pancake_check.l0, List.length_cons, List.length_nil, rd_L1, pancake_isStack.f, if_pos hm, Option.bind_some, w1, w2]
  by_cases h0 : isSt sg most l0 = true <;> by_cases h1 : isSt sg most l1 = true <;> by_cases h2 : l0.length = l1.length <;> simp [h0, h1, h2] <;> omega
theorem two_rows {W : World} {b t : Nat} {A0 A1 : Option Addr} {c0 c1 : Nat} {l0 l1 : List Int} (h : Blk W b #[.slice A0 l0.length c0, .slice A1 l1.length c1] t) (h0 : Kd.C (Kd.int .i64) W A0 l0.length l0) (hc0 : l0.length ≤ c0) (h1 : Kd.C (Kd.int .i64) W A1 l1.length l1) (hc1 : l1.length ≤ c1) :
    Kd.C (Kd.slice 3 (Kd.int .i64)) W (some ⟨b, 0, none⟩) [l0, l1].length [l0, l1] := by
  refine ⟨rfl, by simp, fun _ => ⟨_, rfl, fun j p hj => ?_⟩⟩
  match j, hj with
  | 0, hj =>
    cases hj
    refine ⟨[.slice A0 l0.length c0], rfl, ⟨A0, c0, rfl, hc0, h0⟩, fun i u hu => ?_⟩
    match i, hu with
    | 0, hu => cases hu; exact h.cell 0 rfl
    | i + 1, hu => simp at hu
  | 1, hj =>
    cases hj
    refine ⟨[.slice A1 l1.length c1], rfl, ⟨A1, c1, rfl, hc1, h1⟩, fun i u hu => ?_⟩
    match i, hu with
    | 0, hu => cases hu; exact h.cell 1 rfl
    | i + 1, hu => simp at hu
  | j + 2, hj => simp at hj

def pancake_Flips.f (l0 l1 : List Int) : Option (Int × Int) := some (if chk2 false 7 l0 l1 = 0 then ((gap l0.length false l1 l0 : Nat), 0) else (0, chk2 false 7 l0 l1))
set_option maxRecDepth 100000 in
set_option maxHeartbeats 4000000 in
theorem pancake_Flips.calls (A0 : Option Addr) (c0 : Nat) (l0 : List Int) (A1 : Option Addr) (c1 : Nat) (l1 : List Int) (r1 r2 : Int) (w : World) (hr0 : Kd.C (Kd.int .i64) w A0 l0.length l0) (hc0 : l0.length ≤ c0) (hr1 : Kd.C (Kd.int .i64) w A1 l1.length l1) (hc1 : l1.length ≤ c1) (h : pancake_Flips.f l0 l1 = some (r1, r2)) :
    Calls Try.prog 28 #[.slice A0 l0.length c0, .slice A1 l1.length c1] w fun e w' => e = .returned (.tuple #[.int .i64 r1, .int .i64 r2]) ∧ Below w.heap.size w w' := by
  obtain ⟨W0, hW0⟩ : ∃ W0, w.alloc (.cells #[.slice A0 l0.length c0, .slice A1 l1.length c1] 22) = W0 := ⟨_, rfl⟩
  have hB : Below w.heap.size w W0 := by rw [← hW0]; exact (Below.refl _ w).alloc (Nat.le_refl _) _
  have hk : Blk W0 w.heap.size #[.slice A0 l0.length c0, .slice A1 l1.length c1] 22 := by rw [← hW0]; exact Blk.new _ _ _
  have HC := Aside0.mk (pancake_check.calls 3 false 7 (some ⟨w.heap.size, 0, none⟩) 2 [l0, l1] (chk2 false 7 l0 l1) W0 (two_rows hk (Kd.C_below hr0 hB) hc0 (Kd.C_below hr1 hB) hc1) (Nat.le_refl _) (chk2_f false 7 (by decide) l0 l1))
  have HB := Aside0.mk hB
  have HR0 := Aside0.mk hr0
  have HR1 := Aside0.mk hr1
  obtain ⟨ce, hce⟩ : ∃ ce, chk2 false 7 l0 l1 = ce := ⟨_, rfl⟩
  unfold pancake_Flips.f at h
  rw [hce] at h HC
  have HCE := Aside0.mk hce
  clear hB hk hr0 hr1 hce
  go_enter Try.func28, Try.ntmps28
  by_cases he : ce = 0
  · rw [if_pos he] at h
    subst he
    cases h
    have hst : isSt false 7 l0 = true ∧ isSt false 7 l1 = true ∧ l0.length = l1.length := by
      have h := HCE.out
      unfold chk2 at h
      by_cases h0 : isSt false 7 l0 = true <;> by_cases h1 : isSt false 7 l1 = true <;> by_cases h2 : l0.length = l1.length <;> simp [h0, h1, h2] at h
      exact ⟨h0, h1, h2⟩
    have v0 := isSt_vs hst.1 (by decide)
    have v1 := isSt_vs hst.2.1 (by decide)
    rw [← hst.2.2] at v1
    have hn : l0.length ≤ 7 := by have := (isSt_len hst.1).2; omega
    have HV0 := Aside0.mk v0
    have HV1 := Aside0.mk v1
    clear v0 v1 hst
    go_wp2_with (go_at_call 68; refine HC.out.mono ?_; rintro e w1 ⟨rfl, hb⟩; have HB1 := Aside0.mk (HB.out.trans (hb.mono HB.out.size)); clear hb)
    go_wp2_with (go_at_call 70; refine stopper ?_)
    unfold Hold
    refine (packed_calls A0 c0 l0 _ l0.length hn HV0.out (Kd.C_below HR0.out HB1.out)).mono ?_
    rintro e w2 ⟨rfl, hb⟩
    have HB2 := Aside0.mk (HB1.out.trans (hb.mono HB1.out.size))
    clear hb
    go_wp2_with (go_at_call 70; refine stopper ?_)
    unfold Hold
    refine (packed_calls A1 c1 l1 _ l0.length hn HV1.out (Kd.C_below HR1.out HB2.out)).mono ?_
    rintro e w3 ⟨rfl, hb⟩
    have HB3 := Aside0.mk (HB2.out.trans (hb.mono HB2.out.size))
    clear hb
    go_wp2_with (go_at_call 69; refine stopper ?_)
    unfold Hold
    refine (between_calls l0.length hn false l0 l1 HV0.out HV1.out _).mono ?_
    rintro e w4 ⟨rfl, hb⟩
    have HB4 := Aside0.mk (HB3.out.trans (hb.mono HB3.out.size))
    clear hb
    go_wp2
    refine bodyPost_ret (results_tmp2 rfl _ _ _) rfl ⟨rfl, HB4.out⟩
  · rw [if_neg he] at h
    cases h
    go_wp2_with (go_at_call 68; refine HC.out.mono ?_; rintro e w1 ⟨rfl, hb⟩; have HB1 := Aside0.mk (HB.out.trans (hb.mono HB.out.size)); clear hb)
    refine bodyPost_ret (results_tmp2 rfl _ _ _) rfl ⟨rfl, HB1.out⟩

def pancake_FlipsBurnt.f (l0 l1 : List Int) : Option (Int × Int) := some (if chk2 true 6 l0 l1 = 0 then ((gap l0.length true l1 l0 : Nat), 0) else (0, chk2 true 6 l0 l1))
set_option maxRecDepth 100000 in
set_option maxHeartbeats 4000000 in
theorem pancake_FlipsBurnt.calls (A0 : Option Addr) (c0 : Nat) (l0 : List Int) (A1 : Option Addr) (c1 : Nat) (l1 : List Int) (r1 r2 : Int) (w : World) (hr0 : Kd.C (Kd.int .i64) w A0 l0.length l0) (hc0 : l0.length ≤ c0) (hr1 : Kd.C (Kd.int .i64) w A1 l1.length l1) (hc1 : l1.length ≤ c1) (h : pancake_FlipsBurnt.f l0 l1 = some (r1, r2)) :
    Calls Try.prog 41 #[.slice A0 l0.length c0, .slice A1 l1.length c1] w fun e w' => e = .returned (.tuple #[.int .i64 r1, .int .i64 r2]) ∧ Below w.heap.size w w' := by
  obtain ⟨W0, hW0⟩ : ∃ W0, w.alloc (.cells #[.slice A0 l0.length c0, .slice A1 l1.length c1] 22) = W0 := ⟨_, rfl⟩
  have hB : Below w.heap.size w W0 := by rw [← hW0]; exact (Below.refl _ w).alloc (Nat.le_refl _) _
  have hk : Blk W0 w.heap.size #[.slice A0 l0.length c0, .slice A1 l1.length c1] 22 := by rw [← hW0]; exact Blk.new _ _ _
  have HC := Aside0.mk (pancake_check.calls 3 true 6 (some ⟨w.heap.size, 0, none⟩) 2 [l0, l1] (chk2 true 6 l0 l1) W0 (two_rows hk (Kd.C_below hr0 hB) hc0 (Kd.C_below hr1 hB) hc1) (Nat.le_refl _) (chk2_f true 6 (by decide) l0 l1))
  have HB := Aside0.mk hB
  have HR0 := Aside0.mk hr0
  have HR1 := Aside0.mk hr1
  obtain ⟨ce, hce⟩ : ∃ ce, chk2 true 6 l0 l1 = ce := ⟨_, rfl⟩
  unfold pancake_FlipsBurnt.f at h
  rw [hce] at h HC
  have HCE := Aside0.mk hce
  clear hB hk hr0 hr1 hce
  go_enter Try.func41, Try.ntmps41
  by_cases he : ce = 0
  · rw [if_pos he] at h
    subst he
    cases h
    have hst : isSt true 6 l0 = true ∧ isSt true 6 l1 = true ∧ l0.length = l1.length := by
      have h := HCE.out
      unfold chk2 at h
      by_cases h0 : isSt true 6 l0 = true <;> by_cases h1 : isSt true 6 l1 = true <;> by_cases h2 : l0.length = l1.length <;> simp [h0, h1, h2] at h
      exact ⟨h0, h1, h2⟩
    have v0 := isSt_vs hst.1 (by decide)
    have v1 := isSt_vs hst.2.1 (by decide)
    rw [← hst.2.2] at v1
    have hn : l0.length ≤ 7 := by have := (isSt_len hst.1).2; omega
    have HV0 := Aside0.mk v0
    have HV1 := Aside0.mk v1
    clear v0 v1 hst
    go_wp2_with (go_at_call 68; refine HC.out.mono ?_; rintro e w1 ⟨rfl, hb⟩; have HB1 := Aside0.mk (HB.out.trans (hb.mono HB.out.size)); clear hb)
    go_wp2_with (go_at_call 70; refine stopper ?_)
    unfold Hold
    refine (packed_calls A0 c0 l0 _ l0.length hn HV0.out (Kd.C_below HR0.out HB1.out)).mono ?_
    rintro e w2 ⟨rfl, hb⟩
    have HB2 := Aside0.mk (HB1.out.trans (hb.mono HB1.out.size))
    clear hb
    go_wp2_with (go_at_call 70; refine stopper ?_)
    unfold Hold
    refine (packed_calls A1 c1 l1 _ l0.length hn HV1.out (Kd.C_below HR1.out HB2.out)).mono ?_
    rintro e w3 ⟨rfl, hb⟩
    have HB3 := Aside0.mk (HB2.out.trans (hb.mono HB2.out.size))
    clear hb
    go_wp2_with (go_at_call 69; refine stopper ?_)
    unfold Hold
    refine (between_calls l0.length hn true l0 l1 HV0.out HV1.out _).mono ?_
    rintro e w4 ⟨rfl, hb⟩
    have HB4 := Aside0.mk (HB3.out.trans (hb.mono HB3.out.size))
    clear hb
    go_wp2
    refine bodyPost_ret (results_tmp2 rfl _ _ _) rfl ⟨rfl, HB4.out⟩
  · rw [if_neg he] at h
    cases h
    go_wp2_with (go_at_call 68; refine HC.out.mono ?_; rintro e w1 ⟨rfl, hb⟩; have HB1 := Aside0.mk (HB.out.trans (hb.mono HB.out.size)); clear hb)
    refine bodyPost_ret (results_tmp2 rfl _ _ _) rfl ⟨rfl, HB1.out⟩
end Go.Proofs.Ytepjhdblmghckaa.G
/- The range over the map of what is known; the greatest number of moves reckoned. -/
namespace Go.Proofs.Ytepjhdblmghckaa.G
set_option linter.unusedVariables false
set_option linter.unusedSimpArgs false
set_option linter.unusedSectionVars false
open Go.Proofs.Ytepjhdblmghckaa.Q Go.Proofs.Ytepjhdblmghckaa.K Go.Proofs.Ytepjhdblmghckaa.Bf
open Go.RowKit Go.Shelf Go.Proofs.YtepjhdblmghckaaW.PrintWords Go.Proofs.YtepjhdblmghckaaW.PrintLast Go.Proofs.YtepjhdblmghckaaW.PrintMore
/-- A range over the map in block b is under way; vis have been met. -/
def Rg (W : World) (b r k n : Nat) (M : Km) (vis : List (List Int)) (cnt : Nat) : Prop :=
  ∃ (D : DataW Unit) (left : Lit → Bool), W.ranges Try.prog 92 stepR b r k D left cnt ∧
    (∀ l, Vs n l → Go.Maps.has D (KL l) = (M l).isSome ∧ D.atKey (KL l) (stepD zeroS) = stepD ((M l).getD zeroS)) ∧
    (∀ kl, Go.Maps.has D kl = true → ∃ l, Vs n l ∧ kl = KL l) ∧
    (∀ l, Vs n l → left (KL l) = ((M l).isSome && !decide (l ∈ vis))) ∧ (∀ kl, left kl = true → Go.Maps.has D kl = true)
theorem Kn.range {W : World} {b k n : Nat} {M : Km} (h : Kn W b k n M) :
    ∃ W' cnt, (Instr.range 116 (.map (some b))).run Try.prog W = .ok (.pointer (some ⟨W.heap.size, 0, none⟩)) W' ∧ Rg W' b W.heap.size k n M [] cnt ∧ W.grownBy W' none ∧ W'.heap.size = W.heap.size + 1 := by
  obtain ⟨D, h1, h2, h3, h4⟩ := h
  obtain ⟨W', hrun, hr, hg, hs⟩ := h1.range law92 u116
  exact ⟨W', _, hrun, ⟨D, _, hr, h3, h4, fun l hl => by rw [(h3 l hl).1]; simp, fun kl h => h⟩, hg, hs⟩
theorem Rg.kept {W W' : World} {b r k n : Nat} {M : Km} {vis : List (List Int)} {cnt : Nat} {row : Option Nat} (h : Rg W b r k n M vis cnt) (hg : W.grownBy W' row) (hb : some b ≠ row) (hr : some r ≠ row) : Rg W' b r k n M vis cnt := by
  obtain ⟨D, left, h1, h2⟩ := h
  exact ⟨D, left, h1.kept hg hb hr, h2⟩
theorem Rg.lt {W : World} {b r k n : Nat} {M : Km} {vis : List (List Int)} {cnt : Nat} (h : Rg W b r k n M vis cnt) : r < W.heap.size ∧ b < W.heap.size ∧ W.rangeLeft b r = cnt ∧ r ≠ b := by
  obtain ⟨D, left, h1, h2⟩ := h
  exact ⟨h1.lt, h1.owns.lt, h1.left_eq, h1.ne⟩
theorem stepR_form {v : Value} {y : DataW Unit × List MemPlace} {x : St3} (h : stepR v = some y) (hy : y.1 = stepD x) : v = stepE x := by
  obtain ⟨y1, y2⟩ := y
  simp only at hy
  rw [hy] at h
  exact stepR_inv h
theorem Rg.next {W : World} {b r k n : Nat} {M : Km} {vis : List (List Int)} {cnt : Nat} (h : Rg W b r k n M vis cnt) (hn : n ≤ 7) :
    (cnt = 0 ∧ (∀ l, Vs n l → (M l).isSome = true → l ∈ vis) ∧ (Instr.next (.pointer (some ⟨r, 0, none⟩)) false 0).run Try.prog W = .ok (.tuple #[.bool false]) W) ∨
    ∃ l e key W' cnt', Vs n l ∧ M l = some e ∧ l ∉ vis ∧ (Instr.next (.pointer (some ⟨r, 0, none⟩)) false 0).run Try.prog W = .ok (.tuple #[.bool true, key, stepE e]) W' ∧
      Rg W' b r k n M (vis ++ [l]) cnt' ∧ cnt' < cnt ∧ W.grownBy W' (some r) ∧ W'.heap.size = W.heap.size ∧ (Instr.entry (.pointer (some ⟨r, 0, none⟩))).run Try.prog W' = .ok (.tuple #[key, stepE e]) W' := by
  obtain ⟨D, left, h1, h2, h3, h4, h5⟩ := h
  rcases h1.next law92 0 with ⟨hc, hno, hrun⟩ | ⟨key, v, kl, y, W', cnt', hkey, hl, hv, hat, hrun, hr', hlt, hg, hsz, hent⟩
  · refine .inl ⟨hc, fun l hl hs => ?_, hrun⟩
    have := h4 l hl
    rw [hno, hs] at this
    simpa using this.symm
  · obtain ⟨l, hvl, rfl⟩ := h3 kl (h5 kl hl)
    have hlf := h4 l hvl
    rw [hl] at hlf
    have hm : (M l).isSome = true ∧ l ∉ vis := by simpa using hlf.symm
    obtain ⟨e, he⟩ := Option.isSome_iff_exists.1 hm.1
    have hy : y.1 = stepD e := by
      rw [← hat (stepD zeroS), (h2 l hvl).2, he]; rfl
    obtain rfl := stepR_form hv hy
    refine .inr ⟨l, e, key, W', cnt', hvl, he, hm.2, hrun, ⟨D, _, hr', h2, h3, fun x hx => ?_, fun kl hkl => h5 kl (by simp only [Bool.and_eq_true] at hkl; exact hkl.1)⟩, hlt, hg, hsz, hent⟩
    rw [h4 x hx]
    by_cases ex : x = l
    · subst ex
      have : (KL x).sameKey (KL x) = true := WideAt.sameKey_self (KL_lit hx)
      simp [this]
    · have : (KL x).sameKey (KL l) = false := by
        cases hs : (KL x).sameKey (KL l)
        · rfl
        · exact absurd (KL_inj hx hvl hn (WideAt.sameKey_eq hs)) ex
      simp [this, ex]
/-- Each once. -/
def uniq : List (List Int) → List (List Int)
  | [] => []
  | a :: l => if a ∈ l then uniq l else a :: uniq l
theorem mem_uniq : ∀ (l : List (List Int)) (x : List Int), x ∈ uniq l ↔ x ∈ l
  | [], x => by simp [uniq]
  | a :: l, x => by
    unfold uniq
    split
    · rename_i h
      rw [mem_uniq l x, List.mem_cons]
      exact ⟨.inr, fun h' => h'.elim (fun e => e ▸ h) id⟩
    · rw [List.mem_cons, List.mem_cons, mem_uniq l x]
theorem uniq_nodup : ∀ l : List (List Int), (uniq l).Nodup
  | [] => by simp [uniq]
  | a :: l => by
    unfold uniq
    split
    · exact uniq_nodup l
    · rename_i h
      exact List.nodup_cons.2 ⟨fun h' => h ((mem_uniq l a).1 h'), uniq_nodup l⟩
/-- Those that can be brought into order. -/
def reach (n : Nat) (sg : Bool) : List (List Int) := uniq ((univ n).filter (fun x => decide (x ∈ ball (nextK n sg false) (firstL n) (15 ^ n))))
def mostOf (d : List Int → Nat) : List (List Int) → Nat
  | [] => 0
  | x :: l => max (d x) (mostOf d l)
/-- The greatest number of moves, and how many need it. -/
def wrst (n : Nat) (sg : Bool) : Nat × Nat :=
  let d := gap n sg (firstL n)
  (mostOf d (reach n sg), (reach n sg).countP (fun x => decide (d x = mostOf d (reach n sg))))
theorem mostOf_le (d : List Int → Nat) : ∀ (l : List (List Int)) (x : List Int), x ∈ l → d x ≤ mostOf d l
  | a :: l, x, h => by
    unfold mostOf
    rcases List.mem_cons.1 h with rfl | h
    · omega
    · have := mostOf_le d l x h; omega
theorem mostOf_at (d : List Int → Nat) : ∀ l : List (List Int), mostOf d l = 0 ∨ ∃ x, x ∈ l ∧ d x = mostOf d l
  | [] => .inl rfl
  | a :: l => by
    unfold mostOf
    rcases Nat.le_total (mostOf d l) (d a) with h | h
    · exact .inr ⟨a, by simp, by omega⟩
    · rcases mostOf_at d l with h1 | ⟨x, hx, h2⟩
      · exact .inl (by omega)
      · exact .inr ⟨x, List.mem_cons_of_mem _ hx, by omega⟩
/-- What the loop has reckoned. -/
structure Mo (d : List Int → Nat) (vis : List (List Int)) (a b : Nat) : Prop where
  le : ∀ x, x ∈ vis → d x ≤ a
  at_ : a = 0 ∨ ∃ x, x ∈ vis ∧ d x = a
  many : b = vis.countP (fun x => decide (d x = a))
theorem Mo.begin (d : List Int → Nat) : Mo d [] 0 0 := ⟨fun x h => (by cases h), .inl rfl, rfl⟩
theorem Mo.more {d : List Int → Nat} {vis : List (List Int)} {a b : Nat} (h : Mo d vis a b) {x : List Int} (hx : a < d x) : Mo d (vis ++ [x]) (d x) 1 := by
  refine ⟨fun y hy => ?_, .inr ⟨x, by simp, rfl⟩, ?_⟩
  · rcases List.mem_append.1 hy with hy | hy
    · have := h.le y hy; omega
    · simp at hy; subst hy; omega
  · rw [List.countP_append]
    have : vis.countP (fun y => decide (d y = d x)) = 0 := by
      rw [List.countP_eq_zero]
      intro y hy
      have := h.le y hy
      simp; omega
    rw [this]; simp
theorem Mo.same {d : List Int → Nat} {vis : List (List Int)} {a b : Nat} (h : Mo d vis a b) {x : List Int} (hx : d x = a) : Mo d (vis ++ [x]) a (b + 1) := by
  refine ⟨fun y hy => ?_, .inr ⟨x, by simp, hx⟩, ?_⟩
  · rcases List.mem_append.1 hy with hy | hy
    · exact h.le y hy
    · simp at hy; subst hy; omega
  · rw [List.countP_append, ← h.many]; simp [hx]
theorem Mo.less {d : List Int → Nat} {vis : List (List Int)} {a b : Nat} (h : Mo d vis a b) {x : List Int} (hx : d x < a) : Mo d (vis ++ [x]) a b := by
  refine ⟨fun y hy => ?_, ?_, ?_⟩
  · rcases List.mem_append.1 hy with hy | hy
    · exact h.le y hy
    · simp at hy; subst hy; omega
  · rcases h.at_ with h1 | ⟨y, hy, h2⟩
    · exact .inl h1
    · exact .inr ⟨y, by simp [hy], h2⟩
  · rw [List.countP_append, ← h.many]; simp; omega
theorem least_lt' {α : Type} [DecidableEq α] (next : α → List α) (s t : α) (N : Nat) : least next s t (N + 1) < N + 1 := by
  unfold least
  cases h : (List.range (N + 1)).find? (fun k => (ball next s k).contains t) with
  | none => simp
  | some j =>
    have := List.mem_of_find?_eq_some h
    simpa using this
theorem FinS.reached {n : Nat} {sg : Bool} {a : List Int} {M : Km} {L : List (List Int)} (h : FinS n sg false a none M L) (x : List Int) : (M x).isSome = true ↔ x ∈ ball (nextK n sg false) a (15 ^ n) := by
  constructor
  · intro hm
    obtain ⟨e, he⟩ := Option.isSome_iff_exists.1 hm
    have hs : Sof M x = some e.2 := by unfold Sof; rw [he]; rfl
    have h1 := h.exact x e.2 hs
    have h2 := h.found x e.2 hs
    have h3 := least_lt' (nextK n sg false) a x (15 ^ n)
    exact ball_mono (by omega) h1.1
  · intro hb
    cases hm : M x with
    | some e => rfl
    | none =>
      rcases h.done with hd | ⟨u, hu, _⟩
      · exact absurd hb (hd x hm _)
      · cases hu
theorem worst_of {n : Nat} {sg : Bool} {M : Km} {L vis : List (List Int)} {a b : Nat} (h : FinS n sg false (firstL n) none M L) (hv : vis.Nodup) (hvis : ∀ x, x ∈ vis ↔ (M x).isSome = true) (hM : Mo (G.gap n sg (firstL n)) vis a b) : wrst n sg = (a, b) := by
  have hmem : ∀ x, x ∈ reach n sg ↔ x ∈ vis := fun x => by
    unfold reach
    rw [mem_uniq, List.mem_filter, hvis, h.reached, decide_eq_true_eq]
    exact ⟨fun h => h.2, fun hb => ⟨univ_mem n x (h.valid x ((h.reached x).2 hb)), hb⟩⟩
  have hperm : (reach n sg).Perm vis := (List.perm_ext_iff_of_nodup (uniq_nodup _) hv).2 hmem
  have ha : mostOf (G.gap n sg (firstL n)) (reach n sg) = a := by
    apply Nat.le_antisymm
    · rcases mostOf_at (G.gap n sg (firstL n)) (reach n sg) with h0 | ⟨x, hx, hd⟩
      · omega
      · rw [← hd]; exact hM.le x ((hmem x).1 hx)
    · rcases hM.at_ with h0 | ⟨x, hx, hd⟩
      · omega
      · rw [← hd]; exact mostOf_le _ _ x ((hmem x).2 hx)
  unfold wrst
  simp only [ha]
  rw [hM.many, hperm.countP_eq]
theorem FinS.gapM {n : Nat} {sg : Bool} {a : List Int} {M : Km} {L : List (List Int)} {U : Option (List Int)} (h : FinS n sg false a U M L) {x : List Int} {e : St3} (he : M x = some e) : e.2 = Go.Proofs.Ytepjhdblmghckaa.G.gap n sg a x :=
  (h.found x e.2 (by unfold Sof; rw [he]; rfl)).symm
end Go.Proofs.Ytepjhdblmghckaa.G
/- Moves that put a stack in order: their contract. -/
namespace Go.Proofs.Ytepjhdblmghckaa.G
set_option linter.unusedVariables false
set_option linter.unusedSimpArgs false
set_option linter.unusedSectionVars false
open Go.Proofs.Ytepjhdblmghckaa.Q Go.Proofs.Ytepjhdblmghckaa.K Go.Proofs.Ytepjhdblmghckaa.Bf
open Go.RowKit Go.Shelf Go.Proofs.YtepjhdblmghckaaW.PrintWords Go.Proofs.YtepjhdblmghckaaW.PrintLast Go.Proofs.YtepjhdblmghckaaW.PrintMore
/-- What is known of all stacks when s is found. -/
def knownOf (n : Nat) (sg an : Bool) (s : List Int) : Km := (bfs n sg an (some s) (15 ^ n) (ini (firstL n))).1
/-- The moves that are known, one after the other. -/
def ordF (M : Km) (n : Nat) (sg : Bool) : Nat → List Int → List (Nat × Nat)
  | 0, _ => []
  | k + 1, s => if s = firstL n then [] else ((M s).getD zeroS).1 :: ordF M n sg k (flL sg s ((M s).getD zeroS).1.1 ((M s).getD zeroS).1.2)
def ordL (n : Nat) (sg an : Bool) (s : List Int) : List (Nat × Nat) := ordF (knownOf n sg an s) n sg (((knownOf n sg an s) s).getD zeroS).2.succ s
def mk57 (x : Nat × Nat) : S57 := ⟨x.1, x.2⟩
theorem field115_0 (a b c : Int) (w : World) : (Instr.field 115 (.agg #[.int .i64 a, .int .i64 b, .int .i64 c]) 0).run Try.prog w = .ok (.agg #[.int .i64 a, .int .i64 b]) w := by kernel_rfl
theorem u102 : Try.prog.underlying 102 = some (.slice 105) := by kernel_rfl
theorem info105 : (Try.prog.info? 105).map (fun i => (i.zero, i.size, i.bytes)) = some (some (.agg #[(.int .i64 0), (.int .i64 0)]), 2, 16) := by kernel_rfl
def dof (M : Km) (n b : Nat) (wr : World) (d : Nat) : Prop := ∃ cur, Vs n cur ∧ Blk wr b (stk (nth cur)) 92 ∧ ((M cur).getD zeroS).2 = d
theorem lst_dof {M : Km} {n b : Nat} (hn : n ≤ 7) {wr : World} {cur : List Int} (hv : Vs n cur) (hb : Blk wr b (stk (nth cur)) 92) : lst (dof M n b wr) = ((M cur).getD zeroS).2 := by
  obtain ⟨c2, h1, h2, h3⟩ := lst_spec (R := dof M n b wr) ⟨_, cur, hv, hb, rfl⟩
  have e := h2.symm.trans hb
  injection e with e
  injection e with e
  rw [stk_inj h1 hv hn e] at h3
  exact h3.symm
set_option maxRecDepth 100000 in
set_option maxHeartbeats 16000000 in
theorem order_calls (n : Nat) (hn : n ≤ 7) (sg an : Bool) (s : List Int) (hs : Vs n s) (hsome : ((knownOf n sg an s) s).isSome = true) (w : World) :
    Calls Try.prog 77 #[.agg #[.int .i64 n, .bool sg, .bool an], .agg (stk (nth s))] w fun e w' => ∃ v, e = .returned v ∧ Kd.R k57 105 w' w.heap.size (fun _ => True) v ((ordL n sg an s).map mk57) ∧ Below w.heap.size w w' := by
  obtain ⟨W0, hW0⟩ : ∃ W0, (w.alloc (.cells #[.int .i64 n, .bool sg, .bool an] 88)).alloc (.cells (stk (nth s)) 92) = W0 := ⟨_, rfl⟩
  have hB : Below w.heap.size w W0 := by rw [← hW0]; exact ((Below.refl _ w).alloc (Nat.le_refl _) _).alloc (by simp) _
  have h0 : Blk W0 w.heap.size #[.int .i64 n, .bool sg, .bool an] 88 := by rw [← hW0]; exact (Blk.new _ _ _).alloc _
  have h1 : Blk W0 (w.heap.size + 1) (stk (nth s)) 92 := by
    rw [← hW0]
    have := Blk.new (w.alloc (.cells #[.int .i64 n, .bool sg, .bool an] 88)) (stk (nth s)) 92
    rw [World.size_alloc] at this
    exact this
  have k0 := h0.cell 0 (v := .int .i64 n) rfl
  have k1 := h0.cell 1 (v := .bool sg) rfl
  have k2 := h0.cell 2 (v := .bool an) rfl
  have HK0 := Aside0.mk h0
  have HS := Aside0.mk hs
  have HSOME := Aside0.mk hsome
  clear h0 hs hsome
  unfold stk at hW0
  unfold stk
  go_enter Try.func77, Try.ntmps77
  go_upto_region 1 with fail
  try rw [hW0]
  clear hW0
  refine start_ (n := 5) (S := fun w' => w'.cell? ⟨w.heap.size, 0, none⟩ = some (.int .i64 (n : Int)) ∧ w'.cell? ⟨w.heap.size, 1, none⟩ = some (.bool sg) ∧ w'.cell? ⟨w.heap.size, 2, none⟩ = some (.bool an)) (ds := []) #[false, false, false, false, false] (by kernel_rfl) rfl rfl ⟨k0, k1, k2⟩ (fun hHeld => ?_)
  have HB0 := Aside0.mk hB.drew
  have H1D := Aside0.mk h1.drew
  have HK0D := Aside0.mk HK0.out.drew
  clear hB h1 HK0
  generalize W0.drew = Wd at hHeld HB0 H1D HK0D ⊢
  clear k0 k1 k2
  refine take_ (i := 0) (N := (some 8)) (v := ?_) (a' := ?_) #[true, false, false, false, false] rfl rfl (by kernel_rfl) (fun _ _ _ h => h) (Or.inl ⟨by rfl, ?_⟩) hHeld ?_ ?_
  rotate_left
  · rintro w' ⟨s0, s1, s2⟩
    go_simp
    with_reducible rfl
  rotate_left
  · simp only [Act.put, List.setIfInBounds_toArray, List.set_cons_zero, List.set_cons_succ]
    rfl
  refine take_ (i := 1) (N := (some 9)) (v := ?_) (a' := ?_) #[true, true, false, false, false] rfl rfl (by kernel_rfl) (fun _ _ _ h => h) (Or.inl ⟨by rfl, ?_⟩) hHeld ?_ ?_
  rotate_left
  · rintro w' ⟨s0, s1, s2⟩
    go_simp
    with_reducible rfl
  rotate_left
  · simp only [Act.put, List.setIfInBounds_toArray, List.set_cons_zero, List.set_cons_succ]
    rfl
  refine one_ (i := 2) (N := (some 10)) #[true, true, true, false, false] rfl rfl (by kernel_rfl) (by decide) (fun K hK => ?_)
  refine goes_ Try.func85 (by kernel_rfl) rfl #[.agg #[.int .i64 n, .bool sg, .bool an]] (by rfl) rfl rfl (by (try simp only [List.map_toArray, List.map_cons, List.map_nil]); first | done | rfl) ?_
  refine (first_calls n hn sg an Wd).mono ?_
  rintro e w1 ⟨rfl, hb⟩
  refine ⟨_, rfl, ?_⟩
  have H1E := Aside0.mk (H1D.out.below hb H1D.out.lt)
  have HK0E := Aside0.mk (HK0D.out.below hb HK0D.out.lt)
  have HSZ1 := Aside0.mk H1E.out.lt
  obtain ⟨fm, hfm⟩ : ∃ fm, nth (firstL n) = fm := ⟨_, rfl⟩
  rw [hfm]
  have HFM := Aside0.mk hfm
  clear hfm
  have HB1 := Aside0.mk (HB0.out.trans (hb.mono HB0.out.size))
  have hcc : ∀ (p : Addr) v, Wd.cell? p = some v → w1.cell? p = some v := fun p v hp => by rw [hb.cell (p := p) (World.block_lt_of_cell? _ _ hp)]; exact hp
  refine hK.out _ _ ⟨hcc _ _ hHeld.1, hcc _ _ hHeld.2.1, hcc _ _ hHeld.2.2⟩ (fun hHeld => ?_)
  clear hcc hK K hb
  simp only [stk]
  refine norm_ (a' := ?_) ?_ ?_
  rotate_left
  · show Act.put _ (some 10) _ = _
    simp only [Act.put, List.setIfInBounds_toArray, List.set_cons_zero, List.set_cons_succ]
    rfl
  refine one_ (i := 3) (N := (some 11)) #[true, true, true, true, false] rfl rfl (by kernel_rfl) (by decide) (fun K hK => ?_)
  refine goes_ Try.func84 (by kernel_rfl) rfl #[.agg #[.int .i64 n, .bool sg, .bool an], .agg (stk fm), .pointer (some ⟨w.heap.size + 1, 0, none⟩)] (by rfl) rfl rfl (by (try simp only [List.map_toArray, List.map_cons, List.map_nil]); first | done | rfl) ?_
  rw [← HFM.out]
  refine (search_calls n sg an hn (firstL n) (vs_firstL hn) (some s) (.pointer (some ⟨w.heap.size + 1, 0, none⟩)) w1 (.inr ⟨w.heap.size + 1, s, rfl, rfl, HS.out, HSZ1.out, H1E.out⟩)).mono ?_
  rintro e w2 ⟨rfl, M, k, L, hF, hk, h7, hb⟩
  refine ⟨_, rfl, ?_⟩
  obtain ⟨bm, hbm⟩ : ∃ bm, w1.heap.size + 2 = bm := ⟨_, rfl⟩
  rw [hbm] at hk h7 ⊢
  have HBM := Aside0.mk (show w.heap.size + 1 < bm by have := HSZ1.out; omega)
  have HF := Aside0.mk hF
  have HKN := Aside0.mk hk
  have H1F := Aside0.mk (H1E.out.below hb H1E.out.lt)
  have HK2 := Aside0.mk (HK0E.out.below hb HK0E.out.lt)
  have HB2 := Aside0.mk (HB1.out.trans (hb.mono HB1.out.size))
  have hcc : ∀ (p : Addr) v, w1.cell? p = some v → w2.cell? p = some v := fun p v hp => by rw [hb.cell (p := p) (World.block_lt_of_cell? _ _ hp)]; exact hp
  refine hK.out _ _ ⟨hcc _ _ hHeld.1, hcc _ _ hHeld.2.1, hcc _ _ hHeld.2.2⟩ (fun hHeld => ?_)
  clear hcc hK K hb hbm hF hk h7
  refine norm_ (a' := ?_) ?_ ?_
  rotate_left
  · show Act.put _ (some 11) _ = _
    simp only [Act.put, List.setIfInBounds_toArray, List.set_cons_zero, List.set_cons_succ]
    rfl
  refine pure_ (i := 4) (N := (some 5)) (v := ?_) (a' := ?_) #[true, true, true, true, true] rfl rfl (by kernel_rfl) (fun _ _ _ h => h) (Or.inl ⟨by rfl, ?_⟩) ?_ ?_
  rotate_left
  · intro w'
    go_simp
    with_reducible rfl
  rotate_left
  · simp only [Act.put, List.setIfInBounds_toArray, List.set_cons_zero, List.set_cons_succ]
    rfl
  refine done_ (by kernel_rfl) ?_
  obtain ⟨qf, hqf⟩ := HF.out.tr
  have hKM : knownOf n sg an s = M := by unfold knownOf; rw [hqf]
  have hres : ordL n sg an s = ordF M n sg ((M s).getD zeroS).2.succ s := by unfold ordL; rw [hKM]
  have hms := HSOME.out
  rw [hKM] at hms
  have HRES := Aside0.mk hres
  have HMS := Aside0.mk hms
  have hd0 : ((M s).getD zeroS).2 ≤ 15 ^ n := by
    obtain ⟨e, he⟩ := Option.isSome_iff_exists.1 hms
    have h1 := HF.out.found s e.2 (by unfold Sof; rw [he]; rfl)
    have h2 := least_lt' (nextK n sg an) (firstL n) s (15 ^ n)
    rw [he]
    show e.2 ≤ 15 ^ n
    omega
  have HD0 := Aside0.mk hd0
  have HSB2 := Aside0.mk H1F.out.lt
  clear hqf hKM hres hms hHeld hd0
  go_wp2
  rw [HFM.out]
  go_loopw [6] (fun v wr => ∃ (ms : List (Nat × Nat)) (cur : List Int), Aside0 (Kd.R k57 105 wr (w.heap.size + 2) (fun k => w.heap.size + 2 ≤ k) v (ms.map mk57)) ∧ Aside0 (Vs n cur) ∧ Aside0 ((M cur).isSome = true) ∧ Aside0 (ms ++ ordF M n sg ((M cur).getD zeroS).2.succ cur = ordL n sg an s) ∧ Aside0 (ms.length + ((M cur).getD zeroS).2 ≤ 15 ^ n) ∧ Aside0 (Blk wr w.heap.size #[.int .i64 n, .bool sg, .bool an] 88) ∧ Aside0 (Blk wr (w.heap.size + 1) (stk (nth cur)) 92) ∧ Aside0 (Kn wr bm k n M) ∧ Aside0 (Below w.heap.size w wr)) (fun v wr => lst (dof M n (w.heap.size + 1) wr))
  case atStart => exact ⟨[], s, ⟨Kd.R_nil _ _ _ _ _⟩, HS, HMS, ⟨HRES.out.symm⟩, ⟨by have := HD0.out; simpa using this⟩, HK2, H1F, HKN, HB2⟩
  case round =>
    obtain ⟨ms, cur, HRW, HVC, HMC, HOR, HLN, HKW, HCW, HMW, HWW⟩ := hrel
    have HLST := Aside0.mk (lst_dof hn HVC.out HCW.out (M := M))
    have HSZW := Aside0.mk HCW.out.lt
    have HOWN := Aside0.mk (Kd.R_base HRW.out)
    obtain ⟨A, c, e⟩ := Kd.R_slice HRW.out
    subst e
    obtain ⟨cm, hcm⟩ : ∃ cm, nth cur = cm := ⟨_, rfl⟩
    have heq := fun W => stk_eq HVC.out (vs_firstL hn) hn W
    rw [hcm, HFM.out] at heq
    rw [hcm] at HCW
    have HCM := Aside0.mk hcm
    have HBD := Aside0.mk (show ∀ p, -100 ≤ cm p ∧ cm p ≤ 100 by rw [← hcm]; exact fun p => by have := HVC.out.2 p; omega)
    unfold stk at heq
    obtain ⟨t0, t1, t2, t3, t4, t5, t6⟩ := stk_cells HCW.out
    have k0 := HKW.out.cell 0 (v := .int .i64 n) rfl
    have k1 := HKW.out.cell 1 (v := .bool sg) rfl
    have k2 := HKW.out.cell 2 (v := .bool an) rfl
    clear hcm
    by_cases hcf : cur = firstL n
    · rw [decide_eq_true hcf] at heq
      have HCF := Aside0.mk hcf
      clear hcf
      go_upto_region 3 with fail
      refine start_ (n := 4) (S := fun w' => w'.cell? ⟨w.heap.size + 1, 0, none⟩ = some (.int .i8 (cm 0)) ∧ w'.cell? ⟨w.heap.size + 1, 1, none⟩ = some (.int .i8 (cm 1)) ∧ w'.cell? ⟨w.heap.size + 1, 2, none⟩ = some (.int .i8 (cm 2)) ∧ w'.cell? ⟨w.heap.size + 1, 3, none⟩ = some (.int .i8 (cm 3)) ∧ w'.cell? ⟨w.heap.size + 1, 4, none⟩ = some (.int .i8 (cm 4)) ∧ w'.cell? ⟨w.heap.size + 1, 5, none⟩ = some (.int .i8 (cm 5)) ∧ w'.cell? ⟨w.heap.size + 1, 6, none⟩ = some (.int .i8 (cm 6)) ∧ w'.cell? ⟨w.heap.size, 0, none⟩ = some (.int .i64 (n : Int)) ∧ w'.cell? ⟨w.heap.size, 1, none⟩ = some (.bool sg) ∧ w'.cell? ⟨w.heap.size, 2, none⟩ = some (.bool an)) (ds := []) #[false, false, false, false] (by kernel_rfl) rfl rfl ⟨t0, t1, t2, t3, t4, t5, t6, k0, k1, k2⟩ (fun hHeld => ?_)
      have HKD := Aside0.mk (HKW.out.drew)
      have HCD := Aside0.mk (HCW.out.drew)
      have HMD := Aside0.mk (HMW.out.mapsTo (W' := wr.drew) rfl)
      have HRD := Aside0.mk (Kd.R_drew HRW.out)
      have HWD := Aside0.mk HWW.out.drew
      generalize wr.drew = wd at hHeld HKD HCD HMD HRD HWD ⊢
      clear t0 t1 t2 t3 t4 t5 t6 k0 k1 k2 HKW HCW HMW HRW HWW
      refine take_ (i := 0) (N := (some 12)) (v := ?_) (a' := ?_) #[true, false, false, false] rfl rfl (by kernel_rfl) (fun _ _ _ h => h) (Or.inl ⟨by rfl, ?_⟩) hHeld ?_ ?_
      rotate_left
      · rintro w' ⟨s0, s1, s2, s3, s4, s5, s6, s7, s8, s9⟩
        go_simp
        with_reducible rfl
      rotate_left
      · simp only [Act.put, List.setIfInBounds_toArray, List.set_cons_zero, List.set_cons_succ]
        rfl
      refine take_ (i := 1) (N := (some 13)) (v := ?_) (a' := ?_) #[true, true, false, false] rfl rfl (by kernel_rfl) (fun _ _ _ h => h) (Or.inl ⟨by rfl, ?_⟩) hHeld ?_ ?_
      rotate_left
      · rintro w' ⟨s0, s1, s2, s3, s4, s5, s6, s7, s8, s9⟩
        go_simp
        with_reducible rfl
      rotate_left
      · simp only [Act.put, List.setIfInBounds_toArray, List.set_cons_zero, List.set_cons_succ]
        rfl
      refine one_ (i := 2) (N := (some 14)) #[true, true, true, false] rfl rfl (by kernel_rfl) (by decide) (fun K hK => ?_)
      refine goes_ Try.func85 (by kernel_rfl) rfl #[.agg #[.int .i64 n, .bool sg, .bool an]] (by rfl) rfl rfl (by (try simp only [List.map_toArray, List.map_cons, List.map_nil]); first | done | rfl) ?_
      refine (first_calls n hn sg an wd).mono ?_
      rintro e w4 ⟨rfl, hb⟩
      refine ⟨_, rfl, ?_⟩
      have HKE := Aside0.mk (HKD.out.below hb HKD.out.lt)
      have HCE := Aside0.mk (HCD.out.below hb HCD.out.lt)
      have HME := Aside0.mk (HMD.out.below hb)
      have HRE := Aside0.mk (Kd.R_below HRD.out hb)
      have HWE := Aside0.mk (HWD.out.trans (hb.mono HWD.out.size))
      clear HKD HCD HMD HRD HWD
      rw [HFM.out]
      have hcc : ∀ (p : Addr) v, wd.cell? p = some v → w4.cell? p = some v := fun p v hp => by rw [hb.cell (p := p) (World.block_lt_of_cell? _ _ hp)]; exact hp
      refine hK.out _ _ ⟨hcc _ _ hHeld.1, hcc _ _ hHeld.2.1, hcc _ _ hHeld.2.2.1, hcc _ _ hHeld.2.2.2.1, hcc _ _ hHeld.2.2.2.2.1, hcc _ _ hHeld.2.2.2.2.2.1, hcc _ _ hHeld.2.2.2.2.2.2.1, hcc _ _ hHeld.2.2.2.2.2.2.2.1, hcc _ _ hHeld.2.2.2.2.2.2.2.2.1, hcc _ _ hHeld.2.2.2.2.2.2.2.2.2⟩ (fun hHeld => ?_)
      clear hcc hK K hb
      simp only [stk]
      refine norm_ (a' := ?_) ?_ ?_
      rotate_left
      · show Act.put _ (some 14) _ = _
        simp only [Act.put, List.setIfInBounds_toArray, List.set_cons_zero, List.set_cons_succ]
        rfl
      refine pure_ (i := 3) (N := (some 15)) (v := ?_) (a' := ?_) #[true, true, true, true] rfl rfl (by kernel_rfl) (fun _ _ _ h => h) (Or.inl ⟨by rfl, ?_⟩) ?_ ?_
      rotate_left
      · intro w'
        go_simp
        with_reducible rfl
      rotate_left
      · simp only [Act.put, List.setIfInBounds_toArray, List.set_cons_zero, List.set_cons_succ]
        rfl
      refine done_ (by kernel_rfl) ?_
      clear heq hHeld
      go_wp2
      refine bodyPost_ret (results_tmp rfl _ _ _) rfl ⟨_, rfl, ?_, HWE.out⟩
      have h1 := HOR.out
      rw [ordF, if_pos HCF.out, List.append_nil] at h1
      rw [← h1]
      exact Kd.R_mono (Kd.R_lower HRE.out (by omega)) (fun _ _ => trivial)
    · rw [decide_eq_false hcf] at heq
      have HNE := Aside0.mk hcf
      clear hcf
      go_upto_region 3 with fail
      refine start_ (n := 4) (S := fun w' => w'.cell? ⟨w.heap.size + 1, 0, none⟩ = some (.int .i8 (cm 0)) ∧ w'.cell? ⟨w.heap.size + 1, 1, none⟩ = some (.int .i8 (cm 1)) ∧ w'.cell? ⟨w.heap.size + 1, 2, none⟩ = some (.int .i8 (cm 2)) ∧ w'.cell? ⟨w.heap.size + 1, 3, none⟩ = some (.int .i8 (cm 3)) ∧ w'.cell? ⟨w.heap.size + 1, 4, none⟩ = some (.int .i8 (cm 4)) ∧ w'.cell? ⟨w.heap.size + 1, 5, none⟩ = some (.int .i8 (cm 5)) ∧ w'.cell? ⟨w.heap.size + 1, 6, none⟩ = some (.int .i8 (cm 6)) ∧ w'.cell? ⟨w.heap.size, 0, none⟩ = some (.int .i64 (n : Int)) ∧ w'.cell? ⟨w.heap.size, 1, none⟩ = some (.bool sg) ∧ w'.cell? ⟨w.heap.size, 2, none⟩ = some (.bool an)) (ds := []) #[false, false, false, false] (by kernel_rfl) rfl rfl ⟨t0, t1, t2, t3, t4, t5, t6, k0, k1, k2⟩ (fun hHeld => ?_)
      have HKD := Aside0.mk (HKW.out.drew)
      have HCD := Aside0.mk (HCW.out.drew)
      have HMD := Aside0.mk (HMW.out.mapsTo (W' := wr.drew) rfl)
      have HRD := Aside0.mk (Kd.R_drew HRW.out)
      have HWD := Aside0.mk HWW.out.drew
      generalize wr.drew = wd at hHeld HKD HCD HMD HRD HWD ⊢
      clear t0 t1 t2 t3 t4 t5 t6 k0 k1 k2 HKW HCW HMW HRW HWW
      refine take_ (i := 0) (N := (some 12)) (v := ?_) (a' := ?_) #[true, false, false, false] rfl rfl (by kernel_rfl) (fun _ _ _ h => h) (Or.inl ⟨by rfl, ?_⟩) hHeld ?_ ?_
      rotate_left
      · rintro w' ⟨s0, s1, s2, s3, s4, s5, s6, s7, s8, s9⟩
        go_simp
        with_reducible rfl
      rotate_left
      · simp only [Act.put, List.setIfInBounds_toArray, List.set_cons_zero, List.set_cons_succ]
        rfl
      refine take_ (i := 1) (N := (some 13)) (v := ?_) (a' := ?_) #[true, true, false, false] rfl rfl (by kernel_rfl) (fun _ _ _ h => h) (Or.inl ⟨by rfl, ?_⟩) hHeld ?_ ?_
      rotate_left
      · rintro w' ⟨s0, s1, s2, s3, s4, s5, s6, s7, s8, s9⟩
        go_simp
        with_reducible rfl
      rotate_left
      · simp only [Act.put, List.setIfInBounds_toArray, List.set_cons_zero, List.set_cons_succ]
        rfl
      refine one_ (i := 2) (N := (some 14)) #[true, true, true, false] rfl rfl (by kernel_rfl) (by decide) (fun K hK => ?_)
      refine goes_ Try.func85 (by kernel_rfl) rfl #[.agg #[.int .i64 n, .bool sg, .bool an]] (by rfl) rfl rfl (by (try simp only [List.map_toArray, List.map_cons, List.map_nil]); first | done | rfl) ?_
      refine (first_calls n hn sg an wd).mono ?_
      rintro e w4 ⟨rfl, hb⟩
      refine ⟨_, rfl, ?_⟩
      have HKE := Aside0.mk (HKD.out.below hb HKD.out.lt)
      have HCE := Aside0.mk (HCD.out.below hb HCD.out.lt)
      have HME := Aside0.mk (HMD.out.below hb)
      have HRE := Aside0.mk (Kd.R_below HRD.out hb)
      have HWE := Aside0.mk (HWD.out.trans (hb.mono HWD.out.size))
      clear HKD HCD HMD HRD HWD
      rw [HFM.out]
      have hcc : ∀ (p : Addr) v, wd.cell? p = some v → w4.cell? p = some v := fun p v hp => by rw [hb.cell (p := p) (World.block_lt_of_cell? _ _ hp)]; exact hp
      refine hK.out _ _ ⟨hcc _ _ hHeld.1, hcc _ _ hHeld.2.1, hcc _ _ hHeld.2.2.1, hcc _ _ hHeld.2.2.2.1, hcc _ _ hHeld.2.2.2.2.1, hcc _ _ hHeld.2.2.2.2.2.1, hcc _ _ hHeld.2.2.2.2.2.2.1, hcc _ _ hHeld.2.2.2.2.2.2.2.1, hcc _ _ hHeld.2.2.2.2.2.2.2.2.1, hcc _ _ hHeld.2.2.2.2.2.2.2.2.2⟩ (fun hHeld => ?_)
      clear hcc hK K hb
      simp only [stk]
      refine norm_ (a' := ?_) ?_ ?_
      rotate_left
      · show Act.put _ (some 14) _ = _
        simp only [Act.put, List.setIfInBounds_toArray, List.set_cons_zero, List.set_cons_succ]
        rfl
      refine pure_ (i := 3) (N := (some 15)) (v := ?_) (a' := ?_) #[true, true, true, true] rfl rfl (by kernel_rfl) (fun _ _ _ h => h) (Or.inl ⟨by rfl, ?_⟩) ?_ ?_
      rotate_left
      · intro w'
        go_simp
        with_reducible rfl
      rotate_left
      · simp only [Act.put, List.setIfInBounds_toArray, List.set_cons_zero, List.set_cons_succ]
        rfl
      refine done_ (by kernel_rfl) ?_
      clear heq hHeld
      obtain ⟨⟨⟨e1, e2⟩, d⟩, he⟩ := Option.isSome_iff_exists.1 HMC.out
      rcases HF.out.by_ cur (e1, e2) d he with ⟨hcx, _⟩ | ⟨d', b', hd, hmem, hnext⟩
      · exact absurd hcx HNE.out
      have hmm := mem_mv hmem
      have HX := Aside0.mk (show e1 ≤ e2 ∧ e2 < 7 from ⟨hmm.1, by have := hmm.2.1; simp only at this; omega⟩)
      have HEN := Aside0.mk (show e2 < n from hmm.2.1)
      have HX2 := HBD
      have hl := HME.out.look HVC.out
      rw [he, HCM.out] at hl
      simp only [Option.getD_some, stepE] at hl
      unfold stk at hl
      have hfd := fun W => field115_0 (e1 : Int) (e2 : Int) (d : Int) W
      have HDD := Aside0.mk hd
      have HNX := Aside0.mk hnext
      have HE := Aside0.mk he
      have HSZ4 := Aside0.mk HCE.out.lt
      have HMS2 := Aside0.mk (show ms.length ≤ 170859375 by have := HLN.out; have := p15 hn; omega)
      obtain ⟨t0, t1, t2, t3, t4, t5, t6⟩ := stk_cells HCE.out
      clear he hmm hmem hd hnext
      go_wp2_with ((with_reducible refine gate_builtin (b := .append) (xs := #[.tmp 20, .tmp 22]) rfl ?_); at_builtin; refine stopper ?_)
      unfold Hold
      have hre := Kd.R_alloc HRE.out (Obj.cells #[Value.int .i64 (e1 : Int), Value.int .i64 (e2 : Int)] 105)
      rw [List.length_map] at hre
      have hs4 := HSZ4.out
      obtain ⟨WA, hWA⟩ : ∃ WA, w4.alloc (Obj.cells #[Value.int .i64 (e1 : Int), Value.int .i64 (e2 : Int)] 105) = WA := ⟨_, rfl⟩
      have hsA : WA.heap.size = w4.heap.size + 1 := by rw [← hWA]; simp
      rw [hWA] at hre ⊢
      rw [← hsA]
      refine Kd.R_append k57 (w0 := WA) (w.heap.size + 2) rfl (.tmp 20) (.tmp 22) 102 105 (.agg #[(.int .i64 0), (.int .i64 0)]) 16 rfl u102 info105 rfl (by decide) (by decide) _ (ms.map mk57) (mk57 (e1, e2)) [.int .i64 (e1 : Int), .int .i64 (e2 : Int)] (fun k => w.heap.size + 2 ≤ k) (fun _ => False) rfl rfl (k57_mkM _ _ _ (mk57 (e1, e2))) (fun _ h => h.elim) (fun k hk => by omega) hre (Below.refl _ _) (by omega) (by rw [List.length_map]; have := HMS2.out; omega) ?_
      intro v1 wy ho hb hg hat
      clear hre hsA
      subst hWA
      obtain ⟨A1, cc1, ev⟩ := Kd.R_slice ho
      subst ev
      have hown : ∀ k, (Value.slice A ms.length c).ownBlock = some k → w.heap.size + 2 ≤ k ∧ k < w4.heap.size := fun k hk => ⟨HOWN.out k (by rw [List.length_map]; exact hk), by
        have h := (Kd.R_bound HRE.out).1 k (by rw [List.length_map]; exact hk)
        exact h.2.2.1⟩
      have hba : Below w4.heap.size w4 (w4.alloc (Obj.cells #[Value.int .i64 (e1 : Int), Value.int .i64 (e2 : Int)] 105)) := (Below.refl _ _).alloc (Nat.le_refl _) _
      have hz : Blk wy w4.heap.size #[Value.int .i64 (e1 : Int), Value.int .i64 (e2 : Int)] 105 := (Blk.new w4 _ 105).grown hg (fun e => by have := hown _ e; omega)
      have HKW := Aside0.mk ((HKE.out.below hba HKE.out.lt).grown hg (fun e => by have := hown _ e; omega))
      have HCW := Aside0.mk ((HCE.out.below hba HCE.out.lt).grown hg (fun e => by have := hown _ e; omega))
      have hbm := HME.out.lt
      have HMW := Aside0.mk ((HME.out.below hba).mapsTo (W' := wy) (hg.block _ (by simp; omega) (fun e => by
        obtain ⟨D, ⟨es, clock, h1, _⟩, _⟩ := HME.out
        obtain ⟨q, _, cells, h2⟩ := ((Kd.R_bound HRE.out).1 bm (by rw [List.length_map]; exact e.symm)).2.2.2
        rw [h1] at h2
        cases h2)))
      have HWW := Aside0.mk ((HWE.out.trans (hba.mono HWE.out.size)).grown hg (by have := HWE.out.size; simp; omega) (fun k e => by have := hown k e; omega))
      have HRW := Aside0.mk ho
      have k1 := HKW.out.cell 1 (v := .bool sg) rfl
      have z0 := hz.cell 0 (v := .int .i64 (e1 : Int)) rfl
      have z1 := hz.cell 1 (v := .int .i64 (e2 : Int)) rfl
      obtain ⟨b7, hb7⟩ : ∃ b7, w4.heap.size = b7 := ⟨_, rfl⟩
      rw [hb7] at z0 z1
      clear ho hb hg hat hown hba hz hbm hl hfd t0 t1 t2 t3 t4 t5 t6 HKE HCE HME HRE HWE
      go_upto_region 6 with fail
      try rw [hb7]
      clear hb7
      refine start_ (n := 8) (S := fun w' => w'.cell? ⟨b7, 0, none⟩ = some (.int .i64 (e1 : Int)) ∧ w'.cell? ⟨b7, 1, none⟩ = some (.int .i64 (e2 : Int)) ∧ w'.cell? ⟨w.heap.size, 1, none⟩ = some (.bool sg)) (ds := [7]) #[false, false, false, false, false, false, false, false] (by kernel_rfl) rfl rfl ⟨z0, z1, k1⟩ (fun hHeld => ?_)
      have HKD := Aside0.mk (HKW.out.drew)
      have HCD := Aside0.mk (HCW.out.drew)
      have HMD := Aside0.mk (HMW.out.mapsTo (W' := wy.drew) rfl)
      have HRD := Aside0.mk (Kd.R_drew HRW.out)
      have HWD := Aside0.mk HWW.out.drew
      generalize wy.drew = wd at hHeld HKD HCD HMD HRD HWD ⊢
      clear z0 z1 k1 HKW HCW HMW HRW HWW
      refine pure_ (i := 0) (N := (some 24)) (v := ?_) (a' := ?_) #[true, false, false, false, false, false, false, false] rfl rfl (by kernel_rfl) (fun _ _ _ h => h) (Or.inl ⟨by rfl, ?_⟩) ?_ ?_
      rotate_left
      · intro w'
        go_simp
        with_reducible rfl
      rotate_left
      · simp only [Act.put, List.setIfInBounds_toArray, List.set_cons_zero, List.set_cons_succ]
        rfl
      refine pure_ (i := 1) (N := (some 25)) (v := ?_) (a' := ?_) #[true, true, false, false, false, false, false, false] rfl rfl (by kernel_rfl) (fun _ _ _ h => h) (Or.inl ⟨by rfl, ?_⟩) ?_ ?_
      rotate_left
      · intro w'
        go_simp
        with_reducible rfl
      rotate_left
      · simp only [Act.put, List.setIfInBounds_toArray, List.set_cons_zero, List.set_cons_succ]
        rfl
      refine take_ (i := 2) (N := (some 26)) (v := ?_) (a' := ?_) #[true, true, true, false, false, false, false, false] rfl rfl (by kernel_rfl) (fun _ _ _ h => h) (Or.inl ⟨by rfl, ?_⟩) hHeld ?_ ?_
      rotate_left
      · rintro w' ⟨s0, s1, s2⟩
        go_simp
        with_reducible rfl
      rotate_left
      · simp only [Act.put, List.setIfInBounds_toArray, List.set_cons_zero, List.set_cons_succ]
        rfl
      refine pure_ (i := 3) (N := (some 27)) (v := ?_) (a' := ?_) #[true, true, true, true, false, false, false, false] rfl rfl (by kernel_rfl) (fun _ _ _ h => h) (Or.inl ⟨by rfl, ?_⟩) ?_ ?_
      rotate_left
      · intro w'
        go_simp
        with_reducible rfl
      rotate_left
      · simp only [Act.put, List.setIfInBounds_toArray, List.set_cons_zero, List.set_cons_succ]
        rfl
      refine take_ (i := 4) (N := (some 28)) (v := ?_) (a' := ?_) #[true, true, true, true, true, false, false, false] rfl rfl (by kernel_rfl) (fun _ _ _ h => h) (Or.inl ⟨by rfl, ?_⟩) hHeld ?_ ?_
      rotate_left
      · rintro w' ⟨s0, s1, s2⟩
        go_simp
        with_reducible rfl
      rotate_left
      · simp only [Act.put, List.setIfInBounds_toArray, List.set_cons_zero, List.set_cons_succ]
        rfl
      refine pure_ (i := 5) (N := (some 29)) (v := ?_) (a' := ?_) #[true, true, true, true, true, true, false, false] rfl rfl (by kernel_rfl) (fun _ _ _ h => h) (Or.inl ⟨by rfl, ?_⟩) ?_ ?_
      rotate_left
      · intro w'
        go_simp
        with_reducible rfl
      rotate_left
      · simp only [Act.put, List.setIfInBounds_toArray, List.set_cons_zero, List.set_cons_succ]
        rfl
      refine take_ (i := 6) (N := (some 30)) (v := ?_) (a' := ?_) #[true, true, true, true, true, true, true, false] rfl rfl (by kernel_rfl) (fun _ _ _ h => h) (Or.inl ⟨by rfl, ?_⟩) hHeld ?_ ?_
      rotate_left
      · rintro w' ⟨s0, s1, s2⟩
        go_simp
        with_reducible rfl
      rotate_left
      · simp only [Act.put, List.setIfInBounds_toArray, List.set_cons_zero, List.set_cons_succ]
        rfl
      refine last_ (i := 7) (N := (some 31)) #[true, true, true, true, true, true, true, true] rfl rfl (by kernel_rfl) (by decide) (fun K hK => ?_)
      refine goes_ Try.func87 (by kernel_rfl) rfl #[.slice (some ⟨w.heap.size + 1, 0, none⟩) 7 7, .int .i64 (e1 : Int), .int .i64 (e2 : Int), .bool sg] (by rfl) rfl rfl (by (try simp only [List.map_toArray, List.map_cons, List.map_nil]); first | done | rfl) ?_
      refine (flipped8_calls (t := 92) (n := 7) sg (stk_row HCD.out) HX.out.1 (by have := HX.out.2; omega) (by omega) (by omega) HX2.out).mono ?_
      rintro e W5 ⟨rfl, cs5, hr5, _, hz5, ha5⟩
      have HCF := Aside0.mk (row_stk hr5 (by rw [hz5]; rfl))
      have HWF := Aside0.mk (Alone.below HWD.out ha5 (by omega))
      have HKF := Aside0.mk (show Blk W5 w.heap.size #[.int .i64 n, .bool sg, .bool an] 88 from (ha5.other _ (by omega)).trans HKD.out)
      have HMF := Aside0.mk (HMD.out.mapsTo (ha5.other _ (by have := HBM.out; omega)))
      have HRF := Aside0.mk (Kd.R_step HRD.out (fun k hk _ => ha5.other k (by omega)))
      clear HKD HCD HMD HRD HWD hr5 hz5 ha5
      refine ⟨_, rfl, ?_⟩
      refine hK.out _ _ ?_
      clear hK K hHeld
      refine norm_ (a' := ?_) ?_ ?_
      rotate_left
      · show Act.put _ (some 31) _ = _
        simp only [Act.put, List.setIfInBounds_toArray, List.set_cons_zero, List.set_cons_succ]
        rfl
      refine done_ (by kernel_rfl) ?_
      go_wp2
      go_roundw
      case rel => exact ⟨ms ++ [(e1, e2)], flL sg cur e1 e2, ⟨by
        have h1 := HRF.out
        rw [show (List.map mk57 ms ++ [mk57 (e1, e2)]).length = ms.length + 1 by simp] at h1
        rw [List.map_append]; exact h1⟩, ⟨vs_flL HVC.out sg e1 e2 HEN.out⟩, ⟨by rw [HNX.out]; rfl⟩, ⟨by
        have h1 := HOR.out
        rw [ordF, if_neg HNE.out, HE.out] at h1
        rw [← h1, List.append_assoc, HNX.out, HDD.out]
        rfl⟩, ⟨by
        have h1 := HLN.out
        rw [HE.out] at h1
        rw [HNX.out, List.length_append]
        have h2 := HDD.out
        simp only [Option.getD_some, List.length_cons, List.length_nil] at h1 ⊢
        omega⟩, HKF, ⟨by rw [nth_flL sg cur e1 e2 (by rw [HVC.out.1]; exact HEN.out), HCM.out]; exact HCF.out⟩, HMF, HWF⟩
      case measure =>
        have hc5 : Blk W5 (w.heap.size + 1) (stk (nth (flL sg cur e1 e2))) 92 := by rw [nth_flL sg cur e1 e2 (by rw [HVC.out.1]; exact HEN.out), HCM.out]; exact HCF.out
        rw [lst_dof hn (vs_flL HVC.out sg e1 e2 HEN.out) hc5, HLST.out, HNX.out, HE.out]
        have h2 := HDD.out
        simp only [Option.getD_some]
        omega
end Go.Proofs.Ytepjhdblmghckaa.G
/- The search in plain words: what it finds out. -/
namespace Go.Proofs.Ytepjhdblmghckaa.G
set_option linter.unusedVariables false
set_option linter.unusedSimpArgs false
set_option linter.unusedSectionVars false
open Go.Proofs.Ytepjhdblmghckaa.Q Go.Proofs.Ytepjhdblmghckaa.K Go.Proofs.Ytepjhdblmghckaa.Bf
structure Pl (n : Nat) (sg an : Bool) (to_ : List Int) (st : Sst) : Prop where
  rd : Rd (nextK n sg an) to_ (Vs n) (Sof st.1) st.2.1 st.2.2
  by_ : ByOk n sg an to_ st.1
  full : ∀ x, (Sof st.1 x).isSome = true → x ∈ st.2.2
  ql : st.2.1.length ≤ st.2.2.length
structure Pm (n : Nat) (sg an : Bool) (to_ : List Int) (s : List Int) (pre : List (Nat × Nat)) (c : Nat) (st : Sst) : Prop where
  rm : Rm (nextK n sg an) to_ (Vs n) (Sof st.1) s (pre.map (fun x => flL sg s x.1 x.2)) st.2.1 st.2.2
  by_ : ByOk n sg an to_ st.1
  full : ∀ x, (Sof st.1 x).isSome = true → x ∈ st.2.2
  ql : c + st.2.1.length = st.2.2.length
theorem Pm.step {n : Nat} {sg an : Bool} {to_ s : List Int} {pre : List (Nat × Nat)} {c : Nat} {st : Sst} (h : Pm n sg an to_ s pre c st) {x : Nat × Nat} (hx : x ∈ mvL n sg an) : Pm n sg an to_ s (pre ++ [x]) c (stp sg s st x) := by
  obtain ⟨M, q, L⟩ := st
  obtain ⟨ds, hds, hdl⟩ := h.rm.some_
  have hvs : Vs n s := h.rm.v s (by rw [hds]; rfl)
  have hmx := mem_mv hx
  obtain ⟨t, ht⟩ : ∃ t, flL sg s x.1 x.2 = t := ⟨_, rfl⟩
  have hvt : Vs n t := by rw [← ht]; exact vs_flL hvs sg x.1 x.2 hmx.2.1
  have hmem : t ∈ nextK n sg an s := by rw [← ht]; exact List.mem_map.2 ⟨x, hx, rfl⟩
  have hpre : (pre ++ [x]).map (fun x => flL sg s x.1 x.2) = pre.map (fun x => flL sg s x.1 x.2) ++ [t] := by rw [List.map_append, ← ht]; rfl
  have hrm := h.rm
  have hfu := h.full
  have hby := h.by_
  have hql := h.ql
  simp only at hrm hfu hby hql hds
  unfold stp
  rw [ht]
  by_cases hs : (M t).isSome = true
  · rw [if_pos hs]
    refine ⟨?_, hby, hfu, hql⟩
    rw [hpre]
    exact hrm.seen_ (by unfold Sof; rw [Option.isSome_map]; exact hs)
  · rw [if_neg hs]
    have hn : M t = none := by cases hm : M t with
      | none => rfl
      | some e => rw [hm] at hs; exact absurd rfl hs
    obtain ⟨bs, hMs⟩ : ∃ bs, M s = some (bs, ds) := by
      unfold Sof at hds
      cases hms : M s with
      | none => rw [hms] at hds; cases hds
      | some e => rw [hms] at hds; obtain ⟨e1, e2⟩ := e; cases hds; exact ⟨e1, rfl⟩
    have e : ((M s).getD zeroS).2 = ds := by rw [hMs]; rfl
    simp only [e]
    obtain ⟨hr2, _⟩ := hrm.new hds hmem hvt (Sof_none.2 hn)
    refine ⟨?_, ?_, fun y hy => ?_, ?_⟩
    · rw [hpre, Sof_put]; exact hr2
    · have := hby.put hvs.1 hx hMs (by rw [ht]; exact hn)
      rw [ht] at this
      exact this
    · simp only [Sof_put] at hy
      by_cases e : y = t
      · rw [e]; exact List.mem_cons_self ..
      · rw [Se.put_other _ _ e] at hy
        exact List.mem_cons_of_mem _ (hfu y hy)
    · simp only [List.length_append, List.length_cons, List.length_nil]
      omega
theorem Pm.fold {n : Nat} {sg an : Bool} {to_ s : List Int} {c : Nat} : ∀ (rest pre : List (Nat × Nat)) (st : Sst), (∀ x, x ∈ rest → x ∈ mvL n sg an) → Pm n sg an to_ s pre c st → Pm n sg an to_ s (pre ++ rest) c (rest.foldl (stp sg s) st)
  | [], pre, st, _, h => by simpa using h
  | x :: rest, pre, st, hm, h => by
    have := Pm.fold rest (pre ++ [x]) (stp sg s st x) (fun y hy => hm y (List.mem_cons_of_mem _ hy)) (h.step (hm x (by simp)))
    rw [List.append_assoc] at this
    exact this
theorem Pl.rnd {n : Nat} {sg an : Bool} {to_ s : List Int} {M : Km} {q L : List (List Int)} (h : Pl n sg an to_ (M, s :: q, L)) : Pl n sg an to_ (rnd n sg an (M, s :: q, L)) ∧ (rnd n sg an (M, s :: q, L)).2.2.length - (rnd n sg an (M, s :: q, L)).2.1.length = L.length - (s :: q).length + 1 := by
  have h0 := h.ql
  simp only [List.length_cons] at h0
  have h1 : Pm n sg an to_ s [] (L.length - q.length) (M, q, L) := ⟨h.rd.pop, h.by_, h.full, by show L.length - q.length + q.length = L.length; omega⟩
  have h2 := Pm.fold (mvL n sg an) [] _ (fun x hx => hx) h1
  rw [List.nil_append] at h2
  have e : G.rnd n sg an (M, s :: q, L) = (mvL n sg an).foldl (stp sg s) (M, q, L) := rfl
  rw [e]
  have h3 := h2.ql
  refine ⟨⟨Rm.finish h2.rm, h2.by_, h2.full, by omega⟩, ?_⟩
  simp only [List.length_cons]
  omega
theorem bfs_pl {n : Nat} {sg an : Bool} {to_ : List Int} {U : Option (List Int)} : ∀ (k : Nat) (st : Sst), Pl n sg an to_ st → Pl n sg an to_ (bfs n sg an U k st)
  | 0, st, h => h
  | k + 1, st, h => by
    rw [bfs]
    split
    · exact h
    · rename_i hs
      obtain ⟨M, q, L⟩ := st
      cases q with
      | nil => exact absurd rfl hs
      | cons s q => exact bfs_pl k _ h.rnd.1
theorem bfs_stops {n : Nat} {sg an : Bool} {to_ : List Int} {U : Option (List Int)} : ∀ (k : Nat) (st : Sst), Pl n sg an to_ st → 15 ^ n ≤ st.2.2.length - st.2.1.length + k → stops U (bfs n sg an U k st) = true
  | 0, st, h, hk => by
    obtain ⟨M, q, L⟩ := st
    have h1 := rd_count h.rd
    have h2 := h.ql
    simp only [bfs] at hk h1 h2 ⊢
    cases q with
    | nil => rfl
    | cons s q => simp only [List.length_cons] at hk h2; omega
  | k + 1, st, h, hk => by
    rw [bfs]
    split
    · assumption
    · rename_i hs
      obtain ⟨M, q, L⟩ := st
      cases q with
      | nil => exact absurd rfl hs
      | cons s q =>
        have h1 := h.rnd
        refine bfs_stops k _ h1.1 ?_
        rw [h1.2]
        simp only at hk
        omega
theorem Pl.begin {n : Nat} (sg an : Bool) {to_ : List Int} (hto : Vs n to_) : Pl n sg an to_ (ini to_) := by
  refine ⟨?_, ByOk.begin n sg an to_, fun x hx => ?_, Nat.le_refl _⟩
  · have h := Rd.begin (next := nextK n sg an) (V := Vs n) hto
    have e : Sof (ini to_).1 = (fun x => if x = to_ then some 0 else none) := by
      funext x
      show Sof (Km.put (fun _ => none) to_ zeroS) x = _
      unfold Sof Km.put
      by_cases h : x = to_ <;> simp [h, zeroS]
    rw [e]; exact h
  · change (Sof (Km.put (fun _ => none) to_ zeroS) x).isSome = true at hx
    unfold Sof Km.put at hx
    by_cases h : x = to_
    · rw [h]; simp [ini]
    · rw [if_neg h] at hx; cases hx
theorem bfs_fin {n : Nat} (sg an : Bool) {to_ : List Int} (hto : Vs n to_) (U : Option (List Int)) : FinS n sg an to_ U (bfs n sg an U (15 ^ n) (ini to_)).1 (bfs n sg an U (15 ^ n) (ini to_)).2.2 := by
  have h := bfs_pl (U := U) (15 ^ n) _ (Pl.begin sg an hto)
  have hst := bfs_stops (U := U) (15 ^ n) _ (Pl.begin sg an hto) (Nat.le_add_left _ _)
  obtain ⟨st, hstt⟩ : ∃ st, bfs n sg an U (15 ^ n) (ini to_) = st := ⟨_, rfl⟩
  have HT := hstt
  rw [hstt] at h hst ⊢
  obtain ⟨M, q, L⟩ := st
  simp only
  obtain ⟨A, B, d, hq, hs⟩ := h.rd.st
  refine ⟨h.by_, hs.exact, fun x e hx => h.rd.found hx (rd_count h.rd), ⟨q, HT⟩, fun x hx => h.rd.v x (by show (Sof M x).isSome = true; rw [sof_some]; exact hx), h.rd.nodup, fun x => ⟨fun hx => by rw [← sof_some]; exact h.rd.seen x hx, fun hx => h.full x (by show (Sof M x).isSome = true; rw [sof_some]; exact hx)⟩, ?_⟩
  cases q with
  | nil =>
    left
    have : A = [] ∧ B = [] := by simpa using hq.symm
    obtain ⟨rfl, rfl⟩ := this
    intro x hx j
    exact hs.never (Sof_none.2 hx) j
  | cons s r =>
    right
    refine ⟨s, by simpa [stops] using hst, ?_⟩
    obtain ⟨d, h1, _⟩ := h.rd.pop.some_
    rw [← sof_some]
    show (Sof M s).isSome = true
    have h1' : Sof M s = some d := h1
    rw [h1']; rfl
/-- What the moves of order do. -/
theorem ordF_ok {n : Nat} {sg an : Bool} {M : Km} (hby : ByOk n sg an (firstL n) M) : ∀ (d : Nat) (s : List Int) (b : Nat × Nat), M s = some (b, d) →
    (∀ x, x ∈ ordF M n sg d.succ s → x ∈ mvL n sg an) ∧ (ordF M n sg d.succ s).length ≤ d ∧ (ordF M n sg d.succ s).foldl (fun t x => flL sg t x.1 x.2) s = firstL n
  | d, s, b, h => by
    rw [ordF]
    by_cases hs : s = firstL n
    · rw [if_pos hs]
      exact ⟨fun x hx => (by cases hx), Nat.zero_le _, hs⟩
    · rw [if_neg hs, h]
      rcases hby s b d h with ⟨h1, _⟩ | ⟨d', b', hd, hm, hn⟩
      · exact absurd h1 hs
      · subst hd
        obtain ⟨i1, i2, i3⟩ := ordF_ok hby d' (flL sg s b.1 b.2) b' hn
        refine ⟨fun x hx => ?_, ?_, ?_⟩
        · rcases List.mem_cons.1 hx with rfl | hx
          · exact hm
          · exact i1 x hx
        · simp only [List.length_cons, Option.getD_some]
          exact Nat.succ_le_succ i2
        · simp only [List.foldl_cons, Option.getD_some]
          exact i3
  termination_by d => d
theorem ordF_len {n : Nat} {sg an : Bool} {M : Km} (hby : ByOk n sg an (firstL n) M) (hex : ∀ x e, Sof M x = some e → Exact (nextK n sg an) (firstL n) x e) : ∀ (d : Nat) (s : List Int) (b : Nat × Nat), M s = some (b, d) → (ordF M n sg d.succ s).length = d
  | d, s, b, h => by
    rw [ordF]
    by_cases hs : s = firstL n
    · rw [if_pos hs]
      have h1 := hex s d (by unfold Sof; rw [h]; rfl)
      have h2 : Exact (nextK n sg an) (firstL n) s 0 := ⟨by rw [hs]; simp [ball], fun j hj => by omega⟩
      rw [h1.unique h2]; rfl
    · rw [if_neg hs, h]
      rcases hby s b d h with ⟨h1, _⟩ | ⟨d', b', hd, hm, hn⟩
      · exact absurd h1 hs
      · subst hd
        have := ordF_len hby hex d' (flL sg s b.1 b.2) b' hn
        simp only [List.length_cons, Option.getD_some]
        exact congrArg Nat.succ this
  termination_by d => d
theorem ord_ok (n : Nat) (hn : n ≤ 7) (sg an : Bool) (s : List Int) (hs : Vs n s) (hk : ((knownOf n sg an s) s).isSome = true) : (ordL n sg an s).length ≤ 1000000000 ∧ ∀ x, x ∈ ordL n sg an s → x.2 < 7 := by
  have hF := bfs_fin sg an (vs_firstL hn) (some s)
  obtain ⟨⟨b, d⟩, he⟩ := Option.isSome_iff_exists.1 hk
  have h1 := ordF_ok hF.by_ d s b he
  have h2 := hF.found s d (by unfold Sof; rw [show (bfs n sg an (some s) (15 ^ n) (ini (firstL n))).1 s = some (b, d) from he]; rfl)
  have h3 := least_lt' (nextK n sg an) (firstL n) s (15 ^ n)
  have h4 := p15 hn
  have e : ordL n sg an s = ordF (knownOf n sg an s) n sg d.succ s := by unfold ordL; rw [he]; rfl
  rw [e]
  refine ⟨?_, fun x hx => ?_⟩
  · have := h1.2.1
    show (ordF (bfs n sg an (some s) (15 ^ n) (ini (firstL n))).1 n sg d.succ s).length ≤ _
    omega
  · have := (mem_mv (h1.1 x hx)).2.1
    omega
end Go.Proofs.Ytepjhdblmghckaa.G
/- Order, OrderBurnt: their contracts; what is wrong with one stack. -/
namespace Go.Proofs.Ytepjhdblmghckaa.G
set_option linter.unusedVariables false
set_option linter.unusedSimpArgs false
set_option linter.unusedSectionVars false
open Go.Proofs.Ytepjhdblmghckaa.Q Go.Proofs.Ytepjhdblmghckaa.K Go.Proofs.Ytepjhdblmghckaa.Bf
open Go.RowKit Go.Shelf Go.Proofs.YtepjhdblmghckaaW.PrintWords Go.Proofs.YtepjhdblmghckaaW.PrintLast Go.Proofs.YtepjhdblmghckaaW.PrintMore
/-- What is wrong with a stack. -/
def chk1 (sg : Bool) (most : Int) (l0 : List Int) : Int := if isSt sg most l0 = true then 0 else 70
theorem chk1_f (sg : Bool) (most : Int) (hm : most ≤ 40) (l0 : List Int) : pancake_check.f 2 sg most [l0] = some (chk1 sg most l0) := by
  unfold pancake_check.f chk1
  have w1 : wrap64 (0 + 1) = 1 := w64 (by decide) (by decide)
  simp only [pancake_check.l0, List.length_cons, List.length_nil, rd_L1, pancake_isStack.f, if_pos hm, Option.bind_some, w1]
  by_cases h0 : isSt sg most l0 = true <;> simp [h0]
theorem one_row {W : World} {b t : Nat} {A0 : Option Addr} {c0 : Nat} {l0 : List Int} (h : Blk W b #[.slice A0 l0.length c0] t) (h0 : Kd.C (Kd.int .i64) W A0 l0.length l0) (hc0 : l0.length ≤ c0) :
    Kd.C (Kd.slice 3 (Kd.int .i64)) W (some ⟨b, 0, none⟩) [l0].length [l0] := by
  refine ⟨rfl, by simp, fun _ => ⟨_, rfl, fun j p hj => ?_⟩⟩
  match j, hj with
  | 0, hj =>
    cases hj
    refine ⟨[.slice A0 l0.length c0], rfl, ⟨A0, c0, rfl, hc0, h0⟩, fun i u hu => ?_⟩
    match i, hu with
    | 0, hu => cases hu; exact h.cell 0 rfl
    | i + 1, hu => simp at hu
  | j + 1, hj => simp at hj

set_option maxHeartbeats 4000000 in
theorem check58_one (A0 : Option Addr) (c0 : Nat) (l0 : List Int) (w : World) (hr0 : Kd.C (Kd.int .i64) w A0 l0.length l0) (hc0 : l0.length ≤ c0) :
    Calls Try.prog 58 #[.slice A0 l0.length c0] w fun e w' => e = .returned (.int .i64 (chk1 false 7 l0)) ∧ Below w.heap.size w w' := by
  obtain ⟨W0, hW0⟩ : ∃ W0, w.alloc (.cells #[.slice A0 l0.length c0] 22) = W0 := ⟨_, rfl⟩
  have hB : Below w.heap.size w W0 := by rw [← hW0]; exact (Below.refl _ w).alloc (Nat.le_refl _) _
  have hk : Blk W0 w.heap.size #[.slice A0 l0.length c0] 22 := by rw [← hW0]; exact Blk.new _ _ _
  have HC := Aside0.mk (pancake_check.calls 2 false 7 (some ⟨w.heap.size, 0, none⟩) 1 [l0] (chk1 false 7 l0) W0 (one_row hk (Kd.C_below hr0 hB) hc0) (Nat.le_refl _) (chk1_f false 7 (by decide) l0))
  have HB := Aside0.mk hB
  clear hB hk hr0
  go_enter Try.func58, Try.ntmps58
  go_wp2_with (go_at_call 68; refine HC.out.mono ?_; rintro e w1 ⟨rfl, hb⟩; have HB1 := Aside0.mk (HB.out.trans (hb.mono HB.out.size)); clear hb)
  go_ret
  exact ⟨rfl, HB1.out⟩

set_option maxHeartbeats 4000000 in
theorem check59_one (A0 : Option Addr) (c0 : Nat) (l0 : List Int) (w : World) (hr0 : Kd.C (Kd.int .i64) w A0 l0.length l0) (hc0 : l0.length ≤ c0) :
    Calls Try.prog 59 #[.slice A0 l0.length c0] w fun e w' => e = .returned (.int .i64 (chk1 true 6 l0)) ∧ Below w.heap.size w w' := by
  obtain ⟨W0, hW0⟩ : ∃ W0, w.alloc (.cells #[.slice A0 l0.length c0] 22) = W0 := ⟨_, rfl⟩
  have hB : Below w.heap.size w W0 := by rw [← hW0]; exact (Below.refl _ w).alloc (Nat.le_refl _) _
  have hk : Blk W0 w.heap.size #[.slice A0 l0.length c0] 22 := by rw [← hW0]; exact Blk.new _ _ _
  have HC := Aside0.mk (pancake_check.calls 2 true 6 (some ⟨w.heap.size, 0, none⟩) 1 [l0] (chk1 true 6 l0) W0 (one_row hk (Kd.C_below hr0 hB) hc0) (Nat.le_refl _) (chk1_f true 6 (by decide) l0))
  have HB := Aside0.mk hB
  clear hB hk hr0
  go_enter Try.func59, Try.ntmps59
  go_wp2_with (go_at_call 68; refine HC.out.mono ?_; rintro e w1 ⟨rfl, hb⟩; have HB1 := Aside0.mk (HB.out.trans (hb.mono HB.out.size)); clear hb)
  go_ret
  exact ⟨rfl, HB1.out⟩

theorem take_map_57 (ms : List S57) (k : Nat) (h : k < ms.length) : (ms.take k).map (fun x => x.f1 + 1) ++ [(rd_T57 ms (k : Int)).f1 + 1] = (ms.take (k + 1)).map (fun x => x.f1 + 1) := by
  rw [List.take_succ_eq_append_getElem h, List.map_append]
  congr 2
  simp [rd_T57, h]
set_option maxHeartbeats 4000000 in
theorem tops_calls (A : Option Addr) (c : Nat) (ms : List S57) (w : World) (hr : Kd.C k57 w A ms.length ms) (hl : ms.length ≤ 1000000000) (hb : ∀ x, x ∈ ms → 0 ≤ x.f1 ∧ x.f1 ≤ 7) :
    Calls Try.prog 76 #[.slice A ms.length c] w fun e w' => ∃ v, e = .returned v ∧ Kd.R (Kd.int .i64) 3 w' w.heap.size (fun _ => True) v (ms.map (fun x => x.f1 + 1)) ∧ Below w.heap.size w w' := by
  have HR := Aside0.mk hr
  have HBD := Aside0.mk hb
  obtain ⟨N, hN⟩ : ∃ N, ms.length = N := ⟨_, rfl⟩
  have HN := Aside0.mk hN
  rw [hN] at hl ⊢
  clear hr hb hN
  go_enter Try.func76, Try.ntmps76
  go_wp2
  go_loopw [3, 8] (fun o i wr => ∃ k : Nat, k ≤ N ∧ i = .int .i64 (k : Int) ∧ Aside0 (Kd.R (Kd.int .i64) 3 wr w.heap.size (fun _ => True) o ((ms.take k).map (fun x => x.f1 + 1))) ∧ Aside0 (Below w.heap.size w wr)) (fun _ i _ => N - (intOf i).toNat)
  case atStart => exact ⟨0, Nat.zero_le _, rfl, ⟨Kd.R_nil _ _ _ _ _⟩, ⟨Below.refl _ _⟩⟩
  case round =>
    obtain ⟨k, hk, rfl, HO, HW⟩ := hrel
    by_cases hlt : k < N
    · have hi0 : (0 : Int) ≤ (k : Int) := by omega
      have hi1 : (k : Int) < (N : Int) := by omega
      obtain ⟨ad, e, hc0, hc1⟩ := at_T57 (Kd.C_below HR.out HW.out) (k : Int) hi0 (by rw [HN.out]; exact hi1)
      subst e
      rw [Int.toNat_natCast] at hc0 hc1
      have hbx := HBD.out (rd_T57 ms (k : Int)) (by
        unfold rd_T57
        rw [Int.toNat_natCast, List.getD_eq_getElem?_getD, List.getElem?_eq_getElem (by rw [HN.out]; exact hlt)]
        exact List.getElem_mem _)
      have HT := Aside0.mk (take_map_57 ms k (by rw [HN.out]; exact hlt))
      obtain ⟨x0, hx0⟩ : ∃ x0, (rd_T57 ms (k : Int)).f0 = x0 := ⟨_, rfl⟩
      obtain ⟨x1, hx1⟩ : ∃ x1, (rd_T57 ms (k : Int)).f1 = x1 := ⟨_, rfl⟩
      rw [hx0] at hc0
      rw [hx1] at hc1 hbx HT
      have hwx : IntKind.i64.wrap (x1 + 1) = x1 + 1 := iw64 (by omega) (by omega)
      have hwt : IntKind.i64.wrap ((k : Int) + 1) = ((k + 1 : Nat) : Int) := by rw [iw64 (by omega) (by omega)]; omega
      have HSW := Aside0.mk HW.out.size
      obtain ⟨xs, hxs⟩ : ∃ xs, (ms.take k).map (fun x => x.f1 + 1) = xs := ⟨_, rfl⟩
      have hxl : xs.length = k := by rw [← hxs, List.length_map, List.length_take]; have := HN.out; omega
      rw [hxs] at HO HT
      have HXL := Aside0.mk hxl
      clear hx0 hx1 hbx hxs hxl
      go_wp2_with ((with_reducible refine gate_builtin (b := .append) (xs := #[.tmp 12, .tmp 16]) rfl ?_); at_builtin; refine stopper ?_)
      unfold Hold
      obtain ⟨WA, hWA⟩ : ∃ WA, wr.alloc (Obj.cells #[Value.int .i64 x0, Value.int .i64 x1] 105) = WA := ⟨_, rfl⟩
      have hsA : WA.heap.size = wr.heap.size + 1 := by rw [← hWA]; simp
      have hro : Kd.R (Kd.int .i64) 3 WA w.heap.size (fun _ => True) u3 xs := by rw [← hWA]; exact Kd.R_alloc HO.out _
      have hwo : Below w.heap.size w WA := by rw [← hWA]; exact HW.out.alloc HSW.out _
      rw [hWA, ← hsA]
      have HWO := Aside0.mk hwo
      refine Kd.R_append (Kd.int .i64) (w0 := w) w.heap.size rfl (.tmp 12) (.tmp 16) 22 3 (.int .i64 0) 8 rfl Try.underlying22 info3 rfl (by decide) (by decide) u3 xs (x1 + 1) [.int .i64 (x1 + 1)] (fun _ => True) (fun k => some k ≠ u3.ownBlock) rfl rfl rfl (fun k h => ⟨trivial, h⟩) (fun k hk => trivial) hro hwo (by have := HWO.out.size; omega) (by have := HXL.out; omega) ?_
      intro v1 wy ho hb hg hat
      rw [HT.out] at ho
      have HO' := Aside0.mk ho
      have HW' := Aside0.mk hb
      clear ho hb hg hat hro hwo hsA hWA HWO
      go_wp2
      go_roundw
      case rel => exact ⟨k + 1, by omega, rfl, HO', HW'⟩
      case measure => simp [intOf]; omega
    · have hi1 : ¬ (k : Int) < (N : Int) := by omega
      have HKN := Aside0.mk (show k = N by omega)
      go_wp2
      go_ret
      refine ⟨_, rfl, ?_, HW.out⟩
      have h1 := HO.out
      rw [List.take_of_length_le (by have := HN.out; have := HKN.out; omega)] at h1
      exact h1

def pancake_Order.f (l0 : List Int) : Option (List Int × Int) := if isSt false 7 l0 = true then (if ((knownOf l0.length false false l0) l0).isSome = true then some ((ordL l0.length false false l0).map (fun x => ((x.2 : Int) + 1)), 0) else none) else some ([], 70)
set_option maxRecDepth 100000 in
set_option maxHeartbeats 4000000 in
theorem pancake_Order.calls (A0 : Option Addr) (c0 : Nat) (l0 : List Int) (r1 : List Int) (r2 : Int) (w : World) (hr0 : Kd.C (Kd.int .i64) w A0 l0.length l0) (hc0 : l0.length ≤ c0) (h : pancake_Order.f l0 = some (r1, r2)) :
    Calls Try.prog 47 #[.slice A0 l0.length c0] w fun e w' => ∃ v0_ : Value, e = .returned (.tuple #[v0_, .int .i64 r2]) ∧ Kd.R (Kd.int .i64) 3 w' w.heap.size (fun _ => True) v0_ r1 ∧ Below w.heap.size w w' := by
  have HC := Aside0.mk (check58_one A0 c0 l0 w hr0 hc0)
  have HR0 := Aside0.mk hr0
  clear hr0
  unfold pancake_Order.f at h
  unfold chk1 at HC
  go_enter Try.func47, Try.ntmps47
  by_cases hst : isSt false 7 l0 = true
  · rw [if_pos hst] at h HC
    have v0 := isSt_vs hst (by decide)
    have hn : l0.length ≤ 7 := by have := (isSt_len hst).2; omega
    have HV := Aside0.mk v0
    clear hst v0
    by_cases hk : ((knownOf l0.length false false l0) l0).isSome = true
    · rw [if_pos hk] at h
      cases h
      have HKS := Aside0.mk hk
      clear hk
      go_wp2_with (go_at_call 58; refine stopper ?_)
      unfold Hold
      refine HC.out.mono ?_
      rintro e w1 ⟨rfl, hb⟩
      have HB1 := Aside0.mk hb
      clear hb
      go_wp2_with (go_at_call 70; refine stopper ?_)
      unfold Hold
      refine (packed_calls A0 c0 l0 _ l0.length hn HV.out (Kd.C_below HR0.out HB1.out)).mono ?_
      rintro e w2 ⟨rfl, hb⟩
      have HB2 := Aside0.mk (HB1.out.trans (hb.mono HB1.out.size))
      clear hb
      go_wp2_with (go_at_call 77; refine stopper ?_)
      unfold Hold
      refine (order_calls l0.length hn false false l0 HV.out HKS.out w2).mono ?_
      rintro e w3 ⟨v3, rfl, hv3, hb⟩
      have HB3 := Aside0.mk (HB2.out.trans (hb.mono HB2.out.size))
      obtain ⟨A3, c3, ev⟩ := Kd.R_slice hv3
      subst ev
      have HC3 := Aside0.mk (Kd.R_reads' hv3).2.2
      obtain ⟨os, hos⟩ : ∃ os, (ordL l0.length false false l0).map mk57 = os := ⟨_, rfl⟩
      rw [hos] at HC3 ⊢
      have HOS := Aside0.mk hos
      have HOL := Aside0.mk (ord_ok l0.length hn false false l0 HV.out HKS.out)
      clear hb hv3 hos
      go_wp2_with (go_at_call 76; refine stopper ?_)
      unfold Hold
      refine (tops_calls A3 c3 os w3 HC3.out (by rw [← HOS.out, List.length_map]; exact HOL.out.1) (fun x hx => by
        rw [← HOS.out] at hx
        obtain ⟨y, hy, rfl⟩ := List.mem_map.1 hx
        have := HOL.out.2 y hy
        simp only [mk57]
        omega)).mono ?_
      rintro e w4 ⟨v4, rfl, hv4, hb⟩
      have HB4 := Aside0.mk (HB3.out.trans (hb.mono HB3.out.size))
      have HV4 := Aside0.mk (Kd.R_lower hv4 HB3.out.size)
      clear hb hv4
      go_wp2
      refine bodyPost_ret (results_tmp2 rfl _ _ _) rfl ⟨v4, rfl, ?_, HB4.out⟩
      have h1 := HV4.out
      rw [← HOS.out, List.map_map] at h1
      exact h1
    · rw [if_neg hk] at h
      cases h
  · rw [if_neg hst] at h HC
    cases h
    clear hst
    go_wp2_with (go_at_call 58; refine stopper ?_)
    unfold Hold
    refine HC.out.mono ?_
    rintro e w1 ⟨rfl, hb⟩
    have HB1 := Aside0.mk hb
    clear hb
    go_wp2
    refine bodyPost_ret (results_tmp2 rfl _ _ _) rfl ⟨_, rfl, Kd.R_nil _ _ _ _ _, HB1.out⟩

def pancake_OrderBurnt.f (l0 : List Int) : Option (List Int × Int) := if isSt true 6 l0 = true then (if ((knownOf l0.length true false l0) l0).isSome = true then some ((ordL l0.length true false l0).map (fun x => ((x.2 : Int) + 1)), 0) else none) else some ([], 70)
set_option maxRecDepth 100000 in
set_option maxHeartbeats 4000000 in
theorem pancake_OrderBurnt.calls (A0 : Option Addr) (c0 : Nat) (l0 : List Int) (r1 : List Int) (r2 : Int) (w : World) (hr0 : Kd.C (Kd.int .i64) w A0 l0.length l0) (hc0 : l0.length ≤ c0) (h : pancake_OrderBurnt.f l0 = some (r1, r2)) :
    Calls Try.prog 53 #[.slice A0 l0.length c0] w fun e w' => ∃ v0_ : Value, e = .returned (.tuple #[v0_, .int .i64 r2]) ∧ Kd.R (Kd.int .i64) 3 w' w.heap.size (fun _ => True) v0_ r1 ∧ Below w.heap.size w w' := by
  have HC := Aside0.mk (check59_one A0 c0 l0 w hr0 hc0)
  have HR0 := Aside0.mk hr0
  clear hr0
  unfold pancake_OrderBurnt.f at h
  unfold chk1 at HC
  go_enter Try.func53, Try.ntmps53
  by_cases hst : isSt true 6 l0 = true
  · rw [if_pos hst] at h HC
    have v0 := isSt_vs hst (by decide)
    have hn : l0.length ≤ 7 := by have := (isSt_len hst).2; omega
    have HV := Aside0.mk v0
    clear hst v0
    by_cases hk : ((knownOf l0.length true false l0) l0).isSome = true
    · rw [if_pos hk] at h
      cases h
      have HKS := Aside0.mk hk
      clear hk
      go_wp2_with (go_at_call 59; refine stopper ?_)
      unfold Hold
      refine HC.out.mono ?_
      rintro e w1 ⟨rfl, hb⟩
      have HB1 := Aside0.mk hb
      clear hb
      go_wp2_with (go_at_call 70; refine stopper ?_)
      unfold Hold
      refine (packed_calls A0 c0 l0 _ l0.length hn HV.out (Kd.C_below HR0.out HB1.out)).mono ?_
      rintro e w2 ⟨rfl, hb⟩
      have HB2 := Aside0.mk (HB1.out.trans (hb.mono HB1.out.size))
      clear hb
      go_wp2_with (go_at_call 77; refine stopper ?_)
      unfold Hold
      refine (order_calls l0.length hn true false l0 HV.out HKS.out w2).mono ?_
      rintro e w3 ⟨v3, rfl, hv3, hb⟩
      have HB3 := Aside0.mk (HB2.out.trans (hb.mono HB2.out.size))
      obtain ⟨A3, c3, ev⟩ := Kd.R_slice hv3
      subst ev
      have HC3 := Aside0.mk (Kd.R_reads' hv3).2.2
      obtain ⟨os, hos⟩ : ∃ os, (ordL l0.length true false l0).map mk57 = os := ⟨_, rfl⟩
      rw [hos] at HC3 ⊢
      have HOS := Aside0.mk hos
      have HOL := Aside0.mk (ord_ok l0.length hn true false l0 HV.out HKS.out)
      clear hb hv3 hos
      go_wp2_with (go_at_call 76; refine stopper ?_)
      unfold Hold
      refine (tops_calls A3 c3 os w3 HC3.out (by rw [← HOS.out, List.length_map]; exact HOL.out.1) (fun x hx => by
        rw [← HOS.out] at hx
        obtain ⟨y, hy, rfl⟩ := List.mem_map.1 hx
        have := HOL.out.2 y hy
        simp only [mk57]
        omega)).mono ?_
      rintro e w4 ⟨v4, rfl, hv4, hb⟩
      have HB4 := Aside0.mk (HB3.out.trans (hb.mono HB3.out.size))
      have HV4 := Aside0.mk (Kd.R_lower hv4 HB3.out.size)
      clear hb hv4
      go_wp2
      refine bodyPost_ret (results_tmp2 rfl _ _ _) rfl ⟨v4, rfl, ?_, HB4.out⟩
      have h1 := HV4.out
      rw [← HOS.out, List.map_map] at h1
      exact h1
    · rw [if_neg hk] at h
      cases h
  · rw [if_neg hst] at h HC
    cases h
    clear hst
    go_wp2_with (go_at_call 59; refine stopper ?_)
    unfold Hold
    refine HC.out.mono ?_
    rintro e w1 ⟨rfl, hb⟩
    have HB1 := Aside0.mk hb
    clear hb
    go_wp2
    refine bodyPost_ret (results_tmp2 rfl _ _ _) rfl ⟨_, rfl, Kd.R_nil _ _ _ _ _, HB1.out⟩
end Go.Proofs.Ytepjhdblmghckaa.G
/- A stack after a flip, a row after a turn: their contracts. -/
namespace Go.Proofs.Ytepjhdblmghckaa.G
set_option linter.unusedVariables false
set_option linter.unusedSimpArgs false
set_option linter.unusedSectionVars false
open Go.Proofs.Ytepjhdblmghckaa.Q Go.Proofs.Ytepjhdblmghckaa.K Go.Proofs.Ytepjhdblmghckaa.Bf
open Go.RowKit Go.Shelf Go.Proofs.YtepjhdblmghckaaW.PrintWords Go.Proofs.YtepjhdblmghckaaW.PrintLast Go.Proofs.YtepjhdblmghckaaW.PrintMore
theorem nth_mem {l : List Int} {B : Int} (hB : 0 ≤ B) (h : ∀ x, x ∈ l → -B ≤ x ∧ x ≤ B) (p : Nat) : -B ≤ nth l p ∧ nth l p ≤ B := by
  by_cases hp : p < l.length
  · have := h (l.getD p 0) (by rw [List.getD_eq_getElem?_getD, List.getElem?_eq_getElem hp]; exact List.getElem_mem hp)
    unfold nth
    exact this
  · rw [nth_end _ _ (by omega)]; omega
theorem flippedR_calls {W : World} {base : Nat} {ok : Nat → Prop} {v : Value} {l : List Int} (sg : Bool) (h : Kd.R (Kd.int .i64) 3 W base ok v l) (i k : Nat) (hik : i ≤ k) (hk : k < l.length) (hn : l.length ≤ 1000) (hm : ∀ x, x ∈ l → -100 ≤ x ∧ x ≤ 100) :
    Calls Try.prog 75 #[v, .int .i64 (i : Int), .int .i64 (k : Int), .bool sg] W fun e w' => e = .returned (.tuple #[]) ∧ Kd.R (Kd.int .i64) 3 w' base ok v (flL sg l i k) ∧ Below base W w' := by
  have ho := Kd.own_of_R h
  rcases ho.2 with ⟨_, h0⟩ | ⟨g, cap, cur, rfl, hb, hh, hnc, hcm, hsz, htake⟩
  · omega
  · have hrow : Row .i64 W g 3 l.length cur (nth l) := by
      refine ⟨hh, by omega, fun p hp => ?_⟩
      have h1 := congrArg (fun z => z[p]?) htake
      simp only [Nat.mul_one] at h1
      rw [List.getElem?_take, if_pos hp] at h1
      rw [← Array.getElem?_toList, h1]
      unfold encs
      rw [List.getElem?_map, List.getElem?_eq_getElem hp]
      simp [nth, hp]
    refine (flipped64_calls (c := cap) sg hrow hik hk (by omega) hnc (fun p => nth_mem (by decide) hm p)).mono ?_
    rintro e w' ⟨rfl, cs', hr', _, hz', ha⟩
    refine ⟨rfl, ?_, ⟨ha.os, ha.tape, ha.output, by rw [ha.size]; exact Nat.le_refl _, fun j hj => ha.other j (by omega)⟩⟩
    have hl : (flL sg l i k).length = l.length := flL_len sg l i k
    have hown : w'.ownsRow base 3 1 (.slice (some ⟨g, 0, none⟩) l.length cap) (flL sg l i k).length (encs (Value.int .i64) (flL sg l i k)) := by
      rw [hl]
      refine ⟨by simp [encs, hl], .inr ⟨g, cap, cs', rfl, hb, hr'.blk, hnc, hcm, by rw [hz', hsz], ?_⟩⟩
      apply List.ext_getElem?
      intro p
      rw [Nat.mul_one, List.getElem?_take]
      by_cases hp : p < l.length
      · rw [if_pos hp, Array.getElem?_toList, hr'.val p hp]
        unfold encs
        rw [List.getElem?_map, List.getElem?_eq_getElem (by rw [hl]; exact hp), Option.map_some]
        congr 2
        rw [← nth_flL sg l i k hk]
        simp [nth, hl, hp]
      · rw [if_neg hp, List.getElem?_eq_none (by simp [encs, hl]; omega)]
    exact Kd.R_of_own hown h.1
def small (l : List Int) : Bool := decide (0 < l.length) && decide (l.length ≤ 40) && l.all (fun x => decide (-100 ≤ x) && decide (x ≤ 100))
theorem small_ok {l : List Int} (h : small l = true) : 0 < l.length ∧ l.length ≤ 40 ∧ ∀ x, x ∈ l → -100 ≤ x ∧ x ≤ 100 := by
  unfold small at h
  simp only [Bool.and_eq_true, decide_eq_true_eq, List.all_eq_true] at h
  exact ⟨h.1.1, h.1.2, h.2⟩
def pancake_topFlipped.f (l : List Int) (k : Int) (sg : Bool) : Option (List Int × Int) := if small l = true then some (if k < 1 ∨ (l.length : Int) < k then ([], 1) else (flL sg l 0 (k.toNat - 1), 0)) else none
set_option maxRecDepth 100000 in
set_option maxHeartbeats 4000000 in
theorem pancake_topFlipped.calls (A0 : Option Addr) (c0 : Nat) (l0 : List Int) (a1 : Int) (a2 : Bool) (r1 : List Int) (r2 : Int) (w : World) (hr0 : Kd.C (Kd.int .i64) w A0 l0.length l0) (hc0 : l0.length ≤ c0) (h : pancake_topFlipped.f l0 a1 a2 = some (r1, r2)) :
    Calls Try.prog 71 #[.slice A0 l0.length c0, .int .i64 a1, .bool a2] w fun e w' => ∃ v0_ : Value, e = .returned (.tuple #[v0_, .int .i64 r2]) ∧ Kd.R (Kd.int .i64) 3 w' w.heap.size (fun _ => True) v0_ r1 ∧ Below w.heap.size w w' := by
  unfold pancake_topFlipped.f at h
  split at h
  · rename_i hs
    obtain ⟨hs1, hs2, hs3⟩ := small_ok hs
    have HC := Aside0.mk (slices_Clone_int_int.calls A0 c0 l0 l0 w hr0 hc0 (by unfold slices_Clone_int_int.f; rw [if_pos ⟨hs1, by omega⟩]))
    have HS := Aside0.mk hs3
    clear hs hs3 hr0
    by_cases h1 : a1 < 1
    · rw [if_pos (.inl h1)] at h
      cases h
      go_enter Try.func71, Try.ntmps71
      go_wp2
      refine bodyPost_ret (results_tmp2 rfl _ _ _) rfl ⟨_, rfl, Kd.R_nil _ _ _ _ _, Below.refl _ _⟩
    · by_cases h2 : (l0.length : Int) < a1
      · rw [if_pos (.inr h2)] at h
        cases h
        go_enter Try.func71, Try.ntmps71
        go_wp2
        refine bodyPost_ret (results_tmp2 rfl _ _ _) rfl ⟨_, rfl, Kd.R_nil _ _ _ _ _, Below.refl _ _⟩
      · rw [if_neg (by rintro (h | h) <;> omega)] at h
        cases h
        obtain ⟨q, hq⟩ : ∃ q : Nat, a1 = ((q + 1 : Nat) : Int) := ⟨(a1 - 1).toNat, by omega⟩
        subst hq
        have hw1 : IntKind.i64.wrap (((q + 1 : Nat) : Int) - 1) = (q : Int) := by rw [iw64 (by omega) (by omega)]; omega
        have e1 : ((q + 1 : Nat) : Int).toNat - 1 = q := by omega
        rw [e1]
        have hql : q < l0.length := by omega
        go_enter Try.func71, Try.ntmps71
        go_wp2_with (go_at_call 74; refine stopper ?_)
        unfold Hold
        refine HC.out.mono ?_
        rintro e w1 ⟨v1, rfl, hv1, hb1⟩
        have HF := Aside0.mk (flippedR_calls a2 hv1 0 q (Nat.zero_le _) hql (by omega) HS.out)
        have HB1 := Aside0.mk hb1
        clear hv1 hb1
        go_wp2_with (go_at_call 75; refine stopper ?_)
        unfold Hold
        refine HF.out.mono ?_
        rintro e w2 ⟨rfl, hv2, hb2⟩
        have HV2 := Aside0.mk hv2
        have HB2 := Aside0.mk (HB1.out.trans hb2)
        clear hv2 hb2
        go_wp2
        refine bodyPost_ret (results_tmp2 rfl _ _ _) rfl ⟨_, rfl, HV2.out, HB2.out⟩
  · cases h
set_option maxHeartbeats 4000000 in
theorem check55_one (A0 : Option Addr) (c0 : Nat) (l0 : List Int) (w : World) (hr0 : Kd.C (Kd.int .i64) w A0 l0.length l0) (hc0 : l0.length ≤ c0) :
    Calls Try.prog 55 #[.slice A0 l0.length c0] w fun e w' => e = .returned (.int .i64 (chk1 true 40 l0)) ∧ Below w.heap.size w w' := by
  obtain ⟨W0, hW0⟩ : ∃ W0, w.alloc (.cells #[.slice A0 l0.length c0] 22) = W0 := ⟨_, rfl⟩
  have hB : Below w.heap.size w W0 := by rw [← hW0]; exact (Below.refl _ w).alloc (Nat.le_refl _) _
  have hk : Blk W0 w.heap.size #[.slice A0 l0.length c0] 22 := by rw [← hW0]; exact Blk.new _ _ _
  have HC := Aside0.mk (pancake_check.calls 2 true 40 (some ⟨w.heap.size, 0, none⟩) 1 [l0] (chk1 true 40 l0) W0 (one_row hk (Kd.C_below hr0 hB) hc0) (Nat.le_refl _) (chk1_f true 40 (by decide) l0))
  have HB := Aside0.mk hB
  clear hB hk hr0
  go_enter Try.func55, Try.ntmps55
  go_wp2_with (go_at_call 68; refine HC.out.mono ?_; rintro e w1 ⟨rfl, hb⟩; have HB1 := Aside0.mk (HB.out.trans (hb.mono HB.out.size)); clear hb)
  go_ret
  exact ⟨rfl, HB1.out⟩
theorem isSt_small {sg : Bool} {most : Int} {l : List Int} (h : isSt sg most l = true) (hm : most ≤ 40) : 0 < l.length ∧ l.length ≤ 40 ∧ ∀ x, x ∈ l → -100 ≤ x ∧ x ≤ 100 := by
  have hl := isSt_len h
  refine ⟨by omega, by omega, fun x hx => ?_⟩
  unfold isSt at h
  split at h
  · cases h
  · have := isL_mem sg l.length l _ h x hx
    omega
def pancake_Turn.f (l : List Int) (i k : Int) : Option (List Int × Int) := some (if isSt true 40 l = true then (if i < 0 ∨ k < i ∨ (l.length : Int) ≤ k then ([], 1) else (flL true l i.toNat k.toNat, 0)) else ([], 70))
set_option maxRecDepth 100000 in
set_option maxHeartbeats 4000000 in
theorem pancake_Turn.calls (A0 : Option Addr) (c0 : Nat) (l0 : List Int) (a1 a2 : Int) (r1 : List Int) (r2 : Int) (w : World) (hr0 : Kd.C (Kd.int .i64) w A0 l0.length l0) (hc0 : l0.length ≤ c0) (h : pancake_Turn.f l0 a1 a2 = some (r1, r2)) :
    Calls Try.prog 45 #[.slice A0 l0.length c0, .int .i64 a1, .int .i64 a2] w fun e w' => ∃ v0_ : Value, e = .returned (.tuple #[v0_, .int .i64 r2]) ∧ Kd.R (Kd.int .i64) 3 w' w.heap.size (fun _ => True) v0_ r1 ∧ Below w.heap.size w w' := by
  unfold pancake_Turn.f at h
  have HK := Aside0.mk (check55_one A0 c0 l0 w hr0 hc0)
  unfold chk1 at HK
  have HR := Aside0.mk hr0
  clear hr0
  go_enter Try.func45, Try.ntmps45
  by_cases hst : isSt true 40 l0 = true
  · rw [if_pos hst] at h HK
    obtain ⟨hs1, hs2, hs3⟩ := isSt_small hst (by decide)
    have HS := Aside0.mk hs3
    clear hst hs3
    go_wp2_with (go_at_call 55; refine stopper ?_)
    unfold Hold
    refine HK.out.mono ?_
    rintro e w1 ⟨rfl, hb⟩
    have HB1 := Aside0.mk hb
    clear hb
    by_cases h1 : a1 < 0
    · rw [if_pos (.inl h1)] at h
      cases h
      go_wp2
      refine bodyPost_ret (results_tmp2 rfl _ _ _) rfl ⟨_, rfl, Kd.R_nil _ _ _ _ _, HB1.out⟩
    · by_cases h2 : a1 > a2
      · rw [if_pos (.inr (.inl h2))] at h
        cases h
        go_wp2
        refine bodyPost_ret (results_tmp2 rfl _ _ _) rfl ⟨_, rfl, Kd.R_nil _ _ _ _ _, HB1.out⟩
      · by_cases h3 : a2 ≥ (l0.length : Int)
        · rw [if_pos (.inr (.inr h3))] at h
          cases h
          have h3' : (l0.length : Int) ≤ a2 := h3
          go_wp2
          refine bodyPost_ret (results_tmp2 rfl _ _ _) rfl ⟨_, rfl, Kd.R_nil _ _ _ _ _, HB1.out⟩
        · rw [if_neg (by rintro (h | h | h) <;> omega)] at h
          cases h
          have h3' : ¬ (l0.length : Int) ≤ a2 := h3
          obtain ⟨i, rfl⟩ := Int.eq_ofNat_of_zero_le (show 0 ≤ a1 by omega)
          obtain ⟨k, rfl⟩ := Int.eq_ofNat_of_zero_le (show 0 ≤ a2 by omega)
          have hik : i ≤ k := by omega
          have hkl : k < l0.length := by omega
          have HC := Aside0.mk (slices_Clone_int_int.calls A0 c0 l0 l0 w1 (Kd.C_below HR.out HB1.out) hc0 (by unfold slices_Clone_int_int.f; rw [if_pos ⟨hs1, by omega⟩]))
          go_wp2_with (go_at_call 74; refine stopper ?_)
          unfold Hold
          refine HC.out.mono ?_
          rintro e w2 ⟨v1, rfl, hv1, hb1⟩
          have HF := Aside0.mk (flippedR_calls true hv1 i k hik hkl (by omega) HS.out)
          have HB2 := Aside0.mk (HB1.out.trans (hb1.mono HB1.out.size))
          clear hv1 hb1
          go_wp2_with (go_at_call 75; refine stopper ?_)
          unfold Hold
          refine HF.out.mono ?_
          rintro e w3 ⟨rfl, hv2, hb2⟩
          have HV2 := Aside0.mk (Kd.R_lower hv2 HB1.out.size)
          have HB3 := Aside0.mk (HB2.out.trans (hb2.mono HB1.out.size))
          clear hv2 hb2
          go_wp2
          refine bodyPost_ret (results_tmp2 rfl _ _ _) rfl ⟨_, rfl, HV2.out, HB3.out⟩
  · rw [if_neg hst] at h HK
    cases h
    clear hst
    go_wp2_with (go_at_call 55; refine stopper ?_)
    unfold Hold
    refine HK.out.mono ?_
    rintro e w1 ⟨rfl, hb⟩
    have HB1 := Aside0.mk hb
    clear hb
    go_wp2
    refine bodyPost_ret (results_tmp2 rfl _ _ _) rfl ⟨_, rfl, Kd.R_nil _ _ _ _ _, HB1.out⟩
end Go.Proofs.Ytepjhdblmghckaa.G
namespace Go.Proofs.Ytepjhdblmghckaa.G
end Go.Proofs.Ytepjhdblmghckaa.G
namespace Go.Proofs.Ytepjhdblmghckaa.Q
set_option linter.unusedVariables false
set_option linter.unusedSimpArgs false
set_option linter.unusedSectionVars false
open Go.Proofs.Ytepjhdblmghckaa.G
open Go.RowKit Go.Proofs.YtepjhdblmghckaaW.PrintWords Go.Proofs.YtepjhdblmghckaaW.PrintLast Go.Proofs.YtepjhdblmghckaaW.PrintMore
attribute [local go_sem] max2_int min2_int max_two min_two max_three min_three max_four min_four   -- for this text's walks alone

/-! ### bibelotref07_Abs: function 40 -/
def bibelotref07_Abs.f (a0 : Int) : Option (Int) := some (mx a0 (wrap64 (-a0)))
set_option maxHeartbeats 8000000 in
set_option maxRecDepth 100000 in
theorem bibelotref07_Abs.calls (a0 : Int) (r : Int) (w : World) (h : bibelotref07_Abs.f a0 = some r) :
    Calls Try.prog 40 #[.int .i64 a0] w fun e w' => e = .returned (.int .i64 r) ∧ Below w.heap.size w w' := by
  have HB := Aside0.mk (Below.refl w.heap.size w)
  have H : (some (mx a0 (wrap64 (-a0)))) = some r := h
  clear h
  obtain ⟨ji2, hji2⟩ : ∃ j_ : Int, (mx a0 (wrap64 (-a0))) = j_ := ⟨_, rfl⟩
  replace H : (some ji2) = some r := by first | (rw [hji2] at H; exact H) | (simp only [hji2] at H ⊢; exact H)
  have hji2_ : (if a0 < (wrap64 (-a0)) then (wrap64 (-a0)) else a0) = ji2 := hji2
  obtain rfl := Option.some.inj H
  go_enter Try.func40, Try.ntmps40
  go_wp2
  go_ret
  exact ⟨by first | rfl | (simp [errW_none, errW_some] <;> rfl) | (simp only [← hji2]; first | rfl | (simp [errW_none, errW_some] <;> rfl)) | (simp [*, errW_none, errW_some] <;> rfl), by repeat (first | (with_reducible first | exact HB.out | apply below_alloc | apply pw_below_drewN | apply below_drew1) | exact HB.out)⟩

end Go.Proofs.Ytepjhdblmghckaa.Q
namespace Go.Proofs.Ytepjhdblmghckaa.G
end Go.Proofs.Ytepjhdblmghckaa.G
namespace Go.Proofs.Ytepjhdblmghckaa.Q
set_option linter.unusedVariables false
set_option linter.unusedSimpArgs false
set_option linter.unusedSectionVars false
open Go.Proofs.Ytepjhdblmghckaa.G
open Go.RowKit Go.Proofs.YtepjhdblmghckaaW.PrintWords Go.Proofs.YtepjhdblmghckaaW.PrintLast Go.Proofs.YtepjhdblmghckaaW.PrintMore
attribute [local go_sem] max2_int min2_int max_two min_two max_three min_three max_four min_four   -- for this text's walks alone

/-! ### bibelotref07_Row: function 56 -/
mutual
def bibelotref07_Row.j0 : Nat → List Int → Int → Bool → Option (Bool)
  | 0, _, _, _ => none
  | k + 1, x0, x5, x16 => if x16 = true then (some false) else (if 0 ≤ (wrap64 (x5 + 1)) then (if (wrap64 (x5 + 1) : Int).toNat ≤ 281474976710656 then (bibelotref07_Row.l0 k x0 x5 (List.replicate (wrap64 (x5 + 1) : Int).toNat false) 0) else (none)) else (none))
def bibelotref07_Row.l0 : Nat → List Int → Int → List Bool → Int → Option (Bool)
  | 0, _, _, _, _ => none
  | k + 1, x0, x5, x6, x7 => if x7 < x5 then (if 0 ≤ x7 then (if x7 < (x0.length : Int) then (if (rd x0 x7) < (wrap64 (-x5)) then (some false) else (if (rd x0 x7) > x5 then (some false) else (if (rd x0 x7) = 0 then (some false) else ((bibelotref07_Abs.f (rd x0 x7)).bind fun t665 => (if 0 ≤ t665 then (if t665 < (x6.length : Int) then (if rdOf false x6 t665 = true then (some false) else ((bibelotref07_Abs.f (rd x0 x7)).bind fun t668 => (if 0 ≤ t668 then (if t668 < (x6.length : Int) then (bibelotref07_Row.l0 k x0 x5 (x6.set (t668 : Int).toNat true) (wrap64 (x7 + 1))) else (none)) else (none)))) else (none)) else (none)))))) else (none)) else (none)) else (some true)
end
def bibelotref07_Row.f (k : Nat) (l0 : List Int) (a1 : Int) : Option (Bool) := if (l0.length : Int) < 1 then (bibelotref07_Row.j0 k l0 (l0.length : Int) true) else (bibelotref07_Row.j0 k l0 (l0.length : Int) (decide ((l0.length : Int) > a1)))
theorem bibelotref07_Row.mono_l : ∀ k, (∀ y0 y1 y2, LeO (bibelotref07_Row.j0 k y0 y1 y2) (bibelotref07_Row.j0 (k + 1) y0 y1 y2)) ∧ (∀ y0 y1 y2 y3, LeO (bibelotref07_Row.l0 k y0 y1 y2 y3) (bibelotref07_Row.l0 (k + 1) y0 y1 y2 y3))
  | 0 => ⟨fun _ _ _ r h => by simp [bibelotref07_Row.j0] at h, fun _ _ _ _ r h => by simp [bibelotref07_Row.l0] at h⟩
  | k + 1 => by
    obtain ⟨ih0, ih1⟩ := bibelotref07_Row.mono_l k
    refine ⟨?_, ?_⟩
    · intro y0 y1 y2
      unfold bibelotref07_Row.j0
      repeat' first
      | (with_reducible exact ih0 _ _ _)
      | (with_reducible exact ih1 _ _ _ _)
      | (with_reducible exact LeO.refl _)
      | (with_reducible exact LeO.none _)
      | (with_reducible refine LeO.ite ?_ ?_)
      | (with_reducible refine LeO.bind ?_ (fun _ => ?_))
      | exact ih0 _ _ _
      | exact ih1 _ _ _ _
      | exact LeO.none _
      | refine LeO.ite ?_ ?_
      | refine LeO.bind ?_ (fun _ => ?_)
    · intro y0 y1 y2 y3
      unfold bibelotref07_Row.l0
      repeat' first
      | (with_reducible exact ih0 _ _ _)
      | (with_reducible exact ih1 _ _ _ _)
      | (with_reducible exact LeO.refl _)
      | (with_reducible exact LeO.none _)
      | (with_reducible refine LeO.ite ?_ ?_)
      | (with_reducible refine LeO.bind ?_ (fun _ => ?_))
      | exact ih0 _ _ _
      | exact ih1 _ _ _ _
      | exact LeO.none _
      | refine LeO.ite ?_ ?_
      | refine LeO.bind ?_ (fun _ => ?_)
theorem bibelotref07_Row.mono : ∀ a0 a1 k, LeO (bibelotref07_Row.f k a0 a1) (bibelotref07_Row.f (k + 1) a0 a1) := by
  intro a0 a1 k
  obtain ⟨ih0, ih1⟩ := bibelotref07_Row.mono_l k
  unfold bibelotref07_Row.f
  repeat' first
      | (with_reducible exact ih0 _ _ _)
      | (with_reducible exact ih1 _ _ _ _)
      | (with_reducible exact LeO.refl _)
      | (with_reducible exact LeO.none _)
      | (with_reducible refine LeO.ite ?_ ?_)
      | (with_reducible refine LeO.bind ?_ (fun _ => ?_))
      | exact ih0 _ _ _
      | exact ih1 _ _ _ _
      | exact LeO.none _
      | refine LeO.ite ?_ ?_
      | refine LeO.bind ?_ (fun _ => ?_)
set_option maxHeartbeats 8000000 in
set_option maxRecDepth 100000 in
theorem bibelotref07_Row.calls (k : Nat) (A0 : Option Addr) (c0 : Nat) (l0 : List Int) (a1 : Int) (r : Bool) (w : World) (hr0 : Kd.C (Kd.int .i64) w A0 l0.length l0) (hc0 : l0.length ≤ c0) (h : bibelotref07_Row.f k l0 a1 = some r) :
    Calls Try.prog 56 #[.slice A0 l0.length c0, .int .i64 a1] w fun e w' => e = .returned (.bool r) ∧ Below w.heap.size w w' := by
  have HR0 := Aside0.mk hr0
  have HC0 := Aside0.mk hc0
  clear hr0 hc0
  have HB := Aside0.mk (Below.refl w.heap.size w)
  have H : (if (l0.length : Int) < 1 then (bibelotref07_Row.j0 k l0 (l0.length : Int) true) else (bibelotref07_Row.j0 k l0 (l0.length : Int) (decide ((l0.length : Int) > a1)))) = some r := h
  clear h
  have HC3 := Aside0.mk H
  clear H
  go_enter Try.func56, Try.ntmps56
  go_upto_region 2 with (fail)
  go_cut [16] (fun v16 wc => ∃ (kq : Nat) (x16_2 : Bool), v16 = .bool x16_2 ∧ Aside0 (bibelotref07_Row.j0 kq l0 (l0.length : Int) x16_2 = some r) ∧ Aside0 (kq ≤ k) ∧ Aside0 (Below w.heap.size w wc))
  case first =>
    have H := HC3.out
    clear HC3
    by_cases c4 : (l0.length : Int) < 1
    · rw [if_pos c4] at H
      have c4b0 : decide ((l0.length : Int) < 1) = true := decide_eq_true c4
      have c4b1 : decide (l0.length < 1) = true := decide_eq_true (by omega)
      clear c4
      (first | rw [c4b0] | (simp only [i64_w, i32_w]; rw [c4b0]) | skip)
      have H' := Aside0.mk H
      clear H
      go_wp2
      go_meet
      case rel => exact ⟨_, (true), (by first | rfl | (simp; done) | (simp [*]; done)), H', ⟨by first | omega | exact Nat.le_refl _⟩, ⟨by repeat (first | (with_reducible first | exact HB.out | apply below_alloc | apply pw_below_drewN | apply below_drew1) | exact HB.out)⟩⟩
    · rw [if_neg c4] at H
      have c4b0 : decide ((l0.length : Int) < 1) = false := decide_eq_false c4
      have c4b1 : decide (l0.length < 1) = false := decide_eq_false (by omega)
      clear c4
      (first | rw [c4b0] | (simp only [i64_w, i32_w]; rw [c4b0]) | skip)
      have H' := Aside0.mk H
      clear H
      go_wp2
      go_meet
      case rel => exact ⟨_, (decide ((l0.length : Int) > a1)), (by first | rfl | (simp; done) | (simp [*]; done)), H', ⟨by first | omega | exact Nat.le_refl _⟩, ⟨by repeat (first | (with_reducible first | exact HB.out | apply below_alloc | apply pw_below_drewN | apply below_drew1) | exact HB.out)⟩⟩
  case rest =>
    clear HC3
    try clear p2
    try clear c4
    try clear c4b0
    try clear c4b1
    obtain ⟨kq, x16_2, rfl, HA, HJ2, HB⟩ := hcut
    cases kq with
    | zero => exact absurd HA.out (by simp [bibelotref07_Row.j0])
    | succ kj2 =>
      have H := HA.out
      clear HA
      simp only [bibelotref07_Row.j0] at H
      by_cases c5 : x16_2 = true
      · subst c5
        have H1 : (some false) = some r := by rw [if_pos rfl] at H; exact H
        clear H
        have H := H1
        clear H1
        obtain rfl := Option.some.inj H
        go_wp2
        go_ret
        exact ⟨by first | rfl | (simp [errW_none, errW_some] <;> rfl) | (simp [*, errW_none, errW_some] <;> rfl), by repeat (first | (with_reducible first | exact HB.out | apply below_alloc | apply pw_below_drewN | apply below_drew1) | exact HB.out)⟩
      · replace c5 := Bool.eq_false_iff.mpr c5
        subst c5
        have H1 : (if 0 ≤ (wrap64 ((l0.length : Int) + 1)) then (if (wrap64 ((l0.length : Int) + 1) : Int).toNat ≤ 281474976710656 then (bibelotref07_Row.l0 kj2 l0 (l0.length : Int) (List.replicate (wrap64 ((l0.length : Int) + 1) : Int).toNat false) 0) else (none)) else (none)) = some r := by rw [if_neg (show ¬ (false = true) by decide)] at H; exact H
        clear H
        have H := H1
        clear H1
        obtain ⟨ji6, hji6⟩ : ∃ j_ : Int, (wrap64 ((l0.length : Int) + 1)) = j_ := ⟨_, rfl⟩
        replace H : (if 0 ≤ (ji6) then (if (ji6 : Int).toNat ≤ 281474976710656 then (bibelotref07_Row.l0 kj2 l0 (l0.length : Int) (List.replicate (ji6 : Int).toNat false) 0) else (none)) else (none)) = some r := by first | (rw [hji6] at H; exact H) | (simp only [hji6] at H ⊢; exact H)
        have hji6w : (IntKind.i64.wrap ((l0.length : Int) + 1)) = ji6 := (i64_w _).trans hji6
        by_cases c7 : 0 ≤ (ji6)
        · rw [if_pos c7] at H
          have c7b0 := eq_true c7
          have c7b1 : decide (0 ≤ (ji6)) = true := decide_eq_true c7
          clear c7
          by_cases c8 : (ji6 : Int).toNat ≤ 281474976710656
          · rw [if_pos c8] at H
            have c8b0 := eq_true c8
            have c8b1 : decide ((ji6 : Int).toNat ≤ 281474976710656) = true := decide_eq_true c8
            clear c8
            obtain ⟨y658, hy658⟩ : ∃ y_ : List Bool, y_ = (List.replicate (ji6 : Int).toNat false) := ⟨_, rfl⟩
            replace H : (bibelotref07_Row.l0 kj2 l0 (l0.length : Int) y658 0) = some r := by first | (rw [hy658]; with_reducible exact H) | (have H2_ := (Option.bind_some _ _).symm.trans H; rw [hy658]; with_reducible exact H2_) | (have H2_ := (Option.bind_some _ _).symm.trans H; with_reducible exact H2_) | with_reducible exact H | (rw [hy658]; exact H) | exact H
            have Ny658 := Aside0.mk hy658
            clear hy658
            have H' := Aside0.mk H
            clear H
            go_wp2_with (first | ((with_reducible refine gate_dst (N := 19) rfl ?_); refine Kd.R_make Kd.bool _ 4 rfl (N := 19) rfl 62 _ _ rfl ji6 rfl rfl Try.underlying62 (.bool false) 1 info4 rfl (by decide) (by omega) false (ok := fun _ => True) (okp := fun _ => True) rfl (fun _ hk => hk) trivial (of_decide_eq_true (by first | (with_reducible assumption) | assumption)) (Nat.le_trans (Nat.mul_le_mul_right _ (of_decide_eq_true (by first | (with_reducible assumption) | assumption) : ji6.toNat ≤ 281474976710656)) (by omega)) (Below.refl _ _) (Nat.le_refl _) ?_; intro v659 w9 ho10 hb hg_ hnew_; clear hg_ hnew_; (first | rw [← Ny658.out] at ho10 | (simp only [Int.reduceToNat] at ho10; rw [← Ny658.out] at ho10)); have n0_ := Aside0.mk (Kd.R_lower ho10 (below_size (by repeat (first | (with_reducible first | exact HB.out | apply below_alloc | apply pw_below_drewN | apply below_drew1) | exact HB.out)))); have n1_ := Aside0.mk (below_step (by repeat (first | (with_reducible first | exact HB.out | apply below_alloc | apply pw_below_drewN | apply below_drew1) | exact HB.out)) hb); clear HB; have HO660 := n0_; have HB := n1_; clear n0_ n1_; clear hb ho10))
            go_loopg [7] kj2 (fun kq v7 w' => ∃ (x6_2 : List Bool) (x7_2 : Int), v7 = .int .i64 x7_2 ∧ Aside0 (bibelotref07_Row.l0 kq l0 (l0.length : Int) x6_2 x7_2 = some r) ∧ Aside0 (kq ≤ kj2) ∧ Aside0 (Kd.R Kd.bool 4 w' w.heap.size (fun _ => True) v659 x6_2) ∧ Aside0 (Below w.heap.size w w'))
            case atStart => exact ⟨(y658), (0), (by first | rfl | (simp; done) | (simp [*]; done)), H', ⟨Nat.le_refl _⟩, ⟨by (with_reducible repeat (first | apply Kd.R_alloc | apply Kd.R_drewN | apply Kd.R_drew)); exact HO660.out⟩, ⟨by repeat (first | (with_reducible first | exact HB.out | apply below_alloc | apply pw_below_drewN | apply below_drew1) | exact HB.out)⟩⟩
            case round =>
              clear H'
              try clear p2
              try clear c4
              try clear c4b0
              try clear c4b1
              try clear c5
              try clear p6
              try clear c7
              try clear c7b0
              try clear c7b1
              try clear c8
              try clear c8b0
              try clear c8b1
              try clear p2
              obtain ⟨x6_2, x7_2, rfl, HA, HK2, HO_6, HB⟩ := hrel
              cases gk with
              | zero => exact absurd HA.out (by simp [bibelotref07_Row.l0])
              | succ k2 =>
                have H := HA.out
                clear HA
                simp only [bibelotref07_Row.l0] at H
                by_cases c11 : x7_2 < (l0.length : Int)
                · rw [if_pos c11] at H
                  have c11b0 : decide (x7_2 < (l0.length : Int)) = true := decide_eq_true c11
                  clear c11
                  by_cases c12 : 0 ≤ x7_2
                  · rw [if_pos c12] at H
                    have c12b0 : decide (0 ≤ x7_2) = true := decide_eq_true c12
                    clear c12
                    by_cases c13 : x7_2 < (l0.length : Int)
                    · rw [if_pos c13] at H
                      have c13b0 : decide (x7_2 < (l0.length : Int)) = true := decide_eq_true c13
                      clear c13
                      by_cases c14 : (rd l0 x7_2) < (wrap64 (-(l0.length : Int)))
                      · rw [if_pos c14] at H
                        have c14b0 : decide ((rd l0 x7_2) < (wrap64 (-(l0.length : Int)))) = true := decide_eq_true c14
                        clear c14
                        obtain rfl := Option.some.inj H
                        have p661 : 0 ≤ (x7_2 : Int) := of_decide_eq_true (by first | (with_reducible assumption) | assumption)
                        have q661 : x7_2 < (l0.length : Int) := of_decide_eq_true (by first | (with_reducible assumption) | assumption)
                        obtain ⟨ad661, e661, hx661_0⟩ := Kd.at_int HR0.out x7_2 p661 q661
                        cases e661
                        replace hx661_0 := (HB.out.cell (World.block_lt_of_cell? w _ hx661_0)).trans hx661_0
                        replace p661 := eq_true p661
                        replace q661 := eq_true q661
                        go_wp2
                        go_ret
                        exact ⟨by first | rfl | (simp [errW_none, errW_some] <;> rfl) | (simp only [← hji6]; first | rfl | (simp [errW_none, errW_some] <;> rfl)) | (simp [*, errW_none, errW_some] <;> rfl), by repeat (first | (with_reducible first | exact HB.out | apply below_alloc | apply pw_below_drewN | apply below_drew1) | exact HB.out)⟩
                      · rw [if_neg c14] at H
                        have c14b0 : decide ((rd l0 x7_2) < (wrap64 (-(l0.length : Int)))) = false := decide_eq_false c14
                        clear c14
                        by_cases c15 : (rd l0 x7_2) > (l0.length : Int)
                        · rw [if_pos c15] at H
                          have c15b0 : decide ((l0.length : Int) < (rd l0 x7_2)) = true := decide_eq_true c15
                          clear c15
                          obtain rfl := Option.some.inj H
                          have p661 : 0 ≤ (x7_2 : Int) := of_decide_eq_true (by first | (with_reducible assumption) | assumption)
                          have q661 : x7_2 < (l0.length : Int) := of_decide_eq_true (by first | (with_reducible assumption) | assumption)
                          obtain ⟨ad661, e661, hx661_0⟩ := Kd.at_int HR0.out x7_2 p661 q661
                          cases e661
                          replace hx661_0 := (HB.out.cell (World.block_lt_of_cell? w _ hx661_0)).trans hx661_0
                          replace p661 := eq_true p661
                          replace q661 := eq_true q661
                          have p662 : 0 ≤ (x7_2 : Int) := of_decide_eq_true (by first | (with_reducible assumption) | assumption)
                          have q662 : x7_2 < (l0.length : Int) := of_decide_eq_true (by first | (with_reducible assumption) | assumption)
                          obtain ⟨ad662, e662, hx662_0⟩ := Kd.at_int HR0.out x7_2 p662 q662
                          obtain rfl : ad661 = ad662 := (by injection e662)
                          replace hx662_0 := (HB.out.cell (World.block_lt_of_cell? w _ hx662_0)).trans hx662_0
                          replace p662 := eq_true p662
                          replace q662 := eq_true q662
                          go_wp2
                          go_ret
                          exact ⟨by first | rfl | (simp [errW_none, errW_some] <;> rfl) | (simp only [← hji6]; first | rfl | (simp [errW_none, errW_some] <;> rfl)) | (simp [*, errW_none, errW_some] <;> rfl), by repeat (first | (with_reducible first | exact HB.out | apply below_alloc | apply pw_below_drewN | apply below_drew1) | exact HB.out)⟩
                        · rw [if_neg c15] at H
                          have c15b0 : decide ((l0.length : Int) < (rd l0 x7_2)) = false := decide_eq_false c15
                          clear c15
                          by_cases c16 : (rd l0 x7_2) = 0
                          · rw [if_pos c16] at H
                            have c16b0 : ((rd l0 x7_2) == 0) = true := beq_iff_eq.mpr c16
                            have c16b1 : ((rd l0 x7_2) != 0) = false := bne_eq_false_iff_eq.mpr c16
                            clear c16
                            obtain rfl := Option.some.inj H
                            have p661 : 0 ≤ (x7_2 : Int) := of_decide_eq_true (by first | (with_reducible assumption) | assumption)
                            have q661 : x7_2 < (l0.length : Int) := of_decide_eq_true (by first | (with_reducible assumption) | assumption)
                            obtain ⟨ad661, e661, hx661_0⟩ := Kd.at_int HR0.out x7_2 p661 q661
                            cases e661
                            replace hx661_0 := (HB.out.cell (World.block_lt_of_cell? w _ hx661_0)).trans hx661_0
                            replace p661 := eq_true p661
                            replace q661 := eq_true q661
                            have p662 : 0 ≤ (x7_2 : Int) := of_decide_eq_true (by first | (with_reducible assumption) | assumption)
                            have q662 : x7_2 < (l0.length : Int) := of_decide_eq_true (by first | (with_reducible assumption) | assumption)
                            obtain ⟨ad662, e662, hx662_0⟩ := Kd.at_int HR0.out x7_2 p662 q662
                            obtain rfl : ad661 = ad662 := (by injection e662)
                            replace hx662_0 := (HB.out.cell (World.block_lt_of_cell? w _ hx662_0)).trans hx662_0
                            replace p662 := eq_true p662
                            replace q662 := eq_true q662
                            have p663 : 0 ≤ (x7_2 : Int) := of_decide_eq_true (by first | (with_reducible assumption) | assumption)
                            have q663 : x7_2 < (l0.length : Int) := of_decide_eq_true (by first | (with_reducible assumption) | assumption)
                            obtain ⟨ad663, e663, hx663_0⟩ := Kd.at_int HR0.out x7_2 p663 q663
                            obtain rfl : ad661 = ad663 := (by injection e663)
                            replace hx663_0 := (HB.out.cell (World.block_lt_of_cell? w _ hx663_0)).trans hx663_0
                            replace p663 := eq_true p663
                            replace q663 := eq_true q663
                            go_wp2
                            go_ret
                            exact ⟨by first | rfl | (simp [errW_none, errW_some] <;> rfl) | (simp only [← hji6]; first | rfl | (simp [errW_none, errW_some] <;> rfl)) | (simp [*, errW_none, errW_some] <;> rfl), by repeat (first | (with_reducible first | exact HB.out | apply below_alloc | apply pw_below_drewN | apply below_drew1) | exact HB.out)⟩
                          · rw [if_neg c16] at H
                            have c16b0 : ((rd l0 x7_2) == 0) = false := beq_eq_false_iff_ne.mpr c16
                            have c16b1 : ((rd l0 x7_2) != 0) = true := bne_iff_ne.mpr c16
                            replace H := Option.bind_eq_some_iff.mp H
                            obtain ⟨t665, A170, H⟩ := H
                            replace H : (if 0 ≤ t665 then (if t665 < (x6_2.length : Int) then (if rdOf false x6_2 t665 = true then (some false) else ((bibelotref07_Abs.f (rd l0 x7_2)).bind fun t668 => (if 0 ≤ t668 then (if t668 < (x6_2.length : Int) then (bibelotref07_Row.l0 k2 l0 (l0.length : Int) (x6_2.set (t668 : Int).toNat true) (wrap64 (x7_2 + 1))) else (none)) else (none)))) else (none)) else (none)) = some r := H
                            have A17 := Aside0.mk A170
                            clear A170
                            by_cases c18 : 0 ≤ t665
                            · rw [if_pos c18] at H
                              have c18b0 : decide (0 ≤ t665) = true := decide_eq_true c18
                              clear c18
                              by_cases c19 : t665 < (x6_2.length : Int)
                              · rw [if_pos c19] at H
                                have c19b0 : decide (t665 < (x6_2.length : Int)) = true := decide_eq_true c19
                                clear c19
                                obtain ⟨bq20, hbq20⟩ : ∃ b_ : Bool, b_ = (rdOf false x6_2 t665) := ⟨_, rfl⟩
                                replace H : (if bq20 = true then (some false) else ((bibelotref07_Abs.f (rd l0 x7_2)).bind fun t668 => (if 0 ≤ t668 then (if t668 < (x6_2.length : Int) then (bibelotref07_Row.l0 k2 l0 (l0.length : Int) (x6_2.set (t668 : Int).toNat true) (wrap64 (x7_2 + 1))) else (none)) else (none)))) = some r := by rw [← hbq20] at H; exact H
                                have Nbq20 := Aside0.mk hbq20
                                clear hbq20
                                by_cases c21 : bq20 = true
                                · subst c21
                                  have H1 : (some false) = some r := by rw [if_pos rfl] at H; exact H
                                  clear H
                                  have H := H1
                                  clear H1
                                  obtain rfl := Option.some.inj H
                                  have p661 : 0 ≤ (x7_2 : Int) := of_decide_eq_true (by first | (with_reducible assumption) | assumption)
                                  have q661 : x7_2 < (l0.length : Int) := of_decide_eq_true (by first | (with_reducible assumption) | assumption)
                                  obtain ⟨ad661, e661, hx661_0⟩ := Kd.at_int HR0.out x7_2 p661 q661
                                  cases e661
                                  replace hx661_0 := (HB.out.cell (World.block_lt_of_cell? w _ hx661_0)).trans hx661_0
                                  replace p661 := eq_true p661
                                  replace q661 := eq_true q661
                                  have p662 : 0 ≤ (x7_2 : Int) := of_decide_eq_true (by first | (with_reducible assumption) | assumption)
                                  have q662 : x7_2 < (l0.length : Int) := of_decide_eq_true (by first | (with_reducible assumption) | assumption)
                                  obtain ⟨ad662, e662, hx662_0⟩ := Kd.at_int HR0.out x7_2 p662 q662
                                  obtain rfl : ad661 = ad662 := (by injection e662)
                                  replace hx662_0 := (HB.out.cell (World.block_lt_of_cell? w _ hx662_0)).trans hx662_0
                                  replace p662 := eq_true p662
                                  replace q662 := eq_true q662
                                  have p663 : 0 ≤ (x7_2 : Int) := of_decide_eq_true (by first | (with_reducible assumption) | assumption)
                                  have q663 : x7_2 < (l0.length : Int) := of_decide_eq_true (by first | (with_reducible assumption) | assumption)
                                  obtain ⟨ad663, e663, hx663_0⟩ := Kd.at_int HR0.out x7_2 p663 q663
                                  obtain rfl : ad661 = ad663 := (by injection e663)
                                  replace hx663_0 := (HB.out.cell (World.block_lt_of_cell? w _ hx663_0)).trans hx663_0
                                  replace p663 := eq_true p663
                                  replace q663 := eq_true q663
                                  have p664 : 0 ≤ (x7_2 : Int) := of_decide_eq_true (by first | (with_reducible assumption) | assumption)
                                  have q664 : x7_2 < (l0.length : Int) := of_decide_eq_true (by first | (with_reducible assumption) | assumption)
                                  obtain ⟨ad664, e664, hx664_0⟩ := Kd.at_int HR0.out x7_2 p664 q664
                                  obtain rfl : ad661 = ad664 := (by injection e664)
                                  replace hx664_0 := (HB.out.cell (World.block_lt_of_cell? w _ hx664_0)).trans hx664_0
                                  replace p664 := eq_true p664
                                  replace q664 := eq_true q664
                                  go_wp2_with (first | (go_at_call 40; (with_reducible refine (bibelotref07_Abs.calls (rd l0 x7_2) t665 _ A17.out).mono ?_); rintro e w22 ⟨rfl, hb⟩; have n0_ := Aside0.mk (Kd.R_below (by (with_reducible repeat (first | apply Kd.R_alloc | apply Kd.R_drewN | apply Kd.R_drew)); exact HO_6.out) hb); have n1_ := Aside0.mk (below_step (by repeat (first | (with_reducible first | exact HB.out | apply below_alloc | apply pw_below_drewN | apply below_drew1) | exact HB.out)) hb); clear HO_6; clear HB; have HO_6 := n0_; have HB := n1_; clear n0_ n1_; (try clear hb); (try clear hb2); (try clear hk); (try clear hi); obtain ⟨Ao23, co23, eo23⟩ := Kd.R_slice HO_6.out; subst eo23; have p666 : 0 ≤ (t665 : Int) := of_decide_eq_true (by first | (with_reducible assumption) | assumption); have q666 : t665 < (x6_2.length : Int) := of_decide_eq_true (by first | (with_reducible assumption) | assumption); obtain ⟨ad666, e666, hx666_0⟩ := Kd.at_bool (Kd.R_reads' HO_6.out).2.2 t665 p666 q666; (try rw [← Nbq20.out] at hx666_0); cases e666; replace p666 := eq_true p666; replace q666 := eq_true q666))
                                  go_ret
                                  exact ⟨by first | rfl | (simp [errW_none, errW_some] <;> rfl) | (simp only [← hji6]; first | rfl | (simp [errW_none, errW_some] <;> rfl)) | (simp [*, errW_none, errW_some] <;> rfl), by repeat (first | (with_reducible first | exact HB.out | apply below_alloc | apply pw_below_drewN | apply below_drew1) | exact HB.out)⟩
                                · replace c21 := Bool.eq_false_iff.mpr c21
                                  subst c21
                                  have H1 : ((bibelotref07_Abs.f (rd l0 x7_2)).bind fun t668 => (if 0 ≤ t668 then (if t668 < (x6_2.length : Int) then (bibelotref07_Row.l0 k2 l0 (l0.length : Int) (x6_2.set (t668 : Int).toNat true) (wrap64 (x7_2 + 1))) else (none)) else (none))) = some r := by rw [if_neg (show ¬ (false = true) by decide)] at H; exact H
                                  clear H
                                  have H := H1
                                  clear H1
                                  replace H := Option.bind_eq_some_iff.mp H
                                  obtain ⟨t668, A240, H⟩ := H
                                  replace H : (if 0 ≤ t668 then (if t668 < (x6_2.length : Int) then (bibelotref07_Row.l0 k2 l0 (l0.length : Int) (x6_2.set (t668 : Int).toNat true) (wrap64 (x7_2 + 1))) else (none)) else (none)) = some r := H
                                  have A24 := Aside0.mk A240
                                  clear A240
                                  by_cases c25 : 0 ≤ t668
                                  · rw [if_pos c25] at H
                                    have c25b0 : decide (0 ≤ t668) = true := decide_eq_true c25
                                    clear c25
                                    by_cases c26 : t668 < (x6_2.length : Int)
                                    · rw [if_pos c26] at H
                                      have c26b0 : decide (t668 < (x6_2.length : Int)) = true := decide_eq_true c26
                                      clear c26
                                      obtain ⟨y669, hy669⟩ : ∃ y_ : List Bool, y_ = (x6_2.set (t668 : Int).toNat true) := ⟨_, rfl⟩
                                      replace H : (bibelotref07_Row.l0 k2 l0 (l0.length : Int) y669 (wrap64 (x7_2 + 1))) = some r := by first | (rw [hy669]; with_reducible exact H) | (have H2_ := (Option.bind_some _ _).symm.trans H; rw [hy669]; with_reducible exact H2_) | (have H2_ := (Option.bind_some _ _).symm.trans H; with_reducible exact H2_) | with_reducible exact H | (rw [hy669]; exact H) | exact H
                                      have Ny669 := Aside0.mk hy669
                                      clear hy669
                                      have H' := Aside0.mk H
                                      clear H
                                      have p661 : 0 ≤ (x7_2 : Int) := of_decide_eq_true (by first | (with_reducible assumption) | assumption)
                                      have q661 : x7_2 < (l0.length : Int) := of_decide_eq_true (by first | (with_reducible assumption) | assumption)
                                      obtain ⟨ad661, e661, hx661_0⟩ := Kd.at_int HR0.out x7_2 p661 q661
                                      cases e661
                                      replace hx661_0 := (HB.out.cell (World.block_lt_of_cell? w _ hx661_0)).trans hx661_0
                                      replace p661 := eq_true p661
                                      replace q661 := eq_true q661
                                      have p662 : 0 ≤ (x7_2 : Int) := of_decide_eq_true (by first | (with_reducible assumption) | assumption)
                                      have q662 : x7_2 < (l0.length : Int) := of_decide_eq_true (by first | (with_reducible assumption) | assumption)
                                      obtain ⟨ad662, e662, hx662_0⟩ := Kd.at_int HR0.out x7_2 p662 q662
                                      obtain rfl : ad661 = ad662 := (by injection e662)
                                      replace hx662_0 := (HB.out.cell (World.block_lt_of_cell? w _ hx662_0)).trans hx662_0
                                      replace p662 := eq_true p662
                                      replace q662 := eq_true q662
                                      have p663 : 0 ≤ (x7_2 : Int) := of_decide_eq_true (by first | (with_reducible assumption) | assumption)
                                      have q663 : x7_2 < (l0.length : Int) := of_decide_eq_true (by first | (with_reducible assumption) | assumption)
                                      obtain ⟨ad663, e663, hx663_0⟩ := Kd.at_int HR0.out x7_2 p663 q663
                                      obtain rfl : ad661 = ad663 := (by injection e663)
                                      replace hx663_0 := (HB.out.cell (World.block_lt_of_cell? w _ hx663_0)).trans hx663_0
                                      replace p663 := eq_true p663
                                      replace q663 := eq_true q663
                                      have p664 : 0 ≤ (x7_2 : Int) := of_decide_eq_true (by first | (with_reducible assumption) | assumption)
                                      have q664 : x7_2 < (l0.length : Int) := of_decide_eq_true (by first | (with_reducible assumption) | assumption)
                                      obtain ⟨ad664, e664, hx664_0⟩ := Kd.at_int HR0.out x7_2 p664 q664
                                      obtain rfl : ad661 = ad664 := (by injection e664)
                                      replace hx664_0 := (HB.out.cell (World.block_lt_of_cell? w _ hx664_0)).trans hx664_0
                                      replace p664 := eq_true p664
                                      replace q664 := eq_true q664
                                      go_wp2_with (first | (go_at_call 40; (with_reducible refine (bibelotref07_Abs.calls (rd l0 x7_2) t665 _ A17.out).mono ?_); rintro e w28 ⟨rfl, hb⟩; have n0_ := Aside0.mk (Kd.R_below (by (with_reducible repeat (first | apply Kd.R_alloc | apply Kd.R_drewN | apply Kd.R_drew)); exact HO_6.out) hb); have n1_ := Aside0.mk (below_step (by repeat (first | (with_reducible first | exact HB.out | apply below_alloc | apply pw_below_drewN | apply below_drew1) | exact HB.out)) hb); clear HO_6; clear HB; have HO_6 := n0_; have HB := n1_; clear n0_ n1_; (try clear hb); (try clear hb2); (try clear hk); (try clear hi); obtain ⟨Ao29, co29, eo29⟩ := Kd.R_slice HO_6.out; subst eo29; have p666 : 0 ≤ (t665 : Int) := of_decide_eq_true (by first | (with_reducible assumption) | assumption); have q666 : t665 < (x6_2.length : Int) := of_decide_eq_true (by first | (with_reducible assumption) | assumption); obtain ⟨ad666, e666, hx666_0⟩ := Kd.at_bool (Kd.R_reads' HO_6.out).2.2 t665 p666 q666; (try rw [← Nbq20.out] at hx666_0); cases e666; replace p666 := eq_true p666; replace q666 := eq_true q666; have p667 : 0 ≤ (x7_2 : Int) := of_decide_eq_true (by first | (with_reducible assumption) | assumption); have q667 : x7_2 < (l0.length : Int) := of_decide_eq_true (by first | (with_reducible assumption) | assumption); obtain ⟨ad667, e667, hx667_0⟩ := Kd.at_int HR0.out x7_2 p667 q667; obtain rfl : ad661 = ad667 := (by injection e667); replace hx667_0 := (HB.out.cell (World.block_lt_of_cell? w _ hx667_0)).trans hx667_0; replace p667 := eq_true p667; replace q667 := eq_true q667) | ((with_reducible refine gate_callee (f := 40) rfl ?_); refine goesL_ (some 62) rfl rfl Try.func40 (by kernel_rfl) rfl #[.int .i64 (rd l0 x7_2)] rfl (by (try simp only [List.map_toArray, List.map_cons, List.map_nil]); first | done | rfl | (simp only [List.length_drop, List.length_take]; rfl)) ?_; (with_reducible refine (bibelotref07_Abs.calls (rd l0 x7_2) t668 _ A24.out).mono ?_); rintro e w30 ⟨rfl, hb⟩; refine ⟨_, rfl, ?_⟩; have n0_ := Aside0.mk (Kd.R_below (by (with_reducible repeat (first | apply Kd.R_alloc | apply Kd.R_drewN | apply Kd.R_drew)); exact HO_6.out) hb); have n1_ := Aside0.mk (below_step (by repeat (first | (with_reducible first | exact HB.out | apply below_alloc | apply pw_below_drewN | apply below_drew1) | exact HB.out)) hb); clear HO_6; clear HB; have HO_6 := n0_; have HB := n1_; clear n0_ n1_; (try clear hb); (try clear hb2); (try clear hk); (try clear hi); have p27 : 0 ≤ (t668 : Int) := of_decide_eq_true (by first | (with_reducible assumption) | assumption); have q27 : (t668 : Int) < ((x6_2.length : Int) : Int) := of_decide_eq_true (by first | (with_reducible assumption) | assumption); obtain ⟨go27, co27, eo27, gb27, gl27, cl27, HG27⟩ := Kd.R_form HO_6.out (by omega); (first | cases eo27 | (injection eo27 with ea_ en_ ec_; (first | subst ea_ | (injection ea_ with ea_; subst ea_)); subst ec_; clear en_)); have GB27 := Aside0.mk gb27; have GG27 := Aside0.mk HG27; clear gb27 gl27 HG27; (first | simp only [add_plain] at hx666_0 | skip); obtain ⟨hx27_0, hf27_0⟩ := Kd.R_celln false HO_6.out (t668 : Int) p27 q27; replace p27 := eq_true p27; replace q27 := eq_true q27; obtain ⟨hy31_, hz31_⟩ := Kd.R_celln false HO_6.out (t668 : Int) (of_decide_eq_true (by first | (with_reducible assumption) | assumption)) (of_decide_eq_true (by first | (with_reducible assumption) | assumption)); have HP31 := Kd.R_putg HO_6.out (t668 : Int) true) | ((with_reducible refine gate_store (t := 4) (p := 63) rfl ?_); refine store_event (t := 4) (p := 63) (v := ?vo_w32) (w1 := (w30.setCell ⟨go27, (t668 : Int).toNat, none⟩ (.bool true))) ?hg ?ho ?hn ?hr ?_; (case ho => rfl); (case hg => rfl); (case hn => rfl); (case hr => first | (go_simp; done) | (go_simp; rfl)); intro w32 hw; have hg : w30.grownBy w32 (some go27) := (by rw [hw]; exact HP31.2); have hp_ : Kd.R Kd.bool 4 w32 w.heap.size (fun _ => True) (.slice (some ⟨go27, 0, none⟩) x6_2.length co29) y669 := (by rw [hw, Ny669.out]; exact HP31.1); clear HP31; have n0_ := Aside0.mk (hp_); have n1_ := Aside0.mk ((by rw [hw]; exact below_set (HB.out) GB27.out : Below w.heap.size w w32)); clear HO_6; clear HB; have HO_6 := n0_; have HB := n1_; clear n0_ n1_; clear hg hw hp_))
                                      go_roundg k2
                                      case measure => have := HJ2.out; have := HK2.out; omega
                                      case rel => exact ⟨(y669), (wrap64 (x7_2 + 1)), (by first | rfl | (simp; done) | (simp [*]; done)), H', ⟨by have := HJ2.out; have := HK2.out; omega⟩, ⟨by (with_reducible repeat (first | apply Kd.R_alloc | apply Kd.R_drewN | apply Kd.R_drew)); exact HO_6.out⟩, ⟨by repeat (first | (with_reducible first | exact HB.out | apply below_alloc | apply pw_below_drewN | apply below_drew1) | exact HB.out)⟩⟩
                                    · rw [if_neg c26] at H
                                      exact absurd H (by simp)
                                  · rw [if_neg c25] at H
                                    exact absurd H (by simp)
                              · rw [if_neg c19] at H
                                exact absurd H (by simp)
                            · rw [if_neg c18] at H
                              exact absurd H (by simp)
                    · rw [if_neg c13] at H
                      exact absurd H (by simp)
                  · rw [if_neg c12] at H
                    exact absurd H (by simp)
                · rw [if_neg c11] at H
                  have c11b0 : decide (x7_2 < (l0.length : Int)) = false := decide_eq_false c11
                  clear c11
                  obtain rfl := Option.some.inj H
                  go_wp2
                  go_ret
                  exact ⟨by first | rfl | (simp [errW_none, errW_some] <;> rfl) | (simp only [← hji6]; first | rfl | (simp [errW_none, errW_some] <;> rfl)) | (simp [*, errW_none, errW_some] <;> rfl), by repeat (first | (with_reducible first | exact HB.out | apply below_alloc | apply pw_below_drewN | apply below_drew1) | exact HB.out)⟩
          · rw [if_neg c8] at H
            exact absurd H (by simp)
        · rw [if_neg c7] at H
          exact absurd H (by simp)

end Go.Proofs.Ytepjhdblmghckaa.Q
namespace Go.Proofs.Ytepjhdblmghckaa.G
end Go.Proofs.Ytepjhdblmghckaa.G
namespace Go.Proofs.Ytepjhdblmghckaa.Q
set_option linter.unusedVariables false
set_option linter.unusedSimpArgs false
set_option linter.unusedSectionVars false
open Go.Proofs.Ytepjhdblmghckaa.G
open Go.RowKit Go.Proofs.YtepjhdblmghckaaW.PrintWords Go.Proofs.YtepjhdblmghckaaW.PrintLast Go.Proofs.YtepjhdblmghckaaW.PrintMore
attribute [local go_sem] max2_int min2_int max_two min_two max_three min_three max_four min_four   -- for this text's walks alone

/-! ### bibelotref07_Stack: function 57 -/
def bibelotref07_Stack.l0 : Nat → List Int → Int → Option (Bool)
  | 0, _, _ => none
  | k + 1, x0, x3 => if x3 < (x0.length : Int) then (if 0 ≤ x3 then (if (rd x0 x3) < 1 then (some false) else (bibelotref07_Stack.l0 k x0 (wrap64 (x3 + 1)))) else (none)) else ((bibelotref07_Row.f k x0 7).bind fun t702 => (some t702))
def bibelotref07_Stack.f (k : Nat) (l0 : List Int) : Option (Bool) := bibelotref07_Stack.l0 k l0 0
theorem bibelotref07_Stack.mono_l : ∀ k, (∀ y0 y1, LeO (bibelotref07_Stack.l0 k y0 y1) (bibelotref07_Stack.l0 (k + 1) y0 y1))
  | 0 => fun _ _ r h => by simp [bibelotref07_Stack.l0] at h
  | k + 1 => by
    have ih0 := bibelotref07_Stack.mono_l k
    · intro y0 y1
      unfold bibelotref07_Stack.l0
      repeat' first
      | (with_reducible exact ih0 _ _)
      | (with_reducible exact bibelotref07_Row.mono _ _ _)
      | (with_reducible exact LeO.refl _)
      | (with_reducible exact LeO.none _)
      | (with_reducible refine LeO.ite ?_ ?_)
      | (with_reducible refine LeO.bind ?_ (fun _ => ?_))
      | exact ih0 _ _
      | exact bibelotref07_Row.mono _ _ _
      | exact LeO.none _
      | refine LeO.ite ?_ ?_
      | refine LeO.bind ?_ (fun _ => ?_)
theorem bibelotref07_Stack.mono : ∀ a0 k, LeO (bibelotref07_Stack.f k a0) (bibelotref07_Stack.f (k + 1) a0) := by
  intro a0 k
  have ih0 := bibelotref07_Stack.mono_l k
  unfold bibelotref07_Stack.f
  repeat' first
      | (with_reducible exact ih0 _ _)
      | (with_reducible exact bibelotref07_Row.mono _ _ _)
      | (with_reducible exact LeO.refl _)
      | (with_reducible exact LeO.none _)
      | (with_reducible refine LeO.ite ?_ ?_)
      | (with_reducible refine LeO.bind ?_ (fun _ => ?_))
      | exact ih0 _ _
      | exact bibelotref07_Row.mono _ _ _
      | exact LeO.none _
      | refine LeO.ite ?_ ?_
      | refine LeO.bind ?_ (fun _ => ?_)
set_option maxHeartbeats 8000000 in
set_option maxRecDepth 100000 in
theorem bibelotref07_Stack.calls (k : Nat) (A0 : Option Addr) (c0 : Nat) (l0 : List Int) (r : Bool) (w : World) (hr0 : Kd.C (Kd.int .i64) w A0 l0.length l0) (hc0 : l0.length ≤ c0) (h : bibelotref07_Stack.f k l0 = some r) :
    Calls Try.prog 57 #[.slice A0 l0.length c0] w fun e w' => e = .returned (.bool r) ∧ Below w.heap.size w w' := by
  have HR0 := Aside0.mk hr0
  have HC0 := Aside0.mk hc0
  clear hr0 hc0
  have HB := Aside0.mk (Below.refl w.heap.size w)
  have H : (bibelotref07_Stack.l0 k l0 0) = some r := h
  clear h
  have H' := Aside0.mk H
  clear H
  go_enter Try.func57, Try.ntmps57
  go_wp2
  go_loopg [3] k (fun kq v3 w' => ∃ (x3_1 : Int), v3 = .int .i64 x3_1 ∧ Aside0 (bibelotref07_Stack.l0 kq l0 x3_1 = some r) ∧ Aside0 (kq ≤ k) ∧ Aside0 (Below w.heap.size w w'))
  case atStart => exact ⟨(0), (by first | rfl | (simp; done) | (simp [*]; done)), H', ⟨Nat.le_refl _⟩, ⟨by repeat (first | (with_reducible first | exact HB.out | apply below_alloc | apply pw_below_drewN | apply below_drew1) | exact HB.out)⟩⟩
  case round =>
    clear H'
    obtain ⟨x3_1, rfl, HA, HK1, HB⟩ := hrel
    cases gk with
    | zero => exact absurd HA.out (by simp [bibelotref07_Stack.l0])
    | succ k1 =>
      have H := HA.out
      clear HA
      simp only [bibelotref07_Stack.l0] at H
      by_cases c2 : x3_1 < (l0.length : Int)
      · rw [if_pos c2] at H
        have c2b0 : decide (x3_1 < (l0.length : Int)) = true := decide_eq_true c2
        clear c2
        by_cases c3 : 0 ≤ x3_1
        · rw [if_pos c3] at H
          have c3b0 : decide (0 ≤ x3_1) = true := decide_eq_true c3
          clear c3
          by_cases c4 : (rd l0 x3_1) < 1
          · rw [if_pos c4] at H
            have c4b0 : decide ((rd l0 x3_1) < 1) = true := decide_eq_true c4
            clear c4
            obtain rfl := Option.some.inj H
            have p701 : 0 ≤ (x3_1 : Int) := of_decide_eq_true (by first | (with_reducible assumption) | assumption)
            have q701 : x3_1 < (l0.length : Int) := of_decide_eq_true (by first | (with_reducible assumption) | assumption)
            obtain ⟨ad701, e701, hx701_0⟩ := Kd.at_int HR0.out x3_1 p701 q701
            cases e701
            replace hx701_0 := (HB.out.cell (World.block_lt_of_cell? w _ hx701_0)).trans hx701_0
            replace p701 := eq_true p701
            replace q701 := eq_true q701
            go_wp2
            go_ret
            exact ⟨by first | rfl | (simp [errW_none, errW_some] <;> rfl) | (simp [*, errW_none, errW_some] <;> rfl), by repeat (first | (with_reducible first | exact HB.out | apply below_alloc | apply pw_below_drewN | apply below_drew1) | exact HB.out)⟩
          · rw [if_neg c4] at H
            have c4b0 : decide ((rd l0 x3_1) < 1) = false := decide_eq_false c4
            clear c4
            have H' := Aside0.mk H
            clear H
            have p701 : 0 ≤ (x3_1 : Int) := of_decide_eq_true (by first | (with_reducible assumption) | assumption)
            have q701 : x3_1 < (l0.length : Int) := of_decide_eq_true (by first | (with_reducible assumption) | assumption)
            obtain ⟨ad701, e701, hx701_0⟩ := Kd.at_int HR0.out x3_1 p701 q701
            cases e701
            replace hx701_0 := (HB.out.cell (World.block_lt_of_cell? w _ hx701_0)).trans hx701_0
            replace p701 := eq_true p701
            replace q701 := eq_true q701
            go_wp2
            go_roundg k1
            case measure => have := HK1.out; omega
            case rel => exact ⟨(wrap64 (x3_1 + 1)), (by first | rfl | (simp; done) | (simp [*]; done)), H', ⟨by have := HK1.out; omega⟩, ⟨by repeat (first | (with_reducible first | exact HB.out | apply below_alloc | apply pw_below_drewN | apply below_drew1) | exact HB.out)⟩⟩
        · rw [if_neg c3] at H
          exact absurd H (by simp)
      · rw [if_neg c2] at H
        have c2b0 : decide (x3_1 < (l0.length : Int)) = false := decide_eq_false c2
        clear c2
        replace H := Option.bind_eq_some_iff.mp H
        obtain ⟨t702, A50, H⟩ := H
        replace H : (some t702) = some r := H
        have A5 := Aside0.mk A50
        clear A50
        obtain rfl := Option.some.inj H
        go_wp2_with (first | ((with_reducible refine gate_callee (f := 56) rfl ?_); refine goesL_ (some 16) rfl rfl Try.func56 (by kernel_rfl) rfl #[.slice A0 l0.length c0, .int .i64 7] rfl (by (try simp only [List.map_toArray, List.map_cons, List.map_nil]); first | done | rfl | (simp only [List.length_drop, List.length_take]; rfl)) ?_; (with_reducible refine (bibelotref07_Row.calls k1 _ _ l0 7 t702 _ ?side1 ?side2 A5.out).mono ?_); (case side1 => repeat (first | exact (Kd.C_below HR0.out HB.out) | (with_reducible refine Kd.C_alloc ?_ _) | (with_reducible refine Kd.C_drewN ?_ _) | (with_reducible refine Kd.C_drew ?_))); (case side2 => exact HC0.out); rintro e w6 ⟨rfl, hb⟩; refine ⟨_, rfl, ?_⟩; have n0_ := Aside0.mk (below_step (by repeat (first | (with_reducible first | exact HB.out | apply below_alloc | apply pw_below_drewN | apply below_drew1) | exact HB.out)) hb); clear HB; have HB := n0_; clear n0_; (try clear hb); (try clear hb2); (try clear hk); (try clear hi)))
        go_ret
        exact ⟨by first | rfl | (simp [errW_none, errW_some] <;> rfl) | (simp [*, errW_none, errW_some] <;> rfl), by repeat (first | (with_reducible first | exact HB.out | apply below_alloc | apply pw_below_drewN | apply below_drew1) | exact HB.out)⟩

end Go.Proofs.Ytepjhdblmghckaa.Q
namespace Go.Proofs.Ytepjhdblmghckaa.G
end Go.Proofs.Ytepjhdblmghckaa.G
namespace Go.Proofs.Ytepjhdblmghckaa.Q
set_option linter.unusedVariables false
set_option linter.unusedSimpArgs false
set_option linter.unusedSectionVars false
open Go.Proofs.Ytepjhdblmghckaa.G
open Go.RowKit Go.Proofs.YtepjhdblmghckaaW.PrintWords Go.Proofs.YtepjhdblmghckaaW.PrintLast Go.Proofs.YtepjhdblmghckaaW.PrintMore
attribute [local go_sem] max2_int min2_int max_two min_two max_three min_three max_four min_four   -- for this text's walks alone

/-! ### pancake_Check: function 58 -/
def pancake_Check.f (k : Nat) (l0 : List Int) : Option (Int) := (pancake_check.f k false 7 (([l0] : List (List Int)))).bind fun t230 => (some t230)
theorem pancake_Check.mono : ∀ a0 k, LeO (pancake_Check.f k a0) (pancake_Check.f (k + 1) a0) := by
  intro a0 k
  unfold pancake_Check.f
  repeat' first
      | (with_reducible exact pancake_check.mono _ _ _ _)
      | (with_reducible exact LeO.refl _)
      | (with_reducible exact LeO.none _)
      | (with_reducible refine LeO.ite ?_ ?_)
      | (with_reducible refine LeO.bind ?_ (fun _ => ?_))
      | exact pancake_check.mono _ _ _ _
      | exact LeO.none _
      | refine LeO.ite ?_ ?_
      | refine LeO.bind ?_ (fun _ => ?_)
set_option maxHeartbeats 8000000 in
set_option maxRecDepth 100000 in
theorem pancake_Check.calls (k : Nat) (P0_ : Nat → Prop) (A0 : Option Addr) (c0 : Nat) (l0 : List Int) (r : Int) (w : World) (hs0 : Kd.V (Kd.int .i64) 3 w w.heap.size (fun k_ => P0_ k_) (.slice A0 l0.length c0) l0) (h : pancake_Check.f k l0 = some r) :
    Calls Try.prog 58 #[.slice A0 l0.length c0] w fun e w' => e = .returned (.int .i64 r) ∧ Below w.heap.size w w' := by
  have HO0 := Aside0.mk (show Kd.V (Kd.int .i64) 3 w w.heap.size (fun k_ => (P0_ k_ ∨ w.heap.size ≤ k_)) (.slice A0 l0.length c0) l0 from Kd.V_mono hs0 (fun k_ hk => .inl hk))
  have HB := Aside0.mk (Below.refl w.heap.size w)
  have H : ((pancake_check.f k false 7 (([l0] : List (List Int)))).bind fun t230 => (some t230)) = some r := h
  clear h
  obtain ⟨y227, hy227⟩ : ∃ y_ : List (List Int), y_ = (([l0] : List (List Int))) := ⟨_, rfl⟩
  replace H : ((pancake_check.f k false 7 y227).bind fun t230 => (some t230)) = some r := by first | (rw [hy227]; with_reducible exact H) | (have H2_ := (Option.bind_some _ _).symm.trans H; rw [hy227]; with_reducible exact H2_) | (have H2_ := (Option.bind_some _ _).symm.trans H; with_reducible exact H2_) | with_reducible exact H | (rw [hy227]; exact H) | exact H
  have Ny227 := Aside0.mk hy227
  clear hy227
  replace H := Option.bind_eq_some_iff.mp H
  obtain ⟨t230, A20, H⟩ := H
  replace H : (some t230) = some r := H
  have A2 := Aside0.mk A20
  clear A20
  obtain rfl := Option.some.inj H
  go_enter Try.func58, Try.ntmps58
  go_wp2_with (first | ((with_reducible refine gate_dst (N := 4) rfl ?_); refine Kd.N_lit (Kd.slice 3 (Kd.int .i64)) _ 22 ?hg (N' := 4) ?hd (xs := ([l0] : List (List Int))) (inner := [.slice A0 l0.length c0]) (ok := (fun k_ => (P0_ k_ ∨ w.heap.size ≤ k_))) (okp := (fun k_ => (P0_ k_ ∨ w.heap.size ≤ k_))) ?hr ?hp (fun _ hk => hk) ((show ∀ k_, w.heap.size ≤ k_ → (fun k_ => (P0_ k_ ∨ w.heap.size ≤ k_)) k_ from fun k_ hk => (.inr (Nat.le_trans (below_size (by repeat (first | (with_reducible first | exact HB.out | apply below_alloc | apply pw_below_drewN | apply below_drew1) | exact HB.out))) hk))) _ (Nat.le_refl _)) (Below.refl _ _) (Nat.le_refl _) (by simp) ?_; (case hd => rfl); (case hg => rfl); (case hr => first | (go_simp; done) | (go_simp; rfl)); (case hp => exact (Reps.one (show Kd.FK (Kd.slice 3 (Kd.int .i64)) _ _ l0 [.slice A0 l0.length c0] from (Kd.FK_slice_mk (Kd.V_reads' (Kd.V_mono (ok' := (fun k_ => (P0_ k_ ∨ w.heap.size ≤ k_))) (HO0.out) (fun k_ hk => hk))).2.1 (Kd.V_F (Kd.V_mono (ok' := (fun k_ => (P0_ k_ ∨ w.heap.size ≤ k_))) (HO0.out) (fun k_ hk => hk))))) (Reps.none _ _))); intro v228 w3 ho4 hb hg_ hnew_; clear hg_ hnew_; (first | rw [← Ny227.out] at ho4 | (simp only [Int.reduceToNat] at ho4; rw [← Ny227.out] at ho4)); have n0_ := Aside0.mk (Kd.V_elder' (by (with_reducible repeat (first | apply Kd.V_alloc | apply Kd.V_drewN | apply Kd.V_drew)); exact HO0.out) (Kd.N_base ho4) hb); have n1_ := Aside0.mk (Kd.N_lower ho4 (below_size (by repeat (first | (with_reducible first | exact HB.out | apply below_alloc | apply pw_below_drewN | apply below_drew1) | exact HB.out)))); have n2_ := Aside0.mk (below_step (by repeat (first | (with_reducible first | exact HB.out | apply below_alloc | apply pw_below_drewN | apply below_drew1) | exact HB.out)) hb); clear HO0; clear HB; have HO0 := n0_; have HO229 := n1_; have HB := n2_; clear n0_ n1_ n2_; clear hb ho4; obtain ⟨Ao5, co5, eo5⟩ := Kd.N_slice HO229.out; subst eo5) | ((with_reducible refine gate_callee (f := 68) rfl ?_); refine goesL_ (some 5) rfl rfl Try.func68 (by kernel_rfl) rfl #[.bool false, .int .i64 7, .slice Ao5 y227.length co5] rfl (by (try simp only [List.map_toArray, List.map_cons, List.map_nil]); first | done | rfl | (simp only [List.length_drop, List.length_take]; rfl)) ?_; (with_reducible refine (pancake_check.calls k false 7 _ _ y227 t230 _ ?side1 ?side2 A2.out).mono ?_); (case side1 => repeat (first | exact (Kd.N_reads' HO229.out).2.2 | (with_reducible refine Kd.C_alloc ?_ _) | (with_reducible refine Kd.C_drewN ?_ _) | (with_reducible refine Kd.C_drew ?_))); (case side2 => exact (Kd.N_reads' HO229.out).2.1); rintro e w6 ⟨rfl, hb⟩; refine ⟨_, rfl, ?_⟩; have n0_ := Aside0.mk (Kd.V_below (by (with_reducible repeat (first | apply Kd.V_alloc | apply Kd.V_drewN | apply Kd.V_drew)); exact HO0.out) hb); have n1_ := Aside0.mk (Kd.N_below (by (with_reducible repeat (first | apply Kd.N_alloc | apply Kd.N_drewN | apply Kd.N_drew)); exact HO229.out) hb); have n2_ := Aside0.mk (below_step (by repeat (first | (with_reducible first | exact HB.out | apply below_alloc | apply pw_below_drewN | apply below_drew1) | exact HB.out)) hb); clear HO0; clear HO229; clear HB; have HO0 := n0_; have HO229 := n1_; have HB := n2_; clear n0_ n1_ n2_; (try clear hb); (try clear hb2); (try clear hk); (try clear hi)))
  go_ret
  exact ⟨by first | rfl | (simp [errW_none, errW_some] <;> rfl) | (simp [*, errW_none, errW_some] <;> rfl), by repeat (first | (with_reducible first | exact HB.out | apply below_alloc | apply pw_below_drewN | apply below_drew1) | exact HB.out)⟩

end Go.Proofs.Ytepjhdblmghckaa.Q
namespace Go.Proofs.Ytepjhdblmghckaa.G
end Go.Proofs.Ytepjhdblmghckaa.G
namespace Go.Proofs.Ytepjhdblmghckaa.Q
set_option linter.unusedVariables false
set_option linter.unusedSimpArgs false
set_option linter.unusedSectionVars false
open Go.Proofs.Ytepjhdblmghckaa.G
open Go.RowKit Go.Proofs.YtepjhdblmghckaaW.PrintWords Go.Proofs.YtepjhdblmghckaaW.PrintLast Go.Proofs.YtepjhdblmghckaaW.PrintMore
attribute [local go_sem] max2_int min2_int max_two min_two max_three min_three max_four min_four   -- for this text's walks alone

/-! ### pancake_CheckBurnt: function 59 -/
def pancake_CheckBurnt.f (k : Nat) (l0 : List Int) : Option (Int) := (pancake_check.f k true 6 (([l0] : List (List Int)))).bind fun t247 => (some t247)
theorem pancake_CheckBurnt.mono : ∀ a0 k, LeO (pancake_CheckBurnt.f k a0) (pancake_CheckBurnt.f (k + 1) a0) := by
  intro a0 k
  unfold pancake_CheckBurnt.f
  repeat' first
      | (with_reducible exact pancake_check.mono _ _ _ _)
      | (with_reducible exact LeO.refl _)
      | (with_reducible exact LeO.none _)
      | (with_reducible refine LeO.ite ?_ ?_)
      | (with_reducible refine LeO.bind ?_ (fun _ => ?_))
      | exact pancake_check.mono _ _ _ _
      | exact LeO.none _
      | refine LeO.ite ?_ ?_
      | refine LeO.bind ?_ (fun _ => ?_)
set_option maxHeartbeats 8000000 in
set_option maxRecDepth 100000 in
theorem pancake_CheckBurnt.calls (k : Nat) (P0_ : Nat → Prop) (A0 : Option Addr) (c0 : Nat) (l0 : List Int) (r : Int) (w : World) (hs0 : Kd.V (Kd.int .i64) 3 w w.heap.size (fun k_ => P0_ k_) (.slice A0 l0.length c0) l0) (h : pancake_CheckBurnt.f k l0 = some r) :
    Calls Try.prog 59 #[.slice A0 l0.length c0] w fun e w' => e = .returned (.int .i64 r) ∧ Below w.heap.size w w' := by
  have HO0 := Aside0.mk (show Kd.V (Kd.int .i64) 3 w w.heap.size (fun k_ => (P0_ k_ ∨ w.heap.size ≤ k_)) (.slice A0 l0.length c0) l0 from Kd.V_mono hs0 (fun k_ hk => .inl hk))
  have HB := Aside0.mk (Below.refl w.heap.size w)
  have H : ((pancake_check.f k true 6 (([l0] : List (List Int)))).bind fun t247 => (some t247)) = some r := h
  clear h
  obtain ⟨y244, hy244⟩ : ∃ y_ : List (List Int), y_ = (([l0] : List (List Int))) := ⟨_, rfl⟩
  replace H : ((pancake_check.f k true 6 y244).bind fun t247 => (some t247)) = some r := by first | (rw [hy244]; with_reducible exact H) | (have H2_ := (Option.bind_some _ _).symm.trans H; rw [hy244]; with_reducible exact H2_) | (have H2_ := (Option.bind_some _ _).symm.trans H; with_reducible exact H2_) | with_reducible exact H | (rw [hy244]; exact H) | exact H
  have Ny244 := Aside0.mk hy244
  clear hy244
  replace H := Option.bind_eq_some_iff.mp H
  obtain ⟨t247, A20, H⟩ := H
  replace H : (some t247) = some r := H
  have A2 := Aside0.mk A20
  clear A20
  obtain rfl := Option.some.inj H
  go_enter Try.func59, Try.ntmps59
  go_wp2_with (first | ((with_reducible refine gate_dst (N := 4) rfl ?_); refine Kd.N_lit (Kd.slice 3 (Kd.int .i64)) _ 22 ?hg (N' := 4) ?hd (xs := ([l0] : List (List Int))) (inner := [.slice A0 l0.length c0]) (ok := (fun k_ => (P0_ k_ ∨ w.heap.size ≤ k_))) (okp := (fun k_ => (P0_ k_ ∨ w.heap.size ≤ k_))) ?hr ?hp (fun _ hk => hk) ((show ∀ k_, w.heap.size ≤ k_ → (fun k_ => (P0_ k_ ∨ w.heap.size ≤ k_)) k_ from fun k_ hk => (.inr (Nat.le_trans (below_size (by repeat (first | (with_reducible first | exact HB.out | apply below_alloc | apply pw_below_drewN | apply below_drew1) | exact HB.out))) hk))) _ (Nat.le_refl _)) (Below.refl _ _) (Nat.le_refl _) (by simp) ?_; (case hd => rfl); (case hg => rfl); (case hr => first | (go_simp; done) | (go_simp; rfl)); (case hp => exact (Reps.one (show Kd.FK (Kd.slice 3 (Kd.int .i64)) _ _ l0 [.slice A0 l0.length c0] from (Kd.FK_slice_mk (Kd.V_reads' (Kd.V_mono (ok' := (fun k_ => (P0_ k_ ∨ w.heap.size ≤ k_))) (HO0.out) (fun k_ hk => hk))).2.1 (Kd.V_F (Kd.V_mono (ok' := (fun k_ => (P0_ k_ ∨ w.heap.size ≤ k_))) (HO0.out) (fun k_ hk => hk))))) (Reps.none _ _))); intro v245 w3 ho4 hb hg_ hnew_; clear hg_ hnew_; (first | rw [← Ny244.out] at ho4 | (simp only [Int.reduceToNat] at ho4; rw [← Ny244.out] at ho4)); have n0_ := Aside0.mk (Kd.V_elder' (by (with_reducible repeat (first | apply Kd.V_alloc | apply Kd.V_drewN | apply Kd.V_drew)); exact HO0.out) (Kd.N_base ho4) hb); have n1_ := Aside0.mk (Kd.N_lower ho4 (below_size (by repeat (first | (with_reducible first | exact HB.out | apply below_alloc | apply pw_below_drewN | apply below_drew1) | exact HB.out)))); have n2_ := Aside0.mk (below_step (by repeat (first | (with_reducible first | exact HB.out | apply below_alloc | apply pw_below_drewN | apply below_drew1) | exact HB.out)) hb); clear HO0; clear HB; have HO0 := n0_; have HO246 := n1_; have HB := n2_; clear n0_ n1_ n2_; clear hb ho4; obtain ⟨Ao5, co5, eo5⟩ := Kd.N_slice HO246.out; subst eo5) | ((with_reducible refine gate_callee (f := 68) rfl ?_); refine goesL_ (some 5) rfl rfl Try.func68 (by kernel_rfl) rfl #[.bool true, .int .i64 6, .slice Ao5 y244.length co5] rfl (by (try simp only [List.map_toArray, List.map_cons, List.map_nil]); first | done | rfl | (simp only [List.length_drop, List.length_take]; rfl)) ?_; (with_reducible refine (pancake_check.calls k true 6 _ _ y244 t247 _ ?side1 ?side2 A2.out).mono ?_); (case side1 => repeat (first | exact (Kd.N_reads' HO246.out).2.2 | (with_reducible refine Kd.C_alloc ?_ _) | (with_reducible refine Kd.C_drewN ?_ _) | (with_reducible refine Kd.C_drew ?_))); (case side2 => exact (Kd.N_reads' HO246.out).2.1); rintro e w6 ⟨rfl, hb⟩; refine ⟨_, rfl, ?_⟩; have n0_ := Aside0.mk (Kd.V_below (by (with_reducible repeat (first | apply Kd.V_alloc | apply Kd.V_drewN | apply Kd.V_drew)); exact HO0.out) hb); have n1_ := Aside0.mk (Kd.N_below (by (with_reducible repeat (first | apply Kd.N_alloc | apply Kd.N_drewN | apply Kd.N_drew)); exact HO246.out) hb); have n2_ := Aside0.mk (below_step (by repeat (first | (with_reducible first | exact HB.out | apply below_alloc | apply pw_below_drewN | apply below_drew1) | exact HB.out)) hb); clear HO0; clear HO246; clear HB; have HO0 := n0_; have HO246 := n1_; have HB := n2_; clear n0_ n1_ n2_; (try clear hb); (try clear hb2); (try clear hk); (try clear hi)))
  go_ret
  exact ⟨by first | rfl | (simp [errW_none, errW_some] <;> rfl) | (simp [*, errW_none, errW_some] <;> rfl), by repeat (first | (with_reducible first | exact HB.out | apply below_alloc | apply pw_below_drewN | apply below_drew1) | exact HB.out)⟩

end Go.Proofs.Ytepjhdblmghckaa.Q
namespace Go.Proofs.Ytepjhdblmghckaa.G
end Go.Proofs.Ytepjhdblmghckaa.G
namespace Go.Proofs.Ytepjhdblmghckaa.Q
set_option linter.unusedVariables false
set_option linter.unusedSimpArgs false
set_option linter.unusedSectionVars false
open Go.Proofs.Ytepjhdblmghckaa.G
open Go.RowKit Go.Proofs.YtepjhdblmghckaaW.PrintWords Go.Proofs.YtepjhdblmghckaaW.PrintLast Go.Proofs.YtepjhdblmghckaaW.PrintMore
attribute [local go_sem] max2_int min2_int max_two min_two max_three min_three max_four min_four   -- for this text's walks alone

/-! ### pancake_CheckRow: function 55 -/
def pancake_CheckRow.f (k : Nat) (l0 : List Int) : Option (Int) := (pancake_check.f k true 40 (([l0] : List (List Int)))).bind fun t657 => (some t657)
theorem pancake_CheckRow.mono : ∀ a0 k, LeO (pancake_CheckRow.f k a0) (pancake_CheckRow.f (k + 1) a0) := by
  intro a0 k
  unfold pancake_CheckRow.f
  repeat' first
      | (with_reducible exact pancake_check.mono _ _ _ _)
      | (with_reducible exact LeO.refl _)
      | (with_reducible exact LeO.none _)
      | (with_reducible refine LeO.ite ?_ ?_)
      | (with_reducible refine LeO.bind ?_ (fun _ => ?_))
      | exact pancake_check.mono _ _ _ _
      | exact LeO.none _
      | refine LeO.ite ?_ ?_
      | refine LeO.bind ?_ (fun _ => ?_)
set_option maxHeartbeats 8000000 in
set_option maxRecDepth 100000 in
theorem pancake_CheckRow.calls (k : Nat) (P0_ : Nat → Prop) (A0 : Option Addr) (c0 : Nat) (l0 : List Int) (r : Int) (w : World) (hs0 : Kd.V (Kd.int .i64) 3 w w.heap.size (fun k_ => P0_ k_) (.slice A0 l0.length c0) l0) (h : pancake_CheckRow.f k l0 = some r) :
    Calls Try.prog 55 #[.slice A0 l0.length c0] w fun e w' => e = .returned (.int .i64 r) ∧ Below w.heap.size w w' := by
  have HO0 := Aside0.mk (show Kd.V (Kd.int .i64) 3 w w.heap.size (fun k_ => (P0_ k_ ∨ w.heap.size ≤ k_)) (.slice A0 l0.length c0) l0 from Kd.V_mono hs0 (fun k_ hk => .inl hk))
  have HB := Aside0.mk (Below.refl w.heap.size w)
  have H : ((pancake_check.f k true 40 (([l0] : List (List Int)))).bind fun t657 => (some t657)) = some r := h
  clear h
  obtain ⟨y654, hy654⟩ : ∃ y_ : List (List Int), y_ = (([l0] : List (List Int))) := ⟨_, rfl⟩
  replace H : ((pancake_check.f k true 40 y654).bind fun t657 => (some t657)) = some r := by first | (rw [hy654]; with_reducible exact H) | (have H2_ := (Option.bind_some _ _).symm.trans H; rw [hy654]; with_reducible exact H2_) | (have H2_ := (Option.bind_some _ _).symm.trans H; with_reducible exact H2_) | with_reducible exact H | (rw [hy654]; exact H) | exact H
  have Ny654 := Aside0.mk hy654
  clear hy654
  replace H := Option.bind_eq_some_iff.mp H
  obtain ⟨t657, A20, H⟩ := H
  replace H : (some t657) = some r := H
  have A2 := Aside0.mk A20
  clear A20
  obtain rfl := Option.some.inj H
  go_enter Try.func55, Try.ntmps55
  go_wp2_with (first | ((with_reducible refine gate_dst (N := 4) rfl ?_); refine Kd.N_lit (Kd.slice 3 (Kd.int .i64)) _ 22 ?hg (N' := 4) ?hd (xs := ([l0] : List (List Int))) (inner := [.slice A0 l0.length c0]) (ok := (fun k_ => (P0_ k_ ∨ w.heap.size ≤ k_))) (okp := (fun k_ => (P0_ k_ ∨ w.heap.size ≤ k_))) ?hr ?hp (fun _ hk => hk) ((show ∀ k_, w.heap.size ≤ k_ → (fun k_ => (P0_ k_ ∨ w.heap.size ≤ k_)) k_ from fun k_ hk => (.inr (Nat.le_trans (below_size (by repeat (first | (with_reducible first | exact HB.out | apply below_alloc | apply pw_below_drewN | apply below_drew1) | exact HB.out))) hk))) _ (Nat.le_refl _)) (Below.refl _ _) (Nat.le_refl _) (by simp) ?_; (case hd => rfl); (case hg => rfl); (case hr => first | (go_simp; done) | (go_simp; rfl)); (case hp => exact (Reps.one (show Kd.FK (Kd.slice 3 (Kd.int .i64)) _ _ l0 [.slice A0 l0.length c0] from (Kd.FK_slice_mk (Kd.V_reads' (Kd.V_mono (ok' := (fun k_ => (P0_ k_ ∨ w.heap.size ≤ k_))) (HO0.out) (fun k_ hk => hk))).2.1 (Kd.V_F (Kd.V_mono (ok' := (fun k_ => (P0_ k_ ∨ w.heap.size ≤ k_))) (HO0.out) (fun k_ hk => hk))))) (Reps.none _ _))); intro v655 w3 ho4 hb hg_ hnew_; clear hg_ hnew_; (first | rw [← Ny654.out] at ho4 | (simp only [Int.reduceToNat] at ho4; rw [← Ny654.out] at ho4)); have n0_ := Aside0.mk (Kd.V_elder' (by (with_reducible repeat (first | apply Kd.V_alloc | apply Kd.V_drewN | apply Kd.V_drew)); exact HO0.out) (Kd.N_base ho4) hb); have n1_ := Aside0.mk (Kd.N_lower ho4 (below_size (by repeat (first | (with_reducible first | exact HB.out | apply below_alloc | apply pw_below_drewN | apply below_drew1) | exact HB.out)))); have n2_ := Aside0.mk (below_step (by repeat (first | (with_reducible first | exact HB.out | apply below_alloc | apply pw_below_drewN | apply below_drew1) | exact HB.out)) hb); clear HO0; clear HB; have HO0 := n0_; have HO656 := n1_; have HB := n2_; clear n0_ n1_ n2_; clear hb ho4; obtain ⟨Ao5, co5, eo5⟩ := Kd.N_slice HO656.out; subst eo5) | ((with_reducible refine gate_callee (f := 68) rfl ?_); refine goesL_ (some 5) rfl rfl Try.func68 (by kernel_rfl) rfl #[.bool true, .int .i64 40, .slice Ao5 y654.length co5] rfl (by (try simp only [List.map_toArray, List.map_cons, List.map_nil]); first | done | rfl | (simp only [List.length_drop, List.length_take]; rfl)) ?_; (with_reducible refine (pancake_check.calls k true 40 _ _ y654 t657 _ ?side1 ?side2 A2.out).mono ?_); (case side1 => repeat (first | exact (Kd.N_reads' HO656.out).2.2 | (with_reducible refine Kd.C_alloc ?_ _) | (with_reducible refine Kd.C_drewN ?_ _) | (with_reducible refine Kd.C_drew ?_))); (case side2 => exact (Kd.N_reads' HO656.out).2.1); rintro e w6 ⟨rfl, hb⟩; refine ⟨_, rfl, ?_⟩; have n0_ := Aside0.mk (Kd.V_below (by (with_reducible repeat (first | apply Kd.V_alloc | apply Kd.V_drewN | apply Kd.V_drew)); exact HO0.out) hb); have n1_ := Aside0.mk (Kd.N_below (by (with_reducible repeat (first | apply Kd.N_alloc | apply Kd.N_drewN | apply Kd.N_drew)); exact HO656.out) hb); have n2_ := Aside0.mk (below_step (by repeat (first | (with_reducible first | exact HB.out | apply below_alloc | apply pw_below_drewN | apply below_drew1) | exact HB.out)) hb); clear HO0; clear HO656; clear HB; have HO0 := n0_; have HO656 := n1_; have HB := n2_; clear n0_ n1_ n2_; (try clear hb); (try clear hb2); (try clear hk); (try clear hi)))
  go_ret
  exact ⟨by first | rfl | (simp [errW_none, errW_some] <;> rfl) | (simp [*, errW_none, errW_some] <;> rfl), by repeat (first | (with_reducible first | exact HB.out | apply below_alloc | apply pw_below_drewN | apply below_drew1) | exact HB.out)⟩

end Go.Proofs.Ytepjhdblmghckaa.Q
namespace Go.Proofs.Ytepjhdblmghckaa.G
end Go.Proofs.Ytepjhdblmghckaa.G
namespace Go.Proofs.Ytepjhdblmghckaa.Q
set_option linter.unusedVariables false
set_option linter.unusedSimpArgs false
set_option linter.unusedSectionVars false
open Go.Proofs.Ytepjhdblmghckaa.G
open Go.RowKit Go.Proofs.YtepjhdblmghckaaW.PrintWords Go.Proofs.YtepjhdblmghckaaW.PrintLast Go.Proofs.YtepjhdblmghckaaW.PrintMore
attribute [local go_sem] max2_int min2_int max_two min_two max_three min_three max_four min_four   -- for this text's walks alone

/-! ### bibelotlaw07_ints: function 29 -/
def bibelotlaw07_ints.l0 : Nat → List Int → List Int → Int → Option (Bool)
  | 0, _, _, _ => none
  | k + 1, x0, x1, x5 => if x5 < (x0.length : Int) then (if 0 ≤ x5 then (if x5 < (x1.length : Int) then (if (rd x0 x5) = (rd x1 x5) then (bibelotlaw07_ints.l0 k x0 x1 (wrap64 (x5 + 1))) else (some false)) else (none)) else (none)) else (some true)
def bibelotlaw07_ints.f (k : Nat) (l0 : List Int) (l1 : List Int) : Option (Bool) := if (l0.length : Int) = (l1.length : Int) then (bibelotlaw07_ints.l0 k l0 l1 0) else (some false)
theorem bibelotlaw07_ints.mono_l : ∀ k, (∀ y0 y1 y2, LeO (bibelotlaw07_ints.l0 k y0 y1 y2) (bibelotlaw07_ints.l0 (k + 1) y0 y1 y2))
  | 0 => fun _ _ _ r h => by simp [bibelotlaw07_ints.l0] at h
  | k + 1 => by
    have ih0 := bibelotlaw07_ints.mono_l k
    · intro y0 y1 y2
      unfold bibelotlaw07_ints.l0
      repeat' first
      | (with_reducible exact ih0 _ _ _)
      | (with_reducible exact LeO.refl _)
      | (with_reducible exact LeO.none _)
      | (with_reducible refine LeO.ite ?_ ?_)
      | (with_reducible refine LeO.bind ?_ (fun _ => ?_))
      | exact ih0 _ _ _
      | exact LeO.none _
      | refine LeO.ite ?_ ?_
      | refine LeO.bind ?_ (fun _ => ?_)
theorem bibelotlaw07_ints.mono : ∀ a0 a1 k, LeO (bibelotlaw07_ints.f k a0 a1) (bibelotlaw07_ints.f (k + 1) a0 a1) := by
  intro a0 a1 k
  have ih0 := bibelotlaw07_ints.mono_l k
  unfold bibelotlaw07_ints.f
  repeat' first
      | (with_reducible exact ih0 _ _ _)
      | (with_reducible exact LeO.refl _)
      | (with_reducible exact LeO.none _)
      | (with_reducible refine LeO.ite ?_ ?_)
      | (with_reducible refine LeO.bind ?_ (fun _ => ?_))
      | exact ih0 _ _ _
      | exact LeO.none _
      | refine LeO.ite ?_ ?_
      | refine LeO.bind ?_ (fun _ => ?_)
set_option maxHeartbeats 8000000 in
set_option maxRecDepth 100000 in
theorem bibelotlaw07_ints.calls (k : Nat) (A0 : Option Addr) (c0 : Nat) (l0 : List Int) (A1 : Option Addr) (c1 : Nat) (l1 : List Int) (r : Bool) (w : World) (hr0 : Kd.C (Kd.int .i64) w A0 l0.length l0) (hc0 : l0.length ≤ c0) (hr1 : Kd.C (Kd.int .i64) w A1 l1.length l1) (hc1 : l1.length ≤ c1) (h : bibelotlaw07_ints.f k l0 l1 = some r) :
    Calls Try.prog 29 #[.slice A0 l0.length c0, .slice A1 l1.length c1] w fun e w' => e = .returned (.bool r) ∧ Drawn0 w w' := by
  have HR0 := Aside0.mk hr0
  have HC0 := Aside0.mk hc0
  clear hr0 hc0
  have HR1 := Aside0.mk hr1
  have HC1 := Aside0.mk hc1
  clear hr1 hc1
  have H : (if (l0.length : Int) = (l1.length : Int) then (bibelotlaw07_ints.l0 k l0 l1 0) else (some false)) = some r := h
  clear h
  by_cases c3 : (l0.length : Int) = (l1.length : Int)
  · rw [if_pos c3] at H
    have c3b0 : ((l0.length : Int) == (l1.length : Int)) = true := beq_iff_eq.mpr c3
    have c3b1 : ((l0.length : Int) != (l1.length : Int)) = false := bne_eq_false_iff_eq.mpr c3
    have c3b2 : (l0.length == l1.length) = true := by first | simpa using c3 | (simp at c3 ⊢; omega)
    clear c3
    have H' := Aside0.mk H
    clear H
    go_enter Try.func29, Try.ntmps29
    go_wp2
    repeat (go_quiet (fail); try go_wp2)
    go_loopg [5] k (fun kq v5 w' => ∃ (x5_1 : Int), v5 = .int .i64 x5_1 ∧ Aside0 (bibelotlaw07_ints.l0 kq l0 l1 x5_1 = some r) ∧ Aside0 (kq ≤ k) ∧ Drawn0 w w')
    case atStart => exact ⟨(0), (by first | rfl | (simp; done) | (simp [*]; done)), H', ⟨Nat.le_refl _⟩, by repeat (first | exact Drawn0.refl _ | apply Drawn0.step)⟩
    case round =>
      clear H'
      try clear c1
      try clear c2
      try clear p2
      try clear c3
      try clear c3b0
      try clear c3b1
      try clear c3b2
      obtain ⟨x5_1, rfl, HA, HK1, ⟨m1, rfl⟩⟩ := hrel
      cases gk with
      | zero => exact absurd HA.out (by simp [bibelotlaw07_ints.l0])
      | succ k1 =>
        have H := HA.out
        clear HA
        simp only [bibelotlaw07_ints.l0] at H
        by_cases c4 : x5_1 < (l0.length : Int)
        · rw [if_pos c4] at H
          have c4b0 : decide (x5_1 < (l0.length : Int)) = true := decide_eq_true c4
          clear c4
          by_cases c5 : 0 ≤ x5_1
          · rw [if_pos c5] at H
            have c5b0 : decide (0 ≤ x5_1) = true := decide_eq_true c5
            clear c5
            by_cases c6 : x5_1 < (l1.length : Int)
            · rw [if_pos c6] at H
              have c6b0 : decide (x5_1 < (l1.length : Int)) = true := decide_eq_true c6
              clear c6
              by_cases c7 : (rd l0 x5_1) = (rd l1 x5_1)
              · rw [if_pos c7] at H
                have c7b0 : ((rd l0 x5_1) == (rd l1 x5_1)) = true := beq_iff_eq.mpr c7
                have c7b1 : ((rd l0 x5_1) != (rd l1 x5_1)) = false := bne_eq_false_iff_eq.mpr c7
                clear c7
                have H' := Aside0.mk H
                clear H
                have p185 : 0 ≤ (x5_1 : Int) := of_decide_eq_true (by first | (with_reducible assumption) | assumption)
                have q185 : x5_1 < (l0.length : Int) := of_decide_eq_true (by first | (with_reducible assumption) | assumption)
                obtain ⟨ad185, e185, hx185_0⟩ := Kd.at_int HR0.out x5_1 p185 q185
                cases e185
                replace p185 := eq_true p185
                replace q185 := eq_true q185
                have p186 : 0 ≤ (x5_1 : Int) := of_decide_eq_true (by first | (with_reducible assumption) | assumption)
                have q186 : x5_1 < (l1.length : Int) := of_decide_eq_true (by first | (with_reducible assumption) | assumption)
                obtain ⟨ad186, e186, hx186_0⟩ := Kd.at_int HR1.out x5_1 p186 q186
                cases e186
                replace p186 := eq_true p186
                replace q186 := eq_true q186
                go_wp2
                repeat (go_quiet (fail); try go_wp2)
                go_roundg k1
                case measure => have := HK1.out; omega
                case rel => exact ⟨(wrap64 (x5_1 + 1)), (by first | rfl | (simp; done) | (simp [*]; done)), H', ⟨by have := HK1.out; omega⟩, by repeat (first | exact Drawn0.refl _ | apply Drawn0.step)⟩
              · rw [if_neg c7] at H
                have c7b0 : ((rd l0 x5_1) == (rd l1 x5_1)) = false := beq_eq_false_iff_ne.mpr c7
                have c7b1 : ((rd l0 x5_1) != (rd l1 x5_1)) = true := bne_iff_ne.mpr c7
                obtain rfl := Option.some.inj H
                have p185 : 0 ≤ (x5_1 : Int) := of_decide_eq_true (by first | (with_reducible assumption) | assumption)
                have q185 : x5_1 < (l0.length : Int) := of_decide_eq_true (by first | (with_reducible assumption) | assumption)
                obtain ⟨ad185, e185, hx185_0⟩ := Kd.at_int HR0.out x5_1 p185 q185
                cases e185
                replace p185 := eq_true p185
                replace q185 := eq_true q185
                have p186 : 0 ≤ (x5_1 : Int) := of_decide_eq_true (by first | (with_reducible assumption) | assumption)
                have q186 : x5_1 < (l1.length : Int) := of_decide_eq_true (by first | (with_reducible assumption) | assumption)
                obtain ⟨ad186, e186, hx186_0⟩ := Kd.at_int HR1.out x5_1 p186 q186
                cases e186
                replace p186 := eq_true p186
                replace q186 := eq_true q186
                go_wp2
                repeat (go_quiet (fail); try go_wp2)
                go_ret
                exact ⟨by first | rfl | (simp; done) | (simp [*]; done), by repeat (first | exact Drawn0.refl _ | apply Drawn0.step)⟩
            · rw [if_neg c6] at H
              exact absurd H (by simp)
          · rw [if_neg c5] at H
            exact absurd H (by simp)
        · rw [if_neg c4] at H
          have c4b0 : decide (x5_1 < (l0.length : Int)) = false := decide_eq_false c4
          clear c4
          obtain rfl := Option.some.inj H
          go_wp2
          repeat (go_quiet (fail); try go_wp2)
          go_ret
          exact ⟨by first | rfl | (simp; done) | (simp [*]; done), by repeat (first | exact Drawn0.refl _ | apply Drawn0.step)⟩
  · rw [if_neg c3] at H
    have c3b0 : ((l0.length : Int) == (l1.length : Int)) = false := beq_eq_false_iff_ne.mpr c3
    have c3b1 : ((l0.length : Int) != (l1.length : Int)) = true := bne_iff_ne.mpr c3
    have c3b2 : (l0.length == l1.length) = false := by first | simpa using c3 | (simp at c3 ⊢; omega)
    obtain rfl := Option.some.inj H
    go_enter Try.func29, Try.ntmps29
    go_wp2
    repeat (go_quiet (fail); try go_wp2)
    go_ret
    exact ⟨by first | rfl | (simp; done) | (simp [*]; done), by repeat (first | exact Drawn0.refl _ | apply Drawn0.step)⟩

end Go.Proofs.Ytepjhdblmghckaa.Q
namespace Go.Proofs.Ytepjhdblmghckaa.G
end Go.Proofs.Ytepjhdblmghckaa.G
namespace Go.Proofs.Ytepjhdblmghckaa.Q
set_option linter.unusedVariables false
set_option linter.unusedSimpArgs false
set_option linter.unusedSectionVars false
open Go.Proofs.Ytepjhdblmghckaa.G
open Go.RowKit Go.Proofs.YtepjhdblmghckaaW.PrintWords Go.Proofs.YtepjhdblmghckaaW.PrintLast Go.Proofs.YtepjhdblmghckaaW.PrintMore
attribute [local go_sem] max2_int min2_int max_two min_two max_three min_three max_four min_four   -- for this text's walks alone

/-! ### bibelotlaw07_many: function 21 -/
def bibelotlaw07_many.f (a0 : Int) (a1 : Int) : Option (Int) := if (IntKind.u64.wrap (a1)) = 0 then (none) else (some (wrap64 (1 + (wrap64 (Int.tmod (IntKind.u64.wrap (a0)) (IntKind.u64.wrap (a1)))))))
set_option maxHeartbeats 8000000 in
set_option maxRecDepth 100000 in
theorem bibelotlaw07_many.calls (a0 : Int) (a1 : Int) (r : Int) (w : World) (h : bibelotlaw07_many.f a0 a1 = some r) :
    Calls Try.prog 21 #[.int .i64 a0, .int .i64 a1] w fun e w' => e = .returned (.int .i64 r) ∧ Drawn0 w w' := by
  have H : (if (IntKind.u64.wrap (a1)) = 0 then (none) else (some (wrap64 (1 + (wrap64 (Int.tmod (IntKind.u64.wrap (a0)) (IntKind.u64.wrap (a1)))))))) = some r := h
  clear h
  by_cases c3 : (IntKind.u64.wrap (a1)) = 0
  · rw [if_pos c3] at H
    exact absurd H (by simp)
  · rw [if_neg c3] at H
    have c3b0 : ((IntKind.u64.wrap (a1)) == 0) = false := beq_eq_false_iff_ne.mpr c3
    have c3b1 : ((IntKind.u64.wrap (a1)) != 0) = true := bne_iff_ne.mpr c3
    obtain rfl := Option.some.inj H
    go_enter Try.func21, Try.ntmps21
    go_wp2
    go_ret
    exact ⟨by first | rfl | (simp; done) | (simp [*]; done), by repeat (first | exact Drawn0.refl _ | apply Drawn0.step)⟩

end Go.Proofs.Ytepjhdblmghckaa.Q
namespace Go.Proofs.Ytepjhdblmghckaa.G
end Go.Proofs.Ytepjhdblmghckaa.G
namespace Go.Proofs.Ytepjhdblmghckaa.Q
set_option linter.unusedVariables false
set_option linter.unusedSimpArgs false
set_option linter.unusedSectionVars false
open Go.Proofs.Ytepjhdblmghckaa.G
open Go.RowKit Go.Proofs.YtepjhdblmghckaaW.PrintWords Go.Proofs.YtepjhdblmghckaaW.PrintLast Go.Proofs.YtepjhdblmghckaaW.PrintMore
attribute [local go_sem] max2_int min2_int max_two min_two max_three min_three max_four min_four   -- for this text's walks alone

/-! ### bibelotref07_Flip: function 34 -/
def bibelotref07_Flip.l0 : Nat → List Int → Int → Bool → List Int → Int → Option (List Int)
  | 0, _, _, _, _, _ => none
  | k + 1, x0, x1, x2, x7, x8 => if x8 < (x0.length : Int) then (if 0 ≤ x8 then (if x8 < x1 then (if 0 ≤ (wrap64 ((wrap64 (x1 - 1)) - x8)) then (if (wrap64 ((wrap64 (x1 - 1)) - x8)) < (x0.length : Int) then (if x2 = true then (if x7.length < 17592186044416 then (bibelotref07_Flip.l0 k x0 x1 x2 (x7 ++ [wrap64 (-(rd x0 (wrap64 ((wrap64 (x1 - 1)) - x8))))]) (wrap64 (x8 + 1))) else (none)) else (if x7.length < 17592186044416 then (bibelotref07_Flip.l0 k x0 x1 x2 (x7 ++ [rd x0 (wrap64 ((wrap64 (x1 - 1)) - x8))]) (wrap64 (x8 + 1))) else (none))) else (none)) else (none)) else (if x7.length < 17592186044416 then (bibelotref07_Flip.l0 k x0 x1 x2 (x7 ++ [rd x0 x8]) (wrap64 (x8 + 1))) else (none))) else (none)) else (some x7)
def bibelotref07_Flip.f (k : Nat) (l0 : List Int) (a1 : Int) (a2 : Bool) : Option (List Int) := bibelotref07_Flip.l0 k l0 a1 a2 ([] : List Int) 0
theorem bibelotref07_Flip.mono_l : ∀ k, (∀ y0 y1 y2 y3 y4, LeO (bibelotref07_Flip.l0 k y0 y1 y2 y3 y4) (bibelotref07_Flip.l0 (k + 1) y0 y1 y2 y3 y4))
  | 0 => fun _ _ _ _ _ r h => by simp [bibelotref07_Flip.l0] at h
  | k + 1 => by
    have ih0 := bibelotref07_Flip.mono_l k
    · intro y0 y1 y2 y3 y4
      unfold bibelotref07_Flip.l0
      repeat' first
      | (with_reducible exact ih0 _ _ _ _ _)
      | (with_reducible exact LeO.refl _)
      | (with_reducible exact LeO.none _)
      | (with_reducible refine LeO.ite ?_ ?_)
      | (with_reducible refine LeO.bind ?_ (fun _ => ?_))
      | exact ih0 _ _ _ _ _
      | exact LeO.none _
      | refine LeO.ite ?_ ?_
      | refine LeO.bind ?_ (fun _ => ?_)
theorem bibelotref07_Flip.mono : ∀ a0 a1 a2 k, LeO (bibelotref07_Flip.f k a0 a1 a2) (bibelotref07_Flip.f (k + 1) a0 a1 a2) := by
  intro a0 a1 a2 k
  have ih0 := bibelotref07_Flip.mono_l k
  unfold bibelotref07_Flip.f
  repeat' first
      | (with_reducible exact ih0 _ _ _ _ _)
      | (with_reducible exact LeO.refl _)
      | (with_reducible exact LeO.none _)
      | (with_reducible refine LeO.ite ?_ ?_)
      | (with_reducible refine LeO.bind ?_ (fun _ => ?_))
      | exact ih0 _ _ _ _ _
      | exact LeO.none _
      | refine LeO.ite ?_ ?_
      | refine LeO.bind ?_ (fun _ => ?_)
set_option maxHeartbeats 8000000 in
set_option maxRecDepth 100000 in
theorem bibelotref07_Flip.calls (k : Nat) (A0 : Option Addr) (c0 : Nat) (l0 : List Int) (a1 : Int) (a2 : Bool) (r : List Int) (w : World) (hr0 : Kd.C (Kd.int .i64) w A0 l0.length l0) (hc0 : l0.length ≤ c0) (h : bibelotref07_Flip.f k l0 a1 a2 = some r) :
    Calls Try.prog 34 #[.slice A0 l0.length c0, .int .i64 a1, .bool a2] w fun e w' => ∃ v0_ : Value, e = .returned (v0_) ∧ Kd.R (Kd.int .i64) 3 w' w.heap.size (fun _ => True) v0_ r ∧ Below w.heap.size w w' := by
  have HR0 := Aside0.mk hr0
  have HC0 := Aside0.mk hc0
  clear hr0 hc0
  have HB := Aside0.mk (Below.refl w.heap.size w)
  have H : (bibelotref07_Flip.l0 k l0 a1 a2 ([] : List Int) 0) = some r := h
  clear h
  have H' := Aside0.mk H
  clear H
  go_enter Try.func34, Try.ntmps34
  go_wp2
  go_loopg [7, 8] k (fun kq v7 v8 w' => ∃ (x7_1 : List Int) (x8_1 : Int), v8 = .int .i64 x8_1 ∧ Aside0 (bibelotref07_Flip.l0 kq l0 a1 a2 x7_1 x8_1 = some r) ∧ Aside0 (kq ≤ k) ∧ Aside0 (Kd.R (Kd.int .i64) 3 w' w.heap.size (fun _ => True) v7 x7_1) ∧ Aside0 (Below w.heap.size w w'))
  case atStart => exact ⟨(([] : List Int)), (0), (by first | rfl | (simp; done) | (simp [*]; done)), H', ⟨Nat.le_refl _⟩, ⟨by first | exact Kd.R_nil _ _ _ _ _ | exact Kd.N_nil _ _ _ _ _ | exact Kd.V_nil _ _ _ _ _ | exact Kd.Q_nil _ _ _ _ _ | exact Kd.S_nil _ _ _ _ _⟩, ⟨by repeat (first | (with_reducible first | exact HB.out | apply below_alloc | apply pw_below_drewN | apply below_drew1) | exact HB.out)⟩⟩
  case round =>
    clear H'
    try clear p2
    try clear c3
    obtain ⟨x7_1, x8_1, rfl, HA, HK1, HO_7, HB⟩ := hrel
    cases gk with
    | zero => exact absurd HA.out (by simp [bibelotref07_Flip.l0])
    | succ k1 =>
      have H := HA.out
      clear HA
      simp only [bibelotref07_Flip.l0] at H
      by_cases c4 : x8_1 < (l0.length : Int)
      · rw [if_pos c4] at H
        have c4b0 : decide (x8_1 < (l0.length : Int)) = true := decide_eq_true c4
        clear c4
        by_cases c5 : 0 ≤ x8_1
        · rw [if_pos c5] at H
          have c5b0 : decide (0 ≤ x8_1) = true := decide_eq_true c5
          clear c5
          by_cases c6 : x8_1 < a1
          · rw [if_pos c6] at H
            have c6b0 : decide (x8_1 < a1) = true := decide_eq_true c6
            clear c6
            obtain ⟨ji7, hji7⟩ : ∃ j_ : Int, (wrap64 ((wrap64 (a1 - 1)) - x8_1)) = j_ := ⟨_, rfl⟩
            replace H : (if 0 ≤ (ji7) then (if (ji7) < (l0.length : Int) then (if a2 = true then (if x7_1.length < 17592186044416 then (bibelotref07_Flip.l0 k1 l0 a1 a2 (x7_1 ++ [wrap64 (-(rd l0 (ji7)))]) (wrap64 (x8_1 + 1))) else (none)) else (if x7_1.length < 17592186044416 then (bibelotref07_Flip.l0 k1 l0 a1 a2 (x7_1 ++ [rd l0 (ji7)]) (wrap64 (x8_1 + 1))) else (none))) else (none)) else (none)) = some r := by first | (rw [hji7] at H; exact H) | (simp only [hji7] at H ⊢; exact H)
            have hji7w : (IntKind.i64.wrap ((wrap64 (a1 - 1)) - x8_1)) = ji7 := (i64_w _).trans hji7
            by_cases c8 : 0 ≤ (ji7)
            · rw [if_pos c8] at H
              have c8b0 : decide (0 ≤ (ji7)) = true := decide_eq_true c8
              clear c8
              by_cases c9 : (ji7) < (l0.length : Int)
              · rw [if_pos c9] at H
                have c9b0 : decide ((ji7) < (l0.length : Int)) = true := decide_eq_true c9
                clear c9
                by_cases c10 : a2 = true
                · subst c10
                  have H1 : (if x7_1.length < 17592186044416 then (bibelotref07_Flip.l0 k1 l0 a1 true (x7_1 ++ [wrap64 (-(rd l0 (ji7)))]) (wrap64 (x8_1 + 1))) else (none)) = some r := by rw [if_pos rfl] at H; exact H
                  clear H
                  have H := H1
                  clear H1
                  by_cases c11 : x7_1.length < 17592186044416
                  · rw [if_pos c11] at H
                    have LMc11 := Aside0.mk c11
                    clear c11
                    obtain ⟨y255, hy255⟩ : ∃ y_ : List Int, y_ = (x7_1 ++ [wrap64 (-(rd l0 (ji7)))]) := ⟨_, rfl⟩
                    replace H : (bibelotref07_Flip.l0 k1 l0 a1 true y255 (wrap64 (x8_1 + 1))) = some r := by first | (rw [hy255]; with_reducible exact H) | (have H2_ := (Option.bind_some _ _).symm.trans H; rw [hy255]; with_reducible exact H2_) | (have H2_ := (Option.bind_some _ _).symm.trans H; with_reducible exact H2_) | with_reducible exact H | (rw [hy255]; exact H) | exact H
                    have Ny255 := Aside0.mk hy255
                    clear hy255
                    have H' := Aside0.mk H
                    clear H
                    have p253 : 0 ≤ (x8_1 : Int) := of_decide_eq_true (by first | (with_reducible assumption) | assumption)
                    have q253 : x8_1 < (l0.length : Int) := of_decide_eq_true (by first | (with_reducible assumption) | assumption)
                    obtain ⟨ad253, e253, hx253_0⟩ := Kd.at_int HR0.out x8_1 p253 q253
                    cases e253
                    replace hx253_0 := (HB.out.cell (World.block_lt_of_cell? w _ hx253_0)).trans hx253_0
                    replace p253 := eq_true p253
                    replace q253 := eq_true q253
                    have p254 : 0 ≤ ((ji7) : Int) := of_decide_eq_true (by first | (with_reducible assumption) | assumption)
                    have q254 : (ji7) < (l0.length : Int) := of_decide_eq_true (by first | (with_reducible assumption) | assumption)
                    obtain ⟨ad254, e254, hx254_0⟩ := Kd.at_int HR0.out (ji7) p254 q254
                    obtain rfl : ad253 = ad254 := (by injection e254)
                    replace hx254_0 := (HB.out.cell (World.block_lt_of_cell? w _ hx254_0)).trans hx254_0
                    replace p254 := eq_true p254
                    replace q254 := eq_true q254
                    go_wp2_with (first | ((with_reducible refine gate_builtin (b := .append) (xs := #[.tmp 33, .tmp 35]) rfl ?_); at_builtin; refine Kd.R_append (Kd.int .i64) (w0 := w) w.heap.size rfl (.tmp 33) (.tmp 35) 22 3 (.int .i64 0) 8 rfl Try.underlying22 info3 rfl (by decide) (by omega) u7 x7_1 (wrap64 (-(rd l0 (ji7)))) [.int .i64 (wrap64 (-(rd l0 (ji7))))] (fun _ => True) (fun _ => False) rfl rfl ?aP (fun _ hk => hk.elim) ?aF ?aO ?aB ?aS ?aL ?_; (case aP => exact rfl); (case aB => exact (by repeat (first | (with_reducible first | exact HB.out | apply below_alloc | apply pw_below_drewN | apply below_drew1) | exact HB.out))); (case aF => exact (fun _ _ => trivial)); (case aO => exact (by (with_reducible repeat (first | apply Kd.R_alloc | apply Kd.R_drewN | apply Kd.R_drew)); exact HO_7.out)); (case aS => exact (below_size (by repeat (first | (with_reducible first | exact HB.out | apply below_alloc | apply pw_below_drewN | apply below_drew1) | exact HB.out)))); (case aL => have := LMc11.out; omega); intro v256 w12 ho hb hg hat; rw [← Ny255.out] at ho; have n0_ := Aside0.mk (hb); have n1_ := Aside0.mk (ho); clear HB; clear HO_7; have HB := n0_; have HO257 := n1_; clear n0_ n1_; clear ho hb hg hat))
                    go_roundg k1
                    case measure => have := HK1.out; omega
                    case rel => exact ⟨(y255), (wrap64 (x8_1 + 1)), (by first | rfl | (simp; done) | (simp [*]; done)), H', ⟨by have := HK1.out; omega⟩, ⟨by (with_reducible repeat (first | apply Kd.R_alloc | apply Kd.R_drewN | apply Kd.R_drew)); exact HO257.out⟩, ⟨by repeat (first | (with_reducible first | exact HB.out | apply below_alloc | apply pw_below_drewN | apply below_drew1) | exact HB.out)⟩⟩
                  · rw [if_neg c11] at H
                    exact absurd H (by simp)
                · replace c10 := Bool.eq_false_iff.mpr c10
                  subst c10
                  have H1 : (if x7_1.length < 17592186044416 then (bibelotref07_Flip.l0 k1 l0 a1 false (x7_1 ++ [rd l0 (ji7)]) (wrap64 (x8_1 + 1))) else (none)) = some r := by rw [if_neg (show ¬ (false = true) by decide)] at H; exact H
                  clear H
                  have H := H1
                  clear H1
                  by_cases c13 : x7_1.length < 17592186044416
                  · rw [if_pos c13] at H
                    have LMc13 := Aside0.mk c13
                    clear c13
                    obtain ⟨y258, hy258⟩ : ∃ y_ : List Int, y_ = (x7_1 ++ [rd l0 (ji7)]) := ⟨_, rfl⟩
                    replace H : (bibelotref07_Flip.l0 k1 l0 a1 false y258 (wrap64 (x8_1 + 1))) = some r := by first | (rw [hy258]; with_reducible exact H) | (have H2_ := (Option.bind_some _ _).symm.trans H; rw [hy258]; with_reducible exact H2_) | (have H2_ := (Option.bind_some _ _).symm.trans H; with_reducible exact H2_) | with_reducible exact H | (rw [hy258]; exact H) | exact H
                    have Ny258 := Aside0.mk hy258
                    clear hy258
                    have H' := Aside0.mk H
                    clear H
                    have p253 : 0 ≤ (x8_1 : Int) := of_decide_eq_true (by first | (with_reducible assumption) | assumption)
                    have q253 : x8_1 < (l0.length : Int) := of_decide_eq_true (by first | (with_reducible assumption) | assumption)
                    obtain ⟨ad253, e253, hx253_0⟩ := Kd.at_int HR0.out x8_1 p253 q253
                    cases e253
                    replace hx253_0 := (HB.out.cell (World.block_lt_of_cell? w _ hx253_0)).trans hx253_0
                    replace p253 := eq_true p253
                    replace q253 := eq_true q253
                    have p254 : 0 ≤ ((ji7) : Int) := of_decide_eq_true (by first | (with_reducible assumption) | assumption)
                    have q254 : (ji7) < (l0.length : Int) := of_decide_eq_true (by first | (with_reducible assumption) | assumption)
                    obtain ⟨ad254, e254, hx254_0⟩ := Kd.at_int HR0.out (ji7) p254 q254
                    obtain rfl : ad253 = ad254 := (by injection e254)
                    replace hx254_0 := (HB.out.cell (World.block_lt_of_cell? w _ hx254_0)).trans hx254_0
                    replace p254 := eq_true p254
                    replace q254 := eq_true q254
                    go_wp2_with (first | ((with_reducible refine gate_builtin (b := .append) (xs := #[.tmp 33, .tmp 35]) rfl ?_); at_builtin; refine Kd.R_append (Kd.int .i64) (w0 := w) w.heap.size rfl (.tmp 33) (.tmp 35) 22 3 (.int .i64 0) 8 rfl Try.underlying22 info3 rfl (by decide) (by omega) u7 x7_1 (rd l0 (ji7)) [.int .i64 (rd l0 (ji7))] (fun _ => True) (fun _ => False) rfl rfl ?aP (fun _ hk => hk.elim) ?aF ?aO ?aB ?aS ?aL ?_; (case aP => exact rfl); (case aB => exact (by repeat (first | (with_reducible first | exact HB.out | apply below_alloc | apply pw_below_drewN | apply below_drew1) | exact HB.out))); (case aF => exact (fun _ _ => trivial)); (case aO => exact (by (with_reducible repeat (first | apply Kd.R_alloc | apply Kd.R_drewN | apply Kd.R_drew)); exact HO_7.out)); (case aS => exact (below_size (by repeat (first | (with_reducible first | exact HB.out | apply below_alloc | apply pw_below_drewN | apply below_drew1) | exact HB.out)))); (case aL => have := LMc13.out; omega); intro v259 w14 ho hb hg hat; rw [← Ny258.out] at ho; have n0_ := Aside0.mk (hb); have n1_ := Aside0.mk (ho); clear HB; clear HO_7; have HB := n0_; have HO260 := n1_; clear n0_ n1_; clear ho hb hg hat))
                    go_roundg k1
                    case measure => have := HK1.out; omega
                    case rel => exact ⟨(y258), (wrap64 (x8_1 + 1)), (by first | rfl | (simp; done) | (simp [*]; done)), H', ⟨by have := HK1.out; omega⟩, ⟨by (with_reducible repeat (first | apply Kd.R_alloc | apply Kd.R_drewN | apply Kd.R_drew)); exact HO260.out⟩, ⟨by repeat (first | (with_reducible first | exact HB.out | apply below_alloc | apply pw_below_drewN | apply below_drew1) | exact HB.out)⟩⟩
                  · rw [if_neg c13] at H
                    exact absurd H (by simp)
              · rw [if_neg c9] at H
                exact absurd H (by simp)
            · rw [if_neg c8] at H
              exact absurd H (by simp)
          · rw [if_neg c6] at H
            have c6b0 : decide (x8_1 < a1) = false := decide_eq_false c6
            clear c6
            by_cases c15 : x7_1.length < 17592186044416
            · rw [if_pos c15] at H
              have LMc15 := Aside0.mk c15
              clear c15
              obtain ⟨y261, hy261⟩ : ∃ y_ : List Int, y_ = (x7_1 ++ [rd l0 x8_1]) := ⟨_, rfl⟩
              replace H : (bibelotref07_Flip.l0 k1 l0 a1 a2 y261 (wrap64 (x8_1 + 1))) = some r := by first | (rw [hy261]; with_reducible exact H) | (have H2_ := (Option.bind_some _ _).symm.trans H; rw [hy261]; with_reducible exact H2_) | (have H2_ := (Option.bind_some _ _).symm.trans H; with_reducible exact H2_) | with_reducible exact H | (rw [hy261]; exact H) | exact H
              have Ny261 := Aside0.mk hy261
              clear hy261
              have H' := Aside0.mk H
              clear H
              have p253 : 0 ≤ (x8_1 : Int) := of_decide_eq_true (by first | (with_reducible assumption) | assumption)
              have q253 : x8_1 < (l0.length : Int) := of_decide_eq_true (by first | (with_reducible assumption) | assumption)
              obtain ⟨ad253, e253, hx253_0⟩ := Kd.at_int HR0.out x8_1 p253 q253
              cases e253
              replace hx253_0 := (HB.out.cell (World.block_lt_of_cell? w _ hx253_0)).trans hx253_0
              replace p253 := eq_true p253
              replace q253 := eq_true q253
              go_wp2_with (first | ((with_reducible refine gate_builtin (b := .append) (xs := #[.tmp 33, .tmp 35]) rfl ?_); at_builtin; refine Kd.R_append (Kd.int .i64) (w0 := w) w.heap.size rfl (.tmp 33) (.tmp 35) 22 3 (.int .i64 0) 8 rfl Try.underlying22 info3 rfl (by decide) (by omega) u7 x7_1 (rd l0 x8_1) [.int .i64 (rd l0 x8_1)] (fun _ => True) (fun _ => False) rfl rfl ?aP (fun _ hk => hk.elim) ?aF ?aO ?aB ?aS ?aL ?_; (case aP => exact rfl); (case aB => exact (by repeat (first | (with_reducible first | exact HB.out | apply below_alloc | apply pw_below_drewN | apply below_drew1) | exact HB.out))); (case aF => exact (fun _ _ => trivial)); (case aO => exact (by (with_reducible repeat (first | apply Kd.R_alloc | apply Kd.R_drewN | apply Kd.R_drew)); exact HO_7.out)); (case aS => exact (below_size (by repeat (first | (with_reducible first | exact HB.out | apply below_alloc | apply pw_below_drewN | apply below_drew1) | exact HB.out)))); (case aL => have := LMc15.out; omega); intro v262 w16 ho hb hg hat; rw [← Ny261.out] at ho; have n0_ := Aside0.mk (hb); have n1_ := Aside0.mk (ho); clear HB; clear HO_7; have HB := n0_; have HO263 := n1_; clear n0_ n1_; clear ho hb hg hat))
              go_roundg k1
              case measure => have := HK1.out; omega
              case rel => exact ⟨(y261), (wrap64 (x8_1 + 1)), (by first | rfl | (simp; done) | (simp [*]; done)), H', ⟨by have := HK1.out; omega⟩, ⟨by (with_reducible repeat (first | apply Kd.R_alloc | apply Kd.R_drewN | apply Kd.R_drew)); exact HO263.out⟩, ⟨by repeat (first | (with_reducible first | exact HB.out | apply below_alloc | apply pw_below_drewN | apply below_drew1) | exact HB.out)⟩⟩
            · rw [if_neg c15] at H
              exact absurd H (by simp)
        · rw [if_neg c5] at H
          exact absurd H (by simp)
      · rw [if_neg c4] at H
        have c4b0 : decide (x8_1 < (l0.length : Int)) = false := decide_eq_false c4
        clear c4
        obtain rfl := Option.some.inj H
        go_wp2
        go_ret
        exact ⟨_, by first | rfl | (simp [errW_none, errW_some] <;> rfl) | (simp [*, errW_none, errW_some] <;> rfl), by (with_reducible repeat (first | apply Kd.R_alloc | apply Kd.R_drewN | apply Kd.R_drew)); exact HO_7.out, by repeat (first | (with_reducible first | exact HB.out | apply below_alloc | apply pw_below_drewN | apply below_drew1) | exact HB.out)⟩

end Go.Proofs.Ytepjhdblmghckaa.Q
namespace Go.Proofs.Ytepjhdblmghckaa.G
end Go.Proofs.Ytepjhdblmghckaa.G
namespace Go.Proofs.Ytepjhdblmghckaa.Q
set_option linter.unusedVariables false
set_option linter.unusedSimpArgs false
set_option linter.unusedSectionVars false
open Go.Proofs.Ytepjhdblmghckaa.G
open Go.RowKit Go.Proofs.YtepjhdblmghckaaW.PrintWords Go.Proofs.YtepjhdblmghckaaW.PrintLast Go.Proofs.YtepjhdblmghckaaW.PrintMore
attribute [local go_sem] max2_int min2_int max_two min_two max_three min_three max_four min_four   -- for this text's walks alone

/-! ### bibelotref07_Turn: function 46 -/
def bibelotref07_Turn.l0 : Nat → List Int → Int → Int → List Int → Int → Option (List Int)
  | 0, _, _, _, _, _ => none
  | k + 1, x0, x1, x2, x7, x8 => if x8 < (x0.length : Int) then (if 0 ≤ x8 then (if x8 ≥ x1 then (if x8 ≤ x2 then (if 0 ≤ (wrap64 ((wrap64 (x1 + x2)) - x8)) then (if (wrap64 ((wrap64 (x1 + x2)) - x8)) < (x0.length : Int) then (if x7.length < 17592186044416 then (bibelotref07_Turn.l0 k x0 x1 x2 (x7 ++ [wrap64 (-(rd x0 (wrap64 ((wrap64 (x1 + x2)) - x8))))]) (wrap64 (x8 + 1))) else (none)) else (none)) else (none)) else (if x7.length < 17592186044416 then (bibelotref07_Turn.l0 k x0 x1 x2 (x7 ++ [rd x0 x8]) (wrap64 (x8 + 1))) else (none))) else (if x7.length < 17592186044416 then (bibelotref07_Turn.l0 k x0 x1 x2 (x7 ++ [rd x0 x8]) (wrap64 (x8 + 1))) else (none))) else (none)) else (some x7)
def bibelotref07_Turn.f (k : Nat) (l0 : List Int) (a1 : Int) (a2 : Int) : Option (List Int) := bibelotref07_Turn.l0 k l0 a1 a2 ([] : List Int) 0
theorem bibelotref07_Turn.mono_l : ∀ k, (∀ y0 y1 y2 y3 y4, LeO (bibelotref07_Turn.l0 k y0 y1 y2 y3 y4) (bibelotref07_Turn.l0 (k + 1) y0 y1 y2 y3 y4))
  | 0 => fun _ _ _ _ _ r h => by simp [bibelotref07_Turn.l0] at h
  | k + 1 => by
    have ih0 := bibelotref07_Turn.mono_l k
    · intro y0 y1 y2 y3 y4
      unfold bibelotref07_Turn.l0
      repeat' first
      | (with_reducible exact ih0 _ _ _ _ _)
      | (with_reducible exact LeO.refl _)
      | (with_reducible exact LeO.none _)
      | (with_reducible refine LeO.ite ?_ ?_)
      | (with_reducible refine LeO.bind ?_ (fun _ => ?_))
      | exact ih0 _ _ _ _ _
      | exact LeO.none _
      | refine LeO.ite ?_ ?_
      | refine LeO.bind ?_ (fun _ => ?_)
theorem bibelotref07_Turn.mono : ∀ a0 a1 a2 k, LeO (bibelotref07_Turn.f k a0 a1 a2) (bibelotref07_Turn.f (k + 1) a0 a1 a2) := by
  intro a0 a1 a2 k
  have ih0 := bibelotref07_Turn.mono_l k
  unfold bibelotref07_Turn.f
  repeat' first
      | (with_reducible exact ih0 _ _ _ _ _)
      | (with_reducible exact LeO.refl _)
      | (with_reducible exact LeO.none _)
      | (with_reducible refine LeO.ite ?_ ?_)
      | (with_reducible refine LeO.bind ?_ (fun _ => ?_))
      | exact ih0 _ _ _ _ _
      | exact LeO.none _
      | refine LeO.ite ?_ ?_
      | refine LeO.bind ?_ (fun _ => ?_)
set_option maxHeartbeats 8000000 in
set_option maxRecDepth 100000 in
theorem bibelotref07_Turn.calls (k : Nat) (A0 : Option Addr) (c0 : Nat) (l0 : List Int) (a1 : Int) (a2 : Int) (r : List Int) (w : World) (hr0 : Kd.C (Kd.int .i64) w A0 l0.length l0) (hc0 : l0.length ≤ c0) (h : bibelotref07_Turn.f k l0 a1 a2 = some r) :
    Calls Try.prog 46 #[.slice A0 l0.length c0, .int .i64 a1, .int .i64 a2] w fun e w' => ∃ v0_ : Value, e = .returned (v0_) ∧ Kd.R (Kd.int .i64) 3 w' w.heap.size (fun _ => True) v0_ r ∧ Below w.heap.size w w' := by
  have HR0 := Aside0.mk hr0
  have HC0 := Aside0.mk hc0
  clear hr0 hc0
  have HB := Aside0.mk (Below.refl w.heap.size w)
  have H : (bibelotref07_Turn.l0 k l0 a1 a2 ([] : List Int) 0) = some r := h
  clear h
  have H' := Aside0.mk H
  clear H
  go_enter Try.func46, Try.ntmps46
  go_wp2
  go_loopg [7, 8] k (fun kq v7 v8 w' => ∃ (x7_1 : List Int) (x8_1 : Int), v8 = .int .i64 x8_1 ∧ Aside0 (bibelotref07_Turn.l0 kq l0 a1 a2 x7_1 x8_1 = some r) ∧ Aside0 (kq ≤ k) ∧ Aside0 (Kd.R (Kd.int .i64) 3 w' w.heap.size (fun _ => True) v7 x7_1) ∧ Aside0 (Below w.heap.size w w'))
  case atStart => exact ⟨(([] : List Int)), (0), (by first | rfl | (simp; done) | (simp [*]; done)), H', ⟨Nat.le_refl _⟩, ⟨by first | exact Kd.R_nil _ _ _ _ _ | exact Kd.N_nil _ _ _ _ _ | exact Kd.V_nil _ _ _ _ _ | exact Kd.Q_nil _ _ _ _ _ | exact Kd.S_nil _ _ _ _ _⟩, ⟨by repeat (first | (with_reducible first | exact HB.out | apply below_alloc | apply pw_below_drewN | apply below_drew1) | exact HB.out)⟩⟩
  case round =>
    clear H'
    try clear p2
    obtain ⟨x7_1, x8_1, rfl, HA, HK1, HO_7, HB⟩ := hrel
    cases gk with
    | zero => exact absurd HA.out (by simp [bibelotref07_Turn.l0])
    | succ k1 =>
      have H := HA.out
      clear HA
      simp only [bibelotref07_Turn.l0] at H
      by_cases c4 : x8_1 < (l0.length : Int)
      · rw [if_pos c4] at H
        have c4b0 : decide (x8_1 < (l0.length : Int)) = true := decide_eq_true c4
        clear c4
        by_cases c5 : 0 ≤ x8_1
        · rw [if_pos c5] at H
          have c5b0 : decide (0 ≤ x8_1) = true := decide_eq_true c5
          clear c5
          by_cases c6 : x8_1 ≥ a1
          · rw [if_pos c6] at H
            have c6b0 : decide (a1 ≤ x8_1) = true := decide_eq_true c6
            clear c6
            by_cases c7 : x8_1 ≤ a2
            · rw [if_pos c7] at H
              have c7b0 : decide (x8_1 ≤ a2) = true := decide_eq_true c7
              clear c7
              obtain ⟨ji8, hji8⟩ : ∃ j_ : Int, (wrap64 ((wrap64 (a1 + a2)) - x8_1)) = j_ := ⟨_, rfl⟩
              replace H : (if 0 ≤ (ji8) then (if (ji8) < (l0.length : Int) then (if x7_1.length < 17592186044416 then (bibelotref07_Turn.l0 k1 l0 a1 a2 (x7_1 ++ [wrap64 (-(rd l0 (ji8)))]) (wrap64 (x8_1 + 1))) else (none)) else (none)) else (none)) = some r := by first | (rw [hji8] at H; exact H) | (simp only [hji8] at H ⊢; exact H)
              have hji8w : (IntKind.i64.wrap ((wrap64 (a1 + a2)) - x8_1)) = ji8 := (i64_w _).trans hji8
              by_cases c9 : 0 ≤ (ji8)
              · rw [if_pos c9] at H
                have c9b0 : decide (0 ≤ (ji8)) = true := decide_eq_true c9
                clear c9
                by_cases c10 : (ji8) < (l0.length : Int)
                · rw [if_pos c10] at H
                  have c10b0 : decide ((ji8) < (l0.length : Int)) = true := decide_eq_true c10
                  clear c10
                  by_cases c11 : x7_1.length < 17592186044416
                  · rw [if_pos c11] at H
                    have LMc11 := Aside0.mk c11
                    clear c11
                    obtain ⟨y435, hy435⟩ : ∃ y_ : List Int, y_ = (x7_1 ++ [wrap64 (-(rd l0 (ji8)))]) := ⟨_, rfl⟩
                    replace H : (bibelotref07_Turn.l0 k1 l0 a1 a2 y435 (wrap64 (x8_1 + 1))) = some r := by first | (rw [hy435]; with_reducible exact H) | (have H2_ := (Option.bind_some _ _).symm.trans H; rw [hy435]; with_reducible exact H2_) | (have H2_ := (Option.bind_some _ _).symm.trans H; with_reducible exact H2_) | with_reducible exact H | (rw [hy435]; exact H) | exact H
                    have Ny435 := Aside0.mk hy435
                    clear hy435
                    have H' := Aside0.mk H
                    clear H
                    have p433 : 0 ≤ (x8_1 : Int) := of_decide_eq_true (by first | (with_reducible assumption) | assumption)
                    have q433 : x8_1 < (l0.length : Int) := of_decide_eq_true (by first | (with_reducible assumption) | assumption)
                    obtain ⟨ad433, e433, hx433_0⟩ := Kd.at_int HR0.out x8_1 p433 q433
                    cases e433
                    replace hx433_0 := (HB.out.cell (World.block_lt_of_cell? w _ hx433_0)).trans hx433_0
                    replace p433 := eq_true p433
                    replace q433 := eq_true q433
                    have p434 : 0 ≤ ((ji8) : Int) := of_decide_eq_true (by first | (with_reducible assumption) | assumption)
                    have q434 : (ji8) < (l0.length : Int) := of_decide_eq_true (by first | (with_reducible assumption) | assumption)
                    obtain ⟨ad434, e434, hx434_0⟩ := Kd.at_int HR0.out (ji8) p434 q434
                    obtain rfl : ad433 = ad434 := (by injection e434)
                    replace hx434_0 := (HB.out.cell (World.block_lt_of_cell? w _ hx434_0)).trans hx434_0
                    replace p434 := eq_true p434
                    replace q434 := eq_true q434
                    go_wp2_with (first | ((with_reducible refine gate_builtin (b := .append) (xs := #[.tmp 37, .tmp 39]) rfl ?_); at_builtin; refine Kd.R_append (Kd.int .i64) (w0 := w) w.heap.size rfl (.tmp 37) (.tmp 39) 22 3 (.int .i64 0) 8 rfl Try.underlying22 info3 rfl (by decide) (by omega) u7 x7_1 (wrap64 (-(rd l0 (ji8)))) [.int .i64 (wrap64 (-(rd l0 (ji8))))] (fun _ => True) (fun _ => False) rfl rfl ?aP (fun _ hk => hk.elim) ?aF ?aO ?aB ?aS ?aL ?_; (case aP => exact rfl); (case aB => exact (by repeat (first | (with_reducible first | exact HB.out | apply below_alloc | apply pw_below_drewN | apply below_drew1) | exact HB.out))); (case aF => exact (fun _ _ => trivial)); (case aO => exact (by (with_reducible repeat (first | apply Kd.R_alloc | apply Kd.R_drewN | apply Kd.R_drew)); exact HO_7.out)); (case aS => exact (below_size (by repeat (first | (with_reducible first | exact HB.out | apply below_alloc | apply pw_below_drewN | apply below_drew1) | exact HB.out)))); (case aL => have := LMc11.out; omega); intro v436 w12 ho hb hg hat; rw [← Ny435.out] at ho; have n0_ := Aside0.mk (hb); have n1_ := Aside0.mk (ho); clear HB; clear HO_7; have HB := n0_; have HO437 := n1_; clear n0_ n1_; clear ho hb hg hat))
                    go_roundg k1
                    case measure => have := HK1.out; omega
                    case rel => exact ⟨(y435), (wrap64 (x8_1 + 1)), (by first | rfl | (simp; done) | (simp [*]; done)), H', ⟨by have := HK1.out; omega⟩, ⟨by (with_reducible repeat (first | apply Kd.R_alloc | apply Kd.R_drewN | apply Kd.R_drew)); exact HO437.out⟩, ⟨by repeat (first | (with_reducible first | exact HB.out | apply below_alloc | apply pw_below_drewN | apply below_drew1) | exact HB.out)⟩⟩
                  · rw [if_neg c11] at H
                    exact absurd H (by simp)
                · rw [if_neg c10] at H
                  exact absurd H (by simp)
              · rw [if_neg c9] at H
                exact absurd H (by simp)
            · rw [if_neg c7] at H
              have c7b0 : decide (x8_1 ≤ a2) = false := decide_eq_false c7
              clear c7
              by_cases c13 : x7_1.length < 17592186044416
              · rw [if_pos c13] at H
                have LMc13 := Aside0.mk c13
                clear c13
                obtain ⟨y438, hy438⟩ : ∃ y_ : List Int, y_ = (x7_1 ++ [rd l0 x8_1]) := ⟨_, rfl⟩
                replace H : (bibelotref07_Turn.l0 k1 l0 a1 a2 y438 (wrap64 (x8_1 + 1))) = some r := by first | (rw [hy438]; with_reducible exact H) | (have H2_ := (Option.bind_some _ _).symm.trans H; rw [hy438]; with_reducible exact H2_) | (have H2_ := (Option.bind_some _ _).symm.trans H; with_reducible exact H2_) | with_reducible exact H | (rw [hy438]; exact H) | exact H
                have Ny438 := Aside0.mk hy438
                clear hy438
                have H' := Aside0.mk H
                clear H
                have p433 : 0 ≤ (x8_1 : Int) := of_decide_eq_true (by first | (with_reducible assumption) | assumption)
                have q433 : x8_1 < (l0.length : Int) := of_decide_eq_true (by first | (with_reducible assumption) | assumption)
                obtain ⟨ad433, e433, hx433_0⟩ := Kd.at_int HR0.out x8_1 p433 q433
                cases e433
                replace hx433_0 := (HB.out.cell (World.block_lt_of_cell? w _ hx433_0)).trans hx433_0
                replace p433 := eq_true p433
                replace q433 := eq_true q433
                go_wp2_with (first | ((with_reducible refine gate_builtin (b := .append) (xs := #[.tmp 37, .tmp 39]) rfl ?_); at_builtin; refine Kd.R_append (Kd.int .i64) (w0 := w) w.heap.size rfl (.tmp 37) (.tmp 39) 22 3 (.int .i64 0) 8 rfl Try.underlying22 info3 rfl (by decide) (by omega) u7 x7_1 (rd l0 x8_1) [.int .i64 (rd l0 x8_1)] (fun _ => True) (fun _ => False) rfl rfl ?aP (fun _ hk => hk.elim) ?aF ?aO ?aB ?aS ?aL ?_; (case aP => exact rfl); (case aB => exact (by repeat (first | (with_reducible first | exact HB.out | apply below_alloc | apply pw_below_drewN | apply below_drew1) | exact HB.out))); (case aF => exact (fun _ _ => trivial)); (case aO => exact (by (with_reducible repeat (first | apply Kd.R_alloc | apply Kd.R_drewN | apply Kd.R_drew)); exact HO_7.out)); (case aS => exact (below_size (by repeat (first | (with_reducible first | exact HB.out | apply below_alloc | apply pw_below_drewN | apply below_drew1) | exact HB.out)))); (case aL => have := LMc13.out; omega); intro v439 w14 ho hb hg hat; rw [← Ny438.out] at ho; have n0_ := Aside0.mk (hb); have n1_ := Aside0.mk (ho); clear HB; clear HO_7; have HB := n0_; have HO440 := n1_; clear n0_ n1_; clear ho hb hg hat))
                go_roundg k1
                case measure => have := HK1.out; omega
                case rel => exact ⟨(y438), (wrap64 (x8_1 + 1)), (by first | rfl | (simp; done) | (simp [*]; done)), H', ⟨by have := HK1.out; omega⟩, ⟨by (with_reducible repeat (first | apply Kd.R_alloc | apply Kd.R_drewN | apply Kd.R_drew)); exact HO440.out⟩, ⟨by repeat (first | (with_reducible first | exact HB.out | apply below_alloc | apply pw_below_drewN | apply below_drew1) | exact HB.out)⟩⟩
              · rw [if_neg c13] at H
                exact absurd H (by simp)
          · rw [if_neg c6] at H
            have c6b0 : decide (a1 ≤ x8_1) = false := decide_eq_false c6
            clear c6
            by_cases c15 : x7_1.length < 17592186044416
            · rw [if_pos c15] at H
              have LMc15 := Aside0.mk c15
              clear c15
              obtain ⟨y441, hy441⟩ : ∃ y_ : List Int, y_ = (x7_1 ++ [rd l0 x8_1]) := ⟨_, rfl⟩
              replace H : (bibelotref07_Turn.l0 k1 l0 a1 a2 y441 (wrap64 (x8_1 + 1))) = some r := by first | (rw [hy441]; with_reducible exact H) | (have H2_ := (Option.bind_some _ _).symm.trans H; rw [hy441]; with_reducible exact H2_) | (have H2_ := (Option.bind_some _ _).symm.trans H; with_reducible exact H2_) | with_reducible exact H | (rw [hy441]; exact H) | exact H
              have Ny441 := Aside0.mk hy441
              clear hy441
              have H' := Aside0.mk H
              clear H
              have p433 : 0 ≤ (x8_1 : Int) := of_decide_eq_true (by first | (with_reducible assumption) | assumption)
              have q433 : x8_1 < (l0.length : Int) := of_decide_eq_true (by first | (with_reducible assumption) | assumption)
              obtain ⟨ad433, e433, hx433_0⟩ := Kd.at_int HR0.out x8_1 p433 q433
              cases e433
              replace hx433_0 := (HB.out.cell (World.block_lt_of_cell? w _ hx433_0)).trans hx433_0
              replace p433 := eq_true p433
              replace q433 := eq_true q433
              go_wp2_with (first | ((with_reducible refine gate_builtin (b := .append) (xs := #[.tmp 37, .tmp 39]) rfl ?_); at_builtin; refine Kd.R_append (Kd.int .i64) (w0 := w) w.heap.size rfl (.tmp 37) (.tmp 39) 22 3 (.int .i64 0) 8 rfl Try.underlying22 info3 rfl (by decide) (by omega) u7 x7_1 (rd l0 x8_1) [.int .i64 (rd l0 x8_1)] (fun _ => True) (fun _ => False) rfl rfl ?aP (fun _ hk => hk.elim) ?aF ?aO ?aB ?aS ?aL ?_; (case aP => exact rfl); (case aB => exact (by repeat (first | (with_reducible first | exact HB.out | apply below_alloc | apply pw_below_drewN | apply below_drew1) | exact HB.out))); (case aF => exact (fun _ _ => trivial)); (case aO => exact (by (with_reducible repeat (first | apply Kd.R_alloc | apply Kd.R_drewN | apply Kd.R_drew)); exact HO_7.out)); (case aS => exact (below_size (by repeat (first | (with_reducible first | exact HB.out | apply below_alloc | apply pw_below_drewN | apply below_drew1) | exact HB.out)))); (case aL => have := LMc15.out; omega); intro v442 w16 ho hb hg hat; rw [← Ny441.out] at ho; have n0_ := Aside0.mk (hb); have n1_ := Aside0.mk (ho); clear HB; clear HO_7; have HB := n0_; have HO443 := n1_; clear n0_ n1_; clear ho hb hg hat))
              go_roundg k1
              case measure => have := HK1.out; omega
              case rel => exact ⟨(y441), (wrap64 (x8_1 + 1)), (by first | rfl | (simp; done) | (simp [*]; done)), H', ⟨by have := HK1.out; omega⟩, ⟨by (with_reducible repeat (first | apply Kd.R_alloc | apply Kd.R_drewN | apply Kd.R_drew)); exact HO443.out⟩, ⟨by repeat (first | (with_reducible first | exact HB.out | apply below_alloc | apply pw_below_drewN | apply below_drew1) | exact HB.out)⟩⟩
            · rw [if_neg c15] at H
              exact absurd H (by simp)
        · rw [if_neg c5] at H
          exact absurd H (by simp)
      · rw [if_neg c4] at H
        have c4b0 : decide (x8_1 < (l0.length : Int)) = false := decide_eq_false c4
        clear c4
        obtain rfl := Option.some.inj H
        go_wp2
        go_ret
        exact ⟨_, by first | rfl | (simp [errW_none, errW_some] <;> rfl) | (simp [*, errW_none, errW_some] <;> rfl), by (with_reducible repeat (first | apply Kd.R_alloc | apply Kd.R_drewN | apply Kd.R_drew)); exact HO_7.out, by repeat (first | (with_reducible first | exact HB.out | apply below_alloc | apply pw_below_drewN | apply below_drew1) | exact HB.out)⟩

end Go.Proofs.Ytepjhdblmghckaa.Q
namespace Go.Proofs.Ytepjhdblmghckaa.G
end Go.Proofs.Ytepjhdblmghckaa.G
namespace Go.Proofs.Ytepjhdblmghckaa.Q
set_option linter.unusedVariables false
set_option linter.unusedSimpArgs false
set_option linter.unusedSectionVars false
open Go.Proofs.Ytepjhdblmghckaa.G
open Go.RowKit Go.Proofs.YtepjhdblmghckaaW.PrintWords Go.Proofs.YtepjhdblmghckaaW.PrintLast Go.Proofs.YtepjhdblmghckaaW.PrintMore
attribute [local go_sem] max2_int min2_int max_two min_two max_three min_three max_four min_four   -- for this text's walks alone

/-! ### bibelotref07_First: function 49 -/
def bibelotref07_First.l0 : Nat → Int → List Int → Int → Option (List Int)
  | 0, _, _, _ => none
  | k + 1, x0, x3, x4 => if x4 ≤ x0 then (if x3.length < 17592186044416 then (bibelotref07_First.l0 k x0 (x3 ++ [x4]) (wrap64 (x4 + 1))) else (none)) else (some x3)
def bibelotref07_First.f (k : Nat) (a0 : Int) : Option (List Int) := bibelotref07_First.l0 k a0 ([] : List Int) 1
theorem bibelotref07_First.mono_l : ∀ k, (∀ y0 y1 y2, LeO (bibelotref07_First.l0 k y0 y1 y2) (bibelotref07_First.l0 (k + 1) y0 y1 y2))
  | 0 => fun _ _ _ r h => by simp [bibelotref07_First.l0] at h
  | k + 1 => by
    have ih0 := bibelotref07_First.mono_l k
    · intro y0 y1 y2
      unfold bibelotref07_First.l0
      repeat' first
      | (with_reducible exact ih0 _ _ _)
      | (with_reducible exact LeO.refl _)
      | (with_reducible exact LeO.none _)
      | (with_reducible refine LeO.ite ?_ ?_)
      | (with_reducible refine LeO.bind ?_ (fun _ => ?_))
      | exact ih0 _ _ _
      | exact LeO.none _
      | refine LeO.ite ?_ ?_
      | refine LeO.bind ?_ (fun _ => ?_)
theorem bibelotref07_First.mono : ∀ a0 k, LeO (bibelotref07_First.f k a0) (bibelotref07_First.f (k + 1) a0) := by
  intro a0 k
  have ih0 := bibelotref07_First.mono_l k
  unfold bibelotref07_First.f
  repeat' first
      | (with_reducible exact ih0 _ _ _)
      | (with_reducible exact LeO.refl _)
      | (with_reducible exact LeO.none _)
      | (with_reducible refine LeO.ite ?_ ?_)
      | (with_reducible refine LeO.bind ?_ (fun _ => ?_))
      | exact ih0 _ _ _
      | exact LeO.none _
      | refine LeO.ite ?_ ?_
      | refine LeO.bind ?_ (fun _ => ?_)
set_option maxHeartbeats 8000000 in
set_option maxRecDepth 100000 in
theorem bibelotref07_First.calls (k : Nat) (a0 : Int) (r : List Int) (w : World) (h : bibelotref07_First.f k a0 = some r) :
    Calls Try.prog 49 #[.int .i64 a0] w fun e w' => ∃ v0_ : Value, e = .returned (v0_) ∧ Kd.R (Kd.int .i64) 3 w' w.heap.size (fun _ => True) v0_ r ∧ Below w.heap.size w w' := by
  have HB := Aside0.mk (Below.refl w.heap.size w)
  have H : (bibelotref07_First.l0 k a0 ([] : List Int) 1) = some r := h
  clear h
  have H' := Aside0.mk H
  clear H
  go_enter Try.func49, Try.ntmps49
  go_wp2
  go_loopg [3, 4] k (fun kq v3 v4 w' => ∃ (x3_1 : List Int) (x4_1 : Int), v4 = .int .i64 x4_1 ∧ Aside0 (bibelotref07_First.l0 kq a0 x3_1 x4_1 = some r) ∧ Aside0 (kq ≤ k) ∧ Aside0 (Kd.R (Kd.int .i64) 3 w' w.heap.size (fun _ => True) v3 x3_1) ∧ Aside0 (Below w.heap.size w w'))
  case atStart => exact ⟨(([] : List Int)), (1), (by first | rfl | (simp; done) | (simp [*]; done)), H', ⟨Nat.le_refl _⟩, ⟨by first | exact Kd.R_nil _ _ _ _ _ | exact Kd.N_nil _ _ _ _ _ | exact Kd.V_nil _ _ _ _ _ | exact Kd.Q_nil _ _ _ _ _ | exact Kd.S_nil _ _ _ _ _⟩, ⟨by repeat (first | (with_reducible first | exact HB.out | apply below_alloc | apply pw_below_drewN | apply below_drew1) | exact HB.out)⟩⟩
  case round =>
    clear H'
    obtain ⟨x3_1, x4_1, rfl, HA, HK1, HO_3, HB⟩ := hrel
    cases gk with
    | zero => exact absurd HA.out (by simp [bibelotref07_First.l0])
    | succ k1 =>
      have H := HA.out
      clear HA
      simp only [bibelotref07_First.l0] at H
      by_cases c2 : x4_1 ≤ a0
      · rw [if_pos c2] at H
        have c2b0 : decide (x4_1 ≤ a0) = true := decide_eq_true c2
        clear c2
        by_cases c3 : x3_1.length < 17592186044416
        · rw [if_pos c3] at H
          have LMc3 := Aside0.mk c3
          clear c3
          obtain ⟨y378, hy378⟩ : ∃ y_ : List Int, y_ = (x3_1 ++ [x4_1]) := ⟨_, rfl⟩
          replace H : (bibelotref07_First.l0 k1 a0 y378 (wrap64 (x4_1 + 1))) = some r := by first | (rw [hy378]; with_reducible exact H) | (have H2_ := (Option.bind_some _ _).symm.trans H; rw [hy378]; with_reducible exact H2_) | (have H2_ := (Option.bind_some _ _).symm.trans H; with_reducible exact H2_) | with_reducible exact H | (rw [hy378]; exact H) | exact H
          have Ny378 := Aside0.mk hy378
          clear hy378
          have H' := Aside0.mk H
          clear H
          go_wp2_with (first | ((with_reducible refine gate_builtin (b := .append) (xs := #[.tmp 10, .tmp 12]) rfl ?_); at_builtin; refine Kd.R_append (Kd.int .i64) (w0 := w) w.heap.size rfl (.tmp 10) (.tmp 12) 22 3 (.int .i64 0) 8 rfl Try.underlying22 info3 rfl (by decide) (by omega) u3 x3_1 x4_1 [.int .i64 x4_1] (fun _ => True) (fun _ => False) rfl rfl ?aP (fun _ hk => hk.elim) ?aF ?aO ?aB ?aS ?aL ?_; (case aP => exact rfl); (case aB => exact (by repeat (first | (with_reducible first | exact HB.out | apply below_alloc | apply pw_below_drewN | apply below_drew1) | exact HB.out))); (case aF => exact (fun _ _ => trivial)); (case aO => exact (by (with_reducible repeat (first | apply Kd.R_alloc | apply Kd.R_drewN | apply Kd.R_drew)); exact HO_3.out)); (case aS => exact (below_size (by repeat (first | (with_reducible first | exact HB.out | apply below_alloc | apply pw_below_drewN | apply below_drew1) | exact HB.out)))); (case aL => have := LMc3.out; omega); intro v379 w4 ho hb hg hat; rw [← Ny378.out] at ho; have n0_ := Aside0.mk (hb); have n1_ := Aside0.mk (ho); clear HB; clear HO_3; have HB := n0_; have HO380 := n1_; clear n0_ n1_; clear ho hb hg hat))
          go_roundg k1
          case measure => have := HK1.out; omega
          case rel => exact ⟨(y378), (wrap64 (x4_1 + 1)), (by first | rfl | (simp; done) | (simp [*]; done)), H', ⟨by have := HK1.out; omega⟩, ⟨by (with_reducible repeat (first | apply Kd.R_alloc | apply Kd.R_drewN | apply Kd.R_drew)); exact HO380.out⟩, ⟨by repeat (first | (with_reducible first | exact HB.out | apply below_alloc | apply pw_below_drewN | apply below_drew1) | exact HB.out)⟩⟩
        · rw [if_neg c3] at H
          exact absurd H (by simp)
      · rw [if_neg c2] at H
        have c2b0 : decide (x4_1 ≤ a0) = false := decide_eq_false c2
        clear c2
        obtain rfl := Option.some.inj H
        go_wp2
        go_ret
        exact ⟨_, by first | rfl | (simp [errW_none, errW_some] <;> rfl) | (simp [*, errW_none, errW_some] <;> rfl), by (with_reducible repeat (first | apply Kd.R_alloc | apply Kd.R_drewN | apply Kd.R_drew)); exact HO_3.out, by repeat (first | (with_reducible first | exact HB.out | apply below_alloc | apply pw_below_drewN | apply below_drew1) | exact HB.out)⟩

end Go.Proofs.Ytepjhdblmghckaa.Q
/- Stacks and rows in plain words; the document's small functions. -/
namespace Go.Proofs.Ytepjhdblmghckaa.G
set_option linter.unusedVariables false
set_option linter.unusedSimpArgs false
set_option linter.unusedSectionVars false
open Go.Proofs.Ytepjhdblmghckaa.Q Go.Proofs.Ytepjhdblmghckaa.K Go.Proofs.Ytepjhdblmghckaa.Bf
open Go.RowKit Go.Proofs.YtepjhdblmghckaaW.PrintWords Go.Proofs.YtepjhdblmghckaaW.PrintLast Go.Proofs.YtepjhdblmghckaaW.PrintMore
/-- The numbers 1 to n, each once, with signs if sg is true. -/
structure Stk (sg : Bool) (n : Nat) (l : List Int) : Prop where
  len : l.length = n
  rng : ∀ x, x ∈ l → x ≠ 0 ∧ -(n : Int) ≤ x ∧ x ≤ n
  nd : (l.map Int.natAbs).Nodup
  pos : sg = false → ∀ x, x ∈ l → 0 < x
theorem isL_iff (sg : Bool) (n : Nat) : ∀ (l : List Int) (seen : Nat → Bool), isL sg n l seen = true ↔ (∀ x, x ∈ l → 1 ≤ absS sg n x ∧ absS sg n x ≤ n ∧ seen (absS sg n x).toNat = false) ∧ (l.map fun x => (absS sg n x).toNat).Nodup
  | [], seen => by simp [isL]
  | x :: r, seen => by
    rw [isL]
    by_cases hc : absS sg n x < 1 ∨ (n : Int) < absS sg n x ∨ seen (absS sg n x).toNat = true
    · rw [if_pos hc]
      refine ⟨fun h => (by cases h), fun h => ?_⟩
      have := h.1 x (by simp)
      rcases hc with hc | hc | hc
      · omega
      · omega
      · rw [hc] at this; exact absurd this.2.2 (by simp)
    · rw [if_neg hc, isL_iff sg n r]
      have h1 : ¬ absS sg n x < 1 := fun h => hc (.inl h)
      have h2 : ¬ (n : Int) < absS sg n x := fun h => hc (.inr (.inl h))
      have h3 : seen (absS sg n x).toNat = false := by
        cases hq : seen (absS sg n x).toNat
        · rfl
        · exact absurd (.inr (.inr hq)) hc
      rw [List.map_cons, List.nodup_cons]
      constructor
      · rintro ⟨h4, h5⟩
        refine ⟨fun y hy => ?_, fun hm => ?_, h5⟩
        · rcases List.mem_cons.1 hy with rfl | hy
          · exact ⟨by omega, by omega, h3⟩
          · have := h4 y hy
            refine ⟨this.1, this.2.1, ?_⟩
            have h6 := this.2.2
            unfold upd at h6
            split at h6
            · cases h6
            · exact h6
        · obtain ⟨y, hy, he⟩ := List.mem_map.1 hm
          have h6 := (h4 y hy).2.2
          rw [he] at h6
          simp [upd] at h6
      · rintro ⟨h4, h5, h6⟩
        refine ⟨fun y hy => ?_, h6⟩
        have := h4 y (by simp [hy])
        refine ⟨this.1, this.2.1, ?_⟩
        unfold upd
        rw [if_neg (fun he => h5 (List.mem_map.2 ⟨y, hy, he⟩))]
        exact this.2.2
theorem absS_ok {sg : Bool} {n : Nat} {x : Int} : (1 ≤ absS sg n x ∧ absS sg n x ≤ n) ↔ (x ≠ 0 ∧ -(n : Int) ≤ x ∧ x ≤ n ∧ (sg = false → 0 < x)) := by
  unfold absS
  cases sg
  · simp; omega
  · simp only [true_and]
    split
    · simp; omega
    · simp; omega
theorem absS_nat {sg : Bool} {n : Nat} {x : Int} (h : x ≠ 0 ∧ -(n : Int) ≤ x ∧ x ≤ n ∧ (sg = false → 0 < x)) : (absS sg n x).toNat = x.natAbs := by
  unfold absS
  cases sg
  · have := h.2.2.2 rfl
    simp; omega
  · simp only [true_and]
    split <;> omega
theorem isSt_iff {sg : Bool} {most : Int} {l : List Int} : isSt sg most l = true ↔ (1 ≤ l.length ∧ (l.length : Int) ≤ most) ∧ Stk sg l.length l := by
  unfold isSt
  split
  · rename_i h
    refine ⟨fun e => (by cases e), fun e => ?_⟩
    have := e.1
    omega
  · rename_i h
    rw [isL_iff]
    constructor
    · rintro ⟨h1, h2⟩
      have hr : ∀ x, x ∈ l → x ≠ 0 ∧ -(l.length : Int) ≤ x ∧ x ≤ l.length ∧ (sg = false → 0 < x) := fun x hx => absS_ok.1 ⟨(h1 x hx).1, (h1 x hx).2.1⟩
      refine ⟨by omega, ⟨rfl, fun x hx => ⟨(hr x hx).1, (hr x hx).2.1, (hr x hx).2.2.1⟩, ?_, fun hs x hx => (hr x hx).2.2.2 hs⟩⟩
      have e : l.map Int.natAbs = l.map fun x => (absS sg l.length x).toNat := List.map_congr_left (fun x hx => (absS_nat (hr x hx)).symm)
      rw [e]; exact h2
    · rintro ⟨_, h2⟩
      have hr : ∀ x, x ∈ l → x ≠ 0 ∧ -(l.length : Int) ≤ x ∧ x ≤ l.length ∧ (sg = false → 0 < x) := fun x hx => ⟨(h2.rng x hx).1, (h2.rng x hx).2.1, (h2.rng x hx).2.2, fun hs => h2.pos hs x hx⟩
      refine ⟨fun x hx => ⟨(absS_ok.2 (hr x hx)).1, (absS_ok.2 (hr x hx)).2, rfl⟩, ?_⟩
      have e : (l.map fun x => (absS sg l.length x).toNat) = l.map Int.natAbs := List.map_congr_left (fun x hx => absS_nat (hr x hx))
      rw [e]; exact h2.nd
theorem isSt_stk {sg : Bool} {most : Int} {n : Nat} {l : List Int} (h : Stk sg n l) (h1 : 1 ≤ n) (h2 : (n : Int) ≤ most) : isSt sg most l = true := isSt_iff.2 ⟨⟨by rw [h.len]; exact h1, by rw [h.len]; exact h2⟩, by rw [h.len]; exact h⟩
theorem Stk.signed {sg : Bool} {n : Nat} {l : List Int} (h : Stk sg n l) : Stk true n l := ⟨h.len, h.rng, h.nd, fun e => by cases e⟩
/-! ### many, row, own -/
theorem many_f (a : Int) (m : Nat) (h1 : 1 ≤ m) (h2 : m ≤ 1000) : ∃ n : Nat, 1 ≤ n ∧ n ≤ m ∧ bibelotlaw07_many.f a (m : Int) = some (n : Int) := by
  have hu : IntKind.u64.wrap (m : Int) = (m : Int) := u64_small (by omega) (by omega)
  have hr : 0 ≤ Int.tmod (IntKind.u64.wrap a) (m : Int) ∧ Int.tmod (IntKind.u64.wrap a) (m : Int) < m := ⟨Int.tmod_nonneg _ (u64_nonneg a).1, Int.tmod_lt_of_pos _ (by omega)⟩
  refine ⟨(Int.tmod (IntKind.u64.wrap a) (m : Int)).toNat + 1, by omega, by omega, ?_⟩
  unfold bibelotlaw07_many.f
  rw [hu, if_neg (by omega), w64 (x := Int.tmod (IntKind.u64.wrap a) (m : Int)) (by omega) (by omega), w64 (by omega) (by omega)]
  congr 1
  omega
theorem mem_rowOf (l : List Int) (sg : Bool) : ∀ (x : Nat) (y : Int), y ∈ rowOf l sg x → y ≠ 0 ∧ -(x : Int) ≤ y ∧ y ≤ x ∧ (sg = false → 0 < y)
  | 0, y, h => by cases h
  | x + 1, y, h => by
    have ih := mem_rowOf l sg x
    have hs : rowSg l sg (x + 1) = 1 ∨ (rowSg l sg (x + 1) = -1 ∧ sg = true) := by
      unfold rowSg
      split
      · rename_i h; exact .inr ⟨rfl, h.2.1⟩
      · exact .inl rfl
    simp only [rowOf, List.mem_append, List.mem_singleton] at h
    rcases h with (h | h) | h
    · have := ih y (List.mem_of_mem_take h); exact ⟨this.1, by omega, by omega, this.2.2.2⟩
    · rcases hs with hs | ⟨hs, hg⟩
      · rw [hs] at h; refine ⟨by omega, by omega, by omega, fun _ => by omega⟩
      · rw [hs] at h; refine ⟨by omega, by omega, by omega, fun e => by rw [hg] at e; cases e⟩
    · have := ih y (List.mem_of_mem_drop h); exact ⟨this.1, by omega, by omega, this.2.2.2⟩
theorem rowOf_nodup (l : List Int) (sg : Bool) : ∀ x : Nat, ((rowOf l sg x).map Int.natAbs).Nodup
  | 0 => List.nodup_nil
  | x + 1 => by
    have ih := rowOf_nodup l sg x
    have hs : (rowSg l sg (x + 1) * ((x + 1 : Nat) : Int)).natAbs = x + 1 := by
      unfold rowSg
      split <;> omega
    have hp : ((rowOf l sg (x + 1)).map Int.natAbs).Perm ((x + 1) :: (rowOf l sg x).map Int.natAbs) := by
      have h1 : (rowOf l sg (x + 1)).Perm (rowSg l sg (x + 1) * ((x + 1 : Nat) : Int) :: rowOf l sg x) := by
        simp only [rowOf]
        have e : rowOf l sg x = (rowOf l sg x).take (rowAt l (x + 1)) ++ (rowOf l sg x).drop (rowAt l (x + 1)) := (List.take_append_drop _ _).symm
        conv => rhs; rw [e]
        rw [List.append_assoc]
        exact List.perm_middle
      have h2 := h1.map Int.natAbs
      rw [List.map_cons, hs] at h2
      exact h2
    rw [hp.nodup_iff, List.nodup_cons]
    refine ⟨fun hm => ?_, ih⟩
    obtain ⟨y, hy, he⟩ := List.mem_map.1 hm
    have := mem_rowOf l sg x y hy
    omega
theorem rowOf_stk (l : List Int) (sg : Bool) (n : Nat) : Stk sg n (rowOf l sg n) :=
  ⟨rowOf_length l sg n, fun x hx => ⟨(mem_rowOf l sg n x hx).1, (mem_rowOf l sg n x hx).2.1, (mem_rowOf l sg n x hx).2.2.1⟩, rowOf_nodup l sg n, fun hs x hx => (mem_rowOf l sg n x hx).2.2.2 hs⟩
theorem row_f (l : List Int) (n : Nat) (sg : Bool) (hn : n ≤ 1000) : bibelotlaw07_row.f l (n : Int) sg = some (rowOf l sg n) := by
  unfold bibelotlaw07_row.f
  rw [if_pos (by omega), Int.toNat_natCast]
/-! ### ints -/
theorem ints_l0 (l m : List Int) (hl : l.length ≤ 1000000) (hm : l.length = m.length) : ∀ d i : Nat, i + d = l.length → Ev (fun k => bibelotlaw07_ints.l0 k l m (i : Int)) (decide (l.drop i = m.drop i))
  | 0, i, h => by
    refine Ev.step (f := fun _ => some (decide (l.drop i = m.drop i))) (fun k => ?_) (Ev.now _)
    rw [bibelotlaw07_ints.l0, if_neg (by omega), List.drop_of_length_le (by omega), List.drop_of_length_le (by omega)]
    rfl
  | d + 1, i, h => by
    have ih := ints_l0 l m hl hm d (i + 1) (by omega)
    have e1 := drop_nth l i (by omega)
    have e2 := drop_nth m i (by omega)
    by_cases he : nth l i = nth m i
    · refine Ev.step (f := fun k => bibelotlaw07_ints.l0 k l m ((i + 1 : Nat) : Int)) (fun k => ?_) ?_
      · rw [bibelotlaw07_ints.l0, if_pos (by omega), if_pos (by omega), if_pos (by omega), rd_nth, rd_nth, if_pos he, w64 (by omega) (by omega)]
        rfl
      · have : decide (l.drop i = m.drop i) = decide (l.drop (i + 1) = m.drop (i + 1)) := decide_eq_decide.2 (by rw [e1, e2, List.cons.injEq]; exact ⟨fun h => h.2, fun h => ⟨he, h⟩⟩)
        rw [this]; exact ih
    · refine Ev.step (f := fun _ => some (decide (l.drop i = m.drop i))) (fun k => ?_) (Ev.now _)
      rw [bibelotlaw07_ints.l0, if_pos (by omega), if_pos (by omega), if_pos (by omega), rd_nth, rd_nth, if_neg he, decide_eq_false (by rw [e1, e2, List.cons.injEq]; exact fun h => he h.1)]
theorem ints_ev (l m : List Int) (hl : l.length ≤ 1000000) : Ev (fun k => bibelotlaw07_ints.f k l m) (decide (l = m)) := by
  by_cases h : l.length = m.length
  · have := ints_l0 l m hl h l.length 0 (by omega)
    refine Ev.congr (fun k => ?_) this
    unfold bibelotlaw07_ints.f
    rw [if_pos (by omega)]
    rfl
  · rw [decide_eq_false (fun e => h (by rw [e]))]
    refine Ev.congr (fun k => ?_) (Ev.now false)
    unfold bibelotlaw07_ints.f
    rw [if_neg (by omega)]
/-! ### is a list a stack, a row? -/
theorem abs_f (x : Int) (h : -1000000000 ≤ x ∧ x ≤ 1000000000) : bibelotref07_Abs.f x = some (x.natAbs : Int) := by
  unfold bibelotref07_Abs.f mx
  rw [w64 (by omega) (by omega)]
  congr 1
  split <;> omega
theorem row_l0 (l : List Int) (n : Nat) (hn : n = l.length) (hl : n ≤ 1000000) : ∀ (d i : Nat) (seenL : List Bool) (seen : Nat → Bool), i + d = n → seenL.length = n + 1 → (∀ j, j ≤ n → seenL.getD j false = seen j) →
    Ev (fun k => bibelotref07_Row.l0 k l (n : Int) seenL (i : Int)) (isL true n (l.drop i) seen)
  | 0, i, seenL, seen, h, hs, hj => by
    refine Ev.step (f := fun _ => some (isL true n (l.drop i) seen)) (fun k => ?_) (Ev.now _)
    rw [bibelotref07_Row.l0, if_neg (by omega), List.drop_of_length_le (by omega)]
    rfl
  | d + 1, i, seenL, seen, h, hs, hj => by
    have e1 := drop_nth l i (by omega)
    rw [e1, isL]
    obtain ⟨x, hx⟩ : ∃ x, nth l i = x := ⟨_, rfl⟩
    rw [hx]
    have hwn : wrap64 (-(n : Int)) = -(n : Int) := w64 (by omega) (by omega)
    by_cases h1 : x < -(n : Int)
    · refine Ev.step (f := fun _ => some false) (fun k => ?_) ?_
      · rw [bibelotref07_Row.l0, if_pos (by omega), if_pos (by omega), if_pos (by omega), rd_nth, hx, hwn, if_pos h1]
      · rw [if_pos (by left; unfold absS; rw [if_neg (by omega)]; omega)]; exact Ev.now _
    · by_cases h2 : x > (n : Int)
      · refine Ev.step (f := fun _ => some false) (fun k => ?_) ?_
        · rw [bibelotref07_Row.l0, if_pos (by omega), if_pos (by omega), if_pos (by omega), rd_nth, hx, hwn, if_neg h1, if_pos h2]
        · rw [if_pos (by right; left; unfold absS; rw [if_neg (by omega)]; omega)]; exact Ev.now _
      · by_cases h3 : x = 0
        · refine Ev.step (f := fun _ => some false) (fun k => ?_) ?_
          · rw [bibelotref07_Row.l0, if_pos (by omega), if_pos (by omega), if_pos (by omega), rd_nth, hx, hwn, if_neg h1, if_neg h2, if_pos h3]
          · rw [if_pos (by left; unfold absS; rw [if_neg (by omega)]; omega)]; exact Ev.now _
        · have ha : (absS true n x).toNat = x.natAbs := absS_nat ⟨h3, by omega, by omega, fun e => by cases e⟩
          have hao := (absS_ok (sg := true) (n := n) (x := x)).2 ⟨h3, by omega, by omega, fun e => by cases e⟩
          have hab := abs_f x (by omega)
          have hrd : rdOf false seenL (x.natAbs : Int) = seen x.natAbs := by
            unfold rdOf
            rw [Int.toNat_natCast, hj _ (by omega)]
          by_cases h4 : seen x.natAbs = true
          · refine Ev.step (f := fun _ => some false) (fun k => ?_) ?_
            · rw [bibelotref07_Row.l0, if_pos (by omega), if_pos (by omega), if_pos (by omega), rd_nth, hx, hwn, if_neg h1, if_neg h2, if_neg h3, hab, Option.bind_some, if_pos (by omega), if_pos (by omega), hrd, if_pos h4]
            · rw [if_pos (by right; right; rw [ha]; exact h4)]; exact Ev.now _
          · refine Ev.step (f := fun k => bibelotref07_Row.l0 k l (n : Int) (seenL.set x.natAbs true) ((i + 1 : Nat) : Int)) (fun k => ?_) ?_
            · rw [bibelotref07_Row.l0, if_pos (by omega), if_pos (by omega), if_pos (by omega), rd_nth, hx, hwn, if_neg h1, if_neg h2, if_neg h3, hab, Option.bind_some, if_pos (by omega), if_pos (by omega), hrd, if_neg h4, Option.bind_some, if_pos (by omega), if_pos (by omega), w64 (by omega) (by omega), Int.toNat_natCast]
              rfl
            · rw [if_neg (by rintro (h | h | h) <;> first | omega | (rw [ha] at h; exact h4 h)), ha]
              refine row_l0 l n hn hl d (i + 1) _ _ (by omega) (by rw [List.length_set]; exact hs) (fun j hjn => ?_)
              unfold upd
              rw [List.getD_eq_getElem?_getD, List.getElem?_set]
              by_cases e : x.natAbs = j
              · rw [if_pos e, if_pos (by omega), if_pos e.symm]; rfl
              · rw [if_neg e, if_neg (fun h => e h.symm), ← List.getD_eq_getElem?_getD]; exact hj j hjn
theorem row_ev (l : List Int) (most : Int) (hl : l.length ≤ 1000000) : Ev (fun k => bibelotref07_Row.f k l most) (isSt true most l) := by
  unfold isSt
  by_cases h1 : l.length < 1
  · rw [if_pos (.inl h1)]
    refine Ev.congr (f := fun k => bibelotref07_Row.j0 k l (l.length : Int) true) (fun k => ?_) (Ev.step (fun k => ?_) (Ev.now false))
    · unfold bibelotref07_Row.f; rw [if_pos (by omega)]
    · rw [bibelotref07_Row.j0, if_pos rfl]
  · by_cases h2 : most < (l.length : Int)
    · rw [if_pos (.inr h2)]
      refine Ev.congr (f := fun k => bibelotref07_Row.j0 k l (l.length : Int) true) (fun k => ?_) (Ev.step (fun k => ?_) (Ev.now false))
      · unfold bibelotref07_Row.f; rw [if_neg (by omega), decide_eq_true h2]
      · rw [bibelotref07_Row.j0, if_pos rfl]
    · rw [if_neg (by omega)]
      refine Ev.congr (f := fun k => bibelotref07_Row.j0 k l (l.length : Int) false) (fun k => ?_) (Ev.step (fun k => ?_) (row_l0 l l.length rfl hl l.length 0 (List.replicate (l.length + 1) false) (fun _ => false) (by omega) (by simp) (fun j hj => by rw [List.getD_eq_getElem?_getD, List.getElem?_replicate]; split <;> rfl)))
      · unfold bibelotref07_Row.f; rw [if_neg (by omega), decide_eq_false (by omega)]
      · rw [bibelotref07_Row.j0, if_neg (by simp), w64 (by omega) (by omega), if_pos (by omega), if_pos (by omega), show ((l.length : Int) + 1).toNat = l.length + 1 by omega]
        rfl
theorem stack_l0 (l : List Int) (hl : l.length ≤ 1000000) : ∀ d i : Nat, i + d = l.length → Ev (fun k => bibelotref07_Stack.l0 k l (i : Int)) ((l.drop i).all (fun x => decide (0 < x)) && isSt true 7 l)
  | 0, i, h => by
    refine Ev.step (f := fun k => (bibelotref07_Row.f k l 7).bind fun t => some t) (fun k => ?_) ?_
    · rw [bibelotref07_Stack.l0, if_neg (by omega)]
    · rw [List.drop_of_length_le (by omega)]
      exact Ev.bind (row_ev l 7 hl) (Ev.now _)
  | d + 1, i, h => by
    have e1 := drop_nth l i (by omega)
    by_cases hx : nth l i < 1
    · refine Ev.step (f := fun _ => some false) (fun k => ?_) ?_
      · rw [bibelotref07_Stack.l0, if_pos (by omega), if_pos (by omega), rd_nth, if_pos hx]
      · rw [e1, List.all_cons, decide_eq_false (by omega)]; exact Ev.now _
    · refine Ev.step (f := fun k => bibelotref07_Stack.l0 k l ((i + 1 : Nat) : Int)) (fun k => ?_) ?_
      · rw [bibelotref07_Stack.l0, if_pos (by omega), if_pos (by omega), rd_nth, if_neg hx, w64 (by omega) (by omega)]; rfl
      · rw [e1, List.all_cons, decide_eq_true (by omega), Bool.true_and]; exact stack_l0 l hl d (i + 1) (by omega)
theorem isSt_pos (most : Int) (l : List Int) : (l.all (fun x => decide (0 < x)) && isSt true most l) = isSt false most l := by
  rw [Bool.eq_iff_iff, Bool.and_eq_true, isSt_iff, isSt_iff, List.all_eq_true]
  constructor
  · rintro ⟨h1, h2, h3⟩
    exact ⟨h2, h3.len, h3.rng, h3.nd, fun _ x hx => by simpa using h1 x hx⟩
  · rintro ⟨h2, h3⟩
    exact ⟨fun x hx => by simpa using h3.pos rfl x hx, h2, h3.signed⟩
theorem stack_ev (l : List Int) (hl : l.length ≤ 1000000) : Ev (fun k => bibelotref07_Stack.f k l) (isSt false 7 l) := by
  have h := stack_l0 l hl l.length 0 (by omega)
  rw [List.drop_zero, isSt_pos] at h
  exact h
/-! ### the program's checks -/
theorem chk_one (sg : Bool) (most : Int) (hm : most ≤ 40) (l : List Int) : Ev (fun k => pancake_check.f k sg most [l]) (if isSt sg most l = true then 0 else 70) := by
  have h := Ev.of (g := fun k => pancake_check.f k sg most [l]) (fun k => pancake_check.mono _ _ _ k) (chk1_f sg most hm l)
  unfold chk1 at h
  exact h
theorem check58_ev (l : List Int) : Ev (fun k => pancake_Check.f k l) (if isSt false 7 l = true then 0 else 70) := Ev.bind (chk_one false 7 (by decide) l) (Ev.now _)
theorem check59_ev (l : List Int) : Ev (fun k => pancake_CheckBurnt.f k l) (if isSt true 6 l = true then 0 else 70) := Ev.bind (chk_one true 6 (by decide) l) (Ev.now _)
theorem check55_ev (l : List Int) : Ev (fun k => pancake_CheckRow.f k l) (if isSt true 40 l = true then 0 else 70) := Ev.bind (chk_one true 40 (by decide) l) (Ev.now _)
end Go.Proofs.Ytepjhdblmghckaa.G
