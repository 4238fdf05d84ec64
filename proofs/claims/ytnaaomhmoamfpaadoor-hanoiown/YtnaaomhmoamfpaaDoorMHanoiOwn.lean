/- HanoiOwn: results are new memory, and no function changes its arguments: the walk and the plain law, for every input. -/
import Derived.Test.YtnaaomhmoamfpaaDoorA4
import Derived.ChangeKeysEq
import Derived.Test.YtnaaomhmoamfpaaDoorLHanoiOwn
import Derived.Test.YtnaaomhmoamfpaaDoorA1
import Derived.Test.YtnaaomhmoamfpaaDoorA3
/- own: a list's copy, cut at 41: its contract. -/
namespace Go.Proofs.YtnaaomhmoamfpaaDoor.G
set_option linter.unusedVariables false
set_option linter.unusedSimpArgs false
set_option linter.unusedSectionVars false
open Go.Proofs.YtnaaomhmoamfpaaDoor.Q Go.Proofs.YtnaaomhmoamfpaaDoor.Hn Go.Proofs.YtnaaomhmoamfpaaDoor.K Go.Proofs.YtnaaomhmoamfpaaDoor.It
open Go.RowKit Go.Shelf Go.Proofs.YtnaaomhmoamfpaaDoorW.PrintWords Go.Proofs.YtnaaomhmoamfpaaDoorW.PrintLast Go.Proofs.YtnaaomhmoamfpaaDoorW.PrintMore
attribute [local go_sem] max2_int min2_int
def bibelotlaw03_own.f (l : List Int) : Option (List Int) := some (l.take 41)
set_option maxHeartbeats 8000000 in
set_option maxRecDepth 100000 in
theorem bibelotlaw03_own.calls (A0 : Option Addr) (c0 : Nat) (l0 : List Int) (r : List Int) (w : World) (hr0 : Kd.C (Kd.int .i64) w A0 l0.length l0) (hc0 : l0.length ≤ c0) (h : bibelotlaw03_own.f l0 = some r) :
    Calls Tryd.prog 60 #[.slice A0 l0.length c0] w fun e w' => ∃ v0_ : Value, e = .returned (v0_) ∧ Kd.R (Kd.int .i64) 3 w' w.heap.size (fun _ => True) v0_ r ∧ Below w.heap.size w w' := by
  obtain rfl : l0.take 41 = r := Option.some.inj h
  obtain ⟨m, hm⟩ : ∃ m, m = min l0.length 41 := ⟨_, rfl⟩
  have hmn : mn (l0.length : Int) 41 = (m : Int) := by unfold mn; omega
  have hmn2 : min (l0.length : Int) 41 = (m : Int) := by omega
  have hml : (m : Int) ≤ (c0 : Int) := by omega
  have hm0 : (0 : Int) ≤ (m : Int) := by omega
  have hC : Kd.C (Kd.int .i64) w A0 m (l0.take m) := by
    have := Kd.C_take hr0 (m := m) (by omega)
    rwa [List.length_take, Nat.min_eq_left (by omega)] at this
  have ht : l0.take 41 = l0.take m := by
    rw [hm]
    by_cases c : l0.length ≤ 41
    · rw [Nat.min_eq_left c, List.take_of_length_le c, List.take_of_length_le (Nat.le_refl _)]
    · rw [Nat.min_eq_right (by omega)]
  rw [ht]
  have HC := Aside0.mk hC
  have HM := Aside0.mk hm
  have HL := Aside0.mk hr0.2.1
  clear hr0 hC hm ht h
  go_enter Tryd.func60, Tryd.ntmps60
  go_wp2_with ((with_reducible refine gate_builtin (b := .append) (xs := #[.tmp 4, .tmp 9]) rfl ?_); at_builtin; refine Kd.R_append_rows (Kd.int .i64) (w0 := w) w.heap.size rfl (.tmp 4) (.tmp 9) 46 3 (.int .i64 0) 8 rfl Tryd.underlying46 info3 rfl (by decide) (by omega) (.slice none 0 0) ([] : List Int) (l0.take m) A0 m _ (fun _ => True) (fun _ => False) rfl rfl (Kd.R_nil _ _ _ _ (fun _ => True)) HC.out (fun _ _ h => h) (fun _ h => h.elim) (fun _ _ => trivial) (Below.refl _ _) (Nat.le_refl _) (by have := HM.out; simp; omega) ?_; intro v1 w5 ho hb hg hat; have HO := Aside0.mk ho; have HB := Aside0.mk hb; clear ho hb hg hat)
  go_ret
  exact ⟨_, rfl, HO.out, HB.out⟩
end Go.Proofs.YtnaaomhmoamfpaaDoor.G
/- Two moves compared: an array of two numbers. -/
namespace Go.Proofs.YtnaaomhmoamfpaaDoor.G
set_option linter.unusedVariables false
set_option linter.unusedSimpArgs false
set_option linter.unusedSectionVars false
open Go.Proofs.YtnaaomhmoamfpaaDoor.Q Go.Proofs.YtnaaomhmoamfpaaDoor.Hn Go.Proofs.YtnaaomhmoamfpaaDoor.K Go.Proofs.YtnaaomhmoamfpaaDoor.It
open Go.RowKit Go.Shelf Go.Proofs.YtnaaomhmoamfpaaDoorW.PrintWords Go.Proofs.YtnaaomhmoamfpaaDoorW.PrintLast Go.Proofs.YtnaaomhmoamfpaaDoorW.PrintMore
theorem u52a : Tryd.prog.underlying 52 = some (.array 2 3) := by kernel_rfl
theorem eq52 (W : World) (a b c d : Int) : (Op.equalIn 10000 52 (.agg #[.int .i64 a, .int .i64 b]) (.agg #[.int .i64 c, .int .i64 d])).run Tryd.prog W = .ok (a == c && b == d) W := by
  obtain ⟨i0, hi0, hz, hs, _⟩ := info_parts info3
  have c3 : Tryd.prog.cellsOf 3 = 1 := by kernel_rfl
  have hl : List.range 2 = [0, 1] := rfl
  rw [show (10000 : Nat) = 9999 + 1 from rfl, run_equalIn_array W 9999 _ _ u52a hi0, c3, hl]
  have e1 : ∀ x y : Int, (Op.equalIn 9999 3 (.int .i64 x) (.int .i64 y)).run Tryd.prog W = .ok (x == y) W := fun x y => run_equalIn_int W 9998 3 .i64 .i64 x y u3
  simp only [Op.eqItems, Sem.run_bind, Nat.zero_mul, Nat.one_mul]
  have p0 : ∀ x y : Int, (part 3 #[Value.int .i64 x, Value.int .i64 y] 0).run Tryd.prog W = .ok (.int .i64 x) W := fun x y => by simp [part, go_sem]
  have p1 : ∀ x y : Int, (part 3 #[Value.int .i64 x, Value.int .i64 y] 1).run Tryd.prog W = .ok (.int .i64 y) W := fun x y => by simp [part, go_sem]
  simp only [p0, Result.andThen_ok, e1]
  by_cases h : a = c
  · subst h
    simp only [beq_self_eq_true, Bool.not_true, Bool.false_eq_true, if_false, Bool.true_and, Sem.run_bind, p1, Result.andThen_ok, e1]
    by_cases k : b = d <;> simp [k, Sem.run_pure]
  · simp [h, Sem.run_pure]
end Go.Proofs.YtnaaomhmoamfpaaDoor.G
/- Play: its contract. -/
namespace Go.Proofs.YtnaaomhmoamfpaaDoor.G
set_option linter.unusedVariables false
set_option linter.unusedSimpArgs false
set_option linter.unusedSectionVars false
open Go.Proofs.YtnaaomhmoamfpaaDoor.Q Go.Proofs.YtnaaomhmoamfpaaDoor.Hn Go.Proofs.YtnaaomhmoamfpaaDoor.K Go.Proofs.YtnaaomhmoamfpaaDoor.It
open Go.RowKit Go.Shelf Go.Proofs.YtnaaomhmoamfpaaDoorW.PrintWords Go.Proofs.YtnaaomhmoamfpaaDoorW.PrintLast Go.Proofs.YtnaaomhmoamfpaaDoorW.PrintMore
attribute [local go_sem] Oper.semAt_some eq52

/-- Can move m be made? -/
def mvB (d : List Int) (m : S52) : Bool := (movesL d 3).any fun x => decide ((x.1 : Int) = m.f0) && decide ((x.2 : Int) = m.f1)
def putM (d : List Int) (m : S52) : List Int := d.set m.f0.toNat m.f1
/-- Moves are made as long as they can be made. -/
def playL : List Int → List S52 → List Int × Nat
  | d, [] => (d, 0)
  | d, m :: ms => if mvB d m = true then ((playL (putM d m) ms).1, (playL (putM d m) ms).2 + 1) else (d, 0)
def hanoi_Play.f (l : List Int) (ms : List S52) : Option (List Int × Int × Int) := if okD l = true then some ((playL l ms).1, ((playL l ms).2 : Int), 0) else some ([], 0, 30)

/-- Play's loop: what holds at its head. -/
structure PlI (l0 : List Int) (l1 : List S52) (w : World) (b8 g cap i k : Nat) (d : List Int) (rs : List Nat) (W : World) : Prop where
  le : i ≤ l1.length
  kle : k ≤ i
  len : d.length = l0.length
  pos : Pos d 3
  out : playL l0 l1 = ((playL d (l1.drop i)).1, k + (playL d (l1.drop i)).2)
  b0 : Blk W b8 #[.slice (some ⟨g, 0, none⟩) l0.length cap] 46
  b1 : Blk W (b8 + 1) #[.int .i64 (k : Int)] 3
  row : Kd.R (Kd.int .i64) 3 W w.heap.size (fun j => j = g) (.slice (some ⟨g, 0, none⟩) l0.length cap) d
  below : Below w.heap.size w W
  marks : Mk w.heap.size rs W
  size : b8 + 2 ≤ W.heap.size

theorem PlI.alloc {l0 : List Int} {l1 : List S52} {w : World} {b8 g cap i k : Nat} {d : List Int} {rs : List Nat} {W : World} (h : PlI l0 l1 w b8 g cap i k d rs W) (o : Obj) : PlI l0 l1 w b8 g cap i k d rs (W.alloc o) :=
  ⟨h.le, h.kle, h.len, h.pos, h.out, h.b0.alloc _, h.b1.alloc _, Kd.R_alloc h.row _, h.below.alloc h.below.size _, ⟨h.marks.1, fun r hr => ⟨(h.marks.2 r hr).1, by rw [Below.heap_alloc _ _ _ (h.marks.lt r hr)]; exact (h.marks.2 r hr).2⟩⟩, by have := h.size; simp; omega⟩
theorem PlI.step {l0 : List Int} {l1 : List S52} {w : World} {b8 g cap i k B : Nat} {d : List Int} {rs : List Nat} {W W' : World} (h : PlI l0 l1 w b8 g cap i k d rs W) (hs : Step 127 B W W') (hB : b8 + 2 ≤ B) (hm : ∀ r, r ∈ rs → r < B) (hw : w.heap.size ≤ g) (hg : g < B) : PlI l0 l1 w b8 g cap i k d rs W' :=
  ⟨h.le, h.kle, h.len, h.pos, h.out, hs.same _ _ h.b0 (.inl (by omega)), hs.same _ _ h.b1 (.inl (by omega)), R_iter h.row hs (by decide), hs.below h.below (by omega) (Nat.le_refl _), h.marks.step hm hs, Nat.le_trans h.size hs.size⟩
theorem R_bk {α : Type} {d : Kd α} {e base : Nat} {ok : Nat → Prop} {w w1 : World} {v : Value} {xs : List α} (h : d.R e w base ok v xs) (hb : Bk w w1) : d.R e w1 base ok v xs :=
  Kd.R_mono (Kd.R_move (Kd.R_bound h) (fun k hk => by
    obtain ⟨_, _, _, q, hq, cells, hc⟩ := hk
    rw [hc]
    exact hb _ _ hc rfl)) (fun _ hk => hk.1)
theorem drop_T52 (l : List S52) (i : Nat) (h : i < l.length) : l.drop i = rd_T52 l (i : Int) :: l.drop (i + 1) := by
  rw [List.drop_eq_getElem_cons h]
  congr 1
  simp [rd_T52, h]
/-- The marks are taken off: all that is no book-keeping lies as it lay. -/
theorem leaves_marks2 {R : Ending → World → Prop} {f : Func} {tmps : Array Value} (B : Nat) : ∀ (rs : List Nat) (W : World), Mk B rs W → B ≤ W.heap.size → (∀ W', Below B W W' → Bk W W' → LeavesIn Fence.wide 8 Tryd.prog f tmps R [] .returning W') → LeavesInM Fence.wide 8 Tryd.prog f tmps R (rs.map mark) .returning W
  | [], W, _, _, h => h W (Below.refl _ _) (fun _ _ h _ => h)
  | r :: rs, W, hM, hB, h => by
    obtain ⟨hnd, hall⟩ := hM
    obtain ⟨hr, hrs⟩ := List.nodup_cons.1 hnd
    have h1 := hall r (by simp)
    refine ⟨by simp, .inl ⟨r, _, rfl, run_takeDeferred h1.2, ?_⟩⟩
    have hbel : Below B W (W.putObj r (.deferred none)) := ⟨rfl, rfl, rfl, by simp, fun k hk => World.putObj_heap_other (by omega)⟩
    have hbk : Bk W (W.putObj r (.deferred none)) := fun k o hk hb => by
      by_cases e : k = r
      · subst e
        rw [h1.2] at hk
        injection hk with hk
        subst hk
        cases hb
      · rw [World.putObj_heap_other e]; exact hk
    refine leaves_marks2 B rs _ ⟨hrs, fun x hx => ?_⟩ (by simpa using hB) (fun W' hW' hk' => h W' (hbel.trans hW') (fun k o hk hb => hk' k o (hbk k o hk hb) hb))
    have h2 := hall x (List.mem_cons_of_mem _ hx)
    exact ⟨h2.1, (World.putObj_heap_other (fun e => hr (by first | (rw [← e]; exact hx) | (rw [e]; exact hx)))).trans h2.2⟩

set_option maxHeartbeats 8000000 in
set_option maxRecDepth 100000 in
theorem hanoi_Play.calls (A0 : Option Addr) (c0 : Nat) (l0 : List Int) (A1 : Option Addr) (c1 : Nat) (l1 : List S52) (r1 : List Int) (r2 r3 : Int) (w : World) (hr0 : Kd.C (Kd.int .i64) w A0 l0.length l0) (hc0 : l0.length ≤ c0) (hr1 : Kd.C k52 w A1 l1.length l1) (hc1 : l1.length ≤ c1) (h : hanoi_Play.f l0 l1 = some (r1, r2, r3)) :
    Calls Tryd.prog 56 #[.slice A0 l0.length c0, .slice A1 l1.length c1] w fun e w' => ∃ v0_ : Value, e = .returned (.tuple #[v0_, .int .i64 r2, .int .i64 r3]) ∧ Kd.R (Kd.int .i64) 3 w' w.heap.size (fun _ => True) v0_ r1 ∧ Below w.heap.size w w' := by
  obtain ⟨k, hk⟩ := check_ev l0
  have hchk := hk k (Nat.le_refl _)
  clear hk
  unfold hanoi_Play.f at h
  have HR := Aside0.mk hr0
  have HC0 := Aside0.mk hc0
  have HR1 := Aside0.mk hr1
  have HC1 := Aside0.mk hc1
  have HL1 := Aside0.mk hr1.2.1
  clear hr0 hc0 hr1 hc1
  by_cases hok : okD l0 = true
  · rw [if_pos hok] at h
    cases h
    rw [show checkD l0 = 0 by simp [checkD, hok]] at hchk
    have HC := Aside0.mk hchk
    have HOK := Aside0.mk hok
    have HCl := Aside0.mk (show slices_Clone_int_int.f l0 = some l0 by unfold slices_Clone_int_int.f; rw [if_pos]; obtain ⟨_, h2, _⟩ := okD_facts hok; omega)
    clear hchk hok
    refine (callsIn_wide (n := 8)).1 ?_
    refine callsIn_of_wp_marks Tryd.func56 rfl trivial ?_ rfl
    simp only [Tryd.ntmps56, List.size_toArray, List.length_cons, List.length_nil, Nat.reduceAdd, Nat.reduceSub, Array.replicate_succ, Array.replicate_zero, List.push_toArray, List.append_toArray, List.nil_append, List.cons_append]
    gi_wp2
    refine wpIn_scope ?_
    gi_wp2_with (refine ⟨trivial, ?_⟩; first | (gi_at_call 62; refine CallsIn.mono (callsIn_wide.2 (hanoi_Check.calls _ _ _ _ _ _ HR.out HC0.out HC.out)) ?_; rintro e w1 ⟨rfl, hb⟩; have HB := Aside0.mk hb; clear hb) | (gi_at_call 83; refine CallsIn.mono (callsIn_wide.2 (slices_Clone_int_int.calls _ _ _ _ _ (Kd.C_below HR.out HB.out) HC0.out HCl.out)) ?_; rintro e w2 ⟨v, rfl, ho, hb⟩; obtain ⟨g, cap, ev, hg1, hg2, hg3⟩ := Kd.R_form ho (okD_facts HOK.out).1; subst ev; have HB2 := Aside0.mk (HB.out.trans (hb.mono HB.out.size)); have HO := Aside0.mk ho; clear hb ho hg3))
    refine wpIn_label ?_
    gi_wp2
    have hsz1 := HB.out.size
    have hsz2 := HB2.out.size
    obtain ⟨W0, hW0⟩ : ∃ W0, (w2.alloc (Obj.cells #[Value.slice (some { block := g, off := 0 }) l0.length cap] 46)).alloc (Obj.cells #[Value.int IntKind.i64 0] 3) = W0 := ⟨_, rfl⟩
    have h0 : PlI l0 l1 w w2.heap.size g cap 0 0 l0 [] W0 := by
      rw [← hW0]
      refine ⟨Nat.zero_le _, Nat.le_refl _, rfl, (okD_facts HOK.out).2.2, by simp, (Blk.new w2 _ _).alloc _, ?_, ?_, (HB2.out.alloc hsz2 _).alloc (by simp; omega) _, ⟨List.nodup_nil, fun r hr => by cases hr⟩, by simp⟩
      · have := Blk.new (w2.alloc (Obj.cells #[Value.slice (some { block := g, off := 0 }) l0.length cap] 46)) #[Value.int IntKind.i64 0] 3
        rwa [World.size_alloc] at this
      · refine Kd.R_alloc (Kd.R_alloc (Kd.R_lower (Kd.R_mono (Kd.R_tight rfl HO.out) (fun j hj => ?_)) hsz1) _) _
        exact Option.some.inj hj
    rw [hW0]
    clear hW0 HO
    have hgb : w.heap.size ≤ g := by omega
    have hgl : g < w2.heap.size := hg2
    obtain ⟨b8, hb8⟩ : ∃ b8, w2.heap.size = b8 := ⟨_, rfl⟩
    rw [hb8] at h0 hgl hsz2 ⊢
    clear hb8 hg1 hg2
    have H0 := Aside0.mk h0
    clear h0
    refine wpIn_loop (fun a W => ∃ (i k : Nat) (d : List Int) (rs : List Nat) (x10 x11 x12 x13 x24 x25 x26 x27 x28 x29 x30 x31 x32 x33 x34 x35 x36 x37 x38 x39 x40 x41 x42 x43 x44 : Value), a = { tmps := #[Value.slice A0 l0.length c0, Value.slice A1 l1.length c1, undef, undef, Value.slice none 0 0, Value.int IntKind.i64 0, Value.int IntKind.i64 0, Value.int IntKind.i64 0, Value.pointer (some { block := b8, off := 0 }), Value.pointer (some { block := b8 + 1, off := 0 }), x10, x11, x12, x13, Value.slice A0 l0.length c0, Value.int IntKind.i64 0, Value.int IntKind.i64 0, Value.bool false, undef, Value.slice A0 l0.length c0, Value.slice (some { block := g, off := 0 }) l0.length cap, Value.slice A1 l1.length c1, Value.int IntKind.i64 (l1.length : Int), Value.int IntKind.i64 (i : Int), x24, x25, x26, x27, x28, x29, x30, x31, x32, x33, x34, x35, x36, x37, x38, x39, x40, x41, x42, x43, x44], defers := rs.map mark } ∧ Aside0 (PlI l0 l1 w b8 g cap i k d rs W)) (fun a _ => l1.length - (intOf (a.tmps.getD 23 undef)).toNat) ⟨0, 0, l0, [], _, _, _, _, _, _, _, _, _, _, _, _, _, _, _, _, _, _, _, _, _, _, _, _, _, rfl, H0⟩ ?_
    rintro a W ⟨i, kd, d, rs, x10, x11, x12, x13, x24, x25, x26, x27, x28, x29, x30, x31, x32, x33, x34, x35, x36, x37, x38, x39, x40, x41, x42, x43, x44, rfl, HI⟩
    clear H0
    by_cases hlt : i < l1.length
    · have hi1 : (i : Int) < (l1.length : Int) := by omega
      obtain ⟨ad1, e1, hx0, hx1⟩ := at_T52 (Kd.C_below HR1.out HI.out.below) (i : Int) (by omega) hi1
      subst e1
      obtain ⟨m, hm⟩ : ∃ m, rd_T52 l1 (i : Int) = m := ⟨_, rfl⟩
      rw [hm, Int.toNat_natCast] at hx0 hx1
      have hi0 : (0 : Int) ≤ (i : Int) := by omega
      have hcb := (HI.out.b0.alloc (Obj.cells #[Value.int IntKind.i64 m.f0, Value.int IntKind.i64 m.f1] 52)).cell 0 (v := .slice (some ⟨g, 0, none⟩) l0.length cap) rfl
      gi_wp2_with (refine ⟨trivial, ?_⟩; gi_at_call 67; refine (moves_calls Fence.wide _ trivial rfl _ _ _ _ _).mono ?_; rintro e w' ⟨rfl, rfl⟩)
      clear hx0 hx1 hcb
      obtain ⟨W6, hW6⟩ : ∃ W6, ((W.alloc (Obj.cells #[Value.int IntKind.i64 m.f0, Value.int IntKind.i64 m.f1] 52)).alloc (Obj.cells #[Value.slice (some { block := g, off := 0 }) l0.length cap] 46)).alloc (Obj.cells #[Value.int IntKind.i64 3] 3) = W6 := ⟨_, rfl⟩
      have hz : W6.heap.size = W.heap.size + 3 := by rw [← hW6]; simp
      have hq0 : Blk W6 W.heap.size #[Value.int IntKind.i64 m.f0, Value.int IntKind.i64 m.f1] 52 := by rw [← hW6]; exact ((Blk.new W _ _).alloc _).alloc _
      have hq1 : Blk W6 (W.heap.size + 1) #[Value.slice (some { block := g, off := 0 }) d.length cap] 46 := by rw [← hW6, HI.out.len]; have := Blk.new (W.alloc (Obj.cells #[Value.int IntKind.i64 m.f0, Value.int IntKind.i64 m.f1] 52)) #[Value.slice (some { block := g, off := 0 }) l0.length cap] 46; rw [World.size_alloc] at this; exact this.alloc _
      have hq2 : Blk W6 (W.heap.size + 1 + 1) #[Value.int IntKind.i64 3] 3 := by rw [← hW6]; have := Blk.new ((W.alloc (Obj.cells #[Value.int IntKind.i64 m.f0, Value.int IntKind.i64 m.f1] 52)).alloc (Obj.cells #[Value.slice (some { block := g, off := 0 }) l0.length cap] 46)) #[Value.int IntKind.i64 3] 3; rwa [World.size_alloc, World.size_alloc] at this
      have hWs := HI.out.size
      have hP6 : PlI l0 l1 w b8 g cap i kd d rs W6 := by rw [← hW6]; exact ((HI.out.alloc _).alloc _).alloc _
      rw [hW6]
      clear hW6
      have hF : Kd.F (Kd.int .i64) W6 (fun j => j = g) (some ⟨g, 0, none⟩) d.length d := by rw [hP6.len]; exact Kd.R_F hP6.row
      have hd40 : d.length ≤ 40 := by rw [HI.out.len]; exact (okD_facts HOK.out).2.1
      have hMl := HI.out.marks.lt
      have HP6 := Aside0.mk hP6
      have HQ0 := Aside0.mk hq0
      have HQ1 := Aside0.mk hq1
      have HQ2 := Aside0.mk hq2
      have HF := Aside0.mk hF
      have HML := Aside0.mk hMl
      have hgW : g < W.heap.size := by omega
      clear hP6 hq0 hq1 hq2 hF hMl
      refine range_outer (T := 127) (keep := own3 (fun j => j = g) (W.heap.size + 1) (W.heap.size + 1 + 1)) (L := movesL d 3) rfl (by omega) (gf := 91) (lb := #[Value.pointer (some ⟨W.heap.size + 1, 0, none⟩), Value.pointer (some ⟨W.heap.size + 1 + 1, 0, none⟩)]) rfl trivial (enters_of Tryd.func91 (by kernel_rfl) rfl)
        (encs := fun (x : Nat × Nat) => #[.int .i64 (x.1 : Int), .int .i64 (x.2 : Int)])
        (moves_it Fence.wide 7 trivial rfl (by omega) (fun j => j = g) (W.heap.size + 1) (W.heap.size + 1 + 1) 3 cap ⟨g, 0, none⟩ d hd40 (by omega) HI.out.pos W6 HQ1.out HQ2.out HF.out (fun j hj => by subst hj; omega))
        (Below.refl _ _) (fun j hj => by rcases hj with (hj | hj) | hj <;> omega) (fun _ => rfl)
        (fun pre V => Aside0 ((∀ x, x ∈ pre → ¬ ((x.1 : Int) = m.f0 ∧ (x.2 : Int) = m.f1)) ∧ PlI l0 l1 w b8 g cap i kd d rs V ∧ Blk V W.heap.size #[Value.int IntKind.i64 m.f0, Value.int IntKind.i64 m.f1] 52 ∧ W6.heap.size ≤ V.heap.size))
        (fun c pre V => c = .exit 1 ∧ Aside0 (mvB d m = true ∧ PlI l0 l1 w b8 g cap (i + 1) (kd + 1) (putM d m) rs V))
        (fun s A A' hs hst => by
          obtain ⟨h1, h2, h3, h4⟩ := hs.out
          exact .mk ⟨h1, h2.step hst (by omega) (fun r hr => by have := HML.out r hr; omega) hgb (by omega), hst.same _ _ h3 (.inl (by omega)), Nat.le_trans h4 hst.size⟩)
        (fun c s A A' hs hst => ⟨hs.1, .mk ⟨hs.2.out.1, hs.2.out.2.step hst (by omega) (fun r hr => by have := HML.out r hr; omega) hgb (by omega)⟩⟩)
        (.mk ⟨fun x hx => absurd hx (List.not_mem_nil), HP6.out, HQ0.out, Nat.le_refl _⟩)
        (fun x a' A => a' = { tmps := #[Value.slice A0 l0.length c0, Value.slice (some ad1) l1.length c1, undef, undef, Value.slice none 0 0, Value.int IntKind.i64 0, Value.int IntKind.i64 0, Value.int IntKind.i64 0, Value.pointer (some { block := b8, off := 0 }), Value.pointer (some { block := b8 + 1, off := 0 }), x10, Value.pointer (some { block := W.heap.size, off := 0 }), Value.int IntKind.i64 (x.1 : Int), Value.int IntKind.i64 (x.2 : Int), Value.slice A0 l0.length c0, Value.int IntKind.i64 0, Value.int IntKind.i64 0, Value.bool false, undef, Value.slice A0 l0.length c0, Value.slice (some { block := g, off := 0 }) l0.length cap, Value.slice (some ad1) l1.length c1, Value.int IntKind.i64 (l1.length : Int), Value.int IntKind.i64 (i : Int), Value.bool true, Value.pointer (some (ad1.add (i * 2))), Value.agg #[Value.int IntKind.i64 m.f0, Value.int IntKind.i64 m.f1], Value.slice (some { block := g, off := 0 }) l0.length cap, Value.func (Fn.func 91) #[] #[Value.pointer (some { block := W.heap.size + 1, off := 0 }), Value.pointer (some { block := W.heap.size + 1 + 1, off := 0 })], Value.int IntKind.i64 (x.1 : Int), Value.int IntKind.i64 (x.2 : Int), x31, x32, x33, x34, x35, x36, x37, x38, x39, x40, x41, x42, x43, x44], defers := [] })
        (fun x a' A A' hx hbk => hx) ?assign ?body ?done ?stop
      case assign =>
        intro l pre x rest V K hL hi hr hK
        have HK := Aside0.mk hK
        clear hK hr hL
        simp only [List.zip_toArray, List.zip_cons_cons, List.zip_nil_left]
        gi_wp2
        exact HK.out _ _ (RB.refl _ _ _) hi rfl
      case body =>
        rintro l pre x rest a' V hL hle ⟨r, hr⟩ hV rfl
        obtain ⟨v1, v2, v3, v4⟩ := hV.out
        have hcm0 := v3.cell 0 (v := .int .i64 m.f0) rfl
        have hcm1 := v3.cell 1 (v := .int .i64 m.f1) rfl
        have hmm : x ∈ movesL d 3 := by rw [hL]; simp
        obtain ⟨hx1, hx2⟩ := mem_moves hmm
        have HL := Aside0.mk hL
        clear hL hr
        have HV := hV
        clear hV
        by_cases hme : (x.1 : Int) = m.f0 ∧ (x.2 : Int) = m.f1
        · have hb0 : (m.f0 == (x.1 : Int)) = true := beq_iff_eq.2 hme.1.symm
          have hb1 : (m.f1 == (x.2 : Int)) = true := beq_iff_eq.2 hme.2.symm
          have HM := Aside0.mk hme
          have hcb := v2.b0.cell 0 (v := .slice (some ⟨g, 0, none⟩) l0.length cap) rfl
          have hck := v2.b1.cell 0 (v := .int .i64 (kd : Int)) rfl
          have hfk := v2.b1.free 0
          obtain ⟨hcg, hfg⟩ := Kd.R_celln (0 : Int) v2.row (x.1 : Int) (by omega) (by have := v2.len; omega)
          rw [Int.toNat_natCast] at hcg hfg
          have hxl : (x.1 : Int) < (l0.length : Int) := by have := v2.len; omega
          have hx0 : (0 : Int) ≤ (x.1 : Int) := by omega
          have hwk : IntKind.i64.wrap ((kd : Int) + 1) = (kd : Int) + 1 := by rw [i64_w]; exact w64 (by omega) (by have := v2.kle; have := HL1.out; omega)
          obtain ⟨cells, hcells⟩ := Kd.R_typed v2.row g rfl
          have HCE := Aside0.mk hcells
          have HMM := Aside0.mk hmm
          clear hme v1 v2 v3 hmm hcells
          gi_wp2
          have hP := HV.out.2.1
          have hrx : RX V ((V.setCell { block := g, off := x.fst } (Value.int IntKind.i64 (x.snd : Int))).setCell { block := b8 + 1, off := 0 } (Value.int IntKind.i64 ((kd : Int) + 1))) := by
            refine ((RX.refl V).set (fun o ho => ?_)).set (fun o ho => ?_)
            · have e := ho.symm.trans HCE.out
              injection e with e
              subst e
              rfl
            · have e := ho.symm.trans hP.b1
              injection e with e
              subst e
              rfl
          refine ⟨hrx, rfl, .mk ⟨?_, ?_⟩⟩
          · unfold mvB
            rw [List.any_eq_true]
            exact ⟨x, HMM.out, by rw [Bool.and_eq_true, decide_eq_true_eq, decide_eq_true_eq]; exact HM.out⟩
          · have hput : putM d m = d.set x.1 (x.2 : Int) := by unfold putM; rw [← HM.out.1, ← HM.out.2, Int.toNat_natCast]
            refine ⟨hlt, by have := hP.kle; omega, by rw [hput, List.length_set]; exact hP.len, ?_, ?_, ?_, ?_, ?_, ?_, hP.marks.rx hrx, by have := hP.size; simpa [World.setCell] using this⟩
            · rw [hput]
              intro j hj
              rw [List.length_set] at hj
              by_cases e : j = x.1
              · subst e
                have : nth (d.set x.1 (x.2 : Int)) x.1 = (x.2 : Int) := by simp [nth, hx1]
                rw [this]; omega
              · have : nth (d.set x.1 (x.2 : Int)) j = nth d j := by simp only [nth]; rw [List.getD_eq_getElem?_getD, List.getElem?_set_ne (fun h => e h.symm), ← List.getD_eq_getElem?_getD]
                rw [this]; exact hP.pos j hj
            · have hcan : mvB d m = true := by
                unfold mvB
                rw [List.any_eq_true]
                exact ⟨x, HMM.out, by rw [Bool.and_eq_true, decide_eq_true_eq, decide_eq_true_eq]; exact HM.out⟩
              rw [hP.out, drop_T52 l1 i hlt, hm, playL, if_pos hcan]
              simp only [Prod.mk.injEq, true_and]
              omega
            · exact (hP.b0.setOther (by simp; omega) _).setOther (by simp) _
            · have e1 : ((kd + 1 : Nat) : Int) = (kd : Int) + 1 := by omega
              rw [e1]
              exact (hP.b1.setOther (by simp; omega) _).set 0 _
            · rw [hput]
              have h1 := Kd.R_putn hP.row (x.1 : Int) (x.2 : Int)
              rw [Int.toNat_natCast] at h1
              exact Kd.R_far h1 (fun j hj => by subst hj; show j ≠ b8 + 1; omega) _
            · exact (hP.below.setCell (by simp; omega) _).setCell (by simp; omega) _
        · have hbb : (m.f0 == (x.1 : Int) && m.f1 == (x.2 : Int)) = false := by
            rw [Bool.and_eq_false_iff, beq_eq_false_iff_ne, beq_eq_false_iff_ne]
            by_cases c : (x.1 : Int) = m.f0
            · exact .inr (fun e => hme ⟨c, e.symm⟩)
            · exact .inl (fun e => c e.symm)
          have HN := Aside0.mk hme
          clear hme v1 v2 v3 hmm
          gi_wp2
          refine ⟨RB.refl _ _ _, .mk ⟨fun y hy => ?_, HV.out.2⟩⟩
          rcases List.mem_append.1 hy with hy | hy
          · exact HV.out.1 y hy
          · obtain rfl := List.mem_singleton.1 hy
            exact HN.out
      case done =>
        rintro D V hD hV hdef
        obtain ⟨v1, v2, v3, v4⟩ := hV.out
        have hno : mvB d m = false := by
          rw [Bool.eq_false_iff]
          intro hc
          unfold mvB at hc
          rw [List.any_eq_true] at hc
          obtain ⟨x, hx, hxm⟩ := hc
          rw [Bool.and_eq_true, decide_eq_true_eq, decide_eq_true_eq] at hxm
          exact v1 x hx hxm
        have hfin : playL l0 l1 = (d, kd) := by rw [v2.out, drop_T52 l1 i hlt, hm, playL, if_neg (by rw [hno]; simp)]; rfl
        have HFI := Aside0.mk hfin
        have HMk := Aside0.mk (v2.marks.cons (fun r hr => by have := HML.out r hr; omega) (by omega) hdef)
        have hcb := v2.b0.cell 0 (v := .slice (some ⟨g, 0, none⟩) l0.length cap) rfl
        have hck := v2.b1.cell 0 (v := .int .i64 (kd : Int)) rfl
        have HV2 := Aside0.mk v2
        clear hV v1 v2 v3 hno hfin hdef
        gi_wp2
        gi_quiet (fail)
        gi_wp2
        rw [Exit.noGoto_ret]
        have hQ := HV2.out
        refine leaves_marks2 w.heap.size (D :: rs) (V.drewN _) ⟨HMk.out.1, fun r hr => HMk.out.2 r hr⟩ (pw_below_drewN hQ.below _).size (fun W' hW' hBk => ?_)
        refine ⟨_, results_tmp3 rfl _ _ _, .slice (some ⟨g, 0, none⟩) l0.length cap, ?_, ?_, (pw_below_drewN hQ.below _).trans hW'⟩
        · rw [HFI.out]; rfl
        · rw [HFI.out]
          exact Kd.R_mono (R_bk (Kd.R_drewN hQ.row _) hBk) (fun _ _ => trivial)
      case stop =>
        intro D c pre x rest V hL hD hs hdef
        obtain ⟨rfl, hs2⟩ := hs
        have hwi : IntKind.i64.wrap ((i : Int) + 1) = ((i + 1 : Nat) : Int) := by rw [i64_w, w64 (by omega) (by have := HL1.out; omega)]; rfl
        have HMk := Aside0.mk (hs2.out.2.marks.cons (fun r hr => by have := HML.out r hr; omega) (by omega) hdef)
        clear hdef hL
        gi_wp2
        refine ⟨⟨i + 1, kd + 1, putM d m, D :: rs, _, _, _, _, _, _, _, _, _, _, _, _, _, _, _, _, _, _, _, _, _, _, _, _, _, rfl, .mk { hs2.out.2 with marks := HMk.out }⟩, ?_⟩
        simp [intOf]
        omega
    · have hi1 : ¬ (i : Int) < (l1.length : Int) := by omega
      have hfin : playL l0 l1 = (d, kd) := by rw [HI.out.out, List.drop_eq_nil_of_le (by omega)]; rfl
      have HFI := Aside0.mk hfin
      have hcb := HI.out.b0.cell 0 (v := .slice (some ⟨g, 0, none⟩) l0.length cap) rfl
      have hck := HI.out.b1.cell 0 (v := .int .i64 (kd : Int)) rfl
      clear hfin
      gi_wp2
      gi_quiet (fail)
      gi_wp2
      rw [Exit.noGoto_ret]
      have hQ := HI.out
      refine leaves_marks2 w.heap.size _ _ ⟨HI.out.marks.1, fun r hr => HI.out.marks.2 r hr⟩ (pw_below_drewN hQ.below _).size (fun W' hW' hBk => ?_)
      refine ⟨_, results_tmp3 rfl _ _ _, .slice (some ⟨g, 0, none⟩) l0.length cap, ?_, ?_, (pw_below_drewN hQ.below _).trans hW'⟩
      · rw [HFI.out]; rfl
      · rw [HFI.out]
        exact Kd.R_mono (R_bk (Kd.R_drewN hQ.row _) hBk) (fun _ _ => trivial)
  · rw [if_neg hok] at h
    cases h
    rw [show checkD l0 = 30 by simp [checkD, hok]] at hchk
    have HC := Aside0.mk hchk
    clear hchk hok
    refine (callsIn_wide (n := 8)).1 ?_
    refine callsIn_of_wp Tryd.func56 rfl trivial ?_ rfl
    simp only [Tryd.ntmps56, List.size_toArray, List.length_cons, List.length_nil, Nat.reduceAdd, Nat.reduceSub, Array.replicate_succ, Array.replicate_zero, List.push_toArray, List.append_toArray, List.nil_append, List.cons_append]
    gi_wp2
    refine wpIn_scope ?_
    gi_wp2_with (refine ⟨trivial, ?_⟩; gi_at_call 62; refine CallsIn.mono (callsIn_wide.2 (hanoi_Check.calls _ _ _ _ _ _ HR.out HC0.out HC.out)) ?_; rintro e w1 ⟨rfl, hb⟩; have HB := Aside0.mk hb; clear hb)
    rw [Exit.noGoto_ret]
    exact bodyPost_ret (results_tmp3 rfl _ _ _) rfl ⟨_, rfl, Kd.R_nil _ _ _ _ _, HB.out⟩
end Go.Proofs.YtnaaomhmoamfpaaDoor.G
namespace Go.Proofs.YtnaaomhmoamfpaaDoor.G
end Go.Proofs.YtnaaomhmoamfpaaDoor.G
namespace Go.Proofs.YtnaaomhmoamfpaaDoor.Q
set_option linter.unusedVariables false
set_option linter.unusedSimpArgs false
set_option linter.unusedSectionVars false
open Go.Proofs.YtnaaomhmoamfpaaDoor.G
open Go.RowKit Go.Proofs.YtnaaomhmoamfpaaDoorW.PrintWords Go.Proofs.YtnaaomhmoamfpaaDoorW.PrintLast Go.Proofs.YtnaaomhmoamfpaaDoorW.PrintMore
attribute [local go_sem] max2_int min2_int max_two min_two max_three min_three max_four min_four   -- for this text's walks alone

/-! ### bibelotlaw03_HanoiOwn: function 21 -/
mutual
def bibelotlaw03_HanoiOwn.l0 : Nat → List Int → List Int → List Int → List Int → List (S52) → Int → List (S52) → Int → List Int → Int → Int → Option (Bool)
  | 0, _, _, _, _, _, _, _, _, _, _, _ => none
  | k + 1, x7, x8, x9, x10, x11, x12, x13, x14, x15, x17, x18 => if x18 < (x11.length : Int) then (if 0 ≤ x18 then (bibelotlaw03_HanoiOwn.l0 k x7 x8 x9 x10 (x11.set (x18 : Int).toNat (⟨(-1), (-1)⟩ : S52)) x12 x13 x14 x15 x17 (wrap64 (x18 + 1))) else (none)) else (bibelotlaw03_HanoiOwn.l1 k x7 x8 x9 x10 x12 x13 x14 x15 x17 0)
def bibelotlaw03_HanoiOwn.l1 : Nat → List Int → List Int → List Int → List Int → Int → List (S52) → Int → List Int → Int → Int → Option (Bool)
  | 0, _, _, _, _, _, _, _, _, _, _ => none
  | k + 1, x7, x8, x9, x10, x12, x13, x14, x15, x17, x19 => if x19 < (x15.length : Int) then (if 0 ≤ x19 then (bibelotlaw03_HanoiOwn.l1 k x7 x8 x9 x10 x12 x13 x14 (x15.set (x19 : Int).toNat (-1)) x17 (wrap64 (x19 + 1))) else (none)) else (bibelotlaw03_HanoiOwn.l2 k x7 x8 x9 x10 x12 x13 x14 x17 0)
def bibelotlaw03_HanoiOwn.l2 : Nat → List Int → List Int → List Int → List Int → Int → List (S52) → Int → Int → Int → Option (Bool)
  | 0, _, _, _, _, _, _, _, _, _ => none
  | k + 1, x7, x8, x9, x10, x12, x13, x14, x17, x20 => if x20 < (x13.length : Int) then (if 0 ≤ x20 then (bibelotlaw03_HanoiOwn.l2 k x7 x8 x9 x10 x12 (x13.set (x20 : Int).toNat (⟨(-1), (-1)⟩ : S52)) x14 x17 (wrap64 (x20 + 1))) else (none)) else ((hanoi_Way.f x7 x8).bind fun bt548 => (if x12 = 0 then (if x14 = 0 then (if x17 = 0 then (if bt548.2 = 0 then ((bibelotlaw03_ints.f k x7 x9).bind fun t552 => (if t552 = true then ((bibelotlaw03_ints.f k x8 x10).bind fun t553 => (if t553 = true then ((bibelotref03_Distance.f x9 x10).bind fun t554 => (if (bt548.1.length : Int) = t554 then (if (bt548.1.length : Int) = 0 then ((bibelotlaw03_awake.f k).bind fun t555 => (some t555)) else (if 0 < (bt548.1.length : Int) then (if ((rd_T52 bt548.1 0).f0) ≥ 0 then ((bibelotlaw03_awake.f k).bind fun t557 => (some t557)) else (some false)) else (none))) else (some false))) else (some false))) else (some false))) else (some false)) else (some false)) else (some false)) else (some false)))
end
def bibelotlaw03_HanoiOwn.f (k : Nat) (a0 : Int) (l1 : List Int) (l2 : List Int) : Option (Bool) := (bibelotlaw03_many.f a0 10).bind fun t516 => ((bibelotlaw03_discs.f k l1 t516).bind fun t517 => ((bibelotlaw03_discs.f k l2 t516).bind fun t520 => ((bibelotlaw03_own.f t517).bind fun t523 => ((bibelotlaw03_own.f t520).bind fun t526 => ((hanoi_Moves.f t517).bind fun bt529 => ((hanoi_Way.f t517 t520).bind fun bt533 => ((bibelotlaw03_way.f bt533.1).bind fun t537 => ((hanoi_Play.f t517 t537).bind fun bt540 => (bibelotlaw03_HanoiOwn.l0 k t517 t520 t523 t526 bt529.1 bt529.2 bt533.1 bt533.2 bt540.1 bt540.2.2 0)))))))))
theorem bibelotlaw03_HanoiOwn.mono_l : ∀ k, (∀ y0 y1 y2 y3 y4 y5 y6 y7 y8 y9 y10, LeO (bibelotlaw03_HanoiOwn.l0 k y0 y1 y2 y3 y4 y5 y6 y7 y8 y9 y10) (bibelotlaw03_HanoiOwn.l0 (k + 1) y0 y1 y2 y3 y4 y5 y6 y7 y8 y9 y10)) ∧ (∀ y0 y1 y2 y3 y4 y5 y6 y7 y8 y9, LeO (bibelotlaw03_HanoiOwn.l1 k y0 y1 y2 y3 y4 y5 y6 y7 y8 y9) (bibelotlaw03_HanoiOwn.l1 (k + 1) y0 y1 y2 y3 y4 y5 y6 y7 y8 y9)) ∧ (∀ y0 y1 y2 y3 y4 y5 y6 y7 y8, LeO (bibelotlaw03_HanoiOwn.l2 k y0 y1 y2 y3 y4 y5 y6 y7 y8) (bibelotlaw03_HanoiOwn.l2 (k + 1) y0 y1 y2 y3 y4 y5 y6 y7 y8))
  | 0 => ⟨fun _ _ _ _ _ _ _ _ _ _ _ r h => by simp [bibelotlaw03_HanoiOwn.l0] at h, fun _ _ _ _ _ _ _ _ _ _ r h => by simp [bibelotlaw03_HanoiOwn.l1] at h, fun _ _ _ _ _ _ _ _ _ r h => by simp [bibelotlaw03_HanoiOwn.l2] at h⟩
  | k + 1 => by
    obtain ⟨ih0, ih1, ih2⟩ := bibelotlaw03_HanoiOwn.mono_l k
    refine ⟨?_, ?_, ?_⟩
    · intro y0 y1 y2 y3 y4 y5 y6 y7 y8 y9 y10
      unfold bibelotlaw03_HanoiOwn.l0
      repeat' first
      | (with_reducible exact ih0 _ _ _ _ _ _ _ _ _ _ _)
      | (with_reducible exact ih1 _ _ _ _ _ _ _ _ _ _)
      | (with_reducible exact ih2 _ _ _ _ _ _ _ _ _)
      | (with_reducible exact bibelotlaw03_awake.mono _)
      | (with_reducible exact bibelotlaw03_discs.mono _ _ _)
      | (with_reducible exact bibelotlaw03_ints.mono _ _ _)
      | (with_reducible exact LeO.refl _)
      | (with_reducible exact LeO.none _)
      | (with_reducible refine LeO.ite ?_ ?_)
      | (with_reducible refine LeO.bind ?_ (fun _ => ?_))
      | exact ih0 _ _ _ _ _ _ _ _ _ _ _
      | exact ih1 _ _ _ _ _ _ _ _ _ _
      | exact ih2 _ _ _ _ _ _ _ _ _
      | exact bibelotlaw03_awake.mono _
      | exact bibelotlaw03_discs.mono _ _ _
      | exact bibelotlaw03_ints.mono _ _ _
      | exact LeO.none _
      | refine LeO.ite ?_ ?_
      | refine LeO.bind ?_ (fun _ => ?_)
    · intro y0 y1 y2 y3 y4 y5 y6 y7 y8 y9
      unfold bibelotlaw03_HanoiOwn.l1
      repeat' first
      | (with_reducible exact ih0 _ _ _ _ _ _ _ _ _ _ _)
      | (with_reducible exact ih1 _ _ _ _ _ _ _ _ _ _)
      | (with_reducible exact ih2 _ _ _ _ _ _ _ _ _)
      | (with_reducible exact bibelotlaw03_awake.mono _)
      | (with_reducible exact bibelotlaw03_discs.mono _ _ _)
      | (with_reducible exact bibelotlaw03_ints.mono _ _ _)
      | (with_reducible exact LeO.refl _)
      | (with_reducible exact LeO.none _)
      | (with_reducible refine LeO.ite ?_ ?_)
      | (with_reducible refine LeO.bind ?_ (fun _ => ?_))
      | exact ih0 _ _ _ _ _ _ _ _ _ _ _
      | exact ih1 _ _ _ _ _ _ _ _ _ _
      | exact ih2 _ _ _ _ _ _ _ _ _
      | exact bibelotlaw03_awake.mono _
      | exact bibelotlaw03_discs.mono _ _ _
      | exact bibelotlaw03_ints.mono _ _ _
      | exact LeO.none _
      | refine LeO.ite ?_ ?_
      | refine LeO.bind ?_ (fun _ => ?_)
    · intro y0 y1 y2 y3 y4 y5 y6 y7 y8
      unfold bibelotlaw03_HanoiOwn.l2
      repeat' first
      | (with_reducible exact ih0 _ _ _ _ _ _ _ _ _ _ _)
      | (with_reducible exact ih1 _ _ _ _ _ _ _ _ _ _)
      | (with_reducible exact ih2 _ _ _ _ _ _ _ _ _)
      | (with_reducible exact bibelotlaw03_awake.mono _)
      | (with_reducible exact bibelotlaw03_discs.mono _ _ _)
      | (with_reducible exact bibelotlaw03_ints.mono _ _ _)
      | (with_reducible exact LeO.refl _)
      | (with_reducible exact LeO.none _)
      | (with_reducible refine LeO.ite ?_ ?_)
      | (with_reducible refine LeO.bind ?_ (fun _ => ?_))
      | exact ih0 _ _ _ _ _ _ _ _ _ _ _
      | exact ih1 _ _ _ _ _ _ _ _ _ _
      | exact ih2 _ _ _ _ _ _ _ _ _
      | exact bibelotlaw03_awake.mono _
      | exact bibelotlaw03_discs.mono _ _ _
      | exact bibelotlaw03_ints.mono _ _ _
      | exact LeO.none _
      | refine LeO.ite ?_ ?_
      | refine LeO.bind ?_ (fun _ => ?_)
theorem bibelotlaw03_HanoiOwn.mono : ∀ a0 a1 a2 k, LeO (bibelotlaw03_HanoiOwn.f k a0 a1 a2) (bibelotlaw03_HanoiOwn.f (k + 1) a0 a1 a2) := by
  intro a0 a1 a2 k
  obtain ⟨ih0, ih1, ih2⟩ := bibelotlaw03_HanoiOwn.mono_l k
  unfold bibelotlaw03_HanoiOwn.f
  repeat' first
      | (with_reducible exact ih0 _ _ _ _ _ _ _ _ _ _ _)
      | (with_reducible exact ih1 _ _ _ _ _ _ _ _ _ _)
      | (with_reducible exact ih2 _ _ _ _ _ _ _ _ _)
      | (with_reducible exact bibelotlaw03_awake.mono _)
      | (with_reducible exact bibelotlaw03_discs.mono _ _ _)
      | (with_reducible exact bibelotlaw03_ints.mono _ _ _)
      | (with_reducible exact LeO.refl _)
      | (with_reducible exact LeO.none _)
      | (with_reducible refine LeO.ite ?_ ?_)
      | (with_reducible refine LeO.bind ?_ (fun _ => ?_))
      | exact ih0 _ _ _ _ _ _ _ _ _ _ _
      | exact ih1 _ _ _ _ _ _ _ _ _ _
      | exact ih2 _ _ _ _ _ _ _ _ _
      | exact bibelotlaw03_awake.mono _
      | exact bibelotlaw03_discs.mono _ _ _
      | exact bibelotlaw03_ints.mono _ _ _
      | exact LeO.none _
      | refine LeO.ite ?_ ?_
      | refine LeO.bind ?_ (fun _ => ?_)
set_option maxHeartbeats 8000000 in
set_option maxRecDepth 100000 in
theorem bibelotlaw03_HanoiOwn.calls (k : Nat) (a0 : Int) (A1 : Option Addr) (c1 : Nat) (l1 : List Int) (A2 : Option Addr) (c2 : Nat) (l2 : List Int) (r : Bool) (w : World) (hr1 : Kd.C (Kd.int .i64) w A1 l1.length l1) (hc1 : l1.length ≤ c1) (hr2 : Kd.C (Kd.int .i64) w A2 l2.length l2) (hc2 : l2.length ≤ c2) (h : bibelotlaw03_HanoiOwn.f k a0 l1 l2 = some r) :
    Calls Tryd.prog 21 #[.int .i64 a0, .slice A1 l1.length c1, .slice A2 l2.length c2] w fun e w' => e = .returned (.bool r) ∧ Below w.heap.size w w' := by
  have hu52 := Tryd.underlying52
  have HR1 := Aside0.mk hr1
  have HC1 := Aside0.mk hc1
  clear hr1 hc1
  have HR2 := Aside0.mk hr2
  have HC2 := Aside0.mk hc2
  clear hr2 hc2
  have HB := Aside0.mk (Below.refl w.heap.size w)
  have H : ((bibelotlaw03_many.f a0 10).bind fun t516 => ((bibelotlaw03_discs.f k l1 t516).bind fun t517 => ((bibelotlaw03_discs.f k l2 t516).bind fun t520 => ((bibelotlaw03_own.f t517).bind fun t523 => ((bibelotlaw03_own.f t520).bind fun t526 => ((hanoi_Moves.f t517).bind fun bt529 => ((hanoi_Way.f t517 t520).bind fun bt533 => ((bibelotlaw03_way.f bt533.1).bind fun t537 => ((hanoi_Play.f t517 t537).bind fun bt540 => (bibelotlaw03_HanoiOwn.l0 k t517 t520 t523 t526 bt529.1 bt529.2 bt533.1 bt533.2 bt540.1 bt540.2.2 0)))))))))) = some r := h
  clear h
  replace H := Option.bind_eq_some_iff.mp H
  obtain ⟨t516, A40, H⟩ := H
  replace H : ((bibelotlaw03_discs.f k l1 t516).bind fun t517 => ((bibelotlaw03_discs.f k l2 t516).bind fun t520 => ((bibelotlaw03_own.f t517).bind fun t523 => ((bibelotlaw03_own.f t520).bind fun t526 => ((hanoi_Moves.f t517).bind fun bt529 => ((hanoi_Way.f t517 t520).bind fun bt533 => ((bibelotlaw03_way.f bt533.1).bind fun t537 => ((hanoi_Play.f t517 t537).bind fun bt540 => (bibelotlaw03_HanoiOwn.l0 k t517 t520 t523 t526 bt529.1 bt529.2 bt533.1 bt533.2 bt540.1 bt540.2.2 0))))))))) = some r := H
  have A4 := Aside0.mk A40
  clear A40
  replace H := Option.bind_eq_some_iff.mp H
  obtain ⟨t517, A50, H⟩ := H
  replace H : ((bibelotlaw03_discs.f k l2 t516).bind fun t520 => ((bibelotlaw03_own.f t517).bind fun t523 => ((bibelotlaw03_own.f t520).bind fun t526 => ((hanoi_Moves.f t517).bind fun bt529 => ((hanoi_Way.f t517 t520).bind fun bt533 => ((bibelotlaw03_way.f bt533.1).bind fun t537 => ((hanoi_Play.f t517 t537).bind fun bt540 => (bibelotlaw03_HanoiOwn.l0 k t517 t520 t523 t526 bt529.1 bt529.2 bt533.1 bt533.2 bt540.1 bt540.2.2 0)))))))) = some r := H
  have A5 := Aside0.mk A50
  clear A50
  replace H := Option.bind_eq_some_iff.mp H
  obtain ⟨t520, A60, H⟩ := H
  replace H : ((bibelotlaw03_own.f t517).bind fun t523 => ((bibelotlaw03_own.f t520).bind fun t526 => ((hanoi_Moves.f t517).bind fun bt529 => ((hanoi_Way.f t517 t520).bind fun bt533 => ((bibelotlaw03_way.f bt533.1).bind fun t537 => ((hanoi_Play.f t517 t537).bind fun bt540 => (bibelotlaw03_HanoiOwn.l0 k t517 t520 t523 t526 bt529.1 bt529.2 bt533.1 bt533.2 bt540.1 bt540.2.2 0))))))) = some r := H
  have A6 := Aside0.mk A60
  clear A60
  replace H := Option.bind_eq_some_iff.mp H
  obtain ⟨t523, A70, H⟩ := H
  replace H : ((bibelotlaw03_own.f t520).bind fun t526 => ((hanoi_Moves.f t517).bind fun bt529 => ((hanoi_Way.f t517 t520).bind fun bt533 => ((bibelotlaw03_way.f bt533.1).bind fun t537 => ((hanoi_Play.f t517 t537).bind fun bt540 => (bibelotlaw03_HanoiOwn.l0 k t517 t520 t523 t526 bt529.1 bt529.2 bt533.1 bt533.2 bt540.1 bt540.2.2 0)))))) = some r := H
  have A7 := Aside0.mk A70
  clear A70
  replace H := Option.bind_eq_some_iff.mp H
  obtain ⟨t526, A80, H⟩ := H
  replace H : ((hanoi_Moves.f t517).bind fun bt529 => ((hanoi_Way.f t517 t520).bind fun bt533 => ((bibelotlaw03_way.f bt533.1).bind fun t537 => ((hanoi_Play.f t517 t537).bind fun bt540 => (bibelotlaw03_HanoiOwn.l0 k t517 t520 t523 t526 bt529.1 bt529.2 bt533.1 bt533.2 bt540.1 bt540.2.2 0))))) = some r := H
  have A8 := Aside0.mk A80
  clear A80
  replace H := Option.bind_eq_some_iff.mp H
  obtain ⟨⟨t529, t530⟩, A90, H⟩ := H
  replace H : ((hanoi_Way.f t517 t520).bind fun bt533 => ((bibelotlaw03_way.f bt533.1).bind fun t537 => ((hanoi_Play.f t517 t537).bind fun bt540 => (bibelotlaw03_HanoiOwn.l0 k t517 t520 t523 t526 t529 t530 bt533.1 bt533.2 bt540.1 bt540.2.2 0)))) = some r := H
  have A9 := Aside0.mk A90
  clear A90
  replace H := Option.bind_eq_some_iff.mp H
  obtain ⟨⟨t533, t534⟩, A100, H⟩ := H
  replace H : ((bibelotlaw03_way.f t533).bind fun t537 => ((hanoi_Play.f t517 t537).bind fun bt540 => (bibelotlaw03_HanoiOwn.l0 k t517 t520 t523 t526 t529 t530 t533 t534 bt540.1 bt540.2.2 0))) = some r := H
  have A10 := Aside0.mk A100
  clear A100
  replace H := Option.bind_eq_some_iff.mp H
  obtain ⟨t537, A110, H⟩ := H
  replace H : ((hanoi_Play.f t517 t537).bind fun bt540 => (bibelotlaw03_HanoiOwn.l0 k t517 t520 t523 t526 t529 t530 t533 t534 bt540.1 bt540.2.2 0)) = some r := H
  have A11 := Aside0.mk A110
  clear A110
  replace H := Option.bind_eq_some_iff.mp H
  obtain ⟨⟨t540, t541, t542⟩, A120, H⟩ := H
  replace H : (bibelotlaw03_HanoiOwn.l0 k t517 t520 t523 t526 t529 t530 t533 t534 t540 t542 0) = some r := H
  have A12 := Aside0.mk A120
  clear A120
  have H' := Aside0.mk H
  clear H
  go_enter Tryd.func21, Tryd.ntmps21
  go_wp2_with (first | ((with_reducible refine gate_callee (f := 25) rfl ?_); refine goesL_ (some 24) rfl rfl Tryd.func25 (by kernel_rfl) rfl #[.int .i64 a0, .int .i64 10] rfl (by (try simp only [List.map_toArray, List.map_cons, List.map_nil]); first | done | rfl | (simp only [List.length_drop, List.length_take]; rfl)) ?_; (with_reducible refine (bibelotlaw03_many.calls a0 10 t516 _ A4.out).mono ?_); rintro e w' ⟨rfl, ⟨nd, rfl⟩⟩; refine ⟨_, rfl, ?_⟩) | ((with_reducible refine gate_callee (f := 40) rfl ?_); refine goesL_ (some 27) rfl rfl Tryd.func40 (by kernel_rfl) rfl #[.slice A1 l1.length c1, .int .i64 t516] rfl (by (try simp only [List.map_toArray, List.map_cons, List.map_nil]); first | done | rfl | (simp only [List.length_drop, List.length_take]; rfl)) ?_; (with_reducible refine (bibelotlaw03_discs.calls k _ _ l1 t516 t517 _ ?side1 ?side2 A5.out).mono ?_); (case side1 => repeat (first | exact HR1.out | (with_reducible refine Kd.C_alloc ?_ _) | (with_reducible refine Kd.C_drewN ?_ _) | (with_reducible refine Kd.C_drew ?_))); (case side2 => exact HC1.out); rintro e w13 ⟨v518, rfl, ho0, hb⟩; refine ⟨_, rfl, ?_⟩; have n0_ := Aside0.mk (Kd.R_lower ho0 (below_size (by repeat (first | (with_reducible first | exact HB.out | apply below_alloc | apply pw_below_drewN | apply below_drew1) | exact HB.out)))); have n1_ := Aside0.mk (below_step (by repeat (first | (with_reducible first | exact HB.out | apply below_alloc | apply pw_below_drewN | apply below_drew1) | exact HB.out)) hb); clear HB; have HO519 := n0_; have HB := n1_; clear n0_ n1_; (try clear hb); (try clear hb2); (try clear hk); (try clear hi); (try clear ho0)) | ((with_reducible refine gate_callee (f := 40) rfl ?_); refine goesL_ (some 30) rfl rfl Tryd.func40 (by kernel_rfl) rfl #[.slice A2 l2.length c2, .int .i64 t516] rfl (by (try simp only [List.map_toArray, List.map_cons, List.map_nil]); first | done | rfl | (simp only [List.length_drop, List.length_take]; rfl)) ?_; (with_reducible refine (bibelotlaw03_discs.calls k _ _ l2 t516 t520 _ ?side1 ?side2 A6.out).mono ?_); (case side1 => repeat (first | exact (Kd.C_below HR2.out HB.out) | (with_reducible refine Kd.C_alloc ?_ _) | (with_reducible refine Kd.C_drewN ?_ _) | (with_reducible refine Kd.C_drew ?_))); (case side2 => exact HC2.out); rintro e w14 ⟨v521, rfl, ho0, hb⟩; refine ⟨_, rfl, ?_⟩; have n0_ := Aside0.mk (Kd.R_elder' (by (with_reducible repeat (first | apply Kd.R_alloc | apply Kd.R_drewN | apply Kd.R_drew)); exact HO519.out) (Kd.R_base ho0) hb); have n1_ := Aside0.mk (Kd.R_lower (Kd.R_new' ho0 (Kd.R_lt (by (with_reducible repeat (first | apply Kd.R_alloc | apply Kd.R_drewN | apply Kd.R_drew)); exact HO519.out))) (below_size (by repeat (first | (with_reducible first | exact HB.out | apply below_alloc | apply pw_below_drewN | apply below_drew1) | exact HB.out)))); have n2_ := Aside0.mk (below_step (by repeat (first | (with_reducible first | exact HB.out | apply below_alloc | apply pw_below_drewN | apply below_drew1) | exact HB.out)) hb); clear HO519; clear HB; have HO519 := n0_; have HO522 := n1_; have HB := n2_; clear n0_ n1_ n2_; (try clear hb); (try clear hb2); (try clear hk); (try clear hi); (try clear ho0); obtain ⟨Ao15, co15, eo15⟩ := Kd.R_slice HO519.out; subst eo15) | ((with_reducible refine gate_callee (f := 60) rfl ?_); refine goesL_ (some 32) rfl rfl Tryd.func60 (by kernel_rfl) rfl #[.slice Ao15 t517.length co15] rfl (by (try simp only [List.map_toArray, List.map_cons, List.map_nil]); first | done | rfl | (simp only [List.length_drop, List.length_take]; rfl)) ?_; (with_reducible refine (bibelotlaw03_own.calls _ _ t517 t523 _ ?side1 ?side2 A7.out).mono ?_); (case side1 => repeat (first | exact (Kd.R_reads' HO519.out).2.2 | (with_reducible refine Kd.C_alloc ?_ _) | (with_reducible refine Kd.C_drewN ?_ _) | (with_reducible refine Kd.C_drew ?_))); (case side2 => exact (Kd.R_reads' HO519.out).2.1); rintro e w16 ⟨v524, rfl, ho0, hb⟩; refine ⟨_, rfl, ?_⟩; have n0_ := Aside0.mk (Kd.R_elder' (by (with_reducible repeat (first | apply Kd.R_alloc | apply Kd.R_drewN | apply Kd.R_drew)); exact HO519.out) (Kd.R_base ho0) hb); have n1_ := Aside0.mk (Kd.R_elder' (by (with_reducible repeat (first | apply Kd.R_alloc | apply Kd.R_drewN | apply Kd.R_drew)); exact HO522.out) (Kd.R_base ho0) hb); have n2_ := Aside0.mk (Kd.R_lower (Kd.R_new' (Kd.R_new' ho0 (Kd.R_lt (by (with_reducible repeat (first | apply Kd.R_alloc | apply Kd.R_drewN | apply Kd.R_drew)); exact HO519.out))) (Kd.R_lt (by (with_reducible repeat (first | apply Kd.R_alloc | apply Kd.R_drewN | apply Kd.R_drew)); exact HO522.out))) (below_size (by repeat (first | (with_reducible first | exact HB.out | apply below_alloc | apply pw_below_drewN | apply below_drew1) | exact HB.out)))); have n3_ := Aside0.mk (below_step (by repeat (first | (with_reducible first | exact HB.out | apply below_alloc | apply pw_below_drewN | apply below_drew1) | exact HB.out)) hb); clear HO519; clear HO522; clear HB; have HO519 := n0_; have HO522 := n1_; have HO525 := n2_; have HB := n3_; clear n0_ n1_ n2_ n3_; (try clear hb); (try clear hb2); (try clear hk); (try clear hi); (try clear ho0); obtain ⟨Ao17, co17, eo17⟩ := Kd.R_slice HO522.out; subst eo17) | ((with_reducible refine gate_callee (f := 60) rfl ?_); refine goesL_ (some 34) rfl rfl Tryd.func60 (by kernel_rfl) rfl #[.slice Ao17 t520.length co17] rfl (by (try simp only [List.map_toArray, List.map_cons, List.map_nil]); first | done | rfl | (simp only [List.length_drop, List.length_take]; rfl)) ?_; (with_reducible refine (bibelotlaw03_own.calls _ _ t520 t526 _ ?side1 ?side2 A8.out).mono ?_); (case side1 => repeat (first | exact (Kd.R_reads' HO522.out).2.2 | (with_reducible refine Kd.C_alloc ?_ _) | (with_reducible refine Kd.C_drewN ?_ _) | (with_reducible refine Kd.C_drew ?_))); (case side2 => exact (Kd.R_reads' HO522.out).2.1); rintro e w18 ⟨v527, rfl, ho0, hb⟩; refine ⟨_, rfl, ?_⟩; have n0_ := Aside0.mk (Kd.R_elder' (by (with_reducible repeat (first | apply Kd.R_alloc | apply Kd.R_drewN | apply Kd.R_drew)); exact HO519.out) (Kd.R_base ho0) hb); have n1_ := Aside0.mk (Kd.R_elder' (by (with_reducible repeat (first | apply Kd.R_alloc | apply Kd.R_drewN | apply Kd.R_drew)); exact HO522.out) (Kd.R_base ho0) hb); have n2_ := Aside0.mk (Kd.R_elder' (by (with_reducible repeat (first | apply Kd.R_alloc | apply Kd.R_drewN | apply Kd.R_drew)); exact HO525.out) (Kd.R_base ho0) hb); have n3_ := Aside0.mk (Kd.R_lower (Kd.R_new' (Kd.R_new' (Kd.R_new' ho0 (Kd.R_lt (by (with_reducible repeat (first | apply Kd.R_alloc | apply Kd.R_drewN | apply Kd.R_drew)); exact HO519.out))) (Kd.R_lt (by (with_reducible repeat (first | apply Kd.R_alloc | apply Kd.R_drewN | apply Kd.R_drew)); exact HO522.out))) (Kd.R_lt (by (with_reducible repeat (first | apply Kd.R_alloc | apply Kd.R_drewN | apply Kd.R_drew)); exact HO525.out))) (below_size (by repeat (first | (with_reducible first | exact HB.out | apply below_alloc | apply pw_below_drewN | apply below_drew1) | exact HB.out)))); have n4_ := Aside0.mk (below_step (by repeat (first | (with_reducible first | exact HB.out | apply below_alloc | apply pw_below_drewN | apply below_drew1) | exact HB.out)) hb); clear HO519; clear HO522; clear HO525; clear HB; have HO519 := n0_; have HO522 := n1_; have HO525 := n2_; have HO528 := n3_; have HB := n4_; clear n0_ n1_ n2_ n3_ n4_; (try clear hb); (try clear hb2); (try clear hk); (try clear hi); (try clear ho0)) | ((with_reducible refine gate_callee (f := 41) rfl ?_); refine goesL_ (some 37) rfl rfl Tryd.func41 (by kernel_rfl) rfl #[.slice Ao15 t517.length co15] rfl (by (try simp only [List.map_toArray, List.map_cons, List.map_nil]); first | done | rfl | (simp only [List.length_drop, List.length_take]; rfl)) ?_; (with_reducible refine (hanoi_Moves.calls _ _ t517 t529 t530 _ ?side1 ?side2 A9.out).mono ?_); (case side1 => repeat (first | exact (Kd.R_reads' HO519.out).2.2 | (with_reducible refine Kd.C_alloc ?_ _) | (with_reducible refine Kd.C_drewN ?_ _) | (with_reducible refine Kd.C_drew ?_))); (case side2 => exact (Kd.R_reads' HO519.out).2.1); rintro e w19 ⟨v531, rfl, ho0, hb⟩; refine ⟨_, rfl, ?_⟩; have n0_ := Aside0.mk (Kd.R_below (by (with_reducible repeat (first | apply Kd.R_alloc | apply Kd.R_drewN | apply Kd.R_drew)); exact HO519.out) hb); have n1_ := Aside0.mk (Kd.R_below (by (with_reducible repeat (first | apply Kd.R_alloc | apply Kd.R_drewN | apply Kd.R_drew)); exact HO522.out) hb); have n2_ := Aside0.mk (Kd.R_below (by (with_reducible repeat (first | apply Kd.R_alloc | apply Kd.R_drewN | apply Kd.R_drew)); exact HO525.out) hb); have n3_ := Aside0.mk (Kd.R_below (by (with_reducible repeat (first | apply Kd.R_alloc | apply Kd.R_drewN | apply Kd.R_drew)); exact HO528.out) hb); have n4_ := Aside0.mk (Kd.R_lower ho0 (below_size (by repeat (first | (with_reducible first | exact HB.out | apply below_alloc | apply pw_below_drewN | apply below_drew1) | exact HB.out)))); have n5_ := Aside0.mk (below_step (by repeat (first | (with_reducible first | exact HB.out | apply below_alloc | apply pw_below_drewN | apply below_drew1) | exact HB.out)) hb); clear HO519; clear HO522; clear HO525; clear HO528; clear HB; have HO519 := n0_; have HO522 := n1_; have HO525 := n2_; have HO528 := n3_; have HO532 := n4_; have HB := n5_; clear n0_ n1_ n2_ n3_ n4_ n5_; (try clear hb); (try clear hb2); (try clear hk); (try clear hi); (try clear ho0)) | ((with_reducible refine gate_callee (f := 59) rfl ?_); refine goesL_ (some 43) rfl rfl Tryd.func59 (by kernel_rfl) rfl #[.slice Ao15 t517.length co15, .slice Ao17 t520.length co17] rfl (by (try simp only [List.map_toArray, List.map_cons, List.map_nil]); first | done | rfl | (simp only [List.length_drop, List.length_take]; rfl)) ?_; (with_reducible refine (hanoi_Way.calls _ _ t517 _ _ t520 t533 t534 _ ?side1 ?side2 ?side3 ?side4 A10.out).mono ?_); (case side1 => repeat (first | exact (Kd.R_reads' HO519.out).2.2 | (with_reducible refine Kd.C_alloc ?_ _) | (with_reducible refine Kd.C_drewN ?_ _) | (with_reducible refine Kd.C_drew ?_))); (case side2 => exact (Kd.R_reads' HO519.out).2.1); (case side3 => repeat (first | exact (Kd.R_reads' HO522.out).2.2 | (with_reducible refine Kd.C_alloc ?_ _) | (with_reducible refine Kd.C_drewN ?_ _) | (with_reducible refine Kd.C_drew ?_))); (case side4 => exact (Kd.R_reads' HO522.out).2.1); rintro e w20 ⟨v535, rfl, ho0, hb⟩; refine ⟨_, rfl, ?_⟩; have n0_ := Aside0.mk (Kd.R_below (by (with_reducible repeat (first | apply Kd.R_alloc | apply Kd.R_drewN | apply Kd.R_drew)); exact HO519.out) hb); have n1_ := Aside0.mk (Kd.R_below (by (with_reducible repeat (first | apply Kd.R_alloc | apply Kd.R_drewN | apply Kd.R_drew)); exact HO522.out) hb); have n2_ := Aside0.mk (Kd.R_below (by (with_reducible repeat (first | apply Kd.R_alloc | apply Kd.R_drewN | apply Kd.R_drew)); exact HO525.out) hb); have n3_ := Aside0.mk (Kd.R_below (by (with_reducible repeat (first | apply Kd.R_alloc | apply Kd.R_drewN | apply Kd.R_drew)); exact HO528.out) hb); have n4_ := Aside0.mk (Kd.R_elder' (by (with_reducible repeat (first | apply Kd.R_alloc | apply Kd.R_drewN | apply Kd.R_drew)); exact HO532.out) (Kd.R_base ho0) hb); have n5_ := Aside0.mk (Kd.R_lower (Kd.R_new' ho0 (Kd.R_lt (by (with_reducible repeat (first | apply Kd.R_alloc | apply Kd.R_drewN | apply Kd.R_drew)); exact HO532.out))) (below_size (by repeat (first | (with_reducible first | exact HB.out | apply below_alloc | apply pw_below_drewN | apply below_drew1) | exact HB.out)))); have n6_ := Aside0.mk (below_step (by repeat (first | (with_reducible first | exact HB.out | apply below_alloc | apply pw_below_drewN | apply below_drew1) | exact HB.out)) hb); clear HO519; clear HO522; clear HO525; clear HO528; clear HO532; clear HB; have HO519 := n0_; have HO522 := n1_; have HO525 := n2_; have HO528 := n3_; have HO532 := n4_; have HO536 := n5_; have HB := n6_; clear n0_ n1_ n2_ n3_ n4_ n5_ n6_; (try clear hb); (try clear hb2); (try clear hk); (try clear hi); (try clear ho0); obtain ⟨Ao21, co21, eo21⟩ := Kd.R_slice HO536.out; subst eo21) | ((with_reducible refine gate_callee (f := 55) rfl ?_); refine goesL_ (some 49) rfl rfl Tryd.func55 (by kernel_rfl) rfl #[.slice Ao21 t533.length co21] rfl (by (try simp only [List.map_toArray, List.map_cons, List.map_nil]); first | done | rfl | (simp only [List.length_drop, List.length_take]; rfl)) ?_; (with_reducible refine (bibelotlaw03_way.calls _ _ t533 t537 _ ?side1 ?side2 A11.out).mono ?_); (case side1 => repeat (first | exact (Kd.R_reads' HO536.out).2.2 | (with_reducible refine Kd.C_alloc ?_ _) | (with_reducible refine Kd.C_drewN ?_ _) | (with_reducible refine Kd.C_drew ?_))); (case side2 => exact (Kd.R_reads' HO536.out).2.1); rintro e w22 ⟨v538, rfl, ho0, hb⟩; refine ⟨_, rfl, ?_⟩; have n0_ := Aside0.mk (Kd.R_below (by (with_reducible repeat (first | apply Kd.R_alloc | apply Kd.R_drewN | apply Kd.R_drew)); exact HO519.out) hb); have n1_ := Aside0.mk (Kd.R_below (by (with_reducible repeat (first | apply Kd.R_alloc | apply Kd.R_drewN | apply Kd.R_drew)); exact HO522.out) hb); have n2_ := Aside0.mk (Kd.R_below (by (with_reducible repeat (first | apply Kd.R_alloc | apply Kd.R_drewN | apply Kd.R_drew)); exact HO525.out) hb); have n3_ := Aside0.mk (Kd.R_below (by (with_reducible repeat (first | apply Kd.R_alloc | apply Kd.R_drewN | apply Kd.R_drew)); exact HO528.out) hb); have n4_ := Aside0.mk (Kd.R_elder' (by (with_reducible repeat (first | apply Kd.R_alloc | apply Kd.R_drewN | apply Kd.R_drew)); exact HO532.out) (Kd.R_base ho0) hb); have n5_ := Aside0.mk (Kd.R_elder' (by (with_reducible repeat (first | apply Kd.R_alloc | apply Kd.R_drewN | apply Kd.R_drew)); exact HO536.out) (Kd.R_base ho0) hb); have n6_ := Aside0.mk (Kd.R_lower (Kd.R_new' (Kd.R_new' ho0 (Kd.R_lt (by (with_reducible repeat (first | apply Kd.R_alloc | apply Kd.R_drewN | apply Kd.R_drew)); exact HO532.out))) (Kd.R_lt (by (with_reducible repeat (first | apply Kd.R_alloc | apply Kd.R_drewN | apply Kd.R_drew)); exact HO536.out))) (below_size (by repeat (first | (with_reducible first | exact HB.out | apply below_alloc | apply pw_below_drewN | apply below_drew1) | exact HB.out)))); have n7_ := Aside0.mk (below_step (by repeat (first | (with_reducible first | exact HB.out | apply below_alloc | apply pw_below_drewN | apply below_drew1) | exact HB.out)) hb); clear HO519; clear HO522; clear HO525; clear HO528; clear HO532; clear HO536; clear HB; have HO519 := n0_; have HO522 := n1_; have HO525 := n2_; have HO528 := n3_; have HO532 := n4_; have HO536 := n5_; have HO539 := n6_; have HB := n7_; clear n0_ n1_ n2_ n3_ n4_ n5_ n6_ n7_; (try clear hb); (try clear hb2); (try clear hk); (try clear hi); (try clear ho0); obtain ⟨Ao23, co23, eo23⟩ := Kd.R_slice HO539.out; subst eo23) | ((with_reducible refine gate_callee (f := 56) rfl ?_); refine goesL_ (some 50) rfl rfl Tryd.func56 (by kernel_rfl) rfl #[.slice Ao15 t517.length co15, .slice Ao23 t537.length co23] rfl (by (try simp only [List.map_toArray, List.map_cons, List.map_nil]); first | done | rfl | (simp only [List.length_drop, List.length_take]; rfl)) ?_; (with_reducible refine (hanoi_Play.calls _ _ t517 _ _ t537 t540 t541 t542 _ ?side1 ?side2 ?side3 ?side4 A12.out).mono ?_); (case side1 => repeat (first | exact (Kd.R_reads' HO519.out).2.2 | (with_reducible refine Kd.C_alloc ?_ _) | (with_reducible refine Kd.C_drewN ?_ _) | (with_reducible refine Kd.C_drew ?_))); (case side2 => exact (Kd.R_reads' HO519.out).2.1); (case side3 => repeat (first | exact (Kd.R_reads' HO539.out).2.2 | (with_reducible refine Kd.C_alloc ?_ _) | (with_reducible refine Kd.C_drewN ?_ _) | (with_reducible refine Kd.C_drew ?_))); (case side4 => exact (Kd.R_reads' HO539.out).2.1); rintro e w24 ⟨v543, rfl, ho0, hb⟩; refine ⟨_, rfl, ?_⟩; have n0_ := Aside0.mk (Kd.R_elder' (by (with_reducible repeat (first | apply Kd.R_alloc | apply Kd.R_drewN | apply Kd.R_drew)); exact HO519.out) (Kd.R_base ho0) hb); have n1_ := Aside0.mk (Kd.R_elder' (by (with_reducible repeat (first | apply Kd.R_alloc | apply Kd.R_drewN | apply Kd.R_drew)); exact HO522.out) (Kd.R_base ho0) hb); have n2_ := Aside0.mk (Kd.R_elder' (by (with_reducible repeat (first | apply Kd.R_alloc | apply Kd.R_drewN | apply Kd.R_drew)); exact HO525.out) (Kd.R_base ho0) hb); have n3_ := Aside0.mk (Kd.R_elder' (by (with_reducible repeat (first | apply Kd.R_alloc | apply Kd.R_drewN | apply Kd.R_drew)); exact HO528.out) (Kd.R_base ho0) hb); have n4_ := Aside0.mk (Kd.R_below (by (with_reducible repeat (first | apply Kd.R_alloc | apply Kd.R_drewN | apply Kd.R_drew)); exact HO532.out) hb); have n5_ := Aside0.mk (Kd.R_below (by (with_reducible repeat (first | apply Kd.R_alloc | apply Kd.R_drewN | apply Kd.R_drew)); exact HO536.out) hb); have n6_ := Aside0.mk (Kd.R_below (by (with_reducible repeat (first | apply Kd.R_alloc | apply Kd.R_drewN | apply Kd.R_drew)); exact HO539.out) hb); have n7_ := Aside0.mk (Kd.R_lower (Kd.R_new' (Kd.R_new' (Kd.R_new' (Kd.R_new' ho0 (Kd.R_lt (by (with_reducible repeat (first | apply Kd.R_alloc | apply Kd.R_drewN | apply Kd.R_drew)); exact HO519.out))) (Kd.R_lt (by (with_reducible repeat (first | apply Kd.R_alloc | apply Kd.R_drewN | apply Kd.R_drew)); exact HO522.out))) (Kd.R_lt (by (with_reducible repeat (first | apply Kd.R_alloc | apply Kd.R_drewN | apply Kd.R_drew)); exact HO525.out))) (Kd.R_lt (by (with_reducible repeat (first | apply Kd.R_alloc | apply Kd.R_drewN | apply Kd.R_drew)); exact HO528.out))) (below_size (by repeat (first | (with_reducible first | exact HB.out | apply below_alloc | apply pw_below_drewN | apply below_drew1) | exact HB.out)))); have n8_ := Aside0.mk (below_step (by repeat (first | (with_reducible first | exact HB.out | apply below_alloc | apply pw_below_drewN | apply below_drew1) | exact HB.out)) hb); clear HO519; clear HO522; clear HO525; clear HO528; clear HO532; clear HO536; clear HO539; clear HB; have HO519 := n0_; have HO522 := n1_; have HO525 := n2_; have HO528 := n3_; have HO532 := n4_; have HO536 := n5_; have HO539 := n6_; have HO544 := n7_; have HB := n8_; clear n0_ n1_ n2_ n3_ n4_ n5_ n6_ n7_ n8_; (try clear hb); (try clear hb2); (try clear hk); (try clear hi); (try clear ho0)))
  go_loopg [18] k (fun kq v18 w' => ∃ (x11_1 : List (S52)) (x18_1 : Int), v18 = .int .i64 x18_1 ∧ Aside0 (bibelotlaw03_HanoiOwn.l0 kq t517 t520 t523 t526 x11_1 t530 t533 t534 t540 t542 x18_1 = some r) ∧ Aside0 (kq ≤ k) ∧ Aside0 (Kd.R (Kd.int .i64) 3 w' w.heap.size (fun k_ => some k_ ≠ ((.slice Ao17 t520.length co17) : Value).ownBlock ∧ some k_ ≠ (v524 : Value).ownBlock ∧ some k_ ≠ (v527 : Value).ownBlock ∧ some k_ ≠ (v543 : Value).ownBlock) (.slice Ao15 t517.length co15) t517) ∧ Aside0 (Kd.R (Kd.int .i64) 3 w' w.heap.size (fun k_ => some k_ ≠ ((.slice Ao15 t517.length co15) : Value).ownBlock ∧ some k_ ≠ (v524 : Value).ownBlock ∧ some k_ ≠ (v527 : Value).ownBlock ∧ some k_ ≠ (v543 : Value).ownBlock) (.slice Ao17 t520.length co17) t520) ∧ Aside0 (Kd.R (Kd.int .i64) 3 w' w.heap.size (fun k_ => some k_ ≠ ((.slice Ao15 t517.length co15) : Value).ownBlock ∧ some k_ ≠ ((.slice Ao17 t520.length co17) : Value).ownBlock ∧ some k_ ≠ (v527 : Value).ownBlock ∧ some k_ ≠ (v543 : Value).ownBlock) v524 t523) ∧ Aside0 (Kd.R (Kd.int .i64) 3 w' w.heap.size (fun k_ => some k_ ≠ ((.slice Ao15 t517.length co15) : Value).ownBlock ∧ some k_ ≠ ((.slice Ao17 t520.length co17) : Value).ownBlock ∧ some k_ ≠ (v524 : Value).ownBlock ∧ some k_ ≠ (v543 : Value).ownBlock) v527 t526) ∧ Aside0 (Kd.R k52 52 w' w.heap.size (fun k_ => some k_ ≠ ((.slice Ao21 t533.length co21) : Value).ownBlock) v531 x11_1) ∧ Aside0 (Kd.R k52 52 w' w.heap.size (fun k_ => some k_ ≠ (v531 : Value).ownBlock) (.slice Ao21 t533.length co21) t533) ∧ Aside0 (Kd.R (Kd.int .i64) 3 w' w.heap.size (fun k_ => some k_ ≠ ((.slice Ao15 t517.length co15) : Value).ownBlock ∧ some k_ ≠ ((.slice Ao17 t520.length co17) : Value).ownBlock ∧ some k_ ≠ (v524 : Value).ownBlock ∧ some k_ ≠ (v527 : Value).ownBlock) v543 t540) ∧ Aside0 (Below w.heap.size w w'))
  case atStart => exact ⟨(t529), (0), (by first | rfl | (simp; done) | (simp [*]; done)), H', ⟨Nat.le_refl _⟩, ⟨by (with_reducible repeat (first | apply Kd.R_alloc | apply Kd.R_drewN | apply Kd.R_drew)); exact Kd.R_mono HO519.out (fun _ hk => ⟨hk.1.1.1.2, ⟨hk.1.1.2, ⟨hk.1.2, hk.2⟩⟩⟩)⟩, ⟨by (with_reducible repeat (first | apply Kd.R_alloc | apply Kd.R_drewN | apply Kd.R_drew)); exact Kd.R_mono HO522.out (fun _ hk => ⟨hk.1.1.1.2, ⟨hk.1.1.2, ⟨hk.1.2, hk.2⟩⟩⟩)⟩, ⟨by (with_reducible repeat (first | apply Kd.R_alloc | apply Kd.R_drewN | apply Kd.R_drew)); exact Kd.R_mono HO525.out (fun _ hk => ⟨hk.1.1.1.2, ⟨hk.1.1.2, ⟨hk.1.2, hk.2⟩⟩⟩)⟩, ⟨by (with_reducible repeat (first | apply Kd.R_alloc | apply Kd.R_drewN | apply Kd.R_drew)); exact Kd.R_mono HO528.out (fun _ hk => ⟨hk.1.1.1.2, ⟨hk.1.1.2, ⟨hk.1.2, hk.2⟩⟩⟩)⟩, ⟨by (with_reducible repeat (first | apply Kd.R_alloc | apply Kd.R_drewN | apply Kd.R_drew)); exact Kd.R_mono HO532.out (fun _ hk => hk.1.2)⟩, ⟨by (with_reducible repeat (first | apply Kd.R_alloc | apply Kd.R_drewN | apply Kd.R_drew)); exact Kd.R_mono HO536.out (fun _ hk => hk.1.2)⟩, ⟨by (with_reducible repeat (first | apply Kd.R_alloc | apply Kd.R_drewN | apply Kd.R_drew)); exact Kd.R_mono HO544.out (fun _ hk => ⟨hk.1.1.1.2, ⟨hk.1.1.2, ⟨hk.1.2, hk.2⟩⟩⟩)⟩, ⟨by repeat (first | (with_reducible first | exact HB.out | apply below_alloc | apply pw_below_drewN | apply below_drew1) | exact HB.out)⟩⟩
  case round =>
    clear H'
    try clear c1
    try clear c2
    try clear p2
    try clear c4
    try clear c5
    try clear c6
    try clear c21
    obtain ⟨x11_1, x18_1, rfl, HA, HK1, HO_7, HO_8, HO_9, HO_10, HO_11, HO_13, HO_15, HB⟩ := hrel
    cases gk with
    | zero => exact absurd HA.out (by simp [bibelotlaw03_HanoiOwn.l0])
    | succ k1 =>
      have H := HA.out
      clear HA
      simp only [bibelotlaw03_HanoiOwn.l0] at H
      by_cases c25 : x18_1 < (x11_1.length : Int)
      · rw [if_pos c25] at H
        have c25b0 : decide (x18_1 < (x11_1.length : Int)) = true := decide_eq_true c25
        clear c25
        by_cases c26 : 0 ≤ x18_1
        · rw [if_pos c26] at H
          have c26b0 : decide (0 ≤ x18_1) = true := decide_eq_true c26
          clear c26
          obtain ⟨y545, hy545⟩ : ∃ y_ : List (S52), y_ = (x11_1.set (x18_1 : Int).toNat (⟨(-1), (-1)⟩ : S52)) := ⟨_, rfl⟩
          replace H : (bibelotlaw03_HanoiOwn.l0 k1 t517 t520 t523 t526 y545 t530 t533 t534 t540 t542 (wrap64 (x18_1 + 1))) = some r := by first | (rw [hy545]; with_reducible exact H) | (have H2_ := (Option.bind_some _ _).symm.trans H; rw [hy545]; with_reducible exact H2_) | (have H2_ := (Option.bind_some _ _).symm.trans H; with_reducible exact H2_) | with_reducible exact H | (rw [hy545]; exact H) | exact H
          have Ny545 := Aside0.mk hy545
          clear hy545
          have H' := Aside0.mk H
          clear H
          obtain ⟨Ao28, co28, eo28⟩ := Kd.R_slice HO_11.out
          subst eo28
          have p27 : 0 ≤ (x18_1 : Int) := of_decide_eq_true (by first | (with_reducible assumption) | assumption)
          have q27 : (x18_1 : Int) < ((x11_1.length : Int) : Int) := of_decide_eq_true (by first | (with_reducible assumption) | assumption)
          obtain ⟨go27, co27, eo27, gb27, gl27, cl27, HG27⟩ := Kd.R_form HO_11.out (by omega)
          (first | cases eo27 | (injection eo27 with ea_ en_ ec_; (first | subst ea_ | (injection ea_ with ea_; subst ea_)); subst ec_; clear en_))
          have GB27 := Aside0.mk gb27
          have GG27 := Aside0.mk HG27
          clear gb27 gl27 HG27
          obtain ⟨ce27, hcl27, hM27, hcc27, hfr27⟩ := Kd.R_elem HO_11.out z52 (x18_1 : Int) p27 q27
          obtain rfl := k52_openM hM27
          have hx27_0 : wr.cell? ⟨go27, (x18_1 : Int).toNat * 2, none⟩ = some (.int .i64 ((rd_T52 x11_1 x18_1).f0)) := hcc27 0 _ rfl
          have hx27_1 : wr.cell? ⟨go27, (x18_1 : Int).toNat * 2 + 1, none⟩ = some (.int .i64 ((rd_T52 x11_1 x18_1).f1)) := hcc27 1 _ rfl
          have hf27_0 : wr.frozen? ⟨go27, (x18_1 : Int).toNat * 2, none⟩ = false := hfr27 0
          have hf27_1 : wr.frozen? ⟨go27, (x18_1 : Int).toNat * 2 + 1, none⟩ = false := hfr27 1
          clear hcl27 hcc27 hfr27 hM27
          replace p27 := eq_true p27
          replace q27 := eq_true q27
          have HX29 := Aside0.mk (show Kd.R k52 52 wr w.heap.size (fun k_ => some k_ ≠ (.slice Ao21 t533.length co21 : Value).ownBlock) (.slice (some ⟨go27, 0, none⟩) x11_1.length co28) x11_1 from (by (with_reducible repeat (first | apply Kd.R_alloc | apply Kd.R_drewN | apply Kd.R_drew)); exact HO_11.out))
          obtain ⟨ce29, hcl29, hM29, hcc29, hfr29⟩ := Kd.R_elem HX29.out z52 (x18_1 : Int) (of_decide_eq_true (by first | (with_reducible assumption) | assumption)) (by have h_ : (x18_1 : Int) < ((x11_1.length : Int) : Int) := of_decide_eq_true (by first | (with_reducible assumption) | assumption); first | exact h_ | (have e_ := (Kd.R_reads' HO_11.out).1; omega) | simpa using h_)
          obtain rfl := k52_openM hM29
          have HP29 := Kd.R_seg HX29.out (x18_1 : Int) (of_decide_eq_true (by first | (with_reducible assumption) | assumption)) (by have h_ : (x18_1 : Int) < ((x11_1.length : Int) : Int) := of_decide_eq_true (by first | (with_reducible assumption) | assumption); first | exact h_ | (have e_ := (Kd.R_reads' HO_11.out).1; omega) | simpa using h_) (seg := [.int .i64 (-1), .int .i64 (-1)]) (j := 0) hcl29 hcc29 (show 2 ≤ 2 from by decide) (x' := (⟨(-1), (-1)⟩ : S52)) (k52_mkM _ _ _ (⟨(-1), (-1)⟩ : S52) ) (fun _ hk => hk)
          have hx29_0 := hcc29 0 _ rfl
          (try simp only [show (k52).sz = 2 from rfl, Nat.mul_one, Nat.add_zero] at hx29_0)
          have hf29_0 := hfr29 0
          (try simp only [show (k52).sz = 2 from rfl, Nat.mul_one, Nat.add_zero] at hf29_0)
          have hx29_1 := hcc29 1 _ rfl
          (try simp only [show (k52).sz = 2 from rfl, Nat.mul_one, Nat.add_zero] at hx29_1)
          have hf29_1 := hfr29 1
          (try simp only [show (k52).sz = 2 from rfl, Nat.mul_one, Nat.add_zero] at hf29_1)
          clear hcl29 hcc29 hfr29 hM29
          go_wp2_with (first | ((with_reducible refine gate_store (t := 52) (p := 63) rfl ?_); refine store_event (t := 52) (p := 63) (v := ?vo_w30) (w1 := ((wr.setCell ⟨go27, (x18_1 : Int).toNat * 2, none⟩ (.int .i64 (-1))).setCell ⟨go27, (x18_1 : Int).toNat * 2 + 1, none⟩ (.int .i64 (-1)))) ?hg ?ho ?hn ?hr ?_; (case ho => rfl); (case hg => rfl); (case hn => rfl); (case hr => first | (go_simp; done) | (go_simp; rfl)); intro w30 hw; have hg : wr.grownBy w30 (some go27) := (by rw [hw]; exact HP29.2); have hp_ : Kd.R k52 52 w30 w.heap.size (fun k_ => some k_ ≠ (.slice Ao21 t533.length co21 : Value).ownBlock) (.slice (some ⟨go27, 0, none⟩) x11_1.length co28) y545 := (by rw [hw, Ny545.out]; exact HP29.1); clear HP29; have n0_ := Aside0.mk (Kd.R_over' (v := (.slice (some ⟨go27, 0, none⟩) x11_1.length co28)) (by (with_reducible repeat (first | apply Kd.R_alloc | apply Kd.R_drewN | apply Kd.R_drew)); exact HO_7.out) (Kd.R_typed HO_11.out) (by decide) hg); have n1_ := Aside0.mk (Kd.R_over' (v := (.slice (some ⟨go27, 0, none⟩) x11_1.length co28)) (by (with_reducible repeat (first | apply Kd.R_alloc | apply Kd.R_drewN | apply Kd.R_drew)); exact HO_8.out) (Kd.R_typed HO_11.out) (by decide) hg); have n2_ := Aside0.mk (Kd.R_over' (v := (.slice (some ⟨go27, 0, none⟩) x11_1.length co28)) (by (with_reducible repeat (first | apply Kd.R_alloc | apply Kd.R_drewN | apply Kd.R_drew)); exact HO_9.out) (Kd.R_typed HO_11.out) (by decide) hg); have n3_ := Aside0.mk (Kd.R_over' (v := (.slice (some ⟨go27, 0, none⟩) x11_1.length co28)) (by (with_reducible repeat (first | apply Kd.R_alloc | apply Kd.R_drewN | apply Kd.R_drew)); exact HO_10.out) (Kd.R_typed HO_11.out) (by decide) hg); have n4_ := Aside0.mk (hp_); have n5_ := Aside0.mk (Kd.R_after (v := (.slice (some ⟨go27, 0, none⟩) x11_1.length co28)) (v1 := (.slice (some ⟨go27, 0, none⟩) x11_1.length co28)) (ok := (fun _ => True)) (by (with_reducible repeat (first | apply Kd.R_alloc | apply Kd.R_drewN | apply Kd.R_drew)); exact Kd.R_mono HO_13.out (fun _ hk => ⟨trivial, hk⟩)) hg (.inl rfl)); have n6_ := Aside0.mk (Kd.R_over' (v := (.slice (some ⟨go27, 0, none⟩) x11_1.length co28)) (by (with_reducible repeat (first | apply Kd.R_alloc | apply Kd.R_drewN | apply Kd.R_drew)); exact HO_15.out) (Kd.R_typed HO_11.out) (by decide) hg); have n7_ := Aside0.mk ((by rw [hw]; exact below_set (below_set (HB.out) GB27.out) GB27.out : Below w.heap.size w w30)); clear HO_7; clear HO_8; clear HO_9; clear HO_10; clear HO_11; clear HO_13; clear HO_15; clear HB; have HO_7 := n0_; have HO_8 := n1_; have HO_9 := n2_; have HO_10 := n3_; have HO_11 := n4_; have HO_13 := n5_; have HO_15 := n6_; have HB := n7_; clear n0_ n1_ n2_ n3_ n4_ n5_ n6_ n7_; clear hg hw hp_))
          go_roundg k1
          case measure => have := HK1.out; omega
          case rel => exact ⟨(y545), (wrap64 (x18_1 + 1)), (by first | rfl | (simp; done) | (simp [*]; done)), H', ⟨by have := HK1.out; omega⟩, ⟨by (with_reducible repeat (first | apply Kd.R_alloc | apply Kd.R_drewN | apply Kd.R_drew)); exact HO_7.out⟩, ⟨by (with_reducible repeat (first | apply Kd.R_alloc | apply Kd.R_drewN | apply Kd.R_drew)); exact HO_8.out⟩, ⟨by (with_reducible repeat (first | apply Kd.R_alloc | apply Kd.R_drewN | apply Kd.R_drew)); exact HO_9.out⟩, ⟨by (with_reducible repeat (first | apply Kd.R_alloc | apply Kd.R_drewN | apply Kd.R_drew)); exact HO_10.out⟩, ⟨by (with_reducible repeat (first | apply Kd.R_alloc | apply Kd.R_drewN | apply Kd.R_drew)); exact HO_11.out⟩, ⟨by (with_reducible repeat (first | apply Kd.R_alloc | apply Kd.R_drewN | apply Kd.R_drew)); exact Kd.R_mono HO_13.out (fun _ hk => hk.2)⟩, ⟨by (with_reducible repeat (first | apply Kd.R_alloc | apply Kd.R_drewN | apply Kd.R_drew)); exact HO_15.out⟩, ⟨by repeat (first | (with_reducible first | exact HB.out | apply below_alloc | apply pw_below_drewN | apply below_drew1) | exact HB.out)⟩⟩
        · rw [if_neg c26] at H
          exact absurd H (by simp)
      · rw [if_neg c25] at H
        have c25b0 : decide (x18_1 < (x11_1.length : Int)) = false := decide_eq_false c25
        clear c25
        have H' := Aside0.mk H
        clear H
        obtain ⟨Ao31, co31, eo31⟩ := Kd.R_slice HO_11.out
        subst eo31
        go_wp2
        go_loopg [19] k1 (fun kq v19 w' => ∃ (x15_2 : List Int) (x19_2 : Int), v19 = .int .i64 x19_2 ∧ Aside0 (bibelotlaw03_HanoiOwn.l1 kq t517 t520 t523 t526 t530 t533 t534 x15_2 t542 x19_2 = some r) ∧ Aside0 (kq ≤ k1) ∧ Aside0 (Kd.R (Kd.int .i64) 3 w' w.heap.size (fun k_ => some k_ ≠ ((.slice Ao17 t520.length co17) : Value).ownBlock ∧ some k_ ≠ (v524 : Value).ownBlock ∧ some k_ ≠ (v527 : Value).ownBlock ∧ some k_ ≠ (v543 : Value).ownBlock) (.slice Ao15 t517.length co15) t517) ∧ Aside0 (Kd.R (Kd.int .i64) 3 w' w.heap.size (fun k_ => some k_ ≠ ((.slice Ao15 t517.length co15) : Value).ownBlock ∧ some k_ ≠ (v524 : Value).ownBlock ∧ some k_ ≠ (v527 : Value).ownBlock ∧ some k_ ≠ (v543 : Value).ownBlock) (.slice Ao17 t520.length co17) t520) ∧ Aside0 (Kd.R (Kd.int .i64) 3 w' w.heap.size (fun k_ => some k_ ≠ ((.slice Ao15 t517.length co15) : Value).ownBlock ∧ some k_ ≠ ((.slice Ao17 t520.length co17) : Value).ownBlock ∧ some k_ ≠ (v527 : Value).ownBlock ∧ some k_ ≠ (v543 : Value).ownBlock) v524 t523) ∧ Aside0 (Kd.R (Kd.int .i64) 3 w' w.heap.size (fun k_ => some k_ ≠ ((.slice Ao15 t517.length co15) : Value).ownBlock ∧ some k_ ≠ ((.slice Ao17 t520.length co17) : Value).ownBlock ∧ some k_ ≠ (v524 : Value).ownBlock ∧ some k_ ≠ (v543 : Value).ownBlock) v527 t526) ∧ Aside0 (Kd.R k52 52 w' w.heap.size (fun _ => True) (.slice Ao21 t533.length co21) t533) ∧ Aside0 (Kd.R (Kd.int .i64) 3 w' w.heap.size (fun k_ => some k_ ≠ ((.slice Ao15 t517.length co15) : Value).ownBlock ∧ some k_ ≠ ((.slice Ao17 t520.length co17) : Value).ownBlock ∧ some k_ ≠ (v524 : Value).ownBlock ∧ some k_ ≠ (v527 : Value).ownBlock) v543 x15_2) ∧ Aside0 (Below w.heap.size w w'))
        case atStart => exact ⟨(t540), (0), (by first | rfl | (simp; done) | (simp [*]; done)), H', ⟨Nat.le_refl _⟩, ⟨by (with_reducible repeat (first | apply Kd.R_alloc | apply Kd.R_drewN | apply Kd.R_drew)); exact HO_7.out⟩, ⟨by (with_reducible repeat (first | apply Kd.R_alloc | apply Kd.R_drewN | apply Kd.R_drew)); exact HO_8.out⟩, ⟨by (with_reducible repeat (first | apply Kd.R_alloc | apply Kd.R_drewN | apply Kd.R_drew)); exact HO_9.out⟩, ⟨by (with_reducible repeat (first | apply Kd.R_alloc | apply Kd.R_drewN | apply Kd.R_drew)); exact HO_10.out⟩, ⟨by (with_reducible repeat (first | apply Kd.R_alloc | apply Kd.R_drewN | apply Kd.R_drew)); exact Kd.R_mono HO_13.out (fun _ hk => trivial)⟩, ⟨by (with_reducible repeat (first | apply Kd.R_alloc | apply Kd.R_drewN | apply Kd.R_drew)); exact HO_15.out⟩, ⟨by repeat (first | (with_reducible first | exact HB.out | apply below_alloc | apply pw_below_drewN | apply below_drew1) | exact HB.out)⟩⟩
        case round =>
          clear H'
          try clear c1
          try clear c2
          try clear p2
          try clear q2
          try clear hx2
          try clear c4
          try clear c5
          try clear c6
          try clear p6
          try clear c21
          try clear c25
          try clear c25b0
          try clear c26
          try clear c26b0
          try clear c27
          try clear p27
          try clear q27
          try clear hx27
          try clear hf27
          try clear c29
          try clear hx29
          try clear hf29
          try clear hx27_0
          try clear hx27_1
          try clear hx29_0
          try clear hx29_1
          try clear p2
          try clear p27
          try clear q27
          obtain ⟨x15_2, x19_2, rfl, HA, HK2, HO_7, HO_8, HO_9, HO_10, HO_13, HO_15, HB⟩ := hrel
          cases gk with
          | zero => exact absurd HA.out (by simp [bibelotlaw03_HanoiOwn.l1])
          | succ k2 =>
            have H := HA.out
            clear HA
            simp only [bibelotlaw03_HanoiOwn.l1] at H
            by_cases c32 : x19_2 < (x15_2.length : Int)
            · rw [if_pos c32] at H
              have c32b0 : decide (x19_2 < (x15_2.length : Int)) = true := decide_eq_true c32
              clear c32
              by_cases c33 : 0 ≤ x19_2
              · rw [if_pos c33] at H
                have c33b0 : decide (0 ≤ x19_2) = true := decide_eq_true c33
                clear c33
                obtain ⟨y546, hy546⟩ : ∃ y_ : List Int, y_ = (x15_2.set (x19_2 : Int).toNat (-1)) := ⟨_, rfl⟩
                replace H : (bibelotlaw03_HanoiOwn.l1 k2 t517 t520 t523 t526 t530 t533 t534 y546 t542 (wrap64 (x19_2 + 1))) = some r := by first | (rw [hy546]; with_reducible exact H) | (have H2_ := (Option.bind_some _ _).symm.trans H; rw [hy546]; with_reducible exact H2_) | (have H2_ := (Option.bind_some _ _).symm.trans H; with_reducible exact H2_) | with_reducible exact H | (rw [hy546]; exact H) | exact H
                have Ny546 := Aside0.mk hy546
                clear hy546
                have H' := Aside0.mk H
                clear H
                obtain ⟨Ao35, co35, eo35⟩ := Kd.R_slice HO_15.out
                subst eo35
                have p34 : 0 ≤ (x19_2 : Int) := of_decide_eq_true (by first | (with_reducible assumption) | assumption)
                have q34 : (x19_2 : Int) < ((x15_2.length : Int) : Int) := of_decide_eq_true (by first | (with_reducible assumption) | assumption)
                obtain ⟨go34, co34, eo34, gb34, gl34, cl34, HG34⟩ := Kd.R_form HO_15.out (by omega)
                (first | cases eo34 | (injection eo34 with ea_ en_ ec_; (first | subst ea_ | (injection ea_ with ea_; subst ea_)); subst ec_; clear en_))
                have GB34 := Aside0.mk gb34
                have GG34 := Aside0.mk HG34
                clear gb34 gl34 HG34
                obtain ⟨hx34_0, hf34_0⟩ := Kd.R_celln 0 HO_15.out (x19_2 : Int) p34 q34
                replace p34 := eq_true p34
                replace q34 := eq_true q34
                have HP36 := Kd.R_putg HO_15.out (x19_2 : Int) (-1)
                go_wp2_with (first | ((with_reducible refine gate_store (t := 3) (p := 72) rfl ?_); refine store_event (t := 3) (p := 72) (v := ?vo_w37) (w1 := (wr.setCell ⟨go34, (x19_2 : Int).toNat, none⟩ (.int .i64 (-1)))) ?hg ?ho ?hn ?hr ?_; (case ho => rfl); (case hg => rfl); (case hn => rfl); (case hr => first | (go_simp; done) | (go_simp; rfl)); intro w37 hw; have hg : wr.grownBy w37 (some go34) := (by rw [hw]; exact HP36.2); have hp_ : Kd.R (Kd.int .i64) 3 w37 w.heap.size (fun k_ => some k_ ≠ (.slice Ao15 t517.length co15 : Value).ownBlock ∧ some k_ ≠ (.slice Ao17 t520.length co17 : Value).ownBlock ∧ some k_ ≠ (v524 : Value).ownBlock ∧ some k_ ≠ (v527 : Value).ownBlock) (.slice (some ⟨go34, 0, none⟩) x15_2.length co35) y546 := (by rw [hw, Ny546.out]; exact HP36.1); clear HP36; have n0_ := Aside0.mk (Kd.R_after (v := (.slice (some ⟨go34, 0, none⟩) x15_2.length co35)) (v1 := (.slice (some ⟨go34, 0, none⟩) x15_2.length co35)) (ok := (fun k_ => some k_ ≠ (.slice Ao17 t520.length co17 : Value).ownBlock ∧ some k_ ≠ (v524 : Value).ownBlock ∧ some k_ ≠ (v527 : Value).ownBlock)) (by (with_reducible repeat (first | apply Kd.R_alloc | apply Kd.R_drewN | apply Kd.R_drew)); exact Kd.R_mono HO_7.out (fun _ hk => ⟨⟨hk.1, ⟨hk.2.1, hk.2.2.1⟩⟩, hk.2.2.2⟩)) hg (.inl rfl)); have n1_ := Aside0.mk (Kd.R_after (v := (.slice (some ⟨go34, 0, none⟩) x15_2.length co35)) (v1 := (.slice (some ⟨go34, 0, none⟩) x15_2.length co35)) (ok := (fun k_ => some k_ ≠ (.slice Ao15 t517.length co15 : Value).ownBlock ∧ some k_ ≠ (v524 : Value).ownBlock ∧ some k_ ≠ (v527 : Value).ownBlock)) (by (with_reducible repeat (first | apply Kd.R_alloc | apply Kd.R_drewN | apply Kd.R_drew)); exact Kd.R_mono HO_8.out (fun _ hk => ⟨⟨hk.1, ⟨hk.2.1, hk.2.2.1⟩⟩, hk.2.2.2⟩)) hg (.inl rfl)); have n2_ := Aside0.mk (Kd.R_after (v := (.slice (some ⟨go34, 0, none⟩) x15_2.length co35)) (v1 := (.slice (some ⟨go34, 0, none⟩) x15_2.length co35)) (ok := (fun k_ => some k_ ≠ (.slice Ao15 t517.length co15 : Value).ownBlock ∧ some k_ ≠ (.slice Ao17 t520.length co17 : Value).ownBlock ∧ some k_ ≠ (v527 : Value).ownBlock)) (by (with_reducible repeat (first | apply Kd.R_alloc | apply Kd.R_drewN | apply Kd.R_drew)); exact Kd.R_mono HO_9.out (fun _ hk => ⟨⟨hk.1, ⟨hk.2.1, hk.2.2.1⟩⟩, hk.2.2.2⟩)) hg (.inl rfl)); have n3_ := Aside0.mk (Kd.R_after (v := (.slice (some ⟨go34, 0, none⟩) x15_2.length co35)) (v1 := (.slice (some ⟨go34, 0, none⟩) x15_2.length co35)) (ok := (fun k_ => some k_ ≠ (.slice Ao15 t517.length co15 : Value).ownBlock ∧ some k_ ≠ (.slice Ao17 t520.length co17 : Value).ownBlock ∧ some k_ ≠ (v524 : Value).ownBlock)) (by (with_reducible repeat (first | apply Kd.R_alloc | apply Kd.R_drewN | apply Kd.R_drew)); exact Kd.R_mono HO_10.out (fun _ hk => ⟨⟨hk.1, ⟨hk.2.1, hk.2.2.1⟩⟩, hk.2.2.2⟩)) hg (.inl rfl)); have n4_ := Aside0.mk (Kd.R_over' (v := (.slice (some ⟨go34, 0, none⟩) x15_2.length co35)) (by (with_reducible repeat (first | apply Kd.R_alloc | apply Kd.R_drewN | apply Kd.R_drew)); exact HO_13.out) (Kd.R_typed HO_15.out) (by decide) hg); have n5_ := Aside0.mk (hp_); have n6_ := Aside0.mk ((by rw [hw]; exact below_set (HB.out) GB34.out : Below w.heap.size w w37)); clear HO_7; clear HO_8; clear HO_9; clear HO_10; clear HO_13; clear HO_15; clear HB; have HO_7 := n0_; have HO_8 := n1_; have HO_9 := n2_; have HO_10 := n3_; have HO_13 := n4_; have HO_15 := n5_; have HB := n6_; clear n0_ n1_ n2_ n3_ n4_ n5_ n6_; clear hg hw hp_))
                go_roundg k2
                case measure => have := HK1.out; have := HK2.out; omega
                case rel => exact ⟨(y546), (wrap64 (x19_2 + 1)), (by first | rfl | (simp; done) | (simp [*]; done)), H', ⟨by have := HK1.out; have := HK2.out; omega⟩, ⟨by (with_reducible repeat (first | apply Kd.R_alloc | apply Kd.R_drewN | apply Kd.R_drew)); exact Kd.R_mono HO_7.out (fun _ hk => ⟨hk.1.1, ⟨hk.1.2.1, ⟨hk.1.2.2, hk.2⟩⟩⟩)⟩, ⟨by (with_reducible repeat (first | apply Kd.R_alloc | apply Kd.R_drewN | apply Kd.R_drew)); exact Kd.R_mono HO_8.out (fun _ hk => ⟨hk.1.1, ⟨hk.1.2.1, ⟨hk.1.2.2, hk.2⟩⟩⟩)⟩, ⟨by (with_reducible repeat (first | apply Kd.R_alloc | apply Kd.R_drewN | apply Kd.R_drew)); exact Kd.R_mono HO_9.out (fun _ hk => ⟨hk.1.1, ⟨hk.1.2.1, ⟨hk.1.2.2, hk.2⟩⟩⟩)⟩, ⟨by (with_reducible repeat (first | apply Kd.R_alloc | apply Kd.R_drewN | apply Kd.R_drew)); exact Kd.R_mono HO_10.out (fun _ hk => ⟨hk.1.1, ⟨hk.1.2.1, ⟨hk.1.2.2, hk.2⟩⟩⟩)⟩, ⟨by (with_reducible repeat (first | apply Kd.R_alloc | apply Kd.R_drewN | apply Kd.R_drew)); exact HO_13.out⟩, ⟨by (with_reducible repeat (first | apply Kd.R_alloc | apply Kd.R_drewN | apply Kd.R_drew)); exact HO_15.out⟩, ⟨by repeat (first | (with_reducible first | exact HB.out | apply below_alloc | apply pw_below_drewN | apply below_drew1) | exact HB.out)⟩⟩
              · rw [if_neg c33] at H
                exact absurd H (by simp)
            · rw [if_neg c32] at H
              have c32b0 : decide (x19_2 < (x15_2.length : Int)) = false := decide_eq_false c32
              clear c32
              have H' := Aside0.mk H
              clear H
              obtain ⟨Ao38, co38, eo38⟩ := Kd.R_slice HO_15.out
              subst eo38
              go_wp2
              go_loopg [20] k2 (fun kq v20 w' => ∃ (x13_3 : List (S52)) (x20_3 : Int), v20 = .int .i64 x20_3 ∧ Aside0 (bibelotlaw03_HanoiOwn.l2 kq t517 t520 t523 t526 t530 x13_3 t534 t542 x20_3 = some r) ∧ Aside0 (kq ≤ k2) ∧ Aside0 (Kd.R (Kd.int .i64) 3 w' w.heap.size (fun k_ => some k_ ≠ ((.slice Ao17 t520.length co17) : Value).ownBlock ∧ some k_ ≠ (v524 : Value).ownBlock ∧ some k_ ≠ (v527 : Value).ownBlock) (.slice Ao15 t517.length co15) t517) ∧ Aside0 (Kd.R (Kd.int .i64) 3 w' w.heap.size (fun k_ => some k_ ≠ ((.slice Ao15 t517.length co15) : Value).ownBlock ∧ some k_ ≠ (v524 : Value).ownBlock ∧ some k_ ≠ (v527 : Value).ownBlock) (.slice Ao17 t520.length co17) t520) ∧ Aside0 (Kd.R (Kd.int .i64) 3 w' w.heap.size (fun k_ => some k_ ≠ ((.slice Ao15 t517.length co15) : Value).ownBlock ∧ some k_ ≠ ((.slice Ao17 t520.length co17) : Value).ownBlock ∧ some k_ ≠ (v527 : Value).ownBlock) v524 t523) ∧ Aside0 (Kd.R (Kd.int .i64) 3 w' w.heap.size (fun k_ => some k_ ≠ ((.slice Ao15 t517.length co15) : Value).ownBlock ∧ some k_ ≠ ((.slice Ao17 t520.length co17) : Value).ownBlock ∧ some k_ ≠ (v524 : Value).ownBlock) v527 t526) ∧ Aside0 (Kd.R k52 52 w' w.heap.size (fun _ => True) (.slice Ao21 t533.length co21) x13_3) ∧ Aside0 (Below w.heap.size w w'))
              case atStart => exact ⟨(t533), (0), (by first | rfl | (simp; done) | (simp [*]; done)), H', ⟨Nat.le_refl _⟩, ⟨by (with_reducible repeat (first | apply Kd.R_alloc | apply Kd.R_drewN | apply Kd.R_drew)); exact Kd.R_mono HO_7.out (fun _ hk => ⟨hk.1, ⟨hk.2.1, hk.2.2.1⟩⟩)⟩, ⟨by (with_reducible repeat (first | apply Kd.R_alloc | apply Kd.R_drewN | apply Kd.R_drew)); exact Kd.R_mono HO_8.out (fun _ hk => ⟨hk.1, ⟨hk.2.1, hk.2.2.1⟩⟩)⟩, ⟨by (with_reducible repeat (first | apply Kd.R_alloc | apply Kd.R_drewN | apply Kd.R_drew)); exact Kd.R_mono HO_9.out (fun _ hk => ⟨hk.1, ⟨hk.2.1, hk.2.2.1⟩⟩)⟩, ⟨by (with_reducible repeat (first | apply Kd.R_alloc | apply Kd.R_drewN | apply Kd.R_drew)); exact Kd.R_mono HO_10.out (fun _ hk => ⟨hk.1, ⟨hk.2.1, hk.2.2.1⟩⟩)⟩, ⟨by (with_reducible repeat (first | apply Kd.R_alloc | apply Kd.R_drewN | apply Kd.R_drew)); exact HO_13.out⟩, ⟨by repeat (first | (with_reducible first | exact HB.out | apply below_alloc | apply pw_below_drewN | apply below_drew1) | exact HB.out)⟩⟩
              case round =>
                clear H'
                try clear c1
                try clear c2
                try clear p2
                try clear q2
                try clear hx2
                try clear c3
                try clear p3
                try clear q3
                try clear hx3
                try clear hf3
                try clear c4
                try clear c5
                try clear c6
                try clear p6
                try clear c21
                try clear c25
                try clear c25b0
                try clear c26
                try clear c26b0
                try clear c27
                try clear p27
                try clear q27
                try clear hx27
                try clear hf27
                try clear c29
                try clear hx29
                try clear hf29
                try clear c32
                try clear c32b0
                try clear c33
                try clear c33b0
                try clear p34
                try clear q34
                try clear hx34
                try clear hf34
                try clear hx27_0
                try clear hx27_1
                try clear hx29_0
                try clear hx29_1
                try clear hx34_0
                try clear p2
                try clear p27
                try clear p34
                try clear p6
                try clear q2
                try clear q27
                try clear q34
                obtain ⟨x13_3, x20_3, rfl, HA, HK3, HO_7, HO_8, HO_9, HO_10, HO_13, HB⟩ := hrel
                have hl13_3 := (Kd.R_reads' HO_13.out).1
                rw [hl13_3] at HO_13
                (try simp only [hl13_3])
                (try simp only [hl13_3] at HO_7)
                (try simp only [hl13_3] at HO_8)
                (try simp only [hl13_3] at HO_9)
                (try simp only [hl13_3] at HO_10)
                cases gk with
                | zero => exact absurd HA.out (by simp [bibelotlaw03_HanoiOwn.l2])
                | succ k3 =>
                  have H := HA.out
                  clear HA
                  simp only [bibelotlaw03_HanoiOwn.l2] at H
                  by_cases c39 : x20_3 < (x13_3.length : Int)
                  · rw [if_pos c39] at H
                    have c39b0 : decide (x20_3 < (x13_3.length : Int)) = true := decide_eq_true c39
                    clear c39
                    by_cases c40 : 0 ≤ x20_3
                    · rw [if_pos c40] at H
                      have c40b0 : decide (0 ≤ x20_3) = true := decide_eq_true c40
                      clear c40
                      obtain ⟨y547, hy547⟩ : ∃ y_ : List (S52), y_ = (x13_3.set (x20_3 : Int).toNat (⟨(-1), (-1)⟩ : S52)) := ⟨_, rfl⟩
                      replace H : (bibelotlaw03_HanoiOwn.l2 k3 t517 t520 t523 t526 t530 y547 t534 t542 (wrap64 (x20_3 + 1))) = some r := by first | (rw [hy547]; with_reducible exact H) | (have H2_ := (Option.bind_some _ _).symm.trans H; rw [hy547]; with_reducible exact H2_) | (have H2_ := (Option.bind_some _ _).symm.trans H; with_reducible exact H2_) | with_reducible exact H | (rw [hy547]; exact H) | exact H
                      have Ny547 := Aside0.mk hy547
                      clear hy547
                      have H' := Aside0.mk H
                      clear H
                      have p41 : 0 ≤ (x20_3 : Int) := of_decide_eq_true (by first | (with_reducible assumption) | assumption)
                      have q41 : (x20_3 : Int) < ((x13_3.length : Int) : Int) := of_decide_eq_true (by first | (with_reducible assumption) | assumption)
                      obtain ⟨go41, co41, eo41, gb41, gl41, cl41, HG41⟩ := Kd.R_form HO_13.out (by omega)
                      (first | cases eo41 | (injection eo41 with ea_ en_ ec_; (first | subst ea_ | (injection ea_ with ea_; subst ea_)); subst ec_; clear en_))
                      have GB41 := Aside0.mk gb41
                      have GG41 := Aside0.mk HG41
                      clear gb41 gl41 HG41
                      obtain ⟨ce41, hcl41, hM41, hcc41, hfr41⟩ := Kd.R_elem HO_13.out z52 (x20_3 : Int) p41 q41
                      obtain rfl := k52_openM hM41
                      have hx41_0 : wr.cell? ⟨go41, (x20_3 : Int).toNat * 2, none⟩ = some (.int .i64 ((rd_T52 x13_3 x20_3).f0)) := hcc41 0 _ rfl
                      have hx41_1 : wr.cell? ⟨go41, (x20_3 : Int).toNat * 2 + 1, none⟩ = some (.int .i64 ((rd_T52 x13_3 x20_3).f1)) := hcc41 1 _ rfl
                      have hf41_0 : wr.frozen? ⟨go41, (x20_3 : Int).toNat * 2, none⟩ = false := hfr41 0
                      have hf41_1 : wr.frozen? ⟨go41, (x20_3 : Int).toNat * 2 + 1, none⟩ = false := hfr41 1
                      clear hcl41 hcc41 hfr41 hM41
                      replace p41 := eq_true p41
                      replace q41 := eq_true q41
                      have HX42 := Aside0.mk (show Kd.R k52 52 wr w.heap.size (fun _ => True) (.slice (some ⟨go41, 0, none⟩) x13_3.length co21) x13_3 from (by (with_reducible repeat (first | apply Kd.R_alloc | apply Kd.R_drewN | apply Kd.R_drew)); exact HO_13.out))
                      obtain ⟨ce42, hcl42, hM42, hcc42, hfr42⟩ := Kd.R_elem HX42.out z52 (x20_3 : Int) (of_decide_eq_true (by first | (with_reducible assumption) | assumption)) (by have h_ : (x20_3 : Int) < ((x13_3.length : Int) : Int) := of_decide_eq_true (by first | (with_reducible assumption) | assumption); first | exact h_ | (have e_ := (Kd.R_reads' HO_13.out).1; omega) | simpa using h_)
                      obtain rfl := k52_openM hM42
                      have HP42 := Kd.R_seg HX42.out (x20_3 : Int) (of_decide_eq_true (by first | (with_reducible assumption) | assumption)) (by have h_ : (x20_3 : Int) < ((x13_3.length : Int) : Int) := of_decide_eq_true (by first | (with_reducible assumption) | assumption); first | exact h_ | (have e_ := (Kd.R_reads' HO_13.out).1; omega) | simpa using h_) (seg := [.int .i64 (-1), .int .i64 (-1)]) (j := 0) hcl42 hcc42 (show 2 ≤ 2 from by decide) (x' := (⟨(-1), (-1)⟩ : S52)) (k52_mkM _ _ _ (⟨(-1), (-1)⟩ : S52) ) (fun _ hk => hk)
                      have hx42_0 := hcc42 0 _ rfl
                      (try simp only [show (k52).sz = 2 from rfl, Nat.mul_one, Nat.add_zero] at hx42_0)
                      have hf42_0 := hfr42 0
                      (try simp only [show (k52).sz = 2 from rfl, Nat.mul_one, Nat.add_zero] at hf42_0)
                      have hx42_1 := hcc42 1 _ rfl
                      (try simp only [show (k52).sz = 2 from rfl, Nat.mul_one, Nat.add_zero] at hx42_1)
                      have hf42_1 := hfr42 1
                      (try simp only [show (k52).sz = 2 from rfl, Nat.mul_one, Nat.add_zero] at hf42_1)
                      clear hcl42 hcc42 hfr42 hM42
                      go_wp2_with (first | ((with_reducible refine gate_store (t := 52) (p := 82) rfl ?_); refine store_event (t := 52) (p := 82) (v := ?vo_w43) (w1 := ((wr.setCell ⟨go41, (x20_3 : Int).toNat * 2, none⟩ (.int .i64 (-1))).setCell ⟨go41, (x20_3 : Int).toNat * 2 + 1, none⟩ (.int .i64 (-1)))) ?hg ?ho ?hn ?hr ?_; (case ho => rfl); (case hg => rfl); (case hn => rfl); (case hr => first | (go_simp; done) | (go_simp; rfl)); intro w43 hw; have hg : wr.grownBy w43 (some go41) := (by rw [hw]; exact HP42.2); have hp_ : Kd.R k52 52 w43 w.heap.size (fun _ => True) (.slice (some ⟨go41, 0, none⟩) x13_3.length co21) y547 := (by rw [hw, Ny547.out]; exact HP42.1); clear HP42; have n0_ := Aside0.mk (Kd.R_over' (v := (.slice (some ⟨go41, 0, none⟩) x13_3.length co21)) (by (with_reducible repeat (first | apply Kd.R_alloc | apply Kd.R_drewN | apply Kd.R_drew)); exact HO_7.out) (Kd.R_typed HO_13.out) (by decide) hg); have n1_ := Aside0.mk (Kd.R_over' (v := (.slice (some ⟨go41, 0, none⟩) x13_3.length co21)) (by (with_reducible repeat (first | apply Kd.R_alloc | apply Kd.R_drewN | apply Kd.R_drew)); exact HO_8.out) (Kd.R_typed HO_13.out) (by decide) hg); have n2_ := Aside0.mk (Kd.R_over' (v := (.slice (some ⟨go41, 0, none⟩) x13_3.length co21)) (by (with_reducible repeat (first | apply Kd.R_alloc | apply Kd.R_drewN | apply Kd.R_drew)); exact HO_9.out) (Kd.R_typed HO_13.out) (by decide) hg); have n3_ := Aside0.mk (Kd.R_over' (v := (.slice (some ⟨go41, 0, none⟩) x13_3.length co21)) (by (with_reducible repeat (first | apply Kd.R_alloc | apply Kd.R_drewN | apply Kd.R_drew)); exact HO_10.out) (Kd.R_typed HO_13.out) (by decide) hg); have n4_ := Aside0.mk (hp_); have n5_ := Aside0.mk ((by rw [hw]; exact below_set (below_set (HB.out) GB41.out) GB41.out : Below w.heap.size w w43)); clear HO_7; clear HO_8; clear HO_9; clear HO_10; clear HO_13; clear HB; have HO_7 := n0_; have HO_8 := n1_; have HO_9 := n2_; have HO_10 := n3_; have HO_13 := n4_; have HB := n5_; clear n0_ n1_ n2_ n3_ n4_ n5_; clear hg hw hp_))
                      (try simp only [← hl13_3])
                      go_roundg k3
                      case measure => have := HK1.out; have := HK2.out; have := HK3.out; omega
                      case rel => exact ⟨(y547), (wrap64 (x20_3 + 1)), (by first | rfl | (simp; done) | (simp [*]; done)), H', ⟨by have := HK1.out; have := HK2.out; have := HK3.out; omega⟩, ⟨by (try simp only [hl13_3]); (with_reducible repeat (first | apply Kd.R_alloc | apply Kd.R_drewN | apply Kd.R_drew)); exact HO_7.out⟩, ⟨by (try simp only [hl13_3]); (with_reducible repeat (first | apply Kd.R_alloc | apply Kd.R_drewN | apply Kd.R_drew)); exact HO_8.out⟩, ⟨by (try simp only [hl13_3]); (with_reducible repeat (first | apply Kd.R_alloc | apply Kd.R_drewN | apply Kd.R_drew)); exact HO_9.out⟩, ⟨by (try simp only [hl13_3]); (with_reducible repeat (first | apply Kd.R_alloc | apply Kd.R_drewN | apply Kd.R_drew)); exact HO_10.out⟩, ⟨by (try simp only [hl13_3]); (with_reducible repeat (first | apply Kd.R_alloc | apply Kd.R_drewN | apply Kd.R_drew)); exact HO_13.out⟩, ⟨by repeat (first | (with_reducible first | exact HB.out | apply below_alloc | apply pw_below_drewN | apply below_drew1) | exact HB.out)⟩⟩
                    · rw [if_neg c40] at H
                      exact absurd H (by simp)
                  · rw [if_neg c39] at H
                    have c39b0 : decide (x20_3 < (x13_3.length : Int)) = false := decide_eq_false c39
                    clear c39
                    replace H := Option.bind_eq_some_iff.mp H
                    obtain ⟨⟨t548, t549⟩, A440, H⟩ := H
                    replace H : (if t530 = 0 then (if t534 = 0 then (if t542 = 0 then (if t549 = 0 then ((bibelotlaw03_ints.f k3 t517 t523).bind fun t552 => (if t552 = true then ((bibelotlaw03_ints.f k3 t520 t526).bind fun t553 => (if t553 = true then ((bibelotref03_Distance.f t523 t526).bind fun t554 => (if (t548.length : Int) = t554 then (if (t548.length : Int) = 0 then ((bibelotlaw03_awake.f k3).bind fun t555 => (some t555)) else (if 0 < (t548.length : Int) then (if ((rd_T52 t548 0).f0) ≥ 0 then ((bibelotlaw03_awake.f k3).bind fun t557 => (some t557)) else (some false)) else (none))) else (some false))) else (some false))) else (some false))) else (some false)) else (some false)) else (some false)) else (some false)) = some r := H
                    have A44 := Aside0.mk A440
                    clear A440
                    by_cases c45 : t530 = 0
                    · rw [if_pos c45] at H
                      have c45b0 : (t530 == 0) = true := beq_iff_eq.mpr c45
                      have c45b1 : (t530 != 0) = false := bne_eq_false_iff_eq.mpr c45
                      clear c45
                      by_cases c46 : t534 = 0
                      · rw [if_pos c46] at H
                        have c46b0 : (t534 == 0) = true := beq_iff_eq.mpr c46
                        have c46b1 : (t534 != 0) = false := bne_eq_false_iff_eq.mpr c46
                        clear c46
                        by_cases c47 : t542 = 0
                        · rw [if_pos c47] at H
                          have c47b0 : (t542 == 0) = true := beq_iff_eq.mpr c47
                          have c47b1 : (t542 != 0) = false := bne_eq_false_iff_eq.mpr c47
                          clear c47
                          by_cases c48 : t549 = 0
                          · rw [if_pos c48] at H
                            have c48b0 : (t549 == 0) = true := beq_iff_eq.mpr c48
                            have c48b1 : (t549 != 0) = false := bne_eq_false_iff_eq.mpr c48
                            clear c48
                            replace H := Option.bind_eq_some_iff.mp H
                            obtain ⟨t552, A490, H⟩ := H
                            replace H : (if t552 = true then ((bibelotlaw03_ints.f k3 t520 t526).bind fun t553 => (if t553 = true then ((bibelotref03_Distance.f t523 t526).bind fun t554 => (if (t548.length : Int) = t554 then (if (t548.length : Int) = 0 then ((bibelotlaw03_awake.f k3).bind fun t555 => (some t555)) else (if 0 < (t548.length : Int) then (if ((rd_T52 t548 0).f0) ≥ 0 then ((bibelotlaw03_awake.f k3).bind fun t557 => (some t557)) else (some false)) else (none))) else (some false))) else (some false))) else (some false)) = some r := H
                            have A49 := Aside0.mk A490
                            clear A490
                            by_cases c50 : t552 = true
                            · subst c50
                              have H1 : ((bibelotlaw03_ints.f k3 t520 t526).bind fun t553 => (if t553 = true then ((bibelotref03_Distance.f t523 t526).bind fun t554 => (if (t548.length : Int) = t554 then (if (t548.length : Int) = 0 then ((bibelotlaw03_awake.f k3).bind fun t555 => (some t555)) else (if 0 < (t548.length : Int) then (if ((rd_T52 t548 0).f0) ≥ 0 then ((bibelotlaw03_awake.f k3).bind fun t557 => (some t557)) else (some false)) else (none))) else (some false))) else (some false))) = some r := by rw [if_pos rfl] at H; exact H
                              clear H
                              have H := H1
                              clear H1
                              replace H := Option.bind_eq_some_iff.mp H
                              obtain ⟨t553, A510, H⟩ := H
                              replace H : (if t553 = true then ((bibelotref03_Distance.f t523 t526).bind fun t554 => (if (t548.length : Int) = t554 then (if (t548.length : Int) = 0 then ((bibelotlaw03_awake.f k3).bind fun t555 => (some t555)) else (if 0 < (t548.length : Int) then (if ((rd_T52 t548 0).f0) ≥ 0 then ((bibelotlaw03_awake.f k3).bind fun t557 => (some t557)) else (some false)) else (none))) else (some false))) else (some false)) = some r := H
                              have A51 := Aside0.mk A510
                              clear A510
                              by_cases c52 : t553 = true
                              · subst c52
                                have H1 : ((bibelotref03_Distance.f t523 t526).bind fun t554 => (if (t548.length : Int) = t554 then (if (t548.length : Int) = 0 then ((bibelotlaw03_awake.f k3).bind fun t555 => (some t555)) else (if 0 < (t548.length : Int) then (if ((rd_T52 t548 0).f0) ≥ 0 then ((bibelotlaw03_awake.f k3).bind fun t557 => (some t557)) else (some false)) else (none))) else (some false))) = some r := by rw [if_pos rfl] at H; exact H
                                clear H
                                have H := H1
                                clear H1
                                replace H := Option.bind_eq_some_iff.mp H
                                obtain ⟨t554, A530, H⟩ := H
                                replace H : (if (t548.length : Int) = t554 then (if (t548.length : Int) = 0 then ((bibelotlaw03_awake.f k3).bind fun t555 => (some t555)) else (if 0 < (t548.length : Int) then (if ((rd_T52 t548 0).f0) ≥ 0 then ((bibelotlaw03_awake.f k3).bind fun t557 => (some t557)) else (some false)) else (none))) else (some false)) = some r := H
                                have A53 := Aside0.mk A530
                                clear A530
                                by_cases c54 : (t548.length : Int) = t554
                                · rw [if_pos c54] at H
                                  have c54b0 : ((t548.length : Int) == t554) = true := beq_iff_eq.mpr c54
                                  have c54b1 : ((t548.length : Int) != t554) = false := bne_eq_false_iff_eq.mpr c54
                                  clear c54
                                  by_cases c55 : (t548.length : Int) = 0
                                  · rw [if_pos c55] at H
                                    have c55b0 : ((t548.length : Int) == 0) = true := beq_iff_eq.mpr c55
                                    have c55b1 : ((t548.length : Int) != 0) = false := bne_eq_false_iff_eq.mpr c55
                                    clear c55
                                    replace H := Option.bind_eq_some_iff.mp H
                                    obtain ⟨t555, A560, H⟩ := H
                                    replace H : (some t555) = some r := H
                                    have A56 := Aside0.mk A560
                                    clear A560
                                    obtain rfl := Option.some.inj H
                                    go_wp2_with (first | ((with_reducible refine gate_callee (f := 59) rfl ?_); refine goesL_ (some 86) rfl rfl Tryd.func59 (by kernel_rfl) rfl #[.slice Ao15 t517.length co15, .slice Ao17 t520.length co17] rfl (by (try simp only [List.map_toArray, List.map_cons, List.map_nil]); first | done | rfl | (simp only [List.length_drop, List.length_take]; rfl)) ?_; (with_reducible refine (hanoi_Way.calls _ _ t517 _ _ t520 t548 t549 _ ?side1 ?side2 ?side3 ?side4 A44.out).mono ?_); (case side1 => repeat (first | exact (Kd.R_reads' HO_7.out).2.2 | (with_reducible refine Kd.C_alloc ?_ _) | (with_reducible refine Kd.C_drewN ?_ _) | (with_reducible refine Kd.C_drew ?_))); (case side2 => exact (Kd.R_reads' HO_7.out).2.1); (case side3 => repeat (first | exact (Kd.R_reads' HO_8.out).2.2 | (with_reducible refine Kd.C_alloc ?_ _) | (with_reducible refine Kd.C_drewN ?_ _) | (with_reducible refine Kd.C_drew ?_))); (case side4 => exact (Kd.R_reads' HO_8.out).2.1); rintro e w57 ⟨v550, rfl, ho0, hb⟩; refine ⟨_, rfl, ?_⟩; have n0_ := Aside0.mk (Kd.R_below (by (with_reducible repeat (first | apply Kd.R_alloc | apply Kd.R_drewN | apply Kd.R_drew)); exact HO_7.out) hb); have n1_ := Aside0.mk (Kd.R_below (by (with_reducible repeat (first | apply Kd.R_alloc | apply Kd.R_drewN | apply Kd.R_drew)); exact HO_8.out) hb); have n2_ := Aside0.mk (Kd.R_below (by (with_reducible repeat (first | apply Kd.R_alloc | apply Kd.R_drewN | apply Kd.R_drew)); exact HO_9.out) hb); have n3_ := Aside0.mk (Kd.R_below (by (with_reducible repeat (first | apply Kd.R_alloc | apply Kd.R_drewN | apply Kd.R_drew)); exact HO_10.out) hb); have n4_ := Aside0.mk (Kd.R_elder' (by (with_reducible repeat (first | apply Kd.R_alloc | apply Kd.R_drewN | apply Kd.R_drew)); exact HO_13.out) (Kd.R_base ho0) hb); have n5_ := Aside0.mk (Kd.R_lower (Kd.R_new' ho0 (Kd.R_lt (by (with_reducible repeat (first | apply Kd.R_alloc | apply Kd.R_drewN | apply Kd.R_drew)); exact HO_13.out))) (below_size (by repeat (first | (with_reducible first | exact HB.out | apply below_alloc | apply pw_below_drewN | apply below_drew1) | exact HB.out)))); have n6_ := Aside0.mk (below_step (by repeat (first | (with_reducible first | exact HB.out | apply below_alloc | apply pw_below_drewN | apply below_drew1) | exact HB.out)) hb); clear HO_7; clear HO_8; clear HO_9; clear HO_10; clear HO_13; clear HB; have HO_7 := n0_; have HO_8 := n1_; have HO_9 := n2_; have HO_10 := n3_; have HO_13 := n4_; have HO551 := n5_; have HB := n6_; clear n0_ n1_ n2_ n3_ n4_ n5_ n6_; (try clear hb); (try clear hb2); (try clear hk); (try clear hi); (try clear ho0); obtain ⟨Ao58, co58, eo58⟩ := Kd.R_slice HO_9.out; subst eo58) | (go_at_call 49; (with_reducible refine (bibelotlaw03_ints.calls k3 _ _ t517 _ _ t523 true _ ?side1 ?side2 ?side3 ?side4 A49.out).mono ?_); (case side1 => repeat (first | exact (Kd.R_reads' HO_7.out).2.2 | (with_reducible refine Kd.C_alloc ?_ _) | (with_reducible refine Kd.C_drewN ?_ _) | (with_reducible refine Kd.C_drew ?_))); (case side2 => exact (Kd.R_reads' HO_7.out).2.1); (case side3 => repeat (first | exact (Kd.R_reads' HO_9.out).2.2 | (with_reducible refine Kd.C_alloc ?_ _) | (with_reducible refine Kd.C_drewN ?_ _) | (with_reducible refine Kd.C_drew ?_))); (case side4 => exact (Kd.R_reads' HO_9.out).2.1); rintro e w' ⟨rfl, ⟨nd, rfl⟩⟩; obtain ⟨Ao59, co59, eo59⟩ := Kd.R_slice HO_10.out; subst eo59) | (go_at_call 49; (with_reducible refine (bibelotlaw03_ints.calls k3 _ _ t520 _ _ t526 true _ ?side1 ?side2 ?side3 ?side4 A51.out).mono ?_); (case side1 => repeat (first | exact (Kd.R_reads' HO_8.out).2.2 | (with_reducible refine Kd.C_alloc ?_ _) | (with_reducible refine Kd.C_drewN ?_ _) | (with_reducible refine Kd.C_drew ?_))); (case side2 => exact (Kd.R_reads' HO_8.out).2.1); (case side3 => repeat (first | exact (Kd.R_reads' HO_10.out).2.2 | (with_reducible refine Kd.C_alloc ?_ _) | (with_reducible refine Kd.C_drewN ?_ _) | (with_reducible refine Kd.C_drew ?_))); (case side4 => exact (Kd.R_reads' HO_10.out).2.1); rintro e w' ⟨rfl, ⟨nd, rfl⟩⟩; obtain ⟨Ao60, co60, eo60⟩ := Kd.R_slice HO551.out; subst eo60) | (go_at_call 48; (with_reducible refine (bibelotref03_Distance.calls _ _ t523 _ _ t526 t554 _ ?side1 ?side2 ?side3 ?side4 A53.out).mono ?_); (case side1 => repeat (first | exact (Kd.R_reads' HO_9.out).2.2 | (with_reducible refine Kd.C_alloc ?_ _) | (with_reducible refine Kd.C_drewN ?_ _) | (with_reducible refine Kd.C_drew ?_))); (case side2 => exact (Kd.R_reads' HO_9.out).2.1); (case side3 => repeat (first | exact (Kd.R_reads' HO_10.out).2.2 | (with_reducible refine Kd.C_alloc ?_ _) | (with_reducible refine Kd.C_drewN ?_ _) | (with_reducible refine Kd.C_drew ?_))); (case side4 => exact (Kd.R_reads' HO_10.out).2.1); rintro e w' ⟨rfl, ⟨nd, rfl⟩⟩) | (go_at_call 26; (with_reducible refine (bibelotlaw03_awake.calls k3  t555 _ A56.out).mono ?_); rintro e w61 ⟨rfl, hb⟩; have n0_ := Aside0.mk (Kd.R_below (by (with_reducible repeat (first | apply Kd.R_alloc | apply Kd.R_drewN | apply Kd.R_drew)); exact HO_7.out) hb); have n1_ := Aside0.mk (Kd.R_below (by (with_reducible repeat (first | apply Kd.R_alloc | apply Kd.R_drewN | apply Kd.R_drew)); exact HO_8.out) hb); have n2_ := Aside0.mk (Kd.R_below (by (with_reducible repeat (first | apply Kd.R_alloc | apply Kd.R_drewN | apply Kd.R_drew)); exact HO_9.out) hb); have n3_ := Aside0.mk (Kd.R_below (by (with_reducible repeat (first | apply Kd.R_alloc | apply Kd.R_drewN | apply Kd.R_drew)); exact HO_10.out) hb); have n4_ := Aside0.mk (Kd.R_below (by (with_reducible repeat (first | apply Kd.R_alloc | apply Kd.R_drewN | apply Kd.R_drew)); exact HO_13.out) hb); have n5_ := Aside0.mk (Kd.R_below (by (with_reducible repeat (first | apply Kd.R_alloc | apply Kd.R_drewN | apply Kd.R_drew)); exact HO551.out) hb); have n6_ := Aside0.mk (below_step (by repeat (first | (with_reducible first | exact HB.out | apply below_alloc | apply pw_below_drewN | apply below_drew1) | exact HB.out)) hb); clear HO_7; clear HO_8; clear HO_9; clear HO_10; clear HO_13; clear HO551; clear HB; have HO_7 := n0_; have HO_8 := n1_; have HO_9 := n2_; have HO_10 := n3_; have HO_13 := n4_; have HO551 := n5_; have HB := n6_; clear n0_ n1_ n2_ n3_ n4_ n5_ n6_; (try clear hb); (try clear hb2); (try clear hk); (try clear hi)))
                                    go_ret
                                    exact ⟨by first | rfl | (simp [errW_none, errW_some] <;> rfl) | (simp [*, errW_none, errW_some] <;> rfl), by repeat (first | (with_reducible first | exact HB.out | apply below_alloc | apply pw_below_drewN | apply below_drew1) | exact HB.out)⟩
                                  · rw [if_neg c55] at H
                                    have c55b0 : ((t548.length : Int) == 0) = false := beq_eq_false_iff_ne.mpr c55
                                    have c55b1 : ((t548.length : Int) != 0) = true := bne_iff_ne.mpr c55
                                    have c55b2 : ¬ (t548 = []) := fun h_ => c55 (by rw [h_]; rfl)
                                    by_cases c62 : 0 < (t548.length : Int)
                                    · rw [if_pos c62] at H
                                      have c62b0 : decide (0 < (t548.length : Int)) = true := decide_eq_true c62
                                      have c62b1 : decide (0 < t548.length) = true := decide_eq_true (by omega)
                                      clear c62
                                      by_cases c63 : ((rd_T52 t548 0).f0) ≥ 0
                                      · rw [if_pos c63] at H
                                        have c63b0 : decide (0 ≤ ((rd_T52 t548 0).f0)) = true := decide_eq_true c63
                                        clear c63
                                        replace H := Option.bind_eq_some_iff.mp H
                                        obtain ⟨t557, A640, H⟩ := H
                                        replace H : (some t557) = some r := H
                                        have A64 := Aside0.mk A640
                                        clear A640
                                        obtain rfl := Option.some.inj H
                                        go_wp2_with (first | ((with_reducible refine gate_callee (f := 59) rfl ?_); refine goesL_ (some 86) rfl rfl Tryd.func59 (by kernel_rfl) rfl #[.slice Ao15 t517.length co15, .slice Ao17 t520.length co17] rfl (by (try simp only [List.map_toArray, List.map_cons, List.map_nil]); first | done | rfl | (simp only [List.length_drop, List.length_take]; rfl)) ?_; (with_reducible refine (hanoi_Way.calls _ _ t517 _ _ t520 t548 t549 _ ?side1 ?side2 ?side3 ?side4 A44.out).mono ?_); (case side1 => repeat (first | exact (Kd.R_reads' HO_7.out).2.2 | (with_reducible refine Kd.C_alloc ?_ _) | (with_reducible refine Kd.C_drewN ?_ _) | (with_reducible refine Kd.C_drew ?_))); (case side2 => exact (Kd.R_reads' HO_7.out).2.1); (case side3 => repeat (first | exact (Kd.R_reads' HO_8.out).2.2 | (with_reducible refine Kd.C_alloc ?_ _) | (with_reducible refine Kd.C_drewN ?_ _) | (with_reducible refine Kd.C_drew ?_))); (case side4 => exact (Kd.R_reads' HO_8.out).2.1); rintro e w65 ⟨v550, rfl, ho0, hb⟩; refine ⟨_, rfl, ?_⟩; have n0_ := Aside0.mk (Kd.R_below (by (with_reducible repeat (first | apply Kd.R_alloc | apply Kd.R_drewN | apply Kd.R_drew)); exact HO_7.out) hb); have n1_ := Aside0.mk (Kd.R_below (by (with_reducible repeat (first | apply Kd.R_alloc | apply Kd.R_drewN | apply Kd.R_drew)); exact HO_8.out) hb); have n2_ := Aside0.mk (Kd.R_below (by (with_reducible repeat (first | apply Kd.R_alloc | apply Kd.R_drewN | apply Kd.R_drew)); exact HO_9.out) hb); have n3_ := Aside0.mk (Kd.R_below (by (with_reducible repeat (first | apply Kd.R_alloc | apply Kd.R_drewN | apply Kd.R_drew)); exact HO_10.out) hb); have n4_ := Aside0.mk (Kd.R_elder' (by (with_reducible repeat (first | apply Kd.R_alloc | apply Kd.R_drewN | apply Kd.R_drew)); exact HO_13.out) (Kd.R_base ho0) hb); have n5_ := Aside0.mk (Kd.R_lower (Kd.R_new' ho0 (Kd.R_lt (by (with_reducible repeat (first | apply Kd.R_alloc | apply Kd.R_drewN | apply Kd.R_drew)); exact HO_13.out))) (below_size (by repeat (first | (with_reducible first | exact HB.out | apply below_alloc | apply pw_below_drewN | apply below_drew1) | exact HB.out)))); have n6_ := Aside0.mk (below_step (by repeat (first | (with_reducible first | exact HB.out | apply below_alloc | apply pw_below_drewN | apply below_drew1) | exact HB.out)) hb); clear HO_7; clear HO_8; clear HO_9; clear HO_10; clear HO_13; clear HB; have HO_7 := n0_; have HO_8 := n1_; have HO_9 := n2_; have HO_10 := n3_; have HO_13 := n4_; have HO551 := n5_; have HB := n6_; clear n0_ n1_ n2_ n3_ n4_ n5_ n6_; (try clear hb); (try clear hb2); (try clear hk); (try clear hi); (try clear ho0); obtain ⟨Ao66, co66, eo66⟩ := Kd.R_slice HO_9.out; subst eo66) | (go_at_call 49; (with_reducible refine (bibelotlaw03_ints.calls k3 _ _ t517 _ _ t523 true _ ?side1 ?side2 ?side3 ?side4 A49.out).mono ?_); (case side1 => repeat (first | exact (Kd.R_reads' HO_7.out).2.2 | (with_reducible refine Kd.C_alloc ?_ _) | (with_reducible refine Kd.C_drewN ?_ _) | (with_reducible refine Kd.C_drew ?_))); (case side2 => exact (Kd.R_reads' HO_7.out).2.1); (case side3 => repeat (first | exact (Kd.R_reads' HO_9.out).2.2 | (with_reducible refine Kd.C_alloc ?_ _) | (with_reducible refine Kd.C_drewN ?_ _) | (with_reducible refine Kd.C_drew ?_))); (case side4 => exact (Kd.R_reads' HO_9.out).2.1); rintro e w' ⟨rfl, ⟨nd, rfl⟩⟩; obtain ⟨Ao67, co67, eo67⟩ := Kd.R_slice HO_10.out; subst eo67) | (go_at_call 49; (with_reducible refine (bibelotlaw03_ints.calls k3 _ _ t520 _ _ t526 true _ ?side1 ?side2 ?side3 ?side4 A51.out).mono ?_); (case side1 => repeat (first | exact (Kd.R_reads' HO_8.out).2.2 | (with_reducible refine Kd.C_alloc ?_ _) | (with_reducible refine Kd.C_drewN ?_ _) | (with_reducible refine Kd.C_drew ?_))); (case side2 => exact (Kd.R_reads' HO_8.out).2.1); (case side3 => repeat (first | exact (Kd.R_reads' HO_10.out).2.2 | (with_reducible refine Kd.C_alloc ?_ _) | (with_reducible refine Kd.C_drewN ?_ _) | (with_reducible refine Kd.C_drew ?_))); (case side4 => exact (Kd.R_reads' HO_10.out).2.1); rintro e w' ⟨rfl, ⟨nd, rfl⟩⟩; obtain ⟨Ao68, co68, eo68⟩ := Kd.R_slice HO551.out; subst eo68) | (go_at_call 48; (with_reducible refine (bibelotref03_Distance.calls _ _ t523 _ _ t526 t554 _ ?side1 ?side2 ?side3 ?side4 A53.out).mono ?_); (case side1 => repeat (first | exact (Kd.R_reads' HO_9.out).2.2 | (with_reducible refine Kd.C_alloc ?_ _) | (with_reducible refine Kd.C_drewN ?_ _) | (with_reducible refine Kd.C_drew ?_))); (case side2 => exact (Kd.R_reads' HO_9.out).2.1); (case side3 => repeat (first | exact (Kd.R_reads' HO_10.out).2.2 | (with_reducible refine Kd.C_alloc ?_ _) | (with_reducible refine Kd.C_drewN ?_ _) | (with_reducible refine Kd.C_drew ?_))); (case side4 => exact (Kd.R_reads' HO_10.out).2.1); rintro e w' ⟨rfl, ⟨nd, rfl⟩⟩; have p556 : 0 ≤ (0 : Int) := (by omega); have q556 : 0 < (t548.length : Int) := of_decide_eq_true (by first | (with_reducible assumption) | assumption); obtain ⟨ad556, e556, hx556_0, hx556_1⟩ := at_T52 (Kd.R_reads' HO551.out).2.2 0 p556 q556; cases e556; have qi556 : (0 < t548.length) = True := eq_true (by omega); (try rw [show ((0 : Int)).toNat = 0 from rfl] at hx556_0); (try rw [show 0 * 2 = 0 from rfl] at hx556_0); (try rw [Addr.add_zero'] at hx556_0); (try rw [show ((0 : Int)).toNat = 0 from rfl] at hx556_1); (try rw [show 0 * 2 = 0 from rfl] at hx556_1); (try rw [Addr.add_zero'] at hx556_1); replace p556 := eq_true p556; replace q556 := eq_true q556) | (go_at_call 26; (with_reducible refine (bibelotlaw03_awake.calls k3  t557 _ A64.out).mono ?_); rintro e w69 ⟨rfl, hb⟩; have n0_ := Aside0.mk (Kd.R_below (by (with_reducible repeat (first | apply Kd.R_alloc | apply Kd.R_drewN | apply Kd.R_drew)); exact HO_7.out) hb); have n1_ := Aside0.mk (Kd.R_below (by (with_reducible repeat (first | apply Kd.R_alloc | apply Kd.R_drewN | apply Kd.R_drew)); exact HO_8.out) hb); have n2_ := Aside0.mk (Kd.R_below (by (with_reducible repeat (first | apply Kd.R_alloc | apply Kd.R_drewN | apply Kd.R_drew)); exact HO_9.out) hb); have n3_ := Aside0.mk (Kd.R_below (by (with_reducible repeat (first | apply Kd.R_alloc | apply Kd.R_drewN | apply Kd.R_drew)); exact HO_10.out) hb); have n4_ := Aside0.mk (Kd.R_below (by (with_reducible repeat (first | apply Kd.R_alloc | apply Kd.R_drewN | apply Kd.R_drew)); exact HO_13.out) hb); have n5_ := Aside0.mk (Kd.R_below (by (with_reducible repeat (first | apply Kd.R_alloc | apply Kd.R_drewN | apply Kd.R_drew)); exact HO551.out) hb); have n6_ := Aside0.mk (below_step (by repeat (first | (with_reducible first | exact HB.out | apply below_alloc | apply pw_below_drewN | apply below_drew1) | exact HB.out)) hb); clear HO_7; clear HO_8; clear HO_9; clear HO_10; clear HO_13; clear HO551; clear HB; have HO_7 := n0_; have HO_8 := n1_; have HO_9 := n2_; have HO_10 := n3_; have HO_13 := n4_; have HO551 := n5_; have HB := n6_; clear n0_ n1_ n2_ n3_ n4_ n5_ n6_; (try clear hb); (try clear hb2); (try clear hk); (try clear hi)))
                                        go_ret
                                        exact ⟨by first | rfl | (simp [errW_none, errW_some] <;> rfl) | (simp [*, errW_none, errW_some] <;> rfl), by repeat (first | (with_reducible first | exact HB.out | apply below_alloc | apply pw_below_drewN | apply below_drew1) | exact HB.out)⟩
                                      · rw [if_neg c63] at H
                                        have c63b0 : decide (0 ≤ ((rd_T52 t548 0).f0)) = false := decide_eq_false c63
                                        clear c63
                                        obtain rfl := Option.some.inj H
                                        go_wp2_with (first | ((with_reducible refine gate_callee (f := 59) rfl ?_); refine goesL_ (some 86) rfl rfl Tryd.func59 (by kernel_rfl) rfl #[.slice Ao15 t517.length co15, .slice Ao17 t520.length co17] rfl (by (try simp only [List.map_toArray, List.map_cons, List.map_nil]); first | done | rfl | (simp only [List.length_drop, List.length_take]; rfl)) ?_; (with_reducible refine (hanoi_Way.calls _ _ t517 _ _ t520 t548 t549 _ ?side1 ?side2 ?side3 ?side4 A44.out).mono ?_); (case side1 => repeat (first | exact (Kd.R_reads' HO_7.out).2.2 | (with_reducible refine Kd.C_alloc ?_ _) | (with_reducible refine Kd.C_drewN ?_ _) | (with_reducible refine Kd.C_drew ?_))); (case side2 => exact (Kd.R_reads' HO_7.out).2.1); (case side3 => repeat (first | exact (Kd.R_reads' HO_8.out).2.2 | (with_reducible refine Kd.C_alloc ?_ _) | (with_reducible refine Kd.C_drewN ?_ _) | (with_reducible refine Kd.C_drew ?_))); (case side4 => exact (Kd.R_reads' HO_8.out).2.1); rintro e w70 ⟨v550, rfl, ho0, hb⟩; refine ⟨_, rfl, ?_⟩; have n0_ := Aside0.mk (Kd.R_below (by (with_reducible repeat (first | apply Kd.R_alloc | apply Kd.R_drewN | apply Kd.R_drew)); exact HO_7.out) hb); have n1_ := Aside0.mk (Kd.R_below (by (with_reducible repeat (first | apply Kd.R_alloc | apply Kd.R_drewN | apply Kd.R_drew)); exact HO_8.out) hb); have n2_ := Aside0.mk (Kd.R_below (by (with_reducible repeat (first | apply Kd.R_alloc | apply Kd.R_drewN | apply Kd.R_drew)); exact HO_9.out) hb); have n3_ := Aside0.mk (Kd.R_below (by (with_reducible repeat (first | apply Kd.R_alloc | apply Kd.R_drewN | apply Kd.R_drew)); exact HO_10.out) hb); have n4_ := Aside0.mk (Kd.R_elder' (by (with_reducible repeat (first | apply Kd.R_alloc | apply Kd.R_drewN | apply Kd.R_drew)); exact HO_13.out) (Kd.R_base ho0) hb); have n5_ := Aside0.mk (Kd.R_lower (Kd.R_new' ho0 (Kd.R_lt (by (with_reducible repeat (first | apply Kd.R_alloc | apply Kd.R_drewN | apply Kd.R_drew)); exact HO_13.out))) (below_size (by repeat (first | (with_reducible first | exact HB.out | apply below_alloc | apply pw_below_drewN | apply below_drew1) | exact HB.out)))); have n6_ := Aside0.mk (below_step (by repeat (first | (with_reducible first | exact HB.out | apply below_alloc | apply pw_below_drewN | apply below_drew1) | exact HB.out)) hb); clear HO_7; clear HO_8; clear HO_9; clear HO_10; clear HO_13; clear HB; have HO_7 := n0_; have HO_8 := n1_; have HO_9 := n2_; have HO_10 := n3_; have HO_13 := n4_; have HO551 := n5_; have HB := n6_; clear n0_ n1_ n2_ n3_ n4_ n5_ n6_; (try clear hb); (try clear hb2); (try clear hk); (try clear hi); (try clear ho0); obtain ⟨Ao71, co71, eo71⟩ := Kd.R_slice HO_9.out; subst eo71) | (go_at_call 49; (with_reducible refine (bibelotlaw03_ints.calls k3 _ _ t517 _ _ t523 true _ ?side1 ?side2 ?side3 ?side4 A49.out).mono ?_); (case side1 => repeat (first | exact (Kd.R_reads' HO_7.out).2.2 | (with_reducible refine Kd.C_alloc ?_ _) | (with_reducible refine Kd.C_drewN ?_ _) | (with_reducible refine Kd.C_drew ?_))); (case side2 => exact (Kd.R_reads' HO_7.out).2.1); (case side3 => repeat (first | exact (Kd.R_reads' HO_9.out).2.2 | (with_reducible refine Kd.C_alloc ?_ _) | (with_reducible refine Kd.C_drewN ?_ _) | (with_reducible refine Kd.C_drew ?_))); (case side4 => exact (Kd.R_reads' HO_9.out).2.1); rintro e w' ⟨rfl, ⟨nd, rfl⟩⟩; obtain ⟨Ao72, co72, eo72⟩ := Kd.R_slice HO_10.out; subst eo72) | (go_at_call 49; (with_reducible refine (bibelotlaw03_ints.calls k3 _ _ t520 _ _ t526 true _ ?side1 ?side2 ?side3 ?side4 A51.out).mono ?_); (case side1 => repeat (first | exact (Kd.R_reads' HO_8.out).2.2 | (with_reducible refine Kd.C_alloc ?_ _) | (with_reducible refine Kd.C_drewN ?_ _) | (with_reducible refine Kd.C_drew ?_))); (case side2 => exact (Kd.R_reads' HO_8.out).2.1); (case side3 => repeat (first | exact (Kd.R_reads' HO_10.out).2.2 | (with_reducible refine Kd.C_alloc ?_ _) | (with_reducible refine Kd.C_drewN ?_ _) | (with_reducible refine Kd.C_drew ?_))); (case side4 => exact (Kd.R_reads' HO_10.out).2.1); rintro e w' ⟨rfl, ⟨nd, rfl⟩⟩; obtain ⟨Ao73, co73, eo73⟩ := Kd.R_slice HO551.out; subst eo73) | (go_at_call 48; (with_reducible refine (bibelotref03_Distance.calls _ _ t523 _ _ t526 t554 _ ?side1 ?side2 ?side3 ?side4 A53.out).mono ?_); (case side1 => repeat (first | exact (Kd.R_reads' HO_9.out).2.2 | (with_reducible refine Kd.C_alloc ?_ _) | (with_reducible refine Kd.C_drewN ?_ _) | (with_reducible refine Kd.C_drew ?_))); (case side2 => exact (Kd.R_reads' HO_9.out).2.1); (case side3 => repeat (first | exact (Kd.R_reads' HO_10.out).2.2 | (with_reducible refine Kd.C_alloc ?_ _) | (with_reducible refine Kd.C_drewN ?_ _) | (with_reducible refine Kd.C_drew ?_))); (case side4 => exact (Kd.R_reads' HO_10.out).2.1); rintro e w' ⟨rfl, ⟨nd, rfl⟩⟩; have p556 : 0 ≤ (0 : Int) := (by omega); have q556 : 0 < (t548.length : Int) := of_decide_eq_true (by first | (with_reducible assumption) | assumption); obtain ⟨ad556, e556, hx556_0, hx556_1⟩ := at_T52 (Kd.R_reads' HO551.out).2.2 0 p556 q556; cases e556; have qi556 : (0 < t548.length) = True := eq_true (by omega); (try rw [show ((0 : Int)).toNat = 0 from rfl] at hx556_0); (try rw [show 0 * 2 = 0 from rfl] at hx556_0); (try rw [Addr.add_zero'] at hx556_0); (try rw [show ((0 : Int)).toNat = 0 from rfl] at hx556_1); (try rw [show 0 * 2 = 0 from rfl] at hx556_1); (try rw [Addr.add_zero'] at hx556_1); replace p556 := eq_true p556; replace q556 := eq_true q556))
                                        go_ret
                                        exact ⟨by first | rfl | (simp [errW_none, errW_some] <;> rfl) | (simp [*, errW_none, errW_some] <;> rfl), by repeat (first | (with_reducible first | exact HB.out | apply below_alloc | apply pw_below_drewN | apply below_drew1) | exact HB.out)⟩
                                    · rw [if_neg c62] at H
                                      exact absurd H (by simp)
                                · rw [if_neg c54] at H
                                  have c54b0 : ((t548.length : Int) == t554) = false := beq_eq_false_iff_ne.mpr c54
                                  have c54b1 : ((t548.length : Int) != t554) = true := bne_iff_ne.mpr c54
                                  obtain rfl := Option.some.inj H
                                  go_wp2_with (first | ((with_reducible refine gate_callee (f := 59) rfl ?_); refine goesL_ (some 86) rfl rfl Tryd.func59 (by kernel_rfl) rfl #[.slice Ao15 t517.length co15, .slice Ao17 t520.length co17] rfl (by (try simp only [List.map_toArray, List.map_cons, List.map_nil]); first | done | rfl | (simp only [List.length_drop, List.length_take]; rfl)) ?_; (with_reducible refine (hanoi_Way.calls _ _ t517 _ _ t520 t548 t549 _ ?side1 ?side2 ?side3 ?side4 A44.out).mono ?_); (case side1 => repeat (first | exact (Kd.R_reads' HO_7.out).2.2 | (with_reducible refine Kd.C_alloc ?_ _) | (with_reducible refine Kd.C_drewN ?_ _) | (with_reducible refine Kd.C_drew ?_))); (case side2 => exact (Kd.R_reads' HO_7.out).2.1); (case side3 => repeat (first | exact (Kd.R_reads' HO_8.out).2.2 | (with_reducible refine Kd.C_alloc ?_ _) | (with_reducible refine Kd.C_drewN ?_ _) | (with_reducible refine Kd.C_drew ?_))); (case side4 => exact (Kd.R_reads' HO_8.out).2.1); rintro e w74 ⟨v550, rfl, ho0, hb⟩; refine ⟨_, rfl, ?_⟩; have n0_ := Aside0.mk (Kd.R_below (by (with_reducible repeat (first | apply Kd.R_alloc | apply Kd.R_drewN | apply Kd.R_drew)); exact HO_7.out) hb); have n1_ := Aside0.mk (Kd.R_below (by (with_reducible repeat (first | apply Kd.R_alloc | apply Kd.R_drewN | apply Kd.R_drew)); exact HO_8.out) hb); have n2_ := Aside0.mk (Kd.R_below (by (with_reducible repeat (first | apply Kd.R_alloc | apply Kd.R_drewN | apply Kd.R_drew)); exact HO_9.out) hb); have n3_ := Aside0.mk (Kd.R_below (by (with_reducible repeat (first | apply Kd.R_alloc | apply Kd.R_drewN | apply Kd.R_drew)); exact HO_10.out) hb); have n4_ := Aside0.mk (Kd.R_elder' (by (with_reducible repeat (first | apply Kd.R_alloc | apply Kd.R_drewN | apply Kd.R_drew)); exact HO_13.out) (Kd.R_base ho0) hb); have n5_ := Aside0.mk (Kd.R_lower (Kd.R_new' ho0 (Kd.R_lt (by (with_reducible repeat (first | apply Kd.R_alloc | apply Kd.R_drewN | apply Kd.R_drew)); exact HO_13.out))) (below_size (by repeat (first | (with_reducible first | exact HB.out | apply below_alloc | apply pw_below_drewN | apply below_drew1) | exact HB.out)))); have n6_ := Aside0.mk (below_step (by repeat (first | (with_reducible first | exact HB.out | apply below_alloc | apply pw_below_drewN | apply below_drew1) | exact HB.out)) hb); clear HO_7; clear HO_8; clear HO_9; clear HO_10; clear HO_13; clear HB; have HO_7 := n0_; have HO_8 := n1_; have HO_9 := n2_; have HO_10 := n3_; have HO_13 := n4_; have HO551 := n5_; have HB := n6_; clear n0_ n1_ n2_ n3_ n4_ n5_ n6_; (try clear hb); (try clear hb2); (try clear hk); (try clear hi); (try clear ho0); obtain ⟨Ao75, co75, eo75⟩ := Kd.R_slice HO_9.out; subst eo75) | (go_at_call 49; (with_reducible refine (bibelotlaw03_ints.calls k3 _ _ t517 _ _ t523 true _ ?side1 ?side2 ?side3 ?side4 A49.out).mono ?_); (case side1 => repeat (first | exact (Kd.R_reads' HO_7.out).2.2 | (with_reducible refine Kd.C_alloc ?_ _) | (with_reducible refine Kd.C_drewN ?_ _) | (with_reducible refine Kd.C_drew ?_))); (case side2 => exact (Kd.R_reads' HO_7.out).2.1); (case side3 => repeat (first | exact (Kd.R_reads' HO_9.out).2.2 | (with_reducible refine Kd.C_alloc ?_ _) | (with_reducible refine Kd.C_drewN ?_ _) | (with_reducible refine Kd.C_drew ?_))); (case side4 => exact (Kd.R_reads' HO_9.out).2.1); rintro e w' ⟨rfl, ⟨nd, rfl⟩⟩; obtain ⟨Ao76, co76, eo76⟩ := Kd.R_slice HO_10.out; subst eo76) | (go_at_call 49; (with_reducible refine (bibelotlaw03_ints.calls k3 _ _ t520 _ _ t526 true _ ?side1 ?side2 ?side3 ?side4 A51.out).mono ?_); (case side1 => repeat (first | exact (Kd.R_reads' HO_8.out).2.2 | (with_reducible refine Kd.C_alloc ?_ _) | (with_reducible refine Kd.C_drewN ?_ _) | (with_reducible refine Kd.C_drew ?_))); (case side2 => exact (Kd.R_reads' HO_8.out).2.1); (case side3 => repeat (first | exact (Kd.R_reads' HO_10.out).2.2 | (with_reducible refine Kd.C_alloc ?_ _) | (with_reducible refine Kd.C_drewN ?_ _) | (with_reducible refine Kd.C_drew ?_))); (case side4 => exact (Kd.R_reads' HO_10.out).2.1); rintro e w' ⟨rfl, ⟨nd, rfl⟩⟩; obtain ⟨Ao77, co77, eo77⟩ := Kd.R_slice HO551.out; subst eo77) | (go_at_call 48; (with_reducible refine (bibelotref03_Distance.calls _ _ t523 _ _ t526 t554 _ ?side1 ?side2 ?side3 ?side4 A53.out).mono ?_); (case side1 => repeat (first | exact (Kd.R_reads' HO_9.out).2.2 | (with_reducible refine Kd.C_alloc ?_ _) | (with_reducible refine Kd.C_drewN ?_ _) | (with_reducible refine Kd.C_drew ?_))); (case side2 => exact (Kd.R_reads' HO_9.out).2.1); (case side3 => repeat (first | exact (Kd.R_reads' HO_10.out).2.2 | (with_reducible refine Kd.C_alloc ?_ _) | (with_reducible refine Kd.C_drewN ?_ _) | (with_reducible refine Kd.C_drew ?_))); (case side4 => exact (Kd.R_reads' HO_10.out).2.1); rintro e w' ⟨rfl, ⟨nd, rfl⟩⟩))
                                  go_ret
                                  exact ⟨by first | rfl | (simp [errW_none, errW_some] <;> rfl) | (simp [*, errW_none, errW_some] <;> rfl), by repeat (first | (with_reducible first | exact HB.out | apply below_alloc | apply pw_below_drewN | apply below_drew1) | exact HB.out)⟩
                              · replace c52 := Bool.eq_false_iff.mpr c52
                                subst c52
                                have H1 : (some false) = some r := by rw [if_neg (show ¬ (false = true) by decide)] at H; exact H
                                clear H
                                have H := H1
                                clear H1
                                obtain rfl := Option.some.inj H
                                go_wp2_with (first | ((with_reducible refine gate_callee (f := 59) rfl ?_); refine goesL_ (some 86) rfl rfl Tryd.func59 (by kernel_rfl) rfl #[.slice Ao15 t517.length co15, .slice Ao17 t520.length co17] rfl (by (try simp only [List.map_toArray, List.map_cons, List.map_nil]); first | done | rfl | (simp only [List.length_drop, List.length_take]; rfl)) ?_; (with_reducible refine (hanoi_Way.calls _ _ t517 _ _ t520 t548 t549 _ ?side1 ?side2 ?side3 ?side4 A44.out).mono ?_); (case side1 => repeat (first | exact (Kd.R_reads' HO_7.out).2.2 | (with_reducible refine Kd.C_alloc ?_ _) | (with_reducible refine Kd.C_drewN ?_ _) | (with_reducible refine Kd.C_drew ?_))); (case side2 => exact (Kd.R_reads' HO_7.out).2.1); (case side3 => repeat (first | exact (Kd.R_reads' HO_8.out).2.2 | (with_reducible refine Kd.C_alloc ?_ _) | (with_reducible refine Kd.C_drewN ?_ _) | (with_reducible refine Kd.C_drew ?_))); (case side4 => exact (Kd.R_reads' HO_8.out).2.1); rintro e w78 ⟨v550, rfl, ho0, hb⟩; refine ⟨_, rfl, ?_⟩; have n0_ := Aside0.mk (Kd.R_below (by (with_reducible repeat (first | apply Kd.R_alloc | apply Kd.R_drewN | apply Kd.R_drew)); exact HO_7.out) hb); have n1_ := Aside0.mk (Kd.R_below (by (with_reducible repeat (first | apply Kd.R_alloc | apply Kd.R_drewN | apply Kd.R_drew)); exact HO_8.out) hb); have n2_ := Aside0.mk (Kd.R_below (by (with_reducible repeat (first | apply Kd.R_alloc | apply Kd.R_drewN | apply Kd.R_drew)); exact HO_9.out) hb); have n3_ := Aside0.mk (Kd.R_below (by (with_reducible repeat (first | apply Kd.R_alloc | apply Kd.R_drewN | apply Kd.R_drew)); exact HO_10.out) hb); have n4_ := Aside0.mk (Kd.R_elder' (by (with_reducible repeat (first | apply Kd.R_alloc | apply Kd.R_drewN | apply Kd.R_drew)); exact HO_13.out) (Kd.R_base ho0) hb); have n5_ := Aside0.mk (Kd.R_lower (Kd.R_new' ho0 (Kd.R_lt (by (with_reducible repeat (first | apply Kd.R_alloc | apply Kd.R_drewN | apply Kd.R_drew)); exact HO_13.out))) (below_size (by repeat (first | (with_reducible first | exact HB.out | apply below_alloc | apply pw_below_drewN | apply below_drew1) | exact HB.out)))); have n6_ := Aside0.mk (below_step (by repeat (first | (with_reducible first | exact HB.out | apply below_alloc | apply pw_below_drewN | apply below_drew1) | exact HB.out)) hb); clear HO_7; clear HO_8; clear HO_9; clear HO_10; clear HO_13; clear HB; have HO_7 := n0_; have HO_8 := n1_; have HO_9 := n2_; have HO_10 := n3_; have HO_13 := n4_; have HO551 := n5_; have HB := n6_; clear n0_ n1_ n2_ n3_ n4_ n5_ n6_; (try clear hb); (try clear hb2); (try clear hk); (try clear hi); (try clear ho0); obtain ⟨Ao79, co79, eo79⟩ := Kd.R_slice HO_9.out; subst eo79) | (go_at_call 49; (with_reducible refine (bibelotlaw03_ints.calls k3 _ _ t517 _ _ t523 true _ ?side1 ?side2 ?side3 ?side4 A49.out).mono ?_); (case side1 => repeat (first | exact (Kd.R_reads' HO_7.out).2.2 | (with_reducible refine Kd.C_alloc ?_ _) | (with_reducible refine Kd.C_drewN ?_ _) | (with_reducible refine Kd.C_drew ?_))); (case side2 => exact (Kd.R_reads' HO_7.out).2.1); (case side3 => repeat (first | exact (Kd.R_reads' HO_9.out).2.2 | (with_reducible refine Kd.C_alloc ?_ _) | (with_reducible refine Kd.C_drewN ?_ _) | (with_reducible refine Kd.C_drew ?_))); (case side4 => exact (Kd.R_reads' HO_9.out).2.1); rintro e w' ⟨rfl, ⟨nd, rfl⟩⟩; obtain ⟨Ao80, co80, eo80⟩ := Kd.R_slice HO_10.out; subst eo80) | (go_at_call 49; (with_reducible refine (bibelotlaw03_ints.calls k3 _ _ t520 _ _ t526 false _ ?side1 ?side2 ?side3 ?side4 A51.out).mono ?_); (case side1 => repeat (first | exact (Kd.R_reads' HO_8.out).2.2 | (with_reducible refine Kd.C_alloc ?_ _) | (with_reducible refine Kd.C_drewN ?_ _) | (with_reducible refine Kd.C_drew ?_))); (case side2 => exact (Kd.R_reads' HO_8.out).2.1); (case side3 => repeat (first | exact (Kd.R_reads' HO_10.out).2.2 | (with_reducible refine Kd.C_alloc ?_ _) | (with_reducible refine Kd.C_drewN ?_ _) | (with_reducible refine Kd.C_drew ?_))); (case side4 => exact (Kd.R_reads' HO_10.out).2.1); rintro e w' ⟨rfl, ⟨nd, rfl⟩⟩))
                                go_ret
                                exact ⟨by first | rfl | (simp [errW_none, errW_some] <;> rfl) | (simp [*, errW_none, errW_some] <;> rfl), by repeat (first | (with_reducible first | exact HB.out | apply below_alloc | apply pw_below_drewN | apply below_drew1) | exact HB.out)⟩
                            · replace c50 := Bool.eq_false_iff.mpr c50
                              subst c50
                              have H1 : (some false) = some r := by rw [if_neg (show ¬ (false = true) by decide)] at H; exact H
                              clear H
                              have H := H1
                              clear H1
                              obtain rfl := Option.some.inj H
                              go_wp2_with (first | ((with_reducible refine gate_callee (f := 59) rfl ?_); refine goesL_ (some 86) rfl rfl Tryd.func59 (by kernel_rfl) rfl #[.slice Ao15 t517.length co15, .slice Ao17 t520.length co17] rfl (by (try simp only [List.map_toArray, List.map_cons, List.map_nil]); first | done | rfl | (simp only [List.length_drop, List.length_take]; rfl)) ?_; (with_reducible refine (hanoi_Way.calls _ _ t517 _ _ t520 t548 t549 _ ?side1 ?side2 ?side3 ?side4 A44.out).mono ?_); (case side1 => repeat (first | exact (Kd.R_reads' HO_7.out).2.2 | (with_reducible refine Kd.C_alloc ?_ _) | (with_reducible refine Kd.C_drewN ?_ _) | (with_reducible refine Kd.C_drew ?_))); (case side2 => exact (Kd.R_reads' HO_7.out).2.1); (case side3 => repeat (first | exact (Kd.R_reads' HO_8.out).2.2 | (with_reducible refine Kd.C_alloc ?_ _) | (with_reducible refine Kd.C_drewN ?_ _) | (with_reducible refine Kd.C_drew ?_))); (case side4 => exact (Kd.R_reads' HO_8.out).2.1); rintro e w81 ⟨v550, rfl, ho0, hb⟩; refine ⟨_, rfl, ?_⟩; have n0_ := Aside0.mk (Kd.R_below (by (with_reducible repeat (first | apply Kd.R_alloc | apply Kd.R_drewN | apply Kd.R_drew)); exact HO_7.out) hb); have n1_ := Aside0.mk (Kd.R_below (by (with_reducible repeat (first | apply Kd.R_alloc | apply Kd.R_drewN | apply Kd.R_drew)); exact HO_8.out) hb); have n2_ := Aside0.mk (Kd.R_below (by (with_reducible repeat (first | apply Kd.R_alloc | apply Kd.R_drewN | apply Kd.R_drew)); exact HO_9.out) hb); have n3_ := Aside0.mk (Kd.R_below (by (with_reducible repeat (first | apply Kd.R_alloc | apply Kd.R_drewN | apply Kd.R_drew)); exact HO_10.out) hb); have n4_ := Aside0.mk (Kd.R_elder' (by (with_reducible repeat (first | apply Kd.R_alloc | apply Kd.R_drewN | apply Kd.R_drew)); exact HO_13.out) (Kd.R_base ho0) hb); have n5_ := Aside0.mk (Kd.R_lower (Kd.R_new' ho0 (Kd.R_lt (by (with_reducible repeat (first | apply Kd.R_alloc | apply Kd.R_drewN | apply Kd.R_drew)); exact HO_13.out))) (below_size (by repeat (first | (with_reducible first | exact HB.out | apply below_alloc | apply pw_below_drewN | apply below_drew1) | exact HB.out)))); have n6_ := Aside0.mk (below_step (by repeat (first | (with_reducible first | exact HB.out | apply below_alloc | apply pw_below_drewN | apply below_drew1) | exact HB.out)) hb); clear HO_7; clear HO_8; clear HO_9; clear HO_10; clear HO_13; clear HB; have HO_7 := n0_; have HO_8 := n1_; have HO_9 := n2_; have HO_10 := n3_; have HO_13 := n4_; have HO551 := n5_; have HB := n6_; clear n0_ n1_ n2_ n3_ n4_ n5_ n6_; (try clear hb); (try clear hb2); (try clear hk); (try clear hi); (try clear ho0); obtain ⟨Ao82, co82, eo82⟩ := Kd.R_slice HO_9.out; subst eo82) | (go_at_call 49; (with_reducible refine (bibelotlaw03_ints.calls k3 _ _ t517 _ _ t523 false _ ?side1 ?side2 ?side3 ?side4 A49.out).mono ?_); (case side1 => repeat (first | exact (Kd.R_reads' HO_7.out).2.2 | (with_reducible refine Kd.C_alloc ?_ _) | (with_reducible refine Kd.C_drewN ?_ _) | (with_reducible refine Kd.C_drew ?_))); (case side2 => exact (Kd.R_reads' HO_7.out).2.1); (case side3 => repeat (first | exact (Kd.R_reads' HO_9.out).2.2 | (with_reducible refine Kd.C_alloc ?_ _) | (with_reducible refine Kd.C_drewN ?_ _) | (with_reducible refine Kd.C_drew ?_))); (case side4 => exact (Kd.R_reads' HO_9.out).2.1); rintro e w' ⟨rfl, ⟨nd, rfl⟩⟩))
                              go_ret
                              exact ⟨by first | rfl | (simp [errW_none, errW_some] <;> rfl) | (simp [*, errW_none, errW_some] <;> rfl), by repeat (first | (with_reducible first | exact HB.out | apply below_alloc | apply pw_below_drewN | apply below_drew1) | exact HB.out)⟩
                          · rw [if_neg c48] at H
                            have c48b0 : (t549 == 0) = false := beq_eq_false_iff_ne.mpr c48
                            have c48b1 : (t549 != 0) = true := bne_iff_ne.mpr c48
                            obtain rfl := Option.some.inj H
                            go_wp2_with (first | ((with_reducible refine gate_callee (f := 59) rfl ?_); refine goesL_ (some 86) rfl rfl Tryd.func59 (by kernel_rfl) rfl #[.slice Ao15 t517.length co15, .slice Ao17 t520.length co17] rfl (by (try simp only [List.map_toArray, List.map_cons, List.map_nil]); first | done | rfl | (simp only [List.length_drop, List.length_take]; rfl)) ?_; (with_reducible refine (hanoi_Way.calls _ _ t517 _ _ t520 t548 t549 _ ?side1 ?side2 ?side3 ?side4 A44.out).mono ?_); (case side1 => repeat (first | exact (Kd.R_reads' HO_7.out).2.2 | (with_reducible refine Kd.C_alloc ?_ _) | (with_reducible refine Kd.C_drewN ?_ _) | (with_reducible refine Kd.C_drew ?_))); (case side2 => exact (Kd.R_reads' HO_7.out).2.1); (case side3 => repeat (first | exact (Kd.R_reads' HO_8.out).2.2 | (with_reducible refine Kd.C_alloc ?_ _) | (with_reducible refine Kd.C_drewN ?_ _) | (with_reducible refine Kd.C_drew ?_))); (case side4 => exact (Kd.R_reads' HO_8.out).2.1); rintro e w83 ⟨v550, rfl, ho0, hb⟩; refine ⟨_, rfl, ?_⟩; have n0_ := Aside0.mk (Kd.R_below (by (with_reducible repeat (first | apply Kd.R_alloc | apply Kd.R_drewN | apply Kd.R_drew)); exact HO_7.out) hb); have n1_ := Aside0.mk (Kd.R_below (by (with_reducible repeat (first | apply Kd.R_alloc | apply Kd.R_drewN | apply Kd.R_drew)); exact HO_8.out) hb); have n2_ := Aside0.mk (Kd.R_below (by (with_reducible repeat (first | apply Kd.R_alloc | apply Kd.R_drewN | apply Kd.R_drew)); exact HO_9.out) hb); have n3_ := Aside0.mk (Kd.R_below (by (with_reducible repeat (first | apply Kd.R_alloc | apply Kd.R_drewN | apply Kd.R_drew)); exact HO_10.out) hb); have n4_ := Aside0.mk (Kd.R_elder' (by (with_reducible repeat (first | apply Kd.R_alloc | apply Kd.R_drewN | apply Kd.R_drew)); exact HO_13.out) (Kd.R_base ho0) hb); have n5_ := Aside0.mk (Kd.R_lower (Kd.R_new' ho0 (Kd.R_lt (by (with_reducible repeat (first | apply Kd.R_alloc | apply Kd.R_drewN | apply Kd.R_drew)); exact HO_13.out))) (below_size (by repeat (first | (with_reducible first | exact HB.out | apply below_alloc | apply pw_below_drewN | apply below_drew1) | exact HB.out)))); have n6_ := Aside0.mk (below_step (by repeat (first | (with_reducible first | exact HB.out | apply below_alloc | apply pw_below_drewN | apply below_drew1) | exact HB.out)) hb); clear HO_7; clear HO_8; clear HO_9; clear HO_10; clear HO_13; clear HB; have HO_7 := n0_; have HO_8 := n1_; have HO_9 := n2_; have HO_10 := n3_; have HO_13 := n4_; have HO551 := n5_; have HB := n6_; clear n0_ n1_ n2_ n3_ n4_ n5_ n6_; (try clear hb); (try clear hb2); (try clear hk); (try clear hi); (try clear ho0)))
                            go_ret
                            exact ⟨by first | rfl | (simp [errW_none, errW_some] <;> rfl) | (simp [*, errW_none, errW_some] <;> rfl), by repeat (first | (with_reducible first | exact HB.out | apply below_alloc | apply pw_below_drewN | apply below_drew1) | exact HB.out)⟩
                        · rw [if_neg c47] at H
                          have c47b0 : (t542 == 0) = false := beq_eq_false_iff_ne.mpr c47
                          have c47b1 : (t542 != 0) = true := bne_iff_ne.mpr c47
                          obtain rfl := Option.some.inj H
                          go_wp2_with (first | ((with_reducible refine gate_callee (f := 59) rfl ?_); refine goesL_ (some 86) rfl rfl Tryd.func59 (by kernel_rfl) rfl #[.slice Ao15 t517.length co15, .slice Ao17 t520.length co17] rfl (by (try simp only [List.map_toArray, List.map_cons, List.map_nil]); first | done | rfl | (simp only [List.length_drop, List.length_take]; rfl)) ?_; (with_reducible refine (hanoi_Way.calls _ _ t517 _ _ t520 t548 t549 _ ?side1 ?side2 ?side3 ?side4 A44.out).mono ?_); (case side1 => repeat (first | exact (Kd.R_reads' HO_7.out).2.2 | (with_reducible refine Kd.C_alloc ?_ _) | (with_reducible refine Kd.C_drewN ?_ _) | (with_reducible refine Kd.C_drew ?_))); (case side2 => exact (Kd.R_reads' HO_7.out).2.1); (case side3 => repeat (first | exact (Kd.R_reads' HO_8.out).2.2 | (with_reducible refine Kd.C_alloc ?_ _) | (with_reducible refine Kd.C_drewN ?_ _) | (with_reducible refine Kd.C_drew ?_))); (case side4 => exact (Kd.R_reads' HO_8.out).2.1); rintro e w84 ⟨v550, rfl, ho0, hb⟩; refine ⟨_, rfl, ?_⟩; have n0_ := Aside0.mk (Kd.R_below (by (with_reducible repeat (first | apply Kd.R_alloc | apply Kd.R_drewN | apply Kd.R_drew)); exact HO_7.out) hb); have n1_ := Aside0.mk (Kd.R_below (by (with_reducible repeat (first | apply Kd.R_alloc | apply Kd.R_drewN | apply Kd.R_drew)); exact HO_8.out) hb); have n2_ := Aside0.mk (Kd.R_below (by (with_reducible repeat (first | apply Kd.R_alloc | apply Kd.R_drewN | apply Kd.R_drew)); exact HO_9.out) hb); have n3_ := Aside0.mk (Kd.R_below (by (with_reducible repeat (first | apply Kd.R_alloc | apply Kd.R_drewN | apply Kd.R_drew)); exact HO_10.out) hb); have n4_ := Aside0.mk (Kd.R_elder' (by (with_reducible repeat (first | apply Kd.R_alloc | apply Kd.R_drewN | apply Kd.R_drew)); exact HO_13.out) (Kd.R_base ho0) hb); have n5_ := Aside0.mk (Kd.R_lower (Kd.R_new' ho0 (Kd.R_lt (by (with_reducible repeat (first | apply Kd.R_alloc | apply Kd.R_drewN | apply Kd.R_drew)); exact HO_13.out))) (below_size (by repeat (first | (with_reducible first | exact HB.out | apply below_alloc | apply pw_below_drewN | apply below_drew1) | exact HB.out)))); have n6_ := Aside0.mk (below_step (by repeat (first | (with_reducible first | exact HB.out | apply below_alloc | apply pw_below_drewN | apply below_drew1) | exact HB.out)) hb); clear HO_7; clear HO_8; clear HO_9; clear HO_10; clear HO_13; clear HB; have HO_7 := n0_; have HO_8 := n1_; have HO_9 := n2_; have HO_10 := n3_; have HO_13 := n4_; have HO551 := n5_; have HB := n6_; clear n0_ n1_ n2_ n3_ n4_ n5_ n6_; (try clear hb); (try clear hb2); (try clear hk); (try clear hi); (try clear ho0)))
                          go_ret
                          exact ⟨by first | rfl | (simp [errW_none, errW_some] <;> rfl) | (simp [*, errW_none, errW_some] <;> rfl), by repeat (first | (with_reducible first | exact HB.out | apply below_alloc | apply pw_below_drewN | apply below_drew1) | exact HB.out)⟩
                      · rw [if_neg c46] at H
                        have c46b0 : (t534 == 0) = false := beq_eq_false_iff_ne.mpr c46
                        have c46b1 : (t534 != 0) = true := bne_iff_ne.mpr c46
                        obtain rfl := Option.some.inj H
                        go_wp2_with (first | ((with_reducible refine gate_callee (f := 59) rfl ?_); refine goesL_ (some 86) rfl rfl Tryd.func59 (by kernel_rfl) rfl #[.slice Ao15 t517.length co15, .slice Ao17 t520.length co17] rfl (by (try simp only [List.map_toArray, List.map_cons, List.map_nil]); first | done | rfl | (simp only [List.length_drop, List.length_take]; rfl)) ?_; (with_reducible refine (hanoi_Way.calls _ _ t517 _ _ t520 t548 t549 _ ?side1 ?side2 ?side3 ?side4 A44.out).mono ?_); (case side1 => repeat (first | exact (Kd.R_reads' HO_7.out).2.2 | (with_reducible refine Kd.C_alloc ?_ _) | (with_reducible refine Kd.C_drewN ?_ _) | (with_reducible refine Kd.C_drew ?_))); (case side2 => exact (Kd.R_reads' HO_7.out).2.1); (case side3 => repeat (first | exact (Kd.R_reads' HO_8.out).2.2 | (with_reducible refine Kd.C_alloc ?_ _) | (with_reducible refine Kd.C_drewN ?_ _) | (with_reducible refine Kd.C_drew ?_))); (case side4 => exact (Kd.R_reads' HO_8.out).2.1); rintro e w85 ⟨v550, rfl, ho0, hb⟩; refine ⟨_, rfl, ?_⟩; have n0_ := Aside0.mk (Kd.R_below (by (with_reducible repeat (first | apply Kd.R_alloc | apply Kd.R_drewN | apply Kd.R_drew)); exact HO_7.out) hb); have n1_ := Aside0.mk (Kd.R_below (by (with_reducible repeat (first | apply Kd.R_alloc | apply Kd.R_drewN | apply Kd.R_drew)); exact HO_8.out) hb); have n2_ := Aside0.mk (Kd.R_below (by (with_reducible repeat (first | apply Kd.R_alloc | apply Kd.R_drewN | apply Kd.R_drew)); exact HO_9.out) hb); have n3_ := Aside0.mk (Kd.R_below (by (with_reducible repeat (first | apply Kd.R_alloc | apply Kd.R_drewN | apply Kd.R_drew)); exact HO_10.out) hb); have n4_ := Aside0.mk (Kd.R_elder' (by (with_reducible repeat (first | apply Kd.R_alloc | apply Kd.R_drewN | apply Kd.R_drew)); exact HO_13.out) (Kd.R_base ho0) hb); have n5_ := Aside0.mk (Kd.R_lower (Kd.R_new' ho0 (Kd.R_lt (by (with_reducible repeat (first | apply Kd.R_alloc | apply Kd.R_drewN | apply Kd.R_drew)); exact HO_13.out))) (below_size (by repeat (first | (with_reducible first | exact HB.out | apply below_alloc | apply pw_below_drewN | apply below_drew1) | exact HB.out)))); have n6_ := Aside0.mk (below_step (by repeat (first | (with_reducible first | exact HB.out | apply below_alloc | apply pw_below_drewN | apply below_drew1) | exact HB.out)) hb); clear HO_7; clear HO_8; clear HO_9; clear HO_10; clear HO_13; clear HB; have HO_7 := n0_; have HO_8 := n1_; have HO_9 := n2_; have HO_10 := n3_; have HO_13 := n4_; have HO551 := n5_; have HB := n6_; clear n0_ n1_ n2_ n3_ n4_ n5_ n6_; (try clear hb); (try clear hb2); (try clear hk); (try clear hi); (try clear ho0)))
                        go_ret
                        exact ⟨by first | rfl | (simp [errW_none, errW_some] <;> rfl) | (simp [*, errW_none, errW_some] <;> rfl), by repeat (first | (with_reducible first | exact HB.out | apply below_alloc | apply pw_below_drewN | apply below_drew1) | exact HB.out)⟩
                    · rw [if_neg c45] at H
                      have c45b0 : (t530 == 0) = false := beq_eq_false_iff_ne.mpr c45
                      have c45b1 : (t530 != 0) = true := bne_iff_ne.mpr c45
                      obtain rfl := Option.some.inj H
                      go_wp2_with (first | ((with_reducible refine gate_callee (f := 59) rfl ?_); refine goesL_ (some 86) rfl rfl Tryd.func59 (by kernel_rfl) rfl #[.slice Ao15 t517.length co15, .slice Ao17 t520.length co17] rfl (by (try simp only [List.map_toArray, List.map_cons, List.map_nil]); first | done | rfl | (simp only [List.length_drop, List.length_take]; rfl)) ?_; (with_reducible refine (hanoi_Way.calls _ _ t517 _ _ t520 t548 t549 _ ?side1 ?side2 ?side3 ?side4 A44.out).mono ?_); (case side1 => repeat (first | exact (Kd.R_reads' HO_7.out).2.2 | (with_reducible refine Kd.C_alloc ?_ _) | (with_reducible refine Kd.C_drewN ?_ _) | (with_reducible refine Kd.C_drew ?_))); (case side2 => exact (Kd.R_reads' HO_7.out).2.1); (case side3 => repeat (first | exact (Kd.R_reads' HO_8.out).2.2 | (with_reducible refine Kd.C_alloc ?_ _) | (with_reducible refine Kd.C_drewN ?_ _) | (with_reducible refine Kd.C_drew ?_))); (case side4 => exact (Kd.R_reads' HO_8.out).2.1); rintro e w86 ⟨v550, rfl, ho0, hb⟩; refine ⟨_, rfl, ?_⟩; have n0_ := Aside0.mk (Kd.R_below (by (with_reducible repeat (first | apply Kd.R_alloc | apply Kd.R_drewN | apply Kd.R_drew)); exact HO_7.out) hb); have n1_ := Aside0.mk (Kd.R_below (by (with_reducible repeat (first | apply Kd.R_alloc | apply Kd.R_drewN | apply Kd.R_drew)); exact HO_8.out) hb); have n2_ := Aside0.mk (Kd.R_below (by (with_reducible repeat (first | apply Kd.R_alloc | apply Kd.R_drewN | apply Kd.R_drew)); exact HO_9.out) hb); have n3_ := Aside0.mk (Kd.R_below (by (with_reducible repeat (first | apply Kd.R_alloc | apply Kd.R_drewN | apply Kd.R_drew)); exact HO_10.out) hb); have n4_ := Aside0.mk (Kd.R_elder' (by (with_reducible repeat (first | apply Kd.R_alloc | apply Kd.R_drewN | apply Kd.R_drew)); exact HO_13.out) (Kd.R_base ho0) hb); have n5_ := Aside0.mk (Kd.R_lower (Kd.R_new' ho0 (Kd.R_lt (by (with_reducible repeat (first | apply Kd.R_alloc | apply Kd.R_drewN | apply Kd.R_drew)); exact HO_13.out))) (below_size (by repeat (first | (with_reducible first | exact HB.out | apply below_alloc | apply pw_below_drewN | apply below_drew1) | exact HB.out)))); have n6_ := Aside0.mk (below_step (by repeat (first | (with_reducible first | exact HB.out | apply below_alloc | apply pw_below_drewN | apply below_drew1) | exact HB.out)) hb); clear HO_7; clear HO_8; clear HO_9; clear HO_10; clear HO_13; clear HB; have HO_7 := n0_; have HO_8 := n1_; have HO_9 := n2_; have HO_10 := n3_; have HO_13 := n4_; have HO551 := n5_; have HB := n6_; clear n0_ n1_ n2_ n3_ n4_ n5_ n6_; (try clear hb); (try clear hb2); (try clear hk); (try clear hi); (try clear ho0)))
                      go_ret
                      exact ⟨by first | rfl | (simp [errW_none, errW_some] <;> rfl) | (simp [*, errW_none, errW_some] <;> rfl), by repeat (first | (with_reducible first | exact HB.out | apply below_alloc | apply pw_below_drewN | apply below_drew1) | exact HB.out)⟩

/-- THE ONE PURE STATEMENT of bibelotlaw03_HanoiOwn: yours. -/
def bibelotlaw03_HanoiOwn.Pure : Prop := ∀ (a0 : Int) (l1 : List Int) (l2 : List Int), (Lit.int .i64 a0).wf = true → l1.length ≤ maxLen → l1.length * 8 ≤ 140737488351232 → (∀ x ∈ l1, (Lit.int .i64 x).wf = true) → l2.length ≤ maxLen → l2.length * 8 ≤ 140737488351232 → (∀ x ∈ l2, (Lit.int .i64 x).wf = true) → ∃ k, bibelotlaw03_HanoiOwn.f k a0 l1 l2 = some true
theorem bibelotlaw03_HanoiOwn.walk (P : bibelotlaw03_HanoiOwn.Pure) (a0 : Int) (a1 : Option Addr) (len1 cap1 : Nat) (z1 : List Int) (a2 : Option Addr) (len2 cap2 : Nat) (z2 : List Int) (w : World) (w0 : (Lit.int .i64 a0).wf = true) (w1 : (a1 = none ∧ len1 = 0 ∧ cap1 = 0 ∧ z1 = []) ∨ ∃ x, a1 = some x ∧ len1 ≤ cap1 ∧ cap1 ≤ maxLen ∧ z1.length = cap1 ∧ (∀ i, i < z1.length → w.cell? (x.add i) = some (.int .i64 (z1.getD i 0))) ∧ ∀ n ∈ z1, (Lit.int .i64 n).wf = true) (y1 : len1 * 8 ≤ 140737488351232) (w2 : (a2 = none ∧ len2 = 0 ∧ cap2 = 0 ∧ z2 = []) ∨ ∃ x, a2 = some x ∧ len2 ≤ cap2 ∧ cap2 ≤ maxLen ∧ z2.length = cap2 ∧ (∀ i, i < z2.length → w.cell? (x.add i) = some (.int .i64 (z2.getD i 0))) ∧ ∀ n ∈ z2, (Lit.int .i64 n).wf = true) (y2 : len2 * 8 ≤ 140737488351232) :
    Calls Tryd.prog 21 #[.int .i64 a0, .slice a1 len1 cap1, .slice a2 len2 cap2] w fun e w' => e = .returned (.bool true) ∧ Below w.heap.size w w' := by
  obtain ⟨l1, rfl, hr1, hm1, hw1, hc1⟩ := ReadsInt.ofRowC w1
  obtain ⟨l2, rfl, hr2, hm2, hw2, hc2⟩ := ReadsInt.ofRowC w2
  obtain ⟨k, h⟩ := P a0 l1 l2 w0 hm1 y1 hw1 hm2 y2 hw2
  refine (bibelotlaw03_HanoiOwn.calls k a0 _ _ l1 _ _ l2 true w (Kd.C_of_reads (d := (0 : Int)) (h1 := fun _ => rfl) hr1) hc1 (Kd.C_of_reads (d := (0 : Int)) (h1 := fun _ => rfl) hr2) hc2 h).mono ?_
  rintro e w' ⟨rfl, hd⟩
  exact ⟨rfl, hd⟩

end Go.Proofs.YtnaaomhmoamfpaaDoor.Q
/- A way's moves can be made, lead to the goal, and are as many as the distance. -/
namespace Go.Proofs.YtnaaomhmoamfpaaDoor.G
set_option linter.unusedVariables false
set_option linter.unusedSimpArgs false
set_option linter.unusedSectionVars false
open Go.Proofs.YtnaaomhmoamfpaaDoor.Q Go.Proofs.YtnaaomhmoamfpaaDoor.Hn Go.Proofs.YtnaaomhmoamfpaaDoor.K
open Go.RowKit Go.Proofs.YtnaaomhmoamfpaaDoorW.PrintWords Go.Proofs.YtnaaomhmoamfpaaDoorW.PrintLast Go.Proofs.YtnaaomhmoamfpaaDoorW.PrintMore

structure CanP (d : List Int) (j : Nat) (q : Int) : Prop where
  lt : j < d.length
  peg : Peg q
  ne : nth d j ≠ q
  free : ∀ i, i < j → nth d i ≠ nth d j ∧ nth d i ≠ q
def runI (d : List Int) (ms : List (Nat × Int)) : List Int := ms.foldl (fun t m => t.set m.1 m.2) d
def LegI : List Int → List (Nat × Int) → Prop
  | _, [] => True
  | d, m :: ms => CanP d m.1 m.2 ∧ LegI (d.set m.1 m.2) ms
theorem run_nil (d : List Int) : runI d [] = d := rfl
theorem run_cons (d : List Int) (m : Nat × Int) (ms : List (Nat × Int)) : runI d (m :: ms) = runI (d.set m.1 m.2) ms := rfl
theorem run_append (d : List Int) (a b : List (Nat × Int)) : runI d (a ++ b) = runI (runI d a) b := by simp [runI, List.foldl_append]
theorem leg_append : ∀ (a : List (Nat × Int)) (d : List Int) (b : List (Nat × Int)), LegI d (a ++ b) ↔ LegI d a ∧ LegI (runI d a) b
  | [], d, b => by simp [LegI, run_nil]
  | m :: a, d, b => by
    rw [List.cons_append, LegI, LegI, run_cons, leg_append a, and_assoc]
theorem nth_ext {l m : List Int} (hl : l.length = m.length) (h : ∀ i, i < l.length → nth l i = nth m i) : l = m := by
  apply List.ext_getElem hl
  intro i h1 h2
  have := h i h1
  simpa [nth, h1, h2] using this
theorem run_len (ms : List (Nat × Int)) : ∀ d : List Int, (runI d ms).length = d.length := by
  induction ms with
  | nil => intro d; rfl
  | cons m ms ih => intro d; rw [run_cons, ih, List.length_set]

theorem gather_leg : ∀ (k : Nat) (d : List Int) (p : Int), k ≤ d.length → DiscsL d → Peg p →
    LegI d (gatherL k d p).1 ∧ runI d (gatherL k d p).1 = (gatherL k d p).2 ∧ ((gatherL k d p).1.length : Int) = tp (nth d) k p ∧ ∀ m, m ∈ (gatherL k d p).1 → m.1 < k
  | 0, d, p, _, _, _ => ⟨trivial, rfl, rfl, fun m hm => absurd hm List.not_mem_nil⟩
  | k + 1, d, p, hk, hd, hp => by
    rw [gatherL]
    by_cases c : nth d k = p
    · rw [if_pos c]
      obtain ⟨h1, h2, h3, h4⟩ := gather_leg k d p (by omega) hd hp
      exact ⟨h1, h2, by rw [h3, tp, if_pos c], fun m hm => by have := h4 m hm; omega⟩
    · rw [if_neg c]
      have hq := hd k (by omega)
      have ht := third_peg hq hp c
      obtain ⟨h1, h2, h3, h4⟩ := gather_leg k d (3 - nth d k - p) (by omega) hd ht
      obtain ⟨f1, f2, f3⟩ := gather_facts k d (3 - nth d k - p) (by omega)
      have hd1 := discs_set (gather_pos k d (3 - nth d k - p) (by omega) hd ht) k p hp
      obtain ⟨g1, g2, g3, g4⟩ := gather_leg k ((gatherL k d (3 - nth d k - p)).2.set k p) p (by rw [List.length_set, f1]; omega) hd1 hp
      have hx : nth (gatherL k d (3 - nth d k - p)).2 k = nth d k := f2 k (Nat.le_refl _)
      have hcan : CanP (gatherL k d (3 - nth d k - p)).2 k p := by
        refine ⟨by omega, hp, by rw [hx]; exact c, fun i hi => ?_⟩
        rw [f3 i hi, hx]
        unfold Peg at hq hp
        omega
      dsimp only
      refine ⟨?_, ?_, ?_, ?_⟩
      · rw [List.append_assoc, leg_append, h2]
        exact ⟨h1, hcan, g1⟩
      · rw [List.append_assoc, run_append, h2, run_append]
        exact g2
      · have hon : On (nth ((gatherL k d (3 - nth d k - p)).2.set k p)) k (3 - nth d k - p) := fun i hi => by rw [nth_set_ne _ _ _ _ (by omega)]; exact f3 i hi
        rw [tp_on_ne hon (by unfold Peg at hq hp; omega) ht hp] at g3
        rw [tp, if_neg c]
        simp only [List.length_append, List.length_singleton, Int.natCast_add, Int.natCast_one]
        omega
      · intro m hm
        rcases List.mem_append.1 hm with hm | hm
        · rcases List.mem_append.1 hm with hm | hm
          · have := h4 m hm; omega
          · obtain rfl := List.mem_singleton.1 hm; show k < k + 1; omega
        · have := g4 m hm; omega

/-- The way back. -/
def revI : List Int → List (Nat × Int) → List (Nat × Int)
  | _, [] => []
  | d, m :: ms => revI (d.set m.1 m.2) ms ++ [(m.1, nth d m.1)]
theorem bk_rev : ∀ (ms : List (Nat × Int)) (o : List S52) (d : List Int), (ms.foldl (fun s m => (s.1 ++ [(⟨(m.1 : Int), nth s.2 m.1⟩ : S52)], s.2.set m.1 m.2)) (o, d)).1 = o ++ ((revI d ms).map mkI).reverse
  | [], o, d => by simp [revI]
  | m :: ms, o, d => by
    rw [List.foldl_cons, bk_rev ms, revI, List.map_append, List.reverse_append]
    simp [mkI]
theorem bk_eq (d : List Int) (ms : List (Nat × Int)) : (bk d ms).1.reverse = (revI d ms).map mkI := by
  unfold bk
  rw [bk_rev, List.nil_append, List.reverse_reverse]
theorem set_back (d : List Int) (j : Nat) (q : Int) (hj : j < d.length) : (d.set j q).set j (nth d j) = d := by
  apply nth_ext (by simp)
  intro i hi
  by_cases e : i = j
  · subst e; rw [nth_set_self _ _ _ (by simpa using hj)]
  · rw [nth_set_ne _ _ _ _ e, nth_set_ne _ _ _ _ e]
theorem rev_leg : ∀ (ms : List (Nat × Int)) (d : List Int), LegI d ms → DiscsL d → LegI (runI d ms) (revI d ms) ∧ runI (runI d ms) (revI d ms) = d ∧ (revI d ms).length = ms.length ∧ ∀ K, (∀ m, m ∈ ms → m.1 < K) → ∀ m, m ∈ revI d ms → m.1 < K
  | [], d, _, _ => ⟨trivial, rfl, rfl, fun K _ m hm => absurd hm List.not_mem_nil⟩
  | m :: ms, d, h, hd => by
    obtain ⟨hc, hl⟩ := h
    obtain ⟨h1, h2, h3, h4⟩ := rev_leg ms (d.set m.1 m.2) hl (discs_set hd m.1 m.2 hc.peg)
    rw [run_cons, revI, leg_append, h2, run_append, h2, List.length_append, h3]
    have hj := hc.lt
    refine ⟨⟨h1, ⟨by simpa using hj, hd _ hj, by rw [nth_set_self _ _ _ hj]; exact fun e => hc.ne e.symm, fun i hi => ?_⟩, trivial⟩, set_back d m.1 m.2 hj, rfl, fun K hK x hx => ?_⟩
    · show nth (d.set m.1 m.2) i ≠ nth (d.set m.1 m.2) m.1 ∧ nth (d.set m.1 m.2) i ≠ nth d m.1
      have hi : i < m.1 := hi
      rw [nth_set_ne _ _ _ _ (by omega), nth_set_self _ _ _ hj]
      have := hc.free i hi
      exact ⟨this.2, this.1⟩
    · rcases List.mem_append.1 hx with hx | hx
      · exact h4 K (fun y hy => hK y (List.mem_cons_of_mem _ hy)) x hx
      · obtain rfl := List.mem_singleton.1 hx
        exact hK m List.mem_cons_self

theorem take_set_ (d : List Int) (n j : Nat) (q : Int) : (d.take n).set j q = (d.set j q).take n := by
  rw [List.take_set]
theorem gather_take : ∀ (k n : Nat) (d : List Int) (p : Int), k ≤ n → gatherL k (d.take n) p = ((gatherL k d p).1, (gatherL k d p).2.take n)
  | 0, n, d, p, _ => rfl
  | k + 1, n, d, p, h => by
    rw [gatherL, gatherL, nth_take d n k (by omega)]
    by_cases c : nth d k = p
    · rw [if_pos c, if_pos c]; exact gather_take k n d p (by omega)
    · rw [if_neg c, if_neg c, gather_take k n d _ (by omega)]
      dsimp only
      rw [take_set_, gather_take k n _ _ (by omega)]
theorem rev_take : ∀ (ms : List (Nat × Int)) (n : Nat) (d : List Int), (∀ m, m ∈ ms → m.1 < n) → revI (d.take n) ms = revI d ms
  | [], n, d, _ => rfl
  | m :: ms, n, d, h => by
    rw [revI, revI, take_set_, rev_take ms n _ (fun x hx => h x (List.mem_cons_of_mem _ hx)), nth_take d n m.1 (h m List.mem_cons_self)]
/-- spread's way, from the discs of which the smaller ones are on peg p. -/
theorem spread_good (m : List Int) (k : Nat) (p : Int) (hk : k ≤ m.length) (hd : DiscsL m) (hp : Peg p) :
    ∃ ms, spreadL (m.take k) p = ms.map mkI ∧ LegI (gatherL k m p).2 ms ∧ runI (gatherL k m p).2 ms = m ∧ (ms.length : Int) = tp (nth m) k p ∧ ∀ x, x ∈ ms → x.1 < k := by
  obtain ⟨h1, h2, h3, h4⟩ := gather_leg k m p hk hd hp
  obtain ⟨g1, g2, g3, g4⟩ := rev_leg (gatherL k m p).1 m h1 hd
  rw [h2] at g1 g2
  refine ⟨revI m (gatherL k m p).1, ?_, g1, g2, by rw [g3]; exact h3, g4 k h4⟩
  unfold spreadL
  have hl : (m.take k).length = k := by rw [List.length_take]; omega
  rw [hl, gather_take k k m p (Nat.le_refl _), bk_eq, rev_take _ _ _ h4]

/-- One great move, the smaller discs brought out of its way. -/
theorem step_good (k : Nat) (d : List Int) (stop : Int) (hk : k < d.length) (hd : DiscsL d) (hs : Peg stop) (hne : nth d k ≠ stop) :
    LegI d ((gatherL k d (3 - nth d k - stop)).1 ++ [(k, stop)]) ∧ runI d ((gatherL k d (3 - nth d k - stop)).1 ++ [(k, stop)]) = (gatherL k d (3 - nth d k - stop)).2.set k stop ∧
    ((gatherL k d (3 - nth d k - stop)).2.set k stop).length = d.length ∧ DiscsL ((gatherL k d (3 - nth d k - stop)).2.set k stop) ∧
    (∀ i, i < k → nth ((gatherL k d (3 - nth d k - stop)).2.set k stop) i = 3 - nth d k - stop) ∧ nth ((gatherL k d (3 - nth d k - stop)).2.set k stop) k = stop ∧ ∀ i, k < i → nth ((gatherL k d (3 - nth d k - stop)).2.set k stop) i = nth d i := by
  have hq := hd k hk
  have ht := third_peg hq hs hne
  obtain ⟨h1, h2, h3, h4⟩ := gather_leg k d (3 - nth d k - stop) (by omega) hd ht
  obtain ⟨f1, f2, f3⟩ := gather_facts k d (3 - nth d k - stop) (by omega)
  have hx : nth (gatherL k d (3 - nth d k - stop)).2 k = nth d k := f2 k (Nat.le_refl _)
  refine ⟨?_, ?_, by rw [List.length_set, f1], discs_set (gather_pos k d _ (by omega) hd ht) k stop hs, fun i hi => by rw [nth_set_ne _ _ _ _ (by omega)]; exact f3 i hi, nth_set_self _ _ _ (by omega), fun i hi => by rw [nth_set_ne _ _ _ _ (by omega)]; exact f2 i (by omega)⟩
  · rw [leg_append, h2]
    refine ⟨h1, ⟨by show k < _; omega, hs, by show nth _ k ≠ stop; rw [hx]; exact hne, fun i hi => ?_⟩, trivial⟩
    show nth (gatherL k d (3 - nth d k - stop)).2 i ≠ nth (gatherL k d (3 - nth d k - stop)).2 k ∧ nth (gatherL k d (3 - nth d k - stop)).2 i ≠ stop
    have hi : i < k := hi
    rw [f3 i hi, hx]
    unfold Peg at hq hs
    omega
  · rw [run_append, h2]; rfl

theorem top_above {s t : Nat → Int} {n k : Nat} (h : top s t n = k + 1) : ∀ i, k < i → i < n → s i = t i := by
  induction n with
  | zero => intro i _ hi; omega
  | succ n ih =>
    unfold top at h
    intro i h1 h2
    split at h
    · rename_i c
      by_cases e : i = n
      · rw [e]; exact c
      · exact ih h i h1 (by omega)
    · omega
/-- What is said of a way. -/
structure GoodWay (l m : List Int) (k : Nat) (ms : List (Nat × Int)) : Prop where
  eq : wayOf l m k = ms.map mkI
  leg : LegI l ms
  run : runI l ms = m
  len : (ms.length : Int) = dst (nth l) (nth m) l.length
  great : (ms.filter fun x => decide (x.1 = k)).length = (stopsL l m k).length
  below : ∀ x, x ∈ ms → x.1 ≤ k
theorem filter_lt (k : Nat) (ms : List (Nat × Int)) (h : ∀ x, x ∈ ms → x.1 < k) : (ms.filter fun x => decide (x.1 = k)).length = 0 := by
  rw [List.length_eq_zero_iff, List.filter_eq_nil_iff]
  intro x hx
  have := h x hx
  simp
  omega
theorem way_good (l m : List Int) (k : Nat) (hb : both l m = true) (ht : top (nth l) (nth m) l.length = k + 1) : ∃ ms, GoodWay l m k ms := by
  obtain ⟨⟨h0, h40, hd⟩, hdm, hlen⟩ := (both_iff l m).1 hb
  have hk : k < l.length := by have := top_le (nth l) (nth m) l.length; omega
  have hne := top_ne ht
  have habove := top_above ht
  have hq := hd k hk
  have hqm := hdm k (by omega)
  have h3 := third_peg hq hqm hne
  have hdst := dst_top hk habove hne
  -- the discs behind the great moves, and the way on
  have fin : ∀ (d : List Int) (p : Int) (a : List (Nat × Int)), Peg p → LegI l a → runI l a = d → d.length = l.length → (∀ i, i < k → nth d i = p) → nth d k = nth m k → (∀ i, k < i → nth d i = nth l i) →
      (wayRun k l (stopsL l m k)) = (a.map mkI, d) → (a.length : Int) + tp (nth m) k p = dst (nth l) (nth m) l.length → (a.filter fun x => decide (x.1 = k)).length = (stopsL l m k).length → (∀ x, x ∈ a → x.1 ≤ k) → ∃ ms, GoodWay l m k ms := by
    intro d p a hp hleg hrun hdl hlow hdk hhigh hway hcount hgreat hbel
    have hdm2 : d = (gatherL k m p).2 := by
      obtain ⟨f1, f2, f3⟩ := gather_facts k m p (by omega)
      apply nth_ext (by rw [hdl, f1, hlen])
      intro i hi
      rcases Nat.lt_trichotomy i k with c | c | c
      · rw [hlow i c, f3 i c]
      · subst c; rw [hdk, f2 i (Nat.le_refl _)]
      · rw [hhigh i c, f2 i (by omega)]; exact habove i c (by omega)
    obtain ⟨ms, s1, s2, s3, s4, s5⟩ := spread_good m k p (by omega) hdm hp
    rw [← hdm2] at s2 s3
    by_cases ck : 0 < k
    · have hp0 : nth d 0 = p := hlow 0 ck
      refine ⟨a ++ ms, ?_, ?_, ?_, ?_, ?_, ?_⟩
      · unfold wayOf
        rw [if_pos ck, hway, hp0, s1, List.map_append]
      · rw [leg_append, hrun]; exact ⟨hleg, s2⟩
      · rw [run_append, hrun]; exact s3
      · rw [List.length_append, Int.natCast_add, s4]; exact hcount
      · rw [List.filter_append, List.length_append, hgreat, filter_lt k ms s5]; omega
      · intro x hx
        rcases List.mem_append.1 hx with hx | hx
        · exact hbel x hx
        · have := s5 x hx; omega
    · obtain rfl : k = 0 := by omega
      refine ⟨a, ?_, hleg, ?_, ?_, hgreat, hbel⟩
      · unfold wayOf
        rw [if_neg ck, hway]
      · rw [hrun, hdm2]; rfl
      · have : tp (nth m) 0 p = 0 := rfl
        omega
  by_cases c : two (nth l) (nth m) k < one (nth l) (nth m) k
  · have hst : stopsL l m k = [3 - nth l k - nth m k, nth m k] := by unfold stopsL; rw [if_pos c]
    obtain ⟨a1, a2, a3, a4, a5, a6, a7⟩ := step_good k l (3 - nth l k - nth m k) hk hd h3 (by unfold Peg at hq hqm; omega)
    have e1 : 3 - nth l k - (3 - nth l k - nth m k) = nth m k := by omega
    obtain ⟨_, _, l1, l2⟩ := gather_leg k l (3 - nth l k - (3 - nth l k - nth m k)) (by omega) hd (by rw [e1]; exact hqm)
    rw [e1] at a1 a2 a3 a4 a5 a6 a7 l1 l2
    obtain ⟨d1, hd1⟩ : ∃ d1, (gatherL k l (nth m k)).2.set k (3 - nth l k - nth m k) = d1 := ⟨_, rfl⟩
    rw [hd1] at a2 a3 a4 a5 a6 a7
    obtain ⟨b1, b2, b3, b4, b5, b6, b7⟩ := step_good k d1 (nth m k) (by omega) a4 hqm (by rw [a6]; unfold Peg at hq hqm; omega)
    have e2 : 3 - nth d1 k - nth m k = nth l k := by rw [a6]; omega
    obtain ⟨_, _, l3, l4⟩ := gather_leg k d1 (3 - nth d1 k - nth m k) (by omega) a4 (by rw [e2]; exact hq)
    rw [e2] at b1 b2 b3 b4 b5 b6 b7 l3 l4
    rw [tp_on_ne (fun i hi => a5 i hi) (fun e => hne e) hqm hq] at l3
    refine fin _ (nth l k) (((gatherL k l (nth m k)).1 ++ [(k, 3 - nth l k - nth m k)]) ++ ((gatherL k d1 (nth l k)).1 ++ [(k, nth m k)])) hq ?_ ?_ (b3.trans a3) b5 b6 (fun i hi => by rw [b7 i hi]; exact a7 i hi) ?_ ?_ ?_ ?_
    · rw [leg_append, a2]; exact ⟨a1, b1⟩
    · rw [run_append, a2]; exact b2
    · rw [hst]
      unfold wayRun
      simp only [List.foldl_cons, List.foldl_nil, wayStep, e1, hd1, e2]
      simp [mkI]
    · rw [hdst]
      have : min (one (nth l) (nth m) k) (two (nth l) (nth m) k) = two (nth l) (nth m) k := by omega
      rw [this]
      unfold two
      simp only [List.length_append, List.length_singleton, Int.natCast_add, Int.natCast_one]
      omega
    · rw [hst]
      simp only [List.filter_append, List.length_append]
      rw [filter_lt k _ l2, filter_lt k _ l4]
      simp
    · intro x hx
      simp only [List.mem_append, List.mem_singleton] at hx
      rcases hx with (hx | rfl) | (hx | rfl)
      · have := l2 x hx; omega
      · exact Nat.le_refl _
      · have := l4 x hx; omega
      · exact Nat.le_refl _
  · have hst : stopsL l m k = [nth m k] := by unfold stopsL; rw [if_neg c]
    obtain ⟨a1, a2, a3, a4, a5, a6, a7⟩ := step_good k l (nth m k) hk hd hqm hne
    obtain ⟨_, _, l1, l2⟩ := gather_leg k l (3 - nth l k - nth m k) (by omega) hd h3
    refine fin _ (3 - nth l k - nth m k) ((gatherL k l (3 - nth l k - nth m k)).1 ++ [(k, nth m k)]) h3 a1 a2 a3 a5 a6 a7 ?_ ?_ ?_ ?_
    · rw [hst]
      unfold wayRun
      simp only [List.foldl_cons, List.foldl_nil, wayStep]
      simp [mkI]
    · rw [hdst]
      have : min (one (nth l) (nth m) k) (two (nth l) (nth m) k) = one (nth l) (nth m) k := by omega
      rw [this]
      unfold one
      simp only [List.length_append, List.length_singleton, Int.natCast_add, Int.natCast_one]
      omega
    · rw [hst]
      simp only [List.filter_append, List.length_append]
      rw [filter_lt k _ l2]
      simp
    · intro x hx
      simp only [List.mem_append, List.mem_singleton] at hx
      rcases hx with hx | rfl
      · have := l2 x hx; omega
      · exact Nat.le_refl _
end Go.Proofs.YtnaaomhmoamfpaaDoor.G
/- What Way answers. -/
namespace Go.Proofs.YtnaaomhmoamfpaaDoor.G
set_option linter.unusedVariables false
set_option linter.unusedSimpArgs false
set_option linter.unusedSectionVars false
open Go.Proofs.YtnaaomhmoamfpaaDoor.Q Go.Proofs.YtnaaomhmoamfpaaDoor.Hn Go.Proofs.YtnaaomhmoamfpaaDoor.K
open Go.RowKit Go.Proofs.YtnaaomhmoamfpaaDoorW.PrintWords Go.Proofs.YtnaaomhmoamfpaaDoorW.PrintLast Go.Proofs.YtnaaomhmoamfpaaDoorW.PrintMore

theorem rd_mid (a b : List (Nat × Int)) (m : Nat × Int) : rd_T52 ((a ++ m :: b).map mkI) (a.length : Int) = mkI m := by simp [rd_T52]
theorem dst_bound {l m : List Int} (hb : both l m = true) : dst (nth l) (nth m) l.length ≤ 2 ^ l.length - 1 := by
  obtain ⟨⟨h0, h40, hd⟩, hdm, hlen⟩ := (both_iff l m).1 hb
  have h1 := dst_far (nth l) (nth m) l.length hd (by unfold DiscsL at hdm; rwa [hlen] at hdm)
  have h2 := tp_le (nth l) l.length 0
  have h3 := tp_le (nth l) l.length 1
  have h4 := tp_le (nth l) l.length 2
  unfold far at h1
  omega
/-- What Way answers. -/
structure IsWay (l m : List Int) (ms : List (Nat × Int)) : Prop where
  f : hanoi_Way.f l m = some (ms.map mkI, 0)
  leg : LegI l ms
  run : runI l ms = m
  len : (ms.length : Int) = dst (nth l) (nth m) l.length
theorem way_is {l m : List Int} (hb : both l m = true) (h12 : l.length ≤ 12) : ∃ ms, IsWay l m ms := by
  by_cases e : l = m
  · refine ⟨[], ?_, trivial, e, ?_⟩
    · unfold hanoi_Way.f; rw [if_pos hb, if_neg (by omega), if_pos e]; rfl
    · rw [e, dst_same (fun _ _ => rfl)]; rfl
  · obtain ⟨_, _, hlen⟩ := (both_iff l m).1 hb
    cases hk : top (nth l) (nth m) l.length with
    | zero => exact absurd (list_top hlen hk) e
    | succ k =>
      obtain ⟨ms, hg⟩ := way_good l m k hb hk
      refine ⟨ms, ?_, hg.leg, hg.run, hg.len⟩
      unfold hanoi_Way.f
      rw [if_pos hb, if_neg (by omega), if_neg e, hk, ← hg.eq]
      rfl
end Go.Proofs.YtnaaomhmoamfpaaDoor.G
/- HanoiOwn: what is answered is the caller's own. -/
namespace Go.Proofs.YtnaaomhmoamfpaaDoor.Pure
set_option linter.unusedVariables false
set_option linter.unusedSimpArgs false
set_option linter.unusedSectionVars false
open Go.Proofs.YtnaaomhmoamfpaaDoor.G Go.Proofs.YtnaaomhmoamfpaaDoor.Hn
open Go.RowKit Go.Proofs.YtnaaomhmoamfpaaDoor.Q Go.Proofs.YtnaaomhmoamfpaaDoorW.PrintWords Go.Proofs.YtnaaomhmoamfpaaDoorW.PrintLast Go.Proofs.YtnaaomhmoamfpaaDoorW.PrintMore

theorem own_end {x y : List Int} {ms : List (Nat × Int)} (hb : both x y = true) (hw : IsWay x y ms) (hx : x.length ≤ 1000) (hy : y.length ≤ 1000) : ∀ (e i : Nat) (s : List S52), i + e = s.length → s.length ≤ 1000000 → Ev (fun k => bibelotlaw03_HanoiOwn.l2 k x y x y 0 s 0 0 (i : Int)) true
  | 0, i, s, h, hs => by
    have hr : bibelotref03_Distance.f x y = some (dst (nth x) (nth y) x.length) := by unfold bibelotref03_Distance.f; rw [if_pos hb]
    have hl := hw.len
    refine Ev.step (f := fun k => (bibelotlaw03_ints.f k x x).bind fun t552 => if t552 = true then (bibelotlaw03_ints.f k y y).bind fun t553 => if t553 = true then (bibelotlaw03_awake.f k).bind fun t => some t else some false else some false) (fun k => ?_) (Ev.bind (ints_ev x x hx) ?_)
    · rw [bibelotlaw03_HanoiOwn.l2, if_neg (by omega), hw.f, Option.bind_some]
      simp only [if_true, hr, Option.bind_some, List.length_map, hl]
      congr 1; funext t; congr 1; congr 1; funext t; congr 1
      by_cases c : dst (nth x) (nth y) x.length = 0
      · rw [if_pos c]
      · rw [if_neg c]
        cases ms with
        | nil => simp at hl; omega
        | cons m ms =>
          rw [if_pos (by have := dst_nonneg (nth x) (nth y) x.length; omega)]
          have e1 : rd_T52 ((m :: ms).map mkI) 0 = mkI m := rd_mid [] ms m
          have e2 : (mkI m).f0 ≥ 0 := by show (m.1 : Int) ≥ 0; omega
          rw [e1, if_pos e2]
    · simp only [decide_true, if_true]
      refine Ev.bind (ints_ev y y hy) ?_
      simp only [decide_true, if_true]
      exact Ev.bind awake_ev (Ev.now true)
  | e + 1, i, s, h, hs => by
    refine Ev.step (fun k => ?_) (own_end hb hw hx hy e (i + 1) (s.set i ⟨-1, -1⟩) (by rw [List.length_set]; omega) (by rw [List.length_set]; omega))
    rw [bibelotlaw03_HanoiOwn.l2, if_pos (by omega), if_pos (by omega), w64 (by omega) (by omega)]
    rfl
theorem own_l1 {x y : List Int} {t : List S52} (h2 : Ev (fun k => bibelotlaw03_HanoiOwn.l2 k x y x y 0 t 0 0 0) true) : ∀ (e i : Nat) (s : List Int), i + e = s.length → s.length ≤ 1000000 → Ev (fun k => bibelotlaw03_HanoiOwn.l1 k x y x y 0 t 0 s 0 (i : Int)) true
  | 0, i, s, h, hs => by
    refine Ev.step (fun k => ?_) h2
    rw [bibelotlaw03_HanoiOwn.l1, if_neg (by omega)]
  | e + 1, i, s, h, hs => by
    refine Ev.step (fun k => ?_) (own_l1 h2 e (i + 1) (s.set i (-1)) (by rw [List.length_set]; omega) (by rw [List.length_set]; omega))
    rw [bibelotlaw03_HanoiOwn.l1, if_pos (by omega), if_pos (by omega), w64 (by omega) (by omega)]
    rfl
theorem own_l0 {x y : List Int} {t : List S52} {p : List Int} (h1 : Ev (fun k => bibelotlaw03_HanoiOwn.l1 k x y x y 0 t 0 p 0 0) true) : ∀ (e i : Nat) (s : List S52), i + e = s.length → s.length ≤ 1000000 → Ev (fun k => bibelotlaw03_HanoiOwn.l0 k x y x y s 0 t 0 p 0 (i : Int)) true
  | 0, i, s, h, hs => by
    refine Ev.step (fun k => ?_) h1
    rw [bibelotlaw03_HanoiOwn.l0, if_neg (by omega)]
  | e + 1, i, s, h, hs => by
    refine Ev.step (fun k => ?_) (own_l0 h1 e (i + 1) (s.set i ⟨-1, -1⟩) (by rw [List.length_set]; omega) (by rw [List.length_set]; omega))
    rw [bibelotlaw03_HanoiOwn.l0, if_pos (by omega), if_pos (by omega), w64 (by omega) (by omega)]
    rfl
theorem playL_len (ms : List S52) : ∀ d : List Int, (playL d ms).1.length = d.length := by
  induction ms with
  | nil => intro d; rfl
  | cons m ms ih =>
    intro d
    rw [playL]
    split
    · show (playL (putM d m) ms).1.length = d.length
      rw [ih]; unfold putM; rw [List.length_set]
    · rfl
theorem HanoiOwn : bibelotlaw03_HanoiOwn.Pure := by
  intro a0 l1 l2 _ _ _ _ _ _ _
  refine Ev.rounds (r := true) (g := fun k => bibelotlaw03_HanoiOwn.f k a0 l1 l2) ?_
  obtain ⟨m1, m2⟩ := many_bd a0 10 (by omega)
  obtain ⟨n, hn⟩ := Int.eq_ofNat_of_zero_le (show 0 ≤ manyOf a0 10 by omega)
  unfold bibelotlaw03_HanoiOwn.f
  rw [many_f a0 10 (by omega) (by omega), hn]
  simp only [Option.bind_some]
  have h0 : 1 ≤ n := by omega
  have h1 : n ≤ 40 := by omega
  have hb := both_discs l1 l2 n h0 h1
  have hlx := discsL_len l1 n
  have hly := discsL_len l2 n
  have okx := discsL_ok l1 n h0 h1
  refine Ev.bind (discs_ev l1 n (by omega)) (Ev.bind (discs_ev l2 n (by omega)) ?_)
  generalize discsL l1 n = x at *
  generalize discsL l2 n = y at *
  obtain ⟨ms, hw⟩ := way_is hb (by omega)
  have hbd := dst_bound hb
  have hp := Nat.pow_le_pow_right (show 0 < 2 by omega) (show x.length ≤ 12 by omega)
  have hpc : ((2 ^ x.length : Nat) : Int) = 2 ^ x.length := by simp
  have hl := hw.len
  have hl' : (ms.length : Int) < 4096 := by omega
  have ox : bibelotlaw03_own.f x = some x := by unfold bibelotlaw03_own.f; rw [List.take_of_length_le (by omega)]
  have oy : bibelotlaw03_own.f y = some y := by unfold bibelotlaw03_own.f; rw [List.take_of_length_le (by omega)]
  have hm : hanoi_Moves.f x = some ((movesL x 3).map mkS, 0) := by unfold hanoi_Moves.f; rw [if_pos okx]
  have hmn : 0 ≤ mn ((ms.map mkI).length : Int) 200 ∧ mn ((ms.map mkI).length : Int) 200 ≤ ((ms.map mkI).length : Int) := by unfold mn; omega
  obtain ⟨wy, hwy⟩ : ∃ wy, bibelotlaw03_way.f (ms.map mkI) = some wy := by
    unfold bibelotlaw03_way.f
    rw [if_pos hmn.1, if_pos hmn.2, Option.bind_some, if_pos (by
      have h1 : ∀ t : Nat, ((ms.map mkI).take t).length ≤ 4096 := fun t => by rw [List.length_take, List.length_map]; omega
      have := h1 (mn ((ms.map mkI).length : Int) 200).toNat
      simp only [List.length_nil]
      omega)]
    exact ⟨_, rfl⟩
  have hpl : hanoi_Play.f x wy = some ((playL x wy).1, ((playL x wy).2 : Int), 0) := by unfold hanoi_Play.f; rw [if_pos okx]
  simp only [ox, oy, hm, hw.f, hwy, hpl, Option.bind_some]
  have hb2 := movesIn_len x 3 x.length
  exact own_l0 (own_l1 (own_end hb hw (by omega) (by omega) _ 0 (ms.map mkI) (Nat.zero_add _) (by rw [List.length_map]; omega)) _ 0 (playL x wy).1 (Nat.zero_add _) (by rw [playL_len]; omega)) _ 0 ((movesL x 3).map mkS) (Nat.zero_add _) (by rw [List.length_map]; unfold movesL; omega)
end Go.Proofs.YtnaaomhmoamfpaaDoor.Pure
