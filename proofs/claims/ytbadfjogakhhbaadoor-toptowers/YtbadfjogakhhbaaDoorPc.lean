/- The search: its rounds. -/
import Derived.Test.YtbadfjogakhhbaaDoorPb
import Derived.Test.YtbadfjogakhhbaaDoorPa
import Derived.Outline
namespace Go.Proofs.YtbadfjogakhhbaaDoor.G
open Go.Proofs.YtbadfjogakhhbaaDoor.Q Go.Proofs.YtbadfjogakhhbaaDoor.K Go.Proofs.YtbadfjogakhhbaaDoor.It Go.Proofs.YtbadfjogakhhbaaDoor.Bf
open Go.RowKit Go.Shelf Go.Proofs.YtbadfjogakhhbaaDoorW.PrintWords Go.Proofs.YtbadfjogakhhbaaDoorW.PrintLast Go.Proofs.YtbadfjogakhhbaaDoorW.PrintMore
set_option linter.unusedVariables false
set_option linter.unusedSimpArgs false
attribute [local go_sem] Oper.semAt_some
/-- What the search is, in plain words: a state is what is known, the queue, all that were ever in it. -/
abbrev Sst := Km × List (List Int) × List (List Int)
def stp (sg : Bool) (s : List Int) (st : Sst) (x : Nat × Nat) : Sst := if (st.1 (flL sg s x.1 x.2)).isSome = true then st else (st.1.put (flL sg s x.1 x.2) (x, ((st.1 s).getD zeroS).2 + 1), st.2.1 ++ [flL sg s x.1 x.2], flL sg s x.1 x.2 :: st.2.2)
def rnd (n : Nat) (sg an : Bool) (st : Sst) : Sst := match st.2.1 with
  | [] => st
  | s :: q => (mvL n sg an).foldl (stp sg s) (st.1, q, st.2.2)
def stops (U : Option (List Int)) (st : Sst) : Bool := match st.2.1 with
  | [] => true
  | s :: _ => decide (U = some s)
def bfs (n : Nat) (sg an : Bool) (U : Option (List Int)) : Nat → Sst → Sst
  | 0, st => st
  | k + 1, st => if stops U st = true then st else bfs n sg an U k (rnd n sg an st)
def ini (to_ : List Int) : Sst := (Km.put (fun _ => none) to_ zeroS, [to_], [to_])
theorem bfs_stop {n : Nat} {sg an : Bool} {U : Option (List Int)} {st : Sst} (h : stops U st = true) (k : Nat) : bfs n sg an U k st = st := by
  cases k with
  | zero => rfl
  | succ k => rw [bfs, if_pos h]
def Th (n : Nat) (sg an : Bool) (to_ : List Int) (U : Option (List Int)) (M : Km) (q L : List (List Int)) : Prop :=
  ∃ j, j + q.length = L.length ∧ ∀ F, bfs n sg an U (F + j) (ini to_) = bfs n sg an U F (M, q, L)
def Tr (n : Nat) (sg an : Bool) (to_ : List Int) (U : Option (List Int)) (s : List Int) (pre : List (Nat × Nat)) (M : Km) (q L : List (List Int)) : Prop :=
  U ≠ some s ∧ ∃ j M0 q0 L0, j + 1 + q.length = L.length ∧ (∀ F, bfs n sg an U (F + j) (ini to_) = bfs n sg an U F (M0, s :: q0, L0)) ∧ pre.foldl (stp sg s) (M0, q0, L0) = (M, q, L)
theorem Th.begin (n : Nat) (sg an : Bool) (to_ : List Int) (U : Option (List Int)) : Th n sg an to_ U (Km.put (fun _ => none) to_ zeroS) [to_] [to_] := ⟨0, rfl, fun F => rfl⟩
theorem Th.pop {n : Nat} {sg an : Bool} {to_ : List Int} {U : Option (List Int)} {M : Km} {s : List Int} {q L : List (List Int)} (h : Th n sg an to_ U M (s :: q) L) (hU : U ≠ some s) : Tr n sg an to_ U s [] M q L := by
  obtain ⟨j, h1, h2⟩ := h
  refine ⟨hU, j, M, q, L, ?_, h2, rfl⟩
  simp only [List.length_cons] at h1
  omega
theorem Tr.finish {n : Nat} {sg an : Bool} {to_ : List Int} {U : Option (List Int)} {M : Km} {s : List Int} {q L : List (List Int)} (h : Tr n sg an to_ U s (mvL n sg an) M q L) : Th n sg an to_ U M q L := by
  obtain ⟨hU, j, M0, q0, L0, h1, h2, h3⟩ := h
  refine ⟨j + 1, h1, fun F => ?_⟩
  rw [show F + (j + 1) = (F + 1) + j by omega, h2, bfs, if_neg (by simp [stops, hU]), rnd]
  simp only
  rw [h3]
theorem Tr.seen {n : Nat} {sg an : Bool} {to_ : List Int} {U : Option (List Int)} {M : Km} {s t : List Int} {pre : List (Nat × Nat)} {x : Nat × Nat} {q L : List (List Int)} (h : Tr n sg an to_ U s pre M q L) (ht : flL sg s x.1 x.2 = t) (hs : (M t).isSome = true) : Tr n sg an to_ U s (pre ++ [x]) M q L := by
  obtain ⟨hU, j, M0, q0, L0, h1, h2, h3⟩ := h
  refine ⟨hU, j, M0, q0, L0, h1, h2, ?_⟩
  rw [List.foldl_append, h3]
  show stp sg s (M, q, L) x = _
  unfold stp
  rw [ht, if_pos hs]
theorem Tr.new {n : Nat} {sg an : Bool} {to_ : List Int} {U : Option (List Int)} {M : Km} {s t : List Int} {pre : List (Nat × Nat)} {x b : Nat × Nat} {d : Nat} {q L : List (List Int)} (h : Tr n sg an to_ U s pre M q L) (ht : flL sg s x.1 x.2 = t) (hn : M t = none) (hs : M s = some (b, d)) : Tr n sg an to_ U s (pre ++ [x]) (M.put t (x, d + 1)) (q ++ [t]) (t :: L) := by
  obtain ⟨hU, j, M0, q0, L0, h1, h2, h3⟩ := h
  refine ⟨hU, j, M0, q0, L0, by simp only [List.length_append, List.length_cons, List.length_nil]; omega, h2, ?_⟩
  rw [List.foldl_append, h3]
  show stp sg s (M, q, L) x = _
  unfold stp
  rw [ht, if_neg (by show ¬ (M t).isSome = true; rw [hn]; simp)]
  simp only [hs]
  rfl
/-- Between two rounds of the search. -/
structure Hd (n : Nat) (sg an : Bool) (to_ : List Int) (U : Option (List Int)) (W0 wr : World) (k : Nat) (M : Km) (q L : List (List Int)) (v : Value) : Prop where
  rd : Rd (nextK n sg an) to_ (Vs n) (Sof M) q L
  by_ : ByOk n sg an to_ M
  k_ : k = 2 * (15 ^ n - L.length) + q.length
  map_ : Kn wr (W0.heap.size + 2) L.length n M
  row : QRow wr (W0.heap.size + 4) 53 7 v q.length (flat q)
  box8 : Blk wr (W0.heap.size + 5) #[v] 129
  box7 : Blk wr (W0.heap.size + 3) #[.map (some (W0.heap.size + 2))] 93
  box3 : Blk wr W0.heap.size #[.int .i64 n, .bool sg, .bool an] 47
  below : Below W0.heap.size W0 wr
  full : ∀ x, (Sof M x).isSome = true → x ∈ L
  ql : q.length ≤ L.length
  tr : Th n sg an to_ U M q L
/-- Within a round: s has been taken, the moves of pre have been looked at. -/
structure Bd (n : Nat) (sg an : Bool) (to_ : List Int) (U : Option (List Int)) (W0 W : World) (b9 k : Nat) (s : List Int) (pre : List (Nat × Nat)) (M : Km) (q L : List (List Int)) (v : Value) : Prop where
  rm : Rm (nextK n sg an) to_ (Vs n) (Sof M) s (pre.map (fun x => flL sg s x.1 x.2)) q L
  by_ : ByOk n sg an to_ M
  k_ : 2 * (15 ^ n - L.length) + q.length < k
  map_ : Kn W (W0.heap.size + 2) L.length n M
  row : QRow W (W0.heap.size + 4) 53 7 v q.length (flat q)
  sep : ∀ j, v.ownBlock = some j → j < b9 ∨ b9 + 2 < j
  box8 : Blk W (W0.heap.size + 5) #[v] 129
  box7 : Blk W (W0.heap.size + 3) #[.map (some (W0.heap.size + 2))] 93
  box3 : Blk W W0.heap.size #[.int .i64 n, .bool sg, .bool an] 47
  box9 : Blk W b9 (stk (nth s)) 53
  below : Below W0.heap.size W0 W
  lt : W0.heap.size + 5 < b9
  size : b9 + 2 < W.heap.size
  full : ∀ x, (Sof M x).isSome = true → x ∈ L
  ql : q.length ≤ L.length
  tr : Tr n sg an to_ U s pre M q L
theorem blk_below {W W' : World} {b t : Nat} {cs : Array Value} (h : Blk W b cs t) (hb : Below W.heap.size W W') : Blk W' b cs t := h.below hb h.lt
theorem row_below {base e size n : Nat} {W W' : World} {v : Value} {xs : List Value} (h : QRow W base e size v n xs) (hb : Below W.heap.size W W') : QRow W' base e size v n xs := q_move h (fun k hk => hb.block k (q_lt h k hk))
theorem blk_step {B : Nat} {W W' : World} {b t : Nat} {cs : Array Value} (h : Blk W b cs t) (hs : Step 0 B W W') (ht : (t == 0) = false) : Blk W' b cs t := hs.same _ _ h (.inr (by simp [stays, book, isT, ht]))
theorem row_step {B base e size n : Nat} {W W' : World} {v : Value} {xs : List Value} (h : QRow W base e size v n xs) (hs : Step 0 B W W') (ht : (e == 0) = false) : QRow W' base e size v n xs :=
  q_move h (fun k hk => by
    obtain ⟨_, cells, hc⟩ := q_typed h k hk
    rw [hc]
    exact hs.same _ _ hc (.inr (by simp [stays, book, isT, ht])))
theorem Bd.step {n : Nat} {sg an : Bool} {to_ : List Int} {U : Option (List Int)} {B : Nat} {W0 W W' : World} {b9 k : Nat} {s : List Int} {pre : List (Nat × Nat)} {M : Km} {q L : List (List Int)} {v : Value} (h : Bd n sg an to_ U W0 W b9 k s pre M q L v) (hs : Step 0 B W W') (hB : W0.heap.size ≤ B) : Bd n sg an to_ U W0 W' b9 k s pre M q L v :=
  ⟨h.rm, h.by_, h.k_, h.map_.step hs, row_step h.row hs rfl, h.sep, blk_step h.box8 hs rfl, blk_step h.box7 hs rfl, blk_step h.box3 hs rfl, blk_step h.box9 hs rfl, hs.below h.below hB (Nat.le_refl _), h.lt, by have := h.size; have := hs.size; omega, h.full, h.ql, h.tr⟩
theorem Bd.below_ {n : Nat} {sg an : Bool} {to_ : List Int} {U : Option (List Int)} {W0 W W' : World} {b9 k : Nat} {s : List Int} {pre : List (Nat × Nat)} {M : Km} {q L : List (List Int)} {v : Value} (h : Bd n sg an to_ U W0 W b9 k s pre M q L v) (hb : Below W.heap.size W W') : Bd n sg an to_ U W0 W' b9 k s pre M q L v :=
  ⟨h.rm, h.by_, h.k_, h.map_.below hb, row_below h.row hb, h.sep, blk_below h.box8 hb, blk_below h.box7 hb, blk_below h.box3 hb, blk_below h.box9 hb, h.below.trans (hb.mono h.below.size), h.lt, by have := h.size; have := hb.size; omega, h.full, h.ql, h.tr⟩
/-- What lies in the block of that number. -/
def findBlk (id : Nat) : Code → Option Code
  | .block i c => if i = id then some c else findBlk id c
  | .seq a b => (findBlk id a).or (findBlk id b)
  | .loop c => findBlk id c
  | .scope c => findBlk id c
  | .cond _ a b => (findBlk id a).or (findBlk id b)
  | .rangeFunc _ _ a b => (findBlk id a).or (findBlk id b)
  | _ => none
def codeOf (f : Func) : Code := match f.body with | some c => c | none => .skip
def fstC : Code → Code
  | .seq a _ => a
  | c => c
def sndC : Code → Code
  | .seq _ b => b
  | c => c
def dropC : Nat → Code → Code
  | 0, c => c
  | k + 1, c => dropC k (sndC c)
/-- A round's code. -/
noncomputable def stepC : Code := (findBlk 3 (codeOf Tryd.f43)).getD .skip
def keepS (b9 : Nat) : Nat → Prop := keepM (b9 + 1) (b9 + 2)
def Isr (n : Nat) (sg an : Bool) (to_ : List Int) (U : Option (List Int)) (W0 : World) (b9 k : Nat) (s : List Int) (pre : List (Nat × Nat)) (W : World) : Prop := ∃ M q L v, Aside0 (Bd n sg an to_ U W0 W b9 k s pre M q L v)
theorem rm_count {n : Nat} {sg an : Bool} {to_ : List Int} {S : Se (List Int)} {s : List Int} {d q L : List (List Int)} (h : Rm (nextK n sg an) to_ (Vs n) S s d q L) : L.length ≤ 15 ^ n := vs_count h.nodup (fun x hx => h.v x (h.seen x hx))
theorem rd_count {n : Nat} {sg an : Bool} {to_ : List Int} {S : Se (List Int)} {q L : List (List Int)} (h : Rd (nextK n sg an) to_ (Vs n) S q L) : L.length ≤ 15 ^ n := vs_count h.nodup (fun x hx => h.v x (h.seen x hx))
theorem field115 (a b c : Int) (w : World) : (Instr.field 99 (.agg #[.int .i64 a, .int .i64 b, .int .i64 c]) 1).run Tryd.prog w = .ok (.int .i64 c) w := by kernel_rfl
theorem u134 : Tryd.prog.underlying 129 = some (.slice 53) := by kernel_rfl
theorem info92 : (Tryd.prog.info? 53).map (fun i => (i.zero, i.size, i.bytes)) = some (some (.agg #[.int .i8 0, .int .i8 0, .int .i8 0, .int .i8 0, .int .i8 0, .int .i8 0, .int .i8 0]), 7, 7) := by kernel_rfl
section
variable {F : Fence} {nF : Nat} {P : Program} (w : World)
theorem wpListIn_append_q {ops : Array Oper} {rest : List Oper} {o : Oper} {a : Act} {Q : Exit → Act → World → Prop} (hgd : o.guard = none) (s x : Operand) (t : TypeId)
    (ho : o.op = .call { callee := .builtin .append, args := #[s, x], argTypes := #[t, t] })
    (base : Nat) (e : TypeId) (i : TypeInfo) (z : Value) (size bytes : Nat) (ht : P.underlying t = some (.slice e)) (hi : P.info? e = some i) (hz : i.zero = some z)
    (hsize : i.size = size) (hby : i.bytes = bytes) (hzs : z.cells.size = size) (hsz : 0 < size)
    (v : Value) (n : Nat) (xs : List Value) (hs : a.eval s = v) (hown : QRow w base e size v n xs)
    (ad : Addr) (m c : Nat) (news : List Value) (hx : a.eval x = .slice (some ad) m c) (hl : news.length = m * size) (hnews : ∀ j u, news[j]? = some u → w.cell? (ad.add j) = some u) (h1 : ∀ u ∈ news, u.oneCell' = true) (hm : 0 < m)
    (h63 : n + m ≤ maxLen) (hbytes : (n + m) * bytes ≤ 140737488355328) (hbase : base ≤ w.heap.size)
    (h : ∀ v' w', QRow w' base e size v' (n + m) (xs ++ news) → w.grownBy w' v.ownBlock → (v'.ownBlock = v.ownBlock ∨ ∃ b, v'.ownBlock = some b ∧ w.heap.size ≤ b) → wpListIn F nF P ops Q rest (a.put o.dst v') w') :
    wpListIn F nF P ops Q (o :: rest) a w := by
  refine wpListIn_plain hgd fun K hK => ?_
  obtain ⟨v', w', hr, h2, h3, h4⟩ := q_append (P := P) w base t o.type e i z size bytes ht hi hz hsize hby hzs hsz v n xs hown ad m c news hl hnews h1 hm h63 hbytes hbase
  unfold Oper.wpIn
  refine ⟨by simp [Oper.about, ho, resolve, Target.leads, Sem.run_pure], ?_⟩
  rw [Oper.semAt_plain F _ _ (by rw [ho]; intro c hc'; cases hc')]
  simp [execOp, ho, resolve, invoke, builtin, hs, hx, hr, Result.andThen]
  exact hK _ _ (h v' w' h2 h3 h4)
end
set_option maxRecDepth 100000 in
set_option maxHeartbeats 8000000 in
theorem body_step (l d n : Nat) (sg an : Bool) (hn : n ≤ 7) (to_ : List Int) (U : Option (List Int)) (W0 W : World) (b9 k b10 b11 : Nat) (hk2 : k ≤ 400000000) (s : List Int) (pre : List (Nat × Nat)) (x : Nat × Nat) (hx : x ∈ mvL n sg an) (M : Km) (q L : List (List Int)) (v : Value) (h : Bd n sg an to_ U W0 W b9 k s pre M q L v)
    (h10 : Blk W b10 #[.int .i64 (x.1 : Int), .int .i64 (x.2 : Int)] 97) (h11 : Blk W b11 (stk (nth (flL sg s x.1 x.2))) 53) (hlt : b9 + 2 < b11) (x0 x1 x2 x4 x5 x6 x12 x13 x14 x15 x16 x17 x18 x19 x20 x21 x22 x23 x24 x25 x26 x27 x28 x29 x30 x31 x32 x33 x34 x35 x36 x37 x38 x39 x40 x41 x42 x43 x44 x45 x46 x47 x48 x49 x50 x51 x52 x53 x54 x55 x56 x57 x58 x59 x60 x61 x62 x63 : Value) :
    (Code.block 3 stepC).wpIn (Fence.wide.inRound l) d Tryd.prog (rPost 0 (keepS b9) (Isr n sg an to_ U W0 b9 k s) (fun _ _ _ => False) (pre ++ [x]) W) { tmps := #[x0, x1, x2, .pointer (some ⟨W0.heap.size, 0, none⟩), x4, x5, x6, .pointer (some ⟨W0.heap.size + 3, 0, none⟩), .pointer (some ⟨W0.heap.size + 5, 0, none⟩), .pointer (some ⟨b9, 0, none⟩), .pointer (some ⟨b10, 0, none⟩), .pointer (some ⟨b11, 0, none⟩), x12, x13, x14, x15, x16, x17, x18, x19, x20, x21, x22, x23, x24, x25, x26, x27, x28, x29, x30, x31, x32, x33, x34, x35, x36, x37, x38, x39, x40, x41, x42, x43, x44, x45, x46, x47, x48, x49, x50, x51, x52, x53, x54, x55, x56, x57, x58, x59, x60, x61, x62, x63], defers := [] } W := by
  have hvs : Vs n s := by
    obtain ⟨ds, h1, h2⟩ := h.rm.some_
    exact h.rm.v s (by rw [h1]; rfl)
  have hmx := mem_mv hx
  have hvt := vs_flL hvs sg x.1 x.2 hmx.2.1
  have hmem : flL sg s x.1 x.2 ∈ nextK n sg an s := List.mem_map.2 ⟨x, hx, rfl⟩
  obtain ⟨c0, hc0⟩ : ∃ c0, stepC = c0 := ⟨_, rfl⟩
  have hc := hc0
  simp only [stepC, codeOf, Tryd.f43, findBlk, Option.or_some, Option.none_or, Option.or_none, if_true, if_false, Nat.reduceEqDiff, reduceIte, Option.getD_some] at hc
  rw [hc0]
  clear hc0
  subst hc
  refine wpIn_block ?_
  obtain ⟨t, ht⟩ : ∃ t, flL sg s x.1 x.2 = t := ⟨_, rfl⟩
  rw [ht] at h11 hvt hmem
  have hlk := h.map_.look_ok hvt
  have hc7 := h.box7.cell 0 (v := .map (some (W0.heap.size + 2))) rfl
  obtain ⟨tm, htm⟩ : ∃ tm, nth t = tm := ⟨_, rfl⟩
  rw [htm] at h11 hlk
  obtain ⟨t0, t1, t2, t3, t4, t5, t6⟩ := stk_cells h11
  unfold stk at hlk
  have H := Aside0.mk h
  have HT := Aside0.mk ht
  have HTM := Aside0.mk htm
  have HVT := Aside0.mk hvt
  have HVS := Aside0.mk hvs
  have HMEM := Aside0.mk hmem
  have H10 := Aside0.mk h10
  have H11 := Aside0.mk h11
  have HX := Aside0.mk hx
  cases hM : M t with
  | some e =>
    rw [hM] at hlk
    obtain ⟨⟨e1, e2⟩, e3⟩ := e
    simp only [stepE, Option.getD_some, Option.isSome_some] at hlk
    have HMS := Aside0.mk hM
    clear h ht htm hvt hvs hmem h10 h11 hM hmx hx
    gi_wp2
    refine ⟨(RB.refl _ _ _).alloc _, M, q, L, v, .mk ?_⟩
    have hb := H.out.below_ ((Below.refl _ W).alloc (Nat.le_refl _) (Obj.cells #[Value.int IntKind.i64 (e1 : Int), Value.int IntKind.i64 (e2 : Int), Value.int IntKind.i64 (e3 : Int)] 99))
    have htr := hb.tr.seen (x := x) HT.out (by rw [HMS.out]; rfl)
    refine { hb with rm := ?_, tr := htr }
    have := hb.rm.seen_ (t := t) (by unfold Sof; rw [HMS.out]; rfl)
    rw [List.map_append]
    show Rm _ _ _ _ _ (_ ++ [flL sg s x.1 x.2]) _ _
    rw [HT.out]
    exact this
  | none =>
    rw [hM] at hlk
    simp only [stepE, zeroS, Option.getD_none, Option.isSome_none] at hlk
    have HMN := Aside0.mk hM
    clear h ht htm hvt hvs hmem h10 h11 hM hmx hx
    gi_wp2
    obtain ⟨W7, hW7⟩ : ∃ W7, W.alloc (Obj.cells #[Value.int IntKind.i64 0, Value.int IntKind.i64 0, Value.int IntKind.i64 0] 99) = W7 := ⟨_, rfl⟩
    have HB7 := Aside0.mk (show Below W.heap.size W W7 by rw [← hW7]; exact (Below.refl _ W).alloc (Nat.le_refl _) _)
    rw [hW7]
    clear hW7 hlk hc7 t0 t1 t2 t3 t4 t5 t6
    have H7 := Aside0.mk (H.out.below_ HB7.out)
    have hc7 := H7.out.box7.cell 0 (v := .map (some (W0.heap.size + 2))) rfl
    obtain ⟨t0, t1, t2, t3, t4, t5, t6⟩ := stk_cells (blk_below H11.out HB7.out)
    obtain ⟨m, hm⟩ : ∃ m, nth s = m := ⟨_, rfl⟩
    have hb9 := H7.out.box9
    rw [hm] at hb9
    obtain ⟨q0, q1, q2, q3, q4, q5, q6⟩ := stk_cells hb9
    have z0 := (blk_below H10.out HB7.out).cell 0 (v := .int .i64 (x.1 : Int)) rfl
    have z1 := (blk_below H10.out HB7.out).cell 1 (v := .int .i64 (x.2 : Int)) rfl
    obtain ⟨ds, hds, hdl⟩ := H7.out.rm.some_
    obtain ⟨bs, hMs⟩ : ∃ bs, M s = some (bs, ds) := by
      unfold Sof at hds
      cases hms : M s with
      | none => rw [hms] at hds; cases hds
      | some e => rw [hms] at hds; obtain ⟨e1, e2⟩ := e; cases hds; exact ⟨e1, rfl⟩
    have hcount := rm_count H7.out.rm
    have h15 := p15 hn
    have hwd : IntKind.i64.wrap ((ds : Int) + 1) = (ds : Int) + 1 := iw64 (by omega) (by omega)
    have hlkn : ∀ p, (Instr.lookup 93 (.map (some (W0.heap.size + 2))) (.agg (stk (nth s))) false).run Tryd.prog (W7.drewN p) = .ok (stepE (bs, ds)) (W7.drewN p) := fun p => by
      have := (H7.out.map_.mapsTo (W' := W7.drewN p) rfl).look HVS.out
      rw [hMs] at this
      exact this
    rw [hm] at hlkn
    unfold stk stepE at hlkn
    have HDS := Aside0.mk hds
    have HMS := Aside0.mk hMs
    have HD := Aside0.mk (show ds ≤ 170859375 by omega)
    have HC := Aside0.mk hcount
    clear hds hMs hm hb9 hdl hcount h15
    have hfd := fun w => field115 (bs.1 : Int) (bs.2 : Int) (ds : Int) w
    refine wpIn_region_last' (F := Fence.wide) (lr := [_, _, _, _, _, _, _, _, _]) (hs := rfl) rfl (by kernel_rfl) (by kernel_rfl) ?_
    repeat (gi_big_quiet_step (fail))
    refine wpQuietIn_nil ?_
    intro _ hw'
    obtain ⟨nq, hw''⟩ := hw'
    subst hw''
    have HLB := Aside0.mk (show L.length < 1000000000 by have := HC.out; have := p15 hn; omega)
    obtain ⟨W8, hput, hS8, hg8⟩ := (H7.out.map_.mapsTo (W' := W7.drewN nq) rfl).put hn HVT.out (x, ds + 1) HLB.out
    rw [HTM.out] at hput
    simp only [stepE, Int.natCast_add, Int.natCast_one] at hput
    unfold stk at hput
    have HS8 := Aside0.mk hS8
    have HG8 := Aside0.mk (show W7.grownBy W8 (some (W0.heap.size + 2)) from ⟨hg8.os, hg8.tape, hg8.output, hg8.size, hg8.block⟩)
    clear hS8 hg8 t0 t1 t2 t3 t4 t5 t6 q0 q1 q2 q3 q4 q5 q6 z0 z1 hlkn hwd hc7 hfd
    go_simp
    clear hput
    have hlt0 := H.out.lt
    have hsz0 := H.out.size
    have hs7 := HB7.out.size
    have hs8 := HG8.out.size
    obtain ⟨A, cap, hv, hcap⟩ := q_slice H7.out.row
    subst hv
    have hb8 : Blk W8 (W0.heap.size + 5) #[.slice A q.length cap] 129 := H7.out.box8.grown HG8.out (by simp)
    have hb11 : Blk W8 b11 (stk tm) 53 := (blk_below H11.out HB7.out).grown HG8.out (by simp; omega)
    have hq8 : QRow W8 (W0.heap.size + 4) 53 7 (.slice A q.length cap) q.length (flat q) := q_move H7.out.row (fun j hj => HG8.out.block j (q_lt H7.out.row j hj) (fun e => by injection e with e; have := (q_typed H7.out.row j hj).1; omega))
    have hq1 : QRow (W8.alloc (.cells (stk tm) 53)) (W0.heap.size + 4) 53 7 (.slice A q.length cap) q.length (flat q) := row_below hq8 ((Below.refl _ _).alloc (Nat.le_refl _) _)
    have hn1 : Blk (W8.alloc (.cells (stk tm) 53)) W8.heap.size (stk tm) 53 := Blk.new _ _ _
    have hn2 : ∀ j u, (stk tm).toList[j]? = some u → (W8.alloc (.cells (stk tm) 53)).cell? ((⟨W8.heap.size, 0, none⟩ : Addr).add j) = some u := fun j u hu => by
      rw [Addr.add_mid, Nat.zero_add]
      exact hn1.cell j (by simpa using hu)
    have hone : ∀ u ∈ (stk tm).toList, u.oneCell' = true := fun u hu => by
      simp [stk] at hu
      rcases hu with rfl | rfl | rfl | rfl | rfl | rfl | rfl <;> rfl
    have hne : (Value.slice A q.length cap).ownBlock ≠ some (W0.heap.size + 5) := fun e => by
      obtain ⟨_, cells, hcl⟩ := q_typed hq8 _ e
      have e2 := hb8.symm.trans hcl
      injection e2 with e2
      injection e2 with _ e3
      cases e3
    have hc8 := hb8.cell 0 (v := .slice A q.length cap) rfl
    obtain ⟨t0, t1, t2, t3, t4, t5, t6⟩ := stk_cells hb11
    obtain ⟨i0, hi, hz0, hz1, hz2⟩ := info_parts info92
    have HI := Aside0.mk (And.intro hi (And.intro hz0 (And.intro hz1 hz2)))
    have HQ := Aside0.mk hq1
    have HQ8 := Aside0.mk hq8
    have HN := Aside0.mk hn2
    have HO := Aside0.mk hone
    have HNE := Aside0.mk hne
    have HB8 := Aside0.mk hb8
    have HKL := Aside0.mk (show q.length ≤ 400000000 by have := H.out.k_; omega)
    clear hi hz0 hz1 hz2 hq1 hq8 hn1 hn2 hone hne hb8 hb11 hcap
    unfold stk at HQ HN HO
    gi_wp2_with (gi_at_builtin; refine stopper ?_)
    unfold Hold
    refine wpListIn_append_q _ rfl _ _ 129 rfl (W0.heap.size + 4) 53 i0 _ 7 7 u134 HI.out.1 HI.out.2.1 HI.out.2.2.1 HI.out.2.2.2 rfl (by decide) (.slice A q.length cap) q.length (flat q) (by rfl) HQ.out ⟨W8.heap.size, 0, none⟩ 1 1 _ (by rfl) rfl HN.out HO.out (by decide) (by have := HKL.out; unfold maxLen; omega) (by have := HKL.out; omega) (by simp; omega) ?_
    intro v' W9 h1 h2 h3
    obtain ⟨A', cap', rfl, hcc⟩ := q_slice h1
    have hb9 := (HB8.out.alloc (Obj.cells #[Value.int IntKind.i8 (tm 0), Value.int IntKind.i8 (tm 1), Value.int IntKind.i8 (tm 2), Value.int IntKind.i8 (tm 3), Value.int IntKind.i8 (tm 4), Value.int IntKind.i8 (tm 5), Value.int IntKind.i8 (tm 6)] 53)).grown h2 HNE.out
    have hc9 := hb9.cell 0 (v := .slice A q.length cap) rfl
    have hf9 := hb9.free 0
    have H1 := Aside0.mk h1
    have H2 := Aside0.mk h2
    have H3 := Aside0.mk h3
    have HB9 := Aside0.mk hb9
    clear h1 h2 h3 hb9 hc8 t0 t1 t2 t3 t4 t5 t6
    gi_wp2
    have hown : ∀ j, (Value.slice A q.length cap).ownBlock = some j → W0.heap.size + 4 ≤ j ∧ (j < b9 ∨ b9 + 2 < j) := fun j hj => ⟨(q_typed H.out.row j hj).1, H.out.sep j hj⟩
    have hmapW : ∃ es clock, W.heap[W0.heap.size + 2]? = some (.map es clock) := by
      obtain ⟨D, ⟨es, clock, h1, _⟩, _⟩ := H.out.map_
      exact ⟨es, clock, h1⟩
    have keepB : ∀ {b t : Nat} {cs : Array Value}, Blk W7 b cs t → b ≠ W0.heap.size + 2 → (Value.slice A q.length cap).ownBlock ≠ some b → b ≠ W0.heap.size + 5 → Blk (W9.setCell ⟨W0.heap.size + 5, 0, none⟩ (.slice A' (q.length + 1) cap')) b cs t := fun hb h1 h2 h3 =>
      (((hb.grown HG8.out (by simp; omega)).alloc _).grown H2.out h2).setOther h3 _
    have hbase := H7.out.below.size
    have b8below : Below W0.heap.size W0 W8 := H7.out.below.grown HG8.out (by omega) (fun j e => by cases e; omega)
    have b9below : Below W0.heap.size W0 W9 := (b8below.alloc (by omega) _).grown H2.out (by simp; omega) (fun j e => by have := hown j e; omega)
    have hsz9 := H2.out.size
    have hfl : flat (q ++ [t]) = flat q ++ (stk tm).toList := by rw [flat_snoc, HTM.out]
    obtain ⟨hrm, _⟩ := H7.out.rm.new HDS.out HMEM.out HVT.out (Sof_none.2 HMN.out)
    have hcnt := rm_count hrm
    have hk := H.out.k_
    refine ⟨(((((RB.refl _ _ W).below HB7.out).grown HG8.out (fun j o e ho => ?_)).alloc _).grown H2.out (fun j o e ho => ?_)).set (fun o ho => ?_), M.put t (x, ds + 1), q ++ [t], t :: L, .slice A' (q.length + 1) cap', .mk ⟨?_, ?_, ?_, ?_, ?_, ?_, ?_, ?_, ?_, ?_, ?_, hlt0, ?_, ?_, ?_, ?_⟩⟩
    · cases e
      obtain ⟨es, clock, h1⟩ := hmapW
      have e2 := ho.symm.trans h1
      injection e2 with e2
      subst e2
      exact ⟨by rintro (h | h) <;> omega, rfl, rfl⟩
    · obtain ⟨_, cells, hc⟩ := q_typed H.out.row j e
      have e2 := ho.symm.trans hc
      injection e2 with e2
      subst e2
      have := hown j e
      exact ⟨by rintro (h | h) <;> omega, rfl, rfl⟩
    · have e2 := ho.symm.trans H.out.box8
      injection e2 with e2
      subst e2
      exact ⟨by rintro (h | h) <;> omega, rfl, rfl⟩
    · rw [List.map_append, Sof_put]
      show Rm _ _ _ _ _ (_ ++ [flL sg s x.1 x.2]) _ _
      rw [HT.out]
      exact hrm
    · have := H7.out.by_.put HVS.out.1 HX.out HMS.out (by rw [HT.out]; exact HMN.out)
      rw [HT.out] at this
      exact this
    · simp only [List.length_cons, List.length_append, List.length_nil] at hcnt ⊢
      omega
    · refine HS8.out.mapsTo ?_
      rw [Below.heap_setCell _ _ _ _ (by simp), H2.out.block _ (by simp; omega) (fun e => by have := hown _ e.symm; omega), Below.heap_alloc _ _ _ (by omega)]
    · rw [List.length_append, hfl]
      refine q_move H1.out (fun j hj => Below.heap_setCell _ _ _ _ (fun e => ?_))
      obtain ⟨_, cells, hcl⟩ := q_typed H1.out j hj
      rw [e] at hcl
      have e2 := HB9.out.symm.trans hcl
      injection e2 with e2
      injection e2 with _ e3
      cases e3
    · intro j hj
      rcases H3.out with h | ⟨b, h, hle⟩
      · exact (hown j (by rw [← h]; exact hj)).2
      · rw [h] at hj
        injection hj with hj
        rw [World.size_alloc] at hle
        omega
    · exact HB9.out.set 0 _
    · exact keepB H7.out.box7 (by omega) (fun e => by have := hown _ e; omega) (by omega)
    · exact keepB H7.out.box3 (by omega) (fun e => by have := hown _ e; omega) (by omega)
    · exact keepB H7.out.box9 (by omega) (fun e => by have := hown _ e; omega) (by omega)
    · exact b9below.setCell (by simp) _
    · simp only [World.setCell]
      have := H2.out.size
      simp at this ⊢
      omega
    · intro y hy
      rw [Sof_put] at hy
      by_cases e : y = t
      · rw [e]; exact List.mem_cons_self ..
      · rw [Se.put_other _ _ e] at hy
        exact List.mem_cons_of_mem _ (H7.out.full y hy)
    · have := H7.out.ql
      simp only [List.length_append, List.length_cons, List.length_nil]
      omega
    · exact H7.out.tr.new HT.out HMN.out HMS.out
end Go.Proofs.YtbadfjogakhhbaaDoor.G
namespace Go.Proofs.YtbadfjogakhhbaaDoor.G
open Go.Proofs.YtbadfjogakhhbaaDoor.Q Go.Proofs.YtbadfjogakhhbaaDoor.K Go.Proofs.YtbadfjogakhhbaaDoor.It Go.Proofs.YtbadfjogakhhbaaDoor.Bf
open Go.RowKit Go.Shelf Go.Proofs.YtbadfjogakhhbaaDoorW.PrintWords Go.Proofs.YtbadfjogakhhbaaDoorW.PrintLast Go.Proofs.YtbadfjogakhhbaaDoorW.PrintMore
set_option linter.unusedVariables false
set_option linter.unusedSimpArgs false
attribute [local go_sem] Oper.semAt_some
def mark (r : Nat) : Deferred := { target := .collected r, args := #[] }
/-- The marks that the ranges have left. -/
def Mk (B : Nat) (rs : List Nat) (W : World) : Prop := rs.Nodup ∧ ∀ r, r ∈ rs → B ≤ r ∧ W.heap[r]? = some (.deferred (some []))
theorem Mk.rx {B : Nat} {rs : List Nat} {W W' : World} (h : Mk B rs W) (hx : RX W W') : Mk B rs W' := ⟨h.1, fun r hr => ⟨(h.2 r hr).1, hx.same _ _ (h.2 r hr).2 rfl⟩⟩
theorem Mk.step {B T N : Nat} {rs : List Nat} {W W' : World} (h : Mk B rs W) (hN : ∀ r, r ∈ rs → r < N) (hx : Step T N W W') : Mk B rs W' := ⟨h.1, fun r hr => ⟨(h.2 r hr).1, hx.same _ _ (h.2 r hr).2 (.inl (hN r hr))⟩⟩
theorem Mk.lt {B : Nat} {rs : List Nat} {W : World} (h : Mk B rs W) : ∀ r, r ∈ rs → r < W.heap.size := fun r hr => (Array.getElem?_eq_some_iff.1 (h.2 r hr).2).1
theorem Mk.cons {B D : Nat} {rs : List Nat} {W : World} (h : Mk B rs W) (hn : ∀ r, r ∈ rs → r < D) (hB : B ≤ D) (hD : W.heap[D]? = some (.deferred (some []))) : Mk B (D :: rs) W :=
  ⟨List.nodup_cons.2 ⟨fun hm => Nat.lt_irrefl _ (hn D hm), h.1⟩, fun r hr => by
    rcases List.mem_cons.1 hr with rfl | hr
    · exact ⟨hB, hD⟩
    · exact h.2 r hr⟩
theorem enters_of {P : Program} {f : FuncId} {fn : Func} (hf : P.funcs[f]? = some fn) (hname : (fn.name == "runtime.NumGoroutine") = false) (hb : fn.body.isSome = true) (args : Array Value) (w : World) : (callFunc f args).run P w = .ok (.enter f args) w := enters_ hf hname hb args w
noncomputable def asgC : Code := match (findBlk 2 (codeOf Tryd.f43)).getD .skip with
  | .rangeFunc _ _ a _ => a
  | c => c
theorem range_eq : findBlk 2 (codeOf Tryd.f43) = some (.rangeFunc (.tmp 39) #[40, 41] asgC (.block 3 stepC)) := by kernel_rfl
set_option maxRecDepth 100000 in
set_option maxHeartbeats 8000000 in
theorem search_range (D n : Nat) (sg an : Bool) (hn : n ≤ 7) (to_ : List Int) (U : Option (List Int)) (W0 W6 : World) (b9 k : Nat) (hk2 : k ≤ 400000000) (s : List Int) (M : Km) (q L : List (List Int)) (v : Value) (h : Bd n sg an to_ U W0 W6 b9 k s [] M q L v)
    (hb1 : Blk W6 (b9 + 1) #[.int .i64 n, .bool sg, .bool an] 47) (hb2 : Blk W6 (b9 + 2) (stk (nth s)) 53) (rs : List Nat) (hM : Mk W0.heap.size rs W6) (x0 x1 x2 x4 x5 x6 x10 x11 x12 x13 x14 x15 x16 x17 x18 x19 x20 x21 x22 x23 x24 x25 x26 x27 x28 x29 x30 x31 x32 x33 x34 x35 x36 x37 x38 x40 x41 x42 x43 x44 x45 x46 x47 x48 x49 x50 x51 x52 x53 x54 x55 x56 x57 x58 x59 x60 x61 x62 x63 : Value)
    (Q : Exit → Act → World → Prop)
    (hgo : ∀ (W' : World) (D : Nat), Mk W0.heap.size (D :: rs) W' → (∃ k' M q L v, k' < k ∧ Hd n sg an to_ U W0 W' k' M q L v) → Q .normal { tmps := #[x0, x1, x2, Value.pointer (some { block := W0.heap.size, off := 0 }), x4, x5, x6, Value.pointer (some { block := W0.heap.size + 3, off := 0 }), Value.pointer (some { block := W0.heap.size + 5, off := 0 }), Value.pointer (some { block := b9, off := 0 }), x10, x11, x12, x13, x14, x15, x16, x17, x18, x19, x20, x21, x22, x23, x24, x25, x26, x27, x28, x29, x30, x31, x32, x33, x34, x35, x36, x37, x38, Value.func (.func 87) #[] #[.pointer (some ⟨b9 + 1, 0, none⟩), .pointer (some ⟨b9 + 2, 0, none⟩)], x40, x41, x42, x43, x44, x45, x46, x47, x48, x49, x50, x51, x52, x53, x54, x55, x56, x57, x58, x59, x60, x61, x62, x63], defers := (D :: rs).map mark } W') :
    (Code.block 2 (.rangeFunc (.tmp 39) #[40, 41] asgC (.block 3 stepC))).wpIn Fence.wide (D + 4) Tryd.prog Q { tmps := #[x0, x1, x2, Value.pointer (some { block := W0.heap.size, off := 0 }), x4, x5, x6, Value.pointer (some { block := W0.heap.size + 3, off := 0 }), Value.pointer (some { block := W0.heap.size + 5, off := 0 }), Value.pointer (some { block := b9, off := 0 }), x10, x11, x12, x13, x14, x15, x16, x17, x18, x19, x20, x21, x22, x23, x24, x25, x26, x27, x28, x29, x30, x31, x32, x33, x34, x35, x36, x37, x38, Value.func (.func 87) #[] #[.pointer (some ⟨b9 + 1, 0, none⟩), .pointer (some ⟨b9 + 2, 0, none⟩)], x40, x41, x42, x43, x44, x45, x46, x47, x48, x49, x50, x51, x52, x53, x54, x55, x56, x57, x58, x59, x60, x61, x62, x63], defers := rs.map mark } W6 := by
  have hvs : Vs n s := by
    obtain ⟨ds, h1, h2⟩ := h.rm.some_
    exact h.rm.v s (by rw [h1]; rfl)
  have hsz := h.size
  have hlt := h.lt
  have hbelow := h.below.size
  have hMl := hM.lt
  refine wpIn_block ?_
  refine range_outer (T := 0) (keep := keepS b9) (L := mvL n sg an) rfl (by omega) (gf := 87) (lb := #[.pointer (some ⟨b9 + 1, 0, none⟩), .pointer (some ⟨b9 + 2, 0, none⟩)]) rfl trivial (enters_of Tryd.func87 (by kernel_rfl) rfl)
    (encs := encM sg (nth s))
    (moves_it (D + 4 - 1) (by omega) (b9 + 1) (b9 + 2) n sg an (nth s) hn (fun p => by have := hvs.2 p; omega) W6 hb1 hb2)
    (Below.refl _ _) (fun k hk => by rcases hk with hk | hk <;> omega) (fun _ => rfl)
    (fun pre W => Isr n sg an to_ U W0 b9 k s pre W ∧ Mk W0.heap.size rs W) (fun c pre W => False)
    (fun pre A A' hs hst => by
      obtain ⟨⟨M, q, L, v, hB⟩, hm⟩ := hs
      exact ⟨⟨M, q, L, v, .mk (hB.out.step hst hbelow)⟩, hm.step hMl hst⟩)
    (fun c pre A A' hs hst => hs)
    ⟨⟨M, q, L, v, .mk h⟩, hM⟩
    (fun x a' A => ∃ (b10 b11 : Nat) (x0 x1 x2 x4 x5 x6 x12 x13 x14 x15 x16 x17 x18 x19 x20 x21 x22 x23 x24 x25 x26 x27 x28 x29 x30 x31 x32 x33 x34 x35 x36 x37 x38 x39 x40 x41 x42 x43 x44 x45 x46 x47 x48 x49 x50 x51 x52 x53 x54 x55 x56 x57 x58 x59 x60 x61 x62 x63 : Value), a' = { tmps := #[x0, x1, x2, Value.pointer (some { block := W0.heap.size, off := 0 }), x4, x5, x6, Value.pointer (some { block := W0.heap.size + 3, off := 0 }), Value.pointer (some { block := W0.heap.size + 5, off := 0 }), Value.pointer (some { block := b9, off := 0 }), Value.pointer (some { block := b10, off := 0 }), Value.pointer (some { block := b11, off := 0 }), x12, x13, x14, x15, x16, x17, x18, x19, x20, x21, x22, x23, x24, x25, x26, x27, x28, x29, x30, x31, x32, x33, x34, x35, x36, x37, x38, x39, x40, x41, x42, x43, x44, x45, x46, x47, x48, x49, x50, x51, x52, x53, x54, x55, x56, x57, x58, x59, x60, x61, x62, x63], defers := [] } ∧ Blk A b10 #[.int .i64 (x.1 : Int), .int .i64 (x.2 : Int)] 97 ∧ Blk A b11 (stk (nth (flL sg s x.1 x.2))) 53 ∧ b9 + 2 < b11 ∧ x ∈ mvL n sg an)
    (fun x a' A A' hx hbk => by
      obtain ⟨b10, b11, x0, x1, x2, x4, x5, x6, x12, x13, x14, x15, x16, x17, x18, x19, x20, x21, x22, x23, x24, x25, x26, x27, x28, x29, x30, x31, x32, x33, x34, x35, x36, x37, x38, x39, x40, x41, x42, x43, x44, x45, x46, x47, x48, x49, x50, x51, x52, x53, x54, x55, x56, x57, x58, x59, x60, x61, x62, x63, e, h1, h2, h3⟩ := hx
      exact ⟨b10, b11, x0, x1, x2, x4, x5, x6, x12, x13, x14, x15, x16, x17, x18, x19, x20, x21, x22, x23, x24, x25, x26, x27, x28, x29, x30, x31, x32, x33, x34, x35, x36, x37, x38, x39, x40, x41, x42, x43, x44, x45, x46, x47, x48, x49, x50, x51, x52, x53, x54, x55, x56, x57, x58, x59, x60, x61, x62, x63, e, hbk _ _ h1 rfl, hbk _ _ h2 rfl, h3⟩) ?assign ?body ?done ?stop
  case assign =>
    intro l pre x rest W K hL hi hr hK
    have hxm : x ∈ mvL n sg an := by rw [hL]; simp
    have hmx := mem_mv hxm
    have hst : stk (nth (flL sg s x.1 x.2)) = stk (fl sg (nth s) x.1 (x.2 + 1)) := by rw [nth_flL sg s x.1 x.2 (by rw [hvs.1]; exact hmx.2.1)]
    obtain ⟨⟨M', q', L', v', hB'⟩, hM'⟩ := hi
    have hszW := hB'.out.size
    obtain ⟨c0, hc0⟩ : ∃ c0, asgC = c0 := ⟨_, rfl⟩
    have hc := hc0
    unfold asgC at hc
    simp only [codeOf, Tryd.f43, findBlk, Option.or_some, Option.none_or, Option.or_none, if_true, if_false, Nat.reduceEqDiff, reduceIte, Option.getD_some, Option.getD_none] at hc
    rw [hc0]
    clear hc0
    subst hc
    have HK := Aside0.mk hK
    have HST := Aside0.mk hst
    have HB := Aside0.mk hB'.out
    have HM' := Aside0.mk hM'
    have HXM := Aside0.mk hxm
    clear hK hr hL hgo h hb1 hb2 hM hMl hvs hst hB' hM' hxm hmx
    unfold encM
    obtain ⟨tm, htm⟩ : ∃ tm, fl sg (nth s) x.1 (x.2 + 1) = tm := ⟨_, rfl⟩
    rw [htm]
    rw [htm] at HST
    clear htm
    simp only [List.zip_toArray, List.zip_cons_cons, List.zip_nil_left, stk]
    gi_wp2
    have hb1 := (Below.refl W.heap.size W).alloc (Nat.le_refl _) (Obj.cells #[Value.int IntKind.i64 (x.1 : Int), Value.int IntKind.i64 (x.2 : Int)] 97)
    have hb2 := hb1.alloc (by simp) (Obj.cells #[Value.int IntKind.i8 (tm 0), Value.int IntKind.i8 (tm 1), Value.int IntKind.i8 (tm 2), Value.int IntKind.i8 (tm 3), Value.int IntKind.i8 (tm 4), Value.int IntKind.i8 (tm 5), Value.int IntKind.i8 (tm 6)] 53)
    refine HK.out _ _ ((RB.refl _ _ W).below hb2) ⟨⟨M', q', L', v', .mk (HB.out.below_ hb2)⟩, HM'.out.rx ((RB.refl 0 (keepS b9) W).below hb2).rx⟩ ⟨W.heap.size, W.heap.size + 1, _, _, _, _, _, _, _, _, _, _, _, _, _, _, _, _, _, _, _, _, _, _, _, _, _, _, _, _, _, _, _, _, _, _, _, _, _, _, _, _, _, _, _, _, _, _, _, _, _, _, _, _, _, _, _, _, _, _, rfl, (Blk.new W _ 97).alloc _, ?_, by omega, HXM.out⟩
    rw [HST.out]
    have := Blk.new (W.alloc (Obj.cells #[Value.int IntKind.i64 (x.1 : Int), Value.int IntKind.i64 (x.2 : Int)] 97)) (stk tm) 53
    rw [World.size_alloc] at this
    exact this
  case body =>
    rintro l pre x rest a' W hL hle2 hr ⟨⟨M', q', L', v', hB'⟩, hM'⟩ ⟨b10, b11, x0, x1, x2, x4, x5, x6, x12, x13, x14, x15, x16, x17, x18, x19, x20, x21, x22, x23, x24, x25, x26, x27, x28, x29, x30, x31, x32, x33, x34, x35, x36, x37, x38, x39, x40, x41, x42, x43, x44, x45, x46, x47, x48, x49, x50, x51, x52, x53, x54, x55, x56, x57, x58, x59, x60, x61, x62, x63, rfl, h10, h11, hlt11, hxm⟩
    refine wpIn_mono (body_step l _ n sg an hn to_ U W0 W b9 k b10 b11 hk2 s pre x hxm M' q' L' v' hB'.out h10 h11 hlt11 _ _ _ _ _ _ _ _ _ _ _ _ _ _ _ _ _ _ _ _ _ _ _ _ _ _ _ _ _ _ _ _ _ _ _ _ _ _ _ _ _ _ _ _ _ _ _ _ _ _ _ _ _ _ _ _ _ _) ?_
    rintro e a3 W3 hp
    cases e with
    | normal => exact ⟨hp.1, hp.2, hM'.rx hp.1.rx⟩
    | ret => exact hp.2.elim
    | exit id => exact hp.2.elim
    | goto t => exact hp.2.elim
    | panic ch => exact hp
    | outgrown => exact hp
  case done =>
    rintro D' W hD ⟨⟨M', q', L', v', hB'⟩, hM'⟩ hdef
    have hB := hB'.out
    have hk := hB.k_
    exact hgo W D' (hM'.cons (fun r hr => by have := hMl r hr; omega) (by omega) hdef) ⟨2 * (15 ^ n - L'.length) + q'.length, M', q', L', v', hk, ⟨Rm.finish hB.rm, hB.by_, rfl, hB.map_, hB.row, hB.box8, hB.box7, hB.box3, hB.below, hB.full, hB.ql, hB.tr.finish⟩⟩
  case stop =>
    rintro D' c pre x rest W hL hD hc hdef
    exact hc.elim
end Go.Proofs.YtbadfjogakhhbaaDoor.G
namespace Go.Proofs.YtbadfjogakhhbaaDoor.G
open Go.Proofs.YtbadfjogakhhbaaDoor.Q Go.Proofs.YtbadfjogakhhbaaDoor.K Go.Proofs.YtbadfjogakhhbaaDoor.It Go.Proofs.YtbadfjogakhhbaaDoor.Bf
open Go.RowKit Go.Shelf Go.Proofs.YtbadfjogakhhbaaDoorW.PrintWords Go.Proofs.YtbadfjogakhhbaaDoorW.PrintLast Go.Proofs.YtbadfjogakhhbaaDoorW.PrintMore
set_option linter.unusedVariables false
set_option linter.unusedSimpArgs false
attribute [local go_sem] Oper.semAt_some
def unloop : Code → Code
  | .loop c => c
  | c => c
/-- The loop's round; the statements that take the queue's head. -/
noncomputable def roundC : Code := unloop ((findBlk 0 (codeOf Tryd.f43)).getD .skip)
noncomputable def takeC : Code := (findBlk 1 (codeOf Tryd.f43)).getD .skip
theorem round_eq : roundC = .seq (fstC roundC) (.block 1 (.seq (fstC takeC) (.seq (fstC (sndC takeC)) (.seq (fstC (sndC (sndC takeC))) (.seq (fstC (sndC (sndC (sndC takeC)))) (.block 2 (.rangeFunc (.tmp 39) #[40, 41] asgC (.block 3 stepC)))))))) := by kernel_rfl
/-- What the search is to stop at. -/
def Un (n : Nat) (U : Option (List Int)) (uv : Value) (W0 : World) : Prop := (uv = .pointer none ∧ U = none) ∨ ∃ bu u, uv = .pointer (some ⟨bu, 0, none⟩) ∧ U = some u ∧ Vs n u ∧ bu < W0.heap.size ∧ Blk W0 bu (stk (nth u)) 53
set_option maxHeartbeats 1000000 in
theorem moves_calls (n : Nat) (sg an : Bool) (m : Nat → Int) (w : World) :
    Calls Tryd.prog 67 #[.agg #[.int .i64 n, .bool sg, .bool an], .agg (stk m)] w fun e w' => e = .returned (.func (.func 87) #[] #[.pointer (some ⟨w.heap.size, 0, none⟩), .pointer (some ⟨w.heap.size + 1, 0, none⟩)]) ∧ w' = (w.alloc (.cells #[.int .i64 n, .bool sg, .bool an] 47)).alloc (.cells (stk m) 53) := by
  go_enter Tryd.func67, Tryd.ntmps67
  go_wp2
  go_ret
  exact ⟨by simp, rfl⟩
theorem pop_run (ad : Addr) (n c : Nat) (hc : n + 1 ≤ c) (W : World) :
    (Instr.slice 129 (.slice (some ad) (n + 1) c) (some (.int .i64 1)) none none).run Tryd.prog W = .ok (.slice (if c = 1 then some ad else some (ad.add 7)) n (c - 1)) W := by
  obtain ⟨i0, hi0, _, hsz, _⟩ := info_parts info92
  have hs : (sizeOf 53).run Tryd.prog W = .ok 7 W := by simp [sizeOf, typeInfo, hi0, hsz]
  have he : Tryd.prog.elem 129 = 53 := by kernel_rfl
  have hu : Tryd.prog.underlying 129 = some (.slice (Tryd.prog.elem 129)) := by rw [he]; exact u134
  rw [run_slice_l (P := Tryd.prog) W 129 (some ad) (n + 1) c hu .i64 1 (by omega) (by omega), he, hs]
  have e1 : (1 : Int).toNat = 1 := rfl
  simp only [Result.andThen, sliced, e1, Option.map_some, Nat.one_mul, Nat.add_sub_cancel]
theorem row_head {W : World} {base n c : Nat} {A : Option Addr} {s : List Int} {q : List (List Int)} (h : QRow W base 53 7 (.slice A (n + 1) c) (n + 1) (flat (s :: q))) :
    ∃ g o, A = some ⟨g, o, none⟩ ∧ base ≤ g ∧ g < W.heap.size ∧ ∀ i, i < 7 → W.cell? ⟨g, o + i, none⟩ = some (.int .i8 (nth s i)) := by
  obtain ⟨ad, e, hc⟩ := q_cells h (by omega)
  obtain ⟨hb, cells, hh⟩ := q_typed h ad.block (by rw [e]; rfl)
  have hlt := q_lt h ad.block (by rw [e]; rfl)
  rcases h.2 with ⟨h0, _⟩ | ⟨g, off, cap, cur, hv, _⟩
  · omega
  · rw [e] at hv
    injection hv with hv
    injection hv with hv
    subst hv
    refine ⟨g, off * 7, e, hb, hlt, fun i hi => ?_⟩
    rw [← add_at]
    apply hc
    rw [flat_cons, List.getElem?_append_left (by simp [stk]; omega)]
    simpa using stk_get (nth s) i hi
theorem row_tail {W : World} {base n c : Nat} {ad : Addr} {s : List Int} {q : List (List Int)} (h : QRow W base 53 7 (.slice (some ad) (n + 1) c) (n + 1) (flat (s :: q))) :
    QRow W base 53 7 (.slice (if c = 1 then some ad else some (ad.add 7)) n (c - 1)) n (flat q) := by
  have := q_drop (k := 1) h (by omega)
  have e : (flat (s :: q)).drop (1 * 7) = flat q := by rw [flat_cons, List.drop_left' (by simp [stk])]
  rw [e] at this
  exact this
set_option maxRecDepth 100000 in
set_option maxHeartbeats 4000000 in
theorem search_test (D n : Nat) (sg an : Bool) (to_ : List Int) (U : Option (List Int)) (uv : Value) (W0 W5 : World) (k : Nat) (M : Km) (q L : List (List Int)) (v : Value) (h : Hd n sg an to_ U W0 W5 k M q L v) (ds : List Deferred) (x0 x1 x4 x5 x6 x9 x10 x11 x12 x13 x14 x15 x16 x17 x18 x19 x20 x21 x22 x23 x24 x25 x26 x27 x28 x29 x30 x31 x32 x33 x34 x35 x36 x37 x38 x39 x40 x41 x42 x43 x44 x45 x46 x47 x48 x49 x50 x51 x52 x53 x54 x55 x56 x57 x58 x59 x60 x61 x62 x63 : Value)
    (K : Act → World → Prop) (Q' : Exit → Act → World → Prop)
    (hX : ∀ (x0 x1 x4 x5 x6 x9 x10 x11 x12 x13 x14 x15 x16 x17 x18 x19 x20 x21 x22 x23 x24 x25 x26 x27 x28 x29 x30 x31 x32 x33 x34 x35 x36 x37 x38 x39 x40 x41 x42 x43 x44 x45 x46 x47 x48 x49 x50 x51 x52 x53 x54 x55 x56 x57 x58 x59 x60 x61 x62 x63 : Value), q = [] → Q' (.exit 0) { tmps := #[x0, x1, uv, Value.pointer (some { block := W0.heap.size, off := 0 }), x4, x5, x6, Value.pointer (some { block := W0.heap.size + 3, off := 0 }), Value.pointer (some { block := W0.heap.size + 5, off := 0 }), x9, x10, x11, x12, x13, x14, x15, x16, x17, x18, x19, x20, x21, x22, x23, x24, x25, x26, x27, x28, x29, x30, x31, x32, x33, x34, x35, x36, x37, x38, x39, x40, x41, x42, x43, x44, x45, x46, x47, x48, x49, x50, x51, x52, x53, x54, x55, x56, x57, x58, x59, x60, x61, x62, x63], defers := ds } W5)
    (hK : ∀ (x0 x1 x4 x5 x6 x9 x10 x11 x12 x13 x14 x15 x16 x17 x18 x19 x20 x21 x22 x23 x24 x25 x26 x27 x28 x29 x30 x31 x32 x33 x34 x35 x36 x37 x38 x39 x40 x41 x42 x43 x44 x45 x46 x47 x48 x49 x50 x51 x52 x53 x54 x55 x56 x57 x58 x59 x60 x61 x62 x63 : Value), q ≠ [] → K { tmps := #[x0, x1, uv, Value.pointer (some { block := W0.heap.size, off := 0 }), x4, x5, x6, Value.pointer (some { block := W0.heap.size + 3, off := 0 }), Value.pointer (some { block := W0.heap.size + 5, off := 0 }), x9, x10, x11, x12, x13, x14, x15, x16, x17, x18, x19, x20, x21, x22, x23, x24, x25, x26, x27, x28, x29, x30, x31, x32, x33, x34, x35, x36, x37, x38, x39, x40, x41, x42, x43, x44, x45, x46, x47, x48, x49, x50, x51, x52, x53, x54, x55, x56, x57, x58, x59, x60, x61, x62, x63], defers := ds } W5) :
    (fstC roundC).wpIn Fence.wide D Tryd.prog (Exit.then K Q') { tmps := #[x0, x1, uv, Value.pointer (some { block := W0.heap.size, off := 0 }), x4, x5, x6, Value.pointer (some { block := W0.heap.size + 3, off := 0 }), Value.pointer (some { block := W0.heap.size + 5, off := 0 }), x9, x10, x11, x12, x13, x14, x15, x16, x17, x18, x19, x20, x21, x22, x23, x24, x25, x26, x27, x28, x29, x30, x31, x32, x33, x34, x35, x36, x37, x38, x39, x40, x41, x42, x43, x44, x45, x46, x47, x48, x49, x50, x51, x52, x53, x54, x55, x56, x57, x58, x59, x60, x61, x62, x63], defers := ds } W5 := by
  obtain ⟨c0, hc0⟩ : ∃ c0, fstC roundC = c0 := ⟨_, rfl⟩
  have hc := hc0
  simp only [roundC, unloop, codeOf, Tryd.f43, findBlk, Option.or_some, Option.none_or, Option.or_none, if_true, if_false, Nat.reduceEqDiff, reduceIte, Option.getD_some, sndC, fstC] at hc
  rw [hc0]
  clear hc0
  subst hc
  obtain ⟨A, cap, hv, hcap⟩ := q_slice h.row
  have hc8 := h.box8.cell 0 (v := v) rfl
  rw [hv] at hc8
  have HX := Aside0.mk hX
  have HK := Aside0.mk hK
  clear hX hK h hv hcap
  cases q with
  | nil =>
    simp only [List.length_nil] at hc8
    gi_wp2
    exact HX.out _ _ _ _ _ _ _ _ _ _ _ _ _ _ _ _ _ _ _ _ _ _ _ _ _ _ _ _ _ _ _ _ _ _ _ _ _ _ _ _ _ _ _ _ _ _ _ _ _ _ _ _ _ _ _ _ _ _ _ _ (by first | rfl | trivial)
  | cons s q =>
    have hl : (0 : Int) < ((q.length + 1 : Nat) : Int) := by omega
    simp only [List.length_cons] at hc8
    gi_wp2
    exact HK.out _ _ _ _ _ _ _ _ _ _ _ _ _ _ _ _ _ _ _ _ _ _ _ _ _ _ _ _ _ _ _ _ _ _ _ _ _ _ _ _ _ _ _ _ _ _ _ _ _ _ _ _ _ _ _ _ _ _ _ _ (by simp)
set_option maxRecDepth 100000 in
set_option maxHeartbeats 8000000 in
theorem search_take (D : Nat) (hD : 1 ≤ D) (B : Code) (n : Nat) (sg an : Bool) (hn : n ≤ 7) (to_ : List Int) (U : Option (List Int)) (uv : Value) (W0 W5 : World) (hU : Un n U uv W0) (k : Nat) (M : Km) (s : List Int) (q L : List (List Int)) (v : Value) (h : Hd n sg an to_ U W0 W5 k M (s :: q) L v) (ds : List Deferred) (x0 x1 x4 x5 x6 x9 x10 x11 x12 x13 x14 x15 x16 x17 x18 x19 x20 x21 x22 x23 x24 x25 x26 x27 x28 x29 x30 x31 x32 x33 x34 x35 x36 x37 x38 x39 x40 x41 x42 x43 x44 x45 x46 x47 x48 x49 x50 x51 x52 x53 x54 x55 x56 x57 x58 x59 x60 x61 x62 x63 : Value)
    (Q' : Exit → Act → World → Prop)
    (hX : ∀ (W6 : World) (x0 x1 x4 x5 x6 x9 x10 x11 x12 x13 x14 x15 x16 x17 x18 x19 x20 x21 x22 x23 x24 x25 x26 x27 x28 x29 x30 x31 x32 x33 x34 x35 x36 x37 x38 x39 x40 x41 x42 x43 x44 x45 x46 x47 x48 x49 x50 x51 x52 x53 x54 x55 x56 x57 x58 x59 x60 x61 x62 x63 : Value), U = some s → RX W5 W6 → Kn W6 (W0.heap.size + 2) L.length n M → Blk W6 (W0.heap.size + 3) #[.map (some (W0.heap.size + 2))] 93 → Below W0.heap.size W0 W6 → Q' (.exit 0) { tmps := #[x0, x1, uv, Value.pointer (some { block := W0.heap.size, off := 0 }), x4, x5, x6, Value.pointer (some { block := W0.heap.size + 3, off := 0 }), Value.pointer (some { block := W0.heap.size + 5, off := 0 }), x9, x10, x11, x12, x13, x14, x15, x16, x17, x18, x19, x20, x21, x22, x23, x24, x25, x26, x27, x28, x29, x30, x31, x32, x33, x34, x35, x36, x37, x38, x39, x40, x41, x42, x43, x44, x45, x46, x47, x48, x49, x50, x51, x52, x53, x54, x55, x56, x57, x58, x59, x60, x61, x62, x63], defers := ds } W6)
    (hK : ∀ (W6 : World) (b9 : Nat) (v1 : Value) (x0 x1 x4 x5 x6 x10 x11 x12 x13 x14 x15 x16 x17 x18 x19 x20 x21 x22 x23 x24 x25 x26 x27 x28 x29 x30 x31 x32 x33 x34 x35 x36 x37 x38 x40 x41 x42 x43 x44 x45 x46 x47 x48 x49 x50 x51 x52 x53 x54 x55 x56 x57 x58 x59 x60 x61 x62 x63 : Value), RX W5 W6 → Bd n sg an to_ U W0 W6 b9 k s [] M q L v1 → Blk W6 (b9 + 1) #[.int .i64 n, .bool sg, .bool an] 47 → Blk W6 (b9 + 2) (stk (nth s)) 53 →
      B.wpIn Fence.wide D Tryd.prog Q' { tmps := #[x0, x1, uv, Value.pointer (some { block := W0.heap.size, off := 0 }), x4, x5, x6, Value.pointer (some { block := W0.heap.size + 3, off := 0 }), Value.pointer (some { block := W0.heap.size + 5, off := 0 }), Value.pointer (some { block := b9, off := 0 }), x10, x11, x12, x13, x14, x15, x16, x17, x18, x19, x20, x21, x22, x23, x24, x25, x26, x27, x28, x29, x30, x31, x32, x33, x34, x35, x36, x37, x38, Value.func (.func 87) #[] #[.pointer (some ⟨b9 + 1, 0, none⟩), .pointer (some ⟨b9 + 2, 0, none⟩)], x40, x41, x42, x43, x44, x45, x46, x47, x48, x49, x50, x51, x52, x53, x54, x55, x56, x57, x58, x59, x60, x61, x62, x63], defers := ds } W6) :
    (Code.seq (fstC takeC) (.seq (fstC (sndC takeC)) (.seq (fstC (sndC (sndC takeC))) (.seq (fstC (sndC (sndC (sndC takeC)))) B)))).wpIn Fence.wide D Tryd.prog Q' { tmps := #[x0, x1, uv, Value.pointer (some { block := W0.heap.size, off := 0 }), x4, x5, x6, Value.pointer (some { block := W0.heap.size + 3, off := 0 }), Value.pointer (some { block := W0.heap.size + 5, off := 0 }), x9, x10, x11, x12, x13, x14, x15, x16, x17, x18, x19, x20, x21, x22, x23, x24, x25, x26, x27, x28, x29, x30, x31, x32, x33, x34, x35, x36, x37, x38, x39, x40, x41, x42, x43, x44, x45, x46, x47, x48, x49, x50, x51, x52, x53, x54, x55, x56, x57, x58, x59, x60, x61, x62, x63], defers := ds } W5 := by
  obtain ⟨c0, hc0⟩ : ∃ c0, fstC takeC = c0 := ⟨_, rfl⟩
  obtain ⟨c1, hc1⟩ : ∃ c1, fstC (sndC takeC) = c1 := ⟨_, rfl⟩
  obtain ⟨c2, hc2⟩ : ∃ c2, fstC (sndC (sndC takeC)) = c2 := ⟨_, rfl⟩
  obtain ⟨c3, hc3⟩ : ∃ c3, fstC (sndC (sndC (sndC takeC))) = c3 := ⟨_, rfl⟩
  rw [hc0, hc1, hc2, hc3]
  simp only [takeC, unloop, codeOf, Tryd.f43, findBlk, Option.or_some, Option.none_or, Option.or_none, if_true, if_false, Nat.reduceEqDiff, reduceIte, Option.getD_some, Option.getD_none, sndC, fstC] at hc0 hc1 hc2 hc3
  subst hc0
  subst hc1
  subst hc2
  subst hc3
  have hvs : Vs n s := by
    obtain ⟨d, h1, h2⟩ := h.rd.pop.some_
    exact h.rd.v s (by rw [h1]; rfl)
  obtain ⟨A, cap, hv, hcap⟩ := q_slice h.row
  have hrow := h.row
  rw [hv] at hrow
  simp only [List.length_cons] at hrow hcap
  obtain ⟨gq, o, hA, hbg, hgl, hcells⟩ := row_head hrow
  subst hA
  have hc8 := h.box8.cell 0 (v := v) rfl
  rw [hv] at hc8
  simp only [List.length_cons] at hc8
  have hgcell := q_typed h.row gq (by rw [hv]; rfl)
  have htail := row_tail hrow
  have hpop : ∀ W, (Instr.slice 129 (.slice (some ⟨gq, o, none⟩) (q.length + 1) cap) (some (.int .i64 1)) none none).run Tryd.prog W = .ok (.slice (if cap = 1 then some (⟨gq, o, none⟩ : Addr) else some ((⟨gq, o, none⟩ : Addr).add 7)) q.length (cap - 1)) W := fun W => pop_run ⟨gq, o, none⟩ q.length cap (by omega) W
  obtain ⟨sm, hsm⟩ : ∃ sm, nth s = sm := ⟨_, rfl⟩
  rw [hsm] at hcells
  have z0 := hcells 0 (by omega)
  rw [Nat.add_zero] at z0
  have z1 := hcells 1 (by omega)
  have z2 := hcells 2 (by omega)
  have z3 := hcells 3 (by omega)
  have z4 := hcells 4 (by omega)
  have z5 := hcells 5 (by omega)
  have z6 := hcells 6 (by omega)
  have hf8 := h.box8.free 0
  have hl8 := h.box8.lt
  have hlb := h.below.size
  have k0 := h.box3.cell 0 (v := .int .i64 n) rfl
  have k1 := h.box3.cell 1 (v := .bool sg) rfl
  have k2 := h.box3.cell 2 (v := .bool an) rfl
  generalize hv1 : (if cap = 1 then some (⟨gq, o, none⟩ : Addr) else some ((⟨gq, o, none⟩ : Addr).add 7)) = A1 at hpop htail
  have hown1 : (Value.slice A1 q.length (cap - 1)).ownBlock = some gq := by rw [← hv1]; split <;> rfl
  have HSM := Aside0.mk hsm
  have HTL := Aside0.mk htail
  have HH := Aside0.mk h
  have HV := Aside0.mk hv
  have HG := Aside0.mk hgcell
  have HO := Aside0.mk hown1
  have HK := Aside0.mk hK
  have HX := Aside0.mk hX
  have HU := Aside0.mk hU
  have HVS := Aside0.mk hvs
  have hlen : (0 : Int) < ((q.length + 1 : Nat) : Int) := by omega
  clear hsm hrow htail hcells hv1 h hv hgcell hown1 hK hX hU hvs hcap
  gi_wp2
  obtain ⟨Wa, hWa⟩ : ∃ Wa, (W5.setCell ⟨W0.heap.size + 5, 0, none⟩ (Value.slice A1 q.length (cap - 1))).alloc (Obj.cells (stk sm) 53) = Wa := ⟨_, rfl⟩
  have hWa' : (W5.setCell ⟨W0.heap.size + 5, 0, none⟩ (Value.slice A1 q.length (cap - 1))).alloc (Obj.cells #[Value.int IntKind.i8 (sm 0), Value.int IntKind.i8 (sm 1), Value.int IntKind.i8 (sm 2), Value.int IntKind.i8 (sm 3), Value.int IntKind.i8 (sm 4), Value.int IntKind.i8 (sm 5), Value.int IntKind.i8 (sm 6)] 53) = Wa := hWa
  rw [hWa']
  have hsa : Wa.heap.size = W5.heap.size + 1 := by rw [← hWa]; simp [World.setCell]
  have hblk : ∀ {j t : Nat} {cs : Array Value}, j ≠ W0.heap.size + 5 → Blk W5 j cs t → Blk Wa j cs t := fun hj hb => by
    rw [← hWa]; exact (hb.setOther (by simpa using hj) _).alloc _
  have hnew : Blk Wa W5.heap.size (stk sm) 53 := by
    rw [← hWa]
    have := Blk.new (W5.setCell ⟨W0.heap.size + 5, 0, none⟩ (Value.slice A1 q.length (cap - 1))) (stk sm) 53
    simpa [World.setCell] using this
  have hb8 : Blk Wa (W0.heap.size + 5) #[.slice A1 q.length (cap - 1)] 129 := by
    rw [← hWa]; exact (HH.out.box8.set 0 _).alloc _
  have hrxa : RX W5 Wa := by
    rw [← hWa]
    exact ((RX.refl _).set (fun o ho => by have e := ho.symm.trans HH.out.box8; injection e with e; rw [e]; rfl)).below ((Below.refl _ _).alloc (Nat.le_refl _) _)
  have hbela : Below W0.heap.size W0 Wa := by
    rw [← hWa]
    exact (HH.out.below.setCell (by simp) _).alloc (by simp [World.setCell]; omega) _
  have hmap : Kn Wa (W0.heap.size + 2) L.length n M := HH.out.map_.mapsTo (by
    rw [← hWa, Below.heap_alloc _ _ _ (by simp [World.setCell]; have := HH.out.map_.lt; omega), Below.heap_setCell _ _ _ _ (by simp)])
  have hgne : gq ≠ W0.heap.size + 5 := fun e => by
    obtain ⟨_, cells, hcl⟩ := HG.out
    have e2 := HH.out.box8.symm.trans (e ▸ hcl)
    injection e2 with e2
    injection e2 with _ e3
    cases e3
  have hrowa : QRow Wa (W0.heap.size + 4) 53 7 (.slice A1 q.length (cap - 1)) q.length (flat q) := q_move HTL.out (fun j hj => by
    rw [HO.out] at hj
    injection hj with hj
    subst hj
    rw [← hWa, Below.heap_alloc _ _ _ (by simp [World.setCell]; omega), Below.heap_setCell _ _ _ _ (by simpa using hgne)])
  have HBN := Aside0.mk hnew
  have HB8 := Aside0.mk hb8
  have HRX := Aside0.mk hrxa
  have HBL := Aside0.mk hbela
  have HMP := Aside0.mk hmap
  have HRW := Aside0.mk hrowa
  have HSA := Aside0.mk hsa
  have HGN := Aside0.mk hgne
  have HB7 := Aside0.mk (hblk (by omega) HH.out.box7)
  have HB3 := Aside0.mk (hblk (by omega) HH.out.box3)
  clear z0 z1 z2 z3 z4 z5 z6 k0 k1 k2 hc8 hf8 hpop hWa hWa' hnew hb8 hrxa hbela hmap hrowa hsa hgne hblk
  obtain ⟨z0, z1, z2, z3, z4, z5, z6⟩ := stk_cells HBN.out
  have k0 := HB3.out.cell 0 (v := .int .i64 n) rfl
  have k1 := HB3.out.cell 1 (v := .bool sg) rfl
  have k2 := HB3.out.cell 2 (v := .bool an) rfl
  rcases HU.out with ⟨hu, hu2⟩ | ⟨bu, u, hu, hu2, hvu, hbu, hbk⟩
  · subst hu
    have HU2 := Aside0.mk hu2
    clear hu2
    gi_quiet (fail)
    clear HU HX
    gi_wp2
    refine ⟨trivial, ?_⟩
    gi_at_call 67
    refine CallsIn.mono (callsIn_wide.2 (moves_calls n sg an sm _)) ?_
    rintro e w' ⟨rfl, rfl⟩
    gi_wp2
    obtain ⟨W6, hW6⟩ : ∃ W6, ((Wa.drewN nq).alloc (.cells #[.int .i64 n, .bool sg, .bool an] 47)).alloc (.cells (stk sm) 53) = W6 := ⟨_, rfl⟩
    rw [hW6, HSA.out]
    have h0 : Below Wa.heap.size Wa (Wa.drewN nq) := pw_below_drewN (Below.refl _ _) _
    have hB6 : Below Wa.heap.size Wa W6 := by rw [← hW6]; exact (h0.alloc (by simp) _).alloc (by simp) _
    have hs6 : W6.heap.size = W5.heap.size + 3 := by rw [← hW6]; simp [HSA.out]
    have hbx : Blk W6 (W5.heap.size + 1) #[.int .i64 n, .bool sg, .bool an] 47 := by
      rw [← hW6]
      have := (Blk.new (Wa.drewN nq) #[.int .i64 (n : Int), .bool sg, .bool an] 47).alloc (.cells (stk sm) 53)
      simpa [HSA.out] using this
    have hbs : Blk W6 (W5.heap.size + 2) (stk sm) 53 := by
      rw [← hW6]
      have := Blk.new ((Wa.drewN nq).alloc (.cells #[.int .i64 n, .bool sg, .bool an] 47)) (stk sm) 53
      simpa [HSA.out] using this
    have hk := HH.out.k_
    simp only [List.length_cons] at hk
    refine HK.out W6 W5.heap.size (.slice A1 q.length (cap - 1)) _ _ _ _ _ _ _ _ _ _ _ _ _ _ _ _ _ _ _ _ _ _ _ _ _ _ _ _ _ _ _ _ _ _ _ _ _ _ _ _ _ _ _ _ _ _ _ _ _ _ _ _ _ _ _ _ _ _ (HRX.out.below hB6) ⟨HH.out.rd.pop, HH.out.by_, by omega, HMP.out.below hB6, row_below HRW.out hB6, fun j hj => ?_, blk_below HB8.out hB6, blk_below HB7.out hB6, blk_below HB3.out hB6, by rw [HSM.out]; exact blk_below HBN.out hB6, HBL.out.trans (hB6.mono HBL.out.size), by omega, by omega, HH.out.full, by have h9 := HH.out.ql; simp only [List.length_cons] at h9; omega, HH.out.tr.pop (by rw [HU2.out]; simp)⟩ hbx (by rw [HSM.out]; exact hbs)
    rw [HO.out] at hj
    injection hj with hj
    omega
  · subst hu
    obtain ⟨um, hum⟩ : ∃ um, nth u = um := ⟨_, rfl⟩
    have heq := fun W => stk_eq HVS.out hvu hn W
    have hbk2 := hbk.below HBL.out hbu
    rw [HSM.out, hum] at heq
    rw [hum] at hbk2
    unfold stk at heq
    obtain ⟨w0, w1, w2, w3, w4, w5, w6⟩ := stk_cells hbk2
    have HU2 := Aside0.mk hu2
    by_cases hsu : s = u
    · rw [decide_eq_true hsu] at heq
      have HSU := Aside0.mk hsu
      clear hu2 hbk hbk2 hvu hum hsu
      gi_quiet (fail)
      gi_wp2
      exact HX.out _ _ _ _ _ _ _ _ _ _ _ _ _ _ _ _ _ _ _ _ _ _ _ _ _ _ _ _ _ _ _ _ _ _ _ _ _ _ _ _ _ _ _ _ _ _ _ _ _ _ _ _ _ _ _ _ _ _ _ _ _ (by rw [HU2.out, HSU.out]) (HRX.out.below (pw_below_drewN (Below.refl _ _) _)) (HMP.out.below (pw_below_drewN (Below.refl _ _) _)) (blk_below HB7.out (pw_below_drewN (Below.refl _ _) _)) (pw_below_drewN HBL.out _)
    · rw [decide_eq_false hsu] at heq
      have HSU := Aside0.mk hsu
      clear hu2 hbk hbk2 hvu hum hsu
      gi_quiet (fail)
      clear HU HX
      gi_wp2
      refine ⟨trivial, ?_⟩
      gi_at_call 67
      refine CallsIn.mono (callsIn_wide.2 (moves_calls n sg an sm _)) ?_
      rintro e w' ⟨rfl, rfl⟩
      gi_wp2
      obtain ⟨W6, hW6⟩ : ∃ W6, ((Wa.drewN nq).alloc (.cells #[.int .i64 n, .bool sg, .bool an] 47)).alloc (.cells (stk sm) 53) = W6 := ⟨_, rfl⟩
      rw [hW6, HSA.out]
      have h0 : Below Wa.heap.size Wa (Wa.drewN nq) := pw_below_drewN (Below.refl _ _) _
      have hB6 : Below Wa.heap.size Wa W6 := by rw [← hW6]; exact (h0.alloc (by simp) _).alloc (by simp) _
      have hs6 : W6.heap.size = W5.heap.size + 3 := by rw [← hW6]; simp [HSA.out]
      have hbx : Blk W6 (W5.heap.size + 1) #[.int .i64 n, .bool sg, .bool an] 47 := by
        rw [← hW6]
        have := (Blk.new (Wa.drewN nq) #[.int .i64 (n : Int), .bool sg, .bool an] 47).alloc (.cells (stk sm) 53)
        simpa [HSA.out] using this
      have hbs : Blk W6 (W5.heap.size + 2) (stk sm) 53 := by
        rw [← hW6]
        have := Blk.new ((Wa.drewN nq).alloc (.cells #[.int .i64 n, .bool sg, .bool an] 47)) (stk sm) 53
        simpa [HSA.out] using this
      have hk := HH.out.k_
      simp only [List.length_cons] at hk
      refine HK.out W6 W5.heap.size (.slice A1 q.length (cap - 1)) _ _ _ _ _ _ _ _ _ _ _ _ _ _ _ _ _ _ _ _ _ _ _ _ _ _ _ _ _ _ _ _ _ _ _ _ _ _ _ _ _ _ _ _ _ _ _ _ _ _ _ _ _ _ _ _ _ _ (HRX.out.below hB6) ⟨HH.out.rd.pop, HH.out.by_, by omega, HMP.out.below hB6, row_below HRW.out hB6, fun j hj => ?_, blk_below HB8.out hB6, blk_below HB7.out hB6, blk_below HB3.out hB6, by rw [HSM.out]; exact blk_below HBN.out hB6, HBL.out.trans (hB6.mono HBL.out.size), by omega, by omega, HH.out.full, by have h9 := HH.out.ql; simp only [List.length_cons] at h9; omega, HH.out.tr.pop (by rw [HU2.out]; intro e; cases e; exact HSU.out rfl)⟩ hbx (by rw [HSM.out]; exact hbs)
      rw [HO.out] at hj
      injection hj with hj
      omega
end Go.Proofs.YtbadfjogakhhbaaDoor.G
namespace Go.Proofs.YtbadfjogakhhbaaDoor.G
open Go.Proofs.YtbadfjogakhhbaaDoor.Q Go.Proofs.YtbadfjogakhhbaaDoor.K Go.Proofs.YtbadfjogakhhbaaDoor.It Go.Proofs.YtbadfjogakhhbaaDoor.Bf
open Go.RowKit Go.Shelf Go.Proofs.YtbadfjogakhhbaaDoorW.PrintWords Go.Proofs.YtbadfjogakhhbaaDoorW.PrintLast Go.Proofs.YtbadfjogakhhbaaDoorW.PrintMore
set_option linter.unusedVariables false
set_option linter.unusedSimpArgs false
attribute [local go_sem] Oper.semAt_some
/-- What the search has found out, when it ends. -/
structure FinS (n : Nat) (sg an : Bool) (to_ : List Int) (U : Option (List Int)) (M : Km) (L : List (List Int)) : Prop where
  by_ : ByOk n sg an to_ M
  exact : ∀ x e, Sof M x = some e → Exact (nextK n sg an) to_ x e
  found : ∀ x e, Sof M x = some e → least (nextK n sg an) to_ x (15 ^ n + 1) = e
  tr : ∃ q, bfs n sg an U (15 ^ n) (ini to_) = (M, q, L)
  valid : ∀ x, (M x).isSome = true → Vs n x
  nodup : L.Nodup
  all : ∀ x, x ∈ L ↔ (M x).isSome = true
  done : (∀ x, M x = none → ∀ j, x ∉ ball (nextK n sg an) to_ j) ∨ ∃ u, U = some u ∧ (M u).isSome = true
def Fin (n : Nat) (sg an : Bool) (to_ : List Int) (U : Option (List Int)) (W0 W : World) : Prop :=
  ∃ M k L, FinS n sg an to_ U M L ∧ Kn W (W0.heap.size + 2) k n M ∧ Blk W (W0.heap.size + 3) #[.map (some (W0.heap.size + 2))] 93 ∧ Below W0.heap.size W0 W
theorem sof_some {M : Km} {x : List Int} : (Sof M x).isSome = (M x).isSome := by unfold Sof; cases M x <;> rfl
theorem Hd.fin {n : Nat} {sg an : Bool} {to_ : List Int} {U : Option (List Int)} {W0 wr : World} {k : Nat} {M : Km} {q L : List (List Int)} {v : Value} (h : Hd n sg an to_ U W0 wr k M q L v) (he : q = [] ∨ ∃ s r, q = s :: r ∧ U = some s) : FinS n sg an to_ U M L := by
  have htr : ∃ q, bfs n sg an U (15 ^ n) (ini to_) = (M, q, L) := by
    obtain ⟨j, h1, h2⟩ := h.tr
    have h3 := rd_count h.rd
    refine ⟨q, ?_⟩
    have h4 := h2 (15 ^ n - j)
    rw [show 15 ^ n - j + j = 15 ^ n by omega] at h4
    rw [h4]
    apply bfs_stop
    rcases he with rfl | ⟨s, r, rfl, hU⟩
    · rfl
    · simp [stops, hU]
  obtain ⟨A, B, d, hq, hs⟩ := h.rd.st
  refine ⟨h.by_, hs.exact, fun x e hx => h.rd.found hx (rd_count h.rd), htr, fun x hx => h.rd.v x (by rw [sof_some]; exact hx), h.rd.nodup, fun x => ⟨fun hx => by rw [← sof_some]; exact h.rd.seen x hx, fun hx => h.full x (by rw [sof_some]; exact hx)⟩, ?_⟩
  rcases he with rfl | ⟨s, r, rfl, hU⟩
  · left
    have : A = [] ∧ B = [] := by simpa using hq.symm
    obtain ⟨rfl, rfl⟩ := this
    intro x hx j
    exact hs.never (Sof_none.2 hx) j
  · right
    refine ⟨s, hU, ?_⟩
    obtain ⟨d, h1, _⟩ := h.rd.pop.some_
    rw [← sof_some, h1]; rfl
theorem Mk.lift {B : Nat} {rs : List Nat} {W : World} (h : Mk B rs W) : Mk B rs W := h
theorem leaves_marks {R : Ending → World → Prop} {f : Func} {tmps : Array Value} (B N : Nat) : ∀ (rs : List Nat) (W : World), Mk B rs W → B ≤ W.heap.size → (∀ W', Below B W W' → LeavesIn Fence.wide N Tryd.prog f tmps R [] .returning W') → LeavesInM Fence.wide N Tryd.prog f tmps R (rs.map mark) .returning W
  | [], W, _, _, h => h W (Below.refl _ _)
  | r :: rs, W, hM, hB, h => by
    obtain ⟨hnd, hall⟩ := hM
    obtain ⟨hr, hrs⟩ := List.nodup_cons.1 hnd
    have h1 := hall r (by simp)
    refine ⟨by simp, .inl ⟨r, _, rfl, run_takeDeferred h1.2, ?_⟩⟩
    have hbel : Below B W (W.putObj r (.deferred none)) := ⟨rfl, rfl, rfl, by simp, fun k hk => World.putObj_heap_other (by omega)⟩
    refine leaves_marks B N rs _ ⟨hrs, fun x hx => ?_⟩ (by simpa using hB) (fun W' hW' => h W' (hbel.trans hW'))
    have h2 := hall x (List.mem_cons_of_mem _ hx)
    exact ⟨h2.1, (World.putObj_heap_other (fun e => hr (by first | (rw [← e]; exact hx) | (rw [e]; exact hx)))).trans h2.2⟩
set_option maxRecDepth 100000 in
set_option maxHeartbeats 8000000 in
theorem search_loop (n : Nat) (sg an : Bool) (hn : n ≤ 7) (to_ : List Int) (U : Option (List Int)) (uv : Value) (W0 W : World) (hU : Un n U uv W0) (hH : ∃ k M q L v, Hd n sg an to_ U W0 W k M q L v) (x0 x1 x4 x5 x6 x9 x10 x11 x12 x13 x14 x15 x16 x17 x18 x19 x20 x21 x22 x23 x24 x25 x26 x27 x28 x29 x30 x31 x32 x33 x34 x35 x36 x37 x38 x39 x40 x41 x42 x43 x44 x45 x46 x47 x48 x49 x50 x51 x52 x53 x54 x55 x56 x57 x58 x59 x60 x61 x62 x63 : Value) (Q : Exit → Act → World → Prop)
    (hend : ∀ (W' : World) (rs : List Nat) (x0 x1 x4 x5 x6 x9 x10 x11 x12 x13 x14 x15 x16 x17 x18 x19 x20 x21 x22 x23 x24 x25 x26 x27 x28 x29 x30 x31 x32 x33 x34 x35 x36 x37 x38 x39 x40 x41 x42 x43 x44 x45 x46 x47 x48 x49 x50 x51 x52 x53 x54 x55 x56 x57 x58 x59 x60 x61 x62 x63 : Value), Mk W0.heap.size rs W' → Fin n sg an to_ U W0 W' → Q .normal { tmps := #[x0, x1, uv, Value.pointer (some { block := W0.heap.size, off := 0 }), x4, x5, x6, Value.pointer (some { block := W0.heap.size + 3, off := 0 }), Value.pointer (some { block := W0.heap.size + 5, off := 0 }), x9, x10, x11, x12, x13, x14, x15, x16, x17, x18, x19, x20, x21, x22, x23, x24, x25, x26, x27, x28, x29, x30, x31, x32, x33, x34, x35, x36, x37, x38, x39, x40, x41, x42, x43, x44, x45, x46, x47, x48, x49, x50, x51, x52, x53, x54, x55, x56, x57, x58, x59, x60, x61, x62, x63], defers := rs.map mark } W') :
    (Code.block 0 (.loop roundC)).wpIn Fence.wide 8 Tryd.prog Q { tmps := #[x0, x1, uv, Value.pointer (some { block := W0.heap.size, off := 0 }), x4, x5, x6, Value.pointer (some { block := W0.heap.size + 3, off := 0 }), Value.pointer (some { block := W0.heap.size + 5, off := 0 }), x9, x10, x11, x12, x13, x14, x15, x16, x17, x18, x19, x20, x21, x22, x23, x24, x25, x26, x27, x28, x29, x30, x31, x32, x33, x34, x35, x36, x37, x38, x39, x40, x41, x42, x43, x44, x45, x46, x47, x48, x49, x50, x51, x52, x53, x54, x55, x56, x57, x58, x59, x60, x61, x62, x63], defers := [] } W := by
  refine wpIn_block ?_
  refine wpIn_loop (fun a w => ∃ (rs : List Nat) (x0 x1 x4 x5 x6 x9 x10 x11 x12 x13 x14 x15 x16 x17 x18 x19 x20 x21 x22 x23 x24 x25 x26 x27 x28 x29 x30 x31 x32 x33 x34 x35 x36 x37 x38 x39 x40 x41 x42 x43 x44 x45 x46 x47 x48 x49 x50 x51 x52 x53 x54 x55 x56 x57 x58 x59 x60 x61 x62 x63 : Value), a = { tmps := #[x0, x1, uv, Value.pointer (some { block := W0.heap.size, off := 0 }), x4, x5, x6, Value.pointer (some { block := W0.heap.size + 3, off := 0 }), Value.pointer (some { block := W0.heap.size + 5, off := 0 }), x9, x10, x11, x12, x13, x14, x15, x16, x17, x18, x19, x20, x21, x22, x23, x24, x25, x26, x27, x28, x29, x30, x31, x32, x33, x34, x35, x36, x37, x38, x39, x40, x41, x42, x43, x44, x45, x46, x47, x48, x49, x50, x51, x52, x53, x54, x55, x56, x57, x58, x59, x60, x61, x62, x63], defers := rs.map mark } ∧ (∃ k M q L v, Hd n sg an to_ U W0 w k M q L v) ∧ Mk W0.heap.size rs w)
    (fun _ w => lst (fun k => ∃ M q L v, Hd n sg an to_ U W0 w k M q L v)) ⟨[], _, _, _, _, _, _, _, _, _, _, _, _, _, _, _, _, _, _, _, _, _, _, _, _, _, _, _, _, _, _, _, _, _, _, _, _, _, _, _, _, _, _, _, _, _, _, _, _, _, _, _, _, _, _, _, _, _, _, _, _, rfl, hH, ⟨List.nodup_nil, fun r hr => by cases hr⟩⟩ ?_
  rintro a w ⟨rs, x0, x1, x4, x5, x6, x9, x10, x11, x12, x13, x14, x15, x16, x17, x18, x19, x20, x21, x22, x23, x24, x25, x26, x27, x28, x29, x30, x31, x32, x33, x34, x35, x36, x37, x38, x39, x40, x41, x42, x43, x44, x45, x46, x47, x48, x49, x50, x51, x52, x53, x54, x55, x56, x57, x58, x59, x60, x61, x62, x63, rfl, ⟨k0, M0, q0, L0, v0, h0⟩, hM⟩
  obtain ⟨k, hk⟩ : ∃ k, k = lst (fun k => ∃ M q L v, Hd n sg an to_ U W0 w k M q L v) := ⟨_, rfl⟩
  have hsp := lst_spec (R := fun k => ∃ M q L v, Hd n sg an to_ U W0 w k M q L v) ⟨k0, M0, q0, L0, v0, h0⟩
  rw [← hk] at hsp
  obtain ⟨M, q, L, v, h⟩ := hsp
  clear h0 M0 q0 L0 v0 k0
  have hkb : k ≤ 400000000 := by
    have h1 := h.k_
    have h2 := p15 hn
    have h3 := h.ql
    have h4 := rd_count h.rd
    omega
  rw [round_eq]
  refine wpIn_seq_k (fun K hK => ?_)
  refine search_test 8 n sg an to_ U uv W0 w k M q L v h (rs.map mark) _ _ _ _ _ _ _ _ _ _ _ _ _ _ _ _ _ _ _ _ _ _ _ _ _ _ _ _ _ _ _ _ _ _ _ _ _ _ _ _ _ _ _ _ _ _ _ _ _ _ _ _ _ _ _ _ _ _ _ _ K _ ?_ ?_
  · intro x0 x1 x4 x5 x6 x9 x10 x11 x12 x13 x14 x15 x16 x17 x18 x19 x20 x21 x22 x23 x24 x25 x26 x27 x28 x29 x30 x31 x32 x33 x34 x35 x36 x37 x38 x39 x40 x41 x42 x43 x44 x45 x46 x47 x48 x49 x50 x51 x52 x53 x54 x55 x56 x57 x58 x59 x60 x61 x62 x63 hq
    exact hend w rs _ _ _ _ _ _ _ _ _ _ _ _ _ _ _ _ _ _ _ _ _ _ _ _ _ _ _ _ _ _ _ _ _ _ _ _ _ _ _ _ _ _ _ _ _ _ _ _ _ _ _ _ _ _ _ _ _ _ _ _ hM ⟨M, L.length, L, h.fin (.inl hq), h.map_, h.box7, h.below⟩
  · intro x0 x1 x4 x5 x6 x9 x10 x11 x12 x13 x14 x15 x16 x17 x18 x19 x20 x21 x22 x23 x24 x25 x26 x27 x28 x29 x30 x31 x32 x33 x34 x35 x36 x37 x38 x39 x40 x41 x42 x43 x44 x45 x46 x47 x48 x49 x50 x51 x52 x53 x54 x55 x56 x57 x58 x59 x60 x61 x62 x63 hq
    refine hK _ _ ?_
    clear hK
    cases q with
    | nil => exact absurd rfl hq
    | cons s q =>
      refine wpIn_block ?_
      refine search_take 8 (by omega) _ n sg an hn to_ U uv W0 w hU k M s q L v h (rs.map mark) _ _ _ _ _ _ _ _ _ _ _ _ _ _ _ _ _ _ _ _ _ _ _ _ _ _ _ _ _ _ _ _ _ _ _ _ _ _ _ _ _ _ _ _ _ _ _ _ _ _ _ _ _ _ _ _ _ _ _ _ _ ?_ ?_
      · intro W6 x0 x1 x4 x5 x6 x9 x10 x11 x12 x13 x14 x15 x16 x17 x18 x19 x20 x21 x22 x23 x24 x25 x26 x27 x28 x29 x30 x31 x32 x33 x34 x35 x36 x37 x38 x39 x40 x41 x42 x43 x44 x45 x46 x47 x48 x49 x50 x51 x52 x53 x54 x55 x56 x57 x58 x59 x60 x61 x62 x63 hs hrx hkn hb7 hbel
        exact hend W6 rs _ _ _ _ _ _ _ _ _ _ _ _ _ _ _ _ _ _ _ _ _ _ _ _ _ _ _ _ _ _ _ _ _ _ _ _ _ _ _ _ _ _ _ _ _ _ _ _ _ _ _ _ _ _ _ _ _ _ _ _ (hM.rx hrx) ⟨M, L.length, L, h.fin (.inr ⟨s, q, rfl, hs⟩), hkn, hb7, hbel⟩
      · intro W6 b9 v1 x0 x1 x4 x5 x6 x10 x11 x12 x13 x14 x15 x16 x17 x18 x19 x20 x21 x22 x23 x24 x25 x26 x27 x28 x29 x30 x31 x32 x33 x34 x35 x36 x37 x38 x40 x41 x42 x43 x44 x45 x46 x47 x48 x49 x50 x51 x52 x53 x54 x55 x56 x57 x58 x59 x60 x61 x62 x63 hrx hBd hb1 hb2
        refine search_range 4 n sg an hn to_ U W0 W6 b9 k hkb s M q L v1 hBd hb1 hb2 rs (hM.rx hrx) _ _ _ _ _ _ _ _ _ _ _ _ _ _ _ _ _ _ _ _ _ _ _ _ _ _ _ _ _ _ _ _ _ _ _ _ _ _ _ _ _ _ _ _ _ _ _ _ _ _ _ _ _ _ _ _ _ _ _ _ ?_
        rintro W' D' hm ⟨k', M', q', L', v', hlt, hH'⟩
        refine ⟨⟨D' :: rs, _, _, _, _, _, _, _, _, _, _, _, _, _, _, _, _, _, _, _, _, _, _, _, _, _, _, _, _, _, _, _, _, _, _, _, _, _, _, _, _, _, _, _, _, _, _, _, _, _, _, _, _, _, _, _, _, _, _, _, _, rfl, ⟨k', M', q', L', v', hH'⟩, hm⟩, ?_⟩
        have h1 := lst_le (R := fun k => ∃ M q L v, Hd n sg an to_ U W0 W' k M q L v) (k := k') ⟨M', q', L', v', hH'⟩
        rw [← hk]
        exact Nat.lt_of_le_of_lt h1 hlt
end Go.Proofs.YtbadfjogakhhbaaDoor.G
