/- HanoiWays: a shortest way between any two lists of discs, or ErrArg: the walk and the plain law, for every input. -/
import Derived.Test.YtnaaomhmoamfpaaDoorLHanoiWays
import Derived.StillTailTactics
import Derived.Test.YtnaaomhmoamfpaaDoorA1
import Derived.Test.YtnaaomhmoamfpaaDoorA4
import Derived.Test.YtnaaomhmoamfpaaDoorA3
/- Way: its contract. -/
namespace Go.Proofs.YtnaaomhmoamfpaaDoor.G
set_option linter.unusedVariables false
set_option linter.unusedSimpArgs false
set_option linter.unusedSectionVars false
open Go.Proofs.YtnaaomhmoamfpaaDoor.Q Go.Proofs.YtnaaomhmoamfpaaDoor.Hn Go.Proofs.YtnaaomhmoamfpaaDoor.K Go.Proofs.YtnaaomhmoamfpaaDoor.It
open Go.RowKit Go.Shelf Go.Proofs.YtnaaomhmoamfpaaDoorW.PrintWords Go.Proofs.YtnaaomhmoamfpaaDoorW.PrintLast Go.Proofs.YtnaaomhmoamfpaaDoorW.PrintMore
section
open Go.Proofs.YtnaaomhmoamfpaaDoorW.PrintWords.Kd
variable {P : Program} {ops : Array Oper} {o : Oper} {a : Act} {Q : Exit → Act → World → Prop} {Kc : Act → World → Prop} {α : Type}
theorem R_append_rows_st (d : Kd α) {Rr : α → List Value → Prop} {w0 W : World} (base : Nat) (hw : Region.wanted o (yielded ops a.tmps) = true) (s x : Operand) (t e : TypeId) (z : Value) (bytes : Nat)
    (ho : o.op = .call { callee := .builtin .append, args := #[s, x], argTypes := #[t, t] })
    (ht : P.underlying t = some (.slice e)) (hinfo : (P.info? e).map (fun i => (i.zero, i.size, i.bytes)) = some (some z, d.sz, bytes)) (hz : z.cells.size = d.sz) (hs0 : 0 < d.sz) (hb0 : 0 < bytes)
    (v : Value) (xs ys : List α) (A : Option Addr) (m c : Nat) (ok okp : Nat → Prop) (hs : a.eval s = v) (hx : a.eval x = .slice A m c)
    (HO : d.R e W base ok v xs) (HR : ReadsRow Rr d.sz W A m ys) (hKM : ∀ x cs, Rr x cs → d.M W base okp x cs) (hokp : ∀ k, okp k → ok k ∧ some k ≠ v.ownBlock) (hfresh : ∀ k, W.heap.size ≤ k → ok k)
    (HB : Below base w0 W) (hbase : base ≤ W.heap.size) (hl : (xs.length + m) * bytes ≤ 140737488355328)
    (h : ∀ v1 w1, d.R e w1 base ok v1 (xs ++ ys) → Below base w0 w1 → W.grownBy w1 v.ownBlock → (v1.ownBlock = v.ownBlock ∨ ∃ b, v1.ownBlock = some b ∧ W.heap.size ≤ b) → Kc (a.put o.dst v1) w1) :
    if Region.wanted o (yielded ops a.tmps) = true then Oper.wp P o a W Kc Q else Kc (a.put o.dst undef) W := by
  obtain ⟨i0, hi, hzz⟩ := Option.map_eq_some_iff.1 hinfo
  simp only [Prod.mk.injEq] at hzz
  obtain ⟨hz0, hz1, hz2⟩ := hzz
  have hm : ys.length = m := HR.1
  have hlen : xs.length + m ≤ 140737488355328 := Nat.le_trans (Nat.le_mul_of_pos_right _ hb0) hl
  obtain ⟨hok, inner, hown, hr⟩ := HO
  have hrun : ∃ v1 w1, (Builtin.append_ #[t, t] o.type #[v, .slice A m c]).run P W = .ok v1 w1 ∧ d.R e w1 base ok v1 (xs ++ ys) ∧ W.grownBy w1 v.ownBlock ∧ (v1.ownBlock = v.ownBlock ∨ ∃ b, v1.ownBlock = some b ∧ W.heap.size ≤ b) := by
    rcases A with _ | ad
    · have h0 : m = 0 := by
        rcases Nat.eq_zero_or_pos m with h0 | h0
        · exact h0
        · obtain ⟨ad, h, _⟩ := HR.2.2 h0
          cases h
      subst h0
      obtain rfl : ys = [] := List.eq_nil_of_length_eq_zero hm
      refine ⟨v, W, ?_, by rw [List.append_nil]; exact ⟨hok, inner, hown, hr⟩, World.grownBy.refl W _, .inl rfl⟩
      rcases hown.2 with ⟨rfl, hn⟩ | ⟨g, cap, cur, rfl, _, _, hnc, _⟩
      · simp [Builtin.append_, run_underlying ht, sizeOf, typeInfo, hi, Builtin.lenOf, Builtin.firstCells]
      · simp [Builtin.append_, run_underlying ht, sizeOf, typeInfo, hi, Builtin.lenOf, Builtin.firstCells, hnc, storeCells]
    · obtain ⟨news, hnr, hnc⟩ := ReadsRow.inner_ HR
      have hnM : Reps (d.M W base okp) d.sz ys news := hnr.imp_ (fun p c hp => hKM p c hp)
      have hone : ∀ u ∈ news, u.oneCell' = true := by
        intro u hu
        obtain ⟨q, hq, rfl⟩ := List.mem_iff_getElem.1 hu
        have hql : q / d.sz < ys.length := by
          rw [Nat.div_lt_iff_lt_mul hs0]
          rw [← hnM.1]
          exact hq
        have hc := hnM.2 (q / d.sz) _ (List.getElem?_eq_getElem hql)
        refine d.K_one (d.K_of_M hc) _ ?_
        rw [List.mem_iff_getElem?]
        refine ⟨q % d.sz, ?_⟩
        rw [List.getElem?_take, if_pos (Nat.mod_lt _ hs0), List.getElem?_drop, Nat.mul_comm, Nat.div_add_mod, List.getElem?_eq_getElem hq]
      obtain ⟨v1, w1, hrun, h2, hg, _, hat⟩ := run_append_own_at (P := P) W base t o.type e i0 z d.sz bytes ht hi hz0 hz1 hz2 hz hs0 v xs.length inner hown ad m c news (by rw [hnM.1, hm]) hnc hone (by simp only [maxLen]; omega) hl hbase
      have hat' : v1.ownBlock = v.ownBlock ∨ ∃ b, v1.ownBlock = some b ∧ W.heap.size ≤ b := by
        rcases hat with hat | hat
        · exact .inl hat
        · exact .inr ⟨_, hat, Nat.le_refl _⟩
      have hne : ∀ k, some k ≠ v.ownBlock → k < W.heap.size → some k ≠ v1.ownBlock := by
        intro k hk hlt
        rcases hat' with hat | ⟨b, hb, hle⟩
        · rw [hat]; exact hk
        · rw [hb]
          intro he
          injection he with he
          omega
      have step : ∀ {q : α} {c : List Value} {o : Nat → Prop}, d.M W base o q c → (∀ k, o k → ok k ∧ some k ≠ v.ownBlock) → d.M w1 base (fun k => ok k ∧ some k ≠ v1.ownBlock) q c := by
        intro q c o hq ho
        have h1 := d.M_move (w1 := w1) (fun k hk => hg.block k hk.2.2.1 (ho k hk.1).2) (d.M_bound hq)
        exact d.M_mono (fun k hk => ⟨(ho k hk.1).1, hne k (ho k hk.1).2 hk.2.2.1⟩) h1
      refine ⟨v1, w1, hrun, ⟨fun k hk => ?_, inner ++ news, by rw [List.length_append, hm]; exact h2, reps_append (hr.imp_ (fun _ _ hq => step hq (fun _ hk => hk))) (hnM.imp_ (fun _ _ hq => step hq hokp))⟩, hg, hat'⟩
      rcases hat' with hat | ⟨b, hb, hle⟩
      · exact hok k (hat ▸ hk)
      · rw [hb] at hk
        injection hk with hk
        exact hfresh k (by omega)
  obtain ⟨v1, w1, hr1, h1, hg, hat⟩ := hrun
  rw [if_pos hw]
  unfold Oper.wp execOp
  simp only [ho, resolve, invoke, builtin, Sem.run_bind, Sem.run_pure, Result.andThen_ok, List.map_toArray, List.map_cons, List.map_nil, hs, hx, hr1]
  exact h v1 w1 h1 (HB.grown hg hbase (own_base hown)) hg hat
theorem gate_call_st {W : World} {f : FuncId} {xs : Array Operand} {ts : Array TypeId} (_ho : o.op = .call { callee := .value (.func f), args := xs, argTypes := ts }) (h : if Region.wanted o (yielded ops a.tmps) = true then Oper.wp P o a W Kc Q else Kc (a.put o.dst undef) W) : if Region.wanted o (yielded ops a.tmps) = true then Oper.wp P o a W Kc Q else Kc (a.put o.dst undef) W := h
theorem gate_app_st {W : World} {xs : Array Operand} {ts : Array TypeId} (_ho : o.op = .call { callee := .builtin .append, args := xs, argTypes := ts }) (h : if Region.wanted o (yielded ops a.tmps) = true then Oper.wp P o a W Kc Q else Kc (a.put o.dst undef) W) : if Region.wanted o (yielded ops a.tmps) = true then Oper.wp P o a W Kc Q else Kc (a.put o.dst undef) W := h
end
/-- Way's loop: what holds at its head. -/
structure WayI (w : World) (bs gb g7 B cap k : Nat) (p1 p2 : Int) (l S : List Int) (i : Nat) (o : List S52) (d : List Int) (W : World) : Prop where
  run : wayRun k l (S.take i) = (o, d)
  J : WayJ w (bs + 1) gb B [(g7, #[.int .i64 (k : Int), .int .i64 p1, .int .i64 p2], 117), (bs, (S.map (Value.int .i64)).toArray, 3)] o [] W
  row : Kd.R (Kd.int .i64) 3 W w.heap.size (fun j => j = gb) (.slice (some ⟨gb, 0, none⟩) l.length cap) d
  len : d.length = l.length
  pos : DiscsL d
  olen : o.length ≤ i * 5000
theorem map_nth (l : List Int) (i : Nat) (h : i < l.length) : (l.map (Value.int .i64)).toArray[i]? = some (.int .i64 (nth l i)) := by
  simp [nth, h]
theorem wayRun_step (k : Nat) (l S : List Int) (i : Nat) (hi : i < S.length) {o : List S52} {d : List Int} {x st : Int} (h : wayRun k l (S.take i) = (o, d)) (hx : nth d k = x) (hs : nth S i = st) :
    wayRun k l (S.take (i + 1)) = (o ++ (gatherL k d (3 - x - st)).1.map mkI ++ [mkI (k, st)], (gatherL k d (3 - x - st)).2.set k st) := by
  have e : S.take (i + 1) = S.take i ++ [st] := by rw [← hs, List.take_succ_eq_append_getElem hi]; congr 1; simp [nth, hi]
  unfold wayRun at *
  rw [e, List.foldl_append, h]
  simp only [List.foldl_cons, List.foldl_nil, wayStep, hx]
theorem spread_len (l : List Int) (p : Int) : (spreadL l p).length ≤ 2 ^ l.length := by
  unfold spreadL
  rw [List.length_reverse, (bk_len _ _).1]
  have := gather_len l.length l p
  omega
theorem spread_calls_n (A0 : Option Addr) (c0 n : Nat) (l : List Int) (p : Int) (w : World) (hn : l.length = n) (hr0 : Kd.C (Kd.int .i64) w A0 n l) (hc0 : n ≤ c0) (h0 : 0 < n) (h12 : n ≤ 12) (hd : DiscsL l) (hp : Peg p) :
    Calls Tryd.prog 87 #[.slice A0 n c0, .int .i64 p] w fun e w' => ∃ v, e = .returned v ∧ Kd.R k52 52 w' w.heap.size (fun _ => True) v (spreadL l p) ∧ Below w.heap.size w w' := by
  subst hn
  exact spread_calls A0 c0 l p w hr0 hc0 h0 h12 hd hp
theorem way_stops_ok {l m : List Int} {k n : Nat} (hk : k < l.length) (hlen : m.length = l.length) (hd : DiscsL l) (hdm : DiscsL m) (ht : top (nth l) (nth m) l.length = k + 1) (hn : (stopsL l m k).length = n) :
    ∀ i, i < n → Peg (nth (stopsL l m k) i) ∧ nth (wayRun k l ((stopsL l m k).take i)).2 k ≠ nth (stopsL l m k) i := by
  have h1 := hd k hk
  have h2 := hdm k (by omega)
  have h3 := top_ne ht
  have h4 := third_peg h1 h2 h3
  have first : ∀ x, nth l k ≠ x → nth (wayRun k l []).2 k ≠ x := fun x h => h
  intro i hi
  unfold stopsL at *
  split at hn
  · rename_i c
    rw [if_pos c]
    have hi2 : i = 0 ∨ i = 1 := by simp at hn; omega
    rcases hi2 with rfl | rfl
    · exact ⟨h4, fun e => by have e : nth l k = 3 - nth l k - nth m k := e; unfold Peg at *; omega⟩
    · refine ⟨h2, fun e => ?_⟩
      have e1 : (wayRun k l (([3 - nth l k - nth m k, nth m k] : List Int).take 1)).2 = (gatherL k l (3 - nth l k - (3 - nth l k - nth m k))).2.set k (3 - nth l k - nth m k) := rfl
      rw [e1, nth_set_self _ _ _ (by rw [(gather_facts k l _ (by omega)).1]; exact hk)] at e
      have e : 3 - nth l k - nth m k = nth m k := e
      unfold Peg at *
      omega
  · rename_i c
    rw [if_neg c]
    have hi0 : i = 0 := by simp at hn; omega
    subst hi0
    exact ⟨h2, h3⟩
set_option maxHeartbeats 8000000 in
set_option maxRecDepth 100000 in
theorem way_bad (A0 : Option Addr) (c0 : Nat) (l : List Int) (A1 : Option Addr) (c1 : Nat) (m : List Int) (w : World) (hr0 : Kd.C (Kd.int .i64) w A0 l.length l) (hc0 : l.length ≤ c0) (hr1 : Kd.C (Kd.int .i64) w A1 m.length m) (hc1 : m.length ≤ c1) (hb : both l m = false) :
    Calls Tryd.prog 59 #[.slice A0 l.length c0, .slice A1 m.length c1] w fun e w' => ∃ v0_ : Value, e = .returned (.tuple #[v0_, .int .i64 (openD l m)]) ∧ Kd.R k52 52 w' w.heap.size (fun _ => True) v0_ ([] : List S52) ∧ Below w.heap.size w w' := by
  have HR := Aside0.mk hr0
  have HC := Aside0.mk hc0
  have HR1 := Aside0.mk hr1
  have HC1 := Aside0.mk hc1
  have HB := Aside0.mk (Below.refl w.heap.size w)
  clear hr0 hc0 hr1 hc1
  obtain ⟨k0, hk0⟩ := open_ev l m
  have HO := Aside0.mk (hk0 k0 (Nat.le_refl _))
  clear hk0
  have hne : openD l m ≠ 0 := fun h => by rw [(openD_zero l m).1 h] at hb; cases hb
  have hn0 : (openD l m != 0) = true := bne_iff_ne.2 hne
  obtain ⟨od, hod⟩ : ∃ od, openD l m = od := ⟨_, rfl⟩
  rw [hod] at HO hn0 hne ⊢
  go_enter Tryd.func59, Tryd.ntmps59
  go_wp2_with fail
  have hbl := Blk.new w #[Value.slice A0 l.length c0, Value.slice A1 m.length c1] 46
  have hB1 : Below w.heap.size w (w.alloc (Obj.cells #[Value.slice A0 l.length c0, Value.slice A1 m.length c1] 46)) := (Below.refl _ w).alloc (Nat.le_refl _) _
  refine (hanoi_open.calls k0 _ _ [l, m] _ _ (C_two hbl (Kd.C_below HR.out hB1) HC.out (Kd.C_below HR1.out hB1) HC1.out) (Nat.le_refl _) HO.out).mono ?_
  rintro e w1 ⟨rfl, hb⟩
  have HB1 := Aside0.mk (hB1.trans (hb.mono (by simp)))
  clear hb hbl hB1
  go_wp2
  go_ret2
  exact ⟨_, rfl, Kd.R_nil _ _ _ _ _, HB1.out⟩

set_option maxHeartbeats 8000000 in
set_option maxRecDepth 100000 in
theorem way_long (A0 : Option Addr) (c0 : Nat) (l : List Int) (A1 : Option Addr) (c1 : Nat) (m : List Int) (w : World) (hr0 : Kd.C (Kd.int .i64) w A0 l.length l) (hc0 : l.length ≤ c0) (hr1 : Kd.C (Kd.int .i64) w A1 m.length m) (hc1 : m.length ≤ c1) (hb : both l m = true) (hlong : 12 < l.length) :
    Calls Tryd.prog 59 #[.slice A0 l.length c0, .slice A1 m.length c1] w fun e w' => ∃ v0_ : Value, e = .returned (.tuple #[v0_, .int .i64 1]) ∧ Kd.R k52 52 w' w.heap.size (fun _ => True) v0_ ([] : List S52) ∧ Below w.heap.size w w' := by
  have HR := Aside0.mk hr0
  have HC := Aside0.mk hc0
  have HR1 := Aside0.mk hr1
  have HC1 := Aside0.mk hc1
  have HB := Aside0.mk (Below.refl w.heap.size w)
  clear hr0 hc0 hr1 hc1
  obtain ⟨k0, hk0⟩ := open_ev l m
  have HO := Aside0.mk (hk0 k0 (Nat.le_refl _))
  clear hk0
  rw [(openD_zero l m).2 hb] at HO
  have hl : (12 : Int) < (l.length : Int) := by omega
  go_enter Tryd.func59, Tryd.ntmps59
  go_wp2_with fail
  have hbl := Blk.new w #[Value.slice A0 l.length c0, Value.slice A1 m.length c1] 46
  have hB1 : Below w.heap.size w (w.alloc (Obj.cells #[Value.slice A0 l.length c0, Value.slice A1 m.length c1] 46)) := (Below.refl _ w).alloc (Nat.le_refl _) _
  refine (hanoi_open.calls k0 _ _ [l, m] _ _ (C_two hbl (Kd.C_below HR.out hB1) HC.out (Kd.C_below HR1.out hB1) HC1.out) (Nat.le_refl _) HO.out).mono ?_
  rintro e w1 ⟨rfl, hb⟩
  have HB1 := Aside0.mk (hB1.trans (hb.mono (by simp)))
  clear hb hbl hB1
  go_wp2
  go_ret2
  exact ⟨_, rfl, Kd.R_nil _ _ _ _ _, HB1.out⟩

set_option maxHeartbeats 8000000 in
set_option maxRecDepth 100000 in
theorem way_same (A0 : Option Addr) (c0 : Nat) (l : List Int) (A1 : Option Addr) (c1 : Nat) (m : List Int) (w : World) (hr0 : Kd.C (Kd.int .i64) w A0 l.length l) (hc0 : l.length ≤ c0) (hr1 : Kd.C (Kd.int .i64) w A1 m.length m) (hc1 : m.length ≤ c1) (hb : both l m = true) (hsh : l.length ≤ 12) (heq : l = m) :
    Calls Tryd.prog 59 #[.slice A0 l.length c0, .slice A1 m.length c1] w fun e w' => ∃ v0_ : Value, e = .returned (.tuple #[v0_, .int .i64 0]) ∧ Kd.R k52 52 w' w.heap.size (fun _ => True) v0_ ([] : List S52) ∧ Below w.heap.size w w' := by
  have HR := Aside0.mk hr0
  have HC := Aside0.mk hc0
  have HR1 := Aside0.mk hr1
  have HC1 := Aside0.mk hc1
  have HB := Aside0.mk (Below.refl w.heap.size w)
  clear hr0 hc0 hr1 hc1
  obtain ⟨k0, hk0⟩ := open_ev l m
  have HO := Aside0.mk (hk0 k0 (Nat.le_refl _))
  clear hk0
  rw [(openD_zero l m).2 hb] at HO
  obtain ⟨k2, hk2⟩ := equal_ev l m (by omega)
  have hq := hk2 k2 (Nat.le_refl _)
  rw [decide_eq_true heq] at hq
  have HQ := Aside0.mk hq
  have hl : ¬ (12 : Int) < (l.length : Int) := by omega
  clear hq hk2 heq hb hsh
  go_enter Tryd.func59, Tryd.ntmps59
  go_wp2_with fail
  have hbl := Blk.new w #[Value.slice A0 l.length c0, Value.slice A1 m.length c1] 46
  have hB1 : Below w.heap.size w (w.alloc (Obj.cells #[Value.slice A0 l.length c0, Value.slice A1 m.length c1] 46)) := (Below.refl _ w).alloc (Nat.le_refl _) _
  refine (hanoi_open.calls k0 _ _ [l, m] _ _ (C_two hbl (Kd.C_below HR.out hB1) HC.out (Kd.C_below HR1.out hB1) HC1.out) (Nat.le_refl _) HO.out).mono ?_
  rintro e w1 ⟨rfl, hb⟩
  have HB1 := Aside0.mk (hB1.trans (hb.mono (by simp)))
  clear hb hbl hB1
  go_wp2_with fail
  refine (slices_Equal_int_int.calls k2 _ _ _ _ _ _ _ _ (Kd.C_below HR.out HB1.out) HC.out (Kd.C_below HR1.out HB1.out) HC1.out HQ.out).mono ?_
  rintro e w2 ⟨rfl, hdr⟩
  have HB2 := Aside0.mk (HB1.out.trans (hdr.below.mono HB1.out.size))
  clear hdr
  go_wp2
  go_ret2
  exact ⟨_, rfl, Kd.R_nil _ _ _ _ _, HB2.out⟩

set_option maxHeartbeats 8000000 in
set_option maxRecDepth 100000 in
theorem way_main (A0 : Option Addr) (c0 : Nat) (l : List Int) (A1 : Option Addr) (c1 : Nat) (m : List Int) (k : Nat) (w : World) (hr0 : Kd.C (Kd.int .i64) w A0 l.length l) (hc0 : l.length ≤ c0) (hr1 : Kd.C (Kd.int .i64) w A1 m.length m) (hc1 : m.length ≤ c1) (hb : both l m = true) (hsh : l.length ≤ 12) (hne : l ≠ m) (ht : top (nth l) (nth m) l.length = k + 1) :
    Calls Tryd.prog 59 #[.slice A0 l.length c0, .slice A1 m.length c1] w fun e w' => ∃ v0_ : Value, e = .returned (.tuple #[v0_, .int .i64 0]) ∧ Kd.R k52 52 w' w.heap.size (fun _ => True) v0_ (wayOf l m k) ∧ Below w.heap.size w w' := by
  have HR := Aside0.mk hr0
  have HC := Aside0.mk hc0
  have HR1 := Aside0.mk hr1
  have HC1 := Aside0.mk hc1
  have HB := Aside0.mk (Below.refl w.heap.size w)
  clear hr0 hc0 hr1 hc1
  obtain ⟨k0, hk0⟩ := open_ev l m
  have HO := Aside0.mk (hk0 k0 (Nat.le_refl _))
  clear hk0
  rw [(openD_zero l m).2 hb] at HO
  obtain ⟨k2, hk2⟩ := equal_ev l m (by omega)
  have hq := hk2 k2 (Nat.le_refl _)
  rw [decide_eq_false hne] at hq
  have HQ := Aside0.mk hq
  obtain ⟨k3, hk3⟩ := planned_ev l m k hb ht
  have HPL := Aside0.mk (hk3 k3 (Nat.le_refl _))
  obtain ⟨⟨h0, h40, hd⟩, hdm, hlen⟩ := (both_iff l m).1 hb
  have HD := Aside0.mk hd
  have HDM := Aside0.mk hdm
  have HT := Aside0.mk ht
  have hk : k < l.length := by have := top_le (nth l) (nth m) l.length; omega
  have HLEN := Aside0.mk hlen
  have hl : ¬ (12 : Int) < (l.length : Int) := by omega
  clear hq hk2 hk3 hne hb hd hdm ht hlen
  go_enter Tryd.func59, Tryd.ntmps59
  go_wp2_with fail
  have hbl := Blk.new w #[Value.slice A0 l.length c0, Value.slice A1 m.length c1] 46
  have hB1 : Below w.heap.size w (w.alloc (Obj.cells #[Value.slice A0 l.length c0, Value.slice A1 m.length c1] 46)) := (Below.refl _ w).alloc (Nat.le_refl _) _
  refine (hanoi_open.calls k0 _ _ [l, m] _ _ (C_two hbl (Kd.C_below HR.out hB1) HC.out (Kd.C_below HR1.out hB1) HC1.out) (Nat.le_refl _) HO.out).mono ?_
  rintro e w1 ⟨rfl, hb⟩
  have HB1 := Aside0.mk (hB1.trans (hb.mono (by simp)))
  clear hb hbl hB1
  go_wp2_with fail
  refine (slices_Equal_int_int.calls k2 _ _ _ _ _ _ _ _ (Kd.C_below HR.out HB1.out) HC.out (Kd.C_below HR1.out HB1.out) HC1.out HQ.out).mono ?_
  rintro e w2 ⟨rfl, hdr⟩
  have HB2 := Aside0.mk (HB1.out.trans (hdr.below.mono HB1.out.size))
  clear hdr
  go_wp2_with fail
  refine (hanoi_planned.calls k3 _ _ _ _ _ _ _ _ _ _ (Kd.C_below HR.out HB2.out) HC.out (Kd.C_below HR1.out HB2.out) HC1.out HPL.out).mono ?_
  rintro e w3 ⟨rfl, hb3⟩
  have HB3 := Aside0.mk (HB2.out.trans (hb3.mono HB2.out.size))
  clear hb3
  obtain ⟨p1, hp1⟩ : ∃ p1, one (nth l) (nth m) k = p1 := ⟨_, rfl⟩
  obtain ⟨p2, hp2⟩ : ∃ p2, two (nth l) (nth m) k = p2 := ⟨_, rfl⟩
  rw [hp1, hp2]
  have HP1 := Aside0.mk hp1
  have HP2 := Aside0.mk hp2
  clear hp1 hp2
  have hu117 := Tryd.underlying117
  obtain ⟨ad, rfl, _⟩ := HR.out.2.2 h0
  obtain ⟨ad1, rfl, _⟩ := HR1.out.2.2 (by have := HLEN.out; omega)
  go_wp2
  obtain ⟨W4, hW4⟩ : ∃ W4, w3.alloc (Obj.cells #[Value.int IntKind.i64 (k : Int), Value.int IntKind.i64 p1, Value.int IntKind.i64 p2] 117) = W4 := ⟨_, rfl⟩
  have b7 : Blk W4 w3.heap.size #[Value.int IntKind.i64 (k : Int), Value.int IntKind.i64 p1, Value.int IntKind.i64 p2] 117 := by rw [← hW4]; exact Blk.new _ _ _
  have HB4 := Aside0.mk (show Below w.heap.size w W4 by rw [← hW4]; exact HB3.out.alloc HB3.out.size _)
  rw [hW4]
  clear hW4
  have hs3 := HB3.out.size
  obtain ⟨g7, hg7⟩ : ∃ g7, w3.heap.size = g7 := ⟨_, rfl⟩
  rw [hg7] at b7 hs3 ⊢
  clear hg7 HB1 HB2 HB3 HO HQ HPL
  have hlk := Kd.foot_int (Kd.C_below HR.out HB4.out) (k : Int) (by omega) (by omega)
  have hmk := Kd.foot_int (Kd.C_below HR1.out HB4.out) (k : Int) (by omega) (by have := HLEN.out; omega)
  rw [rd_nth, Int.toNat_natCast] at hlk hmk
  obtain ⟨fr, hfr⟩ : ∃ fr, nth l k = fr := ⟨_, rfl⟩
  obtain ⟨to', hto⟩ : ∃ to', nth m k = to' := ⟨_, rfl⟩
  have hpf : Peg fr := by rw [← hfr]; exact HD.out k hk
  have hpt : Peg to' := by rw [← hto]; exact HDM.out k (by have := HLEN.out; omega)
  have hft : fr ≠ to' := by rw [← hfr, ← hto]; exact top_ne HT.out
  rw [hfr] at hlk
  rw [hto] at hmk
  have HFR := Aside0.mk hfr
  have HTO := Aside0.mk hto
  have c70 := b7.cell 0 (v := .int .i64 (k : Int)) rfl
  have c71 := b7.cell 1 (v := .int .i64 p1) rfl
  have c72 := b7.cell 2 (v := .int .i64 p2) rfl
  have HB7 := Aside0.mk b7
  have hk0 : (0 : Int) ≤ (k : Int) := by omega
  have hk1 : (k : Int) < (l.length : Int) := by omega
  have hk2 : (k : Int) < (m.length : Int) := by have := HLEN.out; omega
  have HPF := Aside0.mk hpf
  have HPT := Aside0.mk hpt
  have HFT := Aside0.mk hft
  clear hfr hto b7 hpf hpt hft
  go_quiet (fail)
  obtain ⟨W5, hW5⟩ : ∃ W5, W4.drewN nq = W5 := ⟨_, rfl⟩
  have HB7' := Aside0.mk (show Blk W5 g7 #[Value.int IntKind.i64 (k : Int), Value.int IntKind.i64 p1, Value.int IntKind.i64 p2] 117 by rw [← hW5]; exact HB7.out)
  have HB5 := Aside0.mk (show Below w.heap.size w W5 by rw [← hW5]; exact pw_below_drewN HB4.out _)
  rw [hW5]
  clear hW5 HB4 HB7 c70 c71 c72 hlk hmk
  have c71 := (HB7'.out.alloc (Obj.cells #[Value.int IntKind.i64 to'] 3)).cell 1 (v := .int .i64 p1) rfl
  have c72 := (HB7'.out.alloc (Obj.cells #[Value.int IntKind.i64 to'] 3)).cell 2 (v := .int .i64 p2) rfl
  have hpp := HPF.out
  have hpq := HPT.out
  unfold Peg at hpp hpq
  have hw1 : IntKind.i64.wrap (3 - fr) = 3 - fr := by rw [i64_w, w64 (by omega) (by omega)]
  have hw2 : IntKind.i64.wrap (3 - fr - to') = 3 - fr - to' := by rw [i64_w, w64 (by omega) (by omega)]
  clear hpp hpq
  by_cases hc : p2 < p1
  · have hcb : decide (p2 < p1) = true := decide_eq_true hc
    have hS : stopsL l m k = [3 - fr - to', to'] := by unfold stopsL; rw [HP1.out, HP2.out, HFR.out, HTO.out, if_pos hc]
    have hok : ∀ i, i < 2 → Peg (nth [3 - fr - to', to'] i) ∧ nth (wayRun k l (([3 - fr - to', to'] : List Int).take i)).2 k ≠ nth [3 - fr - to', to'] i := by
      rw [← hS]
      exact way_stops_ok hk HLEN.out HD.out HDM.out HT.out (by rw [hS]; rfl)
    have HS := Aside0.mk hS
    have HOK := Aside0.mk hok
    clear hS hok
    go_wp2_with fail
    obtain ⟨bs, hbs⟩ : ∃ bs, W5.heap.size + 1 = bs := ⟨_, rfl⟩
    obtain ⟨V0, hV0⟩ : ∃ V0, (((W5.alloc (Obj.cells #[Value.int IntKind.i64 to'] 3)).alloc (Obj.cells #[Value.int IntKind.i64 (3 - fr - to'), Value.int IntKind.i64 to'] 3)).alloc (Obj.cells #[Value.slice none 0 0] 48)) = V0 := ⟨_, rfl⟩
    have zV : V0.heap.size = bs + 2 := by rw [← hV0, ← hbs]; simp
    have bst : Blk V0 bs #[Value.int IntKind.i64 (3 - fr - to'), Value.int IntKind.i64 (to')] 3 := by rw [← hV0, ← hbs]; have := Blk.new (W5.alloc (Obj.cells #[Value.int IntKind.i64 to'] 3)) #[Value.int IntKind.i64 (3 - fr - to'), Value.int IntKind.i64 (to')] 3; rw [World.size_alloc] at this; exact this.alloc _
    have bout : Blk V0 (bs + 1) #[Value.slice none 0 0] 48 := by rw [← hV0, ← hbs]; have := Blk.new ((W5.alloc (Obj.cells #[Value.int IntKind.i64 to'] 3)).alloc (Obj.cells #[Value.int IntKind.i64 (3 - fr - to'), Value.int IntKind.i64 (to')] 3)) #[Value.slice none 0 0] 48; rwa [World.size_alloc, World.size_alloc] at this
    have b7v : Blk V0 g7 #[Value.int IntKind.i64 (k : Int), Value.int IntKind.i64 p1, Value.int IntKind.i64 p2] 117 := by rw [← hV0]; exact ((HB7'.out.alloc _).alloc _).alloc _
    have hs5 := HB5.out.size
    have hbv : Below w.heap.size w V0 := by rw [← hV0]; exact ((HB5.out.alloc HB5.out.size _).alloc (by simp; omega) _).alloc (by simp; omega) _
    have h7w : w.heap.size ≤ g7 := hs3
    have h7s : g7 < bs := by have := HB7'.out.lt; omega
    have hwbs : w.heap.size ≤ bs := by omega
    have hcl := clone_f h0 (show l.length ≤ 1000 by omega)
    rw [hV0]
    rw [hbs]
    clear hV0 hbs HB5 HB7' c71 c72 hs5
    refine (slices_Clone_int_int.calls _ _ _ _ _ (Kd.C_below HR.out hbv) HC.out hcl).mono ?_
    rintro e V1 ⟨v1, rfl, ho1, hb1⟩
    obtain ⟨gb, cap, ev, hg1, hg2, hg3⟩ := Kd.R_form ho1 h0
    subst ev
    have m7 := b7v.below hb1 b7v.lt
    have mst := bst.below hb1 bst.lt
    have mout := bout.below hb1 bout.lt
    have mb : Below w.heap.size w V1 := hbv.trans (hb1.mono (by omega))
    have hI : WayI w bs gb g7 V1.heap.size cap k p1 p2 l [3 - fr - to', to'] 0 [] l V1 :=
      ⟨rfl, ⟨_, mout, Kd.R_nil _ _ _ _ _, Nat.le_refl _, mb, fun q hq => by
        simp only [List.mem_cons, List.not_mem_nil, or_false] at hq
        rcases hq with rfl | rfl
        · exact m7
        · exact mst⟩, Kd.R_lower (Kd.R_mono (Kd.R_tight rfl ho1) (fun j hj => Option.some.inj hj)) (by omega), rfl, HD.out, by simp⟩
    have HI0 := Aside0.mk hI
    have hgb : bs + 2 ≤ gb := by omega
    have hgB : gb < V1.heap.size := hg2
    obtain ⟨B, hB⟩ : ∃ B, V1.heap.size = B := ⟨_, rfl⟩
    rw [hB] at HI0 hgB
    clear ho1 hb1 hg1 hg2 hg3 m7 mst mout mb hI bst bout b7v hbv hcl hB zV
    go_wp2
    go_loopg [60] 2 (fun kq v60 W => ∃ (i : Nat) (o : List S52) (d : List Int), v60 = .int .i64 i ∧ i + kq = 2 ∧ Aside0 (WayI w bs gb g7 B cap k p1 p2 l [3 - fr - to', to'] i o d W))
    case atStart => exact ⟨0, [], l, rfl, rfl, HI0⟩
    case round =>
      clear HI0
      obtain ⟨i, o, d, rfl, hik, HI⟩ := hrel
      cases gk with
      | zero =>
        obtain rfl : i = 2 := by omega
        obtain ⟨u, j1, j2, j3, j4, j5⟩ := HI.out.J
        have hb7 := j5 _ List.mem_cons_self
        have c70 := hb7.cell 0 (v := .int .i64 (k : Int)) rfl
        rw [List.map_nil, List.append_nil] at j2
        obtain ⟨Au, cu, eu⟩ := Kd.R_slice j2
        subst eu
        have cou := j1.cell 0 (v := .slice Au o.length cu) rfl
        have fou := j1.free 0
        have hrun := HI.out.run
        rw [List.take_of_length_le (by simp)] at hrun
        have hway : wayOf l m k = if 0 < k then o ++ spreadL (m.take k) (nth d 0) else o := by unfold wayOf; rw [HS.out, hrun]
        have HWAY := Aside0.mk hway
        have J1 := Aside0.mk j1
        have J2 := Aside0.mk j2
        have J3 := Aside0.mk j3
        have J4 := Aside0.mk j4
        clear hrun hway j1 j2 j3 j4 j5 hb7
        by_cases ck : 0 < k
        · have hkp : (0 : Int) < (k : Int) := by omega
          obtain ⟨hcg, hfg⟩ := Kd.R_celln (0 : Int) HI.out.row ((0 : Nat) : Int) (by omega) (by omega)
          rw [Int.toNat_natCast] at hcg hfg
          have hrd : rdOf (0 : Int) d ((0 : Nat) : Int) = nth d 0 := by simp [rdOf, nth]
          rw [hrd] at hcg
          have hl0 : (0 : Int) < (l.length : Int) := by omega
          have hkc1 : (k : Int) ≤ (c1 : Int) := by have := HC1.out; omega
          have HPX := Aside0.mk (show Peg (nth d 0) from HI.out.pos 0 (by rw [HI.out.len]; exact h0))
          obtain ⟨x, hx⟩ : ∃ x, nth d 0 = x := ⟨_, rfl⟩
          rw [hx] at hcg HPX
          have HX := Aside0.mk hx
          have htl : (m.take k).length = k := by rw [List.length_take]; have := HLEN.out; omega
          have hCm : Kd.C (Kd.int .i64) wr.drew (some ad1) k (m.take k) := by
            have := Kd.C_take (Kd.C_below HR1.out (J4.out.drew)) (m := k) (by have := HLEN.out; omega)
            rwa [htl] at this
          have HCM := Aside0.mk hCm
          have HTL := Aside0.mk htl
          have HDT := Aside0.mk (discs_take HDM.out k)
          have HSL := Aside0.mk (show (spreadL (m.take k) x).length ≤ 5000 by have h1 := spread_len (m.take k) x; rw [htl] at h1; have h2 : 2 ^ k ≤ 2 ^ 12 := Nat.pow_le_pow_right (by omega) (by omega); omega)
          clear hrd hx hCm htl hfg
          go_wp2
          go_region_law (first | ((with_reducible refine gate_call_st (f := 87) rfl ?_); go_simp; go_at_call 87; refine (spread_calls_n _ _ k (m.take k) x _ HTL.out HCM.out (by omega) ck (by omega) HDT.out HPX.out).mono ?_; rintro e w4 ⟨v3, rfl, r1, r2⟩; obtain ⟨A3, c3, e3⟩ := Kd.R_slice r1; subst e3; have r3 : Below wr.heap.size wr w4 := ⟨r2.os, r2.tape, r2.output, r2.size, r2.block⟩; have b4 := J1.out.below r3 J1.out.lt; have co4 := b4.cell 0 (v := .slice Au o.length cu) rfl; have Q1 := Aside0.mk r1; have Q2 := Aside0.mk (Kd.R_below J2.out r3); have Q3 := Aside0.mk r3; have Q4 := Aside0.mk b4; clear r1 r2 r3 b4; dsimp only) | ((with_reducible refine gate_app_st rfl ?_); refine R_append_rows_st k52 (w0 := w4) B (by rfl) (.tmp 92) (.tmp 100) 48 52 (.agg #[(.int .i64 0), (.int .i64 0)]) 16 rfl u48 info52 rfl (by decide) (by omega) (.slice Au o.length cu) o (spreadL (m.take k) x) A3 _ c3 (fun j => j ≠ gb) (fun _ => False) rfl rfl Q2.out (Kd.R_reads' Q1.out).2.2 (fun y cs hy => by rw [k52_open hy]; exact k52_mkM _ _ _ _) (fun _ h => h.elim) (fun j hj => by have := Q3.out.size; have := J3.out; omega) (Below.refl _ _) (by have := Q3.out.size; have := J3.out; omega) (by have := HI.out.olen; have := HSL.out; omega) ?_; intro v5 w5 ho hb hg hat; obtain ⟨A5, c5, e5⟩ := Kd.R_slice ho; subst e5; rw [List.length_append] at ho hat; have hb9 := Blk.grown Q4.out hg (fun e => by have := Kd.R_base J2.out _ e; omega); have hc9 := hb9.cell 0 (v := .slice Au o.length cu) rfl; have hf9 := hb9.free 0; have G1 := Aside0.mk ho; have G2 := Aside0.mk hg; have G3 := Aside0.mk hb9; clear ho hb hg hat hb9))
          all_goals
            have hc99 := (G3.out.set 0 (.slice A5 (o.length + (spreadL (m.take k) x).length) c5)).cell 0 (v := .slice A5 (o.length + (spreadL (m.take k) x).length) c5) rfl
            have R5 := Aside0.mk (show Kd.R k52 52 (w5.setCell { block := bs + 1, off := 0 } (Value.slice A5 (o.length + (spreadL (m.take k) x).length) c5)) w.heap.size (fun _ => True) (.slice A5 (o.length + (spreadL (m.take k) x).length) c5) (o ++ spreadL (m.take k) x) from
              Kd.R_mono (Kd.R_lower (Kd.R_far (p := ⟨bs + 1, 0, none⟩) (Kd.R_bound G1.out) (fun j hj => by have := hj.2.1; show j ≠ bs + 1; omega) _) (by have := J4.out.size; have := J3.out; omega)) (fun _ _ => trivial))
            have B5 := Aside0.mk (show Below w.heap.size w (w5.setCell { block := bs + 1, off := 0 } (Value.slice A5 (o.length + (spreadL (m.take k) x).length) c5)) from
              ((J4.out.trans (Q3.out.mono J4.out.size)).grown G2.out (by have := J4.out.size; have := Q3.out.size; omega) (fun j e => by have := Kd.R_base J2.out _ e; omega)).setCell (by simp; omega) _)
            obtain ⟨W9, hW9⟩ : ∃ W9, w5.setCell { block := bs + 1, off := 0 } (Value.slice A5 (o.length + (spreadL (m.take k) x).length) c5) = W9 := ⟨_, rfl⟩
            rw [hW9] at hc99 R5 B5 ⊢
            clear hW9 hc9 hf9 hcg c70 cou fou co4
            go_wp2
            go_ret2
            rw [HWAY.out, if_pos ck, HX.out]
            exact ⟨_, rfl, R5.out, B5.out⟩
        · have hkp : ¬ (0 : Int) < (k : Int) := by omega
          go_wp2
          go_ret2
          rw [HWAY.out, if_neg ck]
          exact ⟨_, rfl, Kd.R_mono (Kd.R_lower J2.out (by have := J4.out.size; omega)) (fun _ _ => trivial), J4.out⟩
      | succ k9 =>
        have hiN : i < 2 := by omega
        have hiz : (i : Int) < 2 := by omega
        have hi0 : (0 : Int) ≤ (i : Int) := by omega
        obtain ⟨hps, hxs⟩ := HOK.out i hiN
        rw [HI.out.run] at hxs
        obtain ⟨u, j1, j2, j3, j4, j5⟩ := HI.out.J
        have hb7 := j5 _ List.mem_cons_self
        have hbst := j5 _ (List.mem_cons_of_mem _ List.mem_cons_self)
        have c70 := hb7.cell 0 (v := .int .i64 (k : Int)) rfl
        obtain ⟨st, hst⟩ : ∃ st, nth [3 - fr - to', to'] i = st := ⟨_, rfl⟩
        have cst : wr.cell? ⟨bs, i, none⟩ = some (.int .i64 st) := hbst.cell i (by rw [← hst]; exact map_nth _ _ (by simpa using hiN))
        obtain ⟨hcg, hfg⟩ := Kd.R_celln (0 : Int) HI.out.row (k : Int) (by omega) (by omega)
        rw [Int.toNat_natCast] at hcg hfg
        have hrd : rdOf (0 : Int) d (k : Int) = nth d k := by simp [rdOf, nth]
        rw [hrd] at hcg
        have hpx : Peg (nth d k) := HI.out.pos k (by rw [HI.out.len]; exact hk)
        obtain ⟨x, hx⟩ : ∃ x, nth d k = x := ⟨_, rfl⟩
        rw [hst] at hps hxs
        rw [hx] at hcg hpx hxs
        have hpt := third_peg hpx hps hxs
        have hq1 := hpx
        have hq2 := hps
        unfold Peg at hq1 hq2
        have hw1 : IntKind.i64.wrap (3 - x) = 3 - x := by rw [i64_w, w64 (by omega) (by omega)]
        have hw2 : IntKind.i64.wrap (3 - x - st) = 3 - x - st := by rw [i64_w, w64 (by omega) (by omega)]
        have hwi : IntKind.i64.wrap ((i : Int) + 1) = ((i + 1 : Nat) : Int) := by rw [i64_w, w64 (by omega) (by omega)]; rfl
        have hkc : (k : Int) ≤ (cap : Int) := by have := (Kd.R_reads' HI.out.row).2.1; omega
        have c70d : World.cell? { heap := wr.heap, tape := wr.tape, drawn := wr.drawn + 1, os := wr.os, output := wr.output } ⟨g7, 0, none⟩ = some (.int .i64 (k : Int)) := c70
        have hcgd : World.cell? { heap := wr.heap, tape := wr.tape, drawn := wr.drawn + 1, os := wr.os, output := wr.output } ⟨gb, k, none⟩ = some (.int .i64 x) := hcg
        have HX := Aside0.mk hx
        have HST := Aside0.mk hst
        have HPS := Aside0.mk hps
        have HPT' := Aside0.mk hpt
        have HWR := Aside0.mk (way_writer w (bs + 1) gb B l.length 100000 [(g7, #[.int .i64 (k : Int), .int .i64 p1, .int .i64 p2], 117), (bs, (([3 - fr - to', to'] : List Int).map (Value.int .i64)).toArray, 3)] (fun q hq => by
          simp only [List.mem_cons, List.not_mem_nil, or_false] at hq
          rcases hq with rfl | rfl
          · exact ⟨by show g7 ≠ bs + 1; omega, by show g7 ≠ gb; omega, by show g7 < B; omega⟩
          · exact ⟨by show bs ≠ bs + 1; omega, by show bs ≠ gb; omega, by show bs < B; omega⟩) o (by have := HI.out.olen; omega) (by omega) (by omega) (by omega) (by omega) (by omega))
        have hp12 : 2 ^ k ≤ 2 ^ 12 := Nat.pow_le_pow_right (by omega) (by omega)
        have J4 := Aside0.mk j4
        clear hps hxs j1 j2 j3 j4 j5 hb7 hbst hrd hpx hx hst hpt hq1 hq2 hfg
        go_wp2
        clear cst
        go_still_tail 13, (by kernel_rfl)
        go_wp2_with fail
        refine (gather_calls85 (bs + 1) gb l.length w.heap.size 100000 cap (by omega) (by omega) _ HWR.out k d (3 - x - st) [] wr.drew (by omega) (by simp; omega) HI.out.len HI.out.pos HPT'.out (by have := J4.out.size; exact this) (HWR.out.drew [] wr 1 HI.out.J) (Kd.R_drew HI.out.row)).mono ?_
        rintro e W1 ⟨⟨v, rfl⟩, g1, g2, g3⟩
        rw [List.nil_append] at g1
        obtain ⟨f1, f2, f3⟩ := gather_facts k d (3 - x - st) (by have := HI.out.len; omega)
        have f4 := gather_pos k d (3 - x - st) (by have := HI.out.len; omega) HI.out.pos HPT'.out
        have f5 := gather_len k d (3 - x - st)
        have hrun := wayRun_step k l [3 - fr - to', to'] i hiN HI.out.run HX.out HST.out
        obtain ⟨d1, hd1⟩ : ∃ d1, (gatherL k d (3 - x - st)).2 = d1 := ⟨_, rfl⟩
        obtain ⟨m1, hm1⟩ : ∃ m1, (gatherL k d (3 - x - st)).1 = m1 := ⟨_, rfl⟩
        rw [hd1] at g2 f1 f4 hrun
        rw [hm1] at g1 f5 hrun
        obtain ⟨u2, i1, i2, i3, i4, i5⟩ := g1
        have hb72 := i5 _ List.mem_cons_self
        obtain ⟨hcg1, hfg1⟩ := Kd.R_celln (0 : Int) g2 (k : Int) (by omega) (by omega)
        rw [Int.toNat_natCast] at hcg1 hfg1
        have c701 := hb72.cell 0 (v := .int .i64 (k : Int)) rfl
        have c702 := (hb72.setOther (a := ⟨gb, k, none⟩) (by show g7 ≠ gb; omega) (.int .i64 st)).cell 0 (v := .int .i64 (k : Int)) rfl
        have G1 := Aside0.mk (HWR.out.put m1 W1 k (.int .i64 st) ⟨u2, i1, i2, i3, i4, i5⟩)
        have h4 := Kd.R_putn g2 (k : Int) st
        rw [Int.toNat_natCast] at h4
        have G2 := Aside0.mk h4
        have F1 := Aside0.mk (show (d1.set k st).length = l.length by rw [List.length_set, f1]; exact HI.out.len)
        have F4 := Aside0.mk (discs_set f4 k st HPS.out)
        have F5 := Aside0.mk f5
        have HRN := Aside0.mk hrun
        clear g2 g3 f1 f2 f3 f4 f5 h4 i1 i2 i3 i4 i5 hb72 hrun hd1 hm1 hcg c70 c70d hcgd
        go_wp2_with (go_at_call 85; refine (HWR.out.call m1 _ k st G1.out (by have := F5.out; omega) (by omega) HPS.out).mono ?_; rintro e W2 ⟨⟨v2, rfl⟩, y1, y2, y3, y4⟩; have Y1 := Aside0.mk y1.shift; have Y2 := Aside0.mk (R_block G2.out y2); clear y1 y2 y3 y4)
        go_roundg k9
        case measure => omega
        case rel =>
          refine ⟨i + 1, o ++ (m1 ++ [(k, st)]).map mkI, d1.set k st, rfl, by omega, .mk ⟨?_, Y1.out, Y2.out, F1.out, F4.out, ?_⟩⟩
          · rw [HRN.out, List.map_append, List.append_assoc]; rfl
          · have := HI.out.olen
            have := F5.out
            simp only [List.length_append, List.length_map, List.length_singleton]
            omega
  · have hcb : decide (p2 < p1) = false := decide_eq_false hc
    have hS : stopsL l m k = [to'] := by unfold stopsL; rw [HP1.out, HP2.out, HFR.out, HTO.out, if_neg hc]
    have hok : ∀ i, i < 1 → Peg (nth [to'] i) ∧ nth (wayRun k l (([to'] : List Int).take i)).2 k ≠ nth [to'] i := by
      rw [← hS]
      exact way_stops_ok hk HLEN.out HD.out HDM.out HT.out (by rw [hS]; rfl)
    have HS := Aside0.mk hS
    have HOK := Aside0.mk hok
    clear hS hok
    go_wp2_with fail
    obtain ⟨bs, hbs⟩ : ∃ bs, W5.heap.size = bs := ⟨_, rfl⟩
    obtain ⟨V0, hV0⟩ : ∃ V0, ((W5.alloc (Obj.cells #[Value.int IntKind.i64 to'] 3)).alloc (Obj.cells #[Value.slice none 0 0] 48)) = V0 := ⟨_, rfl⟩
    have zV : V0.heap.size = bs + 2 := by rw [← hV0, ← hbs]; simp
    have bst : Blk V0 bs #[Value.int IntKind.i64 (to')] 3 := by rw [← hV0, ← hbs]; exact (Blk.new _ _ _).alloc _
    have bout : Blk V0 (bs + 1) #[Value.slice none 0 0] 48 := by rw [← hV0, ← hbs]; have := Blk.new (W5.alloc (Obj.cells #[Value.int IntKind.i64 to'] 3)) #[Value.slice none 0 0] 48; rwa [World.size_alloc] at this
    have b7v : Blk V0 g7 #[Value.int IntKind.i64 (k : Int), Value.int IntKind.i64 p1, Value.int IntKind.i64 p2] 117 := by rw [← hV0]; exact (HB7'.out.alloc _).alloc _
    have hs5 := HB5.out.size
    have hbv : Below w.heap.size w V0 := by rw [← hV0]; exact (HB5.out.alloc HB5.out.size _).alloc (by simp; omega) _
    have h7w : w.heap.size ≤ g7 := hs3
    have h7s : g7 < bs := by have := HB7'.out.lt; omega
    have hwbs : w.heap.size ≤ bs := by omega
    have hcl := clone_f h0 (show l.length ≤ 1000 by omega)
    rw [hV0]
    rw [hbs]
    clear hV0 hbs HB5 HB7' c71 c72 hs5
    refine (slices_Clone_int_int.calls _ _ _ _ _ (Kd.C_below HR.out hbv) HC.out hcl).mono ?_
    rintro e V1 ⟨v1, rfl, ho1, hb1⟩
    obtain ⟨gb, cap, ev, hg1, hg2, hg3⟩ := Kd.R_form ho1 h0
    subst ev
    have m7 := b7v.below hb1 b7v.lt
    have mst := bst.below hb1 bst.lt
    have mout := bout.below hb1 bout.lt
    have mb : Below w.heap.size w V1 := hbv.trans (hb1.mono (by omega))
    have hI : WayI w bs gb g7 V1.heap.size cap k p1 p2 l [to'] 0 [] l V1 :=
      ⟨rfl, ⟨_, mout, Kd.R_nil _ _ _ _ _, Nat.le_refl _, mb, fun q hq => by
        simp only [List.mem_cons, List.not_mem_nil, or_false] at hq
        rcases hq with rfl | rfl
        · exact m7
        · exact mst⟩, Kd.R_lower (Kd.R_mono (Kd.R_tight rfl ho1) (fun j hj => Option.some.inj hj)) (by omega), rfl, HD.out, by simp⟩
    have HI0 := Aside0.mk hI
    have hgb : bs + 2 ≤ gb := by omega
    have hgB : gb < V1.heap.size := hg2
    obtain ⟨B, hB⟩ : ∃ B, V1.heap.size = B := ⟨_, rfl⟩
    rw [hB] at HI0 hgB
    clear ho1 hb1 hg1 hg2 hg3 m7 mst mout mb hI bst bout b7v hbv hcl hB zV
    go_wp2
    go_loopg [60] 1 (fun kq v60 W => ∃ (i : Nat) (o : List S52) (d : List Int), v60 = .int .i64 i ∧ i + kq = 1 ∧ Aside0 (WayI w bs gb g7 B cap k p1 p2 l [to'] i o d W))
    case atStart => exact ⟨0, [], l, rfl, rfl, HI0⟩
    case round =>
      clear HI0
      obtain ⟨i, o, d, rfl, hik, HI⟩ := hrel
      cases gk with
      | zero =>
        obtain rfl : i = 1 := by omega
        obtain ⟨u, j1, j2, j3, j4, j5⟩ := HI.out.J
        have hb7 := j5 _ List.mem_cons_self
        have c70 := hb7.cell 0 (v := .int .i64 (k : Int)) rfl
        rw [List.map_nil, List.append_nil] at j2
        obtain ⟨Au, cu, eu⟩ := Kd.R_slice j2
        subst eu
        have cou := j1.cell 0 (v := .slice Au o.length cu) rfl
        have fou := j1.free 0
        have hrun := HI.out.run
        rw [List.take_of_length_le (by simp)] at hrun
        have hway : wayOf l m k = if 0 < k then o ++ spreadL (m.take k) (nth d 0) else o := by unfold wayOf; rw [HS.out, hrun]
        have HWAY := Aside0.mk hway
        have J1 := Aside0.mk j1
        have J2 := Aside0.mk j2
        have J3 := Aside0.mk j3
        have J4 := Aside0.mk j4
        clear hrun hway j1 j2 j3 j4 j5 hb7
        by_cases ck : 0 < k
        · have hkp : (0 : Int) < (k : Int) := by omega
          obtain ⟨hcg, hfg⟩ := Kd.R_celln (0 : Int) HI.out.row ((0 : Nat) : Int) (by omega) (by omega)
          rw [Int.toNat_natCast] at hcg hfg
          have hrd : rdOf (0 : Int) d ((0 : Nat) : Int) = nth d 0 := by simp [rdOf, nth]
          rw [hrd] at hcg
          have hl0 : (0 : Int) < (l.length : Int) := by omega
          have hkc1 : (k : Int) ≤ (c1 : Int) := by have := HC1.out; omega
          have HPX := Aside0.mk (show Peg (nth d 0) from HI.out.pos 0 (by rw [HI.out.len]; exact h0))
          obtain ⟨x, hx⟩ : ∃ x, nth d 0 = x := ⟨_, rfl⟩
          rw [hx] at hcg HPX
          have HX := Aside0.mk hx
          have htl : (m.take k).length = k := by rw [List.length_take]; have := HLEN.out; omega
          have hCm : Kd.C (Kd.int .i64) wr.drew (some ad1) k (m.take k) := by
            have := Kd.C_take (Kd.C_below HR1.out (J4.out.drew)) (m := k) (by have := HLEN.out; omega)
            rwa [htl] at this
          have HCM := Aside0.mk hCm
          have HTL := Aside0.mk htl
          have HDT := Aside0.mk (discs_take HDM.out k)
          have HSL := Aside0.mk (show (spreadL (m.take k) x).length ≤ 5000 by have h1 := spread_len (m.take k) x; rw [htl] at h1; have h2 : 2 ^ k ≤ 2 ^ 12 := Nat.pow_le_pow_right (by omega) (by omega); omega)
          clear hrd hx hCm htl hfg
          go_wp2
          go_region_law (first | ((with_reducible refine gate_call_st (f := 87) rfl ?_); go_simp; go_at_call 87; refine (spread_calls_n _ _ k (m.take k) x _ HTL.out HCM.out (by omega) ck (by omega) HDT.out HPX.out).mono ?_; rintro e w4 ⟨v3, rfl, r1, r2⟩; obtain ⟨A3, c3, e3⟩ := Kd.R_slice r1; subst e3; have r3 : Below wr.heap.size wr w4 := ⟨r2.os, r2.tape, r2.output, r2.size, r2.block⟩; have b4 := J1.out.below r3 J1.out.lt; have co4 := b4.cell 0 (v := .slice Au o.length cu) rfl; have Q1 := Aside0.mk r1; have Q2 := Aside0.mk (Kd.R_below J2.out r3); have Q3 := Aside0.mk r3; have Q4 := Aside0.mk b4; clear r1 r2 r3 b4; dsimp only) | ((with_reducible refine gate_app_st rfl ?_); refine R_append_rows_st k52 (w0 := w4) B (by rfl) (.tmp 92) (.tmp 100) 48 52 (.agg #[(.int .i64 0), (.int .i64 0)]) 16 rfl u48 info52 rfl (by decide) (by omega) (.slice Au o.length cu) o (spreadL (m.take k) x) A3 _ c3 (fun j => j ≠ gb) (fun _ => False) rfl rfl Q2.out (Kd.R_reads' Q1.out).2.2 (fun y cs hy => by rw [k52_open hy]; exact k52_mkM _ _ _ _) (fun _ h => h.elim) (fun j hj => by have := Q3.out.size; have := J3.out; omega) (Below.refl _ _) (by have := Q3.out.size; have := J3.out; omega) (by have := HI.out.olen; have := HSL.out; omega) ?_; intro v5 w5 ho hb hg hat; obtain ⟨A5, c5, e5⟩ := Kd.R_slice ho; subst e5; rw [List.length_append] at ho hat; have hb9 := Blk.grown Q4.out hg (fun e => by have := Kd.R_base J2.out _ e; omega); have hc9 := hb9.cell 0 (v := .slice Au o.length cu) rfl; have hf9 := hb9.free 0; have G1 := Aside0.mk ho; have G2 := Aside0.mk hg; have G3 := Aside0.mk hb9; clear ho hb hg hat hb9))
          all_goals
            have hc99 := (G3.out.set 0 (.slice A5 (o.length + (spreadL (m.take k) x).length) c5)).cell 0 (v := .slice A5 (o.length + (spreadL (m.take k) x).length) c5) rfl
            have R5 := Aside0.mk (show Kd.R k52 52 (w5.setCell { block := bs + 1, off := 0 } (Value.slice A5 (o.length + (spreadL (m.take k) x).length) c5)) w.heap.size (fun _ => True) (.slice A5 (o.length + (spreadL (m.take k) x).length) c5) (o ++ spreadL (m.take k) x) from
              Kd.R_mono (Kd.R_lower (Kd.R_far (p := ⟨bs + 1, 0, none⟩) (Kd.R_bound G1.out) (fun j hj => by have := hj.2.1; show j ≠ bs + 1; omega) _) (by have := J4.out.size; have := J3.out; omega)) (fun _ _ => trivial))
            have B5 := Aside0.mk (show Below w.heap.size w (w5.setCell { block := bs + 1, off := 0 } (Value.slice A5 (o.length + (spreadL (m.take k) x).length) c5)) from
              ((J4.out.trans (Q3.out.mono J4.out.size)).grown G2.out (by have := J4.out.size; have := Q3.out.size; omega) (fun j e => by have := Kd.R_base J2.out _ e; omega)).setCell (by simp; omega) _)
            obtain ⟨W9, hW9⟩ : ∃ W9, w5.setCell { block := bs + 1, off := 0 } (Value.slice A5 (o.length + (spreadL (m.take k) x).length) c5) = W9 := ⟨_, rfl⟩
            rw [hW9] at hc99 R5 B5 ⊢
            clear hW9 hc9 hf9 hcg c70 cou fou co4
            go_wp2
            go_ret2
            rw [HWAY.out, if_pos ck, HX.out]
            exact ⟨_, rfl, R5.out, B5.out⟩
        · have hkp : ¬ (0 : Int) < (k : Int) := by omega
          go_wp2
          go_ret2
          rw [HWAY.out, if_neg ck]
          exact ⟨_, rfl, Kd.R_mono (Kd.R_lower J2.out (by have := J4.out.size; omega)) (fun _ _ => trivial), J4.out⟩
      | succ k9 =>
        have hiN : i < 1 := by omega
        have hiz : (i : Int) < 1 := by omega
        have hi0 : (0 : Int) ≤ (i : Int) := by omega
        obtain ⟨hps, hxs⟩ := HOK.out i hiN
        rw [HI.out.run] at hxs
        obtain ⟨u, j1, j2, j3, j4, j5⟩ := HI.out.J
        have hb7 := j5 _ List.mem_cons_self
        have hbst := j5 _ (List.mem_cons_of_mem _ List.mem_cons_self)
        have c70 := hb7.cell 0 (v := .int .i64 (k : Int)) rfl
        obtain ⟨st, hst⟩ : ∃ st, nth [to'] i = st := ⟨_, rfl⟩
        have cst : wr.cell? ⟨bs, i, none⟩ = some (.int .i64 st) := hbst.cell i (by rw [← hst]; exact map_nth _ _ (by simpa using hiN))
        obtain ⟨hcg, hfg⟩ := Kd.R_celln (0 : Int) HI.out.row (k : Int) (by omega) (by omega)
        rw [Int.toNat_natCast] at hcg hfg
        have hrd : rdOf (0 : Int) d (k : Int) = nth d k := by simp [rdOf, nth]
        rw [hrd] at hcg
        have hpx : Peg (nth d k) := HI.out.pos k (by rw [HI.out.len]; exact hk)
        obtain ⟨x, hx⟩ : ∃ x, nth d k = x := ⟨_, rfl⟩
        rw [hst] at hps hxs
        rw [hx] at hcg hpx hxs
        have hpt := third_peg hpx hps hxs
        have hq1 := hpx
        have hq2 := hps
        unfold Peg at hq1 hq2
        have hw1 : IntKind.i64.wrap (3 - x) = 3 - x := by rw [i64_w, w64 (by omega) (by omega)]
        have hw2 : IntKind.i64.wrap (3 - x - st) = 3 - x - st := by rw [i64_w, w64 (by omega) (by omega)]
        have hwi : IntKind.i64.wrap ((i : Int) + 1) = ((i + 1 : Nat) : Int) := by rw [i64_w, w64 (by omega) (by omega)]; rfl
        have hkc : (k : Int) ≤ (cap : Int) := by have := (Kd.R_reads' HI.out.row).2.1; omega
        have c70d : World.cell? { heap := wr.heap, tape := wr.tape, drawn := wr.drawn + 1, os := wr.os, output := wr.output } ⟨g7, 0, none⟩ = some (.int .i64 (k : Int)) := c70
        have hcgd : World.cell? { heap := wr.heap, tape := wr.tape, drawn := wr.drawn + 1, os := wr.os, output := wr.output } ⟨gb, k, none⟩ = some (.int .i64 x) := hcg
        have HX := Aside0.mk hx
        have HST := Aside0.mk hst
        have HPS := Aside0.mk hps
        have HPT' := Aside0.mk hpt
        have HWR := Aside0.mk (way_writer w (bs + 1) gb B l.length 100000 [(g7, #[.int .i64 (k : Int), .int .i64 p1, .int .i64 p2], 117), (bs, (([to'] : List Int).map (Value.int .i64)).toArray, 3)] (fun q hq => by
          simp only [List.mem_cons, List.not_mem_nil, or_false] at hq
          rcases hq with rfl | rfl
          · exact ⟨by show g7 ≠ bs + 1; omega, by show g7 ≠ gb; omega, by show g7 < B; omega⟩
          · exact ⟨by show bs ≠ bs + 1; omega, by show bs ≠ gb; omega, by show bs < B; omega⟩) o (by have := HI.out.olen; omega) (by omega) (by omega) (by omega) (by omega) (by omega))
        have hp12 : 2 ^ k ≤ 2 ^ 12 := Nat.pow_le_pow_right (by omega) (by omega)
        have J4 := Aside0.mk j4
        clear hps hxs j1 j2 j3 j4 j5 hb7 hbst hrd hpx hx hst hpt hq1 hq2 hfg
        go_wp2
        clear cst
        go_still_tail 13, (by kernel_rfl)
        go_wp2_with fail
        refine (gather_calls85 (bs + 1) gb l.length w.heap.size 100000 cap (by omega) (by omega) _ HWR.out k d (3 - x - st) [] wr.drew (by omega) (by simp; omega) HI.out.len HI.out.pos HPT'.out (by have := J4.out.size; exact this) (HWR.out.drew [] wr 1 HI.out.J) (Kd.R_drew HI.out.row)).mono ?_
        rintro e W1 ⟨⟨v, rfl⟩, g1, g2, g3⟩
        rw [List.nil_append] at g1
        obtain ⟨f1, f2, f3⟩ := gather_facts k d (3 - x - st) (by have := HI.out.len; omega)
        have f4 := gather_pos k d (3 - x - st) (by have := HI.out.len; omega) HI.out.pos HPT'.out
        have f5 := gather_len k d (3 - x - st)
        have hrun := wayRun_step k l [to'] i hiN HI.out.run HX.out HST.out
        obtain ⟨d1, hd1⟩ : ∃ d1, (gatherL k d (3 - x - st)).2 = d1 := ⟨_, rfl⟩
        obtain ⟨m1, hm1⟩ : ∃ m1, (gatherL k d (3 - x - st)).1 = m1 := ⟨_, rfl⟩
        rw [hd1] at g2 f1 f4 hrun
        rw [hm1] at g1 f5 hrun
        obtain ⟨u2, i1, i2, i3, i4, i5⟩ := g1
        have hb72 := i5 _ List.mem_cons_self
        obtain ⟨hcg1, hfg1⟩ := Kd.R_celln (0 : Int) g2 (k : Int) (by omega) (by omega)
        rw [Int.toNat_natCast] at hcg1 hfg1
        have c701 := hb72.cell 0 (v := .int .i64 (k : Int)) rfl
        have c702 := (hb72.setOther (a := ⟨gb, k, none⟩) (by show g7 ≠ gb; omega) (.int .i64 st)).cell 0 (v := .int .i64 (k : Int)) rfl
        have G1 := Aside0.mk (HWR.out.put m1 W1 k (.int .i64 st) ⟨u2, i1, i2, i3, i4, i5⟩)
        have h4 := Kd.R_putn g2 (k : Int) st
        rw [Int.toNat_natCast] at h4
        have G2 := Aside0.mk h4
        have F1 := Aside0.mk (show (d1.set k st).length = l.length by rw [List.length_set, f1]; exact HI.out.len)
        have F4 := Aside0.mk (discs_set f4 k st HPS.out)
        have F5 := Aside0.mk f5
        have HRN := Aside0.mk hrun
        clear g2 g3 f1 f2 f3 f4 f5 h4 i1 i2 i3 i4 i5 hb72 hrun hd1 hm1 hcg c70 c70d hcgd
        go_wp2_with (go_at_call 85; refine (HWR.out.call m1 _ k st G1.out (by have := F5.out; omega) (by omega) HPS.out).mono ?_; rintro e W2 ⟨⟨v2, rfl⟩, y1, y2, y3, y4⟩; have Y1 := Aside0.mk y1.shift; have Y2 := Aside0.mk (R_block G2.out y2); clear y1 y2 y3 y4)
        go_roundg k9
        case measure => omega
        case rel =>
          refine ⟨i + 1, o ++ (m1 ++ [(k, st)]).map mkI, d1.set k st, rfl, by omega, .mk ⟨?_, Y1.out, Y2.out, F1.out, F4.out, ?_⟩⟩
          · rw [HRN.out, List.map_append, List.append_assoc]; rfl
          · have := HI.out.olen
            have := F5.out
            simp only [List.length_append, List.length_map, List.length_singleton]
            omega

theorem hanoi_Way.calls (A0 : Option Addr) (c0 : Nat) (l0 : List Int) (A1 : Option Addr) (c1 : Nat) (l1 : List Int) (r1 : List S52) (r2 : Int) (w : World) (hr0 : Kd.C (Kd.int .i64) w A0 l0.length l0) (hc0 : l0.length ≤ c0) (hr1 : Kd.C (Kd.int .i64) w A1 l1.length l1) (hc1 : l1.length ≤ c1) (h : hanoi_Way.f l0 l1 = some (r1, r2)) :
    Calls Tryd.prog 59 #[.slice A0 l0.length c0, .slice A1 l1.length c1] w fun e w' => ∃ v0_ : Value, e = .returned (.tuple #[v0_, .int .i64 r2]) ∧ Kd.R k52 52 w' w.heap.size (fun _ => True) v0_ r1 ∧ Below w.heap.size w w' := by
  unfold hanoi_Way.f at h
  by_cases hb : both l0 l1 = true
  · rw [if_pos hb] at h
    by_cases hl : 12 < l0.length
    · rw [if_pos hl] at h
      cases h
      exact way_long A0 c0 l0 A1 c1 l1 w hr0 hc0 hr1 hc1 hb hl
    · rw [if_neg hl] at h
      by_cases he : l0 = l1
      · rw [if_pos he] at h
        cases h
        exact way_same A0 c0 l0 A1 c1 l1 w hr0 hc0 hr1 hc1 hb (by omega) he
      · rw [if_neg he] at h
        cases h
        obtain ⟨⟨h0, h40, hd⟩, hdm, hlen⟩ := (both_iff l0 l1).1 hb
        cases hk : top (nth l0) (nth l1) l0.length with
        | zero => exact absurd (list_top hlen hk) he
        | succ k => exact way_main A0 c0 l0 A1 c1 l1 k w hr0 hc0 hr1 hc1 hb (by omega) he hk
  · rw [if_neg hb] at h
    cases h
    exact way_bad A0 c0 l0 A1 c1 l1 w hr0 hc0 hr1 hc1 (by simpa using hb)
end Go.Proofs.YtnaaomhmoamfpaaDoor.G
namespace Go.Proofs.YtnaaomhmoamfpaaDoor.G
end Go.Proofs.YtnaaomhmoamfpaaDoor.G
namespace Go.Proofs.YtnaaomhmoamfpaaDoor.Q
set_option linter.unusedVariables false
set_option linter.unusedSimpArgs false
set_option linter.unusedSectionVars false
open Go.Proofs.YtnaaomhmoamfpaaDoor.G
open Go.RowKit Go.Proofs.YtnaaomhmoamfpaaDoorW.PrintWords Go.Proofs.YtnaaomhmoamfpaaDoorW.PrintLast Go.Proofs.YtnaaomhmoamfpaaDoorW.PrintMore
attribute [local go_sem] max2_int min2_int max_two min_two max_three min_three max_four min_four   -- for this text's walks alone

/-! ### bibelotlaw03_HanoiWays: function 19 -/
def bibelotlaw03_HanoiWays.j0 : Nat → List Int → List Int → List (S52) → Bool → Option (Bool)
  | 0, _, _, _, _ => none
  | k + 1, x7, x8, x9, x48 => if x48 = true then (some false) else ((bibelotref03_Play.f k x7 x9 3).bind fun bt486 => (if bt486.2 = (x9.length : Int) then ((bibelotlaw03_ints.f k bt486.1 x8).bind fun t490 => (if t490 = true then ((bibelotlaw03_awake.f k).bind fun t491 => (some t491)) else (some false))) else (some false)))
def bibelotlaw03_HanoiWays.f (k : Nat) (a0 : Int) (l1 : List Int) (l2 : List Int) : Option (Bool) := (bibelotlaw03_many.f a0 14).bind fun t473 => ((bibelotlaw03_discs.f k l1 t473).bind fun t474 => ((bibelotlaw03_discs.f k l2 t473).bind fun t477 => ((hanoi_Way.f t474 t477).bind fun bt480 => (if t473 > 12 then (if bt480.2 = 1 then (if (bt480.1.length : Int) = 0 then ((bibelotlaw03_awake.f k).bind fun t484 => (some t484)) else (some false)) else (some false)) else (if bt480.2 = 0 then ((bibelotref03_Distance.f t474 t477).bind fun t485 => (bibelotlaw03_HanoiWays.j0 k t474 t477 bt480.1 ((bt480.1.length : Int) != t485))) else (bibelotlaw03_HanoiWays.j0 k t474 t477 bt480.1 true))))))
theorem bibelotlaw03_HanoiWays.mono_l : ∀ k, (∀ y0 y1 y2 y3, LeO (bibelotlaw03_HanoiWays.j0 k y0 y1 y2 y3) (bibelotlaw03_HanoiWays.j0 (k + 1) y0 y1 y2 y3))
  | 0 => fun _ _ _ _ r h => by simp [bibelotlaw03_HanoiWays.j0] at h
  | k + 1 => by
    have ih0 := bibelotlaw03_HanoiWays.mono_l k
    · intro y0 y1 y2 y3
      unfold bibelotlaw03_HanoiWays.j0
      repeat' first
      | (with_reducible exact ih0 _ _ _ _)
      | (with_reducible exact bibelotlaw03_awake.mono _)
      | (with_reducible exact bibelotlaw03_discs.mono _ _ _)
      | (with_reducible exact bibelotlaw03_ints.mono _ _ _)
      | (with_reducible exact bibelotref03_Play.mono _ _ _ _)
      | (with_reducible exact LeO.refl _)
      | (with_reducible exact LeO.none _)
      | (with_reducible refine LeO.ite ?_ ?_)
      | (with_reducible refine LeO.bind ?_ (fun _ => ?_))
      | exact ih0 _ _ _ _
      | exact bibelotlaw03_awake.mono _
      | exact bibelotlaw03_discs.mono _ _ _
      | exact bibelotlaw03_ints.mono _ _ _
      | exact bibelotref03_Play.mono _ _ _ _
      | exact LeO.none _
      | refine LeO.ite ?_ ?_
      | refine LeO.bind ?_ (fun _ => ?_)
theorem bibelotlaw03_HanoiWays.mono : ∀ a0 a1 a2 k, LeO (bibelotlaw03_HanoiWays.f k a0 a1 a2) (bibelotlaw03_HanoiWays.f (k + 1) a0 a1 a2) := by
  intro a0 a1 a2 k
  have ih0 := bibelotlaw03_HanoiWays.mono_l k
  unfold bibelotlaw03_HanoiWays.f
  repeat' first
      | (with_reducible exact ih0 _ _ _ _)
      | (with_reducible exact bibelotlaw03_awake.mono _)
      | (with_reducible exact bibelotlaw03_discs.mono _ _ _)
      | (with_reducible exact bibelotlaw03_ints.mono _ _ _)
      | (with_reducible exact bibelotref03_Play.mono _ _ _ _)
      | (with_reducible exact LeO.refl _)
      | (with_reducible exact LeO.none _)
      | (with_reducible refine LeO.ite ?_ ?_)
      | (with_reducible refine LeO.bind ?_ (fun _ => ?_))
      | exact ih0 _ _ _ _
      | exact bibelotlaw03_awake.mono _
      | exact bibelotlaw03_discs.mono _ _ _
      | exact bibelotlaw03_ints.mono _ _ _
      | exact bibelotref03_Play.mono _ _ _ _
      | exact LeO.none _
      | refine LeO.ite ?_ ?_
      | refine LeO.bind ?_ (fun _ => ?_)
set_option maxHeartbeats 8000000 in
set_option maxRecDepth 100000 in
theorem bibelotlaw03_HanoiWays.calls (k : Nat) (a0 : Int) (A1 : Option Addr) (c1 : Nat) (l1 : List Int) (A2 : Option Addr) (c2 : Nat) (l2 : List Int) (r : Bool) (w : World) (hr1 : Kd.C (Kd.int .i64) w A1 l1.length l1) (hc1 : l1.length ≤ c1) (hr2 : Kd.C (Kd.int .i64) w A2 l2.length l2) (hc2 : l2.length ≤ c2) (h : bibelotlaw03_HanoiWays.f k a0 l1 l2 = some r) :
    Calls Tryd.prog 19 #[.int .i64 a0, .slice A1 l1.length c1, .slice A2 l2.length c2] w fun e w' => e = .returned (.bool r) ∧ Below w.heap.size w w' := by
  have HR1 := Aside0.mk hr1
  have HC1 := Aside0.mk hc1
  clear hr1 hc1
  have HR2 := Aside0.mk hr2
  have HC2 := Aside0.mk hc2
  clear hr2 hc2
  have HB := Aside0.mk (Below.refl w.heap.size w)
  have H : ((bibelotlaw03_many.f a0 14).bind fun t473 => ((bibelotlaw03_discs.f k l1 t473).bind fun t474 => ((bibelotlaw03_discs.f k l2 t473).bind fun t477 => ((hanoi_Way.f t474 t477).bind fun bt480 => (if t473 > 12 then (if bt480.2 = 1 then (if (bt480.1.length : Int) = 0 then ((bibelotlaw03_awake.f k).bind fun t484 => (some t484)) else (some false)) else (some false)) else (if bt480.2 = 0 then ((bibelotref03_Distance.f t474 t477).bind fun t485 => (bibelotlaw03_HanoiWays.j0 k t474 t477 bt480.1 ((bt480.1.length : Int) != t485))) else (bibelotlaw03_HanoiWays.j0 k t474 t477 bt480.1 true))))))) = some r := h
  clear h
  replace H := Option.bind_eq_some_iff.mp H
  obtain ⟨t473, A40, H⟩ := H
  replace H : ((bibelotlaw03_discs.f k l1 t473).bind fun t474 => ((bibelotlaw03_discs.f k l2 t473).bind fun t477 => ((hanoi_Way.f t474 t477).bind fun bt480 => (if t473 > 12 then (if bt480.2 = 1 then (if (bt480.1.length : Int) = 0 then ((bibelotlaw03_awake.f k).bind fun t484 => (some t484)) else (some false)) else (some false)) else (if bt480.2 = 0 then ((bibelotref03_Distance.f t474 t477).bind fun t485 => (bibelotlaw03_HanoiWays.j0 k t474 t477 bt480.1 ((bt480.1.length : Int) != t485))) else (bibelotlaw03_HanoiWays.j0 k t474 t477 bt480.1 true)))))) = some r := H
  have A4 := Aside0.mk A40
  clear A40
  replace H := Option.bind_eq_some_iff.mp H
  obtain ⟨t474, A50, H⟩ := H
  replace H : ((bibelotlaw03_discs.f k l2 t473).bind fun t477 => ((hanoi_Way.f t474 t477).bind fun bt480 => (if t473 > 12 then (if bt480.2 = 1 then (if (bt480.1.length : Int) = 0 then ((bibelotlaw03_awake.f k).bind fun t484 => (some t484)) else (some false)) else (some false)) else (if bt480.2 = 0 then ((bibelotref03_Distance.f t474 t477).bind fun t485 => (bibelotlaw03_HanoiWays.j0 k t474 t477 bt480.1 ((bt480.1.length : Int) != t485))) else (bibelotlaw03_HanoiWays.j0 k t474 t477 bt480.1 true))))) = some r := H
  have A5 := Aside0.mk A50
  clear A50
  replace H := Option.bind_eq_some_iff.mp H
  obtain ⟨t477, A60, H⟩ := H
  replace H : ((hanoi_Way.f t474 t477).bind fun bt480 => (if t473 > 12 then (if bt480.2 = 1 then (if (bt480.1.length : Int) = 0 then ((bibelotlaw03_awake.f k).bind fun t484 => (some t484)) else (some false)) else (some false)) else (if bt480.2 = 0 then ((bibelotref03_Distance.f t474 t477).bind fun t485 => (bibelotlaw03_HanoiWays.j0 k t474 t477 bt480.1 ((bt480.1.length : Int) != t485))) else (bibelotlaw03_HanoiWays.j0 k t474 t477 bt480.1 true)))) = some r := H
  have A6 := Aside0.mk A60
  clear A60
  replace H := Option.bind_eq_some_iff.mp H
  obtain ⟨⟨t480, t481⟩, A70, H⟩ := H
  replace H : (if t473 > 12 then (if t481 = 1 then (if (t480.length : Int) = 0 then ((bibelotlaw03_awake.f k).bind fun t484 => (some t484)) else (some false)) else (some false)) else (if t481 = 0 then ((bibelotref03_Distance.f t474 t477).bind fun t485 => (bibelotlaw03_HanoiWays.j0 k t474 t477 t480 ((t480.length : Int) != t485))) else (bibelotlaw03_HanoiWays.j0 k t474 t477 t480 true))) = some r := H
  have A7 := Aside0.mk A70
  clear A70
  by_cases c8 : t473 > 12
  · rw [if_pos c8] at H
    have c8b0 : decide (12 < t473) = true := decide_eq_true c8
    clear c8
    by_cases c9 : t481 = 1
    · rw [if_pos c9] at H
      have c9b0 : (t481 == 1) = true := beq_iff_eq.mpr c9
      have c9b1 : (t481 != 1) = false := bne_eq_false_iff_eq.mpr c9
      clear c9
      by_cases c10 : (t480.length : Int) = 0
      · rw [if_pos c10] at H
        have c10b0 : ((t480.length : Int) == 0) = true := beq_iff_eq.mpr c10
        have c10b1 : ((t480.length : Int) != 0) = false := bne_eq_false_iff_eq.mpr c10
        clear c10
        replace H := Option.bind_eq_some_iff.mp H
        obtain ⟨t484, A110, H⟩ := H
        replace H : (some t484) = some r := H
        have A11 := Aside0.mk A110
        clear A110
        obtain rfl := Option.some.inj H
        go_enter Tryd.func19, Tryd.ntmps19
        go_wp2_with (first | ((with_reducible refine gate_callee (f := 25) rfl ?_); refine goesL_ (some 14) rfl rfl Tryd.func25 (by kernel_rfl) rfl #[.int .i64 a0, .int .i64 14] rfl (by (try simp only [List.map_toArray, List.map_cons, List.map_nil]); first | done | rfl | (simp only [List.length_drop, List.length_take]; rfl)) ?_; (with_reducible refine (bibelotlaw03_many.calls a0 14 t473 _ A4.out).mono ?_); rintro e w' ⟨rfl, ⟨nd, rfl⟩⟩; refine ⟨_, rfl, ?_⟩) | ((with_reducible refine gate_callee (f := 40) rfl ?_); refine goesL_ (some 17) rfl rfl Tryd.func40 (by kernel_rfl) rfl #[.slice A1 l1.length c1, .int .i64 t473] rfl (by (try simp only [List.map_toArray, List.map_cons, List.map_nil]); first | done | rfl | (simp only [List.length_drop, List.length_take]; rfl)) ?_; (with_reducible refine (bibelotlaw03_discs.calls k _ _ l1 t473 t474 _ ?side1 ?side2 A5.out).mono ?_); (case side1 => repeat (first | exact HR1.out | (with_reducible refine Kd.C_alloc ?_ _) | (with_reducible refine Kd.C_drewN ?_ _) | (with_reducible refine Kd.C_drew ?_))); (case side2 => exact HC1.out); rintro e w12 ⟨v475, rfl, ho0, hb⟩; refine ⟨_, rfl, ?_⟩; have n0_ := Aside0.mk (Kd.R_lower ho0 (below_size (by repeat (first | (with_reducible first | exact HB.out | apply below_alloc | apply pw_below_drewN | apply below_drew1) | exact HB.out)))); have n1_ := Aside0.mk (below_step (by repeat (first | (with_reducible first | exact HB.out | apply below_alloc | apply pw_below_drewN | apply below_drew1) | exact HB.out)) hb); clear HB; have HO476 := n0_; have HB := n1_; clear n0_ n1_; (try clear hb); (try clear hb2); (try clear hk); (try clear hi); (try clear ho0)) | ((with_reducible refine gate_callee (f := 40) rfl ?_); refine goesL_ (some 20) rfl rfl Tryd.func40 (by kernel_rfl) rfl #[.slice A2 l2.length c2, .int .i64 t473] rfl (by (try simp only [List.map_toArray, List.map_cons, List.map_nil]); first | done | rfl | (simp only [List.length_drop, List.length_take]; rfl)) ?_; (with_reducible refine (bibelotlaw03_discs.calls k _ _ l2 t473 t477 _ ?side1 ?side2 A6.out).mono ?_); (case side1 => repeat (first | exact (Kd.C_below HR2.out HB.out) | (with_reducible refine Kd.C_alloc ?_ _) | (with_reducible refine Kd.C_drewN ?_ _) | (with_reducible refine Kd.C_drew ?_))); (case side2 => exact HC2.out); rintro e w13 ⟨v478, rfl, ho0, hb⟩; refine ⟨_, rfl, ?_⟩; have n0_ := Aside0.mk (Kd.R_elder' (by (with_reducible repeat (first | apply Kd.R_alloc | apply Kd.R_drewN | apply Kd.R_drew)); exact HO476.out) (Kd.R_base ho0) hb); have n1_ := Aside0.mk (Kd.R_lower (Kd.R_new' ho0 (Kd.R_lt (by (with_reducible repeat (first | apply Kd.R_alloc | apply Kd.R_drewN | apply Kd.R_drew)); exact HO476.out))) (below_size (by repeat (first | (with_reducible first | exact HB.out | apply below_alloc | apply pw_below_drewN | apply below_drew1) | exact HB.out)))); have n2_ := Aside0.mk (below_step (by repeat (first | (with_reducible first | exact HB.out | apply below_alloc | apply pw_below_drewN | apply below_drew1) | exact HB.out)) hb); clear HO476; clear HB; have HO476 := n0_; have HO479 := n1_; have HB := n2_; clear n0_ n1_ n2_; (try clear hb); (try clear hb2); (try clear hk); (try clear hi); (try clear ho0); obtain ⟨Ao14, co14, eo14⟩ := Kd.R_slice HO476.out; subst eo14; obtain ⟨Ao15, co15, eo15⟩ := Kd.R_slice HO479.out; subst eo15) | ((with_reducible refine gate_callee (f := 59) rfl ?_); refine goesL_ (some 24) rfl rfl Tryd.func59 (by kernel_rfl) rfl #[.slice Ao14 t474.length co14, .slice Ao15 t477.length co15] rfl (by (try simp only [List.map_toArray, List.map_cons, List.map_nil]); first | done | rfl | (simp only [List.length_drop, List.length_take]; rfl)) ?_; (with_reducible refine (hanoi_Way.calls _ _ t474 _ _ t477 t480 t481 _ ?side1 ?side2 ?side3 ?side4 A7.out).mono ?_); (case side1 => repeat (first | exact (Kd.R_reads' HO476.out).2.2 | (with_reducible refine Kd.C_alloc ?_ _) | (with_reducible refine Kd.C_drewN ?_ _) | (with_reducible refine Kd.C_drew ?_))); (case side2 => exact (Kd.R_reads' HO476.out).2.1); (case side3 => repeat (first | exact (Kd.R_reads' HO479.out).2.2 | (with_reducible refine Kd.C_alloc ?_ _) | (with_reducible refine Kd.C_drewN ?_ _) | (with_reducible refine Kd.C_drew ?_))); (case side4 => exact (Kd.R_reads' HO479.out).2.1); rintro e w16 ⟨v482, rfl, ho0, hb⟩; refine ⟨_, rfl, ?_⟩; have n0_ := Aside0.mk (Kd.R_below (by (with_reducible repeat (first | apply Kd.R_alloc | apply Kd.R_drewN | apply Kd.R_drew)); exact HO476.out) hb); have n1_ := Aside0.mk (Kd.R_below (by (with_reducible repeat (first | apply Kd.R_alloc | apply Kd.R_drewN | apply Kd.R_drew)); exact HO479.out) hb); have n2_ := Aside0.mk (Kd.R_lower ho0 (below_size (by repeat (first | (with_reducible first | exact HB.out | apply below_alloc | apply pw_below_drewN | apply below_drew1) | exact HB.out)))); have n3_ := Aside0.mk (below_step (by repeat (first | (with_reducible first | exact HB.out | apply below_alloc | apply pw_below_drewN | apply below_drew1) | exact HB.out)) hb); clear HO476; clear HO479; clear HB; have HO476 := n0_; have HO479 := n1_; have HO483 := n2_; have HB := n3_; clear n0_ n1_ n2_ n3_; (try clear hb); (try clear hb2); (try clear hk); (try clear hi); (try clear ho0); obtain ⟨Ao17, co17, eo17⟩ := Kd.R_slice HO483.out; subst eo17) | (go_at_call 26; (with_reducible refine (bibelotlaw03_awake.calls k  t484 _ A11.out).mono ?_); rintro e w18 ⟨rfl, hb⟩; have n0_ := Aside0.mk (Kd.R_below (by (with_reducible repeat (first | apply Kd.R_alloc | apply Kd.R_drewN | apply Kd.R_drew)); exact HO476.out) hb); have n1_ := Aside0.mk (Kd.R_below (by (with_reducible repeat (first | apply Kd.R_alloc | apply Kd.R_drewN | apply Kd.R_drew)); exact HO479.out) hb); have n2_ := Aside0.mk (Kd.R_below (by (with_reducible repeat (first | apply Kd.R_alloc | apply Kd.R_drewN | apply Kd.R_drew)); exact HO483.out) hb); have n3_ := Aside0.mk (below_step (by repeat (first | (with_reducible first | exact HB.out | apply below_alloc | apply pw_below_drewN | apply below_drew1) | exact HB.out)) hb); clear HO476; clear HO479; clear HO483; clear HB; have HO476 := n0_; have HO479 := n1_; have HO483 := n2_; have HB := n3_; clear n0_ n1_ n2_ n3_; (try clear hb); (try clear hb2); (try clear hk); (try clear hi)))
        go_ret
        exact ⟨by first | rfl | (simp [errW_none, errW_some] <;> rfl) | (simp [*, errW_none, errW_some] <;> rfl), by repeat (first | (with_reducible first | exact HB.out | apply below_alloc | apply pw_below_drewN | apply below_drew1) | exact HB.out)⟩
      · rw [if_neg c10] at H
        have c10b0 : ((t480.length : Int) == 0) = false := beq_eq_false_iff_ne.mpr c10
        have c10b1 : ((t480.length : Int) != 0) = true := bne_iff_ne.mpr c10
        have c10b2 : ¬ (t480 = []) := fun h_ => c10 (by rw [h_]; rfl)
        obtain rfl := Option.some.inj H
        go_enter Tryd.func19, Tryd.ntmps19
        go_wp2_with (first | ((with_reducible refine gate_callee (f := 25) rfl ?_); refine goesL_ (some 14) rfl rfl Tryd.func25 (by kernel_rfl) rfl #[.int .i64 a0, .int .i64 14] rfl (by (try simp only [List.map_toArray, List.map_cons, List.map_nil]); first | done | rfl | (simp only [List.length_drop, List.length_take]; rfl)) ?_; (with_reducible refine (bibelotlaw03_many.calls a0 14 t473 _ A4.out).mono ?_); rintro e w' ⟨rfl, ⟨nd, rfl⟩⟩; refine ⟨_, rfl, ?_⟩) | ((with_reducible refine gate_callee (f := 40) rfl ?_); refine goesL_ (some 17) rfl rfl Tryd.func40 (by kernel_rfl) rfl #[.slice A1 l1.length c1, .int .i64 t473] rfl (by (try simp only [List.map_toArray, List.map_cons, List.map_nil]); first | done | rfl | (simp only [List.length_drop, List.length_take]; rfl)) ?_; (with_reducible refine (bibelotlaw03_discs.calls k _ _ l1 t473 t474 _ ?side1 ?side2 A5.out).mono ?_); (case side1 => repeat (first | exact HR1.out | (with_reducible refine Kd.C_alloc ?_ _) | (with_reducible refine Kd.C_drewN ?_ _) | (with_reducible refine Kd.C_drew ?_))); (case side2 => exact HC1.out); rintro e w19 ⟨v475, rfl, ho0, hb⟩; refine ⟨_, rfl, ?_⟩; have n0_ := Aside0.mk (Kd.R_lower ho0 (below_size (by repeat (first | (with_reducible first | exact HB.out | apply below_alloc | apply pw_below_drewN | apply below_drew1) | exact HB.out)))); have n1_ := Aside0.mk (below_step (by repeat (first | (with_reducible first | exact HB.out | apply below_alloc | apply pw_below_drewN | apply below_drew1) | exact HB.out)) hb); clear HB; have HO476 := n0_; have HB := n1_; clear n0_ n1_; (try clear hb); (try clear hb2); (try clear hk); (try clear hi); (try clear ho0)) | ((with_reducible refine gate_callee (f := 40) rfl ?_); refine goesL_ (some 20) rfl rfl Tryd.func40 (by kernel_rfl) rfl #[.slice A2 l2.length c2, .int .i64 t473] rfl (by (try simp only [List.map_toArray, List.map_cons, List.map_nil]); first | done | rfl | (simp only [List.length_drop, List.length_take]; rfl)) ?_; (with_reducible refine (bibelotlaw03_discs.calls k _ _ l2 t473 t477 _ ?side1 ?side2 A6.out).mono ?_); (case side1 => repeat (first | exact (Kd.C_below HR2.out HB.out) | (with_reducible refine Kd.C_alloc ?_ _) | (with_reducible refine Kd.C_drewN ?_ _) | (with_reducible refine Kd.C_drew ?_))); (case side2 => exact HC2.out); rintro e w20 ⟨v478, rfl, ho0, hb⟩; refine ⟨_, rfl, ?_⟩; have n0_ := Aside0.mk (Kd.R_elder' (by (with_reducible repeat (first | apply Kd.R_alloc | apply Kd.R_drewN | apply Kd.R_drew)); exact HO476.out) (Kd.R_base ho0) hb); have n1_ := Aside0.mk (Kd.R_lower (Kd.R_new' ho0 (Kd.R_lt (by (with_reducible repeat (first | apply Kd.R_alloc | apply Kd.R_drewN | apply Kd.R_drew)); exact HO476.out))) (below_size (by repeat (first | (with_reducible first | exact HB.out | apply below_alloc | apply pw_below_drewN | apply below_drew1) | exact HB.out)))); have n2_ := Aside0.mk (below_step (by repeat (first | (with_reducible first | exact HB.out | apply below_alloc | apply pw_below_drewN | apply below_drew1) | exact HB.out)) hb); clear HO476; clear HB; have HO476 := n0_; have HO479 := n1_; have HB := n2_; clear n0_ n1_ n2_; (try clear hb); (try clear hb2); (try clear hk); (try clear hi); (try clear ho0); obtain ⟨Ao21, co21, eo21⟩ := Kd.R_slice HO476.out; subst eo21; obtain ⟨Ao22, co22, eo22⟩ := Kd.R_slice HO479.out; subst eo22) | ((with_reducible refine gate_callee (f := 59) rfl ?_); refine goesL_ (some 24) rfl rfl Tryd.func59 (by kernel_rfl) rfl #[.slice Ao21 t474.length co21, .slice Ao22 t477.length co22] rfl (by (try simp only [List.map_toArray, List.map_cons, List.map_nil]); first | done | rfl | (simp only [List.length_drop, List.length_take]; rfl)) ?_; (with_reducible refine (hanoi_Way.calls _ _ t474 _ _ t477 t480 t481 _ ?side1 ?side2 ?side3 ?side4 A7.out).mono ?_); (case side1 => repeat (first | exact (Kd.R_reads' HO476.out).2.2 | (with_reducible refine Kd.C_alloc ?_ _) | (with_reducible refine Kd.C_drewN ?_ _) | (with_reducible refine Kd.C_drew ?_))); (case side2 => exact (Kd.R_reads' HO476.out).2.1); (case side3 => repeat (first | exact (Kd.R_reads' HO479.out).2.2 | (with_reducible refine Kd.C_alloc ?_ _) | (with_reducible refine Kd.C_drewN ?_ _) | (with_reducible refine Kd.C_drew ?_))); (case side4 => exact (Kd.R_reads' HO479.out).2.1); rintro e w23 ⟨v482, rfl, ho0, hb⟩; refine ⟨_, rfl, ?_⟩; have n0_ := Aside0.mk (Kd.R_below (by (with_reducible repeat (first | apply Kd.R_alloc | apply Kd.R_drewN | apply Kd.R_drew)); exact HO476.out) hb); have n1_ := Aside0.mk (Kd.R_below (by (with_reducible repeat (first | apply Kd.R_alloc | apply Kd.R_drewN | apply Kd.R_drew)); exact HO479.out) hb); have n2_ := Aside0.mk (Kd.R_lower ho0 (below_size (by repeat (first | (with_reducible first | exact HB.out | apply below_alloc | apply pw_below_drewN | apply below_drew1) | exact HB.out)))); have n3_ := Aside0.mk (below_step (by repeat (first | (with_reducible first | exact HB.out | apply below_alloc | apply pw_below_drewN | apply below_drew1) | exact HB.out)) hb); clear HO476; clear HO479; clear HB; have HO476 := n0_; have HO479 := n1_; have HO483 := n2_; have HB := n3_; clear n0_ n1_ n2_ n3_; (try clear hb); (try clear hb2); (try clear hk); (try clear hi); (try clear ho0); obtain ⟨Ao24, co24, eo24⟩ := Kd.R_slice HO483.out; subst eo24))
        go_ret
        exact ⟨by first | rfl | (simp [errW_none, errW_some] <;> rfl) | (simp [*, errW_none, errW_some] <;> rfl), by repeat (first | (with_reducible first | exact HB.out | apply below_alloc | apply pw_below_drewN | apply below_drew1) | exact HB.out)⟩
    · rw [if_neg c9] at H
      have c9b0 : (t481 == 1) = false := beq_eq_false_iff_ne.mpr c9
      have c9b1 : (t481 != 1) = true := bne_iff_ne.mpr c9
      obtain rfl := Option.some.inj H
      go_enter Tryd.func19, Tryd.ntmps19
      go_wp2_with (first | ((with_reducible refine gate_callee (f := 25) rfl ?_); refine goesL_ (some 14) rfl rfl Tryd.func25 (by kernel_rfl) rfl #[.int .i64 a0, .int .i64 14] rfl (by (try simp only [List.map_toArray, List.map_cons, List.map_nil]); first | done | rfl | (simp only [List.length_drop, List.length_take]; rfl)) ?_; (with_reducible refine (bibelotlaw03_many.calls a0 14 t473 _ A4.out).mono ?_); rintro e w' ⟨rfl, ⟨nd, rfl⟩⟩; refine ⟨_, rfl, ?_⟩) | ((with_reducible refine gate_callee (f := 40) rfl ?_); refine goesL_ (some 17) rfl rfl Tryd.func40 (by kernel_rfl) rfl #[.slice A1 l1.length c1, .int .i64 t473] rfl (by (try simp only [List.map_toArray, List.map_cons, List.map_nil]); first | done | rfl | (simp only [List.length_drop, List.length_take]; rfl)) ?_; (with_reducible refine (bibelotlaw03_discs.calls k _ _ l1 t473 t474 _ ?side1 ?side2 A5.out).mono ?_); (case side1 => repeat (first | exact HR1.out | (with_reducible refine Kd.C_alloc ?_ _) | (with_reducible refine Kd.C_drewN ?_ _) | (with_reducible refine Kd.C_drew ?_))); (case side2 => exact HC1.out); rintro e w25 ⟨v475, rfl, ho0, hb⟩; refine ⟨_, rfl, ?_⟩; have n0_ := Aside0.mk (Kd.R_lower ho0 (below_size (by repeat (first | (with_reducible first | exact HB.out | apply below_alloc | apply pw_below_drewN | apply below_drew1) | exact HB.out)))); have n1_ := Aside0.mk (below_step (by repeat (first | (with_reducible first | exact HB.out | apply below_alloc | apply pw_below_drewN | apply below_drew1) | exact HB.out)) hb); clear HB; have HO476 := n0_; have HB := n1_; clear n0_ n1_; (try clear hb); (try clear hb2); (try clear hk); (try clear hi); (try clear ho0)) | ((with_reducible refine gate_callee (f := 40) rfl ?_); refine goesL_ (some 20) rfl rfl Tryd.func40 (by kernel_rfl) rfl #[.slice A2 l2.length c2, .int .i64 t473] rfl (by (try simp only [List.map_toArray, List.map_cons, List.map_nil]); first | done | rfl | (simp only [List.length_drop, List.length_take]; rfl)) ?_; (with_reducible refine (bibelotlaw03_discs.calls k _ _ l2 t473 t477 _ ?side1 ?side2 A6.out).mono ?_); (case side1 => repeat (first | exact (Kd.C_below HR2.out HB.out) | (with_reducible refine Kd.C_alloc ?_ _) | (with_reducible refine Kd.C_drewN ?_ _) | (with_reducible refine Kd.C_drew ?_))); (case side2 => exact HC2.out); rintro e w26 ⟨v478, rfl, ho0, hb⟩; refine ⟨_, rfl, ?_⟩; have n0_ := Aside0.mk (Kd.R_elder' (by (with_reducible repeat (first | apply Kd.R_alloc | apply Kd.R_drewN | apply Kd.R_drew)); exact HO476.out) (Kd.R_base ho0) hb); have n1_ := Aside0.mk (Kd.R_lower (Kd.R_new' ho0 (Kd.R_lt (by (with_reducible repeat (first | apply Kd.R_alloc | apply Kd.R_drewN | apply Kd.R_drew)); exact HO476.out))) (below_size (by repeat (first | (with_reducible first | exact HB.out | apply below_alloc | apply pw_below_drewN | apply below_drew1) | exact HB.out)))); have n2_ := Aside0.mk (below_step (by repeat (first | (with_reducible first | exact HB.out | apply below_alloc | apply pw_below_drewN | apply below_drew1) | exact HB.out)) hb); clear HO476; clear HB; have HO476 := n0_; have HO479 := n1_; have HB := n2_; clear n0_ n1_ n2_; (try clear hb); (try clear hb2); (try clear hk); (try clear hi); (try clear ho0); obtain ⟨Ao27, co27, eo27⟩ := Kd.R_slice HO476.out; subst eo27; obtain ⟨Ao28, co28, eo28⟩ := Kd.R_slice HO479.out; subst eo28) | ((with_reducible refine gate_callee (f := 59) rfl ?_); refine goesL_ (some 24) rfl rfl Tryd.func59 (by kernel_rfl) rfl #[.slice Ao27 t474.length co27, .slice Ao28 t477.length co28] rfl (by (try simp only [List.map_toArray, List.map_cons, List.map_nil]); first | done | rfl | (simp only [List.length_drop, List.length_take]; rfl)) ?_; (with_reducible refine (hanoi_Way.calls _ _ t474 _ _ t477 t480 t481 _ ?side1 ?side2 ?side3 ?side4 A7.out).mono ?_); (case side1 => repeat (first | exact (Kd.R_reads' HO476.out).2.2 | (with_reducible refine Kd.C_alloc ?_ _) | (with_reducible refine Kd.C_drewN ?_ _) | (with_reducible refine Kd.C_drew ?_))); (case side2 => exact (Kd.R_reads' HO476.out).2.1); (case side3 => repeat (first | exact (Kd.R_reads' HO479.out).2.2 | (with_reducible refine Kd.C_alloc ?_ _) | (with_reducible refine Kd.C_drewN ?_ _) | (with_reducible refine Kd.C_drew ?_))); (case side4 => exact (Kd.R_reads' HO479.out).2.1); rintro e w29 ⟨v482, rfl, ho0, hb⟩; refine ⟨_, rfl, ?_⟩; have n0_ := Aside0.mk (Kd.R_below (by (with_reducible repeat (first | apply Kd.R_alloc | apply Kd.R_drewN | apply Kd.R_drew)); exact HO476.out) hb); have n1_ := Aside0.mk (Kd.R_below (by (with_reducible repeat (first | apply Kd.R_alloc | apply Kd.R_drewN | apply Kd.R_drew)); exact HO479.out) hb); have n2_ := Aside0.mk (Kd.R_lower ho0 (below_size (by repeat (first | (with_reducible first | exact HB.out | apply below_alloc | apply pw_below_drewN | apply below_drew1) | exact HB.out)))); have n3_ := Aside0.mk (below_step (by repeat (first | (with_reducible first | exact HB.out | apply below_alloc | apply pw_below_drewN | apply below_drew1) | exact HB.out)) hb); clear HO476; clear HO479; clear HB; have HO476 := n0_; have HO479 := n1_; have HO483 := n2_; have HB := n3_; clear n0_ n1_ n2_ n3_; (try clear hb); (try clear hb2); (try clear hk); (try clear hi); (try clear ho0)))
      go_ret
      exact ⟨by first | rfl | (simp [errW_none, errW_some] <;> rfl) | (simp [*, errW_none, errW_some] <;> rfl), by repeat (first | (with_reducible first | exact HB.out | apply below_alloc | apply pw_below_drewN | apply below_drew1) | exact HB.out)⟩
  · rw [if_neg c8] at H
    have c8b0 : decide (12 < t473) = false := decide_eq_false c8
    clear c8
    have HC30 := Aside0.mk H
    clear H
    go_enter Tryd.func19, Tryd.ntmps19
    go_upto_region 6 with (first | ((with_reducible refine gate_callee (f := 25) rfl ?_); refine goesL_ (some 14) rfl rfl Tryd.func25 (by kernel_rfl) rfl #[.int .i64 a0, .int .i64 14] rfl (by (try simp only [List.map_toArray, List.map_cons, List.map_nil]); first | done | rfl | (simp only [List.length_drop, List.length_take]; rfl)) ?_; (with_reducible refine (bibelotlaw03_many.calls a0 14 t473 _ A4.out).mono ?_); rintro e w' ⟨rfl, ⟨nd, rfl⟩⟩; refine ⟨_, rfl, ?_⟩) | ((with_reducible refine gate_callee (f := 40) rfl ?_); refine goesL_ (some 17) rfl rfl Tryd.func40 (by kernel_rfl) rfl #[.slice A1 l1.length c1, .int .i64 t473] rfl (by (try simp only [List.map_toArray, List.map_cons, List.map_nil]); first | done | rfl | (simp only [List.length_drop, List.length_take]; rfl)) ?_; (with_reducible refine (bibelotlaw03_discs.calls k _ _ l1 t473 t474 _ ?side1 ?side2 A5.out).mono ?_); (case side1 => repeat (first | exact HR1.out | (with_reducible refine Kd.C_alloc ?_ _) | (with_reducible refine Kd.C_drewN ?_ _) | (with_reducible refine Kd.C_drew ?_))); (case side2 => exact HC1.out); rintro e w31 ⟨v475, rfl, ho0, hb⟩; refine ⟨_, rfl, ?_⟩; have n0_ := Aside0.mk (Kd.R_lower ho0 (below_size (by repeat (first | (with_reducible first | exact HB.out | apply below_alloc | apply pw_below_drewN | apply below_drew1) | exact HB.out)))); have n1_ := Aside0.mk (below_step (by repeat (first | (with_reducible first | exact HB.out | apply below_alloc | apply pw_below_drewN | apply below_drew1) | exact HB.out)) hb); clear HB; have HO476 := n0_; have HB := n1_; clear n0_ n1_; (try clear hb); (try clear hb2); (try clear hk); (try clear hi); (try clear ho0)) | ((with_reducible refine gate_callee (f := 40) rfl ?_); refine goesL_ (some 20) rfl rfl Tryd.func40 (by kernel_rfl) rfl #[.slice A2 l2.length c2, .int .i64 t473] rfl (by (try simp only [List.map_toArray, List.map_cons, List.map_nil]); first | done | rfl | (simp only [List.length_drop, List.length_take]; rfl)) ?_; (with_reducible refine (bibelotlaw03_discs.calls k _ _ l2 t473 t477 _ ?side1 ?side2 A6.out).mono ?_); (case side1 => repeat (first | exact (Kd.C_below HR2.out HB.out) | (with_reducible refine Kd.C_alloc ?_ _) | (with_reducible refine Kd.C_drewN ?_ _) | (with_reducible refine Kd.C_drew ?_))); (case side2 => exact HC2.out); rintro e w32 ⟨v478, rfl, ho0, hb⟩; refine ⟨_, rfl, ?_⟩; have n0_ := Aside0.mk (Kd.R_elder' (by (with_reducible repeat (first | apply Kd.R_alloc | apply Kd.R_drewN | apply Kd.R_drew)); exact HO476.out) (Kd.R_base ho0) hb); have n1_ := Aside0.mk (Kd.R_lower (Kd.R_new' ho0 (Kd.R_lt (by (with_reducible repeat (first | apply Kd.R_alloc | apply Kd.R_drewN | apply Kd.R_drew)); exact HO476.out))) (below_size (by repeat (first | (with_reducible first | exact HB.out | apply below_alloc | apply pw_below_drewN | apply below_drew1) | exact HB.out)))); have n2_ := Aside0.mk (below_step (by repeat (first | (with_reducible first | exact HB.out | apply below_alloc | apply pw_below_drewN | apply below_drew1) | exact HB.out)) hb); clear HO476; clear HB; have HO476 := n0_; have HO479 := n1_; have HB := n2_; clear n0_ n1_ n2_; (try clear hb); (try clear hb2); (try clear hk); (try clear hi); (try clear ho0); obtain ⟨Ao33, co33, eo33⟩ := Kd.R_slice HO476.out; subst eo33; obtain ⟨Ao34, co34, eo34⟩ := Kd.R_slice HO479.out; subst eo34) | ((with_reducible refine gate_callee (f := 59) rfl ?_); refine goesL_ (some 24) rfl rfl Tryd.func59 (by kernel_rfl) rfl #[.slice Ao33 t474.length co33, .slice Ao34 t477.length co34] rfl (by (try simp only [List.map_toArray, List.map_cons, List.map_nil]); first | done | rfl | (simp only [List.length_drop, List.length_take]; rfl)) ?_; (with_reducible refine (hanoi_Way.calls _ _ t474 _ _ t477 t480 t481 _ ?side1 ?side2 ?side3 ?side4 A7.out).mono ?_); (case side1 => repeat (first | exact (Kd.R_reads' HO476.out).2.2 | (with_reducible refine Kd.C_alloc ?_ _) | (with_reducible refine Kd.C_drewN ?_ _) | (with_reducible refine Kd.C_drew ?_))); (case side2 => exact (Kd.R_reads' HO476.out).2.1); (case side3 => repeat (first | exact (Kd.R_reads' HO479.out).2.2 | (with_reducible refine Kd.C_alloc ?_ _) | (with_reducible refine Kd.C_drewN ?_ _) | (with_reducible refine Kd.C_drew ?_))); (case side4 => exact (Kd.R_reads' HO479.out).2.1); rintro e w35 ⟨v482, rfl, ho0, hb⟩; refine ⟨_, rfl, ?_⟩; have n0_ := Aside0.mk (Kd.R_below (by (with_reducible repeat (first | apply Kd.R_alloc | apply Kd.R_drewN | apply Kd.R_drew)); exact HO476.out) hb); have n1_ := Aside0.mk (Kd.R_below (by (with_reducible repeat (first | apply Kd.R_alloc | apply Kd.R_drewN | apply Kd.R_drew)); exact HO479.out) hb); have n2_ := Aside0.mk (Kd.R_lower ho0 (below_size (by repeat (first | (with_reducible first | exact HB.out | apply below_alloc | apply pw_below_drewN | apply below_drew1) | exact HB.out)))); have n3_ := Aside0.mk (below_step (by repeat (first | (with_reducible first | exact HB.out | apply below_alloc | apply pw_below_drewN | apply below_drew1) | exact HB.out)) hb); clear HO476; clear HO479; clear HB; have HO476 := n0_; have HO479 := n1_; have HO483 := n2_; have HB := n3_; clear n0_ n1_ n2_ n3_; (try clear hb); (try clear hb2); (try clear hk); (try clear hi); (try clear ho0)))
    (try simp only [Act.put, List.setIfInBounds_toArray, List.set_cons_zero, List.set_cons_succ])
    go_cut [48] (fun v48 wc => ∃ (kq : Nat) (x48_29 : Bool), v48 = .bool x48_29 ∧ Aside0 (bibelotlaw03_HanoiWays.j0 kq t474 t477 t480 x48_29 = some r) ∧ Aside0 (kq ≤ k) ∧ Aside0 (Kd.R (Kd.int .i64) 3 wc w.heap.size (fun k_ => some k_ ≠ ((.slice Ao34 t477.length co34) : Value).ownBlock) (.slice Ao33 t474.length co33) t474) ∧ Aside0 (Kd.R (Kd.int .i64) 3 wc w.heap.size (fun k_ => some k_ ≠ ((.slice Ao33 t474.length co33) : Value).ownBlock) (.slice Ao34 t477.length co34) t477) ∧ Aside0 (Kd.R k52 52 wc w.heap.size (fun _ => True) v482 t480) ∧ Aside0 (Below w.heap.size w wc))
    case first =>
      have H := HC30.out
      clear HC30
      by_cases c36 : t481 = 0
      · rw [if_pos c36] at H
        have c36b0 : (t481 == 0) = true := beq_iff_eq.mpr c36
        have c36b1 : (t481 != 0) = false := bne_eq_false_iff_eq.mpr c36
        clear c36
        (first | rw [c36b0] | (simp only [i64_w, i32_w]; rw [c36b0]) | skip)
        replace H := Option.bind_eq_some_iff.mp H
        obtain ⟨t485, A370, H⟩ := H
        replace H : (bibelotlaw03_HanoiWays.j0 k t474 t477 t480 ((t480.length : Int) != t485)) = some r := H
        have A37 := Aside0.mk A370
        clear A370
        have H' := Aside0.mk H
        clear H
        obtain ⟨Ao38, co38, eo38⟩ := Kd.R_slice HO483.out
        subst eo38
        go_wp2_with (first | (go_at_call 48; (with_reducible refine (bibelotref03_Distance.calls _ _ t474 _ _ t477 t485 _ ?side1 ?side2 ?side3 ?side4 A37.out).mono ?_); (case side1 => repeat (first | exact (Kd.R_reads' HO476.out).2.2 | (with_reducible refine Kd.C_alloc ?_ _) | (with_reducible refine Kd.C_drewN ?_ _) | (with_reducible refine Kd.C_drew ?_))); (case side2 => exact (Kd.R_reads' HO476.out).2.1); (case side3 => repeat (first | exact (Kd.R_reads' HO479.out).2.2 | (with_reducible refine Kd.C_alloc ?_ _) | (with_reducible refine Kd.C_drewN ?_ _) | (with_reducible refine Kd.C_drew ?_))); (case side4 => exact (Kd.R_reads' HO479.out).2.1); rintro e w' ⟨rfl, ⟨nd, rfl⟩⟩))
        go_meet
        case rel => exact ⟨_, (((t480.length : Int) != t485)), (by first | rfl | (simp; done) | (simp [*]; done)), H', ⟨by first | omega | exact Nat.le_refl _⟩, ⟨by (with_reducible repeat (first | apply Kd.R_alloc | apply Kd.R_drewN | apply Kd.R_drew)); exact Kd.R_mono HO476.out (fun _ hk => hk.2)⟩, ⟨by (with_reducible repeat (first | apply Kd.R_alloc | apply Kd.R_drewN | apply Kd.R_drew)); exact Kd.R_mono HO479.out (fun _ hk => hk.2)⟩, ⟨by (with_reducible repeat (first | apply Kd.R_alloc | apply Kd.R_drewN | apply Kd.R_drew)); exact HO483.out⟩, ⟨by repeat (first | (with_reducible first | exact HB.out | apply below_alloc | apply pw_below_drewN | apply below_drew1) | exact HB.out)⟩⟩
      · rw [if_neg c36] at H
        have c36b0 : (t481 == 0) = false := beq_eq_false_iff_ne.mpr c36
        have c36b1 : (t481 != 0) = true := bne_iff_ne.mpr c36
        (first | rw [c36b0] | (simp only [i64_w, i32_w]; rw [c36b0]) | skip)
        have H' := Aside0.mk H
        clear H
        go_wp2
        go_meet
        case rel => exact ⟨_, (true), (by first | rfl | (simp; done) | (simp [*]; done)), H', ⟨by first | omega | exact Nat.le_refl _⟩, ⟨by (with_reducible repeat (first | apply Kd.R_alloc | apply Kd.R_drewN | apply Kd.R_drew)); exact Kd.R_mono HO476.out (fun _ hk => hk.2)⟩, ⟨by (with_reducible repeat (first | apply Kd.R_alloc | apply Kd.R_drewN | apply Kd.R_drew)); exact Kd.R_mono HO479.out (fun _ hk => hk.2)⟩, ⟨by (with_reducible repeat (first | apply Kd.R_alloc | apply Kd.R_drewN | apply Kd.R_drew)); exact HO483.out⟩, ⟨by repeat (first | (with_reducible first | exact HB.out | apply below_alloc | apply pw_below_drewN | apply below_drew1) | exact HB.out)⟩⟩
    case rest =>
      clear HC30
      try clear c1
      try clear c2
      try clear p2
      try clear c3
      try clear c4
      try clear c5
      try clear c8
      try clear c8b0
      try clear c9
      try clear c9b0
      try clear c9b1
      try clear c10
      try clear c10b0
      try clear c10b1
      try clear c10b2
      try clear c19
      try clear c25
      try clear c36
      try clear c36b0
      try clear c36b1
      obtain ⟨kq, x48_29, rfl, HA, HJ29, HO_7, HO_8, HO_9, HB⟩ := hcut
      cases kq with
      | zero => exact absurd HA.out (by simp [bibelotlaw03_HanoiWays.j0])
      | succ kj29 =>
        have H := HA.out
        clear HA
        simp only [bibelotlaw03_HanoiWays.j0] at H
        by_cases c39 : x48_29 = true
        · subst c39
          have H1 : (some false) = some r := by rw [if_pos rfl] at H; exact H
          clear H
          have H := H1
          clear H1
          obtain rfl := Option.some.inj H
          go_wp2
          go_ret
          exact ⟨by first | rfl | (simp [errW_none, errW_some] <;> rfl) | (simp [*, errW_none, errW_some] <;> rfl), by repeat (first | (with_reducible first | exact HB.out | apply below_alloc | apply pw_below_drewN | apply below_drew1) | exact HB.out)⟩
        · replace c39 := Bool.eq_false_iff.mpr c39
          subst c39
          have H1 : ((bibelotref03_Play.f kj29 t474 t480 3).bind fun bt486 => (if bt486.2 = (t480.length : Int) then ((bibelotlaw03_ints.f kj29 bt486.1 t477).bind fun t490 => (if t490 = true then ((bibelotlaw03_awake.f kj29).bind fun t491 => (some t491)) else (some false))) else (some false))) = some r := by rw [if_neg (show ¬ (false = true) by decide)] at H; exact H
          clear H
          have H := H1
          clear H1
          replace H := Option.bind_eq_some_iff.mp H
          obtain ⟨⟨t486, t487⟩, A400, H⟩ := H
          replace H : (if t487 = (t480.length : Int) then ((bibelotlaw03_ints.f kj29 t486 t477).bind fun t490 => (if t490 = true then ((bibelotlaw03_awake.f kj29).bind fun t491 => (some t491)) else (some false))) else (some false)) = some r := H
          have A40 := Aside0.mk A400
          clear A400
          by_cases c41 : t487 = (t480.length : Int)
          · rw [if_pos c41] at H
            have c41b0 : (t487 == (t480.length : Int)) = true := beq_iff_eq.mpr c41
            have c41b1 : (t487 != (t480.length : Int)) = false := bne_eq_false_iff_eq.mpr c41
            clear c41
            replace H := Option.bind_eq_some_iff.mp H
            obtain ⟨t490, A420, H⟩ := H
            replace H : (if t490 = true then ((bibelotlaw03_awake.f kj29).bind fun t491 => (some t491)) else (some false)) = some r := H
            have A42 := Aside0.mk A420
            clear A420
            by_cases c43 : t490 = true
            · subst c43
              have H1 : ((bibelotlaw03_awake.f kj29).bind fun t491 => (some t491)) = some r := by rw [if_pos rfl] at H; exact H
              clear H
              have H := H1
              clear H1
              replace H := Option.bind_eq_some_iff.mp H
              obtain ⟨t491, A440, H⟩ := H
              replace H : (some t491) = some r := H
              have A44 := Aside0.mk A440
              clear A440
              obtain rfl := Option.some.inj H
              obtain ⟨Ao45, co45, eo45⟩ := Kd.R_slice HO_9.out
              subst eo45
              go_wp2_with (first | ((with_reducible refine gate_callee (f := 57) rfl ?_); refine goesL_ (some 52) rfl rfl Tryd.func57 (by kernel_rfl) rfl #[.slice Ao33 t474.length co33, .slice Ao45 t480.length co45, .int .i64 3] rfl (by (try simp only [List.map_toArray, List.map_cons, List.map_nil]); first | done | rfl | (simp only [List.length_drop, List.length_take]; rfl)) ?_; (with_reducible refine (bibelotref03_Play.calls kj29 _ _ t474 _ _ t480 3 t486 t487 _ ?side1 ?side2 ?side3 ?side4 A40.out).mono ?_); (case side1 => repeat (first | exact (Kd.R_reads' HO_7.out).2.2 | (with_reducible refine Kd.C_alloc ?_ _) | (with_reducible refine Kd.C_drewN ?_ _) | (with_reducible refine Kd.C_drew ?_))); (case side2 => exact (Kd.R_reads' HO_7.out).2.1); (case side3 => repeat (first | exact (Kd.R_reads' HO_9.out).2.2 | (with_reducible refine Kd.C_alloc ?_ _) | (with_reducible refine Kd.C_drewN ?_ _) | (with_reducible refine Kd.C_drew ?_))); (case side4 => exact (Kd.R_reads' HO_9.out).2.1); rintro e w46 ⟨v488, rfl, ho0, hb⟩; refine ⟨_, rfl, ?_⟩; have n0_ := Aside0.mk (Kd.R_elder' (by (with_reducible repeat (first | apply Kd.R_alloc | apply Kd.R_drewN | apply Kd.R_drew)); exact HO_7.out) (Kd.R_base ho0) hb); have n1_ := Aside0.mk (Kd.R_elder' (by (with_reducible repeat (first | apply Kd.R_alloc | apply Kd.R_drewN | apply Kd.R_drew)); exact HO_8.out) (Kd.R_base ho0) hb); have n2_ := Aside0.mk (Kd.R_below (by (with_reducible repeat (first | apply Kd.R_alloc | apply Kd.R_drewN | apply Kd.R_drew)); exact HO_9.out) hb); have n3_ := Aside0.mk (Kd.R_lower (Kd.R_new' (Kd.R_new' ho0 (Kd.R_lt (by (with_reducible repeat (first | apply Kd.R_alloc | apply Kd.R_drewN | apply Kd.R_drew)); exact HO_7.out))) (Kd.R_lt (by (with_reducible repeat (first | apply Kd.R_alloc | apply Kd.R_drewN | apply Kd.R_drew)); exact HO_8.out))) (below_size (by repeat (first | (with_reducible first | exact HB.out | apply below_alloc | apply pw_below_drewN | apply below_drew1) | exact HB.out)))); have n4_ := Aside0.mk (below_step (by repeat (first | (with_reducible first | exact HB.out | apply below_alloc | apply pw_below_drewN | apply below_drew1) | exact HB.out)) hb); clear HO_7; clear HO_8; clear HO_9; clear HB; have HO_7 := n0_; have HO_8 := n1_; have HO_9 := n2_; have HO489 := n3_; have HB := n4_; clear n0_ n1_ n2_ n3_ n4_; (try clear hb); (try clear hb2); (try clear hk); (try clear hi); (try clear ho0); obtain ⟨Ao47, co47, eo47⟩ := Kd.R_slice HO489.out; subst eo47) | (go_at_call 49; (with_reducible refine (bibelotlaw03_ints.calls kj29 _ _ t486 _ _ t477 true _ ?side1 ?side2 ?side3 ?side4 A42.out).mono ?_); (case side1 => repeat (first | exact (Kd.R_reads' HO489.out).2.2 | (with_reducible refine Kd.C_alloc ?_ _) | (with_reducible refine Kd.C_drewN ?_ _) | (with_reducible refine Kd.C_drew ?_))); (case side2 => exact (Kd.R_reads' HO489.out).2.1); (case side3 => repeat (first | exact (Kd.R_reads' HO_8.out).2.2 | (with_reducible refine Kd.C_alloc ?_ _) | (with_reducible refine Kd.C_drewN ?_ _) | (with_reducible refine Kd.C_drew ?_))); (case side4 => exact (Kd.R_reads' HO_8.out).2.1); rintro e w' ⟨rfl, ⟨nd, rfl⟩⟩) | (go_at_call 26; (with_reducible refine (bibelotlaw03_awake.calls kj29  t491 _ A44.out).mono ?_); rintro e w48 ⟨rfl, hb⟩; have n0_ := Aside0.mk (Kd.R_below (by (with_reducible repeat (first | apply Kd.R_alloc | apply Kd.R_drewN | apply Kd.R_drew)); exact HO_7.out) hb); have n1_ := Aside0.mk (Kd.R_below (by (with_reducible repeat (first | apply Kd.R_alloc | apply Kd.R_drewN | apply Kd.R_drew)); exact HO_8.out) hb); have n2_ := Aside0.mk (Kd.R_below (by (with_reducible repeat (first | apply Kd.R_alloc | apply Kd.R_drewN | apply Kd.R_drew)); exact HO_9.out) hb); have n3_ := Aside0.mk (Kd.R_below (by (with_reducible repeat (first | apply Kd.R_alloc | apply Kd.R_drewN | apply Kd.R_drew)); exact HO489.out) hb); have n4_ := Aside0.mk (below_step (by repeat (first | (with_reducible first | exact HB.out | apply below_alloc | apply pw_below_drewN | apply below_drew1) | exact HB.out)) hb); clear HO_7; clear HO_8; clear HO_9; clear HO489; clear HB; have HO_7 := n0_; have HO_8 := n1_; have HO_9 := n2_; have HO489 := n3_; have HB := n4_; clear n0_ n1_ n2_ n3_ n4_; (try clear hb); (try clear hb2); (try clear hk); (try clear hi)))
              go_ret
              exact ⟨by first | rfl | (simp [errW_none, errW_some] <;> rfl) | (simp [*, errW_none, errW_some] <;> rfl), by repeat (first | (with_reducible first | exact HB.out | apply below_alloc | apply pw_below_drewN | apply below_drew1) | exact HB.out)⟩
            · replace c43 := Bool.eq_false_iff.mpr c43
              subst c43
              have H1 : (some false) = some r := by rw [if_neg (show ¬ (false = true) by decide)] at H; exact H
              clear H
              have H := H1
              clear H1
              obtain rfl := Option.some.inj H
              obtain ⟨Ao49, co49, eo49⟩ := Kd.R_slice HO_9.out
              subst eo49
              go_wp2_with (first | ((with_reducible refine gate_callee (f := 57) rfl ?_); refine goesL_ (some 52) rfl rfl Tryd.func57 (by kernel_rfl) rfl #[.slice Ao33 t474.length co33, .slice Ao49 t480.length co49, .int .i64 3] rfl (by (try simp only [List.map_toArray, List.map_cons, List.map_nil]); first | done | rfl | (simp only [List.length_drop, List.length_take]; rfl)) ?_; (with_reducible refine (bibelotref03_Play.calls kj29 _ _ t474 _ _ t480 3 t486 t487 _ ?side1 ?side2 ?side3 ?side4 A40.out).mono ?_); (case side1 => repeat (first | exact (Kd.R_reads' HO_7.out).2.2 | (with_reducible refine Kd.C_alloc ?_ _) | (with_reducible refine Kd.C_drewN ?_ _) | (with_reducible refine Kd.C_drew ?_))); (case side2 => exact (Kd.R_reads' HO_7.out).2.1); (case side3 => repeat (first | exact (Kd.R_reads' HO_9.out).2.2 | (with_reducible refine Kd.C_alloc ?_ _) | (with_reducible refine Kd.C_drewN ?_ _) | (with_reducible refine Kd.C_drew ?_))); (case side4 => exact (Kd.R_reads' HO_9.out).2.1); rintro e w50 ⟨v488, rfl, ho0, hb⟩; refine ⟨_, rfl, ?_⟩; have n0_ := Aside0.mk (Kd.R_elder' (by (with_reducible repeat (first | apply Kd.R_alloc | apply Kd.R_drewN | apply Kd.R_drew)); exact HO_7.out) (Kd.R_base ho0) hb); have n1_ := Aside0.mk (Kd.R_elder' (by (with_reducible repeat (first | apply Kd.R_alloc | apply Kd.R_drewN | apply Kd.R_drew)); exact HO_8.out) (Kd.R_base ho0) hb); have n2_ := Aside0.mk (Kd.R_below (by (with_reducible repeat (first | apply Kd.R_alloc | apply Kd.R_drewN | apply Kd.R_drew)); exact HO_9.out) hb); have n3_ := Aside0.mk (Kd.R_lower (Kd.R_new' (Kd.R_new' ho0 (Kd.R_lt (by (with_reducible repeat (first | apply Kd.R_alloc | apply Kd.R_drewN | apply Kd.R_drew)); exact HO_7.out))) (Kd.R_lt (by (with_reducible repeat (first | apply Kd.R_alloc | apply Kd.R_drewN | apply Kd.R_drew)); exact HO_8.out))) (below_size (by repeat (first | (with_reducible first | exact HB.out | apply below_alloc | apply pw_below_drewN | apply below_drew1) | exact HB.out)))); have n4_ := Aside0.mk (below_step (by repeat (first | (with_reducible first | exact HB.out | apply below_alloc | apply pw_below_drewN | apply below_drew1) | exact HB.out)) hb); clear HO_7; clear HO_8; clear HO_9; clear HB; have HO_7 := n0_; have HO_8 := n1_; have HO_9 := n2_; have HO489 := n3_; have HB := n4_; clear n0_ n1_ n2_ n3_ n4_; (try clear hb); (try clear hb2); (try clear hk); (try clear hi); (try clear ho0); obtain ⟨Ao51, co51, eo51⟩ := Kd.R_slice HO489.out; subst eo51) | (go_at_call 49; (with_reducible refine (bibelotlaw03_ints.calls kj29 _ _ t486 _ _ t477 false _ ?side1 ?side2 ?side3 ?side4 A42.out).mono ?_); (case side1 => repeat (first | exact (Kd.R_reads' HO489.out).2.2 | (with_reducible refine Kd.C_alloc ?_ _) | (with_reducible refine Kd.C_drewN ?_ _) | (with_reducible refine Kd.C_drew ?_))); (case side2 => exact (Kd.R_reads' HO489.out).2.1); (case side3 => repeat (first | exact (Kd.R_reads' HO_8.out).2.2 | (with_reducible refine Kd.C_alloc ?_ _) | (with_reducible refine Kd.C_drewN ?_ _) | (with_reducible refine Kd.C_drew ?_))); (case side4 => exact (Kd.R_reads' HO_8.out).2.1); rintro e w' ⟨rfl, ⟨nd, rfl⟩⟩))
              go_ret
              exact ⟨by first | rfl | (simp [errW_none, errW_some] <;> rfl) | (simp [*, errW_none, errW_some] <;> rfl), by repeat (first | (with_reducible first | exact HB.out | apply below_alloc | apply pw_below_drewN | apply below_drew1) | exact HB.out)⟩
          · rw [if_neg c41] at H
            have c41b0 : (t487 == (t480.length : Int)) = false := beq_eq_false_iff_ne.mpr c41
            have c41b1 : (t487 != (t480.length : Int)) = true := bne_iff_ne.mpr c41
            obtain rfl := Option.some.inj H
            obtain ⟨Ao52, co52, eo52⟩ := Kd.R_slice HO_9.out
            subst eo52
            go_wp2_with (first | ((with_reducible refine gate_callee (f := 57) rfl ?_); refine goesL_ (some 52) rfl rfl Tryd.func57 (by kernel_rfl) rfl #[.slice Ao33 t474.length co33, .slice Ao52 t480.length co52, .int .i64 3] rfl (by (try simp only [List.map_toArray, List.map_cons, List.map_nil]); first | done | rfl | (simp only [List.length_drop, List.length_take]; rfl)) ?_; (with_reducible refine (bibelotref03_Play.calls kj29 _ _ t474 _ _ t480 3 t486 t487 _ ?side1 ?side2 ?side3 ?side4 A40.out).mono ?_); (case side1 => repeat (first | exact (Kd.R_reads' HO_7.out).2.2 | (with_reducible refine Kd.C_alloc ?_ _) | (with_reducible refine Kd.C_drewN ?_ _) | (with_reducible refine Kd.C_drew ?_))); (case side2 => exact (Kd.R_reads' HO_7.out).2.1); (case side3 => repeat (first | exact (Kd.R_reads' HO_9.out).2.2 | (with_reducible refine Kd.C_alloc ?_ _) | (with_reducible refine Kd.C_drewN ?_ _) | (with_reducible refine Kd.C_drew ?_))); (case side4 => exact (Kd.R_reads' HO_9.out).2.1); rintro e w53 ⟨v488, rfl, ho0, hb⟩; refine ⟨_, rfl, ?_⟩; have n0_ := Aside0.mk (Kd.R_elder' (by (with_reducible repeat (first | apply Kd.R_alloc | apply Kd.R_drewN | apply Kd.R_drew)); exact HO_7.out) (Kd.R_base ho0) hb); have n1_ := Aside0.mk (Kd.R_elder' (by (with_reducible repeat (first | apply Kd.R_alloc | apply Kd.R_drewN | apply Kd.R_drew)); exact HO_8.out) (Kd.R_base ho0) hb); have n2_ := Aside0.mk (Kd.R_below (by (with_reducible repeat (first | apply Kd.R_alloc | apply Kd.R_drewN | apply Kd.R_drew)); exact HO_9.out) hb); have n3_ := Aside0.mk (Kd.R_lower (Kd.R_new' (Kd.R_new' ho0 (Kd.R_lt (by (with_reducible repeat (first | apply Kd.R_alloc | apply Kd.R_drewN | apply Kd.R_drew)); exact HO_7.out))) (Kd.R_lt (by (with_reducible repeat (first | apply Kd.R_alloc | apply Kd.R_drewN | apply Kd.R_drew)); exact HO_8.out))) (below_size (by repeat (first | (with_reducible first | exact HB.out | apply below_alloc | apply pw_below_drewN | apply below_drew1) | exact HB.out)))); have n4_ := Aside0.mk (below_step (by repeat (first | (with_reducible first | exact HB.out | apply below_alloc | apply pw_below_drewN | apply below_drew1) | exact HB.out)) hb); clear HO_7; clear HO_8; clear HO_9; clear HB; have HO_7 := n0_; have HO_8 := n1_; have HO_9 := n2_; have HO489 := n3_; have HB := n4_; clear n0_ n1_ n2_ n3_ n4_; (try clear hb); (try clear hb2); (try clear hk); (try clear hi); (try clear ho0)))
            go_ret
            exact ⟨by first | rfl | (simp [errW_none, errW_some] <;> rfl) | (simp [*, errW_none, errW_some] <;> rfl), by repeat (first | (with_reducible first | exact HB.out | apply below_alloc | apply pw_below_drewN | apply below_drew1) | exact HB.out)⟩

/-- THE ONE PURE STATEMENT of bibelotlaw03_HanoiWays: yours. -/
def bibelotlaw03_HanoiWays.Pure : Prop := ∀ (a0 : Int) (l1 : List Int) (l2 : List Int), (Lit.int .i64 a0).wf = true → l1.length ≤ maxLen → l1.length * 8 ≤ 140737488351232 → (∀ x ∈ l1, (Lit.int .i64 x).wf = true) → l2.length ≤ maxLen → l2.length * 8 ≤ 140737488351232 → (∀ x ∈ l2, (Lit.int .i64 x).wf = true) → ∃ k, bibelotlaw03_HanoiWays.f k a0 l1 l2 = some true
theorem bibelotlaw03_HanoiWays.walk (P : bibelotlaw03_HanoiWays.Pure) (a0 : Int) (a1 : Option Addr) (len1 cap1 : Nat) (z1 : List Int) (a2 : Option Addr) (len2 cap2 : Nat) (z2 : List Int) (w : World) (w0 : (Lit.int .i64 a0).wf = true) (w1 : (a1 = none ∧ len1 = 0 ∧ cap1 = 0 ∧ z1 = []) ∨ ∃ x, a1 = some x ∧ len1 ≤ cap1 ∧ cap1 ≤ maxLen ∧ z1.length = cap1 ∧ (∀ i, i < z1.length → w.cell? (x.add i) = some (.int .i64 (z1.getD i 0))) ∧ ∀ n ∈ z1, (Lit.int .i64 n).wf = true) (y1 : len1 * 8 ≤ 140737488351232) (w2 : (a2 = none ∧ len2 = 0 ∧ cap2 = 0 ∧ z2 = []) ∨ ∃ x, a2 = some x ∧ len2 ≤ cap2 ∧ cap2 ≤ maxLen ∧ z2.length = cap2 ∧ (∀ i, i < z2.length → w.cell? (x.add i) = some (.int .i64 (z2.getD i 0))) ∧ ∀ n ∈ z2, (Lit.int .i64 n).wf = true) (y2 : len2 * 8 ≤ 140737488351232) :
    Calls Tryd.prog 19 #[.int .i64 a0, .slice a1 len1 cap1, .slice a2 len2 cap2] w fun e w' => e = .returned (.bool true) ∧ Below w.heap.size w w' := by
  obtain ⟨l1, rfl, hr1, hm1, hw1, hc1⟩ := ReadsInt.ofRowC w1
  obtain ⟨l2, rfl, hr2, hm2, hw2, hc2⟩ := ReadsInt.ofRowC w2
  obtain ⟨k, h⟩ := P a0 l1 l2 w0 hm1 y1 hw1 hm2 y2 hw2
  refine (bibelotlaw03_HanoiWays.calls k a0 _ _ l1 _ _ l2 true w (Kd.C_of_reads (d := (0 : Int)) (h1 := fun _ => rfl) hr1) hc1 (Kd.C_of_reads (d := (0 : Int)) (h1 := fun _ => rfl) hr2) hc2 h).mono ?_
  rintro e w' ⟨rfl, hd⟩
  exact ⟨rfl, hd⟩

end Go.Proofs.YtnaaomhmoamfpaaDoor.Q
/- A way's moves can be made, lead to the goal, and are as many as the distance. -/
namespace Go.Proofs.YtnaaomhmoamfpaaDoor.G
set_option linter.unusedVariables false
set_option linter.unusedSimpArgs false
set_option linter.unusedSectionVars false
open Go.Proofs.YtnaaomhmoamfpaaDoor.Q Go.Proofs.YtnaaomhmoamfpaaDoor.Hn Go.Proofs.YtnaaomhmoamfpaaDoor.K
open Go.RowKit Go.Proofs.YtnaaomhmoamfpaaDoorW.PrintWords Go.Proofs.YtnaaomhmoamfpaaDoorW.PrintLast Go.Proofs.YtnaaomhmoamfpaaDoorW.PrintMore

structure CanP (d : List Int) (j : Nat) (q : Int) : Prop where
  lt : j < d.length
  peg : Peg q
  ne : nth d j ≠ q
  free : ∀ i, i < j → nth d i ≠ nth d j ∧ nth d i ≠ q
def runI (d : List Int) (ms : List (Nat × Int)) : List Int := ms.foldl (fun t m => t.set m.1 m.2) d
def LegI : List Int → List (Nat × Int) → Prop
  | _, [] => True
  | d, m :: ms => CanP d m.1 m.2 ∧ LegI (d.set m.1 m.2) ms
theorem run_nil (d : List Int) : runI d [] = d := rfl
theorem run_cons (d : List Int) (m : Nat × Int) (ms : List (Nat × Int)) : runI d (m :: ms) = runI (d.set m.1 m.2) ms := rfl
theorem run_append (d : List Int) (a b : List (Nat × Int)) : runI d (a ++ b) = runI (runI d a) b := by simp [runI, List.foldl_append]
theorem leg_append : ∀ (a : List (Nat × Int)) (d : List Int) (b : List (Nat × Int)), LegI d (a ++ b) ↔ LegI d a ∧ LegI (runI d a) b
  | [], d, b => by simp [LegI, run_nil]
  | m :: a, d, b => by
    rw [List.cons_append, LegI, LegI, run_cons, leg_append a, and_assoc]
theorem nth_ext {l m : List Int} (hl : l.length = m.length) (h : ∀ i, i < l.length → nth l i = nth m i) : l = m := by
  apply List.ext_getElem hl
  intro i h1 h2
  have := h i h1
  simpa [nth, h1, h2] using this
theorem run_len (ms : List (Nat × Int)) : ∀ d : List Int, (runI d ms).length = d.length := by
  induction ms with
  | nil => intro d; rfl
  | cons m ms ih => intro d; rw [run_cons, ih, List.length_set]

theorem gather_leg : ∀ (k : Nat) (d : List Int) (p : Int), k ≤ d.length → DiscsL d → Peg p →
    LegI d (gatherL k d p).1 ∧ runI d (gatherL k d p).1 = (gatherL k d p).2 ∧ ((gatherL k d p).1.length : Int) = tp (nth d) k p ∧ ∀ m, m ∈ (gatherL k d p).1 → m.1 < k
  | 0, d, p, _, _, _ => ⟨trivial, rfl, rfl, fun m hm => absurd hm List.not_mem_nil⟩
  | k + 1, d, p, hk, hd, hp => by
    rw [gatherL]
    by_cases c : nth d k = p
    · rw [if_pos c]
      obtain ⟨h1, h2, h3, h4⟩ := gather_leg k d p (by omega) hd hp
      exact ⟨h1, h2, by rw [h3, tp, if_pos c], fun m hm => by have := h4 m hm; omega⟩
    · rw [if_neg c]
      have hq := hd k (by omega)
      have ht := third_peg hq hp c
      obtain ⟨h1, h2, h3, h4⟩ := gather_leg k d (3 - nth d k - p) (by omega) hd ht
      obtain ⟨f1, f2, f3⟩ := gather_facts k d (3 - nth d k - p) (by omega)
      have hd1 := discs_set (gather_pos k d (3 - nth d k - p) (by omega) hd ht) k p hp
      obtain ⟨g1, g2, g3, g4⟩ := gather_leg k ((gatherL k d (3 - nth d k - p)).2.set k p) p (by rw [List.length_set, f1]; omega) hd1 hp
      have hx : nth (gatherL k d (3 - nth d k - p)).2 k = nth d k := f2 k (Nat.le_refl _)
      have hcan : CanP (gatherL k d (3 - nth d k - p)).2 k p := by
        refine ⟨by omega, hp, by rw [hx]; exact c, fun i hi => ?_⟩
        rw [f3 i hi, hx]
        unfold Peg at hq hp
        omega
      dsimp only
      refine ⟨?_, ?_, ?_, ?_⟩
      · rw [List.append_assoc, leg_append, h2]
        exact ⟨h1, hcan, g1⟩
      · rw [List.append_assoc, run_append, h2, run_append]
        exact g2
      · have hon : On (nth ((gatherL k d (3 - nth d k - p)).2.set k p)) k (3 - nth d k - p) := fun i hi => by rw [nth_set_ne _ _ _ _ (by omega)]; exact f3 i hi
        rw [tp_on_ne hon (by unfold Peg at hq hp; omega) ht hp] at g3
        rw [tp, if_neg c]
        simp only [List.length_append, List.length_singleton, Int.natCast_add, Int.natCast_one]
        omega
      · intro m hm
        rcases List.mem_append.1 hm with hm | hm
        · rcases List.mem_append.1 hm with hm | hm
          · have := h4 m hm; omega
          · obtain rfl := List.mem_singleton.1 hm; show k < k + 1; omega
        · have := g4 m hm; omega

/-- The way back. -/
def revI : List Int → List (Nat × Int) → List (Nat × Int)
  | _, [] => []
  | d, m :: ms => revI (d.set m.1 m.2) ms ++ [(m.1, nth d m.1)]
theorem bk_rev : ∀ (ms : List (Nat × Int)) (o : List S52) (d : List Int), (ms.foldl (fun s m => (s.1 ++ [(⟨(m.1 : Int), nth s.2 m.1⟩ : S52)], s.2.set m.1 m.2)) (o, d)).1 = o ++ ((revI d ms).map mkI).reverse
  | [], o, d => by simp [revI]
  | m :: ms, o, d => by
    rw [List.foldl_cons, bk_rev ms, revI, List.map_append, List.reverse_append]
    simp [mkI]
theorem bk_eq (d : List Int) (ms : List (Nat × Int)) : (bk d ms).1.reverse = (revI d ms).map mkI := by
  unfold bk
  rw [bk_rev, List.nil_append, List.reverse_reverse]
theorem set_back (d : List Int) (j : Nat) (q : Int) (hj : j < d.length) : (d.set j q).set j (nth d j) = d := by
  apply nth_ext (by simp)
  intro i hi
  by_cases e : i = j
  · subst e; rw [nth_set_self _ _ _ (by simpa using hj)]
  · rw [nth_set_ne _ _ _ _ e, nth_set_ne _ _ _ _ e]
theorem rev_leg : ∀ (ms : List (Nat × Int)) (d : List Int), LegI d ms → DiscsL d → LegI (runI d ms) (revI d ms) ∧ runI (runI d ms) (revI d ms) = d ∧ (revI d ms).length = ms.length ∧ ∀ K, (∀ m, m ∈ ms → m.1 < K) → ∀ m, m ∈ revI d ms → m.1 < K
  | [], d, _, _ => ⟨trivial, rfl, rfl, fun K _ m hm => absurd hm List.not_mem_nil⟩
  | m :: ms, d, h, hd => by
    obtain ⟨hc, hl⟩ := h
    obtain ⟨h1, h2, h3, h4⟩ := rev_leg ms (d.set m.1 m.2) hl (discs_set hd m.1 m.2 hc.peg)
    rw [run_cons, revI, leg_append, h2, run_append, h2, List.length_append, h3]
    have hj := hc.lt
    refine ⟨⟨h1, ⟨by simpa using hj, hd _ hj, by rw [nth_set_self _ _ _ hj]; exact fun e => hc.ne e.symm, fun i hi => ?_⟩, trivial⟩, set_back d m.1 m.2 hj, rfl, fun K hK x hx => ?_⟩
    · show nth (d.set m.1 m.2) i ≠ nth (d.set m.1 m.2) m.1 ∧ nth (d.set m.1 m.2) i ≠ nth d m.1
      have hi : i < m.1 := hi
      rw [nth_set_ne _ _ _ _ (by omega), nth_set_self _ _ _ hj]
      have := hc.free i hi
      exact ⟨this.2, this.1⟩
    · rcases List.mem_append.1 hx with hx | hx
      · exact h4 K (fun y hy => hK y (List.mem_cons_of_mem _ hy)) x hx
      · obtain rfl := List.mem_singleton.1 hx
        exact hK m List.mem_cons_self

theorem take_set_ (d : List Int) (n j : Nat) (q : Int) : (d.take n).set j q = (d.set j q).take n := by
  rw [List.take_set]
theorem gather_take : ∀ (k n : Nat) (d : List Int) (p : Int), k ≤ n → gatherL k (d.take n) p = ((gatherL k d p).1, (gatherL k d p).2.take n)
  | 0, n, d, p, _ => rfl
  | k + 1, n, d, p, h => by
    rw [gatherL, gatherL, nth_take d n k (by omega)]
    by_cases c : nth d k = p
    · rw [if_pos c, if_pos c]; exact gather_take k n d p (by omega)
    · rw [if_neg c, if_neg c, gather_take k n d _ (by omega)]
      dsimp only
      rw [take_set_, gather_take k n _ _ (by omega)]
theorem rev_take : ∀ (ms : List (Nat × Int)) (n : Nat) (d : List Int), (∀ m, m ∈ ms → m.1 < n) → revI (d.take n) ms = revI d ms
  | [], n, d, _ => rfl
  | m :: ms, n, d, h => by
    rw [revI, revI, take_set_, rev_take ms n _ (fun x hx => h x (List.mem_cons_of_mem _ hx)), nth_take d n m.1 (h m List.mem_cons_self)]
/-- spread's way, from the discs of which the smaller ones are on peg p. -/
theorem spread_good (m : List Int) (k : Nat) (p : Int) (hk : k ≤ m.length) (hd : DiscsL m) (hp : Peg p) :
    ∃ ms, spreadL (m.take k) p = ms.map mkI ∧ LegI (gatherL k m p).2 ms ∧ runI (gatherL k m p).2 ms = m ∧ (ms.length : Int) = tp (nth m) k p ∧ ∀ x, x ∈ ms → x.1 < k := by
  obtain ⟨h1, h2, h3, h4⟩ := gather_leg k m p hk hd hp
  obtain ⟨g1, g2, g3, g4⟩ := rev_leg (gatherL k m p).1 m h1 hd
  rw [h2] at g1 g2
  refine ⟨revI m (gatherL k m p).1, ?_, g1, g2, by rw [g3]; exact h3, g4 k h4⟩
  unfold spreadL
  have hl : (m.take k).length = k := by rw [List.length_take]; omega
  rw [hl, gather_take k k m p (Nat.le_refl _), bk_eq, rev_take _ _ _ h4]

/-- One great move, the smaller discs brought out of its way. -/
theorem step_good (k : Nat) (d : List Int) (stop : Int) (hk : k < d.length) (hd : DiscsL d) (hs : Peg stop) (hne : nth d k ≠ stop) :
    LegI d ((gatherL k d (3 - nth d k - stop)).1 ++ [(k, stop)]) ∧ runI d ((gatherL k d (3 - nth d k - stop)).1 ++ [(k, stop)]) = (gatherL k d (3 - nth d k - stop)).2.set k stop ∧
    ((gatherL k d (3 - nth d k - stop)).2.set k stop).length = d.length ∧ DiscsL ((gatherL k d (3 - nth d k - stop)).2.set k stop) ∧
    (∀ i, i < k → nth ((gatherL k d (3 - nth d k - stop)).2.set k stop) i = 3 - nth d k - stop) ∧ nth ((gatherL k d (3 - nth d k - stop)).2.set k stop) k = stop ∧ ∀ i, k < i → nth ((gatherL k d (3 - nth d k - stop)).2.set k stop) i = nth d i := by
  have hq := hd k hk
  have ht := third_peg hq hs hne
  obtain ⟨h1, h2, h3, h4⟩ := gather_leg k d (3 - nth d k - stop) (by omega) hd ht
  obtain ⟨f1, f2, f3⟩ := gather_facts k d (3 - nth d k - stop) (by omega)
  have hx : nth (gatherL k d (3 - nth d k - stop)).2 k = nth d k := f2 k (Nat.le_refl _)
  refine ⟨?_, ?_, by rw [List.length_set, f1], discs_set (gather_pos k d _ (by omega) hd ht) k stop hs, fun i hi => by rw [nth_set_ne _ _ _ _ (by omega)]; exact f3 i hi, nth_set_self _ _ _ (by omega), fun i hi => by rw [nth_set_ne _ _ _ _ (by omega)]; exact f2 i (by omega)⟩
  · rw [leg_append, h2]
    refine ⟨h1, ⟨by show k < _; omega, hs, by show nth _ k ≠ stop; rw [hx]; exact hne, fun i hi => ?_⟩, trivial⟩
    show nth (gatherL k d (3 - nth d k - stop)).2 i ≠ nth (gatherL k d (3 - nth d k - stop)).2 k ∧ nth (gatherL k d (3 - nth d k - stop)).2 i ≠ stop
    have hi : i < k := hi
    rw [f3 i hi, hx]
    unfold Peg at hq hs
    omega
  · rw [run_append, h2]; rfl

theorem top_above {s t : Nat → Int} {n k : Nat} (h : top s t n = k + 1) : ∀ i, k < i → i < n → s i = t i := by
  induction n with
  | zero => intro i _ hi; omega
  | succ n ih =>
    unfold top at h
    intro i h1 h2
    split at h
    · rename_i c
      by_cases e : i = n
      · rw [e]; exact c
      · exact ih h i h1 (by omega)
    · omega
/-- What is said of a way. -/
structure GoodWay (l m : List Int) (k : Nat) (ms : List (Nat × Int)) : Prop where
  eq : wayOf l m k = ms.map mkI
  leg : LegI l ms
  run : runI l ms = m
  len : (ms.length : Int) = dst (nth l) (nth m) l.length
  great : (ms.filter fun x => decide (x.1 = k)).length = (stopsL l m k).length
  below : ∀ x, x ∈ ms → x.1 ≤ k
theorem filter_lt (k : Nat) (ms : List (Nat × Int)) (h : ∀ x, x ∈ ms → x.1 < k) : (ms.filter fun x => decide (x.1 = k)).length = 0 := by
  rw [List.length_eq_zero_iff, List.filter_eq_nil_iff]
  intro x hx
  have := h x hx
  simp
  omega
theorem way_good (l m : List Int) (k : Nat) (hb : both l m = true) (ht : top (nth l) (nth m) l.length = k + 1) : ∃ ms, GoodWay l m k ms := by
  obtain ⟨⟨h0, h40, hd⟩, hdm, hlen⟩ := (both_iff l m).1 hb
  have hk : k < l.length := by have := top_le (nth l) (nth m) l.length; omega
  have hne := top_ne ht
  have habove := top_above ht
  have hq := hd k hk
  have hqm := hdm k (by omega)
  have h3 := third_peg hq hqm hne
  have hdst := dst_top hk habove hne
  -- the discs behind the great moves, and the way on
  have fin : ∀ (d : List Int) (p : Int) (a : List (Nat × Int)), Peg p → LegI l a → runI l a = d → d.length = l.length → (∀ i, i < k → nth d i = p) → nth d k = nth m k → (∀ i, k < i → nth d i = nth l i) →
      (wayRun k l (stopsL l m k)) = (a.map mkI, d) → (a.length : Int) + tp (nth m) k p = dst (nth l) (nth m) l.length → (a.filter fun x => decide (x.1 = k)).length = (stopsL l m k).length → (∀ x, x ∈ a → x.1 ≤ k) → ∃ ms, GoodWay l m k ms := by
    intro d p a hp hleg hrun hdl hlow hdk hhigh hway hcount hgreat hbel
    have hdm2 : d = (gatherL k m p).2 := by
      obtain ⟨f1, f2, f3⟩ := gather_facts k m p (by omega)
      apply nth_ext (by rw [hdl, f1, hlen])
      intro i hi
      rcases Nat.lt_trichotomy i k with c | c | c
      · rw [hlow i c, f3 i c]
      · subst c; rw [hdk, f2 i (Nat.le_refl _)]
      · rw [hhigh i c, f2 i (by omega)]; exact habove i c (by omega)
    obtain ⟨ms, s1, s2, s3, s4, s5⟩ := spread_good m k p (by omega) hdm hp
    rw [← hdm2] at s2 s3
    by_cases ck : 0 < k
    · have hp0 : nth d 0 = p := hlow 0 ck
      refine ⟨a ++ ms, ?_, ?_, ?_, ?_, ?_, ?_⟩
      · unfold wayOf
        rw [if_pos ck, hway, hp0, s1, List.map_append]
      · rw [leg_append, hrun]; exact ⟨hleg, s2⟩
      · rw [run_append, hrun]; exact s3
      · rw [List.length_append, Int.natCast_add, s4]; exact hcount
      · rw [List.filter_append, List.length_append, hgreat, filter_lt k ms s5]; omega
      · intro x hx
        rcases List.mem_append.1 hx with hx | hx
        · exact hbel x hx
        · have := s5 x hx; omega
    · obtain rfl : k = 0 := by omega
      refine ⟨a, ?_, hleg, ?_, ?_, hgreat, hbel⟩
      · unfold wayOf
        rw [if_neg ck, hway]
      · rw [hrun, hdm2]; rfl
      · have : tp (nth m) 0 p = 0 := rfl
        omega
  by_cases c : two (nth l) (nth m) k < one (nth l) (nth m) k
  · have hst : stopsL l m k = [3 - nth l k - nth m k, nth m k] := by unfold stopsL; rw [if_pos c]
    obtain ⟨a1, a2, a3, a4, a5, a6, a7⟩ := step_good k l (3 - nth l k - nth m k) hk hd h3 (by unfold Peg at hq hqm; omega)
    have e1 : 3 - nth l k - (3 - nth l k - nth m k) = nth m k := by omega
    obtain ⟨_, _, l1, l2⟩ := gather_leg k l (3 - nth l k - (3 - nth l k - nth m k)) (by omega) hd (by rw [e1]; exact hqm)
    rw [e1] at a1 a2 a3 a4 a5 a6 a7 l1 l2
    obtain ⟨d1, hd1⟩ : ∃ d1, (gatherL k l (nth m k)).2.set k (3 - nth l k - nth m k) = d1 := ⟨_, rfl⟩
    rw [hd1] at a2 a3 a4 a5 a6 a7
    obtain ⟨b1, b2, b3, b4, b5, b6, b7⟩ := step_good k d1 (nth m k) (by omega) a4 hqm (by rw [a6]; unfold Peg at hq hqm; omega)
    have e2 : 3 - nth d1 k - nth m k = nth l k := by rw [a6]; omega
    obtain ⟨_, _, l3, l4⟩ := gather_leg k d1 (3 - nth d1 k - nth m k) (by omega) a4 (by rw [e2]; exact hq)
    rw [e2] at b1 b2 b3 b4 b5 b6 b7 l3 l4
    rw [tp_on_ne (fun i hi => a5 i hi) (fun e => hne e) hqm hq] at l3
    refine fin _ (nth l k) (((gatherL k l (nth m k)).1 ++ [(k, 3 - nth l k - nth m k)]) ++ ((gatherL k d1 (nth l k)).1 ++ [(k, nth m k)])) hq ?_ ?_ (b3.trans a3) b5 b6 (fun i hi => by rw [b7 i hi]; exact a7 i hi) ?_ ?_ ?_ ?_
    · rw [leg_append, a2]; exact ⟨a1, b1⟩
    · rw [run_append, a2]; exact b2
    · rw [hst]
      unfold wayRun
      simp only [List.foldl_cons, List.foldl_nil, wayStep, e1, hd1, e2]
      simp [mkI]
    · rw [hdst]
      have : min (one (nth l) (nth m) k) (two (nth l) (nth m) k) = two (nth l) (nth m) k := by omega
      rw [this]
      unfold two
      simp only [List.length_append, List.length_singleton, Int.natCast_add, Int.natCast_one]
      omega
    · rw [hst]
      simp only [List.filter_append, List.length_append]
      rw [filter_lt k _ l2, filter_lt k _ l4]
      simp
    · intro x hx
      simp only [List.mem_append, List.mem_singleton] at hx
      rcases hx with (hx | rfl) | (hx | rfl)
      · have := l2 x hx; omega
      · exact Nat.le_refl _
      · have := l4 x hx; omega
      · exact Nat.le_refl _
  · have hst : stopsL l m k = [nth m k] := by unfold stopsL; rw [if_neg c]
    obtain ⟨a1, a2, a3, a4, a5, a6, a7⟩ := step_good k l (nth m k) hk hd hqm hne
    obtain ⟨_, _, l1, l2⟩ := gather_leg k l (3 - nth l k - nth m k) (by omega) hd h3
    refine fin _ (3 - nth l k - nth m k) ((gatherL k l (3 - nth l k - nth m k)).1 ++ [(k, nth m k)]) h3 a1 a2 a3 a5 a6 a7 ?_ ?_ ?_ ?_
    · rw [hst]
      unfold wayRun
      simp only [List.foldl_cons, List.foldl_nil, wayStep]
      simp [mkI]
    · rw [hdst]
      have : min (one (nth l) (nth m) k) (two (nth l) (nth m) k) = one (nth l) (nth m) k := by omega
      rw [this]
      unfold one
      simp only [List.length_append, List.length_singleton, Int.natCast_add, Int.natCast_one]
      omega
    · rw [hst]
      simp only [List.filter_append, List.length_append]
      rw [filter_lt k _ l2]
      simp
    · intro x hx
      simp only [List.mem_append, List.mem_singleton] at hx
      rcases hx with hx | rfl
      · have := l2 x hx; omega
      · exact Nat.le_refl _
end Go.Proofs.YtnaaomhmoamfpaaDoor.G
/- Ways played by the document's Play. -/
namespace Go.Proofs.YtnaaomhmoamfpaaDoor.G
set_option linter.unusedVariables false
set_option linter.unusedSimpArgs false
set_option linter.unusedSectionVars false
open Go.Proofs.YtnaaomhmoamfpaaDoor.Q Go.Proofs.YtnaaomhmoamfpaaDoor.Hn Go.Proofs.YtnaaomhmoamfpaaDoor.K
open Go.RowKit Go.Proofs.YtnaaomhmoamfpaaDoorW.PrintWords Go.Proofs.YtnaaomhmoamfpaaDoorW.PrintLast Go.Proofs.YtnaaomhmoamfpaaDoorW.PrintMore

theorem canP_B {d : List Int} {j : Nat} {q : Int} (h : CanP d j q) : canB d j q = true := by
  unfold canB
  have hj := h.lt
  have hne : q ≠ nth d j := fun e => h.ne e.symm
  rw [(cov_no d (nth d j) j (by omega)).2 (fun i hi => (h.free i hi).1), (cov_no d q j (by omega)).2 (fun i hi => (h.free i hi).2), decide_eq_true hne]
  rfl
theorem canP_ev {d : List Int} {j : Nat} {q : Int} (h : CanP d j q) (hl : d.length ≤ 1000) : Ev (fun k => bibelotref03_Can.f k d (j : Int) q 3) true := by
  have hp := h.peg
  unfold Peg at hp
  obtain ⟨p, hpq⟩ := Int.eq_ofNat_of_zero_le hp.1
  have := can_ev d j p 3 h.lt hl (by omega)
  rw [hpq]
  rw [← hpq] at this
  rw [← canP_B h, hpq]
  rw [hpq] at this
  exact this
theorem rd_mid (a b : List (Nat × Int)) (m : Nat × Int) : rd_T52 ((a ++ m :: b).map mkI) (a.length : Int) = mkI m := by simp [rd_T52]
theorem rplay_loop (d : List Int) (hd : d.length ≤ 1000) : ∀ (b a : List (Nat × Int)), LegI (runI d a) b → (a ++ b).length ≤ 1000000 →
    Ev (fun k => bibelotref03_Play.l0 k ((a ++ b).map mkI) 3 (runI d a) (a.length : Int)) (runI d (a ++ b), ((a ++ b).length : Int))
  | [], a, _, h => by
    refine Ev.step (fun k => ?_) (Ev.now _)
    rw [bibelotref03_Play.l0, if_neg (by simp), List.length_map, List.append_nil]
  | m :: b, a, hl, h => by
    obtain ⟨hc, hl⟩ := hl
    have e1 : a ++ m :: b = (a ++ [m]) ++ b := by simp
    have e2 : runI d (a ++ [m]) = (runI d a).set m.1 m.2 := by rw [run_append]; rfl
    have ih := rplay_loop d hd b (a ++ [m]) (by rw [e2]; exact hl) (by rw [← e1]; exact h)
    rw [← e1, e2] at ih
    have hlen := run_len a d
    have hlt := hc.lt
    rw [List.length_append, List.length_cons] at h
    refine Ev.step (f := fun k => (bibelotref03_Can.f k (runI d a) (m.1 : Int) m.2 3).bind fun t => if t = true then bibelotref03_Play.l0 k ((a ++ m :: b).map mkI) 3 ((runI d a).set m.1 m.2) ((a ++ [m]).length : Int) else some (runI d a, (a.length : Int))) (fun k => ?_) (Ev.bind (canP_ev hc (by omega)) ?_)
    · rw [bibelotref03_Play.l0, if_pos (by simp; omega), if_pos (by omega), rd_mid, w64 (by omega) (by omega)]
      show (bibelotref03_Can.f k (runI d a) (m.1 : Int) m.2 3).bind _ = _
      congr 1
      funext t
      have h1 : (0 : Int) ≤ (mkI m).f0 := by show (0 : Int) ≤ (m.1 : Int); omega
      have h2 : (mkI m).f0 < ((runI d a).length : Int) := by show (m.1 : Int) < _; omega
      rw [if_pos h1, if_pos h2]
      simp only [List.length_append, List.length_singleton, Int.natCast_add, Int.natCast_one]
      rfl
    · simp only [if_true]
      exact ih
theorem rplay_ev (d : List Int) (ms : List (Nat × Int)) (hd : d.length ≤ 1000) (hl : LegI d ms) (h : ms.length ≤ 1000000) : Ev (fun k => bibelotref03_Play.f k d (ms.map mkI) 3) (runI d ms, (ms.length : Int)) := by
  have := rplay_loop d hd ms [] hl (by simpa using h)
  unfold bibelotref03_Play.f
  have hc : ([] : List Int).length + d.length < 17592186044416 := by simp; omega
  simp only [hc, if_true]
  exact this
theorem dst_bound {l m : List Int} (hb : both l m = true) : dst (nth l) (nth m) l.length ≤ 2 ^ l.length - 1 := by
  obtain ⟨⟨h0, h40, hd⟩, hdm, hlen⟩ := (both_iff l m).1 hb
  have h1 := dst_far (nth l) (nth m) l.length hd (by unfold DiscsL at hdm; rwa [hlen] at hdm)
  have h2 := tp_le (nth l) l.length 0
  have h3 := tp_le (nth l) l.length 1
  have h4 := tp_le (nth l) l.length 2
  unfold far at h1
  omega
/-- What Way answers. -/
structure IsWay (l m : List Int) (ms : List (Nat × Int)) : Prop where
  f : hanoi_Way.f l m = some (ms.map mkI, 0)
  leg : LegI l ms
  run : runI l ms = m
  len : (ms.length : Int) = dst (nth l) (nth m) l.length
theorem way_is {l m : List Int} (hb : both l m = true) (h12 : l.length ≤ 12) : ∃ ms, IsWay l m ms := by
  by_cases e : l = m
  · refine ⟨[], ?_, trivial, e, ?_⟩
    · unfold hanoi_Way.f; rw [if_pos hb, if_neg (by omega), if_pos e]; rfl
    · rw [e, dst_same (fun _ _ => rfl)]; rfl
  · obtain ⟨_, _, hlen⟩ := (both_iff l m).1 hb
    cases hk : top (nth l) (nth m) l.length with
    | zero => exact absurd (list_top hlen hk) e
    | succ k =>
      obtain ⟨ms, hg⟩ := way_good l m k hb hk
      refine ⟨ms, ?_, hg.leg, hg.run, hg.len⟩
      unfold hanoi_Way.f
      rw [if_pos hb, if_neg (by omega), if_neg e, hk, ← hg.eq]
      rfl
end Go.Proofs.YtnaaomhmoamfpaaDoor.G
/- HanoiWays: the way is as long as the distance, and leads to the goal. -/
namespace Go.Proofs.YtnaaomhmoamfpaaDoor.Pure
set_option linter.unusedVariables false
set_option linter.unusedSimpArgs false
set_option linter.unusedSectionVars false
open Go.Proofs.YtnaaomhmoamfpaaDoor.G Go.Proofs.YtnaaomhmoamfpaaDoor.Hn
open Go.RowKit Go.Proofs.YtnaaomhmoamfpaaDoor.Q Go.Proofs.YtnaaomhmoamfpaaDoorW.PrintWords Go.Proofs.YtnaaomhmoamfpaaDoorW.PrintLast Go.Proofs.YtnaaomhmoamfpaaDoorW.PrintMore

theorem HanoiWays : bibelotlaw03_HanoiWays.Pure := by
  intro a0 l1 l2 _ _ _ _ _ _ _
  refine Ev.rounds (r := true) (g := fun k => bibelotlaw03_HanoiWays.f k a0 l1 l2) ?_
  obtain ⟨m1, m2⟩ := many_bd a0 14 (by omega)
  obtain ⟨n, hn⟩ := Int.eq_ofNat_of_zero_le (show 0 ≤ manyOf a0 14 by omega)
  unfold bibelotlaw03_HanoiWays.f
  rw [many_f a0 14 (by omega) (by omega), hn]
  simp only [Option.bind_some]
  have h0 : 1 ≤ n := by omega
  have h1 : n ≤ 40 := by omega
  have hb := both_discs l1 l2 n h0 h1
  have hlx := discsL_len l1 n
  refine Ev.bind (discs_ev l1 n (by omega)) (Ev.bind (discs_ev l2 n (by omega)) ?_)
  generalize discsL l1 n = x at *
  generalize discsL l2 n = y at *
  by_cases c : 12 < n
  · have hw : hanoi_Way.f x y = some ([], 1) := by unfold hanoi_Way.f; rw [if_pos hb, if_pos (by omega)]
    have c' : (n : Int) > 12 := by omega
    simp only [hw, Option.bind_some, c', if_true, List.length_nil, Int.natCast_zero]
    exact Ev.bind awake_ev (Ev.now true)
  · obtain ⟨ms, hw⟩ := way_is hb (by omega)
    have c' : ¬ (n : Int) > 12 := by omega
    have hr : bibelotref03_Distance.f x y = some (dst (nth x) (nth y) x.length) := by unfold bibelotref03_Distance.f; rw [if_pos hb]
    have hbd := dst_bound hb
    have hp := Nat.pow_le_pow_right (show 0 < 2 by omega) (show x.length ≤ 12 by omega)
    have hpc : ((2 ^ x.length : Nat) : Int) = 2 ^ x.length := by simp
    have hl := hw.len
    have hl' : (ms.length : Int) < 4096 := by omega
    simp only [hw.f, Option.bind_some, c', if_false, if_true, hr, List.length_map, hl, bne_self_eq_false]
    refine Ev.step (f := fun k => (bibelotref03_Play.f k x (ms.map mkI) 3).bind fun bt486 => (if bt486.2 = ((ms.map mkI).length : Int) then ((bibelotlaw03_ints.f k bt486.1 y).bind fun t490 => (if t490 = true then ((bibelotlaw03_awake.f k).bind fun t491 => (some t491)) else (some false))) else (some false))) (fun k => ?_) (Ev.bind (rplay_ev x ms (by omega) hw.leg (by omega)) ?_)
    · rw [bibelotlaw03_HanoiWays.j0, if_neg (by simp)]
    · simp only [List.length_map, if_true, hw.run]
      refine Ev.bind (ints_ev y y (by have := ((both_iff x y).1 hb).2.2; omega)) ?_
      simp only [decide_true, if_true]
      exact Ev.bind awake_ev (Ev.now true)
end Go.Proofs.YtnaaomhmoamfpaaDoor.Pure
