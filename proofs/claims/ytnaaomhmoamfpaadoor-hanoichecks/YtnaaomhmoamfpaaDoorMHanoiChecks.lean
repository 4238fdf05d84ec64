/- HanoiChecks: whether any lists are discs; otherwise every function returns the error; lists of unlike lengths have another one: the walk and the plain law, for every input. -/
import Derived.Test.YtnaaomhmoamfpaaDoorLHanoiChecks
import Derived.StillTailTactics
import Derived.Test.YtnaaomhmoamfpaaDoorA4
import Derived.ChangeKeysEq
import Derived.Test.YtnaaomhmoamfpaaDoorA1
import Derived.Test.YtnaaomhmoamfpaaDoorA2
/- Way: its contract. -/
namespace Go.Proofs.YtnaaomhmoamfpaaDoor.G
set_option linter.unusedVariables false
set_option linter.unusedSimpArgs false
set_option linter.unusedSectionVars false
open Go.Proofs.YtnaaomhmoamfpaaDoor.Q Go.Proofs.YtnaaomhmoamfpaaDoor.Hn Go.Proofs.YtnaaomhmoamfpaaDoor.K Go.Proofs.YtnaaomhmoamfpaaDoor.It
open Go.RowKit Go.Shelf Go.Proofs.YtnaaomhmoamfpaaDoorW.PrintWords Go.Proofs.YtnaaomhmoamfpaaDoorW.PrintLast Go.Proofs.YtnaaomhmoamfpaaDoorW.PrintMore
section
open Go.Proofs.YtnaaomhmoamfpaaDoorW.PrintWords.Kd
variable {P : Program} {ops : Array Oper} {o : Oper} {a : Act} {Q : Exit → Act → World → Prop} {Kc : Act → World → Prop} {α : Type}
theorem R_append_rows_st (d : Kd α) {Rr : α → List Value → Prop} {w0 W : World} (base : Nat) (hw : Region.wanted o (yielded ops a.tmps) = true) (s x : Operand) (t e : TypeId) (z : Value) (bytes : Nat)
    (ho : o.op = .call { callee := .builtin .append, args := #[s, x], argTypes := #[t, t] })
    (ht : P.underlying t = some (.slice e)) (hinfo : (P.info? e).map (fun i => (i.zero, i.size, i.bytes)) = some (some z, d.sz, bytes)) (hz : z.cells.size = d.sz) (hs0 : 0 < d.sz) (hb0 : 0 < bytes)
    (v : Value) (xs ys : List α) (A : Option Addr) (m c : Nat) (ok okp : Nat → Prop) (hs : a.eval s = v) (hx : a.eval x = .slice A m c)
    (HO : d.R e W base ok v xs) (HR : ReadsRow Rr d.sz W A m ys) (hKM : ∀ x cs, Rr x cs → d.M W base okp x cs) (hokp : ∀ k, okp k → ok k ∧ some k ≠ v.ownBlock) (hfresh : ∀ k, W.heap.size ≤ k → ok k)
    (HB : Below base w0 W) (hbase : base ≤ W.heap.size) (hl : (xs.length + m) * bytes ≤ 140737488355328)
    (h : ∀ v1 w1, d.R e w1 base ok v1 (xs ++ ys) → Below base w0 w1 → W.grownBy w1 v.ownBlock → (v1.ownBlock = v.ownBlock ∨ ∃ b, v1.ownBlock = some b ∧ W.heap.size ≤ b) → Kc (a.put o.dst v1) w1) :
    if Region.wanted o (yielded ops a.tmps) = true then Oper.wp P o a W Kc Q else Kc (a.put o.dst undef) W := by
  obtain ⟨i0, hi, hzz⟩ := Option.map_eq_some_iff.1 hinfo
  simp only [Prod.mk.injEq] at hzz
  obtain ⟨hz0, hz1, hz2⟩ := hzz
  have hm : ys.length = m := HR.1
  have hlen : xs.length + m ≤ 140737488355328 := Nat.le_trans (Nat.le_mul_of_pos_right _ hb0) hl
  obtain ⟨hok, inner, hown, hr⟩ := HO
  have hrun : ∃ v1 w1, (Builtin.append_ #[t, t] o.type #[v, .slice A m c]).run P W = .ok v1 w1 ∧ d.R e w1 base ok v1 (xs ++ ys) ∧ W.grownBy w1 v.ownBlock ∧ (v1.ownBlock = v.ownBlock ∨ ∃ b, v1.ownBlock = some b ∧ W.heap.size ≤ b) := by
    rcases A with _ | ad
    · have h0 : m = 0 := by
        rcases Nat.eq_zero_or_pos m with h0 | h0
        · exact h0
        · obtain ⟨ad, h, _⟩ := HR.2.2 h0
          cases h
      subst h0
      obtain rfl : ys = [] := List.eq_nil_of_length_eq_zero hm
      refine ⟨v, W, ?_, by rw [List.append_nil]; exact ⟨hok, inner, hown, hr⟩, World.grownBy.refl W _, .inl rfl⟩
      rcases hown.2 with ⟨rfl, hn⟩ | ⟨g, cap, cur, rfl, _, _, hnc, _⟩
      · simp [Builtin.append_, run_underlying ht, sizeOf, typeInfo, hi, Builtin.lenOf, Builtin.firstCells]
      · simp [Builtin.append_, run_underlying ht, sizeOf, typeInfo, hi, Builtin.lenOf, Builtin.firstCells, hnc, storeCells]
    · obtain ⟨news, hnr, hnc⟩ := ReadsRow.inner_ HR
      have hnM : Reps (d.M W base okp) d.sz ys news := hnr.imp_ (fun p c hp => hKM p c hp)
      have hone : ∀ u ∈ news, u.oneCell' = true := by
        intro u hu
        obtain ⟨q, hq, rfl⟩ := List.mem_iff_getElem.1 hu
        have hql : q / d.sz < ys.length := by
          rw [Nat.div_lt_iff_lt_mul hs0]
          rw [← hnM.1]
          exact hq
        have hc := hnM.2 (q / d.sz) _ (List.getElem?_eq_getElem hql)
        refine d.K_one (d.K_of_M hc) _ ?_
        rw [List.mem_iff_getElem?]
        refine ⟨q % d.sz, ?_⟩
        rw [List.getElem?_take, if_pos (Nat.mod_lt _ hs0), List.getElem?_drop, Nat.mul_comm, Nat.div_add_mod, List.getElem?_eq_getElem hq]
      obtain ⟨v1, w1, hrun, h2, hg, _, hat⟩ := run_append_own_at (P := P) W base t o.type e i0 z d.sz bytes ht hi hz0 hz1 hz2 hz hs0 v xs.length inner hown ad m c news (by rw [hnM.1, hm]) hnc hone (by simp only [maxLen]; omega) hl hbase
      have hat' : v1.ownBlock = v.ownBlock ∨ ∃ b, v1.ownBlock = some b ∧ W.heap.size ≤ b := by
        rcases hat with hat | hat
        · exact .inl hat
        · exact .inr ⟨_, hat, Nat.le_refl _⟩
      have hne : ∀ k, some k ≠ v.ownBlock → k < W.heap.size → some k ≠ v1.ownBlock := by
        intro k hk hlt
        rcases hat' with hat | ⟨b, hb, hle⟩
        · rw [hat]; exact hk
        · rw [hb]
          intro he
          injection he with he
          omega
      have step : ∀ {q : α} {c : List Value} {o : Nat → Prop}, d.M W base o q c → (∀ k, o k → ok k ∧ some k ≠ v.ownBlock) → d.M w1 base (fun k => ok k ∧ some k ≠ v1.ownBlock) q c := by
        intro q c o hq ho
        have h1 := d.M_move (w1 := w1) (fun k hk => hg.block k hk.2.2.1 (ho k hk.1).2) (d.M_bound hq)
        exact d.M_mono (fun k hk => ⟨(ho k hk.1).1, hne k (ho k hk.1).2 hk.2.2.1⟩) h1
      refine ⟨v1, w1, hrun, ⟨fun k hk => ?_, inner ++ news, by rw [List.length_append, hm]; exact h2, reps_append (hr.imp_ (fun _ _ hq => step hq (fun _ hk => hk))) (hnM.imp_ (fun _ _ hq => step hq hokp))⟩, hg, hat'⟩
      rcases hat' with hat | ⟨b, hb, hle⟩
      · exact hok k (hat ▸ hk)
      · rw [hb] at hk
        injection hk with hk
        exact hfresh k (by omega)
  obtain ⟨v1, w1, hr1, h1, hg, hat⟩ := hrun
  rw [if_pos hw]
  unfold Oper.wp execOp
  simp only [ho, resolve, invoke, builtin, Sem.run_bind, Sem.run_pure, Result.andThen_ok, List.map_toArray, List.map_cons, List.map_nil, hs, hx, hr1]
  exact h v1 w1 h1 (HB.grown hg hbase (own_base hown)) hg hat
theorem gate_call_st {W : World} {f : FuncId} {xs : Array Operand} {ts : Array TypeId} (_ho : o.op = .call { callee := .value (.func f), args := xs, argTypes := ts }) (h : if Region.wanted o (yielded ops a.tmps) = true then Oper.wp P o a W Kc Q else Kc (a.put o.dst undef) W) : if Region.wanted o (yielded ops a.tmps) = true then Oper.wp P o a W Kc Q else Kc (a.put o.dst undef) W := h
theorem gate_app_st {W : World} {xs : Array Operand} {ts : Array TypeId} (_ho : o.op = .call { callee := .builtin .append, args := xs, argTypes := ts }) (h : if Region.wanted o (yielded ops a.tmps) = true then Oper.wp P o a W Kc Q else Kc (a.put o.dst undef) W) : if Region.wanted o (yielded ops a.tmps) = true then Oper.wp P o a W Kc Q else Kc (a.put o.dst undef) W := h
end
/-- Way's loop: what holds at its head. -/
structure WayI (w : World) (bs gb g7 B cap k : Nat) (p1 p2 : Int) (l S : List Int) (i : Nat) (o : List S52) (d : List Int) (W : World) : Prop where
  run : wayRun k l (S.take i) = (o, d)
  J : WayJ w (bs + 1) gb B [(g7, #[.int .i64 (k : Int), .int .i64 p1, .int .i64 p2], 117), (bs, (S.map (Value.int .i64)).toArray, 3)] o [] W
  row : Kd.R (Kd.int .i64) 3 W w.heap.size (fun j => j = gb) (.slice (some ⟨gb, 0, none⟩) l.length cap) d
  len : d.length = l.length
  pos : DiscsL d
  olen : o.length ≤ i * 5000
theorem map_nth (l : List Int) (i : Nat) (h : i < l.length) : (l.map (Value.int .i64)).toArray[i]? = some (.int .i64 (nth l i)) := by
  simp [nth, h]
theorem wayRun_step (k : Nat) (l S : List Int) (i : Nat) (hi : i < S.length) {o : List S52} {d : List Int} {x st : Int} (h : wayRun k l (S.take i) = (o, d)) (hx : nth d k = x) (hs : nth S i = st) :
    wayRun k l (S.take (i + 1)) = (o ++ (gatherL k d (3 - x - st)).1.map mkI ++ [mkI (k, st)], (gatherL k d (3 - x - st)).2.set k st) := by
  have e : S.take (i + 1) = S.take i ++ [st] := by rw [← hs, List.take_succ_eq_append_getElem hi]; congr 1; simp [nth, hi]
  unfold wayRun at *
  rw [e, List.foldl_append, h]
  simp only [List.foldl_cons, List.foldl_nil, wayStep, hx]
theorem spread_len (l : List Int) (p : Int) : (spreadL l p).length ≤ 2 ^ l.length := by
  unfold spreadL
  rw [List.length_reverse, (bk_len _ _).1]
  have := gather_len l.length l p
  omega
theorem spread_calls_n (A0 : Option Addr) (c0 n : Nat) (l : List Int) (p : Int) (w : World) (hn : l.length = n) (hr0 : Kd.C (Kd.int .i64) w A0 n l) (hc0 : n ≤ c0) (h0 : 0 < n) (h12 : n ≤ 12) (hd : DiscsL l) (hp : Peg p) :
    Calls Tryd.prog 87 #[.slice A0 n c0, .int .i64 p] w fun e w' => ∃ v, e = .returned v ∧ Kd.R k52 52 w' w.heap.size (fun _ => True) v (spreadL l p) ∧ Below w.heap.size w w' := by
  subst hn
  exact spread_calls A0 c0 l p w hr0 hc0 h0 h12 hd hp
theorem way_stops_ok {l m : List Int} {k n : Nat} (hk : k < l.length) (hlen : m.length = l.length) (hd : DiscsL l) (hdm : DiscsL m) (ht : top (nth l) (nth m) l.length = k + 1) (hn : (stopsL l m k).length = n) :
    ∀ i, i < n → Peg (nth (stopsL l m k) i) ∧ nth (wayRun k l ((stopsL l m k).take i)).2 k ≠ nth (stopsL l m k) i := by
  have h1 := hd k hk
  have h2 := hdm k (by omega)
  have h3 := top_ne ht
  have h4 := third_peg h1 h2 h3
  have first : ∀ x, nth l k ≠ x → nth (wayRun k l []).2 k ≠ x := fun x h => h
  intro i hi
  unfold stopsL at *
  split at hn
  · rename_i c
    rw [if_pos c]
    have hi2 : i = 0 ∨ i = 1 := by simp at hn; omega
    rcases hi2 with rfl | rfl
    · exact ⟨h4, fun e => by have e : nth l k = 3 - nth l k - nth m k := e; unfold Peg at *; omega⟩
    · refine ⟨h2, fun e => ?_⟩
      have e1 : (wayRun k l (([3 - nth l k - nth m k, nth m k] : List Int).take 1)).2 = (gatherL k l (3 - nth l k - (3 - nth l k - nth m k))).2.set k (3 - nth l k - nth m k) := rfl
      rw [e1, nth_set_self _ _ _ (by rw [(gather_facts k l _ (by omega)).1]; exact hk)] at e
      have e : 3 - nth l k - nth m k = nth m k := e
      unfold Peg at *
      omega
  · rename_i c
    rw [if_neg c]
    have hi0 : i = 0 := by simp at hn; omega
    subst hi0
    exact ⟨h2, h3⟩
set_option maxHeartbeats 8000000 in
set_option maxRecDepth 100000 in
theorem way_bad (A0 : Option Addr) (c0 : Nat) (l : List Int) (A1 : Option Addr) (c1 : Nat) (m : List Int) (w : World) (hr0 : Kd.C (Kd.int .i64) w A0 l.length l) (hc0 : l.length ≤ c0) (hr1 : Kd.C (Kd.int .i64) w A1 m.length m) (hc1 : m.length ≤ c1) (hb : both l m = false) :
    Calls Tryd.prog 59 #[.slice A0 l.length c0, .slice A1 m.length c1] w fun e w' => ∃ v0_ : Value, e = .returned (.tuple #[v0_, .int .i64 (openD l m)]) ∧ Kd.R k52 52 w' w.heap.size (fun _ => True) v0_ ([] : List S52) ∧ Below w.heap.size w w' := by
  have HR := Aside0.mk hr0
  have HC := Aside0.mk hc0
  have HR1 := Aside0.mk hr1
  have HC1 := Aside0.mk hc1
  have HB := Aside0.mk (Below.refl w.heap.size w)
  clear hr0 hc0 hr1 hc1
  obtain ⟨k0, hk0⟩ := open_ev l m
  have HO := Aside0.mk (hk0 k0 (Nat.le_refl _))
  clear hk0
  have hne : openD l m ≠ 0 := fun h => by rw [(openD_zero l m).1 h] at hb; cases hb
  have hn0 : (openD l m != 0) = true := bne_iff_ne.2 hne
  obtain ⟨od, hod⟩ : ∃ od, openD l m = od := ⟨_, rfl⟩
  rw [hod] at HO hn0 hne ⊢
  go_enter Tryd.func59, Tryd.ntmps59
  go_wp2_with fail
  have hbl := Blk.new w #[Value.slice A0 l.length c0, Value.slice A1 m.length c1] 46
  have hB1 : Below w.heap.size w (w.alloc (Obj.cells #[Value.slice A0 l.length c0, Value.slice A1 m.length c1] 46)) := (Below.refl _ w).alloc (Nat.le_refl _) _
  refine (hanoi_open.calls k0 _ _ [l, m] _ _ (C_two hbl (Kd.C_below HR.out hB1) HC.out (Kd.C_below HR1.out hB1) HC1.out) (Nat.le_refl _) HO.out).mono ?_
  rintro e w1 ⟨rfl, hb⟩
  have HB1 := Aside0.mk (hB1.trans (hb.mono (by simp)))
  clear hb hbl hB1
  go_wp2
  go_ret2
  exact ⟨_, rfl, Kd.R_nil _ _ _ _ _, HB1.out⟩

set_option maxHeartbeats 8000000 in
set_option maxRecDepth 100000 in
theorem way_long (A0 : Option Addr) (c0 : Nat) (l : List Int) (A1 : Option Addr) (c1 : Nat) (m : List Int) (w : World) (hr0 : Kd.C (Kd.int .i64) w A0 l.length l) (hc0 : l.length ≤ c0) (hr1 : Kd.C (Kd.int .i64) w A1 m.length m) (hc1 : m.length ≤ c1) (hb : both l m = true) (hlong : 12 < l.length) :
    Calls Tryd.prog 59 #[.slice A0 l.length c0, .slice A1 m.length c1] w fun e w' => ∃ v0_ : Value, e = .returned (.tuple #[v0_, .int .i64 1]) ∧ Kd.R k52 52 w' w.heap.size (fun _ => True) v0_ ([] : List S52) ∧ Below w.heap.size w w' := by
  have HR := Aside0.mk hr0
  have HC := Aside0.mk hc0
  have HR1 := Aside0.mk hr1
  have HC1 := Aside0.mk hc1
  have HB := Aside0.mk (Below.refl w.heap.size w)
  clear hr0 hc0 hr1 hc1
  obtain ⟨k0, hk0⟩ := open_ev l m
  have HO := Aside0.mk (hk0 k0 (Nat.le_refl _))
  clear hk0
  rw [(openD_zero l m).2 hb] at HO
  have hl : (12 : Int) < (l.length : Int) := by omega
  go_enter Tryd.func59, Tryd.ntmps59
  go_wp2_with fail
  have hbl := Blk.new w #[Value.slice A0 l.length c0, Value.slice A1 m.length c1] 46
  have hB1 : Below w.heap.size w (w.alloc (Obj.cells #[Value.slice A0 l.length c0, Value.slice A1 m.length c1] 46)) := (Below.refl _ w).alloc (Nat.le_refl _) _
  refine (hanoi_open.calls k0 _ _ [l, m] _ _ (C_two hbl (Kd.C_below HR.out hB1) HC.out (Kd.C_below HR1.out hB1) HC1.out) (Nat.le_refl _) HO.out).mono ?_
  rintro e w1 ⟨rfl, hb⟩
  have HB1 := Aside0.mk (hB1.trans (hb.mono (by simp)))
  clear hb hbl hB1
  go_wp2
  go_ret2
  exact ⟨_, rfl, Kd.R_nil _ _ _ _ _, HB1.out⟩

set_option maxHeartbeats 8000000 in
set_option maxRecDepth 100000 in
theorem way_same (A0 : Option Addr) (c0 : Nat) (l : List Int) (A1 : Option Addr) (c1 : Nat) (m : List Int) (w : World) (hr0 : Kd.C (Kd.int .i64) w A0 l.length l) (hc0 : l.length ≤ c0) (hr1 : Kd.C (Kd.int .i64) w A1 m.length m) (hc1 : m.length ≤ c1) (hb : both l m = true) (hsh : l.length ≤ 12) (heq : l = m) :
    Calls Tryd.prog 59 #[.slice A0 l.length c0, .slice A1 m.length c1] w fun e w' => ∃ v0_ : Value, e = .returned (.tuple #[v0_, .int .i64 0]) ∧ Kd.R k52 52 w' w.heap.size (fun _ => True) v0_ ([] : List S52) ∧ Below w.heap.size w w' := by
  have HR := Aside0.mk hr0
  have HC := Aside0.mk hc0
  have HR1 := Aside0.mk hr1
  have HC1 := Aside0.mk hc1
  have HB := Aside0.mk (Below.refl w.heap.size w)
  clear hr0 hc0 hr1 hc1
  obtain ⟨k0, hk0⟩ := open_ev l m
  have HO := Aside0.mk (hk0 k0 (Nat.le_refl _))
  clear hk0
  rw [(openD_zero l m).2 hb] at HO
  obtain ⟨k2, hk2⟩ := equal_ev l m (by omega)
  have hq := hk2 k2 (Nat.le_refl _)
  rw [decide_eq_true heq] at hq
  have HQ := Aside0.mk hq
  have hl : ¬ (12 : Int) < (l.length : Int) := by omega
  clear hq hk2 heq hb hsh
  go_enter Tryd.func59, Tryd.ntmps59
  go_wp2_with fail
  have hbl := Blk.new w #[Value.slice A0 l.length c0, Value.slice A1 m.length c1] 46
  have hB1 : Below w.heap.size w (w.alloc (Obj.cells #[Value.slice A0 l.length c0, Value.slice A1 m.length c1] 46)) := (Below.refl _ w).alloc (Nat.le_refl _) _
  refine (hanoi_open.calls k0 _ _ [l, m] _ _ (C_two hbl (Kd.C_below HR.out hB1) HC.out (Kd.C_below HR1.out hB1) HC1.out) (Nat.le_refl _) HO.out).mono ?_
  rintro e w1 ⟨rfl, hb⟩
  have HB1 := Aside0.mk (hB1.trans (hb.mono (by simp)))
  clear hb hbl hB1
  go_wp2_with fail
  refine (slices_Equal_int_int.calls k2 _ _ _ _ _ _ _ _ (Kd.C_below HR.out HB1.out) HC.out (Kd.C_below HR1.out HB1.out) HC1.out HQ.out).mono ?_
  rintro e w2 ⟨rfl, hdr⟩
  have HB2 := Aside0.mk (HB1.out.trans (hdr.below.mono HB1.out.size))
  clear hdr
  go_wp2
  go_ret2
  exact ⟨_, rfl, Kd.R_nil _ _ _ _ _, HB2.out⟩

set_option maxHeartbeats 8000000 in
set_option maxRecDepth 100000 in
theorem way_main (A0 : Option Addr) (c0 : Nat) (l : List Int) (A1 : Option Addr) (c1 : Nat) (m : List Int) (k : Nat) (w : World) (hr0 : Kd.C (Kd.int .i64) w A0 l.length l) (hc0 : l.length ≤ c0) (hr1 : Kd.C (Kd.int .i64) w A1 m.length m) (hc1 : m.length ≤ c1) (hb : both l m = true) (hsh : l.length ≤ 12) (hne : l ≠ m) (ht : top (nth l) (nth m) l.length = k + 1) :
    Calls Tryd.prog 59 #[.slice A0 l.length c0, .slice A1 m.length c1] w fun e w' => ∃ v0_ : Value, e = .returned (.tuple #[v0_, .int .i64 0]) ∧ Kd.R k52 52 w' w.heap.size (fun _ => True) v0_ (wayOf l m k) ∧ Below w.heap.size w w' := by
  have HR := Aside0.mk hr0
  have HC := Aside0.mk hc0
  have HR1 := Aside0.mk hr1
  have HC1 := Aside0.mk hc1
  have HB := Aside0.mk (Below.refl w.heap.size w)
  clear hr0 hc0 hr1 hc1
  obtain ⟨k0, hk0⟩ := open_ev l m
  have HO := Aside0.mk (hk0 k0 (Nat.le_refl _))
  clear hk0
  rw [(openD_zero l m).2 hb] at HO
  obtain ⟨k2, hk2⟩ := equal_ev l m (by omega)
  have hq := hk2 k2 (Nat.le_refl _)
  rw [decide_eq_false hne] at hq
  have HQ := Aside0.mk hq
  obtain ⟨k3, hk3⟩ := planned_ev l m k hb ht
  have HPL := Aside0.mk (hk3 k3 (Nat.le_refl _))
  obtain ⟨⟨h0, h40, hd⟩, hdm, hlen⟩ := (both_iff l m).1 hb
  have HD := Aside0.mk hd
  have HDM := Aside0.mk hdm
  have HT := Aside0.mk ht
  have hk : k < l.length := by have := top_le (nth l) (nth m) l.length; omega
  have HLEN := Aside0.mk hlen
  have hl : ¬ (12 : Int) < (l.length : Int) := by omega
  clear hq hk2 hk3 hne hb hd hdm ht hlen
  go_enter Tryd.func59, Tryd.ntmps59
  go_wp2_with fail
  have hbl := Blk.new w #[Value.slice A0 l.length c0, Value.slice A1 m.length c1] 46
  have hB1 : Below w.heap.size w (w.alloc (Obj.cells #[Value.slice A0 l.length c0, Value.slice A1 m.length c1] 46)) := (Below.refl _ w).alloc (Nat.le_refl _) _
  refine (hanoi_open.calls k0 _ _ [l, m] _ _ (C_two hbl (Kd.C_below HR.out hB1) HC.out (Kd.C_below HR1.out hB1) HC1.out) (Nat.le_refl _) HO.out).mono ?_
  rintro e w1 ⟨rfl, hb⟩
  have HB1 := Aside0.mk (hB1.trans (hb.mono (by simp)))
  clear hb hbl hB1
  go_wp2_with fail
  refine (slices_Equal_int_int.calls k2 _ _ _ _ _ _ _ _ (Kd.C_below HR.out HB1.out) HC.out (Kd.C_below HR1.out HB1.out) HC1.out HQ.out).mono ?_
  rintro e w2 ⟨rfl, hdr⟩
  have HB2 := Aside0.mk (HB1.out.trans (hdr.below.mono HB1.out.size))
  clear hdr
  go_wp2_with fail
  refine (hanoi_planned.calls k3 _ _ _ _ _ _ _ _ _ _ (Kd.C_below HR.out HB2.out) HC.out (Kd.C_below HR1.out HB2.out) HC1.out HPL.out).mono ?_
  rintro e w3 ⟨rfl, hb3⟩
  have HB3 := Aside0.mk (HB2.out.trans (hb3.mono HB2.out.size))
  clear hb3
  obtain ⟨p1, hp1⟩ : ∃ p1, one (nth l) (nth m) k = p1 := ⟨_, rfl⟩
  obtain ⟨p2, hp2⟩ : ∃ p2, two (nth l) (nth m) k = p2 := ⟨_, rfl⟩
  rw [hp1, hp2]
  have HP1 := Aside0.mk hp1
  have HP2 := Aside0.mk hp2
  clear hp1 hp2
  have hu117 := Tryd.underlying117
  obtain ⟨ad, rfl, _⟩ := HR.out.2.2 h0
  obtain ⟨ad1, rfl, _⟩ := HR1.out.2.2 (by have := HLEN.out; omega)
  go_wp2
  obtain ⟨W4, hW4⟩ : ∃ W4, w3.alloc (Obj.cells #[Value.int IntKind.i64 (k : Int), Value.int IntKind.i64 p1, Value.int IntKind.i64 p2] 117) = W4 := ⟨_, rfl⟩
  have b7 : Blk W4 w3.heap.size #[Value.int IntKind.i64 (k : Int), Value.int IntKind.i64 p1, Value.int IntKind.i64 p2] 117 := by rw [← hW4]; exact Blk.new _ _ _
  have HB4 := Aside0.mk (show Below w.heap.size w W4 by rw [← hW4]; exact HB3.out.alloc HB3.out.size _)
  rw [hW4]
  clear hW4
  have hs3 := HB3.out.size
  obtain ⟨g7, hg7⟩ : ∃ g7, w3.heap.size = g7 := ⟨_, rfl⟩
  rw [hg7] at b7 hs3 ⊢
  clear hg7 HB1 HB2 HB3 HO HQ HPL
  have hlk := Kd.foot_int (Kd.C_below HR.out HB4.out) (k : Int) (by omega) (by omega)
  have hmk := Kd.foot_int (Kd.C_below HR1.out HB4.out) (k : Int) (by omega) (by have := HLEN.out; omega)
  rw [rd_nth, Int.toNat_natCast] at hlk hmk
  obtain ⟨fr, hfr⟩ : ∃ fr, nth l k = fr := ⟨_, rfl⟩
  obtain ⟨to', hto⟩ : ∃ to', nth m k = to' := ⟨_, rfl⟩
  have hpf : Peg fr := by rw [← hfr]; exact HD.out k hk
  have hpt : Peg to' := by rw [← hto]; exact HDM.out k (by have := HLEN.out; omega)
  have hft : fr ≠ to' := by rw [← hfr, ← hto]; exact top_ne HT.out
  rw [hfr] at hlk
  rw [hto] at hmk
  have HFR := Aside0.mk hfr
  have HTO := Aside0.mk hto
  have c70 := b7.cell 0 (v := .int .i64 (k : Int)) rfl
  have c71 := b7.cell 1 (v := .int .i64 p1) rfl
  have c72 := b7.cell 2 (v := .int .i64 p2) rfl
  have HB7 := Aside0.mk b7
  have hk0 : (0 : Int) ≤ (k : Int) := by omega
  have hk1 : (k : Int) < (l.length : Int) := by omega
  have hk2 : (k : Int) < (m.length : Int) := by have := HLEN.out; omega
  have HPF := Aside0.mk hpf
  have HPT := Aside0.mk hpt
  have HFT := Aside0.mk hft
  clear hfr hto b7 hpf hpt hft
  go_quiet (fail)
  obtain ⟨W5, hW5⟩ : ∃ W5, W4.drewN nq = W5 := ⟨_, rfl⟩
  have HB7' := Aside0.mk (show Blk W5 g7 #[Value.int IntKind.i64 (k : Int), Value.int IntKind.i64 p1, Value.int IntKind.i64 p2] 117 by rw [← hW5]; exact HB7.out)
  have HB5 := Aside0.mk (show Below w.heap.size w W5 by rw [← hW5]; exact pw_below_drewN HB4.out _)
  rw [hW5]
  clear hW5 HB4 HB7 c70 c71 c72 hlk hmk
  have c71 := (HB7'.out.alloc (Obj.cells #[Value.int IntKind.i64 to'] 3)).cell 1 (v := .int .i64 p1) rfl
  have c72 := (HB7'.out.alloc (Obj.cells #[Value.int IntKind.i64 to'] 3)).cell 2 (v := .int .i64 p2) rfl
  have hpp := HPF.out
  have hpq := HPT.out
  unfold Peg at hpp hpq
  have hw1 : IntKind.i64.wrap (3 - fr) = 3 - fr := by rw [i64_w, w64 (by omega) (by omega)]
  have hw2 : IntKind.i64.wrap (3 - fr - to') = 3 - fr - to' := by rw [i64_w, w64 (by omega) (by omega)]
  clear hpp hpq
  by_cases hc : p2 < p1
  · have hcb : decide (p2 < p1) = true := decide_eq_true hc
    have hS : stopsL l m k = [3 - fr - to', to'] := by unfold stopsL; rw [HP1.out, HP2.out, HFR.out, HTO.out, if_pos hc]
    have hok : ∀ i, i < 2 → Peg (nth [3 - fr - to', to'] i) ∧ nth (wayRun k l (([3 - fr - to', to'] : List Int).take i)).2 k ≠ nth [3 - fr - to', to'] i := by
      rw [← hS]
      exact way_stops_ok hk HLEN.out HD.out HDM.out HT.out (by rw [hS]; rfl)
    have HS := Aside0.mk hS
    have HOK := Aside0.mk hok
    clear hS hok
    go_wp2_with fail
    obtain ⟨bs, hbs⟩ : ∃ bs, W5.heap.size + 1 = bs := ⟨_, rfl⟩
    obtain ⟨V0, hV0⟩ : ∃ V0, (((W5.alloc (Obj.cells #[Value.int IntKind.i64 to'] 3)).alloc (Obj.cells #[Value.int IntKind.i64 (3 - fr - to'), Value.int IntKind.i64 to'] 3)).alloc (Obj.cells #[Value.slice none 0 0] 48)) = V0 := ⟨_, rfl⟩
    have zV : V0.heap.size = bs + 2 := by rw [← hV0, ← hbs]; simp
    have bst : Blk V0 bs #[Value.int IntKind.i64 (3 - fr - to'), Value.int IntKind.i64 (to')] 3 := by rw [← hV0, ← hbs]; have := Blk.new (W5.alloc (Obj.cells #[Value.int IntKind.i64 to'] 3)) #[Value.int IntKind.i64 (3 - fr - to'), Value.int IntKind.i64 (to')] 3; rw [World.size_alloc] at this; exact this.alloc _
    have bout : Blk V0 (bs + 1) #[Value.slice none 0 0] 48 := by rw [← hV0, ← hbs]; have := Blk.new ((W5.alloc (Obj.cells #[Value.int IntKind.i64 to'] 3)).alloc (Obj.cells #[Value.int IntKind.i64 (3 - fr - to'), Value.int IntKind.i64 (to')] 3)) #[Value.slice none 0 0] 48; rwa [World.size_alloc, World.size_alloc] at this
    have b7v : Blk V0 g7 #[Value.int IntKind.i64 (k : Int), Value.int IntKind.i64 p1, Value.int IntKind.i64 p2] 117 := by rw [← hV0]; exact ((HB7'.out.alloc _).alloc _).alloc _
    have hs5 := HB5.out.size
    have hbv : Below w.heap.size w V0 := by rw [← hV0]; exact ((HB5.out.alloc HB5.out.size _).alloc (by simp; omega) _).alloc (by simp; omega) _
    have h7w : w.heap.size ≤ g7 := hs3
    have h7s : g7 < bs := by have := HB7'.out.lt; omega
    have hwbs : w.heap.size ≤ bs := by omega
    have hcl := clone_f h0 (show l.length ≤ 1000 by omega)
    rw [hV0]
    rw [hbs]
    clear hV0 hbs HB5 HB7' c71 c72 hs5
    refine (slices_Clone_int_int.calls _ _ _ _ _ (Kd.C_below HR.out hbv) HC.out hcl).mono ?_
    rintro e V1 ⟨v1, rfl, ho1, hb1⟩
    obtain ⟨gb, cap, ev, hg1, hg2, hg3⟩ := Kd.R_form ho1 h0
    subst ev
    have m7 := b7v.below hb1 b7v.lt
    have mst := bst.below hb1 bst.lt
    have mout := bout.below hb1 bout.lt
    have mb : Below w.heap.size w V1 := hbv.trans (hb1.mono (by omega))
    have hI : WayI w bs gb g7 V1.heap.size cap k p1 p2 l [3 - fr - to', to'] 0 [] l V1 :=
      ⟨rfl, ⟨_, mout, Kd.R_nil _ _ _ _ _, Nat.le_refl _, mb, fun q hq => by
        simp only [List.mem_cons, List.not_mem_nil, or_false] at hq
        rcases hq with rfl | rfl
        · exact m7
        · exact mst⟩, Kd.R_lower (Kd.R_mono (Kd.R_tight rfl ho1) (fun j hj => Option.some.inj hj)) (by omega), rfl, HD.out, by simp⟩
    have HI0 := Aside0.mk hI
    have hgb : bs + 2 ≤ gb := by omega
    have hgB : gb < V1.heap.size := hg2
    obtain ⟨B, hB⟩ : ∃ B, V1.heap.size = B := ⟨_, rfl⟩
    rw [hB] at HI0 hgB
    clear ho1 hb1 hg1 hg2 hg3 m7 mst mout mb hI bst bout b7v hbv hcl hB zV
    go_wp2
    go_loopg [60] 2 (fun kq v60 W => ∃ (i : Nat) (o : List S52) (d : List Int), v60 = .int .i64 i ∧ i + kq = 2 ∧ Aside0 (WayI w bs gb g7 B cap k p1 p2 l [3 - fr - to', to'] i o d W))
    case atStart => exact ⟨0, [], l, rfl, rfl, HI0⟩
    case round =>
      clear HI0
      obtain ⟨i, o, d, rfl, hik, HI⟩ := hrel
      cases gk with
      | zero =>
        obtain rfl : i = 2 := by omega
        obtain ⟨u, j1, j2, j3, j4, j5⟩ := HI.out.J
        have hb7 := j5 _ List.mem_cons_self
        have c70 := hb7.cell 0 (v := .int .i64 (k : Int)) rfl
        rw [List.map_nil, List.append_nil] at j2
        obtain ⟨Au, cu, eu⟩ := Kd.R_slice j2
        subst eu
        have cou := j1.cell 0 (v := .slice Au o.length cu) rfl
        have fou := j1.free 0
        have hrun := HI.out.run
        rw [List.take_of_length_le (by simp)] at hrun
        have hway : wayOf l m k = if 0 < k then o ++ spreadL (m.take k) (nth d 0) else o := by unfold wayOf; rw [HS.out, hrun]
        have HWAY := Aside0.mk hway
        have J1 := Aside0.mk j1
        have J2 := Aside0.mk j2
        have J3 := Aside0.mk j3
        have J4 := Aside0.mk j4
        clear hrun hway j1 j2 j3 j4 j5 hb7
        by_cases ck : 0 < k
        · have hkp : (0 : Int) < (k : Int) := by omega
          obtain ⟨hcg, hfg⟩ := Kd.R_celln (0 : Int) HI.out.row ((0 : Nat) : Int) (by omega) (by omega)
          rw [Int.toNat_natCast] at hcg hfg
          have hrd : rdOf (0 : Int) d ((0 : Nat) : Int) = nth d 0 := by simp [rdOf, nth]
          rw [hrd] at hcg
          have hl0 : (0 : Int) < (l.length : Int) := by omega
          have hkc1 : (k : Int) ≤ (c1 : Int) := by have := HC1.out; omega
          have HPX := Aside0.mk (show Peg (nth d 0) from HI.out.pos 0 (by rw [HI.out.len]; exact h0))
          obtain ⟨x, hx⟩ : ∃ x, nth d 0 = x := ⟨_, rfl⟩
          rw [hx] at hcg HPX
          have HX := Aside0.mk hx
          have htl : (m.take k).length = k := by rw [List.length_take]; have := HLEN.out; omega
          have hCm : Kd.C (Kd.int .i64) wr.drew (some ad1) k (m.take k) := by
            have := Kd.C_take (Kd.C_below HR1.out (J4.out.drew)) (m := k) (by have := HLEN.out; omega)
            rwa [htl] at this
          have HCM := Aside0.mk hCm
          have HTL := Aside0.mk htl
          have HDT := Aside0.mk (discs_take HDM.out k)
          have HSL := Aside0.mk (show (spreadL (m.take k) x).length ≤ 5000 by have h1 := spread_len (m.take k) x; rw [htl] at h1; have h2 : 2 ^ k ≤ 2 ^ 12 := Nat.pow_le_pow_right (by omega) (by omega); omega)
          clear hrd hx hCm htl hfg
          go_wp2
          go_region_law (first | ((with_reducible refine gate_call_st (f := 87) rfl ?_); go_simp; go_at_call 87; refine (spread_calls_n _ _ k (m.take k) x _ HTL.out HCM.out (by omega) ck (by omega) HDT.out HPX.out).mono ?_; rintro e w4 ⟨v3, rfl, r1, r2⟩; obtain ⟨A3, c3, e3⟩ := Kd.R_slice r1; subst e3; have r3 : Below wr.heap.size wr w4 := ⟨r2.os, r2.tape, r2.output, r2.size, r2.block⟩; have b4 := J1.out.below r3 J1.out.lt; have co4 := b4.cell 0 (v := .slice Au o.length cu) rfl; have Q1 := Aside0.mk r1; have Q2 := Aside0.mk (Kd.R_below J2.out r3); have Q3 := Aside0.mk r3; have Q4 := Aside0.mk b4; clear r1 r2 r3 b4; dsimp only) | ((with_reducible refine gate_app_st rfl ?_); refine R_append_rows_st k52 (w0 := w4) B (by rfl) (.tmp 92) (.tmp 100) 48 52 (.agg #[(.int .i64 0), (.int .i64 0)]) 16 rfl u48 info52 rfl (by decide) (by omega) (.slice Au o.length cu) o (spreadL (m.take k) x) A3 _ c3 (fun j => j ≠ gb) (fun _ => False) rfl rfl Q2.out (Kd.R_reads' Q1.out).2.2 (fun y cs hy => by rw [k52_open hy]; exact k52_mkM _ _ _ _) (fun _ h => h.elim) (fun j hj => by have := Q3.out.size; have := J3.out; omega) (Below.refl _ _) (by have := Q3.out.size; have := J3.out; omega) (by have := HI.out.olen; have := HSL.out; omega) ?_; intro v5 w5 ho hb hg hat; obtain ⟨A5, c5, e5⟩ := Kd.R_slice ho; subst e5; rw [List.length_append] at ho hat; have hb9 := Blk.grown Q4.out hg (fun e => by have := Kd.R_base J2.out _ e; omega); have hc9 := hb9.cell 0 (v := .slice Au o.length cu) rfl; have hf9 := hb9.free 0; have G1 := Aside0.mk ho; have G2 := Aside0.mk hg; have G3 := Aside0.mk hb9; clear ho hb hg hat hb9))
          all_goals
            have hc99 := (G3.out.set 0 (.slice A5 (o.length + (spreadL (m.take k) x).length) c5)).cell 0 (v := .slice A5 (o.length + (spreadL (m.take k) x).length) c5) rfl
            have R5 := Aside0.mk (show Kd.R k52 52 (w5.setCell { block := bs + 1, off := 0 } (Value.slice A5 (o.length + (spreadL (m.take k) x).length) c5)) w.heap.size (fun _ => True) (.slice A5 (o.length + (spreadL (m.take k) x).length) c5) (o ++ spreadL (m.take k) x) from
              Kd.R_mono (Kd.R_lower (Kd.R_far (p := ⟨bs + 1, 0, none⟩) (Kd.R_bound G1.out) (fun j hj => by have := hj.2.1; show j ≠ bs + 1; omega) _) (by have := J4.out.size; have := J3.out; omega)) (fun _ _ => trivial))
            have B5 := Aside0.mk (show Below w.heap.size w (w5.setCell { block := bs + 1, off := 0 } (Value.slice A5 (o.length + (spreadL (m.take k) x).length) c5)) from
              ((J4.out.trans (Q3.out.mono J4.out.size)).grown G2.out (by have := J4.out.size; have := Q3.out.size; omega) (fun j e => by have := Kd.R_base J2.out _ e; omega)).setCell (by simp; omega) _)
            obtain ⟨W9, hW9⟩ : ∃ W9, w5.setCell { block := bs + 1, off := 0 } (Value.slice A5 (o.length + (spreadL (m.take k) x).length) c5) = W9 := ⟨_, rfl⟩
            rw [hW9] at hc99 R5 B5 ⊢
            clear hW9 hc9 hf9 hcg c70 cou fou co4
            go_wp2
            go_ret2
            rw [HWAY.out, if_pos ck, HX.out]
            exact ⟨_, rfl, R5.out, B5.out⟩
        · have hkp : ¬ (0 : Int) < (k : Int) := by omega
          go_wp2
          go_ret2
          rw [HWAY.out, if_neg ck]
          exact ⟨_, rfl, Kd.R_mono (Kd.R_lower J2.out (by have := J4.out.size; omega)) (fun _ _ => trivial), J4.out⟩
      | succ k9 =>
        have hiN : i < 2 := by omega
        have hiz : (i : Int) < 2 := by omega
        have hi0 : (0 : Int) ≤ (i : Int) := by omega
        obtain ⟨hps, hxs⟩ := HOK.out i hiN
        rw [HI.out.run] at hxs
        obtain ⟨u, j1, j2, j3, j4, j5⟩ := HI.out.J
        have hb7 := j5 _ List.mem_cons_self
        have hbst := j5 _ (List.mem_cons_of_mem _ List.mem_cons_self)
        have c70 := hb7.cell 0 (v := .int .i64 (k : Int)) rfl
        obtain ⟨st, hst⟩ : ∃ st, nth [3 - fr - to', to'] i = st := ⟨_, rfl⟩
        have cst : wr.cell? ⟨bs, i, none⟩ = some (.int .i64 st) := hbst.cell i (by rw [← hst]; exact map_nth _ _ (by simpa using hiN))
        obtain ⟨hcg, hfg⟩ := Kd.R_celln (0 : Int) HI.out.row (k : Int) (by omega) (by omega)
        rw [Int.toNat_natCast] at hcg hfg
        have hrd : rdOf (0 : Int) d (k : Int) = nth d k := by simp [rdOf, nth]
        rw [hrd] at hcg
        have hpx : Peg (nth d k) := HI.out.pos k (by rw [HI.out.len]; exact hk)
        obtain ⟨x, hx⟩ : ∃ x, nth d k = x := ⟨_, rfl⟩
        rw [hst] at hps hxs
        rw [hx] at hcg hpx hxs
        have hpt := third_peg hpx hps hxs
        have hq1 := hpx
        have hq2 := hps
        unfold Peg at hq1 hq2
        have hw1 : IntKind.i64.wrap (3 - x) = 3 - x := by rw [i64_w, w64 (by omega) (by omega)]
        have hw2 : IntKind.i64.wrap (3 - x - st) = 3 - x - st := by rw [i64_w, w64 (by omega) (by omega)]
        have hwi : IntKind.i64.wrap ((i : Int) + 1) = ((i + 1 : Nat) : Int) := by rw [i64_w, w64 (by omega) (by omega)]; rfl
        have hkc : (k : Int) ≤ (cap : Int) := by have := (Kd.R_reads' HI.out.row).2.1; omega
        have c70d : World.cell? { heap := wr.heap, tape := wr.tape, drawn := wr.drawn + 1, os := wr.os, output := wr.output } ⟨g7, 0, none⟩ = some (.int .i64 (k : Int)) := c70
        have hcgd : World.cell? { heap := wr.heap, tape := wr.tape, drawn := wr.drawn + 1, os := wr.os, output := wr.output } ⟨gb, k, none⟩ = some (.int .i64 x) := hcg
        have HX := Aside0.mk hx
        have HST := Aside0.mk hst
        have HPS := Aside0.mk hps
        have HPT' := Aside0.mk hpt
        have HWR := Aside0.mk (way_writer w (bs + 1) gb B l.length 100000 [(g7, #[.int .i64 (k : Int), .int .i64 p1, .int .i64 p2], 117), (bs, (([3 - fr - to', to'] : List Int).map (Value.int .i64)).toArray, 3)] (fun q hq => by
          simp only [List.mem_cons, List.not_mem_nil, or_false] at hq
          rcases hq with rfl | rfl
          · exact ⟨by show g7 ≠ bs + 1; omega, by show g7 ≠ gb; omega, by show g7 < B; omega⟩
          · exact ⟨by show bs ≠ bs + 1; omega, by show bs ≠ gb; omega, by show bs < B; omega⟩) o (by have := HI.out.olen; omega) (by omega) (by omega) (by omega) (by omega) (by omega))
        have hp12 : 2 ^ k ≤ 2 ^ 12 := Nat.pow_le_pow_right (by omega) (by omega)
        have J4 := Aside0.mk j4
        clear hps hxs j1 j2 j3 j4 j5 hb7 hbst hrd hpx hx hst hpt hq1 hq2 hfg
        go_wp2
        clear cst
        go_still_tail 13, (by kernel_rfl)
        go_wp2_with fail
        refine (gather_calls85 (bs + 1) gb l.length w.heap.size 100000 cap (by omega) (by omega) _ HWR.out k d (3 - x - st) [] wr.drew (by omega) (by simp; omega) HI.out.len HI.out.pos HPT'.out (by have := J4.out.size; exact this) (HWR.out.drew [] wr 1 HI.out.J) (Kd.R_drew HI.out.row)).mono ?_
        rintro e W1 ⟨⟨v, rfl⟩, g1, g2, g3⟩
        rw [List.nil_append] at g1
        obtain ⟨f1, f2, f3⟩ := gather_facts k d (3 - x - st) (by have := HI.out.len; omega)
        have f4 := gather_pos k d (3 - x - st) (by have := HI.out.len; omega) HI.out.pos HPT'.out
        have f5 := gather_len k d (3 - x - st)
        have hrun := wayRun_step k l [3 - fr - to', to'] i hiN HI.out.run HX.out HST.out
        obtain ⟨d1, hd1⟩ : ∃ d1, (gatherL k d (3 - x - st)).2 = d1 := ⟨_, rfl⟩
        obtain ⟨m1, hm1⟩ : ∃ m1, (gatherL k d (3 - x - st)).1 = m1 := ⟨_, rfl⟩
        rw [hd1] at g2 f1 f4 hrun
        rw [hm1] at g1 f5 hrun
        obtain ⟨u2, i1, i2, i3, i4, i5⟩ := g1
        have hb72 := i5 _ List.mem_cons_self
        obtain ⟨hcg1, hfg1⟩ := Kd.R_celln (0 : Int) g2 (k : Int) (by omega) (by omega)
        rw [Int.toNat_natCast] at hcg1 hfg1
        have c701 := hb72.cell 0 (v := .int .i64 (k : Int)) rfl
        have c702 := (hb72.setOther (a := ⟨gb, k, none⟩) (by show g7 ≠ gb; omega) (.int .i64 st)).cell 0 (v := .int .i64 (k : Int)) rfl
        have G1 := Aside0.mk (HWR.out.put m1 W1 k (.int .i64 st) ⟨u2, i1, i2, i3, i4, i5⟩)
        have h4 := Kd.R_putn g2 (k : Int) st
        rw [Int.toNat_natCast] at h4
        have G2 := Aside0.mk h4
        have F1 := Aside0.mk (show (d1.set k st).length = l.length by rw [List.length_set, f1]; exact HI.out.len)
        have F4 := Aside0.mk (discs_set f4 k st HPS.out)
        have F5 := Aside0.mk f5
        have HRN := Aside0.mk hrun
        clear g2 g3 f1 f2 f3 f4 f5 h4 i1 i2 i3 i4 i5 hb72 hrun hd1 hm1 hcg c70 c70d hcgd
        go_wp2_with (go_at_call 85; refine (HWR.out.call m1 _ k st G1.out (by have := F5.out; omega) (by omega) HPS.out).mono ?_; rintro e W2 ⟨⟨v2, rfl⟩, y1, y2, y3, y4⟩; have Y1 := Aside0.mk y1.shift; have Y2 := Aside0.mk (R_block G2.out y2); clear y1 y2 y3 y4)
        go_roundg k9
        case measure => omega
        case rel =>
          refine ⟨i + 1, o ++ (m1 ++ [(k, st)]).map mkI, d1.set k st, rfl, by omega, .mk ⟨?_, Y1.out, Y2.out, F1.out, F4.out, ?_⟩⟩
          · rw [HRN.out, List.map_append, List.append_assoc]; rfl
          · have := HI.out.olen
            have := F5.out
            simp only [List.length_append, List.length_map, List.length_singleton]
            omega
  · have hcb : decide (p2 < p1) = false := decide_eq_false hc
    have hS : stopsL l m k = [to'] := by unfold stopsL; rw [HP1.out, HP2.out, HFR.out, HTO.out, if_neg hc]
    have hok : ∀ i, i < 1 → Peg (nth [to'] i) ∧ nth (wayRun k l (([to'] : List Int).take i)).2 k ≠ nth [to'] i := by
      rw [← hS]
      exact way_stops_ok hk HLEN.out HD.out HDM.out HT.out (by rw [hS]; rfl)
    have HS := Aside0.mk hS
    have HOK := Aside0.mk hok
    clear hS hok
    go_wp2_with fail
    obtain ⟨bs, hbs⟩ : ∃ bs, W5.heap.size = bs := ⟨_, rfl⟩
    obtain ⟨V0, hV0⟩ : ∃ V0, ((W5.alloc (Obj.cells #[Value.int IntKind.i64 to'] 3)).alloc (Obj.cells #[Value.slice none 0 0] 48)) = V0 := ⟨_, rfl⟩
    have zV : V0.heap.size = bs + 2 := by rw [← hV0, ← hbs]; simp
    have bst : Blk V0 bs #[Value.int IntKind.i64 (to')] 3 := by rw [← hV0, ← hbs]; exact (Blk.new _ _ _).alloc _
    have bout : Blk V0 (bs + 1) #[Value.slice none 0 0] 48 := by rw [← hV0, ← hbs]; have := Blk.new (W5.alloc (Obj.cells #[Value.int IntKind.i64 to'] 3)) #[Value.slice none 0 0] 48; rwa [World.size_alloc] at this
    have b7v : Blk V0 g7 #[Value.int IntKind.i64 (k : Int), Value.int IntKind.i64 p1, Value.int IntKind.i64 p2] 117 := by rw [← hV0]; exact (HB7'.out.alloc _).alloc _
    have hs5 := HB5.out.size
    have hbv : Below w.heap.size w V0 := by rw [← hV0]; exact (HB5.out.alloc HB5.out.size _).alloc (by simp; omega) _
    have h7w : w.heap.size ≤ g7 := hs3
    have h7s : g7 < bs := by have := HB7'.out.lt; omega
    have hwbs : w.heap.size ≤ bs := by omega
    have hcl := clone_f h0 (show l.length ≤ 1000 by omega)
    rw [hV0]
    rw [hbs]
    clear hV0 hbs HB5 HB7' c71 c72 hs5
    refine (slices_Clone_int_int.calls _ _ _ _ _ (Kd.C_below HR.out hbv) HC.out hcl).mono ?_
    rintro e V1 ⟨v1, rfl, ho1, hb1⟩
    obtain ⟨gb, cap, ev, hg1, hg2, hg3⟩ := Kd.R_form ho1 h0
    subst ev
    have m7 := b7v.below hb1 b7v.lt
    have mst := bst.below hb1 bst.lt
    have mout := bout.below hb1 bout.lt
    have mb : Below w.heap.size w V1 := hbv.trans (hb1.mono (by omega))
    have hI : WayI w bs gb g7 V1.heap.size cap k p1 p2 l [to'] 0 [] l V1 :=
      ⟨rfl, ⟨_, mout, Kd.R_nil _ _ _ _ _, Nat.le_refl _, mb, fun q hq => by
        simp only [List.mem_cons, List.not_mem_nil, or_false] at hq
        rcases hq with rfl | rfl
        · exact m7
        · exact mst⟩, Kd.R_lower (Kd.R_mono (Kd.R_tight rfl ho1) (fun j hj => Option.some.inj hj)) (by omega), rfl, HD.out, by simp⟩
    have HI0 := Aside0.mk hI
    have hgb : bs + 2 ≤ gb := by omega
    have hgB : gb < V1.heap.size := hg2
    obtain ⟨B, hB⟩ : ∃ B, V1.heap.size = B := ⟨_, rfl⟩
    rw [hB] at HI0 hgB
    clear ho1 hb1 hg1 hg2 hg3 m7 mst mout mb hI bst bout b7v hbv hcl hB zV
    go_wp2
    go_loopg [60] 1 (fun kq v60 W => ∃ (i : Nat) (o : List S52) (d : List Int), v60 = .int .i64 i ∧ i + kq = 1 ∧ Aside0 (WayI w bs gb g7 B cap k p1 p2 l [to'] i o d W))
    case atStart => exact ⟨0, [], l, rfl, rfl, HI0⟩
    case round =>
      clear HI0
      obtain ⟨i, o, d, rfl, hik, HI⟩ := hrel
      cases gk with
      | zero =>
        obtain rfl : i = 1 := by omega
        obtain ⟨u, j1, j2, j3, j4, j5⟩ := HI.out.J
        have hb7 := j5 _ List.mem_cons_self
        have c70 := hb7.cell 0 (v := .int .i64 (k : Int)) rfl
        rw [List.map_nil, List.append_nil] at j2
        obtain ⟨Au, cu, eu⟩ := Kd.R_slice j2
        subst eu
        have cou := j1.cell 0 (v := .slice Au o.length cu) rfl
        have fou := j1.free 0
        have hrun := HI.out.run
        rw [List.take_of_length_le (by simp)] at hrun
        have hway : wayOf l m k = if 0 < k then o ++ spreadL (m.take k) (nth d 0) else o := by unfold wayOf; rw [HS.out, hrun]
        have HWAY := Aside0.mk hway
        have J1 := Aside0.mk j1
        have J2 := Aside0.mk j2
        have J3 := Aside0.mk j3
        have J4 := Aside0.mk j4
        clear hrun hway j1 j2 j3 j4 j5 hb7
        by_cases ck : 0 < k
        · have hkp : (0 : Int) < (k : Int) := by omega
          obtain ⟨hcg, hfg⟩ := Kd.R_celln (0 : Int) HI.out.row ((0 : Nat) : Int) (by omega) (by omega)
          rw [Int.toNat_natCast] at hcg hfg
          have hrd : rdOf (0 : Int) d ((0 : Nat) : Int) = nth d 0 := by simp [rdOf, nth]
          rw [hrd] at hcg
          have hl0 : (0 : Int) < (l.length : Int) := by omega
          have hkc1 : (k : Int) ≤ (c1 : Int) := by have := HC1.out; omega
          have HPX := Aside0.mk (show Peg (nth d 0) from HI.out.pos 0 (by rw [HI.out.len]; exact h0))
          obtain ⟨x, hx⟩ : ∃ x, nth d 0 = x := ⟨_, rfl⟩
          rw [hx] at hcg HPX
          have HX := Aside0.mk hx
          have htl : (m.take k).length = k := by rw [List.length_take]; have := HLEN.out; omega
          have hCm : Kd.C (Kd.int .i64) wr.drew (some ad1) k (m.take k) := by
            have := Kd.C_take (Kd.C_below HR1.out (J4.out.drew)) (m := k) (by have := HLEN.out; omega)
            rwa [htl] at this
          have HCM := Aside0.mk hCm
          have HTL := Aside0.mk htl
          have HDT := Aside0.mk (discs_take HDM.out k)
          have HSL := Aside0.mk (show (spreadL (m.take k) x).length ≤ 5000 by have h1 := spread_len (m.take k) x; rw [htl] at h1; have h2 : 2 ^ k ≤ 2 ^ 12 := Nat.pow_le_pow_right (by omega) (by omega); omega)
          clear hrd hx hCm htl hfg
          go_wp2
          go_region_law (first | ((with_reducible refine gate_call_st (f := 87) rfl ?_); go_simp; go_at_call 87; refine (spread_calls_n _ _ k (m.take k) x _ HTL.out HCM.out (by omega) ck (by omega) HDT.out HPX.out).mono ?_; rintro e w4 ⟨v3, rfl, r1, r2⟩; obtain ⟨A3, c3, e3⟩ := Kd.R_slice r1; subst e3; have r3 : Below wr.heap.size wr w4 := ⟨r2.os, r2.tape, r2.output, r2.size, r2.block⟩; have b4 := J1.out.below r3 J1.out.lt; have co4 := b4.cell 0 (v := .slice Au o.length cu) rfl; have Q1 := Aside0.mk r1; have Q2 := Aside0.mk (Kd.R_below J2.out r3); have Q3 := Aside0.mk r3; have Q4 := Aside0.mk b4; clear r1 r2 r3 b4; dsimp only) | ((with_reducible refine gate_app_st rfl ?_); refine R_append_rows_st k52 (w0 := w4) B (by rfl) (.tmp 92) (.tmp 100) 48 52 (.agg #[(.int .i64 0), (.int .i64 0)]) 16 rfl u48 info52 rfl (by decide) (by omega) (.slice Au o.length cu) o (spreadL (m.take k) x) A3 _ c3 (fun j => j ≠ gb) (fun _ => False) rfl rfl Q2.out (Kd.R_reads' Q1.out).2.2 (fun y cs hy => by rw [k52_open hy]; exact k52_mkM _ _ _ _) (fun _ h => h.elim) (fun j hj => by have := Q3.out.size; have := J3.out; omega) (Below.refl _ _) (by have := Q3.out.size; have := J3.out; omega) (by have := HI.out.olen; have := HSL.out; omega) ?_; intro v5 w5 ho hb hg hat; obtain ⟨A5, c5, e5⟩ := Kd.R_slice ho; subst e5; rw [List.length_append] at ho hat; have hb9 := Blk.grown Q4.out hg (fun e => by have := Kd.R_base J2.out _ e; omega); have hc9 := hb9.cell 0 (v := .slice Au o.length cu) rfl; have hf9 := hb9.free 0; have G1 := Aside0.mk ho; have G2 := Aside0.mk hg; have G3 := Aside0.mk hb9; clear ho hb hg hat hb9))
          all_goals
            have hc99 := (G3.out.set 0 (.slice A5 (o.length + (spreadL (m.take k) x).length) c5)).cell 0 (v := .slice A5 (o.length + (spreadL (m.take k) x).length) c5) rfl
            have R5 := Aside0.mk (show Kd.R k52 52 (w5.setCell { block := bs + 1, off := 0 } (Value.slice A5 (o.length + (spreadL (m.take k) x).length) c5)) w.heap.size (fun _ => True) (.slice A5 (o.length + (spreadL (m.take k) x).length) c5) (o ++ spreadL (m.take k) x) from
              Kd.R_mono (Kd.R_lower (Kd.R_far (p := ⟨bs + 1, 0, none⟩) (Kd.R_bound G1.out) (fun j hj => by have := hj.2.1; show j ≠ bs + 1; omega) _) (by have := J4.out.size; have := J3.out; omega)) (fun _ _ => trivial))
            have B5 := Aside0.mk (show Below w.heap.size w (w5.setCell { block := bs + 1, off := 0 } (Value.slice A5 (o.length + (spreadL (m.take k) x).length) c5)) from
              ((J4.out.trans (Q3.out.mono J4.out.size)).grown G2.out (by have := J4.out.size; have := Q3.out.size; omega) (fun j e => by have := Kd.R_base J2.out _ e; omega)).setCell (by simp; omega) _)
            obtain ⟨W9, hW9⟩ : ∃ W9, w5.setCell { block := bs + 1, off := 0 } (Value.slice A5 (o.length + (spreadL (m.take k) x).length) c5) = W9 := ⟨_, rfl⟩
            rw [hW9] at hc99 R5 B5 ⊢
            clear hW9 hc9 hf9 hcg c70 cou fou co4
            go_wp2
            go_ret2
            rw [HWAY.out, if_pos ck, HX.out]
            exact ⟨_, rfl, R5.out, B5.out⟩
        · have hkp : ¬ (0 : Int) < (k : Int) := by omega
          go_wp2
          go_ret2
          rw [HWAY.out, if_neg ck]
          exact ⟨_, rfl, Kd.R_mono (Kd.R_lower J2.out (by have := J4.out.size; omega)) (fun _ _ => trivial), J4.out⟩
      | succ k9 =>
        have hiN : i < 1 := by omega
        have hiz : (i : Int) < 1 := by omega
        have hi0 : (0 : Int) ≤ (i : Int) := by omega
        obtain ⟨hps, hxs⟩ := HOK.out i hiN
        rw [HI.out.run] at hxs
        obtain ⟨u, j1, j2, j3, j4, j5⟩ := HI.out.J
        have hb7 := j5 _ List.mem_cons_self
        have hbst := j5 _ (List.mem_cons_of_mem _ List.mem_cons_self)
        have c70 := hb7.cell 0 (v := .int .i64 (k : Int)) rfl
        obtain ⟨st, hst⟩ : ∃ st, nth [to'] i = st := ⟨_, rfl⟩
        have cst : wr.cell? ⟨bs, i, none⟩ = some (.int .i64 st) := hbst.cell i (by rw [← hst]; exact map_nth _ _ (by simpa using hiN))
        obtain ⟨hcg, hfg⟩ := Kd.R_celln (0 : Int) HI.out.row (k : Int) (by omega) (by omega)
        rw [Int.toNat_natCast] at hcg hfg
        have hrd : rdOf (0 : Int) d (k : Int) = nth d k := by simp [rdOf, nth]
        rw [hrd] at hcg
        have hpx : Peg (nth d k) := HI.out.pos k (by rw [HI.out.len]; exact hk)
        obtain ⟨x, hx⟩ : ∃ x, nth d k = x := ⟨_, rfl⟩
        rw [hst] at hps hxs
        rw [hx] at hcg hpx hxs
        have hpt := third_peg hpx hps hxs
        have hq1 := hpx
        have hq2 := hps
        unfold Peg at hq1 hq2
        have hw1 : IntKind.i64.wrap (3 - x) = 3 - x := by rw [i64_w, w64 (by omega) (by omega)]
        have hw2 : IntKind.i64.wrap (3 - x - st) = 3 - x - st := by rw [i64_w, w64 (by omega) (by omega)]
        have hwi : IntKind.i64.wrap ((i : Int) + 1) = ((i + 1 : Nat) : Int) := by rw [i64_w, w64 (by omega) (by omega)]; rfl
        have hkc : (k : Int) ≤ (cap : Int) := by have := (Kd.R_reads' HI.out.row).2.1; omega
        have c70d : World.cell? { heap := wr.heap, tape := wr.tape, drawn := wr.drawn + 1, os := wr.os, output := wr.output } ⟨g7, 0, none⟩ = some (.int .i64 (k : Int)) := c70
        have hcgd : World.cell? { heap := wr.heap, tape := wr.tape, drawn := wr.drawn + 1, os := wr.os, output := wr.output } ⟨gb, k, none⟩ = some (.int .i64 x) := hcg
        have HX := Aside0.mk hx
        have HST := Aside0.mk hst
        have HPS := Aside0.mk hps
        have HPT' := Aside0.mk hpt
        have HWR := Aside0.mk (way_writer w (bs + 1) gb B l.length 100000 [(g7, #[.int .i64 (k : Int), .int .i64 p1, .int .i64 p2], 117), (bs, (([to'] : List Int).map (Value.int .i64)).toArray, 3)] (fun q hq => by
          simp only [List.mem_cons, List.not_mem_nil, or_false] at hq
          rcases hq with rfl | rfl
          · exact ⟨by show g7 ≠ bs + 1; omega, by show g7 ≠ gb; omega, by show g7 < B; omega⟩
          · exact ⟨by show bs ≠ bs + 1; omega, by show bs ≠ gb; omega, by show bs < B; omega⟩) o (by have := HI.out.olen; omega) (by omega) (by omega) (by omega) (by omega) (by omega))
        have hp12 : 2 ^ k ≤ 2 ^ 12 := Nat.pow_le_pow_right (by omega) (by omega)
        have J4 := Aside0.mk j4
        clear hps hxs j1 j2 j3 j4 j5 hb7 hbst hrd hpx hx hst hpt hq1 hq2 hfg
        go_wp2
        clear cst
        go_still_tail 13, (by kernel_rfl)
        go_wp2_with fail
        refine (gather_calls85 (bs + 1) gb l.length w.heap.size 100000 cap (by omega) (by omega) _ HWR.out k d (3 - x - st) [] wr.drew (by omega) (by simp; omega) HI.out.len HI.out.pos HPT'.out (by have := J4.out.size; exact this) (HWR.out.drew [] wr 1 HI.out.J) (Kd.R_drew HI.out.row)).mono ?_
        rintro e W1 ⟨⟨v, rfl⟩, g1, g2, g3⟩
        rw [List.nil_append] at g1
        obtain ⟨f1, f2, f3⟩ := gather_facts k d (3 - x - st) (by have := HI.out.len; omega)
        have f4 := gather_pos k d (3 - x - st) (by have := HI.out.len; omega) HI.out.pos HPT'.out
        have f5 := gather_len k d (3 - x - st)
        have hrun := wayRun_step k l [to'] i hiN HI.out.run HX.out HST.out
        obtain ⟨d1, hd1⟩ : ∃ d1, (gatherL k d (3 - x - st)).2 = d1 := ⟨_, rfl⟩
        obtain ⟨m1, hm1⟩ : ∃ m1, (gatherL k d (3 - x - st)).1 = m1 := ⟨_, rfl⟩
        rw [hd1] at g2 f1 f4 hrun
        rw [hm1] at g1 f5 hrun
        obtain ⟨u2, i1, i2, i3, i4, i5⟩ := g1
        have hb72 := i5 _ List.mem_cons_self
        obtain ⟨hcg1, hfg1⟩ := Kd.R_celln (0 : Int) g2 (k : Int) (by omega) (by omega)
        rw [Int.toNat_natCast] at hcg1 hfg1
        have c701 := hb72.cell 0 (v := .int .i64 (k : Int)) rfl
        have c702 := (hb72.setOther (a := ⟨gb, k, none⟩) (by show g7 ≠ gb; omega) (.int .i64 st)).cell 0 (v := .int .i64 (k : Int)) rfl
        have G1 := Aside0.mk (HWR.out.put m1 W1 k (.int .i64 st) ⟨u2, i1, i2, i3, i4, i5⟩)
        have h4 := Kd.R_putn g2 (k : Int) st
        rw [Int.toNat_natCast] at h4
        have G2 := Aside0.mk h4
        have F1 := Aside0.mk (show (d1.set k st).length = l.length by rw [List.length_set, f1]; exact HI.out.len)
        have F4 := Aside0.mk (discs_set f4 k st HPS.out)
        have F5 := Aside0.mk f5
        have HRN := Aside0.mk hrun
        clear g2 g3 f1 f2 f3 f4 f5 h4 i1 i2 i3 i4 i5 hb72 hrun hd1 hm1 hcg c70 c70d hcgd
        go_wp2_with (go_at_call 85; refine (HWR.out.call m1 _ k st G1.out (by have := F5.out; omega) (by omega) HPS.out).mono ?_; rintro e W2 ⟨⟨v2, rfl⟩, y1, y2, y3, y4⟩; have Y1 := Aside0.mk y1.shift; have Y2 := Aside0.mk (R_block G2.out y2); clear y1 y2 y3 y4)
        go_roundg k9
        case measure => omega
        case rel =>
          refine ⟨i + 1, o ++ (m1 ++ [(k, st)]).map mkI, d1.set k st, rfl, by omega, .mk ⟨?_, Y1.out, Y2.out, F1.out, F4.out, ?_⟩⟩
          · rw [HRN.out, List.map_append, List.append_assoc]; rfl
          · have := HI.out.olen
            have := F5.out
            simp only [List.length_append, List.length_map, List.length_singleton]
            omega

theorem hanoi_Way.calls (A0 : Option Addr) (c0 : Nat) (l0 : List Int) (A1 : Option Addr) (c1 : Nat) (l1 : List Int) (r1 : List S52) (r2 : Int) (w : World) (hr0 : Kd.C (Kd.int .i64) w A0 l0.length l0) (hc0 : l0.length ≤ c0) (hr1 : Kd.C (Kd.int .i64) w A1 l1.length l1) (hc1 : l1.length ≤ c1) (h : hanoi_Way.f l0 l1 = some (r1, r2)) :
    Calls Tryd.prog 59 #[.slice A0 l0.length c0, .slice A1 l1.length c1] w fun e w' => ∃ v0_ : Value, e = .returned (.tuple #[v0_, .int .i64 r2]) ∧ Kd.R k52 52 w' w.heap.size (fun _ => True) v0_ r1 ∧ Below w.heap.size w w' := by
  unfold hanoi_Way.f at h
  by_cases hb : both l0 l1 = true
  · rw [if_pos hb] at h
    by_cases hl : 12 < l0.length
    · rw [if_pos hl] at h
      cases h
      exact way_long A0 c0 l0 A1 c1 l1 w hr0 hc0 hr1 hc1 hb hl
    · rw [if_neg hl] at h
      by_cases he : l0 = l1
      · rw [if_pos he] at h
        cases h
        exact way_same A0 c0 l0 A1 c1 l1 w hr0 hc0 hr1 hc1 hb (by omega) he
      · rw [if_neg he] at h
        cases h
        obtain ⟨⟨h0, h40, hd⟩, hdm, hlen⟩ := (both_iff l0 l1).1 hb
        cases hk : top (nth l0) (nth l1) l0.length with
        | zero => exact absurd (list_top hlen hk) he
        | succ k => exact way_main A0 c0 l0 A1 c1 l1 k w hr0 hc0 hr1 hc1 hb (by omega) he hk
  · rw [if_neg hb] at h
    cases h
    exact way_bad A0 c0 l0 A1 c1 l1 w hr0 hc0 hr1 hc1 (by simpa using hb)
end Go.Proofs.YtnaaomhmoamfpaaDoor.G
/- own: a list's copy, cut at 41: its contract. -/
namespace Go.Proofs.YtnaaomhmoamfpaaDoor.G
set_option linter.unusedVariables false
set_option linter.unusedSimpArgs false
set_option linter.unusedSectionVars false
open Go.Proofs.YtnaaomhmoamfpaaDoor.Q Go.Proofs.YtnaaomhmoamfpaaDoor.Hn Go.Proofs.YtnaaomhmoamfpaaDoor.K Go.Proofs.YtnaaomhmoamfpaaDoor.It
open Go.RowKit Go.Shelf Go.Proofs.YtnaaomhmoamfpaaDoorW.PrintWords Go.Proofs.YtnaaomhmoamfpaaDoorW.PrintLast Go.Proofs.YtnaaomhmoamfpaaDoorW.PrintMore
attribute [local go_sem] max2_int min2_int
def bibelotlaw03_own.f (l : List Int) : Option (List Int) := some (l.take 41)
set_option maxHeartbeats 8000000 in
set_option maxRecDepth 100000 in
theorem bibelotlaw03_own.calls (A0 : Option Addr) (c0 : Nat) (l0 : List Int) (r : List Int) (w : World) (hr0 : Kd.C (Kd.int .i64) w A0 l0.length l0) (hc0 : l0.length ≤ c0) (h : bibelotlaw03_own.f l0 = some r) :
    Calls Tryd.prog 60 #[.slice A0 l0.length c0] w fun e w' => ∃ v0_ : Value, e = .returned (v0_) ∧ Kd.R (Kd.int .i64) 3 w' w.heap.size (fun _ => True) v0_ r ∧ Below w.heap.size w w' := by
  obtain rfl : l0.take 41 = r := Option.some.inj h
  obtain ⟨m, hm⟩ : ∃ m, m = min l0.length 41 := ⟨_, rfl⟩
  have hmn : mn (l0.length : Int) 41 = (m : Int) := by unfold mn; omega
  have hmn2 : min (l0.length : Int) 41 = (m : Int) := by omega
  have hml : (m : Int) ≤ (c0 : Int) := by omega
  have hm0 : (0 : Int) ≤ (m : Int) := by omega
  have hC : Kd.C (Kd.int .i64) w A0 m (l0.take m) := by
    have := Kd.C_take hr0 (m := m) (by omega)
    rwa [List.length_take, Nat.min_eq_left (by omega)] at this
  have ht : l0.take 41 = l0.take m := by
    rw [hm]
    by_cases c : l0.length ≤ 41
    · rw [Nat.min_eq_left c, List.take_of_length_le c, List.take_of_length_le (Nat.le_refl _)]
    · rw [Nat.min_eq_right (by omega)]
  rw [ht]
  have HC := Aside0.mk hC
  have HM := Aside0.mk hm
  have HL := Aside0.mk hr0.2.1
  clear hr0 hC hm ht h
  go_enter Tryd.func60, Tryd.ntmps60
  go_wp2_with ((with_reducible refine gate_builtin (b := .append) (xs := #[.tmp 4, .tmp 9]) rfl ?_); at_builtin; refine Kd.R_append_rows (Kd.int .i64) (w0 := w) w.heap.size rfl (.tmp 4) (.tmp 9) 46 3 (.int .i64 0) 8 rfl Tryd.underlying46 info3 rfl (by decide) (by omega) (.slice none 0 0) ([] : List Int) (l0.take m) A0 m _ (fun _ => True) (fun _ => False) rfl rfl (Kd.R_nil _ _ _ _ (fun _ => True)) HC.out (fun _ _ h => h) (fun _ h => h.elim) (fun _ _ => trivial) (Below.refl _ _) (Nat.le_refl _) (by have := HM.out; simp; omega) ?_; intro v1 w5 ho hb hg hat; have HO := Aside0.mk ho; have HB := Aside0.mk hb; clear ho hb hg hat)
  go_ret
  exact ⟨_, rfl, HO.out, HB.out⟩
end Go.Proofs.YtnaaomhmoamfpaaDoor.G
/- Two moves compared: an array of two numbers. -/
namespace Go.Proofs.YtnaaomhmoamfpaaDoor.G
set_option linter.unusedVariables false
set_option linter.unusedSimpArgs false
set_option linter.unusedSectionVars false
open Go.Proofs.YtnaaomhmoamfpaaDoor.Q Go.Proofs.YtnaaomhmoamfpaaDoor.Hn Go.Proofs.YtnaaomhmoamfpaaDoor.K Go.Proofs.YtnaaomhmoamfpaaDoor.It
open Go.RowKit Go.Shelf Go.Proofs.YtnaaomhmoamfpaaDoorW.PrintWords Go.Proofs.YtnaaomhmoamfpaaDoorW.PrintLast Go.Proofs.YtnaaomhmoamfpaaDoorW.PrintMore
theorem u52a : Tryd.prog.underlying 52 = some (.array 2 3) := by kernel_rfl
theorem eq52 (W : World) (a b c d : Int) : (Op.equalIn 10000 52 (.agg #[.int .i64 a, .int .i64 b]) (.agg #[.int .i64 c, .int .i64 d])).run Tryd.prog W = .ok (a == c && b == d) W := by
  obtain ⟨i0, hi0, hz, hs, _⟩ := info_parts info3
  have c3 : Tryd.prog.cellsOf 3 = 1 := by kernel_rfl
  have hl : List.range 2 = [0, 1] := rfl
  rw [show (10000 : Nat) = 9999 + 1 from rfl, run_equalIn_array W 9999 _ _ u52a hi0, c3, hl]
  have e1 : ∀ x y : Int, (Op.equalIn 9999 3 (.int .i64 x) (.int .i64 y)).run Tryd.prog W = .ok (x == y) W := fun x y => run_equalIn_int W 9998 3 .i64 .i64 x y u3
  simp only [Op.eqItems, Sem.run_bind, Nat.zero_mul, Nat.one_mul]
  have p0 : ∀ x y : Int, (part 3 #[Value.int .i64 x, Value.int .i64 y] 0).run Tryd.prog W = .ok (.int .i64 x) W := fun x y => by simp [part, go_sem]
  have p1 : ∀ x y : Int, (part 3 #[Value.int .i64 x, Value.int .i64 y] 1).run Tryd.prog W = .ok (.int .i64 y) W := fun x y => by simp [part, go_sem]
  simp only [p0, Result.andThen_ok, e1]
  by_cases h : a = c
  · subst h
    simp only [beq_self_eq_true, Bool.not_true, Bool.false_eq_true, if_false, Bool.true_and, Sem.run_bind, p1, Result.andThen_ok, e1]
    by_cases k : b = d <;> simp [k, Sem.run_pure]
  · simp [h, Sem.run_pure]
end Go.Proofs.YtnaaomhmoamfpaaDoor.G
/- Play: its contract. -/
namespace Go.Proofs.YtnaaomhmoamfpaaDoor.G
set_option linter.unusedVariables false
set_option linter.unusedSimpArgs false
set_option linter.unusedSectionVars false
open Go.Proofs.YtnaaomhmoamfpaaDoor.Q Go.Proofs.YtnaaomhmoamfpaaDoor.Hn Go.Proofs.YtnaaomhmoamfpaaDoor.K Go.Proofs.YtnaaomhmoamfpaaDoor.It
open Go.RowKit Go.Shelf Go.Proofs.YtnaaomhmoamfpaaDoorW.PrintWords Go.Proofs.YtnaaomhmoamfpaaDoorW.PrintLast Go.Proofs.YtnaaomhmoamfpaaDoorW.PrintMore
attribute [local go_sem] Oper.semAt_some eq52

/-- Can move m be made? -/
def mvB (d : List Int) (m : S52) : Bool := (movesL d 3).any fun x => decide ((x.1 : Int) = m.f0) && decide ((x.2 : Int) = m.f1)
def putM (d : List Int) (m : S52) : List Int := d.set m.f0.toNat m.f1
/-- Moves are made as long as they can be made. -/
def playL : List Int → List S52 → List Int × Nat
  | d, [] => (d, 0)
  | d, m :: ms => if mvB d m = true then ((playL (putM d m) ms).1, (playL (putM d m) ms).2 + 1) else (d, 0)
def hanoi_Play.f (l : List Int) (ms : List S52) : Option (List Int × Int × Int) := if okD l = true then some ((playL l ms).1, ((playL l ms).2 : Int), 0) else some ([], 0, 30)

/-- Play's loop: what holds at its head. -/
structure PlI (l0 : List Int) (l1 : List S52) (w : World) (b8 g cap i k : Nat) (d : List Int) (rs : List Nat) (W : World) : Prop where
  le : i ≤ l1.length
  kle : k ≤ i
  len : d.length = l0.length
  pos : Pos d 3
  out : playL l0 l1 = ((playL d (l1.drop i)).1, k + (playL d (l1.drop i)).2)
  b0 : Blk W b8 #[.slice (some ⟨g, 0, none⟩) l0.length cap] 46
  b1 : Blk W (b8 + 1) #[.int .i64 (k : Int)] 3
  row : Kd.R (Kd.int .i64) 3 W w.heap.size (fun j => j = g) (.slice (some ⟨g, 0, none⟩) l0.length cap) d
  below : Below w.heap.size w W
  marks : Mk w.heap.size rs W
  size : b8 + 2 ≤ W.heap.size

theorem PlI.alloc {l0 : List Int} {l1 : List S52} {w : World} {b8 g cap i k : Nat} {d : List Int} {rs : List Nat} {W : World} (h : PlI l0 l1 w b8 g cap i k d rs W) (o : Obj) : PlI l0 l1 w b8 g cap i k d rs (W.alloc o) :=
  ⟨h.le, h.kle, h.len, h.pos, h.out, h.b0.alloc _, h.b1.alloc _, Kd.R_alloc h.row _, h.below.alloc h.below.size _, ⟨h.marks.1, fun r hr => ⟨(h.marks.2 r hr).1, by rw [Below.heap_alloc _ _ _ (h.marks.lt r hr)]; exact (h.marks.2 r hr).2⟩⟩, by have := h.size; simp; omega⟩
theorem PlI.step {l0 : List Int} {l1 : List S52} {w : World} {b8 g cap i k B : Nat} {d : List Int} {rs : List Nat} {W W' : World} (h : PlI l0 l1 w b8 g cap i k d rs W) (hs : Step 127 B W W') (hB : b8 + 2 ≤ B) (hm : ∀ r, r ∈ rs → r < B) (hw : w.heap.size ≤ g) (hg : g < B) : PlI l0 l1 w b8 g cap i k d rs W' :=
  ⟨h.le, h.kle, h.len, h.pos, h.out, hs.same _ _ h.b0 (.inl (by omega)), hs.same _ _ h.b1 (.inl (by omega)), R_iter h.row hs (by decide), hs.below h.below (by omega) (Nat.le_refl _), h.marks.step hm hs, Nat.le_trans h.size hs.size⟩
theorem R_bk {α : Type} {d : Kd α} {e base : Nat} {ok : Nat → Prop} {w w1 : World} {v : Value} {xs : List α} (h : d.R e w base ok v xs) (hb : Bk w w1) : d.R e w1 base ok v xs :=
  Kd.R_mono (Kd.R_move (Kd.R_bound h) (fun k hk => by
    obtain ⟨_, _, _, q, hq, cells, hc⟩ := hk
    rw [hc]
    exact hb _ _ hc rfl)) (fun _ hk => hk.1)
theorem drop_T52 (l : List S52) (i : Nat) (h : i < l.length) : l.drop i = rd_T52 l (i : Int) :: l.drop (i + 1) := by
  rw [List.drop_eq_getElem_cons h]
  congr 1
  simp [rd_T52, h]
/-- The marks are taken off: all that is no book-keeping lies as it lay. -/
theorem leaves_marks2 {R : Ending → World → Prop} {f : Func} {tmps : Array Value} (B : Nat) : ∀ (rs : List Nat) (W : World), Mk B rs W → B ≤ W.heap.size → (∀ W', Below B W W' → Bk W W' → LeavesIn Fence.wide 8 Tryd.prog f tmps R [] .returning W') → LeavesInM Fence.wide 8 Tryd.prog f tmps R (rs.map mark) .returning W
  | [], W, _, _, h => h W (Below.refl _ _) (fun _ _ h _ => h)
  | r :: rs, W, hM, hB, h => by
    obtain ⟨hnd, hall⟩ := hM
    obtain ⟨hr, hrs⟩ := List.nodup_cons.1 hnd
    have h1 := hall r (by simp)
    refine ⟨by simp, .inl ⟨r, _, rfl, run_takeDeferred h1.2, ?_⟩⟩
    have hbel : Below B W (W.putObj r (.deferred none)) := ⟨rfl, rfl, rfl, by simp, fun k hk => World.putObj_heap_other (by omega)⟩
    have hbk : Bk W (W.putObj r (.deferred none)) := fun k o hk hb => by
      by_cases e : k = r
      · subst e
        rw [h1.2] at hk
        injection hk with hk
        subst hk
        cases hb
      · rw [World.putObj_heap_other e]; exact hk
    refine leaves_marks2 B rs _ ⟨hrs, fun x hx => ?_⟩ (by simpa using hB) (fun W' hW' hk' => h W' (hbel.trans hW') (fun k o hk hb => hk' k o (hbk k o hk hb) hb))
    have h2 := hall x (List.mem_cons_of_mem _ hx)
    exact ⟨h2.1, (World.putObj_heap_other (fun e => hr (by first | (rw [← e]; exact hx) | (rw [e]; exact hx)))).trans h2.2⟩

set_option maxHeartbeats 8000000 in
set_option maxRecDepth 100000 in
theorem hanoi_Play.calls (A0 : Option Addr) (c0 : Nat) (l0 : List Int) (A1 : Option Addr) (c1 : Nat) (l1 : List S52) (r1 : List Int) (r2 r3 : Int) (w : World) (hr0 : Kd.C (Kd.int .i64) w A0 l0.length l0) (hc0 : l0.length ≤ c0) (hr1 : Kd.C k52 w A1 l1.length l1) (hc1 : l1.length ≤ c1) (h : hanoi_Play.f l0 l1 = some (r1, r2, r3)) :
    Calls Tryd.prog 56 #[.slice A0 l0.length c0, .slice A1 l1.length c1] w fun e w' => ∃ v0_ : Value, e = .returned (.tuple #[v0_, .int .i64 r2, .int .i64 r3]) ∧ Kd.R (Kd.int .i64) 3 w' w.heap.size (fun _ => True) v0_ r1 ∧ Below w.heap.size w w' := by
  obtain ⟨k, hk⟩ := check_ev l0
  have hchk := hk k (Nat.le_refl _)
  clear hk
  unfold hanoi_Play.f at h
  have HR := Aside0.mk hr0
  have HC0 := Aside0.mk hc0
  have HR1 := Aside0.mk hr1
  have HC1 := Aside0.mk hc1
  have HL1 := Aside0.mk hr1.2.1
  clear hr0 hc0 hr1 hc1
  by_cases hok : okD l0 = true
  · rw [if_pos hok] at h
    cases h
    rw [show checkD l0 = 0 by simp [checkD, hok]] at hchk
    have HC := Aside0.mk hchk
    have HOK := Aside0.mk hok
    have HCl := Aside0.mk (show slices_Clone_int_int.f l0 = some l0 by unfold slices_Clone_int_int.f; rw [if_pos]; obtain ⟨_, h2, _⟩ := okD_facts hok; omega)
    clear hchk hok
    refine (callsIn_wide (n := 8)).1 ?_
    refine callsIn_of_wp_marks Tryd.func56 rfl trivial ?_ rfl
    simp only [Tryd.ntmps56, List.size_toArray, List.length_cons, List.length_nil, Nat.reduceAdd, Nat.reduceSub, Array.replicate_succ, Array.replicate_zero, List.push_toArray, List.append_toArray, List.nil_append, List.cons_append]
    gi_wp2
    refine wpIn_scope ?_
    gi_wp2_with (refine ⟨trivial, ?_⟩; first | (gi_at_call 62; refine CallsIn.mono (callsIn_wide.2 (hanoi_Check.calls _ _ _ _ _ _ HR.out HC0.out HC.out)) ?_; rintro e w1 ⟨rfl, hb⟩; have HB := Aside0.mk hb; clear hb) | (gi_at_call 83; refine CallsIn.mono (callsIn_wide.2 (slices_Clone_int_int.calls _ _ _ _ _ (Kd.C_below HR.out HB.out) HC0.out HCl.out)) ?_; rintro e w2 ⟨v, rfl, ho, hb⟩; obtain ⟨g, cap, ev, hg1, hg2, hg3⟩ := Kd.R_form ho (okD_facts HOK.out).1; subst ev; have HB2 := Aside0.mk (HB.out.trans (hb.mono HB.out.size)); have HO := Aside0.mk ho; clear hb ho hg3))
    refine wpIn_label ?_
    gi_wp2
    have hsz1 := HB.out.size
    have hsz2 := HB2.out.size
    obtain ⟨W0, hW0⟩ : ∃ W0, (w2.alloc (Obj.cells #[Value.slice (some { block := g, off := 0 }) l0.length cap] 46)).alloc (Obj.cells #[Value.int IntKind.i64 0] 3) = W0 := ⟨_, rfl⟩
    have h0 : PlI l0 l1 w w2.heap.size g cap 0 0 l0 [] W0 := by
      rw [← hW0]
      refine ⟨Nat.zero_le _, Nat.le_refl _, rfl, (okD_facts HOK.out).2.2, by simp, (Blk.new w2 _ _).alloc _, ?_, ?_, (HB2.out.alloc hsz2 _).alloc (by simp; omega) _, ⟨List.nodup_nil, fun r hr => by cases hr⟩, by simp⟩
      · have := Blk.new (w2.alloc (Obj.cells #[Value.slice (some { block := g, off := 0 }) l0.length cap] 46)) #[Value.int IntKind.i64 0] 3
        rwa [World.size_alloc] at this
      · refine Kd.R_alloc (Kd.R_alloc (Kd.R_lower (Kd.R_mono (Kd.R_tight rfl HO.out) (fun j hj => ?_)) hsz1) _) _
        exact Option.some.inj hj
    rw [hW0]
    clear hW0 HO
    have hgb : w.heap.size ≤ g := by omega
    have hgl : g < w2.heap.size := hg2
    obtain ⟨b8, hb8⟩ : ∃ b8, w2.heap.size = b8 := ⟨_, rfl⟩
    rw [hb8] at h0 hgl hsz2 ⊢
    clear hb8 hg1 hg2
    have H0 := Aside0.mk h0
    clear h0
    refine wpIn_loop (fun a W => ∃ (i k : Nat) (d : List Int) (rs : List Nat) (x10 x11 x12 x13 x24 x25 x26 x27 x28 x29 x30 x31 x32 x33 x34 x35 x36 x37 x38 x39 x40 x41 x42 x43 x44 : Value), a = { tmps := #[Value.slice A0 l0.length c0, Value.slice A1 l1.length c1, undef, undef, Value.slice none 0 0, Value.int IntKind.i64 0, Value.int IntKind.i64 0, Value.int IntKind.i64 0, Value.pointer (some { block := b8, off := 0 }), Value.pointer (some { block := b8 + 1, off := 0 }), x10, x11, x12, x13, Value.slice A0 l0.length c0, Value.int IntKind.i64 0, Value.int IntKind.i64 0, Value.bool false, undef, Value.slice A0 l0.length c0, Value.slice (some { block := g, off := 0 }) l0.length cap, Value.slice A1 l1.length c1, Value.int IntKind.i64 (l1.length : Int), Value.int IntKind.i64 (i : Int), x24, x25, x26, x27, x28, x29, x30, x31, x32, x33, x34, x35, x36, x37, x38, x39, x40, x41, x42, x43, x44], defers := rs.map mark } ∧ Aside0 (PlI l0 l1 w b8 g cap i k d rs W)) (fun a _ => l1.length - (intOf (a.tmps.getD 23 undef)).toNat) ⟨0, 0, l0, [], _, _, _, _, _, _, _, _, _, _, _, _, _, _, _, _, _, _, _, _, _, _, _, _, _, rfl, H0⟩ ?_
    rintro a W ⟨i, kd, d, rs, x10, x11, x12, x13, x24, x25, x26, x27, x28, x29, x30, x31, x32, x33, x34, x35, x36, x37, x38, x39, x40, x41, x42, x43, x44, rfl, HI⟩
    clear H0
    by_cases hlt : i < l1.length
    · have hi1 : (i : Int) < (l1.length : Int) := by omega
      obtain ⟨ad1, e1, hx0, hx1⟩ := at_T52 (Kd.C_below HR1.out HI.out.below) (i : Int) (by omega) hi1
      subst e1
      obtain ⟨m, hm⟩ : ∃ m, rd_T52 l1 (i : Int) = m := ⟨_, rfl⟩
      rw [hm, Int.toNat_natCast] at hx0 hx1
      have hi0 : (0 : Int) ≤ (i : Int) := by omega
      have hcb := (HI.out.b0.alloc (Obj.cells #[Value.int IntKind.i64 m.f0, Value.int IntKind.i64 m.f1] 52)).cell 0 (v := .slice (some ⟨g, 0, none⟩) l0.length cap) rfl
      gi_wp2_with (refine ⟨trivial, ?_⟩; gi_at_call 67; refine (moves_calls Fence.wide _ trivial rfl _ _ _ _ _).mono ?_; rintro e w' ⟨rfl, rfl⟩)
      clear hx0 hx1 hcb
      obtain ⟨W6, hW6⟩ : ∃ W6, ((W.alloc (Obj.cells #[Value.int IntKind.i64 m.f0, Value.int IntKind.i64 m.f1] 52)).alloc (Obj.cells #[Value.slice (some { block := g, off := 0 }) l0.length cap] 46)).alloc (Obj.cells #[Value.int IntKind.i64 3] 3) = W6 := ⟨_, rfl⟩
      have hz : W6.heap.size = W.heap.size + 3 := by rw [← hW6]; simp
      have hq0 : Blk W6 W.heap.size #[Value.int IntKind.i64 m.f0, Value.int IntKind.i64 m.f1] 52 := by rw [← hW6]; exact ((Blk.new W _ _).alloc _).alloc _
      have hq1 : Blk W6 (W.heap.size + 1) #[Value.slice (some { block := g, off := 0 }) d.length cap] 46 := by rw [← hW6, HI.out.len]; have := Blk.new (W.alloc (Obj.cells #[Value.int IntKind.i64 m.f0, Value.int IntKind.i64 m.f1] 52)) #[Value.slice (some { block := g, off := 0 }) l0.length cap] 46; rw [World.size_alloc] at this; exact this.alloc _
      have hq2 : Blk W6 (W.heap.size + 1 + 1) #[Value.int IntKind.i64 3] 3 := by rw [← hW6]; have := Blk.new ((W.alloc (Obj.cells #[Value.int IntKind.i64 m.f0, Value.int IntKind.i64 m.f1] 52)).alloc (Obj.cells #[Value.slice (some { block := g, off := 0 }) l0.length cap] 46)) #[Value.int IntKind.i64 3] 3; rwa [World.size_alloc, World.size_alloc] at this
      have hWs := HI.out.size
      have hP6 : PlI l0 l1 w b8 g cap i kd d rs W6 := by rw [← hW6]; exact ((HI.out.alloc _).alloc _).alloc _
      rw [hW6]
      clear hW6
      have hF : Kd.F (Kd.int .i64) W6 (fun j => j = g) (some ⟨g, 0, none⟩) d.length d := by rw [hP6.len]; exact Kd.R_F hP6.row
      have hd40 : d.length ≤ 40 := by rw [HI.out.len]; exact (okD_facts HOK.out).2.1
      have hMl := HI.out.marks.lt
      have HP6 := Aside0.mk hP6
      have HQ0 := Aside0.mk hq0
      have HQ1 := Aside0.mk hq1
      have HQ2 := Aside0.mk hq2
      have HF := Aside0.mk hF
      have HML := Aside0.mk hMl
      have hgW : g < W.heap.size := by omega
      clear hP6 hq0 hq1 hq2 hF hMl
      refine range_outer (T := 127) (keep := own3 (fun j => j = g) (W.heap.size + 1) (W.heap.size + 1 + 1)) (L := movesL d 3) rfl (by omega) (gf := 91) (lb := #[Value.pointer (some ⟨W.heap.size + 1, 0, none⟩), Value.pointer (some ⟨W.heap.size + 1 + 1, 0, none⟩)]) rfl trivial (enters_of Tryd.func91 (by kernel_rfl) rfl)
        (encs := fun (x : Nat × Nat) => #[.int .i64 (x.1 : Int), .int .i64 (x.2 : Int)])
        (moves_it Fence.wide 7 trivial rfl (by omega) (fun j => j = g) (W.heap.size + 1) (W.heap.size + 1 + 1) 3 cap ⟨g, 0, none⟩ d hd40 (by omega) HI.out.pos W6 HQ1.out HQ2.out HF.out (fun j hj => by subst hj; omega))
        (Below.refl _ _) (fun j hj => by rcases hj with (hj | hj) | hj <;> omega) (fun _ => rfl)
        (fun pre V => Aside0 ((∀ x, x ∈ pre → ¬ ((x.1 : Int) = m.f0 ∧ (x.2 : Int) = m.f1)) ∧ PlI l0 l1 w b8 g cap i kd d rs V ∧ Blk V W.heap.size #[Value.int IntKind.i64 m.f0, Value.int IntKind.i64 m.f1] 52 ∧ W6.heap.size ≤ V.heap.size))
        (fun c pre V => c = .exit 1 ∧ Aside0 (mvB d m = true ∧ PlI l0 l1 w b8 g cap (i + 1) (kd + 1) (putM d m) rs V))
        (fun s A A' hs hst => by
          obtain ⟨h1, h2, h3, h4⟩ := hs.out
          exact .mk ⟨h1, h2.step hst (by omega) (fun r hr => by have := HML.out r hr; omega) hgb (by omega), hst.same _ _ h3 (.inl (by omega)), Nat.le_trans h4 hst.size⟩)
        (fun c s A A' hs hst => ⟨hs.1, .mk ⟨hs.2.out.1, hs.2.out.2.step hst (by omega) (fun r hr => by have := HML.out r hr; omega) hgb (by omega)⟩⟩)
        (.mk ⟨fun x hx => absurd hx (List.not_mem_nil), HP6.out, HQ0.out, Nat.le_refl _⟩)
        (fun x a' A => a' = { tmps := #[Value.slice A0 l0.length c0, Value.slice (some ad1) l1.length c1, undef, undef, Value.slice none 0 0, Value.int IntKind.i64 0, Value.int IntKind.i64 0, Value.int IntKind.i64 0, Value.pointer (some { block := b8, off := 0 }), Value.pointer (some { block := b8 + 1, off := 0 }), x10, Value.pointer (some { block := W.heap.size, off := 0 }), Value.int IntKind.i64 (x.1 : Int), Value.int IntKind.i64 (x.2 : Int), Value.slice A0 l0.length c0, Value.int IntKind.i64 0, Value.int IntKind.i64 0, Value.bool false, undef, Value.slice A0 l0.length c0, Value.slice (some { block := g, off := 0 }) l0.length cap, Value.slice (some ad1) l1.length c1, Value.int IntKind.i64 (l1.length : Int), Value.int IntKind.i64 (i : Int), Value.bool true, Value.pointer (some (ad1.add (i * 2))), Value.agg #[Value.int IntKind.i64 m.f0, Value.int IntKind.i64 m.f1], Value.slice (some { block := g, off := 0 }) l0.length cap, Value.func (Fn.func 91) #[] #[Value.pointer (some { block := W.heap.size + 1, off := 0 }), Value.pointer (some { block := W.heap.size + 1 + 1, off := 0 })], Value.int IntKind.i64 (x.1 : Int), Value.int IntKind.i64 (x.2 : Int), x31, x32, x33, x34, x35, x36, x37, x38, x39, x40, x41, x42, x43, x44], defers := [] })
        (fun x a' A A' hx hbk => hx) ?assign ?body ?done ?stop
      case assign =>
        intro l pre x rest V K hL hi hr hK
        have HK := Aside0.mk hK
        clear hK hr hL
        simp only [List.zip_toArray, List.zip_cons_cons, List.zip_nil_left]
        gi_wp2
        exact HK.out _ _ (RB.refl _ _ _) hi rfl
      case body =>
        rintro l pre x rest a' V hL hle ⟨r, hr⟩ hV rfl
        obtain ⟨v1, v2, v3, v4⟩ := hV.out
        have hcm0 := v3.cell 0 (v := .int .i64 m.f0) rfl
        have hcm1 := v3.cell 1 (v := .int .i64 m.f1) rfl
        have hmm : x ∈ movesL d 3 := by rw [hL]; simp
        obtain ⟨hx1, hx2⟩ := mem_moves hmm
        have HL := Aside0.mk hL
        clear hL hr
        have HV := hV
        clear hV
        by_cases hme : (x.1 : Int) = m.f0 ∧ (x.2 : Int) = m.f1
        · have hb0 : (m.f0 == (x.1 : Int)) = true := beq_iff_eq.2 hme.1.symm
          have hb1 : (m.f1 == (x.2 : Int)) = true := beq_iff_eq.2 hme.2.symm
          have HM := Aside0.mk hme
          have hcb := v2.b0.cell 0 (v := .slice (some ⟨g, 0, none⟩) l0.length cap) rfl
          have hck := v2.b1.cell 0 (v := .int .i64 (kd : Int)) rfl
          have hfk := v2.b1.free 0
          obtain ⟨hcg, hfg⟩ := Kd.R_celln (0 : Int) v2.row (x.1 : Int) (by omega) (by have := v2.len; omega)
          rw [Int.toNat_natCast] at hcg hfg
          have hxl : (x.1 : Int) < (l0.length : Int) := by have := v2.len; omega
          have hx0 : (0 : Int) ≤ (x.1 : Int) := by omega
          have hwk : IntKind.i64.wrap ((kd : Int) + 1) = (kd : Int) + 1 := by rw [i64_w]; exact w64 (by omega) (by have := v2.kle; have := HL1.out; omega)
          obtain ⟨cells, hcells⟩ := Kd.R_typed v2.row g rfl
          have HCE := Aside0.mk hcells
          have HMM := Aside0.mk hmm
          clear hme v1 v2 v3 hmm hcells
          gi_wp2
          have hP := HV.out.2.1
          have hrx : RX V ((V.setCell { block := g, off := x.fst } (Value.int IntKind.i64 (x.snd : Int))).setCell { block := b8 + 1, off := 0 } (Value.int IntKind.i64 ((kd : Int) + 1))) := by
            refine ((RX.refl V).set (fun o ho => ?_)).set (fun o ho => ?_)
            · have e := ho.symm.trans HCE.out
              injection e with e
              subst e
              rfl
            · have e := ho.symm.trans hP.b1
              injection e with e
              subst e
              rfl
          refine ⟨hrx, rfl, .mk ⟨?_, ?_⟩⟩
          · unfold mvB
            rw [List.any_eq_true]
            exact ⟨x, HMM.out, by rw [Bool.and_eq_true, decide_eq_true_eq, decide_eq_true_eq]; exact HM.out⟩
          · have hput : putM d m = d.set x.1 (x.2 : Int) := by unfold putM; rw [← HM.out.1, ← HM.out.2, Int.toNat_natCast]
            refine ⟨hlt, by have := hP.kle; omega, by rw [hput, List.length_set]; exact hP.len, ?_, ?_, ?_, ?_, ?_, ?_, hP.marks.rx hrx, by have := hP.size; simpa [World.setCell] using this⟩
            · rw [hput]
              intro j hj
              rw [List.length_set] at hj
              by_cases e : j = x.1
              · subst e
                have : nth (d.set x.1 (x.2 : Int)) x.1 = (x.2 : Int) := by simp [nth, hx1]
                rw [this]; omega
              · have : nth (d.set x.1 (x.2 : Int)) j = nth d j := by simp only [nth]; rw [List.getD_eq_getElem?_getD, List.getElem?_set_ne (fun h => e h.symm), ← List.getD_eq_getElem?_getD]
                rw [this]; exact hP.pos j hj
            · have hcan : mvB d m = true := by
                unfold mvB
                rw [List.any_eq_true]
                exact ⟨x, HMM.out, by rw [Bool.and_eq_true, decide_eq_true_eq, decide_eq_true_eq]; exact HM.out⟩
              rw [hP.out, drop_T52 l1 i hlt, hm, playL, if_pos hcan]
              simp only [Prod.mk.injEq, true_and]
              omega
            · exact (hP.b0.setOther (by simp; omega) _).setOther (by simp) _
            · have e1 : ((kd + 1 : Nat) : Int) = (kd : Int) + 1 := by omega
              rw [e1]
              exact (hP.b1.setOther (by simp; omega) _).set 0 _
            · rw [hput]
              have h1 := Kd.R_putn hP.row (x.1 : Int) (x.2 : Int)
              rw [Int.toNat_natCast] at h1
              exact Kd.R_far h1 (fun j hj => by subst hj; show j ≠ b8 + 1; omega) _
            · exact (hP.below.setCell (by simp; omega) _).setCell (by simp; omega) _
        · have hbb : (m.f0 == (x.1 : Int) && m.f1 == (x.2 : Int)) = false := by
            rw [Bool.and_eq_false_iff, beq_eq_false_iff_ne, beq_eq_false_iff_ne]
            by_cases c : (x.1 : Int) = m.f0
            · exact .inr (fun e => hme ⟨c, e.symm⟩)
            · exact .inl (fun e => c e.symm)
          have HN := Aside0.mk hme
          clear hme v1 v2 v3 hmm
          gi_wp2
          refine ⟨RB.refl _ _ _, .mk ⟨fun y hy => ?_, HV.out.2⟩⟩
          rcases List.mem_append.1 hy with hy | hy
          · exact HV.out.1 y hy
          · obtain rfl := List.mem_singleton.1 hy
            exact HN.out
      case done =>
        rintro D V hD hV hdef
        obtain ⟨v1, v2, v3, v4⟩ := hV.out
        have hno : mvB d m = false := by
          rw [Bool.eq_false_iff]
          intro hc
          unfold mvB at hc
          rw [List.any_eq_true] at hc
          obtain ⟨x, hx, hxm⟩ := hc
          rw [Bool.and_eq_true, decide_eq_true_eq, decide_eq_true_eq] at hxm
          exact v1 x hx hxm
        have hfin : playL l0 l1 = (d, kd) := by rw [v2.out, drop_T52 l1 i hlt, hm, playL, if_neg (by rw [hno]; simp)]; rfl
        have HFI := Aside0.mk hfin
        have HMk := Aside0.mk (v2.marks.cons (fun r hr => by have := HML.out r hr; omega) (by omega) hdef)
        have hcb := v2.b0.cell 0 (v := .slice (some ⟨g, 0, none⟩) l0.length cap) rfl
        have hck := v2.b1.cell 0 (v := .int .i64 (kd : Int)) rfl
        have HV2 := Aside0.mk v2
        clear hV v1 v2 v3 hno hfin hdef
        gi_wp2
        gi_quiet (fail)
        gi_wp2
        rw [Exit.noGoto_ret]
        have hQ := HV2.out
        refine leaves_marks2 w.heap.size (D :: rs) (V.drewN _) ⟨HMk.out.1, fun r hr => HMk.out.2 r hr⟩ (pw_below_drewN hQ.below _).size (fun W' hW' hBk => ?_)
        refine ⟨_, results_tmp3 rfl _ _ _, .slice (some ⟨g, 0, none⟩) l0.length cap, ?_, ?_, (pw_below_drewN hQ.below _).trans hW'⟩
        · rw [HFI.out]; rfl
        · rw [HFI.out]
          exact Kd.R_mono (R_bk (Kd.R_drewN hQ.row _) hBk) (fun _ _ => trivial)
      case stop =>
        intro D c pre x rest V hL hD hs hdef
        obtain ⟨rfl, hs2⟩ := hs
        have hwi : IntKind.i64.wrap ((i : Int) + 1) = ((i + 1 : Nat) : Int) := by rw [i64_w, w64 (by omega) (by have := HL1.out; omega)]; rfl
        have HMk := Aside0.mk (hs2.out.2.marks.cons (fun r hr => by have := HML.out r hr; omega) (by omega) hdef)
        clear hdef hL
        gi_wp2
        refine ⟨⟨i + 1, kd + 1, putM d m, D :: rs, _, _, _, _, _, _, _, _, _, _, _, _, _, _, _, _, _, _, _, _, _, _, _, _, _, rfl, .mk { hs2.out.2 with marks := HMk.out }⟩, ?_⟩
        simp [intOf]
        omega
    · have hi1 : ¬ (i : Int) < (l1.length : Int) := by omega
      have hfin : playL l0 l1 = (d, kd) := by rw [HI.out.out, List.drop_eq_nil_of_le (by omega)]; rfl
      have HFI := Aside0.mk hfin
      have hcb := HI.out.b0.cell 0 (v := .slice (some ⟨g, 0, none⟩) l0.length cap) rfl
      have hck := HI.out.b1.cell 0 (v := .int .i64 (kd : Int)) rfl
      clear hfin
      gi_wp2
      gi_quiet (fail)
      gi_wp2
      rw [Exit.noGoto_ret]
      have hQ := HI.out
      refine leaves_marks2 w.heap.size _ _ ⟨HI.out.marks.1, fun r hr => HI.out.marks.2 r hr⟩ (pw_below_drewN hQ.below _).size (fun W' hW' hBk => ?_)
      refine ⟨_, results_tmp3 rfl _ _ _, .slice (some ⟨g, 0, none⟩) l0.length cap, ?_, ?_, (pw_below_drewN hQ.below _).trans hW'⟩
      · rw [HFI.out]; rfl
      · rw [HFI.out]
        exact Kd.R_mono (R_bk (Kd.R_drewN hQ.row _) hBk) (fun _ _ => trivial)
  · rw [if_neg hok] at h
    cases h
    rw [show checkD l0 = 30 by simp [checkD, hok]] at hchk
    have HC := Aside0.mk hchk
    clear hchk hok
    refine (callsIn_wide (n := 8)).1 ?_
    refine callsIn_of_wp Tryd.func56 rfl trivial ?_ rfl
    simp only [Tryd.ntmps56, List.size_toArray, List.length_cons, List.length_nil, Nat.reduceAdd, Nat.reduceSub, Array.replicate_succ, Array.replicate_zero, List.push_toArray, List.append_toArray, List.nil_append, List.cons_append]
    gi_wp2
    refine wpIn_scope ?_
    gi_wp2_with (refine ⟨trivial, ?_⟩; gi_at_call 62; refine CallsIn.mono (callsIn_wide.2 (hanoi_Check.calls _ _ _ _ _ _ HR.out HC0.out HC.out)) ?_; rintro e w1 ⟨rfl, hb⟩; have HB := Aside0.mk hb; clear hb)
    rw [Exit.noGoto_ret]
    exact bodyPost_ret (results_tmp3 rfl _ _ _) rfl ⟨_, rfl, Kd.R_nil _ _ _ _ _, HB.out⟩
end Go.Proofs.YtnaaomhmoamfpaaDoor.G
namespace Go.Proofs.YtnaaomhmoamfpaaDoor.G
end Go.Proofs.YtnaaomhmoamfpaaDoor.G
namespace Go.Proofs.YtnaaomhmoamfpaaDoor.Q
set_option linter.unusedVariables false
set_option linter.unusedSimpArgs false
set_option linter.unusedSectionVars false
open Go.Proofs.YtnaaomhmoamfpaaDoor.G
open Go.RowKit Go.Proofs.YtnaaomhmoamfpaaDoorW.PrintWords Go.Proofs.YtnaaomhmoamfpaaDoorW.PrintLast Go.Proofs.YtnaaomhmoamfpaaDoorW.PrintMore
attribute [local go_sem] max2_int min2_int max_two min_two max_three min_three max_four min_four   -- for this text's walks alone

/-! ### bibelotlaw03_HanoiChecks: function 22 -/
mutual
def bibelotlaw03_HanoiChecks.j0 : Nat → List Int → List Int → Bool → Bool → Bool → Option (Bool)
  | 0, _, _, _, _, _ => none
  | k + 1, x5, x6, x7, x8, x44 => if x44 = true then (some false) else (if x7 = true then (bibelotlaw03_HanoiChecks.j1 k x5 x6 x7 x8) else ((hanoi_Moves.f x5).bind fun bt570 => ((hanoi_Play.f x5 ([] : List (S52))).bind fun bt574 => ((hanoi_Farthest.f k x5).bind fun bt579 => (if bt570.2 = 30 then (if bt574.2.2 = 30 then (if bt579.2 = 30 then (if (wrap64 ((wrap64 ((bt570.1.length : Int) + (bt574.1.length : Int))) + bt574.2.1)) = 0 then (if bt579.1 = 0 then (bibelotlaw03_HanoiChecks.j1 k x5 x6 x7 x8) else (some false)) else (some false)) else (some false)) else (some false)) else (some false))))))
def bibelotlaw03_HanoiChecks.j1 : Nat → List Int → List Int → Bool → Bool → Option (Bool)
  | 0, _, _, _, _ => none
  | k + 1, x5, x6, x7, x8 => if x7 = true then (bibelotlaw03_HanoiChecks.j2 k x5 x6 0 (!x8)) else (bibelotlaw03_HanoiChecks.j2 k x5 x6 0 true)
def bibelotlaw03_HanoiChecks.j2 : Nat → List Int → List Int → Int → Bool → Option (Bool)
  | 0, _, _, _, _ => none
  | k + 1, x5, x6, x16, x92 => if x92 = true then (bibelotlaw03_HanoiChecks.j3 k x5 x6 30) else (if (x5.length : Int) = (x6.length : Int) then (bibelotlaw03_HanoiChecks.j3 k x5 x6 x16) else (bibelotlaw03_HanoiChecks.j3 k x5 x6 6))
def bibelotlaw03_HanoiChecks.j3 : Nat → List Int → List Int → Int → Option (Bool)
  | 0, _, _, _ => none
  | k + 1, x5, x6, x16 => if x16 = 0 then ((bibelotlaw03_awake.f k).bind fun t581 => (some t581)) else ((hanoi_Distance.f k x5 x6).bind fun bt582 => ((hanoi_Kind.f k x5 x6).bind fun bt584 => ((hanoi_Way.f x5 x6).bind fun bt586 => (if bt582.2 = x16 then (if bt584.2 = x16 then (if bt586.2 = x16 then (if bt582.1 = 0 then (if (wrap64 (bt584.1 + (bt586.1.length : Int))) = 0 then ((bibelotlaw03_awake.f k).bind fun t590 => (some t590)) else (some false)) else (some false)) else (some false)) else (some false)) else (some false)))))
end
def bibelotlaw03_HanoiChecks.f (k : Nat) (l0 : List Int) (l1 : List Int) : Option (Bool) := (bibelotlaw03_own.f l0).bind fun t560 => ((bibelotlaw03_own.f l1).bind fun t563 => ((bibelotref03_Discs.f k t560 3).bind fun t566 => ((bibelotref03_Discs.f k t563 3).bind fun t567 => ((hanoi_Check.f k t560).bind fun t568 => (if ((t568 == 0) != t566) = true then (bibelotlaw03_HanoiChecks.j0 k t560 t563 t566 t567 true) else (if t566 = true then (bibelotlaw03_HanoiChecks.j0 k t560 t563 t566 t567 false) else ((hanoi_Check.f k t560).bind fun t569 => (bibelotlaw03_HanoiChecks.j0 k t560 t563 t566 t567 (t569 != 30)))))))))
theorem bibelotlaw03_HanoiChecks.mono_l : ∀ k, (∀ y0 y1 y2 y3 y4, LeO (bibelotlaw03_HanoiChecks.j0 k y0 y1 y2 y3 y4) (bibelotlaw03_HanoiChecks.j0 (k + 1) y0 y1 y2 y3 y4)) ∧ (∀ y0 y1 y2 y3, LeO (bibelotlaw03_HanoiChecks.j1 k y0 y1 y2 y3) (bibelotlaw03_HanoiChecks.j1 (k + 1) y0 y1 y2 y3)) ∧ (∀ y0 y1 y2 y3, LeO (bibelotlaw03_HanoiChecks.j2 k y0 y1 y2 y3) (bibelotlaw03_HanoiChecks.j2 (k + 1) y0 y1 y2 y3)) ∧ (∀ y0 y1 y2, LeO (bibelotlaw03_HanoiChecks.j3 k y0 y1 y2) (bibelotlaw03_HanoiChecks.j3 (k + 1) y0 y1 y2))
  | 0 => ⟨fun _ _ _ _ _ r h => by simp [bibelotlaw03_HanoiChecks.j0] at h, fun _ _ _ _ r h => by simp [bibelotlaw03_HanoiChecks.j1] at h, fun _ _ _ _ r h => by simp [bibelotlaw03_HanoiChecks.j2] at h, fun _ _ _ r h => by simp [bibelotlaw03_HanoiChecks.j3] at h⟩
  | k + 1 => by
    obtain ⟨ih0, ih1, ih2, ih3⟩ := bibelotlaw03_HanoiChecks.mono_l k
    refine ⟨?_, ?_, ?_, ?_⟩
    · intro y0 y1 y2 y3 y4
      unfold bibelotlaw03_HanoiChecks.j0
      repeat' first
      | (with_reducible exact ih0 _ _ _ _ _)
      | (with_reducible exact ih1 _ _ _ _)
      | (with_reducible exact ih2 _ _ _ _)
      | (with_reducible exact ih3 _ _ _)
      | (with_reducible exact bibelotlaw03_awake.mono _)
      | (with_reducible exact bibelotref03_Discs.mono _ _ _)
      | (with_reducible exact hanoi_Check.mono _ _)
      | (with_reducible exact hanoi_Distance.mono _ _ _)
      | (with_reducible exact hanoi_Farthest.mono _ _)
      | (with_reducible exact hanoi_Kind.mono _ _ _)
      | (with_reducible exact LeO.refl _)
      | (with_reducible exact LeO.none _)
      | (with_reducible refine LeO.ite ?_ ?_)
      | (with_reducible refine LeO.bind ?_ (fun _ => ?_))
      | exact ih0 _ _ _ _ _
      | exact ih1 _ _ _ _
      | exact ih2 _ _ _ _
      | exact ih3 _ _ _
      | exact bibelotlaw03_awake.mono _
      | exact bibelotref03_Discs.mono _ _ _
      | exact hanoi_Check.mono _ _
      | exact hanoi_Distance.mono _ _ _
      | exact hanoi_Farthest.mono _ _
      | exact hanoi_Kind.mono _ _ _
      | exact LeO.none _
      | refine LeO.ite ?_ ?_
      | refine LeO.bind ?_ (fun _ => ?_)
    · intro y0 y1 y2 y3
      unfold bibelotlaw03_HanoiChecks.j1
      repeat' first
      | (with_reducible exact ih0 _ _ _ _ _)
      | (with_reducible exact ih1 _ _ _ _)
      | (with_reducible exact ih2 _ _ _ _)
      | (with_reducible exact ih3 _ _ _)
      | (with_reducible exact bibelotlaw03_awake.mono _)
      | (with_reducible exact bibelotref03_Discs.mono _ _ _)
      | (with_reducible exact hanoi_Check.mono _ _)
      | (with_reducible exact hanoi_Distance.mono _ _ _)
      | (with_reducible exact hanoi_Farthest.mono _ _)
      | (with_reducible exact hanoi_Kind.mono _ _ _)
      | (with_reducible exact LeO.refl _)
      | (with_reducible exact LeO.none _)
      | (with_reducible refine LeO.ite ?_ ?_)
      | (with_reducible refine LeO.bind ?_ (fun _ => ?_))
      | exact ih0 _ _ _ _ _
      | exact ih1 _ _ _ _
      | exact ih2 _ _ _ _
      | exact ih3 _ _ _
      | exact bibelotlaw03_awake.mono _
      | exact bibelotref03_Discs.mono _ _ _
      | exact hanoi_Check.mono _ _
      | exact hanoi_Distance.mono _ _ _
      | exact hanoi_Farthest.mono _ _
      | exact hanoi_Kind.mono _ _ _
      | exact LeO.none _
      | refine LeO.ite ?_ ?_
      | refine LeO.bind ?_ (fun _ => ?_)
    · intro y0 y1 y2 y3
      unfold bibelotlaw03_HanoiChecks.j2
      repeat' first
      | (with_reducible exact ih0 _ _ _ _ _)
      | (with_reducible exact ih1 _ _ _ _)
      | (with_reducible exact ih2 _ _ _ _)
      | (with_reducible exact ih3 _ _ _)
      | (with_reducible exact bibelotlaw03_awake.mono _)
      | (with_reducible exact bibelotref03_Discs.mono _ _ _)
      | (with_reducible exact hanoi_Check.mono _ _)
      | (with_reducible exact hanoi_Distance.mono _ _ _)
      | (with_reducible exact hanoi_Farthest.mono _ _)
      | (with_reducible exact hanoi_Kind.mono _ _ _)
      | (with_reducible exact LeO.refl _)
      | (with_reducible exact LeO.none _)
      | (with_reducible refine LeO.ite ?_ ?_)
      | (with_reducible refine LeO.bind ?_ (fun _ => ?_))
      | exact ih0 _ _ _ _ _
      | exact ih1 _ _ _ _
      | exact ih2 _ _ _ _
      | exact ih3 _ _ _
      | exact bibelotlaw03_awake.mono _
      | exact bibelotref03_Discs.mono _ _ _
      | exact hanoi_Check.mono _ _
      | exact hanoi_Distance.mono _ _ _
      | exact hanoi_Farthest.mono _ _
      | exact hanoi_Kind.mono _ _ _
      | exact LeO.none _
      | refine LeO.ite ?_ ?_
      | refine LeO.bind ?_ (fun _ => ?_)
    · intro y0 y1 y2
      unfold bibelotlaw03_HanoiChecks.j3
      repeat' first
      | (with_reducible exact ih0 _ _ _ _ _)
      | (with_reducible exact ih1 _ _ _ _)
      | (with_reducible exact ih2 _ _ _ _)
      | (with_reducible exact ih3 _ _ _)
      | (with_reducible exact bibelotlaw03_awake.mono _)
      | (with_reducible exact bibelotref03_Discs.mono _ _ _)
      | (with_reducible exact hanoi_Check.mono _ _)
      | (with_reducible exact hanoi_Distance.mono _ _ _)
      | (with_reducible exact hanoi_Farthest.mono _ _)
      | (with_reducible exact hanoi_Kind.mono _ _ _)
      | (with_reducible exact LeO.refl _)
      | (with_reducible exact LeO.none _)
      | (with_reducible refine LeO.ite ?_ ?_)
      | (with_reducible refine LeO.bind ?_ (fun _ => ?_))
      | exact ih0 _ _ _ _ _
      | exact ih1 _ _ _ _
      | exact ih2 _ _ _ _
      | exact ih3 _ _ _
      | exact bibelotlaw03_awake.mono _
      | exact bibelotref03_Discs.mono _ _ _
      | exact hanoi_Check.mono _ _
      | exact hanoi_Distance.mono _ _ _
      | exact hanoi_Farthest.mono _ _
      | exact hanoi_Kind.mono _ _ _
      | exact LeO.none _
      | refine LeO.ite ?_ ?_
      | refine LeO.bind ?_ (fun _ => ?_)
theorem bibelotlaw03_HanoiChecks.mono : ∀ a0 a1 k, LeO (bibelotlaw03_HanoiChecks.f k a0 a1) (bibelotlaw03_HanoiChecks.f (k + 1) a0 a1) := by
  intro a0 a1 k
  obtain ⟨ih0, ih1, ih2, ih3⟩ := bibelotlaw03_HanoiChecks.mono_l k
  unfold bibelotlaw03_HanoiChecks.f
  repeat' first
      | (with_reducible exact ih0 _ _ _ _ _)
      | (with_reducible exact ih1 _ _ _ _)
      | (with_reducible exact ih2 _ _ _ _)
      | (with_reducible exact ih3 _ _ _)
      | (with_reducible exact bibelotlaw03_awake.mono _)
      | (with_reducible exact bibelotref03_Discs.mono _ _ _)
      | (with_reducible exact hanoi_Check.mono _ _)
      | (with_reducible exact hanoi_Distance.mono _ _ _)
      | (with_reducible exact hanoi_Farthest.mono _ _)
      | (with_reducible exact hanoi_Kind.mono _ _ _)
      | (with_reducible exact LeO.refl _)
      | (with_reducible exact LeO.none _)
      | (with_reducible refine LeO.ite ?_ ?_)
      | (with_reducible refine LeO.bind ?_ (fun _ => ?_))
      | exact ih0 _ _ _ _ _
      | exact ih1 _ _ _ _
      | exact ih2 _ _ _ _
      | exact ih3 _ _ _
      | exact bibelotlaw03_awake.mono _
      | exact bibelotref03_Discs.mono _ _ _
      | exact hanoi_Check.mono _ _
      | exact hanoi_Distance.mono _ _ _
      | exact hanoi_Farthest.mono _ _
      | exact hanoi_Kind.mono _ _ _
      | exact LeO.none _
      | refine LeO.ite ?_ ?_
      | refine LeO.bind ?_ (fun _ => ?_)
set_option maxHeartbeats 8000000 in
set_option maxRecDepth 100000 in
theorem bibelotlaw03_HanoiChecks.calls (k : Nat) (A0 : Option Addr) (c0 : Nat) (l0 : List Int) (A1 : Option Addr) (c1 : Nat) (l1 : List Int) (r : Bool) (w : World) (hr0 : Kd.C (Kd.int .i64) w A0 l0.length l0) (hc0 : l0.length ≤ c0) (hr1 : Kd.C (Kd.int .i64) w A1 l1.length l1) (hc1 : l1.length ≤ c1) (h : bibelotlaw03_HanoiChecks.f k l0 l1 = some r) :
    Calls Tryd.prog 22 #[.slice A0 l0.length c0, .slice A1 l1.length c1] w fun e w' => e = .returned (.bool r) ∧ Below w.heap.size w w' := by
  have HR0 := Aside0.mk hr0
  have HC0 := Aside0.mk hc0
  clear hr0 hc0
  have HR1 := Aside0.mk hr1
  have HC1 := Aside0.mk hc1
  clear hr1 hc1
  have HB := Aside0.mk (Below.refl w.heap.size w)
  have H : ((bibelotlaw03_own.f l0).bind fun t560 => ((bibelotlaw03_own.f l1).bind fun t563 => ((bibelotref03_Discs.f k t560 3).bind fun t566 => ((bibelotref03_Discs.f k t563 3).bind fun t567 => ((hanoi_Check.f k t560).bind fun t568 => (if ((t568 == 0) != t566) = true then (bibelotlaw03_HanoiChecks.j0 k t560 t563 t566 t567 true) else (if t566 = true then (bibelotlaw03_HanoiChecks.j0 k t560 t563 t566 t567 false) else ((hanoi_Check.f k t560).bind fun t569 => (bibelotlaw03_HanoiChecks.j0 k t560 t563 t566 t567 (t569 != 30)))))))))) = some r := h
  clear h
  replace H := Option.bind_eq_some_iff.mp H
  obtain ⟨t560, A30, H⟩ := H
  replace H : ((bibelotlaw03_own.f l1).bind fun t563 => ((bibelotref03_Discs.f k t560 3).bind fun t566 => ((bibelotref03_Discs.f k t563 3).bind fun t567 => ((hanoi_Check.f k t560).bind fun t568 => (if ((t568 == 0) != t566) = true then (bibelotlaw03_HanoiChecks.j0 k t560 t563 t566 t567 true) else (if t566 = true then (bibelotlaw03_HanoiChecks.j0 k t560 t563 t566 t567 false) else ((hanoi_Check.f k t560).bind fun t569 => (bibelotlaw03_HanoiChecks.j0 k t560 t563 t566 t567 (t569 != 30))))))))) = some r := H
  have A3 := Aside0.mk A30
  clear A30
  replace H := Option.bind_eq_some_iff.mp H
  obtain ⟨t563, A40, H⟩ := H
  replace H : ((bibelotref03_Discs.f k t560 3).bind fun t566 => ((bibelotref03_Discs.f k t563 3).bind fun t567 => ((hanoi_Check.f k t560).bind fun t568 => (if ((t568 == 0) != t566) = true then (bibelotlaw03_HanoiChecks.j0 k t560 t563 t566 t567 true) else (if t566 = true then (bibelotlaw03_HanoiChecks.j0 k t560 t563 t566 t567 false) else ((hanoi_Check.f k t560).bind fun t569 => (bibelotlaw03_HanoiChecks.j0 k t560 t563 t566 t567 (t569 != 30)))))))) = some r := H
  have A4 := Aside0.mk A40
  clear A40
  replace H := Option.bind_eq_some_iff.mp H
  obtain ⟨t566, A50, H⟩ := H
  replace H : ((bibelotref03_Discs.f k t563 3).bind fun t567 => ((hanoi_Check.f k t560).bind fun t568 => (if ((t568 == 0) != t566) = true then (bibelotlaw03_HanoiChecks.j0 k t560 t563 t566 t567 true) else (if t566 = true then (bibelotlaw03_HanoiChecks.j0 k t560 t563 t566 t567 false) else ((hanoi_Check.f k t560).bind fun t569 => (bibelotlaw03_HanoiChecks.j0 k t560 t563 t566 t567 (t569 != 30))))))) = some r := H
  have A5 := Aside0.mk A50
  clear A50
  replace H := Option.bind_eq_some_iff.mp H
  obtain ⟨t567, A60, H⟩ := H
  replace H : ((hanoi_Check.f k t560).bind fun t568 => (if ((t568 == 0) != t566) = true then (bibelotlaw03_HanoiChecks.j0 k t560 t563 t566 t567 true) else (if t566 = true then (bibelotlaw03_HanoiChecks.j0 k t560 t563 t566 t567 false) else ((hanoi_Check.f k t560).bind fun t569 => (bibelotlaw03_HanoiChecks.j0 k t560 t563 t566 t567 (t569 != 30)))))) = some r := H
  have A6 := Aside0.mk A60
  clear A60
  have HC7 := Aside0.mk H
  clear H
  go_enter Tryd.func22, Tryd.ntmps22
  go_upto_region 3 with (first | ((with_reducible refine gate_callee (f := 60) rfl ?_); refine goesL_ (some 24) rfl rfl Tryd.func60 (by kernel_rfl) rfl #[.slice A0 l0.length c0] rfl (by (try simp only [List.map_toArray, List.map_cons, List.map_nil]); first | done | rfl | (simp only [List.length_drop, List.length_take]; rfl)) ?_; (with_reducible refine (bibelotlaw03_own.calls _ _ l0 t560 _ ?side1 ?side2 A3.out).mono ?_); (case side1 => repeat (first | exact HR0.out | (with_reducible refine Kd.C_alloc ?_ _) | (with_reducible refine Kd.C_drewN ?_ _) | (with_reducible refine Kd.C_drew ?_))); (case side2 => exact HC0.out); rintro e w8 ⟨v561, rfl, ho0, hb⟩; refine ⟨_, rfl, ?_⟩; have n0_ := Aside0.mk (Kd.R_lower ho0 (below_size (by repeat (first | (with_reducible first | exact HB.out | apply below_alloc | apply pw_below_drewN | apply below_drew1) | exact HB.out)))); have n1_ := Aside0.mk (below_step (by repeat (first | (with_reducible first | exact HB.out | apply below_alloc | apply pw_below_drewN | apply below_drew1) | exact HB.out)) hb); clear HB; have HO562 := n0_; have HB := n1_; clear n0_ n1_; (try clear hb); (try clear hb2); (try clear hk); (try clear hi); (try clear ho0)) | ((with_reducible refine gate_callee (f := 60) rfl ?_); refine goesL_ (some 26) rfl rfl Tryd.func60 (by kernel_rfl) rfl #[.slice A1 l1.length c1] rfl (by (try simp only [List.map_toArray, List.map_cons, List.map_nil]); first | done | rfl | (simp only [List.length_drop, List.length_take]; rfl)) ?_; (with_reducible refine (bibelotlaw03_own.calls _ _ l1 t563 _ ?side1 ?side2 A4.out).mono ?_); (case side1 => repeat (first | exact (Kd.C_below HR1.out HB.out) | (with_reducible refine Kd.C_alloc ?_ _) | (with_reducible refine Kd.C_drewN ?_ _) | (with_reducible refine Kd.C_drew ?_))); (case side2 => exact HC1.out); rintro e w9 ⟨v564, rfl, ho0, hb⟩; refine ⟨_, rfl, ?_⟩; have n0_ := Aside0.mk (Kd.R_elder' (by (with_reducible repeat (first | apply Kd.R_alloc | apply Kd.R_drewN | apply Kd.R_drew)); exact HO562.out) (Kd.R_base ho0) hb); have n1_ := Aside0.mk (Kd.R_lower (Kd.R_new' ho0 (Kd.R_lt (by (with_reducible repeat (first | apply Kd.R_alloc | apply Kd.R_drewN | apply Kd.R_drew)); exact HO562.out))) (below_size (by repeat (first | (with_reducible first | exact HB.out | apply below_alloc | apply pw_below_drewN | apply below_drew1) | exact HB.out)))); have n2_ := Aside0.mk (below_step (by repeat (first | (with_reducible first | exact HB.out | apply below_alloc | apply pw_below_drewN | apply below_drew1) | exact HB.out)) hb); clear HO562; clear HB; have HO562 := n0_; have HO565 := n1_; have HB := n2_; clear n0_ n1_ n2_; (try clear hb); (try clear hb2); (try clear hk); (try clear hi); (try clear ho0); obtain ⟨Ao10, co10, eo10⟩ := Kd.R_slice HO562.out; subst eo10) | ((with_reducible refine gate_callee (f := 61) rfl ?_); refine goesL_ (some 28) rfl rfl Tryd.func61 (by kernel_rfl) rfl #[.slice Ao10 t560.length co10, .int .i64 3] rfl (by (try simp only [List.map_toArray, List.map_cons, List.map_nil]); first | done | rfl | (simp only [List.length_drop, List.length_take]; rfl)) ?_; (with_reducible refine (bibelotref03_Discs.calls k _ _ t560 3 t566 _ ?side1 ?side2 A5.out).mono ?_); (case side1 => repeat (first | exact (Kd.R_reads' HO562.out).2.2 | (with_reducible refine Kd.C_alloc ?_ _) | (with_reducible refine Kd.C_drewN ?_ _) | (with_reducible refine Kd.C_drew ?_))); (case side2 => exact (Kd.R_reads' HO562.out).2.1); rintro e w' ⟨rfl, ⟨nd, rfl⟩⟩; refine ⟨_, rfl, ?_⟩; obtain ⟨Ao11, co11, eo11⟩ := Kd.R_slice HO565.out; subst eo11) | ((with_reducible refine gate_callee (f := 61) rfl ?_); refine goesL_ (some 30) rfl rfl Tryd.func61 (by kernel_rfl) rfl #[.slice Ao11 t563.length co11, .int .i64 3] rfl (by (try simp only [List.map_toArray, List.map_cons, List.map_nil]); first | done | rfl | (simp only [List.length_drop, List.length_take]; rfl)) ?_; (with_reducible refine (bibelotref03_Discs.calls k _ _ t563 3 t567 _ ?side1 ?side2 A6.out).mono ?_); (case side1 => repeat (first | exact (Kd.R_reads' HO565.out).2.2 | (with_reducible refine Kd.C_alloc ?_ _) | (with_reducible refine Kd.C_drewN ?_ _) | (with_reducible refine Kd.C_drew ?_))); (case side2 => exact (Kd.R_reads' HO565.out).2.1); rintro e w' ⟨rfl, ⟨nd, rfl⟩⟩; refine ⟨_, rfl, ?_⟩))
  (try simp only [Act.put, List.setIfInBounds_toArray, List.set_cons_zero, List.set_cons_succ])
  go_cut [44] (fun v44 wc => ∃ (kq : Nat) (x44_6 : Bool), v44 = .bool x44_6 ∧ Aside0 (bibelotlaw03_HanoiChecks.j0 kq t560 t563 t566 t567 x44_6 = some r) ∧ Aside0 (kq ≤ k) ∧ Aside0 (Kd.R (Kd.int .i64) 3 wc w.heap.size (fun k_ => some k_ ≠ ((.slice Ao11 t563.length co11) : Value).ownBlock) (.slice Ao10 t560.length co10) t560) ∧ Aside0 (Kd.R (Kd.int .i64) 3 wc w.heap.size (fun k_ => some k_ ≠ ((.slice Ao10 t560.length co10) : Value).ownBlock) (.slice Ao11 t563.length co11) t563) ∧ Aside0 (Below w.heap.size w wc))
  case first =>
    have H := HC7.out
    clear HC7
    replace H := Option.bind_eq_some_iff.mp H
    obtain ⟨t568, A120, H⟩ := H
    replace H : (if ((t568 == 0) != t566) = true then (bibelotlaw03_HanoiChecks.j0 k t560 t563 t566 t567 true) else (if t566 = true then (bibelotlaw03_HanoiChecks.j0 k t560 t563 t566 t567 false) else ((hanoi_Check.f k t560).bind fun t569 => (bibelotlaw03_HanoiChecks.j0 k t560 t563 t566 t567 (t569 != 30))))) = some r := H
    have A12 := Aside0.mk A120
    clear A120
    by_cases c13 : ((t568 == 0) != t566) = true
    · rw [if_pos c13] at H
      have c13b0 : ((t568 == 0) != t566) = true := c13
      (try (have c13b1 : decide ((t568 == 0) = t566) = false := by simpa using c13))
      (try (have c13b2 : ((t568 == 0) == t566) = false := by simpa using c13))
      (try (have c13b3 : ¬ ((t568 == 0) = t566) := by simpa using c13))
      clear c13
      (first | rw [c13b0] | (simp only [i64_w, i32_w]; rw [c13b0]) | skip)
      have H' := Aside0.mk H
      clear H
      go_wp2_with (first | ((with_reducible refine gate_callee (f := 62) rfl ?_); refine goesL_ (some 32) rfl rfl Tryd.func62 (by kernel_rfl) rfl #[.slice Ao10 t560.length co10] rfl (by (try simp only [List.map_toArray, List.map_cons, List.map_nil]); first | done | rfl | (simp only [List.length_drop, List.length_take]; rfl)) ?_; (with_reducible refine (hanoi_Check.calls k _ _ t560 t568 _ ?side1 ?side2 A12.out).mono ?_); (case side1 => repeat (first | exact (Kd.R_reads' HO562.out).2.2 | (with_reducible refine Kd.C_alloc ?_ _) | (with_reducible refine Kd.C_drewN ?_ _) | (with_reducible refine Kd.C_drew ?_))); (case side2 => exact (Kd.R_reads' HO562.out).2.1); rintro e w14 ⟨rfl, hb⟩; refine ⟨_, rfl, ?_⟩; have n0_ := Aside0.mk (Kd.R_below (by (with_reducible repeat (first | apply Kd.R_alloc | apply Kd.R_drewN | apply Kd.R_drew)); exact HO562.out) hb); have n1_ := Aside0.mk (Kd.R_below (by (with_reducible repeat (first | apply Kd.R_alloc | apply Kd.R_drewN | apply Kd.R_drew)); exact HO565.out) hb); have n2_ := Aside0.mk (below_step (by repeat (first | (with_reducible first | exact HB.out | apply below_alloc | apply pw_below_drewN | apply below_drew1) | exact HB.out)) hb); clear HO562; clear HO565; clear HB; have HO562 := n0_; have HO565 := n1_; have HB := n2_; clear n0_ n1_ n2_; (try clear hb); (try clear hb2); (try clear hk); (try clear hi)))
      go_meet
      case rel => exact ⟨_, (true), (by first | rfl | (simp; done) | (simp [*]; done)), H', ⟨by first | omega | exact Nat.le_refl _⟩, ⟨by (with_reducible repeat (first | apply Kd.R_alloc | apply Kd.R_drewN | apply Kd.R_drew)); exact Kd.R_mono HO562.out (fun _ hk => hk.2)⟩, ⟨by (with_reducible repeat (first | apply Kd.R_alloc | apply Kd.R_drewN | apply Kd.R_drew)); exact Kd.R_mono HO565.out (fun _ hk => hk.2)⟩, ⟨by repeat (first | (with_reducible first | exact HB.out | apply below_alloc | apply pw_below_drewN | apply below_drew1) | exact HB.out)⟩⟩
    · rw [if_neg c13] at H
      have c13b0 : ((t568 == 0) != t566) = false := by simpa using c13
      (try (have c13b1 : decide ((t568 == 0) = t566) = true := by simpa using c13))
      (try (have c13b2 : ((t568 == 0) == t566) = true := by simpa using c13))
      clear c13
      (first | rw [c13b0] | (simp only [i64_w, i32_w]; rw [c13b0]) | skip)
      by_cases c15 : t566 = true
      · subst c15
        have H1 : (bibelotlaw03_HanoiChecks.j0 k t560 t563 true t567 false) = some r := by rw [if_pos rfl] at H; exact H
        clear H
        have H := H1
        clear H1
        have H' := Aside0.mk H
        clear H
        go_wp2_with (first | ((with_reducible refine gate_callee (f := 62) rfl ?_); refine goesL_ (some 32) rfl rfl Tryd.func62 (by kernel_rfl) rfl #[.slice Ao10 t560.length co10] rfl (by (try simp only [List.map_toArray, List.map_cons, List.map_nil]); first | done | rfl | (simp only [List.length_drop, List.length_take]; rfl)) ?_; (with_reducible refine (hanoi_Check.calls k _ _ t560 t568 _ ?side1 ?side2 A12.out).mono ?_); (case side1 => repeat (first | exact (Kd.R_reads' HO562.out).2.2 | (with_reducible refine Kd.C_alloc ?_ _) | (with_reducible refine Kd.C_drewN ?_ _) | (with_reducible refine Kd.C_drew ?_))); (case side2 => exact (Kd.R_reads' HO562.out).2.1); rintro e w16 ⟨rfl, hb⟩; refine ⟨_, rfl, ?_⟩; have n0_ := Aside0.mk (Kd.R_below (by (with_reducible repeat (first | apply Kd.R_alloc | apply Kd.R_drewN | apply Kd.R_drew)); exact HO562.out) hb); have n1_ := Aside0.mk (Kd.R_below (by (with_reducible repeat (first | apply Kd.R_alloc | apply Kd.R_drewN | apply Kd.R_drew)); exact HO565.out) hb); have n2_ := Aside0.mk (below_step (by repeat (first | (with_reducible first | exact HB.out | apply below_alloc | apply pw_below_drewN | apply below_drew1) | exact HB.out)) hb); clear HO562; clear HO565; clear HB; have HO562 := n0_; have HO565 := n1_; have HB := n2_; clear n0_ n1_ n2_; (try clear hb); (try clear hb2); (try clear hk); (try clear hi)))
        go_meet
        case rel => exact ⟨_, (false), (by first | rfl | (simp; done) | (simp [*]; done)), H', ⟨by first | omega | exact Nat.le_refl _⟩, ⟨by (with_reducible repeat (first | apply Kd.R_alloc | apply Kd.R_drewN | apply Kd.R_drew)); exact Kd.R_mono HO562.out (fun _ hk => hk.2)⟩, ⟨by (with_reducible repeat (first | apply Kd.R_alloc | apply Kd.R_drewN | apply Kd.R_drew)); exact Kd.R_mono HO565.out (fun _ hk => hk.2)⟩, ⟨by repeat (first | (with_reducible first | exact HB.out | apply below_alloc | apply pw_below_drewN | apply below_drew1) | exact HB.out)⟩⟩
      · replace c15 := Bool.eq_false_iff.mpr c15
        subst c15
        have H1 : ((hanoi_Check.f k t560).bind fun t569 => (bibelotlaw03_HanoiChecks.j0 k t560 t563 false t567 (t569 != 30))) = some r := by rw [if_neg (show ¬ (false = true) by decide)] at H; exact H
        clear H
        have H := H1
        clear H1
        replace H := Option.bind_eq_some_iff.mp H
        obtain ⟨t569, A170, H⟩ := H
        replace H : (bibelotlaw03_HanoiChecks.j0 k t560 t563 false t567 (t569 != 30)) = some r := H
        have A17 := Aside0.mk A170
        clear A170
        have H' := Aside0.mk H
        clear H
        go_wp2_with (first | ((with_reducible refine gate_callee (f := 62) rfl ?_); refine goesL_ (some 32) rfl rfl Tryd.func62 (by kernel_rfl) rfl #[.slice Ao10 t560.length co10] rfl (by (try simp only [List.map_toArray, List.map_cons, List.map_nil]); first | done | rfl | (simp only [List.length_drop, List.length_take]; rfl)) ?_; (with_reducible refine (hanoi_Check.calls k _ _ t560 t568 _ ?side1 ?side2 A12.out).mono ?_); (case side1 => repeat (first | exact (Kd.R_reads' HO562.out).2.2 | (with_reducible refine Kd.C_alloc ?_ _) | (with_reducible refine Kd.C_drewN ?_ _) | (with_reducible refine Kd.C_drew ?_))); (case side2 => exact (Kd.R_reads' HO562.out).2.1); rintro e w18 ⟨rfl, hb⟩; refine ⟨_, rfl, ?_⟩; have n0_ := Aside0.mk (Kd.R_below (by (with_reducible repeat (first | apply Kd.R_alloc | apply Kd.R_drewN | apply Kd.R_drew)); exact HO562.out) hb); have n1_ := Aside0.mk (Kd.R_below (by (with_reducible repeat (first | apply Kd.R_alloc | apply Kd.R_drewN | apply Kd.R_drew)); exact HO565.out) hb); have n2_ := Aside0.mk (below_step (by repeat (first | (with_reducible first | exact HB.out | apply below_alloc | apply pw_below_drewN | apply below_drew1) | exact HB.out)) hb); clear HO562; clear HO565; clear HB; have HO562 := n0_; have HO565 := n1_; have HB := n2_; clear n0_ n1_ n2_; (try clear hb); (try clear hb2); (try clear hk); (try clear hi)) | (go_at_call 62; (with_reducible refine (hanoi_Check.calls k _ _ t560 t569 _ ?side1 ?side2 A17.out).mono ?_); (case side1 => repeat (first | exact (Kd.R_reads' HO562.out).2.2 | (with_reducible refine Kd.C_alloc ?_ _) | (with_reducible refine Kd.C_drewN ?_ _) | (with_reducible refine Kd.C_drew ?_))); (case side2 => exact (Kd.R_reads' HO562.out).2.1); rintro e w19 ⟨rfl, hb⟩; have n0_ := Aside0.mk (Kd.R_below (by (with_reducible repeat (first | apply Kd.R_alloc | apply Kd.R_drewN | apply Kd.R_drew)); exact HO562.out) hb); have n1_ := Aside0.mk (Kd.R_below (by (with_reducible repeat (first | apply Kd.R_alloc | apply Kd.R_drewN | apply Kd.R_drew)); exact HO565.out) hb); have n2_ := Aside0.mk (below_step (by repeat (first | (with_reducible first | exact HB.out | apply below_alloc | apply pw_below_drewN | apply below_drew1) | exact HB.out)) hb); clear HO562; clear HO565; clear HB; have HO562 := n0_; have HO565 := n1_; have HB := n2_; clear n0_ n1_ n2_; (try clear hb); (try clear hb2); (try clear hk); (try clear hi)))
        go_meet
        case rel => exact ⟨_, ((t569 != 30)), (by first | rfl | (simp; done) | (simp [*]; done)), H', ⟨by first | omega | exact Nat.le_refl _⟩, ⟨by (with_reducible repeat (first | apply Kd.R_alloc | apply Kd.R_drewN | apply Kd.R_drew)); exact Kd.R_mono HO562.out (fun _ hk => hk.2)⟩, ⟨by (with_reducible repeat (first | apply Kd.R_alloc | apply Kd.R_drewN | apply Kd.R_drew)); exact Kd.R_mono HO565.out (fun _ hk => hk.2)⟩, ⟨by repeat (first | (with_reducible first | exact HB.out | apply below_alloc | apply pw_below_drewN | apply below_drew1) | exact HB.out)⟩⟩
  case rest =>
    clear HC7
    try clear c1
    try clear c2
    try clear p2
    try clear c6
    try clear c13
    try clear c13b0
    try clear c13b1
    try clear c13b2
    try clear c15
    obtain ⟨kq, x44_6, rfl, HA, HJ6, HO_5, HO_6, HB⟩ := hcut
    cases kq with
    | zero => exact absurd HA.out (by simp [bibelotlaw03_HanoiChecks.j0])
    | succ kj6 =>
      have H := HA.out
      clear HA
      simp only [bibelotlaw03_HanoiChecks.j0] at H
      by_cases c20 : x44_6 = true
      · subst c20
        have H1 : (some false) = some r := by rw [if_pos rfl] at H; exact H
        clear H
        have H := H1
        clear H1
        obtain rfl := Option.some.inj H
        go_wp2
        go_ret
        exact ⟨by first | rfl | (simp [errW_none, errW_some] <;> rfl) | (simp [*, errW_none, errW_some] <;> rfl), by repeat (first | (with_reducible first | exact HB.out | apply below_alloc | apply pw_below_drewN | apply below_drew1) | exact HB.out)⟩
      · replace c20 := Bool.eq_false_iff.mpr c20
        subst c20
        have H1 : (if t566 = true then (bibelotlaw03_HanoiChecks.j1 kj6 t560 t563 t566 t567) else ((hanoi_Moves.f t560).bind fun bt570 => ((hanoi_Play.f t560 ([] : List (S52))).bind fun bt574 => ((hanoi_Farthest.f kj6 t560).bind fun bt579 => (if bt570.2 = 30 then (if bt574.2.2 = 30 then (if bt579.2 = 30 then (if (wrap64 ((wrap64 ((bt570.1.length : Int) + (bt574.1.length : Int))) + bt574.2.1)) = 0 then (if bt579.1 = 0 then (bibelotlaw03_HanoiChecks.j1 kj6 t560 t563 t566 t567) else (some false)) else (some false)) else (some false)) else (some false)) else (some false)))))) = some r := by rw [if_neg (show ¬ (false = true) by decide)] at H; exact H
        clear H
        have H := H1
        clear H1
        have HC21 := Aside0.mk H
        clear H
        go_upto_if 46 with (fail)
        go_cut [] (fun wc => ∃ (kq : Nat), Aside0 (bibelotlaw03_HanoiChecks.j1 kq t560 t563 t566 t567 = some r) ∧ Aside0 (kq ≤ kj6) ∧ Aside0 (Kd.R (Kd.int .i64) 3 wc w.heap.size (fun k_ => some k_ ≠ ((.slice Ao11 t563.length co11) : Value).ownBlock) (.slice Ao10 t560.length co10) t560) ∧ Aside0 (Kd.R (Kd.int .i64) 3 wc w.heap.size (fun k_ => some k_ ≠ ((.slice Ao10 t560.length co10) : Value).ownBlock) (.slice Ao11 t563.length co11) t563) ∧ Aside0 (Below w.heap.size w wc))
        case first =>
          have H := HC21.out
          clear HC21
          by_cases c22 : t566 = true
          · subst c22
            have H1 : (bibelotlaw03_HanoiChecks.j1 kj6 t560 t563 true t567) = some r := by rw [if_pos rfl] at H; exact H
            clear H
            have H := H1
            clear H1
            have H' := Aside0.mk H
            clear H
            go_wp2
            go_meet
            case rel => exact ⟨_, H', ⟨by have := HJ6.out; first | omega | exact Nat.le_refl _⟩, ⟨by (with_reducible repeat (first | apply Kd.R_alloc | apply Kd.R_drewN | apply Kd.R_drew)); exact HO_5.out⟩, ⟨by (with_reducible repeat (first | apply Kd.R_alloc | apply Kd.R_drewN | apply Kd.R_drew)); exact HO_6.out⟩, ⟨by repeat (first | (with_reducible first | exact HB.out | apply below_alloc | apply pw_below_drewN | apply below_drew1) | exact HB.out)⟩⟩
          · replace c22 := Bool.eq_false_iff.mpr c22
            subst c22
            have H1 : ((hanoi_Moves.f t560).bind fun bt570 => ((hanoi_Play.f t560 ([] : List (S52))).bind fun bt574 => ((hanoi_Farthest.f kj6 t560).bind fun bt579 => (if bt570.2 = 30 then (if bt574.2.2 = 30 then (if bt579.2 = 30 then (if (wrap64 ((wrap64 ((bt570.1.length : Int) + (bt574.1.length : Int))) + bt574.2.1)) = 0 then (if bt579.1 = 0 then (bibelotlaw03_HanoiChecks.j1 kj6 t560 t563 false t567) else (some false)) else (some false)) else (some false)) else (some false)) else (some false))))) = some r := by rw [if_neg (show ¬ (false = true) by decide)] at H; exact H
            clear H
            have H := H1
            clear H1
            replace H := Option.bind_eq_some_iff.mp H
            obtain ⟨⟨t570, t571⟩, A230, H⟩ := H
            replace H : ((hanoi_Play.f t560 ([] : List (S52))).bind fun bt574 => ((hanoi_Farthest.f kj6 t560).bind fun bt579 => (if t571 = 30 then (if bt574.2.2 = 30 then (if bt579.2 = 30 then (if (wrap64 ((wrap64 ((t570.length : Int) + (bt574.1.length : Int))) + bt574.2.1)) = 0 then (if bt579.1 = 0 then (bibelotlaw03_HanoiChecks.j1 kj6 t560 t563 false t567) else (some false)) else (some false)) else (some false)) else (some false)) else (some false)))) = some r := H
            have A23 := Aside0.mk A230
            clear A230
            replace H := Option.bind_eq_some_iff.mp H
            obtain ⟨⟨t574, t575, t576⟩, A240, H⟩ := H
            replace H : ((hanoi_Farthest.f kj6 t560).bind fun bt579 => (if t571 = 30 then (if t576 = 30 then (if bt579.2 = 30 then (if (wrap64 ((wrap64 ((t570.length : Int) + (t574.length : Int))) + t575)) = 0 then (if bt579.1 = 0 then (bibelotlaw03_HanoiChecks.j1 kj6 t560 t563 false t567) else (some false)) else (some false)) else (some false)) else (some false)) else (some false))) = some r := H
            have A24 := Aside0.mk A240
            clear A240
            replace H := Option.bind_eq_some_iff.mp H
            obtain ⟨⟨t579, t580⟩, A250, H⟩ := H
            replace H : (if t571 = 30 then (if t576 = 30 then (if t580 = 30 then (if (wrap64 ((wrap64 ((t570.length : Int) + (t574.length : Int))) + t575)) = 0 then (if t579 = 0 then (bibelotlaw03_HanoiChecks.j1 kj6 t560 t563 false t567) else (some false)) else (some false)) else (some false)) else (some false)) else (some false)) = some r := H
            have A25 := Aside0.mk A250
            clear A250
            by_cases c26 : t571 = 30
            · rw [if_pos c26] at H
              have c26b0 : (t571 == 30) = true := beq_iff_eq.mpr c26
              have c26b1 : (t571 != 30) = false := bne_eq_false_iff_eq.mpr c26
              clear c26
              (first | rw [c26b0] | (simp only [i64_w, i32_w]; rw [c26b0]) | skip)
              by_cases c27 : t576 = 30
              · rw [if_pos c27] at H
                have c27b0 : (t576 == 30) = true := beq_iff_eq.mpr c27
                have c27b1 : (t576 != 30) = false := bne_eq_false_iff_eq.mpr c27
                clear c27
                by_cases c28 : t580 = 30
                · rw [if_pos c28] at H
                  have c28b0 : (t580 == 30) = true := beq_iff_eq.mpr c28
                  have c28b1 : (t580 != 30) = false := bne_eq_false_iff_eq.mpr c28
                  clear c28
                  by_cases c29 : (wrap64 ((wrap64 ((t570.length : Int) + (t574.length : Int))) + t575)) = 0
                  · rw [if_pos c29] at H
                    have c29b0 : ((wrap64 ((wrap64 ((t570.length : Int) + (t574.length : Int))) + t575)) == 0) = true := beq_iff_eq.mpr c29
                    have c29b1 : ((wrap64 ((wrap64 ((t570.length : Int) + (t574.length : Int))) + t575)) != 0) = false := bne_eq_false_iff_eq.mpr c29
                    clear c29
                    by_cases c30 : t579 = 0
                    · rw [if_pos c30] at H
                      have c30b0 : (t579 == 0) = true := beq_iff_eq.mpr c30
                      have c30b1 : (t579 != 0) = false := bne_eq_false_iff_eq.mpr c30
                      clear c30
                      have H' := Aside0.mk H
                      clear H
                      go_wp2_with (first | ((with_reducible refine gate_callee (f := 41) rfl ?_); refine goesL_ (some 49) rfl rfl Tryd.func41 (by kernel_rfl) rfl #[.slice Ao10 t560.length co10] rfl (by (try simp only [List.map_toArray, List.map_cons, List.map_nil]); first | done | rfl | (simp only [List.length_drop, List.length_take]; rfl)) ?_; (with_reducible refine (hanoi_Moves.calls _ _ t560 t570 t571 _ ?side1 ?side2 A23.out).mono ?_); (case side1 => repeat (first | exact (Kd.R_reads' HO_5.out).2.2 | (with_reducible refine Kd.C_alloc ?_ _) | (with_reducible refine Kd.C_drewN ?_ _) | (with_reducible refine Kd.C_drew ?_))); (case side2 => exact (Kd.R_reads' HO_5.out).2.1); rintro e w31 ⟨v572, rfl, ho0, hb⟩; refine ⟨_, rfl, ?_⟩; have n0_ := Aside0.mk (Kd.R_below (by (with_reducible repeat (first | apply Kd.R_alloc | apply Kd.R_drewN | apply Kd.R_drew)); exact HO_5.out) hb); have n1_ := Aside0.mk (Kd.R_below (by (with_reducible repeat (first | apply Kd.R_alloc | apply Kd.R_drewN | apply Kd.R_drew)); exact HO_6.out) hb); have n2_ := Aside0.mk (Kd.R_lower ho0 (below_size (by repeat (first | (with_reducible first | exact HB.out | apply below_alloc | apply pw_below_drewN | apply below_drew1) | exact HB.out)))); have n3_ := Aside0.mk (below_step (by repeat (first | (with_reducible first | exact HB.out | apply below_alloc | apply pw_below_drewN | apply below_drew1) | exact HB.out)) hb); clear HO_5; clear HO_6; clear HB; have HO_5 := n0_; have HO_6 := n1_; have HO573 := n2_; have HB := n3_; clear n0_ n1_ n2_ n3_; (try clear hb); (try clear hb2); (try clear hk); (try clear hi); (try clear ho0)) | ((with_reducible refine gate_callee (f := 56) rfl ?_); refine goesL_ (some 54) rfl rfl Tryd.func56 (by kernel_rfl) rfl #[.slice Ao10 t560.length co10, .slice none 0 0] rfl (by (try simp only [List.map_toArray, List.map_cons, List.map_nil]); first | done | rfl | (simp only [List.length_drop, List.length_take]; rfl)) ?_; (refine (hanoi_Play.calls _ _ t560 _ _ ([] : List (S52)) t574 t575 t576 _ ?side1 ?side2 ?side3 ?side4 A24.out).mono ?_); (case side1 => repeat (first | exact (Kd.R_reads' HO_5.out).2.2 | (with_reducible refine Kd.C_alloc ?_ _) | (with_reducible refine Kd.C_drewN ?_ _) | (with_reducible refine Kd.C_drew ?_))); (case side2 => exact (Kd.R_reads' HO_5.out).2.1); (case side3 => exact Kd.C_nil _ _); (case side4 => exact Nat.le_refl _); rintro e w32 ⟨v577, rfl, ho0, hb⟩; refine ⟨_, rfl, ?_⟩; have n0_ := Aside0.mk (Kd.R_elder' (by (with_reducible repeat (first | apply Kd.R_alloc | apply Kd.R_drewN | apply Kd.R_drew)); exact HO_5.out) (Kd.R_base ho0) hb); have n1_ := Aside0.mk (Kd.R_elder' (by (with_reducible repeat (first | apply Kd.R_alloc | apply Kd.R_drewN | apply Kd.R_drew)); exact HO_6.out) (Kd.R_base ho0) hb); have n2_ := Aside0.mk (Kd.R_below (by (with_reducible repeat (first | apply Kd.R_alloc | apply Kd.R_drewN | apply Kd.R_drew)); exact HO573.out) hb); have n3_ := Aside0.mk (Kd.R_lower (Kd.R_new' (Kd.R_new' ho0 (Kd.R_lt (by (with_reducible repeat (first | apply Kd.R_alloc | apply Kd.R_drewN | apply Kd.R_drew)); exact HO_5.out))) (Kd.R_lt (by (with_reducible repeat (first | apply Kd.R_alloc | apply Kd.R_drewN | apply Kd.R_drew)); exact HO_6.out))) (below_size (by repeat (first | (with_reducible first | exact HB.out | apply below_alloc | apply pw_below_drewN | apply below_drew1) | exact HB.out)))); have n4_ := Aside0.mk (below_step (by repeat (first | (with_reducible first | exact HB.out | apply below_alloc | apply pw_below_drewN | apply below_drew1) | exact HB.out)) hb); clear HO_5; clear HO_6; clear HO573; clear HB; have HO_5 := n0_; have HO_6 := n1_; have HO573 := n2_; have HO578 := n3_; have HB := n4_; clear n0_ n1_ n2_ n3_ n4_; (try clear hb); (try clear hb2); (try clear hk); (try clear hi); (try clear ho0)) | ((with_reducible refine gate_callee (f := 43) rfl ?_); refine goesL_ (some 60) rfl rfl Tryd.func43 (by kernel_rfl) rfl #[.slice Ao10 t560.length co10] rfl (by (try simp only [List.map_toArray, List.map_cons, List.map_nil]); first | done | rfl | (simp only [List.length_drop, List.length_take]; rfl)) ?_; (with_reducible refine (hanoi_Farthest.calls kj6 _ _ t560 t579 t580 _ ?side1 ?side2 A25.out).mono ?_); (case side1 => repeat (first | exact (Kd.R_reads' HO_5.out).2.2 | (with_reducible refine Kd.C_alloc ?_ _) | (with_reducible refine Kd.C_drewN ?_ _) | (with_reducible refine Kd.C_drew ?_))); (case side2 => exact (Kd.R_reads' HO_5.out).2.1); rintro e w33 ⟨rfl, hb⟩; refine ⟨_, rfl, ?_⟩; have n0_ := Aside0.mk (Kd.R_below (by (with_reducible repeat (first | apply Kd.R_alloc | apply Kd.R_drewN | apply Kd.R_drew)); exact HO_5.out) hb); have n1_ := Aside0.mk (Kd.R_below (by (with_reducible repeat (first | apply Kd.R_alloc | apply Kd.R_drewN | apply Kd.R_drew)); exact HO_6.out) hb); have n2_ := Aside0.mk (Kd.R_below (by (with_reducible repeat (first | apply Kd.R_alloc | apply Kd.R_drewN | apply Kd.R_drew)); exact HO573.out) hb); have n3_ := Aside0.mk (Kd.R_below (by (with_reducible repeat (first | apply Kd.R_alloc | apply Kd.R_drewN | apply Kd.R_drew)); exact HO578.out) hb); have n4_ := Aside0.mk (below_step (by repeat (first | (with_reducible first | exact HB.out | apply below_alloc | apply pw_below_drewN | apply below_drew1) | exact HB.out)) hb); clear HO_5; clear HO_6; clear HO573; clear HO578; clear HB; have HO_5 := n0_; have HO_6 := n1_; have HO573 := n2_; have HO578 := n3_; have HB := n4_; clear n0_ n1_ n2_ n3_ n4_; (try clear hb); (try clear hb2); (try clear hk); (try clear hi); obtain ⟨Ao34, co34, eo34⟩ := Kd.R_slice HO573.out; subst eo34; obtain ⟨Ao35, co35, eo35⟩ := Kd.R_slice HO578.out; subst eo35))
                      go_meet
                      case rel => exact ⟨_, H', ⟨by have := HJ6.out; first | omega | exact Nat.le_refl _⟩, ⟨by (with_reducible repeat (first | apply Kd.R_alloc | apply Kd.R_drewN | apply Kd.R_drew)); exact Kd.R_mono HO_5.out (fun _ hk => hk.1)⟩, ⟨by (with_reducible repeat (first | apply Kd.R_alloc | apply Kd.R_drewN | apply Kd.R_drew)); exact Kd.R_mono HO_6.out (fun _ hk => hk.1)⟩, ⟨by repeat (first | (with_reducible first | exact HB.out | apply below_alloc | apply pw_below_drewN | apply below_drew1) | exact HB.out)⟩⟩
                    · rw [if_neg c30] at H
                      have c30b0 : (t579 == 0) = false := beq_eq_false_iff_ne.mpr c30
                      have c30b1 : (t579 != 0) = true := bne_iff_ne.mpr c30
                      obtain rfl := Option.some.inj H
                      go_wp2_with (first | ((with_reducible refine gate_callee (f := 41) rfl ?_); refine goesL_ (some 49) rfl rfl Tryd.func41 (by kernel_rfl) rfl #[.slice Ao10 t560.length co10] rfl (by (try simp only [List.map_toArray, List.map_cons, List.map_nil]); first | done | rfl | (simp only [List.length_drop, List.length_take]; rfl)) ?_; (with_reducible refine (hanoi_Moves.calls _ _ t560 t570 t571 _ ?side1 ?side2 A23.out).mono ?_); (case side1 => repeat (first | exact (Kd.R_reads' HO_5.out).2.2 | (with_reducible refine Kd.C_alloc ?_ _) | (with_reducible refine Kd.C_drewN ?_ _) | (with_reducible refine Kd.C_drew ?_))); (case side2 => exact (Kd.R_reads' HO_5.out).2.1); rintro e w36 ⟨v572, rfl, ho0, hb⟩; refine ⟨_, rfl, ?_⟩; have n0_ := Aside0.mk (Kd.R_below (by (with_reducible repeat (first | apply Kd.R_alloc | apply Kd.R_drewN | apply Kd.R_drew)); exact HO_5.out) hb); have n1_ := Aside0.mk (Kd.R_below (by (with_reducible repeat (first | apply Kd.R_alloc | apply Kd.R_drewN | apply Kd.R_drew)); exact HO_6.out) hb); have n2_ := Aside0.mk (Kd.R_lower ho0 (below_size (by repeat (first | (with_reducible first | exact HB.out | apply below_alloc | apply pw_below_drewN | apply below_drew1) | exact HB.out)))); have n3_ := Aside0.mk (below_step (by repeat (first | (with_reducible first | exact HB.out | apply below_alloc | apply pw_below_drewN | apply below_drew1) | exact HB.out)) hb); clear HO_5; clear HO_6; clear HB; have HO_5 := n0_; have HO_6 := n1_; have HO573 := n2_; have HB := n3_; clear n0_ n1_ n2_ n3_; (try clear hb); (try clear hb2); (try clear hk); (try clear hi); (try clear ho0)) | ((with_reducible refine gate_callee (f := 56) rfl ?_); refine goesL_ (some 54) rfl rfl Tryd.func56 (by kernel_rfl) rfl #[.slice Ao10 t560.length co10, .slice none 0 0] rfl (by (try simp only [List.map_toArray, List.map_cons, List.map_nil]); first | done | rfl | (simp only [List.length_drop, List.length_take]; rfl)) ?_; (refine (hanoi_Play.calls _ _ t560 _ _ ([] : List (S52)) t574 t575 t576 _ ?side1 ?side2 ?side3 ?side4 A24.out).mono ?_); (case side1 => repeat (first | exact (Kd.R_reads' HO_5.out).2.2 | (with_reducible refine Kd.C_alloc ?_ _) | (with_reducible refine Kd.C_drewN ?_ _) | (with_reducible refine Kd.C_drew ?_))); (case side2 => exact (Kd.R_reads' HO_5.out).2.1); (case side3 => exact Kd.C_nil _ _); (case side4 => exact Nat.le_refl _); rintro e w37 ⟨v577, rfl, ho0, hb⟩; refine ⟨_, rfl, ?_⟩; have n0_ := Aside0.mk (Kd.R_elder' (by (with_reducible repeat (first | apply Kd.R_alloc | apply Kd.R_drewN | apply Kd.R_drew)); exact HO_5.out) (Kd.R_base ho0) hb); have n1_ := Aside0.mk (Kd.R_elder' (by (with_reducible repeat (first | apply Kd.R_alloc | apply Kd.R_drewN | apply Kd.R_drew)); exact HO_6.out) (Kd.R_base ho0) hb); have n2_ := Aside0.mk (Kd.R_below (by (with_reducible repeat (first | apply Kd.R_alloc | apply Kd.R_drewN | apply Kd.R_drew)); exact HO573.out) hb); have n3_ := Aside0.mk (Kd.R_lower (Kd.R_new' (Kd.R_new' ho0 (Kd.R_lt (by (with_reducible repeat (first | apply Kd.R_alloc | apply Kd.R_drewN | apply Kd.R_drew)); exact HO_5.out))) (Kd.R_lt (by (with_reducible repeat (first | apply Kd.R_alloc | apply Kd.R_drewN | apply Kd.R_drew)); exact HO_6.out))) (below_size (by repeat (first | (with_reducible first | exact HB.out | apply below_alloc | apply pw_below_drewN | apply below_drew1) | exact HB.out)))); have n4_ := Aside0.mk (below_step (by repeat (first | (with_reducible first | exact HB.out | apply below_alloc | apply pw_below_drewN | apply below_drew1) | exact HB.out)) hb); clear HO_5; clear HO_6; clear HO573; clear HB; have HO_5 := n0_; have HO_6 := n1_; have HO573 := n2_; have HO578 := n3_; have HB := n4_; clear n0_ n1_ n2_ n3_ n4_; (try clear hb); (try clear hb2); (try clear hk); (try clear hi); (try clear ho0)) | ((with_reducible refine gate_callee (f := 43) rfl ?_); refine goesL_ (some 60) rfl rfl Tryd.func43 (by kernel_rfl) rfl #[.slice Ao10 t560.length co10] rfl (by (try simp only [List.map_toArray, List.map_cons, List.map_nil]); first | done | rfl | (simp only [List.length_drop, List.length_take]; rfl)) ?_; (with_reducible refine (hanoi_Farthest.calls kj6 _ _ t560 t579 t580 _ ?side1 ?side2 A25.out).mono ?_); (case side1 => repeat (first | exact (Kd.R_reads' HO_5.out).2.2 | (with_reducible refine Kd.C_alloc ?_ _) | (with_reducible refine Kd.C_drewN ?_ _) | (with_reducible refine Kd.C_drew ?_))); (case side2 => exact (Kd.R_reads' HO_5.out).2.1); rintro e w38 ⟨rfl, hb⟩; refine ⟨_, rfl, ?_⟩; have n0_ := Aside0.mk (Kd.R_below (by (with_reducible repeat (first | apply Kd.R_alloc | apply Kd.R_drewN | apply Kd.R_drew)); exact HO_5.out) hb); have n1_ := Aside0.mk (Kd.R_below (by (with_reducible repeat (first | apply Kd.R_alloc | apply Kd.R_drewN | apply Kd.R_drew)); exact HO_6.out) hb); have n2_ := Aside0.mk (Kd.R_below (by (with_reducible repeat (first | apply Kd.R_alloc | apply Kd.R_drewN | apply Kd.R_drew)); exact HO573.out) hb); have n3_ := Aside0.mk (Kd.R_below (by (with_reducible repeat (first | apply Kd.R_alloc | apply Kd.R_drewN | apply Kd.R_drew)); exact HO578.out) hb); have n4_ := Aside0.mk (below_step (by repeat (first | (with_reducible first | exact HB.out | apply below_alloc | apply pw_below_drewN | apply below_drew1) | exact HB.out)) hb); clear HO_5; clear HO_6; clear HO573; clear HO578; clear HB; have HO_5 := n0_; have HO_6 := n1_; have HO573 := n2_; have HO578 := n3_; have HB := n4_; clear n0_ n1_ n2_ n3_ n4_; (try clear hb); (try clear hb2); (try clear hk); (try clear hi); obtain ⟨Ao39, co39, eo39⟩ := Kd.R_slice HO573.out; subst eo39; obtain ⟨Ao40, co40, eo40⟩ := Kd.R_slice HO578.out; subst eo40))
                      go_ret
                      exact ⟨by first | rfl | (simp [errW_none, errW_some] <;> rfl) | (simp [*, errW_none, errW_some] <;> rfl), by repeat (first | (with_reducible first | exact HB.out | apply below_alloc | apply pw_below_drewN | apply below_drew1) | exact HB.out)⟩
                  · rw [if_neg c29] at H
                    have c29b0 : ((wrap64 ((wrap64 ((t570.length : Int) + (t574.length : Int))) + t575)) == 0) = false := beq_eq_false_iff_ne.mpr c29
                    have c29b1 : ((wrap64 ((wrap64 ((t570.length : Int) + (t574.length : Int))) + t575)) != 0) = true := bne_iff_ne.mpr c29
                    obtain rfl := Option.some.inj H
                    go_wp2_with (first | ((with_reducible refine gate_callee (f := 41) rfl ?_); refine goesL_ (some 49) rfl rfl Tryd.func41 (by kernel_rfl) rfl #[.slice Ao10 t560.length co10] rfl (by (try simp only [List.map_toArray, List.map_cons, List.map_nil]); first | done | rfl | (simp only [List.length_drop, List.length_take]; rfl)) ?_; (with_reducible refine (hanoi_Moves.calls _ _ t560 t570 t571 _ ?side1 ?side2 A23.out).mono ?_); (case side1 => repeat (first | exact (Kd.R_reads' HO_5.out).2.2 | (with_reducible refine Kd.C_alloc ?_ _) | (with_reducible refine Kd.C_drewN ?_ _) | (with_reducible refine Kd.C_drew ?_))); (case side2 => exact (Kd.R_reads' HO_5.out).2.1); rintro e w41 ⟨v572, rfl, ho0, hb⟩; refine ⟨_, rfl, ?_⟩; have n0_ := Aside0.mk (Kd.R_below (by (with_reducible repeat (first | apply Kd.R_alloc | apply Kd.R_drewN | apply Kd.R_drew)); exact HO_5.out) hb); have n1_ := Aside0.mk (Kd.R_below (by (with_reducible repeat (first | apply Kd.R_alloc | apply Kd.R_drewN | apply Kd.R_drew)); exact HO_6.out) hb); have n2_ := Aside0.mk (Kd.R_lower ho0 (below_size (by repeat (first | (with_reducible first | exact HB.out | apply below_alloc | apply pw_below_drewN | apply below_drew1) | exact HB.out)))); have n3_ := Aside0.mk (below_step (by repeat (first | (with_reducible first | exact HB.out | apply below_alloc | apply pw_below_drewN | apply below_drew1) | exact HB.out)) hb); clear HO_5; clear HO_6; clear HB; have HO_5 := n0_; have HO_6 := n1_; have HO573 := n2_; have HB := n3_; clear n0_ n1_ n2_ n3_; (try clear hb); (try clear hb2); (try clear hk); (try clear hi); (try clear ho0)) | ((with_reducible refine gate_callee (f := 56) rfl ?_); refine goesL_ (some 54) rfl rfl Tryd.func56 (by kernel_rfl) rfl #[.slice Ao10 t560.length co10, .slice none 0 0] rfl (by (try simp only [List.map_toArray, List.map_cons, List.map_nil]); first | done | rfl | (simp only [List.length_drop, List.length_take]; rfl)) ?_; (refine (hanoi_Play.calls _ _ t560 _ _ ([] : List (S52)) t574 t575 t576 _ ?side1 ?side2 ?side3 ?side4 A24.out).mono ?_); (case side1 => repeat (first | exact (Kd.R_reads' HO_5.out).2.2 | (with_reducible refine Kd.C_alloc ?_ _) | (with_reducible refine Kd.C_drewN ?_ _) | (with_reducible refine Kd.C_drew ?_))); (case side2 => exact (Kd.R_reads' HO_5.out).2.1); (case side3 => exact Kd.C_nil _ _); (case side4 => exact Nat.le_refl _); rintro e w42 ⟨v577, rfl, ho0, hb⟩; refine ⟨_, rfl, ?_⟩; have n0_ := Aside0.mk (Kd.R_elder' (by (with_reducible repeat (first | apply Kd.R_alloc | apply Kd.R_drewN | apply Kd.R_drew)); exact HO_5.out) (Kd.R_base ho0) hb); have n1_ := Aside0.mk (Kd.R_elder' (by (with_reducible repeat (first | apply Kd.R_alloc | apply Kd.R_drewN | apply Kd.R_drew)); exact HO_6.out) (Kd.R_base ho0) hb); have n2_ := Aside0.mk (Kd.R_below (by (with_reducible repeat (first | apply Kd.R_alloc | apply Kd.R_drewN | apply Kd.R_drew)); exact HO573.out) hb); have n3_ := Aside0.mk (Kd.R_lower (Kd.R_new' (Kd.R_new' ho0 (Kd.R_lt (by (with_reducible repeat (first | apply Kd.R_alloc | apply Kd.R_drewN | apply Kd.R_drew)); exact HO_5.out))) (Kd.R_lt (by (with_reducible repeat (first | apply Kd.R_alloc | apply Kd.R_drewN | apply Kd.R_drew)); exact HO_6.out))) (below_size (by repeat (first | (with_reducible first | exact HB.out | apply below_alloc | apply pw_below_drewN | apply below_drew1) | exact HB.out)))); have n4_ := Aside0.mk (below_step (by repeat (first | (with_reducible first | exact HB.out | apply below_alloc | apply pw_below_drewN | apply below_drew1) | exact HB.out)) hb); clear HO_5; clear HO_6; clear HO573; clear HB; have HO_5 := n0_; have HO_6 := n1_; have HO573 := n2_; have HO578 := n3_; have HB := n4_; clear n0_ n1_ n2_ n3_ n4_; (try clear hb); (try clear hb2); (try clear hk); (try clear hi); (try clear ho0)) | ((with_reducible refine gate_callee (f := 43) rfl ?_); refine goesL_ (some 60) rfl rfl Tryd.func43 (by kernel_rfl) rfl #[.slice Ao10 t560.length co10] rfl (by (try simp only [List.map_toArray, List.map_cons, List.map_nil]); first | done | rfl | (simp only [List.length_drop, List.length_take]; rfl)) ?_; (with_reducible refine (hanoi_Farthest.calls kj6 _ _ t560 t579 t580 _ ?side1 ?side2 A25.out).mono ?_); (case side1 => repeat (first | exact (Kd.R_reads' HO_5.out).2.2 | (with_reducible refine Kd.C_alloc ?_ _) | (with_reducible refine Kd.C_drewN ?_ _) | (with_reducible refine Kd.C_drew ?_))); (case side2 => exact (Kd.R_reads' HO_5.out).2.1); rintro e w43 ⟨rfl, hb⟩; refine ⟨_, rfl, ?_⟩; have n0_ := Aside0.mk (Kd.R_below (by (with_reducible repeat (first | apply Kd.R_alloc | apply Kd.R_drewN | apply Kd.R_drew)); exact HO_5.out) hb); have n1_ := Aside0.mk (Kd.R_below (by (with_reducible repeat (first | apply Kd.R_alloc | apply Kd.R_drewN | apply Kd.R_drew)); exact HO_6.out) hb); have n2_ := Aside0.mk (Kd.R_below (by (with_reducible repeat (first | apply Kd.R_alloc | apply Kd.R_drewN | apply Kd.R_drew)); exact HO573.out) hb); have n3_ := Aside0.mk (Kd.R_below (by (with_reducible repeat (first | apply Kd.R_alloc | apply Kd.R_drewN | apply Kd.R_drew)); exact HO578.out) hb); have n4_ := Aside0.mk (below_step (by repeat (first | (with_reducible first | exact HB.out | apply below_alloc | apply pw_below_drewN | apply below_drew1) | exact HB.out)) hb); clear HO_5; clear HO_6; clear HO573; clear HO578; clear HB; have HO_5 := n0_; have HO_6 := n1_; have HO573 := n2_; have HO578 := n3_; have HB := n4_; clear n0_ n1_ n2_ n3_ n4_; (try clear hb); (try clear hb2); (try clear hk); (try clear hi); obtain ⟨Ao44, co44, eo44⟩ := Kd.R_slice HO573.out; subst eo44; obtain ⟨Ao45, co45, eo45⟩ := Kd.R_slice HO578.out; subst eo45))
                    go_ret
                    exact ⟨by first | rfl | (simp [errW_none, errW_some] <;> rfl) | (simp [*, errW_none, errW_some] <;> rfl), by repeat (first | (with_reducible first | exact HB.out | apply below_alloc | apply pw_below_drewN | apply below_drew1) | exact HB.out)⟩
                · rw [if_neg c28] at H
                  have c28b0 : (t580 == 30) = false := beq_eq_false_iff_ne.mpr c28
                  have c28b1 : (t580 != 30) = true := bne_iff_ne.mpr c28
                  obtain rfl := Option.some.inj H
                  go_wp2_with (first | ((with_reducible refine gate_callee (f := 41) rfl ?_); refine goesL_ (some 49) rfl rfl Tryd.func41 (by kernel_rfl) rfl #[.slice Ao10 t560.length co10] rfl (by (try simp only [List.map_toArray, List.map_cons, List.map_nil]); first | done | rfl | (simp only [List.length_drop, List.length_take]; rfl)) ?_; (with_reducible refine (hanoi_Moves.calls _ _ t560 t570 t571 _ ?side1 ?side2 A23.out).mono ?_); (case side1 => repeat (first | exact (Kd.R_reads' HO_5.out).2.2 | (with_reducible refine Kd.C_alloc ?_ _) | (with_reducible refine Kd.C_drewN ?_ _) | (with_reducible refine Kd.C_drew ?_))); (case side2 => exact (Kd.R_reads' HO_5.out).2.1); rintro e w46 ⟨v572, rfl, ho0, hb⟩; refine ⟨_, rfl, ?_⟩; have n0_ := Aside0.mk (Kd.R_below (by (with_reducible repeat (first | apply Kd.R_alloc | apply Kd.R_drewN | apply Kd.R_drew)); exact HO_5.out) hb); have n1_ := Aside0.mk (Kd.R_below (by (with_reducible repeat (first | apply Kd.R_alloc | apply Kd.R_drewN | apply Kd.R_drew)); exact HO_6.out) hb); have n2_ := Aside0.mk (Kd.R_lower ho0 (below_size (by repeat (first | (with_reducible first | exact HB.out | apply below_alloc | apply pw_below_drewN | apply below_drew1) | exact HB.out)))); have n3_ := Aside0.mk (below_step (by repeat (first | (with_reducible first | exact HB.out | apply below_alloc | apply pw_below_drewN | apply below_drew1) | exact HB.out)) hb); clear HO_5; clear HO_6; clear HB; have HO_5 := n0_; have HO_6 := n1_; have HO573 := n2_; have HB := n3_; clear n0_ n1_ n2_ n3_; (try clear hb); (try clear hb2); (try clear hk); (try clear hi); (try clear ho0)) | ((with_reducible refine gate_callee (f := 56) rfl ?_); refine goesL_ (some 54) rfl rfl Tryd.func56 (by kernel_rfl) rfl #[.slice Ao10 t560.length co10, .slice none 0 0] rfl (by (try simp only [List.map_toArray, List.map_cons, List.map_nil]); first | done | rfl | (simp only [List.length_drop, List.length_take]; rfl)) ?_; (refine (hanoi_Play.calls _ _ t560 _ _ ([] : List (S52)) t574 t575 t576 _ ?side1 ?side2 ?side3 ?side4 A24.out).mono ?_); (case side1 => repeat (first | exact (Kd.R_reads' HO_5.out).2.2 | (with_reducible refine Kd.C_alloc ?_ _) | (with_reducible refine Kd.C_drewN ?_ _) | (with_reducible refine Kd.C_drew ?_))); (case side2 => exact (Kd.R_reads' HO_5.out).2.1); (case side3 => exact Kd.C_nil _ _); (case side4 => exact Nat.le_refl _); rintro e w47 ⟨v577, rfl, ho0, hb⟩; refine ⟨_, rfl, ?_⟩; have n0_ := Aside0.mk (Kd.R_elder' (by (with_reducible repeat (first | apply Kd.R_alloc | apply Kd.R_drewN | apply Kd.R_drew)); exact HO_5.out) (Kd.R_base ho0) hb); have n1_ := Aside0.mk (Kd.R_elder' (by (with_reducible repeat (first | apply Kd.R_alloc | apply Kd.R_drewN | apply Kd.R_drew)); exact HO_6.out) (Kd.R_base ho0) hb); have n2_ := Aside0.mk (Kd.R_below (by (with_reducible repeat (first | apply Kd.R_alloc | apply Kd.R_drewN | apply Kd.R_drew)); exact HO573.out) hb); have n3_ := Aside0.mk (Kd.R_lower (Kd.R_new' (Kd.R_new' ho0 (Kd.R_lt (by (with_reducible repeat (first | apply Kd.R_alloc | apply Kd.R_drewN | apply Kd.R_drew)); exact HO_5.out))) (Kd.R_lt (by (with_reducible repeat (first | apply Kd.R_alloc | apply Kd.R_drewN | apply Kd.R_drew)); exact HO_6.out))) (below_size (by repeat (first | (with_reducible first | exact HB.out | apply below_alloc | apply pw_below_drewN | apply below_drew1) | exact HB.out)))); have n4_ := Aside0.mk (below_step (by repeat (first | (with_reducible first | exact HB.out | apply below_alloc | apply pw_below_drewN | apply below_drew1) | exact HB.out)) hb); clear HO_5; clear HO_6; clear HO573; clear HB; have HO_5 := n0_; have HO_6 := n1_; have HO573 := n2_; have HO578 := n3_; have HB := n4_; clear n0_ n1_ n2_ n3_ n4_; (try clear hb); (try clear hb2); (try clear hk); (try clear hi); (try clear ho0)) | ((with_reducible refine gate_callee (f := 43) rfl ?_); refine goesL_ (some 60) rfl rfl Tryd.func43 (by kernel_rfl) rfl #[.slice Ao10 t560.length co10] rfl (by (try simp only [List.map_toArray, List.map_cons, List.map_nil]); first | done | rfl | (simp only [List.length_drop, List.length_take]; rfl)) ?_; (with_reducible refine (hanoi_Farthest.calls kj6 _ _ t560 t579 t580 _ ?side1 ?side2 A25.out).mono ?_); (case side1 => repeat (first | exact (Kd.R_reads' HO_5.out).2.2 | (with_reducible refine Kd.C_alloc ?_ _) | (with_reducible refine Kd.C_drewN ?_ _) | (with_reducible refine Kd.C_drew ?_))); (case side2 => exact (Kd.R_reads' HO_5.out).2.1); rintro e w48 ⟨rfl, hb⟩; refine ⟨_, rfl, ?_⟩; have n0_ := Aside0.mk (Kd.R_below (by (with_reducible repeat (first | apply Kd.R_alloc | apply Kd.R_drewN | apply Kd.R_drew)); exact HO_5.out) hb); have n1_ := Aside0.mk (Kd.R_below (by (with_reducible repeat (first | apply Kd.R_alloc | apply Kd.R_drewN | apply Kd.R_drew)); exact HO_6.out) hb); have n2_ := Aside0.mk (Kd.R_below (by (with_reducible repeat (first | apply Kd.R_alloc | apply Kd.R_drewN | apply Kd.R_drew)); exact HO573.out) hb); have n3_ := Aside0.mk (Kd.R_below (by (with_reducible repeat (first | apply Kd.R_alloc | apply Kd.R_drewN | apply Kd.R_drew)); exact HO578.out) hb); have n4_ := Aside0.mk (below_step (by repeat (first | (with_reducible first | exact HB.out | apply below_alloc | apply pw_below_drewN | apply below_drew1) | exact HB.out)) hb); clear HO_5; clear HO_6; clear HO573; clear HO578; clear HB; have HO_5 := n0_; have HO_6 := n1_; have HO573 := n2_; have HO578 := n3_; have HB := n4_; clear n0_ n1_ n2_ n3_ n4_; (try clear hb); (try clear hb2); (try clear hk); (try clear hi)))
                  go_ret
                  exact ⟨by first | rfl | (simp [errW_none, errW_some] <;> rfl) | (simp [*, errW_none, errW_some] <;> rfl), by repeat (first | (with_reducible first | exact HB.out | apply below_alloc | apply pw_below_drewN | apply below_drew1) | exact HB.out)⟩
              · rw [if_neg c27] at H
                have c27b0 : (t576 == 30) = false := beq_eq_false_iff_ne.mpr c27
                have c27b1 : (t576 != 30) = true := bne_iff_ne.mpr c27
                obtain rfl := Option.some.inj H
                go_wp2_with (first | ((with_reducible refine gate_callee (f := 41) rfl ?_); refine goesL_ (some 49) rfl rfl Tryd.func41 (by kernel_rfl) rfl #[.slice Ao10 t560.length co10] rfl (by (try simp only [List.map_toArray, List.map_cons, List.map_nil]); first | done | rfl | (simp only [List.length_drop, List.length_take]; rfl)) ?_; (with_reducible refine (hanoi_Moves.calls _ _ t560 t570 t571 _ ?side1 ?side2 A23.out).mono ?_); (case side1 => repeat (first | exact (Kd.R_reads' HO_5.out).2.2 | (with_reducible refine Kd.C_alloc ?_ _) | (with_reducible refine Kd.C_drewN ?_ _) | (with_reducible refine Kd.C_drew ?_))); (case side2 => exact (Kd.R_reads' HO_5.out).2.1); rintro e w49 ⟨v572, rfl, ho0, hb⟩; refine ⟨_, rfl, ?_⟩; have n0_ := Aside0.mk (Kd.R_below (by (with_reducible repeat (first | apply Kd.R_alloc | apply Kd.R_drewN | apply Kd.R_drew)); exact HO_5.out) hb); have n1_ := Aside0.mk (Kd.R_below (by (with_reducible repeat (first | apply Kd.R_alloc | apply Kd.R_drewN | apply Kd.R_drew)); exact HO_6.out) hb); have n2_ := Aside0.mk (Kd.R_lower ho0 (below_size (by repeat (first | (with_reducible first | exact HB.out | apply below_alloc | apply pw_below_drewN | apply below_drew1) | exact HB.out)))); have n3_ := Aside0.mk (below_step (by repeat (first | (with_reducible first | exact HB.out | apply below_alloc | apply pw_below_drewN | apply below_drew1) | exact HB.out)) hb); clear HO_5; clear HO_6; clear HB; have HO_5 := n0_; have HO_6 := n1_; have HO573 := n2_; have HB := n3_; clear n0_ n1_ n2_ n3_; (try clear hb); (try clear hb2); (try clear hk); (try clear hi); (try clear ho0)) | ((with_reducible refine gate_callee (f := 56) rfl ?_); refine goesL_ (some 54) rfl rfl Tryd.func56 (by kernel_rfl) rfl #[.slice Ao10 t560.length co10, .slice none 0 0] rfl (by (try simp only [List.map_toArray, List.map_cons, List.map_nil]); first | done | rfl | (simp only [List.length_drop, List.length_take]; rfl)) ?_; (refine (hanoi_Play.calls _ _ t560 _ _ ([] : List (S52)) t574 t575 t576 _ ?side1 ?side2 ?side3 ?side4 A24.out).mono ?_); (case side1 => repeat (first | exact (Kd.R_reads' HO_5.out).2.2 | (with_reducible refine Kd.C_alloc ?_ _) | (with_reducible refine Kd.C_drewN ?_ _) | (with_reducible refine Kd.C_drew ?_))); (case side2 => exact (Kd.R_reads' HO_5.out).2.1); (case side3 => exact Kd.C_nil _ _); (case side4 => exact Nat.le_refl _); rintro e w50 ⟨v577, rfl, ho0, hb⟩; refine ⟨_, rfl, ?_⟩; have n0_ := Aside0.mk (Kd.R_elder' (by (with_reducible repeat (first | apply Kd.R_alloc | apply Kd.R_drewN | apply Kd.R_drew)); exact HO_5.out) (Kd.R_base ho0) hb); have n1_ := Aside0.mk (Kd.R_elder' (by (with_reducible repeat (first | apply Kd.R_alloc | apply Kd.R_drewN | apply Kd.R_drew)); exact HO_6.out) (Kd.R_base ho0) hb); have n2_ := Aside0.mk (Kd.R_below (by (with_reducible repeat (first | apply Kd.R_alloc | apply Kd.R_drewN | apply Kd.R_drew)); exact HO573.out) hb); have n3_ := Aside0.mk (Kd.R_lower (Kd.R_new' (Kd.R_new' ho0 (Kd.R_lt (by (with_reducible repeat (first | apply Kd.R_alloc | apply Kd.R_drewN | apply Kd.R_drew)); exact HO_5.out))) (Kd.R_lt (by (with_reducible repeat (first | apply Kd.R_alloc | apply Kd.R_drewN | apply Kd.R_drew)); exact HO_6.out))) (below_size (by repeat (first | (with_reducible first | exact HB.out | apply below_alloc | apply pw_below_drewN | apply below_drew1) | exact HB.out)))); have n4_ := Aside0.mk (below_step (by repeat (first | (with_reducible first | exact HB.out | apply below_alloc | apply pw_below_drewN | apply below_drew1) | exact HB.out)) hb); clear HO_5; clear HO_6; clear HO573; clear HB; have HO_5 := n0_; have HO_6 := n1_; have HO573 := n2_; have HO578 := n3_; have HB := n4_; clear n0_ n1_ n2_ n3_ n4_; (try clear hb); (try clear hb2); (try clear hk); (try clear hi); (try clear ho0)) | ((with_reducible refine gate_callee (f := 43) rfl ?_); refine goesL_ (some 60) rfl rfl Tryd.func43 (by kernel_rfl) rfl #[.slice Ao10 t560.length co10] rfl (by (try simp only [List.map_toArray, List.map_cons, List.map_nil]); first | done | rfl | (simp only [List.length_drop, List.length_take]; rfl)) ?_; (with_reducible refine (hanoi_Farthest.calls kj6 _ _ t560 t579 t580 _ ?side1 ?side2 A25.out).mono ?_); (case side1 => repeat (first | exact (Kd.R_reads' HO_5.out).2.2 | (with_reducible refine Kd.C_alloc ?_ _) | (with_reducible refine Kd.C_drewN ?_ _) | (with_reducible refine Kd.C_drew ?_))); (case side2 => exact (Kd.R_reads' HO_5.out).2.1); rintro e w51 ⟨rfl, hb⟩; refine ⟨_, rfl, ?_⟩; have n0_ := Aside0.mk (Kd.R_below (by (with_reducible repeat (first | apply Kd.R_alloc | apply Kd.R_drewN | apply Kd.R_drew)); exact HO_5.out) hb); have n1_ := Aside0.mk (Kd.R_below (by (with_reducible repeat (first | apply Kd.R_alloc | apply Kd.R_drewN | apply Kd.R_drew)); exact HO_6.out) hb); have n2_ := Aside0.mk (Kd.R_below (by (with_reducible repeat (first | apply Kd.R_alloc | apply Kd.R_drewN | apply Kd.R_drew)); exact HO573.out) hb); have n3_ := Aside0.mk (Kd.R_below (by (with_reducible repeat (first | apply Kd.R_alloc | apply Kd.R_drewN | apply Kd.R_drew)); exact HO578.out) hb); have n4_ := Aside0.mk (below_step (by repeat (first | (with_reducible first | exact HB.out | apply below_alloc | apply pw_below_drewN | apply below_drew1) | exact HB.out)) hb); clear HO_5; clear HO_6; clear HO573; clear HO578; clear HB; have HO_5 := n0_; have HO_6 := n1_; have HO573 := n2_; have HO578 := n3_; have HB := n4_; clear n0_ n1_ n2_ n3_ n4_; (try clear hb); (try clear hb2); (try clear hk); (try clear hi)))
                go_ret
                exact ⟨by first | rfl | (simp [errW_none, errW_some] <;> rfl) | (simp [*, errW_none, errW_some] <;> rfl), by repeat (first | (with_reducible first | exact HB.out | apply below_alloc | apply pw_below_drewN | apply below_drew1) | exact HB.out)⟩
            · rw [if_neg c26] at H
              have c26b0 : (t571 == 30) = false := beq_eq_false_iff_ne.mpr c26
              have c26b1 : (t571 != 30) = true := bne_iff_ne.mpr c26
              (first | rw [c26b0] | (simp only [i64_w, i32_w]; rw [c26b0]) | skip)
              obtain rfl := Option.some.inj H
              go_wp2_with (first | ((with_reducible refine gate_callee (f := 41) rfl ?_); refine goesL_ (some 49) rfl rfl Tryd.func41 (by kernel_rfl) rfl #[.slice Ao10 t560.length co10] rfl (by (try simp only [List.map_toArray, List.map_cons, List.map_nil]); first | done | rfl | (simp only [List.length_drop, List.length_take]; rfl)) ?_; (with_reducible refine (hanoi_Moves.calls _ _ t560 t570 t571 _ ?side1 ?side2 A23.out).mono ?_); (case side1 => repeat (first | exact (Kd.R_reads' HO_5.out).2.2 | (with_reducible refine Kd.C_alloc ?_ _) | (with_reducible refine Kd.C_drewN ?_ _) | (with_reducible refine Kd.C_drew ?_))); (case side2 => exact (Kd.R_reads' HO_5.out).2.1); rintro e w52 ⟨v572, rfl, ho0, hb⟩; refine ⟨_, rfl, ?_⟩; have n0_ := Aside0.mk (Kd.R_below (by (with_reducible repeat (first | apply Kd.R_alloc | apply Kd.R_drewN | apply Kd.R_drew)); exact HO_5.out) hb); have n1_ := Aside0.mk (Kd.R_below (by (with_reducible repeat (first | apply Kd.R_alloc | apply Kd.R_drewN | apply Kd.R_drew)); exact HO_6.out) hb); have n2_ := Aside0.mk (Kd.R_lower ho0 (below_size (by repeat (first | (with_reducible first | exact HB.out | apply below_alloc | apply pw_below_drewN | apply below_drew1) | exact HB.out)))); have n3_ := Aside0.mk (below_step (by repeat (first | (with_reducible first | exact HB.out | apply below_alloc | apply pw_below_drewN | apply below_drew1) | exact HB.out)) hb); clear HO_5; clear HO_6; clear HB; have HO_5 := n0_; have HO_6 := n1_; have HO573 := n2_; have HB := n3_; clear n0_ n1_ n2_ n3_; (try clear hb); (try clear hb2); (try clear hk); (try clear hi); (try clear ho0)) | ((with_reducible refine gate_callee (f := 56) rfl ?_); refine goesL_ (some 54) rfl rfl Tryd.func56 (by kernel_rfl) rfl #[.slice Ao10 t560.length co10, .slice none 0 0] rfl (by (try simp only [List.map_toArray, List.map_cons, List.map_nil]); first | done | rfl | (simp only [List.length_drop, List.length_take]; rfl)) ?_; (refine (hanoi_Play.calls _ _ t560 _ _ ([] : List (S52)) t574 t575 t576 _ ?side1 ?side2 ?side3 ?side4 A24.out).mono ?_); (case side1 => repeat (first | exact (Kd.R_reads' HO_5.out).2.2 | (with_reducible refine Kd.C_alloc ?_ _) | (with_reducible refine Kd.C_drewN ?_ _) | (with_reducible refine Kd.C_drew ?_))); (case side2 => exact (Kd.R_reads' HO_5.out).2.1); (case side3 => exact Kd.C_nil _ _); (case side4 => exact Nat.le_refl _); rintro e w53 ⟨v577, rfl, ho0, hb⟩; refine ⟨_, rfl, ?_⟩; have n0_ := Aside0.mk (Kd.R_elder' (by (with_reducible repeat (first | apply Kd.R_alloc | apply Kd.R_drewN | apply Kd.R_drew)); exact HO_5.out) (Kd.R_base ho0) hb); have n1_ := Aside0.mk (Kd.R_elder' (by (with_reducible repeat (first | apply Kd.R_alloc | apply Kd.R_drewN | apply Kd.R_drew)); exact HO_6.out) (Kd.R_base ho0) hb); have n2_ := Aside0.mk (Kd.R_below (by (with_reducible repeat (first | apply Kd.R_alloc | apply Kd.R_drewN | apply Kd.R_drew)); exact HO573.out) hb); have n3_ := Aside0.mk (Kd.R_lower (Kd.R_new' (Kd.R_new' ho0 (Kd.R_lt (by (with_reducible repeat (first | apply Kd.R_alloc | apply Kd.R_drewN | apply Kd.R_drew)); exact HO_5.out))) (Kd.R_lt (by (with_reducible repeat (first | apply Kd.R_alloc | apply Kd.R_drewN | apply Kd.R_drew)); exact HO_6.out))) (below_size (by repeat (first | (with_reducible first | exact HB.out | apply below_alloc | apply pw_below_drewN | apply below_drew1) | exact HB.out)))); have n4_ := Aside0.mk (below_step (by repeat (first | (with_reducible first | exact HB.out | apply below_alloc | apply pw_below_drewN | apply below_drew1) | exact HB.out)) hb); clear HO_5; clear HO_6; clear HO573; clear HB; have HO_5 := n0_; have HO_6 := n1_; have HO573 := n2_; have HO578 := n3_; have HB := n4_; clear n0_ n1_ n2_ n3_ n4_; (try clear hb); (try clear hb2); (try clear hk); (try clear hi); (try clear ho0)) | ((with_reducible refine gate_callee (f := 43) rfl ?_); refine goesL_ (some 60) rfl rfl Tryd.func43 (by kernel_rfl) rfl #[.slice Ao10 t560.length co10] rfl (by (try simp only [List.map_toArray, List.map_cons, List.map_nil]); first | done | rfl | (simp only [List.length_drop, List.length_take]; rfl)) ?_; (with_reducible refine (hanoi_Farthest.calls kj6 _ _ t560 t579 t580 _ ?side1 ?side2 A25.out).mono ?_); (case side1 => repeat (first | exact (Kd.R_reads' HO_5.out).2.2 | (with_reducible refine Kd.C_alloc ?_ _) | (with_reducible refine Kd.C_drewN ?_ _) | (with_reducible refine Kd.C_drew ?_))); (case side2 => exact (Kd.R_reads' HO_5.out).2.1); rintro e w54 ⟨rfl, hb⟩; refine ⟨_, rfl, ?_⟩; have n0_ := Aside0.mk (Kd.R_below (by (with_reducible repeat (first | apply Kd.R_alloc | apply Kd.R_drewN | apply Kd.R_drew)); exact HO_5.out) hb); have n1_ := Aside0.mk (Kd.R_below (by (with_reducible repeat (first | apply Kd.R_alloc | apply Kd.R_drewN | apply Kd.R_drew)); exact HO_6.out) hb); have n2_ := Aside0.mk (Kd.R_below (by (with_reducible repeat (first | apply Kd.R_alloc | apply Kd.R_drewN | apply Kd.R_drew)); exact HO573.out) hb); have n3_ := Aside0.mk (Kd.R_below (by (with_reducible repeat (first | apply Kd.R_alloc | apply Kd.R_drewN | apply Kd.R_drew)); exact HO578.out) hb); have n4_ := Aside0.mk (below_step (by repeat (first | (with_reducible first | exact HB.out | apply below_alloc | apply pw_below_drewN | apply below_drew1) | exact HB.out)) hb); clear HO_5; clear HO_6; clear HO573; clear HO578; clear HB; have HO_5 := n0_; have HO_6 := n1_; have HO573 := n2_; have HO578 := n3_; have HB := n4_; clear n0_ n1_ n2_ n3_ n4_; (try clear hb); (try clear hb2); (try clear hk); (try clear hi)))
              go_ret
              exact ⟨by first | rfl | (simp [errW_none, errW_some] <;> rfl) | (simp [*, errW_none, errW_some] <;> rfl), by repeat (first | (with_reducible first | exact HB.out | apply below_alloc | apply pw_below_drewN | apply below_drew1) | exact HB.out)⟩
        case rest =>
          clear HC21
          try clear c1
          try clear c2
          try clear p2
          try clear c3
          try clear c4
          try clear c5
          try clear c6
          try clear p6
          try clear c13
          try clear c13b0
          try clear c13b1
          try clear c13b2
          try clear c15
          try clear c20
          try clear c22
          try clear c26
          try clear c26b0
          try clear c26b1
          try clear c27
          try clear c27b0
          try clear c27b1
          try clear c28
          try clear c28b0
          try clear c28b1
          try clear c29
          try clear c29b0
          try clear c29b1
          try clear c30
          try clear c30b0
          try clear c30b1
          try clear c41
          try clear c43
          try clear p2
          obtain ⟨kq, HA, HJ20, HO_5, HO_6, HB⟩ := hcut
          cases kq with
          | zero => exact absurd HA.out (by simp [bibelotlaw03_HanoiChecks.j1])
          | succ kj20 =>
            have H := HA.out
            clear HA
            simp only [bibelotlaw03_HanoiChecks.j1] at H
            have HC55 := Aside0.mk H
            clear H
            go_upto_region 12 with (fail)
            go_cut [92] (fun v92 wc => ∃ (kq : Nat) (x92_54 : Bool), v92 = .bool x92_54 ∧ Aside0 (bibelotlaw03_HanoiChecks.j2 kq t560 t563 0 x92_54 = some r) ∧ Aside0 (kq ≤ kj20) ∧ Aside0 (Kd.R (Kd.int .i64) 3 wc w.heap.size (fun k_ => some k_ ≠ ((.slice Ao11 t563.length co11) : Value).ownBlock) (.slice Ao10 t560.length co10) t560) ∧ Aside0 (Kd.R (Kd.int .i64) 3 wc w.heap.size (fun k_ => some k_ ≠ ((.slice Ao10 t560.length co10) : Value).ownBlock) (.slice Ao11 t563.length co11) t563) ∧ Aside0 (Below w.heap.size w wc))
            case first =>
              have H := HC55.out
              clear HC55
              by_cases c56 : t566 = true
              · subst c56
                have H1 : (bibelotlaw03_HanoiChecks.j2 kj20 t560 t563 0 (!t567)) = some r := by rw [if_pos rfl] at H; exact H
                clear H
                have H := H1
                clear H1
                have H' := Aside0.mk H
                clear H
                go_wp2
                go_meet
                case rel => exact ⟨_, (!t567), (by first | rfl | (simp; done) | (simp [*]; done)), H', ⟨by have := HJ6.out; have := HJ20.out; first | omega | exact Nat.le_refl _⟩, ⟨by (with_reducible repeat (first | apply Kd.R_alloc | apply Kd.R_drewN | apply Kd.R_drew)); exact HO_5.out⟩, ⟨by (with_reducible repeat (first | apply Kd.R_alloc | apply Kd.R_drewN | apply Kd.R_drew)); exact HO_6.out⟩, ⟨by repeat (first | (with_reducible first | exact HB.out | apply below_alloc | apply pw_below_drewN | apply below_drew1) | exact HB.out)⟩⟩
              · replace c56 := Bool.eq_false_iff.mpr c56
                subst c56
                have H1 : (bibelotlaw03_HanoiChecks.j2 kj20 t560 t563 0 true) = some r := by rw [if_neg (show ¬ (false = true) by decide)] at H; exact H
                clear H
                have H := H1
                clear H1
                have H' := Aside0.mk H
                clear H
                go_wp2
                go_meet
                case rel => exact ⟨_, (true), (by first | rfl | (simp; done) | (simp [*]; done)), H', ⟨by have := HJ6.out; have := HJ20.out; first | omega | exact Nat.le_refl _⟩, ⟨by (with_reducible repeat (first | apply Kd.R_alloc | apply Kd.R_drewN | apply Kd.R_drew)); exact HO_5.out⟩, ⟨by (with_reducible repeat (first | apply Kd.R_alloc | apply Kd.R_drewN | apply Kd.R_drew)); exact HO_6.out⟩, ⟨by repeat (first | (with_reducible first | exact HB.out | apply below_alloc | apply pw_below_drewN | apply below_drew1) | exact HB.out)⟩⟩
            case rest =>
              clear HC55
              try clear c1
              try clear c2
              try clear p2
              try clear c3
              try clear c4
              try clear c5
              try clear c6
              try clear p6
              try clear c13
              try clear c13b0
              try clear c13b1
              try clear c13b2
              try clear c15
              try clear c20
              try clear c22
              try clear c26
              try clear c26b0
              try clear c26b1
              try clear c27
              try clear c27b0
              try clear c27b1
              try clear c28
              try clear c28b0
              try clear c28b1
              try clear c29
              try clear c29b0
              try clear c29b1
              try clear c30
              try clear c30b0
              try clear c30b1
              try clear c41
              try clear c43
              try clear c56
              try clear p2
              try clear p6
              obtain ⟨kq, x92_54, rfl, HA, HJ54, HO_5, HO_6, HB⟩ := hcut
              cases kq with
              | zero => exact absurd HA.out (by simp [bibelotlaw03_HanoiChecks.j2])
              | succ kj54 =>
                have H := HA.out
                clear HA
                simp only [bibelotlaw03_HanoiChecks.j2] at H
                have HC57 := Aside0.mk H
                clear H
                go_upto_if 92 with (fail)
                go_cut [16] (fun v16 wc => ∃ (kq : Nat) (x16_56 : Int), v16 = .int .i64 x16_56 ∧ Aside0 (bibelotlaw03_HanoiChecks.j3 kq t560 t563 x16_56 = some r) ∧ Aside0 (kq ≤ kj54) ∧ Aside0 (Kd.R (Kd.int .i64) 3 wc w.heap.size (fun k_ => some k_ ≠ ((.slice Ao11 t563.length co11) : Value).ownBlock) (.slice Ao10 t560.length co10) t560) ∧ Aside0 (Kd.R (Kd.int .i64) 3 wc w.heap.size (fun k_ => some k_ ≠ ((.slice Ao10 t560.length co10) : Value).ownBlock) (.slice Ao11 t563.length co11) t563) ∧ Aside0 (Below w.heap.size w wc))
                case first =>
                  have H := HC57.out
                  clear HC57
                  by_cases c58 : x92_54 = true
                  · subst c58
                    have H1 : (bibelotlaw03_HanoiChecks.j3 kj54 t560 t563 30) = some r := by rw [if_pos rfl] at H; exact H
                    clear H
                    have H := H1
                    clear H1
                    have H' := Aside0.mk H
                    clear H
                    go_wp2
                    go_meet
                    case rel => exact ⟨_, (30), (by first | rfl | (simp; done) | (simp [*]; done)), H', ⟨by have := HJ6.out; have := HJ20.out; have := HJ54.out; first | omega | exact Nat.le_refl _⟩, ⟨by (with_reducible repeat (first | apply Kd.R_alloc | apply Kd.R_drewN | apply Kd.R_drew)); exact HO_5.out⟩, ⟨by (with_reducible repeat (first | apply Kd.R_alloc | apply Kd.R_drewN | apply Kd.R_drew)); exact HO_6.out⟩, ⟨by repeat (first | (with_reducible first | exact HB.out | apply below_alloc | apply pw_below_drewN | apply below_drew1) | exact HB.out)⟩⟩
                  · replace c58 := Bool.eq_false_iff.mpr c58
                    subst c58
                    have H1 : (if (t560.length : Int) = (t563.length : Int) then (bibelotlaw03_HanoiChecks.j3 kj54 t560 t563 0) else (bibelotlaw03_HanoiChecks.j3 kj54 t560 t563 6)) = some r := by rw [if_neg (show ¬ (false = true) by decide)] at H; exact H
                    clear H
                    have H := H1
                    clear H1
                    by_cases c59 : (t560.length : Int) = (t563.length : Int)
                    · rw [if_pos c59] at H
                      have c59b0 : ((t560.length : Int) == (t563.length : Int)) = true := beq_iff_eq.mpr c59
                      have c59b1 : ((t560.length : Int) != (t563.length : Int)) = false := bne_eq_false_iff_eq.mpr c59
                      have c59b2 : (t560.length == t563.length) = true := by first | simpa using c59 | (simp at c59 ⊢; omega)
                      clear c59
                      (first | rw [c59b0] | (simp only [i64_w, i32_w]; rw [c59b0]) | skip)
                      have H' := Aside0.mk H
                      clear H
                      go_wp2
                      go_meet
                      case rel => exact ⟨_, (0), (by first | rfl | (simp; done) | (simp [*]; done)), H', ⟨by have := HJ6.out; have := HJ20.out; have := HJ54.out; first | omega | exact Nat.le_refl _⟩, ⟨by (with_reducible repeat (first | apply Kd.R_alloc | apply Kd.R_drewN | apply Kd.R_drew)); exact HO_5.out⟩, ⟨by (with_reducible repeat (first | apply Kd.R_alloc | apply Kd.R_drewN | apply Kd.R_drew)); exact HO_6.out⟩, ⟨by repeat (first | (with_reducible first | exact HB.out | apply below_alloc | apply pw_below_drewN | apply below_drew1) | exact HB.out)⟩⟩
                    · rw [if_neg c59] at H
                      have c59b0 : ((t560.length : Int) == (t563.length : Int)) = false := beq_eq_false_iff_ne.mpr c59
                      have c59b1 : ((t560.length : Int) != (t563.length : Int)) = true := bne_iff_ne.mpr c59
                      have c59b2 : (t560.length == t563.length) = false := by first | simpa using c59 | (simp at c59 ⊢; omega)
                      (first | rw [c59b0] | (simp only [i64_w, i32_w]; rw [c59b0]) | skip)
                      have H' := Aside0.mk H
                      clear H
                      go_wp2
                      go_meet
                      case rel => exact ⟨_, (6), (by first | rfl | (simp; done) | (simp [*]; done)), H', ⟨by have := HJ6.out; have := HJ20.out; have := HJ54.out; first | omega | exact Nat.le_refl _⟩, ⟨by (with_reducible repeat (first | apply Kd.R_alloc | apply Kd.R_drewN | apply Kd.R_drew)); exact HO_5.out⟩, ⟨by (with_reducible repeat (first | apply Kd.R_alloc | apply Kd.R_drewN | apply Kd.R_drew)); exact HO_6.out⟩, ⟨by repeat (first | (with_reducible first | exact HB.out | apply below_alloc | apply pw_below_drewN | apply below_drew1) | exact HB.out)⟩⟩
                case rest =>
                  clear HC57
                  try clear c1
                  try clear c2
                  try clear p2
                  try clear c3
                  try clear c4
                  try clear c5
                  try clear c6
                  try clear p6
                  try clear c13
                  try clear c13b0
                  try clear c13b1
                  try clear c13b2
                  try clear c15
                  try clear c20
                  try clear c22
                  try clear c26
                  try clear c26b0
                  try clear c26b1
                  try clear c27
                  try clear c27b0
                  try clear c27b1
                  try clear c28
                  try clear c28b0
                  try clear c28b1
                  try clear c29
                  try clear c29b0
                  try clear c29b1
                  try clear c30
                  try clear c30b0
                  try clear c30b1
                  try clear c41
                  try clear c43
                  try clear c56
                  try clear c58
                  try clear c59
                  try clear c59b0
                  try clear c59b1
                  try clear c59b2
                  try clear p2
                  try clear p6
                  obtain ⟨kq, x16_56, rfl, HA, HJ56, HO_5, HO_6, HB⟩ := hcut
                  cases kq with
                  | zero => exact absurd HA.out (by simp [bibelotlaw03_HanoiChecks.j3])
                  | succ kj56 =>
                    have H := HA.out
                    clear HA
                    simp only [bibelotlaw03_HanoiChecks.j3] at H
                    by_cases c60 : x16_56 = 0
                    · rw [if_pos c60] at H
                      have c60b0 : (x16_56 == 0) = true := beq_iff_eq.mpr c60
                      have c60b1 : (x16_56 != 0) = false := bne_eq_false_iff_eq.mpr c60
                      clear c60
                      replace H := Option.bind_eq_some_iff.mp H
                      obtain ⟨t581, A610, H⟩ := H
                      replace H : (some t581) = some r := H
                      have A61 := Aside0.mk A610
                      clear A610
                      obtain rfl := Option.some.inj H
                      go_wp2_with (first | ((with_reducible refine gate_callee (f := 26) rfl ?_); refine goesL_ (some 100) rfl rfl Tryd.func26 (by kernel_rfl) rfl #[] rfl (by (try simp only [List.map_toArray, List.map_cons, List.map_nil]); first | done | rfl | (simp only [List.length_drop, List.length_take]; rfl)) ?_; (with_reducible refine (bibelotlaw03_awake.calls kj56  t581 _ A61.out).mono ?_); rintro e w62 ⟨rfl, hb⟩; refine ⟨_, rfl, ?_⟩; have n0_ := Aside0.mk (Kd.R_below (by (with_reducible repeat (first | apply Kd.R_alloc | apply Kd.R_drewN | apply Kd.R_drew)); exact HO_5.out) hb); have n1_ := Aside0.mk (Kd.R_below (by (with_reducible repeat (first | apply Kd.R_alloc | apply Kd.R_drewN | apply Kd.R_drew)); exact HO_6.out) hb); have n2_ := Aside0.mk (below_step (by repeat (first | (with_reducible first | exact HB.out | apply below_alloc | apply pw_below_drewN | apply below_drew1) | exact HB.out)) hb); clear HO_5; clear HO_6; clear HB; have HO_5 := n0_; have HO_6 := n1_; have HB := n2_; clear n0_ n1_ n2_; (try clear hb); (try clear hb2); (try clear hk); (try clear hi)))
                      go_ret
                      exact ⟨by first | rfl | (simp [errW_none, errW_some] <;> rfl) | (simp [*, errW_none, errW_some] <;> rfl), by repeat (first | (with_reducible first | exact HB.out | apply below_alloc | apply pw_below_drewN | apply below_drew1) | exact HB.out)⟩
                    · rw [if_neg c60] at H
                      have c60b0 : (x16_56 == 0) = false := beq_eq_false_iff_ne.mpr c60
                      have c60b1 : (x16_56 != 0) = true := bne_iff_ne.mpr c60
                      replace H := Option.bind_eq_some_iff.mp H
                      obtain ⟨⟨t582, t583⟩, A630, H⟩ := H
                      replace H : ((hanoi_Kind.f kj56 t560 t563).bind fun bt584 => ((hanoi_Way.f t560 t563).bind fun bt586 => (if t583 = x16_56 then (if bt584.2 = x16_56 then (if bt586.2 = x16_56 then (if t582 = 0 then (if (wrap64 (bt584.1 + (bt586.1.length : Int))) = 0 then ((bibelotlaw03_awake.f kj56).bind fun t590 => (some t590)) else (some false)) else (some false)) else (some false)) else (some false)) else (some false)))) = some r := H
                      have A63 := Aside0.mk A630
                      clear A630
                      replace H := Option.bind_eq_some_iff.mp H
                      obtain ⟨⟨t584, t585⟩, A640, H⟩ := H
                      replace H : ((hanoi_Way.f t560 t563).bind fun bt586 => (if t583 = x16_56 then (if t585 = x16_56 then (if bt586.2 = x16_56 then (if t582 = 0 then (if (wrap64 (t584 + (bt586.1.length : Int))) = 0 then ((bibelotlaw03_awake.f kj56).bind fun t590 => (some t590)) else (some false)) else (some false)) else (some false)) else (some false)) else (some false))) = some r := H
                      have A64 := Aside0.mk A640
                      clear A640
                      replace H := Option.bind_eq_some_iff.mp H
                      obtain ⟨⟨t586, t587⟩, A650, H⟩ := H
                      replace H : (if t583 = x16_56 then (if t585 = x16_56 then (if t587 = x16_56 then (if t582 = 0 then (if (wrap64 (t584 + (t586.length : Int))) = 0 then ((bibelotlaw03_awake.f kj56).bind fun t590 => (some t590)) else (some false)) else (some false)) else (some false)) else (some false)) else (some false)) = some r := H
                      have A65 := Aside0.mk A650
                      clear A650
                      by_cases c66 : t583 = x16_56
                      · rw [if_pos c66] at H
                        have c66b0 : (t583 == x16_56) = true := beq_iff_eq.mpr c66
                        have c66b1 : (t583 != x16_56) = false := bne_eq_false_iff_eq.mpr c66
                        clear c66
                        by_cases c67 : t585 = x16_56
                        · rw [if_pos c67] at H
                          have c67b0 : (t585 == x16_56) = true := beq_iff_eq.mpr c67
                          have c67b1 : (t585 != x16_56) = false := bne_eq_false_iff_eq.mpr c67
                          clear c67
                          by_cases c68 : t587 = x16_56
                          · rw [if_pos c68] at H
                            have c68b0 : (t587 == x16_56) = true := beq_iff_eq.mpr c68
                            have c68b1 : (t587 != x16_56) = false := bne_eq_false_iff_eq.mpr c68
                            clear c68
                            by_cases c69 : t582 = 0
                            · rw [if_pos c69] at H
                              have c69b0 : (t582 == 0) = true := beq_iff_eq.mpr c69
                              have c69b1 : (t582 != 0) = false := bne_eq_false_iff_eq.mpr c69
                              clear c69
                              by_cases c70 : (wrap64 (t584 + (t586.length : Int))) = 0
                              · rw [if_pos c70] at H
                                have c70b0 : ((wrap64 (t584 + (t586.length : Int))) == 0) = true := beq_iff_eq.mpr c70
                                have c70b1 : ((wrap64 (t584 + (t586.length : Int))) != 0) = false := bne_eq_false_iff_eq.mpr c70
                                clear c70
                                replace H := Option.bind_eq_some_iff.mp H
                                obtain ⟨t590, A710, H⟩ := H
                                replace H : (some t590) = some r := H
                                have A71 := Aside0.mk A710
                                clear A710
                                obtain rfl := Option.some.inj H
                                go_wp2_with (first | ((with_reducible refine gate_callee (f := 44) rfl ?_); refine goesL_ (some 104) rfl rfl Tryd.func44 (by kernel_rfl) rfl #[.slice Ao10 t560.length co10, .slice Ao11 t563.length co11] rfl (by (try simp only [List.map_toArray, List.map_cons, List.map_nil]); first | done | rfl | (simp only [List.length_drop, List.length_take]; rfl)) ?_; (with_reducible refine (hanoi_Distance.calls kj56 (fun k_ => some k_ = (.slice Ao10 t560.length co10 : Value).ownBlock) _ _ t560 (fun k_ => some k_ = (.slice Ao11 t563.length co11 : Value).ownBlock) _ _ t563 t582 t583 _ ?side1 ?side2 A63.out).mono ?_); (case side1 => exact Kd.R_V (Kd.R_tight rfl (HO_5.out))); (case side2 => exact Kd.R_V (Kd.R_tight rfl (HO_6.out))); rintro e w72 ⟨rfl, hb⟩; refine ⟨_, rfl, ?_⟩; have n0_ := Aside0.mk (Kd.R_below (by (with_reducible repeat (first | apply Kd.R_alloc | apply Kd.R_drewN | apply Kd.R_drew)); exact HO_5.out) hb); have n1_ := Aside0.mk (Kd.R_below (by (with_reducible repeat (first | apply Kd.R_alloc | apply Kd.R_drewN | apply Kd.R_drew)); exact HO_6.out) hb); have n2_ := Aside0.mk (below_step (by repeat (first | (with_reducible first | exact HB.out | apply below_alloc | apply pw_below_drewN | apply below_drew1) | exact HB.out)) hb); clear HO_5; clear HO_6; clear HB; have HO_5 := n0_; have HO_6 := n1_; have HB := n2_; clear n0_ n1_ n2_; (try clear hb); (try clear hb2); (try clear hk); (try clear hi)) | ((with_reducible refine gate_callee (f := 47) rfl ?_); refine goesL_ (some 110) rfl rfl Tryd.func47 (by kernel_rfl) rfl #[.slice Ao10 t560.length co10, .slice Ao11 t563.length co11] rfl (by (try simp only [List.map_toArray, List.map_cons, List.map_nil]); first | done | rfl | (simp only [List.length_drop, List.length_take]; rfl)) ?_; (with_reducible refine (hanoi_Kind.calls kj56 (fun k_ => some k_ = (.slice Ao10 t560.length co10 : Value).ownBlock) _ _ t560 (fun k_ => some k_ = (.slice Ao11 t563.length co11 : Value).ownBlock) _ _ t563 t584 t585 _ ?side1 ?side2 A64.out).mono ?_); (case side1 => exact Kd.R_V (Kd.R_tight rfl (HO_5.out))); (case side2 => exact Kd.R_V (Kd.R_tight rfl (HO_6.out))); rintro e w73 ⟨rfl, hb⟩; refine ⟨_, rfl, ?_⟩; have n0_ := Aside0.mk (Kd.R_below (by (with_reducible repeat (first | apply Kd.R_alloc | apply Kd.R_drewN | apply Kd.R_drew)); exact HO_5.out) hb); have n1_ := Aside0.mk (Kd.R_below (by (with_reducible repeat (first | apply Kd.R_alloc | apply Kd.R_drewN | apply Kd.R_drew)); exact HO_6.out) hb); have n2_ := Aside0.mk (below_step (by repeat (first | (with_reducible first | exact HB.out | apply below_alloc | apply pw_below_drewN | apply below_drew1) | exact HB.out)) hb); clear HO_5; clear HO_6; clear HB; have HO_5 := n0_; have HO_6 := n1_; have HB := n2_; clear n0_ n1_ n2_; (try clear hb); (try clear hb2); (try clear hk); (try clear hi)) | ((with_reducible refine gate_callee (f := 59) rfl ?_); refine goesL_ (some 116) rfl rfl Tryd.func59 (by kernel_rfl) rfl #[.slice Ao10 t560.length co10, .slice Ao11 t563.length co11] rfl (by (try simp only [List.map_toArray, List.map_cons, List.map_nil]); first | done | rfl | (simp only [List.length_drop, List.length_take]; rfl)) ?_; (with_reducible refine (hanoi_Way.calls _ _ t560 _ _ t563 t586 t587 _ ?side1 ?side2 ?side3 ?side4 A65.out).mono ?_); (case side1 => repeat (first | exact (Kd.R_reads' HO_5.out).2.2 | (with_reducible refine Kd.C_alloc ?_ _) | (with_reducible refine Kd.C_drewN ?_ _) | (with_reducible refine Kd.C_drew ?_))); (case side2 => exact (Kd.R_reads' HO_5.out).2.1); (case side3 => repeat (first | exact (Kd.R_reads' HO_6.out).2.2 | (with_reducible refine Kd.C_alloc ?_ _) | (with_reducible refine Kd.C_drewN ?_ _) | (with_reducible refine Kd.C_drew ?_))); (case side4 => exact (Kd.R_reads' HO_6.out).2.1); rintro e w74 ⟨v588, rfl, ho0, hb⟩; refine ⟨_, rfl, ?_⟩; have n0_ := Aside0.mk (Kd.R_below (by (with_reducible repeat (first | apply Kd.R_alloc | apply Kd.R_drewN | apply Kd.R_drew)); exact HO_5.out) hb); have n1_ := Aside0.mk (Kd.R_below (by (with_reducible repeat (first | apply Kd.R_alloc | apply Kd.R_drewN | apply Kd.R_drew)); exact HO_6.out) hb); have n2_ := Aside0.mk (Kd.R_lower ho0 (below_size (by repeat (first | (with_reducible first | exact HB.out | apply below_alloc | apply pw_below_drewN | apply below_drew1) | exact HB.out)))); have n3_ := Aside0.mk (below_step (by repeat (first | (with_reducible first | exact HB.out | apply below_alloc | apply pw_below_drewN | apply below_drew1) | exact HB.out)) hb); clear HO_5; clear HO_6; clear HB; have HO_5 := n0_; have HO_6 := n1_; have HO589 := n2_; have HB := n3_; clear n0_ n1_ n2_ n3_; (try clear hb); (try clear hb2); (try clear hk); (try clear hi); (try clear ho0); obtain ⟨Ao75, co75, eo75⟩ := Kd.R_slice HO589.out; subst eo75) | (go_at_call 26; (with_reducible refine (bibelotlaw03_awake.calls kj56  t590 _ A71.out).mono ?_); rintro e w76 ⟨rfl, hb⟩; have n0_ := Aside0.mk (Kd.R_below (by (with_reducible repeat (first | apply Kd.R_alloc | apply Kd.R_drewN | apply Kd.R_drew)); exact HO_5.out) hb); have n1_ := Aside0.mk (Kd.R_below (by (with_reducible repeat (first | apply Kd.R_alloc | apply Kd.R_drewN | apply Kd.R_drew)); exact HO_6.out) hb); have n2_ := Aside0.mk (Kd.R_below (by (with_reducible repeat (first | apply Kd.R_alloc | apply Kd.R_drewN | apply Kd.R_drew)); exact HO589.out) hb); have n3_ := Aside0.mk (below_step (by repeat (first | (with_reducible first | exact HB.out | apply below_alloc | apply pw_below_drewN | apply below_drew1) | exact HB.out)) hb); clear HO_5; clear HO_6; clear HO589; clear HB; have HO_5 := n0_; have HO_6 := n1_; have HO589 := n2_; have HB := n3_; clear n0_ n1_ n2_ n3_; (try clear hb); (try clear hb2); (try clear hk); (try clear hi)))
                                go_ret
                                exact ⟨by first | rfl | (simp [errW_none, errW_some] <;> rfl) | (simp [*, errW_none, errW_some] <;> rfl), by repeat (first | (with_reducible first | exact HB.out | apply below_alloc | apply pw_below_drewN | apply below_drew1) | exact HB.out)⟩
                              · rw [if_neg c70] at H
                                have c70b0 : ((wrap64 (t584 + (t586.length : Int))) == 0) = false := beq_eq_false_iff_ne.mpr c70
                                have c70b1 : ((wrap64 (t584 + (t586.length : Int))) != 0) = true := bne_iff_ne.mpr c70
                                obtain rfl := Option.some.inj H
                                go_wp2_with (first | ((with_reducible refine gate_callee (f := 44) rfl ?_); refine goesL_ (some 104) rfl rfl Tryd.func44 (by kernel_rfl) rfl #[.slice Ao10 t560.length co10, .slice Ao11 t563.length co11] rfl (by (try simp only [List.map_toArray, List.map_cons, List.map_nil]); first | done | rfl | (simp only [List.length_drop, List.length_take]; rfl)) ?_; (with_reducible refine (hanoi_Distance.calls kj56 (fun k_ => some k_ = (.slice Ao10 t560.length co10 : Value).ownBlock) _ _ t560 (fun k_ => some k_ = (.slice Ao11 t563.length co11 : Value).ownBlock) _ _ t563 t582 t583 _ ?side1 ?side2 A63.out).mono ?_); (case side1 => exact Kd.R_V (Kd.R_tight rfl (HO_5.out))); (case side2 => exact Kd.R_V (Kd.R_tight rfl (HO_6.out))); rintro e w77 ⟨rfl, hb⟩; refine ⟨_, rfl, ?_⟩; have n0_ := Aside0.mk (Kd.R_below (by (with_reducible repeat (first | apply Kd.R_alloc | apply Kd.R_drewN | apply Kd.R_drew)); exact HO_5.out) hb); have n1_ := Aside0.mk (Kd.R_below (by (with_reducible repeat (first | apply Kd.R_alloc | apply Kd.R_drewN | apply Kd.R_drew)); exact HO_6.out) hb); have n2_ := Aside0.mk (below_step (by repeat (first | (with_reducible first | exact HB.out | apply below_alloc | apply pw_below_drewN | apply below_drew1) | exact HB.out)) hb); clear HO_5; clear HO_6; clear HB; have HO_5 := n0_; have HO_6 := n1_; have HB := n2_; clear n0_ n1_ n2_; (try clear hb); (try clear hb2); (try clear hk); (try clear hi)) | ((with_reducible refine gate_callee (f := 47) rfl ?_); refine goesL_ (some 110) rfl rfl Tryd.func47 (by kernel_rfl) rfl #[.slice Ao10 t560.length co10, .slice Ao11 t563.length co11] rfl (by (try simp only [List.map_toArray, List.map_cons, List.map_nil]); first | done | rfl | (simp only [List.length_drop, List.length_take]; rfl)) ?_; (with_reducible refine (hanoi_Kind.calls kj56 (fun k_ => some k_ = (.slice Ao10 t560.length co10 : Value).ownBlock) _ _ t560 (fun k_ => some k_ = (.slice Ao11 t563.length co11 : Value).ownBlock) _ _ t563 t584 t585 _ ?side1 ?side2 A64.out).mono ?_); (case side1 => exact Kd.R_V (Kd.R_tight rfl (HO_5.out))); (case side2 => exact Kd.R_V (Kd.R_tight rfl (HO_6.out))); rintro e w78 ⟨rfl, hb⟩; refine ⟨_, rfl, ?_⟩; have n0_ := Aside0.mk (Kd.R_below (by (with_reducible repeat (first | apply Kd.R_alloc | apply Kd.R_drewN | apply Kd.R_drew)); exact HO_5.out) hb); have n1_ := Aside0.mk (Kd.R_below (by (with_reducible repeat (first | apply Kd.R_alloc | apply Kd.R_drewN | apply Kd.R_drew)); exact HO_6.out) hb); have n2_ := Aside0.mk (below_step (by repeat (first | (with_reducible first | exact HB.out | apply below_alloc | apply pw_below_drewN | apply below_drew1) | exact HB.out)) hb); clear HO_5; clear HO_6; clear HB; have HO_5 := n0_; have HO_6 := n1_; have HB := n2_; clear n0_ n1_ n2_; (try clear hb); (try clear hb2); (try clear hk); (try clear hi)) | ((with_reducible refine gate_callee (f := 59) rfl ?_); refine goesL_ (some 116) rfl rfl Tryd.func59 (by kernel_rfl) rfl #[.slice Ao10 t560.length co10, .slice Ao11 t563.length co11] rfl (by (try simp only [List.map_toArray, List.map_cons, List.map_nil]); first | done | rfl | (simp only [List.length_drop, List.length_take]; rfl)) ?_; (with_reducible refine (hanoi_Way.calls _ _ t560 _ _ t563 t586 t587 _ ?side1 ?side2 ?side3 ?side4 A65.out).mono ?_); (case side1 => repeat (first | exact (Kd.R_reads' HO_5.out).2.2 | (with_reducible refine Kd.C_alloc ?_ _) | (with_reducible refine Kd.C_drewN ?_ _) | (with_reducible refine Kd.C_drew ?_))); (case side2 => exact (Kd.R_reads' HO_5.out).2.1); (case side3 => repeat (first | exact (Kd.R_reads' HO_6.out).2.2 | (with_reducible refine Kd.C_alloc ?_ _) | (with_reducible refine Kd.C_drewN ?_ _) | (with_reducible refine Kd.C_drew ?_))); (case side4 => exact (Kd.R_reads' HO_6.out).2.1); rintro e w79 ⟨v588, rfl, ho0, hb⟩; refine ⟨_, rfl, ?_⟩; have n0_ := Aside0.mk (Kd.R_below (by (with_reducible repeat (first | apply Kd.R_alloc | apply Kd.R_drewN | apply Kd.R_drew)); exact HO_5.out) hb); have n1_ := Aside0.mk (Kd.R_below (by (with_reducible repeat (first | apply Kd.R_alloc | apply Kd.R_drewN | apply Kd.R_drew)); exact HO_6.out) hb); have n2_ := Aside0.mk (Kd.R_lower ho0 (below_size (by repeat (first | (with_reducible first | exact HB.out | apply below_alloc | apply pw_below_drewN | apply below_drew1) | exact HB.out)))); have n3_ := Aside0.mk (below_step (by repeat (first | (with_reducible first | exact HB.out | apply below_alloc | apply pw_below_drewN | apply below_drew1) | exact HB.out)) hb); clear HO_5; clear HO_6; clear HB; have HO_5 := n0_; have HO_6 := n1_; have HO589 := n2_; have HB := n3_; clear n0_ n1_ n2_ n3_; (try clear hb); (try clear hb2); (try clear hk); (try clear hi); (try clear ho0); obtain ⟨Ao80, co80, eo80⟩ := Kd.R_slice HO589.out; subst eo80))
                                go_ret
                                exact ⟨by first | rfl | (simp [errW_none, errW_some] <;> rfl) | (simp [*, errW_none, errW_some] <;> rfl), by repeat (first | (with_reducible first | exact HB.out | apply below_alloc | apply pw_below_drewN | apply below_drew1) | exact HB.out)⟩
                            · rw [if_neg c69] at H
                              have c69b0 : (t582 == 0) = false := beq_eq_false_iff_ne.mpr c69
                              have c69b1 : (t582 != 0) = true := bne_iff_ne.mpr c69
                              obtain rfl := Option.some.inj H
                              go_wp2_with (first | ((with_reducible refine gate_callee (f := 44) rfl ?_); refine goesL_ (some 104) rfl rfl Tryd.func44 (by kernel_rfl) rfl #[.slice Ao10 t560.length co10, .slice Ao11 t563.length co11] rfl (by (try simp only [List.map_toArray, List.map_cons, List.map_nil]); first | done | rfl | (simp only [List.length_drop, List.length_take]; rfl)) ?_; (with_reducible refine (hanoi_Distance.calls kj56 (fun k_ => some k_ = (.slice Ao10 t560.length co10 : Value).ownBlock) _ _ t560 (fun k_ => some k_ = (.slice Ao11 t563.length co11 : Value).ownBlock) _ _ t563 t582 t583 _ ?side1 ?side2 A63.out).mono ?_); (case side1 => exact Kd.R_V (Kd.R_tight rfl (HO_5.out))); (case side2 => exact Kd.R_V (Kd.R_tight rfl (HO_6.out))); rintro e w81 ⟨rfl, hb⟩; refine ⟨_, rfl, ?_⟩; have n0_ := Aside0.mk (Kd.R_below (by (with_reducible repeat (first | apply Kd.R_alloc | apply Kd.R_drewN | apply Kd.R_drew)); exact HO_5.out) hb); have n1_ := Aside0.mk (Kd.R_below (by (with_reducible repeat (first | apply Kd.R_alloc | apply Kd.R_drewN | apply Kd.R_drew)); exact HO_6.out) hb); have n2_ := Aside0.mk (below_step (by repeat (first | (with_reducible first | exact HB.out | apply below_alloc | apply pw_below_drewN | apply below_drew1) | exact HB.out)) hb); clear HO_5; clear HO_6; clear HB; have HO_5 := n0_; have HO_6 := n1_; have HB := n2_; clear n0_ n1_ n2_; (try clear hb); (try clear hb2); (try clear hk); (try clear hi)) | ((with_reducible refine gate_callee (f := 47) rfl ?_); refine goesL_ (some 110) rfl rfl Tryd.func47 (by kernel_rfl) rfl #[.slice Ao10 t560.length co10, .slice Ao11 t563.length co11] rfl (by (try simp only [List.map_toArray, List.map_cons, List.map_nil]); first | done | rfl | (simp only [List.length_drop, List.length_take]; rfl)) ?_; (with_reducible refine (hanoi_Kind.calls kj56 (fun k_ => some k_ = (.slice Ao10 t560.length co10 : Value).ownBlock) _ _ t560 (fun k_ => some k_ = (.slice Ao11 t563.length co11 : Value).ownBlock) _ _ t563 t584 t585 _ ?side1 ?side2 A64.out).mono ?_); (case side1 => exact Kd.R_V (Kd.R_tight rfl (HO_5.out))); (case side2 => exact Kd.R_V (Kd.R_tight rfl (HO_6.out))); rintro e w82 ⟨rfl, hb⟩; refine ⟨_, rfl, ?_⟩; have n0_ := Aside0.mk (Kd.R_below (by (with_reducible repeat (first | apply Kd.R_alloc | apply Kd.R_drewN | apply Kd.R_drew)); exact HO_5.out) hb); have n1_ := Aside0.mk (Kd.R_below (by (with_reducible repeat (first | apply Kd.R_alloc | apply Kd.R_drewN | apply Kd.R_drew)); exact HO_6.out) hb); have n2_ := Aside0.mk (below_step (by repeat (first | (with_reducible first | exact HB.out | apply below_alloc | apply pw_below_drewN | apply below_drew1) | exact HB.out)) hb); clear HO_5; clear HO_6; clear HB; have HO_5 := n0_; have HO_6 := n1_; have HB := n2_; clear n0_ n1_ n2_; (try clear hb); (try clear hb2); (try clear hk); (try clear hi)) | ((with_reducible refine gate_callee (f := 59) rfl ?_); refine goesL_ (some 116) rfl rfl Tryd.func59 (by kernel_rfl) rfl #[.slice Ao10 t560.length co10, .slice Ao11 t563.length co11] rfl (by (try simp only [List.map_toArray, List.map_cons, List.map_nil]); first | done | rfl | (simp only [List.length_drop, List.length_take]; rfl)) ?_; (with_reducible refine (hanoi_Way.calls _ _ t560 _ _ t563 t586 t587 _ ?side1 ?side2 ?side3 ?side4 A65.out).mono ?_); (case side1 => repeat (first | exact (Kd.R_reads' HO_5.out).2.2 | (with_reducible refine Kd.C_alloc ?_ _) | (with_reducible refine Kd.C_drewN ?_ _) | (with_reducible refine Kd.C_drew ?_))); (case side2 => exact (Kd.R_reads' HO_5.out).2.1); (case side3 => repeat (first | exact (Kd.R_reads' HO_6.out).2.2 | (with_reducible refine Kd.C_alloc ?_ _) | (with_reducible refine Kd.C_drewN ?_ _) | (with_reducible refine Kd.C_drew ?_))); (case side4 => exact (Kd.R_reads' HO_6.out).2.1); rintro e w83 ⟨v588, rfl, ho0, hb⟩; refine ⟨_, rfl, ?_⟩; have n0_ := Aside0.mk (Kd.R_below (by (with_reducible repeat (first | apply Kd.R_alloc | apply Kd.R_drewN | apply Kd.R_drew)); exact HO_5.out) hb); have n1_ := Aside0.mk (Kd.R_below (by (with_reducible repeat (first | apply Kd.R_alloc | apply Kd.R_drewN | apply Kd.R_drew)); exact HO_6.out) hb); have n2_ := Aside0.mk (Kd.R_lower ho0 (below_size (by repeat (first | (with_reducible first | exact HB.out | apply below_alloc | apply pw_below_drewN | apply below_drew1) | exact HB.out)))); have n3_ := Aside0.mk (below_step (by repeat (first | (with_reducible first | exact HB.out | apply below_alloc | apply pw_below_drewN | apply below_drew1) | exact HB.out)) hb); clear HO_5; clear HO_6; clear HB; have HO_5 := n0_; have HO_6 := n1_; have HO589 := n2_; have HB := n3_; clear n0_ n1_ n2_ n3_; (try clear hb); (try clear hb2); (try clear hk); (try clear hi); (try clear ho0)))
                              go_ret
                              exact ⟨by first | rfl | (simp [errW_none, errW_some] <;> rfl) | (simp [*, errW_none, errW_some] <;> rfl), by repeat (first | (with_reducible first | exact HB.out | apply below_alloc | apply pw_below_drewN | apply below_drew1) | exact HB.out)⟩
                          · rw [if_neg c68] at H
                            have c68b0 : (t587 == x16_56) = false := beq_eq_false_iff_ne.mpr c68
                            have c68b1 : (t587 != x16_56) = true := bne_iff_ne.mpr c68
                            obtain rfl := Option.some.inj H
                            go_wp2_with (first | ((with_reducible refine gate_callee (f := 44) rfl ?_); refine goesL_ (some 104) rfl rfl Tryd.func44 (by kernel_rfl) rfl #[.slice Ao10 t560.length co10, .slice Ao11 t563.length co11] rfl (by (try simp only [List.map_toArray, List.map_cons, List.map_nil]); first | done | rfl | (simp only [List.length_drop, List.length_take]; rfl)) ?_; (with_reducible refine (hanoi_Distance.calls kj56 (fun k_ => some k_ = (.slice Ao10 t560.length co10 : Value).ownBlock) _ _ t560 (fun k_ => some k_ = (.slice Ao11 t563.length co11 : Value).ownBlock) _ _ t563 t582 t583 _ ?side1 ?side2 A63.out).mono ?_); (case side1 => exact Kd.R_V (Kd.R_tight rfl (HO_5.out))); (case side2 => exact Kd.R_V (Kd.R_tight rfl (HO_6.out))); rintro e w84 ⟨rfl, hb⟩; refine ⟨_, rfl, ?_⟩; have n0_ := Aside0.mk (Kd.R_below (by (with_reducible repeat (first | apply Kd.R_alloc | apply Kd.R_drewN | apply Kd.R_drew)); exact HO_5.out) hb); have n1_ := Aside0.mk (Kd.R_below (by (with_reducible repeat (first | apply Kd.R_alloc | apply Kd.R_drewN | apply Kd.R_drew)); exact HO_6.out) hb); have n2_ := Aside0.mk (below_step (by repeat (first | (with_reducible first | exact HB.out | apply below_alloc | apply pw_below_drewN | apply below_drew1) | exact HB.out)) hb); clear HO_5; clear HO_6; clear HB; have HO_5 := n0_; have HO_6 := n1_; have HB := n2_; clear n0_ n1_ n2_; (try clear hb); (try clear hb2); (try clear hk); (try clear hi)) | ((with_reducible refine gate_callee (f := 47) rfl ?_); refine goesL_ (some 110) rfl rfl Tryd.func47 (by kernel_rfl) rfl #[.slice Ao10 t560.length co10, .slice Ao11 t563.length co11] rfl (by (try simp only [List.map_toArray, List.map_cons, List.map_nil]); first | done | rfl | (simp only [List.length_drop, List.length_take]; rfl)) ?_; (with_reducible refine (hanoi_Kind.calls kj56 (fun k_ => some k_ = (.slice Ao10 t560.length co10 : Value).ownBlock) _ _ t560 (fun k_ => some k_ = (.slice Ao11 t563.length co11 : Value).ownBlock) _ _ t563 t584 t585 _ ?side1 ?side2 A64.out).mono ?_); (case side1 => exact Kd.R_V (Kd.R_tight rfl (HO_5.out))); (case side2 => exact Kd.R_V (Kd.R_tight rfl (HO_6.out))); rintro e w85 ⟨rfl, hb⟩; refine ⟨_, rfl, ?_⟩; have n0_ := Aside0.mk (Kd.R_below (by (with_reducible repeat (first | apply Kd.R_alloc | apply Kd.R_drewN | apply Kd.R_drew)); exact HO_5.out) hb); have n1_ := Aside0.mk (Kd.R_below (by (with_reducible repeat (first | apply Kd.R_alloc | apply Kd.R_drewN | apply Kd.R_drew)); exact HO_6.out) hb); have n2_ := Aside0.mk (below_step (by repeat (first | (with_reducible first | exact HB.out | apply below_alloc | apply pw_below_drewN | apply below_drew1) | exact HB.out)) hb); clear HO_5; clear HO_6; clear HB; have HO_5 := n0_; have HO_6 := n1_; have HB := n2_; clear n0_ n1_ n2_; (try clear hb); (try clear hb2); (try clear hk); (try clear hi)) | ((with_reducible refine gate_callee (f := 59) rfl ?_); refine goesL_ (some 116) rfl rfl Tryd.func59 (by kernel_rfl) rfl #[.slice Ao10 t560.length co10, .slice Ao11 t563.length co11] rfl (by (try simp only [List.map_toArray, List.map_cons, List.map_nil]); first | done | rfl | (simp only [List.length_drop, List.length_take]; rfl)) ?_; (with_reducible refine (hanoi_Way.calls _ _ t560 _ _ t563 t586 t587 _ ?side1 ?side2 ?side3 ?side4 A65.out).mono ?_); (case side1 => repeat (first | exact (Kd.R_reads' HO_5.out).2.2 | (with_reducible refine Kd.C_alloc ?_ _) | (with_reducible refine Kd.C_drewN ?_ _) | (with_reducible refine Kd.C_drew ?_))); (case side2 => exact (Kd.R_reads' HO_5.out).2.1); (case side3 => repeat (first | exact (Kd.R_reads' HO_6.out).2.2 | (with_reducible refine Kd.C_alloc ?_ _) | (with_reducible refine Kd.C_drewN ?_ _) | (with_reducible refine Kd.C_drew ?_))); (case side4 => exact (Kd.R_reads' HO_6.out).2.1); rintro e w86 ⟨v588, rfl, ho0, hb⟩; refine ⟨_, rfl, ?_⟩; have n0_ := Aside0.mk (Kd.R_below (by (with_reducible repeat (first | apply Kd.R_alloc | apply Kd.R_drewN | apply Kd.R_drew)); exact HO_5.out) hb); have n1_ := Aside0.mk (Kd.R_below (by (with_reducible repeat (first | apply Kd.R_alloc | apply Kd.R_drewN | apply Kd.R_drew)); exact HO_6.out) hb); have n2_ := Aside0.mk (Kd.R_lower ho0 (below_size (by repeat (first | (with_reducible first | exact HB.out | apply below_alloc | apply pw_below_drewN | apply below_drew1) | exact HB.out)))); have n3_ := Aside0.mk (below_step (by repeat (first | (with_reducible first | exact HB.out | apply below_alloc | apply pw_below_drewN | apply below_drew1) | exact HB.out)) hb); clear HO_5; clear HO_6; clear HB; have HO_5 := n0_; have HO_6 := n1_; have HO589 := n2_; have HB := n3_; clear n0_ n1_ n2_ n3_; (try clear hb); (try clear hb2); (try clear hk); (try clear hi); (try clear ho0)))
                            go_ret
                            exact ⟨by first | rfl | (simp [errW_none, errW_some] <;> rfl) | (simp [*, errW_none, errW_some] <;> rfl), by repeat (first | (with_reducible first | exact HB.out | apply below_alloc | apply pw_below_drewN | apply below_drew1) | exact HB.out)⟩
                        · rw [if_neg c67] at H
                          have c67b0 : (t585 == x16_56) = false := beq_eq_false_iff_ne.mpr c67
                          have c67b1 : (t585 != x16_56) = true := bne_iff_ne.mpr c67
                          obtain rfl := Option.some.inj H
                          go_wp2_with (first | ((with_reducible refine gate_callee (f := 44) rfl ?_); refine goesL_ (some 104) rfl rfl Tryd.func44 (by kernel_rfl) rfl #[.slice Ao10 t560.length co10, .slice Ao11 t563.length co11] rfl (by (try simp only [List.map_toArray, List.map_cons, List.map_nil]); first | done | rfl | (simp only [List.length_drop, List.length_take]; rfl)) ?_; (with_reducible refine (hanoi_Distance.calls kj56 (fun k_ => some k_ = (.slice Ao10 t560.length co10 : Value).ownBlock) _ _ t560 (fun k_ => some k_ = (.slice Ao11 t563.length co11 : Value).ownBlock) _ _ t563 t582 t583 _ ?side1 ?side2 A63.out).mono ?_); (case side1 => exact Kd.R_V (Kd.R_tight rfl (HO_5.out))); (case side2 => exact Kd.R_V (Kd.R_tight rfl (HO_6.out))); rintro e w87 ⟨rfl, hb⟩; refine ⟨_, rfl, ?_⟩; have n0_ := Aside0.mk (Kd.R_below (by (with_reducible repeat (first | apply Kd.R_alloc | apply Kd.R_drewN | apply Kd.R_drew)); exact HO_5.out) hb); have n1_ := Aside0.mk (Kd.R_below (by (with_reducible repeat (first | apply Kd.R_alloc | apply Kd.R_drewN | apply Kd.R_drew)); exact HO_6.out) hb); have n2_ := Aside0.mk (below_step (by repeat (first | (with_reducible first | exact HB.out | apply below_alloc | apply pw_below_drewN | apply below_drew1) | exact HB.out)) hb); clear HO_5; clear HO_6; clear HB; have HO_5 := n0_; have HO_6 := n1_; have HB := n2_; clear n0_ n1_ n2_; (try clear hb); (try clear hb2); (try clear hk); (try clear hi)) | ((with_reducible refine gate_callee (f := 47) rfl ?_); refine goesL_ (some 110) rfl rfl Tryd.func47 (by kernel_rfl) rfl #[.slice Ao10 t560.length co10, .slice Ao11 t563.length co11] rfl (by (try simp only [List.map_toArray, List.map_cons, List.map_nil]); first | done | rfl | (simp only [List.length_drop, List.length_take]; rfl)) ?_; (with_reducible refine (hanoi_Kind.calls kj56 (fun k_ => some k_ = (.slice Ao10 t560.length co10 : Value).ownBlock) _ _ t560 (fun k_ => some k_ = (.slice Ao11 t563.length co11 : Value).ownBlock) _ _ t563 t584 t585 _ ?side1 ?side2 A64.out).mono ?_); (case side1 => exact Kd.R_V (Kd.R_tight rfl (HO_5.out))); (case side2 => exact Kd.R_V (Kd.R_tight rfl (HO_6.out))); rintro e w88 ⟨rfl, hb⟩; refine ⟨_, rfl, ?_⟩; have n0_ := Aside0.mk (Kd.R_below (by (with_reducible repeat (first | apply Kd.R_alloc | apply Kd.R_drewN | apply Kd.R_drew)); exact HO_5.out) hb); have n1_ := Aside0.mk (Kd.R_below (by (with_reducible repeat (first | apply Kd.R_alloc | apply Kd.R_drewN | apply Kd.R_drew)); exact HO_6.out) hb); have n2_ := Aside0.mk (below_step (by repeat (first | (with_reducible first | exact HB.out | apply below_alloc | apply pw_below_drewN | apply below_drew1) | exact HB.out)) hb); clear HO_5; clear HO_6; clear HB; have HO_5 := n0_; have HO_6 := n1_; have HB := n2_; clear n0_ n1_ n2_; (try clear hb); (try clear hb2); (try clear hk); (try clear hi)) | ((with_reducible refine gate_callee (f := 59) rfl ?_); refine goesL_ (some 116) rfl rfl Tryd.func59 (by kernel_rfl) rfl #[.slice Ao10 t560.length co10, .slice Ao11 t563.length co11] rfl (by (try simp only [List.map_toArray, List.map_cons, List.map_nil]); first | done | rfl | (simp only [List.length_drop, List.length_take]; rfl)) ?_; (with_reducible refine (hanoi_Way.calls _ _ t560 _ _ t563 t586 t587 _ ?side1 ?side2 ?side3 ?side4 A65.out).mono ?_); (case side1 => repeat (first | exact (Kd.R_reads' HO_5.out).2.2 | (with_reducible refine Kd.C_alloc ?_ _) | (with_reducible refine Kd.C_drewN ?_ _) | (with_reducible refine Kd.C_drew ?_))); (case side2 => exact (Kd.R_reads' HO_5.out).2.1); (case side3 => repeat (first | exact (Kd.R_reads' HO_6.out).2.2 | (with_reducible refine Kd.C_alloc ?_ _) | (with_reducible refine Kd.C_drewN ?_ _) | (with_reducible refine Kd.C_drew ?_))); (case side4 => exact (Kd.R_reads' HO_6.out).2.1); rintro e w89 ⟨v588, rfl, ho0, hb⟩; refine ⟨_, rfl, ?_⟩; have n0_ := Aside0.mk (Kd.R_below (by (with_reducible repeat (first | apply Kd.R_alloc | apply Kd.R_drewN | apply Kd.R_drew)); exact HO_5.out) hb); have n1_ := Aside0.mk (Kd.R_below (by (with_reducible repeat (first | apply Kd.R_alloc | apply Kd.R_drewN | apply Kd.R_drew)); exact HO_6.out) hb); have n2_ := Aside0.mk (Kd.R_lower ho0 (below_size (by repeat (first | (with_reducible first | exact HB.out | apply below_alloc | apply pw_below_drewN | apply below_drew1) | exact HB.out)))); have n3_ := Aside0.mk (below_step (by repeat (first | (with_reducible first | exact HB.out | apply below_alloc | apply pw_below_drewN | apply below_drew1) | exact HB.out)) hb); clear HO_5; clear HO_6; clear HB; have HO_5 := n0_; have HO_6 := n1_; have HO589 := n2_; have HB := n3_; clear n0_ n1_ n2_ n3_; (try clear hb); (try clear hb2); (try clear hk); (try clear hi); (try clear ho0)))
                          go_ret
                          exact ⟨by first | rfl | (simp [errW_none, errW_some] <;> rfl) | (simp [*, errW_none, errW_some] <;> rfl), by repeat (first | (with_reducible first | exact HB.out | apply below_alloc | apply pw_below_drewN | apply below_drew1) | exact HB.out)⟩
                      · rw [if_neg c66] at H
                        have c66b0 : (t583 == x16_56) = false := beq_eq_false_iff_ne.mpr c66
                        have c66b1 : (t583 != x16_56) = true := bne_iff_ne.mpr c66
                        obtain rfl := Option.some.inj H
                        go_wp2_with (first | ((with_reducible refine gate_callee (f := 44) rfl ?_); refine goesL_ (some 104) rfl rfl Tryd.func44 (by kernel_rfl) rfl #[.slice Ao10 t560.length co10, .slice Ao11 t563.length co11] rfl (by (try simp only [List.map_toArray, List.map_cons, List.map_nil]); first | done | rfl | (simp only [List.length_drop, List.length_take]; rfl)) ?_; (with_reducible refine (hanoi_Distance.calls kj56 (fun k_ => some k_ = (.slice Ao10 t560.length co10 : Value).ownBlock) _ _ t560 (fun k_ => some k_ = (.slice Ao11 t563.length co11 : Value).ownBlock) _ _ t563 t582 t583 _ ?side1 ?side2 A63.out).mono ?_); (case side1 => exact Kd.R_V (Kd.R_tight rfl (HO_5.out))); (case side2 => exact Kd.R_V (Kd.R_tight rfl (HO_6.out))); rintro e w90 ⟨rfl, hb⟩; refine ⟨_, rfl, ?_⟩; have n0_ := Aside0.mk (Kd.R_below (by (with_reducible repeat (first | apply Kd.R_alloc | apply Kd.R_drewN | apply Kd.R_drew)); exact HO_5.out) hb); have n1_ := Aside0.mk (Kd.R_below (by (with_reducible repeat (first | apply Kd.R_alloc | apply Kd.R_drewN | apply Kd.R_drew)); exact HO_6.out) hb); have n2_ := Aside0.mk (below_step (by repeat (first | (with_reducible first | exact HB.out | apply below_alloc | apply pw_below_drewN | apply below_drew1) | exact HB.out)) hb); clear HO_5; clear HO_6; clear HB; have HO_5 := n0_; have HO_6 := n1_; have HB := n2_; clear n0_ n1_ n2_; (try clear hb); (try clear hb2); (try clear hk); (try clear hi)) | ((with_reducible refine gate_callee (f := 47) rfl ?_); refine goesL_ (some 110) rfl rfl Tryd.func47 (by kernel_rfl) rfl #[.slice Ao10 t560.length co10, .slice Ao11 t563.length co11] rfl (by (try simp only [List.map_toArray, List.map_cons, List.map_nil]); first | done | rfl | (simp only [List.length_drop, List.length_take]; rfl)) ?_; (with_reducible refine (hanoi_Kind.calls kj56 (fun k_ => some k_ = (.slice Ao10 t560.length co10 : Value).ownBlock) _ _ t560 (fun k_ => some k_ = (.slice Ao11 t563.length co11 : Value).ownBlock) _ _ t563 t584 t585 _ ?side1 ?side2 A64.out).mono ?_); (case side1 => exact Kd.R_V (Kd.R_tight rfl (HO_5.out))); (case side2 => exact Kd.R_V (Kd.R_tight rfl (HO_6.out))); rintro e w91 ⟨rfl, hb⟩; refine ⟨_, rfl, ?_⟩; have n0_ := Aside0.mk (Kd.R_below (by (with_reducible repeat (first | apply Kd.R_alloc | apply Kd.R_drewN | apply Kd.R_drew)); exact HO_5.out) hb); have n1_ := Aside0.mk (Kd.R_below (by (with_reducible repeat (first | apply Kd.R_alloc | apply Kd.R_drewN | apply Kd.R_drew)); exact HO_6.out) hb); have n2_ := Aside0.mk (below_step (by repeat (first | (with_reducible first | exact HB.out | apply below_alloc | apply pw_below_drewN | apply below_drew1) | exact HB.out)) hb); clear HO_5; clear HO_6; clear HB; have HO_5 := n0_; have HO_6 := n1_; have HB := n2_; clear n0_ n1_ n2_; (try clear hb); (try clear hb2); (try clear hk); (try clear hi)) | ((with_reducible refine gate_callee (f := 59) rfl ?_); refine goesL_ (some 116) rfl rfl Tryd.func59 (by kernel_rfl) rfl #[.slice Ao10 t560.length co10, .slice Ao11 t563.length co11] rfl (by (try simp only [List.map_toArray, List.map_cons, List.map_nil]); first | done | rfl | (simp only [List.length_drop, List.length_take]; rfl)) ?_; (with_reducible refine (hanoi_Way.calls _ _ t560 _ _ t563 t586 t587 _ ?side1 ?side2 ?side3 ?side4 A65.out).mono ?_); (case side1 => repeat (first | exact (Kd.R_reads' HO_5.out).2.2 | (with_reducible refine Kd.C_alloc ?_ _) | (with_reducible refine Kd.C_drewN ?_ _) | (with_reducible refine Kd.C_drew ?_))); (case side2 => exact (Kd.R_reads' HO_5.out).2.1); (case side3 => repeat (first | exact (Kd.R_reads' HO_6.out).2.2 | (with_reducible refine Kd.C_alloc ?_ _) | (with_reducible refine Kd.C_drewN ?_ _) | (with_reducible refine Kd.C_drew ?_))); (case side4 => exact (Kd.R_reads' HO_6.out).2.1); rintro e w92 ⟨v588, rfl, ho0, hb⟩; refine ⟨_, rfl, ?_⟩; have n0_ := Aside0.mk (Kd.R_below (by (with_reducible repeat (first | apply Kd.R_alloc | apply Kd.R_drewN | apply Kd.R_drew)); exact HO_5.out) hb); have n1_ := Aside0.mk (Kd.R_below (by (with_reducible repeat (first | apply Kd.R_alloc | apply Kd.R_drewN | apply Kd.R_drew)); exact HO_6.out) hb); have n2_ := Aside0.mk (Kd.R_lower ho0 (below_size (by repeat (first | (with_reducible first | exact HB.out | apply below_alloc | apply pw_below_drewN | apply below_drew1) | exact HB.out)))); have n3_ := Aside0.mk (below_step (by repeat (first | (with_reducible first | exact HB.out | apply below_alloc | apply pw_below_drewN | apply below_drew1) | exact HB.out)) hb); clear HO_5; clear HO_6; clear HB; have HO_5 := n0_; have HO_6 := n1_; have HO589 := n2_; have HB := n3_; clear n0_ n1_ n2_ n3_; (try clear hb); (try clear hb2); (try clear hk); (try clear hi); (try clear ho0)))
                        go_ret
                        exact ⟨by first | rfl | (simp [errW_none, errW_some] <;> rfl) | (simp [*, errW_none, errW_some] <;> rfl), by repeat (first | (with_reducible first | exact HB.out | apply below_alloc | apply pw_below_drewN | apply below_drew1) | exact HB.out)⟩

/-- THE ONE PURE STATEMENT of bibelotlaw03_HanoiChecks: yours. -/
def bibelotlaw03_HanoiChecks.Pure : Prop := ∀ (l0 : List Int) (l1 : List Int), l0.length ≤ maxLen → l0.length * 8 ≤ 140737488351232 → (∀ x ∈ l0, (Lit.int .i64 x).wf = true) → l1.length ≤ maxLen → l1.length * 8 ≤ 140737488351232 → (∀ x ∈ l1, (Lit.int .i64 x).wf = true) → ∃ k, bibelotlaw03_HanoiChecks.f k l0 l1 = some true
theorem bibelotlaw03_HanoiChecks.walk (P : bibelotlaw03_HanoiChecks.Pure) (a0 : Option Addr) (len0 cap0 : Nat) (z0 : List Int) (a1 : Option Addr) (len1 cap1 : Nat) (z1 : List Int) (w : World) (w0 : (a0 = none ∧ len0 = 0 ∧ cap0 = 0 ∧ z0 = []) ∨ ∃ x, a0 = some x ∧ len0 ≤ cap0 ∧ cap0 ≤ maxLen ∧ z0.length = cap0 ∧ (∀ i, i < z0.length → w.cell? (x.add i) = some (.int .i64 (z0.getD i 0))) ∧ ∀ n ∈ z0, (Lit.int .i64 n).wf = true) (y0 : len0 * 8 ≤ 140737488351232) (w1 : (a1 = none ∧ len1 = 0 ∧ cap1 = 0 ∧ z1 = []) ∨ ∃ x, a1 = some x ∧ len1 ≤ cap1 ∧ cap1 ≤ maxLen ∧ z1.length = cap1 ∧ (∀ i, i < z1.length → w.cell? (x.add i) = some (.int .i64 (z1.getD i 0))) ∧ ∀ n ∈ z1, (Lit.int .i64 n).wf = true) (y1 : len1 * 8 ≤ 140737488351232) :
    Calls Tryd.prog 22 #[.slice a0 len0 cap0, .slice a1 len1 cap1] w fun e w' => e = .returned (.bool true) ∧ Below w.heap.size w w' := by
  obtain ⟨l0, rfl, hr0, hm0, hw0, hc0⟩ := ReadsInt.ofRowC w0
  obtain ⟨l1, rfl, hr1, hm1, hw1, hc1⟩ := ReadsInt.ofRowC w1
  obtain ⟨k, h⟩ := P l0 l1 hm0 y0 hw0 hm1 y1 hw1
  refine (bibelotlaw03_HanoiChecks.calls k _ _ l0 _ _ l1 true w (Kd.C_of_reads (d := (0 : Int)) (h1 := fun _ => rfl) hr0) hc0 (Kd.C_of_reads (d := (0 : Int)) (h1 := fun _ => rfl) hr1) hc1 h).mono ?_
  rintro e w' ⟨rfl, hd⟩
  exact ⟨rfl, hd⟩

end Go.Proofs.YtnaaomhmoamfpaaDoor.Q
/- HanoiChecks: what is no discs is told, by every function alike. -/
namespace Go.Proofs.YtnaaomhmoamfpaaDoor.Pure
set_option linter.unusedVariables false
set_option linter.unusedSimpArgs false
set_option linter.unusedSectionVars false
open Go.Proofs.YtnaaomhmoamfpaaDoor.G Go.Proofs.YtnaaomhmoamfpaaDoor.Hn
open Go.RowKit Go.Proofs.YtnaaomhmoamfpaaDoor.Q Go.Proofs.YtnaaomhmoamfpaaDoorW.PrintWords Go.Proofs.YtnaaomhmoamfpaaDoorW.PrintLast Go.Proofs.YtnaaomhmoamfpaaDoorW.PrintMore

theorem rdiscs_loop (l : List Int) (hl : l.length ≤ 1000) : ∀ e i : Nat, i + e = l.length → (∀ j, j < i → Peg (nth l j)) → Ev (fun k => bibelotref03_Discs.l0 k l 3 (i : Int)) (okD l)
  | 0, i, h, hi => by
    refine Ev.step (fun k => ?_) (Ev.now _)
    rw [bibelotref03_Discs.l0, if_neg (by omega)]
    have hd : DiscsL l := fun j hj => hi j (by omega)
    by_cases c : (l.length : Int) ≥ 1
    · rw [if_pos c]
      congr 1
      rw [Bool.eq_iff_iff, okD_iff, decide_eq_true_eq]
      exact ⟨fun h => ⟨by omega, by omega, hd⟩, fun h => by omega⟩
    · rw [if_neg c]
      congr 1
      symm
      rw [← Bool.not_eq_true, okD_iff]
      omega
  | e + 1, i, h, hi => by
    by_cases c : Peg (nth l i)
    · have c' := c
      unfold Peg at c'
      refine Ev.step (fun k => ?_) (rdiscs_loop l hl e (i + 1) (by omega) (fun j hj => by
        by_cases ej : j = i
        · rw [ej]; exact c
        · exact hi j (by omega)))
      rw [bibelotref03_Discs.l0, if_pos (by omega), if_pos (by omega), rd_nth, if_neg (by omega), if_neg (by omega), w64 (by omega) (by omega)]
      rfl
    · have hno : okD l = false := by
        rw [← Bool.not_eq_true, okD_iff]
        exact fun hd => c (hd.2.2 i (by omega))
      unfold Peg at c
      refine Ev.step (fun k => ?_) (Ev.now _)
      rw [bibelotref03_Discs.l0, if_pos (by omega), if_pos (by omega), rd_nth, hno]
      by_cases c1 : nth l i < 0
      · rw [if_pos c1]
      · rw [if_neg c1, if_pos (by omega)]
theorem rdiscs_ev (l : List Int) (hl : l.length ≤ 1000) : Ev (fun k => bibelotref03_Discs.f k l 3) (okD l) := rdiscs_loop l hl l.length 0 (by omega) (fun j hj => by omega)
theorem chk_j3 (x y : List Int) : Ev (fun k => bibelotlaw03_HanoiChecks.j3 k x y (openD x y)) true := by
  by_cases hb : both x y = true
  · refine Ev.step (f := fun k => (bibelotlaw03_awake.f k).bind fun t => some t) (fun k => ?_) (Ev.bind awake_ev (Ev.now true))
    rw [bibelotlaw03_HanoiChecks.j3, if_pos ((openD_zero x y).2 hb)]
  · have hne : openD x y ≠ 0 := fun h => hb ((openD_zero x y).1 h)
    have hd := distance_ev x y
    have hk := kind_ev x y
    rw [if_neg hb] at hd hk
    have hw : hanoi_Way.f x y = some ([], openD x y) := by unfold hanoi_Way.f; rw [if_neg hb]
    refine Ev.step (fun k => by rw [bibelotlaw03_HanoiChecks.j3, if_neg hne]) (Ev.bind hd (Ev.bind hk ?_))
    have e1 : wrap64 (0 + (([] : List S52).length : Int)) = 0 := w64 (x := 0) (by omega) (by omega)
    simp only [hw, Option.bind_some, if_true, e1]
    exact Ev.bind awake_ev (Ev.now true)
theorem chk_j1 (x y : List Int) : Ev (fun k => bibelotlaw03_HanoiChecks.j1 k x y (okD x) (okD y)) true := by
  have h3 := chk_j3 x y
  cases hx : okD x with
  | false =>
    have ho : openD x y = 30 := by unfold openD; rw [hx]; rfl
    rw [ho] at h3
    exact Ev.step (fun k => by rw [bibelotlaw03_HanoiChecks.j1, if_neg (by simp)]) (Ev.step (fun k => by rw [bibelotlaw03_HanoiChecks.j2, if_pos rfl]) h3)
  | true =>
    cases hy : okD y with
    | false =>
      have ho : openD x y = 30 := by unfold openD; rw [hx, hy]; rfl
      rw [ho] at h3
      exact Ev.step (fun k => by rw [bibelotlaw03_HanoiChecks.j1, if_pos rfl]) (Ev.step (fun k => by rw [bibelotlaw03_HanoiChecks.j2, if_pos (by rfl)]) h3)
    | true =>
      by_cases c : y.length = x.length
      · have ho : openD x y = 0 := by unfold openD; rw [hx, hy, if_pos rfl, if_pos rfl, if_pos c]
        rw [ho] at h3
        exact Ev.step (fun k => by rw [bibelotlaw03_HanoiChecks.j1, if_pos rfl]) (Ev.step (fun k => by rw [bibelotlaw03_HanoiChecks.j2, if_neg (by simp), if_pos (by omega)]) h3)
      · have ho : openD x y = 6 := by unfold openD; rw [hx, hy, if_pos rfl, if_pos rfl, if_neg c]
        rw [ho] at h3
        exact Ev.step (fun k => by rw [bibelotlaw03_HanoiChecks.j1, if_pos rfl]) (Ev.step (fun k => by rw [bibelotlaw03_HanoiChecks.j2, if_neg (by simp), if_neg (by omega)]) h3)
theorem HanoiChecks : bibelotlaw03_HanoiChecks.Pure := by
  intro l0 l1 _ _ _ _ _ _
  refine Ev.rounds (r := true) (g := fun k => bibelotlaw03_HanoiChecks.f k l0 l1) ?_
  have ox : bibelotlaw03_own.f l0 = some (l0.take 41) := rfl
  have oy : bibelotlaw03_own.f l1 = some (l1.take 41) := rfl
  have hx : (l0.take 41).length ≤ 1000 := by rw [List.length_take]; omega
  have hy : (l1.take 41).length ≤ 1000 := by rw [List.length_take]; omega
  unfold bibelotlaw03_HanoiChecks.f
  simp only [ox, oy, Option.bind_some]
  generalize l0.take 41 = x at *
  generalize l1.take 41 = y at *
  have hc := check_ev x
  have h1 := chk_j1 x y
  refine Ev.bind (rdiscs_ev x hx) (Ev.bind (rdiscs_ev y hy) (Ev.bind hc ?_))
  have e1 : ((checkD x == 0) != okD x) = false := by
    unfold checkD
    cases h : okD x <;> rfl
  simp only [e1, Bool.false_eq_true, if_false]
  cases h : okD x with
  | true =>
    rw [h] at h1
    simp only [if_true]
    exact Ev.step (fun k => by rw [bibelotlaw03_HanoiChecks.j0, if_neg (by simp), if_pos rfl]) h1
  | false =>
    rw [h] at h1
    have e2 : checkD x = 30 := by unfold checkD; rw [h]; rfl
    rw [e2] at hc
    simp only [if_false, Bool.false_eq_true]
    refine Ev.bind hc ?_
    have hm : hanoi_Moves.f x = some ([], 30) := by unfold hanoi_Moves.f; rw [h]; rfl
    have hp : hanoi_Play.f x [] = some ([], 0, 30) := by unfold hanoi_Play.f; rw [h]; rfl
    have hf : Ev (fun k => hanoi_Farthest.f k x) (0, 30) := by
      unfold hanoi_Farthest.f
      exact Ev.bind hc (Ev.now _)
    rw [bne_self_eq_false]
    refine Ev.step (fun k => by rw [bibelotlaw03_HanoiChecks.j0, if_neg (by simp), if_neg (by simp), hm, Option.bind_some, hp, Option.bind_some]) (Ev.bind hf ?_)
    have e3 : wrap64 (wrap64 ((([] : List S52).length : Int) + (([] : List Int).length : Int)) + 0) = 0 := by rw [show wrap64 ((([] : List S52).length : Int) + (([] : List Int).length : Int)) = 0 from w64 (x := 0) (by omega) (by omega)]; exact w64 (x := 0) (by omega) (by omega)
    simp only [if_true, e3]
    exact h1
end Go.Proofs.YtnaaomhmoamfpaaDoor.Pure
