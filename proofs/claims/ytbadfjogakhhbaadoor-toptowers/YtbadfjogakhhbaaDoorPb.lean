/- Flips of stacks; a map keyed by stacks. -/
import Derived.Test.YtbadfjogakhhbaaDoorPa
import Derived.Shelf.SlicesE.Reverse
import Derived.Outline
import Derived.BigRegionIn
import Derived.Stop.RegionWithIn
import Derived.TacticsInMore
import Derived.LoopNIn
import Derived.LoopIn
import Derived.Maps.OwnIn
import Derived.Maps.OwnSet
import Derived.Maps.Range
import Derived.DeepKeys4
namespace Go.Proofs
open Go.Shelf Go.Lib
def Tryd.rev8_ren : Go.Shelf.Ren := ⟨fun | 35 => 103 | n => n, fun | 22 => 160 | 23 => 51 | n => n, fun | n => n⟩
theorem Tryd.laysRev8 : SlLaysE.n35 Tryd.prog Tryd.rev8_ren := {
  mixed := by kernel_rfl
  f35 := ⟨_, by kernel_rfl, Tryd.func103⟩
  t0 := Tryd.underlying0
  a0 := Tryd.isAgg0
  z0 := Tryd.sizeOf0
  v0 := Tryd.zeroValue0
  t3 := Tryd.underlying3
  a3 := Tryd.isAgg3
  z3 := Tryd.sizeOf3
  v3 := Tryd.zeroValue3
  t4 := Tryd.underlying4
  a4 := Tryd.isAgg4
  z4 := Tryd.sizeOf4
  v4 := Tryd.zeroValue4
  t22 := Tryd.underlying160
  a22 := Tryd.isAgg160
  z22 := Tryd.sizeOf160
  v22 := Tryd.zeroValue160
  a23 := Tryd.isAgg51
  z23 := Tryd.sizeOf51 }
end Go.Proofs
namespace Go.Proofs.YtbadfjogakhhbaaDoor.G
open Go.Proofs.YtbadfjogakhhbaaDoor.Q Go.Proofs.YtbadfjogakhhbaaDoor.K
open Go.RowKit Go.Shelf Go.Sort Go.Proofs.YtbadfjogakhhbaaDoorW.PrintWords Go.Proofs.YtbadfjogakhhbaaDoorW.PrintLast Go.Proofs.YtbadfjogakhhbaaDoorW.PrintMore
set_option linter.unusedVariables false
/-- Block b alone is written; what was drawn is not told. -/
structure Alone (b : Nat) (W W' : World) : Prop where
  os : W'.os = W.os
  tape : W'.tape = W.tape
  output : W'.output = W.output
  size : W'.heap.size = W.heap.size
  other : ∀ k, k ≠ b → W'.heap[k]? = W.heap[k]?
theorem Alone.refl (b : Nat) (W : World) : Alone b W W := ⟨rfl, rfl, rfl, rfl, fun _ _ => rfl⟩
theorem Alone.trans {b : Nat} {W W1 W2 : World} (h : Alone b W W1) (k : Alone b W1 W2) : Alone b W W2 :=
  ⟨k.os.trans h.os, k.tape.trans h.tape, k.output.trans h.output, k.size.trans h.size, fun j hj => (k.other j hj).trans (h.other j hj)⟩
theorem Alone.set {b : Nat} {W W1 : World} (h : Alone b W W1) (i : Nat) (v : Value) : Alone b W (W1.setCell ⟨b, i, none⟩ v) :=
  h.trans ⟨rfl, rfl, rfl, by simp [World.setCell], fun k hk => Below.heap_setCell _ _ _ _ hk⟩
theorem Alone.below {b B : Nat} {w W W' : World} (h : Below B w W) (ha : Alone b W W') (hb : B ≤ b) : Below B w W' :=
  h.trans ⟨ha.os, ha.tape, ha.output, by rw [ha.size]; exact Nat.le_refl _, fun k hk => ha.other k (by omega)⟩
/-- Block b begins with the numbers m 0 .. m (n - 1). -/
structure Row (κ : IntKind) (W : World) (b t n : Nat) (cs : Array Value) (m : Nat → Int) : Prop where
  blk : Blk W b cs t
  le : n ≤ cs.size
  val : ∀ p, p < n → cs[p]? = some (.int κ (m p))
theorem Row.cell {κ : IntKind} {W : World} {b t n : Nat} {cs : Array Value} {m : Nat → Int} (h : Row κ W b t n cs m) (p : Nat) (hp : p < n) : W.cell? ⟨b, p, none⟩ = some (.int κ (m p)) := h.blk.cell p (h.val p hp)
theorem Row.set {κ : IntKind} {W : World} {b t n : Nat} {cs : Array Value} {m : Nat → Int} (h : Row κ W b t n cs m) (p : Nat) (x : Int) (hp : p < n) : Row κ (W.setCell ⟨b, p, none⟩ (.int κ x)) b t n (cs.setIfInBounds p (.int κ x)) (upd m p x) :=
  ⟨h.blk.set p _, by simpa using h.le, fun q hq => by
    have hl := h.le
    rw [Array.getElem?_setIfInBounds]
    by_cases e : p = q
    · subst e; simp [upd]; omega
    · rw [if_neg e, h.val q hq]; simp [upd, Ne.symm e]⟩
theorem Row.congr {κ : IntKind} {W : World} {b t n : Nat} {cs : Array Value} {m m' : Nat → Int} (h : Row κ W b t n cs m) (hm : ∀ p, p < n → m p = m' p) : Row κ W b t n cs m' := ⟨h.blk, h.le, fun p hp => by rw [h.val p hp, hm p hp]⟩
/-- The numbers from place i on, before place j, turned round. -/
def rv (m : Nat → Int) (i j : Nat) : Nat → Int := fun p => if i ≤ p ∧ p < j then m (i + j - 1 - p) else m p
/-- The same, with their signs changed if they bear signs. -/
def fl (signed : Bool) (m : Nat → Int) (i j : Nat) : Nat → Int := fun p => if signed = true ∧ i ≤ p ∧ p < j then -(rv m i j p) else rv m i j p
/-- After some signs are changed. -/
def flTo (m : Nat → Int) (i j q : Nat) : Nat → Int := fun p => if i ≤ p ∧ p < q then -(rv m i j p) else rv m i j p
theorem rev8_calls {W : World} {b t n i j c : Nat} {cs : Array Value} {m : Nat → Int} (h : Row .i8 W b t n cs m) (hij : i < j) (hj : j ≤ n) (hn : n ≤ 1000000) :
    Calls Tryd.prog 103 #[.slice (some ⟨b, i, none⟩) (j - i) c] W fun e w' => e = .returned (.tuple #[]) ∧ ∃ cs', Row .i8 w' b t n cs' (rv m i j) ∧ (∀ p, n ≤ p → cs'[p]? = cs[p]?) ∧ cs'.size = cs.size ∧ Alone b W w' := by
  obtain ⟨zs, hzs⟩ : ∃ zs : List Int, zs = (List.range (j - i)).map (fun p => m (i + p)) := ⟨_, rfl⟩
  have hzl : zs.length = j - i := by rw [hzs]; simp
  have hzg : ∀ p, p < j - i → zs.toArray[p]! = m (i + p) := fun p hp => by
    rw [getElem!_pos zs.toArray p (by simp; omega)]
    simp [hzs]
  have hH : Holds (Value.int .i8) W b i zs.toArray := fun p hp => by
    have hp' : p < j - i := by simpa [hzl] using hp
    rw [hzg p hp']
    exact ⟨h.cell (i + p) (by omega), h.blk.free (i + p)⟩
  have hc := AnyE.slices_Reverse Tryd.laysRev8 (Value.int .i8) (fun _ => rfl) b i c zs W hH (by omega)
  rw [hzl] at hc
  refine hc.mono ?_
  rintro e w' ⟨rfl, q, rfl⟩
  have hput : (putRow (Value.int .i8) (Sort.ahead W q) b i zs.reverse.toArray).heap[b]? = some (.cells (putCells (Value.int .i8) i zs.reverse.toArray cs) t (0, 0)) := by
    have hb : W.heap[b]? = some (.cells cs t (0, 0)) := h.blk
    unfold putRow mapBlock
    simp only [Array.getElem?_modify, if_true]
    rw [show (Sort.ahead W q).heap = W.heap from rfl, hb]
    rfl
  have hle := h.le
  refine ⟨rfl, putCells (Value.int .i8) i zs.reverse.toArray cs, ⟨hput, by simpa [putCells] using h.le, fun p hp => ?_⟩, fun p hp => ?_, by simp [putCells], rfl, rfl, rfl, by simp [putRow, mapBlock, Sort.ahead], fun k hk => ?_⟩
  · unfold putCells rv
    rw [Array.getElem?_mapIdx, h.val p hp, Option.map_some]
    by_cases e : i ≤ p ∧ p < j
    · rw [if_pos e, if_pos ⟨e.1, by simp [hzl]; omega⟩]
      have h1 : p - i < zs.reverse.length := by simp [hzl]; omega
      rw [getElem!_pos zs.reverse.toArray (p - i) (by simpa using h1)]
      simp only [List.getElem_toArray, List.getElem_reverse]
      have h2 := hzg (zs.length - 1 - (p - i)) (by omega)
      rw [getElem!_pos zs.toArray _ (by simp; omega)] at h2
      simp only [List.getElem_toArray] at h2
      rw [h2]
      congr 3
      omega
    · rw [if_neg e, if_neg (by simp [hzl]; omega)]
  · unfold putCells
    rw [Array.getElem?_mapIdx]
    cases hq : cs[p]? with
    | none => rfl
    | some v => rw [Option.map_some, if_neg (by simp [hzl]; omega)]
  · unfold putRow mapBlock
    simp only [Array.getElem?_modify]
    rw [if_neg (fun e => hk e.symm)]
    rfl
set_option maxHeartbeats 8000000 in
set_option maxRecDepth 100000 in
theorem flipped8_calls {W : World} {b t n i k c : Nat} {cs : Array Value} {m : Nat → Int} (signed : Bool) (h : Row .i8 W b t n cs m) (hik : i ≤ k) (hk : k < n) (hn : n ≤ 1000) (hc : n ≤ c) (hm : ∀ p, -100 ≤ m p ∧ m p ≤ 100) :
    Calls Tryd.prog 88 #[.slice (some ⟨b, 0, none⟩) n c, .int .i64 (i : Int), .int .i64 (k : Int), .bool signed] W fun e w' => e = .returned (.tuple #[]) ∧ ∃ cs', Row .i8 w' b t n cs' (fl signed m i (k + 1)) ∧ (∀ p, n ≤ p → cs'[p]? = cs[p]?) ∧ cs'.size = cs.size ∧ Alone b W w' := by
  have hr := rev8_calls (c := c - i) h (show i < k + 1 by omega) (show k + 1 ≤ n by omega) (by omega)
  have HR := Aside0.mk hr
  clear hr
  have hw1 : IntKind.i64.wrap ((k : Int) + 1) = ((k + 1 : Nat) : Int) := by rw [iw64 (by omega) (by omega)]; omega
  have b0 : (0 : Int) ≤ (i : Int) := by omega
  have b1 : (i : Int) ≤ (k : Int) := by omega
  have b2 : ((k + 1 : Nat) : Int) ≤ (c : Int) := by omega
  have b3 : (i : Int) ≤ ((k + 1 : Nat) : Int) := by omega
  have b4 : (0 : Int) ≤ ((k + 1 : Nat) : Int) := by omega
  have b5 : ¬ c = i := by omega
  have b6 : ¬ i = c := by omega
  have b7 : k + 1 ≤ c := by omega
  have b8 : i ≤ k + 1 := by omega
  have HM := Aside0.mk hm
  clear hm
  go_enter Tryd.func88, Tryd.ntmps88
  go_wp2_with fail
  refine HR.out.mono ?_
  rintro e w1 ⟨rfl, cs1, hr1, ho1, hz1, ha1⟩
  have R1 := Aside0.mk hr1
  have O1 := Aside0.mk ho1
  have Z1 := Aside0.mk hz1
  have A1 := Aside0.mk ha1
  clear hr1 ho1 hz1 ha1 HR
  cases signed
  · go_wp2
    go_end0
    exact ⟨rfl, cs1, R1.out.congr (fun p _ => by unfold fl; rw [if_neg (by simp)]), O1.out, Z1.out, A1.out⟩
  · go_wp2
    go_loopw [8] (fun u wr => ∃ (q : Nat) (cs' : Array Value), i ≤ q ∧ q ≤ k + 1 ∧ u = .int .i64 (q : Int) ∧ Aside0 (Row .i8 wr b t n cs' (flTo m i (k + 1) q)) ∧ Aside0 (∀ p, n ≤ p → cs'[p]? = cs[p]?) ∧ Aside0 (cs'.size = cs.size) ∧ Aside0 (Alone b W wr)) (fun u _ => k + 1 - (intOf u).toNat)
    case atStart => exact ⟨i, cs1, Nat.le_refl _, by omega, rfl, ⟨R1.out.congr (fun p _ => by unfold flTo; rw [if_neg (by omega)])⟩, O1, Z1, A1⟩
    case round =>
      obtain ⟨q, cs', hq0, hq, rfl, RQ, OQ, ZQ, AQ⟩ := hrel
      by_cases hlt : q < k + 1
      · have c0 : (q : Int) ≤ (k : Int) := by omega
        have c1 : (0 : Int) ≤ (q : Int) := by omega
        have c2 : (q : Int) < (n : Int) := by omega
        have hcell := RQ.out.cell q (by omega)
        have hfree := RQ.out.blk.free q
        obtain ⟨x, hx⟩ : ∃ x, flTo m i (k + 1) q q = x := ⟨_, rfl⟩
        have hxr : x = rv m i (k + 1) q := by rw [← hx]; unfold flTo; rw [if_neg (by omega)]
        have hxb : -100 ≤ x ∧ x ≤ 100 := by
          rw [hxr]; unfold rv; split
          · exact HM.out _
          · exact HM.out _
        rw [hx] at hcell
        have hwx : IntKind.i8.wrap (-x) = -x := IntWalk.i8_in _ (by omega)
        have hwt : IntKind.i64.wrap ((q : Int) + 1) = ((q + 1 : Nat) : Int) := by rw [iw64 (by omega) (by omega)]; omega
        have HX := Aside0.mk hxr
        clear hx hxr
        go_wp2
        go_roundw
        case rel => exact ⟨q + 1, _, by omega, by omega, rfl, ⟨(RQ.out.set q (-x) (by omega)).congr (fun p hp => by
            unfold upd flTo
            by_cases e : p = q
            · subst e; rw [if_pos rfl, if_pos (by omega), HX.out]
            · rw [if_neg e]
              by_cases e2 : i ≤ p ∧ p < q
              · rw [if_pos e2, if_pos (by omega)]
              · rw [if_neg e2, if_neg (by omega)])⟩, ⟨fun p hp => by rw [Array.getElem?_setIfInBounds, if_neg (by omega)]; exact OQ.out p hp⟩, ⟨by rw [Array.size_setIfInBounds]; exact ZQ.out⟩, ⟨AQ.out.set q _⟩⟩
        case measure => simp [intOf]; omega
      · obtain rfl : q = k + 1 := by omega
        have c0 : ¬ ((k + 1 : Nat) : Int) ≤ (k : Int) := by omega
        go_wp2
        go_end0
        exact ⟨rfl, cs', RQ.out.congr (fun p _ => by unfold fl flTo; simp), OQ.out, ZQ.out, AQ.out⟩
end Go.Proofs.YtbadfjogakhhbaaDoor.G
namespace Go.Proofs.YtbadfjogakhhbaaDoor.G
open Go.Proofs.YtbadfjogakhhbaaDoor.Q Go.Proofs.YtbadfjogakhhbaaDoor.K Go.Proofs.YtbadfjogakhhbaaDoor.It
open Go.RowKit Go.Shelf Go.Proofs.YtbadfjogakhhbaaDoorW.PrintWords Go.Proofs.YtbadfjogakhhbaaDoorW.PrintLast Go.Proofs.YtbadfjogakhhbaaDoorW.PrintMore
set_option linter.unusedVariables false
attribute [local go_sem] Oper.semAt_some
/-- A stack in memory. -/
def stk (m : Nat → Int) : Array Value := #[.int .i8 (m 0), .int .i8 (m 1), .int .i8 (m 2), .int .i8 (m 3), .int .i8 (m 4), .int .i8 (m 5), .int .i8 (m 6)]
theorem stk_size (m : Nat → Int) : (stk m).size = 7 := rfl
theorem stk_get (m : Nat → Int) (j : Nat) (hj : j < 7) : (stk m)[j]? = some (.int .i8 (m j)) := by
  match j, hj with
  | 0, _ | 1, _ | 2, _ | 3, _ | 4, _ | 5, _ | 6, _ => rfl
  | _ + 7, h => omega
theorem stk_ext (m : Nat → Int) (cs : Array Value) (hs : cs.size = 7) (h : ∀ j, j < 7 → cs[j]? = some (.int .i8 (m j))) : cs = stk m := by
  apply Array.ext_getElem?
  intro j
  by_cases hj : j < 7
  · rw [h j hj, stk_get _ _ hj]
  · rw [Array.getElem?_eq_none (by omega), Array.getElem?_eq_none (by rw [stk_size]; omega)]
theorem stk_row {W : World} {b t : Nat} {m : Nat → Int} (h : Blk W b (stk m) t) : Row .i8 W b t 7 (stk m) m := ⟨h, by rw [stk_size]; omega, fun p hp => stk_get m p hp⟩
theorem row_stk {W : World} {b t : Nat} {cs : Array Value} {m : Nat → Int} (h : Row .i8 W b t 7 cs m) (hs : cs.size = 7) : Blk W b (stk m) t := by
  have e := stk_ext m cs hs h.val
  rw [← e]
  exact h.blk
theorem stk_cells {W : World} {b t : Nat} {m : Nat → Int} (h : Blk W b (stk m) t) : W.cell? ⟨b, 0, none⟩ = some (.int .i8 (m 0)) ∧ W.cell? ⟨b, 1, none⟩ = some (.int .i8 (m 1)) ∧ W.cell? ⟨b, 2, none⟩ = some (.int .i8 (m 2)) ∧ W.cell? ⟨b, 3, none⟩ = some (.int .i8 (m 3)) ∧ W.cell? ⟨b, 4, none⟩ = some (.int .i8 (m 4)) ∧ W.cell? ⟨b, 5, none⟩ = some (.int .i8 (m 5)) ∧ W.cell? ⟨b, 6, none⟩ = some (.int .i8 (m 6)) :=
  ⟨h.cell 0 rfl, h.cell 1 rfl, h.cell 2 rfl, h.cell 3 rfl, h.cell 4 rfl, h.cell 5 rfl, h.cell 6 rfl⟩
/-- The moves from place i, to places before q. -/
def mvTo (sg : Bool) (i q : Nat) : List (Nat × Nat) := ((List.range q).filter (fun k => decide (i ≤ k) && (sg || decide (k ≠ i)))).map (fun k => (i, k))
theorem mvTo_low (sg : Bool) (i q : Nat) (h : q ≤ i) : mvTo sg i q = [] := by
  unfold mvTo
  rw [List.filter_eq_nil_iff.2 (fun k hk => by rw [decide_eq_false (by have := List.mem_range.1 hk; omega)]; simp), List.map_nil]
theorem mvTo_succ (sg : Bool) (i q : Nat) : mvTo sg i (q + 1) = if i ≤ q ∧ (sg = true ∨ q ≠ i) then mvTo sg i q ++ [(i, q)] else mvTo sg i q := by
  unfold mvTo
  rw [List.range_succ, List.filter_append, List.map_append]
  by_cases h1 : i ≤ q <;> by_cases h2 : q = i <;> cases sg <;> simp [h1, h2]
def mvAt (n : Nat) (sg an : Bool) (i : Nat) : List (Nat × Nat) := if 0 < i ∧ an = false then [] else mvTo sg i n
def mvIn (n : Nat) (sg an : Bool) (i : Nat) : List (Nat × Nat) := (List.range i).flatMap (mvAt n sg an)
theorem mvIn_succ (n : Nat) (sg an : Bool) (i : Nat) : mvIn n sg an (i + 1) = mvIn n sg an i ++ mvAt n sg an i := by simp [mvIn, List.range_succ]
/-- All moves. -/
def mvL (n : Nat) (sg an : Bool) : List (Nat × Nat) := mvIn n sg an n
theorem mvIn_split (n : Nat) (sg an : Bool) (i j : Nat) (h : i ≤ j) : ∃ r, mvIn n sg an j = mvIn n sg an i ++ r := by
  have key : ∀ d, ∃ r, mvIn n sg an (i + d) = mvIn n sg an i ++ r := by
    intro d
    induction d with
    | zero => exact ⟨[], by simp⟩
    | succ d ih =>
      obtain ⟨r, hr⟩ := ih
      exact ⟨r ++ mvAt n sg an (i + d), by rw [← Nat.add_assoc, mvIn_succ, hr, List.append_assoc]⟩
  obtain ⟨r, hr⟩ := key (j - i)
  rw [show i + (j - i) = j by omega] at hr
  exact ⟨r, hr⟩
theorem mvTo_split (sg : Bool) (i q n : Nat) (h : q ≤ n) : ∃ r, mvTo sg i n = mvTo sg i q ++ r := by
  have key : ∀ d, ∃ r, mvTo sg i (q + d) = mvTo sg i q ++ r := by
    intro d
    induction d with
    | zero => exact ⟨[], by simp⟩
    | succ d ih =>
      obtain ⟨r, hr⟩ := ih
      rw [← Nat.add_assoc, mvTo_succ]
      split
      · exact ⟨r ++ [(i, q + d)], by rw [hr, List.append_assoc]⟩
      · exact ⟨r, hr⟩
  obtain ⟨r, hr⟩ := key (n - q)
  rw [show q + (n - q) = n by omega] at hr
  exact ⟨r, hr⟩
theorem mv_at (n : Nat) (sg an : Bool) (i q : Nat) (hi : i < n) (hq : q < n) (hiq : i ≤ q) (h0 : ¬ (0 < i ∧ an = false)) (h1 : sg = true ∨ q ≠ i) : ∃ r, mvL n sg an = (mvIn n sg an i ++ mvTo sg i q) ++ (i, q) :: r := by
  obtain ⟨r1, e1⟩ := mvIn_split n sg an (i + 1) n (by omega)
  obtain ⟨r2, e2⟩ := mvTo_split sg i (q + 1) n (by omega)
  rw [mvTo_succ, if_pos ⟨hiq, h1⟩] at e2
  refine ⟨r2 ++ r1, ?_⟩
  unfold mvL
  rw [e1, mvIn_succ, mvAt, if_neg h0, e2]
  simp
theorem mvIn_top (n : Nat) (sg an : Bool) (h : an = false) : ∀ i, 0 < i → mvIn n sg an i = mvIn n sg an 1
  | 0, h0 => absurd h0 (by omega)
  | 1, _ => rfl
  | i + 2, _ => by rw [mvIn_succ, mvAt, if_pos ⟨by omega, h⟩, List.append_nil, mvIn_top n sg an h (i + 1) (by omega)]
def keepM (Bx Bs : Nat) (k : Nat) : Prop := k = Bx ∨ k = Bs
def encM (sg : Bool) (m : Nat → Int) (x : Nat × Nat) : Array Value := #[.agg #[.int .i64 (x.1 : Int), .int .i64 (x.2 : Int)], .agg (stk (fl sg m x.1 (x.2 + 1)))]
theorem step_below (T B : Nat) {A A' : World} (h : Below A.heap.size A A') : Step T B A A' :=
  ⟨h.os, h.tape, h.output, h.size, fun k o hk _ => by rw [h.block k (Array.getElem?_eq_some_iff.1 hk).1]; exact hk⟩
set_option maxRecDepth 100000 in
set_option maxHeartbeats 8000000 in
theorem moves_it (d : Nat) (hd : 1 ≤ d) (Bx Bs n : Nat) (sg an : Bool) (m : Nat → Int) (hn : n ≤ 7) (hm : ∀ p, -100 ≤ m p ∧ m p ≤ 100) (w : World)
    (hBx : Blk w Bx #[.int .i64 n, .bool sg, .bool an] 47) (hBs : Blk w Bs (stk m) 53) :
    IterC Fence.wide d Tryd.prog 87 #[.pointer (some ⟨Bx, 0, none⟩), .pointer (some ⟨Bs, 0, none⟩)] (encM sg m) 0 (keepM Bx Bs) (mvL n sg an) w := by
  intro lo J Jx W hW hJ hJx hY h0
  have hWx := hBx.below hW hBx.lt
  have hWs := hBs.below hW hBs.lt
  have hlx := hWx.lt
  have hls := hWs.lt
  have hcn := hWx.cell 0 (v := .int .i64 n) rfl
  clear hBx hBs hW
  have HJ := Aside0.mk hJ
  have HY := Aside0.mk hY
  have HX := Aside0.mk hWx
  have HS := Aside0.mk hWs
  have H0 := Aside0.mk h0
  have HM := Aside0.mk hm
  clear hJ hJx hY hWx hWs h0 hm
  refine callsIn_of_wp Tryd.func87 rfl trivial ?_ rfl
  simp only [Tryd.ntmps87, List.size_toArray, List.length_cons, List.length_nil, Nat.reduceAdd, Nat.reduceSub, Array.replicate_succ, Array.replicate_zero, List.push_toArray, List.append_toArray, List.nil_append, List.cons_append]
  gi_wp2
  clear hcn
  gi_loopw [9, 4, 5] (fun u _ _ wr => ∃ i : Nat, i ≤ n ∧ u = .int .i64 i ∧ Aside0 (Blk wr Bx #[.int .i64 n, .bool sg, .bool an] 47) ∧ Aside0 (Blk wr Bs (stk m) 53) ∧ Aside0 (J (mvIn n sg an i) wr) ∧ Aside0 (W.heap.size ≤ wr.heap.size)) (fun u _ _ _ => n - (intOf u).toNat)
  case atStart => exact ⟨0, Nat.zero_le _, rfl, HX, HS, H0, ⟨Nat.le_refl _⟩⟩
  case round =>
    obtain ⟨i, hi, rfl, HX2, HS2, HJ2, HZ2⟩ := hrel
    clear HX HS H0
    by_cases hlt : i < n
    · have hi1 : (i : Int) < (n : Int) := by omega
      have c0 := HX2.out.cell 0 (v := .int .i64 n) rfl
      have c1 := HX2.out.cell 1 (v := .bool sg) rfl
      have c2 := HX2.out.cell 2 (v := .bool an) rfl
      have hwt : IntKind.i64.wrap ((i : Int) + 1) = (i : Int) + 1 := iw64 (by omega) (by omega)
      by_cases hstop : 0 < i ∧ an = false
      · obtain ⟨h0, ha⟩ := hstop
        subst ha
        have h0' : (0 : Int) < (i : Int) := by omega
        gi_wp2
        refine bodyPost_ret (results_none rfl _ _ _) rfl ?_
        exact ⟨⟨_, rfl⟩, .inl (by unfold mvL; rw [mvIn_top n sg false rfl n (by omega), ← mvIn_top n sg false rfl i h0]; exact HJ2.out)⟩
      · have HST := Aside0.mk hstop
        rcases (show (0 < i ∧ an = true) ∨ ¬ 0 < i by cases an <;> simp at hstop ⊢ <;> omega) with ⟨h0, ha⟩ | h0
        · have h0' : (0 : Int) < (i : Int) := by omega
          clear hstop
          rw [ha] at c2
          clear ha
          gi_wp2
          clear c0 c1 c2
          gi_loopw [5] (fun u wr => ∃ q : Nat, i ≤ q ∧ q ≤ n ∧ u = .int .i64 q ∧ Aside0 (Blk wr Bx #[.int .i64 n, .bool sg, .bool an] 47) ∧ Aside0 (Blk wr Bs (stk m) 53) ∧ Aside0 (J (mvIn n sg an i ++ mvTo sg i q) wr) ∧ Aside0 (W.heap.size ≤ wr.heap.size)) (fun u _ => n - (intOf u).toNat)
          case atStart => exact ⟨i, Nat.le_refl _, by omega, rfl, HX2, HS2, .mk (by rw [mvTo_low _ _ _ (Nat.le_refl _), List.append_nil]; exact HJ2.out), HZ2⟩
          case round =>
            obtain ⟨q, hiq, hq, rfl, HX3, HS3, HJ3, HZ3⟩ := hrel
            clear HX2 HS2 HJ2 HZ2
            have c0 := HX3.out.cell 0 (v := .int .i64 n) rfl
            have c1 := HX3.out.cell 1 (v := .bool sg) rfl
            have hwq : IntKind.i64.wrap ((q : Int) + 1) = (q : Int) + 1 := iw64 (by omega) (by omega)
            by_cases hqn : q < n
            · have hq1 : (q : Int) < (n : Int) := by omega
              by_cases hqi : q = i
              · have hqe : ((q : Int) == (i : Int)) = true := by rw [beq_iff_eq]; omega
                by_cases hsg : sg = true
                · have hgo : sg = true ∨ q ≠ i := .inl hsg
                  have HQI := Aside0.mk hqi
                  clear hqi
                  rw [hsg] at c1
                  clear hsg
                  obtain ⟨r, hr⟩ := mv_at n sg an i q hlt hqn hiq HST.out hgo
                  have HRG := Aside0.mk hr
                  clear hr
                  obtain ⟨z0, z1, z2, z3, z4, z5, z6⟩ := stk_cells HS3.out
                  gi_wp2
                  clear z0 z1 z2 z3 z4 z5 z6
                  obtain ⟨Wt, hWt⟩ : ∃ Wt, wr.alloc (Obj.cells (stk m) 53) = Wt := ⟨_, rfl⟩
                  have BT := Aside0.mk (show Below wr.heap.size wr Wt by rw [← hWt]; exact (Below.refl _ wr).alloc (Nat.le_refl _) _)
                  have RT := Aside0.mk (show Blk Wt wr.heap.size (stk m) 53 by rw [← hWt]; exact Blk.new wr _ 53)
                  have hc1 : Wt.drew.cell? ⟨Bx, 1, none⟩ = some (.bool sg) := (HX3.out.below BT.out HX3.out.lt).cell 1 rfl
                  have RT2 := Aside0.mk (stk_row RT.out.drew)
                  have BT2 := Aside0.mk (BT.out.drew)
                  have hWt' : wr.alloc (Obj.cells #[Value.int IntKind.i8 (m 0), Value.int IntKind.i8 (m 1), Value.int IntKind.i8 (m 2), Value.int IntKind.i8 (m 3), Value.int IntKind.i8 (m 4), Value.int IntKind.i8 (m 5), Value.int IntKind.i8 (m 6)] 53) = Wt := hWt
                  rw [hWt']
                  clear hWt hWt' RT BT
                  refine wpIn_wide.2 ?_
                  refine start_ (n := 6) (S := fun w' => w'.cell? ⟨Bx, 1, none⟩ = some (.bool sg)) (ds := [5]) #[false, false, false, false, false, false] (by kernel_rfl) rfl rfl hc1 (fun hHeld => ?_)
                  generalize Wt.drew = Wd at hHeld RT2 BT2 ⊢
                  refine pure_ (i := 0) (N := (some 35)) (v := ?_) (a' := ?_) #[true, false, false, false, false, false] rfl rfl (by kernel_rfl) (fun _ _ _ h => h) (Or.inl ⟨by rfl, ?_⟩) ?_ ?_
                  rotate_left
                  · intro w'
                    go_simp
                    with_reducible rfl
                  rotate_left
                  · simp only [Act.put, List.setIfInBounds_toArray, List.set_cons_zero, List.set_cons_succ]
                    rfl
                  refine pure_ (i := 1) (N := (some 36)) (v := ?_) (a' := ?_) #[true, true, false, false, false, false] rfl rfl (by kernel_rfl) (fun _ _ _ h => h) (Or.inl ⟨by rfl, ?_⟩) ?_ ?_
                  rotate_left
                  · intro w'
                    go_simp
                    with_reducible rfl
                  rotate_left
                  · simp only [Act.put, List.setIfInBounds_toArray, List.set_cons_zero, List.set_cons_succ]
                    rfl
                  refine pure_ (i := 2) (N := (some 37)) (v := ?_) (a' := ?_) #[true, true, true, false, false, false] rfl rfl (by kernel_rfl) (fun _ _ _ h => h) (Or.inl ⟨by rfl, ?_⟩) ?_ ?_
                  rotate_left
                  · intro w'
                    go_simp
                    with_reducible rfl
                  rotate_left
                  · simp only [Act.put, List.setIfInBounds_toArray, List.set_cons_zero, List.set_cons_succ]
                    rfl
                  refine pure_ (i := 3) (N := (some 38)) (v := ?_) (a' := ?_) #[true, true, true, true, false, false] rfl rfl (by kernel_rfl) (fun _ _ _ h => h) (Or.inl ⟨by rfl, ?_⟩) ?_ ?_
                  rotate_left
                  · intro w'
                    go_simp
                    with_reducible rfl
                  rotate_left
                  · simp only [Act.put, List.setIfInBounds_toArray, List.set_cons_zero, List.set_cons_succ]
                    rfl
                  refine take_ (i := 4) (N := (some 39)) (v := ?_) (a' := ?_) #[true, true, true, true, true, false] rfl rfl (by kernel_rfl) (fun _ _ _ h => h) (Or.inl ⟨by rfl, ?_⟩) hHeld ?_ ?_
                  rotate_left
                  · rintro w' s0
                    go_simp
                    with_reducible rfl
                  rotate_left
                  · simp only [Act.put, List.setIfInBounds_toArray, List.set_cons_zero, List.set_cons_succ]
                    rfl
                  refine last_ (i := 5) (N := (some 40)) #[true, true, true, true, true, true] rfl rfl (by kernel_rfl) (by decide) (fun K hK => ?_)
                  refine goes_ Tryd.func88 (by kernel_rfl) rfl #[.slice (some ⟨wr.heap.size, 0, none⟩) 7 7, .int .i64 (i : Int), .int .i64 (q : Int), .bool sg] (by rfl) rfl rfl (by (try simp only [List.map_toArray, List.map_cons, List.map_nil]); first | done | rfl) ?_
                  refine (flipped8_calls (t := 53) (n := 7) sg RT2.out (show i ≤ q by omega) (show q < 7 by omega) (by omega) (by omega) HM.out).mono ?_
                  rintro e W5 ⟨rfl, cs5, hr5, _, hz5, ha5⟩
                  have RT5 := Aside0.mk (row_stk hr5 (by rw [hz5]; rfl))
                  have A5 := Aside0.mk (Alone.below BT2.out ha5 (Nat.le_refl _))
                  have S5 := Aside0.mk (step_below 0 W.heap.size A5.out)
                  clear hr5 hz5 ha5
                  refine ⟨_, rfl, ?_⟩
                  refine hK.out _ _ ?_
                  clear hK K hHeld
                  refine norm_ (a' := ?_) ?_ ?_
                  rotate_left
                  · show Act.put _ (some 40) _ = _
                    simp only [Act.put, List.setIfInBounds_toArray, List.set_cons_zero, List.set_cons_succ]
                    rfl
                  refine done_ (by kernel_rfl) ?_
                  have HX5 := Aside0.mk (HX3.out.below A5.out HX3.out.lt)
                  have HS5 := Aside0.mk (HS3.out.below A5.out HS3.out.lt)
                  have HZ5 := Aside0.mk (show W.heap.size ≤ W5.heap.size by have := HZ3.out; have := A5.out.size; omega)
                  obtain ⟨fn, tmps, assign, body, hy, hR⟩ := HY.out _ _ _ _ HRG.out (HJ.out _ _ _ HJ3.out S5.out)
                  try dsimp only at hy
                  obtain ⟨m5, hm5⟩ : ∃ f, fl sg m i (q + 1) = f := ⟨_, rfl⟩
                  have hrt := RT5.out
                  rw [hm5] at hrt
                  simp only [encM, stk, hm5] at hy
                  obtain ⟨z0, z1, z2, z3, z4, z5, z6⟩ := stk_cells hrt
                  have HR := Aside0.mk hR
                  clear hR hrt hm5 HX3 HS3 HJ3 HZ3 RT2 BT2 RT5 A5 S5 hc1 c0 c1
                  gi_wp2
                  refine HR.out.mono ?_
                  rintro e W6 (⟨rfl, hJ6, hk6⟩ | ⟨rfl, hJx6⟩)
                  · have HX6 := Aside0.mk (show Blk W6 Bx #[.int .i64 n, .bool sg, .bool an] 47 from hk6.same _ _ HX5.out (.inl (.inl rfl)))
                    have HS6 := Aside0.mk (show Blk W6 Bs (stk m) 53 from hk6.same _ _ HS5.out (.inl (.inr rfl)))
                    have HZ6 := Aside0.mk (show W.heap.size ≤ W6.heap.size by have := HZ5.out; have := hk6.size; omega)
                    have HJ6 := Aside0.mk hJ6
                    clear hJ6 hk6 hy HR z0 z1 z2 z3 z4 z5 z6
                    gi_wp2
                    exact ⟨⟨q + 1, by omega, by omega, by simp, HX6, HS6, .mk (by rw [mvTo_succ, if_pos ⟨hiq, hgo⟩, ← List.append_assoc]; exact HJ6.out), HZ6⟩, by simp [intOf]; omega⟩
                  · have HX6 := Aside0.mk hJx6
                    clear hJx6 hy HR z0 z1 z2 z3 z4 z5 z6
                    gi_wp2
                    refine bodyPost_ret (results_none rfl _ _ _) rfl ?_
                    exact ⟨⟨_, rfl⟩, .inr ⟨_, _, _, HRG.out, HX6.out⟩⟩
                · have hsg' : sg = false := by simpa using hsg
                  subst hsg'
                  have HQI := Aside0.mk hqi
                  clear hqi hsg
                  gi_wp2
                  exact ⟨⟨q + 1, by omega, by omega, by simp, HX3, HS3, .mk (by rw [mvTo_succ, if_neg (by rw [HQI.out]; simp)]; exact HJ3.out), HZ3⟩, by simp [intOf]; omega⟩
              · have hqe : ((q : Int) == (i : Int)) = false := by rw [beq_eq_false_iff_ne]; omega
                have hgo : sg = true ∨ q ≠ i := .inr hqi
                have HQI := Aside0.mk hqi
                clear hqi
                obtain ⟨r, hr⟩ := mv_at n sg an i q hlt hqn hiq HST.out hgo
                have HRG := Aside0.mk hr
                clear hr
                obtain ⟨z0, z1, z2, z3, z4, z5, z6⟩ := stk_cells HS3.out
                gi_wp2
                clear z0 z1 z2 z3 z4 z5 z6
                obtain ⟨Wt, hWt⟩ : ∃ Wt, wr.alloc (Obj.cells (stk m) 53) = Wt := ⟨_, rfl⟩
                have BT := Aside0.mk (show Below wr.heap.size wr Wt by rw [← hWt]; exact (Below.refl _ wr).alloc (Nat.le_refl _) _)
                have RT := Aside0.mk (show Blk Wt wr.heap.size (stk m) 53 by rw [← hWt]; exact Blk.new wr _ 53)
                have hc1 : Wt.drew.cell? ⟨Bx, 1, none⟩ = some (.bool sg) := (HX3.out.below BT.out HX3.out.lt).cell 1 rfl
                have RT2 := Aside0.mk (stk_row RT.out.drew)
                have BT2 := Aside0.mk (BT.out.drew)
                have hWt' : wr.alloc (Obj.cells #[Value.int IntKind.i8 (m 0), Value.int IntKind.i8 (m 1), Value.int IntKind.i8 (m 2), Value.int IntKind.i8 (m 3), Value.int IntKind.i8 (m 4), Value.int IntKind.i8 (m 5), Value.int IntKind.i8 (m 6)] 53) = Wt := hWt
                rw [hWt']
                clear hWt hWt' RT BT
                refine wpIn_wide.2 ?_
                refine start_ (n := 6) (S := fun w' => w'.cell? ⟨Bx, 1, none⟩ = some (.bool sg)) (ds := [5]) #[false, false, false, false, false, false] (by kernel_rfl) rfl rfl hc1 (fun hHeld => ?_)
                generalize Wt.drew = Wd at hHeld RT2 BT2 ⊢
                refine pure_ (i := 0) (N := (some 35)) (v := ?_) (a' := ?_) #[true, false, false, false, false, false] rfl rfl (by kernel_rfl) (fun _ _ _ h => h) (Or.inl ⟨by rfl, ?_⟩) ?_ ?_
                rotate_left
                · intro w'
                  go_simp
                  with_reducible rfl
                rotate_left
                · simp only [Act.put, List.setIfInBounds_toArray, List.set_cons_zero, List.set_cons_succ]
                  rfl
                refine pure_ (i := 1) (N := (some 36)) (v := ?_) (a' := ?_) #[true, true, false, false, false, false] rfl rfl (by kernel_rfl) (fun _ _ _ h => h) (Or.inl ⟨by rfl, ?_⟩) ?_ ?_
                rotate_left
                · intro w'
                  go_simp
                  with_reducible rfl
                rotate_left
                · simp only [Act.put, List.setIfInBounds_toArray, List.set_cons_zero, List.set_cons_succ]
                  rfl
                refine pure_ (i := 2) (N := (some 37)) (v := ?_) (a' := ?_) #[true, true, true, false, false, false] rfl rfl (by kernel_rfl) (fun _ _ _ h => h) (Or.inl ⟨by rfl, ?_⟩) ?_ ?_
                rotate_left
                · intro w'
                  go_simp
                  with_reducible rfl
                rotate_left
                · simp only [Act.put, List.setIfInBounds_toArray, List.set_cons_zero, List.set_cons_succ]
                  rfl
                refine pure_ (i := 3) (N := (some 38)) (v := ?_) (a' := ?_) #[true, true, true, true, false, false] rfl rfl (by kernel_rfl) (fun _ _ _ h => h) (Or.inl ⟨by rfl, ?_⟩) ?_ ?_
                rotate_left
                · intro w'
                  go_simp
                  with_reducible rfl
                rotate_left
                · simp only [Act.put, List.setIfInBounds_toArray, List.set_cons_zero, List.set_cons_succ]
                  rfl
                refine take_ (i := 4) (N := (some 39)) (v := ?_) (a' := ?_) #[true, true, true, true, true, false] rfl rfl (by kernel_rfl) (fun _ _ _ h => h) (Or.inl ⟨by rfl, ?_⟩) hHeld ?_ ?_
                rotate_left
                · rintro w' s0
                  go_simp
                  with_reducible rfl
                rotate_left
                · simp only [Act.put, List.setIfInBounds_toArray, List.set_cons_zero, List.set_cons_succ]
                  rfl
                refine last_ (i := 5) (N := (some 40)) #[true, true, true, true, true, true] rfl rfl (by kernel_rfl) (by decide) (fun K hK => ?_)
                refine goes_ Tryd.func88 (by kernel_rfl) rfl #[.slice (some ⟨wr.heap.size, 0, none⟩) 7 7, .int .i64 (i : Int), .int .i64 (q : Int), .bool sg] (by rfl) rfl rfl (by (try simp only [List.map_toArray, List.map_cons, List.map_nil]); first | done | rfl) ?_
                refine (flipped8_calls (t := 53) (n := 7) sg RT2.out (show i ≤ q by omega) (show q < 7 by omega) (by omega) (by omega) HM.out).mono ?_
                rintro e W5 ⟨rfl, cs5, hr5, _, hz5, ha5⟩
                have RT5 := Aside0.mk (row_stk hr5 (by rw [hz5]; rfl))
                have A5 := Aside0.mk (Alone.below BT2.out ha5 (Nat.le_refl _))
                have S5 := Aside0.mk (step_below 0 W.heap.size A5.out)
                clear hr5 hz5 ha5
                refine ⟨_, rfl, ?_⟩
                refine hK.out _ _ ?_
                clear hK K hHeld
                refine norm_ (a' := ?_) ?_ ?_
                rotate_left
                · show Act.put _ (some 40) _ = _
                  simp only [Act.put, List.setIfInBounds_toArray, List.set_cons_zero, List.set_cons_succ]
                  rfl
                refine done_ (by kernel_rfl) ?_
                have HX5 := Aside0.mk (HX3.out.below A5.out HX3.out.lt)
                have HS5 := Aside0.mk (HS3.out.below A5.out HS3.out.lt)
                have HZ5 := Aside0.mk (show W.heap.size ≤ W5.heap.size by have := HZ3.out; have := A5.out.size; omega)
                obtain ⟨fn, tmps, assign, body, hy, hR⟩ := HY.out _ _ _ _ HRG.out (HJ.out _ _ _ HJ3.out S5.out)
                try dsimp only at hy
                obtain ⟨m5, hm5⟩ : ∃ f, fl sg m i (q + 1) = f := ⟨_, rfl⟩
                have hrt := RT5.out
                rw [hm5] at hrt
                simp only [encM, stk, hm5] at hy
                obtain ⟨z0, z1, z2, z3, z4, z5, z6⟩ := stk_cells hrt
                have HR := Aside0.mk hR
                clear hR hrt hm5 HX3 HS3 HJ3 HZ3 RT2 BT2 RT5 A5 S5 hc1 c0 c1
                gi_wp2
                refine HR.out.mono ?_
                rintro e W6 (⟨rfl, hJ6, hk6⟩ | ⟨rfl, hJx6⟩)
                · have HX6 := Aside0.mk (show Blk W6 Bx #[.int .i64 n, .bool sg, .bool an] 47 from hk6.same _ _ HX5.out (.inl (.inl rfl)))
                  have HS6 := Aside0.mk (show Blk W6 Bs (stk m) 53 from hk6.same _ _ HS5.out (.inl (.inr rfl)))
                  have HZ6 := Aside0.mk (show W.heap.size ≤ W6.heap.size by have := HZ5.out; have := hk6.size; omega)
                  have HJ6 := Aside0.mk hJ6
                  clear hJ6 hk6 hy HR z0 z1 z2 z3 z4 z5 z6
                  gi_wp2
                  exact ⟨⟨q + 1, by omega, by omega, by simp, HX6, HS6, .mk (by rw [mvTo_succ, if_pos ⟨hiq, hgo⟩, ← List.append_assoc]; exact HJ6.out), HZ6⟩, by simp [intOf]; omega⟩
                · have HX6 := Aside0.mk hJx6
                  clear hJx6 hy HR z0 z1 z2 z3 z4 z5 z6
                  gi_wp2
                  refine bodyPost_ret (results_none rfl _ _ _) rfl ?_
                  exact ⟨⟨_, rfl⟩, .inr ⟨_, _, _, HRG.out, HX6.out⟩⟩
            · obtain rfl : q = n := by omega
              gi_wp2
              exact ⟨⟨i + 1, by omega, by simp, HX3, HS3, .mk (by rw [mvIn_succ, mvAt, if_neg HST.out]; exact HJ3.out), HZ3⟩, by simp [intOf]; omega⟩
        · have h0' : ¬ (0 : Int) < (i : Int) := by omega
          clear hstop
          gi_wp2
          clear c0 c1 c2
          gi_loopw [5] (fun u wr => ∃ q : Nat, i ≤ q ∧ q ≤ n ∧ u = .int .i64 q ∧ Aside0 (Blk wr Bx #[.int .i64 n, .bool sg, .bool an] 47) ∧ Aside0 (Blk wr Bs (stk m) 53) ∧ Aside0 (J (mvIn n sg an i ++ mvTo sg i q) wr) ∧ Aside0 (W.heap.size ≤ wr.heap.size)) (fun u _ => n - (intOf u).toNat)
          case atStart => exact ⟨i, Nat.le_refl _, by omega, rfl, HX2, HS2, .mk (by rw [mvTo_low _ _ _ (Nat.le_refl _), List.append_nil]; exact HJ2.out), HZ2⟩
          case round =>
            obtain ⟨q, hiq, hq, rfl, HX3, HS3, HJ3, HZ3⟩ := hrel
            clear HX2 HS2 HJ2 HZ2
            have c0 := HX3.out.cell 0 (v := .int .i64 n) rfl
            have c1 := HX3.out.cell 1 (v := .bool sg) rfl
            have hwq : IntKind.i64.wrap ((q : Int) + 1) = (q : Int) + 1 := iw64 (by omega) (by omega)
            by_cases hqn : q < n
            · have hq1 : (q : Int) < (n : Int) := by omega
              by_cases hqi : q = i
              · have hqe : ((q : Int) == (i : Int)) = true := by rw [beq_iff_eq]; omega
                by_cases hsg : sg = true
                · have hgo : sg = true ∨ q ≠ i := .inl hsg
                  have HQI := Aside0.mk hqi
                  clear hqi
                  rw [hsg] at c1
                  clear hsg
                  obtain ⟨r, hr⟩ := mv_at n sg an i q hlt hqn hiq HST.out hgo
                  have HRG := Aside0.mk hr
                  clear hr
                  obtain ⟨z0, z1, z2, z3, z4, z5, z6⟩ := stk_cells HS3.out
                  gi_wp2
                  clear z0 z1 z2 z3 z4 z5 z6
                  obtain ⟨Wt, hWt⟩ : ∃ Wt, wr.alloc (Obj.cells (stk m) 53) = Wt := ⟨_, rfl⟩
                  have BT := Aside0.mk (show Below wr.heap.size wr Wt by rw [← hWt]; exact (Below.refl _ wr).alloc (Nat.le_refl _) _)
                  have RT := Aside0.mk (show Blk Wt wr.heap.size (stk m) 53 by rw [← hWt]; exact Blk.new wr _ 53)
                  have hc1 : Wt.drew.cell? ⟨Bx, 1, none⟩ = some (.bool sg) := (HX3.out.below BT.out HX3.out.lt).cell 1 rfl
                  have RT2 := Aside0.mk (stk_row RT.out.drew)
                  have BT2 := Aside0.mk (BT.out.drew)
                  have hWt' : wr.alloc (Obj.cells #[Value.int IntKind.i8 (m 0), Value.int IntKind.i8 (m 1), Value.int IntKind.i8 (m 2), Value.int IntKind.i8 (m 3), Value.int IntKind.i8 (m 4), Value.int IntKind.i8 (m 5), Value.int IntKind.i8 (m 6)] 53) = Wt := hWt
                  rw [hWt']
                  clear hWt hWt' RT BT
                  refine wpIn_wide.2 ?_
                  refine start_ (n := 6) (S := fun w' => w'.cell? ⟨Bx, 1, none⟩ = some (.bool sg)) (ds := [5]) #[false, false, false, false, false, false] (by kernel_rfl) rfl rfl hc1 (fun hHeld => ?_)
                  generalize Wt.drew = Wd at hHeld RT2 BT2 ⊢
                  refine pure_ (i := 0) (N := (some 35)) (v := ?_) (a' := ?_) #[true, false, false, false, false, false] rfl rfl (by kernel_rfl) (fun _ _ _ h => h) (Or.inl ⟨by rfl, ?_⟩) ?_ ?_
                  rotate_left
                  · intro w'
                    go_simp
                    with_reducible rfl
                  rotate_left
                  · simp only [Act.put, List.setIfInBounds_toArray, List.set_cons_zero, List.set_cons_succ]
                    rfl
                  refine pure_ (i := 1) (N := (some 36)) (v := ?_) (a' := ?_) #[true, true, false, false, false, false] rfl rfl (by kernel_rfl) (fun _ _ _ h => h) (Or.inl ⟨by rfl, ?_⟩) ?_ ?_
                  rotate_left
                  · intro w'
                    go_simp
                    with_reducible rfl
                  rotate_left
                  · simp only [Act.put, List.setIfInBounds_toArray, List.set_cons_zero, List.set_cons_succ]
                    rfl
                  refine pure_ (i := 2) (N := (some 37)) (v := ?_) (a' := ?_) #[true, true, true, false, false, false] rfl rfl (by kernel_rfl) (fun _ _ _ h => h) (Or.inl ⟨by rfl, ?_⟩) ?_ ?_
                  rotate_left
                  · intro w'
                    go_simp
                    with_reducible rfl
                  rotate_left
                  · simp only [Act.put, List.setIfInBounds_toArray, List.set_cons_zero, List.set_cons_succ]
                    rfl
                  refine pure_ (i := 3) (N := (some 38)) (v := ?_) (a' := ?_) #[true, true, true, true, false, false] rfl rfl (by kernel_rfl) (fun _ _ _ h => h) (Or.inl ⟨by rfl, ?_⟩) ?_ ?_
                  rotate_left
                  · intro w'
                    go_simp
                    with_reducible rfl
                  rotate_left
                  · simp only [Act.put, List.setIfInBounds_toArray, List.set_cons_zero, List.set_cons_succ]
                    rfl
                  refine take_ (i := 4) (N := (some 39)) (v := ?_) (a' := ?_) #[true, true, true, true, true, false] rfl rfl (by kernel_rfl) (fun _ _ _ h => h) (Or.inl ⟨by rfl, ?_⟩) hHeld ?_ ?_
                  rotate_left
                  · rintro w' s0
                    go_simp
                    with_reducible rfl
                  rotate_left
                  · simp only [Act.put, List.setIfInBounds_toArray, List.set_cons_zero, List.set_cons_succ]
                    rfl
                  refine last_ (i := 5) (N := (some 40)) #[true, true, true, true, true, true] rfl rfl (by kernel_rfl) (by decide) (fun K hK => ?_)
                  refine goes_ Tryd.func88 (by kernel_rfl) rfl #[.slice (some ⟨wr.heap.size, 0, none⟩) 7 7, .int .i64 (i : Int), .int .i64 (q : Int), .bool sg] (by rfl) rfl rfl (by (try simp only [List.map_toArray, List.map_cons, List.map_nil]); first | done | rfl) ?_
                  refine (flipped8_calls (t := 53) (n := 7) sg RT2.out (show i ≤ q by omega) (show q < 7 by omega) (by omega) (by omega) HM.out).mono ?_
                  rintro e W5 ⟨rfl, cs5, hr5, _, hz5, ha5⟩
                  have RT5 := Aside0.mk (row_stk hr5 (by rw [hz5]; rfl))
                  have A5 := Aside0.mk (Alone.below BT2.out ha5 (Nat.le_refl _))
                  have S5 := Aside0.mk (step_below 0 W.heap.size A5.out)
                  clear hr5 hz5 ha5
                  refine ⟨_, rfl, ?_⟩
                  refine hK.out _ _ ?_
                  clear hK K hHeld
                  refine norm_ (a' := ?_) ?_ ?_
                  rotate_left
                  · show Act.put _ (some 40) _ = _
                    simp only [Act.put, List.setIfInBounds_toArray, List.set_cons_zero, List.set_cons_succ]
                    rfl
                  refine done_ (by kernel_rfl) ?_
                  have HX5 := Aside0.mk (HX3.out.below A5.out HX3.out.lt)
                  have HS5 := Aside0.mk (HS3.out.below A5.out HS3.out.lt)
                  have HZ5 := Aside0.mk (show W.heap.size ≤ W5.heap.size by have := HZ3.out; have := A5.out.size; omega)
                  obtain ⟨fn, tmps, assign, body, hy, hR⟩ := HY.out _ _ _ _ HRG.out (HJ.out _ _ _ HJ3.out S5.out)
                  try dsimp only at hy
                  obtain ⟨m5, hm5⟩ : ∃ f, fl sg m i (q + 1) = f := ⟨_, rfl⟩
                  have hrt := RT5.out
                  rw [hm5] at hrt
                  simp only [encM, stk, hm5] at hy
                  obtain ⟨z0, z1, z2, z3, z4, z5, z6⟩ := stk_cells hrt
                  have HR := Aside0.mk hR
                  clear hR hrt hm5 HX3 HS3 HJ3 HZ3 RT2 BT2 RT5 A5 S5 hc1 c0 c1
                  gi_wp2
                  refine HR.out.mono ?_
                  rintro e W6 (⟨rfl, hJ6, hk6⟩ | ⟨rfl, hJx6⟩)
                  · have HX6 := Aside0.mk (show Blk W6 Bx #[.int .i64 n, .bool sg, .bool an] 47 from hk6.same _ _ HX5.out (.inl (.inl rfl)))
                    have HS6 := Aside0.mk (show Blk W6 Bs (stk m) 53 from hk6.same _ _ HS5.out (.inl (.inr rfl)))
                    have HZ6 := Aside0.mk (show W.heap.size ≤ W6.heap.size by have := HZ5.out; have := hk6.size; omega)
                    have HJ6 := Aside0.mk hJ6
                    clear hJ6 hk6 hy HR z0 z1 z2 z3 z4 z5 z6
                    gi_wp2
                    exact ⟨⟨q + 1, by omega, by omega, by simp, HX6, HS6, .mk (by rw [mvTo_succ, if_pos ⟨hiq, hgo⟩, ← List.append_assoc]; exact HJ6.out), HZ6⟩, by simp [intOf]; omega⟩
                  · have HX6 := Aside0.mk hJx6
                    clear hJx6 hy HR z0 z1 z2 z3 z4 z5 z6
                    gi_wp2
                    refine bodyPost_ret (results_none rfl _ _ _) rfl ?_
                    exact ⟨⟨_, rfl⟩, .inr ⟨_, _, _, HRG.out, HX6.out⟩⟩
                · have hsg' : sg = false := by simpa using hsg
                  subst hsg'
                  have HQI := Aside0.mk hqi
                  clear hqi hsg
                  gi_wp2
                  exact ⟨⟨q + 1, by omega, by omega, by simp, HX3, HS3, .mk (by rw [mvTo_succ, if_neg (by rw [HQI.out]; simp)]; exact HJ3.out), HZ3⟩, by simp [intOf]; omega⟩
              · have hqe : ((q : Int) == (i : Int)) = false := by rw [beq_eq_false_iff_ne]; omega
                have hgo : sg = true ∨ q ≠ i := .inr hqi
                have HQI := Aside0.mk hqi
                clear hqi
                obtain ⟨r, hr⟩ := mv_at n sg an i q hlt hqn hiq HST.out hgo
                have HRG := Aside0.mk hr
                clear hr
                obtain ⟨z0, z1, z2, z3, z4, z5, z6⟩ := stk_cells HS3.out
                gi_wp2
                clear z0 z1 z2 z3 z4 z5 z6
                obtain ⟨Wt, hWt⟩ : ∃ Wt, wr.alloc (Obj.cells (stk m) 53) = Wt := ⟨_, rfl⟩
                have BT := Aside0.mk (show Below wr.heap.size wr Wt by rw [← hWt]; exact (Below.refl _ wr).alloc (Nat.le_refl _) _)
                have RT := Aside0.mk (show Blk Wt wr.heap.size (stk m) 53 by rw [← hWt]; exact Blk.new wr _ 53)
                have hc1 : Wt.drew.cell? ⟨Bx, 1, none⟩ = some (.bool sg) := (HX3.out.below BT.out HX3.out.lt).cell 1 rfl
                have RT2 := Aside0.mk (stk_row RT.out.drew)
                have BT2 := Aside0.mk (BT.out.drew)
                have hWt' : wr.alloc (Obj.cells #[Value.int IntKind.i8 (m 0), Value.int IntKind.i8 (m 1), Value.int IntKind.i8 (m 2), Value.int IntKind.i8 (m 3), Value.int IntKind.i8 (m 4), Value.int IntKind.i8 (m 5), Value.int IntKind.i8 (m 6)] 53) = Wt := hWt
                rw [hWt']
                clear hWt hWt' RT BT
                refine wpIn_wide.2 ?_
                refine start_ (n := 6) (S := fun w' => w'.cell? ⟨Bx, 1, none⟩ = some (.bool sg)) (ds := [5]) #[false, false, false, false, false, false] (by kernel_rfl) rfl rfl hc1 (fun hHeld => ?_)
                generalize Wt.drew = Wd at hHeld RT2 BT2 ⊢
                refine pure_ (i := 0) (N := (some 35)) (v := ?_) (a' := ?_) #[true, false, false, false, false, false] rfl rfl (by kernel_rfl) (fun _ _ _ h => h) (Or.inl ⟨by rfl, ?_⟩) ?_ ?_
                rotate_left
                · intro w'
                  go_simp
                  with_reducible rfl
                rotate_left
                · simp only [Act.put, List.setIfInBounds_toArray, List.set_cons_zero, List.set_cons_succ]
                  rfl
                refine pure_ (i := 1) (N := (some 36)) (v := ?_) (a' := ?_) #[true, true, false, false, false, false] rfl rfl (by kernel_rfl) (fun _ _ _ h => h) (Or.inl ⟨by rfl, ?_⟩) ?_ ?_
                rotate_left
                · intro w'
                  go_simp
                  with_reducible rfl
                rotate_left
                · simp only [Act.put, List.setIfInBounds_toArray, List.set_cons_zero, List.set_cons_succ]
                  rfl
                refine pure_ (i := 2) (N := (some 37)) (v := ?_) (a' := ?_) #[true, true, true, false, false, false] rfl rfl (by kernel_rfl) (fun _ _ _ h => h) (Or.inl ⟨by rfl, ?_⟩) ?_ ?_
                rotate_left
                · intro w'
                  go_simp
                  with_reducible rfl
                rotate_left
                · simp only [Act.put, List.setIfInBounds_toArray, List.set_cons_zero, List.set_cons_succ]
                  rfl
                refine pure_ (i := 3) (N := (some 38)) (v := ?_) (a' := ?_) #[true, true, true, true, false, false] rfl rfl (by kernel_rfl) (fun _ _ _ h => h) (Or.inl ⟨by rfl, ?_⟩) ?_ ?_
                rotate_left
                · intro w'
                  go_simp
                  with_reducible rfl
                rotate_left
                · simp only [Act.put, List.setIfInBounds_toArray, List.set_cons_zero, List.set_cons_succ]
                  rfl
                refine take_ (i := 4) (N := (some 39)) (v := ?_) (a' := ?_) #[true, true, true, true, true, false] rfl rfl (by kernel_rfl) (fun _ _ _ h => h) (Or.inl ⟨by rfl, ?_⟩) hHeld ?_ ?_
                rotate_left
                · rintro w' s0
                  go_simp
                  with_reducible rfl
                rotate_left
                · simp only [Act.put, List.setIfInBounds_toArray, List.set_cons_zero, List.set_cons_succ]
                  rfl
                refine last_ (i := 5) (N := (some 40)) #[true, true, true, true, true, true] rfl rfl (by kernel_rfl) (by decide) (fun K hK => ?_)
                refine goes_ Tryd.func88 (by kernel_rfl) rfl #[.slice (some ⟨wr.heap.size, 0, none⟩) 7 7, .int .i64 (i : Int), .int .i64 (q : Int), .bool sg] (by rfl) rfl rfl (by (try simp only [List.map_toArray, List.map_cons, List.map_nil]); first | done | rfl) ?_
                refine (flipped8_calls (t := 53) (n := 7) sg RT2.out (show i ≤ q by omega) (show q < 7 by omega) (by omega) (by omega) HM.out).mono ?_
                rintro e W5 ⟨rfl, cs5, hr5, _, hz5, ha5⟩
                have RT5 := Aside0.mk (row_stk hr5 (by rw [hz5]; rfl))
                have A5 := Aside0.mk (Alone.below BT2.out ha5 (Nat.le_refl _))
                have S5 := Aside0.mk (step_below 0 W.heap.size A5.out)
                clear hr5 hz5 ha5
                refine ⟨_, rfl, ?_⟩
                refine hK.out _ _ ?_
                clear hK K hHeld
                refine norm_ (a' := ?_) ?_ ?_
                rotate_left
                · show Act.put _ (some 40) _ = _
                  simp only [Act.put, List.setIfInBounds_toArray, List.set_cons_zero, List.set_cons_succ]
                  rfl
                refine done_ (by kernel_rfl) ?_
                have HX5 := Aside0.mk (HX3.out.below A5.out HX3.out.lt)
                have HS5 := Aside0.mk (HS3.out.below A5.out HS3.out.lt)
                have HZ5 := Aside0.mk (show W.heap.size ≤ W5.heap.size by have := HZ3.out; have := A5.out.size; omega)
                obtain ⟨fn, tmps, assign, body, hy, hR⟩ := HY.out _ _ _ _ HRG.out (HJ.out _ _ _ HJ3.out S5.out)
                try dsimp only at hy
                obtain ⟨m5, hm5⟩ : ∃ f, fl sg m i (q + 1) = f := ⟨_, rfl⟩
                have hrt := RT5.out
                rw [hm5] at hrt
                simp only [encM, stk, hm5] at hy
                obtain ⟨z0, z1, z2, z3, z4, z5, z6⟩ := stk_cells hrt
                have HR := Aside0.mk hR
                clear hR hrt hm5 HX3 HS3 HJ3 HZ3 RT2 BT2 RT5 A5 S5 hc1 c0 c1
                gi_wp2
                refine HR.out.mono ?_
                rintro e W6 (⟨rfl, hJ6, hk6⟩ | ⟨rfl, hJx6⟩)
                · have HX6 := Aside0.mk (show Blk W6 Bx #[.int .i64 n, .bool sg, .bool an] 47 from hk6.same _ _ HX5.out (.inl (.inl rfl)))
                  have HS6 := Aside0.mk (show Blk W6 Bs (stk m) 53 from hk6.same _ _ HS5.out (.inl (.inr rfl)))
                  have HZ6 := Aside0.mk (show W.heap.size ≤ W6.heap.size by have := HZ5.out; have := hk6.size; omega)
                  have HJ6 := Aside0.mk hJ6
                  clear hJ6 hk6 hy HR z0 z1 z2 z3 z4 z5 z6
                  gi_wp2
                  exact ⟨⟨q + 1, by omega, by omega, by simp, HX6, HS6, .mk (by rw [mvTo_succ, if_pos ⟨hiq, hgo⟩, ← List.append_assoc]; exact HJ6.out), HZ6⟩, by simp [intOf]; omega⟩
                · have HX6 := Aside0.mk hJx6
                  clear hJx6 hy HR z0 z1 z2 z3 z4 z5 z6
                  gi_wp2
                  refine bodyPost_ret (results_none rfl _ _ _) rfl ?_
                  exact ⟨⟨_, rfl⟩, .inr ⟨_, _, _, HRG.out, HX6.out⟩⟩
            · obtain rfl : q = n := by omega
              gi_wp2
              exact ⟨⟨i + 1, by omega, by simp, HX3, HS3, .mk (by rw [mvIn_succ, mvAt, if_neg HST.out]; exact HJ3.out), HZ3⟩, by simp [intOf]; omega⟩
    · obtain rfl : i = n := by omega
      gi_wp2
      refine bodyPost_end (results_none rfl _ _ _) rfl ?_
      exact ⟨⟨_, rfl⟩, .inl HJ2.out⟩
end Go.Proofs.YtbadfjogakhhbaaDoor.G
namespace Go.Proofs.YtbadfjogakhhbaaDoor.G
open Go.Proofs.YtbadfjogakhhbaaDoor.Q Go.Proofs.YtbadfjogakhhbaaDoor.K Go.Proofs.YtbadfjogakhhbaaDoor.It Go.Proofs.YtbadfjogakhhbaaDoor.Bf
open Go.RowKit Go.Shelf Go.Proofs.YtbadfjogakhhbaaDoorW.PrintWords Go.Proofs.YtbadfjogakhhbaaDoorW.PrintLast Go.Proofs.YtbadfjogakhhbaaDoorW.PrintMore
set_option linter.unusedVariables false
/-- A list of n numbers that fit a stack's cells. -/
def Vs (n : Nat) (l : List Int) : Prop := l.length = n ∧ ∀ j, -7 ≤ nth l j ∧ nth l j ≤ 7
theorem stk_inj {n : Nat} {l m : List Int} (hl : Vs n l) (hm : Vs n m) (hn : n ≤ 7) (h : stk (nth l) = stk (nth m)) : l = m := by
  apply List.ext_getElem (by rw [hl.1, hm.1])
  intro i h1 h2
  have := congrArg (fun a => a[i]?) h
  rw [stk_get _ _ (by rw [hl.1] at h1; omega), stk_get _ _ (by rw [hl.1] at h1; omega)] at this
  simpa [nth, h1, h2] using this
theorem laidOutK : laidOutB Tryd.prog = true := by kernel_rfl
theorem u92 : Tryd.prog.underlying 53 = some (.array 7 51) := by kernel_rfl
theorem u90 : Tryd.prog.underlying 51 = some (.int .i8) := by kernel_rfl
theorem size92 : Nat.ble 54 Tryd.prog.types.size = true := by kernel_rfl
theorem row92 : (53 : TypeId) < Tryd.prog.types.size := by
  have h := size92
  obtain ⟨S, hS⟩ : ∃ S, Tryd.prog.types.size = S := ⟨_, rfl⟩
  rw [hS] at h ⊢
  exact Nat.le_of_ble_eq_true h
theorem key92 : Tryd.prog.keyTypeAt 2 53 = true := by kernel_rfl
theorem law92 : Go.Maps.Keyed Tryd.prog 53 := by
  refine Go.Maps.Keyed.of_law ?_
  refine deep_law_laid laidOutK (m := 2) (by omega) row92 key92 ?_
  rw [u92]
theorem u116 : Tryd.prog.underlying 93 = some (.map 53 99) := by kernel_rfl
theorem info115 : (Tryd.prog.info? 99).map (fun i => (i.zero, i.size, i.bytes)) = some (some (.agg #[.int .i64 0, .int .i64 0, .int .i64 0]), 3, 24) := by kernel_rfl
theorem zero115 (w : World) : (zeroValue 99).run Tryd.prog w = .ok (.agg #[.int .i64 0, .int .i64 0, .int .i64 0]) w := by
  obtain ⟨i0, hi0, hz, _, _⟩ := info_parts info115
  simp [zeroValue, typeInfo, hi0, hz]
theorem keyed92 : Tryd.prog.keyType 53 = true := by kernel_rfl
theorem keys92 (m : Nat → Int) (h : ∀ j, -7 ≤ m j ∧ m j ≤ 7) : ∃ kl, keyOf Tryd.prog 53 (.agg (stk m)) = some kl := by
  have c92 : Tryd.prog.cellsOf 53 = 7 := by kernel_rfl
  have c90 : Tryd.prog.cellsOf 51 = 1 := by kernel_rfl
  have hw : ∀ j, (Lit.int .i8 (m j)).wf = true := fun j => by
    have h1 := h j
    have e1 : IntKind.i8.min = -128 := by decide
    have e2 : IntKind.i8.max = 127 := by decide
    simp only [Lit.wf, e1, e2, Bool.and_eq_true, decide_eq_true_eq]
    omega
  have hf : (Value.agg (stk m)).formed Tryd.prog 53 = true := by simp [Value.formed, c92, stk]
  have h3 : ∀ j d, Tryd.prog.keyLits (d + 1) 51 [.int .i8 (m j)] = some [.int .i8 (m j)] := fun j d => by simp [Program.keyLits, hw]
  unfold keyOf
  rw [u92]
  simp only [keyed92, hf, Bool.and_self, if_true]
  obtain ⟨N, hN⟩ : ∃ N, Tryd.prog.types.size = N + 1 := Nat.exists_eq_succ_of_ne_zero (Nat.pos_iff_ne_zero.1 (Nat.lt_of_le_of_lt (Nat.zero_le _) row92))
  rw [hN]
  have e : Tryd.prog.keyLits (N + 1 + 1) 53 (stk m).toList = some ((List.range 7).map (fun i => Lit.int .i8 (m i))) := by
    have hr : List.range 7 = [0, 1, 2, 3, 4, 5, 6] := by decide
    unfold Program.keyLits
    rw [u92]
    simp only [c92, c90, hr]
    simp [stk, List.mapM_cons, h3]
  have e' : (Value.agg (stk m)).cells.toList = (stk m).toList := rfl
  rw [e', e]
  exact ⟨_, rfl⟩
@[irreducible] noncomputable def KL (l : List Int) : Lit := (keyOf Tryd.prog 53 (.agg (stk (nth l)))).getD (.bool true)
theorem key_KL {n : Nat} {l : List Int} (h : Vs n l) : keyOf Tryd.prog 53 (.agg (stk (nth l))) = some (KL l) := by
  obtain ⟨kl, hk⟩ := keys92 (nth l) h.2
  unfold KL
  rw [hk]
  simp only [Option.getD_some]
theorem KL_inj {n : Nat} {l m : List Int} (hl : Vs n l) (hm : Vs n m) (hn : n ≤ 7) (h : KL l = KL m) : l = m := by
  have h1 := key_KL hl
  have h2 := key_KL hm
  rw [h] at h1
  exact stk_inj hl hm hn (Value.agg.inj (law92.inj h1 h2))
theorem keyLit_of {P : Program} {k : TypeId} (K : Go.Maps.Keyed P k) {v : Value} {l : Lit} (h : keyOf P k v = some l) : WideAt.IsKeyLit l := K.key h
theorem KL_lit {n : Nat} {l : List Int} (h : Vs n l) : WideAt.IsKeyLit (KL l) := keyLit_of law92 (key_KL h)
/-- A step: the move, and how many are left. -/
abbrev St3 := (Nat × Nat) × Nat
def stepE (x : St3) : Value := .agg #[.int .i64 (x.1.1 : Int), .int .i64 (x.1.2 : Int), .int .i64 (x.2 : Int)]
def stepD (x : St3) : DataW Unit := .agg [.lit (.int .i64 (x.1.1 : Int)), .lit (.int .i64 (x.1.2 : Int)), .lit (.int .i64 (x.2 : Int))]
def stepR (v : Value) : Option (DataW Unit × List MemPlace) :=
  match v with
  | .agg cs => if cs.size = 3 then match cs.toList with
    | [.int .i64 a, .int .i64 b, .int .i64 c] => some (.agg [.lit (.int .i64 a), .lit (.int .i64 b), .lit (.int .i64 c)], [])
    | _ => none
    else none
  | _ => none
theorem stepR_E (x : St3) : stepR (stepE x) = some (stepD x, []) := rfl
theorem stepR_inv {v : Value} {x : St3} {ps : List MemPlace} (h : stepR v = some (stepD x, ps)) : v = stepE x := by
  unfold stepR at h
  split at h
  · rename_i cs
    split at h
    · split at h
      · rename_i a b c hl
        simp only [stepD, Option.some.injEq, Prod.mk.injEq, DataW.agg.injEq, List.cons.injEq, DataW.lit.injEq, Lit.int.injEq, true_and, and_true] at h
        obtain ⟨⟨h1, h2, h3⟩, _⟩ := h
        subst h1; subst h2; subst h3
        unfold stepE
        congr 1
        apply Array.ext'
        exact hl
      · cases h
    · cases h
  · cases h
def zeroS : St3 := ((0, 0), 0)
/-- What is known of each stack. -/
abbrev Km := List Int → Option St3
def Km.put (M : Km) (l : List Int) (e : St3) : Km := fun x => if x = l then some e else M x
theorem Km.put_same (M : Km) (l : List Int) (e : St3) : M.put l e l = some e := by simp [Km.put]
theorem Km.put_other (M : Km) {l x : List Int} (e : St3) (h : x ≠ l) : M.put l e x = M x := by simp [Km.put, h]
/-- Block b is the map of what is known, at most k entries. -/
def Kn (W : World) (b k n : Nat) (M : Km) : Prop :=
  ∃ D : DataW Unit, W.ownsMap Tryd.prog 53 stepR b k D ∧ Go.Maps.IsMap D ∧
    (∀ l, Vs n l → Go.Maps.has D (KL l) = (M l).isSome ∧ D.atKey (KL l) (stepD zeroS) = stepD ((M l).getD zeroS)) ∧
    ∀ kl, Go.Maps.has D kl = true → ∃ l, Vs n l ∧ kl = KL l
theorem Kn.made (W : World) (n : Nat) : Kn (W.alloc (.map #[] 0)) W.heap.size 0 n (fun _ => none) := by
  refine ⟨.map [], World.ownsMap_made W Tryd.prog 53 _, Go.Maps.isMap_empty, fun l hl => ⟨rfl, ?_⟩, fun kl h => by cases h⟩
  rw [Go.Maps.atKey_of_not_has (by rfl)]
  rfl
theorem Kn.lt {W : World} {b k n : Nat} {M : Km} (h : Kn W b k n M) : b < W.heap.size := by
  obtain ⟨D, h1, _⟩ := h; exact h1.lt
theorem Kn.mapsTo {W W' : World} {b k n : Nat} {M : Km} (h : Kn W b k n M) (hb : W'.heap[b]? = W.heap[b]?) : Kn W' b k n M := by
  obtain ⟨D, ⟨es, clock, h1, h2⟩, h3⟩ := h
  exact ⟨D, ⟨es, clock, hb.trans h1, h2⟩, h3⟩
theorem Kn.below {W W' : World} {b k n : Nat} {M : Km} (h : Kn W b k n M) (hb : Below W.heap.size W W') : Kn W' b k n M := h.mapsTo (hb.block b h.lt)
theorem Kn.step {T B : Nat} {W W' : World} {b k n : Nat} {M : Km} (h : Kn W b k n M) (hs : Step T B W W') : Kn W' b k n M := by
  obtain ⟨D, ⟨es, clock, h1, h2⟩, h3⟩ := h
  exact ⟨D, ⟨es, clock, hs.same _ _ h1 (.inr rfl), h2⟩, h3⟩
theorem Kn.mono {W : World} {b k k' n : Nat} {M : Km} (h : Kn W b k n M) (hk : k ≤ k') : Kn W b k' n M := by
  obtain ⟨D, h1, h2⟩ := h; exact ⟨D, h1.mono hk, h2⟩
theorem Kn.look {W : World} {b k n : Nat} {M : Km} (h : Kn W b k n M) {l : List Int} (hl : Vs n l) :
    (Instr.lookup 93 (.map (some b)) (.agg (stk (nth l))) false).run Tryd.prog W = .ok (stepE ((M l).getD zeroS)) W := by
  obtain ⟨D, h1, h2, h3, _⟩ := h
  obtain ⟨v, ps, hrun, hat⟩ := h1.lookup law92 u116 (zero115 W) (show stepR (.agg #[.int .i64 0, .int .i64 0, .int .i64 0]) = some (stepD zeroS, []) from rfl) (key_KL hl)
  rw [hrun]
  rw [(h3 l hl).2] at hat
  rw [stepR_inv hat]
theorem Kn.look_ok {W : World} {b k n : Nat} {M : Km} (h : Kn W b k n M) {l : List Int} (hl : Vs n l) :
    (Instr.lookup 93 (.map (some b)) (.agg (stk (nth l))) true).run Tryd.prog W = .ok (.tuple #[stepE ((M l).getD zeroS), .bool (M l).isSome]) W := by
  obtain ⟨D, h1, h2, h3, _⟩ := h
  obtain ⟨v, ps, hrun, hat⟩ := h1.look_ok law92 u116 (zero115 W) (show stepR (.agg #[.int .i64 0, .int .i64 0, .int .i64 0]) = some (stepD zeroS, []) from rfl) (key_KL hl)
  rw [hrun, (h3 l hl).1]
  rw [(h3 l hl).2] at hat
  rw [stepR_inv hat]
theorem Kn.put {W : World} {b k n : Nat} {M : Km} (h : Kn W b k n M) (hn : n ≤ 7) {l : List Int} (hl : Vs n l) (e : St3) (hk : k < 1000000000) :
    ∃ W', (Instr.mapUpdate 93 (.map (some b)) (.agg (stk (nth l))) (stepE e)).run Tryd.prog W = .ok () W' ∧ Kn W' b (k + 1) n (M.put l e) ∧ W.grownBy W' (some b) := by
  obtain ⟨D, h1, h2, h3, h4⟩ := h
  have hkm : k < maxLen := by unfold maxLen; omega
  have hkey := key_KL hl
  obtain ⟨W', hrun, ho, hg⟩ := h1.update law92 u116 hkm hkey (stepR_E e)
  have hk1 := KL_lit hl
  refine ⟨W', hrun, ⟨_, ho, h2.put _ _, fun x hx => ?_, fun kl hkl => ?_⟩, hg⟩
  · clear hrun ho hg hkey h1 h4
    generalize hA : KL l = A at *
    by_cases e' : x = l
    · rw [e', Km.put_same, hA]
      simp only [Option.isSome_some, Option.getD_some]
      exact ⟨Go.Maps.has_put_same h2 hk1 _, Go.Maps.atKey_put_same h2 hk1 _ _⟩
    · rw [Km.put_other _ _ e']
      have hne : KL x ≠ A := fun h => e' (KL_inj hx hl hn (h.trans hA.symm))
      rw [Go.Maps.has_put_other hne, Go.Maps.atKey_put_other hne]
      exact h3 x hx
  · by_cases e' : kl = KL l
    · exact ⟨l, hl, e'⟩
    · rw [Go.Maps.has_put_other e'] at hkl
      exact h4 kl hkl
theorem stk_eq {n : Nat} {l m : List Int} (hl : Vs n l) (hm : Vs n m) (hn : n ≤ 7) (W : World) :
    (Op.equalIn 10000 53 (.agg (stk (nth l))) (.agg (stk (nth m)))).run Tryd.prog W = .ok (decide (l = m)) W := by
  obtain ⟨r, hr, hiff⟩ := run_equal_deep (P := Tryd.prog) W (m := 2) (by omega) key92 (by rw [u92]) (key_KL hl) (key_KL hm)
  have e : r = decide (l = m) := by
    rw [Bool.eq_iff_iff, hiff, decide_eq_true_eq]
    exact ⟨fun h => KL_inj hl hm hn h, fun h => by rw [h]⟩
  rw [e] at hr
  exact hr
end Go.Proofs.YtbadfjogakhhbaaDoor.G
namespace Go.Proofs.YtbadfjogakhhbaaDoor.G
open Go.Proofs.YtbadfjogakhhbaaDoor.Q Go.Proofs.YtbadfjogakhhbaaDoor.K Go.Proofs.YtbadfjogakhhbaaDoor.It Go.Proofs.YtbadfjogakhhbaaDoor.Bf
open Go.RowKit Go.Shelf Go.Proofs.YtbadfjogakhhbaaDoorW.PrintWords Go.Proofs.YtbadfjogakhhbaaDoorW.PrintLast Go.Proofs.YtbadfjogakhhbaaDoorW.PrintMore
set_option linter.unusedVariables false
/-- A list of n numbers out of a function of the place. -/
def lst0 (n : Nat) (m : Nat → Int) : List Int := (List.range n).map m
theorem lst0_len (n : Nat) (m : Nat → Int) : (lst0 n m).length = n := by simp [lst0]
theorem nth_lst0 (n : Nat) (m : Nat → Int) (p : Nat) : nth (lst0 n m) p = if p < n then m p else 0 := by
  unfold nth lst0
  by_cases h : p < n
  · rw [if_pos h]; simp [h]
  · rw [if_neg h, List.getD_eq_getElem?_getD, List.getElem?_eq_none (by simp; omega)]; rfl
theorem lst0_nth (l : List Int) : lst0 l.length (nth l) = l := by
  apply List.ext_getElem (by rw [lst0_len])
  intro i h1 h2
  simp [lst0, nth, h2]
/-- The numbers from place i to place k turned round. -/
def flL (sg : Bool) (l : List Int) (i k : Nat) : List Int := lst0 l.length (fl sg (nth l) i (k + 1))
theorem flL_len (sg : Bool) (l : List Int) (i k : Nat) : (flL sg l i k).length = l.length := lst0_len _ _
theorem nth_flL (sg : Bool) (l : List Int) (i k : Nat) (hk : k < l.length) : nth (flL sg l i k) = fl sg (nth l) i (k + 1) := by
  funext p
  unfold flL
  rw [nth_lst0]
  by_cases h : p < l.length
  · rw [if_pos h]
  · rw [if_neg h]
    unfold fl rv
    rw [if_neg (by omega), if_neg (by omega), nth_end _ _ (by omega)]
theorem fl_fl (sg : Bool) (m : Nat → Int) (i k : Nat) : fl sg (fl sg m i (k + 1)) i (k + 1) = m := by
  funext p
  unfold fl rv
  cases sg
  · simp only [Bool.false_eq_true, false_and, if_false]
    by_cases h : i ≤ p ∧ p < k + 1
    · rw [if_pos h, if_pos (by omega)]; congr 1; omega
    · rw [if_neg h, if_neg h]
  · simp only [true_and]
    by_cases h : i ≤ p ∧ p < k + 1
    · rw [if_pos h, if_pos h, if_pos (by omega), if_pos (by omega), Int.neg_neg]; congr 1; omega
    · rw [if_neg h, if_neg h, if_neg h, if_neg h]
theorem flL_flL (sg : Bool) (l : List Int) (i k : Nat) (hk : k < l.length) : flL sg (flL sg l i k) i k = l := by
  have e : flL sg (flL sg l i k) i k = lst0 l.length (fl sg (nth (flL sg l i k)) i (k + 1)) := by unfold flL; rw [lst0_len]
  rw [e, nth_flL sg l i k hk, fl_fl, lst0_nth]
theorem fl_bound {sg : Bool} {m : Nat → Int} {i k : Nat} {B : Int} (h : ∀ p, -B ≤ m p ∧ m p ≤ B) (p : Nat) : -B ≤ fl sg m i k p ∧ fl sg m i k p ≤ B := by
  have r : -B ≤ rv m i k p ∧ rv m i k p ≤ B := by
    unfold rv; split
    · exact h _
    · exact h _
  unfold fl
  split
  · omega
  · exact r
theorem vs_flL {n : Nat} {l : List Int} (h : Vs n l) (sg : Bool) (i k : Nat) (hk : k < n) : Vs n (flL sg l i k) := by
  refine ⟨by rw [flL_len]; exact h.1, fun p => ?_⟩
  rw [nth_flL sg l i k (by rw [h.1]; exact hk)]
  exact fl_bound h.2 p
/-- The moves that may be made of n numbers. -/
theorem mem_mv {n : Nat} {sg an : Bool} {x : Nat × Nat} (h : x ∈ mvL n sg an) : x.1 ≤ x.2 ∧ x.2 < n ∧ (sg = true ∨ x.2 ≠ x.1) ∧ (an = true ∨ x.1 = 0) := by
  unfold mvL mvIn at h
  obtain ⟨i, hi, hx⟩ := List.mem_flatMap.1 h
  unfold mvAt at hx
  split at hx
  · cases hx
  · rename_i h0
    unfold mvTo at hx
    obtain ⟨k, hk, rfl⟩ := List.mem_map.1 hx
    obtain ⟨h1, h2⟩ := List.mem_filter.1 hk
    rw [Bool.and_eq_true, decide_eq_true_eq, Bool.or_eq_true, decide_eq_true_eq] at h2
    refine ⟨h2.1, List.mem_range.1 h1, h2.2, ?_⟩
    cases an
    · right; show i = 0; simp at h0; exact h0
    · exact .inl rfl
theorem mv_mem {n : Nat} {sg an : Bool} {i k : Nat} (h1 : i ≤ k) (h2 : k < n) (h3 : sg = true ∨ k ≠ i) (h4 : an = true ∨ i = 0) : (i, k) ∈ mvL n sg an := by
  unfold mvL mvIn
  refine List.mem_flatMap.2 ⟨i, List.mem_range.2 (by omega), ?_⟩
  unfold mvAt
  rw [if_neg (by rintro ⟨a, b⟩; rcases h4 with h4 | h4 <;> simp_all)]
  unfold mvTo
  refine List.mem_map.2 ⟨k, List.mem_filter.2 ⟨List.mem_range.2 h2, ?_⟩, rfl⟩
  rw [Bool.and_eq_true, decide_eq_true_eq, Bool.or_eq_true, decide_eq_true_eq]
  exact ⟨h1, h3⟩
/-- The stacks one move away. -/
def nextK (n : Nat) (sg an : Bool) (l : List Int) : List (List Int) := (mvL n sg an).map (fun x => flL sg l x.1 x.2)
theorem next_back {n : Nat} {sg an : Bool} {l t : List Int} (hl : l.length = n) (h : t ∈ nextK n sg an l) : l ∈ nextK n sg an t := by
  obtain ⟨x, hx, rfl⟩ := List.mem_map.1 h
  exact List.mem_map.2 ⟨x, hx, flL_flL sg l x.1 x.2 (by rw [hl]; exact (mem_mv hx).2.1)⟩
/-- What is seen, and how far. -/
def Sof (M : Km) : Se (List Int) := fun l => (M l).map Prod.snd
theorem Sof_put (M : Km) (l : List Int) (by_ : Nat × Nat) (d : Nat) : Sof (M.put l (by_, d)) = (Sof M).put l d := by
  funext x
  unfold Sof Km.put Se.put
  split <;> rfl
theorem Sof_none {M : Km} {l : List Int} : Sof M l = none ↔ M l = none := by
  unfold Sof; cases M l <;> simp
/-- Each step leads to a stack that is one nearer. -/
def ByOk (n : Nat) (sg an : Bool) (to_ : List Int) (M : Km) : Prop := ∀ l b d, M l = some (b, d) → (l = to_ ∧ d = 0) ∨ ∃ d' b', d = d' + 1 ∧ b ∈ mvL n sg an ∧ M (flL sg l b.1 b.2) = some (b', d')
theorem ByOk.begin (n : Nat) (sg an : Bool) (to_ : List Int) : ByOk n sg an to_ (Km.put (fun _ => none) to_ zeroS) := fun l b d h => by
  unfold Km.put at h
  split at h
  · rename_i e
    cases h
    exact .inl ⟨e, rfl⟩
  · cases h
theorem ByOk.put {n : Nat} {sg an : Bool} {to_ : List Int} {M : Km} (h : ByOk n sg an to_ M) {s : List Int} {x : Nat × Nat} {b : Nat × Nat} {d : Nat} (hs : s.length = n) (hx : x ∈ mvL n sg an) (hd : M s = some (b, d)) (hn : M (flL sg s x.1 x.2) = none) : ByOk n sg an to_ (M.put (flL sg s x.1 x.2) (x, d + 1)) := fun l b' d' hl => by
  have old : ∀ y e, M y = some e → M.put (flL sg s x.1 x.2) (x, d + 1) y = some e := fun y e he => by
    rw [Km.put_other]
    · exact he
    · intro e'; rw [e', hn] at he; cases he
  by_cases e : l = flL sg s x.1 x.2
  · rw [e, Km.put_same] at hl
    cases hl
    refine .inr ⟨d, b, rfl, hx, ?_⟩
    rw [e, flL_flL sg s x.1 x.2 (by rw [hs]; exact (mem_mv hx).2.1)]
    exact old _ _ hd
  · rw [Km.put_other _ _ e] at hl
    rcases h l b' d' hl with h1 | ⟨d'', b'', h1, h2, h3⟩
    · exact .inl h1
    · exact .inr ⟨d'', b'', h1, h2, old _ _ h3⟩
/-- All lists of n numbers from -7 to 7. -/
def univ : Nat → List (List Int)
  | 0 => [[]]
  | n + 1 => (univ n).flatMap (fun l => (List.range 15).map (fun (q : Nat) => l ++ [(q : Int) - 7]))
theorem univ_len (n : Nat) : (univ n).length = 15 ^ n := by
  induction n with
  | zero => rfl
  | succ n ih =>
    rw [univ, List.length_flatMap]
    simp only [List.length_map, List.length_range]
    rw [List.map_const', List.sum_replicate_nat, ih, Nat.pow_succ]
theorem univ_mem (n : Nat) : ∀ l, Vs n l → l ∈ univ n := by
  induction n with
  | zero => intro l h; have := h.1; simp [univ]; exact List.length_eq_zero_iff.1 this
  | succ n ih =>
    intro l h
    obtain ⟨hl, hp⟩ := h
    have hne : l ≠ [] := by intro e; rw [e] at hl; simp at hl
    obtain ⟨l0, x, rfl⟩ : ∃ l0 x, l = l0 ++ [x] := ⟨l.dropLast, l.getLast hne, (List.dropLast_concat_getLast hne).symm⟩
    have hl0 : l0.length = n := by simpa using hl
    have hx := hp n
    have hxn : nth (l0 ++ [x]) n = x := by simp [nth, ← hl0]
    rw [hxn] at hx
    simp only [univ, List.mem_flatMap, List.mem_map, List.mem_range]
    refine ⟨l0, ih l0 ⟨hl0, fun i => ?_⟩, (x + 7).toNat, by omega, by rw [Int.toNat_of_nonneg (by omega)]; congr 2; omega⟩
    by_cases hi : i < l0.length
    · have := hp i
      have e : nth (l0 ++ [x]) i = nth l0 i := by simp [nth, List.getD_eq_getElem?_getD, List.getElem?_append_left hi]
      rwa [e] at this
    · rw [nth_end _ _ (by omega)]; omega
theorem vs_count {n : Nat} {L : List (List Int)} (h : L.Nodup) (hv : ∀ x, x ∈ L → Vs n x) : L.length ≤ 15 ^ n := by
  rw [← univ_len n]
  exact nodup_sub L _ h (fun x hx => univ_mem n x (hv x hx))
theorem p15 {n : Nat} (h : n ≤ 7) : 15 ^ n ≤ 170859375 := Nat.pow_le_pow_right (by decide) h
/-- The cells of a row of stacks. -/
def flat (q : List (List Int)) : List Value := (q.map (fun l => (stk (nth l)).toList)).flatten
theorem flat_nil : flat [] = [] := rfl
theorem flat_cons (l : List Int) (q : List (List Int)) : flat (l :: q) = (stk (nth l)).toList ++ flat q := rfl
theorem flat_snoc (q : List (List Int)) (l : List Int) : flat (q ++ [l]) = flat q ++ (stk (nth l)).toList := by simp [flat]
theorem flat_len (q : List (List Int)) : (flat q).length = q.length * 7 := by
  induction q with
  | nil => rfl
  | cons l q ih => rw [flat_cons, List.length_append, ih]; simp [stk]; omega
theorem exists_least {R : Nat → Prop} : ∀ k, R k → ∃ m, R m ∧ ∀ j, R j → m ≤ j := by
  intro k
  induction k using Nat.strongRecOn with
  | ind k ih =>
    intro hk
    by_cases h : ∃ j, j < k ∧ R j
    · obtain ⟨j, hj, hr⟩ := h
      exact ih j hj hr
    · exact ⟨k, hk, fun j hj => by
        rcases Nat.lt_or_ge j k with h' | h'
        · exact absurd ⟨j, h', hj⟩ h
        · exact h'⟩
/-- The least number of which something holds. -/
noncomputable def lst (R : Nat → Prop) : Nat := open Classical in if h : ∃ m, R m ∧ ∀ j, R j → m ≤ j then Classical.choose h else 0
theorem lst_spec {R : Nat → Prop} (h : ∃ k, R k) : R (lst R) := by
  obtain ⟨k, hk⟩ := h
  have := exists_least k hk
  unfold lst
  rw [dif_pos this]
  exact (Classical.choose_spec this).1
theorem lst_le {R : Nat → Prop} {k : Nat} (h : R k) : lst R ≤ k := by
  have := exists_least k h
  unfold lst
  rw [dif_pos this]
  exact (Classical.choose_spec this).2 k h
end Go.Proofs.YtbadfjogakhhbaaDoor.G
