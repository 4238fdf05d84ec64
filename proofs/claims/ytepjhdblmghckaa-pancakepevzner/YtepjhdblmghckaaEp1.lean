/- A part that the chapter's proofs share: contracts of the functions, and plain lemmas (part p1). -/
import Derived.Test.YtepjhdblmghckaaProg
import Derived.Below
import Derived.Deep.Draws
import Derived.Deep.AppendLies
import Derived.Maps.AppendAt
import Derived.OwnWalk
import Derived.Laws.BytesArg
import Derived.Laws.MakeOwn
import Derived.Laws.OwnMore
import Derived.Deep.OwnRows
import Derived.Tactics
import Derived.Lib.ConvBytes
import Derived.Laws.Slices
import Derived.WalkKit
import Derived.KernelRfl
import Derived.RowKit3
import Derived.Deep.LoopGhost
import Derived.Deep.QuietTactic
import Derived.BigQuiet
import Derived.WideLaws
import Derived.Deep.DeepCutAuto
import Derived.Deep.CutBlock
import Derived.Deep.RegionHeld3
import Derived.Laws.Rows
import Derived.Lib.AppendStr
import Derived.ArgAppend
import Derived.Laws.IdiomCopy
import Derived.OrdersHeld
import Derived.Laws.BitsLemmas
import Derived.RowKit
import Derived.Test.YtepjhdblmghckaaUp
import Derived.Shelf.Small.Bits
import Derived.Shelf.Small.Wraps
import Derived.Shelf.Strconv.Itoa0
import Derived.Shelf.Sort.Plain
import Derived.Shelf.Slices.Reverse
import Derived.Ground.Names2Prog
import Derived.Shelf.Slices.Clone
import Derived.Shelf.Slices.SearchI
import Derived.Shelf.Slices.Cells
import Derived.Shelf.Slices.In.SortNone
import Derived.Ground.SlgnProg
import Derived.Shelf.SlicesE.Clone
import Derived.Outline
import Derived.Lib.OthersKept
import Derived.Shelf.SlicesE.Reverse
import Derived.RangeFuncNested
import Derived.RangeFuncBound
import Derived.RangeFuncCalls
import Derived.RangeFuncLeaves
import Derived.Shelf.Abstract
import Derived.Sort.QuietIn
import Derived.OwnWalkIn
import Derived.BigRegionIn
import Derived.Stop.RegionWithIn
import Derived.TacticsInMore
import Derived.LoopNIn
import Derived.LoopIn
namespace Go.Proofs.Ytepjhdblmghckaa.G
end Go.Proofs.Ytepjhdblmghckaa.G
namespace Go.Proofs.Ytepjhdblmghckaa.Q
set_option linter.unusedVariables false
set_option linter.unusedSimpArgs false
set_option linter.unusedSectionVars false
open Go.RowKit Go.Proofs.YtepjhdblmghckaaW.PrintWords Go.Proofs.YtepjhdblmghckaaW.PrintLast Go.Proofs.YtepjhdblmghckaaW.PrintMore
attribute [local go_sem] max2_int min2_int max_two min_two max_three min_three max_four min_four   -- for this text's walks alone



def errW : Option Int → Value
 | none => .nilIface
 | some c => .iface 0 (.int .i64 c)
theorem errW_none : errW none = .nilIface := rfl
theorem errW_some (c : Int) : errW (some c) = .iface 0 (.int .i64 c) := rfl

theorem info3 : (Try.prog.info? 3).map (fun i => (i.zero, i.size, i.bytes)) = some (some (.int .i64 0), 1, 8) := by kernel_rfl
theorem info4 : (Try.prog.info? 4).map (fun i => (i.zero, i.size, i.bytes)) = some (some (.bool false), 1, 1) := by kernel_rfl
theorem info22 : (Try.prog.info? 22).map (fun i => (i.zero, i.size, i.bytes)) = some (some (.slice none 0 0), 1, 24) := by kernel_rfl
-- the values' own types
def rd_L1 (xs : List (List Int)) (i : Int) : (List Int) := xs.getD i.toNat ([] : List Int)
theorem at_L1 {w : World} {A : Option Addr} {n : Nat} {xs : List (List Int)} (h : Kd.C (Kd.slice 3 (Kd.int .i64)) w A n xs) (i : Int) (h0 : 0 ≤ i) (h1 : i < n) : ∃ ad A0 c0, A = some ad ∧ w.cell? (ad.add i.toNat) = some (.slice A0 (rd_L1 xs i).length c0) ∧ (rd_L1 xs i).length ≤ c0 ∧ (Kd.int .i64).C w A0 (rd_L1 xs i).length (rd_L1 xs i) := by
 obtain ⟨ad, c, e, _, hK, hc0⟩ := Kd.C_get h ([] : List Int) i h0 h1
 have hc : ∀ j u, c[j]? = some u → w.cell? (ad.add (i.toNat * 1 + j)) = some u := hc0
 obtain ⟨A0, c0, rfl, l0, g0⟩ := hK
 exact ⟨ad, A0, c0, e, by have hq := hc 0 _ rfl; rwa [Nat.mul_one, Nat.add_zero] at hq, l0, g0⟩

/-! #### struct type 57 -/
structure S57 where
 f0 : Int
 f1 : Int
def z57 : S57 := ⟨(0 : Int), (0 : Int)⟩
def k57 : Kd S57 := Kd.iso (Kd.pair (Kd.int .i64) (Kd.int .i64)) (fun x : S57 => (x.f0, x.f1))
theorem k57_heap : Kd.Heap k57 := Kd.heap_iso _ (Kd.heap_pair (Kd.heap_int .i64) (Kd.heap_int .i64))
theorem k57_open {w : World} {x : S57} {cs : List Value} (h : k57.K w x cs) : cs = [.int .i64 x.f0, .int .i64 x.f1] := by
 obtain ⟨_, _, rfl, rfl, rfl⟩ := h
 exact rfl
theorem k57_openM {w : World} {base : Nat} {ok : Nat → Prop} {x : S57} {cs : List Value} (h : k57.M w base ok x cs) : cs = [.int .i64 x.f0, .int .i64 x.f1] := by
 obtain ⟨_, _, rfl, rfl, rfl⟩ := h
 exact rfl
theorem k57_mk (w : World) (x : S57)  : k57.K w x [.int .i64 x.f0, .int .i64 x.f1] := ⟨[.int .i64 x.f0], [.int .i64 x.f1], rfl, rfl, rfl⟩
theorem k57_mkM (w : World) (base : Nat) (ok : Nat → Prop) (x : S57)  : k57.M w base ok x [.int .i64 x.f0, .int .i64 x.f1] := ⟨[.int .i64 x.f0], [.int .i64 x.f1], rfl, rfl, rfl⟩
theorem k57_mkF (W : World) (ok : Nat → Prop) (x : S57) : Kd.FK k57 W ok x [.int .i64 x.f0, .int .i64 x.f1] := fun W2 _ => k57_mk W2 x
def rd_T57 (xs : List S57) (i : Int) : S57 := xs.getD i.toNat z57
theorem at_T57 {w : World} {A : Option Addr} {n : Nat} {xs : List S57} (h : Kd.C k57 w A n xs) (i : Int) (h0 : 0 ≤ i) (h1 : i < n) : ∃ ad , A = some ad ∧ w.cell? (ad.add (i.toNat * 2)) = some (.int .i64 (rd_T57 xs i).f0) ∧ w.cell? ⟨(ad.add (i.toNat * 2)).block, (ad.add (i.toNat * 2)).off + 1, none⟩ = some (.int .i64 (rd_T57 xs i).f1) := by
 obtain ⟨ad, c, e, _, hK, hc0⟩ := Kd.C_get h z57 i h0 h1
 have hc : ∀ j u, c[j]? = some u → w.cell? (ad.add (i.toNat * 2 + j)) = some u := hc0
 obtain rfl := k57_open hK
 exact ⟨ad, e, hc 0 _ rfl, by rw [← add_field _ _ 1 (by omega)]; exact hc 1 _ rfl⟩

end Go.Proofs.Ytepjhdblmghckaa.Q
namespace Go.Proofs.Ytepjhdblmghckaa.G
end Go.Proofs.Ytepjhdblmghckaa.G
namespace Go.Proofs.Ytepjhdblmghckaa.Q
set_option linter.unusedVariables false
set_option linter.unusedSimpArgs false
set_option linter.unusedSectionVars false
open Go.Proofs.Ytepjhdblmghckaa.G
open Go.RowKit Go.Proofs.YtepjhdblmghckaaW.PrintWords Go.Proofs.YtepjhdblmghckaaW.PrintLast Go.Proofs.YtepjhdblmghckaaW.PrintMore
attribute [local go_sem] max2_int min2_int max_two min_two max_three min_three max_four min_four   -- for this text's walks alone

/-! ### bibelotlaw07_many: function 21 -/
def bibelotlaw07_many.f (a0 : Int) (a1 : Int) : Option (Int) := if (IntKind.u64.wrap (a1)) = 0 then (none) else (some (wrap64 (1 + (wrap64 (Int.tmod (IntKind.u64.wrap (a0)) (IntKind.u64.wrap (a1)))))))
set_option maxHeartbeats 8000000 in
set_option maxRecDepth 100000 in
theorem bibelotlaw07_many.calls (a0 : Int) (a1 : Int) (r : Int) (w : World) (h : bibelotlaw07_many.f a0 a1 = some r) :
  Calls Try.prog 21 #[.int .i64 a0, .int .i64 a1] w fun e w' => e = .returned (.int .i64 r) ∧ Drawn0 w w' := by
 have H : (if (IntKind.u64.wrap (a1)) = 0 then (none) else (some (wrap64 (1 + (wrap64 (Int.tmod (IntKind.u64.wrap (a0)) (IntKind.u64.wrap (a1)))))))) = some r := h
 clear h
 by_cases c3 : (IntKind.u64.wrap (a1)) = 0
 ·rw [if_pos c3] at H
  exact absurd H (by simp)
 ·rw [if_neg c3] at H
  have c3b0 : ((IntKind.u64.wrap (a1)) == 0) = false := beq_eq_false_iff_ne.mpr c3
  have c3b1 : ((IntKind.u64.wrap (a1)) != 0) = true := bne_iff_ne.mpr c3
  obtain rfl := Option.some.inj H
  go_enter Try.func21, Try.ntmps21
  go_wp2
  go_ret
  exact ⟨by first | rfl | (simp; done) | (simp [*]; done), by repeat (first | exact Drawn0.refl _ | apply Drawn0.step)⟩

end Go.Proofs.Ytepjhdblmghckaa.Q
namespace Go.Proofs.Ytepjhdblmghckaa.G
end Go.Proofs.Ytepjhdblmghckaa.G
namespace Go.Proofs.Ytepjhdblmghckaa.Q
set_option linter.unusedVariables false
set_option linter.unusedSimpArgs false
set_option linter.unusedSectionVars false
open Go.Proofs.Ytepjhdblmghckaa.G
open Go.RowKit Go.Proofs.YtepjhdblmghckaaW.PrintWords Go.Proofs.YtepjhdblmghckaaW.PrintLast Go.Proofs.YtepjhdblmghckaaW.PrintMore
attribute [local go_sem] max2_int min2_int max_two min_two max_three min_three max_four min_four   -- for this text's walks alone

/-! ### bibelotref07_Abs: function 40 -/
def bibelotref07_Abs.f (a0 : Int) : Option (Int) := some (mx a0 (wrap64 (-a0)))
set_option maxHeartbeats 8000000 in
set_option maxRecDepth 100000 in
theorem bibelotref07_Abs.calls (a0 : Int) (r : Int) (w : World) (h : bibelotref07_Abs.f a0 = some r) :
  Calls Try.prog 40 #[.int .i64 a0] w fun e w' => e = .returned (.int .i64 r) ∧ Below w.heap.size w w' := by
 have HB := Aside0.mk (Below.refl w.heap.size w)
 have H : (some (mx a0 (wrap64 (-a0)))) = some r := h
 clear h
 obtain ⟨ji2, hji2⟩ : ∃ j_ : Int, (mx a0 (wrap64 (-a0))) = j_ := ⟨_, rfl⟩
 replace H : (some ji2) = some r := by first | (rw [hji2] at H; exact H) | (simp only [hji2] at H ⊢; exact H)
 have hji2_ : (if a0 < (wrap64 (-a0)) then (wrap64 (-a0)) else a0) = ji2 := hji2
 obtain rfl := Option.some.inj H
 go_enter Try.func40, Try.ntmps40
 go_wp2
 go_ret
 exact ⟨by first | rfl | (simp [errW_none, errW_some] <;> rfl) | (simp only [← hji2]; first | rfl | (simp [errW_none, errW_some] <;> rfl)) | (simp [*, errW_none, errW_some] <;> rfl), by repeat (first | (with_reducible first | exact HB.out | apply below_alloc | apply pw_below_drewN | apply below_drew1) | exact HB.out)⟩

end Go.Proofs.Ytepjhdblmghckaa.Q
namespace Go.Proofs.Ytepjhdblmghckaa.G
end Go.Proofs.Ytepjhdblmghckaa.G
namespace Go.Proofs.Ytepjhdblmghckaa.Q
set_option linter.unusedVariables false
set_option linter.unusedSimpArgs false
set_option linter.unusedSectionVars false
open Go.Proofs.Ytepjhdblmghckaa.G
open Go.RowKit Go.Proofs.YtepjhdblmghckaaW.PrintWords Go.Proofs.YtepjhdblmghckaaW.PrintLast Go.Proofs.YtepjhdblmghckaaW.PrintMore
attribute [local go_sem] max2_int min2_int max_two min_two max_three min_three max_four min_four   -- for this text's walks alone

/-! ### bibelotref07_Code: function 52 -/
mutual
def bibelotref07_Code.l0 : Nat → List Int → Int → Int → Option (Int)
 | 0, _, _, _ => none
 | k + 1, x0, x3, x4 => if x4 < (x0.length : Int) then (bibelotref07_Code.l1 k x0 x3 x4 0 (wrap64 (x4 + 1))) else (bibelotref07_Code.l2 k x0 x3 0)
def bibelotref07_Code.l1 : Nat → List Int → Int → Int → Int → Int → Option (Int)
 | 0, _, _, _, _, _ => none
 | k + 1, x0, x3, x4, x5, x6 => if x6 < (x0.length : Int) then (if 0 ≤ x6 then ((bibelotref07_Abs.f (rd x0 x6)).bind fun t382 => (if 0 ≤ x4 then (if x4 < (x0.length : Int) then ((bibelotref07_Abs.f (rd x0 x4)).bind fun t384 => (if t382 < t384 then (bibelotref07_Code.l1 k x0 x3 x4 (wrap64 (x5 + 1)) (wrap64 (x6 + 1))) else (bibelotref07_Code.l1 k x0 x3 x4 x5 (wrap64 (x6 + 1))))) else (none)) else (none))) else (none)) else (bibelotref07_Code.l0 k x0 (wrap64 ((wrap64 (x3 * (wrap64 ((x0.length : Int) - x4)))) + x5)) (wrap64 (x4 + 1)))
def bibelotref07_Code.l2 : Nat → List Int → Int → Int → Option (Int)
 | 0, _, _, _ => none
 | k + 1, x0, x3, x7 => if x7 < (x0.length : Int) then (if 0 ≤ x7 then (if (rd x0 x7) < 0 then (bibelotref07_Code.l2 k x0 (wrap64 ((wrap64 (2 * x3)) + 1)) (wrap64 (x7 + 1))) else (bibelotref07_Code.l2 k x0 (wrap64 (2 * x3)) (wrap64 (x7 + 1)))) else (none)) else (some x3)
end
def bibelotref07_Code.f (k : Nat) (l0 : List Int) : Option (Int) := bibelotref07_Code.l0 k l0 0 0
theorem bibelotref07_Code.mono_l : ∀ k, (∀ y0 y1 y2, LeO (bibelotref07_Code.l0 k y0 y1 y2) (bibelotref07_Code.l0 (k + 1) y0 y1 y2)) ∧ (∀ y0 y1 y2 y3 y4, LeO (bibelotref07_Code.l1 k y0 y1 y2 y3 y4) (bibelotref07_Code.l1 (k + 1) y0 y1 y2 y3 y4)) ∧ (∀ y0 y1 y2, LeO (bibelotref07_Code.l2 k y0 y1 y2) (bibelotref07_Code.l2 (k + 1) y0 y1 y2))
 | 0 => ⟨fun _ _ _ r h => by simp [bibelotref07_Code.l0] at h, fun _ _ _ _ _ r h => by simp [bibelotref07_Code.l1] at h, fun _ _ _ r h => by simp [bibelotref07_Code.l2] at h⟩
 | k + 1 => by
  obtain ⟨ih0, ih1, ih2⟩ := bibelotref07_Code.mono_l k
  refine ⟨?_, ?_, ?_⟩
  ·intro y0 y1 y2
   unfold bibelotref07_Code.l0
   repeat' first
   | (with_reducible exact ih0 _ _ _)
   | (with_reducible exact ih1 _ _ _ _ _)
   | (with_reducible exact ih2 _ _ _)
   | (with_reducible exact LeO.refl _)
   | (with_reducible exact LeO.none _)
   | (with_reducible refine LeO.ite ?_ ?_)
   | (with_reducible refine LeO.bind ?_ (fun _ => ?_))
   | exact ih0 _ _ _
   | exact ih1 _ _ _ _ _
   | exact ih2 _ _ _
   | exact LeO.none _
   | refine LeO.ite ?_ ?_
   | refine LeO.bind ?_ (fun _ => ?_)
  ·intro y0 y1 y2 y3 y4
   unfold bibelotref07_Code.l1
   repeat' first
   | (with_reducible exact ih0 _ _ _)
   | (with_reducible exact ih1 _ _ _ _ _)
   | (with_reducible exact ih2 _ _ _)
   | (with_reducible exact LeO.refl _)
   | (with_reducible exact LeO.none _)
   | (with_reducible refine LeO.ite ?_ ?_)
   | (with_reducible refine LeO.bind ?_ (fun _ => ?_))
   | exact ih0 _ _ _
   | exact ih1 _ _ _ _ _
   | exact ih2 _ _ _
   | exact LeO.none _
   | refine LeO.ite ?_ ?_
   | refine LeO.bind ?_ (fun _ => ?_)
  ·intro y0 y1 y2
   unfold bibelotref07_Code.l2
   repeat' first
   | (with_reducible exact ih0 _ _ _)
   | (with_reducible exact ih1 _ _ _ _ _)
   | (with_reducible exact ih2 _ _ _)
   | (with_reducible exact LeO.refl _)
   | (with_reducible exact LeO.none _)
   | (with_reducible refine LeO.ite ?_ ?_)
   | (with_reducible refine LeO.bind ?_ (fun _ => ?_))
   | exact ih0 _ _ _
   | exact ih1 _ _ _ _ _
   | exact ih2 _ _ _
   | exact LeO.none _
   | refine LeO.ite ?_ ?_
   | refine LeO.bind ?_ (fun _ => ?_)
theorem bibelotref07_Code.mono : ∀ a0 k, LeO (bibelotref07_Code.f k a0) (bibelotref07_Code.f (k + 1) a0) := by
 intro a0 k
 obtain ⟨ih0, ih1, ih2⟩ := bibelotref07_Code.mono_l k
 unfold bibelotref07_Code.f
 repeat' first
   | (with_reducible exact ih0 _ _ _)
   | (with_reducible exact ih1 _ _ _ _ _)
   | (with_reducible exact ih2 _ _ _)
   | (with_reducible exact LeO.refl _)
   | (with_reducible exact LeO.none _)
   | (with_reducible refine LeO.ite ?_ ?_)
   | (with_reducible refine LeO.bind ?_ (fun _ => ?_))
   | exact ih0 _ _ _
   | exact ih1 _ _ _ _ _
   | exact ih2 _ _ _
   | exact LeO.none _
   | refine LeO.ite ?_ ?_
   | refine LeO.bind ?_ (fun _ => ?_)
def bibelotref07_Code.T9 : Bool × List (List Nat × List Nat) := (true, [([], []), ([], []), ([0, 1], [0, 1]), ([2], [2]), ([3], [3]), ([], []), ([], []), ([5, 6], [5, 6]), ([7], [7]), ([8, 4], [8]), ([4, 9], [4, 9])])
def bibelotref07_Code.B9 : List Nat := [0, 0, 3, 7, 15, 0, 0, 96, 224, 511, 1023]
theorem bibelotref07_Code.tab9 : rtab .any (opsOf Try.f52 9) = bibelotref07_Code.T9 := by kernel_rfl
theorem bibelotref07_Code.bits9 : waitsOk bibelotref07_Code.T9.2 bibelotref07_Code.B9 = true := by kernel_rfl
set_option maxHeartbeats 8000000 in
set_option maxRecDepth 100000 in
theorem bibelotref07_Code.calls (k : Nat) (A0 : Option Addr) (c0 : Nat) (l0 : List Int) (r : Int) (w : World) (hr0 : Kd.C (Kd.int .i64) w A0 l0.length l0) (hc0 : l0.length ≤ c0) (h : bibelotref07_Code.f k l0 = some r) :
  Calls Try.prog 52 #[.slice A0 l0.length c0] w fun e w' => e = .returned (.int .i64 r) ∧ Below w.heap.size w w' := by
 have HR0 := Aside0.mk hr0
 have HC0 := Aside0.mk hc0
 clear hr0 hc0
 have HB := Aside0.mk (Below.refl w.heap.size w)
 have H : (bibelotref07_Code.l0 k l0 0 0) = some r := h
 clear h
 have H' := Aside0.mk H
 clear H
 go_enter Try.func52, Try.ntmps52
 go_wp2
 go_loopg [3, 4] k (fun kq v3 v4 w' => ∃ (x3_1 : Int) (x4_1 : Int), v3 = .int .i64 x3_1 ∧ v4 = .int .i64 x4_1 ∧ Aside0 (bibelotref07_Code.l0 kq l0 x3_1 x4_1 = some r) ∧ Aside0 (kq ≤ k) ∧ Aside0 (Below w.heap.size w w'))
 case atStart => exact ⟨(0), (0), (by first | rfl | (simp; done) | (simp [*]; done)), (by first | rfl | (simp; done) | (simp [*]; done)), H', ⟨Nat.le_refl _⟩, ⟨by repeat (first | (with_reducible first | exact HB.out | apply below_alloc | apply pw_below_drewN | apply below_drew1) | exact HB.out)⟩⟩
 case round =>
  clear H'
  obtain ⟨x3_1, x4_1, rfl, rfl, HA, HK1, HB⟩ := hrel
  cases gk with
  | zero => exact absurd HA.out (by simp [bibelotref07_Code.l0])
  | succ k1 =>
   have H := HA.out
   clear HA
   simp only [bibelotref07_Code.l0] at H
   by_cases c2 : x4_1 < (l0.length : Int)
   ·rw [if_pos c2] at H
    have c2b0 : decide (x4_1 < (l0.length : Int)) = true := decide_eq_true c2
    clear c2
    have H' := Aside0.mk H
    clear H
    go_wp2
    go_loopg [5, 6] k1 (fun kq v5 v6 w' => ∃ (x5_2 : Int) (x6_2 : Int), v5 = .int .i64 x5_2 ∧ v6 = .int .i64 x6_2 ∧ Aside0 (bibelotref07_Code.l1 kq l0 x3_1 x4_1 x5_2 x6_2 = some r) ∧ Aside0 (kq ≤ k1) ∧ Aside0 (Below w.heap.size w w'))
    case atStart => exact ⟨(0), (wrap64 (x4_1 + 1)), (by first | rfl | (simp; done) | (simp [*]; done)), (by first | rfl | (simp; done) | (simp [*]; done)), H', ⟨Nat.le_refl _⟩, ⟨by repeat (first | (with_reducible first | exact HB.out | apply below_alloc | apply pw_below_drewN | apply below_drew1) | exact HB.out)⟩⟩
    case round =>
     clear H'
     try clear c2
     try clear c2b0
     try clear p2
     obtain ⟨x5_2, x6_2, rfl, rfl, HA, HK2, HB⟩ := hrel
     cases gk with
     | zero => exact absurd HA.out (by simp [bibelotref07_Code.l1])
     | succ k2 =>
      have H := HA.out
      clear HA
      simp only [bibelotref07_Code.l1] at H
      by_cases c3 : x6_2 < (l0.length : Int)
      ·rw [if_pos c3] at H
       have c3b0 : decide (x6_2 < (l0.length : Int)) = true := decide_eq_true c3
       clear c3
       by_cases c4 : 0 ≤ x6_2
       ·rw [if_pos c4] at H
        have c4b0 : decide (0 ≤ x6_2) = true := decide_eq_true c4
        clear c4
        replace H := Option.bind_eq_some_iff.mp H
        obtain ⟨t382, A50, H⟩ := H
        replace H : (if 0 ≤ x4_1 then (if x4_1 < (l0.length : Int) then ((bibelotref07_Abs.f (rd l0 x4_1)).bind fun t384 => (if t382 < t384 then (bibelotref07_Code.l1 k2 l0 x3_1 x4_1 (wrap64 (x5_2 + 1)) (wrap64 (x6_2 + 1))) else (bibelotref07_Code.l1 k2 l0 x3_1 x4_1 x5_2 (wrap64 (x6_2 + 1))))) else (none)) else (none)) = some r := H
        have A5 := Aside0.mk A50
        clear A50
        by_cases c6 : 0 ≤ x4_1
        ·rw [if_pos c6] at H
         have c6b0 : decide (0 ≤ x4_1) = true := decide_eq_true c6
         clear c6
         by_cases c7 : x4_1 < (l0.length : Int)
         ·rw [if_pos c7] at H
          have c7b0 : decide (x4_1 < (l0.length : Int)) = true := decide_eq_true c7
          clear c7
          replace H := Option.bind_eq_some_iff.mp H
          obtain ⟨t384, A80, H⟩ := H
          replace H : (if t382 < t384 then (bibelotref07_Code.l1 k2 l0 x3_1 x4_1 (wrap64 (x5_2 + 1)) (wrap64 (x6_2 + 1))) else (bibelotref07_Code.l1 k2 l0 x3_1 x4_1 x5_2 (wrap64 (x6_2 + 1)))) = some r := H
          have A8 := Aside0.mk A80
          clear A80
          by_cases c9 : t382 < t384
          ·rw [if_pos c9] at H
           have c9b0 : decide (t382 < t384) = true := decide_eq_true c9
           clear c9
           have H' := Aside0.mk H
           clear H
           try go_wp2
           have n0_ := Aside0.mk (below_drew1 HB.out)
           clear HB
           have HB := n0_
           clear n0_
           have p381 : 0 ≤ (x6_2 : Int) := of_decide_eq_true (by first | (with_reducible assumption) | assumption)
           have q381 : x6_2 < (l0.length : Int) := of_decide_eq_true (by first | (with_reducible assumption) | assumption)
           obtain ⟨ad381, e381, hx381_0⟩ := Kd.at_int HR0.out x6_2 p381 q381
           have hw381_0 := hx381_0
           cases e381
           replace hx381_0 := (HB.out.cell (World.block_lt_of_cell? w _ hx381_0)).trans hx381_0
           replace p381 := eq_true p381
           replace q381 := eq_true q381
           have p383 : 0 ≤ (x4_1 : Int) := of_decide_eq_true (by first | (with_reducible assumption) | assumption)
           have q383 : x4_1 < (l0.length : Int) := of_decide_eq_true (by first | (with_reducible assumption) | assumption)
           obtain ⟨ad383, e383, hx383_0⟩ := Kd.at_int HR0.out x4_1 p383 q383
           have hw383_0 := hx383_0
           obtain rfl : ad381 = ad383 := (by injection e383)
           replace hx383_0 := (HB.out.cell (World.block_lt_of_cell? w _ hx383_0)).trans hx383_0
           replace p383 := eq_true p383
           replace q383 := eq_true q383
           refine start_ (n := 11) (S := fun w' => w'.cell? (ad381.add (x6_2).toNat) = some (.int .i64 (rd l0 x6_2)) ∧ w'.cell? (ad381.add (x4_1).toNat) = some (.int .i64 (rd l0 x4_1))) (ds := []) #[false, false, false, false, false, false, false, false, false, false, false] (by kernel_rfl) rfl rfl ⟨((HB.out.cell (World.block_lt_of_cell? w _ hw381_0)).trans hw381_0), ((HB.out.cell (World.block_lt_of_cell? w _ hw383_0)).trans hw383_0)⟩ (fun hHeld => ?_); refine with_tabW bibelotref07_Code.tab9 bibelotref07_Code.bits9 (fun HT_ HW_ => ?_)
           generalize wr.drew = w10 at HB hx381_0 hx383_0 hHeld ⊢
           refine pure_ (i := 0) (N := some 22) (v := ?_) (a' := ?_) #[true, false, false, false, false, false, false, false, false, false, false] rfl rfl (any_of HT_.out (by kernel_rfl)) (fun _ _ _ h => h) (Or.inl ⟨by rfl, ?_⟩) ?_ ?_
           rotate_left
           ·intro w'
            go_simp
            with_reducible rfl
           rotate_left
           ·simp only [Act.put, List.setIfInBounds_toArray, List.set_cons_zero, List.set_cons_succ, i64_w, i32_w]
            rfl
           refine pure_ (i := 1) (N := some 23) (v := ?_) (a' := ?_) #[true, true, false, false, false, false, false, false, false, false, false] rfl rfl (any_of HT_.out (by kernel_rfl)) (fun _ _ _ h => h) (Or.inl ⟨by rfl, ?_⟩) ?_ ?_
           rotate_left
           ·intro w'
            go_simp
            with_reducible rfl
           rotate_left
           ·simp only [Act.put, List.setIfInBounds_toArray, List.set_cons_zero, List.set_cons_succ, i64_w, i32_w]
            rfl
           refine pure_ (i := 2) (N := some 24) (v := ?_) (a' := ?_) #[true, true, true, false, false, false, false, false, false, false, false] rfl rfl (any_of HT_.out (by kernel_rfl)) (fun _ _ _ h => h) (Or.inl ⟨by rfl, ?_⟩) ?_ ?_
           rotate_left
           ·intro w'
            go_simp
            with_reducible rfl
           rotate_left
           ·simp only [Act.put, List.setIfInBounds_toArray, List.set_cons_zero, List.set_cons_succ, i64_w, i32_w]
            rfl
           refine pure_ (i := 5) (N := some 27) (v := ?_) (a' := ?_) #[true, true, true, false, false, true, false, false, false, false, false] rfl rfl (any_of HT_.out (by kernel_rfl)) (fun _ _ _ h => h) (Or.inl ⟨by rfl, ?_⟩) ?_ ?_
           rotate_left
           ·intro w'
            go_simp
            with_reducible rfl
           rotate_left
           ·simp only [Act.put, List.setIfInBounds_toArray, List.set_cons_zero, List.set_cons_succ, i64_w, i32_w]
            rfl
           refine pure_ (i := 6) (N := some 28) (v := ?_) (a' := ?_) #[true, true, true, false, false, true, true, false, false, false, false] rfl rfl (any_of HT_.out (by kernel_rfl)) (fun _ _ _ h => h) (Or.inl ⟨by rfl, ?_⟩) ?_ ?_
           rotate_left
           ·intro w'
            go_simp
            with_reducible rfl
           rotate_left
           ·simp only [Act.put, List.setIfInBounds_toArray, List.set_cons_zero, List.set_cons_succ, i64_w, i32_w]
            rfl
           refine pure_ (i := 7) (N := some 29) (v := ?_) (a' := ?_) #[true, true, true, false, false, true, true, true, false, false, false] rfl rfl (any_of HT_.out (by kernel_rfl)) (fun _ _ _ h => h) (Or.inl ⟨by rfl, ?_⟩) ?_ ?_
           rotate_left
           ·intro w'
            go_simp
            with_reducible rfl
           rotate_left
           ·simp only [Act.put, List.setIfInBounds_toArray, List.set_cons_zero, List.set_cons_succ, i64_w, i32_w]
            rfl
           refine take_ (i := 3) (N := some 25) (v := ?_) (a' := ?_) #[true, true, true, true, false, true, true, true, false, false, false] rfl rfl (take_ofW HT_.out HW_.out (by kernel_rfl)) (fun _ _ _ h => h) (Or.inl ⟨by rfl, ?_⟩) hHeld ?_ ?_
           rotate_left
           ·rintro w' ⟨s0, s1⟩
            go_simp
            with_reducible rfl
           rotate_left
           ·simp only [Act.put, List.setIfInBounds_toArray, List.set_cons_zero, List.set_cons_succ, i64_w, i32_w]
            rfl
           refine take_ (i := 8) (N := some 30) (v := ?_) (a' := ?_) #[true, true, true, true, false, true, true, true, true, false, false] rfl rfl (take_ofW HT_.out HW_.out (by kernel_rfl)) (fun _ _ _ h => h) (Or.inl ⟨by rfl, ?_⟩) hHeld ?_ ?_
           rotate_left
           ·rintro w' ⟨s0, s1⟩
            go_simp
            with_reducible rfl
           rotate_left
           ·simp only [Act.put, List.setIfInBounds_toArray, List.set_cons_zero, List.set_cons_succ, i64_w, i32_w]
            rfl
           refine one_ (i := 4) (N := some 26) #[true, true, true, true, true, true, true, true, true, false, false] rfl rfl (one_of HT_.out (by kernel_rfl)) (by decide) (fun K hK => ?_)
           refine goes_ Try.func40 (by kernel_rfl) rfl #[.int .i64 (rd l0 x6_2)] (by rfl) rfl rfl (by (try simp only [List.map_toArray, List.map_cons, List.map_nil]); first | done | rfl | (simp only [List.length_drop, List.length_take]; rfl)) ?_
           with_reducible refine (bibelotref07_Abs.calls (rd l0 x6_2) t382 _ A5.out).mono ?_
           rintro e w11 ⟨rfl, hb⟩
           refine ⟨_, rfl, ?_⟩
           have n0_ := Aside0.mk (below_step (by repeat (first | (with_reducible first | exact HB.out | apply below_alloc | apply pw_below_drewN | apply below_drew1) | exact HB.out)) hb)
           clear HB
           have HB := n0_
           clear n0_
           (try clear hb)
           (try clear hb2)
           (try clear hk)
           (try clear hi)
           refine hK.out _ _ ⟨((HB.out.cell (World.block_lt_of_cell? w _ hw381_0)).trans hw381_0), ((HB.out.cell (World.block_lt_of_cell? w _ hw383_0)).trans hw383_0)⟩ (fun hHeld => ?_)
           clear hK K
           refine norm_ (a' := ?_) ?_ ?_
           rotate_left
           ·show Act.put _ (some 26) _ = _
            simp only [Act.put, List.setIfInBounds_toArray, List.set_cons_zero, List.set_cons_succ, i64_w, i32_w]
            rfl
           refine one_ (i := 9) (N := some 31) #[true, true, true, true, true, true, true, true, true, true, false] rfl rfl (one_of HT_.out (by kernel_rfl)) (by decide) (fun K hK => ?_)
           refine goes_ Try.func40 (by kernel_rfl) rfl #[.int .i64 (rd l0 x4_1)] (by rfl) rfl rfl (by (try simp only [List.map_toArray, List.map_cons, List.map_nil]); first | done | rfl | (simp only [List.length_drop, List.length_take]; rfl)) ?_
           with_reducible refine (bibelotref07_Abs.calls (rd l0 x4_1) t384 _ A8.out).mono ?_
           rintro e w12 ⟨rfl, hb⟩
           refine ⟨_, rfl, ?_⟩
           have n0_ := Aside0.mk (below_step (by repeat (first | (with_reducible first | exact HB.out | apply below_alloc | apply pw_below_drewN | apply below_drew1) | exact HB.out)) hb)
           clear HB
           have HB := n0_
           clear n0_
           (try clear hb)
           (try clear hb2)
           (try clear hk)
           (try clear hi)
           refine hK.out _ _ ⟨((HB.out.cell (World.block_lt_of_cell? w _ hw381_0)).trans hw381_0), ((HB.out.cell (World.block_lt_of_cell? w _ hw383_0)).trans hw383_0)⟩ (fun hHeld => ?_)
           clear hK K
           refine norm_ (a' := ?_) ?_ ?_
           rotate_left
           ·show Act.put _ (some 31) _ = _
            simp only [Act.put, List.setIfInBounds_toArray, List.set_cons_zero, List.set_cons_succ, i64_w, i32_w]
            rfl
           refine pure_ (i := 10) (N := some 32) (v := ?_) (a' := ?_) #[true, true, true, true, true, true, true, true, true, true, true] rfl rfl (any_of HT_.out (by kernel_rfl)) (fun _ _ _ h => h) (Or.inl ⟨by rfl, ?_⟩) ?_ ?_
           rotate_left
           ·intro w'
            go_simp
            with_reducible rfl
           rotate_left
           ·simp only [Act.put, List.setIfInBounds_toArray, List.set_cons_zero, List.set_cons_succ, i64_w, i32_w]
            rfl
           refine done_ (done_of HT_.out (by kernel_rfl)) ?_
           try go_wp2
           go_roundg k2
           case measure => have := HK1.out; have := HK2.out; omega
           case rel => exact ⟨(wrap64 (x5_2 + 1)), (wrap64 (x6_2 + 1)), (by first | rfl | (simp; done) | (simp [*]; done)), (by first | rfl | (simp; done) | (simp [*]; done)), H', ⟨by have := HK1.out; have := HK2.out; omega⟩, ⟨by repeat (first | (with_reducible first | exact HB.out | apply below_alloc | apply pw_below_drewN | apply below_drew1) | exact HB.out)⟩⟩
          ·rw [if_neg c9] at H
           have c9b0 : decide (t382 < t384) = false := decide_eq_false c9
           clear c9
           have H' := Aside0.mk H
           clear H
           try go_wp2
           have n0_ := Aside0.mk (below_drew1 HB.out)
           clear HB
           have HB := n0_
           clear n0_
           have p381 : 0 ≤ (x6_2 : Int) := of_decide_eq_true (by first | (with_reducible assumption) | assumption)
           have q381 : x6_2 < (l0.length : Int) := of_decide_eq_true (by first | (with_reducible assumption) | assumption)
           obtain ⟨ad381, e381, hx381_0⟩ := Kd.at_int HR0.out x6_2 p381 q381
           have hw381_0 := hx381_0
           cases e381
           replace hx381_0 := (HB.out.cell (World.block_lt_of_cell? w _ hx381_0)).trans hx381_0
           replace p381 := eq_true p381
           replace q381 := eq_true q381
           have p383 : 0 ≤ (x4_1 : Int) := of_decide_eq_true (by first | (with_reducible assumption) | assumption)
           have q383 : x4_1 < (l0.length : Int) := of_decide_eq_true (by first | (with_reducible assumption) | assumption)
           obtain ⟨ad383, e383, hx383_0⟩ := Kd.at_int HR0.out x4_1 p383 q383
           have hw383_0 := hx383_0
           obtain rfl : ad381 = ad383 := (by injection e383)
           replace hx383_0 := (HB.out.cell (World.block_lt_of_cell? w _ hx383_0)).trans hx383_0
           replace p383 := eq_true p383
           replace q383 := eq_true q383
           refine start_ (n := 11) (S := fun w' => w'.cell? (ad381.add (x6_2).toNat) = some (.int .i64 (rd l0 x6_2)) ∧ w'.cell? (ad381.add (x4_1).toNat) = some (.int .i64 (rd l0 x4_1))) (ds := []) #[false, false, false, false, false, false, false, false, false, false, false] (by kernel_rfl) rfl rfl ⟨((HB.out.cell (World.block_lt_of_cell? w _ hw381_0)).trans hw381_0), ((HB.out.cell (World.block_lt_of_cell? w _ hw383_0)).trans hw383_0)⟩ (fun hHeld => ?_); refine with_tabW bibelotref07_Code.tab9 bibelotref07_Code.bits9 (fun HT_ HW_ => ?_)
           generalize wr.drew = w13 at HB hx381_0 hx383_0 hHeld ⊢
           refine pure_ (i := 0) (N := some 22) (v := ?_) (a' := ?_) #[true, false, false, false, false, false, false, false, false, false, false] rfl rfl (any_of HT_.out (by kernel_rfl)) (fun _ _ _ h => h) (Or.inl ⟨by rfl, ?_⟩) ?_ ?_
           rotate_left
           ·intro w'
            go_simp
            with_reducible rfl
           rotate_left
           ·simp only [Act.put, List.setIfInBounds_toArray, List.set_cons_zero, List.set_cons_succ, i64_w, i32_w]
            rfl
           refine pure_ (i := 1) (N := some 23) (v := ?_) (a' := ?_) #[true, true, false, false, false, false, false, false, false, false, false] rfl rfl (any_of HT_.out (by kernel_rfl)) (fun _ _ _ h => h) (Or.inl ⟨by rfl, ?_⟩) ?_ ?_
           rotate_left
           ·intro w'
            go_simp
            with_reducible rfl
           rotate_left
           ·simp only [Act.put, List.setIfInBounds_toArray, List.set_cons_zero, List.set_cons_succ, i64_w, i32_w]
            rfl
           refine pure_ (i := 2) (N := some 24) (v := ?_) (a' := ?_) #[true, true, true, false, false, false, false, false, false, false, false] rfl rfl (any_of HT_.out (by kernel_rfl)) (fun _ _ _ h => h) (Or.inl ⟨by rfl, ?_⟩) ?_ ?_
           rotate_left
           ·intro w'
            go_simp
            with_reducible rfl
           rotate_left
           ·simp only [Act.put, List.setIfInBounds_toArray, List.set_cons_zero, List.set_cons_succ, i64_w, i32_w]
            rfl
           refine pure_ (i := 5) (N := some 27) (v := ?_) (a' := ?_) #[true, true, true, false, false, true, false, false, false, false, false] rfl rfl (any_of HT_.out (by kernel_rfl)) (fun _ _ _ h => h) (Or.inl ⟨by rfl, ?_⟩) ?_ ?_
           rotate_left
           ·intro w'
            go_simp
            with_reducible rfl
           rotate_left
           ·simp only [Act.put, List.setIfInBounds_toArray, List.set_cons_zero, List.set_cons_succ, i64_w, i32_w]
            rfl
           refine pure_ (i := 6) (N := some 28) (v := ?_) (a' := ?_) #[true, true, true, false, false, true, true, false, false, false, false] rfl rfl (any_of HT_.out (by kernel_rfl)) (fun _ _ _ h => h) (Or.inl ⟨by rfl, ?_⟩) ?_ ?_
           rotate_left
           ·intro w'
            go_simp
            with_reducible rfl
           rotate_left
           ·simp only [Act.put, List.setIfInBounds_toArray, List.set_cons_zero, List.set_cons_succ, i64_w, i32_w]
            rfl
           refine pure_ (i := 7) (N := some 29) (v := ?_) (a' := ?_) #[true, true, true, false, false, true, true, true, false, false, false] rfl rfl (any_of HT_.out (by kernel_rfl)) (fun _ _ _ h => h) (Or.inl ⟨by rfl, ?_⟩) ?_ ?_
           rotate_left
           ·intro w'
            go_simp
            with_reducible rfl
           rotate_left
           ·simp only [Act.put, List.setIfInBounds_toArray, List.set_cons_zero, List.set_cons_succ, i64_w, i32_w]
            rfl
           refine take_ (i := 3) (N := some 25) (v := ?_) (a' := ?_) #[true, true, true, true, false, true, true, true, false, false, false] rfl rfl (take_ofW HT_.out HW_.out (by kernel_rfl)) (fun _ _ _ h => h) (Or.inl ⟨by rfl, ?_⟩) hHeld ?_ ?_
           rotate_left
           ·rintro w' ⟨s0, s1⟩
            go_simp
            with_reducible rfl
           rotate_left
           ·simp only [Act.put, List.setIfInBounds_toArray, List.set_cons_zero, List.set_cons_succ, i64_w, i32_w]
            rfl
           refine take_ (i := 8) (N := some 30) (v := ?_) (a' := ?_) #[true, true, true, true, false, true, true, true, true, false, false] rfl rfl (take_ofW HT_.out HW_.out (by kernel_rfl)) (fun _ _ _ h => h) (Or.inl ⟨by rfl, ?_⟩) hHeld ?_ ?_
           rotate_left
           ·rintro w' ⟨s0, s1⟩
            go_simp
            with_reducible rfl
           rotate_left
           ·simp only [Act.put, List.setIfInBounds_toArray, List.set_cons_zero, List.set_cons_succ, i64_w, i32_w]
            rfl
           refine one_ (i := 4) (N := some 26) #[true, true, true, true, true, true, true, true, true, false, false] rfl rfl (one_of HT_.out (by kernel_rfl)) (by decide) (fun K hK => ?_)
           refine goes_ Try.func40 (by kernel_rfl) rfl #[.int .i64 (rd l0 x6_2)] (by rfl) rfl rfl (by (try simp only [List.map_toArray, List.map_cons, List.map_nil]); first | done | rfl | (simp only [List.length_drop, List.length_take]; rfl)) ?_
           with_reducible refine (bibelotref07_Abs.calls (rd l0 x6_2) t382 _ A5.out).mono ?_
           rintro e w14 ⟨rfl, hb⟩
           refine ⟨_, rfl, ?_⟩
           have n0_ := Aside0.mk (below_step (by repeat (first | (with_reducible first | exact HB.out | apply below_alloc | apply pw_below_drewN | apply below_drew1) | exact HB.out)) hb)
           clear HB
           have HB := n0_
           clear n0_
           (try clear hb)
           (try clear hb2)
           (try clear hk)
           (try clear hi)
           refine hK.out _ _ ⟨((HB.out.cell (World.block_lt_of_cell? w _ hw381_0)).trans hw381_0), ((HB.out.cell (World.block_lt_of_cell? w _ hw383_0)).trans hw383_0)⟩ (fun hHeld => ?_)
           clear hK K
           refine norm_ (a' := ?_) ?_ ?_
           rotate_left
           ·show Act.put _ (some 26) _ = _
            simp only [Act.put, List.setIfInBounds_toArray, List.set_cons_zero, List.set_cons_succ, i64_w, i32_w]
            rfl
           refine one_ (i := 9) (N := some 31) #[true, true, true, true, true, true, true, true, true, true, false] rfl rfl (one_of HT_.out (by kernel_rfl)) (by decide) (fun K hK => ?_)
           refine goes_ Try.func40 (by kernel_rfl) rfl #[.int .i64 (rd l0 x4_1)] (by rfl) rfl rfl (by (try simp only [List.map_toArray, List.map_cons, List.map_nil]); first | done | rfl | (simp only [List.length_drop, List.length_take]; rfl)) ?_
           with_reducible refine (bibelotref07_Abs.calls (rd l0 x4_1) t384 _ A8.out).mono ?_
           rintro e w15 ⟨rfl, hb⟩
           refine ⟨_, rfl, ?_⟩
           have n0_ := Aside0.mk (below_step (by repeat (first | (with_reducible first | exact HB.out | apply below_alloc | apply pw_below_drewN | apply below_drew1) | exact HB.out)) hb)
           clear HB
           have HB := n0_
           clear n0_
           (try clear hb)
           (try clear hb2)
           (try clear hk)
           (try clear hi)
           refine hK.out _ _ ⟨((HB.out.cell (World.block_lt_of_cell? w _ hw381_0)).trans hw381_0), ((HB.out.cell (World.block_lt_of_cell? w _ hw383_0)).trans hw383_0)⟩ (fun hHeld => ?_)
           clear hK K
           refine norm_ (a' := ?_) ?_ ?_
           rotate_left
           ·show Act.put _ (some 31) _ = _
            simp only [Act.put, List.setIfInBounds_toArray, List.set_cons_zero, List.set_cons_succ, i64_w, i32_w]
            rfl
           refine pure_ (i := 10) (N := some 32) (v := ?_) (a' := ?_) #[true, true, true, true, true, true, true, true, true, true, true] rfl rfl (any_of HT_.out (by kernel_rfl)) (fun _ _ _ h => h) (Or.inl ⟨by rfl, ?_⟩) ?_ ?_
           rotate_left
           ·intro w'
            go_simp
            with_reducible rfl
           rotate_left
           ·simp only [Act.put, List.setIfInBounds_toArray, List.set_cons_zero, List.set_cons_succ, i64_w, i32_w]
            rfl
           refine done_ (done_of HT_.out (by kernel_rfl)) ?_
           try go_wp2
           go_roundg k2
           case measure => have := HK1.out; have := HK2.out; omega
           case rel => exact ⟨(x5_2), (wrap64 (x6_2 + 1)), (by first | rfl | (simp; done) | (simp [*]; done)), (by first | rfl | (simp; done) | (simp [*]; done)), H', ⟨by have := HK1.out; have := HK2.out; omega⟩, ⟨by repeat (first | (with_reducible first | exact HB.out | apply below_alloc | apply pw_below_drewN | apply below_drew1) | exact HB.out)⟩⟩
         ·rw [if_neg c7] at H
          exact absurd H (by simp)
        ·rw [if_neg c6] at H
         exact absurd H (by simp)
       ·rw [if_neg c4] at H
        exact absurd H (by simp)
      ·rw [if_neg c3] at H
       have c3b0 : decide (x6_2 < (l0.length : Int)) = false := decide_eq_false c3
       clear c3
       have H' := Aside0.mk H
       clear H
       go_wp2
       go_roundg k2
       case measure => have := HK1.out; have := HK2.out; omega
       case rel => exact ⟨(wrap64 ((wrap64 (x3_1 * (wrap64 ((l0.length : Int) - x4_1)))) + x5_2)), (wrap64 (x4_1 + 1)), (by first | rfl | (simp; done) | (simp [*]; done)), (by first | rfl | (simp; done) | (simp [*]; done)), H', ⟨by have := HK1.out; have := HK2.out; omega⟩, ⟨by repeat (first | (with_reducible first | exact HB.out | apply below_alloc | apply pw_below_drewN | apply below_drew1) | exact HB.out)⟩⟩
   ·rw [if_neg c2] at H
    have c2b0 : decide (x4_1 < (l0.length : Int)) = false := decide_eq_false c2
    clear c2
    have H' := Aside0.mk H
    clear H
    go_wp2
    go_loopg [3, 7] k1 (fun kq v3 v7 w' => ∃ (x3_2 : Int) (x7_2 : Int), v3 = .int .i64 x3_2 ∧ v7 = .int .i64 x7_2 ∧ Aside0 (bibelotref07_Code.l2 kq l0 x3_2 x7_2 = some r) ∧ Aside0 (kq ≤ k1) ∧ Aside0 (Below w.heap.size w w'))
    case atStart => exact ⟨(x3_1), (0), (by first | rfl | (simp; done) | (simp [*]; done)), (by first | rfl | (simp; done) | (simp [*]; done)), H', ⟨Nat.le_refl _⟩, ⟨by repeat (first | (with_reducible first | exact HB.out | apply below_alloc | apply pw_below_drewN | apply below_drew1) | exact HB.out)⟩⟩
    case round =>
     clear H'
     try clear c2
     try clear c2b0
     try clear p2
     try clear c3
     try clear c3b0
     try clear p3
     try clear q3
     try clear hx3
     try clear c4
     try clear c4b0
     try clear c5
     try clear c6
     try clear c6b0
     try clear p6
     try clear c7
     try clear c7b0
     try clear c9
     try clear c9b0
     try clear hx381_0
     try clear hx383_0
     try clear p2
     try clear p381
     try clear p383
     try clear q381
     try clear q383
     obtain ⟨x3_2, x7_2, rfl, rfl, HA, HK2, HB⟩ := hrel
     cases gk with
     | zero => exact absurd HA.out (by simp [bibelotref07_Code.l2])
     | succ k2 =>
      have H := HA.out
      clear HA
      simp only [bibelotref07_Code.l2] at H
      by_cases c16 : x7_2 < (l0.length : Int)
      ·rw [if_pos c16] at H
       have c16b0 : decide (x7_2 < (l0.length : Int)) = true := decide_eq_true c16
       clear c16
       by_cases c17 : 0 ≤ x7_2
       ·rw [if_pos c17] at H
        have c17b0 : decide (0 ≤ x7_2) = true := decide_eq_true c17
        clear c17
        by_cases c18 : (rd l0 x7_2) < 0
        ·rw [if_pos c18] at H
         have c18b0 : decide ((rd l0 x7_2) < 0) = true := decide_eq_true c18
         clear c18
         have H' := Aside0.mk H
         clear H
         have p385 : 0 ≤ (x7_2 : Int) := of_decide_eq_true (by first | (with_reducible assumption) | assumption)
         have q385 : x7_2 < (l0.length : Int) := of_decide_eq_true (by first | (with_reducible assumption) | assumption)
         obtain ⟨ad385, e385, hx385_0⟩ := Kd.at_int HR0.out x7_2 p385 q385
         cases e385
         replace hx385_0 := (HB.out.cell (World.block_lt_of_cell? w _ hx385_0)).trans hx385_0
         replace p385 := eq_true p385
         replace q385 := eq_true q385
         go_wp2
         go_roundg k2
         case measure => have := HK1.out; have := HK2.out; omega
         case rel => exact ⟨(wrap64 ((wrap64 (2 * x3_2)) + 1)), (wrap64 (x7_2 + 1)), (by first | rfl | (simp; done) | (simp [*]; done)), (by first | rfl | (simp; done) | (simp [*]; done)), H', ⟨by have := HK1.out; have := HK2.out; omega⟩, ⟨by repeat (first | (with_reducible first | exact HB.out | apply below_alloc | apply pw_below_drewN | apply below_drew1) | exact HB.out)⟩⟩
        ·rw [if_neg c18] at H
         have c18b0 : decide ((rd l0 x7_2) < 0) = false := decide_eq_false c18
         clear c18
         have H' := Aside0.mk H
         clear H
         have p385 : 0 ≤ (x7_2 : Int) := of_decide_eq_true (by first | (with_reducible assumption) | assumption)
         have q385 : x7_2 < (l0.length : Int) := of_decide_eq_true (by first | (with_reducible assumption) | assumption)
         obtain ⟨ad385, e385, hx385_0⟩ := Kd.at_int HR0.out x7_2 p385 q385
         cases e385
         replace hx385_0 := (HB.out.cell (World.block_lt_of_cell? w _ hx385_0)).trans hx385_0
         replace p385 := eq_true p385
         replace q385 := eq_true q385
         go_wp2
         go_roundg k2
         case measure => have := HK1.out; have := HK2.out; omega
         case rel => exact ⟨(wrap64 (2 * x3_2)), (wrap64 (x7_2 + 1)), (by first | rfl | (simp; done) | (simp [*]; done)), (by first | rfl | (simp; done) | (simp [*]; done)), H', ⟨by have := HK1.out; have := HK2.out; omega⟩, ⟨by repeat (first | (with_reducible first | exact HB.out | apply below_alloc | apply pw_below_drewN | apply below_drew1) | exact HB.out)⟩⟩
       ·rw [if_neg c17] at H
        exact absurd H (by simp)
      ·rw [if_neg c16] at H
       have c16b0 : decide (x7_2 < (l0.length : Int)) = false := decide_eq_false c16
       clear c16
       obtain rfl := Option.some.inj H
       go_wp2
       go_ret
       exact ⟨by first | rfl | (simp [errW_none, errW_some] <;> rfl) | (simp [*, errW_none, errW_some] <;> rfl), by repeat (first | (with_reducible first | exact HB.out | apply below_alloc | apply pw_below_drewN | apply below_drew1) | exact HB.out)⟩

end Go.Proofs.Ytepjhdblmghckaa.Q
namespace Go.Proofs.Ytepjhdblmghckaa.G
end Go.Proofs.Ytepjhdblmghckaa.G
namespace Go.Proofs.Ytepjhdblmghckaa.Q
set_option linter.unusedVariables false
set_option linter.unusedSimpArgs false
set_option linter.unusedSectionVars false
open Go.Proofs.Ytepjhdblmghckaa.G
open Go.RowKit Go.Proofs.YtepjhdblmghckaaW.PrintWords Go.Proofs.YtepjhdblmghckaaW.PrintLast Go.Proofs.YtepjhdblmghckaaW.PrintMore
attribute [local go_sem] max2_int min2_int max_two min_two max_three min_three max_four min_four   -- for this text's walks alone

/-! ### bibelotref07_First: function 49 -/
def bibelotref07_First.l0 : Nat → Int → List Int → Int → Option (List Int)
 | 0, _, _, _ => none
 | k + 1, x0, x3, x4 => if x4 ≤ x0 then (if x3.length < 17592186044416 then (bibelotref07_First.l0 k x0 (x3 ++ [x4]) (wrap64 (x4 + 1))) else (none)) else (some x3)
def bibelotref07_First.f (k : Nat) (a0 : Int) : Option (List Int) := bibelotref07_First.l0 k a0 ([] : List Int) 1
theorem bibelotref07_First.mono_l : ∀ k, (∀ y0 y1 y2, LeO (bibelotref07_First.l0 k y0 y1 y2) (bibelotref07_First.l0 (k + 1) y0 y1 y2))
 | 0 => fun _ _ _ r h => by simp [bibelotref07_First.l0] at h
 | k + 1 => by
  have ih0 := bibelotref07_First.mono_l k
  ·intro y0 y1 y2
   unfold bibelotref07_First.l0
   repeat' first
   | (with_reducible exact ih0 _ _ _)
   | (with_reducible exact LeO.refl _)
   | (with_reducible exact LeO.none _)
   | (with_reducible refine LeO.ite ?_ ?_)
   | (with_reducible refine LeO.bind ?_ (fun _ => ?_))
   | exact ih0 _ _ _
   | exact LeO.none _
   | refine LeO.ite ?_ ?_
   | refine LeO.bind ?_ (fun _ => ?_)
theorem bibelotref07_First.mono : ∀ a0 k, LeO (bibelotref07_First.f k a0) (bibelotref07_First.f (k + 1) a0) := by
 intro a0 k
 have ih0 := bibelotref07_First.mono_l k
 unfold bibelotref07_First.f
 repeat' first
   | (with_reducible exact ih0 _ _ _)
   | (with_reducible exact LeO.refl _)
   | (with_reducible exact LeO.none _)
   | (with_reducible refine LeO.ite ?_ ?_)
   | (with_reducible refine LeO.bind ?_ (fun _ => ?_))
   | exact ih0 _ _ _
   | exact LeO.none _
   | refine LeO.ite ?_ ?_
   | refine LeO.bind ?_ (fun _ => ?_)
set_option maxHeartbeats 8000000 in
set_option maxRecDepth 100000 in
theorem bibelotref07_First.calls (k : Nat) (a0 : Int) (r : List Int) (w : World) (h : bibelotref07_First.f k a0 = some r) :
  Calls Try.prog 49 #[.int .i64 a0] w fun e w' => ∃ v0_ : Value, e = .returned (v0_) ∧ Kd.R (Kd.int .i64) 3 w' w.heap.size (fun _ => True) v0_ r ∧ Below w.heap.size w w' := by
 have HB := Aside0.mk (Below.refl w.heap.size w)
 have H : (bibelotref07_First.l0 k a0 ([] : List Int) 1) = some r := h
 clear h
 have H' := Aside0.mk H
 clear H
 go_enter Try.func49, Try.ntmps49
 go_wp2
 go_loopg [3, 4] k (fun kq v3 v4 w' => ∃ (x3_1 : List Int) (x4_1 : Int), v4 = .int .i64 x4_1 ∧ Aside0 (bibelotref07_First.l0 kq a0 x3_1 x4_1 = some r) ∧ Aside0 (kq ≤ k) ∧ Aside0 (Kd.R (Kd.int .i64) 3 w' w.heap.size (fun _ => True) v3 x3_1) ∧ Aside0 (Below w.heap.size w w'))
 case atStart => exact ⟨(([] : List Int)), (1), (by first | rfl | (simp; done) | (simp [*]; done)), H', ⟨Nat.le_refl _⟩, ⟨by first | exact Kd.R_nil _ _ _ _ _ | exact Kd.N_nil _ _ _ _ _ | exact Kd.V_nil _ _ _ _ _ | exact Kd.Q_nil _ _ _ _ _ | exact Kd.S_nil _ _ _ _ _⟩, ⟨by repeat (first | (with_reducible first | exact HB.out | apply below_alloc | apply pw_below_drewN | apply below_drew1) | exact HB.out)⟩⟩
 case round =>
  clear H'
  obtain ⟨x3_1, x4_1, rfl, HA, HK1, HO_3, HB⟩ := hrel
  cases gk with
  | zero => exact absurd HA.out (by simp [bibelotref07_First.l0])
  | succ k1 =>
   have H := HA.out
   clear HA
   simp only [bibelotref07_First.l0] at H
   by_cases c2 : x4_1 ≤ a0
   ·rw [if_pos c2] at H
    have c2b0 : decide (x4_1 ≤ a0) = true := decide_eq_true c2
    clear c2
    by_cases c3 : x3_1.length < 17592186044416
    ·rw [if_pos c3] at H
     have LMc3 := Aside0.mk c3
     clear c3
     obtain ⟨y378, hy378⟩ : ∃ y_ : List Int, y_ = (x3_1 ++ [x4_1]) := ⟨_, rfl⟩
     replace H : (bibelotref07_First.l0 k1 a0 y378 (wrap64 (x4_1 + 1))) = some r := by first | (rw [hy378]; with_reducible exact H) | (have H2_ := (Option.bind_some _ _).symm.trans H; rw [hy378]; with_reducible exact H2_) | (have H2_ := (Option.bind_some _ _).symm.trans H; with_reducible exact H2_) | with_reducible exact H | (rw [hy378]; exact H) | exact H
     have Ny378 := Aside0.mk hy378
     clear hy378
     have H' := Aside0.mk H
     clear H
     go_wp2_with (first|((with_reducible refine gate_builtin (b := .append) (xs := #[.tmp 10, .tmp 12]) rfl ?_);at_builtin;refine Kd.R_append (Kd.int .i64) (w0 := w) w.heap.size rfl (.tmp 10) (.tmp 12) 22 3 (.int .i64 0) 8 rfl Try.underlying22 info3 rfl (by decide) (by omega) u3 x3_1 x4_1 [.int .i64 x4_1] (fun _ => True) (fun _ => False) rfl rfl ?aP (fun _ hk => hk.elim) ?aF ?aO ?aB ?aS ?aL ?_;(case aP => exact rfl);(case aB => exact (by repeat (first|(with_reducible first|exact HB.out|apply below_alloc|apply pw_below_drewN|apply below_drew1)|exact HB.out)));(case aF => exact (fun _ _ => trivial));(case aO => exact (by (with_reducible repeat (first|apply Kd.R_alloc|apply Kd.R_drewN|apply Kd.R_drew));exact HO_3.out));(case aS => exact (below_size (by repeat (first|(with_reducible first|exact HB.out|apply below_alloc|apply pw_below_drewN|apply below_drew1)|exact HB.out))));(case aL => have := LMc3.out;omega);intro v379 w4 ho hb hg hat;rw [← Ny378.out] at ho;have n0_ := Aside0.mk (hb);have n1_ := Aside0.mk (ho);clear HB;clear HO_3;have HB := n0_;have HO380 := n1_;clear n0_ n1_;clear ho hb hg hat))
     go_roundg k1
     case measure => have := HK1.out; omega
     case rel => exact ⟨(y378), (wrap64 (x4_1 + 1)), (by first | rfl | (simp; done) | (simp [*]; done)), H', ⟨by have := HK1.out; omega⟩, ⟨by (with_reducible repeat (first | apply Kd.R_alloc | apply Kd.R_drewN | apply Kd.R_drew)); exact HO380.out⟩, ⟨by repeat (first | (with_reducible first | exact HB.out | apply below_alloc | apply pw_below_drewN | apply below_drew1) | exact HB.out)⟩⟩
    ·rw [if_neg c3] at H
     exact absurd H (by simp)
   ·rw [if_neg c2] at H
    have c2b0 : decide (x4_1 ≤ a0) = false := decide_eq_false c2
    clear c2
    obtain rfl := Option.some.inj H
    go_wp2
    go_ret
    exact ⟨_, by first | rfl | (simp [errW_none, errW_some] <;> rfl) | (simp [*, errW_none, errW_some] <;> rfl), by (with_reducible repeat (first | apply Kd.R_alloc | apply Kd.R_drewN | apply Kd.R_drew)); exact HO_3.out, by repeat (first | (with_reducible first | exact HB.out | apply below_alloc | apply pw_below_drewN | apply below_drew1) | exact HB.out)⟩

end Go.Proofs.Ytepjhdblmghckaa.Q
namespace Go.Proofs.Ytepjhdblmghckaa.G
end Go.Proofs.Ytepjhdblmghckaa.G
namespace Go.Proofs.Ytepjhdblmghckaa.Q
set_option linter.unusedVariables false
set_option linter.unusedSimpArgs false
set_option linter.unusedSectionVars false
open Go.Proofs.Ytepjhdblmghckaa.G
open Go.RowKit Go.Proofs.YtepjhdblmghckaaW.PrintWords Go.Proofs.YtepjhdblmghckaaW.PrintLast Go.Proofs.YtepjhdblmghckaaW.PrintMore
attribute [local go_sem] max2_int min2_int max_two min_two max_three min_three max_four min_four   -- for this text's walks alone

/-! ### bibelotref07_Turn: function 46 -/
def bibelotref07_Turn.l0 : Nat → List Int → Int → Int → List Int → Int → Option (List Int)
 | 0, _, _, _, _, _ => none
 | k + 1, x0, x1, x2, x7, x8 => if x8 < (x0.length : Int) then (if 0 ≤ x8 then (if x8 ≥ x1 then (if x8 ≤ x2 then (if 0 ≤ (wrap64 ((wrap64 (x1 + x2)) - x8)) then (if (wrap64 ((wrap64 (x1 + x2)) - x8)) < (x0.length : Int) then (if x7.length < 17592186044416 then (bibelotref07_Turn.l0 k x0 x1 x2 (x7 ++ [wrap64 (-(rd x0 (wrap64 ((wrap64 (x1 + x2)) - x8))))]) (wrap64 (x8 + 1))) else (none)) else (none)) else (none)) else (if x7.length < 17592186044416 then (bibelotref07_Turn.l0 k x0 x1 x2 (x7 ++ [rd x0 x8]) (wrap64 (x8 + 1))) else (none))) else (if x7.length < 17592186044416 then (bibelotref07_Turn.l0 k x0 x1 x2 (x7 ++ [rd x0 x8]) (wrap64 (x8 + 1))) else (none))) else (none)) else (some x7)
def bibelotref07_Turn.f (k : Nat) (l0 : List Int) (a1 : Int) (a2 : Int) : Option (List Int) := bibelotref07_Turn.l0 k l0 a1 a2 ([] : List Int) 0
theorem bibelotref07_Turn.mono_l : ∀ k, (∀ y0 y1 y2 y3 y4, LeO (bibelotref07_Turn.l0 k y0 y1 y2 y3 y4) (bibelotref07_Turn.l0 (k + 1) y0 y1 y2 y3 y4))
 | 0 => fun _ _ _ _ _ r h => by simp [bibelotref07_Turn.l0] at h
 | k + 1 => by
  have ih0 := bibelotref07_Turn.mono_l k
  ·intro y0 y1 y2 y3 y4
   unfold bibelotref07_Turn.l0
   repeat' first
   | (with_reducible exact ih0 _ _ _ _ _)
   | (with_reducible exact LeO.refl _)
   | (with_reducible exact LeO.none _)
   | (with_reducible refine LeO.ite ?_ ?_)
   | (with_reducible refine LeO.bind ?_ (fun _ => ?_))
   | exact ih0 _ _ _ _ _
   | exact LeO.none _
   | refine LeO.ite ?_ ?_
   | refine LeO.bind ?_ (fun _ => ?_)
theorem bibelotref07_Turn.mono : ∀ a0 a1 a2 k, LeO (bibelotref07_Turn.f k a0 a1 a2) (bibelotref07_Turn.f (k + 1) a0 a1 a2) := by
 intro a0 a1 a2 k
 have ih0 := bibelotref07_Turn.mono_l k
 unfold bibelotref07_Turn.f
 repeat' first
   | (with_reducible exact ih0 _ _ _ _ _)
   | (with_reducible exact LeO.refl _)
   | (with_reducible exact LeO.none _)
   | (with_reducible refine LeO.ite ?_ ?_)
   | (with_reducible refine LeO.bind ?_ (fun _ => ?_))
   | exact ih0 _ _ _ _ _
   | exact LeO.none _
   | refine LeO.ite ?_ ?_
   | refine LeO.bind ?_ (fun _ => ?_)
set_option maxHeartbeats 8000000 in
set_option maxRecDepth 100000 in
theorem bibelotref07_Turn.calls (k : Nat) (A0 : Option Addr) (c0 : Nat) (l0 : List Int) (a1 : Int) (a2 : Int) (r : List Int) (w : World) (hr0 : Kd.C (Kd.int .i64) w A0 l0.length l0) (hc0 : l0.length ≤ c0) (h : bibelotref07_Turn.f k l0 a1 a2 = some r) :
  Calls Try.prog 46 #[.slice A0 l0.length c0, .int .i64 a1, .int .i64 a2] w fun e w' => ∃ v0_ : Value, e = .returned (v0_) ∧ Kd.R (Kd.int .i64) 3 w' w.heap.size (fun _ => True) v0_ r ∧ Below w.heap.size w w' := by
 have HR0 := Aside0.mk hr0
 have HC0 := Aside0.mk hc0
 clear hr0 hc0
 have HB := Aside0.mk (Below.refl w.heap.size w)
 have H : (bibelotref07_Turn.l0 k l0 a1 a2 ([] : List Int) 0) = some r := h
 clear h
 have H' := Aside0.mk H
 clear H
 go_enter Try.func46, Try.ntmps46
 go_wp2
 go_loopg [7, 8] k (fun kq v7 v8 w' => ∃ (x7_1 : List Int) (x8_1 : Int), v8 = .int .i64 x8_1 ∧ Aside0 (bibelotref07_Turn.l0 kq l0 a1 a2 x7_1 x8_1 = some r) ∧ Aside0 (kq ≤ k) ∧ Aside0 (Kd.R (Kd.int .i64) 3 w' w.heap.size (fun _ => True) v7 x7_1) ∧ Aside0 (Below w.heap.size w w'))
 case atStart => exact ⟨(([] : List Int)), (0), (by first | rfl | (simp; done) | (simp [*]; done)), H', ⟨Nat.le_refl _⟩, ⟨by first | exact Kd.R_nil _ _ _ _ _ | exact Kd.N_nil _ _ _ _ _ | exact Kd.V_nil _ _ _ _ _ | exact Kd.Q_nil _ _ _ _ _ | exact Kd.S_nil _ _ _ _ _⟩, ⟨by repeat (first | (with_reducible first | exact HB.out | apply below_alloc | apply pw_below_drewN | apply below_drew1) | exact HB.out)⟩⟩
 case round =>
  clear H'
  try clear p2
  obtain ⟨x7_1, x8_1, rfl, HA, HK1, HO_7, HB⟩ := hrel
  cases gk with
  | zero => exact absurd HA.out (by simp [bibelotref07_Turn.l0])
  | succ k1 =>
   have H := HA.out
   clear HA
   simp only [bibelotref07_Turn.l0] at H
   by_cases c4 : x8_1 < (l0.length : Int)
   ·rw [if_pos c4] at H
    have c4b0 : decide (x8_1 < (l0.length : Int)) = true := decide_eq_true c4
    clear c4
    by_cases c5 : 0 ≤ x8_1
    ·rw [if_pos c5] at H
     have c5b0 : decide (0 ≤ x8_1) = true := decide_eq_true c5
     clear c5
     by_cases c6 : x8_1 ≥ a1
     ·rw [if_pos c6] at H
      have c6b0 : decide (a1 ≤ x8_1) = true := decide_eq_true c6
      clear c6
      by_cases c7 : x8_1 ≤ a2
      ·rw [if_pos c7] at H
       have c7b0 : decide (x8_1 ≤ a2) = true := decide_eq_true c7
       clear c7
       obtain ⟨ji8, hji8⟩ : ∃ j_ : Int, (wrap64 ((wrap64 (a1 + a2)) - x8_1)) = j_ := ⟨_, rfl⟩
       replace H : (if 0 ≤ (ji8) then (if (ji8) < (l0.length : Int) then (if x7_1.length < 17592186044416 then (bibelotref07_Turn.l0 k1 l0 a1 a2 (x7_1 ++ [wrap64 (-(rd l0 (ji8)))]) (wrap64 (x8_1 + 1))) else (none)) else (none)) else (none)) = some r := by first | (rw [hji8] at H; exact H) | (simp only [hji8] at H ⊢; exact H)
       have hji8w : (IntKind.i64.wrap ((wrap64 (a1 + a2)) - x8_1)) = ji8 := (i64_w _).trans hji8
       by_cases c9 : 0 ≤ (ji8)
       ·rw [if_pos c9] at H
        have c9b0 : decide (0 ≤ (ji8)) = true := decide_eq_true c9
        clear c9
        by_cases c10 : (ji8) < (l0.length : Int)
        ·rw [if_pos c10] at H
         have c10b0 : decide ((ji8) < (l0.length : Int)) = true := decide_eq_true c10
         clear c10
         by_cases c11 : x7_1.length < 17592186044416
         ·rw [if_pos c11] at H
          have LMc11 := Aside0.mk c11
          clear c11
          obtain ⟨y435, hy435⟩ : ∃ y_ : List Int, y_ = (x7_1 ++ [wrap64 (-(rd l0 (ji8)))]) := ⟨_, rfl⟩
          replace H : (bibelotref07_Turn.l0 k1 l0 a1 a2 y435 (wrap64 (x8_1 + 1))) = some r := by first | (rw [hy435]; with_reducible exact H) | (have H2_ := (Option.bind_some _ _).symm.trans H; rw [hy435]; with_reducible exact H2_) | (have H2_ := (Option.bind_some _ _).symm.trans H; with_reducible exact H2_) | with_reducible exact H | (rw [hy435]; exact H) | exact H
          have Ny435 := Aside0.mk hy435
          clear hy435
          have H' := Aside0.mk H
          clear H
          have p433 : 0 ≤ (x8_1 : Int) := of_decide_eq_true (by first | (with_reducible assumption) | assumption)
          have q433 : x8_1 < (l0.length : Int) := of_decide_eq_true (by first | (with_reducible assumption) | assumption)
          obtain ⟨ad433, e433, hx433_0⟩ := Kd.at_int HR0.out x8_1 p433 q433
          cases e433
          replace hx433_0 := (HB.out.cell (World.block_lt_of_cell? w _ hx433_0)).trans hx433_0
          replace p433 := eq_true p433
          replace q433 := eq_true q433
          have p434 : 0 ≤ ((ji8) : Int) := of_decide_eq_true (by first | (with_reducible assumption) | assumption)
          have q434 : (ji8) < (l0.length : Int) := of_decide_eq_true (by first | (with_reducible assumption) | assumption)
          obtain ⟨ad434, e434, hx434_0⟩ := Kd.at_int HR0.out (ji8) p434 q434
          obtain rfl : ad433 = ad434 := (by injection e434)
          replace hx434_0 := (HB.out.cell (World.block_lt_of_cell? w _ hx434_0)).trans hx434_0
          replace p434 := eq_true p434
          replace q434 := eq_true q434
          go_wp2_with (first|((with_reducible refine gate_builtin (b := .append) (xs := #[.tmp 37, .tmp 39]) rfl ?_);at_builtin;refine Kd.R_append (Kd.int .i64) (w0 := w) w.heap.size rfl (.tmp 37) (.tmp 39) 22 3 (.int .i64 0) 8 rfl Try.underlying22 info3 rfl (by decide) (by omega) u7 x7_1 (wrap64 (-(rd l0 (ji8)))) [.int .i64 (wrap64 (-(rd l0 (ji8))))] (fun _ => True) (fun _ => False) rfl rfl ?aP (fun _ hk => hk.elim) ?aF ?aO ?aB ?aS ?aL ?_;(case aP => exact rfl);(case aB => exact (by repeat (first|(with_reducible first|exact HB.out|apply below_alloc|apply pw_below_drewN|apply below_drew1)|exact HB.out)));(case aF => exact (fun _ _ => trivial));(case aO => exact (by (with_reducible repeat (first|apply Kd.R_alloc|apply Kd.R_drewN|apply Kd.R_drew));exact HO_7.out));(case aS => exact (below_size (by repeat (first|(with_reducible first|exact HB.out|apply below_alloc|apply pw_below_drewN|apply below_drew1)|exact HB.out))));(case aL => have := LMc11.out;omega);intro v436 w12 ho hb hg hat;rw [← Ny435.out] at ho;have n0_ := Aside0.mk (hb);have n1_ := Aside0.mk (ho);clear HB;clear HO_7;have HB := n0_;have HO437 := n1_;clear n0_ n1_;clear ho hb hg hat))
          go_roundg k1
          case measure => have := HK1.out; omega
          case rel => exact ⟨(y435), (wrap64 (x8_1 + 1)), (by first | rfl | (simp; done) | (simp [*]; done)), H', ⟨by have := HK1.out; omega⟩, ⟨by (with_reducible repeat (first | apply Kd.R_alloc | apply Kd.R_drewN | apply Kd.R_drew)); exact HO437.out⟩, ⟨by repeat (first | (with_reducible first | exact HB.out | apply below_alloc | apply pw_below_drewN | apply below_drew1) | exact HB.out)⟩⟩
         ·rw [if_neg c11] at H
          exact absurd H (by simp)
        ·rw [if_neg c10] at H
         exact absurd H (by simp)
       ·rw [if_neg c9] at H
        exact absurd H (by simp)
      ·rw [if_neg c7] at H
       have c7b0 : decide (x8_1 ≤ a2) = false := decide_eq_false c7
       clear c7
       by_cases c13 : x7_1.length < 17592186044416
       ·rw [if_pos c13] at H
        have LMc13 := Aside0.mk c13
        clear c13
        obtain ⟨y438, hy438⟩ : ∃ y_ : List Int, y_ = (x7_1 ++ [rd l0 x8_1]) := ⟨_, rfl⟩
        replace H : (bibelotref07_Turn.l0 k1 l0 a1 a2 y438 (wrap64 (x8_1 + 1))) = some r := by first | (rw [hy438]; with_reducible exact H) | (have H2_ := (Option.bind_some _ _).symm.trans H; rw [hy438]; with_reducible exact H2_) | (have H2_ := (Option.bind_some _ _).symm.trans H; with_reducible exact H2_) | with_reducible exact H | (rw [hy438]; exact H) | exact H
        have Ny438 := Aside0.mk hy438
        clear hy438
        have H' := Aside0.mk H
        clear H
        have p433 : 0 ≤ (x8_1 : Int) := of_decide_eq_true (by first | (with_reducible assumption) | assumption)
        have q433 : x8_1 < (l0.length : Int) := of_decide_eq_true (by first | (with_reducible assumption) | assumption)
        obtain ⟨ad433, e433, hx433_0⟩ := Kd.at_int HR0.out x8_1 p433 q433
        cases e433
        replace hx433_0 := (HB.out.cell (World.block_lt_of_cell? w _ hx433_0)).trans hx433_0
        replace p433 := eq_true p433
        replace q433 := eq_true q433
        go_wp2_with (first|((with_reducible refine gate_builtin (b := .append) (xs := #[.tmp 37, .tmp 39]) rfl ?_);at_builtin;refine Kd.R_append (Kd.int .i64) (w0 := w) w.heap.size rfl (.tmp 37) (.tmp 39) 22 3 (.int .i64 0) 8 rfl Try.underlying22 info3 rfl (by decide) (by omega) u7 x7_1 (rd l0 x8_1) [.int .i64 (rd l0 x8_1)] (fun _ => True) (fun _ => False) rfl rfl ?aP (fun _ hk => hk.elim) ?aF ?aO ?aB ?aS ?aL ?_;(case aP => exact rfl);(case aB => exact (by repeat (first|(with_reducible first|exact HB.out|apply below_alloc|apply pw_below_drewN|apply below_drew1)|exact HB.out)));(case aF => exact (fun _ _ => trivial));(case aO => exact (by (with_reducible repeat (first|apply Kd.R_alloc|apply Kd.R_drewN|apply Kd.R_drew));exact HO_7.out));(case aS => exact (below_size (by repeat (first|(with_reducible first|exact HB.out|apply below_alloc|apply pw_below_drewN|apply below_drew1)|exact HB.out))));(case aL => have := LMc13.out;omega);intro v439 w14 ho hb hg hat;rw [← Ny438.out] at ho;have n0_ := Aside0.mk (hb);have n1_ := Aside0.mk (ho);clear HB;clear HO_7;have HB := n0_;have HO440 := n1_;clear n0_ n1_;clear ho hb hg hat))
        go_roundg k1
        case measure => have := HK1.out; omega
        case rel => exact ⟨(y438), (wrap64 (x8_1 + 1)), (by first | rfl | (simp; done) | (simp [*]; done)), H', ⟨by have := HK1.out; omega⟩, ⟨by (with_reducible repeat (first | apply Kd.R_alloc | apply Kd.R_drewN | apply Kd.R_drew)); exact HO440.out⟩, ⟨by repeat (first | (with_reducible first | exact HB.out | apply below_alloc | apply pw_below_drewN | apply below_drew1) | exact HB.out)⟩⟩
       ·rw [if_neg c13] at H
        exact absurd H (by simp)
     ·rw [if_neg c6] at H
      have c6b0 : decide (a1 ≤ x8_1) = false := decide_eq_false c6
      clear c6
      by_cases c15 : x7_1.length < 17592186044416
      ·rw [if_pos c15] at H
       have LMc15 := Aside0.mk c15
       clear c15
       obtain ⟨y441, hy441⟩ : ∃ y_ : List Int, y_ = (x7_1 ++ [rd l0 x8_1]) := ⟨_, rfl⟩
       replace H : (bibelotref07_Turn.l0 k1 l0 a1 a2 y441 (wrap64 (x8_1 + 1))) = some r := by first | (rw [hy441]; with_reducible exact H) | (have H2_ := (Option.bind_some _ _).symm.trans H; rw [hy441]; with_reducible exact H2_) | (have H2_ := (Option.bind_some _ _).symm.trans H; with_reducible exact H2_) | with_reducible exact H | (rw [hy441]; exact H) | exact H
       have Ny441 := Aside0.mk hy441
       clear hy441
       have H' := Aside0.mk H
       clear H
       have p433 : 0 ≤ (x8_1 : Int) := of_decide_eq_true (by first | (with_reducible assumption) | assumption)
       have q433 : x8_1 < (l0.length : Int) := of_decide_eq_true (by first | (with_reducible assumption) | assumption)
       obtain ⟨ad433, e433, hx433_0⟩ := Kd.at_int HR0.out x8_1 p433 q433
       cases e433
       replace hx433_0 := (HB.out.cell (World.block_lt_of_cell? w _ hx433_0)).trans hx433_0
       replace p433 := eq_true p433
       replace q433 := eq_true q433
       go_wp2_with (first|((with_reducible refine gate_builtin (b := .append) (xs := #[.tmp 37, .tmp 39]) rfl ?_);at_builtin;refine Kd.R_append (Kd.int .i64) (w0 := w) w.heap.size rfl (.tmp 37) (.tmp 39) 22 3 (.int .i64 0) 8 rfl Try.underlying22 info3 rfl (by decide) (by omega) u7 x7_1 (rd l0 x8_1) [.int .i64 (rd l0 x8_1)] (fun _ => True) (fun _ => False) rfl rfl ?aP (fun _ hk => hk.elim) ?aF ?aO ?aB ?aS ?aL ?_;(case aP => exact rfl);(case aB => exact (by repeat (first|(with_reducible first|exact HB.out|apply below_alloc|apply pw_below_drewN|apply below_drew1)|exact HB.out)));(case aF => exact (fun _ _ => trivial));(case aO => exact (by (with_reducible repeat (first|apply Kd.R_alloc|apply Kd.R_drewN|apply Kd.R_drew));exact HO_7.out));(case aS => exact (below_size (by repeat (first|(with_reducible first|exact HB.out|apply below_alloc|apply pw_below_drewN|apply below_drew1)|exact HB.out))));(case aL => have := LMc15.out;omega);intro v442 w16 ho hb hg hat;rw [← Ny441.out] at ho;have n0_ := Aside0.mk (hb);have n1_ := Aside0.mk (ho);clear HB;clear HO_7;have HB := n0_;have HO443 := n1_;clear n0_ n1_;clear ho hb hg hat))
       go_roundg k1
       case measure => have := HK1.out; omega
       case rel => exact ⟨(y441), (wrap64 (x8_1 + 1)), (by first | rfl | (simp; done) | (simp [*]; done)), H', ⟨by have := HK1.out; omega⟩, ⟨by (with_reducible repeat (first | apply Kd.R_alloc | apply Kd.R_drewN | apply Kd.R_drew)); exact HO443.out⟩, ⟨by repeat (first | (with_reducible first | exact HB.out | apply below_alloc | apply pw_below_drewN | apply below_drew1) | exact HB.out)⟩⟩
      ·rw [if_neg c15] at H
       exact absurd H (by simp)
    ·rw [if_neg c5] at H
     exact absurd H (by simp)
   ·rw [if_neg c4] at H
    have c4b0 : decide (x8_1 < (l0.length : Int)) = false := decide_eq_false c4
    clear c4
    obtain rfl := Option.some.inj H
    go_wp2
    go_ret
    exact ⟨_, by first | rfl | (simp [errW_none, errW_some] <;> rfl) | (simp [*, errW_none, errW_some] <;> rfl), by (with_reducible repeat (first | apply Kd.R_alloc | apply Kd.R_drewN | apply Kd.R_drew)); exact HO_7.out, by repeat (first | (with_reducible first | exact HB.out | apply below_alloc | apply pw_below_drewN | apply below_drew1) | exact HB.out)⟩

end Go.Proofs.Ytepjhdblmghckaa.Q
namespace Go.Proofs.Ytepjhdblmghckaa.G
end Go.Proofs.Ytepjhdblmghckaa.G
namespace Go.Proofs.Ytepjhdblmghckaa.Q
set_option linter.unusedVariables false
set_option linter.unusedSimpArgs false
set_option linter.unusedSectionVars false
open Go.Proofs.Ytepjhdblmghckaa.G
open Go.RowKit Go.Proofs.YtepjhdblmghckaaW.PrintWords Go.Proofs.YtepjhdblmghckaaW.PrintLast Go.Proofs.YtepjhdblmghckaaW.PrintMore
attribute [local go_sem] max2_int min2_int max_two min_two max_three min_three max_four min_four   -- for this text's walks alone

/-! ### bibelotref07_Turns: function 51 -/
mutual
def bibelotref07_Turns.l0 : Nat → Int → Int → Int → Option (List Int)
 | 0, _, _, _ => none
 | k + 1, x0, x3, x4 => if x4 ≤ x0 then (bibelotref07_Turns.l0 k x0 (wrap64 ((wrap64 (2 * x3)) * x4)) (wrap64 (x4 + 1))) else (if 0 ≤ x3 then (if (x3 : Int).toNat ≤ 35184372088832 then (bibelotref07_Turns.l1 k x0 x3 (List.replicate (x3 : Int).toNat 0) 0) else (none)) else (none))
def bibelotref07_Turns.l1 : Nat → Int → Int → List Int → Int → Option (List Int)
 | 0, _, _, _, _ => none
 | k + 1, x0, x3, x5, x6 => if x6 < x3 then (if 0 ≤ x6 then (if x6 < (x5.length : Int) then (bibelotref07_Turns.l1 k x0 x3 (x5.set (x6 : Int).toNat (-1)) (wrap64 (x6 + 1))) else (none)) else (none)) else ((bibelotref07_First.f k x0).bind fun t572 => ((some (([t572] : List (List Int)) : List (List Int))).bind fun y575 => (if 0 < (y575.length : Int) then ((bibelotref07_Code.f k (rd_L1 y575 0)).bind fun t579 => (if 0 ≤ t579 then (if t579 < (x5.length : Int) then (bibelotref07_Turns.l2 k x0 (x5.set (t579 : Int).toNat 0) y575 0) else (none)) else (none))) else (none))))
def bibelotref07_Turns.l2 : Nat → Int → List Int → List (List Int) → Int → Option (List Int)
 | 0, _, _, _, _ => none
 | k + 1, x0, x5, x7, x8 => if x8 < (x7.length : Int) then (if 0 ≤ x8 then ((bibelotref07_Code.f k (rd_L1 x7 x8)).bind fun t582 => (if 0 ≤ t582 then (if t582 < (x5.length : Int) then (bibelotref07_Turns.l3 k x0 x5 x7 x8 (rd x5 t582) 0) else (none)) else (none))) else (none)) else (some x5)
def bibelotref07_Turns.l3 : Nat → Int → List Int → List (List Int) → Int → Int → Int → Option (List Int)
 | 0, _, _, _, _, _, _ => none
 | k + 1, x0, x5, x7, x8, x9, x10 => if x10 < x0 then (bibelotref07_Turns.l4 k x0 x5 x7 x8 x9 x10 x10) else (bibelotref07_Turns.l2 k x0 x5 x7 (wrap64 (x8 + 1)))
def bibelotref07_Turns.l4 : Nat → Int → List Int → List (List Int) → Int → Int → Int → Int → Option (List Int)
 | 0, _, _, _, _, _, _, _ => none
 | k + 1, x0, x5, x7, x8, x9, x10, x11 => if x11 < x0 then (if 0 ≤ x8 then (if x8 < (x7.length : Int) then ((bibelotref07_Turn.f k (rd_L1 x7 x8) x10 x11).bind fun t585 => ((bibelotref07_Code.f k t585).bind fun t588 => (if 0 ≤ t588 then (if t588 < (x5.length : Int) then (if (rd x5 t588) < 0 then (if x7.length < 5864062014805 then (bibelotref07_Turns.l4 k x0 (x5.set (t588 : Int).toNat (wrap64 (x9 + 1))) (x7 ++ [t585]) x8 x9 x10 (wrap64 (x11 + 1))) else (none)) else (bibelotref07_Turns.l4 k x0 x5 x7 x8 x9 x10 (wrap64 (x11 + 1)))) else (none)) else (none)))) else (none)) else (none)) else (bibelotref07_Turns.l3 k x0 x5 x7 x8 x9 (wrap64 (x10 + 1)))
end
def bibelotref07_Turns.f (k : Nat) (a0 : Int) : Option (List Int) := bibelotref07_Turns.l0 k a0 1 1
theorem bibelotref07_Turns.mono_l : ∀ k, (∀ y0 y1 y2, LeO (bibelotref07_Turns.l0 k y0 y1 y2) (bibelotref07_Turns.l0 (k + 1) y0 y1 y2)) ∧ (∀ y0 y1 y2 y3, LeO (bibelotref07_Turns.l1 k y0 y1 y2 y3) (bibelotref07_Turns.l1 (k + 1) y0 y1 y2 y3)) ∧ (∀ y0 y1 y2 y3, LeO (bibelotref07_Turns.l2 k y0 y1 y2 y3) (bibelotref07_Turns.l2 (k + 1) y0 y1 y2 y3)) ∧ (∀ y0 y1 y2 y3 y4 y5, LeO (bibelotref07_Turns.l3 k y0 y1 y2 y3 y4 y5) (bibelotref07_Turns.l3 (k + 1) y0 y1 y2 y3 y4 y5)) ∧ (∀ y0 y1 y2 y3 y4 y5 y6, LeO (bibelotref07_Turns.l4 k y0 y1 y2 y3 y4 y5 y6) (bibelotref07_Turns.l4 (k + 1) y0 y1 y2 y3 y4 y5 y6))
 | 0 => ⟨fun _ _ _ r h => by simp [bibelotref07_Turns.l0] at h, fun _ _ _ _ r h => by simp [bibelotref07_Turns.l1] at h, fun _ _ _ _ r h => by simp [bibelotref07_Turns.l2] at h, fun _ _ _ _ _ _ r h => by simp [bibelotref07_Turns.l3] at h, fun _ _ _ _ _ _ _ r h => by simp [bibelotref07_Turns.l4] at h⟩
 | k + 1 => by
  obtain ⟨ih0, ih1, ih2, ih3, ih4⟩ := bibelotref07_Turns.mono_l k
  refine ⟨?_, ?_, ?_, ?_, ?_⟩
  ·intro y0 y1 y2
   unfold bibelotref07_Turns.l0
   repeat' first
   | (with_reducible exact ih0 _ _ _)
   | (with_reducible exact ih1 _ _ _ _)
   | (with_reducible exact ih2 _ _ _ _)
   | (with_reducible exact ih3 _ _ _ _ _ _)
   | (with_reducible exact ih4 _ _ _ _ _ _ _)
   | (with_reducible exact bibelotref07_Code.mono _ _)
   | (with_reducible exact bibelotref07_First.mono _ _)
   | (with_reducible exact bibelotref07_Turn.mono _ _ _ _)
   | (with_reducible exact LeO.refl _)
   | (with_reducible exact LeO.none _)
   | (with_reducible refine LeO.ite ?_ ?_)
   | (with_reducible refine LeO.bind ?_ (fun _ => ?_))
   | exact ih0 _ _ _
   | exact ih1 _ _ _ _
   | exact ih2 _ _ _ _
   | exact ih3 _ _ _ _ _ _
   | exact ih4 _ _ _ _ _ _ _
   | exact bibelotref07_Code.mono _ _
   | exact bibelotref07_First.mono _ _
   | exact bibelotref07_Turn.mono _ _ _ _
   | exact LeO.none _
   | refine LeO.ite ?_ ?_
   | refine LeO.bind ?_ (fun _ => ?_)
  ·intro y0 y1 y2 y3
   unfold bibelotref07_Turns.l1
   repeat' first
   | (with_reducible exact ih0 _ _ _)
   | (with_reducible exact ih1 _ _ _ _)
   | (with_reducible exact ih2 _ _ _ _)
   | (with_reducible exact ih3 _ _ _ _ _ _)
   | (with_reducible exact ih4 _ _ _ _ _ _ _)
   | (with_reducible exact bibelotref07_Code.mono _ _)
   | (with_reducible exact bibelotref07_First.mono _ _)
   | (with_reducible exact bibelotref07_Turn.mono _ _ _ _)
   | (with_reducible exact LeO.refl _)
   | (with_reducible exact LeO.none _)
   | (with_reducible refine LeO.ite ?_ ?_)
   | (with_reducible refine LeO.bind ?_ (fun _ => ?_))
   | exact ih0 _ _ _
   | exact ih1 _ _ _ _
   | exact ih2 _ _ _ _
   | exact ih3 _ _ _ _ _ _
   | exact ih4 _ _ _ _ _ _ _
   | exact bibelotref07_Code.mono _ _
   | exact bibelotref07_First.mono _ _
   | exact bibelotref07_Turn.mono _ _ _ _
   | exact LeO.none _
   | refine LeO.ite ?_ ?_
   | refine LeO.bind ?_ (fun _ => ?_)
  ·intro y0 y1 y2 y3
   unfold bibelotref07_Turns.l2
   repeat' first
   | (with_reducible exact ih0 _ _ _)
   | (with_reducible exact ih1 _ _ _ _)
   | (with_reducible exact ih2 _ _ _ _)
   | (with_reducible exact ih3 _ _ _ _ _ _)
   | (with_reducible exact ih4 _ _ _ _ _ _ _)
   | (with_reducible exact bibelotref07_Code.mono _ _)
   | (with_reducible exact bibelotref07_First.mono _ _)
   | (with_reducible exact bibelotref07_Turn.mono _ _ _ _)
   | (with_reducible exact LeO.refl _)
   | (with_reducible exact LeO.none _)
   | (with_reducible refine LeO.ite ?_ ?_)
   | (with_reducible refine LeO.bind ?_ (fun _ => ?_))
   | exact ih0 _ _ _
   | exact ih1 _ _ _ _
   | exact ih2 _ _ _ _
   | exact ih3 _ _ _ _ _ _
   | exact ih4 _ _ _ _ _ _ _
   | exact bibelotref07_Code.mono _ _
   | exact bibelotref07_First.mono _ _
   | exact bibelotref07_Turn.mono _ _ _ _
   | exact LeO.none _
   | refine LeO.ite ?_ ?_
   | refine LeO.bind ?_ (fun _ => ?_)
  ·intro y0 y1 y2 y3 y4 y5
   unfold bibelotref07_Turns.l3
   repeat' first
   | (with_reducible exact ih0 _ _ _)
   | (with_reducible exact ih1 _ _ _ _)
   | (with_reducible exact ih2 _ _ _ _)
   | (with_reducible exact ih3 _ _ _ _ _ _)
   | (with_reducible exact ih4 _ _ _ _ _ _ _)
   | (with_reducible exact bibelotref07_Code.mono _ _)
   | (with_reducible exact bibelotref07_First.mono _ _)
   | (with_reducible exact bibelotref07_Turn.mono _ _ _ _)
   | (with_reducible exact LeO.refl _)
   | (with_reducible exact LeO.none _)
   | (with_reducible refine LeO.ite ?_ ?_)
   | (with_reducible refine LeO.bind ?_ (fun _ => ?_))
   | exact ih0 _ _ _
   | exact ih1 _ _ _ _
   | exact ih2 _ _ _ _
   | exact ih3 _ _ _ _ _ _
   | exact ih4 _ _ _ _ _ _ _
   | exact bibelotref07_Code.mono _ _
   | exact bibelotref07_First.mono _ _
   | exact bibelotref07_Turn.mono _ _ _ _
   | exact LeO.none _
   | refine LeO.ite ?_ ?_
   | refine LeO.bind ?_ (fun _ => ?_)
  ·intro y0 y1 y2 y3 y4 y5 y6
   unfold bibelotref07_Turns.l4
   repeat' first
   | (with_reducible exact ih0 _ _ _)
   | (with_reducible exact ih1 _ _ _ _)
   | (with_reducible exact ih2 _ _ _ _)
   | (with_reducible exact ih3 _ _ _ _ _ _)
   | (with_reducible exact ih4 _ _ _ _ _ _ _)
   | (with_reducible exact bibelotref07_Code.mono _ _)
   | (with_reducible exact bibelotref07_First.mono _ _)
   | (with_reducible exact bibelotref07_Turn.mono _ _ _ _)
   | (with_reducible exact LeO.refl _)
   | (with_reducible exact LeO.none _)
   | (with_reducible refine LeO.ite ?_ ?_)
   | (with_reducible refine LeO.bind ?_ (fun _ => ?_))
   | exact ih0 _ _ _
   | exact ih1 _ _ _ _
   | exact ih2 _ _ _ _
   | exact ih3 _ _ _ _ _ _
   | exact ih4 _ _ _ _ _ _ _
   | exact bibelotref07_Code.mono _ _
   | exact bibelotref07_First.mono _ _
   | exact bibelotref07_Turn.mono _ _ _ _
   | exact LeO.none _
   | refine LeO.ite ?_ ?_
   | refine LeO.bind ?_ (fun _ => ?_)
theorem bibelotref07_Turns.mono : ∀ a0 k, LeO (bibelotref07_Turns.f k a0) (bibelotref07_Turns.f (k + 1) a0) := by
 intro a0 k
 obtain ⟨ih0, ih1, ih2, ih3, ih4⟩ := bibelotref07_Turns.mono_l k
 unfold bibelotref07_Turns.f
 repeat' first
   | (with_reducible exact ih0 _ _ _)
   | (with_reducible exact ih1 _ _ _ _)
   | (with_reducible exact ih2 _ _ _ _)
   | (with_reducible exact ih3 _ _ _ _ _ _)
   | (with_reducible exact ih4 _ _ _ _ _ _ _)
   | (with_reducible exact bibelotref07_Code.mono _ _)
   | (with_reducible exact bibelotref07_First.mono _ _)
   | (with_reducible exact bibelotref07_Turn.mono _ _ _ _)
   | (with_reducible exact LeO.refl _)
   | (with_reducible exact LeO.none _)
   | (with_reducible refine LeO.ite ?_ ?_)
   | (with_reducible refine LeO.bind ?_ (fun _ => ?_))
   | exact ih0 _ _ _
   | exact ih1 _ _ _ _
   | exact ih2 _ _ _ _
   | exact ih3 _ _ _ _ _ _
   | exact ih4 _ _ _ _ _ _ _
   | exact bibelotref07_Code.mono _ _
   | exact bibelotref07_First.mono _ _
   | exact bibelotref07_Turn.mono _ _ _ _
   | exact LeO.none _
   | refine LeO.ite ?_ ?_
   | refine LeO.bind ?_ (fun _ => ?_)
set_option maxHeartbeats 8000000 in
set_option maxRecDepth 100000 in
theorem bibelotref07_Turns.calls (k : Nat) (a0 : Int) (r : List Int) (w : World) (h : bibelotref07_Turns.f k a0 = some r) :
  Calls Try.prog 51 #[.int .i64 a0] w fun e w' => ∃ v0_ : Value, e = .returned (v0_) ∧ Kd.R (Kd.int .i64) 3 w' w.heap.size (fun _ => True) v0_ r ∧ Below w.heap.size w w' := by
 have HB := Aside0.mk (Below.refl w.heap.size w)
 have H : (bibelotref07_Turns.l0 k a0 1 1) = some r := h
 clear h
 have H' := Aside0.mk H
 clear H
 go_enter Try.func51, Try.ntmps51
 go_wp2
 go_loopg [3, 4] k (fun kq v3 v4 w' => ∃ (x3_1 : Int) (x4_1 : Int), v3 = .int .i64 x3_1 ∧ v4 = .int .i64 x4_1 ∧ Aside0 (bibelotref07_Turns.l0 kq a0 x3_1 x4_1 = some r) ∧ Aside0 (kq ≤ k) ∧ Aside0 (Below w.heap.size w w'))
 case atStart => exact ⟨(1), (1), (by first | rfl | (simp; done) | (simp [*]; done)), (by first | rfl | (simp; done) | (simp [*]; done)), H', ⟨Nat.le_refl _⟩, ⟨by repeat (first | (with_reducible first | exact HB.out | apply below_alloc | apply pw_below_drewN | apply below_drew1) | exact HB.out)⟩⟩
 case round =>
  clear H'
  obtain ⟨x3_1, x4_1, rfl, rfl, HA, HK1, HB⟩ := hrel
  cases gk with
  | zero => exact absurd HA.out (by simp [bibelotref07_Turns.l0])
  | succ k1 =>
   have H := HA.out
   clear HA
   simp only [bibelotref07_Turns.l0] at H
   by_cases c2 : x4_1 ≤ a0
   ·rw [if_pos c2] at H
    have c2b0 : decide (x4_1 ≤ a0) = true := decide_eq_true c2
    clear c2
    have H' := Aside0.mk H
    clear H
    go_wp2
    go_roundg k1
    case measure => have := HK1.out; omega
    case rel => exact ⟨(wrap64 ((wrap64 (2 * x3_1)) * x4_1)), (wrap64 (x4_1 + 1)), (by first | rfl | (simp; done) | (simp [*]; done)), (by first | rfl | (simp; done) | (simp [*]; done)), H', ⟨by have := HK1.out; omega⟩, ⟨by repeat (first | (with_reducible first | exact HB.out | apply below_alloc | apply pw_below_drewN | apply below_drew1) | exact HB.out)⟩⟩
   ·rw [if_neg c2] at H
    have c2b0 : decide (x4_1 ≤ a0) = false := decide_eq_false c2
    clear c2
    by_cases c3 : 0 ≤ x3_1
    ·rw [if_pos c3] at H
     have c3b0 := eq_true c3
     have c3b1 : decide (0 ≤ x3_1) = true := decide_eq_true c3
     clear c3
     by_cases c4 : (x3_1 : Int).toNat ≤ 35184372088832
     ·rw [if_pos c4] at H
      have c4b0 := eq_true c4
      have c4b1 : decide ((x3_1 : Int).toNat ≤ 35184372088832) = true := decide_eq_true c4
      clear c4
      obtain ⟨y568, hy568⟩ : ∃ y_ : List Int, y_ = (List.replicate (x3_1 : Int).toNat 0) := ⟨_, rfl⟩
      replace H : (bibelotref07_Turns.l1 k1 a0 x3_1 y568 0) = some r := by first | (rw [hy568]; with_reducible exact H) | (have H2_ := (Option.bind_some _ _).symm.trans H; rw [hy568]; with_reducible exact H2_) | (have H2_ := (Option.bind_some _ _).symm.trans H; with_reducible exact H2_) | with_reducible exact H | (rw [hy568]; exact H) | exact H
      have Ny568 := Aside0.mk hy568
      clear hy568
      have H' := Aside0.mk H
      clear H
      go_wp2_with (first|((with_reducible refine gate_dst (N := 24) rfl ?_);refine Kd.R_make (Kd.int .i64) _ 3 rfl (N := 24) rfl 22 _ _ rfl x3_1 rfl rfl Try.underlying22 (.int .i64 0) 8 info3 rfl (by decide) (by omega) 0 (ok := fun _ => True) (okp := fun _ => True) rfl (fun _ hk => hk) trivial (of_decide_eq_true (by first|(with_reducible assumption)|assumption)) (Nat.le_trans (Nat.mul_le_mul_right _ (of_decide_eq_true (by first|(with_reducible assumption)|assumption) : x3_1.toNat ≤ 35184372088832)) (by omega)) (Below.refl _ _) (Nat.le_refl _) ?_;intro v569 w5 ho6 hb hg_ hnew_;clear hg_ hnew_;(first|rw [← Ny568.out] at ho6|(simp only [Int.reduceToNat] at ho6;rw [← Ny568.out] at ho6));have n0_ := Aside0.mk (Kd.R_lower ho6 (below_size (by repeat (first|(with_reducible first|exact HB.out|apply below_alloc|apply pw_below_drewN|apply below_drew1)|exact HB.out))));have n1_ := Aside0.mk (below_step (by repeat (first|(with_reducible first|exact HB.out|apply below_alloc|apply pw_below_drewN|apply below_drew1)|exact HB.out)) hb);clear HB;have HO570 := n0_;have HB := n1_;clear n0_ n1_;clear hb ho6))
      go_loopg [6] k1 (fun kq v6 w' => ∃ (x5_2 : List Int) (x6_2 : Int), v6 = .int .i64 x6_2 ∧ Aside0 (bibelotref07_Turns.l1 kq a0 x3_1 x5_2 x6_2 = some r) ∧ Aside0 (kq ≤ k1) ∧ Aside0 (Kd.R (Kd.int .i64) 3 w' w.heap.size (fun _ => True) v569 x5_2) ∧ Aside0 (Below w.heap.size w w'))
      case atStart => exact ⟨(y568), (0), (by first | rfl | (simp; done) | (simp [*]; done)), H', ⟨Nat.le_refl _⟩, ⟨by (with_reducible repeat (first | apply Kd.R_alloc | apply Kd.R_drewN | apply Kd.R_drew)); exact HO570.out⟩, ⟨by repeat (first | (with_reducible first | exact HB.out | apply below_alloc | apply pw_below_drewN | apply below_drew1) | exact HB.out)⟩⟩
      case round =>
       clear H'
       try clear c2
       try clear c2b0
       try clear p2
       try clear c3
       try clear c3b0
       try clear c3b1
       try clear c4
       try clear c4b0
       try clear c4b1
       try clear c5
       try clear p6
       obtain ⟨x5_2, x6_2, rfl, HA, HK2, HO_5, HB⟩ := hrel
       cases gk with
       | zero => exact absurd HA.out (by simp [bibelotref07_Turns.l1])
       | succ k2 =>
        have H := HA.out
        clear HA
        simp only [bibelotref07_Turns.l1] at H
        by_cases c7 : x6_2 < x3_1
        ·rw [if_pos c7] at H
         have c7b0 : decide (x6_2 < x3_1) = true := decide_eq_true c7
         clear c7
         by_cases c8 : 0 ≤ x6_2
         ·rw [if_pos c8] at H
          have c8b0 : decide (0 ≤ x6_2) = true := decide_eq_true c8
          clear c8
          by_cases c9 : x6_2 < (x5_2.length : Int)
          ·rw [if_pos c9] at H
           have c9b0 : decide (x6_2 < (x5_2.length : Int)) = true := decide_eq_true c9
           clear c9
           obtain ⟨y571, hy571⟩ : ∃ y_ : List Int, y_ = (x5_2.set (x6_2 : Int).toNat (-1)) := ⟨_, rfl⟩
           replace H : (bibelotref07_Turns.l1 k2 a0 x3_1 y571 (wrap64 (x6_2 + 1))) = some r := by first | (rw [hy571]; with_reducible exact H) | (have H2_ := (Option.bind_some _ _).symm.trans H; rw [hy571]; with_reducible exact H2_) | (have H2_ := (Option.bind_some _ _).symm.trans H; with_reducible exact H2_) | with_reducible exact H | (rw [hy571]; exact H) | exact H
           have Ny571 := Aside0.mk hy571
           clear hy571
           have H' := Aside0.mk H
           clear H
           have p10 : 0 ≤ (x6_2 : Int) := of_decide_eq_true (by first | (with_reducible assumption) | assumption)
           have q10 : (x6_2 : Int) < ((x5_2.length : Int) : Int) := of_decide_eq_true (by first | (with_reducible assumption) | assumption)
           obtain ⟨go10, co10, eo10, gb10, gl10, cl10, HG10⟩ := Kd.R_form HO_5.out (by omega)
           (first | cases eo10 | (injection eo10 with ea_ en_ ec_; (first | subst ea_ | (injection ea_ with ea_; subst ea_)); subst ec_; clear en_))
           have GB10 := Aside0.mk gb10
           have GG10 := Aside0.mk HG10
           clear gb10 gl10 HG10
           obtain ⟨hx10_0, hf10_0⟩ := Kd.R_celln 0 HO_5.out (x6_2 : Int) p10 q10
           replace p10 := eq_true p10
           replace q10 := eq_true q10
           have HP11 := Kd.R_putg HO_5.out (x6_2 : Int) (-1)
           go_wp2_with (first|((with_reducible refine gate_store (t := 3) (p := 32) rfl ?_);refine store_event (t := 3) (p := 32) (v := ?vo_w12) (w1 := (wr.setCell ⟨go10, (x6_2 : Int).toNat, none⟩ (.int .i64 (-1)))) ?hg ?ho ?hn ?hr ?_;(case ho => rfl);(case hg => rfl);(case hn => rfl);(case hr => first|(go_simp;done)|(go_simp;rfl));intro w12 hw;have hg : wr.grownBy w12 (some go10) := (by rw [hw];exact HP11.2);have hp_ : Kd.R (Kd.int .i64) 3 w12 w.heap.size (fun _ => True) (.slice (some ⟨go10, 0, none⟩) x5_2.length co10) y571 := (by rw [hw, Ny571.out];exact HP11.1);clear HP11;have n0_ := Aside0.mk (hp_);have n1_ := Aside0.mk ((by rw [hw];exact below_set (HB.out) GB10.out : Below w.heap.size w w12));clear HO_5;clear HB;have HO_5 := n0_;have HB := n1_;clear n0_ n1_;clear hg hw hp_))
           go_roundg k2
           case measure => have := HK1.out; have := HK2.out; omega
           case rel => exact ⟨(y571), (wrap64 (x6_2 + 1)), (by first | rfl | (simp; done) | (simp [*]; done)), H', ⟨by have := HK1.out; have := HK2.out; omega⟩, ⟨by (with_reducible repeat (first | apply Kd.R_alloc | apply Kd.R_drewN | apply Kd.R_drew)); exact HO_5.out⟩, ⟨by repeat (first | (with_reducible first | exact HB.out | apply below_alloc | apply pw_below_drewN | apply below_drew1) | exact HB.out)⟩⟩
          ·rw [if_neg c9] at H
           exact absurd H (by simp)
         ·rw [if_neg c8] at H
          exact absurd H (by simp)
        ·rw [if_neg c7] at H
         have c7b0 : decide (x6_2 < x3_1) = false := decide_eq_false c7
         clear c7
         replace H := Option.bind_eq_some_iff.mp H
         obtain ⟨t572, A130, H⟩ := H
         replace H : ((some (([t572] : List (List Int)) : List (List Int))).bind fun y575 => (if 0 < (y575.length : Int) then ((bibelotref07_Code.f k2 (rd_L1 y575 0)).bind fun t579 => (if 0 ≤ t579 then (if t579 < (x5_2.length : Int) then (bibelotref07_Turns.l2 k2 a0 (x5_2.set (t579 : Int).toNat 0) y575 0) else (none)) else (none))) else (none))) = some r := H
         have A13 := Aside0.mk A130
         clear A130
         obtain ⟨y575, hy575⟩ : ∃ y_ : List (List Int), y_ = (([t572] : List (List Int))) := ⟨_, rfl⟩
         replace H : (if 0 < (y575.length : Int) then ((bibelotref07_Code.f k2 (rd_L1 y575 0)).bind fun t579 => (if 0 ≤ t579 then (if t579 < (x5_2.length : Int) then (bibelotref07_Turns.l2 k2 a0 (x5_2.set (t579 : Int).toNat 0) y575 0) else (none)) else (none))) else (none)) = some r := by first | (rw [hy575]; with_reducible exact H) | (have H2_ := (Option.bind_some _ _).symm.trans H; rw [hy575]; with_reducible exact H2_) | (have H2_ := (Option.bind_some _ _).symm.trans H; with_reducible exact H2_) | with_reducible exact H | (rw [hy575]; exact H) | exact H
         have Ny575 := Aside0.mk hy575
         clear hy575
         by_cases c14 : 0 < (y575.length : Int)
         ·rw [if_pos c14] at H
          have c14b0 : decide (0 < (y575.length : Int)) = true := decide_eq_true c14
          have c14b1 : decide (0 < y575.length) = true := decide_eq_true (by omega)
          clear c14
          replace H := Option.bind_eq_some_iff.mp H
          obtain ⟨t579, A150, H⟩ := H
          replace H : (if 0 ≤ t579 then (if t579 < (x5_2.length : Int) then (bibelotref07_Turns.l2 k2 a0 (x5_2.set (t579 : Int).toNat 0) y575 0) else (none)) else (none)) = some r := H
          have A15 := Aside0.mk A150
          clear A150
          by_cases c16 : 0 ≤ t579
          ·rw [if_pos c16] at H
           have c16b0 : decide (0 ≤ t579) = true := decide_eq_true c16
           clear c16
           by_cases c17 : t579 < (x5_2.length : Int)
           ·rw [if_pos c17] at H
            have c17b0 : decide (t579 < (x5_2.length : Int)) = true := decide_eq_true c17
            clear c17
            obtain ⟨y580, hy580⟩ : ∃ y_ : List Int, y_ = (x5_2.set (t579 : Int).toNat 0) := ⟨_, rfl⟩
            replace H : (bibelotref07_Turns.l2 k2 a0 y580 y575 0) = some r := by first | (rw [hy580]; with_reducible exact H) | (have H2_ := (Option.bind_some _ _).symm.trans H; rw [hy580]; with_reducible exact H2_) | (have H2_ := (Option.bind_some _ _).symm.trans H; with_reducible exact H2_) | with_reducible exact H | (rw [hy580]; exact H) | exact H
            have Ny580 := Aside0.mk hy580
            clear hy580
            have H' := Aside0.mk H
            clear H
            go_wp2_with (first|((with_reducible refine gate_callee (f := 49) rfl ?_);refine goesL_ (some 34) rfl rfl Try.func49 (by kernel_rfl) rfl #[.int .i64 a0] rfl (by (try simp only [List.map_toArray, List.map_cons, List.map_nil]);first|done|rfl|(simp only [List.length_drop, List.length_take];rfl)) ?_;(with_reducible refine (bibelotref07_First.calls k2 a0 t572 _ A13.out).mono ?_);rintro e w19 ⟨v573, rfl, ho0, hb⟩;refine ⟨_, rfl, ?_⟩;have n0_ := Aside0.mk (Kd.R_elder' (by (with_reducible repeat (first|apply Kd.R_alloc|apply Kd.R_drewN|apply Kd.R_drew));exact HO_5.out) (Kd.R_base ho0) hb);have n1_ := Aside0.mk (Kd.R_lower (Kd.R_new' ho0 (Kd.R_lt (by (with_reducible repeat (first|apply Kd.R_alloc|apply Kd.R_drewN|apply Kd.R_drew));exact HO_5.out))) (below_size (by repeat (first|(with_reducible first|exact HB.out|apply below_alloc|apply pw_below_drewN|apply below_drew1)|exact HB.out))));have n2_ := Aside0.mk (below_step (by repeat (first|(with_reducible first|exact HB.out|apply below_alloc|apply pw_below_drewN|apply below_drew1)|exact HB.out)) hb);clear HO_5;clear HB;have HO_5 := n0_;have HO574 := n1_;have HB := n2_;clear n0_ n1_ n2_;(try clear hb);(try clear hb2);(try clear hk);(try clear hi);(try clear ho0);obtain ⟨Ao20, co20, eo20⟩ := Kd.R_slice HO574.out;subst eo20)|((with_reducible refine gate_dst (N := 35) rfl ?_);refine Kd.N_lit (Kd.slice 3 (Kd.int .i64)) _ 22 ?hg (N' := 35) ?hd (xs := ([t572] : List (List Int))) (inner := [.slice Ao20 t572.length co20]) (ok := (fun k_ => some k_ ≠ (v569 : Value).ownBlock)) (okp := (fun k_ => some k_ ≠ (v569 : Value).ownBlock)) ?hr ?hp (fun _ hk => hk) ((show ∀ k_, w19.heap.size ≤ k_ → (fun k_ => some k_ ≠ (v569 : Value).ownBlock) k_ from fun k_ hk => Kd.fresh' (Kd.R_lt (by (with_reducible repeat (first|apply Kd.R_alloc|apply Kd.R_drewN|apply Kd.R_drew));exact HO_5.out)) k_ hk) _ (Nat.le_refl _)) (Below.refl _ _) (Nat.le_refl _) (by simp) ?_;(case hd => rfl);(case hg => rfl);(case hr => first|(go_simp;done)|(go_simp;rfl));(case hp => exact (Reps.one (show Kd.FK (Kd.slice 3 (Kd.int .i64)) _ _ t572 [.slice Ao20 t572.length co20] from (Kd.FK_slice_mk (Kd.R_reads' (Kd.R_mono (ok' := (fun k_ => some k_ ≠ (v569 : Value).ownBlock)) (HO574.out) (fun k_ hk => hk.2))).2.1 (Kd.R_F (Kd.R_mono (ok' := (fun k_ => some k_ ≠ (v569 : Value).ownBlock)) (HO574.out) (fun k_ hk => hk.2))))) (Reps.none _ _)));intro v576 w21 ho22 hb hg_ hnew_;clear hg_ hnew_;(first|rw [← Ny575.out] at ho22|(simp only [Int.reduceToNat] at ho22;rw [← Ny575.out] at ho22));have n0_ := Aside0.mk (Kd.R_below (by (with_reducible repeat (first|apply Kd.R_alloc|apply Kd.R_drewN|apply Kd.R_drew));exact HO_5.out) hb);have n1_ := Aside0.mk (Kd.N_lower ho22 (below_size (by repeat (first|(with_reducible first|exact HB.out|apply below_alloc|apply pw_below_drewN|apply below_drew1)|exact HB.out))));have n2_ := Aside0.mk (below_step (by repeat (first|(with_reducible first|exact HB.out|apply below_alloc|apply pw_below_drewN|apply below_drew1)|exact HB.out)) hb);clear HO_5;clear HB;clear HO574;have HO_5 := n0_;have HO577 := n1_;have HB := n2_;clear n0_ n1_ n2_;clear hb ho22;obtain ⟨Ao23, co23, eo23⟩ := Kd.N_slice HO577.out;subst eo23;have p578 : 0 ≤ (0 : Int) := (by omega);have q578 : 0 < (y575.length : Int) := of_decide_eq_true (by first|(with_reducible assumption)|assumption);obtain ⟨ad578, A578_0, c578_0, e578, hx578_0, hl578_0, hi578_0⟩ := at_L1 (Kd.N_reads' HO577.out).2.2 0 p578 q578;cases e578;obtain ⟨ce578, hce578, hMe578, hcc578⟩ := Kd.N_get HO577.out [] 0 p578 (by first|exact q578|exact of_decide_eq_true (by first|(with_reducible assumption)|assumption)|(have e_ := (Kd.N_reads' HO577.out).1;omega));obtain ⟨ua578_0, uc578_0, rfl, ul578_0, ge578_0⟩ := Kd.FK_slice_open hMe578;have hv578_0 := hcc578 0 _ rfl;rw [Nat.add_zero, show ((Kd.slice 3 (Kd.int .i64))).sz = 1 from rfl, Nat.mul_one] at hv578_0;replace hv578_0 := Option.some.inj (hv578_0.symm.trans hx578_0);injection hv578_0 with hva_ hvn_ hvc_;rw [hva_] at ge578_0;rw [hvc_] at ul578_0;have HL578_0 := Aside0.mk (show Kd.V (Kd.int .i64) 3 _ w.heap.size _ _ (rd_L1 y575 0) from Kd.V_mk ul578_0 ge578_0);clear hva_ hvn_ hvc_ ge578_0 ul578_0;clear hcc578 hce578;have qi578 : (0 < y575.length) = True := eq_true (by omega);(try rw [show ((0 : Int)).toNat = 0 from rfl] at hx578_0);(try rw [Addr.add_zero'] at hx578_0);have HR578_0 := Aside0.mk hi578_0;have HC578_0 := Aside0.mk hl578_0;clear hi578_0 hl578_0;replace p578 := eq_true p578;replace q578 := eq_true q578)|((with_reducible refine gate_callee (f := 52) rfl ?_);refine goesL_ (some 40) rfl rfl Try.func52 (by kernel_rfl) rfl #[.slice A578_0 (rd_L1 y575 0).length c578_0] rfl (by (try simp only [List.map_toArray, List.map_cons, List.map_nil]);first|done|rfl|(simp only [List.length_drop, List.length_take];rfl)) ?_;(with_reducible refine (bibelotref07_Code.calls k2 _ _ (rd_L1 y575 0) t579 _ ?side1 ?side2 A15.out).mono ?_);(case side1 => repeat (first|exact (by repeat (first|(with_reducible exact HR578_0.out)|(with_reducible refine Kd.C_alloc ?_ _)|(with_reducible refine Kd.C_drewN ?_ _)|(with_reducible refine Kd.C_drew ?_)|exact HR578_0.out))|(with_reducible refine Kd.C_alloc ?_ _)|(with_reducible refine Kd.C_drewN ?_ _)|(with_reducible refine Kd.C_drew ?_)));(case side2 => exact HC578_0.out);rintro e w24 ⟨rfl, hb⟩;refine ⟨_, rfl, ?_⟩;have n0_ := Aside0.mk (Kd.R_below (by (with_reducible repeat (first|apply Kd.R_alloc|apply Kd.R_drewN|apply Kd.R_drew));exact HO_5.out) hb);have n1_ := Aside0.mk (Kd.N_below (by (with_reducible repeat (first|apply Kd.N_alloc|apply Kd.N_drewN|apply Kd.N_drew));exact HO577.out) hb);have n2_ := Aside0.mk (Kd.V_below (by (with_reducible repeat (first|apply Kd.V_alloc|apply Kd.V_drewN|apply Kd.V_drew));exact HL578_0.out) hb);have n3_ := Aside0.mk (Kd.C_below (by repeat (first|(with_reducible exact HR578_0.out)|(with_reducible refine Kd.C_alloc ?_ _)|(with_reducible refine Kd.C_drewN ?_ _)|(with_reducible refine Kd.C_drew ?_)|exact HR578_0.out)) hb);have n4_ := Aside0.mk (below_step (by repeat (first|(with_reducible first|exact HB.out|apply below_alloc|apply pw_below_drewN|apply below_drew1)|exact HB.out)) hb);clear HO_5;clear HO577;clear HL578_0;clear HR578_0;clear HB;have HO_5 := n0_;have HO577 := n1_;have HL578_0 := n2_;have HR578_0 := n3_;have HB := n4_;clear n0_ n1_ n2_ n3_ n4_;(try clear hb);(try clear hb2);(try clear hk);(try clear hi);have p18 : 0 ≤ (t579 : Int) := of_decide_eq_true (by first|(with_reducible assumption)|assumption);have q18 : (t579 : Int) < ((x5_2.length : Int) : Int) := of_decide_eq_true (by first|(with_reducible assumption)|assumption);obtain ⟨go18, co18, eo18, gb18, gl18, cl18, HG18⟩ := Kd.R_form HO_5.out (by omega);(first|cases eo18|(injection eo18 with ea_ en_ ec_;(first|subst ea_|(injection ea_ with ea_;subst ea_));subst ec_;clear en_));have GB18 := Aside0.mk gb18;have GG18 := Aside0.mk HG18;clear gb18 gl18 HG18;obtain ⟨hx18_0, hf18_0⟩ := Kd.R_celln 0 HO_5.out (t579 : Int) p18 q18;replace p18 := eq_true p18;replace q18 := eq_true q18;have n_ := Aside0.mk (Kd.R_mono (ok' := (fun _ => True)) HO_5.out (fun k_ hk => trivial));clear HO_5;have HO_5 := n_;clear n_;obtain ⟨hy25_, hz25_⟩ := Kd.R_celln 0 HO_5.out (t579 : Int) (of_decide_eq_true (by first|(with_reducible assumption)|assumption)) (of_decide_eq_true (by first|(with_reducible assumption)|assumption));have HP25 := Kd.R_putg HO_5.out (t579 : Int) 0)|((with_reducible refine gate_store (t := 3) (p := 41) rfl ?_);refine store_event (t := 3) (p := 41) (v := ?vo_w26) (w1 := (w24.setCell ⟨go18, (t579 : Int).toNat, none⟩ (.int .i64 0))) ?hg ?ho ?hn ?hr ?_;(case ho => rfl);(case hg => rfl);(case hn => rfl);(case hr => first|(go_simp;done)|(go_simp;rfl));intro w26 hw;have hg : w24.grownBy w26 (some go18) := (by rw [hw];exact HP25.2);have hp_ : Kd.R (Kd.int .i64) 3 w26 w.heap.size (fun _ => True) (.slice (some ⟨go18, 0, none⟩) x5_2.length co18) y580 := (by rw [hw, Ny580.out];exact HP25.1);clear HP25;have n0_ := Aside0.mk (hp_);have n1_ := Aside0.mk (Kd.N_afterv (v := (.slice (some ⟨go18, 0, none⟩) x5_2.length co18)) (v1 := (.slice (some ⟨go18, 0, none⟩) x5_2.length co18)) (ok := (fun _ => True)) (by (with_reducible repeat (first|apply Kd.N_alloc|apply Kd.N_drewN|apply Kd.N_drew));exact Kd.N_mono HO577.out (fun _ hk => ⟨trivial, hk⟩)) hg (.inl rfl));have n2_ := Aside0.mk (Kd.V_afterv (v := (.slice (some ⟨go18, 0, none⟩) x5_2.length co18)) (v1 := (.slice (some ⟨go18, 0, none⟩) x5_2.length co18)) (ok := (fun k_ => some k_ ≠ (.slice (some ad578) y575.length co23 : Value).ownBlock)) (by (with_reducible repeat (first|apply Kd.V_alloc|apply Kd.V_drewN|apply Kd.V_drew));exact Kd.V_mono HL578_0.out (fun _ hk => ⟨hk.2, hk.1⟩)) hg (.inl rfl));have n3_ := Aside0.mk ((by rw [hw];exact below_set (HB.out) GB18.out : Below w.heap.size w w26));clear HO_5;clear HO577;clear HL578_0;clear HB;have HO_5 := n0_;have HO577 := n1_;have HL578_0 := n2_;have HB := n3_;clear n0_ n1_ n2_ n3_;clear hg hw hp_))
            go_loopg [7, 8] k2 (fun kq v7 v8 w' => ∃ (x5_3 : List Int) (x7_3 : List (List Int)) (x8_3 : Int), v8 = .int .i64 x8_3 ∧ Aside0 (bibelotref07_Turns.l2 kq a0 x5_3 x7_3 x8_3 = some r) ∧ Aside0 (kq ≤ k2) ∧ Aside0 (Kd.R (Kd.int .i64) 3 w' w.heap.size (fun _ => True) (.slice (some ⟨go18, 0, none⟩) x5_2.length co18) x5_3) ∧ Aside0 (Kd.N (Kd.slice 3 (Kd.int .i64)) 22 w' w.heap.size (fun k_ => some k_ ≠ ((.slice (some ⟨go18, 0, none⟩) x5_2.length co18) : Value).ownBlock) v7 x7_3) ∧ Aside0 (Below w.heap.size w w'))
            case atStart => exact ⟨(y580), (y575), (0), (by first | rfl | (simp; done) | (simp [*]; done)), H', ⟨Nat.le_refl _⟩, ⟨by (with_reducible repeat (first | apply Kd.R_alloc | apply Kd.R_drewN | apply Kd.R_drew)); exact HO_5.out⟩, ⟨by (with_reducible repeat (first | apply Kd.N_alloc | apply Kd.N_drewN | apply Kd.N_drew)); exact Kd.N_mono HO577.out (fun _ hk => hk.2)⟩, ⟨by repeat (first | (with_reducible first | exact HB.out | apply below_alloc | apply pw_below_drewN | apply below_drew1) | exact HB.out)⟩⟩
            case round =>
             clear H'
             try clear c1
             try clear p1
             try clear q1
             try clear hx1
             try clear hf1
             try clear c2
             try clear c2b0
             try clear p2
             try clear c3
             try clear c3b0
             try clear c3b1
             try clear c4
             try clear c4b0
             try clear c4b1
             try clear c5
             try clear p5
             try clear q5
             try clear hx5
             try clear qi5
             try clear p6
             try clear c7
             try clear c7b0
             try clear c8
             try clear c8b0
             try clear c9
             try clear c9b0
             try clear p10
             try clear q10
             try clear hx10
             try clear hf10
             try clear c14
             try clear c14b0
             try clear c14b1
             try clear c16
             try clear c16b0
             try clear c17
             try clear c17b0
             try clear p18
             try clear q18
             try clear hx18
             try clear hf18
             try clear hx10_0
             try clear hx18_0
             try clear hx578_0
             try clear p10
             try clear p18
             try clear p2
             try clear p578
             try clear p6
             try clear q10
             try clear q18
             try clear q578
             obtain ⟨x5_3, x7_3, x8_3, rfl, HA, HK3, HO_5, HO_7, HB⟩ := hrel
             have hl5_3 := (Kd.R_reads' HO_5.out).1
             rw [hl5_3] at HO_5
             (try simp only [hl5_3])
             (try simp only [hl5_3] at HO_7)
             cases gk with
             | zero => exact absurd HA.out (by simp [bibelotref07_Turns.l2])
             | succ k3 =>
              have H := HA.out
              clear HA
              simp only [bibelotref07_Turns.l2] at H
              by_cases c27 : x8_3 < (x7_3.length : Int)
              ·rw [if_pos c27] at H
               have c27b0 : decide (x8_3 < (x7_3.length : Int)) = true := decide_eq_true c27
               clear c27
               by_cases c28 : 0 ≤ x8_3
               ·rw [if_pos c28] at H
                have c28b0 : decide (0 ≤ x8_3) = true := decide_eq_true c28
                clear c28
                replace H := Option.bind_eq_some_iff.mp H
                obtain ⟨t582, A290, H⟩ := H
                replace H : (if 0 ≤ t582 then (if t582 < (x5_3.length : Int) then (bibelotref07_Turns.l3 k3 a0 x5_3 x7_3 x8_3 (rd x5_3 t582) 0) else (none)) else (none)) = some r := H
                have A29 := Aside0.mk A290
                clear A290
                by_cases c30 : 0 ≤ t582
                ·rw [if_pos c30] at H
                 have c30b0 : decide (0 ≤ t582) = true := decide_eq_true c30
                 clear c30
                 by_cases c31 : t582 < (x5_3.length : Int)
                 ·rw [if_pos c31] at H
                  have c31b0 : decide (t582 < (x5_3.length : Int)) = true := decide_eq_true c31
                  clear c31
                  have H' := Aside0.mk H
                  clear H
                  obtain ⟨Ao32, co32, eo32⟩ := Kd.N_slice HO_7.out
                  subst eo32
                  have p581 : 0 ≤ (x8_3 : Int) := of_decide_eq_true (by first | (with_reducible assumption) | assumption)
                  have q581 : x8_3 < (x7_3.length : Int) := of_decide_eq_true (by first | (with_reducible assumption) | assumption)
                  obtain ⟨ad581, A581_0, c581_0, e581, hx581_0, hl581_0, hi581_0⟩ := at_L1 (Kd.N_reads' HO_7.out).2.2 x8_3 p581 q581
                  cases e581
                  obtain ⟨ce581, hce581, hMe581, hcc581⟩ := Kd.N_get HO_7.out [] x8_3 p581 (by first | exact q581 | exact of_decide_eq_true (by first | (with_reducible assumption) | assumption) | (have e_ := (Kd.N_reads' HO_7.out).1; omega))
                  obtain ⟨ua581_0, uc581_0, rfl, ul581_0, ge581_0⟩ := Kd.FK_slice_open hMe581
                  have hv581_0 := hcc581 0 _ rfl
                  rw [Nat.add_zero, show ((Kd.slice 3 (Kd.int .i64))).sz = 1 from rfl, Nat.mul_one] at hv581_0
                  replace hv581_0 := Option.some.inj (hv581_0.symm.trans hx581_0)
                  injection hv581_0 with hva_ hvn_ hvc_
                  rw [hva_] at ge581_0
                  rw [hvc_] at ul581_0
                  have HL581_0 := Aside0.mk (show Kd.V (Kd.int .i64) 3 _ w.heap.size _ _ (rd_L1 x7_3 x8_3) from Kd.V_mk ul581_0 ge581_0)
                  clear hva_ hvn_ hvc_ ge581_0 ul581_0
                  clear hcc581 hce581
                  have HR581_0 := Aside0.mk hi581_0
                  have HC581_0 := Aside0.mk hl581_0
                  clear hi581_0 hl581_0
                  replace p581 := eq_true p581
                  replace q581 := eq_true q581
                  go_wp2_with (first|((with_reducible refine gate_callee (f := 52) rfl ?_);refine goesL_ (some 53) rfl rfl Try.func52 (by kernel_rfl) rfl #[.slice A581_0 (rd_L1 x7_3 x8_3).length c581_0] rfl (by (try simp only [List.map_toArray, List.map_cons, List.map_nil]);first|done|rfl|(simp only [List.length_drop, List.length_take];rfl)) ?_;(with_reducible refine (bibelotref07_Code.calls k3 _ _ (rd_L1 x7_3 x8_3) t582 _ ?side1 ?side2 A29.out).mono ?_);(case side1 => repeat (first|exact (by repeat (first|(with_reducible exact HR581_0.out)|(with_reducible refine Kd.C_alloc ?_ _)|(with_reducible refine Kd.C_drewN ?_ _)|(with_reducible refine Kd.C_drew ?_)|exact HR581_0.out))|(with_reducible refine Kd.C_alloc ?_ _)|(with_reducible refine Kd.C_drewN ?_ _)|(with_reducible refine Kd.C_drew ?_)));(case side2 => exact HC581_0.out);rintro e w33 ⟨rfl, hb⟩;refine ⟨_, rfl, ?_⟩;have n0_ := Aside0.mk (Kd.R_below (by (with_reducible repeat (first|apply Kd.R_alloc|apply Kd.R_drewN|apply Kd.R_drew));exact HO_5.out) hb);have n1_ := Aside0.mk (Kd.N_below (by (with_reducible repeat (first|apply Kd.N_alloc|apply Kd.N_drewN|apply Kd.N_drew));exact HO_7.out) hb);have n2_ := Aside0.mk (Kd.V_below (by (with_reducible repeat (first|apply Kd.V_alloc|apply Kd.V_drewN|apply Kd.V_drew));exact HL581_0.out) hb);have n3_ := Aside0.mk (Kd.C_below (by repeat (first|(with_reducible exact HR581_0.out)|(with_reducible refine Kd.C_alloc ?_ _)|(with_reducible refine Kd.C_drewN ?_ _)|(with_reducible refine Kd.C_drew ?_)|exact HR581_0.out)) hb);have n4_ := Aside0.mk (below_step (by repeat (first|(with_reducible first|exact HB.out|apply below_alloc|apply pw_below_drewN|apply below_drew1)|exact HB.out)) hb);clear HO_5;clear HO_7;clear HL581_0;clear HR581_0;clear HB;have HO_5 := n0_;have HO_7 := n1_;have HL581_0 := n2_;have HR581_0 := n3_;have HB := n4_;clear n0_ n1_ n2_ n3_ n4_;(try clear hb);(try clear hb2);(try clear hk);(try clear hi);have p583 : 0 ≤ (t582 : Int) := of_decide_eq_true (by first|(with_reducible assumption)|assumption);have q583 : t582 < (x5_3.length : Int) := of_decide_eq_true (by first|(with_reducible assumption)|assumption);obtain ⟨ad583, e583, hx583_0⟩ := Kd.at_int (Kd.R_reads' HO_5.out).2.2 t582 p583 q583;obtain rfl : (⟨go18, 0, none⟩ : Addr) = ad583 := (by injection e583);(first|simp only [add_plain] at hx583_0|simp only [add_at] at hx583_0|simp only [Addr.add, Nat.zero_add] at hx583_0|skip);replace p583 := eq_true p583;replace q583 := eq_true q583))
                  go_loopg [7, 10] k3 (fun kq v7 v10 w' => ∃ (x5_4 : List Int) (x7_4 : List (List Int)) (x10_4 : Int), v10 = .int .i64 x10_4 ∧ Aside0 (bibelotref07_Turns.l3 kq a0 x5_4 x7_4 x8_3 (rd x5_3 t582) x10_4 = some r) ∧ Aside0 (kq ≤ k3) ∧ Aside0 (Kd.R (Kd.int .i64) 3 w' w.heap.size (fun _ => True) (.slice (some ⟨go18, 0, none⟩) x5_3.length co18) x5_4) ∧ Aside0 (Kd.N (Kd.slice 3 (Kd.int .i64)) 22 w' w.heap.size (fun k_ => some k_ ≠ ((.slice (some ⟨go18, 0, none⟩) x5_3.length co18) : Value).ownBlock) v7 x7_4) ∧ Aside0 (Below w.heap.size w w'))
                  case atStart => exact ⟨(x5_3), (x7_3), (0), (by first | rfl | (simp; done) | (simp [*]; done)), H', ⟨Nat.le_refl _⟩, ⟨by (try simp only [hl5_3]); (with_reducible repeat (first | apply Kd.R_alloc | apply Kd.R_drewN | apply Kd.R_drew)); exact HO_5.out⟩, ⟨by (try simp only [hl5_3]); (with_reducible repeat (first | apply Kd.N_alloc | apply Kd.N_drewN | apply Kd.N_drew)); exact HO_7.out⟩, ⟨by repeat (first | (with_reducible first | exact HB.out | apply below_alloc | apply pw_below_drewN | apply below_drew1) | exact HB.out)⟩⟩
                  case round =>
                   clear H'
                   try clear c1
                   try clear p1
                   try clear q1
                   try clear hx1
                   try clear hf1
                   try clear c2
                   try clear c2b0
                   try clear p2
                   try clear c3
                   try clear c3b0
                   try clear c3b1
                   try clear c4
                   try clear c4b0
                   try clear c4b1
                   try clear c5
                   try clear p5
                   try clear q5
                   try clear hx5
                   try clear qi5
                   try clear p6
                   try clear c7
                   try clear c7b0
                   try clear c8
                   try clear c8b0
                   try clear c9
                   try clear c9b0
                   try clear p10
                   try clear q10
                   try clear hx10
                   try clear hf10
                   try clear c14
                   try clear c14b0
                   try clear c14b1
                   try clear c16
                   try clear c16b0
                   try clear c17
                   try clear c17b0
                   try clear p18
                   try clear q18
                   try clear hx18
                   try clear hf18
                   try clear c27
                   try clear c27b0
                   try clear c28
                   try clear c28b0
                   try clear c30
                   try clear c30b0
                   try clear c31
                   try clear c31b0
                   try clear hx10_0
                   try clear hx18_0
                   try clear hx578_0
                   try clear hx581_0
                   try clear hx583_0
                   try clear p1
                   try clear p10
                   try clear p18
                   try clear p2
                   try clear p5
                   try clear p578
                   try clear p581
                   try clear p583
                   try clear p6
                   try clear q1
                   try clear q10
                   try clear q18
                   try clear q5
                   try clear q578
                   try clear q581
                   try clear q583
                   obtain ⟨x5_4, x7_4, x10_4, rfl, HA, HK4, HO_5, HO_7, HB⟩ := hrel
                   have hl5_4 := (Kd.R_reads' HO_5.out).1
                   rw [hl5_4] at HO_5
                   (try simp only [hl5_4])
                   (try simp only [hl5_4] at HO_7)
                   cases gk with
                   | zero => exact absurd HA.out (by simp [bibelotref07_Turns.l3])
                   | succ k4 =>
                    have H := HA.out
                    clear HA
                    simp only [bibelotref07_Turns.l3] at H
                    by_cases c34 : x10_4 < a0
                    ·rw [if_pos c34] at H
                     have c34b0 : decide (x10_4 < a0) = true := decide_eq_true c34
                     clear c34
                     have H' := Aside0.mk H
                     clear H
                     go_wp2
                     go_loopg [7, 11] k4 (fun kq v7 v11 w' => ∃ (x5_5 : List Int) (x7_5 : List (List Int)) (x11_5 : Int), v11 = .int .i64 x11_5 ∧ Aside0 (bibelotref07_Turns.l4 kq a0 x5_5 x7_5 x8_3 (rd x5_3 t582) x10_4 x11_5 = some r) ∧ Aside0 (kq ≤ k4) ∧ Aside0 (Kd.R (Kd.int .i64) 3 w' w.heap.size (fun _ => True) (.slice (some ⟨go18, 0, none⟩) x5_4.length co18) x5_5) ∧ Aside0 (Kd.N (Kd.slice 3 (Kd.int .i64)) 22 w' w.heap.size (fun k_ => some k_ ≠ ((.slice (some ⟨go18, 0, none⟩) x5_4.length co18) : Value).ownBlock) v7 x7_5) ∧ Aside0 (Below w.heap.size w w'))
                     case atStart => exact ⟨(x5_4), (x7_4), (x10_4), (by first | rfl | (simp; done) | (simp [*]; done)), H', ⟨Nat.le_refl _⟩, ⟨by (try simp only [hl5_3]); (try simp only [hl5_4]); (with_reducible repeat (first | apply Kd.R_alloc | apply Kd.R_drewN | apply Kd.R_drew)); exact HO_5.out⟩, ⟨by (try simp only [hl5_3]); (try simp only [hl5_4]); (with_reducible repeat (first | apply Kd.N_alloc | apply Kd.N_drewN | apply Kd.N_drew)); exact HO_7.out⟩, ⟨by repeat (first | (with_reducible first | exact HB.out | apply below_alloc | apply pw_below_drewN | apply below_drew1) | exact HB.out)⟩⟩
                     case round =>
                      clear H'
                      try clear c1
                      try clear p1
                      try clear q1
                      try clear hx1
                      try clear hf1
                      try clear c2
                      try clear c2b0
                      try clear p2
                      try clear c3
                      try clear c3b0
                      try clear c3b1
                      try clear c4
                      try clear c4b0
                      try clear c4b1
                      try clear c5
                      try clear p5
                      try clear q5
                      try clear hx5
                      try clear qi5
                      try clear p6
                      try clear c7
                      try clear c7b0
                      try clear c8
                      try clear c8b0
                      try clear c9
                      try clear c9b0
                      try clear p10
                      try clear q10
                      try clear hx10
                      try clear hf10
                      try clear c14
                      try clear c14b0
                      try clear c14b1
                      try clear c16
                      try clear c16b0
                      try clear c17
                      try clear c17b0
                      try clear p18
                      try clear q18
                      try clear hx18
                      try clear hf18
                      try clear c27
                      try clear c27b0
                      try clear c28
                      try clear c28b0
                      try clear c30
                      try clear c30b0
                      try clear c31
                      try clear c31b0
                      try clear c34
                      try clear c34b0
                      try clear hx10_0
                      try clear hx18_0
                      try clear hx578_0
                      try clear hx581_0
                      try clear hx583_0
                      try clear p1
                      try clear p10
                      try clear p18
                      try clear p2
                      try clear p5
                      try clear p578
                      try clear p581
                      try clear p583
                      try clear p6
                      try clear q1
                      try clear q10
                      try clear q18
                      try clear q5
                      try clear q578
                      try clear q581
                      try clear q583
                      obtain ⟨x5_5, x7_5, x11_5, rfl, HA, HK5, HO_5, HO_7, HB⟩ := hrel
                      have hl5_5 := (Kd.R_reads' HO_5.out).1
                      rw [hl5_5] at HO_5
                      (try simp only [hl5_5])
                      (try simp only [hl5_5] at HO_7)
                      cases gk with
                      | zero => exact absurd HA.out (by simp [bibelotref07_Turns.l4])
                      | succ k5 =>
                       have H := HA.out
                       clear HA
                       simp only [bibelotref07_Turns.l4] at H
                       by_cases c35 : x11_5 < a0
                       ·rw [if_pos c35] at H
                        have c35b0 : decide (x11_5 < a0) = true := decide_eq_true c35
                        clear c35
                        by_cases c36 : 0 ≤ x8_3
                        ·rw [if_pos c36] at H
                         have c36b0 : decide (0 ≤ x8_3) = true := decide_eq_true c36
                         clear c36
                         by_cases c37 : x8_3 < (x7_5.length : Int)
                         ·rw [if_pos c37] at H
                          have c37b0 : decide (x8_3 < (x7_5.length : Int)) = true := decide_eq_true c37
                          clear c37
                          replace H := Option.bind_eq_some_iff.mp H
                          obtain ⟨t585, A380, H⟩ := H
                          replace H : ((bibelotref07_Code.f k5 t585).bind fun t588 => (if 0 ≤ t588 then (if t588 < (x5_5.length : Int) then (if (rd x5_5 t588) < 0 then (if x7_5.length < 5864062014805 then (bibelotref07_Turns.l4 k5 a0 (x5_5.set (t588 : Int).toNat (wrap64 ((rd x5_3 t582) + 1))) (x7_5 ++ [t585]) x8_3 (rd x5_3 t582) x10_4 (wrap64 (x11_5 + 1))) else (none)) else (bibelotref07_Turns.l4 k5 a0 x5_5 x7_5 x8_3 (rd x5_3 t582) x10_4 (wrap64 (x11_5 + 1)))) else (none)) else (none))) = some r := H
                          have A38 := Aside0.mk A380
                          clear A380
                          replace H := Option.bind_eq_some_iff.mp H
                          obtain ⟨t588, A390, H⟩ := H
                          replace H : (if 0 ≤ t588 then (if t588 < (x5_5.length : Int) then (if (rd x5_5 t588) < 0 then (if x7_5.length < 5864062014805 then (bibelotref07_Turns.l4 k5 a0 (x5_5.set (t588 : Int).toNat (wrap64 ((rd x5_3 t582) + 1))) (x7_5 ++ [t585]) x8_3 (rd x5_3 t582) x10_4 (wrap64 (x11_5 + 1))) else (none)) else (bibelotref07_Turns.l4 k5 a0 x5_5 x7_5 x8_3 (rd x5_3 t582) x10_4 (wrap64 (x11_5 + 1)))) else (none)) else (none)) = some r := H
                          have A39 := Aside0.mk A390
                          clear A390
                          by_cases c40 : 0 ≤ t588
                          ·rw [if_pos c40] at H
                           have c40b0 : decide (0 ≤ t588) = true := decide_eq_true c40
                           clear c40
                           by_cases c41 : t588 < (x5_5.length : Int)
                           ·rw [if_pos c41] at H
                            have c41b0 : decide (t588 < (x5_5.length : Int)) = true := decide_eq_true c41
                            clear c41
                            by_cases c42 : (rd x5_5 t588) < 0
                            ·rw [if_pos c42] at H
                             have c42b0 : decide ((rd x5_5 t588) < 0) = true := decide_eq_true c42
                             clear c42
                             obtain ⟨y590, hy590⟩ : ∃ y_ : List Int, y_ = (x5_5.set (t588 : Int).toNat (wrap64 ((rd x5_3 t582) + 1))) := ⟨_, rfl⟩
                             replace H : (if x7_5.length < 5864062014805 then (bibelotref07_Turns.l4 k5 a0 y590 (x7_5 ++ [t585]) x8_3 (rd x5_3 t582) x10_4 (wrap64 (x11_5 + 1))) else (none)) = some r := by first | (rw [hy590]; with_reducible exact H) | (have H2_ := (Option.bind_some _ _).symm.trans H; rw [hy590]; with_reducible exact H2_) | (have H2_ := (Option.bind_some _ _).symm.trans H; with_reducible exact H2_) | with_reducible exact H | (rw [hy590]; exact H) | exact H
                             have Ny590 := Aside0.mk hy590
                             clear hy590
                             by_cases c44 : x7_5.length < 5864062014805
                             ·rw [if_pos c44] at H
                              have LMc44 := Aside0.mk c44
                              clear c44
                              obtain ⟨y591, hy591⟩ : ∃ y_ : List (List Int), y_ = (x7_5 ++ [t585]) := ⟨_, rfl⟩
                              replace H : (bibelotref07_Turns.l4 k5 a0 y590 y591 x8_3 (rd x5_3 t582) x10_4 (wrap64 (x11_5 + 1))) = some r := by first | (rw [hy591]; with_reducible exact H) | (have H2_ := (Option.bind_some _ _).symm.trans H; rw [hy591]; with_reducible exact H2_) | (have H2_ := (Option.bind_some _ _).symm.trans H; with_reducible exact H2_) | with_reducible exact H | (rw [hy591]; exact H) | exact H
                              have Ny591 := Aside0.mk hy591
                              clear hy591
                              have H' := Aside0.mk H
                              clear H
                              obtain ⟨Ao45, co45, eo45⟩ := Kd.N_slice HO_7.out
                              subst eo45
                              have p584 : 0 ≤ (x8_3 : Int) := of_decide_eq_true (by first | (with_reducible assumption) | assumption)
                              have q584 : x8_3 < (x7_5.length : Int) := of_decide_eq_true (by first | (with_reducible assumption) | assumption)
                              obtain ⟨ad584, A584_0, c584_0, e584, hx584_0, hl584_0, hi584_0⟩ := at_L1 (Kd.N_reads' HO_7.out).2.2 x8_3 p584 q584
                              cases e584
                              obtain ⟨ce584, hce584, hMe584, hcc584⟩ := Kd.N_get HO_7.out [] x8_3 p584 (by first | exact q584 | exact of_decide_eq_true (by first | (with_reducible assumption) | assumption) | (have e_ := (Kd.N_reads' HO_7.out).1; omega))
                              obtain ⟨ua584_0, uc584_0, rfl, ul584_0, ge584_0⟩ := Kd.FK_slice_open hMe584
                              have hv584_0 := hcc584 0 _ rfl
                              rw [Nat.add_zero, show ((Kd.slice 3 (Kd.int .i64))).sz = 1 from rfl, Nat.mul_one] at hv584_0
                              replace hv584_0 := Option.some.inj (hv584_0.symm.trans hx584_0)
                              injection hv584_0 with hva_ hvn_ hvc_
                              rw [hva_] at ge584_0
                              rw [hvc_] at ul584_0
                              have HL584_0 := Aside0.mk (show Kd.V (Kd.int .i64) 3 _ w.heap.size _ _ (rd_L1 x7_5 x8_3) from Kd.V_mk ul584_0 ge584_0)
                              clear hva_ hvn_ hvc_ ge584_0 ul584_0
                              clear hcc584 hce584
                              have HR584_0 := Aside0.mk hi584_0
                              have HC584_0 := Aside0.mk hl584_0
                              clear hi584_0 hl584_0
                              replace p584 := eq_true p584
                              replace q584 := eq_true q584
                              go_wp2_with (first|((with_reducible refine gate_callee (f := 46) rfl ?_);refine goesL_ (some 73) rfl rfl Try.func46 (by kernel_rfl) rfl #[.slice A584_0 (rd_L1 x7_5 x8_3).length c584_0, .int .i64 x10_4, .int .i64 x11_5] rfl (by (try simp only [List.map_toArray, List.map_cons, List.map_nil]);first|done|rfl|(simp only [List.length_drop, List.length_take];rfl)) ?_;(with_reducible refine (bibelotref07_Turn.calls k5 _ _ (rd_L1 x7_5 x8_3) x10_4 x11_5 t585 _ ?side1 ?side2 A38.out).mono ?_);(case side1 => repeat (first|exact (by repeat (first|(with_reducible exact HR584_0.out)|(with_reducible refine Kd.C_alloc ?_ _)|(with_reducible refine Kd.C_drewN ?_ _)|(with_reducible refine Kd.C_drew ?_)|exact HR584_0.out))|(with_reducible refine Kd.C_alloc ?_ _)|(with_reducible refine Kd.C_drewN ?_ _)|(with_reducible refine Kd.C_drew ?_)));(case side2 => exact HC584_0.out);rintro e w46 ⟨v586, rfl, ho0, hb⟩;refine ⟨_, rfl, ?_⟩;have n0_ := Aside0.mk (Kd.R_elder' (by (with_reducible repeat (first|apply Kd.R_alloc|apply Kd.R_drewN|apply Kd.R_drew));exact HO_5.out) (Kd.R_base ho0) hb);have n1_ := Aside0.mk (Kd.N_elder' (by (with_reducible repeat (first|apply Kd.N_alloc|apply Kd.N_drewN|apply Kd.N_drew));exact HO_7.out) (Kd.R_base ho0) hb);have n2_ := Aside0.mk (Kd.V_elder' (by (with_reducible repeat (first|apply Kd.V_alloc|apply Kd.V_drewN|apply Kd.V_drew));exact HL584_0.out) (Kd.R_base ho0) hb);have n3_ := Aside0.mk (Kd.R_lower (Kd.R_new' ho0 (Kd.R_lt (by (with_reducible repeat (first|apply Kd.R_alloc|apply Kd.R_drewN|apply Kd.R_drew));exact HO_5.out))) (below_size (by repeat (first|(with_reducible first|exact HB.out|apply below_alloc|apply pw_below_drewN|apply below_drew1)|exact HB.out))));have n4_ := Aside0.mk (Kd.C_below (by repeat (first|(with_reducible exact HR584_0.out)|(with_reducible refine Kd.C_alloc ?_ _)|(with_reducible refine Kd.C_drewN ?_ _)|(with_reducible refine Kd.C_drew ?_)|exact HR584_0.out)) hb);have n5_ := Aside0.mk (below_step (by repeat (first|(with_reducible first|exact HB.out|apply below_alloc|apply pw_below_drewN|apply below_drew1)|exact HB.out)) hb);clear HO_5;clear HO_7;clear HL584_0;clear HR584_0;clear HB;have HO_5 := n0_;have HO_7 := n1_;have HL584_0 := n2_;have HO587 := n3_;have HR584_0 := n4_;have HB := n5_;clear n0_ n1_ n2_ n3_ n4_ n5_;(try clear hb);(try clear hb2);(try clear hk);(try clear hi);(try clear ho0);obtain ⟨Ao47, co47, eo47⟩ := Kd.R_slice HO587.out;subst eo47)|((with_reducible refine gate_callee (f := 52) rfl ?_);refine goesL_ (some 75) rfl rfl Try.func52 (by kernel_rfl) rfl #[.slice Ao47 t585.length co47] rfl (by (try simp only [List.map_toArray, List.map_cons, List.map_nil]);first|done|rfl|(simp only [List.length_drop, List.length_take];rfl)) ?_;(with_reducible refine (bibelotref07_Code.calls k5 _ _ t585 t588 _ ?side1 ?side2 A39.out).mono ?_);(case side1 => repeat (first|exact (Kd.R_reads' HO587.out).2.2|(with_reducible refine Kd.C_alloc ?_ _)|(with_reducible refine Kd.C_drewN ?_ _)|(with_reducible refine Kd.C_drew ?_)));(case side2 => exact (Kd.R_reads' HO587.out).2.1);rintro e w48 ⟨rfl, hb⟩;refine ⟨_, rfl, ?_⟩;have n0_ := Aside0.mk (Kd.R_below (by (with_reducible repeat (first|apply Kd.R_alloc|apply Kd.R_drewN|apply Kd.R_drew));exact HO_5.out) hb);have n1_ := Aside0.mk (Kd.N_below (by (with_reducible repeat (first|apply Kd.N_alloc|apply Kd.N_drewN|apply Kd.N_drew));exact HO_7.out) hb);have n2_ := Aside0.mk (Kd.V_below (by (with_reducible repeat (first|apply Kd.V_alloc|apply Kd.V_drewN|apply Kd.V_drew));exact HL584_0.out) hb);have n3_ := Aside0.mk (Kd.R_below (by (with_reducible repeat (first|apply Kd.R_alloc|apply Kd.R_drewN|apply Kd.R_drew));exact HO587.out) hb);have n4_ := Aside0.mk (Kd.C_below (by repeat (first|(with_reducible exact HR584_0.out)|(with_reducible refine Kd.C_alloc ?_ _)|(with_reducible refine Kd.C_drewN ?_ _)|(with_reducible refine Kd.C_drew ?_)|exact HR584_0.out)) hb);have n5_ := Aside0.mk (below_step (by repeat (first|(with_reducible first|exact HB.out|apply below_alloc|apply pw_below_drewN|apply below_drew1)|exact HB.out)) hb);clear HO_5;clear HO_7;clear HL584_0;clear HO587;clear HR584_0;clear HB;have HO_5 := n0_;have HO_7 := n1_;have HL584_0 := n2_;have HO587 := n3_;have HR584_0 := n4_;have HB := n5_;clear n0_ n1_ n2_ n3_ n4_ n5_;(try clear hb);(try clear hb2);(try clear hk);(try clear hi);have p589 : 0 ≤ (t588 : Int) := of_decide_eq_true (by first|(with_reducible assumption)|assumption);have q589 : t588 < (x5_5.length : Int) := of_decide_eq_true (by first|(with_reducible assumption)|assumption);obtain ⟨ad589, e589, hx589_0⟩ := Kd.at_int (Kd.R_reads' HO_5.out).2.2 t588 p589 q589;obtain rfl : (⟨go18, 0, none⟩ : Addr) = ad589 := (by injection e589);(first|simp only [add_plain] at hx589_0|simp only [add_at] at hx589_0|simp only [Addr.add, Nat.zero_add] at hx589_0|skip);replace p589 := eq_true p589;replace q589 := eq_true q589;have p43 : 0 ≤ (t588 : Int) := of_decide_eq_true (by first|(with_reducible assumption)|assumption);have q43 : (t588 : Int) < ((x5_5.length : Int) : Int) := of_decide_eq_true (by first|(with_reducible assumption)|assumption);obtain ⟨hx43_0, hf43_0⟩ := Kd.R_celln 0 HO_5.out (t588 : Int) p43 q43;replace p43 := eq_true p43;replace q43 := eq_true q43;have n_ := Aside0.mk (Kd.R_mono (ok' := (fun k_ => some k_ ≠ (.slice Ao47 t585.length co47 : Value).ownBlock)) HO_5.out (fun k_ hk => hk.2));clear HO_5;have HO_5 := n_;clear n_;obtain ⟨hy49_, hz49_⟩ := Kd.R_celln 0 HO_5.out (t588 : Int) (of_decide_eq_true (by first|(with_reducible assumption)|assumption)) (of_decide_eq_true (by first|(with_reducible assumption)|assumption));have HP49 := Kd.R_putg HO_5.out (t588 : Int) (wrap64 ((rd x5_3 t582) + 1)))|((with_reducible refine gate_store (t := 3) (p := 85) rfl ?_);refine store_event (t := 3) (p := 85) (v := ?vo_w50) (w1 := (w48.setCell ⟨go18, (t588 : Int).toNat, none⟩ (.int .i64 (wrap64 ((rd x5_3 t582) + 1))))) ?hg ?ho ?hn ?hr ?_;(case ho => rfl);(case hg => rfl);(case hn => rfl);(case hr => first|(go_simp;done)|(go_simp;rfl));intro w50 hw;have hg : w48.grownBy w50 (some go18) := (by rw [hw];exact HP49.2);have hp_ : Kd.R (Kd.int .i64) 3 w50 w.heap.size (fun k_ => some k_ ≠ (.slice Ao47 t585.length co47 : Value).ownBlock) (.slice (some ⟨go18, 0, none⟩) x5_5.length co18) y590 := (by rw [hw, Ny590.out];exact HP49.1);clear HP49;have n0_ := Aside0.mk (hp_);have n1_ := Aside0.mk (Kd.N_afterv (v := (.slice (some ⟨go18, 0, none⟩) x5_5.length co18)) (v1 := (.slice (some ⟨go18, 0, none⟩) x5_5.length co18)) (ok := (fun k_ => some k_ ≠ (.slice Ao47 t585.length co47 : Value).ownBlock)) (by (with_reducible repeat (first|apply Kd.N_alloc|apply Kd.N_drewN|apply Kd.N_drew));exact Kd.N_mono HO_7.out (fun _ hk => ⟨hk.2, hk.1⟩)) hg (.inl rfl));have n2_ := Aside0.mk (Kd.V_afterv (v := (.slice (some ⟨go18, 0, none⟩) x5_5.length co18)) (v1 := (.slice (some ⟨go18, 0, none⟩) x5_5.length co18)) (ok := (fun k_ => some k_ ≠ (.slice (some ad584) x7_5.length co45 : Value).ownBlock ∧ some k_ ≠ (.slice Ao47 t585.length co47 : Value).ownBlock)) (by (with_reducible repeat (first|apply Kd.V_alloc|apply Kd.V_drewN|apply Kd.V_drew));exact Kd.V_mono HL584_0.out (fun _ hk => ⟨⟨hk.1.2, hk.2⟩, hk.1.1⟩)) hg (.inl rfl));have n3_ := Aside0.mk (Kd.R_after (v := (.slice (some ⟨go18, 0, none⟩) x5_5.length co18)) (v1 := (.slice (some ⟨go18, 0, none⟩) x5_5.length co18)) (ok := (fun _ => True)) (by (with_reducible repeat (first|apply Kd.R_alloc|apply Kd.R_drewN|apply Kd.R_drew));exact HO587.out) hg (.inl rfl));have n4_ := Aside0.mk ((by rw [hw];exact below_set (HB.out) GB18.out : Below w.heap.size w w50));clear HO_5;clear HO_7;clear HL584_0;clear HO587;clear HB;have HO_5 := n0_;have HO_7 := n1_;have HL584_0 := n2_;have HO587 := n3_;have HB := n4_;clear n0_ n1_ n2_ n3_ n4_;clear hg hw hp_)|((with_reducible refine gate_builtin (b := .append) (xs := #[.tmp 86, .tmp 88]) rfl ?_);at_builtin;refine Kd.N_append (Kd.slice 3 (Kd.int .i64)) (w0 := w) w.heap.size rfl (.tmp 86) (.tmp 88) 45 22 (.slice none 0 0) 24 rfl Try.underlying45 info22 rfl (by decide) (by omega) (.slice (some ad584) x7_5.length co45) x7_5 t585 [.slice Ao47 t585.length co47] (fun k_ => some k_ ≠ (.slice (some ⟨go18, 0, none⟩) x5_5.length co18 : Value).ownBlock) (fun k_ => ((fun k_ => some k_ ≠ (.slice (some ⟨go18, 0, none⟩) x5_5.length co18 : Value).ownBlock)) k_ ∧ some k_ ≠ (.slice (some ad584) x7_5.length co45 : Value).ownBlock) rfl rfl ?aP (fun _ hk => hk) ?aF ?aO ?aB ?aS ?aL ?_;(case aP => exact (Kd.FK_slice_mk (Kd.R_reads' (Kd.R_mono (ok' := (fun k_ => ((fun k_ => some k_ ≠ (.slice (some ⟨go18, 0, none⟩) x5_5.length co18 : Value).ownBlock)) k_ ∧ some k_ ≠ (.slice (some ad584) x7_5.length co45 : Value).ownBlock)) (Kd.R_apart' (HO587.out) (Kd.N_typed HO_7.out) (by decide)) (fun k_ hk => ⟨hk.1.2, hk.2⟩))).2.1 (Kd.R_F (Kd.R_mono (ok' := (fun k_ => ((fun k_ => some k_ ≠ (.slice (some ⟨go18, 0, none⟩) x5_5.length co18 : Value).ownBlock)) k_ ∧ some k_ ≠ (.slice (some ad584) x7_5.length co45 : Value).ownBlock)) (Kd.R_apart' (HO587.out) (Kd.N_typed HO_7.out) (by decide)) (fun k_ hk => ⟨hk.1.2, hk.2⟩)))));(case aB => exact (by repeat (first|(with_reducible first|exact HB.out|apply below_alloc|apply pw_below_drewN|apply below_drew1)|exact HB.out)));(case aF => exact (fun k_ hk => Kd.fresh' (Kd.R_lt (by (with_reducible repeat (first|apply Kd.R_alloc|apply Kd.R_drewN|apply Kd.R_drew));exact HO_5.out)) k_ hk));(case aO => exact (by (with_reducible repeat (first|apply Kd.N_alloc|apply Kd.N_drewN|apply Kd.N_drew));exact Kd.N_mono HO_7.out (fun _ hk => hk.2)));(case aS => exact (below_size (by repeat (first|(with_reducible first|exact HB.out|apply below_alloc|apply pw_below_drewN|apply below_drew1)|exact HB.out))));(case aL => have := LMc44.out;omega);intro v592 w51 ho hb hg hat;rw [← Ny591.out] at ho;have n0_ := Aside0.mk (Kd.R_over' (by (with_reducible repeat (first|apply Kd.R_alloc|apply Kd.R_drewN|apply Kd.R_drew));exact HO_5.out) (Kd.N_typed (by (with_reducible repeat (first|apply Kd.N_alloc|apply Kd.N_drewN|apply Kd.N_drew));exact HO_7.out)) (by decide) hg);have n1_ := Aside0.mk (Kd.V_afterv (ok := (fun k_ => some k_ ≠ (.slice (some ⟨go18, 0, none⟩) x5_5.length co18 : Value).ownBlock ∧ some k_ ≠ (.slice Ao47 t585.length co47 : Value).ownBlock)) (by (with_reducible repeat (first|apply Kd.V_alloc|apply Kd.V_drewN|apply Kd.V_drew));exact Kd.V_mono HL584_0.out (fun _ hk => ⟨⟨hk.2, hk.1.2⟩, hk.1.1⟩)) hg hat);have n2_ := Aside0.mk (hb);have n3_ := Aside0.mk (ho);clear HO_5;clear HL584_0;clear HB;clear HO_7;clear HO587;have HO_5 := n0_;have HL584_0 := n1_;have HB := n2_;have HO593 := n3_;clear n0_ n1_ n2_ n3_;clear ho hb hg hat))
                              (try simp only [← hl5_5])
                              go_roundg k5
                              case measure => have := HK1.out; have := HK2.out; have := HK3.out; have := HK4.out; have := HK5.out; omega
                              case rel => exact ⟨(y590), (y591), (wrap64 (x11_5 + 1)), (by first|rfl|(simp;done)|(simp [*];done)), H', ⟨by have := HK1.out;have := HK2.out;have := HK3.out;have := HK4.out;have := HK5.out;omega⟩, ⟨by (try simp only [hl5_3]);(try simp only [hl5_4]);(try simp only [hl5_5]);(with_reducible repeat (first|apply Kd.R_alloc|apply Kd.R_drewN|apply Kd.R_drew));exact Kd.R_mono HO_5.out (fun _ hk => trivial)⟩, ⟨by (try simp only [hl5_3]);(try simp only [hl5_4]);(try simp only [hl5_5]);(with_reducible repeat (first|apply Kd.N_alloc|apply Kd.N_drewN|apply Kd.N_drew));exact HO593.out⟩, ⟨by repeat (first|(with_reducible first|exact HB.out|apply below_alloc|apply pw_below_drewN|apply below_drew1)|exact HB.out)⟩⟩
                             ·rw [if_neg c44] at H
                              exact absurd H (by simp)
                            ·rw [if_neg c42] at H
                             have c42b0 : decide ((rd x5_5 t588) < 0) = false := decide_eq_false c42
                             clear c42
                             have H' := Aside0.mk H
                             clear H
                             obtain ⟨Ao52, co52, eo52⟩ := Kd.N_slice HO_7.out
                             subst eo52
                             have p584 : 0 ≤ (x8_3 : Int) := of_decide_eq_true (by first | (with_reducible assumption) | assumption)
                             have q584 : x8_3 < (x7_5.length : Int) := of_decide_eq_true (by first | (with_reducible assumption) | assumption)
                             obtain ⟨ad584, A584_0, c584_0, e584, hx584_0, hl584_0, hi584_0⟩ := at_L1 (Kd.N_reads' HO_7.out).2.2 x8_3 p584 q584
                             cases e584
                             obtain ⟨ce584, hce584, hMe584, hcc584⟩ := Kd.N_get HO_7.out [] x8_3 p584 (by first | exact q584 | exact of_decide_eq_true (by first | (with_reducible assumption) | assumption) | (have e_ := (Kd.N_reads' HO_7.out).1; omega))
                             obtain ⟨ua584_0, uc584_0, rfl, ul584_0, ge584_0⟩ := Kd.FK_slice_open hMe584
                             have hv584_0 := hcc584 0 _ rfl
                             rw [Nat.add_zero, show ((Kd.slice 3 (Kd.int .i64))).sz = 1 from rfl, Nat.mul_one] at hv584_0
                             replace hv584_0 := Option.some.inj (hv584_0.symm.trans hx584_0)
                             injection hv584_0 with hva_ hvn_ hvc_
                             rw [hva_] at ge584_0
                             rw [hvc_] at ul584_0
                             have HL584_0 := Aside0.mk (show Kd.V (Kd.int .i64) 3 _ w.heap.size _ _ (rd_L1 x7_5 x8_3) from Kd.V_mk ul584_0 ge584_0)
                             clear hva_ hvn_ hvc_ ge584_0 ul584_0
                             clear hcc584 hce584
                             have HR584_0 := Aside0.mk hi584_0
                             have HC584_0 := Aside0.mk hl584_0
                             clear hi584_0 hl584_0
                             replace p584 := eq_true p584
                             replace q584 := eq_true q584
                             go_wp2_with (first|((with_reducible refine gate_callee (f := 46) rfl ?_);refine goesL_ (some 73) rfl rfl Try.func46 (by kernel_rfl) rfl #[.slice A584_0 (rd_L1 x7_5 x8_3).length c584_0, .int .i64 x10_4, .int .i64 x11_5] rfl (by (try simp only [List.map_toArray, List.map_cons, List.map_nil]);first|done|rfl|(simp only [List.length_drop, List.length_take];rfl)) ?_;(with_reducible refine (bibelotref07_Turn.calls k5 _ _ (rd_L1 x7_5 x8_3) x10_4 x11_5 t585 _ ?side1 ?side2 A38.out).mono ?_);(case side1 => repeat (first|exact (by repeat (first|(with_reducible exact HR584_0.out)|(with_reducible refine Kd.C_alloc ?_ _)|(with_reducible refine Kd.C_drewN ?_ _)|(with_reducible refine Kd.C_drew ?_)|exact HR584_0.out))|(with_reducible refine Kd.C_alloc ?_ _)|(with_reducible refine Kd.C_drewN ?_ _)|(with_reducible refine Kd.C_drew ?_)));(case side2 => exact HC584_0.out);rintro e w53 ⟨v586, rfl, ho0, hb⟩;refine ⟨_, rfl, ?_⟩;have n0_ := Aside0.mk (Kd.R_elder' (by (with_reducible repeat (first|apply Kd.R_alloc|apply Kd.R_drewN|apply Kd.R_drew));exact HO_5.out) (Kd.R_base ho0) hb);have n1_ := Aside0.mk (Kd.N_elder' (by (with_reducible repeat (first|apply Kd.N_alloc|apply Kd.N_drewN|apply Kd.N_drew));exact HO_7.out) (Kd.R_base ho0) hb);have n2_ := Aside0.mk (Kd.V_elder' (by (with_reducible repeat (first|apply Kd.V_alloc|apply Kd.V_drewN|apply Kd.V_drew));exact HL584_0.out) (Kd.R_base ho0) hb);have n3_ := Aside0.mk (Kd.R_lower (Kd.R_new' ho0 (Kd.R_lt (by (with_reducible repeat (first|apply Kd.R_alloc|apply Kd.R_drewN|apply Kd.R_drew));exact HO_5.out))) (below_size (by repeat (first|(with_reducible first|exact HB.out|apply below_alloc|apply pw_below_drewN|apply below_drew1)|exact HB.out))));have n4_ := Aside0.mk (Kd.C_below (by repeat (first|(with_reducible exact HR584_0.out)|(with_reducible refine Kd.C_alloc ?_ _)|(with_reducible refine Kd.C_drewN ?_ _)|(with_reducible refine Kd.C_drew ?_)|exact HR584_0.out)) hb);have n5_ := Aside0.mk (below_step (by repeat (first|(with_reducible first|exact HB.out|apply below_alloc|apply pw_below_drewN|apply below_drew1)|exact HB.out)) hb);clear HO_5;clear HO_7;clear HL584_0;clear HR584_0;clear HB;have HO_5 := n0_;have HO_7 := n1_;have HL584_0 := n2_;have HO587 := n3_;have HR584_0 := n4_;have HB := n5_;clear n0_ n1_ n2_ n3_ n4_ n5_;(try clear hb);(try clear hb2);(try clear hk);(try clear hi);(try clear ho0);obtain ⟨Ao54, co54, eo54⟩ := Kd.R_slice HO587.out;subst eo54)|((with_reducible refine gate_callee (f := 52) rfl ?_);refine goesL_ (some 75) rfl rfl Try.func52 (by kernel_rfl) rfl #[.slice Ao54 t585.length co54] rfl (by (try simp only [List.map_toArray, List.map_cons, List.map_nil]);first|done|rfl|(simp only [List.length_drop, List.length_take];rfl)) ?_;(with_reducible refine (bibelotref07_Code.calls k5 _ _ t585 t588 _ ?side1 ?side2 A39.out).mono ?_);(case side1 => repeat (first|exact (Kd.R_reads' HO587.out).2.2|(with_reducible refine Kd.C_alloc ?_ _)|(with_reducible refine Kd.C_drewN ?_ _)|(with_reducible refine Kd.C_drew ?_)));(case side2 => exact (Kd.R_reads' HO587.out).2.1);rintro e w55 ⟨rfl, hb⟩;refine ⟨_, rfl, ?_⟩;have n0_ := Aside0.mk (Kd.R_below (by (with_reducible repeat (first|apply Kd.R_alloc|apply Kd.R_drewN|apply Kd.R_drew));exact HO_5.out) hb);have n1_ := Aside0.mk (Kd.N_below (by (with_reducible repeat (first|apply Kd.N_alloc|apply Kd.N_drewN|apply Kd.N_drew));exact HO_7.out) hb);have n2_ := Aside0.mk (Kd.V_below (by (with_reducible repeat (first|apply Kd.V_alloc|apply Kd.V_drewN|apply Kd.V_drew));exact HL584_0.out) hb);have n3_ := Aside0.mk (Kd.R_below (by (with_reducible repeat (first|apply Kd.R_alloc|apply Kd.R_drewN|apply Kd.R_drew));exact HO587.out) hb);have n4_ := Aside0.mk (Kd.C_below (by repeat (first|(with_reducible exact HR584_0.out)|(with_reducible refine Kd.C_alloc ?_ _)|(with_reducible refine Kd.C_drewN ?_ _)|(with_reducible refine Kd.C_drew ?_)|exact HR584_0.out)) hb);have n5_ := Aside0.mk (below_step (by repeat (first|(with_reducible first|exact HB.out|apply below_alloc|apply pw_below_drewN|apply below_drew1)|exact HB.out)) hb);clear HO_5;clear HO_7;clear HL584_0;clear HO587;clear HR584_0;clear HB;have HO_5 := n0_;have HO_7 := n1_;have HL584_0 := n2_;have HO587 := n3_;have HR584_0 := n4_;have HB := n5_;clear n0_ n1_ n2_ n3_ n4_ n5_;(try clear hb);(try clear hb2);(try clear hk);(try clear hi);have p589 : 0 ≤ (t588 : Int) := of_decide_eq_true (by first|(with_reducible assumption)|assumption);have q589 : t588 < (x5_5.length : Int) := of_decide_eq_true (by first|(with_reducible assumption)|assumption);obtain ⟨ad589, e589, hx589_0⟩ := Kd.at_int (Kd.R_reads' HO_5.out).2.2 t588 p589 q589;obtain rfl : (⟨go18, 0, none⟩ : Addr) = ad589 := (by injection e589);(first|simp only [add_plain] at hx589_0|simp only [add_at] at hx589_0|simp only [Addr.add, Nat.zero_add] at hx589_0|skip);replace p589 := eq_true p589;replace q589 := eq_true q589))
                             (try simp only [← hl5_5])
                             go_roundg k5
                             case measure => have := HK1.out; have := HK2.out; have := HK3.out; have := HK4.out; have := HK5.out; omega
                             case rel => exact ⟨(x5_5), (x7_5), (wrap64 (x11_5 + 1)), (by first|rfl|(simp;done)|(simp [*];done)), H', ⟨by have := HK1.out;have := HK2.out;have := HK3.out;have := HK4.out;have := HK5.out;omega⟩, ⟨by (try simp only [hl5_3]);(try simp only [hl5_4]);(try simp only [hl5_5]);(with_reducible repeat (first|apply Kd.R_alloc|apply Kd.R_drewN|apply Kd.R_drew));exact Kd.R_mono HO_5.out (fun _ hk => trivial)⟩, ⟨by (try simp only [hl5_3]);(try simp only [hl5_4]);(try simp only [hl5_5]);(with_reducible repeat (first|apply Kd.N_alloc|apply Kd.N_drewN|apply Kd.N_drew));exact Kd.N_mono HO_7.out (fun _ hk => hk.1)⟩, ⟨by repeat (first|(with_reducible first|exact HB.out|apply below_alloc|apply pw_below_drewN|apply below_drew1)|exact HB.out)⟩⟩
                           ·rw [if_neg c41] at H
                            exact absurd H (by simp)
                          ·rw [if_neg c40] at H
                           exact absurd H (by simp)
                         ·rw [if_neg c37] at H
                          exact absurd H (by simp)
                        ·rw [if_neg c36] at H
                         exact absurd H (by simp)
                       ·rw [if_neg c35] at H
                        have c35b0 : decide (x11_5 < a0) = false := decide_eq_false c35
                        clear c35
                        have H' := Aside0.mk H
                        clear H
                        go_wp2
                        (try simp only [← hl5_4, ← hl5_5])
                        go_roundg k5
                        case measure => have := HK1.out; have := HK2.out; have := HK3.out; have := HK4.out; have := HK5.out; omega
                        case rel => exact ⟨(x5_5), (x7_5), (wrap64 (x10_4 + 1)), (by first|rfl|(simp;done)|(simp [*];done)), H', ⟨by have := HK1.out;have := HK2.out;have := HK3.out;have := HK4.out;have := HK5.out;omega⟩, ⟨by (try simp only [hl5_3]);(try simp only [hl5_4]);(try simp only [hl5_5]);(with_reducible repeat (first|apply Kd.R_alloc|apply Kd.R_drewN|apply Kd.R_drew));exact HO_5.out⟩, ⟨by (try simp only [hl5_3]);(try simp only [hl5_4]);(try simp only [hl5_5]);(with_reducible repeat (first|apply Kd.N_alloc|apply Kd.N_drewN|apply Kd.N_drew));exact HO_7.out⟩, ⟨by repeat (first|(with_reducible first|exact HB.out|apply below_alloc|apply pw_below_drewN|apply below_drew1)|exact HB.out)⟩⟩
                    ·rw [if_neg c34] at H
                     have c34b0 : decide (x10_4 < a0) = false := decide_eq_false c34
                     clear c34
                     have H' := Aside0.mk H
                     clear H
                     go_wp2
                     (try simp only [← hl5_3, ← hl5_4])
                     go_roundg k4
                     case measure => have := HK1.out; have := HK2.out; have := HK3.out; have := HK4.out; omega
                     case rel => exact ⟨(x5_4), (x7_4), (wrap64 (x8_3 + 1)), (by first|rfl|(simp;done)|(simp [*];done)), H', ⟨by have := HK1.out;have := HK2.out;have := HK3.out;have := HK4.out;omega⟩, ⟨by (try simp only [hl5_3]);(try simp only [hl5_4]);(with_reducible repeat (first|apply Kd.R_alloc|apply Kd.R_drewN|apply Kd.R_drew));exact HO_5.out⟩, ⟨by (try simp only [hl5_3]);(try simp only [hl5_4]);(with_reducible repeat (first|apply Kd.N_alloc|apply Kd.N_drewN|apply Kd.N_drew));exact HO_7.out⟩, ⟨by repeat (first|(with_reducible first|exact HB.out|apply below_alloc|apply pw_below_drewN|apply below_drew1)|exact HB.out)⟩⟩
                 ·rw [if_neg c31] at H
                  exact absurd H (by simp)
                ·rw [if_neg c30] at H
                 exact absurd H (by simp)
               ·rw [if_neg c28] at H
                exact absurd H (by simp)
              ·rw [if_neg c27] at H
               have c27b0 : decide (x8_3 < (x7_3.length : Int)) = false := decide_eq_false c27
               clear c27
               obtain rfl := Option.some.inj H
               obtain ⟨Ao56, co56, eo56⟩ := Kd.N_slice HO_7.out
               subst eo56
               go_wp2
               go_ret
               exact ⟨_, by first | rfl | (simp [errW_none, errW_some] <;> rfl) | (simp [*, errW_none, errW_some] <;> rfl), by (with_reducible repeat (first | apply Kd.R_alloc | apply Kd.R_drewN | apply Kd.R_drew)); exact HO_5.out, by repeat (first | (with_reducible first | exact HB.out | apply below_alloc | apply pw_below_drewN | apply below_drew1) | exact HB.out)⟩
           ·rw [if_neg c17] at H
            exact absurd H (by simp)
          ·rw [if_neg c16] at H
           exact absurd H (by simp)
         ·rw [if_neg c14] at H
          exact absurd H (by simp)
     ·rw [if_neg c4] at H
      exact absurd H (by simp)
    ·rw [if_neg c3] at H
     exact absurd H (by simp)

end Go.Proofs.Ytepjhdblmghckaa.Q
/-
 DERIVED: THE SHELF's CONTRACTS AT THIS DUMP, IN PLAIN WORDS (tools/lay-plain.mjs out of 'TryShelf.lean', which tools/lay-shelf.mjs wrote): THE SAME DECLARATIONS UNDER THE SAME NAMES: 'import', 'namespace', 'open', 'def', 'theorem' AND NOTHING ELSE: no command of the shelf's: FOR A HAND-IN. Each laying: the table of numbers ('.._ren') and one theorem, a field a fact of the dump's own or the kernel's comparison; each contract: ONE APPLICATION.
-/
namespace Go.Proofs
set_option linter.unusedVariables false
set_option linter.unusedSimpArgs false
set_option linter.unusedSectionVars false
open Go.Shelf
def Try.lays128_ren : Go.Shelf.Ren := ⟨fun | 128 => 111 | n => n, fun | 51 => 150 | 3 => 3 | 4 => 4 | 46 => 60 | 5 => 5 | 9 => 9 | n => n, fun | n => n⟩
theorem Try.lays128 : Go.Proofs.Lays.n128 Try.prog Try.lays128_ren := {
 mixed := by kernel_rfl
 f128 := Try.func111.trans (congrArg some (by kernel_rfl))
 t3 := Try.underlying3
 a3 := Try.isAgg3
 z3 := Try.sizeOf3
 v3 := Try.zeroValue3
 t4 := Try.underlying4
 a4 := Try.isAgg4
 z4 := Try.sizeOf4
 v4 := Try.zeroValue4
 t5 := Try.underlying5
 a5 := Try.isAgg5
 z5 := Try.sizeOf5
 v5 := Try.zeroValue5
 t9 := Try.underlying9
 a9 := Try.isAgg9
 z9 := Try.sizeOf9
 v9 := Try.zeroValue9
 t46 := Try.underlying60
 a46 := Try.isAgg60
 z46 := Try.sizeOf60
 v46 := Try.zeroValue60
 t51 := Try.underlying150
 a51 := Try.isAgg150
 z51 := Try.sizeOf150
 v51 := Try.zeroValue150 }
/-- bits.Len32: "Len32 returns the minimum number of bits required to represent x; the result is 0 for x == 0.": IT RETURNS 'Lib.bitLen x'; the world is as it was. ('h0', 'h1': x is a uint32.) (LAID: no walk: one application.) -/
theorem Try.bits_Len32 (x : Int) (w : World) (h0 : 0 ≤ x) (h1 : x ≤ 4294967295) :
  Calls Try.prog 111 #[.int .u32 x] w fun e w' => e = .returned (.int .i64 (Lib.bitLen x.toNat)) ∧ w' = w := Any.bits_Len32 Try.lays128 x w h0 h1
def Try.lays125_ren : Go.Shelf.Ren := ⟨fun | 125 => 98 | 128 => 111 | 129 => 112 | n => n, fun | 46 => 60 | 3 => 3 | 51 => 150 | 53 => 152 | 4 => 4 | 5 => 5 | 9 => 9 | n => n, fun | n => n⟩
theorem Try.lays125 : Go.Proofs.Lays.n125 Try.prog Try.lays125_ren := {
 mixed := by kernel_rfl
 f125 := Try.func98.trans (congrArg some (by kernel_rfl))
 f128 := Try.func111.trans (congrArg some (by kernel_rfl))
 f129 := Try.func112.trans (congrArg some (by kernel_rfl))
 t3 := Try.underlying3
 a3 := Try.isAgg3
 z3 := Try.sizeOf3
 v3 := Try.zeroValue3
 t4 := Try.underlying4
 a4 := Try.isAgg4
 z4 := Try.sizeOf4
 v4 := Try.zeroValue4
 t5 := Try.underlying5
 a5 := Try.isAgg5
 z5 := Try.sizeOf5
 v5 := Try.zeroValue5
 t9 := Try.underlying9
 a9 := Try.isAgg9
 z9 := Try.sizeOf9
 v9 := Try.zeroValue9
 t46 := Try.underlying60
 a46 := Try.isAgg60
 z46 := Try.sizeOf60
 v46 := Try.zeroValue60
 t51 := Try.underlying150
 a51 := Try.isAgg150
 z51 := Try.sizeOf150
 v51 := Try.zeroValue150
 t53 := Try.underlying152
 a53 := Try.isAgg152
 z53 := Try.sizeOf152
 v53 := Try.zeroValue152 }
/-- bits.Len: "Len returns the minimum number of bits required to represent x; the result is 0 for x == 0.": IT RETURNS 'Lib.bitLen x'; the world is as it was. (A uint has 64 bits in the model.) ITS CALLEE bits.Len64 IS MET BY ITS OWN CONTRACT OFF THE SHELF (lay that first). (LAID: no walk: one application.) -/
theorem Try.bits_Len (x : Int) (w : World) (h0 : 0 ≤ x) (h1 : x ≤ 18446744073709551615) :
  Calls Try.prog 98 #[.int .u64 x] w fun e w' => e = .returned (.int .i64 (Lib.bitLen x.toNat)) ∧ w' = w := Any.bits_Len Try.lays125 x w h0 h1
def Try.lays215_ren : Go.Shelf.Ren := ⟨fun | 215 => 119 | n => n, fun | 3 => 3 | 4 => 4 | n => n, fun | n => n⟩
theorem Try.lays215 : Go.Proofs.Lays.n215 Try.prog Try.lays215_ren := {
 mixed := by kernel_rfl
 f215 := Try.func119.trans (congrArg some (by kernel_rfl))
 t3 := Try.underlying3
 a3 := Try.isAgg3
 z3 := Try.sizeOf3
 v3 := Try.zeroValue3
 t4 := Try.underlying4
 a4 := Try.isAgg4
 z4 := Try.sizeOf4
 v4 := Try.zeroValue4 }
open Go.RowKit in
/-- cmp.isNaN at int: 'x != x': false. (LAID: no walk: one application.) -/
theorem Try.cmp_isNaN_int (x : Int) (w : World) :
  Calls Try.prog 119 #[.int .i64 x] w fun e w' => e = .returned (.bool false) ∧ w' = w := Any.cmp_isNaN_int Try.lays215 x w
def Try.lays129_ren : Go.Shelf.Ren := ⟨fun | 129 => 112 | n => n, fun | 53 => 152 | 3 => 3 | 4 => 4 | 46 => 60 | 5 => 5 | 9 => 9 | n => n, fun | n => n⟩
theorem Try.lays129 : Go.Proofs.Lays.n129 Try.prog Try.lays129_ren := {
 mixed := by kernel_rfl
 f129 := Try.func112.trans (congrArg some (by kernel_rfl))
 t3 := Try.underlying3
 a3 := Try.isAgg3
 z3 := Try.sizeOf3
 v3 := Try.zeroValue3
 t4 := Try.underlying4
 a4 := Try.isAgg4
 z4 := Try.sizeOf4
 v4 := Try.zeroValue4
 t5 := Try.underlying5
 a5 := Try.isAgg5
 z5 := Try.sizeOf5
 v5 := Try.zeroValue5
 t9 := Try.underlying9
 a9 := Try.isAgg9
 z9 := Try.sizeOf9
 v9 := Try.zeroValue9
 t46 := Try.underlying60
 a46 := Try.isAgg60
 z46 := Try.sizeOf60
 v46 := Try.zeroValue60
 t53 := Try.underlying152
 a53 := Try.isAgg152
 z53 := Try.sizeOf152
 v53 := Try.zeroValue152 }
/-- bits.Len64: "Len64 returns the minimum number of bits required to represent x; the result is 0 for x == 0.": IT RETURNS 'Lib.bitLen x'; the world is as it was. ('h0', 'h1': x is a uint64.) (LAID: no walk: one application.) -/
theorem Try.bits_Len64 (x : Int) (w : World) (h0 : 0 ≤ x) (h1 : x ≤ 18446744073709551615) :
  Calls Try.prog 112 #[.int .u64 x] w fun e w' => e = .returned (.int .i64 (Lib.bitLen x.toNat)) ∧ w' = w := Any.bits_Len64 Try.lays129 x w h0 h1
def Try.lays189_ren : Go.Shelf.Ren := ⟨fun | 189 => 81 | 125 => 98 | 257 => 97 | 128 => 111 | 129 => 112 | 294 => 102 | 295 => 103 | 296 => 104 | 297 => 105 | 298 => 106 | 299 => 107 | 216 => 108 | 300 => 109 | 301 => 110 | 328 => 114 | 329 => 115 | 330 => 116 | 331 => 117 | 332 => 118 | 215 => 119 | 343 => 120 | n => n, fun | 28 => 22 | 3 => 3 | 46 => 60 | 0 => 0 | 51 => 150 | 53 => 152 | 4 => 4 | 183 => 143 | 182 => 142 | 131 => 130 | 5 => 5 | 9 => 9 | 218 => 154 | 222 => 158 | 228 => 160 | 229 => 161 | n => n, fun | n => n⟩
theorem Try.lays189 : Go.Proofs.Lays.n189 Try.prog Try.lays189_ren := {
 mixed := by kernel_rfl
 f125 := Try.func98.trans (congrArg some (by kernel_rfl))
 f128 := Try.func111.trans (congrArg some (by kernel_rfl))
 f129 := Try.func112.trans (congrArg some (by kernel_rfl))
 f189 := Try.func81.trans (congrArg some (by kernel_rfl))
 f215 := Try.func119.trans (congrArg some (by kernel_rfl))
 f216 := Try.func108.trans (congrArg some (by kernel_rfl))
 f257 := Try.func97.trans (congrArg some (by kernel_rfl))
 f294 := Try.func102.trans (congrArg some (by kernel_rfl))
 f295 := Try.func103.trans (congrArg some (by kernel_rfl))
 f296 := Try.func104.trans (congrArg some (by kernel_rfl))
 f297 := Try.func105.trans (congrArg some (by kernel_rfl))
 f298 := Try.func106.trans (congrArg some (by kernel_rfl))
 f299 := Try.func107.trans (congrArg some (by kernel_rfl))
 f300 := Try.func109.trans (congrArg some (by kernel_rfl))
 f301 := Try.func110.trans (congrArg some (by kernel_rfl))
 f328 := Try.func114.trans (congrArg some (by kernel_rfl))
 f329 := Try.func115.trans (congrArg some (by kernel_rfl))
 f330 := Try.func116.trans (congrArg some (by kernel_rfl))
 f331 := Try.func117.trans (congrArg some (by kernel_rfl))
 f332 := Try.func118.trans (congrArg some (by kernel_rfl))
 f343 := Try.func120.trans (congrArg some (by kernel_rfl))
 t0 := Try.underlying0
 a0 := Try.isAgg0
 z0 := Try.sizeOf0
 v0 := Try.zeroValue0
 t3 := Try.underlying3
 a3 := Try.isAgg3
 z3 := Try.sizeOf3
 v3 := Try.zeroValue3
 t4 := Try.underlying4
 a4 := Try.isAgg4
 z4 := Try.sizeOf4
 v4 := Try.zeroValue4
 t5 := Try.underlying5
 a5 := Try.isAgg5
 z5 := Try.sizeOf5
 v5 := Try.zeroValue5
 t9 := Try.underlying9
 a9 := Try.isAgg9
 z9 := Try.sizeOf9
 v9 := Try.zeroValue9
 t28 := Try.underlying22
 a28 := Try.isAgg22
 z28 := Try.sizeOf22
 v28 := Try.zeroValue22
 t46 := Try.underlying60
 a46 := Try.isAgg60
 z46 := Try.sizeOf60
 v46 := Try.zeroValue60
 t51 := Try.underlying150
 a51 := Try.isAgg150
 z51 := Try.sizeOf150
 v51 := Try.zeroValue150
 t53 := Try.underlying152
 a53 := Try.isAgg152
 z53 := Try.sizeOf152
 v53 := Try.zeroValue152
 t131 := Try.underlying130
 a131 := Try.isAgg130
 z131 := Try.sizeOf130
 v131 := Try.zeroValue130
 t182 := Try.underlying142
 a182 := Try.isAgg142
 z182 := Try.sizeOf142
 v182 := Try.zeroValue142
 t183 := Try.underlying143
 a183 := Try.isAgg143
 z183 := Try.sizeOf143
 v183 := Try.zeroValue143
 t218 := Try.underlying154
 a218 := Try.isAgg154
 z218 := Try.sizeOf154
 v218 := Try.zeroValue154
 t222 := Try.underlying158
 a222 := Try.isAgg158
 z222 := Try.sizeOf158
 v222 := Try.zeroValue158
 t228 := Try.underlying160
 a228 := Try.isAgg160
 z228 := Try.sizeOf160
 v228 := Try.zeroValue160
 t229 := Try.underlying161
 a229 := Try.isAgg161
 z229 := Try.sizeOf161
 v229 := Try.zeroValue161 }
open Go.Sort Go.RowKit in
theorem Try.slices_Sort_int (blk off cap : Nat) (zs : List Int) (w : World) (hH : Holds (Value.int .i64) w blk off zs.toArray) (hblk : blk < w.heap.size) (hsz : zs.length < 4611686018427387904) :
  Calls Try.prog 81 #[.slice (some ⟨blk, off, none⟩) zs.length cap] w fun e w' =>
   e = .returned (.tuple #[]) ∧ ∃ n os, w' = grow (putRow (Value.int .i64) (Sort.ahead w n) blk off (zs.mergeSort fun x y => decide (x ≤ y)).toArray) os := Any.slices_Sort_int Try.lays189 blk off cap zs w hH hblk hsz
def Try.lays112_ren : Go.Shelf.Ren := ⟨fun | 112 => 86 | n => n, fun | 28 => 22 | 3 => 3 | 4 => 4 | 0 => 0 | n => n, fun | n => n⟩
theorem Try.lays112 : Go.Proofs.Lays.n112 Try.prog Try.lays112_ren := {
 mixed := by kernel_rfl
 f112 := Try.func86.trans (congrArg some (by kernel_rfl))
 t0 := Try.underlying0
 a0 := Try.isAgg0
 z0 := Try.sizeOf0
 v0 := Try.zeroValue0
 t3 := Try.underlying3
 a3 := Try.isAgg3
 z3 := Try.sizeOf3
 v3 := Try.zeroValue3
 t4 := Try.underlying4
 a4 := Try.isAgg4
 z4 := Try.sizeOf4
 v4 := Try.zeroValue4
 t28 := Try.underlying22
 a28 := Try.isAgg22
 z28 := Try.sizeOf22
 v28 := Try.zeroValue22 }
open Go.RowKit Go.Lib Go.Sort in
/-- slices.Reverse at []int, over an array: Go's loop from the two ends inward is walked; it makes 'Sort.reverseLoop 0 (len - 1)', which is 'Array.reverse' (Derived/Lib/SlicesMore.lean). (LAID: no walk: one application.) -/
theorem Try.slices_Reverse_int_arr (blk off cap : Nat) (d : Array Int) (w : World) (hH : Holds encI w blk off d) (hsz : d.size ≤ 9223372036854775807) :
  Calls Try.prog 86 #[.slice (some ⟨blk, off, none⟩) d.size cap] w fun e w' => e = .returned (.tuple #[]) ∧ ∃ n, w' = putRow encI (Sort.ahead w n) blk off d.reverse := Any.slices_Reverse_int_arr Try.lays112 blk off cap d w hH hsz
open Go.RowKit Go.Lib Go.Sort in
/-- slices.Reverse at []int: "Reverse reverses the elements of the slice in place.": THE SLICE's CELLS HOLD 'zs.reverse' BEHIND THE CALL; all else is as it was, but for the count of draws (the exchange 's[i], s[j] = s[j], s[i]' draws its order, once a round). IN THE WORDS OF slices.Sort's CONTRACT: 'Holds': the cells hold zs and none is frozen; 'putRow': the world with those cells holding another array. A slice of length 0 that is not nil is among them ('zs = []'); nil: '.._nil'. (LAID: no walk: one application.) -/
theorem Try.slices_Reverse_int (blk off cap : Nat) (zs : List Int) (w : World) (hH : Holds (Value.int .i64) w blk off zs.toArray) (hsz : zs.length ≤ 9223372036854775807) :
  Calls Try.prog 86 #[.slice (some ⟨blk, off, none⟩) zs.length cap] w fun e w' => e = .returned (.tuple #[]) ∧ ∃ n, w' = putRow (Value.int .i64) (Sort.ahead w n) blk off zs.reverse.toArray := Any.slices_Reverse_int Try.lays112 blk off cap zs w hH hsz
open Go.RowKit Go.Lib Go.Sort in
/-- The same at a slice of length 0, a nil one too: nothing is read, nothing written, nothing drawn. (LAID: no walk: one application.) -/
theorem Try.slices_Reverse_int_empty (a : Option Addr) (cap : Nat) (w : World) :
  Calls Try.prog 86 #[.slice a 0 cap] w fun e w' => e = .returned (.tuple #[]) ∧ w' = w := Any.slices_Reverse_int_empty Try.lays112 a cap w
def Try.laysNm215_ren : Go.Shelf.Ren := ⟨fun | 15 => 74 | n => n, fun | 22 => 22 | 3 => 3 | 4 => 4 | n => n, fun | n => n⟩
theorem Try.laysNm215 : Go.Proofs.Lays2.n15 Try.prog Try.laysNm215_ren := {
 mixed := by kernel_rfl
 f15 := Try.func74.trans (congrArg some (by kernel_rfl))
 t3 := Try.underlying3
 a3 := Try.isAgg3
 z3 := Try.sizeOf3
 v3 := Try.zeroValue3
 t4 := Try.underlying4
 a4 := Try.isAgg4
 z4 := Try.sizeOf4
 v4 := Try.zeroValue4
 t22 := Try.underlying22
 a22 := Try.isAgg22
 z22 := Try.sizeOf22
 v22 := Try.zeroValue22
 i3 := by kernel_rfl }
open Go.RowKit Go.Lib in
/-- slices.Clone at []int: "Clone returns a copy of the slice. The elements are copied using assignment, so this is a shallow clone. The result may have additional unused capacity. The result preserves the nilness of s.": OF A SLICE THAT IS NOT nil IT RETURNS A SLICE THAT IS NOT nil, OF THE SAME ELEMENTS, IN MEMORY OF THE CALL's OWN: in the how-to's words (6f): 'w'.ownsRow B e 1 v' n cells': v' begins at the head of a row among the blocks from B on (B: the heap's size at the call), not frozen, whose first cells are the elements · 'Below B w w'': below B all is as it was. The capacity is whatever the run-time gives. 'zs': what the cells behind the slice's address hold; 'zs.take n': its elements. (LAID: no walk: one application.) -/
theorem Try.slices_Clone_int (b off n c : Nat) (zs : List Int) (w : World) (hz : n ≤ zs.length) (hbig : n * 8 ≤ 140737488355328) (hc : ∀ j, j < zs.length → w.cell? ⟨b, off + j, none⟩ = some (.int .i64 (zs.getD j 0))) :
  Calls Try.prog 74 #[.slice (some ⟨b, off, none⟩) n c] w fun e w' => ∃ v', e = .returned v' ∧ w'.ownsRow w.heap.size 3 1 v' n ((zs.take n).map (Value.int .i64)) ∧ v' ≠ .slice none 0 0 ∧ Below w.heap.size w w' := Any.slices_Clone_int Try.laysNm215 b off n c zs w hz hbig hc
open Go.RowKit Go.Lib in
/-- The same at nil: nil comes back; the world is as it was. (LAID: no walk: one application.) -/
theorem Try.slices_Clone_int_nil (n c : Nat) (w : World) :
  Calls Try.prog 74 #[.slice none n c] w fun e w' => e = .returned (.slice none 0 0) ∧ w' = w := Any.slices_Clone_int_nil Try.laysNm215 n c w
open Go.RowKit Go.Lib in
/-- The same at a slice of length 0 that is not nil, WHATEVER ITS ADDRESS (no cell is asked for): a slice that is not nil and owns nothing comes back. (LAID: no walk: one application.) -/
theorem Try.slices_Clone_int_zero (a : Addr) (c : Nat) (w : World) :
  Calls Try.prog 74 #[.slice (some a) 0 c] w fun e w' => ∃ v', e = .returned v' ∧ w'.ownsRow w.heap.size 3 1 v' 0 [] ∧ v' ≠ .slice none 0 0 ∧ Below w.heap.size w w' := Any.slices_Clone_int_zero Try.laysNm215 a c w
def Try.laysNm237_ren : Go.Shelf.Ren := ⟨fun | 37 => 119 | n => n, fun | 3 => 3 | 4 => 4 | n => n, fun | n => n⟩
theorem Try.laysNm237 : Go.Proofs.Lays2.n37 Try.prog Try.laysNm237_ren := {
 mixed := by kernel_rfl
 f37 := Try.func119.trans (congrArg some (by kernel_rfl))
 t3 := Try.underlying3
 a3 := Try.isAgg3
 z3 := Try.sizeOf3
 v3 := Try.zeroValue3
 t4 := Try.underlying4
 a4 := Try.isAgg4
 z4 := Try.sizeOf4
 v4 := Try.zeroValue4 }
open Go.RowKit Go.Lib in
/-- cmp.isNaN[int]: 'x != x': false. (LAID: no walk: one application.) -/
theorem Try.cmp_isNaN_int2 (x : Int) (w : World) :
  Calls Try.prog 119 #[.int .i64 x] w fun e w' => e = .returned (.bool false) ∧ w' = w := Any.cmp_isNaN_int2 Try.laysNm237 x w
def Try.laysNm231_ren : Go.Shelf.Ren := ⟨fun | 31 => 108 | 37 => 119 | n => n, fun | 3 => 3 | 4 => 4 | n => n, fun | n => n⟩
theorem Try.laysNm231 : Go.Proofs.Lays2.n31 Try.prog Try.laysNm231_ren := {
 mixed := by kernel_rfl
 f31 := Try.func108.trans (congrArg some (by kernel_rfl))
 f37 := Try.func119.trans (congrArg some (by kernel_rfl))
 t3 := Try.underlying3
 a3 := Try.isAgg3
 z3 := Try.sizeOf3
 v3 := Try.zeroValue3
 t4 := Try.underlying4
 a4 := Try.isAgg4
 z4 := Try.sizeOf4
 v4 := Try.zeroValue4 }
open Go.RowKit Go.Lib in
/-- cmp.Less[int]: "Less reports whether x is less than y.": 'x < y'; the world is as it was. (LAID: no walk: one application.) -/
theorem Try.cmp_Less_int2 (x y : Int) (w : World) :
  Calls Try.prog 108 #[.int .i64 x, .int .i64 y] w fun e w' => e = .returned (.bool (decide (x < y))) ∧ w' = w := Any.cmp_Less_int2 Try.laysNm231 x y w
open Go.RowKit Go.Lib Go.Sort in
/-- slices.Reverse at []int, of an argument: the n cells hold the elements in reverse. (LAID: no walk: one application.) -/
theorem Try.slices_Reverse_int_cells (b off n c : Nat) (zs : List Int) (w : World) (hz : n ≤ zs.length) (hbig : n ≤ 9223372036854775807) (hc : ∀ j, j < zs.length → w.cell? ⟨b, off + j, none⟩ = some (.int .i64 (zs.getD j 0))) (hf : ∀ j, j < n → w.frozen? ⟨b, off + j, none⟩ = false) :
  Calls Try.prog 86 #[.slice (some ⟨b, off, none⟩) n c] w fun e w' => e = .returned (.tuple #[]) ∧ ∃ q, w' = (w.drewN q).setCells b off ((zs.take n).reverse.map (Value.int .i64)) := Any.slices_Reverse_int_cells Try.lays112 b off n c zs w hz hbig hc hf
open Go.RowKit Go.Sort in
/-- .. and plain. (LAID: no walk: one application.) -/
theorem Try.slices_Sort_int_none (p : Option Addr) (cap : Nat) (w : World) :
  Calls Try.prog 81 #[.slice p 0 cap] w fun e w' => e = .returned (.tuple #[]) ∧ w' = w := Any.slices_Sort_int_none Try.lays189 p cap w
def Try.laysSlE041_f74_ren : Go.Shelf.Ren := ⟨fun | 41 => 74 | n => n, fun | 22 => 22 | 23 => 3 | 4 => 4 | n => n, fun | n => n⟩
theorem Try.laysSlE041_f74 : Go.Proofs.SlLaysE0.n41 Try.prog Try.laysSlE041_f74_ren := {
 mixed := by kernel_rfl
 f41 := ⟨Try.f74.name, by decide, Try.func74.trans (congrArg some (by kernel_rfl))⟩
 t4 := Try.underlying4
 a4 := Try.isAgg4
 z4 := Try.sizeOf4
 v4 := Try.zeroValue4
 t22 := Try.underlying22
 a22 := Try.isAgg22
 z22 := Try.sizeOf22
 v22 := Try.zeroValue22 }
open Go.RowKit Go.Lib in
/-- slices.Clone: "Clone returns a copy of the slice. The elements are copied using assignment, so this is a shallow clone. The result may have additional unused capacity. The result preserves the nilness of s.": OF A SLICE THAT IS NOT nil IT RETURNS A SLICE THAT IS NOT nil, OF THE SAME CELLS, IN MEMORY OF THE CALL's OWN ('ownsRow': the how-to's 6f); below the heap's size at the call all is as it was. (LAID AT THE INSTANCE 'slices.Clone[[]int,int]': no walk: one application.) -/
theorem Try.slices_Clone (i0 : TypeInfo) (z : Value) (size bytes : Nat) (hi : Try.prog.info? 3 = some i0) (hz0 : i0.zero = some z) (hz1 : i0.size = size) (hz2 : i0.bytes = bytes) (hzs : z.cells.size = size) (hsz : 0 < size) (z23 : ∀ w, (Go.sizeOf 3).run Try.prog w = .ok size w) (b off n c : Nat) (news : List Value) (w : World) (hl : news.length = n * size) (hn : n ≤ maxLen) (hbig : n * bytes ≤ 140737488355328) (hc : ∀ j u, news[j]? = some u → w.cell? ⟨b, off + j, none⟩ = some u) (h1 : ∀ u ∈ news, u.oneCell' = true) :
  Calls Try.prog 74 #[.slice (some ⟨b, off, none⟩) n c] w fun e w' => ∃ v', e = .returned v' ∧ w'.ownsRow w.heap.size 3 size v' n news ∧ v' ≠ .slice none 0 0 ∧ Below w.heap.size w w' := AnyE.slices_Clone Try.laysSlE041_f74 i0 z size bytes hi hz0 hz1 hz2 hzs hsz z23 b off n c news w hl hn hbig hc h1
open Go.RowKit Go.Lib in
/-- The same at nil: nil comes back; the world is as it was; nothing is asked of the element's type. (LAID AT THE INSTANCE 'slices.Clone[[]int,int]': no walk: one application.) -/
theorem Try.slices_Clone_nil (n c : Nat) (w : World) :
  Calls Try.prog 74 #[.slice none n c] w fun e w' => e = .returned (.slice none 0 0) ∧ w' = w := AnyE.slices_Clone_nil Try.laysSlE041_f74 n c w
end Go.Proofs
/- Contracts of library calls (slices.Clone), in the form that the printed texts ask. -/
namespace Go.Proofs.Ytepjhdblmghckaa.G
set_option linter.unusedVariables false
set_option linter.unusedSimpArgs false
set_option linter.unusedSectionVars false
open Go.Proofs.Ytepjhdblmghckaa.Q Go.Shelf
open Go.RowKit Go.Proofs.YtepjhdblmghckaaW.PrintWords Go.Proofs.YtepjhdblmghckaaW.PrintLast Go.Proofs.YtepjhdblmghckaaW.PrintMore

def slices_Clone_int_int.f (l : List Int) : Option (List Int) := if 0 < l.length ∧ l.length * 8 ≤ 140737488355328 then some l else none
theorem slices_Clone_int_int.calls (A0 : Option Addr) (c0 : Nat) (l0 : List Int) (r : List Int) (w : World) (hr0 : Kd.C (Kd.int .i64) w A0 l0.length l0) (hc0 : l0.length ≤ c0) (h : slices_Clone_int_int.f l0 = some r) :
  Calls Try.prog 74 #[.slice A0 l0.length c0] w fun e w' => ∃ v0_ : Value, e = .returned (v0_) ∧ Kd.R (Kd.int .i64) 3 w' w.heap.size (fun _ => True) v0_ r ∧ Below w.heap.size w w' := by
 unfold slices_Clone_int_int.f at h
 split at h
 ·rename_i hb
  injection h with h
  subst h
  have hR := Kd.reads_of_C (enc := Value.int .i64) (d := (0 : Int)) (h1 := fun _ => rfl) hr0
  obtain ⟨_, hm, hx⟩ := hR
  obtain ⟨ad, rfl, hc⟩ := hx hb.1
  obtain ⟨b, off, sub⟩ := ad
  have h0 := hc 0 hb.1
  cases sub with
  | some q => simp [World.cell?, Addr.add] at h0; split at h0 <;> cases h0
  | none =>
   refine (Try.slices_Clone_int b off l0.length c0 l0 w (Nat.le_refl _) hb.2 (fun j hj => ?_)).mono ?_
   ·have := hc j hj
    rwa [show (⟨b, off, none⟩ : Addr).add j = ⟨b, off + j, none⟩ by unfold Addr.add; split <;> simp_all] at this
   ·rintro e w' ⟨v, rfl, hown, _, hbel⟩
    refine ⟨v, rfl, Kd.R_of_own (h1 := fun _ => rfl) ?_ (fun _ _ => trivial), hbel⟩
    rw [List.take_of_length_le (Nat.le_refl _)] at hown
    exact hown
 ·cases h
end Go.Proofs.Ytepjhdblmghckaa.G
/- Small facts on blocks of cells, for walks that write into memory of their own. -/
namespace Go.Proofs.Ytepjhdblmghckaa.K
set_option linter.unusedVariables false
set_option linter.unusedSimpArgs false
set_option linter.unusedSectionVars false
open Go.RowKit Go.Proofs.YtepjhdblmghckaaW.PrintWords

/-- Block b holds these cells, none of them frozen. -/
def Blk (w : World) (b : Nat) (cs : Array Value) (t : TypeId) : Prop := w.heap[b]? = some (.cells cs t (0, 0))
theorem Blk.lt {w : World} {b : Nat} {cs : Array Value} {t : TypeId} (h : Blk w b cs t) : b < w.heap.size := (Array.getElem?_eq_some_iff.1 h).1
theorem Blk.cell {w : World} {b : Nat} {cs : Array Value} {t : TypeId} (h : Blk w b cs t) (i : Nat) {v : Value} (hv : cs[i]? = some v) : w.cell? ⟨b, i, none⟩ = some v := by
 unfold Blk at h; simp [World.cell?, h, hv]
theorem Blk.free {w : World} {b : Nat} {cs : Array Value} {t : TypeId} (h : Blk w b cs t) (i : Nat) : w.frozen? ⟨b, i, none⟩ = false := by
 unfold Blk at h; simp [World.frozen?, h]
theorem Blk.set {w : World} {b : Nat} {cs : Array Value} {t : TypeId} (h : Blk w b cs t) (i : Nat) (v : Value) : Blk (w.setCell ⟨b, i, none⟩ v) b (cs.setIfInBounds i v) t := by
 unfold Blk at *; simp [World.setCell, Array.getElem?_modify, h]
theorem Blk.setOther {w : World} {b : Nat} {cs : Array Value} {t : TypeId} (h : Blk w b cs t) {a : Addr} (hne : b ≠ a.block) (v : Value) : Blk (w.setCell a v) b cs t :=
 (Below.heap_setCell w a v b hne).trans h
theorem Blk.alloc {w : World} {b : Nat} {cs : Array Value} {t : TypeId} (h : Blk w b cs t) (o : Obj) : Blk (w.alloc o) b cs t := (Below.heap_alloc w o b h.lt).trans h
theorem Blk.new (w : World) (cs : Array Value) (t : TypeId) : Blk (w.alloc (.cells cs t)) w.heap.size cs t := heap_alloc_new w _
theorem Blk.below {w w1 : World} {B b : Nat} {cs : Array Value} {t : TypeId} (h : Blk w b cs t) (hb : Below B w w1) (hlt : b < B) : Blk w1 b cs t := (hb.block b hlt).trans h
theorem Blk.drewN {w : World} {b : Nat} {cs : Array Value} {t : TypeId} (h : Blk w b cs t) (n : Nat) : Blk (w.drewN n) b cs t := h
theorem Blk.drew {w : World} {b : Nat} {cs : Array Value} {t : TypeId} (h : Blk w b cs t) : Blk w.drew b cs t := h
theorem Blk.drawn {w w1 : World} {b : Nat} {cs : Array Value} {t : TypeId} (h : Blk w b cs t) (hd : Drawn0 w w1) : Blk w1 b cs t := by obtain ⟨n, rfl⟩ := hd; exact h
theorem Blk.grown {w w1 : World} {b : Nat} {cs : Array Value} {t : TypeId} (h : Blk w b cs t) {row : Option Nat} (hg : w.grownBy w1 row) (hne : row ≠ some b) : Blk w1 b cs t :=
 (hg.block b h.lt (fun e => hne e.symm)).trans h
theorem Blk.iterAt {w : World} {b : Nat} {cs : Array Value} {t : TypeId} (h : Blk w b cs t) {k : Nat} (hne : b ≠ k) (s : ByteArray) (pos : Nat) : Blk (w.iterAt k s pos) b cs t :=
 (Lib.iterAt_other w k b s pos hne).trans h
theorem Below.iter' {B : Nat} {a w : World} (h : Below B a w) (hB : B ≤ w.heap.size) (s : ByteArray) (pos : Nat) : Below B a (w.iter s pos) := h.alloc hB _
def nth (l : List Int) : Nat → Int := fun j => l.getD j 0
theorem rd_nth (l : List Int) (i : Nat) : rd l (i : Int) = nth l i := by simp [rd, nth]
theorem nth_end (l : List Int) (j : Nat) (h : l.length ≤ j) : nth l j = 0 := by simp [nth, h]
theorem w64 {x : Int} (h : -9223372036854775808 ≤ x) (h' : x ≤ 9223372036854775807) : wrap64 x = x := by unfold wrap64; omega
theorem iw64 {x : Int} (h : -9223372036854775808 ≤ x) (h' : x ≤ 9223372036854775807) : IntKind.i64.wrap x = x := by rw [Go.Proofs.YtepjhdblmghckaaW.PrintLast.i64_w, w64 h h']
/-- A stop of the walk at an operation that a law is to meet: what does not fit is told. -/
def Hold (p : Prop) : Prop := p
theorem stopper {p : Prop} (h : Hold p) : p := h
/-- A list that lies in blocks of ok, read at v. -/
def RdK {α : Type} (d : Kd α) (w : World) (ok : Nat → Prop) (v : Value) (l : List α) : Prop := ∃ A c, v = .slice A l.length c ∧ l.length ≤ c ∧ Kd.F d w ok A l.length l
section
variable {α : Type} {d : Kd α} {w w1 : World} {v : Value} {l : List α} {ok ok' : Nat → Prop}
theorem RdK.of {e base : Nat} (h : Kd.R d e w base ok v l) : RdK d w ok v l := by
 obtain ⟨A, c, rfl⟩ := Kd.R_slice h
 exact ⟨A, c, rfl, (Kd.R_reads' h).2.1, Kd.R_F h⟩
theorem RdK.below (h : RdK d w ok v l) (hb : Below w.heap.size w w1) : RdK d w1 ok v l := by
 obtain ⟨A, c, e, hl, hf⟩ := h
 exact ⟨A, c, e, hl, Kd.F_below hf hb⟩
theorem RdK.mono (h : RdK d w ok v l) (hk : ∀ k, ok k → ok' k) : RdK d w ok' v l := by
 obtain ⟨A, c, e, hl, hf⟩ := h
 exact ⟨A, c, e, hl, Kd.F_mono hf hk⟩
theorem RdK.step (h : RdK d w ok v l) (hm : ∀ k, ok k → k < w.heap.size → w1.heap[k]? = w.heap[k]?) : RdK d w1 ok v l := by
 obtain ⟨A, c, e, hl, hf⟩ := h
 exact ⟨A, c, e, hl, Kd.F_step hf hm⟩
theorem RdK.bound (h : RdK d w ok v l) : RdK d w (fun k => ok k ∧ k < w.heap.size) v l := by
 obtain ⟨A, c, e, hl, hf⟩ := h
 exact ⟨A, c, e, hl, Kd.F_bound hf⟩
end
theorem RdK.at {w : World} {ok : Nat → Prop} {A : Option Addr} {c : Nat} {l : List Int} (h : RdK (Kd.int .i64) w ok (.slice A l.length c) l) (i : Nat) (hi : i < l.length) : ∃ ad, A = some ad ∧ w.cell? (ad.add i) = some (.int .i64 (nth l i)) := by
 obtain ⟨A', c', e, hl, hf⟩ := h
 cases e
 obtain ⟨ad, ea, hc⟩ := Kd.at_int (Kd.F_now hf) (i : Int) (by omega) (by omega)
 rw [rd_nth] at hc
 exact ⟨ad, ea, hc⟩
/-- An array of N cells out of a function of the place. -/
def arr {α : Type} (enc : α → Value) (N : Nat) (m : Nat → α) : Array Value := Array.ofFn (n := N) fun i => enc (m i)
theorem arr_size {α : Type} (enc : α → Value) (N : Nat) (m : Nat → α) : (arr enc N m).size = N := by simp [arr]
theorem arr_get {α : Type} (enc : α → Value) (N : Nat) (m : Nat → α) (j : Nat) (h : j < N) : (arr enc N m)[j]? = some (enc (m j)) := by simp [arr, h]
def upd {α : Type} (m : Nat → α) (d : Nat) (q : α) : Nat → α := fun i => if i = d then q else m i
theorem arr_set {α : Type} (enc : α → Value) (N : Nat) (m : Nat → α) (d : Nat) (q : α) (h : d < N) : (arr enc N m).setIfInBounds d (enc q) = arr enc N (upd m d q) := by
 apply Array.ext_getElem?
 intro j
 by_cases hj : j < N
 ·rw [Array.getElem?_setIfInBounds, arr_get _ _ _ _ hj, arr_get _ _ _ _ hj]
  by_cases e : d = j
  ·subst e; simp [arr_size, h, upd]
  ·rw [if_neg e]; simp [upd, Ne.symm e]
 ·rw [Array.getElem?_eq_none (by simp [arr_size]; omega), Array.getElem?_eq_none (by rw [arr_size]; omega)]
theorem arr_congr {α : Type} (enc : α → Value) (N : Nat) {m m' : Nat → α} (h : ∀ j, j < N → m j = m' j) : arr enc N m = arr enc N m' := by
 apply Array.ext_getElem?
 intro j
 by_cases hj : j < N
 ·rw [arr_get _ _ _ _ hj, arr_get _ _ _ _ hj, h j hj]
 ·rw [Array.getElem?_eq_none (by rw [arr_size]; omega), Array.getElem?_eq_none (by rw [arr_size]; omega)]
end Go.Proofs.Ytepjhdblmghckaa.K
/- slices.Reverse, and flipped, at int8 and at int: their contracts. -/
namespace Go.Proofs
set_option linter.unusedVariables false
set_option linter.unusedSimpArgs false
set_option linter.unusedSectionVars false
open Go.Shelf Go.Lib
def Try.rev8_ren : Go.Shelf.Ren := ⟨fun | 35 => 100 | n => n, fun | 22 => 121 | 23 => 90 | n => n, fun | n => n⟩
theorem Try.laysRev8 : SlLaysE.n35 Try.prog Try.rev8_ren := {
 mixed := by kernel_rfl
 f35 := ⟨_, by kernel_rfl, Try.func100⟩
 t0 := Try.underlying0
 a0 := Try.isAgg0
 z0 := Try.sizeOf0
 v0 := Try.zeroValue0
 t3 := Try.underlying3
 a3 := Try.isAgg3
 z3 := Try.sizeOf3
 v3 := Try.zeroValue3
 t4 := Try.underlying4
 a4 := Try.isAgg4
 z4 := Try.sizeOf4
 v4 := Try.zeroValue4
 t22 := Try.underlying121
 a22 := Try.isAgg121
 z22 := Try.sizeOf121
 v22 := Try.zeroValue121
 a23 := Try.isAgg90
 z23 := Try.sizeOf90 }
def Try.rev64_ren : Go.Shelf.Ren := ⟨fun | 35 => 86 | n => n, fun | 22 => 22 | 23 => 3 | n => n, fun | n => n⟩
theorem Try.laysRev64 : SlLaysE.n35 Try.prog Try.rev64_ren := {
 mixed := by kernel_rfl
 f35 := ⟨_, by kernel_rfl, Try.func86⟩
 t0 := Try.underlying0
 a0 := Try.isAgg0
 z0 := Try.sizeOf0
 v0 := Try.zeroValue0
 t3 := Try.underlying3
 a3 := Try.isAgg3
 z3 := Try.sizeOf3
 v3 := Try.zeroValue3
 t4 := Try.underlying4
 a4 := Try.isAgg4
 z4 := Try.sizeOf4
 v4 := Try.zeroValue4
 t22 := Try.underlying22
 a22 := Try.isAgg22
 z22 := Try.sizeOf22
 v22 := Try.zeroValue22
 a23 := Try.isAgg3
 z23 := Try.sizeOf3 }
end Go.Proofs
namespace Go.Proofs.Ytepjhdblmghckaa.G
set_option linter.unusedVariables false
set_option linter.unusedSimpArgs false
set_option linter.unusedSectionVars false
open Go.Proofs.Ytepjhdblmghckaa.Q Go.Proofs.Ytepjhdblmghckaa.K
open Go.RowKit Go.Shelf Go.Sort Go.Proofs.YtepjhdblmghckaaW.PrintWords Go.Proofs.YtepjhdblmghckaaW.PrintLast Go.Proofs.YtepjhdblmghckaaW.PrintMore
/-- Block b alone is written; what was drawn is not told. -/
structure Alone (b : Nat) (W W' : World) : Prop where
 os : W'.os = W.os
 tape : W'.tape = W.tape
 output : W'.output = W.output
 size : W'.heap.size = W.heap.size
 other : ∀ k, k ≠ b → W'.heap[k]? = W.heap[k]?
theorem Alone.refl (b : Nat) (W : World) : Alone b W W := ⟨rfl, rfl, rfl, rfl, fun _ _ => rfl⟩
theorem Alone.trans {b : Nat} {W W1 W2 : World} (h : Alone b W W1) (k : Alone b W1 W2) : Alone b W W2 :=
 ⟨k.os.trans h.os, k.tape.trans h.tape, k.output.trans h.output, k.size.trans h.size, fun j hj => (k.other j hj).trans (h.other j hj)⟩
theorem Alone.set {b : Nat} {W W1 : World} (h : Alone b W W1) (i : Nat) (v : Value) : Alone b W (W1.setCell ⟨b, i, none⟩ v) :=
 h.trans ⟨rfl, rfl, rfl, by simp [World.setCell], fun k hk => Below.heap_setCell _ _ _ _ hk⟩
theorem Alone.below {b B : Nat} {w W W' : World} (h : Below B w W) (ha : Alone b W W') (hb : B ≤ b) : Below B w W' :=
 h.trans ⟨ha.os, ha.tape, ha.output, by rw [ha.size]; exact Nat.le_refl _, fun k hk => ha.other k (by omega)⟩
/-- Block b begins with the numbers m 0 .. m (n - 1). -/
structure Row (κ : IntKind) (W : World) (b t n : Nat) (cs : Array Value) (m : Nat → Int) : Prop where
 blk : Blk W b cs t
 le : n ≤ cs.size
 val : ∀ p, p < n → cs[p]? = some (.int κ (m p))
theorem Row.cell {κ : IntKind} {W : World} {b t n : Nat} {cs : Array Value} {m : Nat → Int} (h : Row κ W b t n cs m) (p : Nat) (hp : p < n) : W.cell? ⟨b, p, none⟩ = some (.int κ (m p)) := h.blk.cell p (h.val p hp)
theorem Row.set {κ : IntKind} {W : World} {b t n : Nat} {cs : Array Value} {m : Nat → Int} (h : Row κ W b t n cs m) (p : Nat) (x : Int) (hp : p < n) : Row κ (W.setCell ⟨b, p, none⟩ (.int κ x)) b t n (cs.setIfInBounds p (.int κ x)) (upd m p x) :=
 ⟨h.blk.set p _, by simpa using h.le, fun q hq => by
  have hl := h.le
  rw [Array.getElem?_setIfInBounds]
  by_cases e : p = q
  ·subst e; simp [upd]; omega
  ·rw [if_neg e, h.val q hq]; simp [upd, Ne.symm e]⟩
theorem Row.congr {κ : IntKind} {W : World} {b t n : Nat} {cs : Array Value} {m m' : Nat → Int} (h : Row κ W b t n cs m) (hm : ∀ p, p < n → m p = m' p) : Row κ W b t n cs m' := ⟨h.blk, h.le, fun p hp => by rw [h.val p hp, hm p hp]⟩
/-- The numbers from place i on, before place j, turned round. -/
def rv (m : Nat → Int) (i j : Nat) : Nat → Int := fun p => if i ≤ p ∧ p < j then m (i + j - 1 - p) else m p
/-- The same, with their signs changed if they bear signs. -/
def fl (signed : Bool) (m : Nat → Int) (i j : Nat) : Nat → Int := fun p => if signed = true ∧ i ≤ p ∧ p < j then -(rv m i j p) else rv m i j p
/-- After some signs are changed. -/
def flTo (m : Nat → Int) (i j q : Nat) : Nat → Int := fun p => if i ≤ p ∧ p < q then -(rv m i j p) else rv m i j p
theorem rev8_calls {W : World} {b t n i j c : Nat} {cs : Array Value} {m : Nat → Int} (h : Row .i8 W b t n cs m) (hij : i < j) (hj : j ≤ n) (hn : n ≤ 1000000) :
  Calls Try.prog 100 #[.slice (some ⟨b, i, none⟩) (j - i) c] W fun e w' => e = .returned (.tuple #[]) ∧ ∃ cs', Row .i8 w' b t n cs' (rv m i j) ∧ (∀ p, n ≤ p → cs'[p]? = cs[p]?) ∧ cs'.size = cs.size ∧ Alone b W w' := by
 obtain ⟨zs, hzs⟩ : ∃ zs : List Int, zs = (List.range (j - i)).map (fun p => m (i + p)) := ⟨_, rfl⟩
 have hzl : zs.length = j - i := by rw [hzs]; simp
 have hzg : ∀ p, p < j - i → zs.toArray[p]! = m (i + p) := fun p hp => by
  rw [getElem!_pos zs.toArray p (by simp; omega)]
  simp [hzs]
 have hH : Holds (Value.int .i8) W b i zs.toArray := fun p hp => by
  have hp' : p < j - i := by simpa [hzl] using hp
  rw [hzg p hp']
  exact ⟨h.cell (i + p) (by omega), h.blk.free (i + p)⟩
 have hc := AnyE.slices_Reverse Try.laysRev8 (Value.int .i8) (fun _ => rfl) b i c zs W hH (by omega)
 rw [hzl] at hc
 refine hc.mono ?_
 rintro e w' ⟨rfl, q, rfl⟩
 have hput : (putRow (Value.int .i8) (Sort.ahead W q) b i zs.reverse.toArray).heap[b]? = some (.cells (putCells (Value.int .i8) i zs.reverse.toArray cs) t (0, 0)) := by
  have hb : W.heap[b]? = some (.cells cs t (0, 0)) := h.blk
  unfold putRow mapBlock
  simp only [Array.getElem?_modify, if_true]
  rw [show (Sort.ahead W q).heap = W.heap from rfl, hb]
  rfl
 have hle := h.le
 refine ⟨rfl, putCells (Value.int .i8) i zs.reverse.toArray cs, ⟨hput, by simpa [putCells] using h.le, fun p hp => ?_⟩, fun p hp => ?_, by simp [putCells], rfl, rfl, rfl, by simp [putRow, mapBlock, Sort.ahead], fun k hk => ?_⟩
 ·unfold putCells rv
  rw [Array.getElem?_mapIdx, h.val p hp, Option.map_some]
  by_cases e : i ≤ p ∧ p < j
  ·rw [if_pos e, if_pos ⟨e.1, by simp [hzl]; omega⟩]
   have h1 : p - i < zs.reverse.length := by simp [hzl]; omega
   rw [getElem!_pos zs.reverse.toArray (p - i) (by simpa using h1)]
   simp only [List.getElem_toArray, List.getElem_reverse]
   have h2 := hzg (zs.length - 1 - (p - i)) (by omega)
   rw [getElem!_pos zs.toArray _ (by simp; omega)] at h2
   simp only [List.getElem_toArray] at h2
   rw [h2]
   congr 3
   omega
  ·rw [if_neg e, if_neg (by simp [hzl]; omega)]
 ·unfold putCells
  rw [Array.getElem?_mapIdx]
  cases hq : cs[p]? with
  | none => rfl
  | some v => rw [Option.map_some, if_neg (by simp [hzl]; omega)]
 ·unfold putRow mapBlock
  simp only [Array.getElem?_modify]
  rw [if_neg (fun e => hk e.symm)]
  rfl
theorem rev64_calls {W : World} {b t n i j c : Nat} {cs : Array Value} {m : Nat → Int} (h : Row .i64 W b t n cs m) (hij : i < j) (hj : j ≤ n) (hn : n ≤ 1000000) :
  Calls Try.prog 86 #[.slice (some ⟨b, i, none⟩) (j - i) c] W fun e w' => e = .returned (.tuple #[]) ∧ ∃ cs', Row .i64 w' b t n cs' (rv m i j) ∧ (∀ p, n ≤ p → cs'[p]? = cs[p]?) ∧ cs'.size = cs.size ∧ Alone b W w' := by
 obtain ⟨zs, hzs⟩ : ∃ zs : List Int, zs = (List.range (j - i)).map (fun p => m (i + p)) := ⟨_, rfl⟩
 have hzl : zs.length = j - i := by rw [hzs]; simp
 have hzg : ∀ p, p < j - i → zs.toArray[p]! = m (i + p) := fun p hp => by
  rw [getElem!_pos zs.toArray p (by simp; omega)]
  simp [hzs]
 have hH : Holds (Value.int .i64) W b i zs.toArray := fun p hp => by
  have hp' : p < j - i := by simpa [hzl] using hp
  rw [hzg p hp']
  exact ⟨h.cell (i + p) (by omega), h.blk.free (i + p)⟩
 have hc := AnyE.slices_Reverse Try.laysRev64 (Value.int .i64) (fun _ => rfl) b i c zs W hH (by omega)
 rw [hzl] at hc
 refine hc.mono ?_
 rintro e w' ⟨rfl, q, rfl⟩
 have hput : (putRow (Value.int .i64) (Sort.ahead W q) b i zs.reverse.toArray).heap[b]? = some (.cells (putCells (Value.int .i64) i zs.reverse.toArray cs) t (0, 0)) := by
  have hb : W.heap[b]? = some (.cells cs t (0, 0)) := h.blk
  unfold putRow mapBlock
  simp only [Array.getElem?_modify, if_true]
  rw [show (Sort.ahead W q).heap = W.heap from rfl, hb]
  rfl
 have hle := h.le
 refine ⟨rfl, putCells (Value.int .i64) i zs.reverse.toArray cs, ⟨hput, by simpa [putCells] using h.le, fun p hp => ?_⟩, fun p hp => ?_, by simp [putCells], rfl, rfl, rfl, by simp [putRow, mapBlock, Sort.ahead], fun k hk => ?_⟩
 ·unfold putCells rv
  rw [Array.getElem?_mapIdx, h.val p hp, Option.map_some]
  by_cases e : i ≤ p ∧ p < j
  ·rw [if_pos e, if_pos ⟨e.1, by simp [hzl]; omega⟩]
   have h1 : p - i < zs.reverse.length := by simp [hzl]; omega
   rw [getElem!_pos zs.reverse.toArray (p - i) (by simpa using h1)]
   simp only [List.getElem_toArray, List.getElem_reverse]
   have h2 := hzg (zs.length - 1 - (p - i)) (by omega)
   rw [getElem!_pos zs.toArray _ (by simp; omega)] at h2
   simp only [List.getElem_toArray] at h2
   rw [h2]
   congr 3
   omega
  ·rw [if_neg e, if_neg (by simp [hzl]; omega)]
 ·unfold putCells
  rw [Array.getElem?_mapIdx]
  cases hq : cs[p]? with
  | none => rfl
  | some v => rw [Option.map_some, if_neg (by simp [hzl]; omega)]
 ·unfold putRow mapBlock
  simp only [Array.getElem?_modify]
  rw [if_neg (fun e => hk e.symm)]
  rfl
set_option maxHeartbeats 8000000 in
set_option maxRecDepth 100000 in
theorem flipped8_calls {W : World} {b t n i k c : Nat} {cs : Array Value} {m : Nat → Int} (signed : Bool) (h : Row .i8 W b t n cs m) (hik : i ≤ k) (hk : k < n) (hn : n ≤ 1000) (hc : n ≤ c) (hm : ∀ p, -100 ≤ m p ∧ m p ≤ 100) :
  Calls Try.prog 87 #[.slice (some ⟨b, 0, none⟩) n c, .int .i64 (i : Int), .int .i64 (k : Int), .bool signed] W fun e w' => e = .returned (.tuple #[]) ∧ ∃ cs', Row .i8 w' b t n cs' (fl signed m i (k + 1)) ∧ (∀ p, n ≤ p → cs'[p]? = cs[p]?) ∧ cs'.size = cs.size ∧ Alone b W w' := by
 have hr := rev8_calls (c := c - i) h (show i < k + 1 by omega) (show k + 1 ≤ n by omega) (by omega)
 have HR := Aside0.mk hr
 clear hr
 have hw1 : IntKind.i64.wrap ((k : Int) + 1) = ((k + 1 : Nat) : Int) := by rw [iw64 (by omega) (by omega)]; omega
 have b0 : (0 : Int) ≤ (i : Int) := by omega
 have b1 : (i : Int) ≤ (k : Int) := by omega
 have b2 : ((k + 1 : Nat) : Int) ≤ (c : Int) := by omega
 have b3 : (i : Int) ≤ ((k + 1 : Nat) : Int) := by omega
 have b4 : (0 : Int) ≤ ((k + 1 : Nat) : Int) := by omega
 have b5 : ¬ c = i := by omega
 have b6 : ¬ i = c := by omega
 have b7 : k + 1 ≤ c := by omega
 have b8 : i ≤ k + 1 := by omega
 have HM := Aside0.mk hm
 clear hm
 go_enter Try.func87, Try.ntmps87
 go_wp2_with fail
 refine HR.out.mono ?_
 rintro e w1 ⟨rfl, cs1, hr1, ho1, hz1, ha1⟩
 have R1 := Aside0.mk hr1
 have O1 := Aside0.mk ho1
 have Z1 := Aside0.mk hz1
 have A1 := Aside0.mk ha1
 clear hr1 ho1 hz1 ha1 HR
 cases signed
 ·go_wp2
  go_end0
  exact ⟨rfl, cs1, R1.out.congr (fun p _ => by unfold fl; rw [if_neg (by simp)]), O1.out, Z1.out, A1.out⟩
 ·go_wp2
  go_loopw [8] (fun u wr => ∃ (q : Nat) (cs' : Array Value), i ≤ q ∧ q ≤ k + 1 ∧ u = .int .i64 (q : Int) ∧ Aside0 (Row .i8 wr b t n cs' (flTo m i (k + 1) q)) ∧ Aside0 (∀ p, n ≤ p → cs'[p]? = cs[p]?) ∧ Aside0 (cs'.size = cs.size) ∧ Aside0 (Alone b W wr)) (fun u _ => k + 1 - (intOf u).toNat)
  case atStart => exact ⟨i, cs1, Nat.le_refl _, by omega, rfl, ⟨R1.out.congr (fun p _ => by unfold flTo; rw [if_neg (by omega)])⟩, O1, Z1, A1⟩
  case round =>
   obtain ⟨q, cs', hq0, hq, rfl, RQ, OQ, ZQ, AQ⟩ := hrel
   by_cases hlt : q < k + 1
   ·have c0 : (q : Int) ≤ (k : Int) := by omega
    have c1 : (0 : Int) ≤ (q : Int) := by omega
    have c2 : (q : Int) < (n : Int) := by omega
    have hcell := RQ.out.cell q (by omega)
    have hfree := RQ.out.blk.free q
    obtain ⟨x, hx⟩ : ∃ x, flTo m i (k + 1) q q = x := ⟨_, rfl⟩
    have hxr : x = rv m i (k + 1) q := by rw [← hx]; unfold flTo; rw [if_neg (by omega)]
    have hxb : -100 ≤ x ∧ x ≤ 100 := by
     rw [hxr]; unfold rv; split
     ·exact HM.out _
     ·exact HM.out _
    rw [hx] at hcell
    have hwx : IntKind.i8.wrap (-x) = -x := IntWalk.i8_in _ (by omega)
    have hwt : IntKind.i64.wrap ((q : Int) + 1) = ((q + 1 : Nat) : Int) := by rw [iw64 (by omega) (by omega)]; omega
    have HX := Aside0.mk hxr
    clear hx hxr
    go_wp2
    go_roundw
    case rel => exact ⟨q + 1, _, by omega, by omega, rfl, ⟨(RQ.out.set q (-x) (by omega)).congr (fun p hp => by
      unfold upd flTo
      by_cases e : p = q
      ·subst e; rw [if_pos rfl, if_pos (by omega), HX.out]
      ·rw [if_neg e]
       by_cases e2 : i ≤ p ∧ p < q
       ·rw [if_pos e2, if_pos (by omega)]
       ·rw [if_neg e2, if_neg (by omega)])⟩, ⟨fun p hp => by rw [Array.getElem?_setIfInBounds, if_neg (by omega)]; exact OQ.out p hp⟩, ⟨by rw [Array.size_setIfInBounds]; exact ZQ.out⟩, ⟨AQ.out.set q _⟩⟩
    case measure => simp [intOf]; omega
   ·obtain rfl : q = k + 1 := by omega
    have c0 : ¬ ((k + 1 : Nat) : Int) ≤ (k : Int) := by omega
    go_wp2
    go_end0
    exact ⟨rfl, cs', RQ.out.congr (fun p _ => by unfold fl flTo; simp), OQ.out, ZQ.out, AQ.out⟩
set_option maxHeartbeats 8000000 in
set_option maxRecDepth 100000 in
theorem flipped64_calls {W : World} {b t n i k c : Nat} {cs : Array Value} {m : Nat → Int} (signed : Bool) (h : Row .i64 W b t n cs m) (hik : i ≤ k) (hk : k < n) (hn : n ≤ 1000) (hc : n ≤ c) (hm : ∀ p, -100 ≤ m p ∧ m p ≤ 100) :
  Calls Try.prog 75 #[.slice (some ⟨b, 0, none⟩) n c, .int .i64 (i : Int), .int .i64 (k : Int), .bool signed] W fun e w' => e = .returned (.tuple #[]) ∧ ∃ cs', Row .i64 w' b t n cs' (fl signed m i (k + 1)) ∧ (∀ p, n ≤ p → cs'[p]? = cs[p]?) ∧ cs'.size = cs.size ∧ Alone b W w' := by
 have hr := rev64_calls (c := c - i) h (show i < k + 1 by omega) (show k + 1 ≤ n by omega) (by omega)
 have HR := Aside0.mk hr
 clear hr
 have hw1 : IntKind.i64.wrap ((k : Int) + 1) = ((k + 1 : Nat) : Int) := by rw [iw64 (by omega) (by omega)]; omega
 have b0 : (0 : Int) ≤ (i : Int) := by omega
 have b1 : (i : Int) ≤ (k : Int) := by omega
 have b2 : ((k + 1 : Nat) : Int) ≤ (c : Int) := by omega
 have b3 : (i : Int) ≤ ((k + 1 : Nat) : Int) := by omega
 have b4 : (0 : Int) ≤ ((k + 1 : Nat) : Int) := by omega
 have b5 : ¬ c = i := by omega
 have b6 : ¬ i = c := by omega
 have b7 : k + 1 ≤ c := by omega
 have b8 : i ≤ k + 1 := by omega
 have HM := Aside0.mk hm
 clear hm
 go_enter Try.func75, Try.ntmps75
 go_wp2_with fail
 refine HR.out.mono ?_
 rintro e w1 ⟨rfl, cs1, hr1, ho1, hz1, ha1⟩
 have R1 := Aside0.mk hr1
 have O1 := Aside0.mk ho1
 have Z1 := Aside0.mk hz1
 have A1 := Aside0.mk ha1
 clear hr1 ho1 hz1 ha1 HR
 cases signed
 ·go_wp2
  go_end0
  exact ⟨rfl, cs1, R1.out.congr (fun p _ => by unfold fl; rw [if_neg (by simp)]), O1.out, Z1.out, A1.out⟩
 ·go_wp2
  go_loopw [8] (fun u wr => ∃ (q : Nat) (cs' : Array Value), i ≤ q ∧ q ≤ k + 1 ∧ u = .int .i64 (q : Int) ∧ Aside0 (Row .i64 wr b t n cs' (flTo m i (k + 1) q)) ∧ Aside0 (∀ p, n ≤ p → cs'[p]? = cs[p]?) ∧ Aside0 (cs'.size = cs.size) ∧ Aside0 (Alone b W wr)) (fun u _ => k + 1 - (intOf u).toNat)
  case atStart => exact ⟨i, cs1, Nat.le_refl _, by omega, rfl, ⟨R1.out.congr (fun p _ => by unfold flTo; rw [if_neg (by omega)])⟩, O1, Z1, A1⟩
  case round =>
   obtain ⟨q, cs', hq0, hq, rfl, RQ, OQ, ZQ, AQ⟩ := hrel
   by_cases hlt : q < k + 1
   ·have c0 : (q : Int) ≤ (k : Int) := by omega
    have c1 : (0 : Int) ≤ (q : Int) := by omega
    have c2 : (q : Int) < (n : Int) := by omega
    have hcell := RQ.out.cell q (by omega)
    have hfree := RQ.out.blk.free q
    obtain ⟨x, hx⟩ : ∃ x, flTo m i (k + 1) q q = x := ⟨_, rfl⟩
    have hxr : x = rv m i (k + 1) q := by rw [← hx]; unfold flTo; rw [if_neg (by omega)]
    have hxb : -100 ≤ x ∧ x ≤ 100 := by
     rw [hxr]; unfold rv; split
     ·exact HM.out _
     ·exact HM.out _
    rw [hx] at hcell
    have hwx : IntKind.i64.wrap (-x) = -x := IntWalk.i64_in _ (by omega)
    have hwt : IntKind.i64.wrap ((q : Int) + 1) = ((q + 1 : Nat) : Int) := by rw [iw64 (by omega) (by omega)]; omega
    have HX := Aside0.mk hxr
    clear hx hxr
    go_wp2
    go_roundw
    case rel => exact ⟨q + 1, _, by omega, by omega, rfl, ⟨(RQ.out.set q (-x) (by omega)).congr (fun p hp => by
      unfold upd flTo
      by_cases e : p = q
      ·subst e; rw [if_pos rfl, if_pos (by omega), HX.out]
      ·rw [if_neg e]
       by_cases e2 : i ≤ p ∧ p < q
       ·rw [if_pos e2, if_pos (by omega)]
       ·rw [if_neg e2, if_neg (by omega)])⟩, ⟨fun p hp => by rw [Array.getElem?_setIfInBounds, if_neg (by omega)]; exact OQ.out p hp⟩, ⟨by rw [Array.size_setIfInBounds]; exact ZQ.out⟩, ⟨AQ.out.set q _⟩⟩
    case measure => simp [intOf]; omega
   ·obtain rfl : q = k + 1 := by omega
    have c0 : ¬ ((k + 1 : Nat) : Int) ≤ (k : Int) := by omega
    go_wp2
    go_end0
    exact ⟨rfl, cs', RQ.out.congr (fun p _ => by unfold fl flTo; simp), OQ.out, ZQ.out, AQ.out⟩
end Go.Proofs.Ytepjhdblmghckaa.G
/- A range over a function whose iterator keeps cells of its own (blocks of one element type T): the contract of such an iterator, and the law of the statement, outermost and within a round. -/
namespace Go.Proofs.Ytepjhdblmghckaa.It
set_option linter.unusedVariables false
set_option linter.unusedSimpArgs false
set_option linter.unusedSectionVars false
open Go.RowKit

def book : Obj → Bool | .loop _ => true | .deferred _ => true | _ => false
def isT (T : TypeId) : Obj → Bool | .cells _ t _ => t == T | _ => false
def stays (T : TypeId) (o : Obj) : Bool := !book o && !isT T o

/-- What an iterator's own steps, and the law's, may turn: blocks from B on that are cells of type T, or book-keeping. -/
structure Step (T : TypeId) (B : Nat) (A A' : World) : Prop where
 os : A'.os = A.os
 tape : A'.tape = A.tape
 output : A'.output = A.output
 size : A.heap.size ≤ A'.heap.size
 same : ∀ (k : Nat) (o : Obj), A.heap[k]? = some o → (k < B ∨ stays T o = true) → A'.heap[k]? = some o
theorem Step.refl (T : TypeId) (B : Nat) (A : World) : Step T B A A := ⟨rfl, rfl, rfl, Nat.le_refl _, fun _ _ h _ => h⟩
theorem Step.trans {T : TypeId} {B : Nat} {A A' A'' : World} (h : Step T B A A') (k : Step T B A' A'') : Step T B A A'' :=
 ⟨k.os.trans h.os, k.tape.trans h.tape, k.output.trans h.output, Nat.le_trans h.size k.size, fun j o hj hs => k.same j o (h.same j o hj hs) hs⟩
theorem Step.mono {T : TypeId} {B B' : Nat} {A A' : World} (h : Step T B' A A') (hB : B ≤ B') : Step T B A A' :=
 ⟨h.os, h.tape, h.output, h.size, fun j o hj hs => h.same j o hj (hs.imp (fun x => by omega) id)⟩
theorem Step.alloc {T : TypeId} {B : Nat} {A A' : World} (h : Step T B A A') (o : Obj) : Step T B A (A'.alloc o) :=
 h.trans ⟨rfl, rfl, rfl, by simp, fun k q hk _ => by rw [Below.heap_alloc _ _ _ (Array.getElem?_eq_some_iff.1 hk).1]; exact hk⟩
theorem Step.drewN {T : TypeId} {B : Nat} {A A' : World} (h : Step T B A A') (n : Nat) : Step T B A (A'.drewN n) := ⟨h.os, h.tape, h.output, h.size, h.same⟩
theorem Step.drew {T : TypeId} {B : Nat} {A A' : World} (h : Step T B A A') : Step T B A A'.drew := ⟨h.os, h.tape, h.output, h.size, h.same⟩
theorem Step.setT {T : TypeId} {B : Nat} {A A' : World} (h : Step T B A A') {b i : Nat} {v : Value} {cs : Array Value} {fr : Nat × Nat} (hb : A'.heap[b]? = some (.cells cs T fr)) (hB : B ≤ b) : Step T B A (A'.setCell ⟨b, i, none⟩ v) :=
 h.trans ⟨rfl, rfl, rfl, by simp [World.setCell], fun k o hk hs => by
  by_cases e : k = b
  ·subst e
   rw [hb] at hk
   injection hk with hk
   subst hk
   exfalso
   rcases hs with x | x
   ·omega
   ·simp [stays, isT] at x
  ·rw [Below.heap_setCell _ _ _ _ e]; exact hk⟩
theorem Step.putBook {T : TypeId} {B : Nat} {A A' : World} (h : Step T B A A') {l : Nat} {o : Obj} (hl : A'.heap[l]? = some o) (hb : book o = true) (hB : B ≤ l) (o' : Obj) : Step T B A (A'.putObj l o') :=
 h.trans ⟨rfl, rfl, rfl, by simp, fun k q hk hs => by
  by_cases e : k = l
  ·subst e
   rw [hl] at hk
   injection hk with hk
   subst hk
   exfalso
   rcases hs with x | x
   ·omega
   ·simp [stays, hb] at x
  ·rw [World.putObj_heap_other e]; exact hk⟩

theorem Step.below {T : TypeId} {B B0 : Nat} {w A A' : World} (h : Below B0 w A) (hs : Step T B A A') (hB : B0 ≤ B) (hw : B0 ≤ w.heap.size) : Below B0 w A' :=
 h.trans ⟨hs.os, hs.tape, hs.output, hs.size, fun k hk => by
  have hlt : k < A.heap.size := by have := h.size; omega
  have e := Array.getElem?_eq_getElem hlt
  rw [e]
  exact hs.same k _ e (.inl (by omega))⟩

/-- What a round that goes on keeps: the blocks that the iterator reads, and its own. -/
structure KB (T : TypeId) (keep : Nat → Prop) (A A' : World) : Prop where
 size : A.heap.size ≤ A'.heap.size
 same : ∀ (k : Nat) (o : Obj), A.heap[k]? = some o → (keep k ∨ isT T o = true) → A'.heap[k]? = some o
theorem KB.refl (T : TypeId) (keep : Nat → Prop) (A : World) : KB T keep A A := ⟨Nat.le_refl _, fun _ _ h _ => h⟩
theorem KB.trans {T : TypeId} {keep : Nat → Prop} {A A' A'' : World} (h : KB T keep A A') (k : KB T keep A' A'') : KB T keep A A'' :=
 ⟨Nat.le_trans h.size k.size, fun j o hj hs => k.same j o (h.same j o hj hs) hs⟩
/-- .. and, beside that, all book-keeping. -/
structure RB (T : TypeId) (keep : Nat → Prop) (A A' : World) : Prop where
 size : A.heap.size ≤ A'.heap.size
 same : ∀ (k : Nat) (o : Obj), A.heap[k]? = some o → (keep k ∨ isT T o = true ∨ book o = true) → A'.heap[k]? = some o
theorem RB.refl (T : TypeId) (keep : Nat → Prop) (A : World) : RB T keep A A := ⟨Nat.le_refl _, fun _ _ h _ => h⟩
theorem RB.trans {T : TypeId} {keep : Nat → Prop} {A A' A'' : World} (h : RB T keep A A') (k : RB T keep A' A'') : RB T keep A A'' :=
 ⟨Nat.le_trans h.size k.size, fun j o hj hs => k.same j o (h.same j o hj hs) hs⟩
theorem RB.kb {T : TypeId} {keep : Nat → Prop} {A A' : World} (h : RB T keep A A') : KB T keep A A' := ⟨h.size, fun k o hk hs => h.same k o hk (hs.imp id .inl)⟩
theorem RB.alloc {T : TypeId} {keep : Nat → Prop} {A A' : World} (h : RB T keep A A') (o : Obj) : RB T keep A (A'.alloc o) :=
 h.trans ⟨by simp, fun k q hk _ => by rw [Below.heap_alloc _ _ _ (Array.getElem?_eq_some_iff.1 hk).1]; exact hk⟩
theorem RB.below {T : TypeId} {keep : Nat → Prop} {A A' A'' : World} (h : RB T keep A A') (k : Below A'.heap.size A' A'') : RB T keep A A'' :=
 h.trans ⟨k.size, fun j o hj _ => by rw [k.block j (Array.getElem?_eq_some_iff.1 hj).1]; exact hj⟩
theorem RB.drewN {T : TypeId} {keep : Nat → Prop} {A A' : World} (h : RB T keep A A') (n : Nat) : RB T keep A (A'.drewN n) := ⟨h.size, h.same⟩
theorem RB.drew {T : TypeId} {keep : Nat → Prop} {A A' : World} (h : RB T keep A A') : RB T keep A A'.drew := ⟨h.size, h.same⟩
theorem RB.step {T : TypeId} {B : Nat} {keep : Nat → Prop} {A A' A'' : World} (h : RB T keep A A') (hs : Step T B A' A'') (hB : A.heap.size ≤ B) : RB T keep A A'' :=
 ⟨Nat.le_trans h.size hs.size, fun k o hk hx => hs.same k o (h.same k o hk hx) (.inl (by have := (Array.getElem?_eq_some_iff.1 hk).1; omega))⟩
/-- A store into a block of cells that is neither kept nor of type T. -/
theorem RB.set {T : TypeId} {keep : Nat → Prop} {A A' : World} (h : RB T keep A A') {b i : Nat} {v : Value} (hb : ∀ o, A.heap[b]? = some o → ¬ keep b ∧ isT T o = false ∧ book o = false) : RB T keep A (A'.setCell ⟨b, i, none⟩ v) :=
 ⟨Nat.le_trans h.size (by simp [World.setCell]), fun k o hk hs => by
  by_cases e : k = b
  ·subst e
   have := hb o hk
   exfalso
   rcases hs with x | x | x
   ·exact this.1 x
   ·rw [this.2.1] at x; cases x
   ·rw [this.2.2] at x; cases x
  ·rw [Below.heap_setCell _ _ _ _ e]; exact h.same k o hk hs⟩
/-- A law that may have written one row. -/
theorem RB.grown {T : TypeId} {keep : Nat → Prop} {A A' A'' : World} (h : RB T keep A A') {row : Option Nat} (hg : A'.grownBy A'' row) (hb : ∀ k o, row = some k → A.heap[k]? = some o → ¬ keep k ∧ isT T o = false ∧ book o = false) : RB T keep A A'' :=
 ⟨Nat.le_trans h.size hg.size, fun k o hk hs => by
  by_cases e : row = some k
  ·have := hb k o e hk
   exfalso
   rcases hs with x | x | x
   ·exact this.1 x
   ·rw [this.2.1] at x; cases x
   ·rw [this.2.2] at x; cases x
  ·have h1 := h.same k o hk hs
   rw [hg.block k (Array.getElem?_eq_some_iff.1 h1).1 (fun x => e x.symm)]; exact h1⟩
/-- A round that leaves keeps the book-keeping. -/
structure RX (A A' : World) : Prop where
 size : A.heap.size ≤ A'.heap.size
 same : ∀ (k : Nat) (o : Obj), A.heap[k]? = some o → book o = true → A'.heap[k]? = some o
theorem RB.rx {T : TypeId} {keep : Nat → Prop} {A A' : World} (h : RB T keep A A') : RX A A' := ⟨h.size, fun k o hk hs => h.same k o hk (.inr (.inr hs))⟩
theorem RX.refl (A : World) : RX A A := ⟨Nat.le_refl _, fun _ _ h _ => h⟩
theorem RX.trans {A A' A'' : World} (h : RX A A') (k : RX A' A'') : RX A A'' := ⟨Nat.le_trans h.size k.size, fun j o hj hs => k.same j o (h.same j o hj hs) hs⟩
theorem RX.below {A A' A'' : World} (h : RX A A') (k : Below A'.heap.size A' A'') : RX A A'' :=
 h.trans ⟨k.size, fun j o hj _ => by rw [k.block j (Array.getElem?_eq_some_iff.1 hj).1]; exact hj⟩
theorem RX.set {A A' : World} (h : RX A A') {b i : Nat} {v : Value} (hb : ∀ o, A.heap[b]? = some o → book o = false) : RX A (A'.setCell ⟨b, i, none⟩ v) :=
 ⟨Nat.le_trans h.size (by simp [World.setCell]), fun k o hk hs => by
  by_cases e : k = b
  ·subst e; rw [hb o hk] at hs; cases hs
  ·rw [Below.heap_setCell _ _ _ _ e]; exact h.same k o hk hs⟩

/-- The contract of such an iterator, made in w: called in a later world it hands on the elements of L, in their order, as long as the rounds go on. -/
def IterC {α : Type} (F : Fence) (n : Nat) (P : Program) (g : Nat) (lb : Array Value) (encs : α → Array Value) (T : TypeId) (keep : Nat → Prop) (L : List α) (w : World) : Prop :=
 ∀ (l : Nat) (J Jx : List α → World → Prop) (W : World), Below w.heap.size w W →
  (∀ s A A', J s A → Step T W.heap.size A A' → J s A') → (∀ s A A', Jx s A → Step T W.heap.size A A' → Jx s A') →
  (∀ pre x rest W1, L = pre ++ x :: rest → J pre W1 → YieldAt F (n - 1) P l (encs x) W1 fun e W' =>
   (e = .returned (.bool true) ∧ J (pre ++ [x]) W' ∧ KB T keep W1 W') ∨ (e = .returned (.bool false) ∧ Jx (pre ++ [x]) W')) →
  J [] W →
  CallsIn F n P g (#[.func (.yield l) #[] #[]] ++ lb) W fun e W' => (∃ v, e = .returned v) ∧ (J L W' ∨ ∃ pre x rest, L = pre ++ x :: rest ∧ Jx (pre ++ [x]) W')

theorem IterC.inRound {α : Type} {F : Fence} {n : Nat} {P : Program} {g : Nat} {lb : Array Value} {encs : α → Array Value} {T : TypeId} {keep : Nat → Prop} {L : List α} {w : World} (l : Nat)
  (h : IterC F n P g lb encs T keep L w) : IterC (F.inRound l) n P g lb encs T keep L w := h

/-- All that is no book-keeping lies as it lay. -/
def Bk (A A' : World) : Prop := ∀ (k : Nat) (o : Obj), A.heap[k]? = some o → book o = false → A'.heap[k]? = some o

/-- How the body of a round may be left. -/
def rPost {α : Type} (T : TypeId) (keep : Nat → Prop) (I : List α → World → Prop) (Ix : Code → List α → World → Prop) (xs : List α) (W : World) : Exit → Act → World → Prop
 | .normal, _, W' => RB T keep W W' ∧ I xs W'
 | .ret, _, W' => RX W W' ∧ Ix .ret xs W'
 | .exit id, _, W' => RX W W' ∧ Ix (.exit id) xs W'
 | .goto t, _, W' => RX W W' ∧ Ix (.goto t) xs W'
 | .panic _, _, _ => False
 | .outgrown, _, _ => False

section
variable {F : Fence} {n : Nat} {P : Program} {w : World} {α : Type}

/-- one round of the loop whose record is l -/
theorem round_of {l : Nat} {fn : FuncId} {tmps : Array Value} {ps : Array Tmp} {assign body : Code} {D : Nat} {T : TypeId} {keep : Nat → Prop} {B : Nat}
  (rec : LoopState → Option Code → Loop) (hrec : rec = fun st pe => { state := st, pending := pe, fn, tmps, params := ps, assign, body, defers := D })
  (hfn : F.fn fn) (encs : α → Array Value) (hps : ∀ x, (encs x).size = ps.size)
  (I : List α → World → Prop) (Ix : Code → List α → World → Prop) (hI : ∀ s A A', I s A → Step T B A A' → I s A') (hIx : ∀ c s A A', Ix c s A → Step T B A A' → Ix c s A')
  (Ax : α → Act → World → Prop) (hAx : ∀ x a' A A', Ax x a' A → Bk A A' → Ax x a' A') (hBl : B ≤ l) (hkl : ¬ keep l)
  (pre : List α) (x : α) (W : World)
  (hassign : ∀ (W : World) (K : Act → World → Prop), I pre W → (∃ r, W.heap[l]? = some (.loop r)) → (∀ a' W', RB T keep W W' → I pre W' → Ax x a' W' → K a' W') →
   assign.wpIn (F.inRound l) n P (Exit.then K (fun _ _ _ => False)) { tmps := (ps.zip (encs x)).foldl (fun t (p, v) => t.setIfInBounds p v) tmps, defers := [] } W)
  (hbody : ∀ (a' : Act) (W : World), I pre W → (∃ r, W.heap[l]? = some (.loop r)) → Ax x a' W → body.wpIn (F.inRound l) n P (rPost T keep I Ix (pre ++ [x]) W) a' W)
  (hi : I pre W) (hl : W.heap[l]? = some (.loop (rec .ready none))) (E : World → Prop) (hE : ∀ A A', E A → RX A A' → E A') (hEb : ∀ A o, E A → E (A.putObj l o)) (he : E W) :
  YieldAt F n P l (encs x) W fun e W' =>
   (e = .returned (.bool true) ∧ (I (pre ++ [x]) W' ∧ W'.heap[l]? = some (.loop (rec .ready none)) ∧ E W') ∧ KB T keep W W') ∨
   (e = .returned (.bool false) ∧ ∃ c, Ix c (pre ++ [x]) W' ∧ W'.heap[l]? = some (.loop (rec .done (some c))) ∧ E W') := by
 have hlt : l < W.heap.size := (Array.getElem?_eq_some_iff.1 hl).1
 have hy := run_yield (P := P) (args := encs x) hl (by rw [hrec]; exact hps x)
 rw [hrec] at hy
 refine ⟨fn, _, assign, body, hy, roundIn_of_wpIn hfn (hassign W _ hi ⟨_, hl⟩ ?_)⟩
 clear hy
 intro a' Wa hrb hia hax
 have hla : Wa.heap[l]? = some (.loop (rec .ready none)) := hrb.same l _ hl (.inr (.inr rfl))
 have hlta : l < Wa.heap.size := (Array.getElem?_eq_some_iff.1 hla).1
 refine ⟨_, run_beginRound hla (by rw [hrec]), ?_⟩
 have hl2 : (Wa.putObj l (.loop { rec .ready none with state := .busy })).heap[l]? = some (.loop { rec .ready none with state := .busy }) := World.putObj_heap_same hlta
 have hst : Step T B Wa (Wa.putObj l (.loop { rec .ready none with state := .busy })) := (Step.refl T B Wa).putBook hla rfl hBl _
 have hbk : Bk Wa (Wa.putObj l (.loop { rec .ready none with state := .busy })) := fun k o hk hb => by
  by_cases e : k = l
  ·subst e
   rw [hla] at hk
   injection hk with hk
   subst hk
   cases hb
  ·rw [World.putObj_heap_other e]; exact hk
 have hE2 : E (Wa.putObj l (.loop { rec .ready none with state := .busy })) := hEb _ _ (hE _ _ he hrb.rx)
 have hkb1 : KB T keep W (Wa.putObj l (.loop { rec .ready none with state := .busy })) := hrb.kb.trans ⟨by simp, fun k o hk hs => by
  by_cases e : k = l
  ·subst e
   rw [hla] at hk
   injection hk with hk
   subst hk
   rcases hs with x | x
   ·exact absurd x hkl
   ·cases x
  ·rw [World.putObj_heap_other e]; exact hk⟩
 refine wpIn_mono (hbody a' _ (hI _ _ _ hia hst) ⟨_, hl2⟩ (hAx _ _ _ _ hax hbk)) ?_
 have fin : ∀ (jump : Option Code) (W3 : World), RX (Wa.putObj l (.loop { rec .ready none with state := .busy })) W3 →
   (Instr.endRound l jump).run P W3 = .ok (.bool jump.isNone) (W3.putObj l (.loop (rec (if jump.isNone then .ready else .done) jump))) ∧
   Step T B W3 (W3.putObj l (.loop (rec (if jump.isNone then .ready else .done) jump))) ∧
   (W3.putObj l (.loop (rec (if jump.isNone then .ready else .done) jump))).heap[l]? = some (.loop (rec (if jump.isNone then .ready else .done) jump)) ∧
   E (W3.putObj l (.loop (rec (if jump.isNone then .ready else .done) jump))) ∧ W3.heap[l]? = some (.loop { rec .ready none with state := .busy }) := fun jump W3 hk3 => by
  have hl3 := hk3.same _ _ hl2 rfl
  have := run_endRound (P := P) jump hl3
  rw [hrec] at this ⊢
  exact ⟨this, (Step.refl T B W3).putBook hl3 rfl hBl _, World.putObj_heap_same (Array.getElem?_eq_some_iff.1 hl3).1, hEb _ _ (hE _ _ hE2 hk3), by rw [hrec] at hl3; exact hl3⟩
 rintro e a3 W3 hp
 cases e with
 | normal =>
  obtain ⟨hk3, hi3⟩ := hp
  obtain ⟨hr, hs, hl4, hE4, hl3⟩ := fin none W3 hk3.rx
  refine ⟨_, _, hr, .inl ⟨rfl, ⟨hI _ _ _ hi3 hs, hl4, hE4⟩, hkb1.trans (hk3.kb.trans ⟨by simp, fun k o hk hs => ?_⟩)⟩⟩
  by_cases e : k = l
  ·subst e
   rw [hl3] at hk
   injection hk with hk
   subst hk
   rcases hs with x | x
   ·exact absurd x hkl
   ·cases x
  ·rw [World.putObj_heap_other e]; exact hk
 | ret =>
  obtain ⟨hk3, hi3⟩ := hp
  obtain ⟨hr, hs, hl4, hE4, _⟩ := fin (some .ret) W3 hk3
  exact ⟨_, _, hr, .inr ⟨rfl, .ret, hIx _ _ _ _ hi3 hs, hl4, hE4⟩⟩
 | exit id =>
  obtain ⟨hk3, hi3⟩ := hp
  obtain ⟨hr, hs, hl4, hE4, _⟩ := fin (some (.exit id)) W3 hk3
  exact ⟨_, _, hr, .inr ⟨rfl, .exit id, hIx _ _ _ _ hi3 hs, hl4, hE4⟩⟩
 | goto t =>
  obtain ⟨hk3, hi3⟩ := hp
  obtain ⟨hr, hs, hl4, hE4, _⟩ := fin (some (.goto t)) W3 hk3
  exact ⟨_, _, hr, .inr ⟨rfl, .goto t, hIx _ _ _ _ hi3 hs, hl4, hE4⟩⟩
 | panic ch => exact hp.elim
 | outgrown => exact hp.elim

/-- The statement, outermost. -/
theorem range_outer {g : Operand} {ps : Array Tmp} {assign body : Code} {Q : Exit → Act → World → Prop} {a : Act} {T : TypeId} {keep : Nat → Prop} {L : List α}
  (hro : F.round = none) (h1 : 1 ≤ n) {gf : Nat} {lb : Array Value} (hg : a.eval g = .func (.func gf) #[] lb) (hFg : F.fn gf) (eg : ∀ args w, (callFunc gf args).run P w = .ok (.enter gf args) w)
  {encs : α → Array Value} {w0 : World} (hseq : IterC F (n - 1) P gf lb encs T keep L w0) (hb0 : Below w0.heap.size w0 w) (hkeep : ∀ k, keep k → k < w.heap.size) (hps : ∀ x, (encs x).size = ps.size)
  (I : List α → World → Prop) (Ix : Code → List α → World → Prop) (hI : ∀ s A A', I s A → Step T w.heap.size A A' → I s A') (hIx : ∀ c s A A', Ix c s A → Step T w.heap.size A A' → Ix c s A') (h0 : I [] w)
  (Ax : α → Act → World → Prop) (hAx : ∀ x a' A A', Ax x a' A → Bk A A' → Ax x a' A')
  (hassign : ∀ (l : Nat) (pre : List α) (x : α) (rest : List α) (W : World) (K : Act → World → Prop), L = pre ++ x :: rest → I pre W → (∃ r, W.heap[l]? = some (.loop r)) → (∀ a' W', RB T keep W W' → I pre W' → Ax x a' W' → K a' W') →
   assign.wpIn (F.inRound l) (n - 1 - 1) P (Exit.then K (fun _ _ _ => False)) { tmps := (ps.zip (encs x)).foldl (fun t (p, v) => t.setIfInBounds p v) a.tmps, defers := [] } W)
  (hbody : ∀ (l : Nat) (pre : List α) (x : α) (rest : List α) (a' : Act) (W : World), L = pre ++ x :: rest → w.heap.size ≤ l → (∃ r, W.heap[l]? = some (.loop r)) → I pre W → Ax x a' W →
   body.wpIn (F.inRound l) (n - 1 - 1) P (rPost T keep I Ix (pre ++ [x]) W) a' W)
  (hdone : ∀ (D : Nat) (W : World), w.heap.size ≤ D → I L W → W.heap[D]? = some (.deferred (some [])) → Q .normal { a with defers := { target := .collected D, args := #[] } :: a.defers } W)
  (hstop : ∀ (D : Nat) (c : Code) (pre : List α) (x : α) (rest : List α) (W : World), L = pre ++ x :: rest → w.heap.size ≤ D → Ix c (pre ++ [x]) W → W.heap[D]? = some (.deferred (some [])) → c.wpIn F n P Q { a with defers := { target := .collected D, args := #[] } :: a.defers } W) :
  (Code.rangeFunc g ps assign body).wpIn F n P Q a w := by
 refine wpIn_rangeFunc ?_
 intro fn hfn
 rw [hro]
 obtain ⟨rec, hrec⟩ : ∃ rec : LoopState → Option Code → Loop, rec = fun st pe => { state := st, pending := pe, fn, tmps := a.tmps, params := ps, assign, body, defers := w.heap.size } := ⟨_, rfl⟩
 obtain ⟨W1, hW1⟩ : ∃ W1, (w.alloc (.deferred (some []))).alloc (.loop (rec .ready none)) = W1 := ⟨_, rfl⟩
 have hsz1 : W1.heap.size = w.heap.size + 2 := by rw [← hW1]; simp
 have hL1 : W1.heap[w.heap.size + 1]? = some (.loop (rec .ready none)) := by
  rw [← hW1]; have := World.alloc_heap_new (w.alloc (.deferred (some []))) (.loop (rec .ready none)); rwa [World.size_alloc] at this
 have hK1 : W1.heap[w.heap.size]? = some (.deferred (some [])) := by
  rw [← hW1]; exact (Below.heap_alloc _ _ _ (by simp)).trans (World.alloc_heap_new w _)
 have hI1 : I [] W1 := by rw [← hW1]; exact hI _ _ _ h0 (((Step.refl T _ w).alloc _).alloc _)
 have hb1 : Below w0.heap.size w0 W1 := by
  rw [← hW1]; exact hb0.trans ((((Below.refl _ w).alloc (Nat.le_refl _) _).alloc (by simp) _).mono hb0.size)
 refine ⟨w.heap.size + 1, [{ target := .collected w.heap.size, args := #[] }], W1, { target := .fn (.func gf) lb, args := #[.func (.yield (w.heap.size + 1)) #[] #[]] }, W1, gf,
  #[.func (.yield (w.heap.size + 1)) #[] #[]] ++ lb, W1, ?_, ?_, ?_, ?_, fun _ => h1, ?_⟩
 ·rw [← hW1, hrec]; exact run_enterLoop_outer _ _ _ _ _
 ·simp only [resolve, hg]
  simp [go_sem]
 ·intro f' hf'; simp [Target.leads] at hf'; subst hf'; exact hFg
 ·simp [invoke, go_sem, eg]
 ·refine (hseq (w.heap.size + 1)
   (fun pre W => I pre W ∧ W.heap[w.heap.size + 1]? = some (.loop (rec .ready none)) ∧ W.heap[w.heap.size]? = some (.deferred (some [])))
   (fun pre W => ∃ c, Ix c pre W ∧ W.heap[w.heap.size + 1]? = some (.loop (rec .done (some c))) ∧ W.heap[w.heap.size]? = some (.deferred (some [])))
   W1 hb1
   (fun s A B hs hst => ⟨hI _ _ _ hs.1 (hst.mono (by omega)), hst.same _ _ hs.2.1 (.inl (by omega)), hst.same _ _ hs.2.2 (.inl (by omega))⟩)
   (fun s A B hs hst => by
    obtain ⟨c, hc, hl, hk⟩ := hs
    exact ⟨c, hIx _ _ _ _ hc (hst.mono (by omega)), hst.same _ _ hl (.inl (by omega)), hst.same _ _ hk (.inl (by omega))⟩)
   ?_ ⟨hI1, hL1, hK1⟩).mono ?_
  ·rintro pre x rest W hL ⟨hi, hl, hk⟩
   have := round_of (F := F) (n := n - 1 - 1) (P := P) rec hrec hfn encs hps I Ix hI hIx Ax hAx (show w.heap.size ≤ w.heap.size + 1 by omega) (fun hk => by have := hkeep _ hk; omega) pre x W
    (fun W K hi hr hK => hassign _ pre x rest W K hL hi hr hK) (fun a' W hi hr hax => hbody _ pre x rest a' W hL (by omega) hr hi hax) hi hl
    (fun A => A.heap[w.heap.size]? = some (.deferred (some []))) (fun A A' h hx => hx.same _ _ h rfl) (fun A o h => by rw [World.putObj_heap_other (by omega)]; exact h) hk
   exact this
  ·rintro e W2 ⟨⟨v, rfl⟩, (⟨hi, hl, hk⟩ | ⟨pre, x, rest, hL, c, hi, hl, hk⟩)⟩
   ·refine ⟨none, _, by have := run_endLoop (P := P) hl (by rw [hrec]; simp); rw [hrec] at this; exact this, hdone _ _ (Nat.le_refl _) (hI _ _ _ hi ((Step.refl T _ W2).putBook hl rfl (by omega) _)) ((World.putObj_heap_other (by omega)).trans hk)⟩
   ·exact ⟨some c, _, by have := run_endLoop (P := P) hl (by rw [hrec]; simp); rw [hrec] at this; exact this, hstop _ c pre x rest _ hL (Nat.le_refl _) (hIx _ _ _ _ hi ((Step.refl T _ W2).putBook hl rfl (by omega) _)) ((World.putObj_heap_other (by omega)).trans hk)⟩

/-- The statement within a round of loop l₀. -/
theorem range_inner {g : Operand} {ps : Array Tmp} {assign body : Code} {Q : Exit → Act → World → Prop} {a : Act} {T : TypeId} {keep : Nat → Prop} {L : List α} {l₀ : Nat} {r₀ : Loop}
  (hro : F.round = some l₀) (hl₀ : w.heap[l₀]? = some (.loop r₀)) (h1 : 1 ≤ n) {gf : Nat} {lb : Array Value} (hg : a.eval g = .func (.func gf) #[] lb) (hFg : F.fn gf) (eg : ∀ args w, (callFunc gf args).run P w = .ok (.enter gf args) w)
  {encs : α → Array Value} {w0 : World} (hseq : IterC F (n - 1) P gf lb encs T keep L w0) (hb0 : Below w0.heap.size w0 w) (hkeep : ∀ k, keep k → k < w.heap.size) (hps : ∀ x, (encs x).size = ps.size)
  (I : List α → World → Prop) (Ix : Code → List α → World → Prop) (hI : ∀ s A A', I s A → Step T w.heap.size A A' → I s A') (hIx : ∀ c s A A', Ix c s A → Step T w.heap.size A A' → Ix c s A') (h0 : I [] w)
  (Ax : α → Act → World → Prop) (hAx : ∀ x a' A A', Ax x a' A → Bk A A' → Ax x a' A')
  (hassign : ∀ (l : Nat) (pre : List α) (x : α) (rest : List α) (W : World) (K : Act → World → Prop), L = pre ++ x :: rest → I pre W → (∃ r, W.heap[l]? = some (.loop r)) → (∀ a' W', RB T keep W W' → I pre W' → Ax x a' W' → K a' W') →
   assign.wpIn (F.inRound l) (n - 1 - 1) P (Exit.then K (fun _ _ _ => False)) { tmps := (ps.zip (encs x)).foldl (fun t (p, v) => t.setIfInBounds p v) a.tmps, defers := [] } W)
  (hbody : ∀ (l : Nat) (pre : List α) (x : α) (rest : List α) (a' : Act) (W : World), L = pre ++ x :: rest → w.heap.size ≤ l → (∃ r, W.heap[l]? = some (.loop r)) → I pre W → Ax x a' W →
   body.wpIn (F.inRound l) (n - 1 - 1) P (rPost T keep I Ix (pre ++ [x]) W) a' W)
  (hdone : ∀ (W : World), I L W → Q .normal a W)
  (hstop : ∀ (c : Code) (pre : List α) (x : α) (rest : List α) (W : World), L = pre ++ x :: rest → Ix c (pre ++ [x]) W → c.wpIn F n P Q a W) :
  (Code.rangeFunc g ps assign body).wpIn F n P Q a w := by
 refine wpIn_rangeFunc ?_
 intro fn hfn
 rw [hro]
 obtain ⟨rec, hrec⟩ : ∃ rec : LoopState → Option Code → Loop, rec = fun st pe => { state := st, pending := pe, fn, tmps := a.tmps, params := ps, assign, body, defers := r₀.defers } := ⟨_, rfl⟩
 obtain ⟨W1, hW1⟩ : ∃ W1, w.alloc (.loop (rec .ready none)) = W1 := ⟨_, rfl⟩
 have hsz1 : W1.heap.size = w.heap.size + 1 := by rw [← hW1]; simp
 have hL1 : W1.heap[w.heap.size]? = some (.loop (rec .ready none)) := by rw [← hW1]; exact World.alloc_heap_new w _
 have hI1 : I [] W1 := by rw [← hW1]; exact hI _ _ _ h0 ((Step.refl T _ w).alloc _)
 have hb1 : Below w0.heap.size w0 W1 := by
  rw [← hW1]; exact hb0.trans (((Below.refl _ w).alloc (Nat.le_refl _) _).mono hb0.size)
 refine ⟨w.heap.size, [], W1, { target := .fn (.func gf) lb, args := #[.func (.yield w.heap.size) #[] #[]] }, W1, gf,
  #[.func (.yield w.heap.size) #[] #[]] ++ lb, W1, ?_, ?_, ?_, ?_, fun _ => h1, ?_⟩
 ·rw [← hW1, hrec]; exact run_enterLoop_inner hl₀ _ _ _ _ _
 ·simp only [resolve, hg]
  simp [go_sem]
 ·intro f' hf'; simp [Target.leads] at hf'; subst hf'; exact hFg
 ·simp [invoke, go_sem, eg]
 ·refine (hseq w.heap.size
   (fun pre W => I pre W ∧ W.heap[w.heap.size]? = some (.loop (rec .ready none)) ∧ True)
   (fun pre W => ∃ c, Ix c pre W ∧ W.heap[w.heap.size]? = some (.loop (rec .done (some c))) ∧ True)
   W1 hb1
   (fun s A B hs hst => ⟨hI _ _ _ hs.1 (hst.mono (by omega)), hst.same _ _ hs.2.1 (.inl (by omega)), trivial⟩)
   (fun s A B hs hst => by
    obtain ⟨c, hc, hl, hk⟩ := hs
    exact ⟨c, hIx _ _ _ _ hc (hst.mono (by omega)), hst.same _ _ hl (.inl (by omega)), trivial⟩)
   ?_ ⟨hI1, hL1, trivial⟩).mono ?_
  ·rintro pre x rest W hL ⟨hi, hl, hk⟩
   have := round_of (F := F) (n := n - 1 - 1) (P := P) rec hrec hfn encs hps I Ix hI hIx Ax hAx (Nat.le_refl w.heap.size) (fun hk => by have := hkeep _ hk; omega) pre x W
    (fun W K hi hr hK => hassign _ pre x rest W K hL hi hr hK) (fun a' W hi hr hax => hbody _ pre x rest a' W hL (by omega) hr hi hax) hi hl
    (fun A => True) (fun A A' h hx => trivial) (fun A o h => trivial) trivial
   exact this
  ·rintro e W2 ⟨⟨v, rfl⟩, (⟨hi, hl, _⟩ | ⟨pre, x, rest, hL, c, hi, hl, _⟩)⟩
   ·refine ⟨none, _, by have := run_endLoop (P := P) hl (by rw [hrec]; simp); rw [hrec] at this; exact this, hdone _ (hI _ _ _ hi ((Step.refl T _ W2).putBook hl rfl (by omega) _))⟩
   ·exact ⟨some c, _, by have := run_endLoop (P := P) hl (by rw [hrec]; simp); rw [hrec] at this; exact this, hstop c pre x rest _ hL (hIx _ _ _ _ hi ((Step.refl T _ W2).putBook hl rfl (by omega) _))⟩
end
end Go.Proofs.Ytepjhdblmghckaa.It
/- A region that draws its order, within a round: operations that only read, and one last operation that waits for them all: one walk of the text's order serves every order. -/
namespace Go.Proofs.Ytepjhdblmghckaa.It
set_option linter.unusedVariables false
set_option linter.unusedSimpArgs false
set_option linter.unusedSectionVars false
open Go
variable {F : Fence} {n l : Nat} {P : Program}

theorem opIn_round {o : Oper} {a : Act} {w : World} {K : Act → World → Prop} {Q : Exit → Act → World → Prop} (hro : F.round = none) (ho : ∀ c, o.op ≠ .defer c) (h : o.wpIn F n P a w K Q) : o.wpIn (F.inRound l) n P a w K Q := by
 unfold Oper.wpIn at *
 refine ⟨h.1, ?_⟩
 have e1 : o.semAt F.round a.eval = execOp a.eval o := Oper.semAt_eq _ _ _ ho
 have e2 : o.semAt (F.inRound l).round a.eval = execOp a.eval o := Oper.semAt_eq _ _ _ ho
 have h2 := h.2
 rw [e1] at h2
 rw [e2]
 exact h2

theorem exists_first {R : Nat → Prop} : ∀ k, R k → ∃ m, R m ∧ ∀ j, j < m → ¬ R j := by
 intro k
 induction k using Nat.strongRecOn with
 | ind k ih =>
  intro hk
  by_cases h : ∃ j, j < k ∧ R j
  ·obtain ⟨j, hj, hr⟩ := h
   exact ih j hj hr
  ·exact ⟨k, hk, fun j hj hr => h ⟨j, hj, hr⟩⟩

def Back (ops : Array Oper) : Prop := ∀ (j : Nat) (o : Oper), ops[j]? = some o → ∀ e ∈ o.after, e.on < j

section
variable {opsR : Array Oper} {last : Oper} {C : World → Prop} {Q : Act → Prop} {Q' : Exit → Act → World → Prop}

theorem ready_push (hback : Back opsR) {listed : Array Bool} (hs : listed.size = opsR.size) {i : Nat} (hi : i < opsR.size) :
  i ∈ Region.ready .any (opsR.push last) (listed.push false) ↔ i ∈ Region.ready .any opsR listed := by
 rw [mem_ready, mem_ready]
 have e1 : (opsR.push last)[i]? = opsR[i]? := by rw [Array.getElem?_push]; simp; omega
 have g1 : ∀ (b : Bool) (j : Nat), j < opsR.size → (listed.push false).getD j b = listed.getD j b := fun b j hj => by
  simp only [Array.getD_eq_getD_getElem?]
  rw [Array.getElem?_push]
  have : ¬ j = listed.size := by omega
  simp [this]
 rw [e1, g1 true i hi]
 constructor
 ·rintro ⟨h1, o, h2, h3⟩
  exact ⟨h1, o, h2, fun e he hb => by rw [← g1 false e.on (by have := hback i o h2 e he; omega)]; exact h3 e he hb⟩
 ·rintro ⟨h1, o, h2, h3⟩
  exact ⟨h1, o, h2, fun e he hb => by rw [g1 false e.on (by have := hback i o h2 e he; omega)]; exact h3 e he hb⟩

/-- Nothing may come up: all has. -/
theorem all_listed (hback : Back opsR) {listed : Array Bool} (hs : listed.size = opsR.size) (h : Region.ready .any opsR listed = []) : ∀ j, j < opsR.size → listed.getD j false = true := by
 intro j hj
 rcases hb : listed.getD j false with _ | _
 ·exfalso
  obtain ⟨m, ⟨hm1, hm2⟩, hmin⟩ := exists_first (R := fun j => j < opsR.size ∧ listed.getD j false = false) j ⟨hj, hb⟩
  have : m ∈ Region.ready .any opsR listed := by
   rw [mem_ready]
   have hg : ∀ b, listed.getD m b = false := fun b => by
    simp only [Array.getD_eq_getD_getElem?] at hm2 ⊢
    rw [Array.getElem?_eq_getElem (by omega)] at hm2 ⊢
    simpa using hm2
   refine ⟨hg true, opsR[m], Array.getElem?_eq_getElem hm1, fun e he _ => ?_⟩
   have hlt := hback m _ (Array.getElem?_eq_getElem hm1) e he
   rcases hx : listed.getD e.on false with _ | _
   ·exact absurd ⟨by omega, hx⟩ (hmin e.on hlt)
   ·rfl
  rw [h] at this
  cases this
 ·rfl
theorem wpAnyIn_last (hro : F.round = none) (hback : Back opsR) (hplain : ∀ (j : Nat) (o : Oper), opsR[j]? = some o → o.guard = none ∧ ∀ c, o.op ≠ .defer c)
  (hlg : last.guard = none) (hlw : ∀ j, j < opsR.size → ∃ e ∈ last.after, Region.binds .any e = true ∧ e.on = j) (hle : ∀ e ∈ last.after, e.on < opsR.size)
  (hL : ∀ a w, C w → Q a → last.wpIn (F.inRound l) n P a w (fun a' w' => Q' .normal a' w') Q') :
  ∀ (fuel : Nat) (listed : Array Bool) (a : Act) (w : World), listed.size = opsR.size → C w → wpAnyQIn F n P .any opsR C Q fuel listed a → wpAnyIn (F.inRound l) n P .any (opsR.push last) Q' (fuel + 1) (listed.push false) a w := by
 have wanted : ∀ (o : Oper) (v : Nat → Option Bool), o.guard = none → Region.wanted o v = true := fun o v h => by simp [Region.wanted, h]
 have hk : (opsR.push last)[opsR.size]? = some last := by simp
 have fin : ∀ (fuel : Nat) (listed : Array Bool) (a' : Act) (w' : World), listed.size = opsR.size → (∀ j, j < opsR.size → listed.getD j false = true) → Q' .normal a' w' →
   wpAnyIn (F.inRound l) n P .any (opsR.push last) Q' fuel ((listed.push false).setIfInBounds opsR.size true) a' w' := by
  intro fuel listed a' w' hs hall hq
  have hnone : Region.ready .any (opsR.push last) ((listed.push false).setIfInBounds opsR.size true) = [] := by
   rw [List.eq_nil_iff_forall_not_mem]
   intro j hj
   rw [mem_ready] at hj
   obtain ⟨h1, o, h2, _⟩ := hj
   have hlt := (Array.getElem?_eq_some_iff.1 h2).1
   simp only [Array.size_push] at hlt
   by_cases e : j = opsR.size
   ·subst e
    simp only [Array.getD_eq_getD_getElem?, Array.getElem?_setIfInBounds] at h1
    simp [hs] at h1
   ·have := hall j (by omega)
    simp only [Array.getD_eq_getD_getElem?] at this h1
    rw [Array.getElem?_setIfInBounds_ne (by omega), Array.getElem?_push] at h1
    have e2 : ¬ j = listed.size := by omega
    simp only [e2, if_false] at h1
    rw [Array.getElem?_eq_getElem (by omega)] at this h1
    simp only [Option.getD_some] at this h1
    rw [this] at h1
    cases h1
  cases fuel with
  | zero => exact ⟨hnone, hq⟩
  | succ f => exact ⟨fun _ => hq, fun i hi => by rw [hnone] at hi; cases hi⟩
 have gp : ∀ (listed : Array Bool) (b : Bool) (j : Nat), listed.size = opsR.size → j < opsR.size → (listed.push false).getD j b = listed.getD j b := fun listed b j hs hj => by
  simp only [Array.getD_eq_getD_getElem?]
  rw [Array.getElem?_push]
  have : ¬ j = listed.size := by omega
  simp [this]
 have lastReady : ∀ (listed : Array Bool), listed.size = opsR.size → (∀ j, j < opsR.size → listed.getD j false = true) → opsR.size ∈ Region.ready .any (opsR.push last) (listed.push false) := fun listed hs hall => by
  rw [mem_ready]
  refine ⟨by simp [Array.getD_eq_getD_getElem?, ← hs], last, hk, fun e he hb => ?_⟩
  rw [gp listed false e.on hs (hle e he)]
  exact hall _ (hle e he)
 have lastStep : ∀ (fuel : Nat) (listed : Array Bool) (a : Act) (w : World), listed.size = opsR.size → C w → (∀ j, j < opsR.size → listed.getD j false = true) → Q a →
   wpOpIn (F.inRound l) n P (opsR.push last) Q' opsR.size (wpAnyIn (F.inRound l) n P .any (opsR.push last) Q' fuel ((listed.push false).setIfInBounds opsR.size true)) a w := fun fuel listed a w hs hc hall hq => by
  unfold wpOpIn
  simp only [hk]
  rw [if_pos (wanted _ _ hlg)]
  exact Oper.wpIn_mono (fun a' w' h => fin fuel listed a' w' hs hall h) (hL a w hc hq)
 have allOf : ∀ (listed : Array Bool), listed.size = opsR.size → opsR.size ∈ Region.ready .any (opsR.push last) (listed.push false) → ∀ j, j < opsR.size → listed.getD j false = true := fun listed hs hi j hj => by
  rw [mem_ready] at hi
  obtain ⟨_, o, ho, hall⟩ := hi
  rw [hk] at ho
  cases ho
  obtain ⟨e, he, hb, rfl⟩ := hlw j hj
  rw [← gp listed false e.on hs hj]
  exact hall e he hb
 have noneOf : ∀ (listed : Array Bool), listed.size = opsR.size → (∀ j, j < opsR.size → listed.getD j false = true) → Region.ready .any opsR listed = [] := fun listed hs hall => by
  rw [List.eq_nil_iff_forall_not_mem]
  intro j hj
  rw [mem_ready] at hj
  obtain ⟨h1, o, h2, _⟩ := hj
  have hlt := (Array.getElem?_eq_some_iff.1 h2).1
  have := hall j hlt
  simp only [Array.getD_eq_getD_getElem?] at this h1
  rw [Array.getElem?_eq_getElem (by omega)] at this h1
  simp only [Option.getD_some] at this h1
  rw [this] at h1
  cases h1
 have cases_ : ∀ (listed : Array Bool) (i : Nat), i ∈ Region.ready .any (opsR.push last) (listed.push false) → i < opsR.size ∨ i = opsR.size := fun listed i hi => by
  rw [mem_ready] at hi
  obtain ⟨_, o, h2, _⟩ := hi
  have hlt := (Array.getElem?_eq_some_iff.1 h2).1
  simp only [Array.size_push] at hlt
  omega
 intro fuel
 induction fuel with
 | zero =>
  intro listed a w hs hc h
  have hall := all_listed hback hs h.1
  refine ⟨fun h0 => ?_, fun i hi => ?_⟩
  ·have := lastReady listed hs hall
   rw [h0] at this
   cases this
  ·rcases cases_ listed i hi with hlt | rfl
   ·have := (ready_push (last := last) hback hs hlt).1 hi
    rw [h.1] at this
    cases this
   ·exact lastStep 0 listed a w hs hc hall h.2
 | succ fuel ih =>
  intro listed a w hs hc h
  refine ⟨fun h0 => ?_, fun i hi => ?_⟩
  ·exfalso
   by_cases hr : Region.ready .any opsR listed = []
   ·have := lastReady listed hs (all_listed hback hs hr)
    rw [h0] at this
    cases this
   ·obtain ⟨i, hi⟩ := List.exists_mem_of_ne_nil _ hr
    have hlt : i < opsR.size := by
     have h2 := hi
     rw [mem_ready] at h2
     obtain ⟨_, o, h2, _⟩ := h2
     exact (Array.getElem?_eq_some_iff.1 h2).1
    have := (ready_push (last := last) hback hs hlt).2 hi
    rw [h0] at this
    cases this
  ·rcases cases_ listed i hi with hlt | rfl
   ·have hi' := (ready_push (last := last) hback hs hlt).1 hi
    have hst := wpOpIn_of_qOpIn (Q' := Q') hro hc (fun a' w' hw' hq => ih (listed.setIfInBounds i true) a' w' (by simpa using hs) hw' hq) (h.2 i hi')
    have ei : (opsR.push last)[i]? = opsR[i]? := by
     rw [Array.getElem?_push]
     have : ¬ i = opsR.size := by omega
     simp [this]
    have el : (listed.push false).setIfInBounds i true = (listed.setIfInBounds i true).push false := by
     apply Array.ext_getElem?
     intro j
     simp only [Array.getElem?_setIfInBounds, Array.getElem?_push, Array.size_push, Array.size_setIfInBounds]
     by_cases e1 : i = j
     ·subst e1
      have h0 : ¬ i = listed.size := by omega
      have h1 : i < listed.size + 1 := by omega
      have h2 : i < listed.size := by omega
      simp [h0, h1, h2]
     ·by_cases e2 : j = listed.size
      ·have h3 : ¬ i = listed.size := by omega
       simp [e2, h3]
      ·simp [e1, e2]
    unfold wpOpIn at hst ⊢
    rw [ei, el]
    cases ho : opsR[i]? with
    | none => rw [Array.getElem?_eq_getElem hlt] at ho; cases ho
    | some o =>
     rw [ho] at hst
     simp only at hst ⊢
     obtain ⟨hg, hd⟩ := hplain i o ho
     rw [if_pos (wanted _ _ hg)] at hst ⊢
     exact opIn_round hro hd hst
   ·have hall := allOf listed hs hi
    exact lastStep (fuel + 1) listed a w hs hc hall (h.1 (noneOf listed hs hall))

/-- THE LAW: the region's reads are walked once, in the text's order; behind them the last operation. -/
theorem wpIn_region_last {id : Nat} {a : Act} {w : World} {lr : List Oper} (hro : F.round = none) (hm : P.follows .mixedOrders = true) (hB : Region.lexB .any lr.toArray = true) (hback : Back lr.toArray)
  (hplain : ∀ (j : Nat) (o : Oper), lr.toArray[j]? = some o → o.guard = none ∧ ∀ c, o.op ≠ .defer c) (hlg : last.guard = none)
  (hlw : ∀ j, j < lr.toArray.size → ∃ e ∈ last.after, Region.binds .any e = true ∧ e.on = j) (hle : ∀ e ∈ last.after, e.on < lr.toArray.size)
  (h : wpQuietIn F n P lr.toArray (fun w' => ∃ m, w' = w.drewN m) (fun a' => ∀ w1, (∃ m, w1 = w.drewN m) → last.wpIn (F.inRound l) n P a' w1 (fun a' w' => Q' .normal a' w') Q') lr a) :
  (Code.region id (lr ++ [last]).toArray true).wpIn (F.inRound l) n P Q' a w := by
 have hB' := hB
 simp only [Region.lexB, Bool.and_eq_true] at hB'
 have hq := wpAnyQIn_lex (F := F) (n := n) (C := fun w' => ∃ m, w' = w.drewN m) (md := .any) hB'.1 lr 0 (Array.replicate lr.toArray.size false) a (by simp) (by simpa using hB'.2) h
 have hcl : ∀ (a' : Act) (w' : World), (∃ m, w' = w.drewN m) → (∀ w1, (∃ m, w1 = w.drewN m) → last.wpIn (F.inRound l) n P a' w1 (fun a' w' => Q' .normal a' w') Q') → last.wpIn (F.inRound l) n P a' w' (fun a' w' => Q' .normal a' w') Q' := fun a' w' hw hq => hq w' hw
 have := wpAnyIn_last (l := l) (n := n) (P := P) (C := fun w' => ∃ m, w' = w.drewN m) (Q' := Q') (last := last) hro hback hplain hlg hlw hle hcl lr.length (Array.replicate lr.toArray.size false) a w.drew (by simp) ⟨1, rfl⟩ hq
 have e1 : (lr ++ [last]).toArray = lr.toArray.push last := by simp
 rw [e1]
 refine wpIn_region_any hm ?_
 have e2 : (lr.toArray.push last).size = lr.length + 1 := by simp
 have e3 : Array.replicate (lr.toArray.push last).size false = (Array.replicate lr.toArray.size false).push false := by rw [e2]; simp [Array.replicate_succ]
 rw [e3, e2]
 exact this
def noDefer (o : Oper) : Bool := match o.op with | .defer _ => false | _ => true
/-- What is asked of such a region's operations, by looking. -/
def lastB (lr : List Oper) (last : Oper) : Bool :=
 Region.lexB .any lr.toArray && (lr.all fun o => o.guard.isNone && noDefer o) && last.guard.isNone &&
 ((List.range lr.length).all fun j => ((lr[j]?).map fun o => o.after.all fun e => decide (e.on < j)).getD true && last.after.any fun e => Region.binds .any e && decide (e.on = j)) &&
 last.after.all fun e => decide (e.on < lr.length)
theorem wpIn_region_last' {id : Nat} {a : Act} {w : World} {ops lr : List Oper} {last : Oper} (hs : ops = lr ++ [last]) (hro : F.round = none) (hm : P.follows .mixedOrders = true) (hB : lastB lr last = true)
  (h : wpQuietIn F n P lr.toArray (fun w' => ∃ m, w' = w.drewN m) (fun a' => ∀ w1, (∃ m, w1 = w.drewN m) → last.wpIn (F.inRound l) n P a' w1 (fun a' w' => Q' .normal a' w') Q') lr a) :
  (Code.region id ops.toArray true).wpIn (F.inRound l) n P Q' a w := by
 subst hs
 unfold lastB at hB
 simp only [Bool.and_eq_true] at hB
 obtain ⟨⟨⟨⟨h1, h2⟩, h3⟩, h4⟩, h5⟩ := hB
 have h2' : ∀ o ∈ lr, o.guard = none ∧ ∀ c, o.op ≠ .defer c := fun o ho => by
  have := List.all_eq_true.1 h2 o ho
  simp only [Bool.and_eq_true, Option.isNone_iff_eq_none] at this
  refine ⟨this.1, fun c hc => ?_⟩
  have h := this.2
  simp [noDefer, hc] at h
 have h4' : ∀ j, j < lr.length → (((lr[j]?).map fun o => o.after.all fun e => decide (e.on < j)).getD true = true) ∧ (last.after.any fun e => Region.binds .any e && decide (e.on = j)) = true := fun j hj => by
  have := List.all_eq_true.1 h4 j (List.mem_range.2 hj)
  simpa only [Bool.and_eq_true] using this
 refine wpIn_region_last hro hm h1 (fun j o ho e he => ?_) (fun j o ho => h2' o ?_) (Option.isNone_iff_eq_none.1 h3) (fun j hj => ?_) (fun e he => ?_) h
 ·have ho' : lr[j]? = some o := by simpa using ho
  have hj := (List.getElem?_eq_some_iff.1 ho').1
  have := (h4' j hj).1
  rw [ho'] at this
  simp only [Option.map_some, Option.getD_some, Array.all_eq_true_iff_forall_mem, decide_eq_true_eq] at this
  exact this e he
 ·have ho' : lr[j]? = some o := by simpa using ho
  exact List.mem_of_getElem? ho'
 ·have := (h4' j (by simpa using hj)).2
  rw [Array.any_eq_true'] at this
  obtain ⟨e, he, hb⟩ := this
  simp only [Bool.and_eq_true, decide_eq_true_eq] at hb
  exact ⟨e, he, hb.1, hb.2⟩
 ·rw [Array.all_eq_true_iff_forall_mem] at h5
  simpa using h5 e he
end
end Go.Proofs.Ytepjhdblmghckaa.It
/- The iterator over the moves of a stack: its contract. -/
namespace Go.Proofs.Ytepjhdblmghckaa.G
set_option linter.unusedVariables false
set_option linter.unusedSimpArgs false
set_option linter.unusedSectionVars false
open Go.Proofs.Ytepjhdblmghckaa.Q Go.Proofs.Ytepjhdblmghckaa.K Go.Proofs.Ytepjhdblmghckaa.It
open Go.RowKit Go.Shelf Go.Proofs.YtepjhdblmghckaaW.PrintWords Go.Proofs.YtepjhdblmghckaaW.PrintLast Go.Proofs.YtepjhdblmghckaaW.PrintMore
attribute [local go_sem] Oper.semAt_some
/-- A stack in memory. -/
def stk (m : Nat → Int) : Array Value := #[.int .i8 (m 0), .int .i8 (m 1), .int .i8 (m 2), .int .i8 (m 3), .int .i8 (m 4), .int .i8 (m 5), .int .i8 (m 6)]
theorem stk_size (m : Nat → Int) : (stk m).size = 7 := rfl
theorem stk_get (m : Nat → Int) (j : Nat) (hj : j < 7) : (stk m)[j]? = some (.int .i8 (m j)) := by
 match j, hj with
 | 0, _ | 1, _ | 2, _ | 3, _ | 4, _ | 5, _ | 6, _ => rfl
 | _ + 7, h => omega
theorem stk_ext (m : Nat → Int) (cs : Array Value) (hs : cs.size = 7) (h : ∀ j, j < 7 → cs[j]? = some (.int .i8 (m j))) : cs = stk m := by
 apply Array.ext_getElem?
 intro j
 by_cases hj : j < 7
 ·rw [h j hj, stk_get _ _ hj]
 ·rw [Array.getElem?_eq_none (by omega), Array.getElem?_eq_none (by rw [stk_size]; omega)]
theorem stk_row {W : World} {b t : Nat} {m : Nat → Int} (h : Blk W b (stk m) t) : Row .i8 W b t 7 (stk m) m := ⟨h, by rw [stk_size]; omega, fun p hp => stk_get m p hp⟩
theorem row_stk {W : World} {b t : Nat} {cs : Array Value} {m : Nat → Int} (h : Row .i8 W b t 7 cs m) (hs : cs.size = 7) : Blk W b (stk m) t := by
 have e := stk_ext m cs hs h.val
 rw [← e]
 exact h.blk
theorem stk_cells {W : World} {b t : Nat} {m : Nat → Int} (h : Blk W b (stk m) t) : W.cell? ⟨b, 0, none⟩ = some (.int .i8 (m 0)) ∧ W.cell? ⟨b, 1, none⟩ = some (.int .i8 (m 1)) ∧ W.cell? ⟨b, 2, none⟩ = some (.int .i8 (m 2)) ∧ W.cell? ⟨b, 3, none⟩ = some (.int .i8 (m 3)) ∧ W.cell? ⟨b, 4, none⟩ = some (.int .i8 (m 4)) ∧ W.cell? ⟨b, 5, none⟩ = some (.int .i8 (m 5)) ∧ W.cell? ⟨b, 6, none⟩ = some (.int .i8 (m 6)) :=
 ⟨h.cell 0 rfl, h.cell 1 rfl, h.cell 2 rfl, h.cell 3 rfl, h.cell 4 rfl, h.cell 5 rfl, h.cell 6 rfl⟩
/-- The moves from place i, to places before q. -/
def mvTo (sg : Bool) (i q : Nat) : List (Nat × Nat) := ((List.range q).filter (fun k => decide (i ≤ k) && (sg || decide (k ≠ i)))).map (fun k => (i, k))
theorem mvTo_low (sg : Bool) (i q : Nat) (h : q ≤ i) : mvTo sg i q = [] := by
 unfold mvTo
 rw [List.filter_eq_nil_iff.2 (fun k hk => by rw [decide_eq_false (by have := List.mem_range.1 hk; omega)]; simp), List.map_nil]
theorem mvTo_succ (sg : Bool) (i q : Nat) : mvTo sg i (q + 1) = if i ≤ q ∧ (sg = true ∨ q ≠ i) then mvTo sg i q ++ [(i, q)] else mvTo sg i q := by
 unfold mvTo
 rw [List.range_succ, List.filter_append, List.map_append]
 by_cases h1 : i ≤ q <;> by_cases h2 : q = i <;> cases sg <;> simp [h1, h2]
def mvAt (n : Nat) (sg an : Bool) (i : Nat) : List (Nat × Nat) := if 0 < i ∧ an = false then [] else mvTo sg i n
def mvIn (n : Nat) (sg an : Bool) (i : Nat) : List (Nat × Nat) := (List.range i).flatMap (mvAt n sg an)
theorem mvIn_succ (n : Nat) (sg an : Bool) (i : Nat) : mvIn n sg an (i + 1) = mvIn n sg an i ++ mvAt n sg an i := by simp [mvIn, List.range_succ]
/-- All moves. -/
def mvL (n : Nat) (sg an : Bool) : List (Nat × Nat) := mvIn n sg an n
theorem mvIn_split (n : Nat) (sg an : Bool) (i j : Nat) (h : i ≤ j) : ∃ r, mvIn n sg an j = mvIn n sg an i ++ r := by
 have key : ∀ d, ∃ r, mvIn n sg an (i + d) = mvIn n sg an i ++ r := by
  intro d
  induction d with
  | zero => exact ⟨[], by simp⟩
  | succ d ih =>
   obtain ⟨r, hr⟩ := ih
   exact ⟨r ++ mvAt n sg an (i + d), by rw [← Nat.add_assoc, mvIn_succ, hr, List.append_assoc]⟩
 obtain ⟨r, hr⟩ := key (j - i)
 rw [show i + (j - i) = j by omega] at hr
 exact ⟨r, hr⟩
theorem mvTo_split (sg : Bool) (i q n : Nat) (h : q ≤ n) : ∃ r, mvTo sg i n = mvTo sg i q ++ r := by
 have key : ∀ d, ∃ r, mvTo sg i (q + d) = mvTo sg i q ++ r := by
  intro d
  induction d with
  | zero => exact ⟨[], by simp⟩
  | succ d ih =>
   obtain ⟨r, hr⟩ := ih
   rw [← Nat.add_assoc, mvTo_succ]
   split
   ·exact ⟨r ++ [(i, q + d)], by rw [hr, List.append_assoc]⟩
   ·exact ⟨r, hr⟩
 obtain ⟨r, hr⟩ := key (n - q)
 rw [show q + (n - q) = n by omega] at hr
 exact ⟨r, hr⟩
theorem mv_at (n : Nat) (sg an : Bool) (i q : Nat) (hi : i < n) (hq : q < n) (hiq : i ≤ q) (h0 : ¬ (0 < i ∧ an = false)) (h1 : sg = true ∨ q ≠ i) : ∃ r, mvL n sg an = (mvIn n sg an i ++ mvTo sg i q) ++ (i, q) :: r := by
 obtain ⟨r1, e1⟩ := mvIn_split n sg an (i + 1) n (by omega)
 obtain ⟨r2, e2⟩ := mvTo_split sg i (q + 1) n (by omega)
 rw [mvTo_succ, if_pos ⟨hiq, h1⟩] at e2
 refine ⟨r2 ++ r1, ?_⟩
 unfold mvL
 rw [e1, mvIn_succ, mvAt, if_neg h0, e2]
 simp
theorem mvIn_top (n : Nat) (sg an : Bool) (h : an = false) : ∀ i, 0 < i → mvIn n sg an i = mvIn n sg an 1
 | 0, h0 => absurd h0 (by omega)
 | 1, _ => rfl
 | i + 2, _ => by rw [mvIn_succ, mvAt, if_pos ⟨by omega, h⟩, List.append_nil, mvIn_top n sg an h (i + 1) (by omega)]
def keepM (Bx Bs : Nat) (k : Nat) : Prop := k = Bx ∨ k = Bs
def encM (sg : Bool) (m : Nat → Int) (x : Nat × Nat) : Array Value := #[.agg #[.int .i64 (x.1 : Int), .int .i64 (x.2 : Int)], .agg (stk (fl sg m x.1 (x.2 + 1)))]
theorem step_below (T B : Nat) {A A' : World} (h : Below A.heap.size A A') : Step T B A A' :=
 ⟨h.os, h.tape, h.output, h.size, fun k o hk _ => by rw [h.block k (Array.getElem?_eq_some_iff.1 hk).1]; exact hk⟩
set_option maxRecDepth 100000 in
set_option maxHeartbeats 8000000 in
theorem moves_it (d : Nat) (hd : 1 ≤ d) (Bx Bs n : Nat) (sg an : Bool) (m : Nat → Int) (hn : n ≤ 7) (hm : ∀ p, -100 ≤ m p ∧ m p ≤ 100) (w : World)
  (hBx : Blk w Bx #[.int .i64 n, .bool sg, .bool an] 88) (hBs : Blk w Bs (stk m) 92) :
  IterC Fence.wide d Try.prog 113 #[.pointer (some ⟨Bx, 0, none⟩), .pointer (some ⟨Bs, 0, none⟩)] (encM sg m) 0 (keepM Bx Bs) (mvL n sg an) w := by
 intro lo J Jx W hW hJ hJx hY h0
 have hWx := hBx.below hW hBx.lt
 have hWs := hBs.below hW hBs.lt
 have hlx := hWx.lt
 have hls := hWs.lt
 have hcn := hWx.cell 0 (v := .int .i64 n) rfl
 clear hBx hBs hW
 have HJ := Aside0.mk hJ
 have HY := Aside0.mk hY
 have HX := Aside0.mk hWx
 have HS := Aside0.mk hWs
 have H0 := Aside0.mk h0
 have HM := Aside0.mk hm
 clear hJ hJx hY hWx hWs h0 hm
 refine callsIn_of_wp Try.func113 rfl trivial ?_ rfl
 simp only [Try.ntmps113, List.size_toArray, List.length_cons, List.length_nil, Nat.reduceAdd, Nat.reduceSub, Array.replicate_succ, Array.replicate_zero, List.push_toArray, List.append_toArray, List.nil_append, List.cons_append]
 gi_wp2
 clear hcn
 gi_loopw [9, 4, 5] (fun u _ _ wr => ∃ i : Nat, i ≤ n ∧ u = .int .i64 i ∧ Aside0 (Blk wr Bx #[.int .i64 n, .bool sg, .bool an] 88) ∧ Aside0 (Blk wr Bs (stk m) 92) ∧ Aside0 (J (mvIn n sg an i) wr) ∧ Aside0 (W.heap.size ≤ wr.heap.size)) (fun u _ _ _ => n - (intOf u).toNat)
 case atStart => exact ⟨0, Nat.zero_le _, rfl, HX, HS, H0, ⟨Nat.le_refl _⟩⟩
 case round =>
  obtain ⟨i, hi, rfl, HX2, HS2, HJ2, HZ2⟩ := hrel
  clear HX HS H0
  by_cases hlt : i < n
  ·have hi1 : (i : Int) < (n : Int) := by omega
   have c0 := HX2.out.cell 0 (v := .int .i64 n) rfl
   have c1 := HX2.out.cell 1 (v := .bool sg) rfl
   have c2 := HX2.out.cell 2 (v := .bool an) rfl
   have hwt : IntKind.i64.wrap ((i : Int) + 1) = (i : Int) + 1 := iw64 (by omega) (by omega)
   by_cases hstop : 0 < i ∧ an = false
   ·obtain ⟨h0, ha⟩ := hstop
    subst ha
    have h0' : (0 : Int) < (i : Int) := by omega
    gi_wp2
    refine bodyPost_ret (results_none rfl _ _ _) rfl ?_
    exact ⟨⟨_, rfl⟩, .inl (by unfold mvL; rw [mvIn_top n sg false rfl n (by omega), ← mvIn_top n sg false rfl i h0]; exact HJ2.out)⟩
   ·have HST := Aside0.mk hstop
    rcases (show (0 < i ∧ an = true) ∨ ¬ 0 < i by cases an <;> simp at hstop ⊢ <;> omega) with ⟨h0, ha⟩ | h0
    ·have h0' : (0 : Int) < (i : Int) := by omega
     clear hstop
     rw [ha] at c2
     clear ha
     gi_wp2
     clear c0 c1 c2
     gi_loopw [5] (fun u wr => ∃ q : Nat, i ≤ q ∧ q ≤ n ∧ u = .int .i64 q ∧ Aside0 (Blk wr Bx #[.int .i64 n, .bool sg, .bool an] 88) ∧ Aside0 (Blk wr Bs (stk m) 92) ∧ Aside0 (J (mvIn n sg an i ++ mvTo sg i q) wr) ∧ Aside0 (W.heap.size ≤ wr.heap.size)) (fun u _ => n - (intOf u).toNat)
     case atStart => exact ⟨i, Nat.le_refl _, by omega, rfl, HX2, HS2, .mk (by rw [mvTo_low _ _ _ (Nat.le_refl _), List.append_nil]; exact HJ2.out), HZ2⟩
     case round =>
      obtain ⟨q, hiq, hq, rfl, HX3, HS3, HJ3, HZ3⟩ := hrel
      clear HX2 HS2 HJ2 HZ2
      have c0 := HX3.out.cell 0 (v := .int .i64 n) rfl
      have c1 := HX3.out.cell 1 (v := .bool sg) rfl
      have hwq : IntKind.i64.wrap ((q : Int) + 1) = (q : Int) + 1 := iw64 (by omega) (by omega)
      by_cases hqn : q < n
      ·have hq1 : (q : Int) < (n : Int) := by omega
       by_cases hqi : q = i
       ·have hqe : ((q : Int) == (i : Int)) = true := by rw [beq_iff_eq]; omega
        by_cases hsg : sg = true
        ·have hgo : sg = true ∨ q ≠ i := .inl hsg
         have HQI := Aside0.mk hqi
         clear hqi
         rw [hsg] at c1
         clear hsg
         obtain ⟨r, hr⟩ := mv_at n sg an i q hlt hqn hiq HST.out hgo
         have HRG := Aside0.mk hr
         clear hr
         obtain ⟨z0, z1, z2, z3, z4, z5, z6⟩ := stk_cells HS3.out
         gi_wp2
         clear z0 z1 z2 z3 z4 z5 z6
         obtain ⟨Wt, hWt⟩ : ∃ Wt, wr.alloc (Obj.cells (stk m) 92) = Wt := ⟨_, rfl⟩
         have BT := Aside0.mk (show Below wr.heap.size wr Wt by rw [← hWt]; exact (Below.refl _ wr).alloc (Nat.le_refl _) _)
         have RT := Aside0.mk (show Blk Wt wr.heap.size (stk m) 92 by rw [← hWt]; exact Blk.new wr _ 92)
         have hc1 : Wt.drew.cell? ⟨Bx, 1, none⟩ = some (.bool sg) := (HX3.out.below BT.out HX3.out.lt).cell 1 rfl
         have RT2 := Aside0.mk (stk_row RT.out.drew)
         have BT2 := Aside0.mk (BT.out.drew)
         have hWt' : wr.alloc (Obj.cells #[Value.int IntKind.i8 (m 0), Value.int IntKind.i8 (m 1), Value.int IntKind.i8 (m 2), Value.int IntKind.i8 (m 3), Value.int IntKind.i8 (m 4), Value.int IntKind.i8 (m 5), Value.int IntKind.i8 (m 6)] 92) = Wt := hWt
         rw [hWt']
         clear hWt hWt' RT BT
         refine wpIn_wide.2 ?_
         refine start_ (n := 6) (S := fun w' => w'.cell? ⟨Bx, 1, none⟩ = some (.bool sg)) (ds := [5]) #[false, false, false, false, false, false] (by kernel_rfl) rfl rfl hc1 (fun hHeld => ?_)
         generalize Wt.drew = Wd at hHeld RT2 BT2 ⊢
         refine pure_ (i := 0) (N := (some 35)) (v := ?_) (a' := ?_) #[true, false, false, false, false, false] rfl rfl (by kernel_rfl) (fun _ _ _ h => h) (Or.inl ⟨by rfl, ?_⟩) ?_ ?_
         rotate_left
         ·intro w'
          go_simp
          with_reducible rfl
         rotate_left
         ·simp only [Act.put, List.setIfInBounds_toArray, List.set_cons_zero, List.set_cons_succ]
          rfl
         refine pure_ (i := 1) (N := (some 36)) (v := ?_) (a' := ?_) #[true, true, false, false, false, false] rfl rfl (by kernel_rfl) (fun _ _ _ h => h) (Or.inl ⟨by rfl, ?_⟩) ?_ ?_
         rotate_left
         ·intro w'
          go_simp
          with_reducible rfl
         rotate_left
         ·simp only [Act.put, List.setIfInBounds_toArray, List.set_cons_zero, List.set_cons_succ]
          rfl
         refine pure_ (i := 2) (N := (some 37)) (v := ?_) (a' := ?_) #[true, true, true, false, false, false] rfl rfl (by kernel_rfl) (fun _ _ _ h => h) (Or.inl ⟨by rfl, ?_⟩) ?_ ?_
         rotate_left
         ·intro w'
          go_simp
          with_reducible rfl
         rotate_left
         ·simp only [Act.put, List.setIfInBounds_toArray, List.set_cons_zero, List.set_cons_succ]
          rfl
         refine pure_ (i := 3) (N := (some 38)) (v := ?_) (a' := ?_) #[true, true, true, true, false, false] rfl rfl (by kernel_rfl) (fun _ _ _ h => h) (Or.inl ⟨by rfl, ?_⟩) ?_ ?_
         rotate_left
         ·intro w'
          go_simp
          with_reducible rfl
         rotate_left
         ·simp only [Act.put, List.setIfInBounds_toArray, List.set_cons_zero, List.set_cons_succ]
          rfl
         refine take_ (i := 4) (N := (some 39)) (v := ?_) (a' := ?_) #[true, true, true, true, true, false] rfl rfl (by kernel_rfl) (fun _ _ _ h => h) (Or.inl ⟨by rfl, ?_⟩) hHeld ?_ ?_
         rotate_left
         ·rintro w' s0
          go_simp
          with_reducible rfl
         rotate_left
         ·simp only [Act.put, List.setIfInBounds_toArray, List.set_cons_zero, List.set_cons_succ]
          rfl
         refine last_ (i := 5) (N := (some 40)) #[true, true, true, true, true, true] rfl rfl (by kernel_rfl) (by decide) (fun K hK => ?_)
         refine goes_ Try.func87 (by kernel_rfl) rfl #[.slice (some ⟨wr.heap.size, 0, none⟩) 7 7, .int .i64 (i : Int), .int .i64 (q : Int), .bool sg] (by rfl) rfl rfl (by (try simp only [List.map_toArray, List.map_cons, List.map_nil]); first | done | rfl) ?_
         refine (flipped8_calls (t := 92) (n := 7) sg RT2.out (show i ≤ q by omega) (show q < 7 by omega) (by omega) (by omega) HM.out).mono ?_
         rintro e W5 ⟨rfl, cs5, hr5, _, hz5, ha5⟩
         have RT5 := Aside0.mk (row_stk hr5 (by rw [hz5]; rfl))
         have A5 := Aside0.mk (Alone.below BT2.out ha5 (Nat.le_refl _))
         have S5 := Aside0.mk (step_below 0 W.heap.size A5.out)
         clear hr5 hz5 ha5
         refine ⟨_, rfl, ?_⟩
         refine hK.out _ _ ?_
         clear hK K hHeld
         refine norm_ (a' := ?_) ?_ ?_
         rotate_left
         ·show Act.put _ (some 40) _ = _
          simp only [Act.put, List.setIfInBounds_toArray, List.set_cons_zero, List.set_cons_succ]
          rfl
         refine done_ (by kernel_rfl) ?_
         have HX5 := Aside0.mk (HX3.out.below A5.out HX3.out.lt)
         have HS5 := Aside0.mk (HS3.out.below A5.out HS3.out.lt)
         have HZ5 := Aside0.mk (show W.heap.size ≤ W5.heap.size by have := HZ3.out; have := A5.out.size; omega)
         obtain ⟨fn, tmps, assign, body, hy, hR⟩ := HY.out _ _ _ _ HRG.out (HJ.out _ _ _ HJ3.out S5.out)
         try dsimp only at hy
         obtain ⟨m5, hm5⟩ : ∃ f, fl sg m i (q + 1) = f := ⟨_, rfl⟩
         have hrt := RT5.out
         rw [hm5] at hrt
         simp only [encM, stk, hm5] at hy
         obtain ⟨z0, z1, z2, z3, z4, z5, z6⟩ := stk_cells hrt
         have HR := Aside0.mk hR
         clear hR hrt hm5 HX3 HS3 HJ3 HZ3 RT2 BT2 RT5 A5 S5 hc1 c0 c1
         gi_wp2
         refine HR.out.mono ?_
         rintro e W6 (⟨rfl, hJ6, hk6⟩ | ⟨rfl, hJx6⟩)
         ·have HX6 := Aside0.mk (show Blk W6 Bx #[.int .i64 n, .bool sg, .bool an] 88 from hk6.same _ _ HX5.out (.inl (.inl rfl)))
          have HS6 := Aside0.mk (show Blk W6 Bs (stk m) 92 from hk6.same _ _ HS5.out (.inl (.inr rfl)))
          have HZ6 := Aside0.mk (show W.heap.size ≤ W6.heap.size by have := HZ5.out; have := hk6.size; omega)
          have HJ6 := Aside0.mk hJ6
          clear hJ6 hk6 hy HR z0 z1 z2 z3 z4 z5 z6
          gi_wp2
          exact ⟨⟨q + 1, by omega, by omega, by simp, HX6, HS6, .mk (by rw [mvTo_succ, if_pos ⟨hiq, hgo⟩, ← List.append_assoc]; exact HJ6.out), HZ6⟩, by simp [intOf]; omega⟩
         ·have HX6 := Aside0.mk hJx6
          clear hJx6 hy HR z0 z1 z2 z3 z4 z5 z6
          gi_wp2
          refine bodyPost_ret (results_none rfl _ _ _) rfl ?_
          exact ⟨⟨_, rfl⟩, .inr ⟨_, _, _, HRG.out, HX6.out⟩⟩
        ·have hsg' : sg = false := by simpa using hsg
         subst hsg'
         have HQI := Aside0.mk hqi
         clear hqi hsg
         gi_wp2
         exact ⟨⟨q + 1, by omega, by omega, by simp, HX3, HS3, .mk (by rw [mvTo_succ, if_neg (by rw [HQI.out]; simp)]; exact HJ3.out), HZ3⟩, by simp [intOf]; omega⟩
       ·have hqe : ((q : Int) == (i : Int)) = false := by rw [beq_eq_false_iff_ne]; omega
        have hgo : sg = true ∨ q ≠ i := .inr hqi
        have HQI := Aside0.mk hqi
        clear hqi
        obtain ⟨r, hr⟩ := mv_at n sg an i q hlt hqn hiq HST.out hgo
        have HRG := Aside0.mk hr
        clear hr
        obtain ⟨z0, z1, z2, z3, z4, z5, z6⟩ := stk_cells HS3.out
        gi_wp2
        clear z0 z1 z2 z3 z4 z5 z6
        obtain ⟨Wt, hWt⟩ : ∃ Wt, wr.alloc (Obj.cells (stk m) 92) = Wt := ⟨_, rfl⟩
        have BT := Aside0.mk (show Below wr.heap.size wr Wt by rw [← hWt]; exact (Below.refl _ wr).alloc (Nat.le_refl _) _)
        have RT := Aside0.mk (show Blk Wt wr.heap.size (stk m) 92 by rw [← hWt]; exact Blk.new wr _ 92)
        have hc1 : Wt.drew.cell? ⟨Bx, 1, none⟩ = some (.bool sg) := (HX3.out.below BT.out HX3.out.lt).cell 1 rfl
        have RT2 := Aside0.mk (stk_row RT.out.drew)
        have BT2 := Aside0.mk (BT.out.drew)
        have hWt' : wr.alloc (Obj.cells #[Value.int IntKind.i8 (m 0), Value.int IntKind.i8 (m 1), Value.int IntKind.i8 (m 2), Value.int IntKind.i8 (m 3), Value.int IntKind.i8 (m 4), Value.int IntKind.i8 (m 5), Value.int IntKind.i8 (m 6)] 92) = Wt := hWt
        rw [hWt']
        clear hWt hWt' RT BT
        refine wpIn_wide.2 ?_
        refine start_ (n := 6) (S := fun w' => w'.cell? ⟨Bx, 1, none⟩ = some (.bool sg)) (ds := [5]) #[false, false, false, false, false, false] (by kernel_rfl) rfl rfl hc1 (fun hHeld => ?_)
        generalize Wt.drew = Wd at hHeld RT2 BT2 ⊢
        refine pure_ (i := 0) (N := (some 35)) (v := ?_) (a' := ?_) #[true, false, false, false, false, false] rfl rfl (by kernel_rfl) (fun _ _ _ h => h) (Or.inl ⟨by rfl, ?_⟩) ?_ ?_
        rotate_left
        ·intro w'
         go_simp
         with_reducible rfl
        rotate_left
        ·simp only [Act.put, List.setIfInBounds_toArray, List.set_cons_zero, List.set_cons_succ]
         rfl
        refine pure_ (i := 1) (N := (some 36)) (v := ?_) (a' := ?_) #[true, true, false, false, false, false] rfl rfl (by kernel_rfl) (fun _ _ _ h => h) (Or.inl ⟨by rfl, ?_⟩) ?_ ?_
        rotate_left
        ·intro w'
         go_simp
         with_reducible rfl
        rotate_left
        ·simp only [Act.put, List.setIfInBounds_toArray, List.set_cons_zero, List.set_cons_succ]
         rfl
        refine pure_ (i := 2) (N := (some 37)) (v := ?_) (a' := ?_) #[true, true, true, false, false, false] rfl rfl (by kernel_rfl) (fun _ _ _ h => h) (Or.inl ⟨by rfl, ?_⟩) ?_ ?_
        rotate_left
        ·intro w'
         go_simp
         with_reducible rfl
        rotate_left
        ·simp only [Act.put, List.setIfInBounds_toArray, List.set_cons_zero, List.set_cons_succ]
         rfl
        refine pure_ (i := 3) (N := (some 38)) (v := ?_) (a' := ?_) #[true, true, true, true, false, false] rfl rfl (by kernel_rfl) (fun _ _ _ h => h) (Or.inl ⟨by rfl, ?_⟩) ?_ ?_
        rotate_left
        ·intro w'
         go_simp
         with_reducible rfl
        rotate_left
        ·simp only [Act.put, List.setIfInBounds_toArray, List.set_cons_zero, List.set_cons_succ]
         rfl
        refine take_ (i := 4) (N := (some 39)) (v := ?_) (a' := ?_) #[true, true, true, true, true, false] rfl rfl (by kernel_rfl) (fun _ _ _ h => h) (Or.inl ⟨by rfl, ?_⟩) hHeld ?_ ?_
        rotate_left
        ·rintro w' s0
         go_simp
         with_reducible rfl
        rotate_left
        ·simp only [Act.put, List.setIfInBounds_toArray, List.set_cons_zero, List.set_cons_succ]
         rfl
        refine last_ (i := 5) (N := (some 40)) #[true, true, true, true, true, true] rfl rfl (by kernel_rfl) (by decide) (fun K hK => ?_)
        refine goes_ Try.func87 (by kernel_rfl) rfl #[.slice (some ⟨wr.heap.size, 0, none⟩) 7 7, .int .i64 (i : Int), .int .i64 (q : Int), .bool sg] (by rfl) rfl rfl (by (try simp only [List.map_toArray, List.map_cons, List.map_nil]); first | done | rfl) ?_
        refine (flipped8_calls (t := 92) (n := 7) sg RT2.out (show i ≤ q by omega) (show q < 7 by omega) (by omega) (by omega) HM.out).mono ?_
        rintro e W5 ⟨rfl, cs5, hr5, _, hz5, ha5⟩
        have RT5 := Aside0.mk (row_stk hr5 (by rw [hz5]; rfl))
        have A5 := Aside0.mk (Alone.below BT2.out ha5 (Nat.le_refl _))
        have S5 := Aside0.mk (step_below 0 W.heap.size A5.out)
        clear hr5 hz5 ha5
        refine ⟨_, rfl, ?_⟩
        refine hK.out _ _ ?_
        clear hK K hHeld
        refine norm_ (a' := ?_) ?_ ?_
        rotate_left
        ·show Act.put _ (some 40) _ = _
         simp only [Act.put, List.setIfInBounds_toArray, List.set_cons_zero, List.set_cons_succ]
         rfl
        refine done_ (by kernel_rfl) ?_
        have HX5 := Aside0.mk (HX3.out.below A5.out HX3.out.lt)
        have HS5 := Aside0.mk (HS3.out.below A5.out HS3.out.lt)
        have HZ5 := Aside0.mk (show W.heap.size ≤ W5.heap.size by have := HZ3.out; have := A5.out.size; omega)
        obtain ⟨fn, tmps, assign, body, hy, hR⟩ := HY.out _ _ _ _ HRG.out (HJ.out _ _ _ HJ3.out S5.out)
        try dsimp only at hy
        obtain ⟨m5, hm5⟩ : ∃ f, fl sg m i (q + 1) = f := ⟨_, rfl⟩
        have hrt := RT5.out
        rw [hm5] at hrt
        simp only [encM, stk, hm5] at hy
        obtain ⟨z0, z1, z2, z3, z4, z5, z6⟩ := stk_cells hrt
        have HR := Aside0.mk hR
        clear hR hrt hm5 HX3 HS3 HJ3 HZ3 RT2 BT2 RT5 A5 S5 hc1 c0 c1
        gi_wp2
        refine HR.out.mono ?_
        rintro e W6 (⟨rfl, hJ6, hk6⟩ | ⟨rfl, hJx6⟩)
        ·have HX6 := Aside0.mk (show Blk W6 Bx #[.int .i64 n, .bool sg, .bool an] 88 from hk6.same _ _ HX5.out (.inl (.inl rfl)))
         have HS6 := Aside0.mk (show Blk W6 Bs (stk m) 92 from hk6.same _ _ HS5.out (.inl (.inr rfl)))
         have HZ6 := Aside0.mk (show W.heap.size ≤ W6.heap.size by have := HZ5.out; have := hk6.size; omega)
         have HJ6 := Aside0.mk hJ6
         clear hJ6 hk6 hy HR z0 z1 z2 z3 z4 z5 z6
         gi_wp2
         exact ⟨⟨q + 1, by omega, by omega, by simp, HX6, HS6, .mk (by rw [mvTo_succ, if_pos ⟨hiq, hgo⟩, ← List.append_assoc]; exact HJ6.out), HZ6⟩, by simp [intOf]; omega⟩
        ·have HX6 := Aside0.mk hJx6
         clear hJx6 hy HR z0 z1 z2 z3 z4 z5 z6
         gi_wp2
         refine bodyPost_ret (results_none rfl _ _ _) rfl ?_
         exact ⟨⟨_, rfl⟩, .inr ⟨_, _, _, HRG.out, HX6.out⟩⟩
      ·obtain rfl : q = n := by omega
       gi_wp2
       exact ⟨⟨i + 1, by omega, by simp, HX3, HS3, .mk (by rw [mvIn_succ, mvAt, if_neg HST.out]; exact HJ3.out), HZ3⟩, by simp [intOf]; omega⟩
    ·have h0' : ¬ (0 : Int) < (i : Int) := by omega
     clear hstop
     gi_wp2
     clear c0 c1 c2
     gi_loopw [5] (fun u wr => ∃ q : Nat, i ≤ q ∧ q ≤ n ∧ u = .int .i64 q ∧ Aside0 (Blk wr Bx #[.int .i64 n, .bool sg, .bool an] 88) ∧ Aside0 (Blk wr Bs (stk m) 92) ∧ Aside0 (J (mvIn n sg an i ++ mvTo sg i q) wr) ∧ Aside0 (W.heap.size ≤ wr.heap.size)) (fun u _ => n - (intOf u).toNat)
     case atStart => exact ⟨i, Nat.le_refl _, by omega, rfl, HX2, HS2, .mk (by rw [mvTo_low _ _ _ (Nat.le_refl _), List.append_nil]; exact HJ2.out), HZ2⟩
     case round =>
      obtain ⟨q, hiq, hq, rfl, HX3, HS3, HJ3, HZ3⟩ := hrel
      clear HX2 HS2 HJ2 HZ2
      have c0 := HX3.out.cell 0 (v := .int .i64 n) rfl
      have c1 := HX3.out.cell 1 (v := .bool sg) rfl
      have hwq : IntKind.i64.wrap ((q : Int) + 1) = (q : Int) + 1 := iw64 (by omega) (by omega)
      by_cases hqn : q < n
      ·have hq1 : (q : Int) < (n : Int) := by omega
       by_cases hqi : q = i
       ·have hqe : ((q : Int) == (i : Int)) = true := by rw [beq_iff_eq]; omega
        by_cases hsg : sg = true
        ·have hgo : sg = true ∨ q ≠ i := .inl hsg
         have HQI := Aside0.mk hqi
         clear hqi
         rw [hsg] at c1
         clear hsg
         obtain ⟨r, hr⟩ := mv_at n sg an i q hlt hqn hiq HST.out hgo
         have HRG := Aside0.mk hr
         clear hr
         obtain ⟨z0, z1, z2, z3, z4, z5, z6⟩ := stk_cells HS3.out
         gi_wp2
         clear z0 z1 z2 z3 z4 z5 z6
         obtain ⟨Wt, hWt⟩ : ∃ Wt, wr.alloc (Obj.cells (stk m) 92) = Wt := ⟨_, rfl⟩
         have BT := Aside0.mk (show Below wr.heap.size wr Wt by rw [← hWt]; exact (Below.refl _ wr).alloc (Nat.le_refl _) _)
         have RT := Aside0.mk (show Blk Wt wr.heap.size (stk m) 92 by rw [← hWt]; exact Blk.new wr _ 92)
         have hc1 : Wt.drew.cell? ⟨Bx, 1, none⟩ = some (.bool sg) := (HX3.out.below BT.out HX3.out.lt).cell 1 rfl
         have RT2 := Aside0.mk (stk_row RT.out.drew)
         have BT2 := Aside0.mk (BT.out.drew)
         have hWt' : wr.alloc (Obj.cells #[Value.int IntKind.i8 (m 0), Value.int IntKind.i8 (m 1), Value.int IntKind.i8 (m 2), Value.int IntKind.i8 (m 3), Value.int IntKind.i8 (m 4), Value.int IntKind.i8 (m 5), Value.int IntKind.i8 (m 6)] 92) = Wt := hWt
         rw [hWt']
         clear hWt hWt' RT BT
         refine wpIn_wide.2 ?_
         refine start_ (n := 6) (S := fun w' => w'.cell? ⟨Bx, 1, none⟩ = some (.bool sg)) (ds := [5]) #[false, false, false, false, false, false] (by kernel_rfl) rfl rfl hc1 (fun hHeld => ?_)
         generalize Wt.drew = Wd at hHeld RT2 BT2 ⊢
         refine pure_ (i := 0) (N := (some 35)) (v := ?_) (a' := ?_) #[true, false, false, false, false, false] rfl rfl (by kernel_rfl) (fun _ _ _ h => h) (Or.inl ⟨by rfl, ?_⟩) ?_ ?_
         rotate_left
         ·intro w'
          go_simp
          with_reducible rfl
         rotate_left
         ·simp only [Act.put, List.setIfInBounds_toArray, List.set_cons_zero, List.set_cons_succ]
          rfl
         refine pure_ (i := 1) (N := (some 36)) (v := ?_) (a' := ?_) #[true, true, false, false, false, false] rfl rfl (by kernel_rfl) (fun _ _ _ h => h) (Or.inl ⟨by rfl, ?_⟩) ?_ ?_
         rotate_left
         ·intro w'
          go_simp
          with_reducible rfl
         rotate_left
         ·simp only [Act.put, List.setIfInBounds_toArray, List.set_cons_zero, List.set_cons_succ]
          rfl
         refine pure_ (i := 2) (N := (some 37)) (v := ?_) (a' := ?_) #[true, true, true, false, false, false] rfl rfl (by kernel_rfl) (fun _ _ _ h => h) (Or.inl ⟨by rfl, ?_⟩) ?_ ?_
         rotate_left
         ·intro w'
          go_simp
          with_reducible rfl
         rotate_left
         ·simp only [Act.put, List.setIfInBounds_toArray, List.set_cons_zero, List.set_cons_succ]
          rfl
         refine pure_ (i := 3) (N := (some 38)) (v := ?_) (a' := ?_) #[true, true, true, true, false, false] rfl rfl (by kernel_rfl) (fun _ _ _ h => h) (Or.inl ⟨by rfl, ?_⟩) ?_ ?_
         rotate_left
         ·intro w'
          go_simp
          with_reducible rfl
         rotate_left
         ·simp only [Act.put, List.setIfInBounds_toArray, List.set_cons_zero, List.set_cons_succ]
          rfl
         refine take_ (i := 4) (N := (some 39)) (v := ?_) (a' := ?_) #[true, true, true, true, true, false] rfl rfl (by kernel_rfl) (fun _ _ _ h => h) (Or.inl ⟨by rfl, ?_⟩) hHeld ?_ ?_
         rotate_left
         ·rintro w' s0
          go_simp
          with_reducible rfl
         rotate_left
         ·simp only [Act.put, List.setIfInBounds_toArray, List.set_cons_zero, List.set_cons_succ]
          rfl
         refine last_ (i := 5) (N := (some 40)) #[true, true, true, true, true, true] rfl rfl (by kernel_rfl) (by decide) (fun K hK => ?_)
         refine goes_ Try.func87 (by kernel_rfl) rfl #[.slice (some ⟨wr.heap.size, 0, none⟩) 7 7, .int .i64 (i : Int), .int .i64 (q : Int), .bool sg] (by rfl) rfl rfl (by (try simp only [List.map_toArray, List.map_cons, List.map_nil]); first | done | rfl) ?_
         refine (flipped8_calls (t := 92) (n := 7) sg RT2.out (show i ≤ q by omega) (show q < 7 by omega) (by omega) (by omega) HM.out).mono ?_
         rintro e W5 ⟨rfl, cs5, hr5, _, hz5, ha5⟩
         have RT5 := Aside0.mk (row_stk hr5 (by rw [hz5]; rfl))
         have A5 := Aside0.mk (Alone.below BT2.out ha5 (Nat.le_refl _))
         have S5 := Aside0.mk (step_below 0 W.heap.size A5.out)
         clear hr5 hz5 ha5
         refine ⟨_, rfl, ?_⟩
         refine hK.out _ _ ?_
         clear hK K hHeld
         refine norm_ (a' := ?_) ?_ ?_
         rotate_left
         ·show Act.put _ (some 40) _ = _
          simp only [Act.put, List.setIfInBounds_toArray, List.set_cons_zero, List.set_cons_succ]
          rfl
         refine done_ (by kernel_rfl) ?_
         have HX5 := Aside0.mk (HX3.out.below A5.out HX3.out.lt)
         have HS5 := Aside0.mk (HS3.out.below A5.out HS3.out.lt)
         have HZ5 := Aside0.mk (show W.heap.size ≤ W5.heap.size by have := HZ3.out; have := A5.out.size; omega)
         obtain ⟨fn, tmps, assign, body, hy, hR⟩ := HY.out _ _ _ _ HRG.out (HJ.out _ _ _ HJ3.out S5.out)
         try dsimp only at hy
         obtain ⟨m5, hm5⟩ : ∃ f, fl sg m i (q + 1) = f := ⟨_, rfl⟩
         have hrt := RT5.out
         rw [hm5] at hrt
         simp only [encM, stk, hm5] at hy
         obtain ⟨z0, z1, z2, z3, z4, z5, z6⟩ := stk_cells hrt
         have HR := Aside0.mk hR
         clear hR hrt hm5 HX3 HS3 HJ3 HZ3 RT2 BT2 RT5 A5 S5 hc1 c0 c1
         gi_wp2
         refine HR.out.mono ?_
         rintro e W6 (⟨rfl, hJ6, hk6⟩ | ⟨rfl, hJx6⟩)
         ·have HX6 := Aside0.mk (show Blk W6 Bx #[.int .i64 n, .bool sg, .bool an] 88 from hk6.same _ _ HX5.out (.inl (.inl rfl)))
          have HS6 := Aside0.mk (show Blk W6 Bs (stk m) 92 from hk6.same _ _ HS5.out (.inl (.inr rfl)))
          have HZ6 := Aside0.mk (show W.heap.size ≤ W6.heap.size by have := HZ5.out; have := hk6.size; omega)
          have HJ6 := Aside0.mk hJ6
          clear hJ6 hk6 hy HR z0 z1 z2 z3 z4 z5 z6
          gi_wp2
          exact ⟨⟨q + 1, by omega, by omega, by simp, HX6, HS6, .mk (by rw [mvTo_succ, if_pos ⟨hiq, hgo⟩, ← List.append_assoc]; exact HJ6.out), HZ6⟩, by simp [intOf]; omega⟩
         ·have HX6 := Aside0.mk hJx6
          clear hJx6 hy HR z0 z1 z2 z3 z4 z5 z6
          gi_wp2
          refine bodyPost_ret (results_none rfl _ _ _) rfl ?_
          exact ⟨⟨_, rfl⟩, .inr ⟨_, _, _, HRG.out, HX6.out⟩⟩
        ·have hsg' : sg = false := by simpa using hsg
         subst hsg'
         have HQI := Aside0.mk hqi
         clear hqi hsg
         gi_wp2
         exact ⟨⟨q + 1, by omega, by omega, by simp, HX3, HS3, .mk (by rw [mvTo_succ, if_neg (by rw [HQI.out]; simp)]; exact HJ3.out), HZ3⟩, by simp [intOf]; omega⟩
       ·have hqe : ((q : Int) == (i : Int)) = false := by rw [beq_eq_false_iff_ne]; omega
        have hgo : sg = true ∨ q ≠ i := .inr hqi
        have HQI := Aside0.mk hqi
        clear hqi
        obtain ⟨r, hr⟩ := mv_at n sg an i q hlt hqn hiq HST.out hgo
        have HRG := Aside0.mk hr
        clear hr
        obtain ⟨z0, z1, z2, z3, z4, z5, z6⟩ := stk_cells HS3.out
        gi_wp2
        clear z0 z1 z2 z3 z4 z5 z6
        obtain ⟨Wt, hWt⟩ : ∃ Wt, wr.alloc (Obj.cells (stk m) 92) = Wt := ⟨_, rfl⟩
        have BT := Aside0.mk (show Below wr.heap.size wr Wt by rw [← hWt]; exact (Below.refl _ wr).alloc (Nat.le_refl _) _)
        have RT := Aside0.mk (show Blk Wt wr.heap.size (stk m) 92 by rw [← hWt]; exact Blk.new wr _ 92)
        have hc1 : Wt.drew.cell? ⟨Bx, 1, none⟩ = some (.bool sg) := (HX3.out.below BT.out HX3.out.lt).cell 1 rfl
        have RT2 := Aside0.mk (stk_row RT.out.drew)
        have BT2 := Aside0.mk (BT.out.drew)
        have hWt' : wr.alloc (Obj.cells #[Value.int IntKind.i8 (m 0), Value.int IntKind.i8 (m 1), Value.int IntKind.i8 (m 2), Value.int IntKind.i8 (m 3), Value.int IntKind.i8 (m 4), Value.int IntKind.i8 (m 5), Value.int IntKind.i8 (m 6)] 92) = Wt := hWt
        rw [hWt']
        clear hWt hWt' RT BT
        refine wpIn_wide.2 ?_
        refine start_ (n := 6) (S := fun w' => w'.cell? ⟨Bx, 1, none⟩ = some (.bool sg)) (ds := [5]) #[false, false, false, false, false, false] (by kernel_rfl) rfl rfl hc1 (fun hHeld => ?_)
        generalize Wt.drew = Wd at hHeld RT2 BT2 ⊢
        refine pure_ (i := 0) (N := (some 35)) (v := ?_) (a' := ?_) #[true, false, false, false, false, false] rfl rfl (by kernel_rfl) (fun _ _ _ h => h) (Or.inl ⟨by rfl, ?_⟩) ?_ ?_
        rotate_left
        ·intro w'
         go_simp
         with_reducible rfl
        rotate_left
        ·simp only [Act.put, List.setIfInBounds_toArray, List.set_cons_zero, List.set_cons_succ]
         rfl
        refine pure_ (i := 1) (N := (some 36)) (v := ?_) (a' := ?_) #[true, true, false, false, false, false] rfl rfl (by kernel_rfl) (fun _ _ _ h => h) (Or.inl ⟨by rfl, ?_⟩) ?_ ?_
        rotate_left
        ·intro w'
         go_simp
         with_reducible rfl
        rotate_left
        ·simp only [Act.put, List.setIfInBounds_toArray, List.set_cons_zero, List.set_cons_succ]
         rfl
        refine pure_ (i := 2) (N := (some 37)) (v := ?_) (a' := ?_) #[true, true, true, false, false, false] rfl rfl (by kernel_rfl) (fun _ _ _ h => h) (Or.inl ⟨by rfl, ?_⟩) ?_ ?_
        rotate_left
        ·intro w'
         go_simp
         with_reducible rfl
        rotate_left
        ·simp only [Act.put, List.setIfInBounds_toArray, List.set_cons_zero, List.set_cons_succ]
         rfl
        refine pure_ (i := 3) (N := (some 38)) (v := ?_) (a' := ?_) #[true, true, true, true, false, false] rfl rfl (by kernel_rfl) (fun _ _ _ h => h) (Or.inl ⟨by rfl, ?_⟩) ?_ ?_
        rotate_left
        ·intro w'
         go_simp
         with_reducible rfl
        rotate_left
        ·simp only [Act.put, List.setIfInBounds_toArray, List.set_cons_zero, List.set_cons_succ]
         rfl
        refine take_ (i := 4) (N := (some 39)) (v := ?_) (a' := ?_) #[true, true, true, true, true, false] rfl rfl (by kernel_rfl) (fun _ _ _ h => h) (Or.inl ⟨by rfl, ?_⟩) hHeld ?_ ?_
        rotate_left
        ·rintro w' s0
         go_simp
         with_reducible rfl
        rotate_left
        ·simp only [Act.put, List.setIfInBounds_toArray, List.set_cons_zero, List.set_cons_succ]
         rfl
        refine last_ (i := 5) (N := (some 40)) #[true, true, true, true, true, true] rfl rfl (by kernel_rfl) (by decide) (fun K hK => ?_)
        refine goes_ Try.func87 (by kernel_rfl) rfl #[.slice (some ⟨wr.heap.size, 0, none⟩) 7 7, .int .i64 (i : Int), .int .i64 (q : Int), .bool sg] (by rfl) rfl rfl (by (try simp only [List.map_toArray, List.map_cons, List.map_nil]); first | done | rfl) ?_
        refine (flipped8_calls (t := 92) (n := 7) sg RT2.out (show i ≤ q by omega) (show q < 7 by omega) (by omega) (by omega) HM.out).mono ?_
        rintro e W5 ⟨rfl, cs5, hr5, _, hz5, ha5⟩
        have RT5 := Aside0.mk (row_stk hr5 (by rw [hz5]; rfl))
        have A5 := Aside0.mk (Alone.below BT2.out ha5 (Nat.le_refl _))
        have S5 := Aside0.mk (step_below 0 W.heap.size A5.out)
        clear hr5 hz5 ha5
        refine ⟨_, rfl, ?_⟩
        refine hK.out _ _ ?_
        clear hK K hHeld
        refine norm_ (a' := ?_) ?_ ?_
        rotate_left
        ·show Act.put _ (some 40) _ = _
         simp only [Act.put, List.setIfInBounds_toArray, List.set_cons_zero, List.set_cons_succ]
         rfl
        refine done_ (by kernel_rfl) ?_
        have HX5 := Aside0.mk (HX3.out.below A5.out HX3.out.lt)
        have HS5 := Aside0.mk (HS3.out.below A5.out HS3.out.lt)
        have HZ5 := Aside0.mk (show W.heap.size ≤ W5.heap.size by have := HZ3.out; have := A5.out.size; omega)
        obtain ⟨fn, tmps, assign, body, hy, hR⟩ := HY.out _ _ _ _ HRG.out (HJ.out _ _ _ HJ3.out S5.out)
        try dsimp only at hy
        obtain ⟨m5, hm5⟩ : ∃ f, fl sg m i (q + 1) = f := ⟨_, rfl⟩
        have hrt := RT5.out
        rw [hm5] at hrt
        simp only [encM, stk, hm5] at hy
        obtain ⟨z0, z1, z2, z3, z4, z5, z6⟩ := stk_cells hrt
        have HR := Aside0.mk hR
        clear hR hrt hm5 HX3 HS3 HJ3 HZ3 RT2 BT2 RT5 A5 S5 hc1 c0 c1
        gi_wp2
        refine HR.out.mono ?_
        rintro e W6 (⟨rfl, hJ6, hk6⟩ | ⟨rfl, hJx6⟩)
        ·have HX6 := Aside0.mk (show Blk W6 Bx #[.int .i64 n, .bool sg, .bool an] 88 from hk6.same _ _ HX5.out (.inl (.inl rfl)))
         have HS6 := Aside0.mk (show Blk W6 Bs (stk m) 92 from hk6.same _ _ HS5.out (.inl (.inr rfl)))
         have HZ6 := Aside0.mk (show W.heap.size ≤ W6.heap.size by have := HZ5.out; have := hk6.size; omega)
         have HJ6 := Aside0.mk hJ6
         clear hJ6 hk6 hy HR z0 z1 z2 z3 z4 z5 z6
         gi_wp2
         exact ⟨⟨q + 1, by omega, by omega, by simp, HX6, HS6, .mk (by rw [mvTo_succ, if_pos ⟨hiq, hgo⟩, ← List.append_assoc]; exact HJ6.out), HZ6⟩, by simp [intOf]; omega⟩
        ·have HX6 := Aside0.mk hJx6
         clear hJx6 hy HR z0 z1 z2 z3 z4 z5 z6
         gi_wp2
         refine bodyPost_ret (results_none rfl _ _ _) rfl ?_
         exact ⟨⟨_, rfl⟩, .inr ⟨_, _, _, HRG.out, HX6.out⟩⟩
      ·obtain rfl : q = n := by omega
       gi_wp2
       exact ⟨⟨i + 1, by omega, by simp, HX3, HS3, .mk (by rw [mvIn_succ, mvAt, if_neg HST.out]; exact HJ3.out), HZ3⟩, by simp [intOf]; omega⟩
  ·obtain rfl : i = n := by omega
   gi_wp2
   refine bodyPost_end (results_none rfl _ _ _) rfl ?_
   exact ⟨⟨_, rfl⟩, .inl HJ2.out⟩
end Go.Proofs.Ytepjhdblmghckaa.G
