/- PancakeOrderTurns: turns that order any short row, the smallest number of them, or ErrArg: a part of the proof (3 of 14): contracts of the functions, and plain lemmas. -/
import Derived.Test.YtepjhdblmghckaaUo
import Derived.Test.YtepjhdblmghckaaEo1
import Derived.Test.YtepjhdblmghckaaEo2
import Derived.Shelf.Small.Bits
import Derived.Shelf.Small.Wraps
import Derived.Shelf.Strconv.Itoa0
import Derived.Shelf.Sort.Plain
import Derived.Shelf.Slices.Reverse
import Derived.Ground.Names2Prog
import Derived.Shelf.Slices.Clone
import Derived.Shelf.Slices.SearchI
import Derived.Shelf.Slices.Cells
import Derived.Shelf.Slices.In.SortNone
import Derived.Ground.SlgnProg
import Derived.Shelf.SlicesE.Clone
import Derived.Outline
import Derived.Lib.OthersKept
import Derived.Shelf.SlicesE.Reverse
import Derived.RangeFuncNested
import Derived.RangeFuncBound
import Derived.RangeFuncCalls
import Derived.RangeFuncLeaves
import Derived.Shelf.Abstract
import Derived.Sort.QuietIn
import Derived.OwnWalkIn
import Derived.BigRegionIn
import Derived.Stop.RegionWithIn
import Derived.TacticsInMore
import Derived.LoopNIn
import Derived.LoopIn
import Derived.Maps.OwnIn
import Derived.Maps.OwnSet
import Derived.Maps.Range
import Derived.DeepKeys4
import Derived.ControlIn
import Derived.WalkMore
set_option linter.unusedVariables false
set_option linter.unusedSimpArgs false
namespace Go.Proofs.Ytepjhdblmghckaa.Q
open Go.Proofs.Ytepjhdblmghckaa.G
open Go.RowKit Go.Proofs.YtepjhdblmghckaaW.PrintWords Go.Proofs.YtepjhdblmghckaaW.PrintLast Go.Proofs.YtepjhdblmghckaaW.PrintMore
attribute [local go_sem] max2_int min2_int max_two min_two max_three min_three max_four min_four
def bibelotref07_Distance.f (k:Nat) (l0:List Int):Option (Int):=(bibelotref07_Components.f k l0).bind fun bt258=>((bibelotref07_Circles.f k l0).bind fun t263=>(if bt258.2.2.2=true then(some (wrap64 ((wrap64 ((wrap64 ((wrap64 ((l0.length:Int)+1)) - (t263.length:Int)))+bt258.2.2.1))+1)))else(some (wrap64 ((wrap64 ((wrap64 ((l0.length:Int)+1)) - (t263.length:Int)))+bt258.2.2.1)))))
def bibelotref07_Distance.T2:Bool×List (List Nat×List Nat):=(true, [([], []),([0], [0]),([1], [1]),([], []),([3], [3]),([4], [4]),([2,5], [2,5]),([], []),([7], [7]),([6,8], [6,8]),([9,4,0,1,2,3,4,5,6,7,8,9], [9])])
def bibelotref07_Distance.B2:List Nat:= [0,1,3,0,8,24,63,0,128,511,1023]
theorem bibelotref07_Distance.tab2:rtab .any (opsOf Try.f25 2)=bibelotref07_Distance.T2:=by kernel_rfl
theorem bibelotref07_Distance.bits2:waitsOk bibelotref07_Distance.T2.2 bibelotref07_Distance.B2=true:=by kernel_rfl
set_option maxHeartbeats 8000000 in
set_option maxRecDepth 100000 in
theorem bibelotref07_Distance.calls (k:Nat) (A0:Option Addr) (c0:Nat) (l0:List Int) (r:Int) (w:World) (hr0:Kd.C (Kd.int .i64) w A0 l0.length l0) (hc0:l0.length≤c0) (h:bibelotref07_Distance.f k l0=some r):
  Calls Try.prog 25 #[.slice A0 l0.length c0] w fun e w'=>e= .returned (.int .i64 r)∧Below w.heap.size w w':=by
 have hu31:=Try.underlying31;have HR0:=Aside0.mk hr0;have HC0:=Aside0.mk hc0;clear hr0 hc0;have HB:=Aside0.mk (Below.refl w.heap.size w);have H:((bibelotref07_Components.f k l0).bind fun bt258=>((bibelotref07_Circles.f k l0).bind fun t263=>(if bt258.2.2.2=true then(some (wrap64 ((wrap64 ((wrap64 ((wrap64 ((l0.length:Int)+1)) - (t263.length:Int)))+bt258.2.2.1))+1)))else(some (wrap64 ((wrap64 ((wrap64 ((l0.length:Int)+1)) - (t263.length:Int)))+bt258.2.2.1))))))=some r:=h;clear h;replace H:=Option.bind_eq_some_iff.mp H;obtain⟨⟨t258,t259,t260,t261⟩,A20,H⟩:=H;replace H:((bibelotref07_Circles.f k l0).bind fun t263=>(if t261=true then(some (wrap64 ((wrap64 ((wrap64 ((wrap64 ((l0.length:Int)+1)) - (t263.length:Int)))+t260))+1)))else(some (wrap64 ((wrap64 ((wrap64 ((l0.length:Int)+1)) - (t263.length:Int)))+t260)))))=some r:=H;have A2:=Aside0.mk A20;clear A20;replace H:=Option.bind_eq_some_iff.mp H;obtain⟨t263,A30,H⟩:=H;replace H:(if t261=true then(some (wrap64 ((wrap64 ((wrap64 ((wrap64 ((l0.length:Int)+1)) - (t263.length:Int)))+t260))+1)))else(some (wrap64 ((wrap64 ((wrap64 ((l0.length:Int)+1)) - (t263.length:Int)))+t260))))=some r:=H;have A3:=Aside0.mk A30;clear A30;by_cases c4:t261=true
 ·subst c4;have H1:(some (wrap64 ((wrap64 ((wrap64 ((wrap64 ((l0.length:Int)+1)) - (t263.length:Int)))+t260))+1)))=some r:=by rw[if_pos rfl]at H;exact H
  clear H;have H:=H1;clear H1;obtain rfl:=Option.some.inj H
  go_enter Try.func25,Try.ntmps25
  try go_wp2_with (first|((with_reducible refine gate_callee (f:=24) rfl ?_);refine goesL_ (some 6) rfl rfl Try.func24 tK rfl #[.slice A0 l0.length c0] rfl tM ?_;(with_reducible refine(bibelotref07_Components.calls k _ _ l0 t258 t259 t260 true _ ?side1 ?side2 A2.out).mono ?_);(case side1=>repeat(first|exact HR0.out|(with_reducible refine Kd.C_alloc ?_ _)|(with_reducible refine Kd.C_drewN ?_ _)|(with_reducible refine Kd.C_drew ?_)));(case side2=>exact HC0.out);rintro e w5 ⟨rfl,hb⟩;refine⟨_,rfl,?_⟩;have n0_:=Aside0.mk (below_step (tB HB.out) hb);clear HB;have HB:=n0_;clear n0_;(try clear hb);(try clear hb2);(try clear hk);(try clear hi))|((with_reducible refine gate_dst (N:=3) rfl ?_);refine box_event ?hg (N:=3) ?hd (cs:= #[.int .i64 0, .int .i64 0, .int .i64 0, .bool false]) (t:=31) ?hr ?_;(case hd=>rfl);(case hg=>rfl);(case hr=>first|(go_simp;done)|(go_simp;rfl));intro gb262 hg w6 hbox hb;have n0_:=Aside0.mk (below_step (tB HB.out) hb);have n1_:=Aside0.mk (hbox);have n2_:=Aside0.mk ((by rw[hg];exact(below_size (tB HB.out)):w.heap.size≤gb262));have n3_:=Aside0.mk ((by rw[hg];exact(below_size (tB HB.out)):w.heap.size≤gb262));clear HB;have HB:=n0_;have BK262:=n1_;have GW262:=n2_;have GE262:=n3_;clear n0_ n1_ n2_ n3_;clear hb hbox hg;have hcz7_0:w6.cell? ⟨gb262,0,none⟩=some (.int .i64 0):=(blk_cell BK262.out 0).trans rfl;have hcz7_1:w6.cell? ⟨gb262,1,none⟩=some (.int .i64 0):=(blk_cell BK262.out 1).trans rfl;have hcz7_2:w6.cell? ⟨gb262,2,none⟩=some (.int .i64 0):=(blk_cell BK262.out 2).trans rfl;have hcz7_3:w6.cell? ⟨gb262,3,none⟩=some (.bool false):=(blk_cell BK262.out 3).trans rfl;have hfz7_0:=blk_frozen BK262.out 0;have hfz7_1:=blk_frozen BK262.out 1;have hfz7_2:=blk_frozen BK262.out 2;have hfz7_3:=blk_frozen BK262.out 3))
  have n0_:Aside0 (((((w6.setCell ⟨gb262,0,none⟩ (.int .i64 t258)).setCell ⟨gb262,1,none⟩ (.int .i64 t259)).setCell ⟨gb262,2,none⟩ (.int .i64 t260)).setCell ⟨gb262,3,none⟩ (.bool true)).heap[gb262]? =some (.cells #[.int .i64 t258, .int .i64 t259, .int .i64 t260, .bool true] 31 (0,0))):=⟨by(with_reducible repeat(first|refine blk_drewN ?_ _|refine blk_drew ?_|refine blk_alloc ?_ _));refine blk_put (cs:= #[.int .i64 t258, .int .i64 t259, .int .i64 t260, .bool false]) ?_ 3 _ rfl;(with_reducible repeat(first|refine blk_drewN ?_ _|refine blk_drew ?_|refine blk_alloc ?_ _));refine blk_put (cs:= #[.int .i64 t258, .int .i64 t259, .int .i64 0, .bool false]) ?_ 2 _ rfl;(with_reducible repeat(first|refine blk_drewN ?_ _|refine blk_drew ?_|refine blk_alloc ?_ _));refine blk_put (cs:= #[.int .i64 t258, .int .i64 0, .int .i64 0, .bool false]) ?_ 1 _ rfl;(with_reducible repeat(first|refine blk_drewN ?_ _|refine blk_drew ?_|refine blk_alloc ?_ _));refine blk_put (cs:= #[.int .i64 0, .int .i64 0, .int .i64 0, .bool false]) ?_ 0 _ rfl;(with_reducible repeat(first|refine blk_drewN ?_ _|refine blk_drew ?_|refine blk_alloc ?_ _));exact BK262.out⟩
  have n1_:Aside0 (Below w.heap.size w ((((w6.setCell ⟨gb262,0,none⟩ (.int .i64 t258)).setCell ⟨gb262,1,none⟩ (.int .i64 t259)).setCell ⟨gb262,2,none⟩ (.int .i64 t260)).setCell ⟨gb262,3,none⟩ (.bool true))):=⟨by repeat(first|(with_reducible first|exact HB.out|apply below_alloc|apply pw_below_drewN|apply below_drew1|refine below_set ?_ GE262.out)|exact HB.out)⟩
  (try clear BK262)
  (try clear HB)
  generalize ((((w6.setCell ⟨gb262,0,none⟩ (.int .i64 t258)).setCell ⟨gb262,1,none⟩ (.int .i64 t259)).setCell ⟨gb262,2,none⟩ (.int .i64 t260)).setCell ⟨gb262,3,none⟩ (.bool true))=w8 at n0_ n1_ ⊢;have BK262:=n0_;have HB:=n1_;clear n0_ n1_;have n0_:=Aside0.mk (blk_drew BK262.out);have n1_:=Aside0.mk (below_drew1 HB.out);clear BK262;clear HB;have BK262:=n0_;have HB:=n1_;clear n0_ n1_;refine start_ (n:=11) (S:=fun w'=>w'.cell? ⟨gb262,0,none⟩=some (.int .i64 t258)∧w'.cell? ⟨gb262,1,none⟩=some (.int .i64 t259)∧w'.cell? ⟨gb262,2,none⟩=some (.int .i64 t260)∧w'.cell? ⟨gb262,3,none⟩=some (.bool true)) (ds:= []) #[false,false,false,false,false,false,false,false,false,false,false] tK rfl rfl ⟨(blk_cell BK262.out 0).trans rfl,(blk_cell BK262.out 1).trans rfl,(blk_cell BK262.out 2).trans rfl,(blk_cell BK262.out 3).trans rfl⟩ (fun hHeld=>?_);refine with_tabW bibelotref07_Distance.tab2 bibelotref07_Distance.bits2 (fun HT_ HW_=>?_);generalize w8.drew=w9 at BK262 HB hHeld ⊢;refine puG 0 (some 7) HT_.out ?_;refine puG 1 (some 8) HT_.out ?_;refine puG 2 (some 9) HT_.out ?_;refine puG 3 (some 10) HT_.out ?_;refine puG 7 (some 14) HT_.out ?_;refine take_ (i:=8) (N:=some 15) (v:=?_) (a':=?_) #[true,true,true,true,false,false,false,true,true,false,false] rfl rfl (take_ofW HT_.out HW_.out tK) (fun _ _ _ h=>h) (Or.inl ⟨by rfl,?_⟩) hHeld ?_ ?_;rotate_left
  ·rintro w' ⟨s0,s1,s2,s3⟩;go_simp;with_reducible rfl
  rotate_left
  ·simp only[Act.put,List.setIfInBounds_toArray,List.set_cons_zero,List.set_cons_succ,i64_w,i32_w];rfl
  refine one_ (i:=4) (N:=some 11) #[true,true,true,true,true,false,false,true,true,false,false] rfl rfl (one_of HT_.out tK) tD (fun K hK=>?_);refine goes_ Try.func37 tK rfl #[.slice A0 l0.length c0] (by rfl) rfl rfl tM ?_;with_reducible refine(bibelotref07_Circles.calls k _ _ l0 t263 _ ?side1 ?side2 A3.out).mono ?_
  (case side1=>repeat(first|exact(Kd.C_below HR0.out HB.out)|(with_reducible refine Kd.C_alloc ?_ _)|(with_reducible refine Kd.C_drewN ?_ _)|(with_reducible refine Kd.C_drew ?_)))
  (case side2=>exact HC0.out)
  rintro e w10 ⟨v264,rfl,ho0,hb⟩;refine⟨_,rfl,?_⟩;have n0_:=Aside0.mk (Kd.S_lower ho0 (below_size (by repeat(first|(with_reducible first|exact HB.out|apply below_alloc|apply pw_below_drewN|apply below_drew1|refine below_set ?_ GE262.out)|exact HB.out))));have n1_:=Aside0.mk (blk_below (g:=gb262) (o:= .cells #[.int .i64 t258, .int .i64 t259, .int .i64 t260, .bool true] 31 (0,0)) (tL BK262.out) hb);have n2_:=Aside0.mk (below_step (by repeat(first|(with_reducible first|exact HB.out|apply below_alloc|apply pw_below_drewN|apply below_drew1|refine below_set ?_ GE262.out)|exact HB.out)) hb);clear BK262;clear HB;have HO265:=n0_;have BK262:=n1_;have HB:=n2_;clear n0_ n1_ n2_
  (try clear hb)
  (try clear hb2)
  (try clear hk)
  (try clear hi)
  (try clear ho0)
  obtain⟨Ao11,co11,eo11⟩:=Kd.S_slice HO265.out
  (first|subst eo11|(injection eo11 with f1_ f2_ f3_;have f4_:=f1_.symm;have f5_:=f3_.symm;clear f1_ f2_ f3_;subst f4_;subst f5_))
  refine hK.out _ _ ⟨(blk_cell BK262.out 0).trans rfl,(blk_cell BK262.out 1).trans rfl,(blk_cell BK262.out 2).trans rfl,(blk_cell BK262.out 3).trans rfl⟩ (fun hHeld=>?_);clear hK K;refine norm_ (a':=?_) ?_ ?_;rotate_left
  ·show Act.put _ (some 11) _=_;simp only[Act.put,List.setIfInBounds_toArray,List.set_cons_zero,List.set_cons_succ,i64_w,i32_w];rfl
  refine puG 5 (some 12) HT_.out ?_;refine puG 6 (some 13) HT_.out ?_;refine puG 9 (some 16) HT_.out ?_;refine puG 10 (some 4) HT_.out ?_;refine done_ (done_of HT_.out tK) ?_;have hcz12_0:w10.cell? ⟨gb262,0,none⟩=some (.int .i64 t258):=(blk_cell BK262.out 0).trans rfl;have hcz12_1:w10.cell? ⟨gb262,1,none⟩=some (.int .i64 t259):=(blk_cell BK262.out 1).trans rfl;have hcz12_2:w10.cell? ⟨gb262,2,none⟩=some (.int .i64 t260):=(blk_cell BK262.out 2).trans rfl;have hcz12_3:w10.cell? ⟨gb262,3,none⟩=some (.bool true):=(blk_cell BK262.out 3).trans rfl;have hfz12_0:=blk_frozen BK262.out 0;have hfz12_1:=blk_frozen BK262.out 1;have hfz12_2:=blk_frozen BK262.out 2;have hfz12_3:=blk_frozen BK262.out 3;(try go_wp2);go_ret;exact⟨by first|rfl|(simp[errW_none,errW_some]<;>rfl)|(simp[*,errW_none,errW_some]<;>rfl),by repeat(first|(with_reducible first|exact HB.out|apply below_alloc|apply pw_below_drewN|apply below_drew1|refine below_set ?_ GE262.out)|exact HB.out)⟩
 ·replace c4:=Bool.eq_false_iff.mpr c4;subst c4;have H1:(some (wrap64 ((wrap64 ((wrap64 ((l0.length:Int)+1)) - (t263.length:Int)))+t260)))=some r:=by rw[if_neg (show ¬(false=true)by decide)]at H;exact H
  clear H;have H:=H1;clear H1;obtain rfl:=Option.some.inj H
  go_enter Try.func25,Try.ntmps25
  try go_wp2_with (first|((with_reducible refine gate_callee (f:=24) rfl ?_);refine goesL_ (some 6) rfl rfl Try.func24 tK rfl #[.slice A0 l0.length c0] rfl tM ?_;(with_reducible refine(bibelotref07_Components.calls k _ _ l0 t258 t259 t260 false _ ?side1 ?side2 A2.out).mono ?_);(case side1=>repeat(first|exact HR0.out|(with_reducible refine Kd.C_alloc ?_ _)|(with_reducible refine Kd.C_drewN ?_ _)|(with_reducible refine Kd.C_drew ?_)));(case side2=>exact HC0.out);rintro e w13 ⟨rfl,hb⟩;refine⟨_,rfl,?_⟩;have n0_:=Aside0.mk (below_step (tB HB.out) hb);clear HB;have HB:=n0_;clear n0_;(try clear hb);(try clear hb2);(try clear hk);(try clear hi))|((with_reducible refine gate_dst (N:=3) rfl ?_);refine box_event ?hg (N:=3) ?hd (cs:= #[.int .i64 0, .int .i64 0, .int .i64 0, .bool false]) (t:=31) ?hr ?_;(case hd=>rfl);(case hg=>rfl);(case hr=>first|(go_simp;done)|(go_simp;rfl));intro gb262 hg w14 hbox hb;have n0_:=Aside0.mk (below_step (tB HB.out) hb);have n1_:=Aside0.mk (hbox);have n2_:=Aside0.mk ((by rw[hg];exact(below_size (tB HB.out)):w.heap.size≤gb262));have n3_:=Aside0.mk ((by rw[hg];exact(below_size (tB HB.out)):w.heap.size≤gb262));clear HB;have HB:=n0_;have BK262:=n1_;have GW262:=n2_;have GE262:=n3_;clear n0_ n1_ n2_ n3_;clear hb hbox hg;have hcz15_0:w14.cell? ⟨gb262,0,none⟩=some (.int .i64 0):=(blk_cell BK262.out 0).trans rfl;have hcz15_1:w14.cell? ⟨gb262,1,none⟩=some (.int .i64 0):=(blk_cell BK262.out 1).trans rfl;have hcz15_2:w14.cell? ⟨gb262,2,none⟩=some (.int .i64 0):=(blk_cell BK262.out 2).trans rfl;have hcz15_3:w14.cell? ⟨gb262,3,none⟩=some (.bool false):=(blk_cell BK262.out 3).trans rfl;have hfz15_0:=blk_frozen BK262.out 0;have hfz15_1:=blk_frozen BK262.out 1;have hfz15_2:=blk_frozen BK262.out 2;have hfz15_3:=blk_frozen BK262.out 3))
  have n0_:Aside0 (((((w14.setCell ⟨gb262,0,none⟩ (.int .i64 t258)).setCell ⟨gb262,1,none⟩ (.int .i64 t259)).setCell ⟨gb262,2,none⟩ (.int .i64 t260)).setCell ⟨gb262,3,none⟩ (.bool false)).heap[gb262]? =some (.cells #[.int .i64 t258, .int .i64 t259, .int .i64 t260, .bool false] 31 (0,0))):=⟨by(with_reducible repeat(first|refine blk_drewN ?_ _|refine blk_drew ?_|refine blk_alloc ?_ _));refine blk_put (cs:= #[.int .i64 t258, .int .i64 t259, .int .i64 t260, .bool false]) ?_ 3 _ rfl;(with_reducible repeat(first|refine blk_drewN ?_ _|refine blk_drew ?_|refine blk_alloc ?_ _));refine blk_put (cs:= #[.int .i64 t258, .int .i64 t259, .int .i64 0, .bool false]) ?_ 2 _ rfl;(with_reducible repeat(first|refine blk_drewN ?_ _|refine blk_drew ?_|refine blk_alloc ?_ _));refine blk_put (cs:= #[.int .i64 t258, .int .i64 0, .int .i64 0, .bool false]) ?_ 1 _ rfl;(with_reducible repeat(first|refine blk_drewN ?_ _|refine blk_drew ?_|refine blk_alloc ?_ _));refine blk_put (cs:= #[.int .i64 0, .int .i64 0, .int .i64 0, .bool false]) ?_ 0 _ rfl;(with_reducible repeat(first|refine blk_drewN ?_ _|refine blk_drew ?_|refine blk_alloc ?_ _));exact BK262.out⟩
  have n1_:Aside0 (Below w.heap.size w ((((w14.setCell ⟨gb262,0,none⟩ (.int .i64 t258)).setCell ⟨gb262,1,none⟩ (.int .i64 t259)).setCell ⟨gb262,2,none⟩ (.int .i64 t260)).setCell ⟨gb262,3,none⟩ (.bool false))):=⟨by repeat(first|(with_reducible first|exact HB.out|apply below_alloc|apply pw_below_drewN|apply below_drew1|refine below_set ?_ GE262.out)|exact HB.out)⟩
  (try clear BK262)
  (try clear HB)
  generalize ((((w14.setCell ⟨gb262,0,none⟩ (.int .i64 t258)).setCell ⟨gb262,1,none⟩ (.int .i64 t259)).setCell ⟨gb262,2,none⟩ (.int .i64 t260)).setCell ⟨gb262,3,none⟩ (.bool false))=w16 at n0_ n1_ ⊢;have BK262:=n0_;have HB:=n1_;clear n0_ n1_;have n0_:=Aside0.mk (blk_drew BK262.out);have n1_:=Aside0.mk (below_drew1 HB.out);clear BK262;clear HB;have BK262:=n0_;have HB:=n1_;clear n0_ n1_;refine start_ (n:=11) (S:=fun w'=>w'.cell? ⟨gb262,0,none⟩=some (.int .i64 t258)∧w'.cell? ⟨gb262,1,none⟩=some (.int .i64 t259)∧w'.cell? ⟨gb262,2,none⟩=some (.int .i64 t260)∧w'.cell? ⟨gb262,3,none⟩=some (.bool false)) (ds:= []) #[false,false,false,false,false,false,false,false,false,false,false] tK rfl rfl ⟨(blk_cell BK262.out 0).trans rfl,(blk_cell BK262.out 1).trans rfl,(blk_cell BK262.out 2).trans rfl,(blk_cell BK262.out 3).trans rfl⟩ (fun hHeld=>?_);refine with_tabW bibelotref07_Distance.tab2 bibelotref07_Distance.bits2 (fun HT_ HW_=>?_);generalize w16.drew=w17 at BK262 HB hHeld ⊢;refine puG 0 (some 7) HT_.out ?_;refine puG 1 (some 8) HT_.out ?_;refine puG 2 (some 9) HT_.out ?_;refine puG 3 (some 10) HT_.out ?_;refine puG 7 (some 14) HT_.out ?_;refine take_ (i:=8) (N:=some 15) (v:=?_) (a':=?_) #[true,true,true,true,false,false,false,true,true,false,false] rfl rfl (take_ofW HT_.out HW_.out tK) (fun _ _ _ h=>h) (Or.inl ⟨by rfl,?_⟩) hHeld ?_ ?_;rotate_left
  ·rintro w' ⟨s0,s1,s2,s3⟩;go_simp;with_reducible rfl
  rotate_left
  ·simp only[Act.put,List.setIfInBounds_toArray,List.set_cons_zero,List.set_cons_succ,i64_w,i32_w];rfl
  refine one_ (i:=4) (N:=some 11) #[true,true,true,true,true,false,false,true,true,false,false] rfl rfl (one_of HT_.out tK) tD (fun K hK=>?_);refine goes_ Try.func37 tK rfl #[.slice A0 l0.length c0] (by rfl) rfl rfl tM ?_;with_reducible refine(bibelotref07_Circles.calls k _ _ l0 t263 _ ?side1 ?side2 A3.out).mono ?_
  (case side1=>repeat(first|exact(Kd.C_below HR0.out HB.out)|(with_reducible refine Kd.C_alloc ?_ _)|(with_reducible refine Kd.C_drewN ?_ _)|(with_reducible refine Kd.C_drew ?_)))
  (case side2=>exact HC0.out)
  rintro e w18 ⟨v264,rfl,ho0,hb⟩;refine⟨_,rfl,?_⟩;have n0_:=Aside0.mk (Kd.S_lower ho0 (below_size (by repeat(first|(with_reducible first|exact HB.out|apply below_alloc|apply pw_below_drewN|apply below_drew1|refine below_set ?_ GE262.out)|exact HB.out))));have n1_:=Aside0.mk (blk_below (g:=gb262) (o:= .cells #[.int .i64 t258, .int .i64 t259, .int .i64 t260, .bool false] 31 (0,0)) (tL BK262.out) hb);have n2_:=Aside0.mk (below_step (by repeat(first|(with_reducible first|exact HB.out|apply below_alloc|apply pw_below_drewN|apply below_drew1|refine below_set ?_ GE262.out)|exact HB.out)) hb);clear BK262;clear HB;have HO265:=n0_;have BK262:=n1_;have HB:=n2_;clear n0_ n1_ n2_
  (try clear hb)
  (try clear hb2)
  (try clear hk)
  (try clear hi)
  (try clear ho0)
  obtain⟨Ao19,co19,eo19⟩:=Kd.S_slice HO265.out
  (first|subst eo19|(injection eo19 with f1_ f2_ f3_;have f4_:=f1_.symm;have f5_:=f3_.symm;clear f1_ f2_ f3_;subst f4_;subst f5_))
  refine hK.out _ _ ⟨(blk_cell BK262.out 0).trans rfl,(blk_cell BK262.out 1).trans rfl,(blk_cell BK262.out 2).trans rfl,(blk_cell BK262.out 3).trans rfl⟩ (fun hHeld=>?_);clear hK K;refine norm_ (a':=?_) ?_ ?_;rotate_left
  ·show Act.put _ (some 11) _=_;simp only[Act.put,List.setIfInBounds_toArray,List.set_cons_zero,List.set_cons_succ,i64_w,i32_w];rfl
  refine puG 5 (some 12) HT_.out ?_;refine puG 6 (some 13) HT_.out ?_;refine puG 9 (some 16) HT_.out ?_;refine puG 10 (some 4) HT_.out ?_;refine done_ (done_of HT_.out tK) ?_;have hcz20_0:w18.cell? ⟨gb262,0,none⟩=some (.int .i64 t258):=(blk_cell BK262.out 0).trans rfl;have hcz20_1:w18.cell? ⟨gb262,1,none⟩=some (.int .i64 t259):=(blk_cell BK262.out 1).trans rfl;have hcz20_2:w18.cell? ⟨gb262,2,none⟩=some (.int .i64 t260):=(blk_cell BK262.out 2).trans rfl;have hcz20_3:w18.cell? ⟨gb262,3,none⟩=some (.bool false):=(blk_cell BK262.out 3).trans rfl;have hfz20_0:=blk_frozen BK262.out 0;have hfz20_1:=blk_frozen BK262.out 1;have hfz20_2:=blk_frozen BK262.out 2;have hfz20_3:=blk_frozen BK262.out 3;(try go_wp2);go_ret;exact⟨by first|rfl|(simp[errW_none,errW_some]<;>rfl)|(simp[*,errW_none,errW_some]<;>rfl),by repeat(first|(with_reducible first|exact HB.out|apply below_alloc|apply pw_below_drewN|apply below_drew1|refine below_set ?_ GE262.out)|exact HB.out)⟩
def bibelotlaw07_ints.l0:Nat→List Int→List Int→Int→Option (Bool)
 |0,_,_,_=>none
 |k+1,x0,x1,x5=>if x5< (x0.length:Int)then(if 0≤x5 then(if x5< (x1.length:Int)then(if(rd x0 x5)=(rd x1 x5)then(bibelotlaw07_ints.l0 k x0 x1 (wrap64 (x5+1)))else(some false))else(none))else(none))else(some true)
def bibelotlaw07_ints.f (k:Nat) (l0:List Int) (l1:List Int):Option (Bool):=if(l0.length:Int)=(l1.length:Int)then(bibelotlaw07_ints.l0 k l0 l1 0)else(some false)
set_option maxHeartbeats 8000000 in
set_option maxRecDepth 100000 in
theorem bibelotlaw07_ints.calls (k:Nat) (A0:Option Addr) (c0:Nat) (l0:List Int) (A1:Option Addr) (c1:Nat) (l1:List Int) (r:Bool) (w:World) (hr0:Kd.C (Kd.int .i64) w A0 l0.length l0) (hc0:l0.length≤c0) (hr1:Kd.C (Kd.int .i64) w A1 l1.length l1) (hc1:l1.length≤c1) (h:bibelotlaw07_ints.f k l0 l1=some r):
  Calls Try.prog 29 #[.slice A0 l0.length c0, .slice A1 l1.length c1] w fun e w'=>e= .returned (.bool r)∧Drawn0 w w':=by
 have HR0:=Aside0.mk hr0;have HC0:=Aside0.mk hc0;clear hr0 hc0;have HR1:=Aside0.mk hr1;have HC1:=Aside0.mk hc1;clear hr1 hc1;have H:(if(l0.length:Int)=(l1.length:Int)then(bibelotlaw07_ints.l0 k l0 l1 0)else(some false))=some r:=h;clear h;by_cases c3:(l0.length:Int)=(l1.length:Int)
 ·rw[if_pos c3]at H;have c3b0:((l0.length:Int)==(l1.length:Int))=true:=beq_iff_eq.mpr c3;have c3b1:((l0.length:Int) !=(l1.length:Int))=false:=bne_eq_false_iff_eq.mpr c3;have c3b2:(l0.length==l1.length)=true:=by first|simpa using c3|(simp at c3 ⊢;omega)
  clear c3;have H':=Aside0.mk H;clear H
  go_enter Try.func29,Try.ntmps29
  go_wp2
  repeat(go_quiet (fail);try go_wp2)
  go_loopg [5] k (fun kq v5 w'=> ∃(x5_1:Int),v5= .int .i64 x5_1∧Aside0 (bibelotlaw07_ints.l0 kq l0 l1 x5_1=some r)∧Aside0 (kq≤k)∧Drawn0 w w')
  case atStart=>exact⟨(0),tF,H',⟨Nat.le_refl _⟩,by repeat(first|exact Drawn0.refl _|apply Drawn0.step)⟩
  case round=>
   clear H';obtain⟨x5_1,rfl,HA,HK1,⟨m1,rfl⟩⟩:=hrel;cases gk with
   |zero=>exact absurd HA.out (by simp[bibelotlaw07_ints.l0])
   | succ k1=>
    have H:=HA.out;clear HA;simp only[bibelotlaw07_ints.l0]at H;by_cases c4:x5_1< (l0.length:Int)
    ·rw[if_pos c4]at H;have c4b0:decide (x5_1< (l0.length:Int))=true:=decide_eq_true c4;clear c4;by_cases c5:0≤x5_1;rotate_left
     ·rw[if_neg c5]at H;exact absurd H tS
     rw[if_pos c5]at H;have c5b0:decide (0≤x5_1)=true:=decide_eq_true c5;clear c5;by_cases c6:x5_1< (l1.length:Int);rotate_left
     ·rw[if_neg c6]at H;exact absurd H tS
     rw[if_pos c6]at H;have c6b0:decide (x5_1< (l1.length:Int))=true:=decide_eq_true c6;clear c6;by_cases c7:(rd l0 x5_1)=(rd l1 x5_1)
     ·rw[if_pos c7]at H;have c7b0:((rd l0 x5_1)==(rd l1 x5_1))=true:=beq_iff_eq.mpr c7;have c7b1:((rd l0 x5_1) !=(rd l1 x5_1))=false:=bne_eq_false_iff_eq.mpr c7;clear c7;have H':=Aside0.mk H;clear H;have p185:0≤(x5_1:Int):=of_decide_eq_true tA;have q185:x5_1< (l0.length:Int):=of_decide_eq_true tA;obtain⟨ad185,e185,hx185_0⟩:=Kd.at_int HR0.out x5_1 p185 q185;cases e185;replace p185:=eq_true p185;replace q185:=eq_true q185;have p186:0≤(x5_1:Int):=of_decide_eq_true tA;have q186:x5_1< (l1.length:Int):=of_decide_eq_true tA;obtain⟨ad186,e186,hx186_0⟩:=Kd.at_int HR1.out x5_1 p186 q186;cases e186;replace p186:=eq_true p186;replace q186:=eq_true q186;go_wp2
      repeat(go_quiet (fail);try go_wp2)
      go_roundg k1
      case measure=>have:=HK1.out;omega
      case rel=>exact⟨(wrap64 (x5_1+1)),tF,H',⟨by have:=HK1.out;omega⟩,by repeat(first|exact Drawn0.refl _|apply Drawn0.step)⟩
     ·rw[if_neg c7]at H;have c7b0:((rd l0 x5_1)==(rd l1 x5_1))=false:=beq_eq_false_iff_ne.mpr c7;have c7b1:((rd l0 x5_1) !=(rd l1 x5_1))=true:=bne_iff_ne.mpr c7;obtain rfl:=Option.some.inj H;have p185:0≤(x5_1:Int):=of_decide_eq_true tA;have q185:x5_1< (l0.length:Int):=of_decide_eq_true tA;obtain⟨ad185,e185,hx185_0⟩:=Kd.at_int HR0.out x5_1 p185 q185;cases e185;replace p185:=eq_true p185;replace q185:=eq_true q185;have p186:0≤(x5_1:Int):=of_decide_eq_true tA;have q186:x5_1< (l1.length:Int):=of_decide_eq_true tA;obtain⟨ad186,e186,hx186_0⟩:=Kd.at_int HR1.out x5_1 p186 q186;cases e186;replace p186:=eq_true p186;replace q186:=eq_true q186;go_wp2
      repeat(go_quiet (fail);try go_wp2)
      go_ret;exact⟨by first|rfl|(simp;done)|(simp[*];done),by repeat(first|exact Drawn0.refl _|apply Drawn0.step)⟩
    ·rw[if_neg c4]at H;have c4b0:decide (x5_1< (l0.length:Int))=false:=decide_eq_false c4;clear c4;obtain rfl:=Option.some.inj H;go_wp2
     repeat(go_quiet (fail);try go_wp2)
     go_ret;exact⟨by first|rfl|(simp;done)|(simp[*];done),by repeat(first|exact Drawn0.refl _|apply Drawn0.step)⟩
 ·rw[if_neg c3]at H;have c3b0:((l0.length:Int)==(l1.length:Int))=false:=beq_eq_false_iff_ne.mpr c3;have c3b1:((l0.length:Int) !=(l1.length:Int))=true:=bne_iff_ne.mpr c3;have c3b2:(l0.length==l1.length)=false:=by first|simpa using c3|(simp at c3 ⊢;omega)
  obtain rfl:=Option.some.inj H
  go_enter Try.func29,Try.ntmps29
  go_wp2
  repeat(go_quiet (fail);try go_wp2)
  go_ret;exact⟨by first|rfl|(simp;done)|(simp[*];done),by repeat(first|exact Drawn0.refl _|apply Drawn0.step)⟩
def bibelotref07_First.l0:Nat→Int→List Int→Int→Option (List Int)
 |0,_,_,_=>none
 |k+1,x0,x3,x4=>if x4≤x0 then(if x3.length< 17592186044416 then(bibelotref07_First.l0 k x0 (x3++ [x4]) (wrap64 (x4+1)))else(none))else(some x3)
def bibelotref07_First.f (k:Nat) (a0:Int):Option (List Int):=bibelotref07_First.l0 k a0 ([]:List Int) 1
set_option maxHeartbeats 8000000 in
set_option maxRecDepth 100000 in
theorem bibelotref07_First.calls (k:Nat) (a0:Int) (r:List Int) (w:World) (h:bibelotref07_First.f k a0=some r):
  Calls Try.prog 49 #[.int .i64 a0] w fun e w'=> ∃v0_:Value,e= .returned (v0_)∧Kd.R (Kd.int .i64) 3 w' w.heap.size (fun _=>True) v0_ r∧Below w.heap.size w w':=by
 have HB:=Aside0.mk (Below.refl w.heap.size w);have H:(bibelotref07_First.l0 k a0 ([]:List Int) 1)=some r:=h;clear h;have H':=Aside0.mk H;clear H
 go_enter Try.func49,Try.ntmps49
 go_wp2
 go_loopg [3,4] k (fun kq v3 v4 w'=> ∃(x3_1:List Int) (x4_1:Int),v4= .int .i64 x4_1∧Aside0 (bibelotref07_First.l0 kq a0 x3_1 x4_1=some r)∧Aside0 (kq≤k)∧Aside0 (Kd.R (Kd.int .i64) 3 w' w.heap.size (fun _=>True) v3 x3_1)∧Aside0 (Below w.heap.size w w'))
 case atStart=>exact⟨(([]:List Int)),(1),tF,H',⟨Nat.le_refl _⟩,⟨by first|exact Kd.R_nil _ _ _ _ _|exact Kd.N_nil _ _ _ _ _|exact Kd.V_nil _ _ _ _ _|exact Kd.Q_nil _ _ _ _ _|exact Kd.S_nil _ _ _ _ _⟩,⟨by repeat(first|(with_reducible first|exact HB.out|apply below_alloc|apply pw_below_drewN|apply below_drew1)|exact HB.out)⟩⟩
 case round=>
  clear H';obtain⟨x3_1,x4_1,rfl,HA,HK1,HO_3,HB⟩:=hrel;cases gk with
  |zero=>exact absurd HA.out (by simp[bibelotref07_First.l0])
  | succ k1=>
   have H:=HA.out;clear HA;simp only[bibelotref07_First.l0]at H;by_cases c2:x4_1≤a0
   ·rw[if_pos c2]at H;have c2b0:decide (x4_1≤a0)=true:=decide_eq_true c2;clear c2;by_cases c3:x3_1.length< 17592186044416;rotate_left
    ·rw[if_neg c3]at H;exact absurd H tS
    rw[if_pos c3]at H;have LMc3:=Aside0.mk c3;clear c3;obtain⟨y378,hy378⟩: ∃y_:List Int,y_=(x3_1++ [x4_1]):=⟨_,rfl⟩;replace H:(bibelotref07_First.l0 k1 a0 y378 (wrap64 (x4_1+1)))=some r:=by first|(rw[hy378];with_reducible exact H)|(have H2_:=(Option.bind_some _ _).symm.trans H;rw[hy378];with_reducible exact H2_)|(have H2_:=(Option.bind_some _ _).symm.trans H;with_reducible exact H2_)|with_reducible exact H|(rw[hy378];exact H)|exact H
    have Ny378:=Aside0.mk hy378;clear hy378;have H':=Aside0.mk H;clear H
    go_wp2_with (first|((with_reducible refine gate_builtin (b:= .append) (xs:= #[.tmp 10, .tmp 12]) rfl ?_);at_builtin;refine Kd.R_append (Kd.int .i64) (w0:=w) w.heap.size rfl (.tmp 10) (.tmp 12) 22 3 (.int .i64 0) 8 rfl Try.underlying22 info3 rfl tD tO u3 x3_1 x4_1 [.int .i64 x4_1] (fun _=>True) (fun _=>False) rfl rfl ?aP (fun _ hk=>hk.elim) ?aF ?aO ?aB ?aS ?aL ?_;(case aP=>exact rfl);(case aB=>exact(tB HB.out));(case aF=>exact(fun _ _=>trivial));(case aO=>exact(tR HO_3.out));(case aS=>exact(below_size (tB HB.out)));(case aL=>have:=LMc3.out;omega);intro v379 w4 ho hb hg hat;rw[←Ny378.out]at ho;have n0_:=Aside0.mk (hb);have n1_:=Aside0.mk (ho);clear HB;clear HO_3;have HB:=n0_;have HO380:=n1_;clear n0_ n1_;clear ho hb hg hat))
    go_roundg k1
    case measure=>have:=HK1.out;omega
    case rel=>exact⟨(y378),(wrap64 (x4_1+1)),tF,H',⟨by have:=HK1.out;omega⟩,⟨by(with_reducible repeat(first|apply Kd.R_alloc|apply Kd.R_drewN|apply Kd.R_drew));exact HO380.out⟩,⟨by repeat(first|(with_reducible first|exact HB.out|apply below_alloc|apply pw_below_drewN|apply below_drew1)|exact HB.out)⟩⟩
   ·rw[if_neg c2]at H;have c2b0:decide (x4_1≤a0)=false:=decide_eq_false c2;clear c2;obtain rfl:=Option.some.inj H;go_wp2;go_ret;exact⟨_,by first|rfl|(simp[errW_none,errW_some]<;>rfl)|(simp[*,errW_none,errW_some]<;>rfl),by(with_reducible repeat(first|apply Kd.R_alloc|apply Kd.R_drewN|apply Kd.R_drew));exact HO_3.out,by repeat(first|(with_reducible first|exact HB.out|apply below_alloc|apply pw_below_drewN|apply below_drew1)|exact HB.out)⟩
def bibelotref07_Turn.l0:Nat→List Int→Int→Int→List Int→Int→Option (List Int)
 |0,_,_,_,_,_=>none
 |k+1,x0,x1,x2,x7,x8=>if x8< (x0.length:Int)then(if 0≤x8 then(if x8≥x1 then(if x8≤x2 then(if 0≤(wrap64 ((wrap64 (x1+x2)) - x8))then(if(wrap64 ((wrap64 (x1+x2)) - x8))< (x0.length:Int)then(if x7.length< 17592186044416 then(bibelotref07_Turn.l0 k x0 x1 x2 (x7++ [wrap64 (-(rd x0 (wrap64 ((wrap64 (x1+x2)) - x8))))]) (wrap64 (x8+1)))else(none))else(none))else(none))else(if x7.length< 17592186044416 then(bibelotref07_Turn.l0 k x0 x1 x2 (x7++ [rd x0 x8]) (wrap64 (x8+1)))else(none)))else(if x7.length< 17592186044416 then(bibelotref07_Turn.l0 k x0 x1 x2 (x7++ [rd x0 x8]) (wrap64 (x8+1)))else(none)))else(none))else(some x7)
def bibelotref07_Turn.f (k:Nat) (l0:List Int) (a1:Int) (a2:Int):Option (List Int):=bibelotref07_Turn.l0 k l0 a1 a2 ([]:List Int) 0
set_option maxHeartbeats 8000000 in
set_option maxRecDepth 100000 in
theorem bibelotref07_Turn.calls (k:Nat) (A0:Option Addr) (c0:Nat) (l0:List Int) (a1:Int) (a2:Int) (r:List Int) (w:World) (hr0:Kd.C (Kd.int .i64) w A0 l0.length l0) (hc0:l0.length≤c0) (h:bibelotref07_Turn.f k l0 a1 a2=some r):
  Calls Try.prog 46 #[.slice A0 l0.length c0, .int .i64 a1, .int .i64 a2] w fun e w'=> ∃v0_:Value,e= .returned (v0_)∧Kd.R (Kd.int .i64) 3 w' w.heap.size (fun _=>True) v0_ r∧Below w.heap.size w w':=by
 have HR0:=Aside0.mk hr0;have HC0:=Aside0.mk hc0;clear hr0 hc0;have HB:=Aside0.mk (Below.refl w.heap.size w);have H:(bibelotref07_Turn.l0 k l0 a1 a2 ([]:List Int) 0)=some r:=h;clear h;have H':=Aside0.mk H;clear H
 go_enter Try.func46,Try.ntmps46
 go_wp2
 go_loopg [7,8] k (fun kq v7 v8 w'=> ∃(x7_1:List Int) (x8_1:Int),v8= .int .i64 x8_1∧Aside0 (bibelotref07_Turn.l0 kq l0 a1 a2 x7_1 x8_1=some r)∧Aside0 (kq≤k)∧Aside0 (Kd.R (Kd.int .i64) 3 w' w.heap.size (fun _=>True) v7 x7_1)∧Aside0 (Below w.heap.size w w'))
 case atStart=>exact⟨(([]:List Int)),(0),tF,H',⟨Nat.le_refl _⟩,⟨by first|exact Kd.R_nil _ _ _ _ _|exact Kd.N_nil _ _ _ _ _|exact Kd.V_nil _ _ _ _ _|exact Kd.Q_nil _ _ _ _ _|exact Kd.S_nil _ _ _ _ _⟩,⟨by repeat(first|(with_reducible first|exact HB.out|apply below_alloc|apply pw_below_drewN|apply below_drew1)|exact HB.out)⟩⟩
 case round=>
  clear H';obtain⟨x7_1,x8_1,rfl,HA,HK1,HO_7,HB⟩:=hrel;cases gk with
  |zero=>exact absurd HA.out (by simp[bibelotref07_Turn.l0])
  | succ k1=>
   have H:=HA.out;clear HA;simp only[bibelotref07_Turn.l0]at H;by_cases c4:x8_1< (l0.length:Int)
   ·rw[if_pos c4]at H;have c4b0:decide (x8_1< (l0.length:Int))=true:=decide_eq_true c4;clear c4;by_cases c5:0≤x8_1;rotate_left
    ·rw[if_neg c5]at H;exact absurd H tS
    rw[if_pos c5]at H;have c5b0:decide (0≤x8_1)=true:=decide_eq_true c5;clear c5;by_cases c6:x8_1≥a1
    ·rw[if_pos c6]at H;have c6b0:decide (a1≤x8_1)=true:=decide_eq_true c6;clear c6;by_cases c7:x8_1≤a2
     ·rw[if_pos c7]at H;have c7b0:decide (x8_1≤a2)=true:=decide_eq_true c7;clear c7;obtain⟨ji8,hji8⟩: ∃j_:Int,(wrap64 ((wrap64 (a1+a2)) - x8_1))=j_:=⟨_,rfl⟩;replace H:(if 0≤(ji8)then(if(ji8)< (l0.length:Int)then(if x7_1.length< 17592186044416 then(bibelotref07_Turn.l0 k1 l0 a1 a2 (x7_1++ [wrap64 (-(rd l0 (ji8)))]) (wrap64 (x8_1+1)))else(none))else(none))else(none))=some r:=by first|(rw[hji8]at H;exact H)|(simp only[hji8]at H ⊢;exact H)
      have hji8w:(IntKind.i64.wrap ((wrap64 (a1+a2)) - x8_1))=ji8:=(i64_w _).trans hji8;by_cases c9:0≤(ji8);rotate_left
      ·rw[if_neg c9]at H;exact absurd H tS
      rw[if_pos c9]at H;have c9b0:decide (0≤(ji8))=true:=decide_eq_true c9;clear c9;by_cases c10:(ji8)< (l0.length:Int);rotate_left
      ·rw[if_neg c10]at H;exact absurd H tS
      rw[if_pos c10]at H;have c10b0:decide ((ji8)< (l0.length:Int))=true:=decide_eq_true c10;clear c10;by_cases c11:x7_1.length< 17592186044416;rotate_left
      ·rw[if_neg c11]at H;exact absurd H tS
      rw[if_pos c11]at H;have LMc11:=Aside0.mk c11;clear c11;obtain⟨y435,hy435⟩: ∃y_:List Int,y_=(x7_1++ [wrap64 (-(rd l0 (ji8)))]):=⟨_,rfl⟩;replace H:(bibelotref07_Turn.l0 k1 l0 a1 a2 y435 (wrap64 (x8_1+1)))=some r:=by first|(rw[hy435];with_reducible exact H)|(have H2_:=(Option.bind_some _ _).symm.trans H;rw[hy435];with_reducible exact H2_)|(have H2_:=(Option.bind_some _ _).symm.trans H;with_reducible exact H2_)|with_reducible exact H|(rw[hy435];exact H)|exact H
      have Ny435:=Aside0.mk hy435;clear hy435;have H':=Aside0.mk H;clear H;have p433:0≤(x8_1:Int):=of_decide_eq_true tA;have q433:x8_1< (l0.length:Int):=of_decide_eq_true tA;obtain⟨ad433,e433,hx433_0⟩:=Kd.at_int HR0.out x8_1 p433 q433;cases e433;replace hx433_0:=(HB.out.cell (World.block_lt_of_cell? w _ hx433_0)).trans hx433_0;replace p433:=eq_true p433;replace q433:=eq_true q433;have p434:0≤((ji8):Int):=of_decide_eq_true tA;have q434:(ji8)< (l0.length:Int):=of_decide_eq_true tA;obtain⟨ad434,e434,hx434_0⟩:=Kd.at_int HR0.out (ji8) p434 q434;obtain rfl:ad433=ad434:=(by injection e434);replace hx434_0:=(HB.out.cell (World.block_lt_of_cell? w _ hx434_0)).trans hx434_0;replace p434:=eq_true p434;replace q434:=eq_true q434
      go_wp2_with (first|((with_reducible refine gate_builtin (b:= .append) (xs:= #[.tmp 37, .tmp 39]) rfl ?_);at_builtin;refine Kd.R_append (Kd.int .i64) (w0:=w) w.heap.size rfl (.tmp 37) (.tmp 39) 22 3 (.int .i64 0) 8 rfl Try.underlying22 info3 rfl tD tO u7 x7_1 (wrap64 (-(rd l0 (ji8)))) [.int .i64 (wrap64 (-(rd l0 (ji8))))] (fun _=>True) (fun _=>False) rfl rfl ?aP (fun _ hk=>hk.elim) ?aF ?aO ?aB ?aS ?aL ?_;(case aP=>exact rfl);(case aB=>exact(tB HB.out));(case aF=>exact(fun _ _=>trivial));(case aO=>exact(tR HO_7.out));(case aS=>exact(below_size (tB HB.out)));(case aL=>have:=LMc11.out;omega);intro v436 w12 ho hb hg hat;rw[←Ny435.out]at ho;have n0_:=Aside0.mk (hb);have n1_:=Aside0.mk (ho);clear HB;clear HO_7;have HB:=n0_;have HO437:=n1_;clear n0_ n1_;clear ho hb hg hat))
      go_roundg k1
      case measure=>have:=HK1.out;omega
      case rel=>exact⟨(y435),(wrap64 (x8_1+1)),tF,H',⟨by have:=HK1.out;omega⟩,⟨by(with_reducible repeat(first|apply Kd.R_alloc|apply Kd.R_drewN|apply Kd.R_drew));exact HO437.out⟩,⟨by repeat(first|(with_reducible first|exact HB.out|apply below_alloc|apply pw_below_drewN|apply below_drew1)|exact HB.out)⟩⟩
     ·rw[if_neg c7]at H;have c7b0:decide (x8_1≤a2)=false:=decide_eq_false c7;clear c7;by_cases c13:x7_1.length< 17592186044416;rotate_left
      ·rw[if_neg c13]at H;exact absurd H tS
      rw[if_pos c13]at H;have LMc13:=Aside0.mk c13;clear c13;obtain⟨y438,hy438⟩: ∃y_:List Int,y_=(x7_1++ [rd l0 x8_1]):=⟨_,rfl⟩;replace H:(bibelotref07_Turn.l0 k1 l0 a1 a2 y438 (wrap64 (x8_1+1)))=some r:=by first|(rw[hy438];with_reducible exact H)|(have H2_:=(Option.bind_some _ _).symm.trans H;rw[hy438];with_reducible exact H2_)|(have H2_:=(Option.bind_some _ _).symm.trans H;with_reducible exact H2_)|with_reducible exact H|(rw[hy438];exact H)|exact H
      have Ny438:=Aside0.mk hy438;clear hy438;have H':=Aside0.mk H;clear H;have p433:0≤(x8_1:Int):=of_decide_eq_true tA;have q433:x8_1< (l0.length:Int):=of_decide_eq_true tA;obtain⟨ad433,e433,hx433_0⟩:=Kd.at_int HR0.out x8_1 p433 q433;cases e433;replace hx433_0:=(HB.out.cell (World.block_lt_of_cell? w _ hx433_0)).trans hx433_0;replace p433:=eq_true p433;replace q433:=eq_true q433
      go_wp2_with (first|((with_reducible refine gate_builtin (b:= .append) (xs:= #[.tmp 37, .tmp 39]) rfl ?_);at_builtin;refine Kd.R_append (Kd.int .i64) (w0:=w) w.heap.size rfl (.tmp 37) (.tmp 39) 22 3 (.int .i64 0) 8 rfl Try.underlying22 info3 rfl tD tO u7 x7_1 (rd l0 x8_1) [.int .i64 (rd l0 x8_1)] (fun _=>True) (fun _=>False) rfl rfl ?aP (fun _ hk=>hk.elim) ?aF ?aO ?aB ?aS ?aL ?_;(case aP=>exact rfl);(case aB=>exact(tB HB.out));(case aF=>exact(fun _ _=>trivial));(case aO=>exact(tR HO_7.out));(case aS=>exact(below_size (tB HB.out)));(case aL=>have:=LMc13.out;omega);intro v439 w14 ho hb hg hat;rw[←Ny438.out]at ho;have n0_:=Aside0.mk (hb);have n1_:=Aside0.mk (ho);clear HB;clear HO_7;have HB:=n0_;have HO440:=n1_;clear n0_ n1_;clear ho hb hg hat))
      go_roundg k1
      case measure=>have:=HK1.out;omega
      case rel=>exact⟨(y438),(wrap64 (x8_1+1)),tF,H',⟨by have:=HK1.out;omega⟩,⟨by(with_reducible repeat(first|apply Kd.R_alloc|apply Kd.R_drewN|apply Kd.R_drew));exact HO440.out⟩,⟨by repeat(first|(with_reducible first|exact HB.out|apply below_alloc|apply pw_below_drewN|apply below_drew1)|exact HB.out)⟩⟩
    ·rw[if_neg c6]at H;have c6b0:decide (a1≤x8_1)=false:=decide_eq_false c6;clear c6;by_cases c15:x7_1.length< 17592186044416;rotate_left
     ·rw[if_neg c15]at H;exact absurd H tS
     rw[if_pos c15]at H;have LMc15:=Aside0.mk c15;clear c15;obtain⟨y441,hy441⟩: ∃y_:List Int,y_=(x7_1++ [rd l0 x8_1]):=⟨_,rfl⟩;replace H:(bibelotref07_Turn.l0 k1 l0 a1 a2 y441 (wrap64 (x8_1+1)))=some r:=by first|(rw[hy441];with_reducible exact H)|(have H2_:=(Option.bind_some _ _).symm.trans H;rw[hy441];with_reducible exact H2_)|(have H2_:=(Option.bind_some _ _).symm.trans H;with_reducible exact H2_)|with_reducible exact H|(rw[hy441];exact H)|exact H
     have Ny441:=Aside0.mk hy441;clear hy441;have H':=Aside0.mk H;clear H;have p433:0≤(x8_1:Int):=of_decide_eq_true tA;have q433:x8_1< (l0.length:Int):=of_decide_eq_true tA;obtain⟨ad433,e433,hx433_0⟩:=Kd.at_int HR0.out x8_1 p433 q433;cases e433;replace hx433_0:=(HB.out.cell (World.block_lt_of_cell? w _ hx433_0)).trans hx433_0;replace p433:=eq_true p433;replace q433:=eq_true q433
     go_wp2_with (first|((with_reducible refine gate_builtin (b:= .append) (xs:= #[.tmp 37, .tmp 39]) rfl ?_);at_builtin;refine Kd.R_append (Kd.int .i64) (w0:=w) w.heap.size rfl (.tmp 37) (.tmp 39) 22 3 (.int .i64 0) 8 rfl Try.underlying22 info3 rfl tD tO u7 x7_1 (rd l0 x8_1) [.int .i64 (rd l0 x8_1)] (fun _=>True) (fun _=>False) rfl rfl ?aP (fun _ hk=>hk.elim) ?aF ?aO ?aB ?aS ?aL ?_;(case aP=>exact rfl);(case aB=>exact(tB HB.out));(case aF=>exact(fun _ _=>trivial));(case aO=>exact(tR HO_7.out));(case aS=>exact(below_size (tB HB.out)));(case aL=>have:=LMc15.out;omega);intro v442 w16 ho hb hg hat;rw[←Ny441.out]at ho;have n0_:=Aside0.mk (hb);have n1_:=Aside0.mk (ho);clear HB;clear HO_7;have HB:=n0_;have HO443:=n1_;clear n0_ n1_;clear ho hb hg hat))
     go_roundg k1
     case measure=>have:=HK1.out;omega
     case rel=>exact⟨(y441),(wrap64 (x8_1+1)),tF,H',⟨by have:=HK1.out;omega⟩,⟨by(with_reducible repeat(first|apply Kd.R_alloc|apply Kd.R_drewN|apply Kd.R_drew));exact HO443.out⟩,⟨by repeat(first|(with_reducible first|exact HB.out|apply below_alloc|apply pw_below_drewN|apply below_drew1)|exact HB.out)⟩⟩
   ·rw[if_neg c4]at H;have c4b0:decide (x8_1< (l0.length:Int))=false:=decide_eq_false c4;clear c4;obtain rfl:=Option.some.inj H;go_wp2;go_ret;exact⟨_,by first|rfl|(simp[errW_none,errW_some]<;>rfl)|(simp[*,errW_none,errW_some]<;>rfl),by(with_reducible repeat(first|apply Kd.R_alloc|apply Kd.R_drewN|apply Kd.R_drew));exact HO_7.out,by repeat(first|(with_reducible first|exact HB.out|apply below_alloc|apply pw_below_drewN|apply below_drew1)|exact HB.out)⟩
end Go.Proofs.Ytepjhdblmghckaa.Q
namespace Go.Proofs
open Go.Shelf
def Try.lays189_ren:Go.Shelf.Ren:=⟨fun|189=>81|125=>98|257=>97|128=>111|129=>112|294=>102|295=>103|296=>104|297=>105|298=>106|299=>107|216=>108|300=>109|301=>110|328=>114|329=>115|330=>116|331=>117|332=>118|215=>119|343=>120|n=>n,fun|28=>22|3=>3|46=>60|0=>0|51=>150|53=>152|4=>4|183=>143|182=>142|131=>130|5=>5|9=>9|218=>154|222=>158|228=>160|229=>161|n=>n,fun|n=>n⟩
theorem Try.lays189:Go.Proofs.Lays.n189 Try.prog Try.lays189_ren:= {
 mixed:=by kernel_rfl
 f125:=Try.func98.trans (congrArg some (by kernel_rfl))
 f128:=Try.func111.trans (congrArg some (by kernel_rfl))
 f129:=Try.func112.trans (congrArg some (by kernel_rfl))
 f189:=Try.func81.trans (congrArg some (by kernel_rfl))
 f215:=Try.func119.trans (congrArg some (by kernel_rfl))
 f216:=Try.func108.trans (congrArg some (by kernel_rfl))
 f257:=Try.func97.trans (congrArg some (by kernel_rfl))
 f294:=Try.func102.trans (congrArg some (by kernel_rfl))
 f295:=Try.func103.trans (congrArg some (by kernel_rfl))
 f296:=Try.func104.trans (congrArg some (by kernel_rfl))
 f297:=Try.func105.trans (congrArg some (by kernel_rfl))
 f298:=Try.func106.trans (congrArg some (by kernel_rfl))
 f299:=Try.func107.trans (congrArg some (by kernel_rfl))
 f300:=Try.func109.trans (congrArg some (by kernel_rfl))
 f301:=Try.func110.trans (congrArg some (by kernel_rfl))
 f328:=Try.func114.trans (congrArg some (by kernel_rfl))
 f329:=Try.func115.trans (congrArg some (by kernel_rfl))
 f330:=Try.func116.trans (congrArg some (by kernel_rfl))
 f331:=Try.func117.trans (congrArg some (by kernel_rfl))
 f332:=Try.func118.trans (congrArg some (by kernel_rfl))
 f343:=Try.func120.trans (congrArg some (by kernel_rfl))
 t0:=Try.underlying0
 a0:=Try.isAgg0
 z0:=Try.sizeOf0
 v0:=Try.zeroValue0
 t3:=Try.underlying3
 a3:=Try.isAgg3
 z3:=Try.sizeOf3
 v3:=Try.zeroValue3
 t4:=Try.underlying4
 a4:=Try.isAgg4
 z4:=Try.sizeOf4
 v4:=Try.zeroValue4
 t5:=Try.underlying5
 a5:=Try.isAgg5
 z5:=Try.sizeOf5
 v5:=Try.zeroValue5
 t9:=Try.underlying9
 a9:=Try.isAgg9
 z9:=Try.sizeOf9
 v9:=Try.zeroValue9
 t28:=Try.underlying22
 a28:=Try.isAgg22
 z28:=Try.sizeOf22
 v28:=Try.zeroValue22
 t46:=Try.underlying60
 a46:=Try.isAgg60
 z46:=Try.sizeOf60
 v46:=Try.zeroValue60
 t51:=Try.underlying150
 a51:=Try.isAgg150
 z51:=Try.sizeOf150
 v51:=Try.zeroValue150
 t53:=Try.underlying152
 a53:=Try.isAgg152
 z53:=Try.sizeOf152
 v53:=Try.zeroValue152
 t131:=Try.underlying130
 a131:=Try.isAgg130
 z131:=Try.sizeOf130
 v131:=Try.zeroValue130
 t182:=Try.underlying142
 a182:=Try.isAgg142
 z182:=Try.sizeOf142
 v182:=Try.zeroValue142
 t183:=Try.underlying143
 a183:=Try.isAgg143
 z183:=Try.sizeOf143
 v183:=Try.zeroValue143
 t218:=Try.underlying154
 a218:=Try.isAgg154
 z218:=Try.sizeOf154
 v218:=Try.zeroValue154
 t222:=Try.underlying158
 a222:=Try.isAgg158
 z222:=Try.sizeOf158
 v222:=Try.zeroValue158
 t228:=Try.underlying160
 a228:=Try.isAgg160
 z228:=Try.sizeOf160
 v228:=Try.zeroValue160
 t229:=Try.underlying161
 a229:=Try.isAgg161
 z229:=Try.sizeOf161
 v229:=Try.zeroValue161 }
open Go.Sort Go.RowKit in
theorem Try.slices_Sort_int (blk off cap:Nat) (zs:List Int) (w:World) (hH:Holds (Value.int .i64) w blk off zs.toArray) (hblk:blk< w.heap.size) (hsz:zs.length< 4611686018427387904):
  Calls Try.prog 81 #[.slice (some ⟨blk,off,none⟩) zs.length cap] w fun e w'=>
   e= .returned (.tuple #[])∧ ∃n os,w'=grow (putRow (Value.int .i64) (Sort.ahead w n) blk off (zs.mergeSort fun x y=>decide (x≤y)).toArray) os:=Any.slices_Sort_int Try.lays189 blk off cap zs w hH hblk hsz
def Try.laysNm215_ren:Go.Shelf.Ren:=⟨fun|15=>74|n=>n,fun|22=>22|3=>3|4=>4|n=>n,fun|n=>n⟩
theorem Try.laysNm215:Go.Proofs.Lays2.n15 Try.prog Try.laysNm215_ren:= {
 mixed:=by kernel_rfl
 f15:=Try.func74.trans (congrArg some (by kernel_rfl))
 t3:=Try.underlying3
 a3:=Try.isAgg3
 z3:=Try.sizeOf3
 v3:=Try.zeroValue3
 t4:=Try.underlying4
 a4:=Try.isAgg4
 z4:=Try.sizeOf4
 v4:=Try.zeroValue4
 t22:=Try.underlying22
 a22:=Try.isAgg22
 z22:=Try.sizeOf22
 v22:=Try.zeroValue22
 i3:=by kernel_rfl }
open Go.RowKit Go.Lib in
theorem Try.slices_Clone_int (b off n c:Nat) (zs:List Int) (w:World) (hz:n≤zs.length) (hbig:n*8≤140737488355328) (hc: ∀j,j< zs.length→w.cell? ⟨b,off+j,none⟩=some (.int .i64 (zs.getD j 0))):
  Calls Try.prog 74 #[.slice (some ⟨b,off,none⟩) n c] w fun e w'=> ∃v',e= .returned v'∧w'.ownsRow w.heap.size 3 1 v' n ((zs.take n).map (Value.int .i64))∧v'≠ .slice none 0 0∧Below w.heap.size w w':=Any.slices_Clone_int Try.laysNm215 b off n c zs w hz hbig hc
end Go.Proofs
namespace Go.Proofs.Ytepjhdblmghckaa.G
open Go.Proofs.Ytepjhdblmghckaa.Q Go.Shelf
open Go.RowKit Go.Proofs.YtepjhdblmghckaaW.PrintWords Go.Proofs.YtepjhdblmghckaaW.PrintLast Go.Proofs.YtepjhdblmghckaaW.PrintMore
def slices_Clone_int_int.f (l:List Int):Option (List Int):=if 0< l.length∧l.length*8≤140737488355328 then some l else none
theorem slices_Clone_int_int.calls (A0:Option Addr) (c0:Nat) (l0:List Int) (r:List Int) (w:World) (hr0:Kd.C (Kd.int .i64) w A0 l0.length l0) (hc0:l0.length≤c0) (h:slices_Clone_int_int.f l0=some r):
  Calls Try.prog 74 #[.slice A0 l0.length c0] w fun e w'=> ∃v0_:Value,e= .returned (v0_)∧Kd.R (Kd.int .i64) 3 w' w.heap.size (fun _=>True) v0_ r∧Below w.heap.size w w':=by
 unfold slices_Clone_int_int.f at h
 split at h
 ·rename_i hb
  injection h with h;subst h;have hR:=Kd.reads_of_C (enc:=Value.int .i64) (d:=(0:Int)) (h1:=fun _=>rfl) hr0;obtain⟨_,hm,hx⟩:=hR;obtain⟨ad,rfl,hc⟩:=hx hb.1;obtain⟨b,off,sub⟩:=ad;have h0:=hc 0 hb.1;cases sub with
  |some q=>simp[World.cell?,Addr.add]at h0;split at h0<;>cases h0
  | none=>
   refine(Try.slices_Clone_int b off l0.length c0 l0 w (Nat.le_refl _) hb.2 (fun j hj=>?_)).mono ?_
   ·have:=hc j hj
    rwa [show(⟨b,off,none⟩:Addr).add j=⟨b,off+j,none⟩by unfold Addr.add;split<;>simp_all]at this
   ·rintro e w' ⟨v,rfl,hown,_,hbel⟩;refine⟨v,rfl,Kd.R_of_own (h1:=fun _=>rfl) ?_ (fun _ _=>trivial),hbel⟩;rw[List.take_of_length_le (Nat.le_refl _)]at hown;exact hown
 ·cases h
end Go.Proofs.Ytepjhdblmghckaa.G
namespace Go.Proofs.Ytepjhdblmghckaa.K
open Go.RowKit Go.Proofs.YtepjhdblmghckaaW.PrintWords
def Blk (w:World) (b:Nat) (cs:Array Value) (t:TypeId):Prop:=w.heap[b]? =some (.cells cs t (0,0))
theorem Blk.lt {w:World} {b:Nat} {cs:Array Value} {t:TypeId} (h:Blk w b cs t):b< w.heap.size:=(Array.getElem?_eq_some_iff.1 h).1
theorem Blk.cell {w:World} {b:Nat} {cs:Array Value} {t:TypeId} (h:Blk w b cs t) (i:Nat) {v:Value} (hv:cs[i]? =some v):w.cell? ⟨b,i,none⟩=some v:=by
 unfold Blk at h;simp[World.cell?,h,hv]
theorem Blk.free {w:World} {b:Nat} {cs:Array Value} {t:TypeId} (h:Blk w b cs t) (i:Nat):w.frozen? ⟨b,i,none⟩=false:=by
 unfold Blk at h;simp[World.frozen?,h]
theorem Blk.set {w:World} {b:Nat} {cs:Array Value} {t:TypeId} (h:Blk w b cs t) (i:Nat) (v:Value):Blk (w.setCell ⟨b,i,none⟩ v) b (cs.setIfInBounds i v) t:=by
 unfold Blk at*;simp[World.setCell,Array.getElem?_modify,h]
theorem Blk.setOther {w:World} {b:Nat} {cs:Array Value} {t:TypeId} (h:Blk w b cs t) {a:Addr} (hne:b≠a.block) (v:Value):Blk (w.setCell a v) b cs t:=
 (Below.heap_setCell w a v b hne).trans h
theorem Blk.alloc {w:World} {b:Nat} {cs:Array Value} {t:TypeId} (h:Blk w b cs t) (o:Obj):Blk (w.alloc o) b cs t:=(Below.heap_alloc w o b h.lt).trans h
theorem Blk.new (w:World) (cs:Array Value) (t:TypeId):Blk (w.alloc (.cells cs t)) w.heap.size cs t:=heap_alloc_new w _
theorem Blk.below {w w1:World} {B b:Nat} {cs:Array Value} {t:TypeId} (h:Blk w b cs t) (hb:Below B w w1) (hlt:b< B):Blk w1 b cs t:=(hb.block b hlt).trans h
theorem Blk.drewN {w:World} {b:Nat} {cs:Array Value} {t:TypeId} (h:Blk w b cs t) (n:Nat):Blk (w.drewN n) b cs t:=h
theorem Blk.drew {w:World} {b:Nat} {cs:Array Value} {t:TypeId} (h:Blk w b cs t):Blk w.drew b cs t:=h
theorem Blk.grown {w w1:World} {b:Nat} {cs:Array Value} {t:TypeId} (h:Blk w b cs t) {row:Option Nat} (hg:w.grownBy w1 row) (hne:row≠some b):Blk w1 b cs t:=
 (hg.block b h.lt (fun e=>hne e.symm)).trans h
def nth (l:List Int):Nat→Int:=fun j=>l.getD j 0
theorem rd_nth (l:List Int) (i:Nat):rd l (i:Int)=nth l i:=by simp[rd,nth]
theorem nth_end (l:List Int) (j:Nat) (h:l.length≤j):nth l j=0:=by simp[nth,h]
theorem w64 {x:Int} (h: -9223372036854775808≤x) (h':x≤9223372036854775807):wrap64 x=x:=by unfold wrap64;omega
theorem iw64 {x:Int} (h: -9223372036854775808≤x) (h':x≤9223372036854775807):IntKind.i64.wrap x=x:=by rw[Go.Proofs.YtepjhdblmghckaaW.PrintLast.i64_w,w64 h h']
def Hold (p:Prop):Prop:=p
theorem stopper {p:Prop} (h:Hold p):p:=h
section
variable {α:Type} {d:Kd α} {w w1:World} {v:Value} {l:List α} {ok ok':Nat→Prop}
end
def arr {α:Type} (enc:α→Value) (N:Nat) (m:Nat→α):Array Value:=Array.ofFn (n:=N) fun i=>enc (m i)
theorem arr_size {α:Type} (enc:α→Value) (N:Nat) (m:Nat→α):(arr enc N m).size=N:=by simp[arr]
theorem arr_get {α:Type} (enc:α→Value) (N:Nat) (m:Nat→α) (j:Nat) (h:j< N):(arr enc N m)[j]? =some (enc (m j)):=by simp[arr,h]
def upd {α:Type} (m:Nat→α) (d:Nat) (q:α):Nat→α:=fun i=>if i=d then q else m i
theorem arr_set {α:Type} (enc:α→Value) (N:Nat) (m:Nat→α) (d:Nat) (q:α) (h:d< N):(arr enc N m).setIfInBounds d (enc q)=arr enc N (upd m d q):=by
 apply Array.ext_getElem?;intro j;by_cases hj:j< N
 ·rw[Array.getElem?_setIfInBounds,arr_get _ _ _ _ hj,arr_get _ _ _ _ hj];by_cases e:d=j
  ·subst e;simp[arr_size,h,upd]
  ·rw[if_neg e];simp[upd,Ne.symm e]
 ·rw[Array.getElem?_eq_none (by simp[arr_size];omega),Array.getElem?_eq_none (by rw[arr_size];omega)]
end Go.Proofs.Ytepjhdblmghckaa.K
namespace Go.Proofs
open Go.Shelf Go.Lib
def Try.rev8_ren:Go.Shelf.Ren:=⟨fun|35=>100|n=>n,fun|22=>121|23=>90|n=>n,fun|n=>n⟩
theorem Try.laysRev8:SlLaysE.n35 Try.prog Try.rev8_ren:= {
 mixed:=by kernel_rfl
 f35:=⟨_,by kernel_rfl,Try.func100⟩
 t0:=Try.underlying0
 a0:=Try.isAgg0
 z0:=Try.sizeOf0
 v0:=Try.zeroValue0
 t3:=Try.underlying3
 a3:=Try.isAgg3
 z3:=Try.sizeOf3
 v3:=Try.zeroValue3
 t4:=Try.underlying4
 a4:=Try.isAgg4
 z4:=Try.sizeOf4
 v4:=Try.zeroValue4
 t22:=Try.underlying121
 a22:=Try.isAgg121
 z22:=Try.sizeOf121
 v22:=Try.zeroValue121
 a23:=Try.isAgg90
 z23:=Try.sizeOf90 }
def Try.rev64_ren:Go.Shelf.Ren:=⟨fun|35=>86|n=>n,fun|22=>22|23=>3|n=>n,fun|n=>n⟩
theorem Try.laysRev64:SlLaysE.n35 Try.prog Try.rev64_ren:= {
 mixed:=by kernel_rfl
 f35:=⟨_,by kernel_rfl,Try.func86⟩
 t0:=Try.underlying0
 a0:=Try.isAgg0
 z0:=Try.sizeOf0
 v0:=Try.zeroValue0
 t3:=Try.underlying3
 a3:=Try.isAgg3
 z3:=Try.sizeOf3
 v3:=Try.zeroValue3
 t4:=Try.underlying4
 a4:=Try.isAgg4
 z4:=Try.sizeOf4
 v4:=Try.zeroValue4
 t22:=Try.underlying22
 a22:=Try.isAgg22
 z22:=Try.sizeOf22
 v22:=Try.zeroValue22
 a23:=Try.isAgg3
 z23:=Try.sizeOf3 }
end Go.Proofs
namespace Go.Proofs.Ytepjhdblmghckaa.G
open Go.Proofs.Ytepjhdblmghckaa.Q Go.Proofs.Ytepjhdblmghckaa.K
open Go.RowKit Go.Shelf Go.Sort Go.Proofs.YtepjhdblmghckaaW.PrintWords Go.Proofs.YtepjhdblmghckaaW.PrintLast Go.Proofs.YtepjhdblmghckaaW.PrintMore
structure Alone (b:Nat) (W W':World):Prop where
 os:W'.os=W.os
 tape:W'.tape=W.tape
 output:W'.output=W.output
 size:W'.heap.size=W.heap.size
 other: ∀k,k≠b→W'.heap[k]? =W.heap[k]?
theorem Alone.trans {b:Nat} {W W1 W2:World} (h:Alone b W W1) (k:Alone b W1 W2):Alone b W W2:=
 ⟨k.os.trans h.os,k.tape.trans h.tape,k.output.trans h.output,k.size.trans h.size,fun j hj=>(k.other j hj).trans (h.other j hj)⟩
theorem Alone.set {b:Nat} {W W1:World} (h:Alone b W W1) (i:Nat) (v:Value):Alone b W (W1.setCell ⟨b,i,none⟩ v):=
 h.trans ⟨rfl,rfl,rfl,by simp[World.setCell],fun k hk=>Below.heap_setCell _ _ _ _ hk⟩
theorem Alone.below {b B:Nat} {w W W':World} (h:Below B w W) (ha:Alone b W W') (hb:B≤b):Below B w W':=
 h.trans ⟨ha.os,ha.tape,ha.output,by rw[ha.size];exact Nat.le_refl _,fun k hk=>ha.other k tO⟩
structure Row (κ:IntKind) (W:World) (b t n:Nat) (cs:Array Value) (m:Nat→Int):Prop where
 blk:Blk W b cs t
 le:n≤cs.size
 val: ∀p,p< n→cs[p]? =some (.int κ (m p))
theorem Row.cell {κ:IntKind} {W:World} {b t n:Nat} {cs:Array Value} {m:Nat→Int} (h:Row κ W b t n cs m) (p:Nat) (hp:p< n):W.cell? ⟨b,p,none⟩=some (.int κ (m p)):=h.blk.cell p (h.val p hp)
theorem Row.set {κ:IntKind} {W:World} {b t n:Nat} {cs:Array Value} {m:Nat→Int} (h:Row κ W b t n cs m) (p:Nat) (x:Int) (hp:p< n):Row κ (W.setCell ⟨b,p,none⟩ (.int κ x)) b t n (cs.setIfInBounds p (.int κ x)) (upd m p x):=
 ⟨h.blk.set p _,by simpa using h.le,fun q hq=>by
  have hl:=h.le;rw[Array.getElem?_setIfInBounds];by_cases e:p=q
  ·subst e;simp[upd];omega
  ·rw[if_neg e,h.val q hq];simp[upd,Ne.symm e]⟩
theorem Row.congr {κ:IntKind} {W:World} {b t n:Nat} {cs:Array Value} {m m':Nat→Int} (h:Row κ W b t n cs m) (hm: ∀p,p< n→m p=m' p):Row κ W b t n cs m':=⟨h.blk,h.le,fun p hp=>by rw[h.val p hp,hm p hp]⟩
def rv (m:Nat→Int) (i j:Nat):Nat→Int:=fun p=>if i≤p∧p< j then m (i+j - 1 - p)else m p
def fl (signed:Bool) (m:Nat→Int) (i j:Nat):Nat→Int:=fun p=>if signed=true∧i≤p∧p< j then -(rv m i j p)else rv m i j p
def flTo (m:Nat→Int) (i j q:Nat):Nat→Int:=fun p=>if i≤p∧p< q then -(rv m i j p)else rv m i j p
theorem rev8_calls {W:World} {b t n i j c:Nat} {cs:Array Value} {m:Nat→Int} (h:Row .i8 W b t n cs m) (hij:i< j) (hj:j≤n) (hn:n≤1000000):
  Calls Try.prog 100 #[.slice (some ⟨b,i,none⟩) (j - i) c] W fun e w'=>e= .returned (.tuple #[])∧ ∃cs',Row .i8 w' b t n cs' (rv m i j)∧(∀p,n≤p→cs'[p]? =cs[p]?)∧cs'.size=cs.size∧Alone b W w':=by
 obtain⟨zs,hzs⟩: ∃zs:List Int,zs=(List.range (j - i)).map (fun p=>m (i+p)):=⟨_,rfl⟩;have hzl:zs.length=j - i:=by rw[hzs];simp
 have hzg: ∀p,p< j - i→zs.toArray[p]! =m (i+p):=fun p hp=>by
  rw[getElem!_pos zs.toArray p (by simp;omega)];simp[hzs]
 have hH:Holds (Value.int .i8) W b i zs.toArray:=fun p hp=>by
  have hp':p< j - i:=by simpa [hzl]using hp
  rw[hzg p hp'];exact⟨h.cell (i+p) tO,h.blk.free (i+p)⟩
 have hc:=AnyE.slices_Reverse Try.laysRev8 (Value.int .i8) (fun _=>rfl) b i c zs W hH tO;rw[hzl]at hc;refine hc.mono ?_;rintro e w' ⟨rfl,q,rfl⟩
 have hput:(putRow (Value.int .i8) (Sort.ahead W q) b i zs.reverse.toArray).heap[b]? =some (.cells (putCells (Value.int .i8) i zs.reverse.toArray cs) t (0,0)):=by
  have hb:W.heap[b]? =some (.cells cs t (0,0)):=h.blk;unfold putRow mapBlock;simp only[Array.getElem?_modify,if_true];rw[show(Sort.ahead W q).heap=W.heap from rfl,hb];rfl
 have hle:=h.le;refine⟨rfl,putCells (Value.int .i8) i zs.reverse.toArray cs,⟨hput,by simpa [putCells]using h.le,fun p hp=>?_⟩,fun p hp=>?_,by simp[putCells],rfl,rfl,rfl,by simp[putRow,mapBlock,Sort.ahead],fun k hk=>?_⟩
 ·unfold putCells rv;rw[Array.getElem?_mapIdx,h.val p hp,Option.map_some];by_cases e:i≤p∧p< j
  ·rw[if_pos e,if_pos ⟨e.1,by simp[hzl];omega⟩];have h1:p - i< zs.reverse.length:=by simp[hzl];omega
   rw[getElem!_pos zs.reverse.toArray (p - i) (by simpa using h1)];simp only[List.getElem_toArray,List.getElem_reverse];have h2:=hzg (zs.length - 1 - (p - i)) tO;rw[getElem!_pos zs.toArray _ (by simp;omega)]at h2;simp only[List.getElem_toArray]at h2;rw[h2];congr 3;omega
  ·rw[if_neg e,if_neg (by simp[hzl];omega)]
 ·unfold putCells;rw[Array.getElem?_mapIdx];cases hq:cs[p]? with
  |none=>rfl
  |some v=>rw[Option.map_some,if_neg (by simp[hzl];omega)]
 ·unfold putRow mapBlock;simp only[Array.getElem?_modify];rw[if_neg (fun e=>hk e.symm)];rfl
theorem rev64_calls {W:World} {b t n i j c:Nat} {cs:Array Value} {m:Nat→Int} (h:Row .i64 W b t n cs m) (hij:i< j) (hj:j≤n) (hn:n≤1000000):
  Calls Try.prog 86 #[.slice (some ⟨b,i,none⟩) (j - i) c] W fun e w'=>e= .returned (.tuple #[])∧ ∃cs',Row .i64 w' b t n cs' (rv m i j)∧(∀p,n≤p→cs'[p]? =cs[p]?)∧cs'.size=cs.size∧Alone b W w':=by
 obtain⟨zs,hzs⟩: ∃zs:List Int,zs=(List.range (j - i)).map (fun p=>m (i+p)):=⟨_,rfl⟩;have hzl:zs.length=j - i:=by rw[hzs];simp
 have hzg: ∀p,p< j - i→zs.toArray[p]! =m (i+p):=fun p hp=>by
  rw[getElem!_pos zs.toArray p (by simp;omega)];simp[hzs]
 have hH:Holds (Value.int .i64) W b i zs.toArray:=fun p hp=>by
  have hp':p< j - i:=by simpa [hzl]using hp
  rw[hzg p hp'];exact⟨h.cell (i+p) tO,h.blk.free (i+p)⟩
 have hc:=AnyE.slices_Reverse Try.laysRev64 (Value.int .i64) (fun _=>rfl) b i c zs W hH tO;rw[hzl]at hc;refine hc.mono ?_;rintro e w' ⟨rfl,q,rfl⟩
 have hput:(putRow (Value.int .i64) (Sort.ahead W q) b i zs.reverse.toArray).heap[b]? =some (.cells (putCells (Value.int .i64) i zs.reverse.toArray cs) t (0,0)):=by
  have hb:W.heap[b]? =some (.cells cs t (0,0)):=h.blk;unfold putRow mapBlock;simp only[Array.getElem?_modify,if_true];rw[show(Sort.ahead W q).heap=W.heap from rfl,hb];rfl
 have hle:=h.le;refine⟨rfl,putCells (Value.int .i64) i zs.reverse.toArray cs,⟨hput,by simpa [putCells]using h.le,fun p hp=>?_⟩,fun p hp=>?_,by simp[putCells],rfl,rfl,rfl,by simp[putRow,mapBlock,Sort.ahead],fun k hk=>?_⟩
 ·unfold putCells rv;rw[Array.getElem?_mapIdx,h.val p hp,Option.map_some];by_cases e:i≤p∧p< j
  ·rw[if_pos e,if_pos ⟨e.1,by simp[hzl];omega⟩];have h1:p - i< zs.reverse.length:=by simp[hzl];omega
   rw[getElem!_pos zs.reverse.toArray (p - i) (by simpa using h1)];simp only[List.getElem_toArray,List.getElem_reverse];have h2:=hzg (zs.length - 1 - (p - i)) tO;rw[getElem!_pos zs.toArray _ (by simp;omega)]at h2;simp only[List.getElem_toArray]at h2;rw[h2];congr 3;omega
  ·rw[if_neg e,if_neg (by simp[hzl];omega)]
 ·unfold putCells;rw[Array.getElem?_mapIdx];cases hq:cs[p]? with
  |none=>rfl
  |some v=>rw[Option.map_some,if_neg (by simp[hzl];omega)]
 ·unfold putRow mapBlock;simp only[Array.getElem?_modify];rw[if_neg (fun e=>hk e.symm)];rfl
set_option maxHeartbeats 8000000 in
set_option maxRecDepth 100000 in
theorem flipped8_calls {W:World} {b t n i k c:Nat} {cs:Array Value} {m:Nat→Int} (signed:Bool) (h:Row .i8 W b t n cs m) (hik:i≤k) (hk:k< n) (hn:n≤1000) (hc:n≤c) (hm: ∀p, -100≤m p∧m p≤100):
  Calls Try.prog 87 #[.slice (some ⟨b,0,none⟩) n c, .int .i64 (i:Int), .int .i64 (k:Int), .bool signed] W fun e w'=>e= .returned (.tuple #[])∧ ∃cs',Row .i8 w' b t n cs' (fl signed m i (k+1))∧(∀p,n≤p→cs'[p]? =cs[p]?)∧cs'.size=cs.size∧Alone b W w':=by
 have hr:=rev8_calls (c:=c - i) h (show i< k+1 by omega) (show k+1≤n by omega) tO;have HR:=Aside0.mk hr;clear hr;have hw1:IntKind.i64.wrap ((k:Int)+1)=((k+1:Nat):Int):=by rw[iw64 tO tO];omega
 have b0:(0:Int)≤(i:Int):=by omega
 have b1:(i:Int)≤(k:Int):=by omega
 have b2:((k+1:Nat):Int)≤(c:Int):=by omega
 have b3:(i:Int)≤((k+1:Nat):Int):=by omega
 have b4:(0:Int)≤((k+1:Nat):Int):=by omega
 have b5: ¬c=i:=by omega
 have b6: ¬i=c:=by omega
 have b7:k+1≤c:=by omega
 have b8:i≤k+1:=by omega
 have HM:=Aside0.mk hm;clear hm
 go_enter Try.func87,Try.ntmps87
 go_wp2_with fail
 refine HR.out.mono ?_;rintro e w1 ⟨rfl,cs1,hr1,ho1,hz1,ha1⟩;have R1:=Aside0.mk hr1;have O1:=Aside0.mk ho1;have Z1:=Aside0.mk hz1;have A1:=Aside0.mk ha1;clear hr1 ho1 hz1 ha1 HR;cases signed
 ·go_wp2
  go_end0
  exact⟨rfl,cs1,R1.out.congr (fun p _=>by unfold fl;rw[if_neg tS]),O1.out,Z1.out,A1.out⟩
 ·go_wp2
  go_loopw [8] (fun u wr=> ∃(q:Nat) (cs':Array Value),i≤q∧q≤k+1∧u= .int .i64 (q:Int)∧Aside0 (Row .i8 wr b t n cs' (flTo m i (k+1) q))∧Aside0 (∀p,n≤p→cs'[p]? =cs[p]?)∧Aside0 (cs'.size=cs.size)∧Aside0 (Alone b W wr)) (fun u _=>k+1 - (intOf u).toNat)
  case atStart=>exact⟨i,cs1,Nat.le_refl _,by omega,rfl,⟨R1.out.congr (fun p _=>by unfold flTo;rw[if_neg tO])⟩,O1,Z1,A1⟩
  case round=>
   obtain⟨q,cs',hq0,hq,rfl,RQ,OQ,ZQ,AQ⟩:=hrel;by_cases hlt:q< k+1
   ·have c0:(q:Int)≤(k:Int):=by omega
    have c1:(0:Int)≤(q:Int):=by omega
    have c2:(q:Int)< (n:Int):=by omega
    have hcell:=RQ.out.cell q tO;have hfree:=RQ.out.blk.free q;obtain⟨x,hx⟩: ∃x,flTo m i (k+1) q q=x:=⟨_,rfl⟩;have hxr:x=rv m i (k+1) q:=by rw[←hx];unfold flTo;rw[if_neg tO]
    have hxb: -100≤x∧x≤100:=by
     rw[hxr];unfold rv;split
     ·exact HM.out _
     ·exact HM.out _
    rw[hx]at hcell;have hwx:IntKind.i8.wrap (-x)= -x:=IntWalk.i8_in _ tO;have hwt:IntKind.i64.wrap ((q:Int)+1)=((q+1:Nat):Int):=by rw[iw64 tO tO];omega
    have HX:=Aside0.mk hxr;clear hx hxr;go_wp2
    go_roundw
    case rel=>exact⟨q+1,_,by omega,by omega,rfl,⟨(RQ.out.set q (-x) tO).congr (fun p hp=>by
      unfold upd flTo;by_cases e:p=q
      ·subst e;rw[if_pos rfl,if_pos tO,HX.out]
      ·rw[if_neg e];by_cases e2:i≤p∧p< q
       ·rw[if_pos e2,if_pos tO]
       ·rw[if_neg e2,if_neg tO])⟩,⟨fun p hp=>by rw[Array.getElem?_setIfInBounds,if_neg tO];exact OQ.out p hp⟩,⟨by rw[Array.size_setIfInBounds];exact ZQ.out⟩,⟨AQ.out.set q _⟩⟩
    case measure=>simp[intOf];omega
   ·obtain rfl:q=k+1:=by omega
    have c0: ¬((k+1:Nat):Int)≤(k:Int):=by omega
    go_wp2
    go_end0
    exact⟨rfl,cs',RQ.out.congr (fun p _=>by unfold fl flTo;simp),OQ.out,ZQ.out,AQ.out⟩
set_option maxHeartbeats 8000000 in
set_option maxRecDepth 100000 in
theorem flipped64_calls {W:World} {b t n i k c:Nat} {cs:Array Value} {m:Nat→Int} (signed:Bool) (h:Row .i64 W b t n cs m) (hik:i≤k) (hk:k< n) (hn:n≤1000) (hc:n≤c) (hm: ∀p, -100≤m p∧m p≤100):
  Calls Try.prog 75 #[.slice (some ⟨b,0,none⟩) n c, .int .i64 (i:Int), .int .i64 (k:Int), .bool signed] W fun e w'=>e= .returned (.tuple #[])∧ ∃cs',Row .i64 w' b t n cs' (fl signed m i (k+1))∧(∀p,n≤p→cs'[p]? =cs[p]?)∧cs'.size=cs.size∧Alone b W w':=by
 have hr:=rev64_calls (c:=c - i) h (show i< k+1 by omega) (show k+1≤n by omega) tO;have HR:=Aside0.mk hr;clear hr;have hw1:IntKind.i64.wrap ((k:Int)+1)=((k+1:Nat):Int):=by rw[iw64 tO tO];omega
 have b0:(0:Int)≤(i:Int):=by omega
 have b1:(i:Int)≤(k:Int):=by omega
 have b2:((k+1:Nat):Int)≤(c:Int):=by omega
 have b3:(i:Int)≤((k+1:Nat):Int):=by omega
 have b4:(0:Int)≤((k+1:Nat):Int):=by omega
 have b5: ¬c=i:=by omega
 have b6: ¬i=c:=by omega
 have b7:k+1≤c:=by omega
 have b8:i≤k+1:=by omega
 have HM:=Aside0.mk hm;clear hm
 go_enter Try.func75,Try.ntmps75
 go_wp2_with fail
 refine HR.out.mono ?_;rintro e w1 ⟨rfl,cs1,hr1,ho1,hz1,ha1⟩;have R1:=Aside0.mk hr1;have O1:=Aside0.mk ho1;have Z1:=Aside0.mk hz1;have A1:=Aside0.mk ha1;clear hr1 ho1 hz1 ha1 HR;cases signed
 ·go_wp2
  go_end0
  exact⟨rfl,cs1,R1.out.congr (fun p _=>by unfold fl;rw[if_neg tS]),O1.out,Z1.out,A1.out⟩
 ·go_wp2
  go_loopw [8] (fun u wr=> ∃(q:Nat) (cs':Array Value),i≤q∧q≤k+1∧u= .int .i64 (q:Int)∧Aside0 (Row .i64 wr b t n cs' (flTo m i (k+1) q))∧Aside0 (∀p,n≤p→cs'[p]? =cs[p]?)∧Aside0 (cs'.size=cs.size)∧Aside0 (Alone b W wr)) (fun u _=>k+1 - (intOf u).toNat)
  case atStart=>exact⟨i,cs1,Nat.le_refl _,by omega,rfl,⟨R1.out.congr (fun p _=>by unfold flTo;rw[if_neg tO])⟩,O1,Z1,A1⟩
  case round=>
   obtain⟨q,cs',hq0,hq,rfl,RQ,OQ,ZQ,AQ⟩:=hrel;by_cases hlt:q< k+1
   ·have c0:(q:Int)≤(k:Int):=by omega
    have c1:(0:Int)≤(q:Int):=by omega
    have c2:(q:Int)< (n:Int):=by omega
    have hcell:=RQ.out.cell q tO;have hfree:=RQ.out.blk.free q;obtain⟨x,hx⟩: ∃x,flTo m i (k+1) q q=x:=⟨_,rfl⟩;have hxr:x=rv m i (k+1) q:=by rw[←hx];unfold flTo;rw[if_neg tO]
    have hxb: -100≤x∧x≤100:=by
     rw[hxr];unfold rv;split
     ·exact HM.out _
     ·exact HM.out _
    rw[hx]at hcell;have hwx:IntKind.i64.wrap (-x)= -x:=IntWalk.i64_in _ tO;have hwt:IntKind.i64.wrap ((q:Int)+1)=((q+1:Nat):Int):=by rw[iw64 tO tO];omega
    have HX:=Aside0.mk hxr;clear hx hxr;go_wp2
    go_roundw
    case rel=>exact⟨q+1,_,by omega,by omega,rfl,⟨(RQ.out.set q (-x) tO).congr (fun p hp=>by
      unfold upd flTo;by_cases e:p=q
      ·subst e;rw[if_pos rfl,if_pos tO,HX.out]
      ·rw[if_neg e];by_cases e2:i≤p∧p< q
       ·rw[if_pos e2,if_pos tO]
       ·rw[if_neg e2,if_neg tO])⟩,⟨fun p hp=>by rw[Array.getElem?_setIfInBounds,if_neg tO];exact OQ.out p hp⟩,⟨by rw[Array.size_setIfInBounds];exact ZQ.out⟩,⟨AQ.out.set q _⟩⟩
    case measure=>simp[intOf];omega
   ·obtain rfl:q=k+1:=by omega
    have c0: ¬((k+1:Nat):Int)≤(k:Int):=by omega
    go_wp2
    go_end0
    exact⟨rfl,cs',RQ.out.congr (fun p _=>by unfold fl flTo;simp),OQ.out,ZQ.out,AQ.out⟩
end Go.Proofs.Ytepjhdblmghckaa.G
namespace Go.Proofs.Ytepjhdblmghckaa.It
open Go.RowKit
def book:Obj→Bool| .loop _=>true| .deferred _=>true|_=>false
def isT (T:TypeId):Obj→Bool| .cells _ t _=>t==T|_=>false
def stays (T:TypeId) (o:Obj):Bool:=!book o&&!isT T o
structure Step (T:TypeId) (B:Nat) (A A':World):Prop where
 os:A'.os=A.os
 tape:A'.tape=A.tape
 output:A'.output=A.output
 size:A.heap.size≤A'.heap.size
 same: ∀(k:Nat) (o:Obj),A.heap[k]? =some o→(k< B∨stays T o=true)→A'.heap[k]? =some o
theorem Step.refl (T:TypeId) (B:Nat) (A:World):Step T B A A:=⟨rfl,rfl,rfl,Nat.le_refl _,fun _ _ h _=>h⟩
theorem Step.trans {T:TypeId} {B:Nat} {A A' A'':World} (h:Step T B A A') (k:Step T B A' A''):Step T B A A'':=
 ⟨k.os.trans h.os,k.tape.trans h.tape,k.output.trans h.output,Nat.le_trans h.size k.size,fun j o hj hs=>k.same j o (h.same j o hj hs) hs⟩
theorem Step.mono {T:TypeId} {B B':Nat} {A A':World} (h:Step T B' A A') (hB:B≤B'):Step T B A A':=
 ⟨h.os,h.tape,h.output,h.size,fun j o hj hs=>h.same j o hj (hs.imp (fun x=>by omega) id)⟩
theorem Step.alloc {T:TypeId} {B:Nat} {A A':World} (h:Step T B A A') (o:Obj):Step T B A (A'.alloc o):=
 h.trans ⟨rfl,rfl,rfl,by simp,fun k q hk _=>by rw[Below.heap_alloc _ _ _ (Array.getElem?_eq_some_iff.1 hk).1];exact hk⟩
theorem Step.putBook {T:TypeId} {B:Nat} {A A':World} (h:Step T B A A') {l:Nat} {o:Obj} (hl:A'.heap[l]? =some o) (hb:book o=true) (hB:B≤l) (o':Obj):Step T B A (A'.putObj l o'):=
 h.trans ⟨rfl,rfl,rfl,by simp,fun k q hk hs=>by
  by_cases e:k=l
  ·subst e;rw[hl]at hk;injection hk with hk;subst hk;exfalso;rcases hs with x|x
   ·omega
   ·simp[stays,hb]at x
  ·rw[World.putObj_heap_other e];exact hk⟩
theorem Step.below {T:TypeId} {B B0:Nat} {w A A':World} (h:Below B0 w A) (hs:Step T B A A') (hB:B0≤B) (hw:B0≤w.heap.size):Below B0 w A':=
 h.trans ⟨hs.os,hs.tape,hs.output,hs.size,fun k hk=>by
  have hlt:k< A.heap.size:=by have:=h.size;omega
  have e:=Array.getElem?_eq_getElem hlt;rw[e]
  exact hs.same k _ e (.inl tO)⟩
structure KB (T:TypeId) (keep:Nat→Prop) (A A':World):Prop where
 size:A.heap.size≤A'.heap.size
 same: ∀(k:Nat) (o:Obj),A.heap[k]? =some o→(keep k∨isT T o=true)→A'.heap[k]? =some o
theorem KB.trans {T:TypeId} {keep:Nat→Prop} {A A' A'':World} (h:KB T keep A A') (k:KB T keep A' A''):KB T keep A A'':=
 ⟨Nat.le_trans h.size k.size,fun j o hj hs=>k.same j o (h.same j o hj hs) hs⟩
structure RB (T:TypeId) (keep:Nat→Prop) (A A':World):Prop where
 size:A.heap.size≤A'.heap.size
 same: ∀(k:Nat) (o:Obj),A.heap[k]? =some o→(keep k∨isT T o=true∨book o=true)→A'.heap[k]? =some o
theorem RB.refl (T:TypeId) (keep:Nat→Prop) (A:World):RB T keep A A:=⟨Nat.le_refl _,fun _ _ h _=>h⟩
theorem RB.trans {T:TypeId} {keep:Nat→Prop} {A A' A'':World} (h:RB T keep A A') (k:RB T keep A' A''):RB T keep A A'':=
 ⟨Nat.le_trans h.size k.size,fun j o hj hs=>k.same j o (h.same j o hj hs) hs⟩
theorem RB.kb {T:TypeId} {keep:Nat→Prop} {A A':World} (h:RB T keep A A'):KB T keep A A':=⟨h.size,fun k o hk hs=>h.same k o hk (hs.imp id .inl)⟩
theorem RB.alloc {T:TypeId} {keep:Nat→Prop} {A A':World} (h:RB T keep A A') (o:Obj):RB T keep A (A'.alloc o):=
 h.trans ⟨by simp,fun k q hk _=>by rw[Below.heap_alloc _ _ _ (Array.getElem?_eq_some_iff.1 hk).1];exact hk⟩
theorem RB.below {T:TypeId} {keep:Nat→Prop} {A A' A'':World} (h:RB T keep A A') (k:Below A'.heap.size A' A''):RB T keep A A'':=
 h.trans ⟨k.size,fun j o hj _=>by rw[k.block j (Array.getElem?_eq_some_iff.1 hj).1];exact hj⟩
theorem RB.set {T:TypeId} {keep:Nat→Prop} {A A':World} (h:RB T keep A A') {b i:Nat} {v:Value} (hb: ∀o,A.heap[b]? =some o→ ¬keep b∧isT T o=false∧book o=false):RB T keep A (A'.setCell ⟨b,i,none⟩ v):=
 ⟨Nat.le_trans h.size (by simp[World.setCell]),fun k o hk hs=>by
  by_cases e:k=b
  ·subst e;have:=hb o hk;exfalso;rcases hs with x|x|x
   ·exact this.1 x
   ·rw[this.2.1]at x;cases x
   ·rw[this.2.2]at x;cases x
  ·rw[Below.heap_setCell _ _ _ _ e];exact h.same k o hk hs⟩
theorem RB.grown {T:TypeId} {keep:Nat→Prop} {A A' A'':World} (h:RB T keep A A') {row:Option Nat} (hg:A'.grownBy A'' row) (hb: ∀k o,row=some k→A.heap[k]? =some o→ ¬keep k∧isT T o=false∧book o=false):RB T keep A A'':=
 ⟨Nat.le_trans h.size hg.size,fun k o hk hs=>by
  by_cases e:row=some k
  ·have:=hb k o e hk;exfalso;rcases hs with x|x|x
   ·exact this.1 x
   ·rw[this.2.1]at x;cases x
   ·rw[this.2.2]at x;cases x
  ·have h1:=h.same k o hk hs
   rw[hg.block k (Array.getElem?_eq_some_iff.1 h1).1 (fun x=>e x.symm)];exact h1⟩
structure RX (A A':World):Prop where
 size:A.heap.size≤A'.heap.size
 same: ∀(k:Nat) (o:Obj),A.heap[k]? =some o→book o=true→A'.heap[k]? =some o
theorem RB.rx {T:TypeId} {keep:Nat→Prop} {A A':World} (h:RB T keep A A'):RX A A':=⟨h.size,fun k o hk hs=>h.same k o hk (.inr (.inr hs))⟩
theorem RX.refl (A:World):RX A A:=⟨Nat.le_refl _,fun _ _ h _=>h⟩
theorem RX.trans {A A' A'':World} (h:RX A A') (k:RX A' A''):RX A A'':=⟨Nat.le_trans h.size k.size,fun j o hj hs=>k.same j o (h.same j o hj hs) hs⟩
theorem RX.below {A A' A'':World} (h:RX A A') (k:Below A'.heap.size A' A''):RX A A'':=
 h.trans ⟨k.size,fun j o hj _=>by rw[k.block j (Array.getElem?_eq_some_iff.1 hj).1];exact hj⟩
theorem RX.set {A A':World} (h:RX A A') {b i:Nat} {v:Value} (hb: ∀o,A.heap[b]? =some o→book o=false):RX A (A'.setCell ⟨b,i,none⟩ v):=
 ⟨Nat.le_trans h.size (by simp[World.setCell]),fun k o hk hs=>by
  by_cases e:k=b
  ·subst e;rw[hb o hk]at hs;cases hs
  ·rw[Below.heap_setCell _ _ _ _ e];exact h.same k o hk hs⟩
def IterC {α:Type} (F:Fence) (n:Nat) (P:Program) (g:Nat) (lb:Array Value) (encs:α→Array Value) (T:TypeId) (keep:Nat→Prop) (L:List α) (w:World):Prop:=
 ∀(l:Nat) (J Jx:List α→World→Prop) (W:World),Below w.heap.size w W→
  (∀s A A',J s A→Step T W.heap.size A A'→J s A')→(∀s A A',Jx s A→Step T W.heap.size A A'→Jx s A')→
  (∀pre x rest W1,L=pre++x::rest→J pre W1→YieldAt F (n - 1) P l (encs x) W1 fun e W'=>
   (e= .returned (.bool true)∧J (pre++ [x]) W'∧KB T keep W1 W')∨(e= .returned (.bool false)∧Jx (pre++ [x]) W'))→
  J [] W→
  CallsIn F n P g (#[.func (.yield l) #[] #[]]++lb) W fun e W'=>(∃v,e= .returned v)∧(J L W'∨ ∃pre x rest,L=pre++x::rest∧Jx (pre++ [x]) W')
def Bk (A A':World):Prop:= ∀(k:Nat) (o:Obj),A.heap[k]? =some o→book o=false→A'.heap[k]? =some o
def rPost {α:Type} (T:TypeId) (keep:Nat→Prop) (I:List α→World→Prop) (Ix:Code→List α→World→Prop) (xs:List α) (W:World):Exit→Act→World→Prop
 | .normal,_,W'=>RB T keep W W'∧I xs W'
 | .ret,_,W'=>RX W W'∧Ix .ret xs W'
 | .exit id,_,W'=>RX W W'∧Ix (.exit id) xs W'
 | .goto t,_,W'=>RX W W'∧Ix (.goto t) xs W'
 | .panic _,_,_=>False
 | .outgrown,_,_=>False
section
variable {F:Fence} {n:Nat} {P:Program} {w:World} {α:Type}
theorem round_of {l:Nat} {fn:FuncId} {tmps:Array Value} {ps:Array Tmp} {assign body:Code} {D:Nat} {T:TypeId} {keep:Nat→Prop} {B:Nat}
  (rec:LoopState→Option Code→Loop) (hrec:rec=fun st pe=> { state:=st,pending:=pe,fn,tmps,params:=ps,assign,body,defers:=D })
  (hfn:F.fn fn) (encs:α→Array Value) (hps: ∀x,(encs x).size=ps.size)
  (I:List α→World→Prop) (Ix:Code→List α→World→Prop) (hI: ∀s A A',I s A→Step T B A A'→I s A') (hIx: ∀c s A A',Ix c s A→Step T B A A'→Ix c s A')
  (Ax:α→Act→World→Prop) (hAx: ∀x a' A A',Ax x a' A→Bk A A'→Ax x a' A') (hBl:B≤l) (hkl: ¬keep l)
  (pre:List α) (x:α) (W:World)
  (hassign: ∀(W:World) (K:Act→World→Prop),I pre W→(∃r,W.heap[l]? =some (.loop r))→(∀a' W',RB T keep W W'→I pre W'→Ax x a' W'→K a' W')→
   assign.wpIn (F.inRound l) n P (Exit.then K (fun _ _ _=>False)) { tmps:=(ps.zip (encs x)).foldl (fun t (p,v)=>t.setIfInBounds p v) tmps,defers:= [] } W)
  (hbody: ∀(a':Act) (W:World),I pre W→(∃r,W.heap[l]? =some (.loop r))→Ax x a' W→body.wpIn (F.inRound l) n P (rPost T keep I Ix (pre++ [x]) W) a' W)
  (hi:I pre W) (hl:W.heap[l]? =some (.loop (rec .ready none))) (E:World→Prop) (hE: ∀A A',E A→RX A A'→E A') (hEb: ∀A o,E A→E (A.putObj l o)) (he:E W):
  YieldAt F n P l (encs x) W fun e W'=>
   (e= .returned (.bool true)∧(I (pre++ [x]) W'∧W'.heap[l]? =some (.loop (rec .ready none))∧E W')∧KB T keep W W')∨
   (e= .returned (.bool false)∧ ∃c,Ix c (pre++ [x]) W'∧W'.heap[l]? =some (.loop (rec .done (some c)))∧E W'):=by
 have hlt:l< W.heap.size:=(Array.getElem?_eq_some_iff.1 hl).1;have hy:=run_yield (P:=P) (args:=encs x) hl (by rw[hrec];exact hps x);rw[hrec]at hy;refine⟨fn,_,assign,body,hy,roundIn_of_wpIn hfn (hassign W _ hi ⟨_,hl⟩ ?_)⟩;clear hy;intro a' Wa hrb hia hax;have hla:Wa.heap[l]? =some (.loop (rec .ready none)):=hrb.same l _ hl (.inr (.inr rfl));have hlta:l< Wa.heap.size:=(Array.getElem?_eq_some_iff.1 hla).1;refine⟨_,run_beginRound hla (by rw[hrec]),?_⟩;have hl2:(Wa.putObj l (.loop { rec .ready none with state:= .busy })).heap[l]? =some (.loop { rec .ready none with state:= .busy }):=World.putObj_heap_same hlta;have hst:Step T B Wa (Wa.putObj l (.loop { rec .ready none with state:= .busy })):=(Step.refl T B Wa).putBook hla rfl hBl _
 have hbk:Bk Wa (Wa.putObj l (.loop { rec .ready none with state:= .busy })):=fun k o hk hb=>by
  by_cases e:k=l
  ·subst e;rw[hla]at hk;injection hk with hk;subst hk;cases hb
  ·rw[World.putObj_heap_other e];exact hk
 have hE2:E (Wa.putObj l (.loop { rec .ready none with state:= .busy })):=hEb _ _ (hE _ _ he hrb.rx)
 have hkb1:KB T keep W (Wa.putObj l (.loop { rec .ready none with state:= .busy })):=hrb.kb.trans ⟨by simp,fun k o hk hs=>by
  by_cases e:k=l
  ·subst e;rw[hla]at hk;injection hk with hk;subst hk;rcases hs with x|x
   ·exact absurd x hkl
   ·cases x
  ·rw[World.putObj_heap_other e];exact hk⟩
 refine wpIn_mono (hbody a' _ (hI _ _ _ hia hst) ⟨_,hl2⟩ (hAx _ _ _ _ hax hbk)) ?_
 have fin: ∀(jump:Option Code) (W3:World),RX (Wa.putObj l (.loop { rec .ready none with state:= .busy })) W3→
   (Instr.endRound l jump).run P W3= .ok (.bool jump.isNone) (W3.putObj l (.loop (rec (if jump.isNone then .ready else .done) jump)))∧
   Step T B W3 (W3.putObj l (.loop (rec (if jump.isNone then .ready else .done) jump)))∧
   (W3.putObj l (.loop (rec (if jump.isNone then .ready else .done) jump))).heap[l]? =some (.loop (rec (if jump.isNone then .ready else .done) jump))∧
   E (W3.putObj l (.loop (rec (if jump.isNone then .ready else .done) jump)))∧W3.heap[l]? =some (.loop { rec .ready none with state:= .busy }):=fun jump W3 hk3=>by
  have hl3:=hk3.same _ _ hl2 rfl;have:=run_endRound (P:=P) jump hl3;rw[hrec]at this ⊢;exact⟨this,(Step.refl T B W3).putBook hl3 rfl hBl _,World.putObj_heap_same (Array.getElem?_eq_some_iff.1 hl3).1,hEb _ _ (hE _ _ hE2 hk3),by rw[hrec]at hl3;exact hl3⟩
 rintro e a3 W3 hp;cases e with
 | normal=>
  obtain⟨hk3,hi3⟩:=hp;obtain⟨hr,hs,hl4,hE4,hl3⟩:=fin none W3 hk3.rx;refine⟨_,_,hr, .inl ⟨rfl,⟨hI _ _ _ hi3 hs,hl4,hE4⟩,hkb1.trans (hk3.kb.trans ⟨by simp,fun k o hk hs=>?_⟩)⟩⟩;by_cases e:k=l
  ·subst e;rw[hl3]at hk;injection hk with hk;subst hk;rcases hs with x|x
   ·exact absurd x hkl
   ·cases x
  ·rw[World.putObj_heap_other e];exact hk
 |ret=>
  obtain⟨hk3,hi3⟩:=hp;obtain⟨hr,hs,hl4,hE4,_⟩:=fin (some .ret) W3 hk3;exact⟨_,_,hr, .inr ⟨rfl, .ret,hIx _ _ _ _ hi3 hs,hl4,hE4⟩⟩
 |exit id=>
  obtain⟨hk3,hi3⟩:=hp;obtain⟨hr,hs,hl4,hE4,_⟩:=fin (some (.exit id)) W3 hk3;exact⟨_,_,hr, .inr ⟨rfl, .exit id,hIx _ _ _ _ hi3 hs,hl4,hE4⟩⟩
 |goto t=>
  obtain⟨hk3,hi3⟩:=hp;obtain⟨hr,hs,hl4,hE4,_⟩:=fin (some (.goto t)) W3 hk3;exact⟨_,_,hr, .inr ⟨rfl, .goto t,hIx _ _ _ _ hi3 hs,hl4,hE4⟩⟩
 |panic ch=>exact hp.elim
 |outgrown=>exact hp.elim
theorem range_outer {g:Operand} {ps:Array Tmp} {assign body:Code} {Q:Exit→Act→World→Prop} {a:Act} {T:TypeId} {keep:Nat→Prop} {L:List α}
  (hro:F.round=none) (h1:1≤n) {gf:Nat} {lb:Array Value} (hg:a.eval g= .func (.func gf) #[] lb) (hFg:F.fn gf) (eg: ∀args w,(callFunc gf args).run P w= .ok (.enter gf args) w)
  {encs:α→Array Value} {w0:World} (hseq:IterC F (n - 1) P gf lb encs T keep L w0) (hb0:Below w0.heap.size w0 w) (hkeep: ∀k,keep k→k< w.heap.size) (hps: ∀x,(encs x).size=ps.size)
  (I:List α→World→Prop) (Ix:Code→List α→World→Prop) (hI: ∀s A A',I s A→Step T w.heap.size A A'→I s A') (hIx: ∀c s A A',Ix c s A→Step T w.heap.size A A'→Ix c s A') (h0:I [] w)
  (Ax:α→Act→World→Prop) (hAx: ∀x a' A A',Ax x a' A→Bk A A'→Ax x a' A')
  (hassign: ∀(l:Nat) (pre:List α) (x:α) (rest:List α) (W:World) (K:Act→World→Prop),L=pre++x::rest→I pre W→(∃r,W.heap[l]? =some (.loop r))→(∀a' W',RB T keep W W'→I pre W'→Ax x a' W'→K a' W')→
   assign.wpIn (F.inRound l) (n - 1 - 1) P (Exit.then K (fun _ _ _=>False)) { tmps:=(ps.zip (encs x)).foldl (fun t (p,v)=>t.setIfInBounds p v) a.tmps,defers:= [] } W)
  (hbody: ∀(l:Nat) (pre:List α) (x:α) (rest:List α) (a':Act) (W:World),L=pre++x::rest→w.heap.size≤l→(∃r,W.heap[l]? =some (.loop r))→I pre W→Ax x a' W→
   body.wpIn (F.inRound l) (n - 1 - 1) P (rPost T keep I Ix (pre++ [x]) W) a' W)
  (hdone: ∀(D:Nat) (W:World),w.heap.size≤D→I L W→W.heap[D]? =some (.deferred (some []))→Q .normal { a with defers:= { target:= .collected D,args:= #[] } ::a.defers } W)
  (hstop: ∀(D:Nat) (c:Code) (pre:List α) (x:α) (rest:List α) (W:World),L=pre++x::rest→w.heap.size≤D→Ix c (pre++ [x]) W→W.heap[D]? =some (.deferred (some []))→c.wpIn F n P Q { a with defers:= { target:= .collected D,args:= #[] } ::a.defers } W):
  (Code.rangeFunc g ps assign body).wpIn F n P Q a w:=by
 refine wpIn_rangeFunc ?_;intro fn hfn;rw[hro];obtain⟨rec,hrec⟩: ∃rec:LoopState→Option Code→Loop,rec=fun st pe=> { state:=st,pending:=pe,fn,tmps:=a.tmps,params:=ps,assign,body,defers:=w.heap.size } :=⟨_,rfl⟩;obtain⟨W1,hW1⟩: ∃W1,(w.alloc (.deferred (some []))).alloc (.loop (rec .ready none))=W1:=⟨_,rfl⟩;have hsz1:W1.heap.size=w.heap.size+2:=by rw[←hW1];simp
 have hL1:W1.heap[w.heap.size+1]? =some (.loop (rec .ready none)):=by
  rw[←hW1];have:=World.alloc_heap_new (w.alloc (.deferred (some []))) (.loop (rec .ready none));rwa [World.size_alloc]at this
 have hK1:W1.heap[w.heap.size]? =some (.deferred (some [])):=by
  rw[←hW1];exact(Below.heap_alloc _ _ _ tS).trans (World.alloc_heap_new w _)
 have hI1:I [] W1:=by rw[←hW1];exact hI _ _ _ h0 (((Step.refl T _ w).alloc _).alloc _)
 have hb1:Below w0.heap.size w0 W1:=by
  rw[←hW1];exact hb0.trans ((((Below.refl _ w).alloc (Nat.le_refl _) _).alloc tS _).mono hb0.size)
 refine⟨w.heap.size+1, [{ target:= .collected w.heap.size,args:= #[] }],W1, { target:= .fn (.func gf) lb,args:= #[.func (.yield (w.heap.size+1)) #[] #[]] },W1,gf,
  #[.func (.yield (w.heap.size+1)) #[] #[]]++lb,W1,?_,?_,?_,?_,fun _=>h1,?_⟩
 ·rw[←hW1,hrec];exact run_enterLoop_outer _ _ _ _ _
 ·simp only[resolve,hg];simp[go_sem]
 ·intro f' hf';simp[Target.leads]at hf';subst hf';exact hFg
 ·simp[invoke,go_sem,eg]
 ·refine(hseq (w.heap.size+1)
   (fun pre W=>I pre W∧W.heap[w.heap.size+1]? =some (.loop (rec .ready none))∧W.heap[w.heap.size]? =some (.deferred (some [])))
   (fun pre W=> ∃c,Ix c pre W∧W.heap[w.heap.size+1]? =some (.loop (rec .done (some c)))∧W.heap[w.heap.size]? =some (.deferred (some [])))
   W1 hb1
   (fun s A B hs hst=>⟨hI _ _ _ hs.1 (hst.mono tO),hst.same _ _ hs.2.1 (.inl tO),hst.same _ _ hs.2.2 (.inl tO)⟩)
   (fun s A B hs hst=>by
    obtain⟨c,hc,hl,hk⟩:=hs
    exact⟨c,hIx _ _ _ _ hc (hst.mono tO),hst.same _ _ hl (.inl tO),hst.same _ _ hk (.inl tO)⟩)
   ?_ ⟨hI1,hL1,hK1⟩).mono ?_
  ·rintro pre x rest W hL ⟨hi,hl,hk⟩
   have:=round_of (F:=F) (n:=n - 1 - 1) (P:=P) rec hrec hfn encs hps I Ix hI hIx Ax hAx (show w.heap.size≤w.heap.size+1 by omega) (fun hk=>by have:=hkeep _ hk;omega) pre x W
    (fun W K hi hr hK=>hassign _ pre x rest W K hL hi hr hK) (fun a' W hi hr hax=>hbody _ pre x rest a' W hL tO hr hi hax) hi hl
    (fun A=>A.heap[w.heap.size]? =some (.deferred (some []))) (fun A A' h hx=>hx.same _ _ h rfl) (fun A o h=>by rw[World.putObj_heap_other tO];exact h) hk
   exact this
  ·rintro e W2 ⟨⟨v,rfl⟩,(⟨hi,hl,hk⟩|⟨pre,x,rest,hL,c,hi,hl,hk⟩)⟩
   ·refine⟨none,_,by have:=run_endLoop (P:=P) hl (by rw[hrec];simp);rw[hrec]at this;exact this,hdone _ _ (Nat.le_refl _) (hI _ _ _ hi ((Step.refl T _ W2).putBook hl rfl tO _)) ((World.putObj_heap_other tO).trans hk)⟩
   ·exact⟨some c,_,by have:=run_endLoop (P:=P) hl (by rw[hrec];simp);rw[hrec]at this;exact this,hstop _ c pre x rest _ hL (Nat.le_refl _) (hIx _ _ _ _ hi ((Step.refl T _ W2).putBook hl rfl tO _)) ((World.putObj_heap_other tO).trans hk)⟩
end
end Go.Proofs.Ytepjhdblmghckaa.It
namespace Go.Proofs.Ytepjhdblmghckaa.It
open Go
variable {F:Fence} {n l:Nat} {P:Program}
theorem opIn_round {o:Oper} {a:Act} {w:World} {K:Act→World→Prop} {Q:Exit→Act→World→Prop} (hro:F.round=none) (ho: ∀c,o.op≠ .defer c) (h:o.wpIn F n P a w K Q):o.wpIn (F.inRound l) n P a w K Q:=by
 unfold Oper.wpIn at*;refine⟨h.1,?_⟩;have e1:o.semAt F.round a.eval=execOp a.eval o:=Oper.semAt_eq _ _ _ ho;have e2:o.semAt (F.inRound l).round a.eval=execOp a.eval o:=Oper.semAt_eq _ _ _ ho;have h2:=h.2;rw[e1]at h2;rw[e2];exact h2
theorem exists_first {R:Nat→Prop} : ∀k,R k→ ∃m,R m∧ ∀j,j< m→ ¬R j:=by
 intro k
 induction k using Nat.strongRecOn with
 | ind k ih=>
  intro hk;by_cases h: ∃j,j< k∧R j
  ·obtain⟨j,hj,hr⟩:=h;exact ih j hj hr
  ·exact⟨k,hk,fun j hj hr=>h ⟨j,hj,hr⟩⟩
def Back (ops:Array Oper):Prop:= ∀(j:Nat) (o:Oper),ops[j]? =some o→ ∀e∈o.after,e.on< j
section
variable {opsR:Array Oper} {last:Oper} {C:World→Prop} {Q:Act→Prop} {Q':Exit→Act→World→Prop}
theorem ready_push (hback:Back opsR) {listed:Array Bool} (hs:listed.size=opsR.size) {i:Nat} (hi:i< opsR.size):
  i∈Region.ready .any (opsR.push last) (listed.push false)↔i∈Region.ready .any opsR listed:=by
 rw[mem_ready,mem_ready];have e1:(opsR.push last)[i]? =opsR[i]? :=by rw[Array.getElem?_push];simp;omega
 have g1: ∀(b:Bool) (j:Nat),j< opsR.size→(listed.push false).getD j b=listed.getD j b:=fun b j hj=>by
  simp only[Array.getD_eq_getD_getElem?];rw[Array.getElem?_push];have: ¬j=listed.size:=by omega
  simp[this]
 rw[e1,g1 true i hi];constructor
 ·rintro⟨h1,o,h2,h3⟩;exact⟨h1,o,h2,fun e he hb=>by rw[←g1 false e.on (by have:=hback i o h2 e he;omega)];exact h3 e he hb⟩
 ·rintro⟨h1,o,h2,h3⟩;exact⟨h1,o,h2,fun e he hb=>by rw[g1 false e.on (by have:=hback i o h2 e he;omega)];exact h3 e he hb⟩
theorem all_listed (hback:Back opsR) {listed:Array Bool} (hs:listed.size=opsR.size) (h:Region.ready .any opsR listed= []): ∀j,j< opsR.size→listed.getD j false=true:=by
 intro j hj;rcases hb:listed.getD j false with _|_
 ·exfalso;obtain⟨m,⟨hm1,hm2⟩,hmin⟩:=exists_first (R:=fun j=>j< opsR.size∧listed.getD j false=false) j ⟨hj,hb⟩
  have:m∈Region.ready .any opsR listed:=by
   rw[mem_ready]
   have hg: ∀b,listed.getD m b=false:=fun b=>by
    simp only[Array.getD_eq_getD_getElem?]at hm2 ⊢;rw[Array.getElem?_eq_getElem tO]at hm2 ⊢;simpa using hm2
   refine⟨hg true,opsR[m],Array.getElem?_eq_getElem hm1,fun e he _=>?_⟩;have hlt:=hback m _ (Array.getElem?_eq_getElem hm1) e he;rcases hx:listed.getD e.on false with _|_
   ·exact absurd ⟨by omega,hx⟩ (hmin e.on hlt)
   ·rfl
  rw[h]at this;cases this
 ·rfl
theorem wpAnyIn_last (hro:F.round=none) (hback:Back opsR) (hplain: ∀(j:Nat) (o:Oper),opsR[j]? =some o→o.guard=none∧ ∀c,o.op≠ .defer c)
  (hlg:last.guard=none) (hlw: ∀j,j< opsR.size→ ∃e∈last.after,Region.binds .any e=true∧e.on=j) (hle: ∀e∈last.after,e.on< opsR.size)
  (hL: ∀a w,C w→Q a→last.wpIn (F.inRound l) n P a w (fun a' w'=>Q' .normal a' w') Q'):
  ∀(fuel:Nat) (listed:Array Bool) (a:Act) (w:World),listed.size=opsR.size→C w→wpAnyQIn F n P .any opsR C Q fuel listed a→wpAnyIn (F.inRound l) n P .any (opsR.push last) Q' (fuel+1) (listed.push false) a w:=by
 have wanted: ∀(o:Oper) (v:Nat→Option Bool),o.guard=none→Region.wanted o v=true:=fun o v h=>by simp[Region.wanted,h]
 have hk:(opsR.push last)[opsR.size]? =some last:=by simp
 have fin: ∀(fuel:Nat) (listed:Array Bool) (a':Act) (w':World),listed.size=opsR.size→(∀j,j< opsR.size→listed.getD j false=true)→Q' .normal a' w'→
   wpAnyIn (F.inRound l) n P .any (opsR.push last) Q' fuel ((listed.push false).setIfInBounds opsR.size true) a' w':=by
  intro fuel listed a' w' hs hall hq
  have hnone:Region.ready .any (opsR.push last) ((listed.push false).setIfInBounds opsR.size true)= []:=by
   rw[List.eq_nil_iff_forall_not_mem];intro j hj;rw[mem_ready]at hj;obtain⟨h1,o,h2,_⟩:=hj;have hlt:=(Array.getElem?_eq_some_iff.1 h2).1;simp only[Array.size_push]at hlt;by_cases e:j=opsR.size
   ·subst e;simp only[Array.getD_eq_getD_getElem?,Array.getElem?_setIfInBounds]at h1;simp[hs]at h1
   ·have:=hall j tO;simp only[Array.getD_eq_getD_getElem?]at this h1;rw[Array.getElem?_setIfInBounds_ne tO,Array.getElem?_push]at h1;have e2: ¬j=listed.size:=by omega
    simp only[e2,if_false]at h1;rw[Array.getElem?_eq_getElem tO]at this h1;simp only[Option.getD_some]at this h1;rw[this]at h1;cases h1
  cases fuel with
  |zero=>exact⟨hnone,hq⟩
  |succ f=>exact⟨fun _=>hq,fun i hi=>by rw[hnone]at hi;cases hi⟩
 have gp: ∀(listed:Array Bool) (b:Bool) (j:Nat),listed.size=opsR.size→j< opsR.size→(listed.push false).getD j b=listed.getD j b:=fun listed b j hs hj=>by
  simp only[Array.getD_eq_getD_getElem?];rw[Array.getElem?_push];have: ¬j=listed.size:=by omega
  simp[this]
 have lastReady: ∀(listed:Array Bool),listed.size=opsR.size→(∀j,j< opsR.size→listed.getD j false=true)→opsR.size∈Region.ready .any (opsR.push last) (listed.push false):=fun listed hs hall=>by
  rw[mem_ready];refine⟨by simp[Array.getD_eq_getD_getElem?,←hs],last,hk,fun e he hb=>?_⟩;rw[gp listed false e.on hs (hle e he)];exact hall _ (hle e he)
 have lastStep: ∀(fuel:Nat) (listed:Array Bool) (a:Act) (w:World),listed.size=opsR.size→C w→(∀j,j< opsR.size→listed.getD j false=true)→Q a→
   wpOpIn (F.inRound l) n P (opsR.push last) Q' opsR.size (wpAnyIn (F.inRound l) n P .any (opsR.push last) Q' fuel ((listed.push false).setIfInBounds opsR.size true)) a w:=fun fuel listed a w hs hc hall hq=>by
  unfold wpOpIn;simp only[hk];rw[if_pos (wanted _ _ hlg)];exact Oper.wpIn_mono (fun a' w' h=>fin fuel listed a' w' hs hall h) (hL a w hc hq)
 have allOf: ∀(listed:Array Bool),listed.size=opsR.size→opsR.size∈Region.ready .any (opsR.push last) (listed.push false)→ ∀j,j< opsR.size→listed.getD j false=true:=fun listed hs hi j hj=>by
  rw[mem_ready]at hi;obtain⟨_,o,ho,hall⟩:=hi;rw[hk]at ho;cases ho;obtain⟨e,he,hb,rfl⟩:=hlw j hj;rw[←gp listed false e.on hs hj];exact hall e he hb
 have noneOf: ∀(listed:Array Bool),listed.size=opsR.size→(∀j,j< opsR.size→listed.getD j false=true)→Region.ready .any opsR listed= []:=fun listed hs hall=>by
  rw[List.eq_nil_iff_forall_not_mem];intro j hj;rw[mem_ready]at hj;obtain⟨h1,o,h2,_⟩:=hj;have hlt:=(Array.getElem?_eq_some_iff.1 h2).1;have:=hall j hlt;simp only[Array.getD_eq_getD_getElem?]at this h1;rw[Array.getElem?_eq_getElem tO]at this h1;simp only[Option.getD_some]at this h1;rw[this]at h1;cases h1
 have cases_: ∀(listed:Array Bool) (i:Nat),i∈Region.ready .any (opsR.push last) (listed.push false)→i< opsR.size∨i=opsR.size:=fun listed i hi=>by
  rw[mem_ready]at hi;obtain⟨_,o,h2,_⟩:=hi;have hlt:=(Array.getElem?_eq_some_iff.1 h2).1;simp only[Array.size_push]at hlt;omega
 intro fuel
 induction fuel with
 | zero=>
  intro listed a w hs hc h;have hall:=all_listed hback hs h.1;refine⟨fun h0=>?_,fun i hi=>?_⟩
  ·have:=lastReady listed hs hall;rw[h0]at this;cases this
  ·rcases cases_ listed i hi with hlt|rfl
   ·have:=(ready_push (last:=last) hback hs hlt).1 hi;rw[h.1]at this;cases this
   ·exact lastStep 0 listed a w hs hc hall h.2
 | succ fuel ih=>
  intro listed a w hs hc h;refine⟨fun h0=>?_,fun i hi=>?_⟩
  ·exfalso;by_cases hr:Region.ready .any opsR listed= []
   ·have:=lastReady listed hs (all_listed hback hs hr);rw[h0]at this;cases this
   ·obtain⟨i,hi⟩:=List.exists_mem_of_ne_nil _ hr
    have hlt:i< opsR.size:=by
     have h2:=hi;rw[mem_ready]at h2;obtain⟨_,o,h2,_⟩:=h2;exact(Array.getElem?_eq_some_iff.1 h2).1
    have:=(ready_push (last:=last) hback hs hlt).2 hi;rw[h0]at this;cases this
  ·rcases cases_ listed i hi with hlt|rfl
   ·have hi':=(ready_push (last:=last) hback hs hlt).1 hi;have hst:=wpOpIn_of_qOpIn (Q':=Q') hro hc (fun a' w' hw' hq=>ih (listed.setIfInBounds i true) a' w' (by simpa using hs) hw' hq) (h.2 i hi')
    have ei:(opsR.push last)[i]? =opsR[i]? :=by
     rw[Array.getElem?_push];have: ¬i=opsR.size:=by omega
     simp[this]
    have el:(listed.push false).setIfInBounds i true=(listed.setIfInBounds i true).push false:=by
     apply Array.ext_getElem?;intro j;simp only[Array.getElem?_setIfInBounds,Array.getElem?_push,Array.size_push,Array.size_setIfInBounds];by_cases e1:i=j
     ·subst e1;have h0: ¬i=listed.size:=by omega
      have h1:i< listed.size+1:=by omega
      have h2:i< listed.size:=by omega
      simp[h0,h1,h2]
     ·by_cases e2:j=listed.size
      ·have h3: ¬i=listed.size:=by omega
       simp[e2,h3]
      ·simp[e1,e2]
    unfold wpOpIn at hst ⊢;rw[ei,el];cases ho:opsR[i]? with
    |none=>rw[Array.getElem?_eq_getElem hlt]at ho;cases ho
    |some o=>
     rw[ho]at hst;simp only at hst ⊢;obtain⟨hg,hd⟩:=hplain i o ho;rw[if_pos (wanted _ _ hg)]at hst ⊢;exact opIn_round hro hd hst
   ·have hall:=allOf listed hs hi;exact lastStep (fuel+1) listed a w hs hc hall (h.1 (noneOf listed hs hall))
theorem wpIn_region_last {id:Nat} {a:Act} {w:World} {lr:List Oper} (hro:F.round=none) (hm:P.follows .mixedOrders=true) (hB:Region.lexB .any lr.toArray=true) (hback:Back lr.toArray)
  (hplain: ∀(j:Nat) (o:Oper),lr.toArray[j]? =some o→o.guard=none∧ ∀c,o.op≠ .defer c) (hlg:last.guard=none)
  (hlw: ∀j,j< lr.toArray.size→ ∃e∈last.after,Region.binds .any e=true∧e.on=j) (hle: ∀e∈last.after,e.on< lr.toArray.size)
  (h:wpQuietIn F n P lr.toArray (fun w'=> ∃m,w'=w.drewN m) (fun a'=> ∀w1,(∃m,w1=w.drewN m)→last.wpIn (F.inRound l) n P a' w1 (fun a' w'=>Q' .normal a' w') Q') lr a):
  (Code.region id (lr++ [last]).toArray true).wpIn (F.inRound l) n P Q' a w:=by
 have hB':=hB;simp only[Region.lexB,Bool.and_eq_true]at hB';have hq:=wpAnyQIn_lex (F:=F) (n:=n) (C:=fun w'=> ∃m,w'=w.drewN m) (md:= .any) hB'.1 lr 0 (Array.replicate lr.toArray.size false) a tS (by simpa using hB'.2) h;have hcl: ∀(a':Act) (w':World),(∃m,w'=w.drewN m)→(∀w1,(∃m,w1=w.drewN m)→last.wpIn (F.inRound l) n P a' w1 (fun a' w'=>Q' .normal a' w') Q')→last.wpIn (F.inRound l) n P a' w' (fun a' w'=>Q' .normal a' w') Q':=fun a' w' hw hq=>hq w' hw;have:=wpAnyIn_last (l:=l) (n:=n) (P:=P) (C:=fun w'=> ∃m,w'=w.drewN m) (Q':=Q') (last:=last) hro hback hplain hlg hlw hle hcl lr.length (Array.replicate lr.toArray.size false) a w.drew tS ⟨1,rfl⟩ hq;have e1:(lr++ [last]).toArray=lr.toArray.push last:=by simp
 rw[e1];refine wpIn_region_any hm ?_;have e2:(lr.toArray.push last).size=lr.length+1:=by simp
 have e3:Array.replicate (lr.toArray.push last).size false=(Array.replicate lr.toArray.size false).push false:=by rw[e2];simp[Array.replicate_succ]
 rw[e3,e2];exact this
def noDefer (o:Oper):Bool:=match o.op with| .defer _=>false|_=>true
def lastB (lr:List Oper) (last:Oper):Bool:=
 Region.lexB .any lr.toArray&&(lr.all fun o=>o.guard.isNone&&noDefer o)&&last.guard.isNone&&
 ((List.range lr.length).all fun j=>((lr[j]?).map fun o=>o.after.all fun e=>decide (e.on< j)).getD true&&last.after.any fun e=>Region.binds .any e&&decide (e.on=j))&&
 last.after.all fun e=>decide (e.on< lr.length)
theorem wpIn_region_last' {id:Nat} {a:Act} {w:World} {ops lr:List Oper} {last:Oper} (hs:ops=lr++ [last]) (hro:F.round=none) (hm:P.follows .mixedOrders=true) (hB:lastB lr last=true)
  (h:wpQuietIn F n P lr.toArray (fun w'=> ∃m,w'=w.drewN m) (fun a'=> ∀w1,(∃m,w1=w.drewN m)→last.wpIn (F.inRound l) n P a' w1 (fun a' w'=>Q' .normal a' w') Q') lr a):
  (Code.region id ops.toArray true).wpIn (F.inRound l) n P Q' a w:=by
 subst hs;unfold lastB at hB;simp only[Bool.and_eq_true]at hB;obtain⟨⟨⟨⟨h1,h2⟩,h3⟩,h4⟩,h5⟩:=hB
 have h2': ∀o∈lr,o.guard=none∧ ∀c,o.op≠ .defer c:=fun o ho=>by
  have:=List.all_eq_true.1 h2 o ho;simp only[Bool.and_eq_true,Option.isNone_iff_eq_none]at this;refine⟨this.1,fun c hc=>?_⟩;have h:=this.2;simp[noDefer,hc]at h
 have h4': ∀j,j< lr.length→(((lr[j]?).map fun o=>o.after.all fun e=>decide (e.on< j)).getD true=true)∧(last.after.any fun e=>Region.binds .any e&&decide (e.on=j))=true:=fun j hj=>by
  have:=List.all_eq_true.1 h4 j (List.mem_range.2 hj);simpa only[Bool.and_eq_true]using this
 refine wpIn_region_last hro hm h1 (fun j o ho e he=>?_) (fun j o ho=>h2' o ?_) (Option.isNone_iff_eq_none.1 h3) (fun j hj=>?_) (fun e he=>?_) h
 ·have ho':lr[j]? =some o:=by simpa using ho
  have hj:=(List.getElem?_eq_some_iff.1 ho').1;have:=(h4' j hj).1;rw[ho']at this;simp only[Option.map_some,Option.getD_some,Array.all_eq_true_iff_forall_mem,decide_eq_true_eq]at this;exact this e he
 ·have ho':lr[j]? =some o:=by simpa using ho
  exact List.mem_of_getElem? ho'
 ·have:=(h4' j (by simpa using hj)).2;rw[Array.any_eq_true']at this;obtain⟨e,he,hb⟩:=this;simp only[Bool.and_eq_true,decide_eq_true_eq]at hb;exact⟨e,he,hb.1,hb.2⟩
 ·rw[Array.all_eq_true_iff_forall_mem]at h5;simpa using h5 e he
end
end Go.Proofs.Ytepjhdblmghckaa.It
namespace Go.Proofs.Ytepjhdblmghckaa.G
open Go.Proofs.Ytepjhdblmghckaa.Q Go.Proofs.Ytepjhdblmghckaa.K Go.Proofs.Ytepjhdblmghckaa.It
open Go.RowKit Go.Shelf Go.Proofs.YtepjhdblmghckaaW.PrintWords Go.Proofs.YtepjhdblmghckaaW.PrintLast Go.Proofs.YtepjhdblmghckaaW.PrintMore
attribute [local go_sem] Oper.semAt_some
def stk (m:Nat→Int):Array Value:= #[.int .i8 (m 0), .int .i8 (m 1), .int .i8 (m 2), .int .i8 (m 3), .int .i8 (m 4), .int .i8 (m 5), .int .i8 (m 6)]
theorem stk_size (m:Nat→Int):(stk m).size=7:=rfl
theorem stk_get (m:Nat→Int) (j:Nat) (hj:j< 7):(stk m)[j]? =some (.int .i8 (m j)):=by
 match j,hj with
 |0,_|1,_|2,_|3,_|4,_|5,_|6,_=>rfl
 |_+7,h=>omega
theorem stk_ext (m:Nat→Int) (cs:Array Value) (hs:cs.size=7) (h: ∀j,j< 7→cs[j]? =some (.int .i8 (m j))):cs=stk m:=by
 apply Array.ext_getElem?;intro j;by_cases hj:j< 7
 ·rw[h j hj,stk_get _ _ hj]
 ·rw[Array.getElem?_eq_none tO,Array.getElem?_eq_none (by rw[stk_size];omega)]
theorem stk_row {W:World} {b t:Nat} {m:Nat→Int} (h:Blk W b (stk m) t):Row .i8 W b t 7 (stk m) m:=⟨h,by rw[stk_size];omega,fun p hp=>stk_get m p hp⟩
theorem row_stk {W:World} {b t:Nat} {cs:Array Value} {m:Nat→Int} (h:Row .i8 W b t 7 cs m) (hs:cs.size=7):Blk W b (stk m) t:=by
 have e:=stk_ext m cs hs h.val;rw[←e];exact h.blk
theorem stk_cells {W:World} {b t:Nat} {m:Nat→Int} (h:Blk W b (stk m) t):W.cell? ⟨b,0,none⟩=some (.int .i8 (m 0))∧W.cell? ⟨b,1,none⟩=some (.int .i8 (m 1))∧W.cell? ⟨b,2,none⟩=some (.int .i8 (m 2))∧W.cell? ⟨b,3,none⟩=some (.int .i8 (m 3))∧W.cell? ⟨b,4,none⟩=some (.int .i8 (m 4))∧W.cell? ⟨b,5,none⟩=some (.int .i8 (m 5))∧W.cell? ⟨b,6,none⟩=some (.int .i8 (m 6)):=
 ⟨h.cell 0 rfl,h.cell 1 rfl,h.cell 2 rfl,h.cell 3 rfl,h.cell 4 rfl,h.cell 5 rfl,h.cell 6 rfl⟩
def mvTo (sg:Bool) (i q:Nat):List (Nat×Nat):=((List.range q).filter (fun k=>decide (i≤k)&&(sg||decide (k≠i)))).map (fun k=>(i,k))
theorem mvTo_low (sg:Bool) (i q:Nat) (h:q≤i):mvTo sg i q= []:=by
 unfold mvTo;rw[List.filter_eq_nil_iff.2 (fun k hk=>by rw[decide_eq_false (by have:=List.mem_range.1 hk;omega)];simp),List.map_nil]
theorem mvTo_succ (sg:Bool) (i q:Nat):mvTo sg i (q+1)=if i≤q∧(sg=true∨q≠i)then mvTo sg i q++ [(i,q)]else mvTo sg i q:=by
 unfold mvTo;rw[List.range_succ,List.filter_append,List.map_append];by_cases h1:i≤q<;>by_cases h2:q=i<;>cases sg<;>simp[h1,h2]
def mvAt (n:Nat) (sg an:Bool) (i:Nat):List (Nat×Nat):=if 0< i∧an=false then []else mvTo sg i n
def mvIn (n:Nat) (sg an:Bool) (i:Nat):List (Nat×Nat):=(List.range i).flatMap (mvAt n sg an)
theorem mvIn_succ (n:Nat) (sg an:Bool) (i:Nat):mvIn n sg an (i+1)=mvIn n sg an i++mvAt n sg an i:=by simp[mvIn,List.range_succ]
def mvL (n:Nat) (sg an:Bool):List (Nat×Nat):=mvIn n sg an n
theorem mvIn_split (n:Nat) (sg an:Bool) (i j:Nat) (h:i≤j): ∃r,mvIn n sg an j=mvIn n sg an i++r:=by
 have key: ∀d,∃r,mvIn n sg an (i+d)=mvIn n sg an i++r:=by
  intro d
  induction d with
  |zero=>exact⟨[],by simp⟩
  |succ d ih=>
   obtain⟨r,hr⟩:=ih;exact⟨r++mvAt n sg an (i+d),by rw[←Nat.add_assoc,mvIn_succ,hr,List.append_assoc]⟩
 obtain⟨r,hr⟩:=key (j - i);rw[show i+(j - i)=j by omega]at hr;exact⟨r,hr⟩
theorem mvTo_split (sg:Bool) (i q n:Nat) (h:q≤n): ∃r,mvTo sg i n=mvTo sg i q++r:=by
 have key: ∀d,∃r,mvTo sg i (q+d)=mvTo sg i q++r:=by
  intro d
  induction d with
  |zero=>exact⟨[],by simp⟩
  |succ d ih=>
   obtain⟨r,hr⟩:=ih;rw[←Nat.add_assoc,mvTo_succ]
   split
   ·exact⟨r++ [(i,q+d)],by rw[hr,List.append_assoc]⟩
   ·exact⟨r,hr⟩
 obtain⟨r,hr⟩:=key (n - q);rw[show q+(n - q)=n by omega]at hr;exact⟨r,hr⟩
theorem mv_at (n:Nat) (sg an:Bool) (i q:Nat) (hi:i< n) (hq:q< n) (hiq:i≤q) (h0: ¬(0< i∧an=false)) (h1:sg=true∨q≠i): ∃r,mvL n sg an=(mvIn n sg an i++mvTo sg i q)++(i,q)::r:=by
 obtain⟨r1,e1⟩:=mvIn_split n sg an (i+1) n tO;obtain⟨r2,e2⟩:=mvTo_split sg i (q+1) n tO;rw[mvTo_succ,if_pos ⟨hiq,h1⟩]at e2;refine⟨r2++r1,?_⟩;unfold mvL;rw[e1,mvIn_succ,mvAt,if_neg h0,e2];simp
theorem mvIn_top (n:Nat) (sg an:Bool) (h:an=false): ∀i,0< i→mvIn n sg an i=mvIn n sg an 1
 |0,h0=>absurd h0 tO
 |1,_=>rfl
 |i+2,_=>by rw[mvIn_succ,mvAt,if_pos ⟨by omega,h⟩,List.append_nil,mvIn_top n sg an h (i+1) tO]
def keepM (Bx Bs:Nat) (k:Nat):Prop:=k=Bx∨k=Bs
def encM (sg:Bool) (m:Nat→Int) (x:Nat×Nat):Array Value:= #[.agg #[.int .i64 (x.1:Int), .int .i64 (x.2:Int)], .agg (stk (fl sg m x.1 (x.2+1)))]
theorem step_below (T B:Nat) {A A':World} (h:Below A.heap.size A A'):Step T B A A':=
 ⟨h.os,h.tape,h.output,h.size,fun k o hk _=>by rw[h.block k (Array.getElem?_eq_some_iff.1 hk).1];exact hk⟩
set_option maxRecDepth 100000 in
set_option maxHeartbeats 8000000 in
theorem moves_it (d:Nat) (hd:1≤d) (Bx Bs n:Nat) (sg an:Bool) (m:Nat→Int) (hn:n≤7) (hm: ∀p, -100≤m p∧m p≤100) (w:World)
  (hBx:Blk w Bx #[.int .i64 n, .bool sg, .bool an] 88) (hBs:Blk w Bs (stk m) 92):
  IterC Fence.wide d Try.prog 113 #[.pointer (some ⟨Bx,0,none⟩), .pointer (some ⟨Bs,0,none⟩)] (encM sg m) 0 (keepM Bx Bs) (mvL n sg an) w:=by
 intro lo J Jx W hW hJ hJx hY h0;have hWx:=hBx.below hW hBx.lt;have hWs:=hBs.below hW hBs.lt;have hlx:=hWx.lt;have hls:=hWs.lt;have hcn:=hWx.cell 0 (v:= .int .i64 n) rfl;clear hBx hBs hW;have HJ:=Aside0.mk hJ;have HY:=Aside0.mk hY;have HX:=Aside0.mk hWx;have HS:=Aside0.mk hWs;have H0:=Aside0.mk h0;have HM:=Aside0.mk hm;clear hJ hJx hY hWx hWs h0 hm;refine callsIn_of_wp Try.func113 rfl trivial ?_ rfl;simp only[Try.ntmps113,List.size_toArray,List.length_cons,List.length_nil,Nat.reduceAdd,Nat.reduceSub,Array.replicate_succ,Array.replicate_zero,List.push_toArray,List.append_toArray,List.nil_append,List.cons_append]
 gi_wp2
 clear hcn
 gi_loopw [9,4,5] (fun u _ _ wr=> ∃i:Nat,i≤n∧u= .int .i64 i∧Aside0 (Blk wr Bx #[.int .i64 n, .bool sg, .bool an] 88)∧Aside0 (Blk wr Bs (stk m) 92)∧Aside0 (J (mvIn n sg an i) wr)∧Aside0 (W.heap.size≤wr.heap.size)) (fun u _ _ _=>n - (intOf u).toNat)
 case atStart=>exact⟨0,Nat.zero_le _,rfl,HX,HS,H0,⟨Nat.le_refl _⟩⟩
 case round=>
  obtain⟨i,hi,rfl,HX2,HS2,HJ2,HZ2⟩:=hrel;clear HX HS H0;by_cases hlt:i< n
  ·have hi1:(i:Int)< (n:Int):=by omega
   have c0:=HX2.out.cell 0 (v:= .int .i64 n) rfl;have c1:=HX2.out.cell 1 (v:= .bool sg) rfl;have c2:=HX2.out.cell 2 (v:= .bool an) rfl;have hwt:IntKind.i64.wrap ((i:Int)+1)=(i:Int)+1:=iw64 tO tO;by_cases hstop:0< i∧an=false
   ·obtain⟨h0,ha⟩:=hstop;subst ha;have h0':(0:Int)< (i:Int):=by omega
    gi_wp2
    refine bodyPost_ret (results_none rfl _ _ _) rfl ?_;exact⟨⟨_,rfl⟩, .inl (by unfold mvL;rw[mvIn_top n sg false rfl n tO,←mvIn_top n sg false rfl i h0];exact HJ2.out)⟩
   ·have HST:=Aside0.mk hstop;rcases(show(0< i∧an=true)∨ ¬0< i by cases an<;>simp at hstop ⊢ <;>omega)with⟨h0,ha⟩|h0
    ·have h0':(0:Int)< (i:Int):=by omega
     clear hstop;rw[ha]at c2;clear ha
     gi_wp2
     clear c0 c1 c2
     gi_loopw [5] (fun u wr=> ∃q:Nat,i≤q∧q≤n∧u= .int .i64 q∧Aside0 (Blk wr Bx #[.int .i64 n, .bool sg, .bool an] 88)∧Aside0 (Blk wr Bs (stk m) 92)∧Aside0 (J (mvIn n sg an i++mvTo sg i q) wr)∧Aside0 (W.heap.size≤wr.heap.size)) (fun u _=>n - (intOf u).toNat)
     case atStart=>exact⟨i,Nat.le_refl _,by omega,rfl,HX2,HS2, .mk (by rw[mvTo_low _ _ _ (Nat.le_refl _),List.append_nil];exact HJ2.out),HZ2⟩
     case round=>
      obtain⟨q,hiq,hq,rfl,HX3,HS3,HJ3,HZ3⟩:=hrel;clear HX2 HS2 HJ2 HZ2;have c0:=HX3.out.cell 0 (v:= .int .i64 n) rfl;have c1:=HX3.out.cell 1 (v:= .bool sg) rfl;have hwq:IntKind.i64.wrap ((q:Int)+1)=(q:Int)+1:=iw64 tO tO;by_cases hqn:q< n
      ·have hq1:(q:Int)< (n:Int):=by omega
       by_cases hqi:q=i
       ·have hqe:((q:Int)==(i:Int))=true:=by rw[beq_iff_eq];omega
        by_cases hsg:sg=true
        ·have hgo:sg=true∨q≠i:= .inl hsg;have HQI:=Aside0.mk hqi;clear hqi;rw[hsg]at c1;clear hsg;obtain⟨r,hr⟩:=mv_at n sg an i q hlt hqn hiq HST.out hgo;have HRG:=Aside0.mk hr;clear hr;obtain⟨z0,z1,z2,z3,z4,z5,z6⟩:=stk_cells HS3.out
         gi_wp2
         clear z0 z1 z2 z3 z4 z5 z6;obtain⟨Wt,hWt⟩: ∃Wt,wr.alloc (Obj.cells (stk m) 92)=Wt:=⟨_,rfl⟩;have BT:=Aside0.mk (show Below wr.heap.size wr Wt by rw[←hWt];exact(Below.refl _ wr).alloc (Nat.le_refl _) _);have RT:=Aside0.mk (show Blk Wt wr.heap.size (stk m) 92 by rw[←hWt];exact Blk.new wr _ 92);have hc1:Wt.drew.cell? ⟨Bx,1,none⟩=some (.bool sg):=(HX3.out.below BT.out HX3.out.lt).cell 1 rfl;have RT2:=Aside0.mk (stk_row RT.out.drew);have BT2:=Aside0.mk (BT.out.drew);have hWt':wr.alloc (Obj.cells #[Value.int IntKind.i8 (m 0),Value.int IntKind.i8 (m 1),Value.int IntKind.i8 (m 2),Value.int IntKind.i8 (m 3),Value.int IntKind.i8 (m 4),Value.int IntKind.i8 (m 5),Value.int IntKind.i8 (m 6)] 92)=Wt:=hWt;rw[hWt'];clear hWt hWt' RT BT;refine wpIn_wide.2 ?_;refine start_ (n:=6) (S:=fun w'=>w'.cell? ⟨Bx,1,none⟩=some (.bool sg)) (ds:= [5]) #[false,false,false,false,false,false] tK rfl rfl hc1 (fun hHeld=>?_);generalize Wt.drew=Wd at hHeld RT2 BT2 ⊢;refine puA 0 (some 35) ?_;refine puA 1 (some 36) ?_;refine puA 2 (some 37) ?_;refine puA 3 (some 38) ?_;refine take_ (i:=4) (N:=(some 39)) (v:=?_) (a':=?_) #[true,true,true,true,true,false] rfl rfl tK (fun _ _ _ h=>h) (Or.inl ⟨by rfl,?_⟩) hHeld ?_ ?_;rotate_left
         ·rintro w' s0;go_simp;with_reducible rfl
         rotate_left
         ·simp only[Act.put,List.setIfInBounds_toArray,List.set_cons_zero,List.set_cons_succ];rfl
         refine last_ (i:=5) (N:=(some 40)) #[true,true,true,true,true,true] rfl rfl tK tD (fun K hK=>?_);refine goes_ Try.func87 tK rfl #[.slice (some ⟨wr.heap.size,0,none⟩) 7 7, .int .i64 (i:Int), .int .i64 (q:Int), .bool sg] (by rfl) rfl rfl tN ?_;refine(flipped8_calls (t:=92) (n:=7) sg RT2.out (show i≤q by omega) (show q< 7 by omega) tO tO HM.out).mono ?_;rintro e W5 ⟨rfl,cs5,hr5,_,hz5,ha5⟩;have RT5:=Aside0.mk (row_stk hr5 (by rw[hz5];rfl));have A5:=Aside0.mk (Alone.below BT2.out ha5 (Nat.le_refl _));have S5:=Aside0.mk (step_below 0 W.heap.size A5.out);clear hr5 hz5 ha5;refine⟨_,rfl,?_⟩;refine hK.out _ _ ?_;clear hK K hHeld;refine norm_ (a':=?_) ?_ ?_;rotate_left
         ·show Act.put _ (some 40) _=_;simp only[Act.put,List.setIfInBounds_toArray,List.set_cons_zero,List.set_cons_succ];rfl
         refine done_ tK ?_;have HX5:=Aside0.mk (HX3.out.below A5.out HX3.out.lt);have HS5:=Aside0.mk (HS3.out.below A5.out HS3.out.lt);have HZ5:=Aside0.mk (show W.heap.size≤W5.heap.size by have:=HZ3.out;have:=A5.out.size;omega);obtain⟨fn,tmps,assign,body,hy,hR⟩:=HY.out _ _ _ _ HRG.out (HJ.out _ _ _ HJ3.out S5.out);(try dsimp only at hy);obtain⟨m5,hm5⟩: ∃f,fl sg m i (q+1)=f:=⟨_,rfl⟩;have hrt:=RT5.out;rw[hm5]at hrt;simp only[encM,stk,hm5]at hy;obtain⟨z0,z1,z2,z3,z4,z5,z6⟩:=stk_cells hrt;have HR:=Aside0.mk hR;clear hR hrt hm5 HX3 HS3 HJ3 HZ3 RT2 BT2 RT5 A5 S5 hc1 c0 c1
         gi_wp2
         refine HR.out.mono ?_;rintro e W6 (⟨rfl,hJ6,hk6⟩|⟨rfl,hJx6⟩)
         ·have HX6:=Aside0.mk (show Blk W6 Bx #[.int .i64 n, .bool sg, .bool an] 88 from hk6.same _ _ HX5.out (.inl (.inl rfl)));have HS6:=Aside0.mk (show Blk W6 Bs (stk m) 92 from hk6.same _ _ HS5.out (.inl (.inr rfl)));have HZ6:=Aside0.mk (show W.heap.size≤W6.heap.size by have:=HZ5.out;have:=hk6.size;omega);have HJ6:=Aside0.mk hJ6;clear hJ6 hk6 hy HR z0 z1 z2 z3 z4 z5 z6
          gi_wp2
          exact⟨⟨q+1,by omega,by omega,by simp,HX6,HS6, .mk (by rw[mvTo_succ,if_pos ⟨hiq,hgo⟩,←List.append_assoc];exact HJ6.out),HZ6⟩,by simp[intOf];omega⟩
         ·have HX6:=Aside0.mk hJx6;clear hJx6 hy HR z0 z1 z2 z3 z4 z5 z6
          gi_wp2
          refine bodyPost_ret (results_none rfl _ _ _) rfl ?_;exact⟨⟨_,rfl⟩, .inr ⟨_,_,_,HRG.out,HX6.out⟩⟩
        ·have hsg':sg=false:=by simpa using hsg
         subst hsg';have HQI:=Aside0.mk hqi;clear hqi hsg
         gi_wp2
         exact⟨⟨q+1,by omega,by omega,by simp,HX3,HS3, .mk (by rw[mvTo_succ,if_neg (by rw[HQI.out];simp)];exact HJ3.out),HZ3⟩,by simp[intOf];omega⟩
       ·have hqe:((q:Int)==(i:Int))=false:=by rw[beq_eq_false_iff_ne];omega
        have hgo:sg=true∨q≠i:= .inr hqi;have HQI:=Aside0.mk hqi;clear hqi;obtain⟨r,hr⟩:=mv_at n sg an i q hlt hqn hiq HST.out hgo;have HRG:=Aside0.mk hr;clear hr;obtain⟨z0,z1,z2,z3,z4,z5,z6⟩:=stk_cells HS3.out
        gi_wp2
        clear z0 z1 z2 z3 z4 z5 z6;obtain⟨Wt,hWt⟩: ∃Wt,wr.alloc (Obj.cells (stk m) 92)=Wt:=⟨_,rfl⟩;have BT:=Aside0.mk (show Below wr.heap.size wr Wt by rw[←hWt];exact(Below.refl _ wr).alloc (Nat.le_refl _) _);have RT:=Aside0.mk (show Blk Wt wr.heap.size (stk m) 92 by rw[←hWt];exact Blk.new wr _ 92);have hc1:Wt.drew.cell? ⟨Bx,1,none⟩=some (.bool sg):=(HX3.out.below BT.out HX3.out.lt).cell 1 rfl;have RT2:=Aside0.mk (stk_row RT.out.drew);have BT2:=Aside0.mk (BT.out.drew);have hWt':wr.alloc (Obj.cells #[Value.int IntKind.i8 (m 0),Value.int IntKind.i8 (m 1),Value.int IntKind.i8 (m 2),Value.int IntKind.i8 (m 3),Value.int IntKind.i8 (m 4),Value.int IntKind.i8 (m 5),Value.int IntKind.i8 (m 6)] 92)=Wt:=hWt;rw[hWt'];clear hWt hWt' RT BT;refine wpIn_wide.2 ?_;refine start_ (n:=6) (S:=fun w'=>w'.cell? ⟨Bx,1,none⟩=some (.bool sg)) (ds:= [5]) #[false,false,false,false,false,false] tK rfl rfl hc1 (fun hHeld=>?_);generalize Wt.drew=Wd at hHeld RT2 BT2 ⊢;refine puA 0 (some 35) ?_;refine puA 1 (some 36) ?_;refine puA 2 (some 37) ?_;refine puA 3 (some 38) ?_;refine take_ (i:=4) (N:=(some 39)) (v:=?_) (a':=?_) #[true,true,true,true,true,false] rfl rfl tK (fun _ _ _ h=>h) (Or.inl ⟨by rfl,?_⟩) hHeld ?_ ?_;rotate_left
        ·rintro w' s0;go_simp;with_reducible rfl
        rotate_left
        ·simp only[Act.put,List.setIfInBounds_toArray,List.set_cons_zero,List.set_cons_succ];rfl
        refine last_ (i:=5) (N:=(some 40)) #[true,true,true,true,true,true] rfl rfl tK tD (fun K hK=>?_);refine goes_ Try.func87 tK rfl #[.slice (some ⟨wr.heap.size,0,none⟩) 7 7, .int .i64 (i:Int), .int .i64 (q:Int), .bool sg] (by rfl) rfl rfl tN ?_;refine(flipped8_calls (t:=92) (n:=7) sg RT2.out (show i≤q by omega) (show q< 7 by omega) tO tO HM.out).mono ?_;rintro e W5 ⟨rfl,cs5,hr5,_,hz5,ha5⟩;have RT5:=Aside0.mk (row_stk hr5 (by rw[hz5];rfl));have A5:=Aside0.mk (Alone.below BT2.out ha5 (Nat.le_refl _));have S5:=Aside0.mk (step_below 0 W.heap.size A5.out);clear hr5 hz5 ha5;refine⟨_,rfl,?_⟩;refine hK.out _ _ ?_;clear hK K hHeld;refine norm_ (a':=?_) ?_ ?_;rotate_left
        ·show Act.put _ (some 40) _=_;simp only[Act.put,List.setIfInBounds_toArray,List.set_cons_zero,List.set_cons_succ];rfl
        refine done_ tK ?_;have HX5:=Aside0.mk (HX3.out.below A5.out HX3.out.lt);have HS5:=Aside0.mk (HS3.out.below A5.out HS3.out.lt);have HZ5:=Aside0.mk (show W.heap.size≤W5.heap.size by have:=HZ3.out;have:=A5.out.size;omega);obtain⟨fn,tmps,assign,body,hy,hR⟩:=HY.out _ _ _ _ HRG.out (HJ.out _ _ _ HJ3.out S5.out);(try dsimp only at hy);obtain⟨m5,hm5⟩: ∃f,fl sg m i (q+1)=f:=⟨_,rfl⟩;have hrt:=RT5.out;rw[hm5]at hrt;simp only[encM,stk,hm5]at hy;obtain⟨z0,z1,z2,z3,z4,z5,z6⟩:=stk_cells hrt;have HR:=Aside0.mk hR;clear hR hrt hm5 HX3 HS3 HJ3 HZ3 RT2 BT2 RT5 A5 S5 hc1 c0 c1
        gi_wp2
        refine HR.out.mono ?_;rintro e W6 (⟨rfl,hJ6,hk6⟩|⟨rfl,hJx6⟩)
        ·have HX6:=Aside0.mk (show Blk W6 Bx #[.int .i64 n, .bool sg, .bool an] 88 from hk6.same _ _ HX5.out (.inl (.inl rfl)));have HS6:=Aside0.mk (show Blk W6 Bs (stk m) 92 from hk6.same _ _ HS5.out (.inl (.inr rfl)));have HZ6:=Aside0.mk (show W.heap.size≤W6.heap.size by have:=HZ5.out;have:=hk6.size;omega);have HJ6:=Aside0.mk hJ6;clear hJ6 hk6 hy HR z0 z1 z2 z3 z4 z5 z6
         gi_wp2
         exact⟨⟨q+1,by omega,by omega,by simp,HX6,HS6, .mk (by rw[mvTo_succ,if_pos ⟨hiq,hgo⟩,←List.append_assoc];exact HJ6.out),HZ6⟩,by simp[intOf];omega⟩
        ·have HX6:=Aside0.mk hJx6;clear hJx6 hy HR z0 z1 z2 z3 z4 z5 z6
         gi_wp2
         refine bodyPost_ret (results_none rfl _ _ _) rfl ?_;exact⟨⟨_,rfl⟩, .inr ⟨_,_,_,HRG.out,HX6.out⟩⟩
      ·obtain rfl:q=n:=by omega
       gi_wp2
       exact⟨⟨i+1,by omega,by simp,HX3,HS3, .mk (by rw[mvIn_succ,mvAt,if_neg HST.out];exact HJ3.out),HZ3⟩,by simp[intOf];omega⟩
    ·have h0': ¬(0:Int)< (i:Int):=by omega
     clear hstop
     gi_wp2
     clear c0 c1 c2
     gi_loopw [5] (fun u wr=> ∃q:Nat,i≤q∧q≤n∧u= .int .i64 q∧Aside0 (Blk wr Bx #[.int .i64 n, .bool sg, .bool an] 88)∧Aside0 (Blk wr Bs (stk m) 92)∧Aside0 (J (mvIn n sg an i++mvTo sg i q) wr)∧Aside0 (W.heap.size≤wr.heap.size)) (fun u _=>n - (intOf u).toNat)
     case atStart=>exact⟨i,Nat.le_refl _,by omega,rfl,HX2,HS2, .mk (by rw[mvTo_low _ _ _ (Nat.le_refl _),List.append_nil];exact HJ2.out),HZ2⟩
     case round=>
      obtain⟨q,hiq,hq,rfl,HX3,HS3,HJ3,HZ3⟩:=hrel;clear HX2 HS2 HJ2 HZ2;have c0:=HX3.out.cell 0 (v:= .int .i64 n) rfl;have c1:=HX3.out.cell 1 (v:= .bool sg) rfl;have hwq:IntKind.i64.wrap ((q:Int)+1)=(q:Int)+1:=iw64 tO tO;by_cases hqn:q< n
      ·have hq1:(q:Int)< (n:Int):=by omega
       by_cases hqi:q=i
       ·have hqe:((q:Int)==(i:Int))=true:=by rw[beq_iff_eq];omega
        by_cases hsg:sg=true
        ·have hgo:sg=true∨q≠i:= .inl hsg;have HQI:=Aside0.mk hqi;clear hqi;rw[hsg]at c1;clear hsg;obtain⟨r,hr⟩:=mv_at n sg an i q hlt hqn hiq HST.out hgo;have HRG:=Aside0.mk hr;clear hr;obtain⟨z0,z1,z2,z3,z4,z5,z6⟩:=stk_cells HS3.out
         gi_wp2
         clear z0 z1 z2 z3 z4 z5 z6;obtain⟨Wt,hWt⟩: ∃Wt,wr.alloc (Obj.cells (stk m) 92)=Wt:=⟨_,rfl⟩;have BT:=Aside0.mk (show Below wr.heap.size wr Wt by rw[←hWt];exact(Below.refl _ wr).alloc (Nat.le_refl _) _);have RT:=Aside0.mk (show Blk Wt wr.heap.size (stk m) 92 by rw[←hWt];exact Blk.new wr _ 92);have hc1:Wt.drew.cell? ⟨Bx,1,none⟩=some (.bool sg):=(HX3.out.below BT.out HX3.out.lt).cell 1 rfl;have RT2:=Aside0.mk (stk_row RT.out.drew);have BT2:=Aside0.mk (BT.out.drew);have hWt':wr.alloc (Obj.cells #[Value.int IntKind.i8 (m 0),Value.int IntKind.i8 (m 1),Value.int IntKind.i8 (m 2),Value.int IntKind.i8 (m 3),Value.int IntKind.i8 (m 4),Value.int IntKind.i8 (m 5),Value.int IntKind.i8 (m 6)] 92)=Wt:=hWt;rw[hWt'];clear hWt hWt' RT BT;refine wpIn_wide.2 ?_;refine start_ (n:=6) (S:=fun w'=>w'.cell? ⟨Bx,1,none⟩=some (.bool sg)) (ds:= [5]) #[false,false,false,false,false,false] tK rfl rfl hc1 (fun hHeld=>?_);generalize Wt.drew=Wd at hHeld RT2 BT2 ⊢;refine puA 0 (some 35) ?_;refine puA 1 (some 36) ?_;refine puA 2 (some 37) ?_;refine puA 3 (some 38) ?_;refine take_ (i:=4) (N:=(some 39)) (v:=?_) (a':=?_) #[true,true,true,true,true,false] rfl rfl tK (fun _ _ _ h=>h) (Or.inl ⟨by rfl,?_⟩) hHeld ?_ ?_;rotate_left
         ·rintro w' s0;go_simp;with_reducible rfl
         rotate_left
         ·simp only[Act.put,List.setIfInBounds_toArray,List.set_cons_zero,List.set_cons_succ];rfl
         refine last_ (i:=5) (N:=(some 40)) #[true,true,true,true,true,true] rfl rfl tK tD (fun K hK=>?_);refine goes_ Try.func87 tK rfl #[.slice (some ⟨wr.heap.size,0,none⟩) 7 7, .int .i64 (i:Int), .int .i64 (q:Int), .bool sg] (by rfl) rfl rfl tN ?_;refine(flipped8_calls (t:=92) (n:=7) sg RT2.out (show i≤q by omega) (show q< 7 by omega) tO tO HM.out).mono ?_;rintro e W5 ⟨rfl,cs5,hr5,_,hz5,ha5⟩;have RT5:=Aside0.mk (row_stk hr5 (by rw[hz5];rfl));have A5:=Aside0.mk (Alone.below BT2.out ha5 (Nat.le_refl _));have S5:=Aside0.mk (step_below 0 W.heap.size A5.out);clear hr5 hz5 ha5;refine⟨_,rfl,?_⟩;refine hK.out _ _ ?_;clear hK K hHeld;refine norm_ (a':=?_) ?_ ?_;rotate_left
         ·show Act.put _ (some 40) _=_;simp only[Act.put,List.setIfInBounds_toArray,List.set_cons_zero,List.set_cons_succ];rfl
         refine done_ tK ?_;have HX5:=Aside0.mk (HX3.out.below A5.out HX3.out.lt);have HS5:=Aside0.mk (HS3.out.below A5.out HS3.out.lt);have HZ5:=Aside0.mk (show W.heap.size≤W5.heap.size by have:=HZ3.out;have:=A5.out.size;omega);obtain⟨fn,tmps,assign,body,hy,hR⟩:=HY.out _ _ _ _ HRG.out (HJ.out _ _ _ HJ3.out S5.out);(try dsimp only at hy);obtain⟨m5,hm5⟩: ∃f,fl sg m i (q+1)=f:=⟨_,rfl⟩;have hrt:=RT5.out;rw[hm5]at hrt;simp only[encM,stk,hm5]at hy;obtain⟨z0,z1,z2,z3,z4,z5,z6⟩:=stk_cells hrt;have HR:=Aside0.mk hR;clear hR hrt hm5 HX3 HS3 HJ3 HZ3 RT2 BT2 RT5 A5 S5 hc1 c0 c1
         gi_wp2
         refine HR.out.mono ?_;rintro e W6 (⟨rfl,hJ6,hk6⟩|⟨rfl,hJx6⟩)
         ·have HX6:=Aside0.mk (show Blk W6 Bx #[.int .i64 n, .bool sg, .bool an] 88 from hk6.same _ _ HX5.out (.inl (.inl rfl)));have HS6:=Aside0.mk (show Blk W6 Bs (stk m) 92 from hk6.same _ _ HS5.out (.inl (.inr rfl)));have HZ6:=Aside0.mk (show W.heap.size≤W6.heap.size by have:=HZ5.out;have:=hk6.size;omega);have HJ6:=Aside0.mk hJ6;clear hJ6 hk6 hy HR z0 z1 z2 z3 z4 z5 z6
          gi_wp2
          exact⟨⟨q+1,by omega,by omega,by simp,HX6,HS6, .mk (by rw[mvTo_succ,if_pos ⟨hiq,hgo⟩,←List.append_assoc];exact HJ6.out),HZ6⟩,by simp[intOf];omega⟩
         ·have HX6:=Aside0.mk hJx6;clear hJx6 hy HR z0 z1 z2 z3 z4 z5 z6
          gi_wp2
          refine bodyPost_ret (results_none rfl _ _ _) rfl ?_;exact⟨⟨_,rfl⟩, .inr ⟨_,_,_,HRG.out,HX6.out⟩⟩
        ·have hsg':sg=false:=by simpa using hsg
         subst hsg';have HQI:=Aside0.mk hqi;clear hqi hsg
         gi_wp2
         exact⟨⟨q+1,by omega,by omega,by simp,HX3,HS3, .mk (by rw[mvTo_succ,if_neg (by rw[HQI.out];simp)];exact HJ3.out),HZ3⟩,by simp[intOf];omega⟩
       ·have hqe:((q:Int)==(i:Int))=false:=by rw[beq_eq_false_iff_ne];omega
        have hgo:sg=true∨q≠i:= .inr hqi;have HQI:=Aside0.mk hqi;clear hqi;obtain⟨r,hr⟩:=mv_at n sg an i q hlt hqn hiq HST.out hgo;have HRG:=Aside0.mk hr;clear hr;obtain⟨z0,z1,z2,z3,z4,z5,z6⟩:=stk_cells HS3.out
        gi_wp2
        clear z0 z1 z2 z3 z4 z5 z6;obtain⟨Wt,hWt⟩: ∃Wt,wr.alloc (Obj.cells (stk m) 92)=Wt:=⟨_,rfl⟩;have BT:=Aside0.mk (show Below wr.heap.size wr Wt by rw[←hWt];exact(Below.refl _ wr).alloc (Nat.le_refl _) _);have RT:=Aside0.mk (show Blk Wt wr.heap.size (stk m) 92 by rw[←hWt];exact Blk.new wr _ 92);have hc1:Wt.drew.cell? ⟨Bx,1,none⟩=some (.bool sg):=(HX3.out.below BT.out HX3.out.lt).cell 1 rfl;have RT2:=Aside0.mk (stk_row RT.out.drew);have BT2:=Aside0.mk (BT.out.drew);have hWt':wr.alloc (Obj.cells #[Value.int IntKind.i8 (m 0),Value.int IntKind.i8 (m 1),Value.int IntKind.i8 (m 2),Value.int IntKind.i8 (m 3),Value.int IntKind.i8 (m 4),Value.int IntKind.i8 (m 5),Value.int IntKind.i8 (m 6)] 92)=Wt:=hWt;rw[hWt'];clear hWt hWt' RT BT;refine wpIn_wide.2 ?_;refine start_ (n:=6) (S:=fun w'=>w'.cell? ⟨Bx,1,none⟩=some (.bool sg)) (ds:= [5]) #[false,false,false,false,false,false] tK rfl rfl hc1 (fun hHeld=>?_);generalize Wt.drew=Wd at hHeld RT2 BT2 ⊢;refine puA 0 (some 35) ?_;refine puA 1 (some 36) ?_;refine puA 2 (some 37) ?_;refine puA 3 (some 38) ?_;refine take_ (i:=4) (N:=(some 39)) (v:=?_) (a':=?_) #[true,true,true,true,true,false] rfl rfl tK (fun _ _ _ h=>h) (Or.inl ⟨by rfl,?_⟩) hHeld ?_ ?_;rotate_left
        ·rintro w' s0;go_simp;with_reducible rfl
        rotate_left
        ·simp only[Act.put,List.setIfInBounds_toArray,List.set_cons_zero,List.set_cons_succ];rfl
        refine last_ (i:=5) (N:=(some 40)) #[true,true,true,true,true,true] rfl rfl tK tD (fun K hK=>?_);refine goes_ Try.func87 tK rfl #[.slice (some ⟨wr.heap.size,0,none⟩) 7 7, .int .i64 (i:Int), .int .i64 (q:Int), .bool sg] (by rfl) rfl rfl tN ?_;refine(flipped8_calls (t:=92) (n:=7) sg RT2.out (show i≤q by omega) (show q< 7 by omega) tO tO HM.out).mono ?_;rintro e W5 ⟨rfl,cs5,hr5,_,hz5,ha5⟩;have RT5:=Aside0.mk (row_stk hr5 (by rw[hz5];rfl));have A5:=Aside0.mk (Alone.below BT2.out ha5 (Nat.le_refl _));have S5:=Aside0.mk (step_below 0 W.heap.size A5.out);clear hr5 hz5 ha5;refine⟨_,rfl,?_⟩;refine hK.out _ _ ?_;clear hK K hHeld;refine norm_ (a':=?_) ?_ ?_;rotate_left
        ·show Act.put _ (some 40) _=_;simp only[Act.put,List.setIfInBounds_toArray,List.set_cons_zero,List.set_cons_succ];rfl
        refine done_ tK ?_;have HX5:=Aside0.mk (HX3.out.below A5.out HX3.out.lt);have HS5:=Aside0.mk (HS3.out.below A5.out HS3.out.lt);have HZ5:=Aside0.mk (show W.heap.size≤W5.heap.size by have:=HZ3.out;have:=A5.out.size;omega);obtain⟨fn,tmps,assign,body,hy,hR⟩:=HY.out _ _ _ _ HRG.out (HJ.out _ _ _ HJ3.out S5.out);(try dsimp only at hy);obtain⟨m5,hm5⟩: ∃f,fl sg m i (q+1)=f:=⟨_,rfl⟩;have hrt:=RT5.out;rw[hm5]at hrt;simp only[encM,stk,hm5]at hy;obtain⟨z0,z1,z2,z3,z4,z5,z6⟩:=stk_cells hrt;have HR:=Aside0.mk hR;clear hR hrt hm5 HX3 HS3 HJ3 HZ3 RT2 BT2 RT5 A5 S5 hc1 c0 c1
        gi_wp2
        refine HR.out.mono ?_;rintro e W6 (⟨rfl,hJ6,hk6⟩|⟨rfl,hJx6⟩)
        ·have HX6:=Aside0.mk (show Blk W6 Bx #[.int .i64 n, .bool sg, .bool an] 88 from hk6.same _ _ HX5.out (.inl (.inl rfl)));have HS6:=Aside0.mk (show Blk W6 Bs (stk m) 92 from hk6.same _ _ HS5.out (.inl (.inr rfl)));have HZ6:=Aside0.mk (show W.heap.size≤W6.heap.size by have:=HZ5.out;have:=hk6.size;omega);have HJ6:=Aside0.mk hJ6;clear hJ6 hk6 hy HR z0 z1 z2 z3 z4 z5 z6
         gi_wp2
         exact⟨⟨q+1,by omega,by omega,by simp,HX6,HS6, .mk (by rw[mvTo_succ,if_pos ⟨hiq,hgo⟩,←List.append_assoc];exact HJ6.out),HZ6⟩,by simp[intOf];omega⟩
        ·have HX6:=Aside0.mk hJx6;clear hJx6 hy HR z0 z1 z2 z3 z4 z5 z6
         gi_wp2
         refine bodyPost_ret (results_none rfl _ _ _) rfl ?_;exact⟨⟨_,rfl⟩, .inr ⟨_,_,_,HRG.out,HX6.out⟩⟩
      ·obtain rfl:q=n:=by omega
       gi_wp2
       exact⟨⟨i+1,by omega,by simp,HX3,HS3, .mk (by rw[mvIn_succ,mvAt,if_neg HST.out];exact HJ3.out),HZ3⟩,by simp[intOf];omega⟩
  ·obtain rfl:i=n:=by omega
   gi_wp2
   refine bodyPost_end (results_none rfl _ _ _) rfl ?_;exact⟨⟨_,rfl⟩, .inl HJ2.out⟩
end Go.Proofs.Ytepjhdblmghckaa.G
namespace Go.Proofs.Ytepjhdblmghckaa.Bf
set_option linter.unusedSectionVars false
section
variable {α:Type} [DecidableEq α] (next:α→List α) (start:α)
def ball:Nat→List α
 |0=> [start]
 |k+1=>ball k++(ball k).flatMap next
def least (target:α) (N:Nat):Nat:=((List.range N).find? (fun k=>(ball next start k).contains target)).getD 0
variable {next start}
theorem ball_succ {k:Nat} {x:α} :x∈ball next start (k+1)↔x∈ball next start k∨ ∃y,y∈ball next start k∧x∈next y:=by
 simp[ball,List.mem_append,List.mem_flatMap]
theorem ball_mono {j k:Nat} (h:j≤k) {x:α} (hx:x∈ball next start j):x∈ball next start k:=by
 induction k with
 |zero=>
  obtain rfl:j=0:=by omega
  exact hx
 |succ k ih=>
  by_cases e:j=k+1
  ·rw[←e];exact hx
  ·exact ball_succ.2 (.inl (ih tO))
def Exact (next:α→List α) (start:α) (x:α) (d:Nat):Prop:=x∈ball next start d∧ ∀j,j< d→x∉ball next start j
theorem Exact.unique {x:α} {d e:Nat} (h:Exact next start x d) (k:Exact next start x e):d=e:=by
 rcases Nat.lt_trichotomy d e with h1|h1|h1
 ·exact absurd h.1 (k.2 d h1)
 ·exact h1
 ·exact absurd k.1 (h.2 e h1)
theorem least_exact {t:α} {d N:Nat} (h:Exact next start t d) (hd:d< N):least next start t N=d:=by
 unfold least
 have:(List.range N).find? (fun k=>(ball next start k).contains t)=some d:=by
  rw[List.find?_range_eq_some];refine⟨by simpa using h.1,by simpa using hd,fun j hj=>?_⟩;simpa using h.2 j hj
 rw[this];rfl
theorem least_none {t:α} {N:Nat} (h: ∀k,t∉ball next start k):least next start t N=0:=by
 unfold least
 have:(List.range N).find? (fun k=>(ball next start k).contains t)=none:=by
  rw[List.find?_eq_none];intro k _;simpa using h k
 rw[this];rfl
abbrev Se (α:Type):=α→Option Nat
def Se.put (S:Se α) (x:α) (d:Nat):Se α:=fun y=>if y=x then some d else S y
theorem Se.put_same (S:Se α) (x:α) (d:Nat):S.put x d x=some d:=by simp[Se.put]
theorem Se.put_other (S:Se α) {x y:α} (d:Nat) (h:y≠x):S.put x d y=S y:=by simp[Se.put,h]
structure St (next:α→List α) (start:α) (S:Se α) (A B:List α) (d:Nat):Prop where
 exact: ∀x e,S x=some e→Exact next start x e
 a: ∀x,x∈A→S x=some d
 b: ∀x,x∈B↔S x=some (d+1)
 all: ∀x,x∈ball next start d→(S x).isSome=true
 top: ∀x e,S x=some e→e≤d+1
 gone: ∀x,x∈ball next start d→x∉A→ ∀t,t∈next x→(S t).isSome=true
theorem St.begin:St next start (fun x=>if x=start then some 0 else none) [start] [] 0 where
 exact x e h:=by
  by_cases hx:x=start
  ·subst hx;simp at h;subst h;exact⟨by simp[ball],fun j hj=>by omega⟩
  ·simp[hx]at h
 a x h:=by simp at h;simp[h]
 b x:=by by_cases hx:x=start<;>simp[hx]
 all x h:=by simp[ball]at h;simp[h]
 top x e h:=by
  by_cases hx:x=start
  ·simp[hx]at h;omega
  ·simp[hx]at h
 gone x h hn:=by simp[ball]at h;simp[h]at hn
theorem St.turn {S:Se α} {B:List α} {d:Nat} (h:St next start S [] B d):St next start S B [] (d+1) where
 exact:=h.exact
 a x hx:=(h.b x).1 hx
 b x:=by
  constructor
  ·intro hx;cases hx
  ·intro hx;have:=h.top x _ hx;omega
 top x e hx:=by have:=h.top x e hx;omega
 all x hx:=by
  obtain hb|⟨y,hy,hxy⟩:=ball_succ.1 hx
  ·exact h.all x hb
  ·exact h.gone y hy tS x hxy
 gone x hx hn t ht:=by
  obtain hb|⟨y,hy,hxy⟩:=ball_succ.1 hx
  ·exact h.gone x hb tS t ht
  ·have hs:=h.gone y hy tS x hxy;obtain⟨e,he⟩:=Option.isSome_iff_exists.1 hs;by_cases hb:x∈ball next start d
   ·exact h.gone x hb tS t ht
   ·have:Exact next start x (d+1):=⟨hx,fun j hj hj'=>hb (ball_mono tO hj')⟩
    have e2:=(h.exact x e he).unique this;subst e2;exact absurd ((h.b x).2 he) hn
theorem St.never {S:Se α} {d:Nat} (h:St next start S [] [] d) {t:α} (ht:S t=none) (k:Nat):t∉ball next start k:=by
 have key: ∀j,St next start S [] [] (d+j):=by
  intro j
  induction j with
  |zero=>exact h
  |succ j ih=>exact ih.turn
 intro hk;have:=(key k).all t (ball_mono tO hk);rw[ht]at this;cases this
structure Mid (next:α→List α) (start:α) (S:Se α) (s:α) (done A B:List α) (d:Nat):Prop where
 exact: ∀x e,S x=some e→Exact next start x e
 at_:S s=some d
 a: ∀x,x∈A→S x=some d
 b: ∀x,x∈B↔S x=some (d+1)
 all: ∀x,x∈ball next start d→(S x).isSome=true
 top: ∀x e,S x=some e→e≤d+1
 gone: ∀x,x∈ball next start d→x∉A→x≠s→ ∀t,t∈next x→(S t).isSome=true
 done_: ∀t,t∈done→(S t).isSome=true
theorem St.pop {S:Se α} {s:α} {A B:List α} {d:Nat} (h:St next start S (s::A) B d):Mid next start S s [] A B d where
 exact:=h.exact
 at_:=h.a s tS
 a x hx:=h.a x (by simp[hx])
 b:=h.b
 all:=h.all
 top:=h.top
 gone x hx hn hne:=h.gone x hx (by simp[hn,hne])
 done_ t ht:=by cases ht
theorem Mid.seen {S:Se α} {s t:α} {done A B:List α} {d:Nat} (h:Mid next start S s done A B d) (ht:(S t).isSome=true):Mid next start S s (done++ [t]) A B d:=
 ⟨h.exact,h.at_,h.a,h.b,h.all,h.top,h.gone,fun x hx=>(List.mem_append.1 hx).elim (fun hx=>h.done_ x hx) (fun hx=>by simp at hx;rw[hx];exact ht)⟩
theorem Mid.hit {S:Se α} {s t:α} {done A B:List α} {d:Nat} (h:Mid next start S s done A B d) (hm:t∈next s) (ht:S t=none):Exact next start t (d+1):=by
 refine⟨ball_succ.2 (.inr ⟨s,(h.exact s d h.at_).1,hm⟩),fun j hj hj'=>?_⟩;have:=h.all t (ball_mono tO hj');rw[ht]at this;cases this
theorem Mid.new {S:Se α} {s t:α} {done A B:List α} {d:Nat} (h:Mid next start S s done A B d) (hm:t∈next s) (ht:S t=none):Mid next start (S.put t (d+1)) s (done++ [t]) A (B++ [t]) d:=by
 have old: ∀x e,S x=some e→S.put t (d+1) x=some e:=fun x e hx=>by
  rw[Se.put_other _ _ (fun e'=>by rw[e',ht]at hx;cases hx)];exact hx
 have some_: ∀x,(S x).isSome=true→(S.put t (d+1) x).isSome=true:=fun x hx=>by
  obtain⟨e,he⟩:=Option.isSome_iff_exists.1 hx;rw[old x e he];rfl
 refine⟨fun x e hx=>?_,old _ _ h.at_,fun x hx=>old _ _ (h.a x hx),fun x=>?_,fun x hx=>some_ x (h.all x hx),fun x e hx=>?_,fun x hx hn hne y hy=>some_ y (h.gone x hx hn hne y hy),fun x hx=>?_⟩
 ·by_cases e':x=t
  ·subst e';rw[Se.put_same]at hx;cases hx;exact h.hit hm ht
  ·rw[Se.put_other _ _ e']at hx;exact h.exact x e hx
 ·by_cases e':x=t
  ·subst e';simp[Se.put_same]
  ·rw[Se.put_other _ _ e',←h.b x];simp[e']
 ·by_cases e':x=t
  ·subst e';rw[Se.put_same]at hx;cases hx;omega
  ·rw[Se.put_other _ _ e']at hx;exact h.top x e hx
 ·rcases List.mem_append.1 hx with hx|hx
  ·exact some_ x (h.done_ x hx)
  ·simp at hx;rw[hx,Se.put_same];rfl
theorem Mid.finish {S:Se α} {s:α} {A B:List α} {d:Nat} (h:Mid next start S s (next s) A B d):St next start S A B d where
 exact:=h.exact
 a:=h.a
 b:=h.b
 all:=h.all
 top:=h.top
 gone x hx hn t ht:=by
  by_cases e:x=s
  ·subst e;exact h.done_ t ht
  ·exact h.gone x hx hn e t ht
structure Rd (next:α→List α) (start:α) (V:α→Prop) (S:Se α) (q L:List α):Prop where
 st: ∃A B d,q=A++B∧St next start S A B d
 v: ∀x,(S x).isSome=true→V x
 nodup:L.Nodup
 seen: ∀x,x∈L→(S x).isSome=true
 deep: ∀x e,S x=some e→e≤L.length
structure Rm (next:α→List α) (start:α) (V:α→Prop) (S:Se α) (s:α) (done q L:List α):Prop where
 mid: ∃A B d,q=A++B∧Mid next start S s done A B d
 v: ∀x,(S x).isSome=true→V x
 nodup:L.Nodup
 seen: ∀x,x∈L→(S x).isSome=true
 deep: ∀x e,S x=some e→e≤L.length
variable {V:α→Prop}
theorem Rd.begin (h0:V start):Rd next start V (fun x=>if x=start then some 0 else none) [start] [start] where
 st:=⟨[start], [],0,rfl,St.begin⟩
 v x hx:=by
  by_cases e:x=start
  ·rw[e];exact h0
  ·simp[e]at hx
 nodup:=by simp
 seen x hx:=by simp at hx;simp[hx]
 deep x e hx:=by
  by_cases e':x=start
  ·simp[e']at hx;omega
  ·simp[e']at hx
theorem Rd.pop {S:Se α} {s:α} {q L:List α} (h:Rd next start V S (s::q) L):Rm next start V S s [] q L:=by
 obtain⟨A,B,d,hq,hs⟩:=h.st;refine⟨?_,h.v,h.nodup,h.seen,h.deep⟩;cases A with
 |nil=>
  have hs2:=hs.turn;simp at hq;rw[←hq]at hs2;exact⟨q, [],d+1,by simp,hs2.pop⟩
 |cons x A=>
  simp at hq;obtain⟨rfl,rfl⟩:=hq;exact⟨A,B,d,rfl,hs.pop⟩
theorem Rm.some_ {S:Se α} {s:α} {done q L:List α} (h:Rm next start V S s done q L): ∃d,S s=some d∧d≤L.length:=by
 obtain⟨A,B,d,hq,hs⟩:=h.mid;exact⟨d,hs.at_,h.deep _ _ hs.at_⟩
theorem Rm.seen_ {S:Se α} {s t:α} {done q L:List α} (h:Rm next start V S s done q L) (ht:(S t).isSome=true):Rm next start V S s (done++ [t]) q L:=by
 obtain⟨A,B,d,hq,hs⟩:=h.mid;exact⟨⟨A,B,d,hq,hs.seen ht⟩,h.v,h.nodup,h.seen,h.deep⟩
theorem Rm.new {S:Se α} {s t:α} {d:Nat} {done q L:List α} (h:Rm next start V S s done q L) (hd:S s=some d) (hm:t∈next s) (hv:V t) (ht:S t=none):
  Rm next start V (S.put t (d+1)) s (done++ [t]) (q++ [t]) (t::L)∧Exact next start t (d+1):=by
 obtain⟨A,B,d',hq,hs⟩:=h.mid;obtain rfl:d=d':=by have:=hs.at_;rw[hd]at this;cases this;rfl
 refine⟨⟨⟨A,B++ [t],d,by rw[hq,List.append_assoc],hs.new hm ht⟩,fun x hx=>?_,?_,fun x hx=>?_,fun x e hx=>?_⟩,hs.hit hm ht⟩
 ·by_cases e':x=t
  ·rw[e'];exact hv
  ·rw[Se.put_other _ _ e']at hx;exact h.v x hx
 ·refine List.nodup_cons.2 ⟨fun hx=>?_,h.nodup⟩;have:=h.seen t hx;rw[ht]at this;cases this
 ·by_cases e':x=t
  ·rw[e',Se.put_same];rfl
  ·rw[Se.put_other _ _ e'];simp[e']at hx;exact h.seen x hx
 ·by_cases e':x=t
  ·rw[e',Se.put_same]at hx;cases hx;have:=h.deep _ _ hd;simp;omega
  ·rw[Se.put_other _ _ e']at hx;have:=h.deep x e hx;simp;omega
theorem Rm.finish {S:Se α} {s:α} {q L:List α} (h:Rm next start V S s (next s) q L):Rd next start V S q L:=by
 obtain⟨A,B,d,hq,hs⟩:=h.mid;exact⟨⟨A,B,d,hq,hs.finish⟩,h.v,h.nodup,h.seen,h.deep⟩
theorem nodup_sub: ∀(L U:List α),L.Nodup→(∀x,x∈L→x∈U)→L.length≤U.length
 | [],U,_,_=>by simp
 |x::L,U,h,hs=>by
  obtain⟨h1,h2⟩:=List.nodup_cons.1 h;have:=nodup_sub L (U.erase x) h2 (fun y hy=>(List.mem_erase_of_ne (fun e=>by rw[e]at hy;exact h1 hy)).2 (hs y (by simp[hy])));have hx:=List.length_erase_of_mem (hs x tS);have:0< U.length:=List.length_pos_of_mem (hs x tS);simp;omega
theorem Rd.found {S:Se α} {q L:List α} {t:α} {e N:Nat} (h:Rd next start V S q L) (ht:S t=some e) (hL:L.length≤N):least next start t (N+1)=e:=by
 obtain⟨A,B,d,_,hs⟩:=h.st;exact least_exact (hs.exact t e ht) (by have:=h.deep t e ht;omega)
end
end Go.Proofs.Ytepjhdblmghckaa.Bf
namespace Go.Proofs.Ytepjhdblmghckaa.G
open Go.Proofs.Ytepjhdblmghckaa.Q Go.Proofs.Ytepjhdblmghckaa.K Go.Proofs.Ytepjhdblmghckaa.It Go.Proofs.Ytepjhdblmghckaa.Bf
open Go.RowKit Go.Shelf Go.Proofs.YtepjhdblmghckaaW.PrintWords Go.Proofs.YtepjhdblmghckaaW.PrintLast Go.Proofs.YtepjhdblmghckaaW.PrintMore
def Vs (n:Nat) (l:List Int):Prop:=l.length=n∧ ∀j, -7≤nth l j∧nth l j≤7
theorem stk_inj {n:Nat} {l m:List Int} (hl:Vs n l) (hm:Vs n m) (hn:n≤7) (h:stk (nth l)=stk (nth m)):l=m:=by
 apply List.ext_getElem (by rw[hl.1,hm.1]);intro i h1 h2;have:=congrArg (fun a=>a[i]?) h;rw[stk_get _ _ (by rw[hl.1]at h1;omega),stk_get _ _ (by rw[hl.1]at h1;omega)]at this;simpa [nth,h1,h2]using this
theorem laidOutK:laidOutB Try.prog=true:=by kernel_rfl
theorem u92:Try.prog.underlying 92=some (.array 7 90):=by kernel_rfl
theorem size92:Nat.ble 93 Try.prog.types.size=true:=by kernel_rfl
theorem row92:(92:TypeId)< Try.prog.types.size:=by
 have h:=size92;obtain⟨S,hS⟩: ∃S,Try.prog.types.size=S:=⟨_,rfl⟩;rw[hS]at h ⊢;exact Nat.le_of_ble_eq_true h
theorem key92:Try.prog.keyTypeAt 2 92=true:=by kernel_rfl
theorem law92:Go.Maps.Keyed Try.prog 92:=by
 refine Go.Maps.Keyed.of_law ?_;refine deep_law_laid laidOutK (m:=2) tO row92 key92 ?_;rw[u92]
theorem u116:Try.prog.underlying 116=some (.map 92 115):=by kernel_rfl
theorem info115:(Try.prog.info? 115).map (fun i=>(i.zero,i.size,i.bytes))=some (some (.agg #[.int .i64 0, .int .i64 0, .int .i64 0]),3,24):=by kernel_rfl
theorem zero115 (w:World):(zeroValue 115).run Try.prog w= .ok (.agg #[.int .i64 0, .int .i64 0, .int .i64 0]) w:=by
 obtain⟨i0,hi0,hz,_,_⟩:=info_parts info115;simp[zeroValue,typeInfo,hi0,hz]
theorem keyed92:Try.prog.keyType 92=true:=by kernel_rfl
theorem keys92 (m:Nat→Int) (h: ∀j, -7≤m j∧m j≤7): ∃kl,keyOf Try.prog 92 (.agg (stk m))=some kl:=by
 have c92:Try.prog.cellsOf 92=7:=by kernel_rfl
 have c90:Try.prog.cellsOf 90=1:=by kernel_rfl
 have hw: ∀j,(Lit.int .i8 (m j)).wf=true:=fun j=>by
  have h1:=h j;have e1:IntKind.i8.min= -128:=by decide
  have e2:IntKind.i8.max=127:=by decide
  simp only[Lit.wf,e1,e2,Bool.and_eq_true,decide_eq_true_eq];omega
 have hf:(Value.agg (stk m)).formed Try.prog 92=true:=by simp[Value.formed,c92,stk]
 have h3: ∀j d,Try.prog.keyLits (d+1) 90 [.int .i8 (m j)]=some [.int .i8 (m j)]:=fun j d=>by simp[Program.keyLits,hw]
 unfold keyOf;rw[u92];simp only[keyed92,hf,Bool.and_self,if_true];obtain⟨N,hN⟩: ∃N,Try.prog.types.size=N+1:=Nat.exists_eq_succ_of_ne_zero (Nat.pos_iff_ne_zero.1 (Nat.lt_of_le_of_lt (Nat.zero_le _) row92));rw[hN]
 have e:Try.prog.keyLits (N+1+1) 92 (stk m).toList=some ((List.range 7).map (fun i=>Lit.int .i8 (m i))):=by
  have hr:List.range 7= [0,1,2,3,4,5,6]:=by decide
  unfold Program.keyLits;rw[u92];simp only[c92,c90,hr];simp[stk,List.mapM_cons,h3]
 have e':(Value.agg (stk m)).cells.toList=(stk m).toList:=rfl;rw[e',e];exact⟨_,rfl⟩
@[irreducible] noncomputable def KL (l:List Int):Lit:=(keyOf Try.prog 92 (.agg (stk (nth l)))).getD (.bool true)
theorem key_KL {n:Nat} {l:List Int} (h:Vs n l):keyOf Try.prog 92 (.agg (stk (nth l)))=some (KL l):=by
 obtain⟨kl,hk⟩:=keys92 (nth l) h.2;unfold KL;rw[hk];simp only[Option.getD_some]
theorem KL_inj {n:Nat} {l m:List Int} (hl:Vs n l) (hm:Vs n m) (hn:n≤7) (h:KL l=KL m):l=m:=by
 have h1:=key_KL hl;have h2:=key_KL hm;rw[h]at h1;exact stk_inj hl hm hn (Value.agg.inj (law92.inj h1 h2))
theorem keyLit_of {P:Program} {k:TypeId} (K:Go.Maps.Keyed P k) {v:Value} {l:Lit} (h:keyOf P k v=some l):WideAt.IsKeyLit l:=K.key h
theorem KL_lit {n:Nat} {l:List Int} (h:Vs n l):WideAt.IsKeyLit (KL l):=keyLit_of law92 (key_KL h)
abbrev St3:=(Nat×Nat)×Nat
def stepE (x:St3):Value:= .agg #[.int .i64 (x.1.1:Int), .int .i64 (x.1.2:Int), .int .i64 (x.2:Int)]
def stepD (x:St3):DataW Unit:= .agg [.lit (.int .i64 (x.1.1:Int)), .lit (.int .i64 (x.1.2:Int)), .lit (.int .i64 (x.2:Int))]
def stepR (v:Value):Option (DataW Unit×List MemPlace):=
 match v with
 | .agg cs=>if cs.size=3 then match cs.toList with
  | [.int .i64 a, .int .i64 b, .int .i64 c]=>some (.agg [.lit (.int .i64 a), .lit (.int .i64 b), .lit (.int .i64 c)], [])
  |_=>none
  else none
 |_=>none
theorem stepR_E (x:St3):stepR (stepE x)=some (stepD x, []):=rfl
theorem stepR_inv {v:Value} {x:St3} {ps:List MemPlace} (h:stepR v=some (stepD x,ps)):v=stepE x:=by
 unfold stepR at h
 split at h
 ·rename_i cs
  split at h
  ·split at h
   ·rename_i a b c hl
    simp only[stepD,Option.some.injEq,Prod.mk.injEq,DataW.agg.injEq,List.cons.injEq,DataW.lit.injEq,Lit.int.injEq,true_and,and_true]at h;obtain⟨⟨h1,h2,h3⟩,_⟩:=h;subst h1;subst h2;subst h3;unfold stepE;congr 1;apply Array.ext';exact hl
   ·cases h
  ·cases h
 ·cases h
def zeroS:St3:=((0,0),0)
abbrev Km:=List Int→Option St3
def Km.put (M:Km) (l:List Int) (e:St3):Km:=fun x=>if x=l then some e else M x
theorem Km.put_same (M:Km) (l:List Int) (e:St3):M.put l e l=some e:=by simp[Km.put]
theorem Km.put_other (M:Km) {l x:List Int} (e:St3) (h:x≠l):M.put l e x=M x:=by simp[Km.put,h]
def Kn (W:World) (b k n:Nat) (M:Km):Prop:=
 ∃D:DataW Unit,W.ownsMap Try.prog 92 stepR b k D∧Go.Maps.IsMap D∧
  (∀l,Vs n l→Go.Maps.has D (KL l)=(M l).isSome∧D.atKey (KL l) (stepD zeroS)=stepD ((M l).getD zeroS))∧
  ∀kl,Go.Maps.has D kl=true→ ∃l,Vs n l∧kl=KL l
theorem Kn.made (W:World) (n:Nat):Kn (W.alloc (.map #[] 0)) W.heap.size 0 n (fun _=>none):=by
 refine⟨.map [],World.ownsMap_made W Try.prog 92 _,Go.Maps.isMap_empty,fun l hl=>⟨rfl,?_⟩,fun kl h=>by cases h⟩;rw[Go.Maps.atKey_of_not_has (by rfl)];rfl
theorem Kn.lt {W:World} {b k n:Nat} {M:Km} (h:Kn W b k n M):b< W.heap.size:=by
 obtain⟨D,h1,_⟩:=h;exact h1.lt
theorem Kn.mapsTo {W W':World} {b k n:Nat} {M:Km} (h:Kn W b k n M) (hb:W'.heap[b]? =W.heap[b]?):Kn W' b k n M:=by
 obtain⟨D,⟨es,clock,h1,h2⟩,h3⟩:=h;exact⟨D,⟨es,clock,hb.trans h1,h2⟩,h3⟩
theorem Kn.below {W W':World} {b k n:Nat} {M:Km} (h:Kn W b k n M) (hb:Below W.heap.size W W'):Kn W' b k n M:=h.mapsTo (hb.block b h.lt)
theorem Kn.step {T B:Nat} {W W':World} {b k n:Nat} {M:Km} (h:Kn W b k n M) (hs:Step T B W W'):Kn W' b k n M:=by
 obtain⟨D,⟨es,clock,h1,h2⟩,h3⟩:=h;exact⟨D,⟨es,clock,hs.same _ _ h1 (.inr rfl),h2⟩,h3⟩
theorem Kn.look {W:World} {b k n:Nat} {M:Km} (h:Kn W b k n M) {l:List Int} (hl:Vs n l):
  (Instr.lookup 116 (.map (some b)) (.agg (stk (nth l))) false).run Try.prog W= .ok (stepE ((M l).getD zeroS)) W:=by
 obtain⟨D,h1,h2,h3,_⟩:=h;obtain⟨v,ps,hrun,hat⟩:=h1.lookup law92 u116 (zero115 W) (show stepR (.agg #[.int .i64 0, .int .i64 0, .int .i64 0])=some (stepD zeroS, [])from rfl) (key_KL hl);rw[hrun];rw[(h3 l hl).2]at hat;rw[stepR_inv hat]
theorem Kn.look_ok {W:World} {b k n:Nat} {M:Km} (h:Kn W b k n M) {l:List Int} (hl:Vs n l):
  (Instr.lookup 116 (.map (some b)) (.agg (stk (nth l))) true).run Try.prog W= .ok (.tuple #[stepE ((M l).getD zeroS), .bool (M l).isSome]) W:=by
 obtain⟨D,h1,h2,h3,_⟩:=h;obtain⟨v,ps,hrun,hat⟩:=h1.look_ok law92 u116 (zero115 W) (show stepR (.agg #[.int .i64 0, .int .i64 0, .int .i64 0])=some (stepD zeroS, [])from rfl) (key_KL hl);rw[hrun,(h3 l hl).1];rw[(h3 l hl).2]at hat;rw[stepR_inv hat]
theorem Kn.put {W:World} {b k n:Nat} {M:Km} (h:Kn W b k n M) (hn:n≤7) {l:List Int} (hl:Vs n l) (e:St3) (hk:k< 1000000000):
  ∃W',(Instr.mapUpdate 116 (.map (some b)) (.agg (stk (nth l))) (stepE e)).run Try.prog W= .ok () W'∧Kn W' b (k+1) n (M.put l e)∧W.grownBy W' (some b):=by
 obtain⟨D,h1,h2,h3,h4⟩:=h;have hkm:k< maxLen:=by unfold maxLen;omega
 have hkey:=key_KL hl;obtain⟨W',hrun,ho,hg⟩:=h1.update law92 u116 hkm hkey (stepR_E e);have hk1:=KL_lit hl;refine⟨W',hrun,⟨_,ho,h2.put _ _,fun x hx=>?_,fun kl hkl=>?_⟩,hg⟩
 ·clear hrun ho hg hkey h1 h4;generalize hA:KL l=A at*;by_cases e':x=l
  ·rw[e',Km.put_same,hA];simp only[Option.isSome_some,Option.getD_some];exact⟨Go.Maps.has_put_same h2 hk1 _,Go.Maps.atKey_put_same h2 hk1 _ _⟩
  ·rw[Km.put_other _ _ e'];have hne:KL x≠A:=fun h=>e' (KL_inj hx hl hn (h.trans hA.symm));rw[Go.Maps.has_put_other hne,Go.Maps.atKey_put_other hne];exact h3 x hx
 ·by_cases e':kl=KL l
  ·exact⟨l,hl,e'⟩
  ·rw[Go.Maps.has_put_other e']at hkl;exact h4 kl hkl
theorem stk_eq {n:Nat} {l m:List Int} (hl:Vs n l) (hm:Vs n m) (hn:n≤7) (W:World):
  (Op.equalIn 10000 92 (.agg (stk (nth l))) (.agg (stk (nth m)))).run Try.prog W= .ok (decide (l=m)) W:=by
 obtain⟨r,hr,hiff⟩:=run_equal_deep (P:=Try.prog) W (m:=2) tO key92 (by rw[u92]) (key_KL hl) (key_KL hm)
 have e:r=decide (l=m):=by
  rw[Bool.eq_iff_iff,hiff,decide_eq_true_eq];exact⟨fun h=>KL_inj hl hm hn h,fun h=>by rw[h]⟩
 rw[e]at hr;exact hr
def lst0 (n:Nat) (m:Nat→Int):List Int:=(List.range n).map m
theorem lst0_len (n:Nat) (m:Nat→Int):(lst0 n m).length=n:=by simp[lst0]
theorem nth_lst0 (n:Nat) (m:Nat→Int) (p:Nat):nth (lst0 n m) p=if p< n then m p else 0:=by
 unfold nth lst0;by_cases h:p< n
 ·rw[if_pos h];simp[h]
 ·rw[if_neg h,List.getD_eq_getElem?_getD,List.getElem?_eq_none (by simp;omega)];rfl
theorem lst0_nth (l:List Int):lst0 l.length (nth l)=l:=by
 apply List.ext_getElem (by rw[lst0_len]);intro i h1 h2;simp[lst0,nth,h2]
def flL (sg:Bool) (l:List Int) (i k:Nat):List Int:=lst0 l.length (fl sg (nth l) i (k+1))
theorem flL_len (sg:Bool) (l:List Int) (i k:Nat):(flL sg l i k).length=l.length:=lst0_len _ _
theorem nth_flL (sg:Bool) (l:List Int) (i k:Nat) (hk:k< l.length):nth (flL sg l i k)=fl sg (nth l) i (k+1):=by
 funext p;unfold flL;rw[nth_lst0];by_cases h:p< l.length
 ·rw[if_pos h]
 ·rw[if_neg h];unfold fl rv;rw[if_neg tO,if_neg tO,nth_end _ _ tO]
theorem fl_fl (sg:Bool) (m:Nat→Int) (i k:Nat):fl sg (fl sg m i (k+1)) i (k+1)=m:=by
 funext p;unfold fl rv;cases sg
 ·simp only[Bool.false_eq_true,false_and,if_false];by_cases h:i≤p∧p< k+1
  ·rw[if_pos h,if_pos tO];congr 1;omega
  ·rw[if_neg h,if_neg h]
 ·simp only[true_and];by_cases h:i≤p∧p< k+1
  ·rw[if_pos h,if_pos h,if_pos tO,if_pos tO,Int.neg_neg];congr 1;omega
  ·rw[if_neg h,if_neg h,if_neg h,if_neg h]
theorem flL_flL (sg:Bool) (l:List Int) (i k:Nat) (hk:k< l.length):flL sg (flL sg l i k) i k=l:=by
 have e:flL sg (flL sg l i k) i k=lst0 l.length (fl sg (nth (flL sg l i k)) i (k+1)):=by unfold flL;rw[lst0_len]
 rw[e,nth_flL sg l i k hk,fl_fl,lst0_nth]
theorem fl_bound {sg:Bool} {m:Nat→Int} {i k:Nat} {B:Int} (h: ∀p, -B≤m p∧m p≤B) (p:Nat): -B≤fl sg m i k p∧fl sg m i k p≤B:=by
 have r: -B≤rv m i k p∧rv m i k p≤B:=by
  unfold rv;split
  ·exact h _
  ·exact h _
 unfold fl
 split
 ·omega
 ·exact r
theorem vs_flL {n:Nat} {l:List Int} (h:Vs n l) (sg:Bool) (i k:Nat) (hk:k< n):Vs n (flL sg l i k):=by
 refine⟨by rw[flL_len];exact h.1,fun p=>?_⟩;rw[nth_flL sg l i k (by rw[h.1];exact hk)];exact fl_bound h.2 p
theorem mem_mv {n:Nat} {sg an:Bool} {x:Nat×Nat} (h:x∈mvL n sg an):x.1≤x.2∧x.2< n∧(sg=true∨x.2≠x.1)∧(an=true∨x.1=0):=by
 unfold mvL mvIn at h;obtain⟨i,hi,hx⟩:=List.mem_flatMap.1 h;unfold mvAt at hx
 split at hx
 ·cases hx
 ·rename_i h0
  unfold mvTo at hx;obtain⟨k,hk,rfl⟩:=List.mem_map.1 hx;obtain⟨h1,h2⟩:=List.mem_filter.1 hk;rw[Bool.and_eq_true,decide_eq_true_eq,Bool.or_eq_true,decide_eq_true_eq]at h2;refine⟨h2.1,List.mem_range.1 h1,h2.2,?_⟩;cases an
  ·right;show i=0;simp at h0;exact h0
  ·exact .inl rfl
theorem mv_mem {n:Nat} {sg an:Bool} {i k:Nat} (h1:i≤k) (h2:k< n) (h3:sg=true∨k≠i) (h4:an=true∨i=0):(i,k)∈mvL n sg an:=by
 unfold mvL mvIn;refine List.mem_flatMap.2 ⟨i,List.mem_range.2 tO,?_⟩;unfold mvAt;rw[if_neg (by rintro⟨a,b⟩;rcases h4 with h4|h4<;>simp_all)];unfold mvTo;refine List.mem_map.2 ⟨k,List.mem_filter.2 ⟨List.mem_range.2 h2,?_⟩,rfl⟩;rw[Bool.and_eq_true,decide_eq_true_eq,Bool.or_eq_true,decide_eq_true_eq];exact⟨h1,h3⟩
def nextK (n:Nat) (sg an:Bool) (l:List Int):List (List Int):=(mvL n sg an).map (fun x=>flL sg l x.1 x.2)
theorem next_back {n:Nat} {sg an:Bool} {l t:List Int} (hl:l.length=n) (h:t∈nextK n sg an l):l∈nextK n sg an t:=by
 obtain⟨x,hx,rfl⟩:=List.mem_map.1 h;exact List.mem_map.2 ⟨x,hx,flL_flL sg l x.1 x.2 (by rw[hl];exact(mem_mv hx).2.1)⟩
def Sof (M:Km):Se (List Int):=fun l=>(M l).map Prod.snd
theorem Sof_put (M:Km) (l:List Int) (by_:Nat×Nat) (d:Nat):Sof (M.put l (by_,d))=(Sof M).put l d:=by
 funext x;unfold Sof Km.put Se.put
 split<;>rfl
theorem Sof_none {M:Km} {l:List Int} :Sof M l=none↔M l=none:=by
 unfold Sof;cases M l<;>simp
def ByOk (n:Nat) (sg an:Bool) (to_:List Int) (M:Km):Prop:= ∀l b d,M l=some (b,d)→(l=to_∧d=0)∨ ∃d' b',d=d'+1∧b∈mvL n sg an∧M (flL sg l b.1 b.2)=some (b',d')
theorem ByOk.begin (n:Nat) (sg an:Bool) (to_:List Int):ByOk n sg an to_ (Km.put (fun _=>none) to_ zeroS):=fun l b d h=>by
 unfold Km.put at h
 split at h
 ·rename_i e
  cases h;exact .inl ⟨e,rfl⟩
 ·cases h
theorem ByOk.put {n:Nat} {sg an:Bool} {to_:List Int} {M:Km} (h:ByOk n sg an to_ M) {s:List Int} {x:Nat×Nat} {b:Nat×Nat} {d:Nat} (hs:s.length=n) (hx:x∈mvL n sg an) (hd:M s=some (b,d)) (hn:M (flL sg s x.1 x.2)=none):ByOk n sg an to_ (M.put (flL sg s x.1 x.2) (x,d+1)):=fun l b' d' hl=>by
 have old: ∀y e,M y=some e→M.put (flL sg s x.1 x.2) (x,d+1) y=some e:=fun y e he=>by
  rw[Km.put_other]
  ·exact he
  ·intro e';rw[e',hn]at he;cases he
 by_cases e:l=flL sg s x.1 x.2
 ·rw[e,Km.put_same]at hl;cases hl;refine .inr ⟨d,b,rfl,hx,?_⟩;rw[e,flL_flL sg s x.1 x.2 (by rw[hs];exact(mem_mv hx).2.1)];exact old _ _ hd
 ·rw[Km.put_other _ _ e]at hl;rcases h l b' d' hl with h1|⟨d'',b'',h1,h2,h3⟩
  ·exact .inl h1
  ·exact .inr ⟨d'',b'',h1,h2,old _ _ h3⟩
def univ:Nat→List (List Int)
 |0=> [[]]
 |n+1=>(univ n).flatMap (fun l=>(List.range 15).map (fun(q:Nat)=>l++ [(q:Int) - 7]))
theorem univ_len (n:Nat):(univ n).length=15^n:=by
 induction n with
 |zero=>rfl
 |succ n ih=>
  rw[univ,List.length_flatMap];simp only[List.length_map,List.length_range];rw[List.map_const',List.sum_replicate_nat,ih,Nat.pow_succ]
theorem univ_mem (n:Nat): ∀l,Vs n l→l∈univ n:=by
 induction n with
 |zero=>intro l h;have:=h.1;simp[univ];exact List.length_eq_zero_iff.1 this
 | succ n ih=>
  intro l h;obtain⟨hl,hp⟩:=h;have hne:l≠ []:=by intro e;rw[e]at hl;simp at hl
  obtain⟨l0,x,rfl⟩: ∃l0 x,l=l0++ [x]:=⟨l.dropLast,l.getLast hne,(List.dropLast_concat_getLast hne).symm⟩;have hl0:l0.length=n:=by simpa using hl
  have hx:=hp n;have hxn:nth (l0++ [x]) n=x:=by simp[nth,←hl0]
  rw[hxn]at hx;simp only[univ,List.mem_flatMap,List.mem_map,List.mem_range];refine⟨l0,ih l0 ⟨hl0,fun i=>?_⟩,(x+7).toNat,by omega,by rw[Int.toNat_of_nonneg tO];congr 2;omega⟩;by_cases hi:i< l0.length
  ·have:=hp i;have e:nth (l0++ [x]) i=nth l0 i:=by simp[nth,List.getD_eq_getElem?_getD,List.getElem?_append_left hi]
   rwa [e]at this
  ·rw[nth_end _ _ tO];omega
theorem vs_count {n:Nat} {L:List (List Int)} (h:L.Nodup) (hv: ∀x,x∈L→Vs n x):L.length≤15^n:=by
 rw[←univ_len n];exact nodup_sub L _ h (fun x hx=>univ_mem n x (hv x hx))
theorem p15 {n:Nat} (h:n≤7):15^n≤170859375:=Nat.pow_le_pow_right tD h
def flat (q:List (List Int)):List Value:=(q.map (fun l=>(stk (nth l)).toList)).flatten
theorem flat_nil:flat []= []:=rfl
theorem flat_cons (l:List Int) (q:List (List Int)):flat (l::q)=(stk (nth l)).toList++flat q:=rfl
theorem flat_snoc (q:List (List Int)) (l:List Int):flat (q++ [l])=flat q++(stk (nth l)).toList:=by simp[flat]
theorem flat_len (q:List (List Int)):(flat q).length=q.length*7:=by
 induction q with
 |nil=>rfl
 |cons l q ih=>rw[flat_cons,List.length_append,ih];simp[stk];omega
theorem exists_least {R:Nat→Prop} : ∀k,R k→ ∃m,R m∧ ∀j,R j→m≤j:=by
 intro k
 induction k using Nat.strongRecOn with
 | ind k ih=>
  intro hk;by_cases h: ∃j,j< k∧R j
  ·obtain⟨j,hj,hr⟩:=h;exact ih j hj hr
  ·exact⟨k,hk,fun j hj=>by
    rcases Nat.lt_or_ge j k with h'|h'
    ·exact absurd ⟨j,h',hj⟩ h
    ·exact h'⟩
noncomputable def lst (R:Nat→Prop):Nat:=open Classical in if h: ∃m,R m∧ ∀j,R j→m≤j then Classical.choose h else 0
theorem lst_spec {R:Nat→Prop} (h: ∃k,R k):R (lst R):=by
 obtain⟨k,hk⟩:=h;have:=exists_least k hk;unfold lst;rw[dif_pos this];exact(Classical.choose_spec this).1
theorem lst_le {R:Nat→Prop} {k:Nat} (h:R k):lst R≤k:=by
 have:=exists_least k h;unfold lst;rw[dif_pos this];exact(Classical.choose_spec this).2 k h
end Go.Proofs.Ytepjhdblmghckaa.G
namespace Go.Proofs.Ytepjhdblmghckaa.It
open Go
variable {F:Fence} {n:Nat} {P:Program} {Q:Exit→Act→World→Prop} {a:Act} {w:World} {b:Frame} {k:List Item} {cs:List Frame}
theorem stepR_scope {c:Code} :step P (lone (b.atR a (.code (.scope c)::k)) cs w)= .next (lone (b.atR a (.code c:: .inScope c::k)) cs w):=
 step_lone_go (by simp[stepG,stepG.exec,Frame.atR])
theorem stepR_inScope {c:Code} :step P (lone (b.atR a (.inScope c::k)) cs w)= .next (lone (b.atR a k) cs w):=
 step_lone_go (by simp[stepG,stepG.exec,Frame.atR])
theorem wpIn_scope {c:Code} (h:c.wpIn F n P (Exit.noGoto Q) a w):(Code.scope c).wpIn F n P Q a w:=by
 intro b k cs hro hb hr;have h0:(lone (b.atR a (.code (.scope c)::k)) cs w).fenced P F:=fenced_calm hb hr rfl;obtain⟨e,a₁,w₁,hq,harr⟩:=h b (.inScope c::k) cs hro hb hr;cases e with
 |normal=>exact⟨.normal,a₁,w₁,hq, .head h0 stepR_scope (StepsIn.trans harr (.one (fenced_calm hb hr rfl) stepR_inScope))⟩
 | exit id=>
  have hx:exitTo id (.inScope c::k)=exitTo id k:=by simp[exitTo]
  exact⟨.exit id,a₁,w₁,hq,fun k' hk=> .head h0 stepR_scope (harr.1 k' (by rw[hx];exact hk)),
   fun hr' hk=>let⟨k₁,h1,h2⟩:=harr.2 hr' (by rw[hx];exact hk);⟨k₁,h1, .head h0 stepR_scope h2⟩⟩
 |goto l=>exact hq.elim
 |ret=>exact⟨_,a₁,w₁,hq, .of_steps (.one h0 stepR_scope) harr⟩
 |panic ch=>exact⟨_,a₁,w₁,hq, .of_steps (.one h0 stepR_scope) harr⟩
 |outgrown=>exact⟨_,a₁,w₁,hq, .of_steps (.one h0 stepR_scope) harr⟩
end Go.Proofs.Ytepjhdblmghckaa.It
namespace Go.Proofs.Ytepjhdblmghckaa.G
open Go.Proofs.Ytepjhdblmghckaa.Q Go.Proofs.Ytepjhdblmghckaa.K Go.Proofs.Ytepjhdblmghckaa.It Go.Proofs.Ytepjhdblmghckaa.Bf
open Go.RowKit Go.Shelf Go.Proofs.YtepjhdblmghckaaW.PrintWords Go.Proofs.YtepjhdblmghckaaW.PrintLast Go.Proofs.YtepjhdblmghckaaW.PrintMore
attribute [local go_sem] Oper.semAt_some
abbrev Sst:=Km×List (List Int)×List (List Int)
def stp (sg:Bool) (s:List Int) (st:Sst) (x:Nat×Nat):Sst:=if(st.1 (flL sg s x.1 x.2)).isSome=true then st else(st.1.put (flL sg s x.1 x.2) (x,((st.1 s).getD zeroS).2+1),st.2.1++ [flL sg s x.1 x.2],flL sg s x.1 x.2::st.2.2)
def rnd (n:Nat) (sg an:Bool) (st:Sst):Sst:=match st.2.1 with
 | []=>st
 |s::q=>(mvL n sg an).foldl (stp sg s) (st.1,q,st.2.2)
def stops (U:Option (List Int)) (st:Sst):Bool:=match st.2.1 with
 | []=>true
 |s::_=>decide (U=some s)
def bfs (n:Nat) (sg an:Bool) (U:Option (List Int)):Nat→Sst→Sst
 |0,st=>st
 |k+1,st=>if stops U st=true then st else bfs n sg an U k (rnd n sg an st)
def ini (to_:List Int):Sst:=(Km.put (fun _=>none) to_ zeroS, [to_], [to_])
theorem bfs_stop {n:Nat} {sg an:Bool} {U:Option (List Int)} {st:Sst} (h:stops U st=true) (k:Nat):bfs n sg an U k st=st:=by
 cases k with
 |zero=>rfl
 |succ k=>rw[bfs,if_pos h]
def Th (n:Nat) (sg an:Bool) (to_:List Int) (U:Option (List Int)) (M:Km) (q L:List (List Int)):Prop:=
 ∃j,j+q.length=L.length∧ ∀F,bfs n sg an U (F+j) (ini to_)=bfs n sg an U F (M,q,L)
def Tr (n:Nat) (sg an:Bool) (to_:List Int) (U:Option (List Int)) (s:List Int) (pre:List (Nat×Nat)) (M:Km) (q L:List (List Int)):Prop:=
 U≠some s∧ ∃j M0 q0 L0,j+1+q.length=L.length∧(∀F,bfs n sg an U (F+j) (ini to_)=bfs n sg an U F (M0,s::q0,L0))∧pre.foldl (stp sg s) (M0,q0,L0)=(M,q,L)
theorem Th.begin (n:Nat) (sg an:Bool) (to_:List Int) (U:Option (List Int)):Th n sg an to_ U (Km.put (fun _=>none) to_ zeroS) [to_] [to_]:=⟨0,rfl,fun F=>rfl⟩
theorem Th.pop {n:Nat} {sg an:Bool} {to_:List Int} {U:Option (List Int)} {M:Km} {s:List Int} {q L:List (List Int)} (h:Th n sg an to_ U M (s::q) L) (hU:U≠some s):Tr n sg an to_ U s [] M q L:=by
 obtain⟨j,h1,h2⟩:=h;refine⟨hU,j,M,q,L,?_,h2,rfl⟩;simp only[List.length_cons]at h1;omega
theorem Tr.finish {n:Nat} {sg an:Bool} {to_:List Int} {U:Option (List Int)} {M:Km} {s:List Int} {q L:List (List Int)} (h:Tr n sg an to_ U s (mvL n sg an) M q L):Th n sg an to_ U M q L:=by
 obtain⟨hU,j,M0,q0,L0,h1,h2,h3⟩:=h;refine⟨j+1,h1,fun F=>?_⟩;rw[show F+(j+1)=(F+1)+j by omega,h2,bfs,if_neg (by simp[stops,hU]),rnd];simp only;rw[h3]
theorem Tr.seen {n:Nat} {sg an:Bool} {to_:List Int} {U:Option (List Int)} {M:Km} {s t:List Int} {pre:List (Nat×Nat)} {x:Nat×Nat} {q L:List (List Int)} (h:Tr n sg an to_ U s pre M q L) (ht:flL sg s x.1 x.2=t) (hs:(M t).isSome=true):Tr n sg an to_ U s (pre++ [x]) M q L:=by
 obtain⟨hU,j,M0,q0,L0,h1,h2,h3⟩:=h;refine⟨hU,j,M0,q0,L0,h1,h2,?_⟩;rw[List.foldl_append,h3];show stp sg s (M,q,L) x=_;unfold stp;rw[ht,if_pos hs]
theorem Tr.new {n:Nat} {sg an:Bool} {to_:List Int} {U:Option (List Int)} {M:Km} {s t:List Int} {pre:List (Nat×Nat)} {x b:Nat×Nat} {d:Nat} {q L:List (List Int)} (h:Tr n sg an to_ U s pre M q L) (ht:flL sg s x.1 x.2=t) (hn:M t=none) (hs:M s=some (b,d)):Tr n sg an to_ U s (pre++ [x]) (M.put t (x,d+1)) (q++ [t]) (t::L):=by
 obtain⟨hU,j,M0,q0,L0,h1,h2,h3⟩:=h;refine⟨hU,j,M0,q0,L0,by simp only[List.length_append,List.length_cons,List.length_nil];omega,h2,?_⟩;rw[List.foldl_append,h3];show stp sg s (M,q,L) x=_;unfold stp;rw[ht,if_neg (by show ¬(M t).isSome=true;rw[hn];simp)];simp only[hs];rfl
structure Hd (n:Nat) (sg an:Bool) (to_:List Int) (U:Option (List Int)) (W0 wr:World) (k:Nat) (M:Km) (q L:List (List Int)) (v:Value):Prop where
 rd:Rd (nextK n sg an) to_ (Vs n) (Sof M) q L
 by_:ByOk n sg an to_ M
 k_:k=2*(15^n - L.length)+q.length
 map_:Kn wr (W0.heap.size+2) L.length n M
 row:QRow wr (W0.heap.size+4) 92 7 v q.length (flat q)
 box8:Blk wr (W0.heap.size+5) #[v] 134
 box7:Blk wr (W0.heap.size+3) #[.map (some (W0.heap.size+2))] 116
 box3:Blk wr W0.heap.size #[.int .i64 n, .bool sg, .bool an] 88
 below:Below W0.heap.size W0 wr
 full: ∀x,(Sof M x).isSome=true→x∈L
 ql:q.length≤L.length
 tr:Th n sg an to_ U M q L
structure Bd (n:Nat) (sg an:Bool) (to_:List Int) (U:Option (List Int)) (W0 W:World) (b9 k:Nat) (s:List Int) (pre:List (Nat×Nat)) (M:Km) (q L:List (List Int)) (v:Value):Prop where
 rm:Rm (nextK n sg an) to_ (Vs n) (Sof M) s (pre.map (fun x=>flL sg s x.1 x.2)) q L
 by_:ByOk n sg an to_ M
 k_:2*(15^n - L.length)+q.length< k
 map_:Kn W (W0.heap.size+2) L.length n M
 row:QRow W (W0.heap.size+4) 92 7 v q.length (flat q)
 sep: ∀j,v.ownBlock=some j→j< b9∨b9+2< j
 box8:Blk W (W0.heap.size+5) #[v] 134
 box7:Blk W (W0.heap.size+3) #[.map (some (W0.heap.size+2))] 116
 box3:Blk W W0.heap.size #[.int .i64 n, .bool sg, .bool an] 88
 box9:Blk W b9 (stk (nth s)) 92
 below:Below W0.heap.size W0 W
 lt:W0.heap.size+5< b9
 size:b9+2< W.heap.size
 full: ∀x,(Sof M x).isSome=true→x∈L
 ql:q.length≤L.length
 tr:Tr n sg an to_ U s pre M q L
theorem blk_below {W W':World} {b t:Nat} {cs:Array Value} (h:Blk W b cs t) (hb:Below W.heap.size W W'):Blk W' b cs t:=h.below hb h.lt
theorem row_below {base e size n:Nat} {W W':World} {v:Value} {xs:List Value} (h:QRow W base e size v n xs) (hb:Below W.heap.size W W'):QRow W' base e size v n xs:=q_move h (fun k hk=>hb.block k (q_lt h k hk))
theorem blk_step {B:Nat} {W W':World} {b t:Nat} {cs:Array Value} (h:Blk W b cs t) (hs:Step 0 B W W') (ht:(t==0)=false):Blk W' b cs t:=hs.same _ _ h (.inr (by simp[stays,book,isT,ht]))
theorem row_step {B base e size n:Nat} {W W':World} {v:Value} {xs:List Value} (h:QRow W base e size v n xs) (hs:Step 0 B W W') (ht:(e==0)=false):QRow W' base e size v n xs:=
 q_move h (fun k hk=>by
  obtain⟨_,cells,hc⟩:=q_typed h k hk;rw[hc]
  exact hs.same _ _ hc (.inr (by simp[stays,book,isT,ht])))
theorem Bd.step {n:Nat} {sg an:Bool} {to_:List Int} {U:Option (List Int)} {B:Nat} {W0 W W':World} {b9 k:Nat} {s:List Int} {pre:List (Nat×Nat)} {M:Km} {q L:List (List Int)} {v:Value} (h:Bd n sg an to_ U W0 W b9 k s pre M q L v) (hs:Step 0 B W W') (hB:W0.heap.size≤B):Bd n sg an to_ U W0 W' b9 k s pre M q L v:=
 ⟨h.rm,h.by_,h.k_,h.map_.step hs,row_step h.row hs rfl,h.sep,blk_step h.box8 hs rfl,blk_step h.box7 hs rfl,blk_step h.box3 hs rfl,blk_step h.box9 hs rfl,hs.below h.below hB (Nat.le_refl _),h.lt,by have:=h.size;have:=hs.size;omega,h.full,h.ql,h.tr⟩
theorem Bd.below_ {n:Nat} {sg an:Bool} {to_:List Int} {U:Option (List Int)} {W0 W W':World} {b9 k:Nat} {s:List Int} {pre:List (Nat×Nat)} {M:Km} {q L:List (List Int)} {v:Value} (h:Bd n sg an to_ U W0 W b9 k s pre M q L v) (hb:Below W.heap.size W W'):Bd n sg an to_ U W0 W' b9 k s pre M q L v:=
 ⟨h.rm,h.by_,h.k_,h.map_.below hb,row_below h.row hb,h.sep,blk_below h.box8 hb,blk_below h.box7 hb,blk_below h.box3 hb,blk_below h.box9 hb,h.below.trans (hb.mono h.below.size),h.lt,by have:=h.size;have:=hb.size;omega,h.full,h.ql,h.tr⟩
def findBlk (id:Nat):Code→Option Code
 | .block i c=>if i=id then some c else findBlk id c
 | .seq a b=>(findBlk id a).or (findBlk id b)
 | .loop c=>findBlk id c
 | .scope c=>findBlk id c
 | .cond _ a b=>(findBlk id a).or (findBlk id b)
 | .rangeFunc _ _ a b=>(findBlk id a).or (findBlk id b)
 |_=>none
def codeOf (f:Func):Code:=match f.body with|some c=>c|none=> .skip
def fstC:Code→Code
 | .seq a _=>a
 |c=>c
def sndC:Code→Code
 | .seq _ b=>b
 |c=>c
def dropC:Nat→Code→Code
 |0,c=>c
 |k+1,c=>dropC k (sndC c)
noncomputable def stepC:Code:=(findBlk 3 (codeOf Try.f84)).getD .skip
def keepS (b9:Nat):Nat→Prop:=keepM (b9+1) (b9+2)
def Isr (n:Nat) (sg an:Bool) (to_:List Int) (U:Option (List Int)) (W0:World) (b9 k:Nat) (s:List Int) (pre:List (Nat×Nat)) (W:World):Prop:= ∃M q L v,Aside0 (Bd n sg an to_ U W0 W b9 k s pre M q L v)
theorem rm_count {n:Nat} {sg an:Bool} {to_:List Int} {S:Se (List Int)} {s:List Int} {d q L:List (List Int)} (h:Rm (nextK n sg an) to_ (Vs n) S s d q L):L.length≤15^n:=vs_count h.nodup (fun x hx=>h.v x (h.seen x hx))
theorem rd_count {n:Nat} {sg an:Bool} {to_:List Int} {S:Se (List Int)} {q L:List (List Int)} (h:Rd (nextK n sg an) to_ (Vs n) S q L):L.length≤15^n:=vs_count h.nodup (fun x hx=>h.v x (h.seen x hx))
theorem field115 (a b c:Int) (w:World):(Instr.field 115 (.agg #[.int .i64 a, .int .i64 b, .int .i64 c]) 1).run Try.prog w= .ok (.int .i64 c) w:=by kernel_rfl
theorem u134:Try.prog.underlying 134=some (.slice 92):=by kernel_rfl
theorem info92:(Try.prog.info? 92).map (fun i=>(i.zero,i.size,i.bytes))=some (some (.agg #[.int .i8 0, .int .i8 0, .int .i8 0, .int .i8 0, .int .i8 0, .int .i8 0, .int .i8 0]),7,7):=by kernel_rfl
section
variable {F:Fence} {nF:Nat} {P:Program} (w:World)
theorem wpListIn_append_q {ops:Array Oper} {rest:List Oper} {o:Oper} {a:Act} {Q:Exit→Act→World→Prop} (hgd:o.guard=none) (s x:Operand) (t:TypeId)
  (ho:o.op= .call { callee:= .builtin .append,args:= #[s,x],argTypes:= #[t,t] })
  (base:Nat) (e:TypeId) (i:TypeInfo) (z:Value) (size bytes:Nat) (ht:P.underlying t=some (.slice e)) (hi:P.info? e=some i) (hz:i.zero=some z)
  (hsize:i.size=size) (hby:i.bytes=bytes) (hzs:z.cells.size=size) (hsz:0< size)
  (v:Value) (n:Nat) (xs:List Value) (hs:a.eval s=v) (hown:QRow w base e size v n xs)
  (ad:Addr) (m c:Nat) (news:List Value) (hx:a.eval x= .slice (some ad) m c) (hl:news.length=m*size) (hnews: ∀j u,news[j]? =some u→w.cell? (ad.add j)=some u) (h1: ∀u∈news,u.oneCell'=true) (hm:0< m)
  (h63:n+m≤maxLen) (hbytes:(n+m)*bytes≤140737488355328) (hbase:base≤w.heap.size)
  (h: ∀v' w',QRow w' base e size v' (n+m) (xs++news)→w.grownBy w' v.ownBlock→(v'.ownBlock=v.ownBlock∨ ∃b,v'.ownBlock=some b∧w.heap.size≤b)→wpListIn F nF P ops Q rest (a.put o.dst v') w'):
  wpListIn F nF P ops Q (o::rest) a w:=by
 refine wpListIn_plain hgd fun K hK=>?_;obtain⟨v',w',hr,h2,h3,h4⟩:=q_append (P:=P) w base t o.type e i z size bytes ht hi hz hsize hby hzs hsz v n xs hown ad m c news hl hnews h1 hm h63 hbytes hbase;unfold Oper.wpIn;refine⟨by simp[Oper.about,ho,resolve,Target.leads,Sem.run_pure],?_⟩;rw[Oper.semAt_plain F _ _ (by rw[ho];intro c hc';cases hc')];simp[execOp,ho,resolve,invoke,builtin,hs,hx,hr,Result.andThen];exact hK _ _ (h v' w' h2 h3 h4)
end
set_option maxRecDepth 100000 in
set_option maxHeartbeats 8000000 in
theorem body_step (l d n:Nat) (sg an:Bool) (hn:n≤7) (to_:List Int) (U:Option (List Int)) (W0 W:World) (b9 k b10 b11:Nat) (hk2:k≤400000000) (s:List Int) (pre:List (Nat×Nat)) (x:Nat×Nat) (hx:x∈mvL n sg an) (M:Km) (q L:List (List Int)) (v:Value) (h:Bd n sg an to_ U W0 W b9 k s pre M q L v)
  (h10:Blk W b10 #[.int .i64 (x.1:Int), .int .i64 (x.2:Int)] 105) (h11:Blk W b11 (stk (nth (flL sg s x.1 x.2))) 92) (hlt:b9+2< b11) (x0 x1 x2 x4 x5 x6 x12 x13 x14 x15 x16 x17 x18 x19 x20 x21 x22 x23 x24 x25 x26 x27 x28 x29 x30 x31 x32 x33 x34 x35 x36 x37 x38 x39 x40 x41 x42 x43 x44 x45 x46 x47 x48 x49 x50 x51 x52 x53 x54 x55 x56 x57 x58 x59 x60 x61 x62 x63:Value):
  (Code.block 3 stepC).wpIn (Fence.wide.inRound l) d Try.prog (rPost 0 (keepS b9) (Isr n sg an to_ U W0 b9 k s) (fun _ _ _=>False) (pre++ [x]) W) { tmps:= #[x0,x1,x2, .pointer (some ⟨W0.heap.size,0,none⟩),x4,x5,x6, .pointer (some ⟨W0.heap.size+3,0,none⟩), .pointer (some ⟨W0.heap.size+5,0,none⟩), .pointer (some ⟨b9,0,none⟩), .pointer (some ⟨b10,0,none⟩), .pointer (some ⟨b11,0,none⟩),x12,x13,x14,x15,x16,x17,x18,x19,x20,x21,x22,x23,x24,x25,x26,x27,x28,x29,x30,x31,x32,x33,x34,x35,x36,x37,x38,x39,x40,x41,x42,x43,x44,x45,x46,x47,x48,x49,x50,x51,x52,x53,x54,x55,x56,x57,x58,x59,x60,x61,x62,x63],defers:= [] } W:=by
 have hvs:Vs n s:=by
  obtain⟨ds,h1,h2⟩:=h.rm.some_;exact h.rm.v s (by rw[h1];rfl)
 have hmx:=mem_mv hx;have hvt:=vs_flL hvs sg x.1 x.2 hmx.2.1;have hmem:flL sg s x.1 x.2∈nextK n sg an s:=List.mem_map.2 ⟨x,hx,rfl⟩;obtain⟨c0,hc0⟩: ∃c0,stepC=c0:=⟨_,rfl⟩;have hc:=hc0;simp only[stepC,codeOf,Try.f84,findBlk,Option.or_some,Option.none_or,Option.or_none,if_true,if_false,Nat.reduceEqDiff,reduceIte,Option.getD_some]at hc;rw[hc0];clear hc0;subst hc;refine wpIn_block ?_;obtain⟨t,ht⟩: ∃t,flL sg s x.1 x.2=t:=⟨_,rfl⟩;rw[ht]at h11 hvt hmem;have hlk:=h.map_.look_ok hvt;have hc7:=h.box7.cell 0 (v:= .map (some (W0.heap.size+2))) rfl;obtain⟨tm,htm⟩: ∃tm,nth t=tm:=⟨_,rfl⟩;rw[htm]at h11 hlk;obtain⟨t0,t1,t2,t3,t4,t5,t6⟩:=stk_cells h11;unfold stk at hlk;have H:=Aside0.mk h;have HT:=Aside0.mk ht;have HTM:=Aside0.mk htm;have HVT:=Aside0.mk hvt;have HVS:=Aside0.mk hvs;have HMEM:=Aside0.mk hmem;have H10:=Aside0.mk h10;have H11:=Aside0.mk h11;have HX:=Aside0.mk hx;cases hM:M t with
 |some e=>
  rw[hM]at hlk;obtain⟨⟨e1,e2⟩,e3⟩:=e;simp only[stepE,Option.getD_some,Option.isSome_some]at hlk;have HMS:=Aside0.mk hM;clear h ht htm hvt hvs hmem h10 h11 hM hmx hx
  gi_wp2
  refine⟨(RB.refl _ _ _).alloc _,M,q,L,v, .mk ?_⟩;have hb:=H.out.below_ ((Below.refl _ W).alloc (Nat.le_refl _) (Obj.cells #[Value.int IntKind.i64 (e1:Int),Value.int IntKind.i64 (e2:Int),Value.int IntKind.i64 (e3:Int)] 115));have htr:=hb.tr.seen (x:=x) HT.out (by rw[HMS.out];rfl);refine { hb with rm:=?_,tr:=htr };have:=hb.rm.seen_ (t:=t) (by unfold Sof;rw[HMS.out];rfl);rw[List.map_append];show Rm _ _ _ _ _ (_++ [flL sg s x.1 x.2]) _ _;rw[HT.out];exact this
 | none=>
  rw[hM]at hlk;simp only[stepE,zeroS,Option.getD_none,Option.isSome_none]at hlk;have HMN:=Aside0.mk hM;clear h ht htm hvt hvs hmem h10 h11 hM hmx hx
  gi_wp2
  obtain⟨W7,hW7⟩: ∃W7,W.alloc (Obj.cells #[Value.int IntKind.i64 0,Value.int IntKind.i64 0,Value.int IntKind.i64 0] 115)=W7:=⟨_,rfl⟩;have HB7:=Aside0.mk (show Below W.heap.size W W7 by rw[←hW7];exact(Below.refl _ W).alloc (Nat.le_refl _) _);rw[hW7];clear hW7 hlk hc7 t0 t1 t2 t3 t4 t5 t6;have H7:=Aside0.mk (H.out.below_ HB7.out);have hc7:=H7.out.box7.cell 0 (v:= .map (some (W0.heap.size+2))) rfl;obtain⟨t0,t1,t2,t3,t4,t5,t6⟩:=stk_cells (blk_below H11.out HB7.out);obtain⟨m,hm⟩: ∃m,nth s=m:=⟨_,rfl⟩;have hb9:=H7.out.box9;rw[hm]at hb9;obtain⟨q0,q1,q2,q3,q4,q5,q6⟩:=stk_cells hb9;have z0:=(blk_below H10.out HB7.out).cell 0 (v:= .int .i64 (x.1:Int)) rfl;have z1:=(blk_below H10.out HB7.out).cell 1 (v:= .int .i64 (x.2:Int)) rfl;obtain⟨ds,hds,hdl⟩:=H7.out.rm.some_
  obtain⟨bs,hMs⟩: ∃bs,M s=some (bs,ds):=by
   unfold Sof at hds;cases hms:M s with
   |none=>rw[hms]at hds;cases hds
   |some e=>rw[hms]at hds;obtain⟨e1,e2⟩:=e;cases hds;exact⟨e1,rfl⟩
  have hcount:=rm_count H7.out.rm;have h15:=p15 hn;have hwd:IntKind.i64.wrap ((ds:Int)+1)=(ds:Int)+1:=iw64 tO tO
  have hlkn: ∀p,(Instr.lookup 116 (.map (some (W0.heap.size+2))) (.agg (stk (nth s))) false).run Try.prog (W7.drewN p)= .ok (stepE (bs,ds)) (W7.drewN p):=fun p=>by
   have:=(H7.out.map_.mapsTo (W':=W7.drewN p) rfl).look HVS.out;rw[hMs]at this;exact this
  rw[hm]at hlkn;unfold stk stepE at hlkn;have HDS:=Aside0.mk hds;have HMS:=Aside0.mk hMs;have HD:=Aside0.mk (show ds≤170859375 by omega);have HC:=Aside0.mk hcount;clear hds hMs hm hb9 hdl hcount h15;have hfd:=fun w=>field115 (bs.1:Int) (bs.2:Int) (ds:Int) w;refine wpIn_region_last' (F:=Fence.wide) (lr:= [_,_,_,_,_,_,_,_,_]) (hs:=rfl) rfl tK tK ?_
  repeat(gi_big_quiet_step (fail))
  refine wpQuietIn_nil ?_;intro _ hw';obtain⟨nq,hw''⟩:=hw';subst hw'';have HLB:=Aside0.mk (show L.length< 1000000000 by have:=HC.out;have:=p15 hn;omega);obtain⟨W8,hput,hS8,hg8⟩:=(H7.out.map_.mapsTo (W':=W7.drewN nq) rfl).put hn HVT.out (x,ds+1) HLB.out;rw[HTM.out]at hput;simp only[stepE,Int.natCast_add,Int.natCast_one]at hput;unfold stk at hput;have HS8:=Aside0.mk hS8;have HG8:=Aside0.mk (show W7.grownBy W8 (some (W0.heap.size+2))from⟨hg8.os,hg8.tape,hg8.output,hg8.size,hg8.block⟩);clear hS8 hg8 t0 t1 t2 t3 t4 t5 t6 q0 q1 q2 q3 q4 q5 q6 z0 z1 hlkn hwd hc7 hfd;go_simp;clear hput;have hlt0:=H.out.lt;have hsz0:=H.out.size;have hs7:=HB7.out.size;have hs8:=HG8.out.size;obtain⟨A,cap,hv,hcap⟩:=q_slice H7.out.row;subst hv;have hb8:Blk W8 (W0.heap.size+5) #[.slice A q.length cap] 134:=H7.out.box8.grown HG8.out tS;have hb11:Blk W8 b11 (stk tm) 92:=(blk_below H11.out HB7.out).grown HG8.out (by simp;omega);have hq8:QRow W8 (W0.heap.size+4) 92 7 (.slice A q.length cap) q.length (flat q):=q_move H7.out.row (fun j hj=>HG8.out.block j (q_lt H7.out.row j hj) (fun e=>by injection e with e;have:=(q_typed H7.out.row j hj).1;omega));have hq1:QRow (W8.alloc (.cells (stk tm) 92)) (W0.heap.size+4) 92 7 (.slice A q.length cap) q.length (flat q):=row_below hq8 ((Below.refl _ _).alloc (Nat.le_refl _) _);have hn1:Blk (W8.alloc (.cells (stk tm) 92)) W8.heap.size (stk tm) 92:=Blk.new _ _ _
  have hn2: ∀j u,(stk tm).toList[j]? =some u→(W8.alloc (.cells (stk tm) 92)).cell? ((⟨W8.heap.size,0,none⟩:Addr).add j)=some u:=fun j u hu=>by
   rw[Addr.add_mid,Nat.zero_add];exact hn1.cell j (by simpa using hu)
  have hone: ∀u∈(stk tm).toList,u.oneCell'=true:=fun u hu=>by
   simp[stk]at hu;rcases hu with rfl|rfl|rfl|rfl|rfl|rfl|rfl<;>rfl
  have hne:(Value.slice A q.length cap).ownBlock≠some (W0.heap.size+5):=fun e=>by
   obtain⟨_,cells,hcl⟩:=q_typed hq8 _ e;have e2:=hb8.symm.trans hcl;injection e2 with e2;injection e2 with _ e3;cases e3
  have hc8:=hb8.cell 0 (v:= .slice A q.length cap) rfl;obtain⟨t0,t1,t2,t3,t4,t5,t6⟩:=stk_cells hb11;obtain⟨i0,hi,hz0,hz1,hz2⟩:=info_parts info92;have HI:=Aside0.mk (And.intro hi (And.intro hz0 (And.intro hz1 hz2)));have HQ:=Aside0.mk hq1;have HQ8:=Aside0.mk hq8;have HN:=Aside0.mk hn2;have HO:=Aside0.mk hone;have HNE:=Aside0.mk hne;have HB8:=Aside0.mk hb8;have HKL:=Aside0.mk (show q.length≤400000000 by have:=H.out.k_;omega);clear hi hz0 hz1 hz2 hq1 hq8 hn1 hn2 hone hne hb8 hb11 hcap;unfold stk at HQ HN HO
  gi_wp2_with (gi_at_builtin;refine stopper ?_)
  unfold Hold;refine wpListIn_append_q _ rfl _ _ 134 rfl (W0.heap.size+4) 92 i0 _ 7 7 u134 HI.out.1 HI.out.2.1 HI.out.2.2.1 HI.out.2.2.2 rfl tD (.slice A q.length cap) q.length (flat q) (by rfl) HQ.out ⟨W8.heap.size,0,none⟩ 1 1 _ (by rfl) rfl HN.out HO.out tD (by have:=HKL.out;unfold maxLen;omega) (by have:=HKL.out;omega) (by simp;omega) ?_;intro v' W9 h1 h2 h3;obtain⟨A',cap',rfl,hcc⟩:=q_slice h1;have hb9:=(HB8.out.alloc (Obj.cells #[Value.int IntKind.i8 (tm 0),Value.int IntKind.i8 (tm 1),Value.int IntKind.i8 (tm 2),Value.int IntKind.i8 (tm 3),Value.int IntKind.i8 (tm 4),Value.int IntKind.i8 (tm 5),Value.int IntKind.i8 (tm 6)] 92)).grown h2 HNE.out;have hc9:=hb9.cell 0 (v:= .slice A q.length cap) rfl;have hf9:=hb9.free 0;have H1:=Aside0.mk h1;have H2:=Aside0.mk h2;have H3:=Aside0.mk h3;have HB9:=Aside0.mk hb9;clear h1 h2 h3 hb9 hc8 t0 t1 t2 t3 t4 t5 t6
  gi_wp2
  have hown: ∀j,(Value.slice A q.length cap).ownBlock=some j→W0.heap.size+4≤j∧(j< b9∨b9+2< j):=fun j hj=>⟨(q_typed H.out.row j hj).1,H.out.sep j hj⟩
  have hmapW: ∃es clock,W.heap[W0.heap.size+2]? =some (.map es clock):=by
   obtain⟨D,⟨es,clock,h1,_⟩,_⟩:=H.out.map_;exact⟨es,clock,h1⟩
  have keepB: ∀ {b t:Nat} {cs:Array Value},Blk W7 b cs t→b≠W0.heap.size+2→(Value.slice A q.length cap).ownBlock≠some b→b≠W0.heap.size+5→Blk (W9.setCell ⟨W0.heap.size+5,0,none⟩ (.slice A' (q.length+1) cap')) b cs t:=fun hb h1 h2 h3=>
   (((hb.grown HG8.out (by simp;omega)).alloc _).grown H2.out h2).setOther h3 _
  have hbase:=H7.out.below.size;have b8below:Below W0.heap.size W0 W8:=H7.out.below.grown HG8.out tO (fun j e=>by cases e;omega);have b9below:Below W0.heap.size W0 W9:=(b8below.alloc tO _).grown H2.out (by simp;omega) (fun j e=>by have:=hown j e;omega);have hsz9:=H2.out.size;have hfl:flat (q++ [t])=flat q++(stk tm).toList:=by rw[flat_snoc,HTM.out]
  obtain⟨hrm,_⟩:=H7.out.rm.new HDS.out HMEM.out HVT.out (Sof_none.2 HMN.out);have hcnt:=rm_count hrm;have hk:=H.out.k_;refine⟨(((((RB.refl _ _ W).below HB7.out).grown HG8.out (fun j o e ho=>?_)).alloc _).grown H2.out (fun j o e ho=>?_)).set (fun o ho=>?_),M.put t (x,ds+1),q++ [t],t::L, .slice A' (q.length+1) cap', .mk ⟨?_,?_,?_,?_,?_,?_,?_,?_,?_,?_,?_,hlt0,?_,?_,?_,?_⟩⟩
  ·cases e;obtain⟨es,clock,h1⟩:=hmapW;have e2:=ho.symm.trans h1;injection e2 with e2;subst e2;exact⟨by rintro(h|h)<;>omega,rfl,rfl⟩
  ·obtain⟨_,cells,hc⟩:=q_typed H.out.row j e;have e2:=ho.symm.trans hc;injection e2 with e2;subst e2;have:=hown j e;exact⟨by rintro(h|h)<;>omega,rfl,rfl⟩
  ·have e2:=ho.symm.trans H.out.box8;injection e2 with e2;subst e2;exact⟨by rintro(h|h)<;>omega,rfl,rfl⟩
  ·rw[List.map_append,Sof_put];show Rm _ _ _ _ _ (_++ [flL sg s x.1 x.2]) _ _;rw[HT.out];exact hrm
  ·have:=H7.out.by_.put HVS.out.1 HX.out HMS.out (by rw[HT.out];exact HMN.out);rw[HT.out]at this;exact this
  ·simp only[List.length_cons,List.length_append,List.length_nil]at hcnt ⊢;omega
  ·refine HS8.out.mapsTo ?_;rw[Below.heap_setCell _ _ _ _ tS,H2.out.block _ (by simp;omega) (fun e=>by have:=hown _ e.symm;omega),Below.heap_alloc _ _ _ tO]
  ·rw[List.length_append,hfl];refine q_move H1.out (fun j hj=>Below.heap_setCell _ _ _ _ (fun e=>?_));obtain⟨_,cells,hcl⟩:=q_typed H1.out j hj;rw[e]at hcl;have e2:=HB9.out.symm.trans hcl;injection e2 with e2;injection e2 with _ e3;cases e3
  ·intro j hj;rcases H3.out with h|⟨b,h,hle⟩
   ·exact(hown j (by rw[←h];exact hj)).2
   ·rw[h]at hj;injection hj with hj;rw[World.size_alloc]at hle;omega
  ·exact HB9.out.set 0 _
  ·exact keepB H7.out.box7 tO (fun e=>by have:=hown _ e;omega) tO
  ·exact keepB H7.out.box3 tO (fun e=>by have:=hown _ e;omega) tO
  ·exact keepB H7.out.box9 tO (fun e=>by have:=hown _ e;omega) tO
  ·exact b9below.setCell tS _
  ·simp only[World.setCell];have:=H2.out.size;simp at this ⊢;omega
  ·intro y hy;rw[Sof_put]at hy;by_cases e:y=t
   ·rw[e];exact List.mem_cons_self ..
   ·rw[Se.put_other _ _ e]at hy;exact List.mem_cons_of_mem _ (H7.out.full y hy)
  ·have:=H7.out.ql;simp only[List.length_append,List.length_cons,List.length_nil];omega
  ·exact H7.out.tr.new HT.out HMN.out HMS.out
def mark (r:Nat):Deferred:= { target:= .collected r,args:= #[] }
def Mk (B:Nat) (rs:List Nat) (W:World):Prop:=rs.Nodup∧ ∀r,r∈rs→B≤r∧W.heap[r]? =some (.deferred (some []))
theorem Mk.rx {B:Nat} {rs:List Nat} {W W':World} (h:Mk B rs W) (hx:RX W W'):Mk B rs W':=⟨h.1,fun r hr=>⟨(h.2 r hr).1,hx.same _ _ (h.2 r hr).2 rfl⟩⟩
theorem Mk.step {B T N:Nat} {rs:List Nat} {W W':World} (h:Mk B rs W) (hN: ∀r,r∈rs→r< N) (hx:Step T N W W'):Mk B rs W':=⟨h.1,fun r hr=>⟨(h.2 r hr).1,hx.same _ _ (h.2 r hr).2 (.inl (hN r hr))⟩⟩
theorem Mk.lt {B:Nat} {rs:List Nat} {W:World} (h:Mk B rs W): ∀r,r∈rs→r< W.heap.size:=fun r hr=>(Array.getElem?_eq_some_iff.1 (h.2 r hr).2).1
theorem Mk.cons {B D:Nat} {rs:List Nat} {W:World} (h:Mk B rs W) (hn: ∀r,r∈rs→r< D) (hB:B≤D) (hD:W.heap[D]? =some (.deferred (some []))):Mk B (D::rs) W:=
 ⟨List.nodup_cons.2 ⟨fun hm=>Nat.lt_irrefl _ (hn D hm),h.1⟩,fun r hr=>by
  rcases List.mem_cons.1 hr with rfl|hr
  ·exact⟨hB,hD⟩
  ·exact h.2 r hr⟩
theorem enters_of {P:Program} {f:FuncId} {fn:Func} (hf:P.funcs[f]? =some fn) (hname:(fn.name== "runtime.NumGoroutine")=false) (hb:fn.body.isSome=true) (args:Array Value) (w:World):(callFunc f args).run P w= .ok (.enter f args) w:=enters_ hf hname hb args w
noncomputable def asgC:Code:=match(findBlk 2 (codeOf Try.f84)).getD .skip with
 | .rangeFunc _ _ a _=>a
 |c=>c
set_option maxRecDepth 100000 in
set_option maxHeartbeats 8000000 in
theorem search_range (D n:Nat) (sg an:Bool) (hn:n≤7) (to_:List Int) (U:Option (List Int)) (W0 W6:World) (b9 k:Nat) (hk2:k≤400000000) (s:List Int) (M:Km) (q L:List (List Int)) (v:Value) (h:Bd n sg an to_ U W0 W6 b9 k s [] M q L v)
  (hb1:Blk W6 (b9+1) #[.int .i64 n, .bool sg, .bool an] 88) (hb2:Blk W6 (b9+2) (stk (nth s)) 92) (rs:List Nat) (hM:Mk W0.heap.size rs W6) (x0 x1 x2 x4 x5 x6 x10 x11 x12 x13 x14 x15 x16 x17 x18 x19 x20 x21 x22 x23 x24 x25 x26 x27 x28 x29 x30 x31 x32 x33 x34 x35 x36 x37 x38 x40 x41 x42 x43 x44 x45 x46 x47 x48 x49 x50 x51 x52 x53 x54 x55 x56 x57 x58 x59 x60 x61 x62 x63:Value)
  (Q:Exit→Act→World→Prop)
  (hgo: ∀(W':World) (D:Nat),Mk W0.heap.size (D::rs) W'→(∃k' M q L v,k'< k∧Hd n sg an to_ U W0 W' k' M q L v)→Q .normal { tmps:= #[x0,x1,x2,Value.pointer (some { block:=W0.heap.size,off:=0 }),x4,x5,x6,Value.pointer (some { block:=W0.heap.size+3,off:=0 }),Value.pointer (some { block:=W0.heap.size+5,off:=0 }),Value.pointer (some { block:=b9,off:=0 }),x10,x11,x12,x13,x14,x15,x16,x17,x18,x19,x20,x21,x22,x23,x24,x25,x26,x27,x28,x29,x30,x31,x32,x33,x34,x35,x36,x37,x38,Value.func (.func 113) #[] #[.pointer (some ⟨b9+1,0,none⟩), .pointer (some ⟨b9+2,0,none⟩)],x40,x41,x42,x43,x44,x45,x46,x47,x48,x49,x50,x51,x52,x53,x54,x55,x56,x57,x58,x59,x60,x61,x62,x63],defers:=(D::rs).map mark } W'):
  (Code.block 2 (.rangeFunc (.tmp 39) #[40,41] asgC (.block 3 stepC))).wpIn Fence.wide (D+4) Try.prog Q { tmps:= #[x0,x1,x2,Value.pointer (some { block:=W0.heap.size,off:=0 }),x4,x5,x6,Value.pointer (some { block:=W0.heap.size+3,off:=0 }),Value.pointer (some { block:=W0.heap.size+5,off:=0 }),Value.pointer (some { block:=b9,off:=0 }),x10,x11,x12,x13,x14,x15,x16,x17,x18,x19,x20,x21,x22,x23,x24,x25,x26,x27,x28,x29,x30,x31,x32,x33,x34,x35,x36,x37,x38,Value.func (.func 113) #[] #[.pointer (some ⟨b9+1,0,none⟩), .pointer (some ⟨b9+2,0,none⟩)],x40,x41,x42,x43,x44,x45,x46,x47,x48,x49,x50,x51,x52,x53,x54,x55,x56,x57,x58,x59,x60,x61,x62,x63],defers:=rs.map mark } W6:=by
 have hvs:Vs n s:=by
  obtain⟨ds,h1,h2⟩:=h.rm.some_;exact h.rm.v s (by rw[h1];rfl)
 have hsz:=h.size;have hlt:=h.lt;have hbelow:=h.below.size;have hMl:=hM.lt;refine wpIn_block ?_
 refine range_outer (T:=0) (keep:=keepS b9) (L:=mvL n sg an) rfl tO (gf:=113) (lb:= #[.pointer (some ⟨b9+1,0,none⟩), .pointer (some ⟨b9+2,0,none⟩)]) rfl trivial (enters_of Try.func113 tK rfl)
  (encs:=encM sg (nth s))
  (moves_it (D+4 - 1) tO (b9+1) (b9+2) n sg an (nth s) hn (fun p=>by have:=hvs.2 p;omega) W6 hb1 hb2)
  (Below.refl _ _) (fun k hk=>by rcases hk with hk|hk<;>omega) (fun _=>rfl)
  (fun pre W=>Isr n sg an to_ U W0 b9 k s pre W∧Mk W0.heap.size rs W) (fun c pre W=>False)
  (fun pre A A' hs hst=>by
   obtain⟨⟨M,q,L,v,hB⟩,hm⟩:=hs
   exact⟨⟨M,q,L,v, .mk (hB.out.step hst hbelow)⟩,hm.step hMl hst⟩)
  (fun c pre A A' hs hst=>hs)
  ⟨⟨M,q,L,v, .mk h⟩,hM⟩
  (fun x a' A=> ∃(b10 b11:Nat) (x0 x1 x2 x4 x5 x6 x12 x13 x14 x15 x16 x17 x18 x19 x20 x21 x22 x23 x24 x25 x26 x27 x28 x29 x30 x31 x32 x33 x34 x35 x36 x37 x38 x39 x40 x41 x42 x43 x44 x45 x46 x47 x48 x49 x50 x51 x52 x53 x54 x55 x56 x57 x58 x59 x60 x61 x62 x63:Value),a'= { tmps:= #[x0,x1,x2,Value.pointer (some { block:=W0.heap.size,off:=0 }),x4,x5,x6,Value.pointer (some { block:=W0.heap.size+3,off:=0 }),Value.pointer (some { block:=W0.heap.size+5,off:=0 }),Value.pointer (some { block:=b9,off:=0 }),Value.pointer (some { block:=b10,off:=0 }),Value.pointer (some { block:=b11,off:=0 }),x12,x13,x14,x15,x16,x17,x18,x19,x20,x21,x22,x23,x24,x25,x26,x27,x28,x29,x30,x31,x32,x33,x34,x35,x36,x37,x38,x39,x40,x41,x42,x43,x44,x45,x46,x47,x48,x49,x50,x51,x52,x53,x54,x55,x56,x57,x58,x59,x60,x61,x62,x63],defers:= [] } ∧Blk A b10 #[.int .i64 (x.1:Int), .int .i64 (x.2:Int)] 105∧Blk A b11 (stk (nth (flL sg s x.1 x.2))) 92∧b9+2< b11∧x∈mvL n sg an)
  (fun x a' A A' hx hbk=>by
   obtain⟨b10,b11,x0,x1,x2,x4,x5,x6,x12,x13,x14,x15,x16,x17,x18,x19,x20,x21,x22,x23,x24,x25,x26,x27,x28,x29,x30,x31,x32,x33,x34,x35,x36,x37,x38,x39,x40,x41,x42,x43,x44,x45,x46,x47,x48,x49,x50,x51,x52,x53,x54,x55,x56,x57,x58,x59,x60,x61,x62,x63,e,h1,h2,h3⟩:=hx
   exact⟨b10,b11,x0,x1,x2,x4,x5,x6,x12,x13,x14,x15,x16,x17,x18,x19,x20,x21,x22,x23,x24,x25,x26,x27,x28,x29,x30,x31,x32,x33,x34,x35,x36,x37,x38,x39,x40,x41,x42,x43,x44,x45,x46,x47,x48,x49,x50,x51,x52,x53,x54,x55,x56,x57,x58,x59,x60,x61,x62,x63,e,hbk _ _ h1 rfl,hbk _ _ h2 rfl,h3⟩) ?assign ?body ?done ?stop
 case assign=>
  intro l pre x rest W K hL hi hr hK;have hxm:x∈mvL n sg an:=by rw[hL];simp
  have hmx:=mem_mv hxm;have hst:stk (nth (flL sg s x.1 x.2))=stk (fl sg (nth s) x.1 (x.2+1)):=by rw[nth_flL sg s x.1 x.2 (by rw[hvs.1];exact hmx.2.1)]
  obtain⟨⟨M',q',L',v',hB'⟩,hM'⟩:=hi;have hszW:=hB'.out.size;obtain⟨c0,hc0⟩: ∃c0,asgC=c0:=⟨_,rfl⟩;have hc:=hc0;unfold asgC at hc;simp only[codeOf,Try.f84,findBlk,Option.or_some,Option.none_or,Option.or_none,if_true,if_false,Nat.reduceEqDiff,reduceIte,Option.getD_some,Option.getD_none]at hc;rw[hc0];clear hc0;subst hc;have HK:=Aside0.mk hK;have HST:=Aside0.mk hst;have HB:=Aside0.mk hB'.out;have HM':=Aside0.mk hM';have HXM:=Aside0.mk hxm;clear hK hr hL hgo h hb1 hb2 hM hMl hvs hst hB' hM' hxm hmx;unfold encM;obtain⟨tm,htm⟩: ∃tm,fl sg (nth s) x.1 (x.2+1)=tm:=⟨_,rfl⟩;rw[htm];rw[htm]at HST;clear htm;simp only[List.zip_toArray,List.zip_cons_cons,List.zip_nil_left,stk]
  gi_wp2
  have hb1:=(Below.refl W.heap.size W).alloc (Nat.le_refl _) (Obj.cells #[Value.int IntKind.i64 (x.1:Int),Value.int IntKind.i64 (x.2:Int)] 105);have hb2:=hb1.alloc tS (Obj.cells #[Value.int IntKind.i8 (tm 0),Value.int IntKind.i8 (tm 1),Value.int IntKind.i8 (tm 2),Value.int IntKind.i8 (tm 3),Value.int IntKind.i8 (tm 4),Value.int IntKind.i8 (tm 5),Value.int IntKind.i8 (tm 6)] 92);refine HK.out _ _ ((RB.refl _ _ W).below hb2) ⟨⟨M',q',L',v', .mk (HB.out.below_ hb2)⟩,HM'.out.rx ((RB.refl 0 (keepS b9) W).below hb2).rx⟩ ⟨W.heap.size,W.heap.size+1,_,_,_,_,_,_,_,_,_,_,_,_,_,_,_,_,_,_,_,_,_,_,_,_,_,_,_,_,_,_,_,_,_,_,_,_,_,_,_,_,_,_,_,_,_,_,_,_,_,_,_,_,_,_,_,_,_,_,rfl,(Blk.new W _ 105).alloc _,?_,by omega,HXM.out⟩;rw[HST.out];have:=Blk.new (W.alloc (Obj.cells #[Value.int IntKind.i64 (x.1:Int),Value.int IntKind.i64 (x.2:Int)] 105)) (stk tm) 92;rw[World.size_alloc]at this;exact this
 case body=>
  rintro l pre x rest a' W hL hle2 hr ⟨⟨M',q',L',v',hB'⟩,hM'⟩ ⟨b10,b11,x0,x1,x2,x4,x5,x6,x12,x13,x14,x15,x16,x17,x18,x19,x20,x21,x22,x23,x24,x25,x26,x27,x28,x29,x30,x31,x32,x33,x34,x35,x36,x37,x38,x39,x40,x41,x42,x43,x44,x45,x46,x47,x48,x49,x50,x51,x52,x53,x54,x55,x56,x57,x58,x59,x60,x61,x62,x63,rfl,h10,h11,hlt11,hxm⟩;refine wpIn_mono (body_step l _ n sg an hn to_ U W0 W b9 k b10 b11 hk2 s pre x hxm M' q' L' v' hB'.out h10 h11 hlt11 _ _ _ _ _ _ _ _ _ _ _ _ _ _ _ _ _ _ _ _ _ _ _ _ _ _ _ _ _ _ _ _ _ _ _ _ _ _ _ _ _ _ _ _ _ _ _ _ _ _ _ _ _ _ _ _ _ _) ?_;rintro e a3 W3 hp;cases e with
  |normal=>exact⟨hp.1,hp.2,hM'.rx hp.1.rx⟩
  |ret=>exact hp.2.elim
  |exit id=>exact hp.2.elim
  |goto t=>exact hp.2.elim
  |panic ch=>exact hp
  |outgrown=>exact hp
 case done=>
  rintro D' W hD ⟨⟨M',q',L',v',hB'⟩,hM'⟩ hdef;have hB:=hB'.out;have hk:=hB.k_;exact hgo W D' (hM'.cons (fun r hr=>by have:=hMl r hr;omega) tO hdef) ⟨2*(15^n - L'.length)+q'.length,M',q',L',v',hk,⟨Rm.finish hB.rm,hB.by_,rfl,hB.map_,hB.row,hB.box8,hB.box7,hB.box3,hB.below,hB.full,hB.ql,hB.tr.finish⟩⟩
 case stop=>
  rintro D' c pre x rest W hL hD hc hdef;exact hc.elim
def unloop:Code→Code
 | .loop c=>c
 |c=>c
noncomputable def roundC:Code:=unloop ((findBlk 0 (codeOf Try.f84)).getD .skip)
noncomputable def takeC:Code:=(findBlk 1 (codeOf Try.f84)).getD .skip
theorem round_eq:roundC= .seq (fstC roundC) (.block 1 (.seq (fstC takeC) (.seq (fstC (sndC takeC)) (.seq (fstC (sndC (sndC takeC))) (.seq (fstC (sndC (sndC (sndC takeC)))) (.block 2 (.rangeFunc (.tmp 39) #[40,41] asgC (.block 3 stepC)))))))):=by kernel_rfl
def Un (n:Nat) (U:Option (List Int)) (uv:Value) (W0:World):Prop:=(uv= .pointer none∧U=none)∨ ∃bu u,uv= .pointer (some ⟨bu,0,none⟩)∧U=some u∧Vs n u∧bu< W0.heap.size∧Blk W0 bu (stk (nth u)) 92
set_option maxHeartbeats 1000000 in
theorem moves_calls (n:Nat) (sg an:Bool) (m:Nat→Int) (w:World):
  Calls Try.prog 99 #[.agg #[.int .i64 n, .bool sg, .bool an], .agg (stk m)] w fun e w'=>e= .returned (.func (.func 113) #[] #[.pointer (some ⟨w.heap.size,0,none⟩), .pointer (some ⟨w.heap.size+1,0,none⟩)])∧w'=(w.alloc (.cells #[.int .i64 n, .bool sg, .bool an] 88)).alloc (.cells (stk m) 92):=by
 go_enter Try.func99,Try.ntmps99
 go_wp2;go_ret;exact⟨by simp,rfl⟩
theorem pop_run (ad:Addr) (n c:Nat) (hc:n+1≤c) (W:World):
  (Instr.slice 134 (.slice (some ad) (n+1) c) (some (.int .i64 1)) none none).run Try.prog W= .ok (.slice (if c=1 then some ad else some (ad.add 7)) n (c - 1)) W:=by
 obtain⟨i0,hi0,_,hsz,_⟩:=info_parts info92;have hs:(sizeOf 92).run Try.prog W= .ok 7 W:=by simp[sizeOf,typeInfo,hi0,hsz]
 have he:Try.prog.elem 134=92:=by kernel_rfl
 have hu:Try.prog.underlying 134=some (.slice (Try.prog.elem 134)):=by rw[he];exact u134
 rw[run_slice_l (P:=Try.prog) W 134 (some ad) (n+1) c hu .i64 1 tO tO,he,hs];have e1:(1:Int).toNat=1:=rfl;simp only[Result.andThen,sliced,e1,Option.map_some,Nat.one_mul,Nat.add_sub_cancel]
theorem row_head {W:World} {base n c:Nat} {A:Option Addr} {s:List Int} {q:List (List Int)} (h:QRow W base 92 7 (.slice A (n+1) c) (n+1) (flat (s::q))):
  ∃g o,A=some ⟨g,o,none⟩∧base≤g∧g< W.heap.size∧ ∀i,i< 7→W.cell? ⟨g,o+i,none⟩=some (.int .i8 (nth s i)):=by
 obtain⟨ad,e,hc⟩:=q_cells h tO;obtain⟨hb,cells,hh⟩:=q_typed h ad.block (by rw[e];rfl);have hlt:=q_lt h ad.block (by rw[e];rfl);rcases h.2 with⟨h0,_⟩|⟨g,off,cap,cur,hv,_⟩
 ·omega
 ·rw[e]at hv;injection hv with hv;injection hv with hv;subst hv;refine⟨g,off*7,e,hb,hlt,fun i hi=>?_⟩;rw[←add_at];apply hc;rw[flat_cons,List.getElem?_append_left (by simp[stk];omega)];simpa using stk_get (nth s) i hi
theorem row_tail {W:World} {base n c:Nat} {ad:Addr} {s:List Int} {q:List (List Int)} (h:QRow W base 92 7 (.slice (some ad) (n+1) c) (n+1) (flat (s::q))):
  QRow W base 92 7 (.slice (if c=1 then some ad else some (ad.add 7)) n (c - 1)) n (flat q):=by
 have:=q_drop (k:=1) h tO;have e:(flat (s::q)).drop (1*7)=flat q:=by rw[flat_cons,List.drop_left' (by simp[stk])]
 rw[e]at this;exact this
set_option maxRecDepth 100000 in
set_option maxHeartbeats 4000000 in
theorem search_test (D n:Nat) (sg an:Bool) (to_:List Int) (U:Option (List Int)) (uv:Value) (W0 W5:World) (k:Nat) (M:Km) (q L:List (List Int)) (v:Value) (h:Hd n sg an to_ U W0 W5 k M q L v) (ds:List Deferred) (x0 x1 x4 x5 x6 x9 x10 x11 x12 x13 x14 x15 x16 x17 x18 x19 x20 x21 x22 x23 x24 x25 x26 x27 x28 x29 x30 x31 x32 x33 x34 x35 x36 x37 x38 x39 x40 x41 x42 x43 x44 x45 x46 x47 x48 x49 x50 x51 x52 x53 x54 x55 x56 x57 x58 x59 x60 x61 x62 x63:Value)
  (K:Act→World→Prop) (Q':Exit→Act→World→Prop)
  (hX: ∀(x0 x1 x4 x5 x6 x9 x10 x11 x12 x13 x14 x15 x16 x17 x18 x19 x20 x21 x22 x23 x24 x25 x26 x27 x28 x29 x30 x31 x32 x33 x34 x35 x36 x37 x38 x39 x40 x41 x42 x43 x44 x45 x46 x47 x48 x49 x50 x51 x52 x53 x54 x55 x56 x57 x58 x59 x60 x61 x62 x63:Value),q= []→Q' (.exit 0) { tmps:= #[x0,x1,uv,Value.pointer (some { block:=W0.heap.size,off:=0 }),x4,x5,x6,Value.pointer (some { block:=W0.heap.size+3,off:=0 }),Value.pointer (some { block:=W0.heap.size+5,off:=0 }),x9,x10,x11,x12,x13,x14,x15,x16,x17,x18,x19,x20,x21,x22,x23,x24,x25,x26,x27,x28,x29,x30,x31,x32,x33,x34,x35,x36,x37,x38,x39,x40,x41,x42,x43,x44,x45,x46,x47,x48,x49,x50,x51,x52,x53,x54,x55,x56,x57,x58,x59,x60,x61,x62,x63],defers:=ds } W5)
  (hK: ∀(x0 x1 x4 x5 x6 x9 x10 x11 x12 x13 x14 x15 x16 x17 x18 x19 x20 x21 x22 x23 x24 x25 x26 x27 x28 x29 x30 x31 x32 x33 x34 x35 x36 x37 x38 x39 x40 x41 x42 x43 x44 x45 x46 x47 x48 x49 x50 x51 x52 x53 x54 x55 x56 x57 x58 x59 x60 x61 x62 x63:Value),q≠ []→K { tmps:= #[x0,x1,uv,Value.pointer (some { block:=W0.heap.size,off:=0 }),x4,x5,x6,Value.pointer (some { block:=W0.heap.size+3,off:=0 }),Value.pointer (some { block:=W0.heap.size+5,off:=0 }),x9,x10,x11,x12,x13,x14,x15,x16,x17,x18,x19,x20,x21,x22,x23,x24,x25,x26,x27,x28,x29,x30,x31,x32,x33,x34,x35,x36,x37,x38,x39,x40,x41,x42,x43,x44,x45,x46,x47,x48,x49,x50,x51,x52,x53,x54,x55,x56,x57,x58,x59,x60,x61,x62,x63],defers:=ds } W5):
  (fstC roundC).wpIn Fence.wide D Try.prog (Exit.then K Q') { tmps:= #[x0,x1,uv,Value.pointer (some { block:=W0.heap.size,off:=0 }),x4,x5,x6,Value.pointer (some { block:=W0.heap.size+3,off:=0 }),Value.pointer (some { block:=W0.heap.size+5,off:=0 }),x9,x10,x11,x12,x13,x14,x15,x16,x17,x18,x19,x20,x21,x22,x23,x24,x25,x26,x27,x28,x29,x30,x31,x32,x33,x34,x35,x36,x37,x38,x39,x40,x41,x42,x43,x44,x45,x46,x47,x48,x49,x50,x51,x52,x53,x54,x55,x56,x57,x58,x59,x60,x61,x62,x63],defers:=ds } W5:=by
 obtain⟨c0,hc0⟩: ∃c0,fstC roundC=c0:=⟨_,rfl⟩;have hc:=hc0;simp only[roundC,unloop,codeOf,Try.f84,findBlk,Option.or_some,Option.none_or,Option.or_none,if_true,if_false,Nat.reduceEqDiff,reduceIte,Option.getD_some,sndC,fstC]at hc;rw[hc0];clear hc0;subst hc;obtain⟨A,cap,hv,hcap⟩:=q_slice h.row;have hc8:=h.box8.cell 0 (v:=v) rfl;rw[hv]at hc8;have HX:=Aside0.mk hX;have HK:=Aside0.mk hK;clear hX hK h hv hcap;cases q with
 |nil=>
  simp only[List.length_nil]at hc8
  gi_wp2
  exact HX.out _ _ _ _ _ _ _ _ _ _ _ _ _ _ _ _ _ _ _ _ _ _ _ _ _ _ _ _ _ _ _ _ _ _ _ _ _ _ _ _ _ _ _ _ _ _ _ _ _ _ _ _ _ _ _ _ _ _ _ _ (by first|rfl|trivial)
 |cons s q=>
  have hl:(0:Int)< ((q.length+1:Nat):Int):=by omega
  simp only[List.length_cons]at hc8
  gi_wp2
  exact HK.out _ _ _ _ _ _ _ _ _ _ _ _ _ _ _ _ _ _ _ _ _ _ _ _ _ _ _ _ _ _ _ _ _ _ _ _ _ _ _ _ _ _ _ _ _ _ _ _ _ _ _ _ _ _ _ _ _ _ _ _ tS
set_option maxRecDepth 100000 in
set_option maxHeartbeats 8000000 in
theorem search_take (D:Nat) (hD:1≤D) (B:Code) (n:Nat) (sg an:Bool) (hn:n≤7) (to_:List Int) (U:Option (List Int)) (uv:Value) (W0 W5:World) (hU:Un n U uv W0) (k:Nat) (M:Km) (s:List Int) (q L:List (List Int)) (v:Value) (h:Hd n sg an to_ U W0 W5 k M (s::q) L v) (ds:List Deferred) (x0 x1 x4 x5 x6 x9 x10 x11 x12 x13 x14 x15 x16 x17 x18 x19 x20 x21 x22 x23 x24 x25 x26 x27 x28 x29 x30 x31 x32 x33 x34 x35 x36 x37 x38 x39 x40 x41 x42 x43 x44 x45 x46 x47 x48 x49 x50 x51 x52 x53 x54 x55 x56 x57 x58 x59 x60 x61 x62 x63:Value)
  (Q':Exit→Act→World→Prop)
  (hX: ∀(W6:World) (x0 x1 x4 x5 x6 x9 x10 x11 x12 x13 x14 x15 x16 x17 x18 x19 x20 x21 x22 x23 x24 x25 x26 x27 x28 x29 x30 x31 x32 x33 x34 x35 x36 x37 x38 x39 x40 x41 x42 x43 x44 x45 x46 x47 x48 x49 x50 x51 x52 x53 x54 x55 x56 x57 x58 x59 x60 x61 x62 x63:Value),U=some s→RX W5 W6→Kn W6 (W0.heap.size+2) L.length n M→Blk W6 (W0.heap.size+3) #[.map (some (W0.heap.size+2))] 116→Below W0.heap.size W0 W6→Q' (.exit 0) { tmps:= #[x0,x1,uv,Value.pointer (some { block:=W0.heap.size,off:=0 }),x4,x5,x6,Value.pointer (some { block:=W0.heap.size+3,off:=0 }),Value.pointer (some { block:=W0.heap.size+5,off:=0 }),x9,x10,x11,x12,x13,x14,x15,x16,x17,x18,x19,x20,x21,x22,x23,x24,x25,x26,x27,x28,x29,x30,x31,x32,x33,x34,x35,x36,x37,x38,x39,x40,x41,x42,x43,x44,x45,x46,x47,x48,x49,x50,x51,x52,x53,x54,x55,x56,x57,x58,x59,x60,x61,x62,x63],defers:=ds } W6)
  (hK: ∀(W6:World) (b9:Nat) (v1:Value) (x0 x1 x4 x5 x6 x10 x11 x12 x13 x14 x15 x16 x17 x18 x19 x20 x21 x22 x23 x24 x25 x26 x27 x28 x29 x30 x31 x32 x33 x34 x35 x36 x37 x38 x40 x41 x42 x43 x44 x45 x46 x47 x48 x49 x50 x51 x52 x53 x54 x55 x56 x57 x58 x59 x60 x61 x62 x63:Value),RX W5 W6→Bd n sg an to_ U W0 W6 b9 k s [] M q L v1→Blk W6 (b9+1) #[.int .i64 n, .bool sg, .bool an] 88→Blk W6 (b9+2) (stk (nth s)) 92→
   B.wpIn Fence.wide D Try.prog Q' { tmps:= #[x0,x1,uv,Value.pointer (some { block:=W0.heap.size,off:=0 }),x4,x5,x6,Value.pointer (some { block:=W0.heap.size+3,off:=0 }),Value.pointer (some { block:=W0.heap.size+5,off:=0 }),Value.pointer (some { block:=b9,off:=0 }),x10,x11,x12,x13,x14,x15,x16,x17,x18,x19,x20,x21,x22,x23,x24,x25,x26,x27,x28,x29,x30,x31,x32,x33,x34,x35,x36,x37,x38,Value.func (.func 113) #[] #[.pointer (some ⟨b9+1,0,none⟩), .pointer (some ⟨b9+2,0,none⟩)],x40,x41,x42,x43,x44,x45,x46,x47,x48,x49,x50,x51,x52,x53,x54,x55,x56,x57,x58,x59,x60,x61,x62,x63],defers:=ds } W6):
  (Code.seq (fstC takeC) (.seq (fstC (sndC takeC)) (.seq (fstC (sndC (sndC takeC))) (.seq (fstC (sndC (sndC (sndC takeC)))) B)))).wpIn Fence.wide D Try.prog Q' { tmps:= #[x0,x1,uv,Value.pointer (some { block:=W0.heap.size,off:=0 }),x4,x5,x6,Value.pointer (some { block:=W0.heap.size+3,off:=0 }),Value.pointer (some { block:=W0.heap.size+5,off:=0 }),x9,x10,x11,x12,x13,x14,x15,x16,x17,x18,x19,x20,x21,x22,x23,x24,x25,x26,x27,x28,x29,x30,x31,x32,x33,x34,x35,x36,x37,x38,x39,x40,x41,x42,x43,x44,x45,x46,x47,x48,x49,x50,x51,x52,x53,x54,x55,x56,x57,x58,x59,x60,x61,x62,x63],defers:=ds } W5:=by
 obtain⟨c0,hc0⟩: ∃c0,fstC takeC=c0:=⟨_,rfl⟩;obtain⟨c1,hc1⟩: ∃c1,fstC (sndC takeC)=c1:=⟨_,rfl⟩;obtain⟨c2,hc2⟩: ∃c2,fstC (sndC (sndC takeC))=c2:=⟨_,rfl⟩;obtain⟨c3,hc3⟩: ∃c3,fstC (sndC (sndC (sndC takeC)))=c3:=⟨_,rfl⟩;rw[hc0,hc1,hc2,hc3];simp only[takeC,unloop,codeOf,Try.f84,findBlk,Option.or_some,Option.none_or,Option.or_none,if_true,if_false,Nat.reduceEqDiff,reduceIte,Option.getD_some,Option.getD_none,sndC,fstC]at hc0 hc1 hc2 hc3;subst hc0;subst hc1;subst hc2;subst hc3
 have hvs:Vs n s:=by
  obtain⟨d,h1,h2⟩:=h.rd.pop.some_;exact h.rd.v s (by rw[h1];rfl)
 obtain⟨A,cap,hv,hcap⟩:=q_slice h.row;have hrow:=h.row;rw[hv]at hrow;simp only[List.length_cons]at hrow hcap;obtain⟨gq,o,hA,hbg,hgl,hcells⟩:=row_head hrow;subst hA;have hc8:=h.box8.cell 0 (v:=v) rfl;rw[hv]at hc8;simp only[List.length_cons]at hc8;have hgcell:=q_typed h.row gq (by rw[hv];rfl);have htail:=row_tail hrow;have hpop: ∀W,(Instr.slice 134 (.slice (some ⟨gq,o,none⟩) (q.length+1) cap) (some (.int .i64 1)) none none).run Try.prog W= .ok (.slice (if cap=1 then some (⟨gq,o,none⟩:Addr)else some ((⟨gq,o,none⟩:Addr).add 7)) q.length (cap - 1)) W:=fun W=>pop_run ⟨gq,o,none⟩ q.length cap tO W;obtain⟨sm,hsm⟩: ∃sm,nth s=sm:=⟨_,rfl⟩;rw[hsm]at hcells;have z0:=hcells 0 tO;rw[Nat.add_zero]at z0;have z1:=hcells 1 tO;have z2:=hcells 2 tO;have z3:=hcells 3 tO;have z4:=hcells 4 tO;have z5:=hcells 5 tO;have z6:=hcells 6 tO;have hf8:=h.box8.free 0;have hl8:=h.box8.lt;have hlb:=h.below.size;have k0:=h.box3.cell 0 (v:= .int .i64 n) rfl;have k1:=h.box3.cell 1 (v:= .bool sg) rfl;have k2:=h.box3.cell 2 (v:= .bool an) rfl;generalize hv1:(if cap=1 then some (⟨gq,o,none⟩:Addr)else some ((⟨gq,o,none⟩:Addr).add 7))=A1 at hpop htail;have hown1:(Value.slice A1 q.length (cap - 1)).ownBlock=some gq:=by rw[←hv1];split<;>rfl
 have HSM:=Aside0.mk hsm;have HTL:=Aside0.mk htail;have HH:=Aside0.mk h;have HV:=Aside0.mk hv;have HG:=Aside0.mk hgcell;have HO:=Aside0.mk hown1;have HK:=Aside0.mk hK;have HX:=Aside0.mk hX;have HU:=Aside0.mk hU;have HVS:=Aside0.mk hvs;have hlen:(0:Int)< ((q.length+1:Nat):Int):=by omega
 clear hsm hrow htail hcells hv1 h hv hgcell hown1 hK hX hU hvs hcap
 gi_wp2
 obtain⟨Wa,hWa⟩: ∃Wa,(W5.setCell ⟨W0.heap.size+5,0,none⟩ (Value.slice A1 q.length (cap - 1))).alloc (Obj.cells (stk sm) 92)=Wa:=⟨_,rfl⟩;have hWa':(W5.setCell ⟨W0.heap.size+5,0,none⟩ (Value.slice A1 q.length (cap - 1))).alloc (Obj.cells #[Value.int IntKind.i8 (sm 0),Value.int IntKind.i8 (sm 1),Value.int IntKind.i8 (sm 2),Value.int IntKind.i8 (sm 3),Value.int IntKind.i8 (sm 4),Value.int IntKind.i8 (sm 5),Value.int IntKind.i8 (sm 6)] 92)=Wa:=hWa;rw[hWa'];have hsa:Wa.heap.size=W5.heap.size+1:=by rw[←hWa];simp[World.setCell]
 have hblk: ∀ {j t:Nat} {cs:Array Value},j≠W0.heap.size+5→Blk W5 j cs t→Blk Wa j cs t:=fun hj hb=>by
  rw[←hWa];exact(hb.setOther (by simpa using hj) _).alloc _
 have hnew:Blk Wa W5.heap.size (stk sm) 92:=by
  rw[←hWa];have:=Blk.new (W5.setCell ⟨W0.heap.size+5,0,none⟩ (Value.slice A1 q.length (cap - 1))) (stk sm) 92;simpa [World.setCell]using this
 have hb8:Blk Wa (W0.heap.size+5) #[.slice A1 q.length (cap - 1)] 134:=by
  rw[←hWa];exact(HH.out.box8.set 0 _).alloc _
 have hrxa:RX W5 Wa:=by
  rw[←hWa];exact((RX.refl _).set (fun o ho=>by have e:=ho.symm.trans HH.out.box8;injection e with e;rw[e];rfl)).below ((Below.refl _ _).alloc (Nat.le_refl _) _)
 have hbela:Below W0.heap.size W0 Wa:=by
  rw[←hWa];exact(HH.out.below.setCell tS _).alloc (by simp[World.setCell];omega) _
 have hmap:Kn Wa (W0.heap.size+2) L.length n M:=HH.out.map_.mapsTo (by
  rw[←hWa,Below.heap_alloc _ _ _ (by simp[World.setCell];have:=HH.out.map_.lt;omega),Below.heap_setCell _ _ _ _ tS])
 have hgne:gq≠W0.heap.size+5:=fun e=>by
  obtain⟨_,cells,hcl⟩:=HG.out;have e2:=HH.out.box8.symm.trans (e ▸ hcl);injection e2 with e2;injection e2 with _ e3;cases e3
 have hrowa:QRow Wa (W0.heap.size+4) 92 7 (.slice A1 q.length (cap - 1)) q.length (flat q):=q_move HTL.out (fun j hj=>by
  rw[HO.out]at hj;injection hj with hj;subst hj
  rw[←hWa,Below.heap_alloc _ _ _ (by simp[World.setCell];omega),Below.heap_setCell _ _ _ _ (by simpa using hgne)])
 have HBN:=Aside0.mk hnew;have HB8:=Aside0.mk hb8;have HRX:=Aside0.mk hrxa;have HBL:=Aside0.mk hbela;have HMP:=Aside0.mk hmap;have HRW:=Aside0.mk hrowa;have HSA:=Aside0.mk hsa;have HGN:=Aside0.mk hgne;have HB7:=Aside0.mk (hblk tO HH.out.box7);have HB3:=Aside0.mk (hblk tO HH.out.box3);clear z0 z1 z2 z3 z4 z5 z6 k0 k1 k2 hc8 hf8 hpop hWa hWa' hnew hb8 hrxa hbela hmap hrowa hsa hgne hblk;obtain⟨z0,z1,z2,z3,z4,z5,z6⟩:=stk_cells HBN.out;have k0:=HB3.out.cell 0 (v:= .int .i64 n) rfl;have k1:=HB3.out.cell 1 (v:= .bool sg) rfl;have k2:=HB3.out.cell 2 (v:= .bool an) rfl;rcases HU.out with⟨hu,hu2⟩|⟨bu,u,hu,hu2,hvu,hbu,hbk⟩
 ·subst hu;have HU2:=Aside0.mk hu2;clear hu2
  gi_quiet (fail)
  clear HU HX
  gi_wp2
  refine⟨trivial,?_⟩
  gi_at_call 99
  refine CallsIn.mono (callsIn_wide.2 (moves_calls n sg an sm _)) ?_;rintro e w' ⟨rfl,rfl⟩
  gi_wp2
  obtain⟨W6,hW6⟩: ∃W6,((Wa.drewN nq).alloc (.cells #[.int .i64 n, .bool sg, .bool an] 88)).alloc (.cells (stk sm) 92)=W6:=⟨_,rfl⟩;rw[hW6,HSA.out];have h0:Below Wa.heap.size Wa (Wa.drewN nq):=pw_below_drewN (Below.refl _ _) _;have hB6:Below Wa.heap.size Wa W6:=by rw[←hW6];exact(h0.alloc tS _).alloc tS _
  have hs6:W6.heap.size=W5.heap.size+3:=by rw[←hW6];simp[HSA.out]
  have hbx:Blk W6 (W5.heap.size+1) #[.int .i64 n, .bool sg, .bool an] 88:=by
   rw[←hW6];have:=(Blk.new (Wa.drewN nq) #[.int .i64 (n:Int), .bool sg, .bool an] 88).alloc (.cells (stk sm) 92);simpa [HSA.out]using this
  have hbs:Blk W6 (W5.heap.size+2) (stk sm) 92:=by
   rw[←hW6];have:=Blk.new ((Wa.drewN nq).alloc (.cells #[.int .i64 n, .bool sg, .bool an] 88)) (stk sm) 92;simpa [HSA.out]using this
  have hk:=HH.out.k_;simp only[List.length_cons]at hk;refine HK.out W6 W5.heap.size (.slice A1 q.length (cap - 1)) _ _ _ _ _ _ _ _ _ _ _ _ _ _ _ _ _ _ _ _ _ _ _ _ _ _ _ _ _ _ _ _ _ _ _ _ _ _ _ _ _ _ _ _ _ _ _ _ _ _ _ _ _ _ _ _ _ _ (HRX.out.below hB6) ⟨HH.out.rd.pop,HH.out.by_,by omega,HMP.out.below hB6,row_below HRW.out hB6,fun j hj=>?_,blk_below HB8.out hB6,blk_below HB7.out hB6,blk_below HB3.out hB6,by rw[HSM.out];exact blk_below HBN.out hB6,HBL.out.trans (hB6.mono HBL.out.size),by omega,by omega,HH.out.full,by have h9:=HH.out.ql;simp only[List.length_cons]at h9;omega,HH.out.tr.pop (by rw[HU2.out];simp)⟩ hbx (by rw[HSM.out];exact hbs);rw[HO.out]at hj;injection hj with hj;omega
 ·subst hu;obtain⟨um,hum⟩: ∃um,nth u=um:=⟨_,rfl⟩;have heq:=fun W=>stk_eq HVS.out hvu hn W;have hbk2:=hbk.below HBL.out hbu;rw[HSM.out,hum]at heq;rw[hum]at hbk2;unfold stk at heq;obtain⟨w0,w1,w2,w3,w4,w5,w6⟩:=stk_cells hbk2;have HU2:=Aside0.mk hu2;by_cases hsu:s=u
  ·rw[decide_eq_true hsu]at heq;have HSU:=Aside0.mk hsu;clear hu2 hbk hbk2 hvu hum hsu
   gi_quiet (fail)
   gi_wp2
   exact HX.out _ _ _ _ _ _ _ _ _ _ _ _ _ _ _ _ _ _ _ _ _ _ _ _ _ _ _ _ _ _ _ _ _ _ _ _ _ _ _ _ _ _ _ _ _ _ _ _ _ _ _ _ _ _ _ _ _ _ _ _ _ (by rw[HU2.out,HSU.out]) (HRX.out.below (pw_below_drewN (Below.refl _ _) _)) (HMP.out.below (pw_below_drewN (Below.refl _ _) _)) (blk_below HB7.out (pw_below_drewN (Below.refl _ _) _)) (pw_below_drewN HBL.out _)
  ·rw[decide_eq_false hsu]at heq;have HSU:=Aside0.mk hsu;clear hu2 hbk hbk2 hvu hum hsu
   gi_quiet (fail)
   clear HU HX
   gi_wp2
   refine⟨trivial,?_⟩
   gi_at_call 99
   refine CallsIn.mono (callsIn_wide.2 (moves_calls n sg an sm _)) ?_;rintro e w' ⟨rfl,rfl⟩
   gi_wp2
   obtain⟨W6,hW6⟩: ∃W6,((Wa.drewN nq).alloc (.cells #[.int .i64 n, .bool sg, .bool an] 88)).alloc (.cells (stk sm) 92)=W6:=⟨_,rfl⟩;rw[hW6,HSA.out];have h0:Below Wa.heap.size Wa (Wa.drewN nq):=pw_below_drewN (Below.refl _ _) _;have hB6:Below Wa.heap.size Wa W6:=by rw[←hW6];exact(h0.alloc tS _).alloc tS _
   have hs6:W6.heap.size=W5.heap.size+3:=by rw[←hW6];simp[HSA.out]
   have hbx:Blk W6 (W5.heap.size+1) #[.int .i64 n, .bool sg, .bool an] 88:=by
    rw[←hW6];have:=(Blk.new (Wa.drewN nq) #[.int .i64 (n:Int), .bool sg, .bool an] 88).alloc (.cells (stk sm) 92);simpa [HSA.out]using this
   have hbs:Blk W6 (W5.heap.size+2) (stk sm) 92:=by
    rw[←hW6];have:=Blk.new ((Wa.drewN nq).alloc (.cells #[.int .i64 n, .bool sg, .bool an] 88)) (stk sm) 92;simpa [HSA.out]using this
   have hk:=HH.out.k_;simp only[List.length_cons]at hk;refine HK.out W6 W5.heap.size (.slice A1 q.length (cap - 1)) _ _ _ _ _ _ _ _ _ _ _ _ _ _ _ _ _ _ _ _ _ _ _ _ _ _ _ _ _ _ _ _ _ _ _ _ _ _ _ _ _ _ _ _ _ _ _ _ _ _ _ _ _ _ _ _ _ _ (HRX.out.below hB6) ⟨HH.out.rd.pop,HH.out.by_,by omega,HMP.out.below hB6,row_below HRW.out hB6,fun j hj=>?_,blk_below HB8.out hB6,blk_below HB7.out hB6,blk_below HB3.out hB6,by rw[HSM.out];exact blk_below HBN.out hB6,HBL.out.trans (hB6.mono HBL.out.size),by omega,by omega,HH.out.full,by have h9:=HH.out.ql;simp only[List.length_cons]at h9;omega,HH.out.tr.pop (by rw[HU2.out];intro e;cases e;exact HSU.out rfl)⟩ hbx (by rw[HSM.out];exact hbs);rw[HO.out]at hj;injection hj with hj;omega
structure FinS (n:Nat) (sg an:Bool) (to_:List Int) (U:Option (List Int)) (M:Km) (L:List (List Int)):Prop where
 by_:ByOk n sg an to_ M
 exact: ∀x e,Sof M x=some e→Exact (nextK n sg an) to_ x e
 found: ∀x e,Sof M x=some e→least (nextK n sg an) to_ x (15^n+1)=e
 tr: ∃q,bfs n sg an U (15^n) (ini to_)=(M,q,L)
 valid: ∀x,(M x).isSome=true→Vs n x
 nodup:L.Nodup
 all: ∀x,x∈L↔(M x).isSome=true
 done:(∀x,M x=none→ ∀j,x∉ball (nextK n sg an) to_ j)∨ ∃u,U=some u∧(M u).isSome=true
def Fin (n:Nat) (sg an:Bool) (to_:List Int) (U:Option (List Int)) (W0 W:World):Prop:=
 ∃M k L,FinS n sg an to_ U M L∧Kn W (W0.heap.size+2) k n M∧Blk W (W0.heap.size+3) #[.map (some (W0.heap.size+2))] 116∧Below W0.heap.size W0 W
theorem sof_some {M:Km} {x:List Int} :(Sof M x).isSome=(M x).isSome:=by unfold Sof;cases M x<;>rfl
theorem Hd.fin {n:Nat} {sg an:Bool} {to_:List Int} {U:Option (List Int)} {W0 wr:World} {k:Nat} {M:Km} {q L:List (List Int)} {v:Value} (h:Hd n sg an to_ U W0 wr k M q L v) (he:q= []∨ ∃s r,q=s::r∧U=some s):FinS n sg an to_ U M L:=by
 have htr: ∃q,bfs n sg an U (15^n) (ini to_)=(M,q,L):=by
  obtain⟨j,h1,h2⟩:=h.tr;have h3:=rd_count h.rd;refine⟨q,?_⟩;have h4:=h2 (15^n - j);rw[show 15^n - j+j=15^n by omega]at h4;rw[h4];apply bfs_stop;rcases he with rfl|⟨s,r,rfl,hU⟩
  ·rfl
  ·simp[stops,hU]
 obtain⟨A,B,d,hq,hs⟩:=h.rd.st;refine⟨h.by_,hs.exact,fun x e hx=>h.rd.found hx (rd_count h.rd),htr,fun x hx=>h.rd.v x (by rw[sof_some];exact hx),h.rd.nodup,fun x=>⟨fun hx=>by rw[←sof_some];exact h.rd.seen x hx,fun hx=>h.full x (by rw[sof_some];exact hx)⟩,?_⟩;rcases he with rfl|⟨s,r,rfl,hU⟩
 ·left
  have:A= []∧B= []:=by simpa using hq.symm
  obtain⟨rfl,rfl⟩:=this;intro x hx j;exact hs.never (Sof_none.2 hx) j
 ·right
  refine⟨s,hU,?_⟩;obtain⟨d,h1,_⟩:=h.rd.pop.some_;rw[←sof_some,h1];rfl
set_option maxRecDepth 100000 in
set_option maxHeartbeats 8000000 in
theorem search_loop (n:Nat) (sg an:Bool) (hn:n≤7) (to_:List Int) (U:Option (List Int)) (uv:Value) (W0 W:World) (hU:Un n U uv W0) (hH: ∃k M q L v,Hd n sg an to_ U W0 W k M q L v) (x0 x1 x4 x5 x6 x9 x10 x11 x12 x13 x14 x15 x16 x17 x18 x19 x20 x21 x22 x23 x24 x25 x26 x27 x28 x29 x30 x31 x32 x33 x34 x35 x36 x37 x38 x39 x40 x41 x42 x43 x44 x45 x46 x47 x48 x49 x50 x51 x52 x53 x54 x55 x56 x57 x58 x59 x60 x61 x62 x63:Value) (Q:Exit→Act→World→Prop)
  (hend: ∀(W':World) (rs:List Nat) (x0 x1 x4 x5 x6 x9 x10 x11 x12 x13 x14 x15 x16 x17 x18 x19 x20 x21 x22 x23 x24 x25 x26 x27 x28 x29 x30 x31 x32 x33 x34 x35 x36 x37 x38 x39 x40 x41 x42 x43 x44 x45 x46 x47 x48 x49 x50 x51 x52 x53 x54 x55 x56 x57 x58 x59 x60 x61 x62 x63:Value),Mk W0.heap.size rs W'→Fin n sg an to_ U W0 W'→Q .normal { tmps:= #[x0,x1,uv,Value.pointer (some { block:=W0.heap.size,off:=0 }),x4,x5,x6,Value.pointer (some { block:=W0.heap.size+3,off:=0 }),Value.pointer (some { block:=W0.heap.size+5,off:=0 }),x9,x10,x11,x12,x13,x14,x15,x16,x17,x18,x19,x20,x21,x22,x23,x24,x25,x26,x27,x28,x29,x30,x31,x32,x33,x34,x35,x36,x37,x38,x39,x40,x41,x42,x43,x44,x45,x46,x47,x48,x49,x50,x51,x52,x53,x54,x55,x56,x57,x58,x59,x60,x61,x62,x63],defers:=rs.map mark } W'):
  (Code.block 0 (.loop roundC)).wpIn Fence.wide 8 Try.prog Q { tmps:= #[x0,x1,uv,Value.pointer (some { block:=W0.heap.size,off:=0 }),x4,x5,x6,Value.pointer (some { block:=W0.heap.size+3,off:=0 }),Value.pointer (some { block:=W0.heap.size+5,off:=0 }),x9,x10,x11,x12,x13,x14,x15,x16,x17,x18,x19,x20,x21,x22,x23,x24,x25,x26,x27,x28,x29,x30,x31,x32,x33,x34,x35,x36,x37,x38,x39,x40,x41,x42,x43,x44,x45,x46,x47,x48,x49,x50,x51,x52,x53,x54,x55,x56,x57,x58,x59,x60,x61,x62,x63],defers:= [] } W:=by
 refine wpIn_block ?_
 refine wpIn_loop (fun a w=> ∃(rs:List Nat) (x0 x1 x4 x5 x6 x9 x10 x11 x12 x13 x14 x15 x16 x17 x18 x19 x20 x21 x22 x23 x24 x25 x26 x27 x28 x29 x30 x31 x32 x33 x34 x35 x36 x37 x38 x39 x40 x41 x42 x43 x44 x45 x46 x47 x48 x49 x50 x51 x52 x53 x54 x55 x56 x57 x58 x59 x60 x61 x62 x63:Value),a= { tmps:= #[x0,x1,uv,Value.pointer (some { block:=W0.heap.size,off:=0 }),x4,x5,x6,Value.pointer (some { block:=W0.heap.size+3,off:=0 }),Value.pointer (some { block:=W0.heap.size+5,off:=0 }),x9,x10,x11,x12,x13,x14,x15,x16,x17,x18,x19,x20,x21,x22,x23,x24,x25,x26,x27,x28,x29,x30,x31,x32,x33,x34,x35,x36,x37,x38,x39,x40,x41,x42,x43,x44,x45,x46,x47,x48,x49,x50,x51,x52,x53,x54,x55,x56,x57,x58,x59,x60,x61,x62,x63],defers:=rs.map mark } ∧(∃k M q L v,Hd n sg an to_ U W0 w k M q L v)∧Mk W0.heap.size rs w)
  (fun _ w=>lst (fun k=> ∃M q L v,Hd n sg an to_ U W0 w k M q L v)) ⟨[],_,_,_,_,_,_,_,_,_,_,_,_,_,_,_,_,_,_,_,_,_,_,_,_,_,_,_,_,_,_,_,_,_,_,_,_,_,_,_,_,_,_,_,_,_,_,_,_,_,_,_,_,_,_,_,_,_,_,_,_,rfl,hH,⟨List.nodup_nil,fun r hr=>by cases hr⟩⟩ ?_
 rintro a w ⟨rs,x0,x1,x4,x5,x6,x9,x10,x11,x12,x13,x14,x15,x16,x17,x18,x19,x20,x21,x22,x23,x24,x25,x26,x27,x28,x29,x30,x31,x32,x33,x34,x35,x36,x37,x38,x39,x40,x41,x42,x43,x44,x45,x46,x47,x48,x49,x50,x51,x52,x53,x54,x55,x56,x57,x58,x59,x60,x61,x62,x63,rfl,⟨k0,M0,q0,L0,v0,h0⟩,hM⟩;obtain⟨k,hk⟩: ∃k,k=lst (fun k=> ∃M q L v,Hd n sg an to_ U W0 w k M q L v):=⟨_,rfl⟩;have hsp:=lst_spec (R:=fun k=> ∃M q L v,Hd n sg an to_ U W0 w k M q L v) ⟨k0,M0,q0,L0,v0,h0⟩;rw[←hk]at hsp;obtain⟨M,q,L,v,h⟩:=hsp;clear h0 M0 q0 L0 v0 k0
 have hkb:k≤400000000:=by
  have h1:=h.k_;have h2:=p15 hn;have h3:=h.ql;have h4:=rd_count h.rd;omega
 rw[round_eq];refine wpIn_seq_k (fun K hK=>?_);refine search_test 8 n sg an to_ U uv W0 w k M q L v h (rs.map mark) _ _ _ _ _ _ _ _ _ _ _ _ _ _ _ _ _ _ _ _ _ _ _ _ _ _ _ _ _ _ _ _ _ _ _ _ _ _ _ _ _ _ _ _ _ _ _ _ _ _ _ _ _ _ _ _ _ _ _ _ K _ ?_ ?_
 ·intro x0 x1 x4 x5 x6 x9 x10 x11 x12 x13 x14 x15 x16 x17 x18 x19 x20 x21 x22 x23 x24 x25 x26 x27 x28 x29 x30 x31 x32 x33 x34 x35 x36 x37 x38 x39 x40 x41 x42 x43 x44 x45 x46 x47 x48 x49 x50 x51 x52 x53 x54 x55 x56 x57 x58 x59 x60 x61 x62 x63 hq;exact hend w rs _ _ _ _ _ _ _ _ _ _ _ _ _ _ _ _ _ _ _ _ _ _ _ _ _ _ _ _ _ _ _ _ _ _ _ _ _ _ _ _ _ _ _ _ _ _ _ _ _ _ _ _ _ _ _ _ _ _ _ _ hM ⟨M,L.length,L,h.fin (.inl hq),h.map_,h.box7,h.below⟩
 ·intro x0 x1 x4 x5 x6 x9 x10 x11 x12 x13 x14 x15 x16 x17 x18 x19 x20 x21 x22 x23 x24 x25 x26 x27 x28 x29 x30 x31 x32 x33 x34 x35 x36 x37 x38 x39 x40 x41 x42 x43 x44 x45 x46 x47 x48 x49 x50 x51 x52 x53 x54 x55 x56 x57 x58 x59 x60 x61 x62 x63 hq;refine hK _ _ ?_;clear hK;cases q with
  |nil=>exact absurd rfl hq
  | cons s q=>
   refine wpIn_block ?_;refine search_take 8 tO _ n sg an hn to_ U uv W0 w hU k M s q L v h (rs.map mark) _ _ _ _ _ _ _ _ _ _ _ _ _ _ _ _ _ _ _ _ _ _ _ _ _ _ _ _ _ _ _ _ _ _ _ _ _ _ _ _ _ _ _ _ _ _ _ _ _ _ _ _ _ _ _ _ _ _ _ _ _ ?_ ?_
   ·intro W6 x0 x1 x4 x5 x6 x9 x10 x11 x12 x13 x14 x15 x16 x17 x18 x19 x20 x21 x22 x23 x24 x25 x26 x27 x28 x29 x30 x31 x32 x33 x34 x35 x36 x37 x38 x39 x40 x41 x42 x43 x44 x45 x46 x47 x48 x49 x50 x51 x52 x53 x54 x55 x56 x57 x58 x59 x60 x61 x62 x63 hs hrx hkn hb7 hbel;exact hend W6 rs _ _ _ _ _ _ _ _ _ _ _ _ _ _ _ _ _ _ _ _ _ _ _ _ _ _ _ _ _ _ _ _ _ _ _ _ _ _ _ _ _ _ _ _ _ _ _ _ _ _ _ _ _ _ _ _ _ _ _ _ (hM.rx hrx) ⟨M,L.length,L,h.fin (.inr ⟨s,q,rfl,hs⟩),hkn,hb7,hbel⟩
   ·intro W6 b9 v1 x0 x1 x4 x5 x6 x10 x11 x12 x13 x14 x15 x16 x17 x18 x19 x20 x21 x22 x23 x24 x25 x26 x27 x28 x29 x30 x31 x32 x33 x34 x35 x36 x37 x38 x40 x41 x42 x43 x44 x45 x46 x47 x48 x49 x50 x51 x52 x53 x54 x55 x56 x57 x58 x59 x60 x61 x62 x63 hrx hBd hb1 hb2;refine search_range 4 n sg an hn to_ U W0 W6 b9 k hkb s M q L v1 hBd hb1 hb2 rs (hM.rx hrx) _ _ _ _ _ _ _ _ _ _ _ _ _ _ _ _ _ _ _ _ _ _ _ _ _ _ _ _ _ _ _ _ _ _ _ _ _ _ _ _ _ _ _ _ _ _ _ _ _ _ _ _ _ _ _ _ _ _ _ _ ?_;rintro W' D' hm ⟨k',M',q',L',v',hlt,hH'⟩;refine⟨⟨D'::rs,_,_,_,_,_,_,_,_,_,_,_,_,_,_,_,_,_,_,_,_,_,_,_,_,_,_,_,_,_,_,_,_,_,_,_,_,_,_,_,_,_,_,_,_,_,_,_,_,_,_,_,_,_,_,_,_,_,_,_,_,rfl,⟨k',M',q',L',v',hH'⟩,hm⟩,?_⟩;have h1:=lst_le (R:=fun k=> ∃M q L v,Hd n sg an to_ U W0 W' k M q L v) (k:=k') ⟨M',q',L',v',hH'⟩;rw[←hk];exact Nat.lt_of_le_of_lt h1 hlt
def unscope:Code→Code
 | .scope c=>c
 |c=>c
noncomputable def bodyC:Code:=unscope (sndC (codeOf Try.f84))
theorem all_eq:codeOf Try.f84= .seq (fstC (codeOf Try.f84)) (.scope (.seq (fstC bodyC) (.seq (fstC (dropC 1 bodyC)) (.seq (.label 0) (.seq (.block 0 (.loop roundC)) (dropC 4 bodyC)))))):=by kernel_rfl
theorem Kn.put_size {W W':World} {b k n:Nat} {M:Km} (h:Kn W b k n M) {l:List Int} (hl:Vs n l) (e:St3) (hk:k< 1000000000)
  (hrun:(Instr.mapUpdate 116 (.map (some b)) (.agg (stk (nth l))) (stepE e)).run Try.prog W= .ok () W'):W'.heap.size=W.heap.size:=by
 obtain⟨D,⟨es,clock,hb,F,hs,rfl⟩,h2,h3,h4⟩:=h;obtain⟨es',clock',hrun2,F',hput,_⟩:=Maps.fit_store (R':=stepR) law92 u116 hb F (Nat.lt_of_le_of_lt hs (show k< maxLen by unfold maxLen;omega)) (fun _ _ _ _ hz=>hz) (key_KL hl) (stepR_E e);have:=hrun.symm.trans hrun2;rw[(Result.ok.inj this).2];simp[Go.ChangeMaps.setBlock]
theorem leaves_marks2 {R:Ending→World→Prop} {f:Func} {tmps:Array Value} (B N:Nat): ∀(rs:List Nat) (W:World),Mk B rs W→B≤W.heap.size→(∀W',Below B W W'→(∀j:Nat,(∀t:Option (List Deferred),W.heap[j]? ≠some (Obj.deferred t))→W'.heap[j]? =W.heap[j]?)→LeavesIn Fence.wide N Try.prog f tmps R [] .returning W')→LeavesInM Fence.wide N Try.prog f tmps R (rs.map mark) .returning W
 | [],W,_,_,h=>h W (Below.refl _ _) (fun _ _=>rfl)
 |r::rs,W,hM,hB,h=>by
  obtain⟨hnd,hall⟩:=hM;obtain⟨hr,hrs⟩:=List.nodup_cons.1 hnd;have h1:=hall r tS;refine⟨by simp, .inl ⟨r,_,rfl,run_takeDeferred h1.2,?_⟩⟩;have hbel:Below B W (W.putObj r (.deferred none)):=⟨rfl,rfl,rfl,by simp,fun k hk=>World.putObj_heap_other tO⟩;have hoth: ∀j,(∀t:Option (List Deferred),W.heap[j]? ≠some (Obj.deferred t))→(W.putObj r (.deferred none)).heap[j]? =W.heap[j]? :=fun j hj=>World.putObj_heap_other (fun e=>by first|exact hj _ (e ▸ h1.2)|exact hj _ (e.symm ▸ h1.2));refine leaves_marks2 B N rs _ ⟨hrs,fun x hx=>?_⟩ (by simpa using hB) (fun W' hW' ho=>h W' (hbel.trans hW') (fun j hj=>(ho j (fun t=>by rw[hoth j hj];exact hj t)).trans (hoth j hj)));have h2:=hall x (List.mem_cons_of_mem _ hx);exact⟨h2.1,(World.putObj_heap_other (fun e=>hr (by first|(rw[←e];exact hx)|(rw[e];exact hx)))).trans h2.2⟩
set_option maxRecDepth 100000 in
set_option maxHeartbeats 4000000 in
theorem search_out (n:Nat) (sg an:Bool) (to_:List Int) (U:Option (List Int)) (uv:Value) (W0 W:World) (rs:List Nat) (hM:Mk W0.heap.size rs W) (h:Fin n sg an to_ U W0 W) (x0 x1 x4 x5 x6 x9 x10 x11 x12 x13 x14 x15 x16 x17 x18 x19 x20 x21 x22 x23 x24 x25 x26 x27 x28 x29 x30 x31 x32 x33 x34 x35 x36 x37 x38 x39 x40 x41 x42 x43 x44 x45 x46 x47 x48 x49 x50 x51 x52 x53 x54 x55 x56 x57 x58 x59 x60 x61 x62 x63:Value) (R:Ending→World→Prop)
  (hR: ∀W',Fin n sg an to_ U W0 W'→R (.returned (.map (some (W0.heap.size+2)))) W'):
  (dropC 4 bodyC).wpIn Fence.wide 8 Try.prog (bodyPostM Fence.wide 8 Try.prog Try.f84 R) { tmps:= #[x0,x1,uv,Value.pointer (some { block:=W0.heap.size,off:=0 }),x4,x5,x6,Value.pointer (some { block:=W0.heap.size+3,off:=0 }),Value.pointer (some { block:=W0.heap.size+5,off:=0 }),x9,x10,x11,x12,x13,x14,x15,x16,x17,x18,x19,x20,x21,x22,x23,x24,x25,x26,x27,x28,x29,x30,x31,x32,x33,x34,x35,x36,x37,x38,x39,x40,x41,x42,x43,x44,x45,x46,x47,x48,x49,x50,x51,x52,x53,x54,x55,x56,x57,x58,x59,x60,x61,x62,x63],defers:=rs.map mark } W:=by
 obtain⟨c0,hc0⟩: ∃c0,dropC 4 bodyC=c0:=⟨_,rfl⟩;rw[hc0];simp only[bodyC,unscope,dropC,codeOf,Try.f84,sndC,fstC]at hc0;subst hc0;obtain⟨M,k,L,hF,hk,h7,hb⟩:=h;have hc7:=h7.cell 0 (v:= .map (some (W0.heap.size+2))) rfl;have HM:=Aside0.mk hM;have HR:=Aside0.mk hR;have HB:=Aside0.mk hb;have HF:=Aside0.mk hF;have HKN:=Aside0.mk hk;have H7:=Aside0.mk h7;clear hM hR hb hF hk h7
 gi_wp2
 have hlt:=H7.out.lt;refine leaves_marks2 W0.heap.size 8 rs W HM.out tO (fun W' hW' ho=>?_);refine⟨_,results_tmp rfl _ _ _,?_⟩;exact HR.out W' ⟨M,k,L,HF.out,HKN.out.mapsTo (ho _ (fun t e=>by obtain⟨D,⟨es,clock,h1,_⟩,_⟩:=HKN.out;rw[h1]at e;cases e)),(ho _ (fun t e=>by have e2:=H7.out.symm.trans e;cases e2)).trans H7.out,HB.out.trans hW'⟩
set_option maxRecDepth 100000 in
set_option maxHeartbeats 8000000 in
theorem search_calls (n:Nat) (sg an:Bool) (hn:n≤7) (to_:List Int) (hto:Vs n to_) (U:Option (List Int)) (uv:Value) (W0:World) (hU:Un n U uv W0):
  Calls Try.prog 84 #[.agg #[.int .i64 n, .bool sg, .bool an], .agg (stk (nth to_)),uv] W0 fun e w'=>e= .returned (.map (some (W0.heap.size+2)))∧Fin n sg an to_ U W0 w':=by
 refine(callsIn_wide (n:=8)).1 ?_;refine callsIn_of_wp_marks Try.func84 rfl trivial ?_ rfl;obtain⟨tm,htm⟩: ∃tm,nth to_=tm:=⟨_,rfl⟩;simp only[Try.ntmps84,List.size_toArray,List.length_cons,List.length_nil,Nat.reduceAdd,Nat.reduceSub,Array.replicate_succ,Array.replicate_zero,List.push_toArray,List.append_toArray,List.nil_append,List.cons_append,stk]
 change (codeOf Try.f84).wpIn _ _ _ _ _ _
 rw[all_eq,htm];obtain⟨Wa,hWa⟩: ∃Wa,(W0.alloc (.cells #[.int .i64 n, .bool sg, .bool an] 88)).alloc (.cells (stk tm) 92)=Wa:=⟨_,rfl⟩;have hsa:Wa.heap.size=W0.heap.size+2:=by rw[←hWa];simp
 have hba:Below W0.heap.size W0 Wa:=by
  rw[←hWa];exact((Below.refl _ _).alloc (Nat.le_refl _) _).alloc tS _
 have h3:Blk Wa W0.heap.size #[.int .i64 n, .bool sg, .bool an] 88:=by
  rw[←hWa];exact(Blk.new _ _ _).alloc _
 have h4:Blk Wa (W0.heap.size+1) (stk tm) 92:=by
  rw[←hWa];have:=Blk.new (W0.alloc (.cells #[.int .i64 n, .bool sg, .bool an] 88)) (stk tm) 92;rw[World.size_alloc]at this;exact this
 have hWa':=hWa;unfold stk at hWa';obtain⟨W3,hput,hS3,hg3⟩:=(Kn.made Wa n).put hn hto zeroS tO;have hsE:=(Kn.made Wa n).put_size hto zeroS tO hput;rw[World.size_alloc,hsa]at hsE;have HSE:=Aside0.mk hsE;clear hsE;rw[htm,hsa]at hput;rw[hsa]at hS3 hg3;unfold stk at hput;simp only[stepE,zeroS,Int.natCast_zero]at hput;have h33:Blk W3 W0.heap.size #[.int .i64 n, .bool sg, .bool an] 88:=(h3.alloc _).grown hg3 tS;have h43:Blk W3 (W0.heap.size+1) (stk tm) 92:=(h4.alloc _).grown hg3 tS;have hb3:Below W0.heap.size W0 W3:=(hba.alloc tO _).grown hg3 (by simp;omega) (fun k e=>by cases e;omega);have hs3:=hg3.size;rw[World.size_alloc,hsa]at hs3;have hlt3:=h33.lt;have hlt4:=h43.lt;refine wpIn_seq_k (fun K0 hK0=>?_);obtain⟨c0,hc0⟩: ∃c0,fstC (codeOf Try.f84)=c0:=⟨_,rfl⟩;rw[hc0];simp only[codeOf,Try.f84,fstC]at hc0;subst hc0;have HK0:=Aside0.mk hK0;have HU:=Aside0.mk hU;have H33:=Aside0.mk h33;have HB3:=Aside0.mk hb3;have HS3:=Aside0.mk hS3;have HTO:=Aside0.mk hto;have HTM:=Aside0.mk htm;obtain⟨t0,t1,t2,t3,t4,t5,t6⟩:=stk_cells (h4.alloc (.map #[] 0));obtain⟨q0,q1,q2,q3,q4,q5,q6⟩:=stk_cells h43;clear hK0 hU h33 hb3 hS3 hto htm hba h3 h4 h43 hg3
 gi_wp2
 refine HK0.out _ _ ?_;clear HK0;refine wpIn_scope ?_;obtain⟨c1,hc1⟩: ∃c1,fstC bodyC=c1:=⟨_,rfl⟩;obtain⟨c2,hc2⟩: ∃c2,fstC (dropC 1 bodyC)=c2:=⟨_,rfl⟩;rw[hc1,hc2];simp only[bodyC,unscope,dropC,codeOf,Try.f84,sndC,fstC]at hc1 hc2;subst hc1;subst hc2;have hm:=run_makeMap (P:=Try.prog);refine wpIn_seq_k (fun K1 hK1=>?_);have HK1:=Aside0.mk hK1;clear hK1;(try rw[hWa']);clear hWa hWa'
 gi_wp2
 refine HK1.out _ _ ?_;clear HK1 hput;refine wpIn_seq_k (fun K1 hK1=>?_);have HK1:=Aside0.mk hK1;clear hK1
 gi_wp2
 refine HK1.out _ _ ?_;clear HK1;refine wpIn_seq ?_;refine wpIn_label ?_;show(Code.seq (.block 0 (.loop roundC)) (dropC 4 bodyC)).wpIn _ _ _ _ _ _;refine wpIn_seq ?_;clear t0 t1 t2 t3 t4 t5 t6 q0 q1 q2 q3 q4 q5 q6 hm;obtain⟨Wx,hWx⟩: ∃Wx,W3.alloc (.cells #[.map (some (W0.heap.size+2))] 116)=Wx:=⟨_,rfl⟩;obtain⟨Wy,hWy⟩: ∃Wy,Wx.alloc (.cells (stk tm) 92)=Wy:=⟨_,rfl⟩;obtain⟨Wc,hWc⟩: ∃Wc,Wy.alloc (.cells #[.slice (some ⟨W3.heap.size+1,0,none⟩) 1 1] 134)=Wc:=⟨_,rfl⟩;have hsx:Wx.heap.size=W3.heap.size+1:=by rw[←hWx];simp
 have hsy:Wy.heap.size=W3.heap.size+1+1:=by rw[←hWy];simp[hsx]
 have hBc:Below W3.heap.size W3 Wc:=by
  rw[←hWc,←hWy,←hWx];exact(((Below.refl _ _).alloc (Nat.le_refl _) _).alloc tS _).alloc (by simp;omega) _
 have hn1:Blk Wc W3.heap.size #[.map (some (W0.heap.size+2))] 116:=by
  rw[←hWc,←hWy,←hWx];exact((Blk.new _ _ _).alloc _).alloc _
 have hn2:Blk Wc (W3.heap.size+1) (stk tm) 92:=by
  have h1:=Blk.new Wx (stk tm) 92;rw[hsx,hWy]at h1;rw[←hWc];exact h1.alloc _
 have hn3:Blk Wc (W3.heap.size+1+1) #[.slice (some ⟨W3.heap.size+1,0,none⟩) 1 1] 134:=by
  have h1:=Blk.new Wy #[.slice (some ⟨W3.heap.size+1,0,none⟩) 1 1] 134;rw[hsy,hWc]at h1;exact h1
 have e1:=hWy;unfold stk at e1;rw[hWx,e1,hWc];have hsE:=HSE.out;simp only[hsE,Nat.add_assoc,Nat.reduceAdd]at hn1 hn2 hn3 ⊢;refine search_loop n sg an hn to_ U uv W0 Wc HU.out ⟨_,Km.put (fun _=>none) to_ zeroS, [to_], [to_], .slice (some ⟨W0.heap.size+4,0,none⟩) 1 1,⟨?_,ByOk.begin n sg an to_,rfl,HS3.out.mapsTo (hBc.block _ HS3.out.lt),?_,hn3,hn1,H33.out.below hBc H33.out.lt,HB3.out.trans (hBc.mono tO),?_,Nat.le_refl _,Th.begin n sg an to_ U⟩⟩ _ _ _ _ _ _ _ _ _ _ _ _ _ _ _ _ _ _ _ _ _ _ _ _ _ _ _ _ _ _ _ _ _ _ _ _ _ _ _ _ _ _ _ _ _ _ _ _ _ _ _ _ _ _ _ _ _ _ _ _ _ ?_
 ·have h:=Rd.begin (next:=nextK n sg an) (V:=Vs n) HTO.out
  have e:Sof (Km.put (fun _=>none) to_ zeroS)=(fun x=>if x=to_ then some 0 else none):=by
   funext x;unfold Sof Km.put;by_cases h:x=to_<;>simp[h,zeroS]
  rw[e];exact h
 ·refine⟨by simp[flat_len], .inr ⟨W0.heap.size+4,0,1,stk tm,rfl,Nat.le_refl _,hn2,Nat.le_refl _,by unfold maxLen;omega,rfl,?_⟩⟩;rw[flat_cons,flat_nil,HTM.out];simp[stk]
 ·intro x hx;unfold Sof Km.put at hx;by_cases h:x=to_
  ·rw[h];simp
  ·rw[if_neg h]at hx;cases hx
 ·intro W' rs x0 x1 x4 x5 x6 x9 x10 x11 x12 x13 x14 x15 x16 x17 x18 x19 x20 x21 x22 x23 x24 x25 x26 x27 x28 x29 x30 x31 x32 x33 x34 x35 x36 x37 x38 x39 x40 x41 x42 x43 x44 x45 x46 x47 x48 x49 x50 x51 x52 x53 x54 x55 x56 x57 x58 x59 x60 x61 x62 x63 hM hfin;show(dropC 4 bodyC).wpIn _ _ _ _ _ _;refine wpIn_mono (search_out n sg an to_ U uv W0 W' rs hM hfin _ _ _ _ _ _ _ _ _ _ _ _ _ _ _ _ _ _ _ _ _ _ _ _ _ _ _ _ _ _ _ _ _ _ _ _ _ _ _ _ _ _ _ _ _ _ _ _ _ _ _ _ _ _ _ _ _ _ _ _ (fun e w'=>e= .returned (.map (some (W0.heap.size+2)))∧Fin n sg an to_ U W0 w') ?_) ?_
  ·exact fun W'' hW''=>⟨rfl,hW''⟩
  ·intro e a w h;cases e<;>first|exact h|exact h.elim
end Go.Proofs.Ytepjhdblmghckaa.G
namespace Go.Proofs.Ytepjhdblmghckaa.G
open Go.Proofs.Ytepjhdblmghckaa.Q Go.Proofs.Ytepjhdblmghckaa.K
open Go.RowKit Go.Shelf Go.Proofs.YtepjhdblmghckaaW.PrintWords Go.Proofs.YtepjhdblmghckaaW.PrintLast Go.Proofs.YtepjhdblmghckaaW.PrintMore
theorem i8w {x:Int} (h: -7≤x∧x≤7):IntKind.i8.wrap x=x:=by
 rcases h with⟨h1,h2⟩;have h3:x= -7∨x= -6∨x= -5∨x= -4∨x= -3∨x= -2∨x= -1∨x=0∨x=1∨x=2∨x=3∨x=4∨x=5∨x=6∨x=7:=by omega
 rcases h3 with rfl|rfl|rfl|rfl|rfl|rfl|rfl|rfl|rfl|rfl|rfl|rfl|rfl|rfl|rfl<;>rfl
def fst (m:Nat→Int) (k:Nat):Nat→Int:=fun p=>if p< k then m p else 0
theorem fst_upd (m:Nat→Int) (k:Nat):upd (fst m k) k (m k)=fst m (k+1):=by
 funext p;unfold upd fst;by_cases h:p=k
 ·subst h;simp
 ·rw[if_neg h];by_cases h2:p< k
  ·rw[if_pos h2,if_pos tO]
  ·rw[if_neg h2,if_neg tO]
theorem stk_set {W:World} {b t:Nat} {m:Nat→Int} (h:Blk W b (stk m) t) (p:Nat) (x:Int) (hp:p< 7):Blk (W.setCell ⟨b,p,none⟩ (.int .i8 x)) b (stk (upd m p x)) t:=
 row_stk ((stk_row h).set p x hp) (by simp[stk_size])
theorem stk_sets {W:World} {b t:Nat} {m:Nat→Int} (h:Blk W b (stk m) t) (f:Nat→Int):Blk (((((((W.setCell ⟨b,0,none⟩ (.int .i8 (f 0))).setCell ⟨b,1,none⟩ (.int .i8 (f 1))).setCell ⟨b,2,none⟩ (.int .i8 (f 2))).setCell ⟨b,3,none⟩ (.int .i8 (f 3))).setCell ⟨b,4,none⟩ (.int .i8 (f 4))).setCell ⟨b,5,none⟩ (.int .i8 (f 5))).setCell ⟨b,6,none⟩ (.int .i8 (f 6))) b (stk f) t:=by
 have h7:=((((((h.set 0 (.int .i8 (f 0))).set 1 (.int .i8 (f 1))).set 2 (.int .i8 (f 2))).set 3 (.int .i8 (f 3))).set 4 (.int .i8 (f 4))).set 5 (.int .i8 (f 5))).set 6 (.int .i8 (f 6));simpa [stk]using h7
theorem stk_sets_below {B:Nat} {W0 W:World} {b:Nat} {f:Nat→Int} (h:Below B W0 W) (hb:B≤b):Below B W0 (((((((W.setCell ⟨b,0,none⟩ (.int .i8 (f 0))).setCell ⟨b,1,none⟩ (.int .i8 (f 1))).setCell ⟨b,2,none⟩ (.int .i8 (f 2))).setCell ⟨b,3,none⟩ (.int .i8 (f 3))).setCell ⟨b,4,none⟩ (.int .i8 (f 4))).setCell ⟨b,5,none⟩ (.int .i8 (f 5))).setCell ⟨b,6,none⟩ (.int .i8 (f 6))):=
 (((((((h.setCell hb _).setCell hb _).setCell hb _).setCell hb _).setCell hb _).setCell hb _).setCell hb _)
theorem stk_congr {m m':Nat→Int} (h: ∀j,j< 7→m j=m' j):stk m=stk m':=stk_ext m' _ (stk_size m) (fun j hj=>by rw[stk_get m j hj,h j hj])
set_option maxHeartbeats 4000000 in
theorem packed_calls (A:Option Addr) (c:Nat) (l:List Int) (w:World) (n:Nat) (hn:n≤7) (hl:Vs n l) (hr:Kd.C (Kd.int .i64) w A l.length l):
  Calls Try.prog 70 #[.slice A l.length c] w fun e w'=>e= .returned (.agg (stk (nth l)))∧Below w.heap.size w w':=by
 obtain⟨hlen,hb⟩:=hl;have HC:=Aside0.mk hr;have HL:=Aside0.mk hlen;have HB:=Aside0.mk hb;rw[hlen];clear hr hlen hb
 go_enter Try.func70,Try.ntmps70
 go_upto_region 2 with fail
 obtain⟨W0,hW0⟩: ∃W,(w.alloc (Obj.cells (stk (fun _=>0)) 92)).alloc (Obj.cells (stk (fun _=>0)) 92)=W:=⟨_,rfl⟩;have HB0:=Aside0.mk (show Blk W0 w.heap.size (stk (fun _=>0)) 92 by rw[←hW0];exact(Blk.new w _ 92).alloc _)
 have HB1:=Aside0.mk (show Blk W0 (w.heap.size+1) (stk (fst (nth l) 0)) 92 by
  rw[←hW0];have:=Blk.new (w.alloc (Obj.cells (stk (fun _=>0)) 92)) (stk (fun _=>0)) 92;rw[World.size_alloc]at this
  exact this)
 have HW0:=Aside0.mk (show Below w.heap.size w W0 by rw[←hW0];exact((Below.refl _ w).alloc (Nat.le_refl _) _).alloc tS _);unfold stk at hW0;(try rw[hW0]);clear hW0;go_wp2
 go_loopw [8] (fun i wr=> ∃(k:Nat),k≤n∧i= .int .i64 (k:Int)∧Aside0 (Blk wr w.heap.size (stk (fun _=>0)) 92)∧Aside0 (Blk wr (w.heap.size+1) (stk (fst (nth l) k)) 92)∧Aside0 (Below w.heap.size w wr)) (fun i _=>n - (intOf i).toNat)
 case atStart=>exact⟨0,Nat.zero_le _,rfl,HB0,HB1,HW0⟩
 case round=>
  obtain⟨k,hk,rfl,H0,H1,HW⟩:=hrel;by_cases hlt:k< n
  ·have hi0:(0:Int)≤(k:Int):=by omega
   have hi1:(k:Int)< (n:Int):=by omega
   have h7:(k:Int)< 7:=by omega
   obtain⟨ad',e,hc⟩:=Kd.at_int (Kd.C_below HC.out HW.out) (k:Int) hi0 (by have:=HL.out;omega);cases e;rw[rd_nth,Int.toNat_natCast]at hc;have hwx:=i8w (HB.out k);have hg:=H1.out.cell k (stk_get (fst (nth l) k) k tO);have hf:=H1.out.free k;have HU:=Aside0.mk (fst_upd (nth l) k);have hwt:IntKind.i64.wrap ((k:Int)+1)=((k+1:Nat):Int):=by rw[iw64 tO tO];omega
   obtain⟨x,hx⟩: ∃x,nth l k=x:=⟨_,rfl⟩;rw[hx]at hc hwx HU;clear hx;go_wp2
   go_roundw
   case rel=>exact⟨k+1,by omega,rfl,⟨H0.out.setOther tS _⟩,⟨by rw[←HU.out];exact stk_set H1.out k x tO⟩,⟨HW.out.setCell tS _⟩⟩
   case measure=>simp[intOf];omega
  ·have hi1: ¬(k:Int)< (n:Int):=by omega
   have hkn:k=n:=by omega
   have HX:=Aside0.mk (show stk (fst (nth l) k)=stk (nth l)from stk_congr (fun j hj=>by
    unfold fst;by_cases h:j< k
    ·rw[if_pos h]
    ·rw[if_neg h,nth_end]
     have:=HL.out;omega))
   rw[HX.out]at H1;clear hkn;obtain⟨tm,htm⟩: ∃tm,nth l=tm:=⟨_,rfl⟩;rw[htm]at H1;have HTM:=Aside0.mk htm;obtain⟨t0,t1,t2,t3,t4,t5,t6⟩:=stk_cells H1.out;obtain⟨q0,q1,q2,q3,q4,q5,q6⟩:=stk_cells H0.out;have f0:=H0.out.free 0;have f1:=H0.out.free 1;have f2:=H0.out.free 2;have f3:=H0.out.free 3;have f4:=H0.out.free 4;have f5:=H0.out.free 5;have f6:=H0.out.free 6;clear HX htm;go_wp2;refine bodyPost_ret (results_cell_row rfl _ _ w.heap.size 92 (stk tm) (0,0) _ rfl (stk_sets H0.out tm) u92 rfl tK) rfl ⟨by rw[HTM.out],stk_sets_below HW.out (Nat.le_refl _)⟩
def upTo (n:Nat):Nat→Int:=fun p=>if p< n then((p+1:Nat):Int)else 0
theorem upTo_step (k:Nat):upd (upTo k) k ((k+1:Nat):Int)=upTo (k+1):=by
 funext p;unfold upd upTo;by_cases h:p=k
 ·subst h;simp
 ·rw[if_neg h];by_cases h2:p< k
  ·rw[if_pos h2,if_pos tO]
  ·rw[if_neg h2,if_neg tO]
def firstL (n:Nat):List Int:=(List.range n).map (fun p=>((p+1:Nat):Int))
theorem nth_firstL (n:Nat):nth (firstL n)=upTo n:=by
 funext p;unfold nth firstL upTo;by_cases h:p< n
 ·simp[h]
 ·simp[h]
theorem vs_firstL {n:Nat} (hn:n≤7):Vs n (firstL n):=by
 refine⟨by simp[firstL],fun p=>?_⟩;rw[nth_firstL];unfold upTo
 split<;>omega
set_option maxHeartbeats 4000000 in
theorem first_calls (n:Nat) (hn:n≤7) (sg an:Bool) (w:World):
  Calls Try.prog 85 #[.agg #[.int .i64 n, .bool sg, .bool an]] w fun e w'=>e= .returned (.agg (stk (nth (firstL n))))∧Below w.heap.size w w':=by
 rw[nth_firstL]
 go_enter Try.func85,Try.ntmps85
 go_upto_region 2 with fail
 obtain⟨W0,hW0⟩: ∃W,((w.alloc (Obj.cells #[.int .i64 n, .bool sg, .bool an] 88)).alloc (Obj.cells (stk (fun _=>0)) 92)).alloc (Obj.cells (stk (fun _=>0)) 92)=W:=⟨_,rfl⟩
 have HB0:=Aside0.mk (show Blk W0 (w.heap.size+1) (stk (fun _=>0)) 92 by
  rw[←hW0];have:=(Blk.new (w.alloc (Obj.cells #[.int .i64 n, .bool sg, .bool an] 88)) (stk (fun _=>0)) 92).alloc (Obj.cells (stk (fun _=>0)) 92);rw[World.size_alloc]at this
  exact this)
 have HB1:=Aside0.mk (show Blk W0 (w.heap.size+2) (stk (upTo 0)) 92 by
  rw[←hW0];have:=Blk.new ((w.alloc (Obj.cells #[.int .i64 n, .bool sg, .bool an] 88)).alloc (Obj.cells (stk (fun _=>0)) 92)) (stk (fun _=>0)) 92;rw[World.size_alloc,World.size_alloc]at this
  exact this)
 have HW0:=Aside0.mk (show Below w.heap.size w W0 by rw[←hW0];exact(((Below.refl _ w).alloc (Nat.le_refl _) _).alloc tS _).alloc (by simp;omega) _)
 have hc0:W0.cell? ⟨w.heap.size,0,none⟩=some (.int .i64 n):=by
  have:Blk W0 w.heap.size #[.int .i64 n, .bool sg, .bool an] 88:=by
   rw[←hW0];exact((Blk.new w _ 88).alloc _).alloc _
  exact this.cell 0 rfl
 unfold stk at hW0;(try rw[hW0]);clear hW0;go_wp2
 go_loopw [7] (fun i wr=> ∃(k:Nat),k≤n∧i= .int .i64 (k:Int)∧Aside0 (Blk wr (w.heap.size+1) (stk (fun _=>0)) 92)∧Aside0 (Blk wr (w.heap.size+2) (stk (upTo k)) 92)∧Aside0 (Below w.heap.size w wr)) (fun i _=>n - (intOf i).toNat)
 case atStart=>exact⟨0,Nat.zero_le _,rfl,HB0,HB1,HW0⟩
 case round=>
  obtain⟨k,hk,rfl,H0,H1,HW⟩:=hrel;by_cases hlt:k< n
  ·have hi0:(0:Int)≤(k:Int):=by omega
   have hi1:(k:Int)< (n:Int):=by omega
   have h7:(k:Int)< 7:=by omega
   have hg:=H1.out.cell k (stk_get (upTo k) k tO);have hf:=H1.out.free k;have HU:=Aside0.mk (upTo_step k);have hwt:IntKind.i64.wrap ((k:Int)+1)=((k+1:Nat):Int):=by rw[iw64 tO tO];omega
   have hwx:IntKind.i8.wrap ((k+1:Nat):Int)=((k+1:Nat):Int):=i8w tO;go_wp2
   go_roundw
   case rel=>exact⟨k+1,by omega,rfl,⟨H0.out.setOther tS _⟩,⟨by rw[←HU.out];exact stk_set H1.out k _ tO⟩,⟨HW.out.setCell (by simp;omega) _⟩⟩
   case measure=>simp[intOf];omega
  ·have hi1: ¬(k:Int)< (n:Int):=by omega
   have HKN:=Aside0.mk (show k=n by omega);obtain⟨tm,htm⟩: ∃tm,upTo k=tm:=⟨_,rfl⟩;rw[htm]at H1;have HTM:=Aside0.mk htm;obtain⟨t0,t1,t2,t3,t4,t5,t6⟩:=stk_cells H1.out;obtain⟨q0,q1,q2,q3,q4,q5,q6⟩:=stk_cells H0.out;have f0:=H0.out.free 0;have f1:=H0.out.free 1;have f2:=H0.out.free 2;have f3:=H0.out.free 3;have f4:=H0.out.free 4;have f5:=H0.out.free 5;have f6:=H0.out.free 6;clear htm;go_wp2;refine bodyPost_ret (results_cell_row rfl _ _ (w.heap.size+1) 92 (stk tm) (0,0) _ rfl (stk_sets H0.out tm) u92 rfl tK) rfl ⟨by rw[←HTM.out,HKN.out],stk_sets_below HW.out tO⟩
end Go.Proofs.Ytepjhdblmghckaa.G