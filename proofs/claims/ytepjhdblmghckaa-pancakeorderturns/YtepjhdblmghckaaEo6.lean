/- PancakeOrderTurns: turns that order any short row, the smallest number of them, or ErrArg: a part of the proof (6 of 14): contracts of the functions, and plain lemmas. -/
import Derived.Test.YtepjhdblmghckaaUo
import Derived.Test.YtepjhdblmghckaaEo1
import Derived.Test.YtepjhdblmghckaaEo2
import Derived.Test.YtepjhdblmghckaaEo3
import Derived.Test.YtepjhdblmghckaaEo4
import Derived.Test.YtepjhdblmghckaaEo5
set_option linter.unusedVariables false
set_option linter.unusedSimpArgs false
namespace Go.Proofs.Ytepjhdblmghckaa.Q
open Go.Proofs.Ytepjhdblmghckaa.G
open Go.RowKit Go.Proofs.YtepjhdblmghckaaW.PrintWords Go.Proofs.YtepjhdblmghckaaW.PrintLast Go.Proofs.YtepjhdblmghckaaW.PrintMore
attribute [local go_sem] max2_int min2_int max_two min_two max_three min_three max_four min_four
mutual
def bibelotlaw07_PancakeOrderTurns.j0:Nat→Int→List Int→List (S57)→Bool→Option (Bool)
 |0,_,_,_,_=>none
 |k+1,x0,x5,x6,x39=>if x39=true then(some false)else(bibelotlaw07_PancakeOrderTurns.l0 k x0 x5 x6 0)
def bibelotlaw07_PancakeOrderTurns.l0:Nat→Int→List Int→List (S57)→Int→Option (Bool)
 |0,_,_,_,_=>none
 |k+1,x0,x5,x6,x8=>if x8< (x6.length:Int)then(if 0≤x8 then(if((rd_T57 x6 x8).f0)< 0 then(some false)else(if((rd_T57 x6 x8).f0)>((rd_T57 x6 x8).f1)then(some false)else(if((rd_T57 x6 x8).f1)≥x0 then(some false)else((bibelotref07_Turn.f k x5 ((rd_T57 x6 x8).f0) ((rd_T57 x6 x8).f1)).bind fun t642=>(bibelotlaw07_PancakeOrderTurns.l0 k x0 t642 x6 (wrap64 (x8+1)))))))else(none))else((bibelotref07_First.f k x0).bind fun t645=>((bibelotlaw07_ints.f k x5 t645).bind fun t648=>(if t648=true then((bibelotlaw07_awake.f).bind fun t649=>(some t649))else(some false))))
end
def bibelotlaw07_PancakeOrderTurns.f (k:Nat) (a0:Int) (l1:List Int):Option (Bool):=(bibelotlaw07_many.f a0 8).bind fun t626=>((bibelotlaw07_row.f l1 t626 true).bind fun t627=>((pancake_OrderTurns.f t627).bind fun bt630=>(if t626>6 then(if bt630.2=1 then(if(bt630.1.length:Int)=0 then((bibelotlaw07_awake.f).bind fun t634=>(some t634))else(some false))else(some false))else(if bt630.2=0 then((bibelotref07_Distance.f k t627).bind fun t635=>(bibelotlaw07_PancakeOrderTurns.j0 k t626 t627 bt630.1 ((bt630.1.length:Int) !=t635)))else(bibelotlaw07_PancakeOrderTurns.j0 k t626 t627 bt630.1 true)))))
def bibelotlaw07_PancakeOrderTurns.T11:Bool×List (List Nat×List Nat):=(true, [([], []),([], []),([0,1], [0,1]),([2], [2]),([3], [3]),([4], [4]),([5], [5]),([6], [6]),([6], [6]),([7,8,6], [6,7,8]),([9,6], [6,9]),([10,6], [6,10]),([6], [6]),([6], [6]),([12,13,6], [6,12,13]),([14,6], [6,14]),([15,6], [6,15]),([11,16,6], [6,11,16]),([6,17], [6,17]),([18,6], [18]),([19], [19]),([19], [19]),([20,21,19], [19,20,21]),([22,19], [19,22]),([23,19], [19,23]),([19], [19]),([24,25,19], [19,24,25]),([19,26], [19,26])])
def bibelotlaw07_PancakeOrderTurns.B11:List Nat:= [0,0,3,7,15,31,63,127,127,511,1023,2047,127,127,12415,28799,61567,131071,262143,524287,1048575,1048575,4194303,8388607,16777215,1048575,67108863,134217727]
theorem bibelotlaw07_PancakeOrderTurns.tab11:rtab .any (opsOf Try.f14 11)=bibelotlaw07_PancakeOrderTurns.T11:=by kernel_rfl
theorem bibelotlaw07_PancakeOrderTurns.bits11:waitsOk bibelotlaw07_PancakeOrderTurns.T11.2 bibelotlaw07_PancakeOrderTurns.B11=true:=by kernel_rfl
def bibelotlaw07_PancakeOrderTurns.T13:Bool×List (List Nat×List Nat):=(true, [([], []),([], []),([], []),([1,2], [1,2]),([3], [3]),([4], [4]),([], []),([], []),([6,7], [6,7]),([8], [8]),([9], [9]),([0,5,10], [0,5,10]),([11,11,0,1,2,3,4,5,6,7,8,9,10,11], [0,11])])
def bibelotlaw07_PancakeOrderTurns.B13:List Nat:= [0,0,0,6,14,30,0,0,192,448,960,2047,4095]
theorem bibelotlaw07_PancakeOrderTurns.tab13:rtab .any (opsOf Try.f14 13)=bibelotlaw07_PancakeOrderTurns.T13:=by kernel_rfl
theorem bibelotlaw07_PancakeOrderTurns.bits13:waitsOk bibelotlaw07_PancakeOrderTurns.T13.2 bibelotlaw07_PancakeOrderTurns.B13=true:=by kernel_rfl
set_option maxHeartbeats 8000000 in
set_option maxRecDepth 100000 in
theorem bibelotlaw07_PancakeOrderTurns.calls (k:Nat) (a0:Int) (A1:Option Addr) (c1:Nat) (l1:List Int) (r:Bool) (w:World) (hr1:Kd.C (Kd.int .i64) w A1 l1.length l1) (hc1:l1.length≤c1) (h:bibelotlaw07_PancakeOrderTurns.f k a0 l1=some r):
  Calls Try.prog 14 #[.int .i64 a0, .slice A1 l1.length c1] w fun e w'=>e= .returned (.bool r)∧Below w.heap.size w w':=by
 have HR1:=Aside0.mk hr1;have HC1:=Aside0.mk hc1;clear hr1 hc1;have HB:=Aside0.mk (Below.refl w.heap.size w);have H:((bibelotlaw07_many.f a0 8).bind fun t626=>((bibelotlaw07_row.f l1 t626 true).bind fun t627=>((pancake_OrderTurns.f t627).bind fun bt630=>(if t626>6 then(if bt630.2=1 then(if(bt630.1.length:Int)=0 then((bibelotlaw07_awake.f).bind fun t634=>(some t634))else(some false))else(some false))else(if bt630.2=0 then((bibelotref07_Distance.f k t627).bind fun t635=>(bibelotlaw07_PancakeOrderTurns.j0 k t626 t627 bt630.1 ((bt630.1.length:Int) !=t635)))else(bibelotlaw07_PancakeOrderTurns.j0 k t626 t627 bt630.1 true))))))=some r:=h;clear h;replace H:=Option.bind_eq_some_iff.mp H;obtain⟨t626,A30,H⟩:=H;replace H:((bibelotlaw07_row.f l1 t626 true).bind fun t627=>((pancake_OrderTurns.f t627).bind fun bt630=>(if t626>6 then(if bt630.2=1 then(if(bt630.1.length:Int)=0 then((bibelotlaw07_awake.f).bind fun t634=>(some t634))else(some false))else(some false))else(if bt630.2=0 then((bibelotref07_Distance.f k t627).bind fun t635=>(bibelotlaw07_PancakeOrderTurns.j0 k t626 t627 bt630.1 ((bt630.1.length:Int) !=t635)))else(bibelotlaw07_PancakeOrderTurns.j0 k t626 t627 bt630.1 true)))))=some r:=H;have A3:=Aside0.mk A30;clear A30;replace H:=Option.bind_eq_some_iff.mp H;obtain⟨t627,A40,H⟩:=H
 replace H:((pancake_OrderTurns.f t627).bind fun bt630=>(if t626>6 then(if bt630.2=1 then(if(bt630.1.length:Int)=0 then((bibelotlaw07_awake.f).bind fun t634=>(some t634))else(some false))else(some false))else(if bt630.2=0 then((bibelotref07_Distance.f k t627).bind fun t635=>(bibelotlaw07_PancakeOrderTurns.j0 k t626 t627 bt630.1 ((bt630.1.length:Int) !=t635)))else(bibelotlaw07_PancakeOrderTurns.j0 k t626 t627 bt630.1 true))))=some r:=H;have A4:=Aside0.mk A40;clear A40;replace H:=Option.bind_eq_some_iff.mp H;obtain⟨⟨t630,t631⟩,A50,H⟩:=H;replace H:(if t626>6 then(if t631=1 then(if(t630.length:Int)=0 then((bibelotlaw07_awake.f).bind fun t634=>(some t634))else(some false))else(some false))else(if t631=0 then((bibelotref07_Distance.f k t627).bind fun t635=>(bibelotlaw07_PancakeOrderTurns.j0 k t626 t627 t630 ((t630.length:Int) !=t635)))else(bibelotlaw07_PancakeOrderTurns.j0 k t626 t627 t630 true)))=some r:=H;have A5:=Aside0.mk A50;clear A50;by_cases c6:t626>6
 ·rw[if_pos c6]at H;have c6b0:decide (6< t626)=true:=decide_eq_true c6;clear c6;by_cases c7:t631=1
  ·rw[if_pos c7]at H;have c7b0:(t631==1)=true:=beq_iff_eq.mpr c7;have c7b1:(t631 !=1)=false:=bne_eq_false_iff_eq.mpr c7;clear c7;by_cases c8:(t630.length:Int)=0
   ·rw[if_pos c8]at H;have c8b0:((t630.length:Int)==0)=true:=beq_iff_eq.mpr c8;have c8b1:((t630.length:Int) !=0)=false:=bne_eq_false_iff_eq.mpr c8;clear c8;replace H:=Option.bind_eq_some_iff.mp H;obtain⟨t634,A90,H⟩:=H;replace H:(some t634)=some r:=H;have A9:=Aside0.mk A90;clear A90;obtain rfl:=Option.some.inj H
    go_enter Try.func14,Try.ntmps14
    go_wp2_with (first|((with_reducible refine gate_callee (f:=21) rfl ?_);refine goesL_ (some 10) rfl rfl Try.func21 tK rfl #[.int .i64 a0, .int .i64 8] rfl tM ?_;(with_reducible refine(bibelotlaw07_many.calls a0 8 t626 _ A3.out).mono ?_);rintro e w' ⟨rfl,⟨nd,rfl⟩⟩;refine⟨_,rfl,?_⟩)|((with_reducible refine gate_callee (f:=27) rfl ?_);refine goesL_ (some 13) rfl rfl Try.func27 tK rfl #[.slice A1 l1.length c1, .int .i64 t626, .bool true] rfl tM ?_;(with_reducible refine(bibelotlaw07_row.calls _ _ l1 t626 true t627 _ ?side1 ?side2 A4.out).mono ?_);(case side1=>repeat(first|exact HR1.out|(with_reducible refine Kd.C_alloc ?_ _)|(with_reducible refine Kd.C_drewN ?_ _)|(with_reducible refine Kd.C_drew ?_)));(case side2=>exact HC1.out);rintro e w10 ⟨v628,rfl,ho0,hb⟩;refine⟨_,rfl,?_⟩;have n0_:=Aside0.mk (Kd.R_lower ho0 (below_size (tB HB.out)));have n1_:=Aside0.mk (below_step (tB HB.out) hb);clear HB;have HO629:=n0_;have HB:=n1_;clear n0_ n1_;(try clear hb);(try clear hb2);(try clear hk);(try clear hi);(try clear ho0);obtain⟨Ao11,co11,eo11⟩:=Kd.R_slice HO629.out;subst eo11)|((with_reducible refine gate_callee (f:=50) rfl ?_);refine goesL_ (some 16) rfl rfl Try.func50 tK rfl #[.slice Ao11 t627.length co11] rfl tM ?_;(with_reducible refine(pancake_OrderTurns.calls _ _ t627 t630 t631 _ ?side1 ?side2 A5.out).mono ?_);(case side1=>repeat(first|exact(Kd.R_reads' HO629.out).2.2|(with_reducible refine Kd.C_alloc ?_ _)|(with_reducible refine Kd.C_drewN ?_ _)|(with_reducible refine Kd.C_drew ?_)));(case side2=>exact(Kd.R_reads' HO629.out).2.1);rintro e w12 ⟨v632,rfl,ho0,hb⟩;refine⟨_,rfl,?_⟩;have n0_:=Aside0.mk (Kd.R_below (tR HO629.out) hb);have n1_:=Aside0.mk (Kd.R_lower ho0 (below_size (tB HB.out)));have n2_:=Aside0.mk (below_step (tB HB.out) hb);clear HO629;clear HB;have HO629:=n0_;have HO633:=n1_;have HB:=n2_;clear n0_ n1_ n2_;(try clear hb);(try clear hb2);(try clear hk);(try clear hi);(try clear ho0);obtain⟨Ao13,co13,eo13⟩:=Kd.R_slice HO633.out;subst eo13)|(go_at_call 26;(with_reducible refine(bibelotlaw07_awake.calls t634 _ A9.out).mono ?_);rintro e w14 ⟨rfl,hb⟩;have n0_:=Aside0.mk (Kd.R_below (tR HO629.out) hb);have n1_:=Aside0.mk (Kd.R_below (tR HO633.out) hb);have n2_:=Aside0.mk (below_step (tB HB.out) hb);clear HO629;clear HO633;clear HB;have HO629:=n0_;have HO633:=n1_;have HB:=n2_;clear n0_ n1_ n2_;(try clear hb);(try clear hb2);(try clear hk);(try clear hi)))
    go_ret;exact⟨by first|rfl|(simp[errW_none,errW_some]<;>rfl)|(simp[*,errW_none,errW_some]<;>rfl),by repeat(first|(with_reducible first|exact HB.out|apply below_alloc|apply pw_below_drewN|apply below_drew1)|exact HB.out)⟩
   ·rw[if_neg c8]at H;have c8b0:((t630.length:Int)==0)=false:=beq_eq_false_iff_ne.mpr c8;have c8b1:((t630.length:Int) !=0)=true:=bne_iff_ne.mpr c8;have c8b2: ¬(t630= []):=fun h_=>c8 (by rw[h_];rfl);obtain rfl:=Option.some.inj H
    go_enter Try.func14,Try.ntmps14
    go_wp2_with (first|((with_reducible refine gate_callee (f:=21) rfl ?_);refine goesL_ (some 10) rfl rfl Try.func21 tK rfl #[.int .i64 a0, .int .i64 8] rfl tM ?_;(with_reducible refine(bibelotlaw07_many.calls a0 8 t626 _ A3.out).mono ?_);rintro e w' ⟨rfl,⟨nd,rfl⟩⟩;refine⟨_,rfl,?_⟩)|((with_reducible refine gate_callee (f:=27) rfl ?_);refine goesL_ (some 13) rfl rfl Try.func27 tK rfl #[.slice A1 l1.length c1, .int .i64 t626, .bool true] rfl tM ?_;(with_reducible refine(bibelotlaw07_row.calls _ _ l1 t626 true t627 _ ?side1 ?side2 A4.out).mono ?_);(case side1=>repeat(first|exact HR1.out|(with_reducible refine Kd.C_alloc ?_ _)|(with_reducible refine Kd.C_drewN ?_ _)|(with_reducible refine Kd.C_drew ?_)));(case side2=>exact HC1.out);rintro e w15 ⟨v628,rfl,ho0,hb⟩;refine⟨_,rfl,?_⟩;have n0_:=Aside0.mk (Kd.R_lower ho0 (below_size (tB HB.out)));have n1_:=Aside0.mk (below_step (tB HB.out) hb);clear HB;have HO629:=n0_;have HB:=n1_;clear n0_ n1_;(try clear hb);(try clear hb2);(try clear hk);(try clear hi);(try clear ho0);obtain⟨Ao16,co16,eo16⟩:=Kd.R_slice HO629.out;subst eo16)|((with_reducible refine gate_callee (f:=50) rfl ?_);refine goesL_ (some 16) rfl rfl Try.func50 tK rfl #[.slice Ao16 t627.length co16] rfl tM ?_;(with_reducible refine(pancake_OrderTurns.calls _ _ t627 t630 t631 _ ?side1 ?side2 A5.out).mono ?_);(case side1=>repeat(first|exact(Kd.R_reads' HO629.out).2.2|(with_reducible refine Kd.C_alloc ?_ _)|(with_reducible refine Kd.C_drewN ?_ _)|(with_reducible refine Kd.C_drew ?_)));(case side2=>exact(Kd.R_reads' HO629.out).2.1);rintro e w17 ⟨v632,rfl,ho0,hb⟩;refine⟨_,rfl,?_⟩;have n0_:=Aside0.mk (Kd.R_below (tR HO629.out) hb);have n1_:=Aside0.mk (Kd.R_lower ho0 (below_size (tB HB.out)));have n2_:=Aside0.mk (below_step (tB HB.out) hb);clear HO629;clear HB;have HO629:=n0_;have HO633:=n1_;have HB:=n2_;clear n0_ n1_ n2_;(try clear hb);(try clear hb2);(try clear hk);(try clear hi);(try clear ho0);obtain⟨Ao18,co18,eo18⟩:=Kd.R_slice HO633.out;subst eo18))
    go_ret;exact⟨by first|rfl|(simp[errW_none,errW_some]<;>rfl)|(simp[*,errW_none,errW_some]<;>rfl),by repeat(first|(with_reducible first|exact HB.out|apply below_alloc|apply pw_below_drewN|apply below_drew1)|exact HB.out)⟩
  ·rw[if_neg c7]at H;have c7b0:(t631==1)=false:=beq_eq_false_iff_ne.mpr c7;have c7b1:(t631 !=1)=true:=bne_iff_ne.mpr c7;obtain rfl:=Option.some.inj H
   go_enter Try.func14,Try.ntmps14
   go_wp2_with (first|((with_reducible refine gate_callee (f:=21) rfl ?_);refine goesL_ (some 10) rfl rfl Try.func21 tK rfl #[.int .i64 a0, .int .i64 8] rfl tM ?_;(with_reducible refine(bibelotlaw07_many.calls a0 8 t626 _ A3.out).mono ?_);rintro e w' ⟨rfl,⟨nd,rfl⟩⟩;refine⟨_,rfl,?_⟩)|((with_reducible refine gate_callee (f:=27) rfl ?_);refine goesL_ (some 13) rfl rfl Try.func27 tK rfl #[.slice A1 l1.length c1, .int .i64 t626, .bool true] rfl tM ?_;(with_reducible refine(bibelotlaw07_row.calls _ _ l1 t626 true t627 _ ?side1 ?side2 A4.out).mono ?_);(case side1=>repeat(first|exact HR1.out|(with_reducible refine Kd.C_alloc ?_ _)|(with_reducible refine Kd.C_drewN ?_ _)|(with_reducible refine Kd.C_drew ?_)));(case side2=>exact HC1.out);rintro e w19 ⟨v628,rfl,ho0,hb⟩;refine⟨_,rfl,?_⟩;have n0_:=Aside0.mk (Kd.R_lower ho0 (below_size (tB HB.out)));have n1_:=Aside0.mk (below_step (tB HB.out) hb);clear HB;have HO629:=n0_;have HB:=n1_;clear n0_ n1_;(try clear hb);(try clear hb2);(try clear hk);(try clear hi);(try clear ho0);obtain⟨Ao20,co20,eo20⟩:=Kd.R_slice HO629.out;subst eo20)|((with_reducible refine gate_callee (f:=50) rfl ?_);refine goesL_ (some 16) rfl rfl Try.func50 tK rfl #[.slice Ao20 t627.length co20] rfl tM ?_;(with_reducible refine(pancake_OrderTurns.calls _ _ t627 t630 t631 _ ?side1 ?side2 A5.out).mono ?_);(case side1=>repeat(first|exact(Kd.R_reads' HO629.out).2.2|(with_reducible refine Kd.C_alloc ?_ _)|(with_reducible refine Kd.C_drewN ?_ _)|(with_reducible refine Kd.C_drew ?_)));(case side2=>exact(Kd.R_reads' HO629.out).2.1);rintro e w21 ⟨v632,rfl,ho0,hb⟩;refine⟨_,rfl,?_⟩;have n0_:=Aside0.mk (Kd.R_below (tR HO629.out) hb);have n1_:=Aside0.mk (Kd.R_lower ho0 (below_size (tB HB.out)));have n2_:=Aside0.mk (below_step (tB HB.out) hb);clear HO629;clear HB;have HO629:=n0_;have HO633:=n1_;have HB:=n2_;clear n0_ n1_ n2_;(try clear hb);(try clear hb2);(try clear hk);(try clear hi);(try clear ho0)))
   go_ret;exact⟨by first|rfl|(simp[errW_none,errW_some]<;>rfl)|(simp[*,errW_none,errW_some]<;>rfl),by repeat(first|(with_reducible first|exact HB.out|apply below_alloc|apply pw_below_drewN|apply below_drew1)|exact HB.out)⟩
 ·rw[if_neg c6]at H;have c6b0:decide (6< t626)=false:=decide_eq_false c6;clear c6;have HC22:=Aside0.mk H;clear H
  go_enter Try.func14,Try.ntmps14
  go_upto_region 6 with(first|((with_reducible refine gate_callee (f:=21) rfl ?_);refine goesL_ (some 10) rfl rfl Try.func21 tK rfl #[.int .i64 a0, .int .i64 8] rfl tM ?_;(with_reducible refine(bibelotlaw07_many.calls a0 8 t626 _ A3.out).mono ?_);rintro e w' ⟨rfl,⟨nd,rfl⟩⟩;refine⟨_,rfl,?_⟩)|((with_reducible refine gate_callee (f:=27) rfl ?_);refine goesL_ (some 13) rfl rfl Try.func27 tK rfl #[.slice A1 l1.length c1, .int .i64 t626, .bool true] rfl tM ?_;(with_reducible refine(bibelotlaw07_row.calls _ _ l1 t626 true t627 _ ?side1 ?side2 A4.out).mono ?_);(case side1=>repeat(first|exact HR1.out|(with_reducible refine Kd.C_alloc ?_ _)|(with_reducible refine Kd.C_drewN ?_ _)|(with_reducible refine Kd.C_drew ?_)));(case side2=>exact HC1.out);rintro e w23 ⟨v628,rfl,ho0,hb⟩;refine⟨_,rfl,?_⟩;have n0_:=Aside0.mk (Kd.R_lower ho0 (below_size (tB HB.out)));have n1_:=Aside0.mk (below_step (tB HB.out) hb);clear HB;have HO629:=n0_;have HB:=n1_;clear n0_ n1_;(try clear hb);(try clear hb2);(try clear hk);(try clear hi);(try clear ho0);obtain⟨Ao24,co24,eo24⟩:=Kd.R_slice HO629.out;subst eo24)|((with_reducible refine gate_callee (f:=50) rfl ?_);refine goesL_ (some 16) rfl rfl Try.func50 tK rfl #[.slice Ao24 t627.length co24] rfl tM ?_;(with_reducible refine(pancake_OrderTurns.calls _ _ t627 t630 t631 _ ?side1 ?side2 A5.out).mono ?_);(case side1=>repeat(first|exact(Kd.R_reads' HO629.out).2.2|(with_reducible refine Kd.C_alloc ?_ _)|(with_reducible refine Kd.C_drewN ?_ _)|(with_reducible refine Kd.C_drew ?_)));(case side2=>exact(Kd.R_reads' HO629.out).2.1);rintro e w25 ⟨v632,rfl,ho0,hb⟩;refine⟨_,rfl,?_⟩;have n0_:=Aside0.mk (Kd.R_below (tR HO629.out) hb);have n1_:=Aside0.mk (Kd.R_lower ho0 (below_size (tB HB.out)));have n2_:=Aside0.mk (below_step (tB HB.out) hb);clear HO629;clear HB;have HO629:=n0_;have HO633:=n1_;have HB:=n2_;clear n0_ n1_ n2_;(try clear hb);(try clear hb2);(try clear hk);(try clear hi);(try clear ho0)))
  (try simp only[Act.put,List.setIfInBounds_toArray,List.set_cons_zero,List.set_cons_succ])
  go_cut [39] (fun v39 wc=> ∃(kq:Nat) (x39_21:Bool),v39= .bool x39_21∧Aside0 (bibelotlaw07_PancakeOrderTurns.j0 kq t626 t627 t630 x39_21=some r)∧Aside0 (kq≤k)∧Aside0 (Kd.R (Kd.int .i64) 3 wc w.heap.size (fun _=>True) (.slice Ao24 t627.length co24) t627)∧Aside0 (Kd.R k57 57 wc w.heap.size (fun _=>True) v632 t630)∧Aside0 (Below w.heap.size w wc))
  case first=>
   have H:=HC22.out;clear HC22;by_cases c26:t631=0
   ·rw[if_pos c26]at H;have c26b0:(t631==0)=true:=beq_iff_eq.mpr c26;have c26b1:(t631 !=0)=false:=bne_eq_false_iff_eq.mpr c26;clear c26
    (first|rw[c26b0]|(simp only[i64_w,i32_w];rw[c26b0])|skip)
    replace H:=Option.bind_eq_some_iff.mp H;obtain⟨t635,A270,H⟩:=H;replace H:(bibelotlaw07_PancakeOrderTurns.j0 k t626 t627 t630 ((t630.length:Int) !=t635))=some r:=H;have A27:=Aside0.mk A270;clear A270;have H':=Aside0.mk H;clear H;obtain⟨Ao28,co28,eo28⟩:=Kd.R_slice HO633.out;subst eo28
    go_wp2_with (first|(go_at_call 25;(with_reducible refine(bibelotref07_Distance.calls k _ _ t627 t635 _ ?side1 ?side2 A27.out).mono ?_);(case side1=>repeat(first|exact(Kd.R_reads' HO629.out).2.2|(with_reducible refine Kd.C_alloc ?_ _)|(with_reducible refine Kd.C_drewN ?_ _)|(with_reducible refine Kd.C_drew ?_)));(case side2=>exact(Kd.R_reads' HO629.out).2.1);rintro e w29 ⟨rfl,hb⟩;have n0_:=Aside0.mk (Kd.R_below (tR HO629.out) hb);have n1_:=Aside0.mk (Kd.R_below (tR HO633.out) hb);have n2_:=Aside0.mk (below_step (tB HB.out) hb);clear HO629;clear HO633;clear HB;have HO629:=n0_;have HO633:=n1_;have HB:=n2_;clear n0_ n1_ n2_;(try clear hb);(try clear hb2);(try clear hk);(try clear hi)))
    go_meet
    case rel=>exact⟨_,(((t630.length:Int) !=t635)),tF,H',⟨by first|omega|exact Nat.le_refl _⟩,⟨by(with_reducible repeat(first|apply Kd.R_alloc|apply Kd.R_drewN|apply Kd.R_drew));exact HO629.out⟩,⟨by(with_reducible repeat(first|apply Kd.R_alloc|apply Kd.R_drewN|apply Kd.R_drew));exact HO633.out⟩,⟨by repeat(first|(with_reducible first|exact HB.out|apply below_alloc|apply pw_below_drewN|apply below_drew1)|exact HB.out)⟩⟩
   ·rw[if_neg c26]at H;have c26b0:(t631==0)=false:=beq_eq_false_iff_ne.mpr c26;have c26b1:(t631 !=0)=true:=bne_iff_ne.mpr c26
    (first|rw[c26b0]|(simp only[i64_w,i32_w];rw[c26b0])|skip)
    have H':=Aside0.mk H;clear H;go_wp2
    go_meet
    case rel=>exact⟨_,(true),tF,H',⟨by first|omega|exact Nat.le_refl _⟩,⟨by(with_reducible repeat(first|apply Kd.R_alloc|apply Kd.R_drewN|apply Kd.R_drew));exact HO629.out⟩,⟨by(with_reducible repeat(first|apply Kd.R_alloc|apply Kd.R_drewN|apply Kd.R_drew));exact HO633.out⟩,⟨by repeat(first|(with_reducible first|exact HB.out|apply below_alloc|apply pw_below_drewN|apply below_drew1)|exact HB.out)⟩⟩
  case rest=>
   clear HC22;obtain⟨kq,x39_21,rfl,HA,HJ21,HO_5,HO_6,HB⟩:=hcut;cases kq with
   |zero=>exact absurd HA.out (by simp[bibelotlaw07_PancakeOrderTurns.j0])
   | succ kj21=>
    have H:=HA.out;clear HA;simp only[bibelotlaw07_PancakeOrderTurns.j0]at H;by_cases c30:x39_21=true
    ·subst c30;have H1:(some false)=some r:=by rw[if_pos rfl]at H;exact H
     clear H;have H:=H1;clear H1;obtain rfl:=Option.some.inj H;go_wp2;go_ret;exact⟨by first|rfl|(simp[errW_none,errW_some]<;>rfl)|(simp[*,errW_none,errW_some]<;>rfl),by repeat(first|(with_reducible first|exact HB.out|apply below_alloc|apply pw_below_drewN|apply below_drew1)|exact HB.out)⟩
    ·replace c30:=Bool.eq_false_iff.mpr c30;subst c30;have H1:(bibelotlaw07_PancakeOrderTurns.l0 kj21 t626 t627 t630 0)=some r:=by rw[if_neg (show ¬(false=true)by decide)]at H;exact H
     clear H;have H:=H1;clear H1;have H':=Aside0.mk H;clear H;go_wp2
     go_loopg [5,8] kj21 (fun kq v5 v8 w'=> ∃(x5_2:List Int) (x8_2:Int),v8= .int .i64 x8_2∧Aside0 (bibelotlaw07_PancakeOrderTurns.l0 kq t626 x5_2 t630 x8_2=some r)∧Aside0 (kq≤kj21)∧Aside0 (Kd.R (Kd.int .i64) 3 w' w.heap.size (fun _=>True) v5 x5_2)∧Aside0 (Kd.R k57 57 w' w.heap.size (fun _=>True) v632 t630)∧Aside0 (Below w.heap.size w w'))
     case atStart=>exact⟨(t627),(0),tF,H',⟨Nat.le_refl _⟩,⟨by(with_reducible repeat(first|apply Kd.R_alloc|apply Kd.R_drewN|apply Kd.R_drew));exact HO_5.out⟩,⟨by(with_reducible repeat(first|apply Kd.R_alloc|apply Kd.R_drewN|apply Kd.R_drew));exact HO_6.out⟩,⟨by repeat(first|(with_reducible first|exact HB.out|apply below_alloc|apply pw_below_drewN|apply below_drew1)|exact HB.out)⟩⟩
     case round=>
      clear H';obtain⟨x5_2,x8_2,rfl,HA,HK2,HO_5,HO_6,HB⟩:=hrel;cases gk with
      |zero=>exact absurd HA.out (by simp[bibelotlaw07_PancakeOrderTurns.l0])
      | succ k2=>
       have H:=HA.out;clear HA;simp only[bibelotlaw07_PancakeOrderTurns.l0]at H;by_cases c31:x8_2< (t630.length:Int)
       ·rw[if_pos c31]at H;have c31b0:decide (x8_2< (t630.length:Int))=true:=decide_eq_true c31;clear c31;by_cases c32:0≤x8_2;rotate_left
        ·rw[if_neg c32]at H;exact absurd H tS
        rw[if_pos c32]at H;have c32b0:decide (0≤x8_2)=true:=decide_eq_true c32;clear c32;by_cases c33:((rd_T57 t630 x8_2).f0)< 0
        ·rw[if_pos c33]at H;have c33b0:decide (((rd_T57 t630 x8_2).f0)< 0)=true:=decide_eq_true c33;clear c33;obtain rfl:=Option.some.inj H;obtain⟨Ao34,co34,eo34⟩:=Kd.R_slice HO_6.out;subst eo34;(try go_wp2);have n0_:=Aside0.mk (Kd.R_drew HO_5.out);have n1_:=Aside0.mk (Kd.R_drew HO_6.out);have n2_:=Aside0.mk (below_drew1 HB.out);clear HO_5;clear HO_6;clear HB;have HO_5:=n0_;have HO_6:=n1_;have HB:=n2_;clear n0_ n1_ n2_;have p636:0≤(x8_2:Int):=of_decide_eq_true tA;have q636:x8_2< (t630.length:Int):=of_decide_eq_true tA;obtain⟨ad636,e636,hx636_0,hx636_1⟩:=at_T57 (Kd.R_reads' HO_6.out).2.2 x8_2 p636 q636;cases e636;replace p636:=eq_true p636;replace q636:=eq_true q636;refine start_ (n:=28) (S:=fun w'=>w'.cell? (ad636.add ((x8_2).toNat*2))=some (.int .i64 ((rd_T57 t630 x8_2).f0))∧w'.cell? ⟨(ad636.add ((x8_2).toNat*2)).block,(ad636.add ((x8_2).toNat*2)).off+1,none⟩=some (.int .i64 ((rd_T57 t630 x8_2).f1))) (ds:= []) #[false,false,false,false,false,false,false,false,false,false,false,false,false,false,false,false,false,false,false,false,false,false,false,false,false,false,false,false] tK rfl rfl ⟨hx636_0,hx636_1⟩ (fun hHeld=>?_);refine with_tabW bibelotlaw07_PancakeOrderTurns.tab11 bibelotlaw07_PancakeOrderTurns.bits11 (fun HT_ HW_=>?_);generalize wr.drew=w35 at HO_5 HO_6 HB hx636_0 hx636_1 hHeld ⊢;refine puG 0 (some 46) HT_.out ?_;refine puG 1 (some 47) HT_.out ?_;refine puG 2 (some 48) HT_.out ?_;refine puG 3 (some 49) HT_.out ?_
         refine take_ (i:=4) (N:=some 50) (v:=?_) (a':=?_) #[true,true,true,true,true,false,false,false,false,false,false,false,false,false,false,false,false,false,false,false,false,false,false,false,false,false,false,false] rfl rfl (take_ofW HT_.out HW_.out tK) (fun _ _ _ h=>h) (Or.inl ⟨by rfl,?_⟩) hHeld ?_ ?_;rotate_left
         ·rintro w' ⟨s0,s1⟩;go_simp;with_reducible rfl
         rotate_left
         ·simp only[Act.put,List.setIfInBounds_toArray,List.set_cons_zero,List.set_cons_succ,i64_w,i32_w];rfl
         refine puG 5 (some 51) HT_.out ?_;refine puG 6 (some 52) HT_.out ?_;refine puH 7 (some 53) HT_.out ?_;refine puH 8 (some 54) HT_.out ?_;refine puH 9 (some 55) HT_.out ?_;refine puH 10 (some 56) HT_.out ?_;refine puH 11 (some 57) HT_.out ?_;refine puH 12 (some 58) HT_.out ?_;refine puH 13 (some 59) HT_.out ?_;refine puH 14 (some 60) HT_.out ?_;refine puH 15 (some 61) HT_.out ?_;refine puH 16 (some 62) HT_.out ?_;refine puH 17 (some 63) HT_.out ?_;refine puG 18 (some 64) HT_.out ?_;refine puG 19 (some 65) HT_.out ?_;refine puH 20 (some 66) HT_.out ?_;refine puH 21 (some 67) HT_.out ?_;refine puH 22 (some 68) HT_.out ?_;refine puH 23 (some 69) HT_.out ?_;refine puH 24 (some 70) HT_.out ?_;refine puH 25 (some 71) HT_.out ?_;refine puH 26 (some 72) HT_.out ?_;refine puG 27 (some 73) HT_.out ?_;refine done_ (done_of HT_.out tK) ?_;(try go_wp2);go_ret;exact⟨by first|rfl|(simp[errW_none,errW_some]<;>rfl)|(simp[*,errW_none,errW_some]<;>rfl),by repeat(first|(with_reducible first|exact HB.out|apply below_alloc|apply pw_below_drewN|apply below_drew1)|exact HB.out)⟩
        ·rw[if_neg c33]at H;have c33b0:decide (((rd_T57 t630 x8_2).f0)< 0)=false:=decide_eq_false c33;clear c33;by_cases c36:((rd_T57 t630 x8_2).f0)>((rd_T57 t630 x8_2).f1)
         ·rw[if_pos c36]at H;have c36b0:decide (((rd_T57 t630 x8_2).f1)< ((rd_T57 t630 x8_2).f0))=true:=decide_eq_true c36;clear c36;obtain rfl:=Option.some.inj H;obtain⟨Ao37,co37,eo37⟩:=Kd.R_slice HO_6.out;subst eo37;(try go_wp2);have n0_:=Aside0.mk (Kd.R_drew HO_5.out);have n1_:=Aside0.mk (Kd.R_drew HO_6.out);have n2_:=Aside0.mk (below_drew1 HB.out);clear HO_5;clear HO_6;clear HB;have HO_5:=n0_;have HO_6:=n1_;have HB:=n2_;clear n0_ n1_ n2_;have p636:0≤(x8_2:Int):=of_decide_eq_true tA;have q636:x8_2< (t630.length:Int):=of_decide_eq_true tA;obtain⟨ad636,e636,hx636_0,hx636_1⟩:=at_T57 (Kd.R_reads' HO_6.out).2.2 x8_2 p636 q636;cases e636;replace p636:=eq_true p636;replace q636:=eq_true q636;have p637:0≤(x8_2:Int):=of_decide_eq_true tA;have q637:x8_2< (t630.length:Int):=of_decide_eq_true tA;obtain⟨ad637,e637,hx637_0,hx637_1⟩:=at_T57 (Kd.R_reads' HO_6.out).2.2 x8_2 p637 q637;obtain rfl:ad636=ad637:=(by injection e637);replace p637:=eq_true p637;replace q637:=eq_true q637;have p638:0≤(x8_2:Int):=of_decide_eq_true tA;have q638:x8_2< (t630.length:Int):=of_decide_eq_true tA;obtain⟨ad638,e638,hx638_0,hx638_1⟩:=at_T57 (Kd.R_reads' HO_6.out).2.2 x8_2 p638 q638;obtain rfl:ad636=ad638:=(by injection e638);replace p638:=eq_true p638;replace q638:=eq_true q638
          refine start_ (n:=28) (S:=fun w'=>w'.cell? (ad636.add ((x8_2).toNat*2))=some (.int .i64 ((rd_T57 t630 x8_2).f0))∧w'.cell? ⟨(ad636.add ((x8_2).toNat*2)).block,(ad636.add ((x8_2).toNat*2)).off+1,none⟩=some (.int .i64 ((rd_T57 t630 x8_2).f1))∧w'.cell? (ad636.add ((x8_2).toNat*2))=some (.int .i64 ((rd_T57 t630 x8_2).f0))∧w'.cell? ⟨(ad636.add ((x8_2).toNat*2)).block,(ad636.add ((x8_2).toNat*2)).off+1,none⟩=some (.int .i64 ((rd_T57 t630 x8_2).f1))∧w'.cell? (ad636.add ((x8_2).toNat*2))=some (.int .i64 ((rd_T57 t630 x8_2).f0))∧w'.cell? ⟨(ad636.add ((x8_2).toNat*2)).block,(ad636.add ((x8_2).toNat*2)).off+1,none⟩=some (.int .i64 ((rd_T57 t630 x8_2).f1))) (ds:= []) #[false,false,false,false,false,false,false,false,false,false,false,false,false,false,false,false,false,false,false,false,false,false,false,false,false,false,false,false] tK rfl rfl ⟨hx636_0,hx636_1,hx637_0,hx637_1,hx638_0,hx638_1⟩ (fun hHeld=>?_);refine with_tabW bibelotlaw07_PancakeOrderTurns.tab11 bibelotlaw07_PancakeOrderTurns.bits11 (fun HT_ HW_=>?_);generalize wr.drew=w38 at HO_5 HO_6 HB hx636_0 hx636_1 hx637_0 hx637_1 hx638_0 hx638_1 hHeld ⊢;refine puG 0 (some 46) HT_.out ?_;refine puG 1 (some 47) HT_.out ?_;refine puG 2 (some 48) HT_.out ?_;refine puG 3 (some 49) HT_.out ?_
          refine take_ (i:=4) (N:=some 50) (v:=?_) (a':=?_) #[true,true,true,true,true,false,false,false,false,false,false,false,false,false,false,false,false,false,false,false,false,false,false,false,false,false,false,false] rfl rfl (take_ofW HT_.out HW_.out tK) (fun _ _ _ h=>h) (Or.inl ⟨by rfl,?_⟩) hHeld ?_ ?_;rotate_left
          ·rintro w' ⟨s0,s1,s2,s3,s4,s5⟩;go_simp;with_reducible rfl
          rotate_left
          ·simp only[Act.put,List.setIfInBounds_toArray,List.set_cons_zero,List.set_cons_succ,i64_w,i32_w];rfl
          refine puG 5 (some 51) HT_.out ?_;refine puG 6 (some 52) HT_.out ?_;refine puG 7 (some 53) HT_.out ?_;refine puG 8 (some 54) HT_.out ?_;refine puG 9 (some 55) HT_.out ?_;refine puG 10 (some 56) HT_.out ?_;refine puG 12 (some 58) HT_.out ?_;refine puG 13 (some 59) HT_.out ?_;refine puG 14 (some 60) HT_.out ?_;refine puG 15 (some 61) HT_.out ?_;refine take_ (i:=11) (N:=some 57) (v:=?_) (a':=?_) #[true,true,true,true,true,true,true,true,true,true,true,true,true,true,true,true,false,false,false,false,false,false,false,false,false,false,false,false] rfl rfl (take_ofW HT_.out HW_.out tK) (fun _ _ _ h=>h) (Or.inl ⟨by rfl,?_⟩) hHeld ?_ ?_;rotate_left
          ·rintro w' ⟨s0,s1,s2,s3,s4,s5⟩;go_simp;with_reducible rfl
          rotate_left
          ·simp only[Act.put,List.setIfInBounds_toArray,List.set_cons_zero,List.set_cons_succ,i64_w,i32_w];rfl
          refine take_ (i:=16) (N:=some 62) (v:=?_) (a':=?_) #[true,true,true,true,true,true,true,true,true,true,true,true,true,true,true,true,true,false,false,false,false,false,false,false,false,false,false,false] rfl rfl (take_ofW HT_.out HW_.out tK) (fun _ _ _ h=>h) (Or.inl ⟨by rfl,?_⟩) hHeld ?_ ?_;rotate_left
          ·rintro w' ⟨s0,s1,s2,s3,s4,s5⟩;go_simp;with_reducible rfl
          rotate_left
          ·simp only[Act.put,List.setIfInBounds_toArray,List.set_cons_zero,List.set_cons_succ,i64_w,i32_w];rfl
          refine puG 17 (some 63) HT_.out ?_;refine puG 18 (some 64) HT_.out ?_;refine puG 19 (some 65) HT_.out ?_;refine puH 20 (some 66) HT_.out ?_;refine puH 21 (some 67) HT_.out ?_;refine puH 22 (some 68) HT_.out ?_;refine puH 23 (some 69) HT_.out ?_;refine puH 24 (some 70) HT_.out ?_;refine puH 25 (some 71) HT_.out ?_;refine puH 26 (some 72) HT_.out ?_;refine puG 27 (some 73) HT_.out ?_;refine done_ (done_of HT_.out tK) ?_;(try go_wp2);go_ret;exact⟨by first|rfl|(simp[errW_none,errW_some]<;>rfl)|(simp[*,errW_none,errW_some]<;>rfl),by repeat(first|(with_reducible first|exact HB.out|apply below_alloc|apply pw_below_drewN|apply below_drew1)|exact HB.out)⟩
         ·rw[if_neg c36]at H;have c36b0:decide (((rd_T57 t630 x8_2).f1)< ((rd_T57 t630 x8_2).f0))=false:=decide_eq_false c36;clear c36;by_cases c39:((rd_T57 t630 x8_2).f1)≥t626
          ·rw[if_pos c39]at H;have c39b0:decide (t626≤((rd_T57 t630 x8_2).f1))=true:=decide_eq_true c39;clear c39;obtain rfl:=Option.some.inj H;obtain⟨Ao40,co40,eo40⟩:=Kd.R_slice HO_6.out;subst eo40;(try go_wp2);have n0_:=Aside0.mk (Kd.R_drew HO_5.out);have n1_:=Aside0.mk (Kd.R_drew HO_6.out);have n2_:=Aside0.mk (below_drew1 HB.out);clear HO_5;clear HO_6;clear HB;have HO_5:=n0_;have HO_6:=n1_;have HB:=n2_;clear n0_ n1_ n2_;have p636:0≤(x8_2:Int):=of_decide_eq_true tA;have q636:x8_2< (t630.length:Int):=of_decide_eq_true tA;obtain⟨ad636,e636,hx636_0,hx636_1⟩:=at_T57 (Kd.R_reads' HO_6.out).2.2 x8_2 p636 q636;cases e636;replace p636:=eq_true p636;replace q636:=eq_true q636;have p637:0≤(x8_2:Int):=of_decide_eq_true tA;have q637:x8_2< (t630.length:Int):=of_decide_eq_true tA;obtain⟨ad637,e637,hx637_0,hx637_1⟩:=at_T57 (Kd.R_reads' HO_6.out).2.2 x8_2 p637 q637;obtain rfl:ad636=ad637:=(by injection e637);replace p637:=eq_true p637;replace q637:=eq_true q637;have p638:0≤(x8_2:Int):=of_decide_eq_true tA;have q638:x8_2< (t630.length:Int):=of_decide_eq_true tA;obtain⟨ad638,e638,hx638_0,hx638_1⟩:=at_T57 (Kd.R_reads' HO_6.out).2.2 x8_2 p638 q638;obtain rfl:ad636=ad638:=(by injection e638);replace p638:=eq_true p638;replace q638:=eq_true q638;have p639:0≤(x8_2:Int):=of_decide_eq_true tA;have q639:x8_2< (t630.length:Int):=of_decide_eq_true tA;obtain⟨ad639,e639,hx639_0,hx639_1⟩:=at_T57 (Kd.R_reads' HO_6.out).2.2 x8_2 p639 q639;obtain rfl:ad636=ad639:=(by injection e639)
           replace p639:=eq_true p639;replace q639:=eq_true q639;refine start_ (n:=28) (S:=fun w'=>w'.cell? (ad636.add ((x8_2).toNat*2))=some (.int .i64 ((rd_T57 t630 x8_2).f0))∧w'.cell? ⟨(ad636.add ((x8_2).toNat*2)).block,(ad636.add ((x8_2).toNat*2)).off+1,none⟩=some (.int .i64 ((rd_T57 t630 x8_2).f1))∧w'.cell? (ad636.add ((x8_2).toNat*2))=some (.int .i64 ((rd_T57 t630 x8_2).f0))∧w'.cell? ⟨(ad636.add ((x8_2).toNat*2)).block,(ad636.add ((x8_2).toNat*2)).off+1,none⟩=some (.int .i64 ((rd_T57 t630 x8_2).f1))∧w'.cell? (ad636.add ((x8_2).toNat*2))=some (.int .i64 ((rd_T57 t630 x8_2).f0))∧w'.cell? ⟨(ad636.add ((x8_2).toNat*2)).block,(ad636.add ((x8_2).toNat*2)).off+1,none⟩=some (.int .i64 ((rd_T57 t630 x8_2).f1))∧w'.cell? (ad636.add ((x8_2).toNat*2))=some (.int .i64 ((rd_T57 t630 x8_2).f0))∧w'.cell? ⟨(ad636.add ((x8_2).toNat*2)).block,(ad636.add ((x8_2).toNat*2)).off+1,none⟩=some (.int .i64 ((rd_T57 t630 x8_2).f1))) (ds:= []) #[false,false,false,false,false,false,false,false,false,false,false,false,false,false,false,false,false,false,false,false,false,false,false,false,false,false,false,false] tK rfl rfl ⟨hx636_0,hx636_1,hx637_0,hx637_1,hx638_0,hx638_1,hx639_0,hx639_1⟩ (fun hHeld=>?_);refine with_tabW bibelotlaw07_PancakeOrderTurns.tab11 bibelotlaw07_PancakeOrderTurns.bits11 (fun HT_ HW_=>?_);generalize wr.drew=w41 at HO_5 HO_6 HB hx636_0 hx636_1 hx637_0 hx637_1 hx638_0 hx638_1 hx639_0 hx639_1 hHeld ⊢;refine puG 0 (some 46) HT_.out ?_;refine puG 1 (some 47) HT_.out ?_
           refine puG 2 (some 48) HT_.out ?_;refine puG 3 (some 49) HT_.out ?_;refine take_ (i:=4) (N:=some 50) (v:=?_) (a':=?_) #[true,true,true,true,true,false,false,false,false,false,false,false,false,false,false,false,false,false,false,false,false,false,false,false,false,false,false,false] rfl rfl (take_ofW HT_.out HW_.out tK) (fun _ _ _ h=>h) (Or.inl ⟨by rfl,?_⟩) hHeld ?_ ?_;rotate_left
           ·rintro w' ⟨s0,s1,s2,s3,s4,s5,s6,s7⟩;go_simp;with_reducible rfl
           rotate_left
           ·simp only[Act.put,List.setIfInBounds_toArray,List.set_cons_zero,List.set_cons_succ,i64_w,i32_w];rfl
           refine puG 5 (some 51) HT_.out ?_;refine puG 6 (some 52) HT_.out ?_;refine puG 7 (some 53) HT_.out ?_;refine puG 8 (some 54) HT_.out ?_;refine puG 9 (some 55) HT_.out ?_;refine puG 10 (some 56) HT_.out ?_;refine puG 12 (some 58) HT_.out ?_;refine puG 13 (some 59) HT_.out ?_;refine puG 14 (some 60) HT_.out ?_;refine puG 15 (some 61) HT_.out ?_;refine take_ (i:=11) (N:=some 57) (v:=?_) (a':=?_) #[true,true,true,true,true,true,true,true,true,true,true,true,true,true,true,true,false,false,false,false,false,false,false,false,false,false,false,false] rfl rfl (take_ofW HT_.out HW_.out tK) (fun _ _ _ h=>h) (Or.inl ⟨by rfl,?_⟩) hHeld ?_ ?_;rotate_left
           ·rintro w' ⟨s0,s1,s2,s3,s4,s5,s6,s7⟩;go_simp;with_reducible rfl
           rotate_left
           ·simp only[Act.put,List.setIfInBounds_toArray,List.set_cons_zero,List.set_cons_succ,i64_w,i32_w];rfl
           refine take_ (i:=16) (N:=some 62) (v:=?_) (a':=?_) #[true,true,true,true,true,true,true,true,true,true,true,true,true,true,true,true,true,false,false,false,false,false,false,false,false,false,false,false] rfl rfl (take_ofW HT_.out HW_.out tK) (fun _ _ _ h=>h) (Or.inl ⟨by rfl,?_⟩) hHeld ?_ ?_;rotate_left
           ·rintro w' ⟨s0,s1,s2,s3,s4,s5,s6,s7⟩;go_simp;with_reducible rfl
           rotate_left
           ·simp only[Act.put,List.setIfInBounds_toArray,List.set_cons_zero,List.set_cons_succ,i64_w,i32_w];rfl
           refine puG 17 (some 63) HT_.out ?_;refine puG 18 (some 64) HT_.out ?_;refine puG 19 (some 65) HT_.out ?_;refine puG 20 (some 66) HT_.out ?_;refine puG 21 (some 67) HT_.out ?_;refine puG 22 (some 68) HT_.out ?_;refine puG 23 (some 69) HT_.out ?_;refine puG 25 (some 71) HT_.out ?_;refine take_ (i:=24) (N:=some 70) (v:=?_) (a':=?_) #[true,true,true,true,true,true,true,true,true,true,true,true,true,true,true,true,true,true,true,true,true,true,true,true,true,true,false,false] rfl rfl (take_ofW HT_.out HW_.out tK) (fun _ _ _ h=>h) (Or.inl ⟨by rfl,?_⟩) hHeld ?_ ?_;rotate_left
           ·rintro w' ⟨s0,s1,s2,s3,s4,s5,s6,s7⟩;go_simp;with_reducible rfl
           rotate_left
           ·simp only[Act.put,List.setIfInBounds_toArray,List.set_cons_zero,List.set_cons_succ,i64_w,i32_w];rfl
           refine puG 26 (some 72) HT_.out ?_;refine puG 27 (some 73) HT_.out ?_;refine done_ (done_of HT_.out tK) ?_;(try go_wp2);go_ret;exact⟨by first|rfl|(simp[errW_none,errW_some]<;>rfl)|(simp[*,errW_none,errW_some]<;>rfl),by repeat(first|(with_reducible first|exact HB.out|apply below_alloc|apply pw_below_drewN|apply below_drew1)|exact HB.out)⟩
          ·rw[if_neg c39]at H;have c39b0:decide (t626≤((rd_T57 t630 x8_2).f1))=false:=decide_eq_false c39;clear c39;replace H:=Option.bind_eq_some_iff.mp H;obtain⟨t642,A420,H⟩:=H;replace H:(bibelotlaw07_PancakeOrderTurns.l0 k2 t626 t642 t630 (wrap64 (x8_2+1)))=some r:=H;have A42:=Aside0.mk A420;clear A420;have H':=Aside0.mk H;clear H;obtain⟨Ao43,co43,eo43⟩:=Kd.R_slice HO_6.out;subst eo43;(try go_wp2);have n0_:=Aside0.mk (Kd.R_drew HO_5.out);have n1_:=Aside0.mk (Kd.R_drew HO_6.out);have n2_:=Aside0.mk (below_drew1 HB.out);clear HO_5;clear HO_6;clear HB;have HO_5:=n0_;have HO_6:=n1_;have HB:=n2_;clear n0_ n1_ n2_;have p636:0≤(x8_2:Int):=of_decide_eq_true tA;have q636:x8_2< (t630.length:Int):=of_decide_eq_true tA;obtain⟨ad636,e636,hx636_0,hx636_1⟩:=at_T57 (Kd.R_reads' HO_6.out).2.2 x8_2 p636 q636;cases e636;replace p636:=eq_true p636;replace q636:=eq_true q636;have p637:0≤(x8_2:Int):=of_decide_eq_true tA;have q637:x8_2< (t630.length:Int):=of_decide_eq_true tA;obtain⟨ad637,e637,hx637_0,hx637_1⟩:=at_T57 (Kd.R_reads' HO_6.out).2.2 x8_2 p637 q637;obtain rfl:ad636=ad637:=(by injection e637);replace p637:=eq_true p637;replace q637:=eq_true q637;have p638:0≤(x8_2:Int):=of_decide_eq_true tA;have q638:x8_2< (t630.length:Int):=of_decide_eq_true tA;obtain⟨ad638,e638,hx638_0,hx638_1⟩:=at_T57 (Kd.R_reads' HO_6.out).2.2 x8_2 p638 q638;obtain rfl:ad636=ad638:=(by injection e638);replace p638:=eq_true p638;replace q638:=eq_true q638;have p639:0≤(x8_2:Int):=of_decide_eq_true tA
           have q639:x8_2< (t630.length:Int):=of_decide_eq_true tA;obtain⟨ad639,e639,hx639_0,hx639_1⟩:=at_T57 (Kd.R_reads' HO_6.out).2.2 x8_2 p639 q639;obtain rfl:ad636=ad639:=(by injection e639);replace p639:=eq_true p639;replace q639:=eq_true q639;refine start_ (n:=28) (S:=fun w'=>w'.cell? (ad636.add ((x8_2).toNat*2))=some (.int .i64 ((rd_T57 t630 x8_2).f0))∧w'.cell? ⟨(ad636.add ((x8_2).toNat*2)).block,(ad636.add ((x8_2).toNat*2)).off+1,none⟩=some (.int .i64 ((rd_T57 t630 x8_2).f1))∧w'.cell? (ad636.add ((x8_2).toNat*2))=some (.int .i64 ((rd_T57 t630 x8_2).f0))∧w'.cell? ⟨(ad636.add ((x8_2).toNat*2)).block,(ad636.add ((x8_2).toNat*2)).off+1,none⟩=some (.int .i64 ((rd_T57 t630 x8_2).f1))∧w'.cell? (ad636.add ((x8_2).toNat*2))=some (.int .i64 ((rd_T57 t630 x8_2).f0))∧w'.cell? ⟨(ad636.add ((x8_2).toNat*2)).block,(ad636.add ((x8_2).toNat*2)).off+1,none⟩=some (.int .i64 ((rd_T57 t630 x8_2).f1))∧w'.cell? (ad636.add ((x8_2).toNat*2))=some (.int .i64 ((rd_T57 t630 x8_2).f0))∧w'.cell? ⟨(ad636.add ((x8_2).toNat*2)).block,(ad636.add ((x8_2).toNat*2)).off+1,none⟩=some (.int .i64 ((rd_T57 t630 x8_2).f1))) (ds:= []) #[false,false,false,false,false,false,false,false,false,false,false,false,false,false,false,false,false,false,false,false,false,false,false,false,false,false,false,false] tK rfl rfl ⟨hx636_0,hx636_1,hx637_0,hx637_1,hx638_0,hx638_1,hx639_0,hx639_1⟩ (fun hHeld=>?_);refine with_tabW bibelotlaw07_PancakeOrderTurns.tab11 bibelotlaw07_PancakeOrderTurns.bits11 (fun HT_ HW_=>?_)
           generalize wr.drew=w44 at HO_5 HO_6 HB hx636_0 hx636_1 hx637_0 hx637_1 hx638_0 hx638_1 hx639_0 hx639_1 hHeld ⊢;refine puG 0 (some 46) HT_.out ?_;refine puG 1 (some 47) HT_.out ?_;refine puG 2 (some 48) HT_.out ?_;refine puG 3 (some 49) HT_.out ?_;refine take_ (i:=4) (N:=some 50) (v:=?_) (a':=?_) #[true,true,true,true,true,false,false,false,false,false,false,false,false,false,false,false,false,false,false,false,false,false,false,false,false,false,false,false] rfl rfl (take_ofW HT_.out HW_.out tK) (fun _ _ _ h=>h) (Or.inl ⟨by rfl,?_⟩) hHeld ?_ ?_;rotate_left
           ·rintro w' ⟨s0,s1,s2,s3,s4,s5,s6,s7⟩;go_simp;with_reducible rfl
           rotate_left
           ·simp only[Act.put,List.setIfInBounds_toArray,List.set_cons_zero,List.set_cons_succ,i64_w,i32_w];rfl
           refine puG 5 (some 51) HT_.out ?_;refine puG 6 (some 52) HT_.out ?_;refine puG 7 (some 53) HT_.out ?_;refine puG 8 (some 54) HT_.out ?_;refine puG 9 (some 55) HT_.out ?_;refine puG 10 (some 56) HT_.out ?_;refine puG 12 (some 58) HT_.out ?_;refine puG 13 (some 59) HT_.out ?_;refine puG 14 (some 60) HT_.out ?_;refine puG 15 (some 61) HT_.out ?_;refine take_ (i:=11) (N:=some 57) (v:=?_) (a':=?_) #[true,true,true,true,true,true,true,true,true,true,true,true,true,true,true,true,false,false,false,false,false,false,false,false,false,false,false,false] rfl rfl (take_ofW HT_.out HW_.out tK) (fun _ _ _ h=>h) (Or.inl ⟨by rfl,?_⟩) hHeld ?_ ?_;rotate_left
           ·rintro w' ⟨s0,s1,s2,s3,s4,s5,s6,s7⟩;go_simp;with_reducible rfl
           rotate_left
           ·simp only[Act.put,List.setIfInBounds_toArray,List.set_cons_zero,List.set_cons_succ,i64_w,i32_w];rfl
           refine take_ (i:=16) (N:=some 62) (v:=?_) (a':=?_) #[true,true,true,true,true,true,true,true,true,true,true,true,true,true,true,true,true,false,false,false,false,false,false,false,false,false,false,false] rfl rfl (take_ofW HT_.out HW_.out tK) (fun _ _ _ h=>h) (Or.inl ⟨by rfl,?_⟩) hHeld ?_ ?_;rotate_left
           ·rintro w' ⟨s0,s1,s2,s3,s4,s5,s6,s7⟩;go_simp;with_reducible rfl
           rotate_left
           ·simp only[Act.put,List.setIfInBounds_toArray,List.set_cons_zero,List.set_cons_succ,i64_w,i32_w];rfl
           refine puG 17 (some 63) HT_.out ?_;refine puG 18 (some 64) HT_.out ?_;refine puG 19 (some 65) HT_.out ?_;refine puG 20 (some 66) HT_.out ?_;refine puG 21 (some 67) HT_.out ?_;refine puG 22 (some 68) HT_.out ?_;refine puG 23 (some 69) HT_.out ?_;refine puG 25 (some 71) HT_.out ?_;refine take_ (i:=24) (N:=some 70) (v:=?_) (a':=?_) #[true,true,true,true,true,true,true,true,true,true,true,true,true,true,true,true,true,true,true,true,true,true,true,true,true,true,false,false] rfl rfl (take_ofW HT_.out HW_.out tK) (fun _ _ _ h=>h) (Or.inl ⟨by rfl,?_⟩) hHeld ?_ ?_;rotate_left
           ·rintro w' ⟨s0,s1,s2,s3,s4,s5,s6,s7⟩;go_simp;with_reducible rfl
           rotate_left
           ·simp only[Act.put,List.setIfInBounds_toArray,List.set_cons_zero,List.set_cons_succ,i64_w,i32_w];rfl
           refine puG 26 (some 72) HT_.out ?_;refine puG 27 (some 73) HT_.out ?_;refine done_ (done_of HT_.out tK) ?_;(try go_wp2);have n0_:=Aside0.mk (Kd.R_drew HO_5.out);have n1_:=Aside0.mk (Kd.R_drew HO_6.out);have n2_:=Aside0.mk (below_drew1 HB.out);clear HO_5;clear HO_6;clear HB;have HO_5:=n0_;have HO_6:=n1_;have HB:=n2_;clear n0_ n1_ n2_;have p640:0≤(x8_2:Int):=of_decide_eq_true tA;have q640:x8_2< (t630.length:Int):=of_decide_eq_true tA;obtain⟨ad640,e640,hx640_0,hx640_1⟩:=at_T57 (Kd.R_reads' HO_6.out).2.2 x8_2 p640 q640;obtain rfl:ad636=ad640:=(by injection e640);replace p640:=eq_true p640;replace q640:=eq_true q640;have p641:0≤(x8_2:Int):=of_decide_eq_true tA;have q641:x8_2< (t630.length:Int):=of_decide_eq_true tA;obtain⟨ad641,e641,hx641_0,hx641_1⟩:=at_T57 (Kd.R_reads' HO_6.out).2.2 x8_2 p641 q641;obtain rfl:ad636=ad641:=(by injection e641);replace p641:=eq_true p641;replace q641:=eq_true q641;obtain⟨Ao46,co46,eo46⟩:=Kd.R_slice HO_5.out
           (first|subst eo46|(injection eo46 with f1_ f2_ f3_;have f4_:=f1_.symm;have f5_:=f3_.symm;clear f1_ f2_ f3_;subst f4_;subst f5_))
           refine start_ (n:=13) (S:=fun w'=>w'.cell? (ad636.add ((x8_2).toNat*2))=some (.int .i64 ((rd_T57 t630 x8_2).f0))∧w'.cell? ⟨(ad636.add ((x8_2).toNat*2)).block,(ad636.add ((x8_2).toNat*2)).off+1,none⟩=some (.int .i64 ((rd_T57 t630 x8_2).f1))∧w'.cell? (ad636.add ((x8_2).toNat*2))=some (.int .i64 ((rd_T57 t630 x8_2).f0))∧w'.cell? ⟨(ad636.add ((x8_2).toNat*2)).block,(ad636.add ((x8_2).toNat*2)).off+1,none⟩=some (.int .i64 ((rd_T57 t630 x8_2).f1))) (ds:= []) #[false,false,false,false,false,false,false,false,false,false,false,false,false] tK rfl rfl ⟨hx640_0,hx640_1,hx641_0,hx641_1⟩ (fun hHeld=>?_);refine with_tabW bibelotlaw07_PancakeOrderTurns.tab13 bibelotlaw07_PancakeOrderTurns.bits13 (fun HT_ HW_=>?_);generalize w44.drew=w45 at HO_5 HO_6 HB hx640_0 hx640_1 hx641_0 hx641_1 hHeld ⊢;refine puG 0 (some 74) HT_.out ?_;refine puG 1 (some 75) HT_.out ?_;refine puG 2 (some 76) HT_.out ?_;refine puG 3 (some 77) HT_.out ?_;refine puG 4 (some 78) HT_.out ?_;refine puG 6 (some 80) HT_.out ?_;refine puG 7 (some 81) HT_.out ?_;refine puG 8 (some 82) HT_.out ?_;refine puG 9 (some 83) HT_.out ?_;refine take_ (i:=5) (N:=some 79) (v:=?_) (a':=?_) #[true,true,true,true,true,true,true,true,true,true,false,false,false] rfl rfl (take_ofW HT_.out HW_.out tK) (fun _ _ _ h=>h) (Or.inl ⟨by rfl,?_⟩) hHeld ?_ ?_;rotate_left
           ·rintro w' ⟨s0,s1,s2,s3⟩;go_simp;with_reducible rfl
           rotate_left
           ·simp only[Act.put,List.setIfInBounds_toArray,List.set_cons_zero,List.set_cons_succ,i64_w,i32_w];rfl
           refine take_ (i:=10) (N:=some 84) (v:=?_) (a':=?_) #[true,true,true,true,true,true,true,true,true,true,true,false,false] rfl rfl (take_ofW HT_.out HW_.out tK) (fun _ _ _ h=>h) (Or.inl ⟨by rfl,?_⟩) hHeld ?_ ?_;rotate_left
           ·rintro w' ⟨s0,s1,s2,s3⟩;go_simp;with_reducible rfl
           rotate_left
           ·simp only[Act.put,List.setIfInBounds_toArray,List.set_cons_zero,List.set_cons_succ,i64_w,i32_w];rfl
           refine one_ (i:=11) (N:=some 85) #[true,true,true,true,true,true,true,true,true,true,true,true,false] rfl rfl (one_of HT_.out tK) tD (fun K hK=>?_);refine goes_ Try.func46 tK rfl #[.slice Ao46 x5_2.length co46, .int .i64 ((rd_T57 t630 x8_2).f0), .int .i64 ((rd_T57 t630 x8_2).f1)] (by rfl) rfl rfl tM ?_;with_reducible refine(bibelotref07_Turn.calls k2 _ _ x5_2 ((rd_T57 t630 x8_2).f0) ((rd_T57 t630 x8_2).f1) t642 _ ?side1 ?side2 A42.out).mono ?_
           (case side1=>repeat(first|exact(Kd.R_reads' HO_5.out).2.2|(with_reducible refine Kd.C_alloc ?_ _)|(with_reducible refine Kd.C_drewN ?_ _)|(with_reducible refine Kd.C_drew ?_)))
           (case side2=>exact(Kd.R_reads' HO_5.out).2.1)
           rintro e w47 ⟨v643,rfl,ho0,hb⟩;have HS0_:=(hb.cell (World.block_lt_of_cell? _ _ (hHeld.1))).trans (hHeld.1);have HS1_:=(hb.cell (World.block_lt_of_cell? _ _ (hHeld.2.1))).trans (hHeld.2.1);have HS2_:=(hb.cell (World.block_lt_of_cell? _ _ (hHeld.2.2.1))).trans (hHeld.2.2.1);have HS3_:=(hb.cell (World.block_lt_of_cell? _ _ (hHeld.2.2.2))).trans (hHeld.2.2.2);refine⟨_,rfl,?_⟩;have n0_:=Aside0.mk (Kd.R_elder' (tR HO_5.out) (Kd.R_base ho0) hb);have n1_:=Aside0.mk (Kd.R_below (tR HO_6.out) hb);have n2_:=Aside0.mk (Kd.R_lower (Kd.R_new' ho0 (Kd.R_lt (tR HO_5.out))) (below_size (tB HB.out)));have n3_:=Aside0.mk (below_step (tB HB.out) hb);clear HO_5;clear HO_6;clear HB;have HO_5:=n0_;have HO_6:=n1_;have HO644:=n2_;have HB:=n3_;clear n0_ n1_ n2_ n3_
           (try clear hb)
           (try clear hb2)
           (try clear hk)
           (try clear hi)
           (try clear ho0)
           refine hK.out _ _ ⟨HS0_,HS1_,HS2_,HS3_⟩ (fun hHeld=>?_);clear hK K;refine norm_ (a':=?_) ?_ ?_;rotate_left
           ·show Act.put _ (some 85) _=_;simp only[Act.put,List.setIfInBounds_toArray,List.set_cons_zero,List.set_cons_succ,i64_w,i32_w];rfl
           refine puG 12 (some 5) HT_.out ?_;refine done_ (done_of HT_.out tK) ?_;try go_wp2
           go_roundg k2
           case measure=>have:=HJ21.out;have:=HK2.out;omega
           case rel=>exact⟨(t642),(wrap64 (x8_2+1)),tF,H',⟨by have:=HJ21.out;have:=HK2.out;omega⟩,⟨by(with_reducible repeat(first|apply Kd.R_alloc|apply Kd.R_drewN|apply Kd.R_drew));exact Kd.R_mono HO644.out (fun _ hk=>trivial)⟩,⟨by(with_reducible repeat(first|apply Kd.R_alloc|apply Kd.R_drewN|apply Kd.R_drew));exact HO_6.out⟩,⟨by repeat(first|(with_reducible first|exact HB.out|apply below_alloc|apply pw_below_drewN|apply below_drew1)|exact HB.out)⟩⟩
       ·rw[if_neg c31]at H;have c31b0:decide (x8_2< (t630.length:Int))=false:=decide_eq_false c31;clear c31;replace H:=Option.bind_eq_some_iff.mp H;obtain⟨t645,A480,H⟩:=H;replace H:((bibelotlaw07_ints.f k2 x5_2 t645).bind fun t648=>(if t648=true then((bibelotlaw07_awake.f).bind fun t649=>(some t649))else(some false)))=some r:=H;have A48:=Aside0.mk A480;clear A480;replace H:=Option.bind_eq_some_iff.mp H;obtain⟨t648,A490,H⟩:=H;replace H:(if t648=true then((bibelotlaw07_awake.f).bind fun t649=>(some t649))else(some false))=some r:=H;have A49:=Aside0.mk A490;clear A490;by_cases c50:t648=true
        ·subst c50;have H1:((bibelotlaw07_awake.f).bind fun t649=>(some t649))=some r:=by rw[if_pos rfl]at H;exact H
         clear H;have H:=H1;clear H1;replace H:=Option.bind_eq_some_iff.mp H;obtain⟨t649,A510,H⟩:=H;replace H:(some t649)=some r:=H;have A51:=Aside0.mk A510;clear A510;obtain rfl:=Option.some.inj H;obtain⟨Ao52,co52,eo52⟩:=Kd.R_slice HO_6.out;subst eo52
         go_wp2_with (first|((with_reducible refine gate_callee (f:=49) rfl ?_);refine goesL_ (some 88) rfl rfl Try.func49 tK rfl #[.int .i64 t626] rfl tM ?_;(with_reducible refine(bibelotref07_First.calls k2 t626 t645 _ A48.out).mono ?_);rintro e w53 ⟨v646,rfl,ho0,hb⟩;refine⟨_,rfl,?_⟩;have n0_:=Aside0.mk (Kd.R_elder' (tR HO_5.out) (Kd.R_base ho0) hb);have n1_:=Aside0.mk (Kd.R_below (tR HO_6.out) hb);have n2_:=Aside0.mk (Kd.R_lower (Kd.R_new' ho0 (Kd.R_lt (tR HO_5.out))) (below_size (tB HB.out)));have n3_:=Aside0.mk (below_step (tB HB.out) hb);clear HO_5;clear HO_6;clear HB;have HO_5:=n0_;have HO_6:=n1_;have HO647:=n2_;have HB:=n3_;clear n0_ n1_ n2_ n3_;(try clear hb);(try clear hb2);(try clear hk);(try clear hi);(try clear ho0);obtain⟨Ao54,co54,eo54⟩:=Kd.R_slice HO_5.out;subst eo54;obtain⟨Ao55,co55,eo55⟩:=Kd.R_slice HO647.out;subst eo55)|((with_reducible refine gate_callee (f:=29) rfl ?_);refine goesL_ (some 89) rfl rfl Try.func29 tK rfl #[.slice Ao54 x5_2.length co54, .slice Ao55 t645.length co55] rfl tM ?_;(with_reducible refine(bibelotlaw07_ints.calls k2 _ _ x5_2 _ _ t645 true _ ?side1 ?side2 ?side3 ?side4 A49.out).mono ?_);(case side1=>repeat(first|exact(Kd.R_reads' HO_5.out).2.2|(with_reducible refine Kd.C_alloc ?_ _)|(with_reducible refine Kd.C_drewN ?_ _)|(with_reducible refine Kd.C_drew ?_)));(case side2=>exact(Kd.R_reads' HO_5.out).2.1);(case side3=>repeat(first|exact(Kd.R_reads' HO647.out).2.2|(with_reducible refine Kd.C_alloc ?_ _)|(with_reducible refine Kd.C_drewN ?_ _)|(with_reducible refine Kd.C_drew ?_)));(case side4=>exact(Kd.R_reads' HO647.out).2.1);rintro e w' ⟨rfl,⟨nd,rfl⟩⟩;refine⟨_,rfl,?_⟩)|(go_at_call 26;(with_reducible refine(bibelotlaw07_awake.calls t649 _ A51.out).mono ?_);rintro e w56 ⟨rfl,hb⟩;have n0_:=Aside0.mk (Kd.R_below (tR HO_5.out) hb);have n1_:=Aside0.mk (Kd.R_below (tR HO_6.out) hb);have n2_:=Aside0.mk (Kd.R_below (tR HO647.out) hb);have n3_:=Aside0.mk (below_step (tB HB.out) hb);clear HO_5;clear HO_6;clear HO647;clear HB;have HO_5:=n0_;have HO_6:=n1_;have HO647:=n2_;have HB:=n3_;clear n0_ n1_ n2_ n3_;(try clear hb);(try clear hb2);(try clear hk);(try clear hi)))
         go_ret;exact⟨by first|rfl|(simp[errW_none,errW_some]<;>rfl)|(simp[*,errW_none,errW_some]<;>rfl),by repeat(first|(with_reducible first|exact HB.out|apply below_alloc|apply pw_below_drewN|apply below_drew1)|exact HB.out)⟩
        ·replace c50:=Bool.eq_false_iff.mpr c50;subst c50;have H1:(some false)=some r:=by rw[if_neg (show ¬(false=true)by decide)]at H;exact H
         clear H;have H:=H1;clear H1;obtain rfl:=Option.some.inj H;obtain⟨Ao57,co57,eo57⟩:=Kd.R_slice HO_6.out;subst eo57
         go_wp2_with (first|((with_reducible refine gate_callee (f:=49) rfl ?_);refine goesL_ (some 88) rfl rfl Try.func49 tK rfl #[.int .i64 t626] rfl tM ?_;(with_reducible refine(bibelotref07_First.calls k2 t626 t645 _ A48.out).mono ?_);rintro e w58 ⟨v646,rfl,ho0,hb⟩;refine⟨_,rfl,?_⟩;have n0_:=Aside0.mk (Kd.R_elder' (tR HO_5.out) (Kd.R_base ho0) hb);have n1_:=Aside0.mk (Kd.R_below (tR HO_6.out) hb);have n2_:=Aside0.mk (Kd.R_lower (Kd.R_new' ho0 (Kd.R_lt (tR HO_5.out))) (below_size (tB HB.out)));have n3_:=Aside0.mk (below_step (tB HB.out) hb);clear HO_5;clear HO_6;clear HB;have HO_5:=n0_;have HO_6:=n1_;have HO647:=n2_;have HB:=n3_;clear n0_ n1_ n2_ n3_;(try clear hb);(try clear hb2);(try clear hk);(try clear hi);(try clear ho0);obtain⟨Ao59,co59,eo59⟩:=Kd.R_slice HO_5.out;subst eo59;obtain⟨Ao60,co60,eo60⟩:=Kd.R_slice HO647.out;subst eo60)|((with_reducible refine gate_callee (f:=29) rfl ?_);refine goesL_ (some 89) rfl rfl Try.func29 tK rfl #[.slice Ao59 x5_2.length co59, .slice Ao60 t645.length co60] rfl tM ?_;(with_reducible refine(bibelotlaw07_ints.calls k2 _ _ x5_2 _ _ t645 false _ ?side1 ?side2 ?side3 ?side4 A49.out).mono ?_);(case side1=>repeat(first|exact(Kd.R_reads' HO_5.out).2.2|(with_reducible refine Kd.C_alloc ?_ _)|(with_reducible refine Kd.C_drewN ?_ _)|(with_reducible refine Kd.C_drew ?_)));(case side2=>exact(Kd.R_reads' HO_5.out).2.1);(case side3=>repeat(first|exact(Kd.R_reads' HO647.out).2.2|(with_reducible refine Kd.C_alloc ?_ _)|(with_reducible refine Kd.C_drewN ?_ _)|(with_reducible refine Kd.C_drew ?_)));(case side4=>exact(Kd.R_reads' HO647.out).2.1);rintro e w' ⟨rfl,⟨nd,rfl⟩⟩;refine⟨_,rfl,?_⟩))
         go_ret;exact⟨by first|rfl|(simp[errW_none,errW_some]<;>rfl)|(simp[*,errW_none,errW_some]<;>rfl),by repeat(first|(with_reducible first|exact HB.out|apply below_alloc|apply pw_below_drewN|apply below_drew1)|exact HB.out)⟩
def bibelotlaw07_PancakeOrderTurns.Pure:Prop:= ∀(a0:Int) (l1:List Int),(Lit.int .i64 a0).wf=true→l1.length≤maxLen→l1.length*8≤140737488351232→(∀x∈l1,(Lit.int .i64 x).wf=true)→ ∃k,bibelotlaw07_PancakeOrderTurns.f k a0 l1=some true
theorem bibelotlaw07_PancakeOrderTurns.walk (P:bibelotlaw07_PancakeOrderTurns.Pure) (a0:Int) (a1:Option Addr) (len1 cap1:Nat) (z1:List Int) (w:World) (w0:(Lit.int .i64 a0).wf=true) (w1:(a1=none∧len1=0∧cap1=0∧z1= [])∨ ∃x,a1=some x∧len1≤cap1∧cap1≤maxLen∧z1.length=cap1∧(∀i,i< z1.length→w.cell? (x.add i)=some (.int .i64 (z1.getD i 0)))∧ ∀n∈z1,(Lit.int .i64 n).wf=true) (y1:len1*8≤140737488351232):
  Calls Try.prog 14 #[.int .i64 a0, .slice a1 len1 cap1] w fun e w'=>e= .returned (.bool true)∧Below w.heap.size w w':=by
 obtain⟨l1,rfl,hr1,hm1,hw1,hc1⟩:=ReadsInt.ofRowC w1;obtain⟨k,h⟩:=P a0 l1 w0 hm1 y1 hw1;refine(bibelotlaw07_PancakeOrderTurns.calls k a0 _ _ l1 true w (Kd.C_of_reads (d:=(0:Int)) (h1:=fun _=>rfl) hr1) hc1 h).mono ?_;rintro e w' ⟨rfl,hd⟩;exact⟨rfl,hd⟩
end Go.Proofs.Ytepjhdblmghckaa.Q
namespace Go.Proofs.Ytepjhdblmghckaa.G
def Pt (M:Nat) (lab:Nat→Nat) (z u v:Nat):Prop:=(∃y,u< y∧y< v∧lab y=z)∧ ∃y,y< M∧(y< u∨v< y)∧lab y=z
def Smg (M:Nat) (lab:Nat→Nat) (z u v:Nat):Prop:= ¬Pt M lab z u v∧ ¬Pt M lab z v u
theorem Smg.symm {M:Nat} {lab:Nat→Nat} {z u v:Nat} (h:Smg M lab z u v):Smg M lab z v u:=⟨h.2,h.1⟩
theorem Smg.refl (M:Nat) (lab:Nat→Nat) (z u:Nat):Smg M lab z u u:=⟨fun⟨⟨y,h1,h2,_⟩,_⟩=>by omega,fun⟨⟨y,h1,h2,_⟩,_⟩=>by omega⟩
theorem Pt.lt {M:Nat} {lab:Nat→Nat} {z u v:Nat} (h:Pt M lab z u v):u< v:=by obtain⟨⟨y,h1,h2,_⟩,_⟩:=h;omega
theorem not_sm {M:Nat} {lab:Nat→Nat} {z u v:Nat} (h: ¬Smg M lab z u v):Pt M lab z u v∨Pt M lab z v u:=by
 by_cases h1:Pt M lab z u v
 ·exact .inl h1
 ·by_cases h2:Pt M lab z v u
  ·exact .inr h2
  ·exact absurd ⟨h1,h2⟩ h
theorem sm_of_lt {M:Nat} {lab:Nat→Nat} {z u v:Nat} (hlt:u< v) (h: ¬Pt M lab z u v):Smg M lab z u v:=⟨h,fun h2=>by have:=h2.lt;omega⟩
theorem pt_via {M:Nat} {lab:Nat→Nat} {z a b c:Nat} (ha:a< M) (hb:b< M) (hc:c< M) (hla:lab a≠z) (hlb:lab b≠z) (hlc:lab c≠z) (h:Pt M lab z a c): ¬Smg M lab z a b∨ ¬Smg M lab z b c:=by
 obtain⟨⟨y,h1,h2,h3⟩,y',h4,h5,h6⟩:=h;have hby:b≠y:=fun e=>hlb (by rw[e];exact h3);have hby':b≠y':=fun e=>hlb (by rw[e];exact h6);by_cases c1:b< a
 ·rcases h5 with h5|h5
  ·by_cases c2:y'< b
   ·exact .inr (fun s=>s.1 ⟨⟨y,by omega,by omega,h3⟩,y',h4, .inl tO,h6⟩)
   ·exact .inl (fun s=>s.2 ⟨⟨y',by omega,by omega,h6⟩,y,by omega, .inr tO,h3⟩)
  ·exact .inr (fun s=>s.1 ⟨⟨y,by omega,by omega,h3⟩,y',h4, .inr tO,h6⟩)
 ·by_cases c3:c< b
  ·rcases h5 with h5|h5
   ·exact .inl (fun s=>s.1 ⟨⟨y,by omega,by omega,h3⟩,y',h4, .inl tO,h6⟩)
   ·by_cases c2:b< y'
    ·exact .inl (fun s=>s.1 ⟨⟨y,by omega,by omega,h3⟩,y',h4, .inr tO,h6⟩)
    ·exact .inr (fun s=>s.2 ⟨⟨y',by omega,by omega,h6⟩,y,by omega, .inl tO,h3⟩)
  ·by_cases c4:y< b
   ·exact .inl (fun s=>s.1 ⟨⟨y,by omega,by omega,h3⟩,y',h4,by omega,h6⟩)
   ·exact .inr (fun s=>s.1 ⟨⟨y,by omega,by omega,h3⟩,y',h4,by omega,h6⟩)
theorem Smg.trans {M:Nat} {lab:Nat→Nat} {z a b c:Nat} (ha:a< M) (hb:b< M) (hc:c< M) (hla:lab a≠z) (hlb:lab b≠z) (hlc:lab c≠z) (h1:Smg M lab z a b) (h2:Smg M lab z b c):Smg M lab z a c:=by
 refine⟨fun h=>?_,fun h=>?_⟩
 ·rcases pt_via ha hb hc hla hlb hlc h with h|h
  ·exact h h1
  ·exact h h2
 ·rcases pt_via hc hb ha hlc hlb hla h with h|h
  ·exact h h2.symm
  ·exact h h1.symm
theorem sm_cross {M:Nat} {lab:Nat→Nat} {z a b c d:Nat} (h1:a< b) (h2:b< c) (h3:c< d) (hd:d< M) (la:lab a≠z) (lb:lab b≠z) (lc:lab c≠z) (ld:lab d≠z) (s1:Smg M lab z a c) (s2:Smg M lab z b d):Smg M lab z a b:=by
 by_cases h: ∃y,a< y∧y< c∧lab y=z
 ·
  have ho:Smg M lab z c d:=sm_of_lt h3 (fun⟨⟨y,e1,e2,e3⟩,_⟩=>s1.1 ⟨h,y,by omega, .inr e1,e3⟩);exact Smg.trans tO tO tO la lc lb s1 (Smg.trans tO tO tO lc ld lb ho s2.symm)
 ·exact sm_of_lt h1 (fun⟨⟨y,e1,e2,e3⟩,_⟩=>h ⟨y,e1,by omega,e3⟩)
def Lam (M:Nat) (lab:Nat→Nat):Prop:= ∀a b c d,a< b→b< c→c< d→d< M→lab a=lab c→lab b=lab d→lab a=lab b
theorem lam_one {M:Nat} {lab:Nat→Nat} (L:Lam M lab) {z u v:Nat} (hu:u< M) (hv:v< M) (h:lab u=lab v) (hz:lab u≠z):Smg M lab z u v:=by
 have key: ∀u v,u< M→v< M→lab u=lab v→lab u≠z→ ¬Pt M lab z u v:=fun u v hu hv h hz ⟨⟨y,h1,h2,h3⟩,y',h4,h5,h6⟩=>by
  rcases h5 with h5|h5
  ·have:=L y' u y v h5 h1 h2 hv (by rw[h6,h3]) h;exact hz (by rw[←this,h6])
  ·have:=L u y v y' h1 h2 h5 h4 h (by rw[h3,h6]);exact hz (by rw[this,h3])
 exact⟨key u v hu hv h hz,key v u hv hu h.symm (by rw[←h];exact hz)⟩
def Hrd (M:Nat) (lab:Nat→Nat) (S:Nat→Prop) (z:Nat):Prop:=S z∧ ∀u v,u< M→v< M→S (lab u)→S (lab v)→lab u≠z→lab v≠z→Smg M lab z u v
def Far (M:Nat) (lab:Nat→Nat) (S:Nat→Prop) (y0 a w:Nat):Prop:=S (lab w)∧lab w≠lab a∧ ¬Smg M lab (lab a) w y0
open Classical in
noncomputable def farN (M:Nat) (lab:Nat→Nat) (S:Nat→Prop) (y0 a:Nat):Nat:=(List.range M).countP (fun w=>decide (Far M lab S y0 a w))
theorem countP_ltx {p q:Nat→Bool} : ∀ {L:List Nat},(∀x,x∈L→p x=true→q x=true)→(∃x,x∈L∧q x=true∧p x=false)→L.countP p< L.countP q
 | [],_,⟨x,hx,_⟩=>by cases hx
 | y::L,h,⟨x,hx,h1,h2⟩=>by
  rw[List.countP_cons,List.countP_cons]
  have hle: ∀L:List Nat,(∀x,x∈L→p x=true→q x=true)→L.countP p≤L.countP q:=by
   intro L
   induction L with
   |nil=>intro _;exact Nat.le_refl _
   |cons z L ih=>
    intro h;have:=ih (fun x hx=>h x (List.mem_cons_of_mem _ hx));rw[List.countP_cons,List.countP_cons];by_cases hz:p z=true
    ·rw[if_pos hz,if_pos (h z (List.mem_cons_self ..) hz)];omega
    ·rw[if_neg hz];split<;>omega
  rcases List.mem_cons.1 hx with rfl|hx
  ·have:=hle L (fun x hx=>h x (List.mem_cons_of_mem _ hx));rw[if_neg (by rw[h2];decide),if_pos h1];omega
  ·have:=countP_ltx (L:=L) (fun x hx=>h x (List.mem_cons_of_mem _ hx)) ⟨x,hx,h1,h2⟩;by_cases hy:p y=true
   ·rw[if_pos hy,if_pos (h y (List.mem_cons_self ..) hy)];omega
   ·rw[if_neg hy];split<;>omega
section
variable {M:Nat} {lab:Nat→Nat} {S:Nat→Prop} (L:Lam M lab)
include L
theorem far_not {y0 a w:Nat} (hy:y0< M) (ha:a< M) (hw:w< M) (hay:lab a≠lab y0) (h:Far M lab S y0 a w):lab w≠lab y0:=fun e=>h.2.2 (lam_one L hw hy e h.2.1)
theorem far_sub {y0 a w x:Nat} (hy:y0< M) (ha:a< M) (hw:w< M) (hx:x< M) (hay:lab a≠lab y0) (h:Far M lab S y0 a w) (hx2:Far M lab S y0 w x):Far M lab S y0 a x:=by
 obtain⟨hS,hxw,hn⟩:=hx2;have hwy:=far_not L hy ha hw hay h
 have hs: ∃s1 s2,s1< M∧s2< M∧lab s1=lab w∧lab s2=lab w∧((x< s1∧s1< y0∧(s2< x∨y0< s2))∨(y0< s1∧s1< x∧(s2< y0∨x< s2))):=by
  rcases not_sm hn with⟨⟨s1,h1,h2,h3⟩,s2,h4,h5,h6⟩|⟨⟨s1,h1,h2,h3⟩,s2,h4,h5,h6⟩
  ·exact⟨s1,s2,by omega,h4,h3,h6, .inl ⟨h1,h2,h5⟩⟩
  ·exact⟨s1,s2,by omega,h4,h3,h6, .inr ⟨h1,h2,h5⟩⟩
 obtain⟨s1,s2,hs1,hs2,l1,l2,hord⟩:=hs;have n1:lab s1≠lab a:=by rw[l1];exact h.2.1
 have n2:lab s2≠lab a:=by rw[l2];exact h.2.1
 have g12:Smg M lab (lab a) s1 s2:=lam_one L hs1 hs2 (by rw[l1,l2]) n1;have gw1:Smg M lab (lab a) w s1:=lam_one L hw hs1 l1.symm h.2.1;have gw2:Smg M lab (lab a) w s2:=lam_one L hw hs2 l2.symm h.2.1;have f1: ¬Smg M lab (lab a) s1 y0:=fun s=>h.2.2 (Smg.trans hw hs1 hy h.2.1 n1 (fun e=>hay e.symm) gw1 s);have f2: ¬Smg M lab (lab a) s2 y0:=fun s=>h.2.2 (Smg.trans hw hs2 hy h.2.1 n2 (fun e=>hay e.symm) gw2 s);have hya:lab y0≠lab a:=fun e=>hay e.symm
 have hxa:lab x≠lab a:=fun e=>by
  rcases hord with⟨o1,o2,o3|o3⟩|⟨o1,o2,o3|o3⟩
  ·rcases not_sm f1 with⟨⟨t,t1,t2,t3⟩,_⟩|h'
   ·exact g12.2 ⟨⟨x,o3,o1,e⟩,t,by omega, .inr t1,t3⟩
   ·have:=h'.lt;omega
  ·rcases not_sm f1 with⟨⟨t,t1,t2,t3⟩,_⟩|h'
   ·exact g12.1 ⟨⟨t,t1,by omega,t3⟩,x,hx, .inl o1,e⟩
   ·have:=h'.lt;omega
  ·rcases not_sm f1 with h'|⟨⟨t,t1,t2,t3⟩,_⟩
   ·have:=h'.lt;omega
   ·exact g12.2 ⟨⟨t,by omega,t2,t3⟩,x,hx, .inr o2,e⟩
  ·rcases not_sm f1 with h'|⟨⟨t,t1,t2,t3⟩,_⟩
   ·have:=h'.lt;omega
   ·exact g12.1 ⟨⟨x,o2,o3,e⟩,t,by omega, .inl t2,t3⟩
 refine⟨hS,hxa,fun s=>?_⟩;rcases hord with⟨o1,o2,o3|o3⟩|⟨o1,o2,o3|o3⟩
 ·have:=sm_cross o3 o1 o2 hy n2 hxa n1 hya g12.symm s;exact f2 (Smg.trans hs2 hx hy n2 hxa hya this s)
 ·have:=sm_cross o1 o2 o3 hs2 hxa n1 hya n2 s g12;exact f1 (Smg.trans hs1 hx hy n1 hxa hya this.symm s)
 ·have:=sm_cross o3 o1 o2 hx n2 hya n1 hxa g12.symm s.symm;exact f2 this
 ·have:=sm_cross o1 o2 o3 hs2 hya n1 hxa n2 s.symm g12;exact f1 this.symm
theorem far_gap {y0 a w:Nat} (hy:y0< M) (ha:a< M) (hw:w< M) (hay:lab a≠lab y0) (h:Far M lab S y0 a w):Smg M lab (lab y0) a w:=by
 have hno: ∀y,y< M→lab y=lab y0→ ¬Smg M lab (lab a) w y:=fun y hyM e s=>h.2.2 (Smg.trans hw hyM hy h.2.1 (by rw[e];exact fun e=>hay e.symm) (fun e=>hay e.symm) s (lam_one L hyM hy e (by rw[e];exact fun e=>hay e.symm)));refine⟨fun⟨⟨y1,a1,a2,a3⟩,y2,b1,b2,b3⟩=>?_,fun⟨⟨y1,a1,a2,a3⟩,y2,b1,b2,b3⟩=>?_⟩
 ·rcases not_sm (hno y1 tO a3)with h'|⟨⟨t,t1,t2,t3⟩,_⟩
  ·have:=h'.lt;omega
  ·rcases b2 with b2|b2
   ·exact hay (by rw[←b3];exact(L y2 a y1 t b2 a1 t1 tO (by rw[b3,a3]) t3.symm).symm)
   ·exact hay (by rw[←a3];exact L a y1 t y2 a1 t1 tO b1 t3.symm (by rw[a3,b3]))
 ·rcases not_sm (hno y1 tO a3)with⟨⟨t,t1,t2,t3⟩,_⟩|h'
  ·rcases b2 with b2|b2
   ·exact hay (by rw[←b3,←t3];exact(L y2 t y1 a tO t2 a2 ha (by rw[b3,a3]) t3).symm)
   ·exact hay (by rw[←a3,←t3];exact L t y1 a y2 t2 a2 b2 b1 t3 (by rw[a3,b3]))
  ·have:=h'.lt;omega
open Classical in
theorem leaf {y0:Nat} (hy:y0< M): ∀k a,farN M lab S y0 a≤k→a< M→S (lab a)→lab a≠lab y0→ ∃b,b< M∧lab b≠lab y0∧Hrd M lab S (lab b)∧Smg M lab (lab y0) a b
 | k,a,hk,ha,hS,hay=>by
  by_cases hf: ∃w,w< M∧Far M lab S y0 a w
  ·obtain⟨w,hw,hfar⟩:=hf
   have hlt:farN M lab S y0 w< farN M lab S y0 a:=by
    unfold farN;refine countP_ltx (fun x hx hp=>?_) ⟨w,List.mem_range.2 hw,decide_eq_true hfar,decide_eq_false (fun h=>h.2.1 rfl)⟩;exact decide_eq_true (far_sub L hy ha hw (List.mem_range.1 hx) hay hfar (of_decide_eq_true hp))
   match k,hk with
   |0,hk=>omega
   |k+1,hk=>
    have hwy:=far_not L hy ha hw hay hfar;obtain⟨b,hb,hby,hH,hs⟩:=leaf hy k w tO hw hfar.1 hwy;exact⟨b,hb,hby,hH,Smg.trans ha hw hb hay hwy hby (far_gap L hy ha hw hay hfar) hs⟩
  ·refine⟨a,ha,hay,⟨hS,fun u v hu hv su sv nu nv=>?_⟩,Smg.refl ..⟩;have one: ∀u,u< M→S (lab u)→lab u≠lab a→Smg M lab (lab a) u y0:=fun u hu su nu=>Classical.byContradiction (fun h=>hf ⟨u,hu,su,nu,h⟩);exact Smg.trans hu hy hv nu (fun e=>hay e.symm) nv (one u hu su nu) (one v hv sv nv).symm
theorem two_gaps {y0:Nat} (hy:y0< M) (hSy:S (lab y0)) (hn: ¬Hrd M lab S (lab y0)): ∃a b,a< M∧b< M∧Hrd M lab S (lab a)∧Hrd M lab S (lab b)∧lab a≠lab y0∧lab b≠lab y0∧ ¬Smg M lab (lab y0) a b:=by
 have: ∃u v,u< M∧v< M∧S (lab u)∧S (lab v)∧lab u≠lab y0∧lab v≠lab y0∧ ¬Smg M lab (lab y0) u v:=by
  refine Classical.byContradiction (fun h=>hn ⟨hSy,fun u v hu hv su sv nu nv=>Classical.byContradiction (fun hs=>h ⟨u,v,hu,hv,su,sv,nu,nv,hs⟩)⟩)
 obtain⟨u,v,hu,hv,su,sv,nu,nv,hs⟩:=this;obtain⟨a,ha,na,Ha,sa⟩:=leaf L (S:=S) hy _ u (Nat.le_refl _) hu su nu;obtain⟨b,hb,nb,Hb,sb⟩:=leaf L (S:=S) hy _ v (Nat.le_refl _) hv sv nv;exact⟨a,b,ha,hb,Ha,Hb,na,nb,fun s=>hs (Smg.trans hu ha hv nu na nv sa (Smg.trans ha hb hv na nb nv s sb.symm))⟩
end
def Cov (M:Nat) (lab:Nat→Nat) (one:List Nat) (two:List (Nat×Nat)) (Y:Nat):Prop:=(∃u,u∈one∧lab u=Y)∨ ∃e,e∈two∧(lab e.1=Y∨lab e.2=Y∨ ¬Smg M lab Y e.1 e.2)
def Rep (M:Nat) (lab:Nat→Nat) (S:Nat→Prop) (u:Nat):Prop:=Hrd M lab S (lab u)∧ ∀x,x< u→lab x≠lab u
open Classical in
noncomputable def reps (M:Nat) (lab:Nat→Nat) (S:Nat→Prop):List Nat:=(List.range M).filter (fun u=>decide (Rep M lab S u))
open Classical in
theorem mem_reps {M:Nat} {lab:Nat→Nat} {S:Nat→Prop} {u:Nat} :u∈reps M lab S↔u< M∧Rep M lab S u:=by
 unfold reps;rw[List.mem_filter,List.mem_range,decide_eq_true_eq]
noncomputable def repA (M:Nat) (lab:Nat→Nat) (S:Nat→Prop) (k:Nat):Nat:=(reps M lab S).getD k 0
section
variable {M:Nat} {lab:Nat→Nat} {S:Nat→Prop}
theorem repA_mem {k:Nat} (hk:k< (reps M lab S).length):repA M lab S k< M∧Rep M lab S (repA M lab S k):=by
 have:repA M lab S k∈reps M lab S:=by
  unfold repA;rw[List.getD_eq_getElem?_getD,List.getElem?_eq_getElem hk];exact List.getElem_mem hk
 exact mem_reps.1 this
theorem repA_lt {i j:Nat} (h:i< j) (hj:j< (reps M lab S).length):repA M lab S i< repA M lab S j:=by
 have hp:(reps M lab S).Pairwise (· < ·):=by unfold reps;exact List.pairwise_lt_range.filter _
 have:=List.pairwise_iff_getElem.1 hp i j tO hj h;unfold repA;rw[List.getD_eq_getElem?_getD,List.getD_eq_getElem?_getD,List.getElem?_eq_getElem tO,List.getElem?_eq_getElem hj];exact this
theorem first_place (lab:Nat→Nat): ∀a,∃u,u≤a∧lab u=lab a∧ ∀x,x< u→lab x≠lab u:=by
 intro a
 induction a using Nat.strongRecOn with
 | ind a ih=>
  by_cases h: ∃x,x< a∧lab x=lab a
  ·obtain⟨x,hx,e⟩:=h;obtain⟨u,hu,e2,hf⟩:=ih x hx;exact⟨u,by omega,by rw[e2,e],hf⟩
  ·exact⟨a,Nat.le_refl _,rfl,fun x hx e=>h ⟨x,hx,e⟩⟩
theorem repA_of {a:Nat} (ha:a< M) (h:Hrd M lab S (lab a)): ∃k,k< (reps M lab S).length∧lab (repA M lab S k)=lab a:=by
 obtain⟨u,hu,e,hf⟩:=first_place lab a;have hm:u∈reps M lab S:=mem_reps.2 ⟨by omega,by rw[e];exact h,hf⟩;obtain⟨k,hk,he⟩:=List.getElem_of_mem hm;refine⟨k,hk,?_⟩;unfold repA;rw[List.getD_eq_getElem?_getD,List.getElem?_eq_getElem hk];show lab ((reps M lab S)[k])=lab a;rw[he,e]
variable (L:Lam M lab)
include L
theorem cov_pairs (c r:Nat) (hcr:c+r=(reps M lab S).length) (h1:r≤c) (h2:c≤r+1): ∃two:List (Nat×Nat),two.length=c∧(∀e,e∈two→e.1< M∧e.2< M)∧ ∀y,y< M→S (lab y)→Cov M lab [] two (lab y):=by
 have hin: ∀i,i< c→(repA M lab S i,repA M lab S (i+r))∈(List.range c).map (fun i=>(repA M lab S i,repA M lab S (i+r))):=fun i hi=>List.mem_map.2 ⟨i,List.mem_range.2 hi,rfl⟩;refine⟨(List.range c).map (fun i=>(repA M lab S i,repA M lab S (i+r))),by simp,fun e he=>?_,fun y hy hS=>?_⟩
 ·obtain⟨i,hi,rfl⟩:=List.mem_map.1 he;rw[List.mem_range]at hi;exact⟨(repA_mem tO).1,(repA_mem tO).1⟩
 ·refine .inr ?_;by_cases hH:Hrd M lab S (lab y)
  ·obtain⟨k,hk,e⟩:=repA_of hy hH;by_cases hkc:k< c
   ·exact⟨_,hin k hkc, .inl e⟩
   ·refine⟨_,hin (k - r) tO, .inr (.inl ?_)⟩;rw[show k - r+r=k by omega];exact e
  ·obtain⟨a,b,ha,hb,Ha,Hb,na,nb,hs⟩:=two_gaps L hy hS hH;refine Classical.byContradiction (fun hno=>hs ?_);have hall: ∀i,i< c→Smg M lab (lab y) (repA M lab S i) (repA M lab S (i+r)):=fun i hi=>Classical.byContradiction (fun h=>hno ⟨_,hin i hi, .inr (.inr h)⟩);have hne: ∀k,k< (reps M lab S).length→lab (repA M lab S k)≠lab y:=fun k hk e=>hH (by rw[←e];exact(repA_mem hk).2.1);have hlt: ∀k,k< (reps M lab S).length→repA M lab S k< M:=fun k hk=>(repA_mem hk).1
   have hstep: ∀i,i+1< c→Smg M lab (lab y) (repA M lab S i) (repA M lab S (i+1)):=fun i hi=>by
    by_cases hr1:r=1
    ·have:=hall i tO;rw[hr1]at this;exact this
    ·have:=hall (i+1) hi;exact sm_cross (repA_lt tO tO) (repA_lt (show i+1< i+r by omega) tO) (repA_lt (show i+r< i+1+r by omega) tO) (hlt _ tO) (hne _ tO) (hne _ tO) (hne _ tO) (hne _ tO) (hall i tO) this
   have hz: ∀k,k< c→Smg M lab (lab y) (repA M lab S 0) (repA M lab S k):=by
    intro k
    induction k with
    |zero=>intro _;exact Smg.refl ..
    |succ k ih=>intro hk;exact Smg.trans (hlt _ tO) (hlt _ tO) (hlt _ tO) (hne _ tO) (hne _ tO) (hne _ tO) (ih tO) (hstep k hk)
   have hzz: ∀k,k< (reps M lab S).length→Smg M lab (lab y) (repA M lab S 0) (repA M lab S k):=fun k hk=>by
    by_cases hkc:k< c
    ·exact hz k hkc
    ·have h5:=hall (k - r) tO;rw[show k - r+r=k by omega]at h5;exact Smg.trans (hlt _ tO) (hlt _ tO) (hlt _ hk) (hne _ tO) (hne _ tO) (hne _ hk) (hz (k - r) tO) h5
   obtain⟨ka,hka,ea⟩:=repA_of ha Ha;obtain⟨kb,hkb,eb⟩:=repA_of hb Hb;have s1:Smg M lab (lab y) a (repA M lab S ka):=lam_one L ha (hlt _ hka) ea.symm na;have s2:Smg M lab (lab y) (repA M lab S kb) b:=lam_one L (hlt _ hkb) hb eb (hne _ hkb);have s3:Smg M lab (lab y) (repA M lab S ka) (repA M lab S kb):=Smg.trans (hlt _ hka) (hlt _ tO) (hlt _ hkb) (hne _ hka) (hne _ tO) (hne _ hkb) (hzz ka hka).symm (hzz kb hkb);exact Smg.trans ha (hlt _ hka) hb na (hne _ hka) nb s1 (Smg.trans (hlt _ hka) (hlt _ hkb) hb (hne _ hka) (hne _ hkb) nb s3 s2)
end
def Sup (M:Nat) (lab:Nat→Nat) (S:Nat→Prop) (z:Nat):Prop:= ∃y,y< M∧S (lab y)∧ ¬Hrd M lab S (lab y)∧lab y≠z∧Hrd M lab (fun x=>S x∧x≠z) (lab y)
theorem countP_one {p:Nat→Bool} : ∀ {L:List Nat},L.Nodup→ ∀x,x∈L→p x=true→(∀y,y∈L→p y=true→y=x)→L.countP p=1
 | z::L,hnd,x,hx,hp,hu=>by
  rw[List.nodup_cons]at hnd;rw[List.countP_cons];by_cases hz:p z=true
  ·have e:=hu z (List.mem_cons_self ..) hz;rw[if_pos hz,List.countP_eq_zero.2 (fun y hy hpy=>hnd.1 (by rw[e,←hu y (List.mem_cons_of_mem _ hy) hpy];exact hy))]
  ·rcases List.mem_cons.1 hx with rfl|hx
   ·exact absurd hp hz
   ·rw[if_neg hz,countP_one hnd.2 x hx hp (fun y hy=>hu y (List.mem_cons_of_mem _ hy))]
open Classical in
theorem reps_less {M:Nat} {lab:Nat→Nat} {S:Nat→Prop} {a:Nat} (ha:a< M) (hH:Hrd M lab S (lab a)) (hns: ¬Sup M lab S (lab a)):(reps M lab S).length=(reps M lab (fun x=>S x∧x≠lab a)).length+1:=by
 have hiff: ∀u,u< M→(Hrd M lab (fun x=>S x∧x≠lab a) (lab u)↔Hrd M lab S (lab u)∧lab u≠lab a):=fun u hu=>by
  constructor
  ·intro h;refine⟨Classical.byContradiction (fun hn=>hns ⟨u,hu,h.1.1,hn,h.1.2,h⟩),h.1.2⟩
  ·rintro⟨h,hne⟩;exact⟨⟨h.1,hne⟩,fun x y hx hy sx sy nx ny=>h.2 x y hx hy sx.1 sy.1 nx ny⟩
 obtain⟨u0,hu0,e0,hf0⟩:=first_place lab a;unfold reps;rw[←List.countP_eq_length_filter,←List.countP_eq_length_filter]
 have hone:(List.range M).countP (fun u=>decide (Rep M lab S u∧lab u=lab a))=1:=by
  refine countP_one List.nodup_range u0 (List.mem_range.2 tO) (decide_eq_true ⟨⟨by rw[e0];exact hH,hf0⟩,e0⟩) (fun y hy hp=>?_);obtain⟨⟨_,hfy⟩,ey⟩:=of_decide_eq_true hp;rcases Nat.lt_trichotomy y u0 with h|h|h
  ·exact absurd (by rw[ey,e0]) (hf0 y h)
  ·exact h
  ·exact absurd (by rw[ey,e0]) (hfy u0 h)
 rw[←hone]
 have key: ∀Q:List Nat,(∀u,u∈Q→u< M)→Q.countP (fun u=>decide (Rep M lab S u))=Q.countP (fun u=>decide (Rep M lab (fun x=>S x∧x≠lab a) u))+Q.countP (fun u=>decide (Rep M lab S u∧lab u=lab a)):=by
  intro Q
  induction Q with
  |nil=>intro _;rfl
  | cons u Q ih=>
   intro hQ;have hu:=hQ u (List.mem_cons_self ..);rw[List.countP_cons,List.countP_cons,List.countP_cons,ih (fun x hx=>hQ x (List.mem_cons_of_mem _ hx))]
   have e2:Rep M lab (fun x=>S x∧x≠lab a) u↔Rep M lab S u∧lab u≠lab a:=by
    unfold Rep;rw[hiff u hu];exact⟨fun h=>⟨⟨h.1.1,h.2⟩,h.1.2⟩,fun h=>⟨⟨h.1.1,h.2⟩,h.1.2⟩⟩
   by_cases hr:Rep M lab S u
   ·by_cases hl:lab u=lab a
    ·rw[if_pos (decide_eq_true hr),if_neg (by rw[decide_eq_true_eq,e2];exact fun h=>h.2 hl),if_pos (decide_eq_true ⟨hr,hl⟩)];omega
    ·rw[if_pos (decide_eq_true hr),if_pos (by rw[decide_eq_true_eq,e2];exact⟨hr,hl⟩),if_neg (by rw[decide_eq_true_eq];exact fun h=>hl h.2)];omega
   ·rw[if_neg (by rw[decide_eq_true_eq];exact hr),if_neg (by rw[decide_eq_true_eq,e2];exact fun h=>hr h.1),if_neg (by rw[decide_eq_true_eq];exact fun h=>hr h.1)];omega
 exact key (List.range M) (fun u hu=>List.mem_range.1 hu)
def Fo (M:Nat) (lab:Nat→Nat) (S:Nat→Prop):Prop:=(reps M lab S).length % 2=1∧ ∀a,a< M→Hrd M lab S (lab a)→Sup M lab S (lab a)
open Classical in
theorem cov_up {M:Nat} {lab:Nat→Nat} {S:Nat→Prop} (L:Lam M lab): ∃(one:List Nat) (two:List (Nat×Nat)),(∀u,u∈one→u< M)∧(∀e,e∈two→e.1< M∧e.2< M)∧(∀y,y< M→S (lab y)→Cov M lab one two (lab y))∧one.length+2*two.length≤(reps M lab S).length+if Fo M lab S then 1 else 0:=by
 by_cases h2:(reps M lab S).length % 2=1
 ·by_cases hF: ∀a,a< M→Hrd M lab S (lab a)→Sup M lab S (lab a)
  ·obtain⟨two,hl,hp,hc⟩:=cov_pairs (S:=S) L ((reps M lab S).length/2+1) ((reps M lab S).length/2) tO tO tO;exact⟨[],two,(fun u hu=>by cases hu),hp,hc,by rw[if_pos ⟨h2,hF⟩,hl];simp only[List.length_nil];omega⟩
  ·have: ∃a,a< M∧Hrd M lab S (lab a)∧ ¬Sup M lab S (lab a):=Classical.byContradiction (fun hn=>hF (fun a ha hH=>Classical.byContradiction (fun hs=>hn ⟨a,ha,hH,hs⟩)));obtain⟨a,ha,hH,hs⟩:=this;have hless:=reps_less ha hH hs;obtain⟨two,hl,hp,hc⟩:=cov_pairs (S:=fun x=>S x∧x≠lab a) L ((reps M lab (fun x=>S x∧x≠lab a)).length/2) ((reps M lab (fun x=>S x∧x≠lab a)).length/2) tO tO tO;refine⟨[a],two,fun u hu=>by rw[List.mem_singleton]at hu;rw[hu];exact ha,hp,fun y hy hS=>?_,by rw[hl];simp only[List.length_singleton];omega⟩;by_cases e:lab y=lab a
   ·exact .inl ⟨a,List.mem_singleton.2 rfl,e.symm⟩
   ·rcases hc y hy ⟨hS,e⟩with⟨u,hu,_⟩|h
    ·cases hu
    ·exact .inr h
 ·obtain⟨two,hl,hp,hc⟩:=cov_pairs (S:=S) L ((reps M lab S).length/2) ((reps M lab S).length/2) tO tO tO;exact⟨[],two,(fun u hu=>by cases hu),hp,hc,by rw[hl];simp only[List.length_nil];omega⟩
theorem pigeon {α:Type} (R:α→Nat→Prop): ∀(slots:List α) (Hs:List Nat),Hs.Nodup→(∀z,z∈Hs→ ∃s,s∈slots∧R s z)→(∀s z1 z2,z1∈Hs→z2∈Hs→R s z1→R s z2→z1=z2)→Hs.length≤slots.length
 | [],Hs,_,h,_=>by
  cases Hs with
  |nil=>exact Nat.le_refl _
  |cons z Hs=>obtain⟨s,hs,_⟩:=h z (List.mem_cons_self ..);cases hs
 | s::t,Hs,hnd,h,hu=>by
  by_cases hz: ∃z,z∈Hs∧R s z
  ·obtain⟨z,hz,hR⟩:=hz
   have ih:=pigeon R t (Hs.erase z) (hnd.erase z) (fun z' hz'=>by
    have hm:=(hnd.mem_erase_iff).1 hz';obtain⟨s',hs',hR'⟩:=h z' hm.2;rcases List.mem_cons.1 hs' with rfl|hs'
    ·exact absurd (hu _ _ _ hm.2 hz hR' hR) hm.1
    ·exact⟨s',hs',hR'⟩) (fun s z1 z2 h1 h2=>hu s z1 z2 (List.mem_of_mem_erase h1) (List.mem_of_mem_erase h2))
   rw[List.length_erase_of_mem hz]at ih;have:0< Hs.length:=List.length_pos_of_mem hz;rw[List.length_cons];omega
  ·have ih:=pigeon R t Hs hnd (fun z' hz'=>by
    obtain⟨s',hs',hR'⟩:=h z' hz';rcases List.mem_cons.1 hs' with rfl|hs'
    ·exact absurd ⟨z',hz',hR'⟩ hz
    ·exact⟨s',hs',hR'⟩) hu
   rw[List.length_cons];omega
def Cl (M:Nat) (lab:Nat→Nat) (S:Nat→Prop) (u z:Nat):Prop:=lab u=z∨(lab u≠z∧ ∀w,w< M→S (lab w)→lab w≠z→ ¬Smg M lab z u w)
theorem least_of (P:Nat→Prop):(∃n,P n)→ ∃n,P n∧ ∀m,m< n→ ¬P m:=by
 rintro⟨n,h⟩
 induction n using Nat.strongRecOn with
 | ind n ih=>
  by_cases h2: ∃m,m< n∧P m
  ·obtain⟨m,hm,hp⟩:=h2;exact ih m hm hp
  ·exact⟨n,h,fun m hm hp=>h2 ⟨m,hm,hp⟩⟩
theorem near {M:Nat} {lab:Nat→Nat} {S:Nat→Prop} {u:Nat} (hu:u< M) (hex: ∃e,e< M∧S (lab e)): ∃e,e< M∧S (lab e)∧ ∀z,S z→Cl M lab S u z→lab u≠z→lab e=z∧ ∀Y,S Y→lab u≠Y→Smg M lab Y u e:=by
 by_cases hA: ∃e,u< e∧e< M∧S (lab e)
 ·obtain⟨e,⟨h1,h2,h3⟩,hmin⟩:=least_of (fun e=>u< e∧e< M∧S (lab e)) hA;refine⟨e,h2,h3,fun z hz hcl hne=>?_⟩
  have hle:lab e=z:=by
   rcases hcl with h|⟨_,h⟩
   ·exact absurd h hne
   ·refine Classical.byContradiction (fun hn=>?_);rcases not_sm (h e h2 h3 hn)with⟨⟨t,t1,t2,t3⟩,_⟩|h'
    ·exact hmin t t2 ⟨t1,by omega,by rw[t3];exact hz⟩
    ·have:=h'.lt;omega
  exact⟨hle,fun Y hY _=>sm_of_lt h1 (fun⟨⟨t,t1,t2,t3⟩,_⟩=>hmin t t2 ⟨t1,by omega,by rw[t3];exact hY⟩)⟩
 ·obtain⟨e,⟨h2,h3⟩,hmin⟩:=least_of (fun e=>e< M∧S (lab e)) hex;refine⟨e,h2,h3,fun z hz hcl hne=>?_⟩;have hcl2: ∀w,w< M→S (lab w)→lab w≠z→ ¬Smg M lab z u w:=hcl.resolve_left hne |>.2
  have huS: ¬S (lab u):=fun h=>hcl2 u hu h hne (Smg.refl ..)
  have heu:e< u:=by
   rcases Nat.lt_trichotomy e u with h|h|h
   ·exact h
   ·rw[h]at h3;exact absurd h3 huS
   ·exact absurd ⟨e,h,h2,h3⟩ hA
  have hout: ∀t,t< M→S (lab t)→ ¬(t< e∨u< t):=fun t ht hS h=>by
   rcases h with h|h
   ·exact hmin t h ⟨ht,hS⟩
   ·exact hA ⟨t,h,ht,hS⟩
  have hle:lab e=z:=by
   refine Classical.byContradiction (fun hn=>?_);rcases not_sm (hcl2 e h2 h3 hn)with h'|⟨_,t,t1,t2,t3⟩
   ·have:=h'.lt;omega
   ·exact hout t t1 (by rw[t3];exact hz) t2
  exact⟨hle,fun Y hY _=>(sm_of_lt heu (fun⟨_,t,t1,t2,t3⟩=>hout t t1 (by rw[t3];exact hY) t2)).symm⟩
theorem cl_uniq {M:Nat} {lab:Nat→Nat} {S:Nat→Prop} {u z1 z2:Nat} (hu:u< M) (hex: ∃e,e< M∧S (lab e)) (s1:S z1) (s2:S z2) (c1:Cl M lab S u z1) (c2:Cl M lab S u z2):z1=z2:=by
 have one: ∀z1 z2,S z1→Cl M lab S u z2→lab u=z1→z1=z2:=fun z1 z2 s1 c2 e=>by
  rcases c2 with h|⟨hn,h⟩
  ·rw[←e,h]
  ·exact absurd (Smg.refl ..) (h u hu (by rw[e];exact s1) hn)
 by_cases e1:lab u=z1
 ·exact one z1 z2 s1 c2 e1
 ·by_cases e2:lab u=z2
  ·exact(one z2 z1 s2 c1 e2).symm
  ·obtain⟨e,_,_,h⟩:=near (S:=S) hu hex;rw[←(h z1 s1 c1 e1).1,←(h z2 s2 c2 e2).1]
theorem cl_of {M:Nat} {lab:Nat→Nat} {S:Nat→Prop} {z u v:Nat} (hu:u< M) (hv:v< M) (hz:Hrd M lab S z) (h: ¬Smg M lab z u v):Cl M lab S u z∨Cl M lab S v z:=by
 by_cases e1:lab u=z
 ·exact .inl (.inl e1)
 ·by_cases e2:lab v=z
  ·exact .inr (.inl e2)
  ·refine Classical.byContradiction (fun hn=>?_);have a1: ∃w,w< M∧S (lab w)∧lab w≠z∧Smg M lab z u w:=Classical.byContradiction (fun h'=>hn (.inl (.inr ⟨e1,fun w h1 h2 h3 h4=>h' ⟨w,h1,h2,h3,h4⟩⟩)));have a2: ∃w,w< M∧S (lab w)∧lab w≠z∧Smg M lab z v w:=Classical.byContradiction (fun h'=>hn (.inr (.inr ⟨e2,fun w h1 h2 h3 h4=>h' ⟨w,h1,h2,h3,h4⟩⟩)));obtain⟨w,w1,w2,w3,w4⟩:=a1;obtain⟨x,x1,x2,x3,x4⟩:=a2;exact h (Smg.trans hu w1 hv e1 w3 e2 w4 (Smg.trans w1 x1 hv w3 x3 e2 (hz.2 w x w1 x1 w2 x2 w3 x3) x4.symm))
def Rs (M:Nat) (lab:Nat→Nat) (S:Nat→Prop) (s:Nat×Bool) (z:Nat):Prop:=if s.2=true then lab s.1=lab z else Cl M lab S s.1 (lab z)
def slotsOf (one:List Nat) (two:List (Nat×Nat)):List (Nat×Bool):=one.map (fun u=>(u,true))++two.flatMap (fun e=> [(e.1,false),(e.2,false)])
theorem slots_len (one:List Nat): ∀two:List (Nat×Nat),(slotsOf one two).length=one.length+2*two.length:=fun two=>by
 unfold slotsOf;rw[List.length_append,List.length_map,List.length_flatMap]
 have: ∀t:List (Nat×Nat),(t.map (fun e=> [(e.1,false),(e.2,false)].length)).sum=2*t.length:=by
  intro t
  induction t with
  |nil=>rfl
  |cons e t ih=>rw[List.map_cons,List.sum_cons,ih,List.length_cons];simp only[List.length_cons,List.length_nil];omega
 rw[this]
open Classical in
theorem cov_low {M:Nat} {lab:Nat→Nat} {S:Nat→Prop} (L:Lam M lab) (one:List Nat) (two:List (Nat×Nat)) (h1: ∀u,u∈one→u< M) (h2: ∀e,e∈two→e.1< M∧e.2< M) (hc: ∀y,y< M→S (lab y)→Cov M lab one two (lab y)):
  (reps M lab S).length+(if Fo M lab S then 1 else 0)≤one.length+2*two.length:=by
 rw[←slots_len];have hnd:(reps M lab S).Nodup:=by unfold reps;exact List.nodup_range.filter _
 have hsl: ∀s,s∈slotsOf one two→s.1< M:=fun s hs=>by
  unfold slotsOf at hs;rcases List.mem_append.1 hs with hs|hs
  ·obtain⟨u,hu,rfl⟩:=List.mem_map.1 hs;exact h1 u hu
  ·obtain⟨e,he,hs⟩:=List.mem_flatMap.1 hs;rcases List.mem_cons.1 hs with rfl|hs
   ·exact(h2 e he).1
   ·rw[List.mem_singleton]at hs;rw[hs];exact(h2 e he).2
 have in1: ∀u,u∈one→(u,true)∈slotsOf one two:=fun u hu=>List.mem_append_left _ (List.mem_map.2 ⟨u,hu,rfl⟩);have in2: ∀e,e∈two→(e.1,false)∈slotsOf one two∧(e.2,false)∈slotsOf one two:=fun e he=>⟨List.mem_append_right _ (List.mem_flatMap.2 ⟨e,he,by simp⟩),List.mem_append_right _ (List.mem_flatMap.2 ⟨e,he,by simp⟩)⟩
 have cover: ∀z,z∈reps M lab S→ ∃s,s∈slotsOf one two∧Rs M lab S s z:=fun z hz=>by
  obtain⟨hzM,hH,_⟩:=mem_reps.1 hz;rcases hc z hzM hH.1 with⟨u,hu,e⟩|⟨e,he,h⟩
  ·exact⟨_,in1 u hu,by unfold Rs;rw[if_pos rfl];exact e⟩
  ·have hcl:Cl M lab S e.1 (lab z)∨Cl M lab S e.2 (lab z):=by
    rcases h with h|h|h
    ·exact .inl (.inl h)
    ·exact .inr (.inl h)
    ·exact cl_of (h2 e he).1 (h2 e he).2 hH h
   rcases hcl with h|h
   ·exact⟨_,(in2 e he).1,by unfold Rs;rw[if_neg tS];exact h⟩
   ·exact⟨_,(in2 e he).2,by unfold Rs;rw[if_neg tS];exact h⟩
 have same: ∀z1 z2,z1∈reps M lab S→z2∈reps M lab S→lab z1=lab z2→z1=z2:=fun z1 z2 m1 m2 e=>by
  obtain⟨_,_,f1⟩:=mem_reps.1 m1;obtain⟨_,_,f2⟩:=mem_reps.1 m2;rcases Nat.lt_trichotomy z1 z2 with h|h|h
  ·exact absurd e (f2 z1 h)
  ·exact h
  ·exact absurd e.symm (f1 z2 h)
 have uniq: ∀s,s∈slotsOf one two→ ∀z1 z2,z1∈reps M lab S→z2∈reps M lab S→Rs M lab S s z1→Rs M lab S s z2→z1=z2:=fun s hs z1 z2 m1 m2 r1 r2=>by
  have a1:=mem_reps.1 m1;have a2:=mem_reps.1 m2;refine same z1 z2 m1 m2 ?_;unfold Rs at r1 r2;by_cases hb:s.2=true
  ·rw[if_pos hb]at r1 r2;rw[←r1,r2]
  ·rw[if_neg hb]at r1 r2;exact cl_uniq (hsl s hs) ⟨z1,a1.1,a1.2.1.1⟩ a1.2.1.1 a2.2.1.1 r1 r2
 have pig: ∀t:List (Nat×Bool),(∀s,s∈t→s∈slotsOf one two)→(∀z,z∈reps M lab S→ ∃s,s∈t∧Rs M lab S s z)→(reps M lab S).length≤t.length:=fun t ht hcov=>
  pigeon (fun s z=>s∈slotsOf one two∧Rs M lab S s z) t _ hnd (fun z hz=>by obtain⟨s,hs,hr⟩:=hcov z hz;exact⟨s,hs,ht s hs,hr⟩) (fun s z1 z2 m1 m2 r1 r2=>uniq s r1.1 z1 z2 m1 m2 r1.2 r2.2)
 have base:=pig _ (fun s hs=>hs) cover;by_cases hF:Fo M lab S
 ·rw[if_pos hF];refine Nat.lt_of_le_of_ne base (fun heq=>?_)
  have waste: ∀s,s∈slotsOf one two→(∀z,z∈reps M lab S→Rs M lab S s z→ ∃s',s'∈(slotsOf one two).erase s∧Rs M lab S s' z)→False:=fun s hs h=>by
   have:=pig ((slotsOf one two).erase s) (fun s' hs'=>List.mem_of_mem_erase hs') (fun z hz=>by
    obtain⟨s',hs',hr⟩:=cover z hz;by_cases e:s'=s
    ·rw[e]at hr;exact h z hz hr
    ·exact⟨s',(List.mem_erase_of_ne e).2 hs',hr⟩)
   rw[List.length_erase_of_mem hs]at this;have:0< (slotsOf one two).length:=List.length_pos_of_mem hs;omega
  have used: ∀s,s∈slotsOf one two→ ∃z,z∈reps M lab S∧Rs M lab S s z:=fun s hs=>Classical.byContradiction (fun hn=>waste s hs (fun z hz hr=>absurd ⟨z,hz,hr⟩ hn))
  have apart: ∀s s',s∈slotsOf one two→s'∈slotsOf one two→s≠s'→ ∀z,z∈reps M lab S→Rs M lab S s z→ ¬Rs M lab S s' z:=fun s s' hs hs' hne z hz hr hr'=>
   waste s hs (fun z2 hz2 hr2=>⟨s',(List.mem_erase_of_ne (fun e=>hne e.symm)).2 hs',by rw[uniq s hs z2 z hz2 hz hr2 hr];exact hr'⟩)
  have hone: ∃u0,u0∈one:=by
   cases one with
   |nil=>
    rw[slots_len]at heq;have:=hF.1;simp only[List.length_nil]at heq;omega
   |cons u t=>exact⟨u,List.mem_cons_self ..⟩
  obtain⟨u0,hu0⟩:=hone;obtain⟨z0,hz0,hr0⟩:=used _ (in1 u0 hu0);obtain⟨hz0M,hH0,_⟩:=mem_reps.1 hz0;obtain⟨y,hyM,hSy,hny,hyz,hH'⟩:=hF.2 z0 hz0M hH0;rcases hc y hyM hSy with⟨u1,hu1,e⟩|⟨e,he,h⟩
  ·obtain⟨z,hz,hr⟩:=used _ (in1 u1 hu1);unfold Rs at hr;rw[if_pos rfl]at hr;exact hny (by rw[←e];show Hrd M lab S (lab u1);rw[show lab u1=lab z from hr];exact(mem_reps.1 hz).2.1)
  ·have self: ∀u,u< M→lab u=lab y→ ∀z,z∈reps M lab S→ ¬Rs M lab S (u,false) z:=fun u hu eu z hz hr=>by
    unfold Rs at hr;rw[if_neg tS]at hr;have hHz:=(mem_reps.1 hz).2.1;rcases hr with hr|⟨hn,hr⟩
    ·exact hny (by rw[←eu,show lab u=lab z from hr];exact hHz)
    ·exact hr u hu (by rw[eu];exact hSy) hn (Smg.refl ..)
   obtain⟨he1,he2⟩:=h2 e he;obtain⟨z1,hz1,hr1⟩:=used _ (in2 e he).1;obtain⟨z2,hz2,hr2⟩:=used _ (in2 e he).2;rcases h with h|h|h
   ·exact self e.1 he1 h z1 hz1 hr1
   ·exact self e.2 he2 h z2 hz2 hr2
   ·by_cases l1:lab e.1=lab y
    ·exact self e.1 he1 l1 z1 hz1 hr1
    ·by_cases l2:lab e.2=lab y
     ·exact self e.2 he2 l2 z2 hz2 hr2
     ·have hne:(e.1,false)≠(e.2,false):=fun hh=>by
       have:e.1=e.2:=congrArg Prod.fst hh;rw[this]at h;exact h (Smg.refl ..)
      have n0: ∀u z,(u,false)∈slotsOf one two→z∈reps M lab S→Rs M lab S (u,false) z→lab z≠lab z0:=fun u z hu hz hr hh=>by
       have:=same z z0 hz hz0 hh;rw[this]at hr;exact apart (u0,true) (u,false) (in1 u0 hu0) hu (fun hh=>by cases hh) z0 hz0 hr0 hr
      have np: ∀u,u< M→lab u≠lab y→ ∀z,z∈reps M lab S→Rs M lab S (u,false) z→ ∃p,p< M∧lab p=lab z∧Smg M lab (lab y) u p:=fun u hu hl z hz hr=>by
       unfold Rs at hr;rw[if_neg tS]at hr;obtain⟨hzM,hHz,_⟩:=mem_reps.1 hz;by_cases e1:lab u=lab z
       ·exact⟨u,hu,e1,Smg.refl ..⟩
       ·obtain⟨p,hp,_,hh⟩:=near (S:=S) hu ⟨z,hzM,hHz.1⟩;obtain⟨a,b⟩:=hh (lab z) hHz.1 hr e1;exact⟨p,hp,a,b _ hSy hl⟩
      obtain⟨p1,hp1,ep1,sp1⟩:=np e.1 he1 l1 z1 hz1 hr1;obtain⟨p2,hp2,ep2,sp2⟩:=np e.2 he2 l2 z2 hz2 hr2;have q1:lab p1≠lab y:=fun hh=>hny (by rw[←hh,ep1];exact(mem_reps.1 hz1).2.1);have q2:lab p2≠lab y:=fun hh=>hny (by rw[←hh,ep2];exact(mem_reps.1 hz2).2.1);have hs:=hH'.2 p1 p2 hp1 hp2 ⟨by rw[ep1];exact(mem_reps.1 hz1).2.1.1,by rw[ep1];exact n0 _ _ (in2 e he).1 hz1 hr1⟩ ⟨by rw[ep2];exact(mem_reps.1 hz2).2.1.1,by rw[ep2];exact n0 _ _ (in2 e he).2 hz2 hr2⟩ q1 q2;exact h (Smg.trans he1 hp1 he2 l1 q1 l2 sp1 (Smg.trans hp1 hp2 he2 q1 q2 l2 hs sp2.symm))
 ·rw[if_neg hF];exact base
end Go.Proofs.Ytepjhdblmghckaa.G
namespace Go.Proofs.Ytepjhdblmghckaa.G
open Go.Proofs.Ytepjhdblmghckaa.Q Go.Proofs.Ytepjhdblmghckaa.K Go.Proofs.Ytepjhdblmghckaa.Bf
open Go.RowKit Go.Proofs.YtepjhdblmghckaaW.PrintWords Go.Proofs.YtepjhdblmghckaaW.PrintLast Go.Proofs.YtepjhdblmghckaaW.PrintMore
structure Stk (sg:Bool) (n:Nat) (l:List Int):Prop where
 len:l.length=n
 rng: ∀x,x∈l→x≠0∧ -(n:Int)≤x∧x≤n
 nd:(l.map Int.natAbs).Nodup
 pos:sg=false→ ∀x,x∈l→0< x
theorem isL_iff (sg:Bool) (n:Nat): ∀(l:List Int) (seen:Nat→Bool),isL sg n l seen=true↔(∀x,x∈l→1≤absS sg n x∧absS sg n x≤n∧seen (absS sg n x).toNat=false)∧(l.map fun x=>(absS sg n x).toNat).Nodup
 | [],seen=>by simp[isL]
 | x::r,seen=>by
  rw[isL];by_cases hc:absS sg n x< 1∨(n:Int)< absS sg n x∨seen (absS sg n x).toNat=true
  ·rw[if_pos hc];refine⟨fun h=>(by cases h),fun h=>?_⟩;have:=h.1 x tS;rcases hc with hc|hc|hc
   ·omega
   ·omega
   ·rw[hc]at this;exact absurd this.2.2 tS
  ·rw[if_neg hc,isL_iff sg n r];have h1: ¬absS sg n x< 1:=fun h=>hc (.inl h);have h2: ¬(n:Int)< absS sg n x:=fun h=>hc (.inr (.inl h))
   have h3:seen (absS sg n x).toNat=false:=by
    cases hq:seen (absS sg n x).toNat
    ·rfl
    ·exact absurd (.inr (.inr hq)) hc
   rw[List.map_cons,List.nodup_cons];constructor
   ·rintro⟨h4,h5⟩;refine⟨fun y hy=>?_,fun hm=>?_,h5⟩
    ·rcases List.mem_cons.1 hy with rfl|hy
     ·exact⟨by omega,by omega,h3⟩
     ·have:=h4 y hy;refine⟨this.1,this.2.1,?_⟩;have h6:=this.2.2;unfold upd at h6
      split at h6
      ·cases h6
      ·exact h6
    ·obtain⟨y,hy,he⟩:=List.mem_map.1 hm;have h6:=(h4 y hy).2.2;rw[he]at h6;simp[upd]at h6
   ·rintro⟨h4,h5,h6⟩;refine⟨fun y hy=>?_,h6⟩;have:=h4 y (by simp[hy]);refine⟨this.1,this.2.1,?_⟩;unfold upd;rw[if_neg (fun he=>h5 (List.mem_map.2 ⟨y,hy,he⟩))];exact this.2.2
theorem absS_ok {sg:Bool} {n:Nat} {x:Int} :(1≤absS sg n x∧absS sg n x≤n)↔(x≠0∧ -(n:Int)≤x∧x≤n∧(sg=false→0< x)):=by
 unfold absS;cases sg
 ·simp;omega
 ·simp only[true_and]
  split
  ·simp;omega
  ·simp;omega
theorem absS_nat {sg:Bool} {n:Nat} {x:Int} (h:x≠0∧ -(n:Int)≤x∧x≤n∧(sg=false→0< x)):(absS sg n x).toNat=x.natAbs:=by
 unfold absS;cases sg
 ·have:=h.2.2.2 rfl;simp;omega
 ·simp only[true_and]
  split<;>omega
theorem isSt_iff {sg:Bool} {most:Int} {l:List Int} :isSt sg most l=true↔(1≤l.length∧(l.length:Int)≤most)∧Stk sg l.length l:=by
 unfold isSt
 split
 ·rename_i h
  refine⟨fun e=>(by cases e),fun e=>?_⟩;have:=e.1;omega
 ·rename_i h
  rw[isL_iff];constructor
  ·rintro⟨h1,h2⟩;have hr: ∀x,x∈l→x≠0∧ -(l.length:Int)≤x∧x≤l.length∧(sg=false→0< x):=fun x hx=>absS_ok.1 ⟨(h1 x hx).1,(h1 x hx).2.1⟩;refine⟨by omega,⟨rfl,fun x hx=>⟨(hr x hx).1,(hr x hx).2.1,(hr x hx).2.2.1⟩,?_,fun hs x hx=>(hr x hx).2.2.2 hs⟩⟩;have e:l.map Int.natAbs=l.map fun x=>(absS sg l.length x).toNat:=List.map_congr_left (fun x hx=>(absS_nat (hr x hx)).symm);rw[e];exact h2
  ·rintro⟨_,h2⟩;have hr: ∀x,x∈l→x≠0∧ -(l.length:Int)≤x∧x≤l.length∧(sg=false→0< x):=fun x hx=>⟨(h2.rng x hx).1,(h2.rng x hx).2.1,(h2.rng x hx).2.2,fun hs=>h2.pos hs x hx⟩;refine⟨fun x hx=>⟨(absS_ok.2 (hr x hx)).1,(absS_ok.2 (hr x hx)).2,rfl⟩,?_⟩;have e:(l.map fun x=>(absS sg l.length x).toNat)=l.map Int.natAbs:=List.map_congr_left (fun x hx=>absS_nat (hr x hx));rw[e];exact h2.nd
theorem isSt_stk {sg:Bool} {most:Int} {n:Nat} {l:List Int} (h:Stk sg n l) (h1:1≤n) (h2:(n:Int)≤most):isSt sg most l=true:=isSt_iff.2 ⟨⟨by rw[h.len];exact h1,by rw[h.len];exact h2⟩,by rw[h.len];exact h⟩
theorem many_f (a:Int) (m:Nat) (h1:1≤m) (h2:m≤1000): ∃n:Nat,1≤n∧n≤m∧bibelotlaw07_many.f a (m:Int)=some (n:Int):=by
 have hu:IntKind.u64.wrap (m:Int)=(m:Int):=u64_small tO tO;have hr:0≤Int.tmod (IntKind.u64.wrap a) (m:Int)∧Int.tmod (IntKind.u64.wrap a) (m:Int)< m:=⟨Int.tmod_nonneg _ (u64_nonneg a).1,Int.tmod_lt_of_pos _ tO⟩;refine⟨(Int.tmod (IntKind.u64.wrap a) (m:Int)).toNat+1,by omega,by omega,?_⟩;unfold bibelotlaw07_many.f;rw[hu,if_neg tO,w64 (x:=Int.tmod (IntKind.u64.wrap a) (m:Int)) tO tO,w64 tO tO];congr 1;omega
theorem mem_rowOf (l:List Int) (sg:Bool): ∀(x:Nat) (y:Int),y∈rowOf l sg x→y≠0∧ -(x:Int)≤y∧y≤x∧(sg=false→0< y)
 |0,y,h=>by cases h
 | x+1,y,h=>by
  have ih:=mem_rowOf l sg x
  have hs:rowSg l sg (x+1)=1∨(rowSg l sg (x+1)= -1∧sg=true):=by
   unfold rowSg
   split
   ·rename_i h;exact .inr ⟨rfl,h.2.1⟩
   ·exact .inl rfl
  simp only[rowOf,List.mem_append,List.mem_singleton]at h;rcases h with(h|h)|h
  ·have:=ih y (List.mem_of_mem_take h);exact⟨this.1,by omega,by omega,this.2.2.2⟩
  ·rcases hs with hs|⟨hs,hg⟩
   ·rw[hs]at h;refine⟨by omega,by omega,by omega,fun _=>by omega⟩
   ·rw[hs]at h;refine⟨by omega,by omega,by omega,fun e=>by rw[hg]at e;cases e⟩
  ·have:=ih y (List.mem_of_mem_drop h);exact⟨this.1,by omega,by omega,this.2.2.2⟩
theorem rowOf_nodup (l:List Int) (sg:Bool): ∀x:Nat,((rowOf l sg x).map Int.natAbs).Nodup
 |0=>List.nodup_nil
 | x+1=>by
  have ih:=rowOf_nodup l sg x
  have hs:(rowSg l sg (x+1)*((x+1:Nat):Int)).natAbs=x+1:=by
   unfold rowSg
   split<;>omega
  have hp:((rowOf l sg (x+1)).map Int.natAbs).Perm ((x+1)::(rowOf l sg x).map Int.natAbs):=by
   have h1:(rowOf l sg (x+1)).Perm (rowSg l sg (x+1)*((x+1:Nat):Int)::rowOf l sg x):=by
    simp only[rowOf];have e:rowOf l sg x=(rowOf l sg x).take (rowAt l (x+1))++(rowOf l sg x).drop (rowAt l (x+1)):=(List.take_append_drop _ _).symm
    conv=>rhs;rw[e]
    rw[List.append_assoc];exact List.perm_middle
   have h2:=h1.map Int.natAbs;rw[List.map_cons,hs]at h2;exact h2
  rw[hp.nodup_iff,List.nodup_cons];refine⟨fun hm=>?_,ih⟩;obtain⟨y,hy,he⟩:=List.mem_map.1 hm;have:=mem_rowOf l sg x y hy;omega
theorem rowOf_stk (l:List Int) (sg:Bool) (n:Nat):Stk sg n (rowOf l sg n):=
 ⟨rowOf_length l sg n,fun x hx=>⟨(mem_rowOf l sg n x hx).1,(mem_rowOf l sg n x hx).2.1,(mem_rowOf l sg n x hx).2.2.1⟩,rowOf_nodup l sg n,fun hs x hx=>(mem_rowOf l sg n x hx).2.2.2 hs⟩
theorem row_f (l:List Int) (n:Nat) (sg:Bool) (hn:n≤1000):bibelotlaw07_row.f l (n:Int) sg=some (rowOf l sg n):=by
 unfold bibelotlaw07_row.f;rw[if_pos tO,Int.toNat_natCast]
theorem ints_l0 (l m:List Int) (hl:l.length≤1000000) (hm:l.length=m.length): ∀d i:Nat,i+d=l.length→Ev (fun k=>bibelotlaw07_ints.l0 k l m (i:Int)) (decide (l.drop i=m.drop i))
 |0,i,h=>by
  refine Ev.step (f:=fun _=>some (decide (l.drop i=m.drop i))) (fun k=>?_) (Ev.now _);rw[bibelotlaw07_ints.l0,if_neg tO,List.drop_of_length_le tO,List.drop_of_length_le tO];rfl
 | d+1,i,h=>by
  have ih:=ints_l0 l m hl hm d (i+1) tO;have e1:=drop_nth l i tO;have e2:=drop_nth m i tO;by_cases he:nth l i=nth m i
  ·refine Ev.step (f:=fun k=>bibelotlaw07_ints.l0 k l m ((i+1:Nat):Int)) (fun k=>?_) ?_
   ·rw[bibelotlaw07_ints.l0,if_pos tO,if_pos tO,if_pos tO,rd_nth,rd_nth,if_pos he,w64 tO tO];rfl
   ·have:decide (l.drop i=m.drop i)=decide (l.drop (i+1)=m.drop (i+1)):=decide_eq_decide.2 (by rw[e1,e2,List.cons.injEq];exact⟨fun h=>h.2,fun h=>⟨he,h⟩⟩);rw[this];exact ih
  ·refine Ev.step (f:=fun _=>some (decide (l.drop i=m.drop i))) (fun k=>?_) (Ev.now _);rw[bibelotlaw07_ints.l0,if_pos tO,if_pos tO,if_pos tO,rd_nth,rd_nth,if_neg he,decide_eq_false (by rw[e1,e2,List.cons.injEq];exact fun h=>he h.1)]
theorem ints_ev (l m:List Int) (hl:l.length≤1000000):Ev (fun k=>bibelotlaw07_ints.f k l m) (decide (l=m)):=by
 by_cases h:l.length=m.length
 ·have:=ints_l0 l m hl h l.length 0 tO;refine Ev.congr (fun k=>?_) this;unfold bibelotlaw07_ints.f;rw[if_pos tO];rfl
 ·rw[decide_eq_false (fun e=>h (by rw[e]))];refine Ev.congr (fun k=>?_) (Ev.now false);unfold bibelotlaw07_ints.f;rw[if_neg tO]
theorem abs_f (x:Int) (h: -1000000000≤x∧x≤1000000000):bibelotref07_Abs.f x=some (x.natAbs:Int):=by
 unfold bibelotref07_Abs.f mx;rw[w64 tO tO];congr 1
 split<;>omega
def Smalls (l:List Int):Prop:= ∀i, -1000000≤nth l i∧nth l i≤1000000
theorem Stk.small {sg:Bool} {n:Nat} {l:List Int} (h:Stk sg n l) (hn:n≤1000):Smalls l:=fun i=>by
 by_cases hi:i< l.length
 ·have:=h.rng (nth l i) (by unfold nth;rw[List.getD_eq_getElem?_getD,List.getElem?_eq_getElem hi];exact List.getElem_mem hi);omega
 ·rw[nth_end _ _ tO];omega
theorem lst0_succ (n:Nat) (m:Nat→Int):lst0 (n+1) m=lst0 n m++ [m n]:=by
 unfold lst0;rw[List.range_succ,List.map_append];rfl
theorem rturn_l0 (l:List Int) (hl:l.length≤1000) (hs:Smalls l) (a b:Nat) (hab:a≤b) (hb:b< l.length): ∀d i:Nat,i+d=l.length→Ev (fun k=>bibelotref07_Turn.l0 k l (a:Int) (b:Int) (lst0 i (fl true (nth l) a (b+1))) (i:Int)) (lst0 l.length (fl true (nth l) a (b+1)))
 |0,i,h=>by
  refine Ev.step (f:=fun _=>some (lst0 l.length (fl true (nth l) a (b+1)))) (fun k=>?_) (Ev.now _);rw[bibelotref07_Turn.l0,if_neg tO,show i=l.length by omega]
 | d+1,i,h=>by
  have ih:=rturn_l0 l hl hs a b hab hb d (i+1) tO;refine Ev.step (fun k=>?_) ih;rw[lst0_succ,bibelotref07_Turn.l0,if_pos tO,if_pos tO,lst0_len,w64 (x:=(i:Int)+1) tO tO];by_cases hia:a≤i
  ·by_cases hib:i≤b
   ·have e2:(a:Int)+(b:Int) - (i:Int)=((a+b - i:Nat):Int):=by omega
    have h1:=hs (a+b - i);have e3:a+(b+1) - 1 - i=a+b - i:=by omega
    have e4:fl true (nth l) a (b+1) i= -(nth l (a+b - i)):=by
     unfold fl rv;rw[if_pos ⟨rfl,hia,by omega⟩,if_pos ⟨hia,by omega⟩,e3]
    rw[if_pos tO,if_pos tO,w64 (x:=(a:Int)+(b:Int)) tO tO,w64 (x:=(a:Int)+(b:Int) - (i:Int)) tO tO,if_pos tO,if_pos tO,if_pos tO,e2,rd_nth,w64 tO tO,e4];rfl
   ·have e4:fl true (nth l) a (b+1) i=nth l i:=by
     unfold fl rv;rw[if_neg (fun h=>by have:=h.2.2;omega),if_neg (fun h=>by have:=h.2;omega)]
    rw[if_pos tO,if_neg tO,if_pos tO,rd_nth,e4];rfl
  ·have e4:fl true (nth l) a (b+1) i=nth l i:=by
    unfold fl rv;rw[if_neg (fun h=>by have:=h.2.1;omega),if_neg (fun h=>by have:=h.1;omega)]
   rw[if_neg tO,if_pos tO,rd_nth,e4];rfl
theorem rturn_ev {l:List Int} (hl:l.length≤1000) (hs:Smalls l) (a b:Nat) (hab:a≤b) (hb:b< l.length):Ev (fun k=>bibelotref07_Turn.f k l (a:Int) (b:Int)) (flL true l a b):=rturn_l0 l hl hs a b hab hb l.length 0 tO
theorem awake_ev:Ev (fun _:Nat=>bibelotlaw07_awake.f) true:=Ev.now true
theorem Stk.has {sg:Bool} {n:Nat} {l:List Int} (h:Stk sg n l) {a:Nat} (h1:1≤a) (h2:a≤n):a∈l.map Int.natAbs:=by
 by_cases hm:a∈l.map Int.natAbs
 ·exact hm
 ·have h3:=nodup_sub (a::l.map Int.natAbs) ((List.range n).map (· +1)) (List.nodup_cons.2 ⟨hm,h.nd⟩) (fun x hx=>by
   rcases List.mem_cons.1 hx with rfl|hx
   ·exact List.mem_map.2 ⟨x - 1,List.mem_range.2 tO,by omega⟩
   ·obtain⟨y,hy,rfl⟩:=List.mem_map.1 hx;have:=h.rng y hy
    exact List.mem_map.2 ⟨y.natAbs - 1,List.mem_range.2 tO,by omega⟩)
  simp only[List.length_cons,List.length_map,List.length_range,h.len]at h3;omega
theorem nth_get (l:List Int) (p:Nat) (h:p< l.length):nth l p=l[p]:=by
 unfold nth;rw[List.getD_eq_getElem?_getD,List.getElem?_eq_getElem h];rfl
theorem nth_in (l:List Int) (p:Nat) (h:p< l.length):nth l p∈l:=by
 rw[nth_get l p h];exact List.getElem_mem h
theorem mem_nth {l:List Int} {x:Int} (h:x∈l): ∃p,p< l.length∧nth l p=x:=by
 obtain⟨p,hp,rfl⟩:=List.getElem_of_mem h;exact⟨p,hp,nth_get l p hp⟩
theorem stk_nth {sg:Bool} {n:Nat} {l:List Int} :Stk sg n l↔l.length=n∧(∀p,p< n→nth l p≠0∧ -(n:Int)≤nth l p∧nth l p≤n)∧(∀p q,p< n→q< n→(nth l p).natAbs=(nth l q).natAbs→p=q)∧(sg=false→ ∀p,p< n→0< nth l p):=by
 constructor
 ·intro h;refine⟨h.len,fun p hp=>h.rng _ (nth_in l p (by rw[h.len];exact hp)),fun p q hp hq he=>?_,fun hs p hp=>h.pos hs _ (nth_in l p (by rw[h.len];exact hp))⟩;have hnd:=List.pairwise_iff_getElem.1 h.nd;rcases Nat.lt_trichotomy p q with hlt|he2|hlt
  ·have:=hnd p q (by rw[List.length_map,h.len];exact hp) (by rw[List.length_map,h.len];exact hq) hlt;rw[List.getElem_map,List.getElem_map,←nth_get l p (by rw[h.len];exact hp),←nth_get l q (by rw[h.len];exact hq)]at this;exact absurd he this
  ·exact he2
  ·have:=hnd q p (by rw[List.length_map,h.len];exact hq) (by rw[List.length_map,h.len];exact hp) hlt;rw[List.getElem_map,List.getElem_map,←nth_get l p (by rw[h.len];exact hp),←nth_get l q (by rw[h.len];exact hq)]at this;exact absurd he.symm this
 ·rintro⟨h1,h2,h3,h4⟩;refine⟨h1,fun x hx=>?_,?_,fun hs x hx=>?_⟩
  ·obtain⟨p,hp,rfl⟩:=mem_nth hx;exact h2 p tO
  ·refine List.pairwise_iff_getElem.2 (fun p q hp hq hlt he=>?_);rw[List.length_map]at hp hq;rw[List.getElem_map,List.getElem_map,←nth_get l p hp,←nth_get l q hq]at he;have:=h3 p q tO tO he;omega
  ·obtain⟨p,hp,rfl⟩:=mem_nth hx;exact h4 hs p tO
theorem fl_eq (sg:Bool) (m:Nat→Int) (i k p:Nat):fl sg m i (k+1) p=if i≤p∧p≤k then(if sg=true then -(m (i+k - p))else m (i+k - p))else m p:=by
 unfold fl rv;cases sg
 ·rw[if_neg tS];by_cases h:i≤p∧p≤k
  ·rw[if_pos h,if_pos tO,if_neg tD];congr 1
  ·rw[if_neg h,if_neg tO]
 ·by_cases h:i≤p∧p≤k
  ·rw[if_pos h,if_pos ⟨rfl,h.1,by omega⟩,if_pos ⟨h.1,by omega⟩,if_pos rfl];congr 2
  ·rw[if_neg h,if_neg (fun h'=>h ⟨h'.2.1,by omega⟩),if_neg (fun h'=>h ⟨h'.1,by omega⟩)]
theorem flL_nth {l:List Int} (sg:Bool) (i k p:Nat) (hk:k< l.length):nth (flL sg l i k) p=if i≤p∧p≤k then(if sg=true then -(nth l (i+k - p))else nth l (i+k - p))else nth l p:=by
 rw[nth_flL sg l i k hk,fl_eq]
theorem stk_flL {sg tg:Bool} {n:Nat} {l:List Int} (h:Stk sg n l) (ht:tg=true→sg=true) (i k:Nat) (hik:i≤k) (hk:k< n):Stk sg n (flL tg l i k):=by
 have hl:=h.len;obtain⟨h1,h2,h3,h4⟩:=stk_nth.1 h
 have hab: ∀p,(nth (flL tg l i k) p).natAbs=(nth l (if i≤p∧p≤k then i+k - p else p)).natAbs:=fun p=>by
  rw[flL_nth tg i k p tO];by_cases hp:i≤p∧p≤k
  ·rw[if_pos hp,if_pos hp]
   split
   ·rw[Int.natAbs_neg]
   ·rfl
  ·rw[if_neg hp,if_neg hp]
 have hin: ∀p,p< n→(if i≤p∧p≤k then i+k - p else p)< n:=fun p hp=>by split<;>omega
 refine stk_nth.2 ⟨by rw[flL_len,hl],fun p hp=>?_,fun p q hp hq he=>?_,fun hs p hp=>?_⟩
 ·have:=h2 _ (hin p hp);have e:=hab p;omega
 ·rw[hab p,hab q]at he;have:=h3 _ _ (hin p hp) (hin q hq) he
  split at this<;>split at this<;>omega
 ·have htf:tg=false:=by cases tg with
   |false=>rfl
   |true=>rw[ht rfl]at hs;cases hs
  have:=h4 hs _ (hin p hp);rw[flL_nth tg i k p tO,htf];by_cases hpk:i≤p∧p≤k
  ·rw[if_pos hpk]at this ⊢;rw[if_neg tD];exact this
  ·rw[if_neg hpk]at this ⊢;exact this
theorem Stk.vs {sg:Bool} {n:Nat} {l:List Int} (h:Stk sg n l) (hn:n≤7):Vs n l:=by
 refine⟨h.len,fun j=>?_⟩;by_cases hj:j< n
 ·have:=(stk_nth.1 h).2.1 j hj;omega
 ·rw[nth_end _ _ (by rw[h.len];omega)];omega
theorem stk_firstL (sg:Bool) (n:Nat):Stk sg n (firstL n):=by
 refine stk_nth.2 ⟨by simp[firstL],fun p hp=>?_,fun p q hp hq he=>?_,fun hs p hp=>?_⟩
 ·rw[nth_firstL];unfold upTo;rw[if_pos hp];omega
 ·rw[nth_firstL]at he;unfold upTo at he;rw[if_pos hp,if_pos hq]at he;omega
 ·rw[nth_firstL];unfold upTo;rw[if_pos hp];omega
section
variable {α:Type} [DecidableEq α] {next:α→List α}
theorem ball_cons {s y x:α} (hy:y∈next s): ∀k,x∈ball next y k→x∈ball next s (k+1)
 |0,h=>by
  have:x=y:=by simpa [ball]using h
  subst this;exact ball_succ.2 (.inr ⟨s,by simp[ball],hy⟩)
 |k+1,h=>by
  rcases ball_succ.1 h with h|⟨z,hz,hx⟩
  ·exact ball_mono (Nat.le_succ _) (ball_cons hy k h)
  ·exact ball_succ.2 (.inr ⟨z,ball_cons hy k hz,hx⟩)
theorem ball_trans {a b c:α} {i:Nat} (h1:b∈ball next a i): ∀j,c∈ball next b j→c∈ball next a (i+j)
 |0,h=>by
  have:c=b:=by simpa [ball]using h
  rw[this];exact h1
 |j+1,h=>by
  rcases ball_succ.1 h with h|⟨z,hz,hx⟩
  ·exact ball_mono (Nat.le_succ _) (ball_trans h1 j h)
  ·exact ball_succ.2 (.inr ⟨z,ball_trans h1 j hz,hx⟩)
end
theorem ball_len {n:Nat} {sg an:Bool} {a b:List Int} (ha:a.length=n): ∀k,b∈ball (nextK n sg an) a k→b.length=n
 |0,h=>by
  have:b=a:=by simpa [ball]using h
  rw[this];exact ha
 | k+1,h=>by
  rcases ball_succ.1 h with h|⟨z,hz,hx⟩
  ·exact ball_len ha k h
  ·obtain⟨x,_,rfl⟩:=List.mem_map.1 hx;rw[flL_len];exact ball_len ha k hz
theorem ball_symm {n:Nat} {sg an:Bool} {a b:List Int} (ha:a.length=n): ∀k,b∈ball (nextK n sg an) a k→a∈ball (nextK n sg an) b k:=by
 intro k
 induction k generalizing b with
 |zero=>
  intro h;have:b=a:=by simpa [ball]using h
  subst this;simp[ball]
 |succ k ih=>
  intro h;rcases ball_succ.1 h with h|⟨z,hz,hx⟩
  ·exact ball_mono (Nat.le_succ _) (ih h)
  ·exact ball_cons (next_back (ball_len ha k hz) hx) k (ih hz)
theorem ball_stk {n:Nat} {sg an:Bool} {a b:List Int} (ha:Stk sg n a): ∀k,b∈ball (nextK n sg an) a k→Stk sg n b
 |0,h=>by
  have:b=a:=by simpa [ball]using h
  rw[this];exact ha
 | k+1,h=>by
  rcases ball_succ.1 h with h|⟨z,hz,hx⟩
  ·exact ball_stk ha k h
  ·obtain⟨x,hm,rfl⟩:=List.mem_map.1 hx;have:=mem_mv hm;exact stk_flL (ball_stk ha k hz) (fun h=>h) x.1 x.2 this.1 this.2.1
def Rch (n:Nat) (sg:Bool) (a b:List Int):Prop:= ∃k,b∈ball (nextK n sg false) a k
theorem Rch.refl (n:Nat) (sg:Bool) (a:List Int):Rch n sg a a:=⟨0,by simp[ball]⟩
theorem Rch.trans {n:Nat} {sg:Bool} {a b c:List Int} (h:Rch n sg a b) (k:Rch n sg b c):Rch n sg a c:=by
 obtain⟨i,hi⟩:=h;obtain⟨j,hj⟩:=k;exact⟨i+j,ball_trans hi j hj⟩
theorem Rch.symm {n:Nat} {sg:Bool} {a b:List Int} (ha:a.length=n) (h:Rch n sg a b):Rch n sg b a:=by
 obtain⟨k,hk⟩:=h;exact⟨k,ball_symm ha k hk⟩
theorem flL_one (l:List Int):flL false l 0 0=l:=by
 by_cases h:0< l.length
 ·apply List.ext_getElem (by rw[flL_len]);intro p h1 h2;rw[←nth_get _ p h1,←nth_get l p h2,flL_nth false 0 0 p h]
  split
  ·rw[if_neg tD];congr 1;omega
  ·rfl
 ·have:l= []:=List.length_eq_zero_iff.1 tO;rw[this];rfl
theorem Rch.flip {n:Nat} {sg:Bool} {l:List Int} (k:Nat) (hk:k< n):Rch n sg l (flL sg l 0 k):=by
 by_cases h:sg=true∨k≠0
 ·exact⟨1,ball_succ.2 (.inr ⟨l,by simp[ball],List.mem_map.2 ⟨(0,k),mv_mem (Nat.zero_le _) hk h (.inr rfl),rfl⟩⟩)⟩
 ·have hk0:k=0:=by
   rcases Nat.eq_zero_or_pos k with h'|h'
   ·exact h'
   ·exact absurd (.inr tO) h
  have hs:sg=false:=by cases sg with
   |false=>rfl
   |true=>exact absurd (.inl rfl) h
  subst hk0;subst hs;rw[flL_one];exact Rch.refl _ _ _
theorem rch_first {n:Nat} {sg:Bool} : ∀(m:Nat) (l:List Int),m≤n→Stk sg n l→(∀p,m≤p→p< n→nth l p=(p:Int)+1)→Rch n sg l (firstL n)
 | 0,l,_,h,hr=>by
  have:l=firstL n:=by
   apply List.ext_getElem (by rw[h.len];simp[firstL]);intro p h1 h2;rw[←nth_get _ p h1,←nth_get _ p h2,nth_firstL,hr p (Nat.zero_le _) (by rw[←h.len];exact h1)];unfold upTo;rw[if_pos (by rw[←h.len];exact h1)];omega
  rw[this];exact Rch.refl _ _ _
 | m+1,l,hm,h,hr=>by
  have hl:=h.len;obtain⟨y,hy,he⟩:=List.mem_map.1 (h.has (a:=m+1) tO hm);obtain⟨p,hp,rfl⟩:=mem_nth hy
  have hpm:p≤m:=by
   rcases Nat.lt_or_ge m p with h1|h1
   ·have:=hr p tO tO;omega
   ·exact h1
  obtain⟨l1,hl1⟩: ∃l1,flL sg l 0 p=l1:=⟨_,rfl⟩;have s1:Stk sg n l1:=by rw[←hl1];exact stk_flL h (fun h=>h) 0 p (Nat.zero_le _) tO
  have z1:(nth l1 0).natAbs=m+1:=by
   rw[←hl1,flL_nth sg 0 p 0 hp,if_pos ⟨Nat.le_refl _,Nat.zero_le _⟩];have e0:0+p - 0=p:=by omega
   rw[e0]
   split
   ·rw[Int.natAbs_neg];exact he
   ·exact he
  have r1: ∀q,m+1≤q→q< n→nth l1 q=(q:Int)+1:=fun q h1 h2=>by
   rw[←hl1,flL_nth sg 0 p q hp,if_neg tO];exact hr q h1 h2
  have c1:Rch n sg l l1:=by rw[←hl1];exact Rch.flip p tO
  obtain⟨l2,s2,z2,r2,c2⟩: ∃l2,Stk sg n l2∧nth l2 0=(if sg=true then -((m:Int)+1)else(m:Int)+1)∧(∀q,m+1≤q→q< n→nth l2 q=(q:Int)+1)∧Rch n sg l1 l2:=by
   cases sg with
   |false=>
    refine⟨l1,s1,?_,r1,Rch.refl _ _ _⟩;have:=(stk_nth.1 s1).2.2.2 rfl 0 tO;rw[if_neg tD];omega
   | true=>
    rw[if_pos rfl];by_cases hneg:nth l1 0< 0
    ·exact⟨l1,s1,by omega,r1,Rch.refl _ _ _⟩
    ·refine⟨flL true l1 0 0,stk_flL s1 (fun h=>h) 0 0 (Nat.le_refl _) tO,?_,fun q h1 h2=>?_,Rch.flip 0 tO⟩
     ·rw[flL_nth true 0 0 0 (by rw[s1.len];omega),if_pos ⟨Nat.le_refl _,Nat.le_refl _⟩,if_pos rfl];have:nth l1 (0+0 - 0)=nth l1 0:=rfl;omega
     ·rw[flL_nth true 0 0 q (by rw[s1.len];omega),if_neg tO];exact r1 q h1 h2
  obtain⟨l3,hl3⟩: ∃l3,flL sg l2 0 m=l3:=⟨_,rfl⟩;have s3:Stk sg n l3:=by rw[←hl3];exact stk_flL s2 (fun h=>h) 0 m (Nat.zero_le _) tO
  have c3:Rch n sg l2 l3:=by rw[←hl3];exact Rch.flip m tO
  refine c1.trans (c2.trans (c3.trans (rch_first m l3 tO s3 (fun q h1 h2=>?_))));rw[←hl3,flL_nth sg 0 m q (by rw[s2.len];omega)];by_cases hq:q=m
  ·subst hq;rw[if_pos ⟨Nat.zero_le _,Nat.le_refl _⟩,show 0+q - q=0 by omega,z2]
   split
   ·omega
   ·rfl
  ·rw[if_neg tO];exact r2 q tO h2
theorem rch_all {n:Nat} {sg:Bool} {a b:List Int} (ha:Stk sg n a) (hb:Stk sg n b):Rch n sg a b:=
 (rch_first n a (Nat.le_refl _) ha (fun p h1 h2=>by omega)).trans ((rch_first n b (Nat.le_refl _) hb (fun p h1 h2=>by omega)).symm hb.len)
theorem up1 (e:Nat) (h:e≤1000000000):wrap64 ((e:Int)+1)=((e+1:Nat):Int):=by rw[w64 tO tO];rfl
theorem firstL_succ (i:Nat):firstL (i+1)=firstL i++ [((i+1:Nat):Int)]:=by
 unfold firstL;rw[List.range_succ,List.map_append];rfl
theorem firstL_len (i:Nat):(firstL i).length=i:=by simp[firstL]
theorem rfirst_l0 (n:Nat) (hn:n≤1000): ∀d i:Nat,i+d=n→Ev (fun k=>bibelotref07_First.l0 k (n:Int) (firstL i) ((i+1:Nat):Int)) (firstL n)
 |0,i,h=>by
  obtain rfl:i=n:=h;refine Ev.step (f:=fun _=>some (firstL i)) (fun k=>?_) (Ev.now _);rw[bibelotref07_First.l0,if_neg tO]
 |d+1,i,h=>by
  have ih:=rfirst_l0 n hn d (i+1) tO;refine Ev.step (fun k=>?_) ih;rw[bibelotref07_First.l0,if_pos tO,if_pos (by rw[firstL_len];omega),w64 tO tO,firstL_succ];rfl
theorem rfirst_ev (n:Nat) (hn:n≤1000):Ev (fun k=>bibelotref07_First.f k (n:Int)) (firstL n):=rfirst_l0 n hn n 0 tO
theorem picTo_succ (l:List Int) (i:Nat) (h:i< l.length):picTo (l.take (i+1))=picTo (l.take i)++pic1 (nth l i):=by
 unfold picTo;rw[List.take_add_one,List.getElem?_eq_getElem h,List.flatMap_append,nth_get l i h];simp
theorem rpicture_l0 (l:List Int) (hl:l.length≤1000) (hs:Smalls l): ∀d i:Nat,i+d=l.length→Ev (fun k=>bibelotref07_Picture.l0 k l (picTo (l.take i)) (i:Int)) (picL l)
 |0,i,h=>by
  have hp:=picTo_len l;refine Ev.step (f:=fun _=>some (picL l)) (fun k=>?_) (Ev.now _);rw[bibelotref07_Picture.l0,if_neg tO,List.take_of_length_le tO,if_pos tO,w64 (x:=2*(l.length:Int)) tO tO,w64 tO tO];rfl
 | d+1,i,h=>by
  have ih:=rpicture_l0 l hl hs d (i+1) tO;have hp:=picTo_len (l.take i);rw[List.length_take]at hp;have hv:=hs i;obtain⟨v,hve⟩: ∃v,nth l i=v:=⟨_,rfl⟩;rw[picTo_succ l i tO,hve]at ih;rw[hve]at hv;refine Ev.step (fun k=>?_) ih;have hw:wrap64 ((i:Int)+1)=((i+1:Nat):Int):=up1 i tO;rw[bibelotref07_Picture.l0,if_pos tO,if_pos tO,rd_nth,hve,abs_f _ tO,Option.bind_some,hw];by_cases hpos:v>0
  ·have e:pic1 v= [wrap64 (wrap64 (2*(v.natAbs:Int)) - 1),wrap64 (2*(v.natAbs:Int))]:=by
    unfold pic1;rw[if_pos hpos,w64 (x:=2*(v.natAbs:Int)) tO tO,w64 tO tO,show 2*(v.natAbs:Int)=2*v by omega]
   rw[if_pos hpos,Option.bind_some,if_pos (by simp only[List.length_cons,List.length_nil];omega),←e]
  ·have e:pic1 v= [wrap64 (2*(v.natAbs:Int)),wrap64 (wrap64 (2*(v.natAbs:Int)) - 1)]:=by
    unfold pic1;rw[if_neg hpos,w64 (x:=2*(v.natAbs:Int)) tO tO,w64 tO tO,show 2*(v.natAbs:Int)= -2*v by omega]
   rw[if_neg hpos,Option.bind_some,if_pos (by simp only[List.length_cons,List.length_nil];omega),←e]
theorem rpicture_ev (l:List Int) (hl:l.length≤1000) (hs:Smalls l):Ev (fun k=>bibelotref07_Picture.f k l) (picL l):=rpicture_l0 l hl hs l.length 0 tO
def joinN (g:List Int) (a b:Nat):List Int:=g.map (fun z=>if z=nth g b then nth g a else z)
theorem joinN_len (g:List Int) (a b:Nat):(joinN g a b).length=g.length:=List.length_map ..
theorem nth_joinN {g:List Int} (a b:Nat) {i:Nat} (h:i< g.length):nth (joinN g a b) i=if nth g i=nth g b then nth g a else nth g i:=by
 rw[nth_get _ i (by rw[joinN_len];exact h),nth_get g i h];unfold joinN;rw[List.getElem_map]
theorem joined_l0 (g:List Int) (hg:g.length≤1000000) (x y:Int): ∀d i:Nat,i+d=g.length→Ev (fun k=>bibelotref07_joined.l0 k g x y ((g.take i).map (fun z=>if z=y then x else z)) (i:Int)) (g.map (fun z=>if z=y then x else z))
 |0,i,h=>by
  refine Ev.step (f:=fun _=>some (g.map (fun z=>if z=y then x else z))) (fun k=>?_) (Ev.now _);rw[bibelotref07_joined.l0,if_neg tO,List.take_of_length_le tO]
 |d+1,i,h=>by
  have ih:=joined_l0 g hg x y d (i+1) tO;have hl:((g.take i).map (fun z=>if z=y then x else z)).length< 17592186044416:=by rw[List.length_map,List.length_take];omega
  rw[List.take_add_one,List.getElem?_eq_getElem tO,List.map_append,←nth_get g i tO]at ih;refine Ev.step (fun k=>?_) ih;rw[bibelotref07_joined.l0,if_pos tO,if_pos tO,rd_nth,if_pos hl,if_pos hl,up1 i tO];by_cases e:nth g i=y
  ·rw[if_pos e];simp[e]
  ·rw[if_neg e];simp[e]
theorem joined_ev {g:List Int} (hg:g.length≤1000000) {a b:Nat} (ha:a< g.length) (hb:b< g.length):Ev (fun k=>bibelotref07_joined.f k g (a:Int) (b:Int)) (joinN g a b):=by
 refine Ev.congr (fun k=>?_) (joined_l0 g hg (nth g a) (nth g b) g.length 0 tO);unfold bibelotref07_joined.f;rw[if_pos tO,if_pos tO,if_pos tO,if_pos tO,rd_nth,rd_nth];rfl
def mergeL (E:List (Nat×Nat)) (g:List Int):List Int:=E.foldl (fun g e=>joinN g e.1 e.2) g
theorem mergeL_len: ∀(E:List (Nat×Nat)) (g:List Int),(mergeL E g).length=g.length
 | [],_=>rfl
 |e::E,g=>by
  show(mergeL E (joinN g e.1 e.2)).length=_;rw[mergeL_len E,joinN_len]
theorem mergeL_snoc (E:List (Nat×Nat)) (e:Nat×Nat) (g:List Int):mergeL (E++ [e]) g=joinN (mergeL E g) e.1 e.2:=by
 unfold mergeL;rw[List.foldl_append];rfl
theorem joinN_keep {g:List Int} (x y:Nat) {a b:Nat} (ha:a< g.length) (hb:b< g.length) (h:nth g a=nth g b):nth (joinN g x y) a=nth (joinN g x y) b:=by
 rw[nth_joinN x y ha,nth_joinN x y hb,h]
theorem mergeL_keep: ∀(E:List (Nat×Nat)) {g:List Int} {a b:Nat},a< g.length→b< g.length→nth g a=nth g b→nth (mergeL E g) a=nth (mergeL E g) b
 | [],_,_,_,_,_,h=>h
 |e::E,g,a,b,ha,hb,h=>by
  show nth (mergeL E (joinN g e.1 e.2)) a=nth (mergeL E (joinN g e.1 e.2)) b;exact mergeL_keep E (by rw[joinN_len];exact ha) (by rw[joinN_len];exact hb) (joinN_keep _ _ ha hb h)
theorem mergeL_pair: ∀(E:List (Nat×Nat)) {g:List Int},(∀e,e∈E→e.1< g.length∧e.2< g.length)→ ∀e,e∈E→nth (mergeL E g) e.1=nth (mergeL E g) e.2
 | e0::E,g,hE,e,he=>by
  show nth (mergeL E (joinN g e0.1 e0.2)) e.1=nth (mergeL E (joinN g e0.1 e0.2)) e.2;rcases List.mem_cons.1 he with rfl|he
  ·have hb:=hE e (List.mem_cons_self ..);refine mergeL_keep E (by rw[joinN_len];exact hb.1) (by rw[joinN_len];exact hb.2) ?_;rw[nth_joinN _ _ hb.1,nth_joinN _ _ hb.2,if_pos (Eq.refl (nth g e.2))]
   split<;>rfl
  ·exact mergeL_pair E (fun z hz=>by rw[joinN_len];exact hE z (List.mem_cons_of_mem _ hz)) e he
def Resp (S:Nat→Prop) (g:List Int):Prop:= ∀a b,a< g.length→b< g.length→nth g a=nth g b→S a→S b
theorem mergeL_resp {S:Nat→Prop} : ∀(E:List (Nat×Nat)) {g:List Int},(∀e,e∈E→e.1< g.length∧e.2< g.length∧(S e.1↔S e.2))→Resp S g→Resp S (mergeL E g)
 | [],_,_,h=>h
 | e::E,g,hE,h=>by
  show Resp S (mergeL E (joinN g e.1 e.2));have he:=hE e (List.mem_cons_self ..);refine mergeL_resp E (fun z hz=>by rw[joinN_len];exact hE z (List.mem_cons_of_mem _ hz)) (fun a b ha hb hab hS=>?_);rw[joinN_len]at ha hb;rw[nth_joinN _ _ ha,nth_joinN _ _ hb]at hab;by_cases h1:nth g a=nth g e.2
  ·have s2:S e.2:=h a e.2 ha he.2.1 h1 hS;by_cases h2:nth g b=nth g e.2
   ·exact h e.2 b he.2.1 hb h2.symm s2
   ·rw[if_pos h1,if_neg h2]at hab;exact h e.1 b he.1 hb hab (he.2.2.2 s2)
  ·rw[if_neg h1]at hab;by_cases h2:nth g b=nth g e.2
   ·rw[if_pos h2]at hab;exact h e.2 b he.2.1 hb h2.symm (he.2.2.1 (h a e.1 ha he.1 hab hS))
   ·rw[if_neg h2]at hab;exact h a b ha hb hab hS
def idL (m:Nat):List Int:=(List.range m).map (fun(k:Nat)=>(k:Int))
theorem idL_len (m:Nat):(idL m).length=m:=by simp[idL]
theorem nth_idL {m i:Nat} (h:i< m):nth (idL m) i=(i:Int):=by
 rw[nth_get _ i (by rw[idL_len];exact h)];unfold idL;simp
theorem idL_resp (S:Nat→Prop) (m:Nat):Resp S (idL m):=fun a b ha hb h hS=>by
 rw[idL_len]at ha hb;rw[nth_idL ha,nth_idL hb]at h;have:a=b:=by omega
 rw[←this];exact hS
def blackE (p:List Int) (j:Nat):Nat×Nat:=((nth p (2*j)).toNat/2,(nth p (2*j+1)).toNat/2)
def rndTo (p:List Int) (n j:Nat):List Int:=mergeL ((List.range j).map (blackE p)) (idL (n+1))
def rndL (s:List Int):List Int:=rndTo (picL s) s.length (s.length+1)
theorem rndTo_len (p:List Int) (n j:Nat):(rndTo p n j).length=n+1:=by unfold rndTo;rw[mergeL_len,idL_len]
theorem rndL_len (s:List Int):(rndL s).length=s.length+1:=rndTo_len ..
theorem rndTo_succ (p:List Int) (n j:Nat):rndTo p n (j+1)=joinN (rndTo p n j) (blackE p j).1 (blackE p j).2:=by
 unfold rndTo;rw[List.range_succ,List.map_append,List.map_singleton,mergeL_snoc]
theorem half_eq {x:Int} (h0:0≤x) (h1:x≤1000000):wrap64 (Int.tdiv x 2)=((x.toNat/2:Nat):Int):=by
 rw[Int.tdiv_eq_ediv_of_nonneg h0,w64 tO tO];omega
theorem round_l1 (p:List Int) (n:Nat) (hn:n≤1000) (hp:p.length=2*n+2) (hr: ∀q,0≤nth p q∧nth p q< 2*(n:Int)+2): ∀d j:Nat,j+d=n+1→Ev (fun k=>bibelotref07_round.l1 k p (rndTo p n j) ((2*j:Nat):Int)) (rndTo p n (n+1))
 |0,j,h=>by
  have e:j=n+1:=by omega
  subst e;refine Ev.step (f:=fun _=>some (rndTo p n (n+1))) (fun k=>?_) (Ev.now _);rw[bibelotref07_round.l1,if_neg tO]
 |d+1,j,h=>by
  have ih:=round_l1 p n hn hp hr d (j+1) tO;have ha:=hr (2*j);have hb:=hr (2*j+1);rw[rndTo_succ]at ih;have hj:=joined_ev (g:=rndTo p n j) (a:=(blackE p j).1) (b:=(blackE p j).2) (by rw[rndTo_len];omega) (by rw[rndTo_len];unfold blackE;dsimp only;omega) (by rw[rndTo_len];unfold blackE;dsimp only;omega);refine Ev.step (fun k=>?_) (Ev.bind (f:=fun k t=>bibelotref07_round.l1 k p t ((2*(j+1):Nat):Int)) hj ih);have e1:wrap64 (((2*j:Nat):Int)+1)=((2*j+1:Nat):Int):=by rw[w64 tO tO];omega
  have e2:wrap64 (((2*j:Nat):Int)+2)=((2*(j+1):Nat):Int):=by rw[w64 tO tO];omega
  rw[bibelotref07_round.l1,if_pos tO,if_pos tO,e1,if_pos tO,if_pos tO,rd_nth,rd_nth,half_eq ha.1 tO,half_eq hb.1 tO,e2];rfl
theorem round_l0 (s p:List Int) (hn:s.length≤1000) (hp:p.length=2*s.length+2) (hr: ∀q,0≤nth p q∧nth p q< 2*(s.length:Int)+2): ∀d i:Nat,i+d=s.length+1→Ev (fun k=>bibelotref07_round.l0 k s p (idL i) (i:Int)) (rndTo p s.length (s.length+1))
 |0,i,h=>by
  have e:i=s.length+1:=by omega
  subst e;refine Ev.step (fun k=>?_) (round_l1 p s.length hn hp hr (s.length+1) 0 tO);rw[bibelotref07_round.l0,if_neg tO];rfl
 |d+1,i,h=>by
  have ih:=round_l0 s p hn hp hr d (i+1) tO;have e:idL (i+1)=idL i++ [(i:Int)]:=by unfold idL;rw[List.range_succ,List.map_append];rfl
  rw[e]at ih;refine Ev.step (fun k=>?_) ih;rw[bibelotref07_round.l0,if_pos tO,if_pos (by rw[idL_len];omega),up1 i tO]
theorem round_ev {s:List Int} (hn:s.length≤40) (hm: ∀x,x∈s→x≠0∧ -(s.length:Int)≤x∧x≤s.length) (hs:Smalls s):Ev (fun k=>bibelotref07_round.f k s) (rndL s):=by
 unfold bibelotref07_round.f;refine Ev.bind (rpicture_ev s tO hs) ?_;exact round_l0 s (picL s) tO (picL_len s) (picL_range s hm) (s.length+1) 0 tO
def firstIn (g:List Int) (i:Nat):Bool:=(List.range i).all (fun j=>decide (nth g j≠nth g i))
def clsUp (g:List Int) (i k:Nat):List Int:=((List.range k).filter (fun q=>decide (nth g q=nth g i))).map (fun(q:Nat)=>(q:Int))
def clsOf (g:List Int) (i:Nat):List Int:=clsUp g i g.length
def clsTo (g:List Int) (i:Nat):List (List Int):=((List.range i).filter (firstIn g)).map (clsOf g)
theorem firstIn_iff (g:List Int) (i:Nat):firstIn g i=true↔ ∀j,j< i→nth g j≠nth g i:=by
 unfold firstIn;rw[List.all_eq_true];exact⟨fun h j hj=>of_decide_eq_true (h j (List.mem_range.2 hj)),fun h j hj=>decide_eq_true (h j (List.mem_range.1 hj))⟩
theorem clsTo_succ (g:List Int) (i:Nat):clsTo g (i+1)=if firstIn g i=true then clsTo g i++ [clsOf g i]else clsTo g i:=by
 unfold clsTo;rw[List.range_succ,List.filter_append];by_cases h:firstIn g i=true
 ·rw[if_pos h];simp[h]
 ·rw[if_neg h];simp[h]
theorem clsTo_le (g:List Int) (i:Nat):(clsTo g i).length≤i:=by
 unfold clsTo;rw[List.length_map];exact Nat.le_trans (List.length_filter_le _ _) tS
theorem clsUp_le (g:List Int) (i k:Nat):(clsUp g i k).length≤k:=by
 unfold clsUp;rw[List.length_map];exact Nat.le_trans (List.length_filter_le _ _) tS
theorem clsUp_succ (g:List Int) (i k:Nat):clsUp g i (k+1)=if nth g k=nth g i then clsUp g i k++ [(k:Int)]else clsUp g i k:=by
 unfold clsUp;rw[List.range_succ,List.filter_append];by_cases h:nth g k=nth g i
 ·rw[if_pos h];simp[h]
 ·rw[if_neg h];simp[h]
theorem getD_set (l:List Bool) (k q:Nat) (h:k< l.length):(l.set k true).getD q false=if q=k then true else l.getD q false:=by
 rw[List.getD_eq_getElem?_getD,List.getD_eq_getElem?_getD,List.getElem?_set];by_cases e:q=k
 ·rw[if_pos e,if_pos e.symm,if_pos h];rfl
 ·rw[if_neg e,if_neg (fun h=>e h.symm)]
theorem circles_l1 (g:List Int) (hg:g.length≤1000000) (i:Nat) (hi:i< g.length) (x4:List (List Int)) (hx4:x4.length≤1000000) (res:List (List Int))
  (cont: ∀done:List Bool,done.length=g.length→(∀q,q< g.length→(done.getD q false=true↔ ∃j,j< i+1∧nth g j=nth g q))→Ev (fun k=>bibelotref07_Circles.l0 k g (x4++ [clsOf g i]) done ((i+1:Nat):Int)) res):
  ∀(d k:Nat) (done:List Bool),k+d=g.length→done.length=g.length→(∀q,q< g.length→(done.getD q false=true↔(∃j,j< i∧nth g j=nth g q)∨(q< k∧nth g q=nth g i)))→
   Ev (fun kk=>bibelotref07_Circles.l1 kk g x4 done (i:Int) (clsUp g i k) (k:Int)) res
 | 0,k,done,h,hd,hq=>by
  have e:k=g.length:=by omega
  subst e;refine Ev.step (fun kk=>?_) (cont done hd (fun q hql=>?_))
  ·rw[bibelotref07_Circles.l1,if_neg tO,if_pos tO,up1 i tO];rfl
  ·rw[hq q hql];constructor
   ·rintro(⟨j,hj,he⟩|⟨_,he⟩)
    ·exact⟨j,by omega,he⟩
    ·exact⟨i,by omega,he.symm⟩
   ·rintro⟨j,hj,he⟩;by_cases e:j=i
    ·subst e;exact .inr ⟨hql,he.symm⟩
    ·exact .inl ⟨j,by omega,he⟩
 | d+1,k,done,h,hd,hq=>by
  by_cases he:nth g k=nth g i
  ·have ih:=circles_l1 g hg i hi x4 hx4 res cont d (k+1) (done.set k true) tO (by rw[List.length_set];exact hd) (fun q hql=>by
    rw[getD_set done k q tO];by_cases e:q=k
    ·rw[if_pos e];exact⟨fun _=> .inr ⟨by omega,by rw[e];exact he⟩,fun _=>rfl⟩
    ·rw[if_neg e,hq q hql];constructor
     ·rintro(h|⟨h1,h2⟩)
      ·exact .inl h
      ·exact .inr ⟨by omega,h2⟩
     ·rintro(h|⟨h1,h2⟩)
      ·exact .inl h
      ·exact .inr ⟨by omega,h2⟩)
   rw[clsUp_succ,if_pos he]at ih;refine Ev.step (fun kk=>?_) ih;have hl:=clsUp_le g i k;rw[bibelotref07_Circles.l1,if_pos tO,if_pos tO,if_pos tO,if_pos tO,rd_nth,rd_nth,if_pos he,if_pos tO,if_pos tO,up1 k tO,Int.toNat_natCast]
  ·have ih:=circles_l1 g hg i hi x4 hx4 res cont d (k+1) done tO hd (fun q hql=>by
    rw[hq q hql];constructor
    ·rintro(h|⟨h1,h2⟩)
     ·exact .inl h
     ·exact .inr ⟨by omega,h2⟩
    ·rintro(h|⟨h1,h2⟩)
     ·exact .inl h
     ·by_cases e:q=k
      ·rw[e]at h2;exact absurd h2 he
      ·exact .inr ⟨by omega,h2⟩)
   rw[clsUp_succ,if_neg he]at ih;refine Ev.step (fun kk=>?_) ih;rw[bibelotref07_Circles.l1,if_pos tO,if_pos tO,if_pos tO,if_pos tO,rd_nth,rd_nth,if_neg he,up1 k tO]
theorem clsUp_first {g:List Int} {i:Nat} (h:firstIn g i=true): ∀k,k≤i→clsUp g i k= []
 |0,_=>rfl
 |k+1,hk=>by
  rw[clsUp_succ,if_neg ((firstIn_iff g i).1 h k tO),clsUp_first h k tO]
theorem circles_l0 (g:List Int) (hg:g.length≤1000000): ∀(d i:Nat) (done:List Bool),i+d=g.length→done.length=g.length→(∀q,q< g.length→(done.getD q false=true↔ ∃j,j< i∧nth g j=nth g q))→
   Ev (fun k=>bibelotref07_Circles.l0 k g (clsTo g i) done (i:Int)) (clsTo g g.length)
 |0,i,done,h,hd,hq=>by
  have e:i=g.length:=by omega
  subst e;refine Ev.step (f:=fun _=>some (clsTo g g.length)) (fun k=>?_) (Ev.now _);rw[bibelotref07_Circles.l0,if_neg tO]
 | d+1,i,done,h,hd,hq=>by
  have hle:=clsTo_le g i;by_cases hdn:done.getD i false=true
  ·have ih:=circles_l0 g hg d (i+1) done tO hd (fun q hql=>by
    rw[hq q hql];constructor
    ·rintro⟨j,hj,he⟩;exact⟨j,by omega,he⟩
    ·rintro⟨j,hj,he⟩;by_cases e:j=i
     ·obtain⟨j',hj',he'⟩:=(hq i tO).1 hdn;exact⟨j',hj',by rw[he',←he,e]⟩
     ·exact⟨j,by omega,he⟩)
   have hf: ¬firstIn g i=true:=fun hf=>by
    obtain⟨j,hj,he⟩:=(hq i tO).1 hdn;exact(firstIn_iff g i).1 hf j hj he
   rw[clsTo_succ,if_neg hf]at ih;refine Ev.step (fun k=>?_) ih;rw[bibelotref07_Circles.l0,if_pos tO,if_pos tO,if_pos tO];unfold rdOf;rw[Int.toNat_natCast,if_pos hdn,up1 i tO]
  ·have hf:firstIn g i=true:=(firstIn_iff g i).2 (fun j hj he=>hdn ((hq i tO).2 ⟨j,hj,he⟩))
   refine Ev.step (fun k=>?_) (circles_l1 g hg i tO (clsTo g i) tO (clsTo g g.length) (fun done' hd' hq'=>by
    have ih:=circles_l0 g hg d (i+1) done' tO hd' hq';rw[clsTo_succ,if_pos hf]at ih
    exact ih) (d+1) i done h hd (fun q hql=>by
     rw[hq q hql];constructor
     ·exact .inl
     ·rintro(h|⟨h1,h2⟩)
      ·exact h
      ·exact absurd h2 ((firstIn_iff g i).1 hf q h1)))
   rw[bibelotref07_Circles.l0,if_pos tO,if_pos tO,if_pos tO];unfold rdOf;rw[Int.toNat_natCast,if_neg hdn,clsUp_first hf i (Nat.le_refl _)]
theorem rcircles_ev {s:List Int} (hn:s.length≤40) (hm: ∀x,x∈s→x≠0∧ -(s.length:Int)≤x∧x≤s.length) (hs:Smalls s):Ev (fun k=>bibelotref07_Circles.f k s) (clsTo (rndL s) (s.length+1)):=by
 unfold bibelotref07_Circles.f;refine Ev.bind (round_ev hn hm hs) ?_;have hl:=rndL_len s
 have h:=circles_l0 (rndL s) tO (rndL s).length 0 (List.replicate (rndL s).length false) tO tS (fun q hq=>by
  constructor
  ·intro h;rw[List.getD_eq_getElem?_getD,List.getElem?_replicate]at h
   split at h<;>cases h
  ·rintro⟨j,hj,_⟩;omega)
 rw[hl]at h;refine Ev.congr (fun k=>?_) h;rw[if_pos tO,if_pos tO,hl];rfl
theorem nth_app (a b:List Int) (j:Nat):nth (a++b) j=if j< a.length then nth a j else nth b (j - a.length):=by
 unfold nth;rw[List.getD_eq_getElem?_getD,List.getElem?_append]
 split
 ·rw[List.getD_eq_getElem?_getD]
 ·rw[List.getD_eq_getElem?_getD]
theorem pic1_len (v:Int):(pic1 v).length=2:=by unfold pic1;split<;>rfl
theorem nth_flat: ∀(s:List Int) (i e:Nat),i< s.length→e< 2→nth (s.flatMap pic1) (2*i+e)=nth (pic1 (nth s i)) e
 |x::l,0,e,_,he=>by
  rw[List.flatMap_cons,nth_app,pic1_len,if_pos tO,Nat.mul_zero,Nat.zero_add];rfl
 |x::l,i+1,e,hi,he=>by
  rw[List.flatMap_cons,nth_app,pic1_len,if_neg tO,show 2*(i+1)+e - 2=2*i+e by omega,nth_flat l i e (by simpa using hi) he];rfl
theorem picL_mid (s:List Int) (i e:Nat) (hi:i< s.length) (he:e< 2):nth (picL s) (2*i+1+e)=if nth s i>0 then 2*nth s i - 1+e else -2*nth s i - e:=by
 unfold picL;rw[nth_app,picTo_len,if_pos tO]
 have:nth (picTo s) (2*i+1+e)=nth (s.flatMap pic1) (2*i+e):=by
  unfold picTo nth;rw[show 2*i+1+e=(2*i+e)+1 by omega];rfl
 rw[this,nth_flat s i e hi he];unfold pic1
 match e,he with
 |0,_=>split<;>simp[nth]
 |1,_=>split<;>simp[nth]
theorem picL_last (s:List Int):nth (picL s) (2*s.length+1)=2*(s.length:Int)+1:=by
 unfold picL;rw[nth_app,picTo_len,if_neg tO,show 2*s.length+1 - (1+2*s.length)=0 by omega];rfl
structure PicP (N:Nat) (p pl:List Int):Prop where
 p_lt: ∀q,q< N→(nth p q).toNat< N
 l_lt: ∀x,x< N→(nth pl x).toNat< N
 pp: ∀x,x< N→(nth p (nth pl x).toNat).toNat=x
 lp: ∀q,q< N→(nth pl (nth p q).toNat).toNat=q
theorem pl_set (l:List Int) (a:Nat) (v:Int) (x:Nat) (h:a< l.length):nth (l.set a v) x=if x=a then v else nth l x:=by
 unfold nth;rw[List.getD_eq_getElem?_getD,List.getElem?_set];by_cases e:x=a
 ·rw[if_pos e,if_pos e.symm,if_pos h];rfl
 ·rw[if_neg e,if_neg (fun h=>e h.symm),List.getD_eq_getElem?_getD]
theorem plTo_at {p:List Int} {N:Nat} (hN:p.length=N) (hlt: ∀q,q< N→(nth p q).toNat< N) (hinj: ∀q q',q< N→q'< N→(nth p q).toNat=(nth p q').toNat→q=q'): ∀k,k≤N→ ∀q,q< k→nth (plTo p k) (nth p q).toNat=(q:Int)
 |0,_,q,hq=>by omega
 | k+1,hk,q,hq=>by
  rw[plTo_step,pl_set _ _ _ _ (by rw[plTo_len,hN];exact hlt k tO)];by_cases e:q=k
  ·rw[e,if_pos rfl]
  ·rw[if_neg (fun h=>e (hinj q k tO tO h))];exact plTo_at hN hlt hinj k tO q tO
theorem stk_has {s:List Int} {n:Nat} (hs:Stk true n s) {w:Nat} (h1:1≤w) (h2:w≤n): ∃i,i< n∧(nth s i).natAbs=w:=by
 by_cases hw:w∈s.map Int.natAbs
 ·obtain⟨v,hv,e⟩:=List.mem_map.1 hw;obtain⟨i,hi,e2⟩:=mem_nth hv;exact⟨i,by rw[←hs.len];exact hi,by rw[e2,e]⟩
 ·exfalso;have hnd:(w::s.map Int.natAbs).Nodup:=List.nodup_cons.2 ⟨hw,hs.nd⟩
  have hsub:(w::s.map Int.natAbs) ⊆ (List.range n).map (· +1):=by
   intro z hz;rcases List.mem_cons.1 hz with rfl|hz
   ·exact List.mem_map.2 ⟨z - 1,List.mem_range.2 tO,by omega⟩
   ·obtain⟨v,hv,rfl⟩:=List.mem_map.1 hz;have:=hs.rng v hv;exact List.mem_map.2 ⟨v.natAbs - 1,List.mem_range.2 tO,by omega⟩
  have:=hnd.length_le_of_subset hsub;rw[List.length_cons,List.length_map,List.length_map,List.length_range,hs.len]at this;omega
theorem pic_pos {s:List Int} {n:Nat} (hs:Stk true n s) (q:Nat) (hq:q< 2*n+2):(q=0∧(nth (picL s) q).toNat=0)∨(q=2*n+1∧(nth (picL s) q).toNat=2*n+1)∨
  ∃i e,i< n∧e< 2∧q=2*i+1+e∧((0< nth s i∧(nth (picL s) q).toNat=2*(nth s i).natAbs - 1+e)∨(nth s i< 0∧(nth (picL s) q).toNat=2*(nth s i).natAbs - e)):=by
 have hl:=hs.len;by_cases h0:q=0
 ·exact .inl ⟨h0,by rw[h0];rfl⟩
 ·by_cases h1:q=2*n+1
  ·refine .inr (.inl ⟨h1,?_⟩);rw[h1,←hl,picL_last];omega
  ·refine .inr (.inr ⟨(q - 1)/2,(q - 1) % 2,by omega,by omega,by omega,?_⟩);have hm:=picL_mid s ((q - 1)/2) ((q - 1) % 2) tO tO;rw[show 2*((q - 1)/2)+1+(q - 1) % 2=q by omega]at hm;have hv:=hs.rng (nth s ((q - 1)/2)) (nth_in s _ tO);rw[hm];by_cases hp:nth s ((q - 1)/2)>0
   ·rw[if_pos hp];exact .inl ⟨hp,by omega⟩
   ·rw[if_neg hp];exact .inr ⟨by omega,by omega⟩
theorem pic_ok {s:List Int} {n:Nat} (hs:Stk true n s):PicP (2*n+2) (picL s) (plL s):=by
 have hl:=hs.len;have hlen:(picL s).length=2*n+2:=by rw[picL_len,hl]
 have hr: ∀i,i< n→1≤(nth s i).natAbs∧(nth s i).natAbs≤n:=fun i hi=>by
  have hv:=hs.rng (nth s i) (nth_in s i tO);omega
 have hnd:=(stk_nth.1 hs).2.2.1
 have hlt: ∀q,q< 2*n+2→(nth (picL s) q).toNat< 2*n+2:=fun q hq=>by
  rcases pic_pos hs q hq with⟨_,h⟩|⟨_,h⟩|⟨i,e,hi,he,_,⟨_,h⟩|⟨_,h⟩⟩
  ·omega
  ·omega
  ·have:=hr i hi;omega
  ·have:=hr i hi;omega
 have hinj: ∀q q',q< 2*n+2→q'< 2*n+2→(nth (picL s) q).toNat=(nth (picL s) q').toNat→q=q':=fun q q' hq hq' he=>by
  rcases pic_pos hs q hq with⟨e0,h⟩|⟨e0,h⟩|⟨i,e,hi,hee,e0,h⟩
  ·rcases pic_pos hs q' hq' with⟨e1,h'⟩|⟨e1,h'⟩|⟨i',e',hi',hee',e1,h'⟩
   ·omega
   ·omega
   ·have:=hr i' hi';rcases h' with⟨_,h'⟩|⟨_,h'⟩<;>omega
  ·rcases pic_pos hs q' hq' with⟨e1,h'⟩|⟨e1,h'⟩|⟨i',e',hi',hee',e1,h'⟩
   ·omega
   ·omega
   ·have:=hr i' hi';rcases h' with⟨_,h'⟩|⟨_,h'⟩<;>omega
  ·have h1:=hr i hi;rcases pic_pos hs q' hq' with⟨e1,h'⟩|⟨e1,h'⟩|⟨i',e',hi',hee',e1,h'⟩
   ·rcases h with⟨_,h⟩|⟨_,h⟩<;>omega
   ·rcases h with⟨_,h⟩|⟨_,h⟩<;>omega
   ·have h2:=hr i' hi';have hab:(nth s i).natAbs=(nth s i').natAbs:=by rcases h with⟨_,h⟩|⟨_,h⟩<;>rcases h' with⟨_,h'⟩|⟨_,h'⟩<;>omega
    have hii:=hnd i i' hi hi' hab;subst hii;rcases h with⟨s1,h⟩|⟨s1,h⟩<;>rcases h' with⟨s2,h'⟩|⟨s2,h'⟩<;>omega
 have hat: ∀q,q< 2*n+2→nth (plL s) (nth (picL s) q).toNat=(q:Int):=fun q hq=>by
  unfold plL;rw[hlen];exact plTo_at hlen hlt hinj (2*n+2) (Nat.le_refl _) q hq
 have hsur: ∀x,x< 2*n+2→ ∃q,q< 2*n+2∧(nth (picL s) q).toNat=x:=fun x hx=>by
  by_cases h0:x=0
  ·exact⟨0,by omega,by rw[h0];rfl⟩
  ·by_cases h1:x=2*n+1
   ·refine⟨2*n+1,by omega,?_⟩;rw[←hl,picL_last];omega
   ·obtain⟨i,hi,hw⟩:=stk_has hs (w:=(x+1)/2) tO tO;have hv:=hs.rng (nth s i) (nth_in s i tO);by_cases hp:nth s i>0
    ·refine⟨2*i+1+(x+1) % 2,by omega,?_⟩;rw[picL_mid s i _ tO tO,if_pos hp];omega
    ·refine⟨2*i+1+x % 2,by omega,?_⟩;rw[picL_mid s i _ tO tO,if_neg hp];omega
 refine⟨hlt,fun x hx=>?_,fun x hx=>?_,fun q hq=>?_⟩
 ·obtain⟨q,hq,e⟩:=hsur x hx;rw[←e,hat q hq];omega
 ·obtain⟨q,hq,e⟩:=hsur x hx;rw[←e,hat q hq,Int.toNat_natCast]
 ·rw[hat q hq,Int.toNat_natCast]
theorem x1: ∀x,x< 128→x ^^^ 1=if x % 2=0 then x+1 else x - 1:=by decide+kernel
def beta (p pl:List Int) (x:Nat):Nat:=(nth p ((nth pl x).toNat ^^^ 1)).toNat
theorem x1_lt {n:Nat} (hn:n≤40) {x:Nat} (hx:x< 2*n+2):x ^^^ 1< 2*n+2∧(x ^^^ 1) ^^^ 1=x∧(x ^^^ 1)/2=x/2∧x ^^^ 1≠x:=by
 have h:=x1 x tO;have h2:=x1 (x ^^^ 1) (by rw[h];split<;>omega);rw[h2];rw[h];by_cases e:x % 2=0
 ·rw[if_pos e];refine⟨by omega,?_,by omega,by omega⟩;rw[if_neg tO];omega
 ·rw[if_neg e];refine⟨by omega,?_,by omega,by omega⟩;rw[if_pos tO];omega
theorem half_same {n:Nat} (hn:n≤40) {x y:Nat} (hx:x< 2*n+2) (hy:y< 2*n+2) (h:x/2=y/2):x=y∨x=y ^^^ 1:=by
 have h1:=x1 y tO;rw[h1]
 split<;>omega
def it (p pl:List Int) (x0:Nat):Nat→Nat
 |0=>x0
 |i+1=>hop p pl (it p pl x0 i)
def outs (p pl:List Int) (x0 K:Nat):List Int:=(List.range K).map (fun t=>((it p pl x0 t/2:Nat):Int))
theorem outs_succ (p pl:List Int) (x0 K:Nat):outs p pl x0 (K+1)=outs p pl x0 K++ [((it p pl x0 K/2:Nat):Int)]:=by unfold outs;rw[List.range_succ,List.map_append];rfl
def Fresh (p pl:List Int) (S0:Nat→Prop) (x0 K:Nat):Prop:= ∀t,t< K→ ¬S0 (it p pl x0 t/2)∧ ∀u,u< t→it p pl x0 u/2≠it p pl x0 t/2
section
variable {n:Nat} {p pl:List Int} (hn:n≤40) (P:PicP (2*n+2) p pl)
include hn P
theorem beta_lt {x:Nat} (hx:x< 2*n+2):beta p pl x< 2*n+2:=P.p_lt _ (x1_lt hn (P.l_lt x hx)).1
theorem beta_inv {x:Nat} (hx:x< 2*n+2):beta p pl (beta p pl x)=x:=by
 have h:=x1_lt hn (P.l_lt x hx);show(nth p ((nth pl (nth p ((nth pl x).toNat ^^^ 1)).toNat).toNat ^^^ 1)).toNat=x;rw[P.lp _ h.1,h.2.1,P.pp x hx]
theorem beta_ne {x:Nat} (hx:x< 2*n+2):beta p pl x≠x:=fun e=>by
 have h:=x1_lt hn (P.l_lt x hx);have h2:(nth pl (beta p pl x)).toNat=(nth pl x).toNat ^^^ 1:=P.lp _ h.1;rw[e]at h2;exact h.2.2.2 h2.symm
theorem it_lt {x0:Nat} (h0:x0< 2*n+2): ∀i,it p pl x0 i< 2*n+2
 |0=>h0
 |i+1=>beta_lt hn P (x1_lt hn (it_lt h0 i)).1
theorem fol_run (S0:Nat→Prop) {x0:Nat} (h0:x0< 2*n+2): ∀(fuel i:Nat) (seen:List Bool),seen.length=n+1→(∀j,j< n+1→(seen.getD j false=true↔S0 j∨ ∃t,t< i∧it p pl x0 t/2=j))→Fresh p pl S0 x0 i→unseen seen< fuel→
  ∃K seen',i≤K∧folF p pl fuel (it p pl x0 i) seen (outs p pl x0 i)=(outs p pl x0 K,seen')∧seen'.length=n+1∧(∀j,j< n+1→(seen'.getD j false=true↔S0 j∨ ∃t,t< K∧it p pl x0 t/2=j))∧Fresh p pl S0 x0 K∧(S0 (it p pl x0 K/2)∨ ∃t,t< K∧it p pl x0 t/2=it p pl x0 K/2)
 |0,i,seen,_,_,_,hf=>by omega
 | fuel+1,i,seen,hl,hs,hfr,hf=>by
  have hlt:=it_lt hn P h0 i;have hi2:it p pl x0 i/2< n+1:=by omega
  rw[folF];by_cases h:seen.getD (it p pl x0 i/2) false=true
  ·rw[if_pos h];exact⟨i,seen,Nat.le_refl _,rfl,hl,hs,hfr,(hs _ hi2).1 h⟩
  ·rw[if_neg h,←outs_succ];have hne: ¬(S0 (it p pl x0 i/2)∨ ∃t,t< i∧it p pl x0 t/2=it p pl x0 i/2):=fun hh=>h ((hs _ hi2).2 hh);have hu:=unseen_set (seen:=seen) (j:=it p pl x0 i/2) tO (by simpa using h)
   obtain⟨K,seen',hK,he,hr⟩:=fol_run S0 h0 fuel (i+1) (seen.set (it p pl x0 i/2) true) (by rw[List.length_set];exact hl) (fun j hj=>by
    rw[getD_set _ _ _ tO];by_cases e:j=it p pl x0 i/2
    ·rw[if_pos e];exact⟨fun _=> .inr ⟨i,by omega,e.symm⟩,fun _=>rfl⟩
    ·rw[if_neg e,hs j hj];constructor
     ·rintro(h|⟨t,ht,e2⟩)
      ·exact .inl h
      ·exact .inr ⟨t,by omega,e2⟩
     ·rintro(h|⟨t,ht,e2⟩)
      ·exact .inl h
      ·by_cases et:t=i
       ·rw[et]at e2;exact absurd e2.symm e
       ·exact .inr ⟨t,by omega,e2⟩) (fun t ht=>by
    by_cases et:t=i
    ·subst et;exact⟨fun h=>hne (.inl h),fun u hu e=>hne (.inr ⟨u,hu,e⟩)⟩
    ·exact hfr t tO) tO
   exact⟨K,seen',by omega,he,hr⟩
theorem fol_ring {S0:Nat→Prop} (hS: ∀x,x< 2*n+2→S0 (x/2)→S0 (beta p pl x/2)) {x0 K:Nat} (h0:x0< 2*n+2) (hx0: ¬S0 (x0/2)) (hfr:Fresh p pl S0 x0 K) (hit:S0 (it p pl x0 K/2)∨ ∃t,t< K∧it p pl x0 t/2=it p pl x0 K/2):0< K∧it p pl x0 K=x0:=by
 match K,hfr,hit with
 |0,_,hit=>
  rcases hit with h|⟨t,ht,_⟩
  ·exact absurd h hx0
  ·omega
 | K+1,hfr,hit=>
  refine⟨by omega,?_⟩;have hlt:=it_lt hn P h0;have hxK:=x1_lt hn (hlt K);have hnext:it p pl x0 (K+1)=beta p pl (it p pl x0 K ^^^ 1):=rfl;have hback:beta p pl (it p pl x0 (K+1))=it p pl x0 K ^^^ 1:=by rw[hnext,beta_inv hn P hxK.1]
  rcases hit with h|⟨j,hj,e⟩
  ·have:=hS _ (hlt (K+1)) h;rw[hback,hxK.2.2.1]at this;exact absurd this (hfr K tO).1
  ·rcases half_same hn (hlt (K+1)) (hlt j) e.symm with h|h
   ·match j,hj,h with
    |0,_,h=>exact h
    |j+1,hj,h=>
     exfalso;have h2:beta p pl (it p pl x0 (K+1))=beta p pl (it p pl x0 (j+1)):=by rw[h]
     have hxj:=x1_lt hn (hlt j);rw[hback,show it p pl x0 (j+1)=beta p pl (it p pl x0 j ^^^ 1)from rfl,beta_inv hn P hxj.1]at h2;have h3:it p pl x0 K/2=it p pl x0 j/2:=by rw[←hxK.2.2.1,h2,hxj.2.2.1]
     exact(hfr K tO).2 j tO h3.symm
   ·exfalso;have hxj:=x1_lt hn (hlt j);have h2:it p pl x0 K ^^^ 1=it p pl x0 (j+1):=by rw[←hback,h];rfl
    have h3:it p pl x0 (j+1)/2=it p pl x0 K/2:=by rw[←h2,hxK.2.2.1]
    by_cases e1:j+1=K
    ·rw[e1]at h2;exact hxK.2.2.2 h2
    ·by_cases e2:j=K
     ·subst e2;exact beta_ne hn P hxK.1 (by rw[←hnext];exact h)
     ·exact(hfr K tO).2 (j+1) tO h3
theorem fol_closed {x0 K:Nat} (h0:x0< 2*n+2) (hK:0< K) (hr:it p pl x0 K=x0) {x:Nat} (hx:x< 2*n+2) (h: ∃t,t< K∧it p pl x0 t/2=x/2): ∃t,t< K∧it p pl x0 t/2=beta p pl x/2:=by
 have hlt:=it_lt hn P h0;obtain⟨t,ht,e⟩:=h;have hnext: ∀i,it p pl x0 (i+1)=beta p pl (it p pl x0 i ^^^ 1):=fun _=>rfl;have hback: ∀i,beta p pl (it p pl x0 (i+1))=it p pl x0 i ^^^ 1:=fun i=>by rw[hnext,beta_inv hn P (x1_lt hn (hlt i)).1]
 rcases half_same hn hx (hlt t) e.symm with h|h
 ·match t,ht,h with
  |0,_,h=>
   obtain⟨k,rfl⟩: ∃k,K=k+1:=⟨K - 1,by omega⟩;refine⟨k,by omega,?_⟩;rw[h,show it p pl x0 0=it p pl x0 (k+1)from hr.symm,hback,(x1_lt hn (hlt k)).2.2.1]
  |t+1,ht,h=>exact⟨t,by omega,by rw[h,hback,(x1_lt hn (hlt t)).2.2.1]⟩
 ·by_cases e1:t+1=K
  ·exact⟨0,hK,by rw[h,←hnext,e1,hr];rfl⟩
  ·exact⟨t+1,by omega,by rw[h,←hnext]⟩
end
structure BlackG (n:Nat) (p pl g:List Int):Prop where
 len:g.length=n+1
 same: ∀x,x< 2*n+2→nth g (beta p pl x/2)=nth g (x/2)
 least: ∀S:Nat→Prop,(∀x,x< 2*n+2→S (x/2)→S (beta p pl x/2))→Resp S g
theorem beta_even {n:Nat} (hn:n≤40) {p pl:List Int} (P:PicP (2*n+2) p pl) {j:Nat} (hj:j< n+1):beta p pl (nth p (2*j)).toNat=(nth p (2*j+1)).toNat∧beta p pl (nth p (2*j+1)).toNat=(nth p (2*j)).toNat:=by
 have h1:=x1 (2*j) tO;have h2:=x1 (2*j+1) tO;rw[if_pos tO]at h1;rw[if_neg tO,show 2*j+1 - 1=2*j by omega]at h2;unfold beta;rw[P.lp _ tO,P.lp _ tO,h1,h2];exact⟨rfl,rfl⟩
theorem round_black {s:List Int} {n:Nat} (hn:n≤40) (hs:Stk true n s):BlackG n (picL s) (plL s) (rndL s):=by
 have P:=pic_ok hs;have hl:=hs.len
 have hE: ∀e,e∈(List.range (n+1)).map (blackE (picL s))→e.1< (idL (n+1)).length∧e.2< (idL (n+1)).length:=fun e he=>by
  obtain⟨j,hj,rfl⟩:=List.mem_map.1 he;rw[List.mem_range]at hj;have h1:=P.p_lt (2*j) tO;have h2:=P.p_lt (2*j+1) tO;rw[idL_len];unfold blackE
  dsimp only
  omega
 have hg:rndL s=mergeL ((List.range (n+1)).map (blackE (picL s))) (idL (n+1)):=by unfold rndL rndTo;rw[hl]
 refine⟨by rw[rndL_len,hl],fun x hx=>?_,fun S hS=>?_⟩
 ·have hq:=P.l_lt x hx;have hp:=P.pp x hx;obtain⟨q,hqe⟩: ∃q,(nth (plL s) x).toNat=q:=⟨_,rfl⟩;rw[hqe]at hq hp;have hm:=mergeL_pair _ hE (blackE (picL s) (q/2)) (List.mem_map.2 ⟨q/2,List.mem_range.2 tO,rfl⟩);rw[←hg]at hm;have hb:=beta_even hn P (j:=q/2) tO;unfold blackE at hm;by_cases e:q % 2=0
  ·rw[show 2*(q/2)=q by omega]at hm hb;rw[hp]at hm hb;rw[hb.1];exact hm.symm
  ·rw[show 2*(q/2)+1=q by omega]at hm hb;rw[hp]at hm hb;rw[hb.2];exact hm
 ·rw[hg];refine mergeL_resp _ (fun e he=>⟨(hE e he).1,(hE e he).2,?_⟩) (idL_resp S _);obtain⟨j,hj,rfl⟩:=List.mem_map.1 he;rw[List.mem_range]at hj;have hb:=beta_even hn P (j:=j) hj;have s1:=hS (nth (picL s) (2*j)).toNat (P.p_lt _ tO);have s2:=hS (nth (picL s) (2*j+1)).toNat (P.p_lt _ tO);rw[hb.1]at s1;rw[hb.2]at s2;exact⟨s1,s2⟩
theorem outs_nodup (p pl:List Int) (S0:Nat→Prop) (x0:Nat): ∀K,Fresh p pl S0 x0 K→(outs p pl x0 K).Nodup
 |0,_=>by simp[outs]
 |K+1,h=>by
  rw[outs_succ,List.nodup_append];refine⟨outs_nodup p pl S0 x0 K (fun t ht=>h t tO),by simp,fun a ha b hb=>?_⟩;rw[List.mem_singleton]at hb;subst hb;unfold outs at ha;obtain⟨u,hu,rfl⟩:=List.mem_map.1 ha;have:=(h K tO).2 u (List.mem_range.1 hu);omega
theorem clsUp_sorted (g:List Int) (i k:Nat):(clsUp g i k).Pairwise (· < ·):=by
 unfold clsUp;rw[List.pairwise_map];exact(List.pairwise_lt_range.filter _).imp (fun h=>by omega)
theorem mem_clsOf {g:List Int} {i:Nat} {z:Int} :z∈clsOf g i↔ ∃q,q< g.length∧nth g q=nth g i∧z=(q:Int):=by
 unfold clsOf clsUp;rw[List.mem_map];constructor
 ·rintro⟨q,hq,rfl⟩;rw[List.mem_filter,List.mem_range,decide_eq_true_eq]at hq;exact⟨q,hq.1,hq.2,rfl⟩
 ·rintro⟨q,h1,h2,rfl⟩;exact⟨q,by rw[List.mem_filter,List.mem_range,decide_eq_true_eq];exact⟨h1,h2⟩,rfl⟩
theorem fol_group {n:Nat} (hn:n≤40) {p pl g:List Int} (P:PicP (2*n+2) p pl) (B:BlackG n p pl g) {l:Nat} (hl:l< n+1) {seen:List Bool} (hsl:seen.length=n+1) (hs: ∀j,j< n+1→(seen.getD j false=true↔ ∃i,i< l∧nth g i=nth g j)) (hnl:seen.getD l false=false):
  ∃L seen',folF p pl (unseen seen+1) (2*l) seen []=(L,seen')∧sortL L=clsOf g l∧seen'.length=n+1∧ ∀j,j< n+1→(seen'.getD j false=true↔ ∃i,i< l+1∧nth g i=nth g j):=by
 have h0:2*l< 2*n+2:=by omega
 have hx0: ¬ ∃i,i< l∧nth g i=nth g (2*l/2):=fun h=>by
  rw[show 2*l/2=l by omega]at h;have:=(hs l hl).2 h;rw[hnl]at this;cases this
 have hS: ∀x,x< 2*n+2→(∃i,i< l∧nth g i=nth g (x/2))→ ∃i,i< l∧nth g i=nth g (beta p pl x/2):=fun x hx=>by
  rintro⟨i,hi,e⟩;exact⟨i,hi,by rw[B.same x hx];exact e⟩
 obtain⟨K,seen',_,he,hsl',hs',hfr,hit⟩:=fol_run hn P (fun j=> ∃i,i< l∧nth g i=nth g j) h0 (unseen seen+1) 0 seen hsl (fun j hj=>by
  rw[hs j hj]
  exact⟨.inl,fun h=>h.elim id (fun⟨t,ht,_⟩=>absurd ht tO)⟩) (fun t ht=>absurd ht tO) tO
 obtain⟨hK,hring⟩:=fol_ring hn P hS h0 hx0 hfr hit
 have hgrp: ∀t,nth g (it p pl (2*l) t/2)=nth g l:=by
  intro t
  induction t with
  |zero=>show nth g (2*l/2)=nth g l;rw[show 2*l/2=l by omega]
  |succ t ih=>
   have hx:=x1_lt hn (it_lt hn P h0 t);show nth g (beta p pl (it p pl (2*l) t ^^^ 1)/2)=nth g l;rw[B.same _ hx.1,hx.2.2.1,ih]
 have hmem: ∀j,j< n+1→((∃t,t< K∧it p pl (2*l) t/2=j)↔nth g j=nth g l):=fun j hj=>by
  constructor
  ·rintro⟨t,_,e⟩;rw[←e];exact hgrp t
  ·intro e;have hR:=B.least (fun j=> ∃t,t< K∧it p pl (2*l) t/2=j) (fun x hx h=>fol_closed hn P h0 hK hring hx h);exact hR l j (by rw[B.len];exact hl) (by rw[B.len];exact hj) e.symm ⟨0,hK,by show 2*l/2=l;omega⟩
 refine⟨outs p pl (2*l) K,seen',he,?_,hsl',fun j hj=>?_⟩
 ·refine perm_sorted_eq _ _ ?_ (sortL_sorted _) ((clsUp_sorted g l _).imp (fun h=>by omega));refine(List.mergeSort_perm ..).trans ((List.perm_ext_iff_of_nodup (outs_nodup p pl _ _ K hfr) ((clsUp_sorted g l _).imp (fun h=>by omega))).2 (fun z=>?_));rw[show clsUp g l g.length=clsOf g l from rfl,mem_clsOf];unfold outs;rw[List.mem_map];constructor
  ·rintro⟨t,ht,rfl⟩;have:=it_lt hn P h0 t;exact⟨it p pl (2*l) t/2,by rw[B.len];omega,hgrp t,rfl⟩
  ·rintro⟨q,hq,e,rfl⟩;rw[B.len]at hq;obtain⟨t,ht,e2⟩:=(hmem q hq).2 e;exact⟨t,List.mem_range.2 ht,by rw[e2]⟩
 ·rw[hs' j hj,hmem j hj];constructor
  ·rintro(⟨i,hi,e⟩|e)
   ·exact⟨i,by omega,e⟩
   ·exact⟨l,by omega,e.symm⟩
  ·rintro⟨i,hi,e⟩;by_cases e2:i=l
   ·rw[e2]at e;exact .inr e.symm
   ·exact .inl ⟨i,by omega,e⟩
theorem cir_to {n:Nat} (hn:n≤40) {p pl g:List Int} (P:PicP (2*n+2) p pl) (B:BlackG n p pl g): ∀k,k≤n+1→(cirTo p pl n k).1.length=n+1∧(∀j,j< n+1→((cirTo p pl n k).1.getD j false=true↔ ∃i,i< k∧nth g i=nth g j))∧(cirTo p pl n k).2=clsTo g k
 |0,_=>by
  refine⟨by simp[cirTo],fun j hj=>⟨fun h=>?_,fun⟨i,hi,_⟩=>absurd hi tO⟩,rfl⟩;have:(List.replicate (n+1) false).getD j false=true:=h;rw[List.getD_eq_getElem?_getD,List.getElem?_replicate]at this
  split at this<;>cases this
 | k+1,hk=>by
  obtain⟨h1,h2,h3⟩:=cir_to hn P B k tO;rw[cirTo_step];unfold cirStep;rw[clsTo_succ];by_cases hd:(cirTo p pl n k).1.getD k false=true
  ·have hf: ¬firstIn g k=true:=fun hf=>by
    obtain⟨j,hj,he⟩:=(h2 k tO).1 hd;exact(firstIn_iff g k).1 hf j hj he
   rw[if_pos hd,if_neg hf];refine⟨h1,fun j hj=>?_,h3⟩;rw[h2 j hj];constructor
   ·rintro⟨i,hi,e⟩;exact⟨i,by omega,e⟩
   ·rintro⟨i,hi,e⟩;by_cases ei:i=k
    ·obtain⟨i',hi',e'⟩:=(h2 k tO).1 hd;exact⟨i',hi',by rw[e',←e,ei]⟩
    ·exact⟨i,by omega,e⟩
  ·have hf:firstIn g k=true:=(firstIn_iff g k).2 (fun j hj he=>hd ((h2 k tO).2 ⟨j,hj,he⟩));rw[if_neg hd,if_pos hf];obtain⟨L,seen',he,hL,hl',hs'⟩:=fol_group hn P B (l:=k) tO h1 h2 (by simpa using hd);rw[he];exact⟨hl',hs',by rw[h3,hL]⟩
theorem circL_cls {s:List Int} {n:Nat} (hn:n≤40) (hs:Stk true n s):circL s=clsTo (rndL s) (n+1):=by
 have h:=(cir_to hn (pic_ok hs) (round_black hn hs) (n+1) (Nat.le_refl _)).2.2;unfold circL;rw[hs.len];exact h
def linOf (pl:List Int) (i:Nat):S57:=⟨(spanOf pl i).1,(spanOf pl i).2⟩
def linTo (pl:List Int) (k:Nat):List S57:=(List.range k).map (linOf pl)
theorem mn_eq (a b:Int):mn a b=min a b:=by unfold mn;split<;>omega
theorem mx_eq (a b:Int):mx a b=max a b:=by unfold mx;split<;>omega
theorem linTo_len (pl:List Int) (k:Nat):(linTo pl k).length=k:=by simp[linTo]
theorem linTo_succ (pl:List Int) (k:Nat):linTo pl (k+1)=linTo pl k++ [linOf pl k]:=by unfold linTo;rw[List.range_succ,List.map_append];rfl
theorem rd_lin {pl:List Int} {k i:Nat} (h:i< k):rd_T57 (linTo pl k) (i:Int)=linOf pl i:=by
 unfold rd_T57 linTo;simp[h]
theorem lines_l1 (s pl:List Int) (hn:s.length≤1000) (hp:pl.length=2*s.length+2): ∀d i:Nat,i+d=s.length+1→Ev (fun k=>bibelotref07_Lines.l1 k s pl (linTo pl i) (i:Int)) (linTo pl (s.length+1))
 |0,i,h=>by
  have e:i=s.length+1:=by omega
  subst e;refine Ev.step (f:=fun _=>some (linTo pl (s.length+1))) (fun k=>?_) (Ev.now _);rw[bibelotref07_Lines.l1,if_neg tO]
 |d+1,i,h=>by
  have ih:=lines_l1 s pl hn hp d (i+1) tO;have hl:=linTo_len pl i;rw[linTo_succ]at ih;refine Ev.step (fun k=>?_) ih;have e1:wrap64 (2*(i:Int))=((2*i:Nat):Int):=by rw[w64 tO tO];omega
  have e2:wrap64 (((2*i:Nat):Int)+1)=((2*i+1:Nat):Int):=by rw[w64 tO tO];omega
  rw[bibelotref07_Lines.l1,e1,e2,if_pos tO,if_pos tO,if_pos tO,if_pos tO,if_pos tO,if_pos tO,up1 i tO,rd_nth,rd_nth,mn_eq,mx_eq];rfl
theorem lines_l0 (s p:List Int) (hn:s.length≤1000) (hp:p.length=2*s.length+2) (hr: ∀q,0≤nth p q∧nth p q< 2*(s.length:Int)+2): ∀d i:Nat,i+d=p.length→Ev (fun k=>bibelotref07_Lines.l0 k s p (plTo p i) (i:Int)) (linTo (plTo p p.length) (s.length+1))
 |0,i,h=>by
  have e:i=p.length:=by omega
  subst e;refine Ev.step (fun k=>?_) (lines_l1 s (plTo p p.length) hn (by rw[plTo_len,hp]) (s.length+1) 0 tO);rw[bibelotref07_Lines.l0,if_neg tO];rfl
 |d+1,i,h=>by
  have ih:=lines_l0 s p hn hp hr d (i+1) tO;have hv:=hr i;have hl:=plTo_len p i;rw[plTo_step]at ih;refine Ev.step (fun k=>?_) ih;rw[bibelotref07_Lines.l0,if_pos tO,if_pos tO,rd_nth,if_pos tO,if_pos tO,up1 i tO]
theorem lines_ev {s:List Int} (hn:s.length≤40) (hm: ∀x,x∈s→x≠0∧ -(s.length:Int)≤x∧x≤s.length) (hs:Smalls s):Ev (fun k=>bibelotref07_Lines.f k s) (linTo (plL s) (s.length+1)):=by
 unfold bibelotref07_Lines.f;refine Ev.bind (rpicture_ev s tO hs) ?_;have hl:=picL_len s;refine Ev.congr (fun k=>?_) (lines_l0 s (picL s) tO hl (picL_range s hm) (picL s).length 0 tO);rw[if_pos tO,if_pos tO];rfl
def crossD (a b:S57):Bool:=(decide (b.f0< a.f0)&&decide (a.f0< b.f1)) !=(decide (b.f0< a.f1)&&decide (a.f1< b.f1))
theorem within_f (x y z:Int):bibelotref07_within.f x y z=some (decide (x< z)&&decide (z< y)):=by
 unfold bibelotref07_within.f;by_cases h:x< z
 ·rw[if_pos h];simp[h]
 ·rw[if_neg h];simp[h]
theorem cross_f (a b:S57):bibelotref07_Cross.f a.f0 a.f1 b.f0 b.f1=some (crossD a b):=by
 unfold bibelotref07_Cross.f;rw[within_f,Option.bind_some,within_f,Option.bind_some];rfl
def lets (p g:List Int) (left:List Bool) (k:Nat):List Int:=((p.take k).map (fun x=>nth g (x.toNat/2))).filter (fun z=>left.getD z.toNat false)
theorem lets_le (p g:List Int) (left:List Bool) (k:Nat):(lets p g left k).length≤k:=by
 unfold lets;refine Nat.le_trans (List.length_filter_le _ _) ?_;rw[List.length_map,List.length_take];omega
theorem lets_succ (p g:List Int) (left:List Bool) {k:Nat} (h:k< p.length):lets p g left (k+1)=if left.getD (nth g ((nth p k).toNat/2)).toNat false=true then lets p g left k++ [nth g ((nth p k).toNat/2)]else lets p g left k:=by
 unfold lets;rw[List.take_add_one,List.getElem?_eq_getElem h,nth_get p k h,List.map_append,List.filter_append];by_cases e:left.getD (nth g (p[k].toNat/2)).toNat false=true
 ·rw[if_pos e];simp only[Option.toList_some,List.map_cons,List.map_nil,List.filter_cons,List.filter_nil,e,if_true]
 ·rw[if_neg e];simp only[Option.toList_some,List.map_cons,List.map_nil,List.filter_cons,List.filter_nil,e];simp
def ahead (l:List Int) (i:Nat):Int:=nth l ((i+l.length - 1) % l.length)
def begN (l:List Int) (g:Int) (k:Nat):Nat:=(List.range k).countP (fun i=>decide (nth l i=g)&&decide (ahead l i≠g))
theorem begN_step (l:List Int) (g:Int) (k:Nat):begN l g (k+1)=begN l g k+if nth l k=g∧ahead l k≠g then 1 else 0:=by
 unfold begN;rw[List.range_succ,List.countP_append,List.countP_singleton];congr 1;by_cases h:nth l k=g∧ahead l k≠g
 ·rw[if_pos h,if_pos (by simp[h])]
 ·rw[if_neg h,if_neg (by simpa using h)]
theorem begN_le (l:List Int) (g:Int) (k:Nat):begN l g k≤k:=Nat.le_trans List.countP_le_length tS
theorem whole_l1 (g:Int) (l:List Int) (hl:l.length≤1000000): ∀d i:Nat,i+d=l.length→Ev (fun k=>bibelotref07_whole.l1 k g l ((begN l g i:Nat):Int) (i:Int)) (decide (begN l g l.length≤1))
 |0,i,h=>by
  have e:i=l.length:=by omega
  subst e;refine Ev.step (f:=fun _=>some (decide (begN l g l.length≤1))) (fun k=>?_) (Ev.now _);rw[bibelotref07_whole.l1,if_neg tO];congr 1;exact decide_eq_decide.2 tO
 | d+1,i,h=>by
  have ih:=whole_l1 g l hl d (i+1) tO;have hb:=begN_le l g i;rw[begN_step]at ih
  have em:Int.tmod (wrap64 (wrap64 ((i:Int)+(l.length:Int)) - 1)) (l.length:Int)=(((i+l.length - 1) % l.length:Nat):Int):=by
   rw[w64 (x:=(i:Int)+(l.length:Int)) tO tO,w64 tO tO,Int.tmod_eq_emod_of_nonneg tO,show(i:Int)+(l.length:Int) - 1=((i+l.length - 1:Nat):Int)by omega];rfl
  have hlt:=Nat.mod_lt (i+l.length - 1) (show l.length>0 by omega);refine Ev.step (fun k=>?_) ih;rw[bibelotref07_whole.l1,if_pos tO,if_pos tO,rd_nth,em,up1 i tO];by_cases h1:nth l i=g
  ·rw[if_pos h1,if_neg tO,if_pos tO,if_pos tO,rd_nth];by_cases h2:nth l ((i+l.length - 1) % l.length)=g
   ·rw[if_pos h2,if_neg (fun h=>h.2 h2)];rfl
   ·rw[if_neg h2,if_pos ⟨h1,h2⟩,up1 _ tO]
  ·rw[if_neg h1,if_neg (fun h=>h1 h.1)];rfl
def wholeB (p g:List Int) (left:List Bool) (z:Int):Bool:=decide (begN (lets p g left p.length) z (lets p g left p.length).length≤1)
theorem whole_l0 (n:Nat) (hn:n≤1000) (p g:List Int) (left:List Bool) (z:Int) (hp:p.length=2*n+2) (hr: ∀q,0≤nth p q∧nth p q< 2*(n:Int)+2) (hg:g.length=n+1) (hgr: ∀q,0≤nth g q∧nth g q< left.length): ∀d i:Nat,i+d=p.length→Ev (fun k=>bibelotref07_whole.l0 k g left z p (lets p g left i) (i:Int)) (wholeB p g left z)
 |0,i,h=>by
  have e:i=p.length:=by omega
  subst e;have hle:=lets_le p g left p.length;refine Ev.step (fun k=>?_) (whole_l1 z (lets p g left p.length) tO (lets p g left p.length).length 0 tO);rw[bibelotref07_whole.l0,if_neg tO];rfl
 |d+1,i,h=>by
  have ih:=whole_l0 n hn p g left z hp hr hg hgr d (i+1) tO;have hv:=hr i;have hgv:=hgr ((nth p i).toNat/2);have hle:=lets_le p g left i;rw[lets_succ p g left tO]at ih;refine Ev.step (fun k=>?_) ih;rw[bibelotref07_whole.l0,if_pos tO,if_pos tO,rd_nth,half_eq hv.1 tO,if_pos tO,if_pos tO,rd_nth,if_pos tO,if_pos tO,up1 i tO];unfold rdOf;by_cases e:left.getD (nth g ((nth p i).toNat/2)).toNat false=true
  ·rw[if_pos e,if_pos e,if_pos tO]
  ·rw[if_neg e,if_neg e]
theorem whole_ev {s:List Int} (hn:s.length≤40) (hm: ∀x,x∈s→x≠0∧ -(s.length:Int)≤x∧x≤s.length) (hs:Smalls s) {g:List Int} {left:List Bool} (hg:g.length=s.length+1) (hgr: ∀q,0≤nth g q∧nth g q< left.length) (z:Int):Ev (fun k=>bibelotref07_whole.f k s g left z) (wholeB (picL s) g left z):=by
 unfold bibelotref07_whole.f;refine Ev.bind (rpicture_ev s tO hs) ?_;exact whole_l0 s.length tO (picL s) g left z (picL_len s) (picL_range s hm) hg hgr (picL s).length 0 tO
def crossE (pl:List Int) (i k:Nat):List (Nat×Nat):=((List.range k).filter (fun q=>crossD (linOf pl i) (linOf pl q))).map (fun q=>(i,q))
def allE (pl:List Int) (i:Nat):List (Nat×Nat):=(List.range i).flatMap (fun i=>crossE pl i i)
theorem crossE_succ (pl:List Int) (i k:Nat):crossE pl i (k+1)=if crossD (linOf pl i) (linOf pl k)=true then crossE pl i k++ [(i,k)]else crossE pl i k:=by
 unfold crossE;rw[List.range_succ,List.filter_append];by_cases h:crossD (linOf pl i) (linOf pl k)=true
 ·rw[if_pos h];simp[h]
 ·rw[if_neg h];simp[h]
theorem allE_succ (pl:List Int) (i:Nat):allE pl (i+1)=allE pl i++crossE pl i i:=by unfold allE;rw[List.range_succ,List.flatMap_append,List.flatMap_singleton]
section
variable (s pl c:List Int) (m:Nat) (hm:m≤1000) (hc:c.length=m) (res:Int×Int×Int×Bool)
include hm hc
theorem com_l1 (i:Nat) (hi:i< m) (cont:Ev (fun k=>bibelotref07_Components.l0 k s (linTo pl m) c (mergeL (allE pl (i+1)) c) ((i+1:Nat):Int)) res):
  ∀d k:Nat,k+d=i→Ev (fun kk=>bibelotref07_Components.l1 kk s (linTo pl m) c (mergeL (allE pl i++crossE pl i k) c) (i:Int) (k:Int)) res
 |0,k,h=>by
  have e:k=i:=by omega
  subst e;rw[←allE_succ];refine Ev.step (fun kk=>?_) cont;rw[bibelotref07_Components.l1,if_neg tO,up1 k tO]
 | d+1,k,h=>by
  have ih:=com_l1 i hi cont d (k+1) tO;have hl:=linTo_len pl m;rw[crossE_succ]at ih;by_cases hx:crossD (linOf pl i) (linOf pl k)=true
  ·rw[if_pos hx,←List.append_assoc,mergeL_snoc]at ih;have hj:=joined_ev (g:=mergeL (allE pl i++crossE pl i k) c) (a:=i) (b:=k) (by rw[mergeL_len];omega) (by rw[mergeL_len];omega) (by rw[mergeL_len];omega);refine Ev.step (fun kk=>?_) (Ev.bind (f:=fun kk t=>bibelotref07_Components.l1 kk s (linTo pl m) c t (i:Int) ((k+1:Nat):Int)) hj ih);rw[bibelotref07_Components.l1,if_pos tO,if_pos tO,if_pos tO,if_pos tO,if_pos tO,rd_lin tO,rd_lin tO,cross_f,Option.bind_some,if_pos hx,up1 k tO]
  ·rw[if_neg hx]at ih;refine Ev.step (fun kk=>?_) ih;rw[bibelotref07_Components.l1,if_pos tO,if_pos tO,if_pos tO,if_pos tO,if_pos tO,rd_lin tO,rd_lin tO,cross_f,Option.bind_some,if_neg hx,up1 k tO]
theorem com_l0 (cont:Ev (fun k=>bibelotref07_Components.l2 k s (linTo pl m) c (mergeL (allE pl m) c) (m:Int) (List.replicate m false) (List.replicate m false) 0) res):
  ∀d i:Nat,i+d=m→Ev (fun kk=>bibelotref07_Components.l0 kk s (linTo pl m) c (mergeL (allE pl i) c) (i:Int)) res
 |0,i,h=>by
  have e:i=m:=by omega
  subst e;have hl:=linTo_len pl i;refine Ev.step (fun kk=>?_) cont;rw[bibelotref07_Components.l0,if_neg tO,if_pos tO,if_pos tO,hl];rfl
 |d+1,i,h=>by
  have ih:=com_l0 cont d (i+1) tO;have hl:=linTo_len pl m;have h1:=com_l1 s pl c m hm hc res i tO ih i 0 tO;refine Ev.step (fun kk=>?_) h1;rw[bibelotref07_Components.l0,if_pos tO];simp[crossE]
end
def flg (m:Nat) (f:Nat→Bool):List Bool:=(List.range m).map f
theorem flg_len (m:Nat) (f:Nat→Bool):(flg m f).length=m:=by simp[flg]
theorem flg_at {m q:Nat} (f:Nat→Bool) (h:q< m):(flg m f).getD q false=f q:=by simp[flg,h]
theorem flg_of {m:Nat} {f:Nat→Bool} {l:List Bool} (hl:l.length=m) (h: ∀q,q< m→(l.getD q false=true↔f q=true)):l=flg m f:=by
 apply List.ext_getElem (by rw[hl,flg_len]);intro q h1 h2;have e1:l[q]=l.getD q false:=by simp[List.getD_eq_getElem?_getD,h1]
 have e2:(flg m f)[q]=f q:=by simp[flg]
 rw[e1,e2];have:=h q tO;cases hx:l.getD q false<;>cases hy:f q<;>simp_all
theorem set_at (l:List Bool) (k q:Nat) (b:Bool) (h:k< l.length):(l.set k b).getD q false=if q=k then b else l.getD q false:=by
 rw[List.getD_eq_getElem?_getD,List.getD_eq_getElem?_getD,List.getElem?_set];by_cases e:q=k
 ·rw[if_pos e,if_pos e.symm,if_pos h];rfl
 ·rw[if_neg e,if_neg (fun h=>e h.symm)]
def isG (g:List Int) (i q:Nat):Bool:=(List.range i).any (fun j=>decide ((nth g j).toNat=q))
def twoG (c g:List Int) (i q:Nat):Bool:=(List.range i).any (fun j=>decide ((nth g j).toNat=q)&&(List.range j).any (fun k=>decide (nth c j=nth c k)))
def evenL (pl:List Int) (j:Nat):Bool:=decide (((linOf pl j).f0+(linOf pl j).f1).tmod 2=0)
def turnG (pl g:List Int) (i q:Nat):Bool:=(List.range i).any (fun j=>decide ((nth g j).toNat=q)&&evenL pl j)
def badG (pl c g:List Int) (m q:Nat):Bool:=twoG c g m q&&!turnG pl g m q
theorem isG_succ (g:List Int) (i q:Nat):isG g (i+1) q=(isG g i q||decide ((nth g i).toNat=q)):=by unfold isG;rw[List.range_succ,List.any_append];simp
theorem twoG_succ (c g:List Int) (i q:Nat):twoG c g (i+1) q=(twoG c g i q||(decide ((nth g i).toNat=q)&&(List.range i).any (fun k=>decide (nth c i=nth c k)))):=by unfold twoG;rw[List.range_succ,List.any_append];simp
theorem turnG_succ (pl g:List Int) (i q:Nat):turnG pl g (i+1) q=(turnG pl g i q||(decide ((nth g i).toNat=q)&&evenL pl i)):=by unfold turnG;rw[List.range_succ,List.any_append];simp
theorem any_succ (f:Nat→Bool) (k:Nat):(List.range (k+1)).any f=((List.range k).any f||f k):=by rw[List.range_succ,List.any_append];simp
section
variable (s pl c g:List Int) (m:Nat) (hm:m≤1000) (hc:c.length=m) (hg:g.length=m) (hgr: ∀q,q< m→0≤nth g q∧nth g q< (m:Int)) (res:Int×Int×Int×Bool)
include hm hc hg hgr
theorem com_l3 (i:Nat) (hi:i< m) (cont:Ev (fun k=>bibelotref07_Components.l2 k s (linTo pl m) c g (m:Int) (flg m (isG g (i+1))) (flg m (twoG c g (i+1))) ((i+1:Nat):Int)) res):
  ∀d k:Nat,k+d=i→Ev (fun kk=>bibelotref07_Components.l3 kk s (linTo pl m) c g (m:Int) (flg m (isG g (i+1))) (flg m (fun q=>twoG c g i q||(decide ((nth g i).toNat=q)&&(List.range k).any (fun k=>decide (nth c i=nth c k))))) (i:Int) (k:Int)) res
 |0,k,h=>by
  have e:k=i:=by omega
  subst e;have hf:flg m (fun q=>twoG c g k q||(decide ((nth g k).toNat=q)&&(List.range k).any (fun q=>decide (nth c k=nth c q))))=flg m (twoG c g (k+1)):=congrArg (flg m) (funext fun q=>(twoG_succ c g k q).symm);rw[hf];refine Ev.step (fun kk=>?_) cont;rw[bibelotref07_Components.l3,if_neg tO,up1 k tO]
 | d+1,k,h=>by
  have ih:=com_l3 i hi cont d (k+1) tO;have hv:=hgr i hi;have hfl:=flg_len m (fun q=>twoG c g i q||(decide ((nth g i).toNat=q)&&(List.range k).any (fun k=>decide (nth c i=nth c k))));by_cases e:nth c i=nth c k
  ·have hf:(flg m (fun q=>twoG c g i q||(decide ((nth g i).toNat=q)&&(List.range k).any (fun k=>decide (nth c i=nth c k))))).set (nth g i).toNat true=flg m (fun q=>twoG c g i q||(decide ((nth g i).toNat=q)&&(List.range (k+1)).any (fun k=>decide (nth c i=nth c k)))):=by
    refine flg_of (by rw[List.length_set,hfl]) (fun q hq=>?_);rw[set_at _ _ _ _ tO,flg_at _ hq,any_succ];by_cases eq:q=(nth g i).toNat
    ·rw[if_pos eq];simp[eq,e]
    ·rw[if_neg eq];have:decide ((nth g i).toNat=q)=false:=decide_eq_false (fun h=>eq h.symm);simp[this]
   rw[←hf]at ih;refine Ev.step (fun kk=>?_) ih;rw[bibelotref07_Components.l3,if_pos tO,if_pos tO,if_pos tO,if_pos tO,if_pos tO,rd_nth,rd_nth,if_pos e,if_pos tO,rd_nth,if_pos tO,if_pos tO,up1 k tO]
  ·have hf:flg m (fun q=>twoG c g i q||(decide ((nth g i).toNat=q)&&(List.range k).any (fun k=>decide (nth c i=nth c k))))=flg m (fun q=>twoG c g i q||(decide ((nth g i).toNat=q)&&(List.range (k+1)).any (fun k=>decide (nth c i=nth c k)))):=by
    refine congrArg (flg m) (funext fun q=>?_);rw[any_succ];simp[e]
   rw[←hf]at ih;refine Ev.step (fun kk=>?_) ih;rw[bibelotref07_Components.l3,if_pos tO,if_pos tO,if_pos tO,if_pos tO,if_pos tO,rd_nth,rd_nth,if_neg e,up1 k tO]
theorem com_l2 (cont:Ev (fun k=>bibelotref07_Components.l4 k s (linTo pl m) g (m:Int) (flg m (isG g m)) (flg m (twoG c g m)) 0) res):
  ∀d i:Nat,i+d=m→Ev (fun kk=>bibelotref07_Components.l2 kk s (linTo pl m) c g (m:Int) (flg m (isG g i)) (flg m (twoG c g i)) (i:Int)) res
 |0,i,h=>by
  have e:i=m:=by omega
  subst e;refine Ev.step (fun kk=>?_) cont;rw[bibelotref07_Components.l2,if_neg tO]
 | d+1,i,h=>by
  have ih:=com_l2 cont d (i+1) tO;have hv:=hgr i tO;have hfl:=flg_len m (isG g i);have h1:=com_l3 s pl c g m hm hc hg hgr res i tO ih i 0 tO
  have hf:(flg m (isG g i)).set (nth g i).toNat true=flg m (isG g (i+1)):=by
   refine flg_of (by rw[List.length_set,hfl]) (fun q hq=>?_);rw[set_at _ _ _ _ tO,flg_at _ hq,isG_succ];by_cases eq:q=(nth g i).toNat
   ·rw[if_pos eq];simp[eq]
   ·rw[if_neg eq];have:decide ((nth g i).toNat=q)=false:=decide_eq_false (fun h=>eq h.symm);simp[this]
  have hf2:flg m (fun q=>twoG c g i q||(decide ((nth g i).toNat=q)&&(List.range 0).any (fun k=>decide (nth c i=nth c k))))=flg m (twoG c g i):=congrArg (flg m) (funext fun q=>by simp);rw[hf2,←hf]at h1;refine Ev.step (fun kk=>?_) h1;rw[bibelotref07_Components.l2,if_pos tO,if_pos tO,if_pos tO,rd_nth,if_pos tO,if_pos tO];rfl
theorem com_l4 (hpl: ∀q,0≤nth pl q∧nth pl q≤1000000) (cont:Ev (fun k=>bibelotref07_Components.l5 k s g (m:Int) (flg m (isG g m)) (flg m (badG pl c g m)) (List.replicate m false) 0 0 0 0 false) res):
  ∀d i:Nat,i+d=m→Ev (fun kk=>bibelotref07_Components.l4 kk s (linTo pl m) g (m:Int) (flg m (isG g m)) (flg m (fun q=>twoG c g m q&&!turnG pl g i q)) (i:Int)) res
 |0,i,h=>by
  have e:i=m:=by omega
  subst e;refine Ev.step (fun kk=>?_) cont;rw[bibelotref07_Components.l4,if_neg tO,if_pos tO,if_pos tO];rfl
 | d+1,i,h=>by
  have ih:=com_l4 hpl cont d (i+1) tO;have hv:=hgr i tO;have hl:=linTo_len pl m;have hfl:=flg_len m (fun q=>twoG c g m q&&!turnG pl g i q)
  have hs1:0≤(linOf pl i).f0∧(linOf pl i).f0≤1000000∧0≤(linOf pl i).f1∧(linOf pl i).f1≤1000000:=by
   have a:=hpl (2*i);have b:=hpl (2*i+1);unfold linOf spanOf
   dsimp only
   omega
  have ew:wrap64 ((linOf pl i).f0+(linOf pl i).f1)=(linOf pl i).f0+(linOf pl i).f1:=w64 tO tO;by_cases e:((linOf pl i).f0+(linOf pl i).f1).tmod 2=0
  ·have hf:(flg m (fun q=>twoG c g m q&&!turnG pl g i q)).set (nth g i).toNat false=flg m (fun q=>twoG c g m q&&!turnG pl g (i+1) q):=by
    refine flg_of (by rw[List.length_set,hfl]) (fun q hq=>?_);have he:evenL pl i=true:=decide_eq_true e;rw[set_at _ _ _ _ tO,flg_at _ hq,turnG_succ];by_cases eq:q=(nth g i).toNat
    ·rw[if_pos eq];simp[eq,he]
    ·rw[if_neg eq];have:decide ((nth g i).toNat=q)=false:=decide_eq_false (fun h=>eq h.symm);simp[this]
   rw[←hf]at ih;refine Ev.step (fun kk=>?_) ih;rw[bibelotref07_Components.l4,if_pos tO,if_pos tO,if_pos tO,rd_lin tO,ew,if_pos e,if_pos tO,rd_nth,if_pos tO,if_pos tO,up1 i tO]
  ·have hf:flg m (fun q=>twoG c g m q&&!turnG pl g i q)=flg m (fun q=>twoG c g m q&&!turnG pl g (i+1) q):=by
    refine congrArg (flg m) (funext fun q=>?_);have he:evenL pl i=false:=decide_eq_false e;rw[turnG_succ];simp[he]
   rw[←hf]at ih;refine Ev.step (fun kk=>?_) ih;rw[bibelotref07_Components.l4,if_pos tO,if_pos tO,if_pos tO,rd_lin tO,ew,if_neg e,up1 i tO]
end
end Go.Proofs.Ytepjhdblmghckaa.G