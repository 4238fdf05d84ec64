/- PancakeOrderTurns: turns that order any short row, the smallest number of them, or ErrArg: a part of the proof (1 of 14): contracts of the functions, and plain lemmas. -/
import Derived.Test.YtepjhdblmghckaaUo
import Derived.Test.YtepjhdblmghckaaProg
set_option linter.unusedVariables false
set_option linter.unusedSimpArgs false
namespace Go.Proofs.Ytepjhdblmghckaa.G
end Go.Proofs.Ytepjhdblmghckaa.G
namespace Go.Proofs.Ytepjhdblmghckaa.Q
open Go.RowKit Go.Proofs.YtepjhdblmghckaaW.PrintWords Go.Proofs.YtepjhdblmghckaaW.PrintLast Go.Proofs.YtepjhdblmghckaaW.PrintMore
attribute [local go_sem] max2_int min2_int max_two min_two max_three min_three max_four min_four
theorem info3:(Try.prog.info? 3).map (fun i=>(i.zero,i.size,i.bytes))=some (some (.int .i64 0),1,8):=by kernel_rfl
theorem info4:(Try.prog.info? 4).map (fun i=>(i.zero,i.size,i.bytes))=some (some (.bool false),1,1):=by kernel_rfl
theorem info22:(Try.prog.info? 22).map (fun i=>(i.zero,i.size,i.bytes))=some (some (.slice none 0 0),1,24):=by kernel_rfl
def rd_L1 (xs:List (List Int)) (i:Int):(List Int):=xs.getD i.toNat ([]:List Int)
theorem at_L1 {w:World} {A:Option Addr} {n:Nat} {xs:List (List Int)} (h:Kd.C (Kd.slice 3 (Kd.int .i64)) w A n xs) (i:Int) (h0:0≤i) (h1:i< n): ∃ad A0 c0,A=some ad∧w.cell? (ad.add i.toNat)=some (.slice A0 (rd_L1 xs i).length c0)∧(rd_L1 xs i).length≤c0∧(Kd.int .i64).C w A0 (rd_L1 xs i).length (rd_L1 xs i):=by
 obtain⟨ad,c,e,_,hK,hc0⟩:=Kd.C_get h ([]:List Int) i h0 h1;have hc: ∀j u,c[j]? =some u→w.cell? (ad.add (i.toNat*1+j))=some u:=hc0;obtain⟨A0,c0,rfl,l0,g0⟩:=hK;exact⟨ad,A0,c0,e,by have hq:=hc 0 _ rfl;rwa [Nat.mul_one,Nat.add_zero]at hq,l0,g0⟩
structure S57 where
 f0:Int
 f1:Int
def z57:S57:=⟨(0:Int),(0:Int)⟩
def k57:Kd S57:=Kd.iso (Kd.pair (Kd.int .i64) (Kd.int .i64)) (fun x:S57=>(x.f0,x.f1))
theorem k57_open {w:World} {x:S57} {cs:List Value} (h:k57.K w x cs):cs= [.int .i64 x.f0, .int .i64 x.f1]:=by
 obtain⟨_,_,rfl,rfl,rfl⟩:=h;exact rfl
theorem k57_mkM (w:World) (base:Nat) (ok:Nat→Prop) (x:S57):k57.M w base ok x [.int .i64 x.f0, .int .i64 x.f1]:=⟨[.int .i64 x.f0], [.int .i64 x.f1],rfl,rfl,rfl⟩
def rd_T57 (xs:List S57) (i:Int):S57:=xs.getD i.toNat z57
theorem at_T57 {w:World} {A:Option Addr} {n:Nat} {xs:List S57} (h:Kd.C k57 w A n xs) (i:Int) (h0:0≤i) (h1:i< n): ∃ad,A=some ad∧w.cell? (ad.add (i.toNat*2))=some (.int .i64 (rd_T57 xs i).f0)∧w.cell? ⟨(ad.add (i.toNat*2)).block,(ad.add (i.toNat*2)).off+1,none⟩=some (.int .i64 (rd_T57 xs i).f1):=by
 obtain⟨ad,c,e,_,hK,hc0⟩:=Kd.C_get h z57 i h0 h1;have hc: ∀j u,c[j]? =some u→w.cell? (ad.add (i.toNat*2+j))=some u:=hc0;obtain rfl:=k57_open hK;exact⟨ad,e,hc 0 _ rfl,by rw[←add_field _ _ 1 tO];exact hc 1 _ rfl⟩
end Go.Proofs.Ytepjhdblmghckaa.Q
namespace Go.Proofs.Ytepjhdblmghckaa.G
end Go.Proofs.Ytepjhdblmghckaa.G
namespace Go.Proofs.Ytepjhdblmghckaa.Q
open Go.Proofs.Ytepjhdblmghckaa.G
open Go.RowKit Go.Proofs.YtepjhdblmghckaaW.PrintWords Go.Proofs.YtepjhdblmghckaaW.PrintLast Go.Proofs.YtepjhdblmghckaaW.PrintMore
attribute [local go_sem] max2_int min2_int max_two min_two max_three min_three max_four min_four
def bibelotlaw07_many.f (a0:Int) (a1:Int):Option (Int):=if(IntKind.u64.wrap (a1))=0 then(none)else(some (wrap64 (1+(wrap64 (Int.tmod (IntKind.u64.wrap (a0)) (IntKind.u64.wrap (a1)))))))
set_option maxHeartbeats 8000000 in
set_option maxRecDepth 100000 in
theorem bibelotlaw07_many.calls (a0:Int) (a1:Int) (r:Int) (w:World) (h:bibelotlaw07_many.f a0 a1=some r):
  Calls Try.prog 21 #[.int .i64 a0, .int .i64 a1] w fun e w'=>e= .returned (.int .i64 r)∧Drawn0 w w':=by
 have H:(if(IntKind.u64.wrap (a1))=0 then(none)else(some (wrap64 (1+(wrap64 (Int.tmod (IntKind.u64.wrap (a0)) (IntKind.u64.wrap (a1))))))))=some r:=h;clear h;by_cases c3:(IntKind.u64.wrap (a1))=0
 ·rw[if_pos c3]at H;exact absurd H tS
 ·rw[if_neg c3]at H;have c3b0:((IntKind.u64.wrap (a1))==0)=false:=beq_eq_false_iff_ne.mpr c3;have c3b1:((IntKind.u64.wrap (a1)) !=0)=true:=bne_iff_ne.mpr c3;obtain rfl:=Option.some.inj H
  go_enter Try.func21,Try.ntmps21
  go_wp2;go_ret;exact⟨by first|rfl|(simp;done)|(simp[*];done),by repeat(first|exact Drawn0.refl _|apply Drawn0.step)⟩
end Go.Proofs.Ytepjhdblmghckaa.Q
namespace Go.Proofs.Ytepjhdblmghckaa.G
end Go.Proofs.Ytepjhdblmghckaa.G
namespace Go.Proofs.Ytepjhdblmghckaa.Q
open Go.Proofs.Ytepjhdblmghckaa.G
open Go.RowKit Go.Proofs.YtepjhdblmghckaaW.PrintWords Go.Proofs.YtepjhdblmghckaaW.PrintLast Go.Proofs.YtepjhdblmghckaaW.PrintMore
attribute [local go_sem] max2_int min2_int max_two min_two max_three min_three max_four min_four
def bibelotref07_Abs.f (a0:Int):Option (Int):=some (mx a0 (wrap64 (-a0)))
set_option maxHeartbeats 8000000 in
set_option maxRecDepth 100000 in
theorem bibelotref07_Abs.calls (a0:Int) (r:Int) (w:World) (h:bibelotref07_Abs.f a0=some r):
  Calls Try.prog 40 #[.int .i64 a0] w fun e w'=>e= .returned (.int .i64 r)∧Below w.heap.size w w':=by
 have HB:=Aside0.mk (Below.refl w.heap.size w);have H:(some (mx a0 (wrap64 (-a0))))=some r:=h;clear h;obtain⟨ji2,hji2⟩: ∃j_:Int,(mx a0 (wrap64 (-a0)))=j_:=⟨_,rfl⟩;replace H:(some ji2)=some r:=by first|(rw[hji2]at H;exact H)|(simp only[hji2]at H ⊢;exact H)
 have hji2_:(if a0< (wrap64 (-a0))then(wrap64 (-a0))else a0)=ji2:=hji2;obtain rfl:=Option.some.inj H
 go_enter Try.func40,Try.ntmps40
 go_wp2;go_ret;exact⟨by first|rfl|(simp[errW_none,errW_some]<;>rfl)|(simp only[←hji2];first|rfl|(simp[errW_none,errW_some]<;>rfl))|(simp[*,errW_none,errW_some]<;>rfl),by repeat(first|(with_reducible first|exact HB.out|apply below_alloc|apply pw_below_drewN|apply below_drew1)|exact HB.out)⟩
end Go.Proofs.Ytepjhdblmghckaa.Q
namespace Go.Proofs.Ytepjhdblmghckaa.G
end Go.Proofs.Ytepjhdblmghckaa.G
namespace Go.Proofs.Ytepjhdblmghckaa.Q
open Go.Proofs.Ytepjhdblmghckaa.G
open Go.RowKit Go.Proofs.YtepjhdblmghckaaW.PrintWords Go.Proofs.YtepjhdblmghckaaW.PrintLast Go.Proofs.YtepjhdblmghckaaW.PrintMore
attribute [local go_sem] max2_int min2_int max_two min_two max_three min_three max_four min_four
def bibelotref07_Picture.l0:Nat→List Int→List Int→Int→Option (List Int)
 |0,_,_,_=>none
 |k+1,x0,x3,x4=>if x4< (x0.length:Int)then(if 0≤x4 then((bibelotref07_Abs.f (rd x0 x4)).bind fun t105=>(if(rd x0 x4)>0 then((some (([wrap64 ((wrap64 (2*t105)) - 1),wrap64 (2*t105)]:List Int):List Int)).bind fun y107=>(if x3.length+y107.length< 17592186044416 then(bibelotref07_Picture.l0 k x0 (x3++y107) (wrap64 (x4+1)))else(none)))else((some (([wrap64 (2*t105),wrap64 ((wrap64 (2*t105)) - 1)]:List Int):List Int)).bind fun y113=>(if x3.length+y113.length< 17592186044416 then(bibelotref07_Picture.l0 k x0 (x3++y113) (wrap64 (x4+1)))else(none)))))else(none))else(if x3.length< 17592186044416 then(some (x3++ [wrap64 ((wrap64 (2*(x0.length:Int)))+1)]))else(none))
def bibelotref07_Picture.f (k:Nat) (l0:List Int):Option (List Int):=bibelotref07_Picture.l0 k l0 (([0]:List Int)) 0
set_option maxHeartbeats 8000000 in
set_option maxRecDepth 100000 in
theorem bibelotref07_Picture.calls (k:Nat) (A0:Option Addr) (c0:Nat) (l0:List Int) (r:List Int) (w:World) (hr0:Kd.C (Kd.int .i64) w A0 l0.length l0) (hc0:l0.length≤c0) (h:bibelotref07_Picture.f k l0=some r):
  Calls Try.prog 38 #[.slice A0 l0.length c0] w fun e w'=> ∃v0_:Value,e= .returned (v0_)∧Kd.R (Kd.int .i64) 3 w' w.heap.size (fun _=>True) v0_ r∧Below w.heap.size w w':=by
 have HR0:=Aside0.mk hr0;have HC0:=Aside0.mk hc0;clear hr0 hc0;have HB:=Aside0.mk (Below.refl w.heap.size w);have H:(bibelotref07_Picture.l0 k l0 (([0]:List Int)) 0)=some r:=h;clear h;obtain⟨y101,hy101⟩: ∃y_:List Int,y_=(([0]:List Int)):=⟨_,rfl⟩;replace H:(bibelotref07_Picture.l0 k l0 y101 0)=some r:=by first|(rw[hy101];with_reducible exact H)|(have H2_:=(Option.bind_some _ _).symm.trans H;rw[hy101];with_reducible exact H2_)|(have H2_:=(Option.bind_some _ _).symm.trans H;with_reducible exact H2_)|with_reducible exact H|(rw[hy101];exact H)|exact H
 have Ny101:=Aside0.mk hy101;clear hy101;have H':=Aside0.mk H;clear H
 go_enter Try.func38,Try.ntmps38
 go_wp2_with (first|((with_reducible refine gate_dst (N:=6) rfl ?_);refine Kd.R_lit (Kd.int .i64) _ 3 ?hg (N:=6) ?hd (xs:=([0]:List Int)) (inner:= [.int .i64 0]) (ok:=fun _=>True) (okp:=fun _=>True) ?hr ?hp (fun _ hk=>hk) trivial (Below.refl _ _) (Nat.le_refl _) tS ?_;(case hd=>rfl);(case hg=>rfl);(case hr=>first|(go_simp;done)|(go_simp;rfl));(case hp=>exact(Reps.one (show Kd.M (Kd.int .i64) _ _ _ 0 [.int .i64 0]from rfl) (Reps.none _ _)));intro v102 w2 ho3 hb hg_ hnew_;clear hg_ hnew_;(first|rw[←Ny101.out]at ho3|(simp only[Int.reduceToNat]at ho3;rw[←Ny101.out]at ho3));have n0_:=Aside0.mk (Kd.R_lower ho3 (below_size (tB HB.out)));have n1_:=Aside0.mk (below_step (tB HB.out) hb);clear HB;have HO103:=n0_;have HB:=n1_;clear n0_ n1_;clear hb ho3))
 go_loopg [3,4] k (fun kq v3 v4 w'=> ∃(x3_1:List Int) (x4_1:Int),v4= .int .i64 x4_1∧Aside0 (bibelotref07_Picture.l0 kq l0 x3_1 x4_1=some r)∧Aside0 (kq≤k)∧Aside0 (Kd.R (Kd.int .i64) 3 w' w.heap.size (fun _=>True) v3 x3_1)∧Aside0 (Below w.heap.size w w'))
 case atStart=>exact⟨(y101),(0),tF,H',⟨Nat.le_refl _⟩,⟨by(with_reducible repeat(first|apply Kd.R_alloc|apply Kd.R_drewN|apply Kd.R_drew));exact HO103.out⟩,⟨by repeat(first|(with_reducible first|exact HB.out|apply below_alloc|apply pw_below_drewN|apply below_drew1)|exact HB.out)⟩⟩
 case round=>
  clear H';obtain⟨x3_1,x4_1,rfl,HA,HK1,HO_3,HB⟩:=hrel;cases gk with
  |zero=>exact absurd HA.out (by simp[bibelotref07_Picture.l0])
  | succ k1=>
   have H:=HA.out;clear HA;simp only[bibelotref07_Picture.l0]at H;by_cases c4:x4_1< (l0.length:Int)
   ·rw[if_pos c4]at H;have c4b0:decide (x4_1< (l0.length:Int))=true:=decide_eq_true c4;clear c4;by_cases c5:0≤x4_1;rotate_left
    ·rw[if_neg c5]at H;exact absurd H tS
    rw[if_pos c5]at H;have c5b0:decide (0≤x4_1)=true:=decide_eq_true c5;clear c5;replace H:=Option.bind_eq_some_iff.mp H;obtain⟨t105,A60,H⟩:=H;replace H:(if(rd l0 x4_1)>0 then((some (([wrap64 ((wrap64 (2*t105)) - 1),wrap64 (2*t105)]:List Int):List Int)).bind fun y107=>(if x3_1.length+y107.length< 17592186044416 then(bibelotref07_Picture.l0 k1 l0 (x3_1++y107) (wrap64 (x4_1+1)))else(none)))else((some (([wrap64 (2*t105),wrap64 ((wrap64 (2*t105)) - 1)]:List Int):List Int)).bind fun y113=>(if x3_1.length+y113.length< 17592186044416 then(bibelotref07_Picture.l0 k1 l0 (x3_1++y113) (wrap64 (x4_1+1)))else(none))))=some r:=H;have A6:=Aside0.mk A60;clear A60;by_cases c7:(rd l0 x4_1)>0
    ·rw[if_pos c7]at H;have c7b0:decide (0< (rd l0 x4_1))=true:=decide_eq_true c7;clear c7;obtain⟨y107,hy107⟩: ∃y_:List Int,y_=(([wrap64 ((wrap64 (2*t105)) - 1),wrap64 (2*t105)]:List Int)):=⟨_,rfl⟩;replace H:(if x3_1.length+y107.length< 17592186044416 then(bibelotref07_Picture.l0 k1 l0 (x3_1++y107) (wrap64 (x4_1+1)))else(none))=some r:=by first|(rw[hy107];with_reducible exact H)|(have H2_:=(Option.bind_some _ _).symm.trans H;rw[hy107];with_reducible exact H2_)|(have H2_:=(Option.bind_some _ _).symm.trans H;with_reducible exact H2_)|with_reducible exact H|(rw[hy107];exact H)|exact H
     have Ny107:=Aside0.mk hy107;clear hy107;by_cases c8:x3_1.length+y107.length< 17592186044416;rotate_left
     ·rw[if_neg c8]at H;exact absurd H tS
     rw[if_pos c8]at H;have LMc8:=Aside0.mk c8;clear c8;obtain⟨y110,hy110⟩: ∃y_:List Int,y_=(x3_1++y107):=⟨_,rfl⟩;replace H:(bibelotref07_Picture.l0 k1 l0 y110 (wrap64 (x4_1+1)))=some r:=by first|(rw[hy110];with_reducible exact H)|(have H2_:=(Option.bind_some _ _).symm.trans H;rw[hy110];with_reducible exact H2_)|(have H2_:=(Option.bind_some _ _).symm.trans H;with_reducible exact H2_)|with_reducible exact H|(rw[hy110];exact H)|exact H
     have Ny110:=Aside0.mk hy110;clear hy110;have H':=Aside0.mk H;clear H;have p104:0≤(x4_1:Int):=of_decide_eq_true tA;have q104:x4_1< (l0.length:Int):=of_decide_eq_true tA;obtain⟨ad104,e104,hx104_0⟩:=Kd.at_int HR0.out x4_1 p104 q104;cases e104;replace hx104_0:=(HB.out.cell (World.block_lt_of_cell? w _ hx104_0)).trans hx104_0;replace p104:=eq_true p104;replace q104:=eq_true q104
     go_wp2_with (first|((with_reducible refine gate_callee (f:=40) rfl ?_);refine goesL_ (some 17) rfl rfl Try.func40 tK rfl #[.int .i64 (rd l0 x4_1)] rfl tM ?_;(with_reducible refine(bibelotref07_Abs.calls (rd l0 x4_1) t105 _ A6.out).mono ?_);rintro e w9 ⟨rfl,hb⟩;refine⟨_,rfl,?_⟩;have n0_:=Aside0.mk (Kd.R_below (tR HO_3.out) hb);have n1_:=Aside0.mk (below_step (tB HB.out) hb);clear HO_3;clear HB;have HO_3:=n0_;have HB:=n1_;clear n0_ n1_;(try clear hb);(try clear hb2);(try clear hk);(try clear hi);have p106:0≤(x4_1:Int):=of_decide_eq_true tA;have q106:x4_1< (l0.length:Int):=of_decide_eq_true tA;obtain⟨ad106,e106,hx106_0⟩:=Kd.at_int HR0.out x4_1 p106 q106;obtain rfl:ad104=ad106:=(by injection e106);replace hx106_0:=(HB.out.cell (World.block_lt_of_cell? w _ hx106_0)).trans hx106_0;replace p106:=eq_true p106;replace q106:=eq_true q106)|((with_reducible refine gate_dst (N:=29) rfl ?_);refine Kd.R_lit (Kd.int .i64) _ 3 ?hg (N:=29) ?hd (xs:=([wrap64 ((wrap64 (2*t105)) - 1),wrap64 (2*t105)]:List Int)) (inner:= [.int .i64 (wrap64 ((wrap64 (2*t105)) - 1)), .int .i64 (wrap64 (2*t105))]) (ok:=fun _=>True) (okp:=fun _=>True) ?hr ?hp (fun _ hk=>hk) trivial (Below.refl _ _) (Nat.le_refl _) tS ?_;(case hd=>rfl);(case hg=>rfl);(case hr=>first|(go_simp;done)|(go_simp;rfl));(case hp=>exact(Reps.one (show Kd.M (Kd.int .i64) _ _ _ (wrap64 ((wrap64 (2*t105)) - 1)) [.int .i64 (wrap64 ((wrap64 (2*t105)) - 1))]from rfl) (Reps.one (show Kd.M (Kd.int .i64) _ _ _ (wrap64 (2*t105)) [.int .i64 (wrap64 (2*t105))]from rfl) (Reps.none _ _))));intro v108 w10 ho11 hb hg_ hnew_;clear hg_ hnew_;(first|rw[←Ny107.out]at ho11|(simp only[Int.reduceToNat]at ho11;rw[←Ny107.out]at ho11));have n0_:=Aside0.mk (Kd.R_elder' (tR HO_3.out) (Kd.R_base ho11) hb);have n1_:=Aside0.mk (Kd.R_lower (Kd.R_new' ho11 (Kd.R_lt (tR HO_3.out))) (below_size (tB HB.out)));have n2_:=Aside0.mk (below_step (tB HB.out) hb);clear HO_3;clear HB;have HO_3:=n0_;have HO109:=n1_;have HB:=n2_;clear n0_ n1_ n2_;clear hb ho11;obtain⟨Ao13,co13,eo13⟩:=Kd.R_slice HO109.out;subst eo13)|((with_reducible refine gate_builtin (b:= .append) (xs:= #[.tmp 23, .tmp 29]) rfl ?_);at_builtin;refine Kd.R_append_rows (Kd.int .i64) (w0:=w) w.heap.size rfl (.tmp 23) (.tmp 29) 22 3 (.int .i64 0) 8 rfl Try.underlying22 info3 rfl tD tO u3 x3_1 y107 _ _ _ (fun k_=>some k_≠(.slice Ao13 y107.length co13:Value).ownBlock) (fun _=>False) rfl rfl ?aO ?aR (fun _ _ h=>h) (fun _ h=>h.elim) ?aF ?aB ?aS ?aL ?_;(case aR=>repeat(first|exact(Kd.R_reads' HO109.out).2.2|(with_reducible refine Kd.C_alloc ?_ _)|(with_reducible refine Kd.C_drewN ?_ _)|(with_reducible refine Kd.C_drew ?_)));(case aB=>exact(tB HB.out));(case aF=>exact(fun k_ hk=>Kd.fresh' (Kd.R_lt (tR HO109.out)) k_ hk));(case aO=>exact(by(with_reducible repeat(first|apply Kd.R_alloc|apply Kd.R_drewN|apply Kd.R_drew));exact Kd.R_mono HO_3.out (fun _ hk=>hk.2)));(case aS=>exact(below_size (tB HB.out)));(case aL=>have:=LMc8.out;omega);intro v111 w12 ho hb hg hat;rw[←Ny110.out]at ho;have n0_:=Aside0.mk (Kd.R_after (ok:=(fun _=>True)) (tR HO109.out) hg hat);have n1_:=Aside0.mk (hb);have n2_:=Aside0.mk (ho);clear HO109;clear HB;clear HO_3;have HO109:=n0_;have HB:=n1_;have HO112:=n2_;clear n0_ n1_ n2_;clear ho hb hg hat))
     go_roundg k1
     case measure=>have:=HK1.out;omega
     case rel=>exact⟨(y110),(wrap64 (x4_1+1)),tF,H',⟨by have:=HK1.out;omega⟩,⟨by(with_reducible repeat(first|apply Kd.R_alloc|apply Kd.R_drewN|apply Kd.R_drew));exact Kd.R_mono HO112.out (fun _ hk=>trivial)⟩,⟨by repeat(first|(with_reducible first|exact HB.out|apply below_alloc|apply pw_below_drewN|apply below_drew1)|exact HB.out)⟩⟩
    ·rw[if_neg c7]at H;have c7b0:decide (0< (rd l0 x4_1))=false:=decide_eq_false c7;clear c7;obtain⟨y113,hy113⟩: ∃y_:List Int,y_=(([wrap64 (2*t105),wrap64 ((wrap64 (2*t105)) - 1)]:List Int)):=⟨_,rfl⟩;replace H:(if x3_1.length+y113.length< 17592186044416 then(bibelotref07_Picture.l0 k1 l0 (x3_1++y113) (wrap64 (x4_1+1)))else(none))=some r:=by first|(rw[hy113];with_reducible exact H)|(have H2_:=(Option.bind_some _ _).symm.trans H;rw[hy113];with_reducible exact H2_)|(have H2_:=(Option.bind_some _ _).symm.trans H;with_reducible exact H2_)|with_reducible exact H|(rw[hy113];exact H)|exact H
     have Ny113:=Aside0.mk hy113;clear hy113;by_cases c14:x3_1.length+y113.length< 17592186044416;rotate_left
     ·rw[if_neg c14]at H;exact absurd H tS
     rw[if_pos c14]at H;have LMc14:=Aside0.mk c14;clear c14;obtain⟨y116,hy116⟩: ∃y_:List Int,y_=(x3_1++y113):=⟨_,rfl⟩;replace H:(bibelotref07_Picture.l0 k1 l0 y116 (wrap64 (x4_1+1)))=some r:=by first|(rw[hy116];with_reducible exact H)|(have H2_:=(Option.bind_some _ _).symm.trans H;rw[hy116];with_reducible exact H2_)|(have H2_:=(Option.bind_some _ _).symm.trans H;with_reducible exact H2_)|with_reducible exact H|(rw[hy116];exact H)|exact H
     have Ny116:=Aside0.mk hy116;clear hy116;have H':=Aside0.mk H;clear H;have p104:0≤(x4_1:Int):=of_decide_eq_true tA;have q104:x4_1< (l0.length:Int):=of_decide_eq_true tA;obtain⟨ad104,e104,hx104_0⟩:=Kd.at_int HR0.out x4_1 p104 q104;cases e104;replace hx104_0:=(HB.out.cell (World.block_lt_of_cell? w _ hx104_0)).trans hx104_0;replace p104:=eq_true p104;replace q104:=eq_true q104
     go_wp2_with (first|((with_reducible refine gate_callee (f:=40) rfl ?_);refine goesL_ (some 17) rfl rfl Try.func40 tK rfl #[.int .i64 (rd l0 x4_1)] rfl tM ?_;(with_reducible refine(bibelotref07_Abs.calls (rd l0 x4_1) t105 _ A6.out).mono ?_);rintro e w15 ⟨rfl,hb⟩;refine⟨_,rfl,?_⟩;have n0_:=Aside0.mk (Kd.R_below (tR HO_3.out) hb);have n1_:=Aside0.mk (below_step (tB HB.out) hb);clear HO_3;clear HB;have HO_3:=n0_;have HB:=n1_;clear n0_ n1_;(try clear hb);(try clear hb2);(try clear hk);(try clear hi);have p106:0≤(x4_1:Int):=of_decide_eq_true tA;have q106:x4_1< (l0.length:Int):=of_decide_eq_true tA;obtain⟨ad106,e106,hx106_0⟩:=Kd.at_int HR0.out x4_1 p106 q106;obtain rfl:ad104=ad106:=(by injection e106);replace hx106_0:=(HB.out.cell (World.block_lt_of_cell? w _ hx106_0)).trans hx106_0;replace p106:=eq_true p106;replace q106:=eq_true q106)|((with_reducible refine gate_dst (N:=37) rfl ?_);refine Kd.R_lit (Kd.int .i64) _ 3 ?hg (N:=37) ?hd (xs:=([wrap64 (2*t105),wrap64 ((wrap64 (2*t105)) - 1)]:List Int)) (inner:= [.int .i64 (wrap64 (2*t105)), .int .i64 (wrap64 ((wrap64 (2*t105)) - 1))]) (ok:=fun _=>True) (okp:=fun _=>True) ?hr ?hp (fun _ hk=>hk) trivial (Below.refl _ _) (Nat.le_refl _) tS ?_;(case hd=>rfl);(case hg=>rfl);(case hr=>first|(go_simp;done)|(go_simp;rfl));(case hp=>exact(Reps.one (show Kd.M (Kd.int .i64) _ _ _ (wrap64 (2*t105)) [.int .i64 (wrap64 (2*t105))]from rfl) (Reps.one (show Kd.M (Kd.int .i64) _ _ _ (wrap64 ((wrap64 (2*t105)) - 1)) [.int .i64 (wrap64 ((wrap64 (2*t105)) - 1))]from rfl) (Reps.none _ _))));intro v114 w16 ho17 hb hg_ hnew_;clear hg_ hnew_;(first|rw[←Ny113.out]at ho17|(simp only[Int.reduceToNat]at ho17;rw[←Ny113.out]at ho17));have n0_:=Aside0.mk (Kd.R_elder' (tR HO_3.out) (Kd.R_base ho17) hb);have n1_:=Aside0.mk (Kd.R_lower (Kd.R_new' ho17 (Kd.R_lt (tR HO_3.out))) (below_size (tB HB.out)));have n2_:=Aside0.mk (below_step (tB HB.out) hb);clear HO_3;clear HB;have HO_3:=n0_;have HO115:=n1_;have HB:=n2_;clear n0_ n1_ n2_;clear hb ho17;obtain⟨Ao19,co19,eo19⟩:=Kd.R_slice HO115.out;subst eo19)|((with_reducible refine gate_builtin (b:= .append) (xs:= #[.tmp 31, .tmp 37]) rfl ?_);at_builtin;refine Kd.R_append_rows (Kd.int .i64) (w0:=w) w.heap.size rfl (.tmp 31) (.tmp 37) 22 3 (.int .i64 0) 8 rfl Try.underlying22 info3 rfl tD tO u3 x3_1 y113 _ _ _ (fun k_=>some k_≠(.slice Ao19 y113.length co19:Value).ownBlock) (fun _=>False) rfl rfl ?aO ?aR (fun _ _ h=>h) (fun _ h=>h.elim) ?aF ?aB ?aS ?aL ?_;(case aR=>repeat(first|exact(Kd.R_reads' HO115.out).2.2|(with_reducible refine Kd.C_alloc ?_ _)|(with_reducible refine Kd.C_drewN ?_ _)|(with_reducible refine Kd.C_drew ?_)));(case aB=>exact(tB HB.out));(case aF=>exact(fun k_ hk=>Kd.fresh' (Kd.R_lt (tR HO115.out)) k_ hk));(case aO=>exact(by(with_reducible repeat(first|apply Kd.R_alloc|apply Kd.R_drewN|apply Kd.R_drew));exact Kd.R_mono HO_3.out (fun _ hk=>hk.2)));(case aS=>exact(below_size (tB HB.out)));(case aL=>have:=LMc14.out;omega);intro v117 w18 ho hb hg hat;rw[←Ny116.out]at ho;have n0_:=Aside0.mk (Kd.R_after (ok:=(fun _=>True)) (tR HO115.out) hg hat);have n1_:=Aside0.mk (hb);have n2_:=Aside0.mk (ho);clear HO115;clear HB;clear HO_3;have HO115:=n0_;have HB:=n1_;have HO118:=n2_;clear n0_ n1_ n2_;clear ho hb hg hat))
     go_roundg k1
     case measure=>have:=HK1.out;omega
     case rel=>exact⟨(y116),(wrap64 (x4_1+1)),tF,H',⟨by have:=HK1.out;omega⟩,⟨by(with_reducible repeat(first|apply Kd.R_alloc|apply Kd.R_drewN|apply Kd.R_drew));exact Kd.R_mono HO118.out (fun _ hk=>trivial)⟩,⟨by repeat(first|(with_reducible first|exact HB.out|apply below_alloc|apply pw_below_drewN|apply below_drew1)|exact HB.out)⟩⟩
   ·rw[if_neg c4]at H;have c4b0:decide (x4_1< (l0.length:Int))=false:=decide_eq_false c4;clear c4;by_cases c20:x3_1.length< 17592186044416;rotate_left
    ·rw[if_neg c20]at H;exact absurd H tS
    rw[if_pos c20]at H;have LMc20:=Aside0.mk c20;clear c20;obtain⟨y119,hy119⟩: ∃y_:List Int,y_=(x3_1++ [wrap64 ((wrap64 (2*(l0.length:Int)))+1)]):=⟨_,rfl⟩;replace H:(some y119)=some r:=by first|(rw[hy119];with_reducible exact H)|(have H2_:=(Option.bind_some _ _).symm.trans H;rw[hy119];with_reducible exact H2_)|(have H2_:=(Option.bind_some _ _).symm.trans H;with_reducible exact H2_)|with_reducible exact H|(rw[hy119];exact H)|exact H
    have Ny119:=Aside0.mk hy119;clear hy119;obtain rfl:=Option.some.inj H
    go_wp2_with (first|((with_reducible refine gate_builtin (b:= .append) (xs:= #[.tmp 39, .tmp 44]) rfl ?_);at_builtin;refine Kd.R_append (Kd.int .i64) (w0:=w) w.heap.size rfl (.tmp 39) (.tmp 44) 22 3 (.int .i64 0) 8 rfl Try.underlying22 info3 rfl tD tO u3 x3_1 (wrap64 ((wrap64 (2*(l0.length:Int)))+1)) [.int .i64 (wrap64 ((wrap64 (2*(l0.length:Int)))+1))] (fun _=>True) (fun _=>False) rfl rfl ?aP (fun _ hk=>hk.elim) ?aF ?aO ?aB ?aS ?aL ?_;(case aP=>exact rfl);(case aB=>exact(tB HB.out));(case aF=>exact(fun _ _=>trivial));(case aO=>exact(tR HO_3.out));(case aS=>exact(below_size (tB HB.out)));(case aL=>have:=LMc20.out;omega);intro v120 w21 ho hb hg hat;rw[←Ny119.out]at ho;have n0_:=Aside0.mk (hb);have n1_:=Aside0.mk (ho);clear HB;clear HO_3;have HB:=n0_;have HO121:=n1_;clear n0_ n1_;clear ho hb hg hat))
    go_ret;exact⟨_,by first|rfl|(simp[errW_none,errW_some]<;>rfl)|(simp[*,errW_none,errW_some]<;>rfl),by(with_reducible repeat(first|apply Kd.R_alloc|apply Kd.R_drewN|apply Kd.R_drew));exact HO121.out,by repeat(first|(with_reducible first|exact HB.out|apply below_alloc|apply pw_below_drewN|apply below_drew1)|exact HB.out)⟩
end Go.Proofs.Ytepjhdblmghckaa.Q
namespace Go.Proofs.Ytepjhdblmghckaa.G
end Go.Proofs.Ytepjhdblmghckaa.G
namespace Go.Proofs.Ytepjhdblmghckaa.Q
theorem info57:(Try.prog.info? 57).map (fun i=>(i.zero,i.size,i.bytes))=some (some (.agg #[(.int .i64 0),(.int .i64 0)]),2,16):=by kernel_rfl
open Go.Proofs.Ytepjhdblmghckaa.G
open Go.RowKit Go.Proofs.YtepjhdblmghckaaW.PrintWords Go.Proofs.YtepjhdblmghckaaW.PrintLast Go.Proofs.YtepjhdblmghckaaW.PrintMore
attribute [local go_sem] max2_int min2_int max_two min_two max_three min_three max_four min_four
mutual
def bibelotref07_Lines.l0:Nat→List Int→List Int→List Int→Int→Option ((List (S57)))
 |0,_,_,_,_=>none
 |k+1,x0,x3,x4,x5=>if x5< (x3.length:Int)then(if 0≤x5 then(if 0≤(rd x3 x5)then(if(rd x3 x5)< (x4.length:Int)then(bibelotref07_Lines.l0 k x0 x3 (x4.set ((rd x3 x5):Int).toNat x5) (wrap64 (x5+1)))else(none))else(none))else(none))else(bibelotref07_Lines.l1 k x0 x4 ([]:List (S57)) 0)
def bibelotref07_Lines.l1:Nat→List Int→List Int→List (S57)→Int→Option ((List (S57)))
 |0,_,_,_,_=>none
 |k+1,x0,x4,x6,x7=>if x7≤(x0.length:Int)then(if 0≤(wrap64 (2*x7))then(if(wrap64 (2*x7))< (x4.length:Int)then(if 0≤(wrap64 ((wrap64 (2*x7))+1))then(if(wrap64 ((wrap64 (2*x7))+1))< (x4.length:Int)then(if x6.length< 8796093022208 then(bibelotref07_Lines.l1 k x0 x4 (x6++ [(⟨mn (rd x4 (wrap64 (2*x7))) (rd x4 (wrap64 ((wrap64 (2*x7))+1))),mx (rd x4 (wrap64 (2*x7))) (rd x4 (wrap64 ((wrap64 (2*x7))+1)))⟩:S57)]) (wrap64 (x7+1)))else(none))else(none))else(none))else(none))else(none))else(some x6)
end
def bibelotref07_Lines.f (k:Nat) (l0:List Int):Option ((List (S57))):=(bibelotref07_Picture.f k l0).bind fun t139=>(if 0≤(t139.length:Int)then(if((t139.length:Int):Int).toNat≤35184372088832 then(bibelotref07_Lines.l0 k l0 t139 (List.replicate ((t139.length:Int):Int).toNat 0) 0)else(none))else(none))
set_option maxHeartbeats 8000000 in
set_option maxRecDepth 100000 in
theorem bibelotref07_Lines.calls (k:Nat) (A0:Option Addr) (c0:Nat) (l0:List Int) (r:List (S57)) (w:World) (hr0:Kd.C (Kd.int .i64) w A0 l0.length l0) (hc0:l0.length≤c0) (h:bibelotref07_Lines.f k l0=some r):
  Calls Try.prog 63 #[.slice A0 l0.length c0] w fun e w'=> ∃v0_:Value,e= .returned (v0_)∧Kd.R k57 57 w' w.heap.size (fun _=>True) v0_ r∧Below w.heap.size w w':=by
 have hu57:=Try.underlying57;have HR0:=Aside0.mk hr0;have HC0:=Aside0.mk hc0;clear hr0 hc0;have HB:=Aside0.mk (Below.refl w.heap.size w);have H:((bibelotref07_Picture.f k l0).bind fun t139=>(if 0≤(t139.length:Int)then(if((t139.length:Int):Int).toNat≤35184372088832 then(bibelotref07_Lines.l0 k l0 t139 (List.replicate ((t139.length:Int):Int).toNat 0) 0)else(none))else(none)))=some r:=h;clear h;replace H:=Option.bind_eq_some_iff.mp H;obtain⟨t139,A20,H⟩:=H;replace H:(if 0≤(t139.length:Int)then(if((t139.length:Int):Int).toNat≤35184372088832 then(bibelotref07_Lines.l0 k l0 t139 (List.replicate ((t139.length:Int):Int).toNat 0) 0)else(none))else(none))=some r:=H;have A2:=Aside0.mk A20;clear A20;by_cases c3:0≤(t139.length:Int);rotate_left
 ·rw[if_neg c3]at H;exact absurd H tS
 rw[if_pos c3]at H;have c3b0:=eq_true c3;have c3b1:decide (0≤(t139.length:Int))=true:=decide_eq_true c3;clear c3;by_cases c4:((t139.length:Int):Int).toNat≤35184372088832;rotate_left
 ·rw[if_neg c4]at H;exact absurd H tS
 rw[if_pos c4]at H;have c4b0:=eq_true c4;have c4b1:decide (((t139.length:Int):Int).toNat≤35184372088832)=true:=decide_eq_true c4;clear c4;obtain⟨y142,hy142⟩: ∃y_:List Int,y_=(List.replicate ((t139.length:Int):Int).toNat 0):=⟨_,rfl⟩;replace H:(bibelotref07_Lines.l0 k l0 t139 y142 0)=some r:=by first|(rw[hy142];with_reducible exact H)|(have H2_:=(Option.bind_some _ _).symm.trans H;rw[hy142];with_reducible exact H2_)|(have H2_:=(Option.bind_some _ _).symm.trans H;with_reducible exact H2_)|with_reducible exact H|(rw[hy142];exact H)|exact H
 have Ny142:=Aside0.mk hy142;clear hy142;have H':=Aside0.mk H;clear H
 go_enter Try.func63,Try.ntmps63
 go_wp2_with (first|(go_at_call 38;(with_reducible refine(bibelotref07_Picture.calls k _ _ l0 t139 _ ?side1 ?side2 A2.out).mono ?_);(case side1=>repeat(first|exact HR0.out|(with_reducible refine Kd.C_alloc ?_ _)|(with_reducible refine Kd.C_drewN ?_ _)|(with_reducible refine Kd.C_drew ?_)));(case side2=>exact HC0.out);rintro e w5 ⟨v140,rfl,ho0,hb⟩;have n0_:=Aside0.mk (Kd.R_lower ho0 (below_size (tB HB.out)));have n1_:=Aside0.mk (below_step (tB HB.out) hb);clear HB;have HO141:=n0_;have HB:=n1_;clear n0_ n1_;(try clear hb);(try clear hb2);(try clear hk);(try clear hi);(try clear ho0);obtain⟨Ao6,co6,eo6⟩:=Kd.R_slice HO141.out;subst eo6)|((with_reducible refine gate_dst (N:=14) rfl ?_);refine Kd.R_make (Kd.int .i64) _ 3 rfl (N:=14) rfl 22 _ _ rfl (t139.length:Int) rfl rfl Try.underlying22 (.int .i64 0) 8 info3 rfl tD tO 0 (ok:=fun _=>True) (okp:=fun _=>True) rfl (fun _ hk=>hk) trivial (of_decide_eq_true tA) (Nat.le_trans (Nat.mul_le_mul_right _ (of_decide_eq_true tA:(t139.length:Int).toNat≤35184372088832)) tO) (Below.refl _ _) (Nat.le_refl _) ?_;intro v143 w7 ho8 hb hg_ hnew_;clear hg_ hnew_;(first|rw[←Ny142.out]at ho8|(simp only[Int.reduceToNat]at ho8;rw[←Ny142.out]at ho8));have n0_:=Aside0.mk (Kd.R_elder' (tR HO141.out) (Kd.R_base ho8) hb);have n1_:=Aside0.mk (Kd.R_lower (Kd.R_new' ho8 (Kd.R_lt (tR HO141.out))) (below_size (tB HB.out)));have n2_:=Aside0.mk (below_step (tB HB.out) hb);clear HO141;clear HB;have HO141:=n0_;have HO144:=n1_;have HB:=n2_;clear n0_ n1_ n2_;clear hb ho8))
 go_loopg [5] k (fun kq v5 w'=> ∃(x4_1:List Int) (x5_1:Int),v5= .int .i64 x5_1∧Aside0 (bibelotref07_Lines.l0 kq l0 t139 x4_1 x5_1=some r)∧Aside0 (kq≤k)∧Aside0 (Kd.R (Kd.int .i64) 3 w' w.heap.size (fun k_=>some k_≠(v143:Value).ownBlock) (.slice Ao6 t139.length co6) t139)∧Aside0 (Kd.R (Kd.int .i64) 3 w' w.heap.size (fun k_=>some k_≠((.slice Ao6 t139.length co6):Value).ownBlock) v143 x4_1)∧Aside0 (Below w.heap.size w w'))
 case atStart=>exact⟨(y142),(0),tF,H',⟨Nat.le_refl _⟩,⟨by(with_reducible repeat(first|apply Kd.R_alloc|apply Kd.R_drewN|apply Kd.R_drew));exact Kd.R_mono HO141.out (fun _ hk=>hk.2)⟩,⟨by(with_reducible repeat(first|apply Kd.R_alloc|apply Kd.R_drewN|apply Kd.R_drew));exact Kd.R_mono HO144.out (fun _ hk=>hk.2)⟩,⟨by repeat(first|(with_reducible first|exact HB.out|apply below_alloc|apply pw_below_drewN|apply below_drew1)|exact HB.out)⟩⟩
 case round=>
  clear H';obtain⟨x4_1,x5_1,rfl,HA,HK1,HO_3,HO_4,HB⟩:=hrel;cases gk with
  |zero=>exact absurd HA.out (by simp[bibelotref07_Lines.l0])
  | succ k1=>
   have H:=HA.out;clear HA;simp only[bibelotref07_Lines.l0]at H;by_cases c9:x5_1< (t139.length:Int)
   ·rw[if_pos c9]at H;have c9b0:decide (x5_1< (t139.length:Int))=true:=decide_eq_true c9;clear c9;by_cases c10:0≤x5_1;rotate_left
    ·rw[if_neg c10]at H;exact absurd H tS
    rw[if_pos c10]at H;have c10b0:decide (0≤x5_1)=true:=decide_eq_true c10;clear c10;by_cases c11:0≤(rd t139 x5_1);rotate_left
    ·rw[if_neg c11]at H;exact absurd H tS
    rw[if_pos c11]at H;have c11b0:decide (0≤(rd t139 x5_1))=true:=decide_eq_true c11;clear c11;by_cases c12:(rd t139 x5_1)< (x4_1.length:Int);rotate_left
    ·rw[if_neg c12]at H;exact absurd H tS
    rw[if_pos c12]at H;have c12b0:decide ((rd t139 x5_1)< (x4_1.length:Int))=true:=decide_eq_true c12;clear c12;obtain⟨y146,hy146⟩: ∃y_:List Int,y_=(x4_1.set ((rd t139 x5_1):Int).toNat x5_1):=⟨_,rfl⟩;replace H:(bibelotref07_Lines.l0 k1 l0 t139 y146 (wrap64 (x5_1+1)))=some r:=by first|(rw[hy146];with_reducible exact H)|(have H2_:=(Option.bind_some _ _).symm.trans H;rw[hy146];with_reducible exact H2_)|(have H2_:=(Option.bind_some _ _).symm.trans H;with_reducible exact H2_)|with_reducible exact H|(rw[hy146];exact H)|exact H
    have Ny146:=Aside0.mk hy146;clear hy146;have H':=Aside0.mk H;clear H;have p145:0≤(x5_1:Int):=of_decide_eq_true tA;have q145:x5_1< (t139.length:Int):=of_decide_eq_true tA;obtain⟨ad145,e145,hx145_0⟩:=Kd.at_int (Kd.R_reads' HO_3.out).2.2 x5_1 p145 q145;cases e145;replace p145:=eq_true p145;replace q145:=eq_true q145;have p13:0≤((rd t139 x5_1):Int):=of_decide_eq_true tA;have q13:((rd t139 x5_1):Int)< ((x4_1.length:Int):Int):=of_decide_eq_true tA;obtain⟨go13,co13,eo13,gb13,gl13,cl13,HG13⟩:=Kd.R_form HO_4.out tO
    (first|cases eo13|(injection eo13 with ea_ en_ ec_;(first|subst ea_|(injection ea_ with ea_;subst ea_));subst ec_;clear en_))
    have GB13:=Aside0.mk gb13;have GG13:=Aside0.mk HG13;clear gb13 gl13 HG13;obtain⟨hx13_0,hf13_0⟩:=Kd.R_celln 0 HO_4.out ((rd t139 x5_1):Int) p13 q13;replace p13:=eq_true p13;replace q13:=eq_true q13;have HP14:=Kd.R_putg HO_4.out ((rd t139 x5_1):Int) x5_1
    go_wp2_with (first|((with_reducible refine gate_store (t:=3) (p:=27) rfl ?_);(try(rw[drewN_self wr];generalize hq_:World.drewN wr _=wr;have n0_:=Aside0.mk (Kd.R_at hq_ HO_3.out);have n1_:=Aside0.mk (Kd.R_at hq_ HO_4.out);have n2_:=Aside0.mk (below_at hq_ HB.out);clear hq_ HO_3 HO_4 HB;have HO_3:=n0_;have HO_4:=n1_;have HB:=n2_;clear n0_ n1_ n2_;(try(have HP14:=Kd.R_putg HO_4.out ((rd t139 x5_1):Int) x5_1))));refine store_event (t:=3) (p:=27) (v:=?vo_w15) (w1:=(wr.setCell ⟨go13,((rd t139 x5_1):Int).toNat,none⟩ (.int .i64 x5_1))) ?hg ?ho ?hn ?hr ?_;(case ho=>rfl);(case hg=>rfl);(case hn=>rfl);(case hr=>first|(go_simp;done)|(go_simp;rfl));intro w15 hw;have hg:wr.grownBy w15 (some go13):=(by rw[hw];exact HP14.2);have hp_:Kd.R (Kd.int .i64) 3 w15 w.heap.size (fun k_=>some k_≠(.slice (some ad145) t139.length co6:Value).ownBlock) (.slice (some ⟨go13,0,none⟩) x4_1.length co13) y146:=(by rw[hw,Ny146.out];exact HP14.1);clear HP14;have n0_:=Aside0.mk (Kd.R_after (v:=(.slice (some ⟨go13,0,none⟩) x4_1.length co13)) (v1:=(.slice (some ⟨go13,0,none⟩) x4_1.length co13)) (ok:=(fun _=>True)) (by(with_reducible repeat(first|apply Kd.R_alloc|apply Kd.R_drewN|apply Kd.R_drew));exact Kd.R_mono HO_3.out (fun _ hk=>⟨trivial,hk⟩)) hg (.inl rfl));have n1_:=Aside0.mk (hp_);have n2_:=Aside0.mk ((by rw[hw];exact below_set (HB.out) GB13.out:Below w.heap.size w w15));clear HO_3;clear HO_4;clear HB;have HO_3:=n0_;have HO_4:=n1_;have HB:=n2_;clear n0_ n1_ n2_;clear hg hw hp_))
    go_roundg k1
    case measure=>have:=HK1.out;omega
    case rel=>exact⟨(y146),(wrap64 (x5_1+1)),tF,H',⟨by have:=HK1.out;omega⟩,⟨by(with_reducible repeat(first|apply Kd.R_alloc|apply Kd.R_drewN|apply Kd.R_drew));exact Kd.R_mono HO_3.out (fun _ hk=>hk.2)⟩,⟨by(with_reducible repeat(first|apply Kd.R_alloc|apply Kd.R_drewN|apply Kd.R_drew));exact HO_4.out⟩,⟨by repeat(first|(with_reducible first|exact HB.out|apply below_alloc|apply pw_below_drewN|apply below_drew1)|exact HB.out)⟩⟩
   ·rw[if_neg c9]at H;have c9b0:decide (x5_1< (t139.length:Int))=false:=decide_eq_false c9;clear c9;have H':=Aside0.mk H;clear H;go_wp2
    repeat(go_quiet (fail);try go_wp2)
    go_loopg [6,7] k1 (fun kq v6 v7 w'=> ∃(x6_2:List (S57)) (x7_2:Int),v7= .int .i64 x7_2∧Aside0 (bibelotref07_Lines.l1 kq l0 x4_1 x6_2 x7_2=some r)∧Aside0 (kq≤k1)∧Aside0 (Kd.R (Kd.int .i64) 3 w' w.heap.size (fun _=>True) v143 x4_1)∧Aside0 (Kd.R k57 57 w' w.heap.size (fun _=>True) v6 x6_2)∧Aside0 (Below w.heap.size w w'))
    case atStart=>exact⟨(([]:List (S57))),(0),tF,H',⟨Nat.le_refl _⟩,⟨by(with_reducible repeat(first|apply Kd.R_alloc|apply Kd.R_drewN|apply Kd.R_drew));exact Kd.R_mono HO_4.out (fun _ hk=>trivial)⟩,⟨by first|exact Kd.R_nil _ _ _ _ _|exact Kd.N_nil _ _ _ _ _|exact Kd.V_nil _ _ _ _ _|exact Kd.Q_nil _ _ _ _ _|exact Kd.S_nil _ _ _ _ _⟩,⟨by repeat(first|(with_reducible first|exact HB.out|apply below_alloc|apply pw_below_drewN|apply below_drew1)|exact HB.out)⟩⟩
    case round=>
     clear H';obtain⟨x6_2,x7_2,rfl,HA,HK2,HO_4,HO_6,HB⟩:=hrel;cases gk with
     |zero=>exact absurd HA.out (by simp[bibelotref07_Lines.l1])
     | succ k2=>
      have H:=HA.out;clear HA;simp only[bibelotref07_Lines.l1]at H;by_cases c16:x7_2≤(l0.length:Int)
      ·rw[if_pos c16]at H;have c16b0:decide (x7_2≤(l0.length:Int))=true:=decide_eq_true c16;clear c16;obtain⟨ji17,hji17⟩: ∃j_:Int,(wrap64 (2*x7_2))=j_:=⟨_,rfl⟩;replace H:(if 0≤(ji17)then(if(ji17)< (x4_1.length:Int)then(if 0≤(wrap64 ((ji17)+1))then(if(wrap64 ((ji17)+1))< (x4_1.length:Int)then(if x6_2.length< 8796093022208 then(bibelotref07_Lines.l1 k2 l0 x4_1 (x6_2++ [(⟨mn (rd x4_1 (ji17)) (rd x4_1 (wrap64 ((ji17)+1))),mx (rd x4_1 (ji17)) (rd x4_1 (wrap64 ((ji17)+1)))⟩:S57)]) (wrap64 (x7_2+1)))else(none))else(none))else(none))else(none))else(none))=some r:=by first|(rw[hji17]at H;exact H)|(simp only[hji17]at H ⊢;exact H)
       have hji17w:(IntKind.i64.wrap (2*x7_2))=ji17:=(i64_w _).trans hji17;by_cases c18:0≤(ji17);rotate_left
       ·rw[if_neg c18]at H;exact absurd H tS
       rw[if_pos c18]at H;have c18b0:decide (0≤(ji17))=true:=decide_eq_true c18;clear c18;by_cases c19:(ji17)< (x4_1.length:Int);rotate_left
       ·rw[if_neg c19]at H;exact absurd H tS
       rw[if_pos c19]at H;have c19b0:decide ((ji17)< (x4_1.length:Int))=true:=decide_eq_true c19;clear c19;obtain⟨ji20,hji20⟩: ∃j_:Int,(wrap64 ((ji17)+1))=j_:=⟨_,rfl⟩;replace H:(if 0≤(ji20)then(if(ji20)< (x4_1.length:Int)then(if x6_2.length< 8796093022208 then(bibelotref07_Lines.l1 k2 l0 x4_1 (x6_2++ [(⟨mn (rd x4_1 (ji17)) (rd x4_1 (ji20)),mx (rd x4_1 (ji17)) (rd x4_1 (ji20))⟩:S57)]) (wrap64 (x7_2+1)))else(none))else(none))else(none))=some r:=by first|(rw[hji20]at H;exact H)|(simp only[hji20]at H ⊢;exact H)
       have hji20w:(IntKind.i64.wrap ((ji17)+1))=ji20:=(i64_w _).trans hji20;by_cases c21:0≤(ji20);rotate_left
       ·rw[if_neg c21]at H;exact absurd H tS
       rw[if_pos c21]at H;have c21b0:decide (0≤(ji20))=true:=decide_eq_true c21;clear c21;by_cases c22:(ji20)< (x4_1.length:Int);rotate_left
       ·rw[if_neg c22]at H;exact absurd H tS
       rw[if_pos c22]at H;have c22b0:decide ((ji20)< (x4_1.length:Int))=true:=decide_eq_true c22;clear c22;obtain⟨ji23,hji23⟩: ∃j_:Int,(mn (rd x4_1 (ji17)) (rd x4_1 (ji20)))=j_:=⟨_,rfl⟩;replace H:(if x6_2.length< 8796093022208 then(bibelotref07_Lines.l1 k2 l0 x4_1 (x6_2++ [(⟨ji23,mx (rd x4_1 (ji17)) (rd x4_1 (ji20))⟩:S57)]) (wrap64 (x7_2+1)))else(none))=some r:=by first|(rw[hji23]at H;exact H)|(simp only[hji23]at H ⊢;exact H)
       have hji23_:(if(rd x4_1 (ji20))< (rd x4_1 (ji17))then(rd x4_1 (ji20))else(rd x4_1 (ji17)))=ji23:=hji23;obtain⟨ji24,hji24⟩: ∃j_:Int,(mx (rd x4_1 (ji17)) (rd x4_1 (ji20)))=j_:=⟨_,rfl⟩;replace H:(if x6_2.length< 8796093022208 then(bibelotref07_Lines.l1 k2 l0 x4_1 (x6_2++ [(⟨ji23,ji24⟩:S57)]) (wrap64 (x7_2+1)))else(none))=some r:=by first|(rw[hji24]at H;exact H)|(simp only[hji24]at H ⊢;exact H)
       have hji24_:(if(rd x4_1 (ji17))< (rd x4_1 (ji20))then(rd x4_1 (ji20))else(rd x4_1 (ji17)))=ji24:=hji24;by_cases c25:x6_2.length< 8796093022208;rotate_left
       ·rw[if_neg c25]at H;exact absurd H tS
       rw[if_pos c25]at H;have LMc25:=Aside0.mk c25;clear c25;obtain⟨y149,hy149⟩: ∃y_:List (S57),y_=(x6_2++ [(⟨ji23,ji24⟩:S57)]):=⟨_,rfl⟩;replace H:(bibelotref07_Lines.l1 k2 l0 x4_1 y149 (wrap64 (x7_2+1)))=some r:=by first|(rw[hy149];with_reducible exact H)|(have H2_:=(Option.bind_some _ _).symm.trans H;rw[hy149];with_reducible exact H2_)|(have H2_:=(Option.bind_some _ _).symm.trans H;with_reducible exact H2_)|with_reducible exact H|(rw[hy149];exact H)|exact H
       have Ny149:=Aside0.mk hy149;clear hy149;have H':=Aside0.mk H;clear H;obtain⟨Ao26,co26,eo26⟩:=Kd.R_slice HO_4.out;subst eo26;have p147:0≤((ji17):Int):=of_decide_eq_true tA;have q147:(ji17)< (x4_1.length:Int):=of_decide_eq_true tA;obtain⟨ad147,e147,hx147_0⟩:=Kd.at_int (Kd.R_reads' HO_4.out).2.2 (ji17) p147 q147;cases e147;replace p147:=eq_true p147;replace q147:=eq_true q147;have p148:0≤((ji20):Int):=of_decide_eq_true tA;have q148:(ji20)< (x4_1.length:Int):=of_decide_eq_true tA;obtain⟨ad148,e148,hx148_0⟩:=Kd.at_int (Kd.R_reads' HO_4.out).2.2 (ji20) p148 q148;obtain rfl:ad147=ad148:=(by injection e148);replace p148:=eq_true p148;replace q148:=eq_true q148
       go_wp2_with (first|((with_reducible refine gate_builtin (b:= .append) (xs:= #[.tmp 45, .tmp 53]) rfl ?_);at_builtin;refine Kd.R_append k57 (w0:=w) w.heap.size rfl (.tmp 45) (.tmp 53) 68 57 (.agg #[(.int .i64 0),(.int .i64 0)]) 16 rfl Try.underlying68 info57 rfl tD tO u6 x6_2 (⟨ji23,ji24⟩:S57) [.int .i64 ji23, .int .i64 ji24] (fun _=>True) (fun _=>False) rfl rfl ?aP (fun _ hk=>hk.elim) ?aF ?aO ?aB ?aS ?aL ?_;(case aP=>exact k57_mkM _ _ _ (⟨ji23,ji24⟩:S57));(case aB=>exact(tB HB.out));(case aF=>exact(fun _ _=>trivial));(case aO=>exact(tR HO_6.out));(case aS=>exact(below_size (tB HB.out)));(case aL=>have:=LMc25.out;omega);intro v150 w27 ho hb hg hat;rw[←Ny149.out]at ho;have n0_:=Aside0.mk (Kd.R_over' (tR HO_4.out) (Kd.R_typed (tR HO_6.out)) tD hg);have n1_:=Aside0.mk (hb);have n2_:=Aside0.mk (ho);clear HO_4;clear HB;clear HO_6;have HO_4:=n0_;have HB:=n1_;have HO151:=n2_;clear n0_ n1_ n2_;clear ho hb hg hat))
       repeat(go_quiet (fail);try go_wp2_with (first|((with_reducible refine gate_builtin (b:= .append) (xs:= #[.tmp 45, .tmp 53]) rfl ?_);at_builtin;refine Kd.R_append k57 (w0:=w) w.heap.size rfl (.tmp 45) (.tmp 53) 68 57 (.agg #[(.int .i64 0),(.int .i64 0)]) 16 rfl Try.underlying68 info57 rfl tD tO u6 x6_2 (⟨ji23,ji24⟩:S57) [.int .i64 ji23, .int .i64 ji24] (fun _=>True) (fun _=>False) rfl rfl ?aP (fun _ hk=>hk.elim) ?aF ?aO ?aB ?aS ?aL ?_;(case aP=>exact k57_mkM _ _ _ (⟨ji23,ji24⟩:S57));(case aB=>exact(tB HB.out));(case aF=>exact(fun _ _=>trivial));(case aO=>exact(tR HO_6.out));(case aS=>exact(below_size (tB HB.out)));(case aL=>have:=LMc25.out;omega);intro v150 w27 ho hb hg hat;rw[←Ny149.out]at ho;have n0_:=Aside0.mk (Kd.R_over' (tR HO_4.out) (Kd.R_typed (tR HO_6.out)) tD hg);have n1_:=Aside0.mk (hb);have n2_:=Aside0.mk (ho);clear HO_4;clear HB;clear HO_6;have HO_4:=n0_;have HB:=n1_;have HO151:=n2_;clear n0_ n1_ n2_;clear ho hb hg hat)))
       go_roundg k2
       case measure=>have:=HK1.out;have:=HK2.out;omega
       case rel=>exact⟨(y149),(wrap64 (x7_2+1)),tF,H',⟨by have:=HK1.out;have:=HK2.out;omega⟩,⟨by(with_reducible repeat(first|apply Kd.R_alloc|apply Kd.R_drewN|apply Kd.R_drew));exact HO_4.out⟩,⟨by(with_reducible repeat(first|apply Kd.R_alloc|apply Kd.R_drewN|apply Kd.R_drew));exact HO151.out⟩,⟨by repeat(first|(with_reducible first|exact HB.out|apply below_alloc|apply pw_below_drewN|apply below_drew1)|exact HB.out)⟩⟩
      ·rw[if_neg c16]at H;have c16b0:decide (x7_2≤(l0.length:Int))=false:=decide_eq_false c16;clear c16;obtain rfl:=Option.some.inj H;go_wp2
       repeat(go_quiet (fail);try go_wp2)
       go_ret;exact⟨_,by first|rfl|(simp[errW_none,errW_some]<;>rfl)|(simp[*,errW_none,errW_some]<;>rfl),by(with_reducible repeat(first|apply Kd.R_alloc|apply Kd.R_drewN|apply Kd.R_drew));exact HO_6.out,by repeat(first|(with_reducible first|exact HB.out|apply below_alloc|apply pw_below_drewN|apply below_drew1)|exact HB.out)⟩
end Go.Proofs.Ytepjhdblmghckaa.Q
namespace Go.Proofs.Ytepjhdblmghckaa.G
end Go.Proofs.Ytepjhdblmghckaa.G
namespace Go.Proofs.Ytepjhdblmghckaa.Q
open Go.Proofs.Ytepjhdblmghckaa.G
open Go.RowKit Go.Proofs.YtepjhdblmghckaaW.PrintWords Go.Proofs.YtepjhdblmghckaaW.PrintLast Go.Proofs.YtepjhdblmghckaaW.PrintMore
attribute [local go_sem] max2_int min2_int max_two min_two max_three min_three max_four min_four
def bibelotref07_joined.l0:Nat→List Int→Int→Int→List Int→Int→Option (List Int)
 |0,_,_,_,_,_=>none
 |k+1,x0,x7,x8,x9,x10=>if x10< (x0.length:Int)then(if 0≤x10 then(if(rd x0 x10)=x8 then(if x9.length< 17592186044416 then(bibelotref07_joined.l0 k x0 x7 x8 (x9++ [x7]) (wrap64 (x10+1)))else(none))else(if x9.length< 17592186044416 then(bibelotref07_joined.l0 k x0 x7 x8 (x9++ [rd x0 x10]) (wrap64 (x10+1)))else(none)))else(none))else(some x9)
def bibelotref07_joined.f (k:Nat) (l0:List Int) (a1:Int) (a2:Int):Option (List Int):=if 0≤a1 then(if a1< (l0.length:Int)then(if 0≤a2 then(if a2< (l0.length:Int)then(bibelotref07_joined.l0 k l0 (rd l0 a1) (rd l0 a2) ([]:List Int) 0)else(none))else(none))else(none))else(none)
set_option maxHeartbeats 8000000 in
set_option maxRecDepth 100000 in
theorem bibelotref07_joined.calls (k:Nat) (A0:Option Addr) (c0:Nat) (l0:List Int) (a1:Int) (a2:Int) (r:List Int) (w:World) (hr0:Kd.C (Kd.int .i64) w A0 l0.length l0) (hc0:l0.length≤c0) (h:bibelotref07_joined.f k l0 a1 a2=some r):
  Calls Try.prog 66 #[.slice A0 l0.length c0, .int .i64 a1, .int .i64 a2] w fun e w'=> ∃v0_:Value,e= .returned (v0_)∧Kd.R (Kd.int .i64) 3 w' w.heap.size (fun _=>True) v0_ r∧Below w.heap.size w w':=by
 have HR0:=Aside0.mk hr0;have HC0:=Aside0.mk hc0;clear hr0 hc0;have HB:=Aside0.mk (Below.refl w.heap.size w);have H:(if 0≤a1 then(if a1< (l0.length:Int)then(if 0≤a2 then(if a2< (l0.length:Int)then(bibelotref07_joined.l0 k l0 (rd l0 a1) (rd l0 a2) ([]:List Int) 0)else(none))else(none))else(none))else(none))=some r:=h;clear h;by_cases c4:0≤a1;rotate_left
 ·rw[if_neg c4]at H;exact absurd H tS
 rw[if_pos c4]at H;have c4b0:decide (0≤a1)=true:=decide_eq_true c4;clear c4;by_cases c5:a1< (l0.length:Int);rotate_left
 ·rw[if_neg c5]at H;exact absurd H tS
 rw[if_pos c5]at H;have c5b0:decide (a1< (l0.length:Int))=true:=decide_eq_true c5;clear c5;by_cases c6:0≤a2;rotate_left
 ·rw[if_neg c6]at H;exact absurd H tS
 rw[if_pos c6]at H;have c6b0:decide (0≤a2)=true:=decide_eq_true c6;clear c6;by_cases c7:a2< (l0.length:Int);rotate_left
 ·rw[if_neg c7]at H;exact absurd H tS
 rw[if_pos c7]at H;have c7b0:decide (a2< (l0.length:Int))=true:=decide_eq_true c7;clear c7;have H':=Aside0.mk H;clear H;have p122:0≤(a1:Int):=of_decide_eq_true tA;have q122:a1< (l0.length:Int):=of_decide_eq_true tA;obtain⟨ad122,e122,hx122_0⟩:=Kd.at_int HR0.out a1 p122 q122;cases e122;replace p122:=eq_true p122;replace q122:=eq_true q122;have p123:0≤(a2:Int):=of_decide_eq_true tA;have q123:a2< (l0.length:Int):=of_decide_eq_true tA;obtain⟨ad123,e123,hx123_0⟩:=Kd.at_int HR0.out a2 p123 q123;obtain rfl:ad122=ad123:=(by injection e123);replace p123:=eq_true p123;replace q123:=eq_true q123
 go_enter Try.func66,Try.ntmps66
 go_wp2
 repeat(go_quiet (fail);try go_wp2)
 go_loopg [9,10] k (fun kq v9 v10 w'=> ∃(x9_1:List Int) (x10_1:Int),v10= .int .i64 x10_1∧Aside0 (bibelotref07_joined.l0 kq l0 (rd l0 a1) (rd l0 a2) x9_1 x10_1=some r)∧Aside0 (kq≤k)∧Aside0 (Kd.R (Kd.int .i64) 3 w' w.heap.size (fun _=>True) v9 x9_1)∧Aside0 (Below w.heap.size w w'))
 case atStart=>exact⟨(([]:List Int)),(0),tF,H',⟨Nat.le_refl _⟩,⟨by first|exact Kd.R_nil _ _ _ _ _|exact Kd.N_nil _ _ _ _ _|exact Kd.V_nil _ _ _ _ _|exact Kd.Q_nil _ _ _ _ _|exact Kd.S_nil _ _ _ _ _⟩,⟨by repeat(first|(with_reducible first|exact HB.out|apply below_alloc|apply pw_below_drewN|apply below_drew1)|exact HB.out)⟩⟩
 case round=>
  clear H';obtain⟨x9_1,x10_1,rfl,HA,HK1,HO_9,HB⟩:=hrel;cases gk with
  |zero=>exact absurd HA.out (by simp[bibelotref07_joined.l0])
  | succ k1=>
   have H:=HA.out;clear HA;simp only[bibelotref07_joined.l0]at H;by_cases c8:x10_1< (l0.length:Int)
   ·rw[if_pos c8]at H;have c8b0:decide (x10_1< (l0.length:Int))=true:=decide_eq_true c8;clear c8;by_cases c9:0≤x10_1;rotate_left
    ·rw[if_neg c9]at H;exact absurd H tS
    rw[if_pos c9]at H;have c9b0:decide (0≤x10_1)=true:=decide_eq_true c9;clear c9;by_cases c10:(rd l0 x10_1)=(rd l0 a2)
    ·rw[if_pos c10]at H;have c10b0:((rd l0 x10_1)==(rd l0 a2))=true:=beq_iff_eq.mpr c10;have c10b1:((rd l0 x10_1) !=(rd l0 a2))=false:=bne_eq_false_iff_eq.mpr c10;clear c10;by_cases c11:x9_1.length< 17592186044416;rotate_left
     ·rw[if_neg c11]at H;exact absurd H tS
     rw[if_pos c11]at H;have LMc11:=Aside0.mk c11;clear c11;obtain⟨y125,hy125⟩: ∃y_:List Int,y_=(x9_1++ [(rd l0 a1)]):=⟨_,rfl⟩;replace H:(bibelotref07_joined.l0 k1 l0 (rd l0 a1) (rd l0 a2) y125 (wrap64 (x10_1+1)))=some r:=by first|(rw[hy125];with_reducible exact H)|(have H2_:=(Option.bind_some _ _).symm.trans H;rw[hy125];with_reducible exact H2_)|(have H2_:=(Option.bind_some _ _).symm.trans H;with_reducible exact H2_)|with_reducible exact H|(rw[hy125];exact H)|exact H
     have Ny125:=Aside0.mk hy125;clear hy125;have H':=Aside0.mk H;clear H;have p124:0≤(x10_1:Int):=of_decide_eq_true tA;have q124:x10_1< (l0.length:Int):=of_decide_eq_true tA;obtain⟨ad124,e124,hx124_0⟩:=Kd.at_int HR0.out x10_1 p124 q124;obtain rfl:ad122=ad124:=(by injection e124);replace hx124_0:=(HB.out.cell (World.block_lt_of_cell? w _ hx124_0)).trans hx124_0;replace p124:=eq_true p124;replace q124:=eq_true q124
     go_wp2_with (first|((with_reducible refine gate_builtin (b:= .append) (xs:= #[.tmp 31, .tmp 33]) rfl ?_);at_builtin;refine Kd.R_append (Kd.int .i64) (w0:=w) w.heap.size rfl (.tmp 31) (.tmp 33) 22 3 (.int .i64 0) 8 rfl Try.underlying22 info3 rfl tD tO u9 x9_1 (rd l0 a1) [.int .i64 (rd l0 a1)] (fun _=>True) (fun _=>False) rfl rfl ?aP (fun _ hk=>hk.elim) ?aF ?aO ?aB ?aS ?aL ?_;(case aP=>exact rfl);(case aB=>exact(tB HB.out));(case aF=>exact(fun _ _=>trivial));(case aO=>exact(tR HO_9.out));(case aS=>exact(below_size (tB HB.out)));(case aL=>have:=LMc11.out;omega);intro v126 w12 ho hb hg hat;rw[←Ny125.out]at ho;have n0_:=Aside0.mk (hb);have n1_:=Aside0.mk (ho);clear HB;clear HO_9;have HB:=n0_;have HO127:=n1_;clear n0_ n1_;clear ho hb hg hat))
     go_roundg k1
     case measure=>have:=HK1.out;omega
     case rel=>exact⟨(y125),(wrap64 (x10_1+1)),tF,H',⟨by have:=HK1.out;omega⟩,⟨by(with_reducible repeat(first|apply Kd.R_alloc|apply Kd.R_drewN|apply Kd.R_drew));exact HO127.out⟩,⟨by repeat(first|(with_reducible first|exact HB.out|apply below_alloc|apply pw_below_drewN|apply below_drew1)|exact HB.out)⟩⟩
    ·rw[if_neg c10]at H;have c10b0:((rd l0 x10_1)==(rd l0 a2))=false:=beq_eq_false_iff_ne.mpr c10;have c10b1:((rd l0 x10_1) !=(rd l0 a2))=true:=bne_iff_ne.mpr c10;by_cases c13:x9_1.length< 17592186044416;rotate_left
     ·rw[if_neg c13]at H;exact absurd H tS
     rw[if_pos c13]at H;have LMc13:=Aside0.mk c13;clear c13;obtain⟨y129,hy129⟩: ∃y_:List Int,y_=(x9_1++ [rd l0 x10_1]):=⟨_,rfl⟩;replace H:(bibelotref07_joined.l0 k1 l0 (rd l0 a1) (rd l0 a2) y129 (wrap64 (x10_1+1)))=some r:=by first|(rw[hy129];with_reducible exact H)|(have H2_:=(Option.bind_some _ _).symm.trans H;rw[hy129];with_reducible exact H2_)|(have H2_:=(Option.bind_some _ _).symm.trans H;with_reducible exact H2_)|with_reducible exact H|(rw[hy129];exact H)|exact H
     have Ny129:=Aside0.mk hy129;clear hy129;have H':=Aside0.mk H;clear H;have p124:0≤(x10_1:Int):=of_decide_eq_true tA;have q124:x10_1< (l0.length:Int):=of_decide_eq_true tA;obtain⟨ad124,e124,hx124_0⟩:=Kd.at_int HR0.out x10_1 p124 q124;obtain rfl:ad122=ad124:=(by injection e124);replace hx124_0:=(HB.out.cell (World.block_lt_of_cell? w _ hx124_0)).trans hx124_0;replace p124:=eq_true p124;replace q124:=eq_true q124;have p128:0≤(x10_1:Int):=of_decide_eq_true tA;have q128:x10_1< (l0.length:Int):=of_decide_eq_true tA;obtain⟨ad128,e128,hx128_0⟩:=Kd.at_int HR0.out x10_1 p128 q128;obtain rfl:ad122=ad128:=(by injection e128);replace hx128_0:=(HB.out.cell (World.block_lt_of_cell? w _ hx128_0)).trans hx128_0;replace p128:=eq_true p128;replace q128:=eq_true q128
     go_wp2_with (first|((with_reducible refine gate_builtin (b:= .append) (xs:= #[.tmp 35, .tmp 40]) rfl ?_);at_builtin;refine Kd.R_append (Kd.int .i64) (w0:=w) w.heap.size rfl (.tmp 35) (.tmp 40) 22 3 (.int .i64 0) 8 rfl Try.underlying22 info3 rfl tD tO u9 x9_1 (rd l0 x10_1) [.int .i64 (rd l0 x10_1)] (fun _=>True) (fun _=>False) rfl rfl ?aP (fun _ hk=>hk.elim) ?aF ?aO ?aB ?aS ?aL ?_;(case aP=>exact rfl);(case aB=>exact(tB HB.out));(case aF=>exact(fun _ _=>trivial));(case aO=>exact(tR HO_9.out));(case aS=>exact(below_size (tB HB.out)));(case aL=>have:=LMc13.out;omega);intro v130 w14 ho hb hg hat;rw[←Ny129.out]at ho;have n0_:=Aside0.mk (hb);have n1_:=Aside0.mk (ho);clear HB;clear HO_9;have HB:=n0_;have HO131:=n1_;clear n0_ n1_;clear ho hb hg hat))
     go_roundg k1
     case measure=>have:=HK1.out;omega
     case rel=>exact⟨(y129),(wrap64 (x10_1+1)),tF,H',⟨by have:=HK1.out;omega⟩,⟨by(with_reducible repeat(first|apply Kd.R_alloc|apply Kd.R_drewN|apply Kd.R_drew));exact HO131.out⟩,⟨by repeat(first|(with_reducible first|exact HB.out|apply below_alloc|apply pw_below_drewN|apply below_drew1)|exact HB.out)⟩⟩
   ·rw[if_neg c8]at H;have c8b0:decide (x10_1< (l0.length:Int))=false:=decide_eq_false c8;clear c8;obtain rfl:=Option.some.inj H;go_wp2
    repeat(go_quiet (fail);try go_wp2)
    go_ret;exact⟨_,by first|rfl|(simp[errW_none,errW_some]<;>rfl)|(simp[*,errW_none,errW_some]<;>rfl),by(with_reducible repeat(first|apply Kd.R_alloc|apply Kd.R_drewN|apply Kd.R_drew));exact HO_9.out,by repeat(first|(with_reducible first|exact HB.out|apply below_alloc|apply pw_below_drewN|apply below_drew1)|exact HB.out)⟩
end Go.Proofs.Ytepjhdblmghckaa.Q
namespace Go.Proofs.Ytepjhdblmghckaa.G
end Go.Proofs.Ytepjhdblmghckaa.G
namespace Go.Proofs.Ytepjhdblmghckaa.Q
open Go.Proofs.Ytepjhdblmghckaa.G
open Go.RowKit Go.Proofs.YtepjhdblmghckaaW.PrintWords Go.Proofs.YtepjhdblmghckaaW.PrintLast Go.Proofs.YtepjhdblmghckaaW.PrintMore
attribute [local go_sem] max2_int min2_int max_two min_two max_three min_three max_four min_four
mutual
def bibelotref07_round.l0:Nat→List Int→List Int→List Int→Int→Option (List Int)
 |0,_,_,_,_=>none
 |k+1,x0,x3,x4,x5=>if x5≤(x0.length:Int)then(if x4.length< 17592186044416 then(bibelotref07_round.l0 k x0 x3 (x4++ [x5]) (wrap64 (x5+1)))else(none))else(bibelotref07_round.l1 k x3 x4 0)
def bibelotref07_round.l1:Nat→List Int→List Int→Int→Option (List Int)
 |0,_,_,_=>none
 |k+1,x3,x4,x6=>if x6< (x3.length:Int)then(if 0≤x6 then(if 0≤(wrap64 (x6+1))then(if(wrap64 (x6+1))< (x3.length:Int)then((bibelotref07_joined.f k x4 (wrap64 (Int.tdiv (rd x3 x6) 2)) (wrap64 (Int.tdiv (rd x3 (wrap64 (x6+1))) 2))).bind fun t140=>(bibelotref07_round.l1 k x3 t140 (wrap64 (x6+2))))else(none))else(none))else(none))else(some x4)
end
def bibelotref07_round.f (k:Nat) (l0:List Int):Option (List Int):=(bibelotref07_Picture.f k l0).bind fun t132=>(bibelotref07_round.l0 k l0 t132 ([]:List Int) 0)
def bibelotref07_round.T10:Bool×List (List Nat×List Nat):=(true, [([], []),([], []),([], []),([1,2], [1,2]),([3], [3]),([4], [4]),([], []),([], []),([7], [7]),([6,8], [6,8]),([9], [9]),([10], [10]),([0,5,11], [0,5,11]),([12,12,0,1,2,3,4,5,6,7,8,9,10,11,12], [0,12])])
def bibelotref07_round.B10:List Nat:= [0,0,0,6,14,30,0,0,128,448,960,1984,4095,8191]
theorem bibelotref07_round.tab10:rtab .any (opsOf Try.f64 10)=bibelotref07_round.T10:=by kernel_rfl
theorem bibelotref07_round.bits10:waitsOk bibelotref07_round.T10.2 bibelotref07_round.B10=true:=by kernel_rfl
set_option maxHeartbeats 8000000 in
set_option maxRecDepth 100000 in
theorem bibelotref07_round.calls (k:Nat) (A0:Option Addr) (c0:Nat) (l0:List Int) (r:List Int) (w:World) (hr0:Kd.C (Kd.int .i64) w A0 l0.length l0) (hc0:l0.length≤c0) (h:bibelotref07_round.f k l0=some r):
  Calls Try.prog 64 #[.slice A0 l0.length c0] w fun e w'=> ∃v0_:Value,e= .returned (v0_)∧Kd.R (Kd.int .i64) 3 w' w.heap.size (fun _=>True) v0_ r∧Below w.heap.size w w':=by
 have HR0:=Aside0.mk hr0;have HC0:=Aside0.mk hc0;clear hr0 hc0;have HB:=Aside0.mk (Below.refl w.heap.size w);have H:((bibelotref07_Picture.f k l0).bind fun t132=>(bibelotref07_round.l0 k l0 t132 ([]:List Int) 0))=some r:=h;clear h;replace H:=Option.bind_eq_some_iff.mp H;obtain⟨t132,A20,H⟩:=H;replace H:(bibelotref07_round.l0 k l0 t132 ([]:List Int) 0)=some r:=H;have A2:=Aside0.mk A20;clear A20;have H':=Aside0.mk H;clear H
 go_enter Try.func64,Try.ntmps64
 go_wp2_with (first|((with_reducible refine gate_callee (f:=38) rfl ?_);refine goesL_ (some 8) rfl rfl Try.func38 tK rfl #[.slice A0 l0.length c0] rfl tM ?_;(with_reducible refine(bibelotref07_Picture.calls k _ _ l0 t132 _ ?side1 ?side2 A2.out).mono ?_);(case side1=>repeat(first|exact HR0.out|(with_reducible refine Kd.C_alloc ?_ _)|(with_reducible refine Kd.C_drewN ?_ _)|(with_reducible refine Kd.C_drew ?_)));(case side2=>exact HC0.out);rintro e w3 ⟨v133,rfl,ho0,hb⟩;refine⟨_,rfl,?_⟩;have n0_:=Aside0.mk (Kd.R_lower ho0 (below_size (tB HB.out)));have n1_:=Aside0.mk (below_step (tB HB.out) hb);clear HB;have HO134:=n0_;have HB:=n1_;clear n0_ n1_;(try clear hb);(try clear hb2);(try clear hk);(try clear hi);(try clear ho0)))
 go_loopg [4,5] k (fun kq v4 v5 w'=> ∃(x4_1:List Int) (x5_1:Int),v5= .int .i64 x5_1∧Aside0 (bibelotref07_round.l0 kq l0 t132 x4_1 x5_1=some r)∧Aside0 (kq≤k)∧Aside0 (Kd.R (Kd.int .i64) 3 w' w.heap.size (fun k_=>some k_≠(v4:Value).ownBlock) v133 t132)∧Aside0 (Kd.R (Kd.int .i64) 3 w' w.heap.size (fun k_=>some k_≠(v133:Value).ownBlock) v4 x4_1)∧Aside0 (Below w.heap.size w w'))
 case atStart=>exact⟨(([]:List Int)),(0),tF,H',⟨Nat.le_refl _⟩,⟨by(with_reducible repeat(first|apply Kd.R_alloc|apply Kd.R_drewN|apply Kd.R_drew));exact Kd.R_mono HO134.out (fun _ hk=>(by simp[Value.ownBlock]))⟩,⟨by first|exact Kd.R_nil _ _ _ _ _|exact Kd.N_nil _ _ _ _ _|exact Kd.V_nil _ _ _ _ _|exact Kd.Q_nil _ _ _ _ _|exact Kd.S_nil _ _ _ _ _⟩,⟨by repeat(first|(with_reducible first|exact HB.out|apply below_alloc|apply pw_below_drewN|apply below_drew1)|exact HB.out)⟩⟩
 case round=>
  clear H';obtain⟨x4_1,x5_1,rfl,HA,HK1,HO_3,HO_4,HB⟩:=hrel;cases gk with
  |zero=>exact absurd HA.out (by simp[bibelotref07_round.l0])
  | succ k1=>
   have H:=HA.out;clear HA;simp only[bibelotref07_round.l0]at H;by_cases c4:x5_1≤(l0.length:Int)
   ·rw[if_pos c4]at H;have c4b0:decide (x5_1≤(l0.length:Int))=true:=decide_eq_true c4;clear c4;by_cases c5:x4_1.length< 17592186044416;rotate_left
    ·rw[if_neg c5]at H;exact absurd H tS
    rw[if_pos c5]at H;have LMc5:=Aside0.mk c5;clear c5;obtain⟨y135,hy135⟩: ∃y_:List Int,y_=(x4_1++ [x5_1]):=⟨_,rfl⟩;replace H:(bibelotref07_round.l0 k1 l0 t132 y135 (wrap64 (x5_1+1)))=some r:=by first|(rw[hy135];with_reducible exact H)|(have H2_:=(Option.bind_some _ _).symm.trans H;rw[hy135];with_reducible exact H2_)|(have H2_:=(Option.bind_some _ _).symm.trans H;with_reducible exact H2_)|with_reducible exact H|(rw[hy135];exact H)|exact H
    have Ny135:=Aside0.mk hy135;clear hy135;have H':=Aside0.mk H;clear H
    go_wp2_with (first|((with_reducible refine gate_builtin (b:= .append) (xs:= #[.tmp 15, .tmp 17]) rfl ?_);at_builtin;refine Kd.R_append (Kd.int .i64) (w0:=w) w.heap.size rfl (.tmp 15) (.tmp 17) 22 3 (.int .i64 0) 8 rfl Try.underlying22 info3 rfl tD tO u4 x4_1 x5_1 [.int .i64 x5_1] (fun k_=>some k_≠(v133:Value).ownBlock) (fun _=>False) rfl rfl ?aP (fun _ hk=>hk.elim) ?aF ?aO ?aB ?aS ?aL ?_;(case aP=>exact rfl);(case aB=>exact(tB HB.out));(case aF=>exact(fun k_ hk=>Kd.fresh' (Kd.R_lt (tR HO_3.out)) k_ hk));(case aO=>exact(tR HO_4.out));(case aS=>exact(below_size (tB HB.out)));(case aL=>have:=LMc5.out;omega);intro v136 w6 ho hb hg hat;rw[←Ny135.out]at ho;have n0_:=Aside0.mk (Kd.R_after (ok:=(fun _=>True)) (by(with_reducible repeat(first|apply Kd.R_alloc|apply Kd.R_drewN|apply Kd.R_drew));exact Kd.R_mono HO_3.out (fun _ hk=>⟨trivial,hk⟩)) hg hat);have n1_:=Aside0.mk (hb);have n2_:=Aside0.mk (ho);clear HO_3;clear HB;clear HO_4;have HO_3:=n0_;have HB:=n1_;have HO137:=n2_;clear n0_ n1_ n2_;clear ho hb hg hat))
    go_roundg k1
    case measure=>have:=HK1.out;omega
    case rel=>exact⟨(y135),(wrap64 (x5_1+1)),tF,H',⟨by have:=HK1.out;omega⟩,⟨by(with_reducible repeat(first|apply Kd.R_alloc|apply Kd.R_drewN|apply Kd.R_drew));exact Kd.R_mono HO_3.out (fun _ hk=>hk.2)⟩,⟨by(with_reducible repeat(first|apply Kd.R_alloc|apply Kd.R_drewN|apply Kd.R_drew));exact HO137.out⟩,⟨by repeat(first|(with_reducible first|exact HB.out|apply below_alloc|apply pw_below_drewN|apply below_drew1)|exact HB.out)⟩⟩
   ·rw[if_neg c4]at H;have c4b0:decide (x5_1≤(l0.length:Int))=false:=decide_eq_false c4;clear c4;have H':=Aside0.mk H;clear H;go_wp2
    go_loopg [4,6] k1 (fun kq v4 v6 w'=> ∃(x4_2:List Int) (x6_2:Int),v6= .int .i64 x6_2∧Aside0 (bibelotref07_round.l1 kq t132 x4_2 x6_2=some r)∧Aside0 (kq≤k1)∧Aside0 (Kd.R (Kd.int .i64) 3 w' w.heap.size (fun k_=>some k_≠(v4:Value).ownBlock) v133 t132)∧Aside0 (Kd.R (Kd.int .i64) 3 w' w.heap.size (fun k_=>some k_≠(v133:Value).ownBlock) v4 x4_2)∧Aside0 (Below w.heap.size w w'))
    case atStart=>exact⟨(x4_1),(0),tF,H',⟨Nat.le_refl _⟩,⟨by(with_reducible repeat(first|apply Kd.R_alloc|apply Kd.R_drewN|apply Kd.R_drew));exact HO_3.out⟩,⟨by(with_reducible repeat(first|apply Kd.R_alloc|apply Kd.R_drewN|apply Kd.R_drew));exact HO_4.out⟩,⟨by repeat(first|(with_reducible first|exact HB.out|apply below_alloc|apply pw_below_drewN|apply below_drew1)|exact HB.out)⟩⟩
    case round=>
     clear H';obtain⟨x4_2,x6_2,rfl,HA,HK2,HO_3,HO_4,HB⟩:=hrel;cases gk with
     |zero=>exact absurd HA.out (by simp[bibelotref07_round.l1])
     | succ k2=>
      have H:=HA.out;clear HA;simp only[bibelotref07_round.l1]at H;by_cases c7:x6_2< (t132.length:Int)
      ·rw[if_pos c7]at H;have c7b0:decide (x6_2< (t132.length:Int))=true:=decide_eq_true c7;clear c7;by_cases c8:0≤x6_2;rotate_left
       ·rw[if_neg c8]at H;exact absurd H tS
       rw[if_pos c8]at H;have c8b0:decide (0≤x6_2)=true:=decide_eq_true c8;clear c8;obtain⟨ji9,hji9⟩: ∃j_:Int,(wrap64 (x6_2+1))=j_:=⟨_,rfl⟩;replace H:(if 0≤(ji9)then(if(ji9)< (t132.length:Int)then((bibelotref07_joined.f k2 x4_2 (wrap64 (Int.tdiv (rd t132 x6_2) 2)) (wrap64 (Int.tdiv (rd t132 (ji9)) 2))).bind fun t140=>(bibelotref07_round.l1 k2 t132 t140 (wrap64 (x6_2+2))))else(none))else(none))=some r:=by first|(rw[hji9]at H;exact H)|(simp only[hji9]at H ⊢;exact H)
       have hji9w:(IntKind.i64.wrap (x6_2+1))=ji9:=(i64_w _).trans hji9;by_cases c10:0≤(ji9);rotate_left
       ·rw[if_neg c10]at H;exact absurd H tS
       rw[if_pos c10]at H;have c10b0:decide (0≤(ji9))=true:=decide_eq_true c10;clear c10;by_cases c11:(ji9)< (t132.length:Int);rotate_left
       ·rw[if_neg c11]at H;exact absurd H tS
       rw[if_pos c11]at H;have c11b0:decide ((ji9)< (t132.length:Int))=true:=decide_eq_true c11;clear c11;replace H:=Option.bind_eq_some_iff.mp H;obtain⟨t140,A120,H⟩:=H;replace H:(bibelotref07_round.l1 k2 t132 t140 (wrap64 (x6_2+2)))=some r:=H;have A12:=Aside0.mk A120;clear A120;have H':=Aside0.mk H;clear H;obtain⟨Ao13,co13,eo13⟩:=Kd.R_slice HO_3.out;subst eo13;(try go_wp2);have n0_:=Aside0.mk (Kd.R_drew HO_3.out);have n1_:=Aside0.mk (Kd.R_drew HO_4.out);have n2_:=Aside0.mk (below_drew1 HB.out);clear HO_3;clear HO_4;clear HB;have HO_3:=n0_;have HO_4:=n1_;have HB:=n2_;clear n0_ n1_ n2_;have p138:0≤(x6_2:Int):=of_decide_eq_true tA;have q138:x6_2< (t132.length:Int):=of_decide_eq_true tA;obtain⟨ad138,e138,hx138_0⟩:=Kd.at_int (Kd.R_reads' HO_3.out).2.2 x6_2 p138 q138;cases e138;replace p138:=eq_true p138;replace q138:=eq_true q138;have p139:0≤((ji9):Int):=of_decide_eq_true tA;have q139:(ji9)< (t132.length:Int):=of_decide_eq_true tA;obtain⟨ad139,e139,hx139_0⟩:=Kd.at_int (Kd.R_reads' HO_3.out).2.2 (ji9) p139 q139;obtain rfl:ad138=ad139:=(by injection e139);replace p139:=eq_true p139;replace q139:=eq_true q139;obtain⟨Ao15,co15,eo15⟩:=Kd.R_slice HO_4.out
       (first|subst eo15|(injection eo15 with f1_ f2_ f3_;have f4_:=f1_.symm;have f5_:=f3_.symm;clear f1_ f2_ f3_;subst f4_;subst f5_))
       refine start_ (n:=14) (S:=fun w'=>w'.cell? (ad138.add (x6_2).toNat)=some (.int .i64 (rd t132 x6_2))∧w'.cell? (ad138.add ((ji9)).toNat)=some (.int .i64 (rd t132 (ji9)))) (ds:= []) #[false,false,false,false,false,false,false,false,false,false,false,false,false,false] tK rfl rfl ⟨hx138_0,hx139_0⟩ (fun hHeld=>?_);refine with_tabW bibelotref07_round.tab10 bibelotref07_round.bits10 (fun HT_ HW_=>?_);generalize wr.drew=w14 at HO_3 HO_4 HB hx138_0 hx139_0 hHeld ⊢;refine puG 0 (some 25) HT_.out ?_;refine puG 1 (some 26) HT_.out ?_;refine puG 2 (some 27) HT_.out ?_;refine puG 3 (some 28) HT_.out ?_;refine puG 6 (some 31) HT_.out ?_;refine puG 7 (some 32) HT_.out ?_;refine puG 8 (some 33) HT_.out ?_;refine puG 9 (some 34) HT_.out ?_;refine take_ (i:=4) (N:=some 29) (v:=?_) (a':=?_) #[true,true,true,true,true,false,true,true,true,true,false,false,false,false] rfl rfl (take_ofW HT_.out HW_.out tK) (fun _ _ _ h=>h) (Or.inl ⟨by rfl,?_⟩) hHeld ?_ ?_;rotate_left
       ·rintro w' ⟨s0,s1⟩;go_simp;with_reducible rfl
       rotate_left
       ·simp only[Act.put,List.setIfInBounds_toArray,List.set_cons_zero,List.set_cons_succ,i64_w,i32_w];rfl
       refine puG 5 (some 30) HT_.out ?_;refine take_ (i:=10) (N:=some 35) (v:=?_) (a':=?_) #[true,true,true,true,true,true,true,true,true,true,true,false,false,false] rfl rfl (take_ofW HT_.out HW_.out tK) (fun _ _ _ h=>h) (Or.inl ⟨by rfl,?_⟩) hHeld ?_ ?_;rotate_left
       ·rintro w' ⟨s0,s1⟩;go_simp;with_reducible rfl
       rotate_left
       ·simp only[Act.put,List.setIfInBounds_toArray,List.set_cons_zero,List.set_cons_succ,i64_w,i32_w];rfl
       refine puG 11 (some 36) HT_.out ?_;refine one_ (i:=12) (N:=some 37) #[true,true,true,true,true,true,true,true,true,true,true,true,true,false] rfl rfl (one_of HT_.out tK) tD (fun K hK=>?_);refine goes_ Try.func66 tK rfl #[.slice Ao15 x4_2.length co15, .int .i64 (wrap64 (Int.tdiv (rd t132 x6_2) 2)), .int .i64 (wrap64 (Int.tdiv (rd t132 (ji9)) 2))] (by rfl) rfl rfl (by(try simp only[List.map_toArray,List.map_cons,List.map_nil]);first|done|(simp only[hji9];rfl)|rfl|(simp only[List.length_drop,List.length_take];rfl)) ?_;with_reducible refine(bibelotref07_joined.calls k2 _ _ x4_2 (wrap64 (Int.tdiv (rd t132 x6_2) 2)) (wrap64 (Int.tdiv (rd t132 (ji9)) 2)) t140 _ ?side1 ?side2 A12.out).mono ?_
       (case side1=>repeat(first|exact(Kd.R_reads' HO_4.out).2.2|(with_reducible refine Kd.C_alloc ?_ _)|(with_reducible refine Kd.C_drewN ?_ _)|(with_reducible refine Kd.C_drew ?_)))
       (case side2=>exact(Kd.R_reads' HO_4.out).2.1)
       rintro e w16 ⟨v141,rfl,ho0,hb⟩;have HS0_:=(hb.cell (World.block_lt_of_cell? _ _ (hHeld.1))).trans (hHeld.1);have HS1_:=(hb.cell (World.block_lt_of_cell? _ _ (hHeld.2))).trans (hHeld.2);refine⟨_,rfl,?_⟩;have n0_:=Aside0.mk (Kd.R_elder' (tR HO_3.out) (Kd.R_base ho0) hb);have n1_:=Aside0.mk (Kd.R_elder' (tR HO_4.out) (Kd.R_base ho0) hb);have n2_:=Aside0.mk (Kd.R_lower (Kd.R_new' (Kd.R_new' ho0 (Kd.R_lt (tR HO_3.out))) (Kd.R_lt (tR HO_4.out))) (below_size (tB HB.out)));have n3_:=Aside0.mk (below_step (tB HB.out) hb);clear HO_3;clear HO_4;clear HB;have HO_3:=n0_;have HO_4:=n1_;have HO142:=n2_;have HB:=n3_;clear n0_ n1_ n2_ n3_
       (try clear hb)
       (try clear hb2)
       (try clear hk)
       (try clear hi)
       (try clear ho0)
       refine hK.out _ _ ⟨HS0_,HS1_⟩ (fun hHeld=>?_);clear hK K;refine norm_ (a':=?_) ?_ ?_;rotate_left
       ·show Act.put _ (some 37) _=_;simp only[Act.put,List.setIfInBounds_toArray,List.set_cons_zero,List.set_cons_succ,i64_w,i32_w];rfl
       refine puG 13 (some 4) HT_.out ?_;refine done_ (done_of HT_.out tK) ?_;try go_wp2
       go_roundg k2
       case measure=>have:=HK1.out;have:=HK2.out;omega
       case rel=>exact⟨(t140),(wrap64 (x6_2+2)),tF,H',⟨by have:=HK1.out;have:=HK2.out;omega⟩,⟨by(with_reducible repeat(first|apply Kd.R_alloc|apply Kd.R_drewN|apply Kd.R_drew));exact Kd.R_mono HO_3.out (fun _ hk=>hk.2)⟩,⟨by(with_reducible repeat(first|apply Kd.R_alloc|apply Kd.R_drewN|apply Kd.R_drew));exact Kd.R_mono HO142.out (fun _ hk=>hk.1.2)⟩,⟨by repeat(first|(with_reducible first|exact HB.out|apply below_alloc|apply pw_below_drewN|apply below_drew1)|exact HB.out)⟩⟩
      ·rw[if_neg c7]at H;have c7b0:decide (x6_2< (t132.length:Int))=false:=decide_eq_false c7;clear c7;obtain rfl:=Option.some.inj H;obtain⟨Ao17,co17,eo17⟩:=Kd.R_slice HO_3.out;subst eo17;go_wp2;go_ret;exact⟨_,by first|rfl|(simp[errW_none,errW_some]<;>rfl)|(simp[*,errW_none,errW_some]<;>rfl),by(with_reducible repeat(first|apply Kd.R_alloc|apply Kd.R_drewN|apply Kd.R_drew));exact Kd.R_mono HO_4.out (fun _ hk=>trivial),by repeat(first|(with_reducible first|exact HB.out|apply below_alloc|apply pw_below_drewN|apply below_drew1)|exact HB.out)⟩
end Go.Proofs.Ytepjhdblmghckaa.Q
namespace Go.Proofs.Ytepjhdblmghckaa.G
end Go.Proofs.Ytepjhdblmghckaa.G
namespace Go.Proofs.Ytepjhdblmghckaa.Q
open Go.Proofs.Ytepjhdblmghckaa.G
open Go.RowKit Go.Proofs.YtepjhdblmghckaaW.PrintWords Go.Proofs.YtepjhdblmghckaaW.PrintLast Go.Proofs.YtepjhdblmghckaaW.PrintMore
attribute [local go_sem] max2_int min2_int max_two min_two max_three min_three max_four min_four
def bibelotref07_within.f (a0_0:Int) (a0_1:Int) (a1:Int):Option (Bool):=if a0_0< a1 then(some (decide (a1< a0_1)))else(some false)
set_option maxHeartbeats 8000000 in
set_option maxRecDepth 100000 in
theorem bibelotref07_within.calls (a0_0:Int) (a0_1:Int) (a1:Int) (r:Bool) (w:World) (h:bibelotref07_within.f a0_0 a0_1 a1=some r):
  Calls Try.prog 82 #[.agg #[.int .i64 a0_0, .int .i64 a0_1], .int .i64 a1] w fun e w'=>e= .returned (.bool r)∧Below w.heap.size w w':=by
 have hu57:=Try.underlying57;have HB:=Aside0.mk (Below.refl w.heap.size w);have H:(if a0_0< a1 then(some (decide (a1< a0_1)))else(some false))=some r:=h;clear h;by_cases c3:a0_0< a1
 ·rw[if_pos c3]at H;have c3b0:decide (a0_0< a1)=true:=decide_eq_true c3;clear c3;obtain rfl:=Option.some.inj H
  go_enter Try.func82,Try.ntmps82
  go_wp2_with (first|((with_reducible refine gate_dst (N:=2) rfl ?_);refine box_event ?hg (N:=2) ?hd (cs:= #[.int .i64 a0_0, .int .i64 a0_1]) (t:=57) ?hr ?_;(case hd=>rfl);(case hg=>rfl);(case hr=>first|(go_simp;done)|(go_simp;rfl));intro gb173 hg w4 hbox hb;have n0_:=Aside0.mk (below_step (tB HB.out) hb);have n1_:=Aside0.mk (hbox);have n2_:=Aside0.mk ((by rw[hg];exact(below_size (tB HB.out)):w.heap.size≤gb173));have n3_:=Aside0.mk ((by rw[hg];exact(below_size (tB HB.out)):w.heap.size≤gb173));clear HB;have HB:=n0_;have BK173:=n1_;have GW173:=n2_;have GE173:=n3_;clear n0_ n1_ n2_ n3_;clear hb hbox hg;have hcz5_0:w4.cell? ⟨gb173,0,none⟩=some (.int .i64 a0_0):=(blk_cell BK173.out 0).trans rfl;have hcz5_1:w4.cell? ⟨gb173,1,none⟩=some (.int .i64 a0_1):=(blk_cell BK173.out 1).trans rfl;have hfz5_0:=blk_frozen BK173.out 0;have hfz5_1:=blk_frozen BK173.out 1))
  go_ret;exact⟨by first|rfl|(simp[errW_none,errW_some]<;>rfl)|(simp[*,errW_none,errW_some]<;>rfl),by repeat(first|(with_reducible first|exact HB.out|apply below_alloc|apply pw_below_drewN|apply below_drew1|refine below_set ?_ GE173.out)|exact HB.out)⟩
 ·rw[if_neg c3]at H;have c3b0:decide (a0_0< a1)=false:=decide_eq_false c3;clear c3;obtain rfl:=Option.some.inj H
  go_enter Try.func82,Try.ntmps82
  go_wp2_with (first|((with_reducible refine gate_dst (N:=2) rfl ?_);refine box_event ?hg (N:=2) ?hd (cs:= #[.int .i64 a0_0, .int .i64 a0_1]) (t:=57) ?hr ?_;(case hd=>rfl);(case hg=>rfl);(case hr=>first|(go_simp;done)|(go_simp;rfl));intro gb173 hg w6 hbox hb;have n0_:=Aside0.mk (below_step (tB HB.out) hb);have n1_:=Aside0.mk (hbox);have n2_:=Aside0.mk ((by rw[hg];exact(below_size (tB HB.out)):w.heap.size≤gb173));have n3_:=Aside0.mk ((by rw[hg];exact(below_size (tB HB.out)):w.heap.size≤gb173));clear HB;have HB:=n0_;have BK173:=n1_;have GW173:=n2_;have GE173:=n3_;clear n0_ n1_ n2_ n3_;clear hb hbox hg;have hcz7_0:w6.cell? ⟨gb173,0,none⟩=some (.int .i64 a0_0):=(blk_cell BK173.out 0).trans rfl;have hcz7_1:w6.cell? ⟨gb173,1,none⟩=some (.int .i64 a0_1):=(blk_cell BK173.out 1).trans rfl;have hfz7_0:=blk_frozen BK173.out 0;have hfz7_1:=blk_frozen BK173.out 1))
  go_ret;exact⟨by first|rfl|(simp[errW_none,errW_some]<;>rfl)|(simp[*,errW_none,errW_some]<;>rfl),by repeat(first|(with_reducible first|exact HB.out|apply below_alloc|apply pw_below_drewN|apply below_drew1|refine below_set ?_ GE173.out)|exact HB.out)⟩
end Go.Proofs.Ytepjhdblmghckaa.Q
namespace Go.Proofs.Ytepjhdblmghckaa.G
end Go.Proofs.Ytepjhdblmghckaa.G
namespace Go.Proofs.Ytepjhdblmghckaa.Q
open Go.Proofs.Ytepjhdblmghckaa.G
open Go.RowKit Go.Proofs.YtepjhdblmghckaaW.PrintWords Go.Proofs.YtepjhdblmghckaaW.PrintLast Go.Proofs.YtepjhdblmghckaaW.PrintMore
attribute [local go_sem] max2_int min2_int max_two min_two max_three min_three max_four min_four
def bibelotref07_Cross.f (a0_0:Int) (a0_1:Int) (a1_0:Int) (a1_1:Int):Option (Bool):=(bibelotref07_within.f a1_0 a1_1 a0_0).bind fun t176=>((bibelotref07_within.f a1_0 a1_1 a0_1).bind fun t177=>(some (t176 !=t177)))
def bibelotref07_Cross.T1:Bool×List (List Nat×List Nat):=(true, [([], []),([], []),([1], [1]),([0,2], [0,2]),([], []),([], []),([5], [5]),([4,6,3], [4,6]),([3,7], [3,7]),([8,7,0,1,2,3,4,5,6,7,8], [8])])
def bibelotref07_Cross.B1:List Nat:= [0,0,2,7,0,0,32,127,255,511]
theorem bibelotref07_Cross.tab1:rtab .any (opsOf Try.f65 1)=bibelotref07_Cross.T1:=by kernel_rfl
theorem bibelotref07_Cross.bits1:waitsOk bibelotref07_Cross.T1.2 bibelotref07_Cross.B1=true:=by kernel_rfl
set_option maxHeartbeats 8000000 in
set_option maxRecDepth 100000 in
theorem bibelotref07_Cross.calls (a0_0:Int) (a0_1:Int) (a1_0:Int) (a1_1:Int) (r:Bool) (w:World) (h:bibelotref07_Cross.f a0_0 a0_1 a1_0 a1_1=some r):
  Calls Try.prog 65 #[.agg #[.int .i64 a0_0, .int .i64 a0_1], .agg #[.int .i64 a1_0, .int .i64 a1_1]] w fun e w'=>e= .returned (.bool r)∧Below w.heap.size w w':=by
 have hu57:=Try.underlying57;have HB:=Aside0.mk (Below.refl w.heap.size w);have H:((bibelotref07_within.f a1_0 a1_1 a0_0).bind fun t176=>((bibelotref07_within.f a1_0 a1_1 a0_1).bind fun t177=>(some (t176 !=t177))))=some r:=h;clear h;replace H:=Option.bind_eq_some_iff.mp H;obtain⟨t176,A30,H⟩:=H;replace H:((bibelotref07_within.f a1_0 a1_1 a0_1).bind fun t177=>(some (t176 !=t177)))=some r:=H;have A3:=Aside0.mk A30;clear A30;replace H:=Option.bind_eq_some_iff.mp H;obtain⟨t177,A40,H⟩:=H;replace H:(some (t176 !=t177))=some r:=H;have A4:=Aside0.mk A40;clear A40;obtain rfl:=Option.some.inj H
 go_enter Try.func65,Try.ntmps65
 try go_wp2_with (first|((with_reducible refine gate_dst (N:=2) rfl ?_);refine box_event ?hg (N:=2) ?hd (cs:= #[.int .i64 a0_0, .int .i64 a0_1]) (t:=57) ?hr ?_;(case hd=>rfl);(case hg=>rfl);(case hr=>first|(go_simp;done)|(go_simp;rfl));intro gb174 hg w5 hbox hb;have n0_:=Aside0.mk (below_step (tB HB.out) hb);have n1_:=Aside0.mk (hbox);have n2_:=Aside0.mk ((by rw[hg];exact(below_size (tB HB.out)):w.heap.size≤gb174));have n3_:=Aside0.mk ((by rw[hg];exact(below_size (tB HB.out)):w.heap.size≤gb174));clear HB;have HB:=n0_;have BK174:=n1_;have GW174:=n2_;have GE174:=n3_;clear n0_ n1_ n2_ n3_;clear hb hbox hg)|((with_reducible refine gate_dst (N:=3) rfl ?_);refine box_event ?hg (N:=3) ?hd (cs:= #[.int .i64 a1_0, .int .i64 a1_1]) (t:=57) ?hr ?_;(case hd=>rfl);(case hg=>rfl);(case hr=>first|(go_simp;done)|(go_simp;rfl));intro gb175 hg w6 hbox hb;have n0_:=Aside0.mk (blk_below (g:=gb174) (o:= .cells #[.int .i64 a0_0, .int .i64 a0_1] 57 (0,0)) (tL BK174.out) hb);have n1_:=Aside0.mk (below_step (by repeat(first|(with_reducible first|exact HB.out|apply below_alloc|apply pw_below_drewN|apply below_drew1|refine below_set ?_ GE174.out)|exact HB.out)) hb);have n2_:=Aside0.mk (hbox);have n3_:=Aside0.mk ((by rw[hg];exact(below_size (by repeat(first|(with_reducible first|exact HB.out|apply below_alloc|apply pw_below_drewN|apply below_drew1|refine below_set ?_ GE174.out)|exact HB.out))):w.heap.size≤gb175));have n4_:=Aside0.mk ((by rw[hg];exact(below_size (by repeat(first|(with_reducible first|exact HB.out|apply below_alloc|apply pw_below_drewN|apply below_drew1|refine below_set ?_ GE174.out)|exact HB.out))):w.heap.size≤gb175));have n5_:=Aside0.mk ((by rw[hg];exact Nat.ne_of_lt (blk_lt (g:=gb174) (o:= .cells #[.int .i64 a0_0, .int .i64 a0_1] 57 (0,0)) (tL BK174.out)):gb174≠gb175));have n6_:=Aside0.mk ((by rw[hg];exact Nat.ne_of_gt (blk_lt (g:=gb174) (o:= .cells #[.int .i64 a0_0, .int .i64 a0_1] 57 (0,0)) (tL BK174.out)):gb175≠gb174));clear BK174;clear HB;have BK174:=n0_;have HB:=n1_;have BK175:=n2_;have GW175:=n3_;have GE175:=n4_;have NB174_175:=n5_;have NB175_174:=n6_;clear n0_ n1_ n2_ n3_ n4_ n5_ n6_;clear hb hbox hg))
 have n0_:=Aside0.mk (blk_drew BK174.out);have n1_:=Aside0.mk (blk_drew BK175.out);have n2_:=Aside0.mk (below_drew1 HB.out);clear BK174;clear BK175;clear HB;have BK174:=n0_;have BK175:=n1_;have HB:=n2_;clear n0_ n1_ n2_;refine start_ (n:=10) (S:=fun w'=>w'.cell? ⟨gb175,0,none⟩=some (.int .i64 a1_0)∧w'.cell? ⟨gb175,1,none⟩=some (.int .i64 a1_1)∧w'.cell? ⟨gb174,0,none⟩=some (.int .i64 a0_0)∧w'.cell? ⟨gb174,1,none⟩=some (.int .i64 a0_1)) (ds:= []) #[false,false,false,false,false,false,false,false,false,false] tK rfl rfl ⟨(blk_cell BK175.out 0).trans rfl,(blk_cell BK175.out 1).trans rfl,(blk_cell BK174.out 0).trans rfl,(blk_cell BK174.out 1).trans rfl⟩ (fun hHeld=>?_);refine with_tabW bibelotref07_Cross.tab1 bibelotref07_Cross.bits1 (fun HT_ HW_=>?_);generalize w6.drew=w7 at BK174 BK175 HB hHeld ⊢;refine puG 1 (some 6) HT_.out ?_;refine puG 5 (some 10) HT_.out ?_;refine take_ (i:=0) (N:=some 5) (v:=?_) (a':=?_) #[true,true,false,false,false,true,false,false,false,false] rfl rfl (take_ofW HT_.out HW_.out tK) (fun _ _ _ h=>h) (Or.inl ⟨by rfl,?_⟩) hHeld ?_ ?_;rotate_left
 ·rintro w' ⟨s0,s1,s2,s3⟩;go_simp;with_reducible rfl
 rotate_left
 ·simp only[Act.put,List.setIfInBounds_toArray,List.set_cons_zero,List.set_cons_succ,i64_w,i32_w];rfl
 refine take_ (i:=2) (N:=some 7) (v:=?_) (a':=?_) #[true,true,true,false,false,true,false,false,false,false] rfl rfl (take_ofW HT_.out HW_.out tK) (fun _ _ _ h=>h) (Or.inl ⟨by rfl,?_⟩) hHeld ?_ ?_;rotate_left
 ·rintro w' ⟨s0,s1,s2,s3⟩;go_simp;with_reducible rfl
 rotate_left
 ·simp only[Act.put,List.setIfInBounds_toArray,List.set_cons_zero,List.set_cons_succ,i64_w,i32_w];rfl
 refine take_ (i:=4) (N:=some 9) (v:=?_) (a':=?_) #[true,true,true,false,true,true,false,false,false,false] rfl rfl (take_ofW HT_.out HW_.out tK) (fun _ _ _ h=>h) (Or.inl ⟨by rfl,?_⟩) hHeld ?_ ?_;rotate_left
 ·rintro w' ⟨s0,s1,s2,s3⟩;go_simp;with_reducible rfl
 rotate_left
 ·simp only[Act.put,List.setIfInBounds_toArray,List.set_cons_zero,List.set_cons_succ,i64_w,i32_w];rfl
 refine take_ (i:=6) (N:=some 11) (v:=?_) (a':=?_) #[true,true,true,false,true,true,true,false,false,false] rfl rfl (take_ofW HT_.out HW_.out tK) (fun _ _ _ h=>h) (Or.inl ⟨by rfl,?_⟩) hHeld ?_ ?_;rotate_left
 ·rintro w' ⟨s0,s1,s2,s3⟩;go_simp;with_reducible rfl
 rotate_left
 ·simp only[Act.put,List.setIfInBounds_toArray,List.set_cons_zero,List.set_cons_succ,i64_w,i32_w];rfl
 refine one_ (i:=3) (N:=some 8) #[true,true,true,true,true,true,true,false,false,false] rfl rfl (one_of HT_.out tK) tD (fun K hK=>?_);refine goes_ Try.func82 tK rfl #[.agg #[.int .i64 a1_0, .int .i64 a1_1], .int .i64 a0_0] (by rfl) rfl rfl tM ?_;(with_reducible refine(bibelotref07_within.calls a1_0 a1_1 a0_0 t176 _ A3.out).mono ?_);rintro e w8 ⟨rfl,hb⟩;refine⟨_,rfl,?_⟩;have n0_:=Aside0.mk (blk_below (g:=gb174) (o:= .cells #[.int .i64 a0_0, .int .i64 a0_1] 57 (0,0)) (tL BK174.out) hb);have n1_:=Aside0.mk (blk_below (g:=gb175) (o:= .cells #[.int .i64 a1_0, .int .i64 a1_1] 57 (0,0)) (tL BK175.out) hb);have n2_:=Aside0.mk (below_step (by repeat(first|(with_reducible first|exact HB.out|apply below_alloc|apply pw_below_drewN|apply below_drew1|refine below_set ?_ GE174.out|refine below_set ?_ GE175.out)|exact HB.out)) hb);clear BK174;clear BK175;clear HB;have BK174:=n0_;have BK175:=n1_;have HB:=n2_;clear n0_ n1_ n2_
 (try clear hb)
 (try clear hb2)
 (try clear hk)
 (try clear hi)
 refine hK.out _ _ ⟨(blk_cell BK175.out 0).trans rfl,(blk_cell BK175.out 1).trans rfl,(blk_cell BK174.out 0).trans rfl,(blk_cell BK174.out 1).trans rfl⟩ (fun hHeld=>?_);clear hK K;refine norm_ (a':=?_) ?_ ?_;rotate_left
 ·show Act.put _ (some 8) _=_;simp only[Act.put,List.setIfInBounds_toArray,List.set_cons_zero,List.set_cons_succ,i64_w,i32_w];rfl
 refine one_ (i:=7) (N:=some 12) #[true,true,true,true,true,true,true,true,false,false] rfl rfl (one_of HT_.out tK) tD (fun K hK=>?_);refine goes_ Try.func82 tK rfl #[.agg #[.int .i64 a1_0, .int .i64 a1_1], .int .i64 a0_1] (by rfl) rfl rfl tM ?_;(with_reducible refine(bibelotref07_within.calls a1_0 a1_1 a0_1 t177 _ A4.out).mono ?_);rintro e w9 ⟨rfl,hb⟩;refine⟨_,rfl,?_⟩;have n0_:=Aside0.mk (blk_below (g:=gb174) (o:= .cells #[.int .i64 a0_0, .int .i64 a0_1] 57 (0,0)) (tL BK174.out) hb);have n1_:=Aside0.mk (blk_below (g:=gb175) (o:= .cells #[.int .i64 a1_0, .int .i64 a1_1] 57 (0,0)) (tL BK175.out) hb);have n2_:=Aside0.mk (below_step (by repeat(first|(with_reducible first|exact HB.out|apply below_alloc|apply pw_below_drewN|apply below_drew1|refine below_set ?_ GE174.out|refine below_set ?_ GE175.out)|exact HB.out)) hb);clear BK174;clear BK175;clear HB;have BK174:=n0_;have BK175:=n1_;have HB:=n2_;clear n0_ n1_ n2_
 (try clear hb)
 (try clear hb2)
 (try clear hk)
 (try clear hi)
 refine hK.out _ _ ⟨(blk_cell BK175.out 0).trans rfl,(blk_cell BK175.out 1).trans rfl,(blk_cell BK174.out 0).trans rfl,(blk_cell BK174.out 1).trans rfl⟩ (fun hHeld=>?_);clear hK K;refine norm_ (a':=?_) ?_ ?_;rotate_left
 ·show Act.put _ (some 12) _=_;simp only[Act.put,List.setIfInBounds_toArray,List.set_cons_zero,List.set_cons_succ,i64_w,i32_w];rfl
 refine puG 8 (some 13) HT_.out ?_;refine puG 9 (some 4) HT_.out ?_;refine done_ (done_of HT_.out tK) ?_;(try go_wp2);go_ret;exact⟨by first|rfl|(simp[errW_none,errW_some]<;>rfl)|(simp[*,errW_none,errW_some]<;>rfl),by repeat(first|(with_reducible first|exact HB.out|apply below_alloc|apply pw_below_drewN|apply below_drew1|refine below_set ?_ GE174.out|refine below_set ?_ GE175.out)|exact HB.out)⟩
end Go.Proofs.Ytepjhdblmghckaa.Q
namespace Go.Proofs.Ytepjhdblmghckaa.G
end Go.Proofs.Ytepjhdblmghckaa.G
namespace Go.Proofs.Ytepjhdblmghckaa.Q
open Go.Proofs.Ytepjhdblmghckaa.G
open Go.RowKit Go.Proofs.YtepjhdblmghckaaW.PrintWords Go.Proofs.YtepjhdblmghckaaW.PrintLast Go.Proofs.YtepjhdblmghckaaW.PrintMore
attribute [local go_sem] max2_int min2_int max_two min_two max_three min_three max_four min_four
mutual
def bibelotref07_whole.l0:Nat→List Int→List Bool→Int→List Int→List Int→Int→Option (Bool)
 |0,_,_,_,_,_,_=>none
 |k+1,x1,x2,x3,x9,x10,x11=>if x11< (x9.length:Int)then(if 0≤x11 then(if 0≤(wrap64 (Int.tdiv (rd x9 x11) 2))then(if(wrap64 (Int.tdiv (rd x9 x11) 2))< (x1.length:Int)then(if 0≤(rd x1 (wrap64 (Int.tdiv (rd x9 x11) 2)))then(if(rd x1 (wrap64 (Int.tdiv (rd x9 x11) 2)))< (x2.length:Int)then(if rdOf false x2 (rd x1 (wrap64 (Int.tdiv (rd x9 x11) 2)))=true then(if x10.length< 17592186044416 then(bibelotref07_whole.l0 k x1 x2 x3 x9 (x10++ [rd x1 (wrap64 (Int.tdiv (rd x9 x11) 2))]) (wrap64 (x11+1)))else(none))else(bibelotref07_whole.l0 k x1 x2 x3 x9 x10 (wrap64 (x11+1))))else(none))else(none))else(none))else(none))else(none))else(bibelotref07_whole.l1 k x3 x10 0 0)
def bibelotref07_whole.l1:Nat→Int→List Int→Int→Int→Option (Bool)
 |0,_,_,_,_=>none
 |k+1,x3,x10,x13,x14=>if x14< (x10.length:Int)then(if 0≤x14 then(if(rd x10 x14)=x3 then(if(x10.length:Int)=0 then(none)else(if 0≤(Int.tmod (wrap64 ((wrap64 (x14+(x10.length:Int))) - 1)) (x10.length:Int))then(if(Int.tmod (wrap64 ((wrap64 (x14+(x10.length:Int))) - 1)) (x10.length:Int))< (x10.length:Int)then(if(rd x10 (Int.tmod (wrap64 ((wrap64 (x14+(x10.length:Int))) - 1)) (x10.length:Int)))=x3 then(bibelotref07_whole.l1 k x3 x10 x13 (wrap64 (x14+1)))else(bibelotref07_whole.l1 k x3 x10 (wrap64 (x13+1)) (wrap64 (x14+1))))else(none))else(none)))else(bibelotref07_whole.l1 k x3 x10 x13 (wrap64 (x14+1))))else(none))else(some (decide (x13≤1)))
end
def bibelotref07_whole.f (k:Nat) (l0:List Int) (l1:List Int) (l2:List Bool) (a3:Int):Option (Bool):=(bibelotref07_Picture.f k l0).bind fun t178=>(bibelotref07_whole.l0 k l1 l2 a3 t178 ([]:List Int) 0)
set_option maxHeartbeats 8000000 in
set_option maxRecDepth 100000 in
theorem bibelotref07_whole.calls (k:Nat) (A0:Option Addr) (c0:Nat) (l0:List Int) (A1:Option Addr) (c1:Nat) (l1:List Int) (A2:Option Addr) (c2:Nat) (l2:List Bool) (a3:Int) (r:Bool) (w:World) (hr0:Kd.C (Kd.int .i64) w A0 l0.length l0) (hc0:l0.length≤c0) (hr1:Kd.C (Kd.int .i64) w A1 l1.length l1) (hc1:l1.length≤c1) (hr2:Kd.C Kd.bool w A2 l2.length l2) (hc2:l2.length≤c2) (h:bibelotref07_whole.f k l0 l1 l2 a3=some r):
  Calls Try.prog 67 #[.slice A0 l0.length c0, .slice A1 l1.length c1, .slice A2 l2.length c2, .int .i64 a3] w fun e w'=>e= .returned (.bool r)∧Below w.heap.size w w':=by
 have HR0:=Aside0.mk hr0;have HC0:=Aside0.mk hc0;clear hr0 hc0;have HR1:=Aside0.mk hr1;have HC1:=Aside0.mk hc1;clear hr1 hc1;have HR2:=Aside0.mk hr2;have HC2:=Aside0.mk hc2;clear hr2 hc2;have HB:=Aside0.mk (Below.refl w.heap.size w);have H:((bibelotref07_Picture.f k l0).bind fun t178=>(bibelotref07_whole.l0 k l1 l2 a3 t178 ([]:List Int) 0))=some r:=h;clear h;replace H:=Option.bind_eq_some_iff.mp H;obtain⟨t178,A50,H⟩:=H;replace H:(bibelotref07_whole.l0 k l1 l2 a3 t178 ([]:List Int) 0)=some r:=H;have A5:=Aside0.mk A50;clear A50;have H':=Aside0.mk H;clear H
 go_enter Try.func67,Try.ntmps67
 go_wp2_with (first|((with_reducible refine gate_callee (f:=38) rfl ?_);refine goesL_ (some 16) rfl rfl Try.func38 tK rfl #[.slice A0 l0.length c0] rfl tM ?_;(with_reducible refine(bibelotref07_Picture.calls k _ _ l0 t178 _ ?side1 ?side2 A5.out).mono ?_);(case side1=>repeat(first|exact HR0.out|(with_reducible refine Kd.C_alloc ?_ _)|(with_reducible refine Kd.C_drewN ?_ _)|(with_reducible refine Kd.C_drew ?_)));(case side2=>exact HC0.out);rintro e w6 ⟨v179,rfl,ho0,hb⟩;refine⟨_,rfl,?_⟩;have n0_:=Aside0.mk (Kd.R_lower ho0 (below_size (tB HB.out)));have n1_:=Aside0.mk (below_step (tB HB.out) hb);clear HB;have HO180:=n0_;have HB:=n1_;clear n0_ n1_;(try clear hb);(try clear hb2);(try clear hk);(try clear hi);(try clear ho0)))
 go_loopg [10,11] k (fun kq v10 v11 w'=> ∃(x10_1:List Int) (x11_1:Int),v11= .int .i64 x11_1∧Aside0 (bibelotref07_whole.l0 kq l1 l2 a3 t178 x10_1 x11_1=some r)∧Aside0 (kq≤k)∧Aside0 (Kd.R (Kd.int .i64) 3 w' w.heap.size (fun k_=>some k_≠(v10:Value).ownBlock) v179 t178)∧Aside0 (Kd.R (Kd.int .i64) 3 w' w.heap.size (fun k_=>some k_≠(v179:Value).ownBlock) v10 x10_1)∧Aside0 (Below w.heap.size w w'))
 case atStart=>exact⟨(([]:List Int)),(0),tF,H',⟨Nat.le_refl _⟩,⟨by(with_reducible repeat(first|apply Kd.R_alloc|apply Kd.R_drewN|apply Kd.R_drew));exact Kd.R_mono HO180.out (fun _ hk=>(by simp[Value.ownBlock]))⟩,⟨by first|exact Kd.R_nil _ _ _ _ _|exact Kd.N_nil _ _ _ _ _|exact Kd.V_nil _ _ _ _ _|exact Kd.Q_nil _ _ _ _ _|exact Kd.S_nil _ _ _ _ _⟩,⟨by repeat(first|(with_reducible first|exact HB.out|apply below_alloc|apply pw_below_drewN|apply below_drew1)|exact HB.out)⟩⟩
 case round=>
  clear H';obtain⟨x10_1,x11_1,rfl,HA,HK1,HO_9,HO_10,HB⟩:=hrel;cases gk with
  |zero=>exact absurd HA.out (by simp[bibelotref07_whole.l0])
  | succ k1=>
   have H:=HA.out;clear HA;simp only[bibelotref07_whole.l0]at H;by_cases c7:x11_1< (t178.length:Int)
   ·rw[if_pos c7]at H;have c7b0:decide (x11_1< (t178.length:Int))=true:=decide_eq_true c7;clear c7;by_cases c8:0≤x11_1;rotate_left
    ·rw[if_neg c8]at H;exact absurd H tS
    rw[if_pos c8]at H;have c8b0:decide (0≤x11_1)=true:=decide_eq_true c8;clear c8;obtain⟨ji9,hji9⟩: ∃j_:Int,(wrap64 (Int.tdiv (rd t178 x11_1) 2))=j_:=⟨_,rfl⟩;replace H:(if 0≤(ji9)then(if(ji9)< (l1.length:Int)then(if 0≤(rd l1 (ji9))then(if(rd l1 (ji9))< (l2.length:Int)then(if rdOf false l2 (rd l1 (ji9))=true then(if x10_1.length< 17592186044416 then(bibelotref07_whole.l0 k1 l1 l2 a3 t178 (x10_1++ [rd l1 (ji9)]) (wrap64 (x11_1+1)))else(none))else(bibelotref07_whole.l0 k1 l1 l2 a3 t178 x10_1 (wrap64 (x11_1+1))))else(none))else(none))else(none))else(none))=some r:=by first|(rw[hji9]at H;exact H)|(simp only[hji9]at H ⊢;exact H)
    have hji9w:(IntKind.i64.wrap (Int.tdiv (rd t178 x11_1) 2))=ji9:=(i64_w _).trans hji9;by_cases c10:0≤(ji9);rotate_left
    ·rw[if_neg c10]at H;exact absurd H tS
    rw[if_pos c10]at H;have c10b0:decide (0≤(ji9))=true:=decide_eq_true c10;clear c10;by_cases c11:(ji9)< (l1.length:Int);rotate_left
    ·rw[if_neg c11]at H;exact absurd H tS
    rw[if_pos c11]at H;have c11b0:decide ((ji9)< (l1.length:Int))=true:=decide_eq_true c11;clear c11;by_cases c12:0≤(rd l1 (ji9));rotate_left
    ·rw[if_neg c12]at H;exact absurd H tS
    rw[if_pos c12]at H;have c12b0:decide (0≤(rd l1 (ji9)))=true:=decide_eq_true c12;clear c12;by_cases c13:(rd l1 (ji9))< (l2.length:Int);rotate_left
    ·rw[if_neg c13]at H;exact absurd H tS
    rw[if_pos c13]at H;have c13b0:decide ((rd l1 (ji9))< (l2.length:Int))=true:=decide_eq_true c13;clear c13;obtain⟨bq14,hbq14⟩: ∃b_:Bool,b_=(rdOf false l2 (rd l1 (ji9))):=⟨_,rfl⟩;replace H:(if bq14=true then(if x10_1.length< 17592186044416 then(bibelotref07_whole.l0 k1 l1 l2 a3 t178 (x10_1++ [rd l1 (ji9)]) (wrap64 (x11_1+1)))else(none))else(bibelotref07_whole.l0 k1 l1 l2 a3 t178 x10_1 (wrap64 (x11_1+1))))=some r:=by rw[←hbq14]at H;exact H
    have Nbq14:=Aside0.mk hbq14;clear hbq14;by_cases c15:bq14=true
    ·subst c15;have H1:(if x10_1.length< 17592186044416 then(bibelotref07_whole.l0 k1 l1 l2 a3 t178 (x10_1++ [rd l1 (ji9)]) (wrap64 (x11_1+1)))else(none))=some r:=by rw[if_pos rfl]at H;exact H
     clear H;have H:=H1;clear H1;by_cases c16:x10_1.length< 17592186044416;rotate_left
     ·rw[if_neg c16]at H;exact absurd H tS
     rw[if_pos c16]at H;have LMc16:=Aside0.mk c16;clear c16;obtain⟨y184,hy184⟩: ∃y_:List Int,y_=(x10_1++ [rd l1 (ji9)]):=⟨_,rfl⟩;replace H:(bibelotref07_whole.l0 k1 l1 l2 a3 t178 y184 (wrap64 (x11_1+1)))=some r:=by first|(rw[hy184];with_reducible exact H)|(have H2_:=(Option.bind_some _ _).symm.trans H;rw[hy184];with_reducible exact H2_)|(have H2_:=(Option.bind_some _ _).symm.trans H;with_reducible exact H2_)|with_reducible exact H|(rw[hy184];exact H)|exact H
     have Ny184:=Aside0.mk hy184;clear hy184;have H':=Aside0.mk H;clear H;obtain⟨Ao17,co17,eo17⟩:=Kd.R_slice HO_9.out;subst eo17;have p181:0≤(x11_1:Int):=of_decide_eq_true tA;have q181:x11_1< (t178.length:Int):=of_decide_eq_true tA;obtain⟨ad181,e181,hx181_0⟩:=Kd.at_int (Kd.R_reads' HO_9.out).2.2 x11_1 p181 q181;cases e181;replace p181:=eq_true p181;replace q181:=eq_true q181;have p182:0≤((ji9):Int):=of_decide_eq_true tA;have q182:(ji9)< (l1.length:Int):=of_decide_eq_true tA;obtain⟨ad182,e182,hx182_0⟩:=Kd.at_int HR1.out (ji9) p182 q182;cases e182;replace hx182_0:=(HB.out.cell (World.block_lt_of_cell? w _ hx182_0)).trans hx182_0;replace p182:=eq_true p182;replace q182:=eq_true q182;have p183:0≤((rd l1 (ji9)):Int):=of_decide_eq_true tA;have q183:(rd l1 (ji9))< (l2.length:Int):=of_decide_eq_true tA;obtain⟨ad183,e183,hx183_0⟩:=Kd.at_bool HR2.out (rd l1 (ji9)) p183 q183
     (try rw[←Nbq14.out]at hx183_0)
     cases e183;replace hx183_0:=(HB.out.cell (World.block_lt_of_cell? w _ hx183_0)).trans hx183_0;replace p183:=eq_true p183;replace q183:=eq_true q183
     go_wp2_with (first|((with_reducible refine gate_builtin (b:= .append) (xs:= #[.tmp 35, .tmp 37]) rfl ?_);(try(refine gate_guard (by rfl) ?_;dsimp only));at_builtin;refine Kd.R_append (Kd.int .i64) (w0:=w) w.heap.size rfl (.tmp 35) (.tmp 37) 22 3 (.int .i64 0) 8 rfl Try.underlying22 info3 rfl tD tO u10 x10_1 (rd l1 (ji9)) [.int .i64 (rd l1 (ji9))] (fun k_=>some k_≠(.slice (some ad181) t178.length co17:Value).ownBlock) (fun _=>False) rfl rfl ?aP (fun _ hk=>hk.elim) ?aF ?aO ?aB ?aS ?aL ?_;(case aP=>exact rfl);(case aB=>exact(tB HB.out));(case aF=>exact(fun k_ hk=>Kd.fresh' (Kd.R_lt (tR HO_9.out)) k_ hk));(case aO=>exact(tR HO_10.out));(case aS=>exact(below_size (tB HB.out)));(case aL=>have:=LMc16.out;omega);intro v185 w18 ho hb hg hat;rw[←Ny184.out]at ho;have n0_:=Aside0.mk (Kd.R_after (ok:=(fun _=>True)) (by(with_reducible repeat(first|apply Kd.R_alloc|apply Kd.R_drewN|apply Kd.R_drew));exact Kd.R_mono HO_9.out (fun _ hk=>⟨trivial,hk⟩)) hg hat);have n1_:=Aside0.mk (hb);have n2_:=Aside0.mk (ho);clear HO_9;clear HB;clear HO_10;have HO_9:=n0_;have HB:=n1_;have HO186:=n2_;clear n0_ n1_ n2_;clear ho hb hg hat))
     go_roundg k1
     case measure=>have:=HK1.out;omega
     case rel=>exact⟨(y184),(wrap64 (x11_1+1)),tF,H',⟨by have:=HK1.out;omega⟩,⟨by(with_reducible repeat(first|apply Kd.R_alloc|apply Kd.R_drewN|apply Kd.R_drew));exact Kd.R_mono HO_9.out (fun _ hk=>hk.2)⟩,⟨by(with_reducible repeat(first|apply Kd.R_alloc|apply Kd.R_drewN|apply Kd.R_drew));exact HO186.out⟩,⟨by repeat(first|(with_reducible first|exact HB.out|apply below_alloc|apply pw_below_drewN|apply below_drew1)|exact HB.out)⟩⟩
    ·replace c15:=Bool.eq_false_iff.mpr c15;subst c15;have H1:(bibelotref07_whole.l0 k1 l1 l2 a3 t178 x10_1 (wrap64 (x11_1+1)))=some r:=by rw[if_neg (show ¬(false=true)by decide)]at H;exact H
     clear H;have H:=H1;clear H1;have H':=Aside0.mk H;clear H;obtain⟨Ao19,co19,eo19⟩:=Kd.R_slice HO_9.out;subst eo19;have p181:0≤(x11_1:Int):=of_decide_eq_true tA;have q181:x11_1< (t178.length:Int):=of_decide_eq_true tA;obtain⟨ad181,e181,hx181_0⟩:=Kd.at_int (Kd.R_reads' HO_9.out).2.2 x11_1 p181 q181;cases e181;replace p181:=eq_true p181;replace q181:=eq_true q181;have p182:0≤((ji9):Int):=of_decide_eq_true tA;have q182:(ji9)< (l1.length:Int):=of_decide_eq_true tA;obtain⟨ad182,e182,hx182_0⟩:=Kd.at_int HR1.out (ji9) p182 q182;cases e182;replace hx182_0:=(HB.out.cell (World.block_lt_of_cell? w _ hx182_0)).trans hx182_0;replace p182:=eq_true p182;replace q182:=eq_true q182;have p183:0≤((rd l1 (ji9)):Int):=of_decide_eq_true tA;have q183:(rd l1 (ji9))< (l2.length:Int):=of_decide_eq_true tA;obtain⟨ad183,e183,hx183_0⟩:=Kd.at_bool HR2.out (rd l1 (ji9)) p183 q183
     (try rw[←Nbq14.out]at hx183_0)
     cases e183;replace hx183_0:=(HB.out.cell (World.block_lt_of_cell? w _ hx183_0)).trans hx183_0;replace p183:=eq_true p183;replace q183:=eq_true q183;go_wp2
     go_roundg k1
     case measure=>have:=HK1.out;omega
     case rel=>exact⟨(x10_1),(wrap64 (x11_1+1)),tF,H',⟨by have:=HK1.out;omega⟩,⟨by(with_reducible repeat(first|apply Kd.R_alloc|apply Kd.R_drewN|apply Kd.R_drew));exact HO_9.out⟩,⟨by(with_reducible repeat(first|apply Kd.R_alloc|apply Kd.R_drewN|apply Kd.R_drew));exact HO_10.out⟩,⟨by repeat(first|(with_reducible first|exact HB.out|apply below_alloc|apply pw_below_drewN|apply below_drew1)|exact HB.out)⟩⟩
   ·rw[if_neg c7]at H;have c7b0:decide (x11_1< (t178.length:Int))=false:=decide_eq_false c7;clear c7;have H':=Aside0.mk H;clear H;obtain⟨Ao20,co20,eo20⟩:=Kd.R_slice HO_9.out;subst eo20;go_wp2
    go_loopg [13,14] k1 (fun kq v13 v14 w'=> ∃(x13_2:Int) (x14_2:Int),v13= .int .i64 x13_2∧v14= .int .i64 x14_2∧Aside0 (bibelotref07_whole.l1 kq a3 x10_1 x13_2 x14_2=some r)∧Aside0 (kq≤k1)∧Aside0 (Kd.R (Kd.int .i64) 3 w' w.heap.size (fun _=>True) u10 x10_1)∧Aside0 (Below w.heap.size w w'))
    case atStart=>exact⟨(0),(0),tF,tF,H',⟨Nat.le_refl _⟩,⟨by(with_reducible repeat(first|apply Kd.R_alloc|apply Kd.R_drewN|apply Kd.R_drew));exact Kd.R_mono HO_10.out (fun _ hk=>trivial)⟩,⟨by repeat(first|(with_reducible first|exact HB.out|apply below_alloc|apply pw_below_drewN|apply below_drew1)|exact HB.out)⟩⟩
    case round=>
     clear H';obtain⟨x13_2,x14_2,rfl,rfl,HA,HK2,HO_10,HB⟩:=hrel;cases gk with
     |zero=>exact absurd HA.out (by simp[bibelotref07_whole.l1])
     | succ k2=>
      have H:=HA.out;clear HA;simp only[bibelotref07_whole.l1]at H;by_cases c21:x14_2< (x10_1.length:Int)
      ·rw[if_pos c21]at H;have c21b0:decide (x14_2< (x10_1.length:Int))=true:=decide_eq_true c21;clear c21;by_cases c22:0≤x14_2;rotate_left
       ·rw[if_neg c22]at H;exact absurd H tS
       rw[if_pos c22]at H;have c22b0:decide (0≤x14_2)=true:=decide_eq_true c22;clear c22;by_cases c23:(rd x10_1 x14_2)=a3
       ·rw[if_pos c23]at H;have c23b0:((rd x10_1 x14_2)==a3)=true:=beq_iff_eq.mpr c23;have c23b1:((rd x10_1 x14_2) !=a3)=false:=bne_eq_false_iff_eq.mpr c23;clear c23;by_cases c24:(x10_1.length:Int)=0
        ·rw[if_pos c24]at H;exact absurd H tS
        ·rw[if_neg c24]at H;have c24b0:((x10_1.length:Int)==0)=false:=beq_eq_false_iff_ne.mpr c24;have c24b1:((x10_1.length:Int) !=0)=true:=bne_iff_ne.mpr c24;have c24b2: ¬(x10_1= []):=fun h_=>c24 (by rw[h_];rfl);obtain⟨ji25,hji25⟩: ∃j_:Int,(Int.tmod (wrap64 ((wrap64 (x14_2+(x10_1.length:Int))) - 1)) (x10_1.length:Int))=j_:=⟨_,rfl⟩;replace H:(if 0≤(ji25)then(if(ji25)< (x10_1.length:Int)then(if(rd x10_1 (ji25))=a3 then(bibelotref07_whole.l1 k2 a3 x10_1 x13_2 (wrap64 (x14_2+1)))else(bibelotref07_whole.l1 k2 a3 x10_1 (wrap64 (x13_2+1)) (wrap64 (x14_2+1))))else(none))else(none))=some r:=by first|(rw[hji25]at H;exact H)|(simp only[hji25]at H ⊢;exact H)
         by_cases c26:0≤(ji25);rotate_left
         ·rw[if_neg c26]at H;exact absurd H tS
         rw[if_pos c26]at H;have c26b0:decide (0≤(ji25))=true:=decide_eq_true c26;clear c26;by_cases c27:(ji25)< (x10_1.length:Int);rotate_left
         ·rw[if_neg c27]at H;exact absurd H tS
         rw[if_pos c27]at H;have c27b0:decide ((ji25)< (x10_1.length:Int))=true:=decide_eq_true c27;clear c27;by_cases c28:(rd x10_1 (ji25))=a3
         ·rw[if_pos c28]at H;have c28b0:((rd x10_1 (ji25))==a3)=true:=beq_iff_eq.mpr c28;have c28b1:((rd x10_1 (ji25)) !=a3)=false:=bne_eq_false_iff_eq.mpr c28;clear c28;have H':=Aside0.mk H;clear H;obtain⟨Ao29,co29,eo29⟩:=Kd.R_slice HO_10.out;subst eo29;have p187:0≤(x14_2:Int):=of_decide_eq_true tA;have q187:x14_2< (x10_1.length:Int):=of_decide_eq_true tA;obtain⟨ad187,e187,hx187_0⟩:=Kd.at_int (Kd.R_reads' HO_10.out).2.2 x14_2 p187 q187;cases e187;replace p187:=eq_true p187;replace q187:=eq_true q187;have p188:0≤((ji25):Int):=of_decide_eq_true tA;have q188:(ji25)< (x10_1.length:Int):=of_decide_eq_true tA;obtain⟨ad188,e188,hx188_0⟩:=Kd.at_int (Kd.R_reads' HO_10.out).2.2 (ji25) p188 q188;obtain rfl:ad187=ad188:=(by injection e188);replace p188:=eq_true p188;replace q188:=eq_true q188;go_wp2
          go_roundg k2
          case measure=>have:=HK1.out;have:=HK2.out;omega
          case rel=>exact⟨(x13_2),(wrap64 (x14_2+1)),tF,tF,H',⟨by have:=HK1.out;have:=HK2.out;omega⟩,⟨by(with_reducible repeat(first|apply Kd.R_alloc|apply Kd.R_drewN|apply Kd.R_drew));exact HO_10.out⟩,⟨by repeat(first|(with_reducible first|exact HB.out|apply below_alloc|apply pw_below_drewN|apply below_drew1)|exact HB.out)⟩⟩
         ·rw[if_neg c28]at H;have c28b0:((rd x10_1 (ji25))==a3)=false:=beq_eq_false_iff_ne.mpr c28;have c28b1:((rd x10_1 (ji25)) !=a3)=true:=bne_iff_ne.mpr c28;have H':=Aside0.mk H;clear H;obtain⟨Ao30,co30,eo30⟩:=Kd.R_slice HO_10.out;subst eo30;have p187:0≤(x14_2:Int):=of_decide_eq_true tA;have q187:x14_2< (x10_1.length:Int):=of_decide_eq_true tA;obtain⟨ad187,e187,hx187_0⟩:=Kd.at_int (Kd.R_reads' HO_10.out).2.2 x14_2 p187 q187;cases e187;replace p187:=eq_true p187;replace q187:=eq_true q187;have p188:0≤((ji25):Int):=of_decide_eq_true tA;have q188:(ji25)< (x10_1.length:Int):=of_decide_eq_true tA;obtain⟨ad188,e188,hx188_0⟩:=Kd.at_int (Kd.R_reads' HO_10.out).2.2 (ji25) p188 q188;obtain rfl:ad187=ad188:=(by injection e188);replace p188:=eq_true p188;replace q188:=eq_true q188;go_wp2
          go_roundg k2
          case measure=>have:=HK1.out;have:=HK2.out;omega
          case rel=>exact⟨(wrap64 (x13_2+1)),(wrap64 (x14_2+1)),tF,tF,H',⟨by have:=HK1.out;have:=HK2.out;omega⟩,⟨by(with_reducible repeat(first|apply Kd.R_alloc|apply Kd.R_drewN|apply Kd.R_drew));exact HO_10.out⟩,⟨by repeat(first|(with_reducible first|exact HB.out|apply below_alloc|apply pw_below_drewN|apply below_drew1)|exact HB.out)⟩⟩
       ·rw[if_neg c23]at H;have c23b0:((rd x10_1 x14_2)==a3)=false:=beq_eq_false_iff_ne.mpr c23;have c23b1:((rd x10_1 x14_2) !=a3)=true:=bne_iff_ne.mpr c23;have H':=Aside0.mk H;clear H;obtain⟨Ao31,co31,eo31⟩:=Kd.R_slice HO_10.out;subst eo31;have p187:0≤(x14_2:Int):=of_decide_eq_true tA;have q187:x14_2< (x10_1.length:Int):=of_decide_eq_true tA;obtain⟨ad187,e187,hx187_0⟩:=Kd.at_int (Kd.R_reads' HO_10.out).2.2 x14_2 p187 q187;cases e187;replace p187:=eq_true p187;replace q187:=eq_true q187;go_wp2
        go_roundg k2
        case measure=>have:=HK1.out;have:=HK2.out;omega
        case rel=>exact⟨(x13_2),(wrap64 (x14_2+1)),tF,tF,H',⟨by have:=HK1.out;have:=HK2.out;omega⟩,⟨by(with_reducible repeat(first|apply Kd.R_alloc|apply Kd.R_drewN|apply Kd.R_drew));exact HO_10.out⟩,⟨by repeat(first|(with_reducible first|exact HB.out|apply below_alloc|apply pw_below_drewN|apply below_drew1)|exact HB.out)⟩⟩
      ·rw[if_neg c21]at H;have c21b0:decide (x14_2< (x10_1.length:Int))=false:=decide_eq_false c21;clear c21;obtain rfl:=Option.some.inj H;obtain⟨Ao32,co32,eo32⟩:=Kd.R_slice HO_10.out;subst eo32;go_wp2;go_ret;exact⟨by first|rfl|(simp[errW_none,errW_some]<;>rfl)|(simp[*,errW_none,errW_some]<;>rfl),by repeat(first|(with_reducible first|exact HB.out|apply below_alloc|apply pw_below_drewN|apply below_drew1)|exact HB.out)⟩
end Go.Proofs.Ytepjhdblmghckaa.Q
namespace Go.Proofs.Ytepjhdblmghckaa.G
end Go.Proofs.Ytepjhdblmghckaa.G
namespace Go.Proofs.Ytepjhdblmghckaa.Q
open Go.Proofs.Ytepjhdblmghckaa.G
open Go.RowKit Go.Proofs.YtepjhdblmghckaaW.PrintWords Go.Proofs.YtepjhdblmghckaaW.PrintLast Go.Proofs.YtepjhdblmghckaaW.PrintMore
attribute [local go_sem] max2_int min2_int max_two min_two max_three min_three max_four min_four
mutual
def bibelotref07_Components.l0:Nat→List Int→List (S57)→List Int→List Int→Int→Option (Int×Int×Int×Bool)
 |0,_,_,_,_,_=>none
 |k+1,x0,x3,x4,x5,x6=>if x6< (x3.length:Int)then(bibelotref07_Components.l1 k x0 x3 x4 x5 x6 0)else(if 0≤(x3.length:Int)then(if((x3.length:Int):Int).toNat≤281474976710656 then(bibelotref07_Components.l2 k x0 x3 x4 x5 (x3.length:Int) (List.replicate ((x3.length:Int):Int).toNat false) (List.replicate ((x3.length:Int):Int).toNat false) 0)else(none))else(none))
def bibelotref07_Components.l1:Nat→List Int→List (S57)→List Int→List Int→Int→Int→Option (Int×Int×Int×Bool)
 |0,_,_,_,_,_,_=>none
 |k+1,x0,x3,x4,x5,x6,x7=>if x7< x6 then(if 0≤x6 then(if x6< (x3.length:Int)then(if 0≤x7 then(if x7< (x3.length:Int)then((bibelotref07_Cross.f ((rd_T57 x3 x6).f0) ((rd_T57 x3 x6).f1) ((rd_T57 x3 x7).f0) ((rd_T57 x3 x7).f1)).bind fun t201=>(if t201=true then((bibelotref07_joined.f k x5 x6 x7).bind fun t202=>(bibelotref07_Components.l1 k x0 x3 x4 t202 x6 (wrap64 (x7+1))))else(bibelotref07_Components.l1 k x0 x3 x4 x5 x6 (wrap64 (x7+1)))))else(none))else(none))else(none))else(none))else(bibelotref07_Components.l0 k x0 x3 x4 x5 (wrap64 (x6+1)))
def bibelotref07_Components.l2:Nat→List Int→List (S57)→List Int→List Int→Int→List Bool→List Bool→Int→Option (Int×Int×Int×Bool)
 |0,_,_,_,_,_,_,_,_=>none
 |k+1,x0,x3,x4,x5,x8,x9,x10,x11=>if x11< x8 then(if 0≤x11 then(if x11< (x5.length:Int)then(if 0≤(rd x5 x11)then(if(rd x5 x11)< (x9.length:Int)then(bibelotref07_Components.l3 k x0 x3 x4 x5 x8 (x9.set ((rd x5 x11):Int).toNat true) x10 x11 0)else(none))else(none))else(none))else(none))else(bibelotref07_Components.l4 k x0 x3 x5 x8 x9 x10 0)
def bibelotref07_Components.l3:Nat→List Int→List (S57)→List Int→List Int→Int→List Bool→List Bool→Int→Int→Option (Int×Int×Int×Bool)
 |0,_,_,_,_,_,_,_,_,_=>none
 |k+1,x0,x3,x4,x5,x8,x9,x10,x11,x12=>if x12< x11 then(if 0≤x11 then(if x11< (x4.length:Int)then(if 0≤x12 then(if x12< (x4.length:Int)then(if(rd x4 x11)=(rd x4 x12)then(if x11< (x5.length:Int)then(if 0≤(rd x5 x11)then(if(rd x5 x11)< (x10.length:Int)then(bibelotref07_Components.l3 k x0 x3 x4 x5 x8 x9 (x10.set ((rd x5 x11):Int).toNat true) x11 (wrap64 (x12+1)))else(none))else(none))else(none))else(bibelotref07_Components.l3 k x0 x3 x4 x5 x8 x9 x10 x11 (wrap64 (x12+1))))else(none))else(none))else(none))else(none))else(bibelotref07_Components.l2 k x0 x3 x4 x5 x8 x9 x10 (wrap64 (x11+1)))
def bibelotref07_Components.l4:Nat→List Int→List (S57)→List Int→Int→List Bool→List Bool→Int→Option (Int×Int×Int×Bool)
 |0,_,_,_,_,_,_,_=>none
 |k+1,x0,x3,x5,x8,x9,x10,x13=>if x13< x8 then(if 0≤x13 then(if x13< (x3.length:Int)then(if(Int.tmod (wrap64 (((rd_T57 x3 x13).f0)+((rd_T57 x3 x13).f1))) 2)=0 then(if x13< (x5.length:Int)then(if 0≤(rd x5 x13)then(if(rd x5 x13)< (x10.length:Int)then(bibelotref07_Components.l4 k x0 x3 x5 x8 x9 (x10.set ((rd x5 x13):Int).toNat false) (wrap64 (x13+1)))else(none))else(none))else(none))else(bibelotref07_Components.l4 k x0 x3 x5 x8 x9 x10 (wrap64 (x13+1))))else(none))else(none))else(if 0≤x8 then(if(x8:Int).toNat≤281474976710656 then(bibelotref07_Components.l5 k x0 x5 x8 x9 x10 (List.replicate (x8:Int).toNat false) 0 0 0 0 false)else(none))else(none))
def bibelotref07_Components.l5:Nat→List Int→List Int→Int→List Bool→List Bool→List Bool→Int→Int→Int→Int→Bool→Option (Int×Int×Int×Bool)
 |0,_,_,_,_,_,_,_,_,_,_,_=>none
 |k+1,x0,x5,x8,x9,x10,x15,x16,x222000,x222001,x222002,x222003=>if x16< x8 then(if 0≤x16 then(if x16< (x9.length:Int)then(if rdOf false x9 x16=true then(bibelotref07_Components.j6 k x0 x5 x8 x9 x10 x15 x16 (wrap64 (x222000+1)) x222001 x222002 x222003)else(bibelotref07_Components.j6 k x0 x5 x8 x9 x10 x15 x16 x222000 x222001 x222002 x222003))else(none))else(none))else(bibelotref07_Components.l6 k x0 x5 x8 x10 x15 0 x222000 x222001 x222002 ((Int.tmod x222002 2)==1))
def bibelotref07_Components.j6:Nat→List Int→List Int→Int→List Bool→List Bool→List Bool→Int→Int→Int→Int→Bool→Option (Int×Int×Int×Bool)
 |0,_,_,_,_,_,_,_,_,_,_,_=>none
 |k+1,x0,x5,x8,x9,x10,x15,x16,x222000,x222001,x222002,x222003=>if 0≤x16 then(if x16< (x10.length:Int)then(if rdOf false x10 x16=true then((bibelotref07_whole.f k x0 x5 x10 x16).bind fun t228=>(if x16< (x15.length:Int)then((some (x15.set (x16:Int).toNat t228:List Bool)).bind fun y229=>(if rdOf false y229 x16=true then(bibelotref07_Components.l5 k x0 x5 x8 x9 x10 y229 (wrap64 (x16+1)) x222000 (wrap64 (x222001+1)) (wrap64 (x222002+1)) x222003)else(bibelotref07_Components.l5 k x0 x5 x8 x9 x10 y229 (wrap64 (x16+1)) x222000 (wrap64 (x222001+1)) x222002 x222003)))else(none)))else(if x16< (x15.length:Int)then((some (x15.set (x16:Int).toNat false:List Bool)).bind fun y232=>(if rdOf false y232 x16=true then(bibelotref07_Components.l5 k x0 x5 x8 x9 x10 y232 (wrap64 (x16+1)) x222000 x222001 (wrap64 (x222002+1)) x222003)else(bibelotref07_Components.l5 k x0 x5 x8 x9 x10 y232 (wrap64 (x16+1)) x222000 x222001 x222002 x222003)))else(none)))else(none))else(none)
def bibelotref07_Components.l6:Nat→List Int→List Int→Int→List Bool→List Bool→Int→Int→Int→Int→Bool→Option (Int×Int×Int×Bool)
 |0,_,_,_,_,_,_,_,_,_,_=>none
 |k+1,x0,x5,x8,x10,x15,x17,x222000,x222001,x222002,x222003=>if x17< x8 then(if 0≤x17 then(if x17< (x15.length:Int)then(if rdOf false x15 x17=true then(if([]:List Bool).length+x10.length< 140737488355328 then((some (([]:List Bool)++x10:List Bool)).bind fun y235=>(if x17< (y235.length:Int)then(bibelotref07_Components.l7 k x0 x5 x8 x10 x15 x17 (y235.set (x17:Int).toNat false) false 0 x222000 x222001 x222002 x222003)else(none)))else(none))else(bibelotref07_Components.l6 k x0 x5 x8 x10 x15 (wrap64 (x17+1)) x222000 x222001 x222002 x222003))else(none))else(none))else(some (x222000,x222001,x222002,x222003))
def bibelotref07_Components.l7:Nat→List Int→List Int→Int→List Bool→List Bool→Int→List Bool→Bool→Int→Int→Int→Int→Bool→Option (Int×Int×Int×Bool)
 |0,_,_,_,_,_,_,_,_,_,_,_,_,_=>none
 |k+1,x0,x5,x8,x10,x15,x17,x18,x19,x20,x222000,x222001,x222002,x222003=>if x20< x8 then(if x19=true then(bibelotref07_Components.l7 k x0 x5 x8 x10 x15 x17 x18 true (wrap64 (x20+1)) x222000 x222001 x222002 x222003)else(if 0≤x20 then(if x20< (x18.length:Int)then(if rdOf false x18 x20=true then(if x20< (x15.length:Int)then(if rdOf false x15 x20=true then(bibelotref07_Components.l7 k x0 x5 x8 x10 x15 x17 x18 false (wrap64 (x20+1)) x222000 x222001 x222002 x222003)else((bibelotref07_whole.f k x0 x5 x18 x20).bind fun t241=>(bibelotref07_Components.l7 k x0 x5 x8 x10 x15 x17 x18 t241 (wrap64 (x20+1)) x222000 x222001 x222002 x222003)))else(none))else(bibelotref07_Components.l7 k x0 x5 x8 x10 x15 x17 x18 false (wrap64 (x20+1)) x222000 x222001 x222002 x222003))else(none))else(none)))else(if x222003=true then(bibelotref07_Components.l6 k x0 x5 x8 x10 x15 (wrap64 (x17+1)) x222000 x222001 x222002 x19)else(bibelotref07_Components.l6 k x0 x5 x8 x10 x15 (wrap64 (x17+1)) x222000 x222001 x222002 false))
end
def bibelotref07_Components.f (k:Nat) (l0:List Int):Option (Int×Int×Int×Bool):=(bibelotref07_Lines.f k l0).bind fun t190=>((bibelotref07_round.f k l0).bind fun t193=>((bibelotref07_round.f k l0).bind fun t196=>(bibelotref07_Components.l0 k l0 t190 t193 t196 0)))
def bibelotref07_Components.T9:Bool×List (List Nat×List Nat):=(true, [([], []),([], []),([0,1], [0,1]),([2], [2]),([], []),([], []),([4,5], [4,5]),([6], [6]),([3,7], [3,7])])
def bibelotref07_Components.B9:List Nat:= [0,0,3,7,0,0,48,112,255]
theorem bibelotref07_Components.tab9:rtab .any (opsOf Try.f24 9)=bibelotref07_Components.T9:=by kernel_rfl
theorem bibelotref07_Components.bits9:waitsOk bibelotref07_Components.T9.2 bibelotref07_Components.B9=true:=by kernel_rfl
def bibelotref07_Components.T20:Bool×List (List Nat×List Nat):=(true, [([], []),([], []),([0,1], [0,1]),([2], [2]),([], []),([], []),([4,5], [4,5]),([6], [6]),([3,7], [3,7])])
def bibelotref07_Components.B20:List Nat:= [0,0,3,7,0,0,48,112,255]
theorem bibelotref07_Components.tab20:rtab .any (opsOf Try.f24 20)=bibelotref07_Components.T20:=by kernel_rfl
theorem bibelotref07_Components.bits20:waitsOk bibelotref07_Components.T20.2 bibelotref07_Components.B20=true:=by kernel_rfl
def bibelotref07_Components.T25:Bool×List (List Nat×List Nat):=(true, [([], []),([], []),([0,1], [0,1]),([2], [2]),([3], [3]),([], []),([], []),([5,6], [5,6]),([7], [7]),([8], [8]),([4,9], [4,9]),([10], [10]),([11], [11])])
def bibelotref07_Components.B25:List Nat:= [0,0,3,7,15,0,0,96,224,480,1023,2047,4095]
theorem bibelotref07_Components.tab25:rtab .any (opsOf Try.f24 25)=bibelotref07_Components.T25:=by kernel_rfl
theorem bibelotref07_Components.bits25:waitsOk bibelotref07_Components.T25.2 bibelotref07_Components.B25=true:=by kernel_rfl
end Go.Proofs.Ytepjhdblmghckaa.Q