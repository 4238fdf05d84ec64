/- PancakeOrderTurns: turns that order any short row, the smallest number of them, or ErrArg: a part of the proof (14 of 14): contracts of the functions, and plain lemmas. -/
import Derived.Test.YtepjhdblmghckaaUo
import Derived.Test.YtepjhdblmghckaaEo1
import Derived.Test.YtepjhdblmghckaaEo2
import Derived.Test.YtepjhdblmghckaaEo3
import Derived.Test.YtepjhdblmghckaaEo4
import Derived.Test.YtepjhdblmghckaaEo5
import Derived.Test.YtepjhdblmghckaaEo6
import Derived.Test.YtepjhdblmghckaaEo7
import Derived.Test.YtepjhdblmghckaaEo8
import Derived.Test.YtepjhdblmghckaaEo9
import Derived.Test.YtepjhdblmghckaaEo10
import Derived.Test.YtepjhdblmghckaaEo11
import Derived.Test.YtepjhdblmghckaaEo12
import Derived.Test.YtepjhdblmghckaaEo13
set_option linter.unusedVariables false
set_option linter.unusedSimpArgs false
namespace Go.Proofs.Ytepjhdblmghckaa.G
set_option maxRecDepth 100000
theorem pcst6:EachTo (fun i=>piece vt6 3 3 20 i (chkO 6 ft6 mt6)=true) 48:=⟨⟨⟨⟨⟨⟨⟨⟨⟨⟨⟨⟨⟨⟨⟨⟨⟨⟨⟨⟨⟨⟨⟨⟨⟨⟨⟨⟨⟨⟨⟨⟨⟨⟨⟨⟨⟨⟨⟨⟨⟨⟨⟨⟨⟨⟨⟨⟨trivial,chkt6_0⟩,chkt6_1⟩,chkt6_2⟩,chkt6_3⟩,chkt6_4⟩,chkt6_5⟩,chkt6_6⟩,chkt6_7⟩,chkt6_8⟩,chkt6_9⟩,chkt6_10⟩,chkt6_11⟩,chkt6_12⟩,chkt6_13⟩,chkt6_14⟩,chkt6_15⟩,chkt6_16⟩,chkt6_17⟩,chkt6_18⟩,chkt6_19⟩,chkt6_20⟩,chkt6_21⟩,chkt6_22⟩,chkt6_23⟩,chkt6_24⟩,chkt6_25⟩,chkt6_26⟩,chkt6_27⟩,chkt6_28⟩,chkt6_29⟩,chkt6_30⟩,chkt6_31⟩,chkt6_32⟩,chkt6_33⟩,chkt6_34⟩,chkt6_35⟩,chkt6_36⟩,chkt6_37⟩,chkt6_38⟩,chkt6_39⟩,chkt6_40⟩,chkt6_41⟩,chkt6_42⟩,chkt6_43⟩,chkt6_44⟩,chkt6_45⟩,chkt6_46⟩,chkt6_47⟩
theorem lent6:(gensV vt6 3).length=960:=by decide+kernel
theorem dis_tab6: ∀x,Stk true 6 x→disD x=(ft6 x:Int)∧gapT 6 (firstL 6) x=ft6 x:=
 tab_ok tO ft6 mt6 (by decide+kernel) vt6 (by decide+kernel) (by decide+kernel) (by decide+kernel) 3 3 20 rfl tO (fun i hi=>each_of 48 pcst6 i (by rw[lent6]at hi;omega))
end Go.Proofs.Ytepjhdblmghckaa.G
namespace Go.Proofs.Ytepjhdblmghckaa.Pure
open Go.Proofs.Ytepjhdblmghckaa.G Go.Proofs.Ytepjhdblmghckaa.K
open Go.RowKit Go.Proofs.Ytepjhdblmghckaa.Q Go.Proofs.YtepjhdblmghckaaW.PrintWords Go.Proofs.YtepjhdblmghckaaW.PrintLast
theorem dis_small {n:Nat} (h1:1≤n) (h:n≤6) {x:List Int} (hx:Stk true n x):disD x=((gapT n (firstL n) x:Nat):Int):=by
 match n,h1,h,hx with
 |1,_,_,hx=>have:=dis_tab1 x hx;rw[this.1,this.2]
 |2,_,_,hx=>have:=dis_tab2 x hx;rw[this.1,this.2]
 |3,_,_,hx=>have:=dis_tab3 x hx;rw[this.1,this.2]
 |4,_,_,hx=>have:=dis_tab4 x hx;rw[this.1,this.2]
 |5,_,_,hx=>have:=dis_tab5 x hx;rw[this.1,this.2]
 |6,_,_,hx=>have:=dis_tab6 x hx;rw[this.1,this.2]
theorem ord_l0 {n:Nat} (hn1:1≤n) (hn:n≤6) (L:List (Nat×Nat)) (hL: ∀m,m∈L→m∈mvL n true true) (hlen:L.length≤1000000) (x0:List Int) (hx0:Stk true n x0) (hend:L.foldl (fun t m=>flL true t m.1 m.2) x0=firstL n):
  ∀d i:Nat,i+d=L.length→Stk true n ((L.take i).foldl (fun t m=>flL true t m.1 m.2) x0)→Ev (fun k=>bibelotlaw07_PancakeOrderTurns.l0 k (n:Int) ((L.take i).foldl (fun t m=>flL true t m.1 m.2) x0) (L.map mk57) (i:Int)) true
 |0,i,h,hs=>by
  have e:i=L.length:=by omega
  subst e;rw[List.take_length,hend]at*;have e1:=rfirst_ev n tO;have e2:=ints_ev (firstL n) (firstL n) (by rw[firstL_len];omega);rw[decide_eq_true rfl]at e2;refine Ev.step (f:=fun k=>(bibelotref07_First.f k (n:Int)).bind fun t645=>((bibelotlaw07_ints.f k (firstL n) t645).bind fun t648=>(if t648=true then((bibelotlaw07_awake.f).bind fun t649=>(some t649))else(some false)))) (fun k=>?_) (Ev.bind e1 (Ev.bind e2 (Ev.congr (fun k=>?_) (Ev.bind awake_ev (Ev.now _)))))
  ·rw[bibelotlaw07_PancakeOrderTurns.l0,if_neg (by rw[List.length_map];omega)]
  ·rw[if_pos rfl]
 | d+1,i,h,hs=>by
  have hi:i< L.length:=by omega
  have hm:=hL _ (List.getElem_mem hi);have hmv:=mem_mv hm
  have et:(L.take (i+1)).foldl (fun t m=>flL true t m.1 m.2) x0=flL true ((L.take i).foldl (fun t m=>flL true t m.1 m.2) x0) (L[i]).1 (L[i]).2:=by
   rw[List.take_succ_eq_append_getElem hi,List.foldl_append];rfl
  have hs2:=stk_flL hs (fun h=>h) _ _ hmv.1 hmv.2.1;have ih:=ord_l0 hn1 hn L hL hlen x0 hx0 hend d (i+1) tO (by rw[et];exact hs2);rw[et]at ih;obtain⟨xi,hxi⟩: ∃xi,(L.take i).foldl (fun t m=>flL true t m.1 m.2) x0=xi:=⟨_,rfl⟩;rw[hxi]at hs ih ⊢;have ht:=rturn_ev (l:=xi) (by rw[hs.len];omega) (hs.small tO) (L[i]).1 (L[i]).2 hmv.1 (by rw[hs.len];exact hmv.2.1)
  have erd:rd_T57 (L.map mk57) (i:Int)=⟨((L[i]).1:Int),((L[i]).2:Int)⟩:=by
   unfold rd_T57;rw[Int.toNat_natCast,List.getD_eq_getElem?_getD,List.getElem?_map,List.getElem?_eq_getElem hi];rfl
  refine Ev.step (fun k=>?_) (Ev.bind (f:=fun k t=>bibelotlaw07_PancakeOrderTurns.l0 k (n:Int) t (L.map mk57) ((i+1:Nat):Int)) ht ih);have h2:=hmv.2.1;have h1:=hmv.1;rw[bibelotlaw07_PancakeOrderTurns.l0,if_pos (by rw[List.length_map];omega),if_pos tO,erd]
  dsimp only
  rw[if_neg tO,if_neg tO,if_neg tO,up1 i tO]
theorem PancakeOrderTurns:bibelotlaw07_PancakeOrderTurns.Pure:=fun a0 l1 _ _ _ _=>by
 obtain⟨n,hn1,hn,hne⟩:=many_f a0 8 tD tD;have h8:bibelotlaw07_many.f a0 8=some (n:Int):=hne;have hx:=rowOf_stk l1 true n;have hrow:=row_f l1 n true tO;obtain⟨x,hxe⟩: ∃x,rowOf l1 true n=x:=⟨_,rfl⟩;rw[hxe]at hx hrow;have hxl:=hx.len;have hs:=isSt_stk (most:=40) hx hn1 tO;by_cases h6:n≤6
 ·obtain⟨o1,o2,o3,o4⟩:=ordT_all tO hx
  have hO:pancake_OrderTurns.f x=some ((ordL n true true x).map mk57,0):=by
   unfold pancake_OrderTurns.f;rw[if_pos hs,hxl,if_neg tO,if_pos o1]
  have hd:=dis_small hn1 h6 hx
  have hdb:disD x≤1000:=by
   have:=dis_cost tO hx;have h1:=clsTo_le (rndL x) (n+1);have h2:=cntB_le (hurG (picL x) (grpL x) (x.length+1) (badD x)) (x.length+1);have e3:(comD x).2.2.1=((cntB (hurG (picL x) (grpL x) (x.length+1) (badD x)) (x.length+1):Nat):Int):=rfl;unfold disD;rw[e3,hxl]at*
   split<;>omega
  have hm: ∀v,v∈x→v≠0∧ -(x.length:Int)≤v∧v≤x.length:=fun v hv=>by rw[hxl];exact hx.rng v hv
  have e5:=rdistance_ev tO hm (hx.small tO);have e6:=ord_l0 hn1 h6 (ordL n true true x) o3 tO x hx o4 (ordL n true true x).length 0 tO hx
  have e7:Ev (fun k=>bibelotlaw07_PancakeOrderTurns.j0 k (n:Int) x ((ordL n true true x).map mk57) ((((ordL n true true x).map mk57).length:Int) !=disD x)) true:=by
   refine Ev.step (fun k=>?_) e6;rw[bibelotlaw07_PancakeOrderTurns.j0,if_neg (by rw[List.length_map,o2,hd];simp)];rfl
  refine Ev.rounds (Ev.congr (fun k=>?_) (Ev.bind (f:=fun k t=>bibelotlaw07_PancakeOrderTurns.j0 k (n:Int) x ((ordL n true true x).map mk57) ((((ordL n true true x).map mk57).length:Int) !=t)) e5 e7));unfold bibelotlaw07_PancakeOrderTurns.f;rw[h8,Option.bind_some,hrow,Option.bind_some,hO,Option.bind_some,if_neg tO,if_pos rfl]
 ·have hO:pancake_OrderTurns.f x=some ([],1):=by
   unfold pancake_OrderTurns.f;rw[if_pos hs,hxl,if_pos tO]
  refine Ev.rounds (Ev.congr (fun k=>?_) (Ev.bind (f:=fun _ t=>some t) awake_ev (Ev.now _)));unfold bibelotlaw07_PancakeOrderTurns.f;rw[h8,Option.bind_some,hrow,Option.bind_some,hO,Option.bind_some,if_pos tO,if_pos rfl];exact if_pos rfl
end Go.Proofs.Ytepjhdblmghckaa.Pure