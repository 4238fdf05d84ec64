/- PancakeOrderTurns: turns that order any short row, the smallest number of them, or ErrArg: a part of the proof (5 of 14): contracts of the functions, and plain lemmas. -/
import Derived.Test.YtepjhdblmghckaaUo
import Derived.Test.YtepjhdblmghckaaEo1
import Derived.Test.YtepjhdblmghckaaEo2
import Derived.Test.YtepjhdblmghckaaEo3
import Derived.Test.YtepjhdblmghckaaEo4
set_option linter.unusedVariables false
set_option linter.unusedSimpArgs false
namespace Go.Proofs.Ytepjhdblmghckaa.G
open Go.Proofs.Ytepjhdblmghckaa.Q Go.Proofs.Ytepjhdblmghckaa.K Go.Proofs.Ytepjhdblmghckaa.Bf
open Go.RowKit Go.Shelf Go.Proofs.YtepjhdblmghckaaW.PrintWords Go.Proofs.YtepjhdblmghckaaW.PrintLast Go.Proofs.YtepjhdblmghckaaW.PrintMore
abbrev Im:=Int→Option Int
def Im.put (M:Im) (x v:Int):Im:=fun y=>if y=x then some v else M y
theorem law3:Go.Maps.Keyed Try.prog 3:=Go.Maps.int_keyed Try.underlying3
theorem u129:Try.prog.underlying 129=some (.map 3 3):=by kernel_rfl
def Sm (x:Int):Prop:= -1000000000≤x∧x≤1000000000
theorem Sm.wf {x:Int} (h:Sm x):(Lit.int .i64 x).wf=true:=by
 have e1:IntKind.i64.min= -9223372036854775808:=by decide
 have e2:IntKind.i64.max=9223372036854775807:=by decide
 obtain⟨h1,h2⟩:=h;simp only[Lit.wf,e1,e2,Bool.and_eq_true,decide_eq_true_eq];omega
theorem Sm.key {x:Int} (h:Sm x):keyOf Try.prog 3 (.int .i64 x)=some (.int .i64 x):=Go.Maps.keyOf_int_mk Try.underlying3 h.wf
def Wi (W:World) (b k:Nat) (M:Im):Prop:=
 ∃D:DataW Unit,W.ownsMap Try.prog 3 (plainElem Try.prog 3) b k D∧Go.Maps.IsMap D∧
  ∀x,Sm x→Go.Maps.has D (.int .i64 x)=(M x).isSome∧D.atKey (.int .i64 x) (.lit (.int .i64 0))= .lit (.int .i64 ((M x).getD 0))
theorem Wi.made (W:World):Wi (W.alloc (.map #[] 0)) W.heap.size 0 (fun _=>none):=by
 refine⟨.map [],World.ownsMap_made W Try.prog 3 _,Go.Maps.isMap_empty,fun l hl=>⟨rfl,?_⟩⟩;rw[Go.Maps.atKey_of_not_has (by rfl)];rfl
theorem Wi.lt {W:World} {b k:Nat} {M:Im} (h:Wi W b k M):b< W.heap.size:=by
 obtain⟨D,h1,_⟩:=h;exact h1.lt
theorem Wi.mapsTo {W W':World} {b k:Nat} {M:Im} (h:Wi W b k M) (hb:W'.heap[b]? =W.heap[b]?):Wi W' b k M:=by
 obtain⟨D,⟨es,clock,h1,h2⟩,h3⟩:=h;exact⟨D,⟨es,clock,hb.trans h1,h2⟩,h3⟩
theorem Wi.below {W W':World} {b k:Nat} {M:Im} (h:Wi W b k M) (hb:Below W.heap.size W W'):Wi W' b k M:=h.mapsTo (hb.block b h.lt)
theorem Wi.mono {W:World} {b k k':Nat} {M:Im} (h:Wi W b k M) (hk:k≤k'):Wi W b k' M:=by
 obtain⟨D,h1,h2⟩:=h;exact⟨D,h1.mono hk,h2⟩
theorem Wi.look_ok {W:World} {b k:Nat} {M:Im} (h:Wi W b k M) {x:Int} (hx:Sm x):
  (Instr.lookup 129 (.map (some b)) (.int .i64 x) true).run Try.prog W= .ok (.tuple #[.int .i64 ((M x).getD 0), .bool (M x).isSome]) W:=by
 obtain⟨D,h1,h2,h3⟩:=h;obtain⟨v,ps,hrun,hat⟩:=h1.look_ok law3 u129 (Try.zeroValue3 W) (show plainElem Try.prog 3 (.int .i64 0)=some (.lit (.int .i64 0), [])from plainElem_int Try.underlying3 (show(Lit.int .i64 0).wf=true from Sm.wf ⟨by omega,by omega⟩)) hx.key;rw[hrun,(h3 x hx).1];rw[(h3 x hx).2]at hat;obtain⟨a,rfl,hz,_⟩:=plainElem_int_inv Try.underlying3 hat;simp only[Prod.mk.injEq,DataW.lit.injEq,Lit.int.injEq,true_and]at hz;rw[hz.1]
theorem Wi.put {W:World} {b k:Nat} {M:Im} (h:Wi W b k M) {x v:Int} (hx:Sm x) (hv:Sm v) (hk:k< 1000000000000):
  ∃W',(Instr.mapUpdate 129 (.map (some b)) (.int .i64 x) (.int .i64 v)).run Try.prog W= .ok () W'∧Wi W' b (k+1) (M.put x v)∧W.grownBy W' (some b):=by
 obtain⟨D,h1,h2,h3⟩:=h;have hkm:k< maxLen:=by unfold maxLen;omega
 have hkey:=hx.key;obtain⟨W',hrun,ho,hg⟩:=h1.update law3 u129 hkm hkey (plainElem_int Try.underlying3 hv.wf);refine⟨W',hrun,⟨_,ho,h2.put _ _,fun y hy=>?_⟩,hg⟩;by_cases e':y=x
 ·subst e';have e:M.put y v y=some v:=by unfold Im.put;rw[if_pos rfl]
  rw[e];exact⟨Go.Maps.has_put_same h2 (law3.key hkey) _,Go.Maps.atKey_put_same h2 (law3.key hkey) _ _⟩
 ·have e:M.put x v y=M y:=by unfold Im.put;rw[if_neg e']
  have hne:(Lit.int .i64 y)≠(Lit.int .i64 x):=fun h=>e' (by injection h);rw[e,Go.Maps.has_put_other hne,Go.Maps.atKey_put_other hne];exact h3 y hy
def lineTo (M:Im) (i:Int) (xs:List Int):Im:=xs.foldl (fun M x=>(M.put (2*x) i).put (2*x+1) i) M
def whoStep (l:List Cmp) (wo:Int) (M:Im) (i:Nat):Im:=if(l.getD i ([],false)).2=true∧(i:Int)≠wo then lineTo M (i:Int) (l.getD i ([],false)).1 else M
def whoTo (l:List Cmp) (wo:Int) (k:Nat):Im:=(List.range k).foldl (whoStep l wo) (fun _=>none)
def rowStep (M:Im) (row:List Int) (x:Int):List Int:=match M x with
 |none=>row
 |some i=>if row.getLast? =some i then row else row++ [i]
def rowTo (M:Im) (p:List Int) (k:Nat):List Int:=(p.take k).foldl (rowStep M) []
def rowCut (row:List Int):List Int:=if 1< row.length∧nth row 0=nth row (row.length - 1)then row.tail else row
def outTo (row:List Int) (n k:Nat):List Bool:=(row.take k).foldl (fun out i=>out.set i.toNat (decide (row.count i=1))) (List.replicate n false)
def hurdF (p:List Int) (l:List Cmp) (wo:Int):List Bool:=outTo (rowCut (rowTo (whoTo l wo l.length) p p.length)) l.length (rowCut (rowTo (whoTo l wo l.length) p p.length)).length
theorem lineTo_snoc (M:Im) (i:Int) (xs:List Int) (x:Int):lineTo M i (xs++ [x])=((lineTo M i xs).put (2*x) i).put (2*x+1) i:=by
 unfold lineTo;rw[List.foldl_append];rfl
theorem lineTo_take (M:Im) (i:Int) (xs:List Int) (j:Nat) (hj:j< xs.length):lineTo M i (xs.take (j+1))=((lineTo M i (xs.take j)).put (2*nth xs j) i).put (2*nth xs j+1) i:=by
 rw[List.take_succ_eq_append_getElem hj,lineTo_snoc];simp[nth,hj]
theorem whoTo_step (l:List Cmp) (wo:Int) (k:Nat):whoTo l wo (k+1)=whoStep l wo (whoTo l wo k) k:=by
 unfold whoTo;rw[List.range_succ,List.foldl_append];rfl
theorem rowTo_step (M:Im) (p:List Int) (k:Nat) (hk:k< p.length):rowTo M p (k+1)=rowStep M (rowTo M p k) (nth p k):=by
 unfold rowTo;rw[List.take_succ_eq_append_getElem hk,List.foldl_append];simp[nth,hk]
theorem rowTo_len (M:Im) (p:List Int) (k:Nat):(rowTo M p k).length≤k:=by
 induction k with
 |zero=>simp[rowTo]
 | succ k ih=>
  by_cases hk:k< p.length
  ·rw[rowTo_step _ _ _ hk];unfold rowStep
   split
   ·omega
   ·split
    ·omega
    ·simp;omega
  ·have:rowTo M p (k+1)=rowTo M p k:=by unfold rowTo;rw[List.take_of_length_le tO,List.take_of_length_le tO]
   rw[this];omega
def Im.In (M:Im) (n:Nat):Prop:= ∀x v,M x=some v→0≤v∧v< (n:Int)
theorem Im.In.put {M:Im} {n:Nat} (h:M.In n) {x v:Int} (hv:0≤v∧v< (n:Int)):(M.put x v).In n:=fun y z hy=>by
 unfold Im.put at hy
 split at hy
 ·cases hy;exact hv
 ·exact h y z hy
theorem lineTo_in {M:Im} {n:Nat} (h:M.In n) {i:Int} (hi:0≤i∧i< (n:Int)) (xs:List Int):(lineTo M i xs).In n:=by
 induction xs generalizing M with
 |nil=>exact h
 |cons x xs ih=>exact ih ((h.put hi).put hi)
theorem whoTo_in (l:List Cmp) (wo:Int) (k:Nat) (hk:k≤l.length):(whoTo l wo k).In l.length:=by
 induction k with
 |zero=>intro x v h;cases h
 |succ k ih=>
  rw[whoTo_step];unfold whoStep
  split
  ·exact lineTo_in (ih tO) tO _
  ·exact ih tO
theorem rowTo_in {M:Im} {n:Nat} (h:M.In n) (p:List Int) (k:Nat): ∀i,i∈rowTo M p k→0≤i∧i< (n:Int):=by
 induction k with
 |zero=>intro i hi;simp[rowTo]at hi
 | succ k ih=>
  by_cases hk:k< p.length
  ·rw[rowTo_step _ _ _ hk];unfold rowStep;intro i hi
   split at hi
   ·exact ih i hi
   ·rename_i v hv
    split at hi
    ·exact ih i hi
    ·rcases List.mem_append.1 hi with hi|hi
     ·exact ih i hi
     ·rw[List.mem_singleton]at hi;subst hi;exact h _ _ hv
  ·have:rowTo M p (k+1)=rowTo M p k:=by unfold rowTo;rw[List.take_of_length_le tO,List.take_of_length_le tO]
   rw[this];exact ih
theorem outTo_len (row:List Int) (n k:Nat):(outTo row n k).length=n:=by
 induction k with
 |zero=>simp[outTo]
 | succ k ih=>
  by_cases hk:k< row.length
  ·unfold outTo at ih ⊢;rw[List.take_succ_eq_append_getElem hk,List.foldl_append];simp only[List.foldl_cons,List.foldl_nil,List.length_set];exact ih
  ·unfold outTo at ih ⊢;rw[List.take_of_length_le tO]at ih ⊢;exact ih
theorem outTo_step (row:List Int) (n k:Nat) (hk:k< row.length):outTo row n (k+1)=(outTo row n k).set (nth row k).toNat (decide (row.count (nth row k)=1)):=by
 unfold outTo;rw[List.take_succ_eq_append_getElem hk,List.foldl_append];simp[nth,hk]
theorem cmp_at {W:World} {bl:Nat} {ok:Nat→Prop} {A:Option Addr} {n c:Nat} {l:List Cmp} (h:Kd.R kCmp 110 W bl ok (.slice A n c) l) (i:Nat) (hi:i< n):
  ∃bb A' c',A=some ⟨bb,0,none⟩∧(l.getD i ([],false)).1.length≤c'∧Kd.F (Kd.int .i64) W (fun k=>k< W.heap.size) A' (l.getD i ([],false)).1.length (l.getD i ([],false)).1∧W.cell? ⟨bb,i*2,none⟩=some (.slice A' (l.getD i ([],false)).1.length c')∧W.cell? ⟨bb,i*2+1,none⟩=some (.bool (l.getD i ([],false)).2):=by
 have hn:=(Kd.R_reads' h).1;obtain⟨ad,cs,e,_⟩:=Kd.C_get (Kd.R_reads' h).2.2 ([],false) (i:Int) tO tO;subst e;obtain⟨g,rfl⟩:=Kd.R_head h;obtain⟨cs,_,⟨c0,c1,rfl,⟨v,rfl,hv⟩,hb⟩,hcell,_⟩:=Kd.R_elem h ([],false) (i:Int) tO tO;rw[Int.toNat_natCast]at hv hb hcell;have hb':c1= [.bool (l.getD i ([],false)).2]:=hb;subst hb';obtain⟨A',c',rfl⟩:=Kd.R_slice hv;have h0:=hcell 0 _ rfl;have h1:=hcell 1 _ rfl;rw[show kCmp.sz=2 from rfl]at h0 h1;exact⟨g,A',c',rfl,(Kd.R_reads' hv).2.1,Kd.F_mono (Kd.F_bound (Kd.R_F hv)) (fun k hk=>hk.2),h0,h1⟩
theorem pop22 (ad:Addr) (n c:Nat) (hc:n+1< c+1) (W:World) (h2:2≤c:=by omega):
  (Instr.slice 22 (.slice (some ad) (n+1) c) (some (.int .i64 1)) none none).run Try.prog W= .ok (.slice (some (ad.add 1)) n (c - 1)) W:=by
 have he:Try.prog.elem 22=3:=by kernel_rfl
 have hu:Try.prog.underlying 22=some (.slice (Try.prog.elem 22)):=by rw[he];exact Try.underlying22
 rw[run_slice_l (P:=Try.prog) W 22 (some ad) (n+1) c hu .i64 1 tO tO,he,Try.sizeOf3];have e1:(1:Int).toNat=1:=rfl;simp only[Result.andThen,sliced,e1,Option.map_some,Nat.one_mul,Nat.add_sub_cancel];rw[if_neg tO]
theorem F_tail {W:World} {ok:Nat→Prop} {ad:Addr} {y:Int} {xs:List Int} (h:Kd.F (Kd.int .i64) W ok (some ad) (xs.length+1) (y::xs)):Kd.F (Kd.int .i64) W ok (some (ad.add 1)) xs.length xs:=fun W' hW=>by
 have h1:=Kd.reads_of_C (enc:=Value.int .i64) (d:=(0:Int)) (h1:=fun _=>rfl) (h W' hW);refine Kd.C_of_reads (enc:=Value.int .i64) (d:=(0:Int)) (h1:=fun _=>rfl) ⟨rfl,by have:=h1.2.1;omega,fun hp=>⟨_,rfl,fun j hj=>?_⟩⟩;obtain⟨ad',e,hc⟩:=h1.2.2 tO;cases e;have h2:=hc (j+1) tO;rw[List.getD_cons_succ]at h2;rw[←h2];congr 1;unfold Addr.add;by_cases hj0:j=0
 ·subst hj0;simp
 ·simp[hj0];omega
set_option maxRecDepth 100000 in
set_option maxHeartbeats 8000000 in
theorem hurdles_calls (b base:Nat) (s:List Int) (hs:s.length≤40) (hms: ∀x,x∈s→x≠0∧ -(s.length:Int)≤x∧x≤s.length) (w:World) (hP:PicOk base b s w) (A:Option Addr) (c:Nat) (l:List Cmp) (bl:Nat) (hl:Kd.R kCmp 110 w bl (fun _=>True) (.slice A l.length c) l) (hl0:0< l.length) (hll:l.length≤100000) (hm: ∀x,x∈l→x.1.length≤100000∧ ∀y,y∈x.1→0≤y∧y≤(s.length:Int)) (wo:Int) (hwo: -1≤wo∧wo≤100000):
  Calls Try.prog 79 #[.pointer (some ⟨b,0,none⟩), .slice A l.length c, .int .i64 wo] w fun e w'=> ∃v,e= .returned v∧Kd.R Kd.bool 4 w' w.heap.size (fun _=>True) v (hurdF (picL s) l wo)∧Below w.heap.size w w':=by
 have HP:=Aside0.mk hP;have HL:=Aside0.mk hl;have HM:=Aside0.mk hm;have HMS:=Aside0.mk hms;obtain⟨n,hn⟩: ∃n,l.length=n:=⟨_,rfl⟩;have HN:=Aside0.mk hn;have HH:=Aside0.mk (show hurdF (picL s) l wo=outTo (rowCut (rowTo (whoTo l wo l.length) (picL s) (picL s).length)) l.length (rowCut (rowTo (whoTo l wo l.length) (picL s) (picL s).length)).length from rfl);obtain⟨R0,hR0⟩: ∃R0,hurdF (picL s) l wo=R0:=⟨_,rfl⟩;rw[hR0]at HH ⊢;rw[hn]at HL HH hll hl0 ⊢;clear hP hl hm hms hn hR0;have HM0:=Aside0.mk (Wi.made w);have HB0:=Aside0.mk ((Below.refl w.heap.size w).alloc (Nat.le_refl _) (.map #[] 0));have hmk:=run_makeMap (P:=Try.prog)
 go_enter Try.func79,Try.ntmps79
 go_wp2;obtain⟨W0,hW0⟩: ∃W0,w.alloc (.map #[] 0)=W0:=⟨_,rfl⟩;rw[hW0]at HM0 HB0;(try rw[hW0]);have HS0:=Aside0.mk (show W0.heap.size=w.heap.size+1 by rw[←hW0];simp);obtain⟨bm,hbm⟩: ∃bm,w.heap.size=bm:=⟨_,rfl⟩;have HBM:=Aside0.mk hbm;rw[hbm]at HM0 HB0 HS0;(try rw[hbm]);clear hW0 hbm
 go_loopw [26] (fun iv wr=> ∃i:Nat,i≤n∧iv= .int .i64 (i:Int)∧Aside0 (Wi wr bm (200000*i) (whoTo l wo i))∧Aside0 (Below bm w wr)) (fun iv _=>n - (intOf iv).toNat)
 case atStart=>exact⟨0,Nat.zero_le _,rfl,HM0,HB0⟩
 case round=>
  obtain⟨i,hi,rfl,HW,HB⟩:=hrel;by_cases hlt:i< n
  ·have hi0:(0:Int)≤(i:Int):=by omega
   have hi1:(i:Int)< (n:Int):=by omega
   have hBw:Below w.heap.size w wr:=by rw[HBM.out];exact HB.out
   obtain⟨bb,A',c',rfl,hl1,hC1,hc0,hc1⟩:=cmp_at HL.out i hlt;replace hc0:=(hBw.cell (World.block_lt_of_cell? _ _ hc0)).trans hc0;replace hc1:=(hBw.cell (World.block_lt_of_cell? _ _ hc1)).trans hc1;obtain⟨x,hx⟩: ∃x,l.getD i ([],false)=x:=⟨_,rfl⟩;rw[hx]at hl1 hC1 hc0 hc1;have HX:=Aside0.mk hx;have hxm:=HM.out x (by rw[←hx];exact getD_mem (by rw[HN.out];exact hlt));have HXM:=Aside0.mk hxm;obtain⟨xs,bd⟩:=x;simp only at hl1 hC1 hc0 hc1;obtain⟨xn,hxn⟩: ∃xn,xs.length=xn:=⟨_,rfl⟩;rw[hxn]at hl1 hc0;have HXN:=Aside0.mk hxn;have HC1:=Aside0.mk hC1;have hwt:IntKind.i64.wrap ((i:Int)+1)=((i+1:Nat):Int):=by rw[iw64 tO tO];omega
   clear hx hxm hC1 hxn hmk hBw;obtain⟨wo_,hwo_⟩: ∃z,z=wr:=⟨_,rfl⟩;subst hwo_;have HST:=Aside0.mk (whoTo_step l wo i);cases bd
   ·have HS1:=Aside0.mk (show whoTo l wo (i+1)=whoTo l wo i by rw[HST.out];unfold whoStep;rw[HX.out,if_neg (fun h=>by cases h.1)]);go_wp2
    go_roundw
    case rel=>exact⟨i+1,by omega,rfl,⟨by rw[HS1.out];exact(HW.out.below ((Below.refl _ _).alloc (Nat.le_refl _) _)).mono tO⟩,⟨HB.out.alloc (by have:=HB.out.size;have:=HBM.out;omega) _⟩⟩
    case measure=>simp[intOf];omega
   ·by_cases hio:(i:Int)=wo
    ·subst hio;have HS1:=Aside0.mk (show whoTo l (i:Int) (i+1)=whoTo l (i:Int) i by rw[HST.out];unfold whoStep;rw[if_neg (fun h=>h.2 rfl)]);go_wp2
     go_roundw
     case rel=>exact⟨i+1,by omega,rfl,⟨by rw[HS1.out];exact(HW.out.below ((Below.refl _ _).alloc (Nat.le_refl _) _)).mono tO⟩,⟨HB.out.alloc (by have:=HB.out.size;have:=HBM.out;omega) _⟩⟩
     case measure=>simp[intOf];omega
    ·have HS1:=Aside0.mk (show whoTo l wo (i+1)=lineTo (whoTo l wo i) (i:Int) xs by rw[HST.out];unfold whoStep;rw[HX.out,if_pos ⟨rfl,hio⟩]);have hio':((i:Int) !=wo)=true:=by simpa using hio
     go_wp2
     go_loopw [41] (fun jv wj=> ∃j:Nat,j≤xn∧jv= .int .i64 (j:Int)∧Aside0 (Wi wj bm (200000*i+2*j) (lineTo (whoTo l wo i) (i:Int) (xs.take j)))∧Aside0 (Below bm w wj)) (fun jv _=>xn - (intOf jv).toNat)
     case atStart=>exact⟨0,Nat.zero_le _,rfl,⟨by rw[List.take_zero];exact(HW.out.below ((Below.refl _ _).alloc (Nat.le_refl _) _))⟩,⟨HB.out.alloc (by have:=HB.out.size;have:=HBM.out;omega) _⟩⟩
     case round=>
      obtain⟨j,hj,rfl,HWJ,HBJ⟩:=hrel;by_cases hjl:j< xn
      ·have hj0:(0:Int)≤(j:Int):=by omega
       have hj1:(j:Int)< (xn:Int):=by omega
       obtain⟨ad,e1,hd1⟩:=Kd.at_int (Kd.F_now (Kd.F_step HC1.out (fun k hk _=>HBJ.out.block k (by have:=HBM.out;omega)))) (j:Int) hj0 (by have:=HXN.out;omega);rw[rd_nth,Int.toNat_natCast]at hd1;have hmem:=HXM.out.2 (nth xs j) (getD_mem (by rw[HXN.out];exact hjl));have HTK:=Aside0.mk (lineTo_take (whoTo l wo i) (i:Int) xs j (by rw[HXN.out];exact hjl));obtain⟨y,hy⟩: ∃y,nth xs j=y:=⟨_,rfl⟩;rw[hy]at hd1 hmem HTK;have hw1:IntKind.i64.wrap (2*y)=2*y:=iw64 tO tO;have hw2:IntKind.i64.wrap (2*y+1)=2*y+1:=iw64 tO tO;have hwj:IntKind.i64.wrap ((j:Int)+1)=((j+1:Nat):Int):=by rw[iw64 tO (by have:=HXM.out.1;have:=HXN.out;omega)];omega
       have hxb:=HXM.out.1;obtain⟨W1,hr1,hW1,hg1⟩:=HWJ.out.put (x:=2*y) (v:=(i:Int)) ⟨by omega,by omega⟩ ⟨by omega,by omega⟩ (by have:=HXN.out;omega);obtain⟨W2,hr2,hW2,hg2⟩:=hW1.put (x:=2*y+1) (v:=(i:Int)) ⟨by omega,by omega⟩ ⟨by omega,by omega⟩ (by have:=HXN.out;omega);have HW2:=Aside0.mk hW2
       have HB2:=Aside0.mk (show Below bm w W2 from by
        have h1:=HBJ.out
        exact⟨hg2.os.trans (hg1.os.trans h1.os),hg2.tape.trans (hg1.tape.trans h1.tape),hg2.output.trans (hg1.output.trans h1.output),Nat.le_trans h1.size (Nat.le_trans hg1.size hg2.size),fun k hk=>(hg2.block k (by have:=h1.size;have:=hg1.size;have:=HBM.out;omega) (by intro e;injection e with e;omega)).trans ((hg1.block k (by have:=h1.size;have:=HBM.out;omega) (by intro e;injection e with e;omega)).trans (h1.block k hk))⟩)
       subst e1;clear hmem hy hW1 hg1 hW2 hg2 hxb;go_wp2
       go_roundw
       case rel=>exact⟨j+1,by omega,rfl,⟨by rw[HTK.out];exact HW2.out.mono tO⟩,HB2⟩
       case measure=>simp[intOf];omega
      ·have hj1: ¬(j:Int)< (xn:Int):=by omega
       have HJN:=Aside0.mk (show j=xn by omega);go_wp2
       go_roundw
       case rel=>exact⟨i+1,by omega,rfl,⟨by
        rw[HS1.out];have h1:=HWJ.out;rw[HJN.out,List.take_of_length_le (by have:=HXN.out;omega)]at h1
        exact h1.mono (by have:=HXM.out.1;have:=HXN.out;omega)⟩,HBJ⟩
       case measure=>simp[intOf];omega
  ·have hi1: ¬(i:Int)< (n:Int):=by omega
   have HIN:=Aside0.mk (show i=n by omega);have hW:=HW.out;rw[HIN.out]at hW;obtain⟨M,hM⟩: ∃M,whoTo l wo n=M:=⟨_,rfl⟩;rw[hM]at hW HH;have HMI:=Aside0.mk (show M.In n by rw[←hM,←HN.out];exact whoTo_in l wo l.length (Nat.le_refl _));have HW:=Aside0.mk hW;obtain⟨Ap,cp,Ap2,cp2,hbk,hpp,hqq⟩:=HP.out.below (show Below w.heap.size w wr by rw[HBM.out];exact HB.out);have hb0:=hbk.cell 0 (v:= .slice Ap (2*s.length+2) cp) rfl;have HPP:=Aside0.mk hpp;have HPR:=Aside0.mk (picL_range s HMS.out);have HPLEN:=Aside0.mk (picL_len s);obtain⟨p,hpe⟩: ∃p,picL s=p:=⟨_,rfl⟩;rw[hpe]at HH HPP HPR HPLEN;obtain⟨pn,hpn⟩: ∃pn,2*s.length+2=pn:=⟨_,rfl⟩;rw[hpn]at hb0 HPP HPLEN;have HPN:=Aside0.mk hpn;clear hM hW hbk hpp hqq hpe hpn;go_wp2;obtain⟨wo_,hwo_⟩: ∃z,z=wr:=⟨_,rfl⟩;subst hwo_;obtain⟨N0,hN0⟩: ∃N0,wo_.heap.size=N0:=⟨_,rfl⟩;have HN0:=Aside0.mk hN0;have HBN:=Aside0.mk (show bm< N0 by rw[←hN0];exact HW.out.lt);clear hN0
   go_loopw [12,61] (fun rv kv wk=> ∃(k:Nat) (row:List Int),k≤pn∧kv= .int .i64 (k:Int)∧Aside0 (rowTo M p k=row)∧Aside0 (Kd.R (Kd.int .i64) 3 wk N0 (fun j=>N0≤j) rv row)∧Aside0 (Below N0 wo_ wk)) (fun _ kv _=>pn - (intOf kv).toNat)
   case atStart=>exact⟨0, [],Nat.zero_le _,rfl,⟨by simp[rowTo]⟩,⟨Kd.R_nil _ _ _ _ _⟩,⟨Below.refl _ _⟩⟩
   case round=>
    obtain⟨k,row,hk,rfl,HRK0,HRK,HBK⟩:=hrel;have HRL:=Aside0.mk (show row.length≤pn by rw[←HRK0.out];exact Nat.le_trans (rowTo_len M p k) hk);have HPN2:=Aside0.mk (show pn≤82 by have:=HPN.out;omega);by_cases hkl:k< pn
    ·have hk0:(0:Int)≤(k:Int):=by omega
     have hk1:(k:Int)< (pn:Int):=by omega
     obtain⟨ad,e1,hd1⟩:=Kd.at_int (Kd.R_reads' (Kd.R_step (Kd.R_bound HPP.out) (fun j hj _=>HBK.out.block j (by have:=hj.2.2.1;have:=HN0.out;omega)))).2.2 (k:Int) hk0 (by have:=HPLEN.out;omega);rw[rd_nth,Int.toNat_natCast]at hd1;have HSTP:=Aside0.mk (rowTo_step M p k (by rw[HPLEN.out];exact hkl));have hx:=HPR.out k;obtain⟨x,hxe⟩: ∃x,nth p k=x:=⟨_,rfl⟩;rw[hxe]at hd1 hx;have HX:=Aside0.mk hxe;have hlk:=(HW.out.mapsTo (HBK.out.block bm HBN.out)).look_ok (x:=x) ⟨by omega,by omega⟩;have hwk:IntKind.i64.wrap ((k:Int)+1)=((k+1:Nat):Int):=by rw[iw64 tO (by have:=HPN2.out;omega)];omega
     obtain⟨Ar,cr,ev⟩:=Kd.R_slice HRK.out;subst ev;obtain⟨rn,hrn⟩: ∃rn,row.length=rn:=⟨_,rfl⟩;have HRN:=Aside0.mk hrn;rw[hrn]at HRK HRL ⊢;obtain⟨mv,hmv⟩: ∃mv,M x=mv:=⟨_,rfl⟩;have HV:=Aside0.mk hmv;rw[hmv]at hlk;subst e1;clear hx hxe hrn hmv;cases mv with
     |none=>
      simp only[Option.isSome_none,Option.getD_none]at hlk;go_wp2
      go_roundw
      case rel=>exact⟨k+1,row,by omega,rfl,⟨by rw[HSTP.out,HRK0.out,HX.out];unfold rowStep;rw[HV.out]⟩,HRK,HBK⟩
      case measure=>simp[intOf];omega
     | some v=>
      simp only[Option.isSome_some,Option.getD_some]at hlk;cases rn with
      |zero=>
       have HE:=Aside0.mk (List.eq_nil_of_length_eq_zero HRN.out)
       go_wp2_with ((with_reducible refine gate_builtin (b:= .append) (xs:= #[.tmp 87, .tmp 89]) rfl ?_);at_builtin;refine stopper ?_)
       (try unfold Hold);refine Kd.R_append (Kd.int .i64) (w0:=wr) N0 rfl (.tmp 87) (.tmp 89) 22 3 (.int .i64 0) 8 rfl Try.underlying22 info3 rfl tD tD _ row v [.int .i64 v] (fun j=>N0≤j) (fun _=>False) rfl rfl rfl (fun _ h=>h.elim) (fun k hk=>by have:=HBK.out.size;have:=HN0.out;omega) HRK.out (Below.refl _ _) (by have:=HBK.out.size;have:=HN0.out;omega) (by have:=HRL.out;have:=HRN.out;have:=HPN2.out;omega) ?_;intro v1 wy ho hb hg hat;have HHO:=Aside0.mk ho;have HHB:=Aside0.mk (HBK.out.trans hb);clear ho hb hg hat;go_wp2
       go_roundw
       case rel=>exact⟨k+1,row++ [v],by omega,rfl,⟨by rw[HSTP.out,HRK0.out,HX.out];unfold rowStep;rw[HV.out];simp only;rw[if_neg (by rw[HE.out];simp)]⟩,HHO,HHB⟩
       case measure=>simp[intOf];omega
      | succ q=>
       obtain⟨adr,e2,hd2⟩:=Kd.at_int (Kd.R_reads' HRK.out).2.2 (q:Int) tO (by have:=HRN.out;omega);rw[rd_nth,Int.toNat_natCast]at hd2
       have HLS:=Aside0.mk (show row.getLast? =some (nth row q)by
        rw[List.getLast?_eq_getElem?,HRN.out];have h1:q< row.length:=by rw[HRN.out];omega
        simp[nth,h1])
       obtain⟨y,hy⟩: ∃y,nth row q=y:=⟨_,rfl⟩;rw[hy]at hd2 HLS;have hwq:IntKind.i64.wrap ((q:Int)+1 - 1)=(q:Int):=by rw[iw64 tO (by have:=HRL.out;have:=HPN2.out;omega)];omega
       have hwq2:IntKind.i64.wrap (((q+1:Nat):Int) - 1)=(q:Int):=by rw[iw64 tO (by have:=HRL.out;have:=HPN2.out;omega)];omega
       have hwq3:IntKind.i64.wrap (q:Int)=(q:Int):=iw64 tO (by have:=HRL.out;have:=HPN2.out;omega);have hq0:(0:Int)≤(q:Int):=by omega
       have hq1:(q:Int)< (q:Int)+1:=by omega
       subst e2;clear hy;by_cases hyv:y=v
       ·subst hyv;go_wp2
        go_roundw
        case rel=>exact⟨k+1,row,by omega,rfl,⟨by rw[HSTP.out,HRK0.out,HX.out];unfold rowStep;rw[HV.out];simp only;rw[if_pos HLS.out]⟩,HRK,HBK⟩
        case measure=>simp[intOf];omega
       ·have hyv':(y !=v)=true:=by simpa using hyv
        have HYV:=Aside0.mk hyv;clear hyv
        go_wp2_with ((with_reducible refine gate_builtin (b:= .append) (xs:= #[.tmp 87, .tmp 89]) rfl ?_);at_builtin;refine stopper ?_)
        (try unfold Hold);refine Kd.R_append (Kd.int .i64) (w0:=wr) N0 rfl (.tmp 87) (.tmp 89) 22 3 (.int .i64 0) 8 rfl Try.underlying22 info3 rfl tD tD _ row v [.int .i64 v] (fun j=>N0≤j) (fun _=>False) rfl rfl rfl (fun _ h=>h.elim) (fun k hk=>by have:=HBK.out.size;have:=HN0.out;omega) HRK.out (Below.refl _ _) (by have:=HBK.out.size;have:=HN0.out;omega) (by have:=HRL.out;have:=HRN.out;have:=HPN2.out;omega) ?_;intro v1 wy ho hb hg hat;have HHO:=Aside0.mk ho;have HHB:=Aside0.mk (HBK.out.trans hb);clear ho hb hg hat;go_wp2
        go_roundw
        case rel=>exact⟨k+1,row++ [v],by omega,rfl,⟨by rw[HSTP.out,HRK0.out,HX.out];unfold rowStep;rw[HV.out];simp only;rw[if_neg (by rw[HLS.out];intro e;injection e with e;exact HYV.out e)]⟩,HHO,HHB⟩
        case measure=>simp[intOf];omega
    ·have hk1: ¬(k:Int)< (pn:Int):=by omega
     have hrow:rowTo M p p.length=row:=by rw[HPLEN.out,←HRK0.out,show k=pn by omega]
     rw[hrow]at HH;have HRI:=Aside0.mk (show ∀i,i∈row→0≤i∧i< (n:Int)by rw[←HRK0.out];exact rowTo_in HMI.out p k);obtain⟨Ar,cr,ev⟩:=Kd.R_slice HRK.out;subst ev;obtain⟨rn,hrn⟩: ∃rn,row.length=rn:=⟨_,rfl⟩;have HRN:=Aside0.mk hrn;rw[hrn]at HRK HRL ⊢;clear hrow hrn
     go_upto_region 20 with fail
     obtain⟨q,hq⟩: ∃q:Bool,decide (1< rn∧nth row 0=nth row (rn - 1))=q:=⟨_,rfl⟩;have HQ:=Aside0.mk hq;clear hq
     go_cut [106]from 92 (fun v wc=>v= .bool q∧Aside0 (∃m,wc=wr.drewN m))
     case first=>
      by_cases h1:1< rn
      ·obtain⟨r2,rfl⟩: ∃r2,rn=r2+2:=⟨rn - 2,by omega⟩;obtain⟨adr,e2,hd2⟩:=Kd.at_int (Kd.R_reads' HRK.out).2.2 ((r2+1:Nat):Int) tO (by have:=HRN.out;omega);obtain⟨adr',e3,hd3⟩:=Kd.at_int (Kd.R_reads' HRK.out).2.2 ((0:Nat):Int) tO (by have:=HRN.out;omega);rw[rd_nth,Int.toNat_natCast]at hd2 hd3;subst e2;cases e3;obtain⟨y,hy⟩: ∃y,nth row (r2+1)=y:=⟨_,rfl⟩;obtain⟨y0,hy0⟩: ∃y0,nth row 0=y0:=⟨_,rfl⟩;have hq:=HQ.out;rw[show r2+2 - 1=r2+1 by omega,hy,hy0]at hq;rw[hy]at hd2;rw[hy0]at hd3;have hq2:(y0==y)=q:=by rw[←hq];by_cases e:y0=y<;>simp[e]
       have hwq:IntKind.i64.wrap (((r2+2:Nat):Int) - 1)=((r2+1:Nat):Int):=by rw[iw64 tO (by have:=HRL.out;have:=HPN2.out;omega)];omega
       have hwq2:IntKind.i64.wrap ((r2:Int)+2 - 1)=((r2+1:Nat):Int):=by rw[iw64 tO (by have:=HRL.out;have:=HPN2.out;omega)];omega
       have hwq3:IntKind.i64.wrap ((r2:Int)+1)=((r2+1:Nat):Int):=by rw[iw64 tO (by have:=HRL.out;have:=HPN2.out;omega)];omega
       have hg1:(1:Int)< ((r2+2:Nat):Int):=by omega
       have hg2:(1:Int)< (r2:Int)+2:=by omega
       have hg3:(0:Int)≤((r2+1:Nat):Int):=by omega
       have hg4:(0:Int)< ((r2+2:Nat):Int):=by omega
       have hg5:(0:Int)< (r2:Int)+2:=by omega
       have hg6:(r2:Int)+1< (r2:Int)+2:=by omega
       have hg7:((r2+1:Nat):Int)< ((r2+2:Nat):Int):=by omega
       clear hq hy hy0;rw[Addr.add_zero']at hd3
       have hd4:wr.cell? { block:=adr.block,off:=adr.off+(r2+1) } =some (.int .i64 y):=by
        simp only[Addr.add]at hd2;rw[if_neg tO]at hd2;exact hd2
       have hg8:(0:Int)≤(r2:Int)+1:=by omega
       refine start_ (n:=15) (S:=fun w'=>w'.cell? { block:=adr.block,off:=adr.off+(r2+1) } =some (.int .i64 y)∧w'.cell? adr=some (.int .i64 y0)) (ds:= []) #[false,false,false,false,false,false,false,false,false,false,false,false,false,false,false] tK rfl rfl ⟨hd4,hd3⟩ (fun hHeld=>?_);refine puA 0 (some 92) ?_;refine puA 1 (some 93) ?_;refine puA 2 (some 94) ?_;refine puA 3 (some 95) ?_;refine puA 4 (some 96) ?_;refine puA 5 (some 97) ?_;refine take_ (i:=6) (N:=(some 98)) (v:=?_) (a':=?_) #[true,true,true,true,true,true,true,false,false,false,false,false,false,false,false] rfl rfl tK (fun _ _ _ h=>h) (Or.inl ⟨by rfl,?_⟩) hHeld ?_ ?_;rotate_left
       ·rintro w' ⟨s0,s1⟩;go_simp;with_reducible rfl
       rotate_left
       ·simp only[Act.put,List.setIfInBounds_toArray,List.set_cons_zero,List.set_cons_succ];rfl
       refine puA 7 (some 99) ?_;refine puA 8 (some 100) ?_;refine puA 9 (some 101) ?_;refine puA 10 (some 102) ?_;refine puA 11 (some 103) ?_;refine take_ (i:=12) (N:=(some 104)) (v:=?_) (a':=?_) #[true,true,true,true,true,true,true,true,true,true,true,true,true,false,false] rfl rfl tK (fun _ _ _ h=>h) (Or.inl ⟨by rfl,?_⟩) hHeld ?_ ?_;rotate_left
       ·rintro w' ⟨s0,s1⟩;go_simp;with_reducible rfl
       rotate_left
       ·simp only[Act.put,List.setIfInBounds_toArray,List.set_cons_zero,List.set_cons_succ];rfl
       refine puA 13 (some 105) ?_;refine puA 14 (some 106) ?_;refine done_ tK ?_;go_wp2
       go_meet
       case rel=>exact⟨rfl,⟨⟨1,rfl⟩⟩⟩
      ·have hq:q=false:=by rw[←HQ.out];exact decide_eq_false (fun h=>h1 h.1)
       subst hq;have hg1: ¬(1:Int)< (rn:Int):=by omega
       refine start_ (n:=15) (S:=fun _=>True) (ds:= []) #[false,false,false,false,false,false,false,false,false,false,false,false,false,false,false] tK rfl rfl trivial (fun hHeld=>?_);refine puA 0 (some 92) ?_;refine puA 1 (some 93) ?_;refine puA 2 (some 94) ?_;refine puA 3 (some 95) ?_;refine puB 4 (some 96) ?_;refine puB 5 (some 97) ?_;refine puB 6 (some 98) ?_;refine puB 7 (some 99) ?_;refine puB 8 (some 100) ?_;refine puB 9 (some 101) ?_;refine puB 10 (some 102) ?_;refine puB 11 (some 103) ?_;refine puB 12 (some 104) ?_;refine puB 13 (some 105) ?_;refine puA 14 (some 106) ?_;refine done_ tK ?_;go_wp2
       go_meet
       case rel=>exact⟨rfl,⟨⟨1,rfl⟩⟩⟩
     case rest=>
      obtain⟨rfl,HWC⟩:=hcut;obtain⟨mq,rfl⟩:=HWC.out;have HF:=Aside0.mk (Kd.F_bound (Kd.F_drewN (Kd.R_F HRK.out) mq));obtain⟨wc,hwc⟩: ∃wc,wr.drewN mq=wc:=⟨_,rfl⟩;have HBC:=Aside0.mk (show Below N0 wo_ wc by rw[←hwc];exact pw_below_drewN HBK.out mq);rw[hwc]at HF ⊢
      go_upto_if 106 with fail
      (try rw[hwc]);clear hwc
      go_cut [12]from 107 (fun v wd=> ∃A5 c5,v= .slice A5 (rowCut row).length c5∧wd=wc∧Aside0 (Kd.F (Kd.int .i64) wc (fun k=>k< wc.heap.size) A5 (rowCut row).length (rowCut row)))
      case first=>
       cases q with
       | true=>
        have hq:=of_decide_eq_true HQ.out;obtain⟨r2,rfl⟩: ∃r2,rn=r2+2:=⟨rn - 2,by omega⟩
        obtain⟨y,row',rfl⟩: ∃y row',row=y::row':=by
         cases row with
         |nil=>have:=HRN.out;simp at this
         |cons y row'=>exact⟨y,row',rfl⟩
        have HRC:=Aside0.mk (show rowCut (y::row')=row' by
         unfold rowCut;rw[if_pos ⟨by rw[HRN.out];omega,by rw[HRN.out];exact hq.2⟩]
         rfl)
        have HRN2:=Aside0.mk (show row'.length=r2+1 by have:=HRN.out;simpa using this);have hcr:r2+2≤cr:=(Kd.R_reads' HRK.out).2.1;obtain⟨ad,e0,_⟩:=(Kd.F_now HF.out).2.2 tO;subst e0;have hpop:=fun W=>pop22 ad (r2+1) cr tO W;clear hq;go_wp2
        go_meet
        case rel=>exact⟨_,_,by rw[HRC.out,HRN2.out],rfl,⟨by rw[HRC.out];exact F_tail (by rw[HRN2.out];exact Kd.F_mono HF.out (fun k hk=>hk.2))⟩⟩
       | false=>
        have hq:=of_decide_eq_false HQ.out
        have HRC:=Aside0.mk (show rowCut row=row by
         unfold rowCut
         rw[if_neg (by rw[HRN.out];exact hq)])
        clear hq;go_wp2
        go_meet
        case rel=>exact⟨_,_,by rw[HRC.out,HRN.out],rfl,⟨by rw[HRC.out,HRN.out];exact Kd.F_mono HF.out (fun k hk=>hk.2)⟩⟩
      case rest=>
       obtain⟨A5,c5,rfl,rfl,HF5⟩:=hcut;obtain⟨row5,hrow5⟩: ∃row5,rowCut row=row5:=⟨_,rfl⟩;rw[hrow5]at HH HF5
       have HRI5:=Aside0.mk (show ∀i,i∈row5→0≤i∧i< (n:Int)by
        rw[←hrow5];intro i hi;refine HRI.out i ?_;unfold rowCut at hi
        split at hi
        ·exact List.mem_of_mem_tail hi
        ·exact hi)
       have HL5:=Aside0.mk (show row5.length≤82 by
        have h1:=HRL.out;have h2:=HPN2.out;have h3:=HRN.out;rw[←hrow5];unfold rowCut
        split
        ·rw[List.length_tail];omega
        ·omega)
       (try rw[hrow5]);obtain⟨r5,hr5⟩: ∃r5,row5.length=r5:=⟨_,rfl⟩;rw[hr5]at HH HF5 HL5;have HR5:=Aside0.mk hr5;(try rw[hr5]);clear hrow5 hr5
       go_wp2_with (at_make;refine stopper ?_)
       (try unfold Hold);refine Kd.R_make Kd.bool (w0:=wc) wc.heap.size 4 rfl (N:=111) rfl 62 (.tmp 110) (.tmp 110) rfl ((n:Nat):Int) (by first|rfl|simp) (by first|rfl|simp) Try.underlying62 (.bool false) 1 info4 rfl tD tD false (ok:=fun _=>True) (okp:=fun _=>False) rfl (fun _ h=>h.elim) trivial tO tO (Below.refl _ _) (Nat.le_refl _) ?_;intro v2 wm ho hb hg hat;rw[Int.toNat_natCast]at ho;have hown:=Kd.own_of_R ho;rcases hown.2 with⟨_,h0⟩|⟨g2,cap2,cur,rfl,hgb,hgh,_⟩
       ·rw[List.length_replicate]at h0;omega
       rw[List.length_replicate]at ho
       have HOB:=Aside0.mk (show Kd.R Kd.bool 4 wm wc.heap.size (fun j=>j=g2) (.slice (some ⟨g2,0,none⟩) n cap2) (outTo row5 n 0)from by
        refine Kd.R_of_own (by have h1:=Kd.own_of_R ho;rw[List.length_replicate]at h1;show World.ownsRow wm wc.heap.size 4 1 _ (outTo row5 n 0).length (encs Value.bool (outTo row5 n 0));unfold outTo;rw[List.take_zero];simp only[List.foldl_nil,List.length_replicate];exact h1) (fun k hk=>by simpa [Value.ownBlock]using hk.symm))
       have HBM2:=Aside0.mk hb;have HGB:=Aside0.mk hgb;simp only[List.length_replicate];clear ho hb hg hat hown hgb hgh;go_wp2
       go_loopw [114] (fun kv wk=> ∃k:Nat,k≤r5∧kv= .int .i64 (k:Int)∧Aside0 (Kd.R Kd.bool 4 wk wc.heap.size (fun j=>j=g2) (.slice (some ⟨g2,0,none⟩) n cap2) (outTo row5 n k))∧Aside0 (Below wc.heap.size wc wk)) (fun kv _=>r5 - (intOf kv).toNat)
       case atStart=>exact⟨0,Nat.zero_le _,rfl,HOB,HBM2⟩
       case round=>
        obtain⟨k,hk,rfl,HOK,HBK2⟩:=hrel;by_cases hkl:k< r5
        ·have hk0:(0:Int)≤(k:Int):=by omega
         have hk1:(k:Int)< (r5:Int):=by omega
         have HF6:=Aside0.mk (Kd.F_step HF5.out (fun j hj _=>HBK2.out.block j hj));obtain⟨ad5,e5,hd5⟩:=Kd.at_int (Kd.F_now HF6.out) (k:Int) hk0 tO;rw[rd_nth,Int.toNat_natCast]at hd5;subst e5;have HOS:=Aside0.mk (outTo_step row5 n k (by rw[HR5.out];exact hkl));have hv:=HRI5.out (nth row5 k) (getD_mem (by rw[HR5.out];exact hkl));obtain⟨v,hve⟩: ∃v,nth row5 k=v:=⟨_,rfl⟩;rw[hve]at hd5 HOS hv;obtain⟨vn,rfl⟩:=Int.eq_ofNat_of_zero_le hv.1;have hv0:=hv.1;have hv1:=hv.2;have hwk:IntKind.i64.wrap ((k:Int)+1)=((k+1:Nat):Int):=by rw[iw64 tO (by have:=HL5.out;omega)];omega
         clear hv hve;obtain⟨wo2,hwo2⟩: ∃z,z=wr:=⟨_,rfl⟩;subst hwo2;go_wp2
         go_loopw [20,120] (fun cv jv wj=> ∃j:Nat,j≤r5∧jv= .int .i64 (j:Int)∧cv= .int .i64 (((row5.take j).count (vn:Int):Nat):Int)∧wj=wo2) (fun _ jv _=>r5 - (intOf jv).toNat)
         case atStart=>exact⟨0,Nat.zero_le _,rfl,by simp,rfl⟩
         case round=>
          obtain⟨j,hj,rfl,rfl,rfl⟩:=hrel;obtain⟨ct,hct⟩: ∃ct,(row5.take j).count (vn:Int)=ct:=⟨_,rfl⟩;have HCT:=Aside0.mk hct
          have hctl:ct≤82:=by
           rw[←hct];refine Nat.le_trans List.count_le_length ?_;rw[List.length_take];have:=HR5.out;have:=HL5.out;omega
          rw[hct];clear hct;by_cases hjl:j< r5
          ·have hj0:(0:Int)≤(j:Int):=by omega
           have hj1:(j:Int)< (r5:Int):=by omega
           obtain⟨ad6,e6,hd6⟩:=Kd.at_int (Kd.F_now HF6.out) (j:Int) hj0 tO;rw[rd_nth,Int.toNat_natCast]at hd6;cases e6
           have HCS:=Aside0.mk (show(row5.take (j+1)).count (vn:Int)=ct+(if nth row5 j=(vn:Int)then 1 else 0)by
            rw[List.take_succ_eq_append_getElem (by rw[HR5.out];exact hjl),List.count_append,HCT.out];congr 1;have h1:j< row5.length:=by rw[HR5.out];exact hjl
            simp[nth,h1,List.count_singleton])
           obtain⟨z,hz⟩: ∃z,nth row5 j=z:=⟨_,rfl⟩;rw[hz]at hd6 HCS;have hwj:IntKind.i64.wrap ((j:Int)+1)=((j+1:Nat):Int):=by rw[iw64 tO (by have:=HL5.out;omega)];omega
           have hwc2:IntKind.i64.wrap ((ct:Int)+1)=((ct+1:Nat):Int):=by rw[iw64 tO tO];omega
           clear hz;by_cases hzv:z=(vn:Int)
           ·subst hzv;go_wp2
            go_roundw
            case rel=>exact⟨j+1,by omega,rfl,by rw[HCS.out,if_pos rfl,Int.natCast_add];rfl,by first|trivial|rfl⟩
            case measure=>simp[intOf];omega
           ·have hzv':(z==(vn:Int))=false:=by simpa using hzv
            have HZV:=Aside0.mk hzv;clear hzv;go_wp2
            go_roundw
            case rel=>exact⟨j+1,by omega,rfl,by rw[HCS.out,if_neg HZV.out];rfl,by first|trivial|rfl⟩
            case measure=>simp[intOf];omega
          ·have hj1: ¬(j:Int)< (r5:Int):=by omega
           have HJ:=Aside0.mk (show row5.count (vn:Int)=ct by
            rw[←HCT.out,List.take_of_length_le (by have:=HR5.out;omega)])
           have hlo:(outTo row5 n k).length=n:=outTo_len row5 n k;have hok:=HOK.out;obtain⟨L,hL⟩: ∃L,outTo row5 n k=L:=⟨_,rfl⟩;rw[hL]at hok hlo;obtain⟨hg1,hg2⟩:=Kd.R_cell (h1:=fun _=>rfl) (enc:=Value.bool) false (show(Kd.scalar Value.bool (fun _=>rfl)).R 4 wr wc.heap.size (fun j=>j=g2) (.slice (some ⟨g2,0,none⟩) L.length cap2) L by rw[hlo];exact hok) (vn:Int) hv0 (by rw[hlo];exact hv1);rw[Int.toNat_natCast]at hg1 hg2;have HOS2:=Aside0.mk (show outTo row5 n (k+1)=(outTo row5 n k).set vn (decide (ct=1))by rw[HOS.out,Int.toNat_natCast,HJ.out]);clear hlo hok hL
           have hce:((ct:Int)==1)=decide (ct=1):=by
            by_cases e:ct=1
            ·subst e;rfl
            ·rw[decide_eq_false e];simp;omega
           go_wp2
           go_roundw
           case rel=>exact⟨k+1,by omega,rfl,⟨by rw[HOS2.out];have h1:=Kd.R_putn HOK.out (vn:Int) (decide (ct=1));rw[Int.toNat_natCast]at h1;exact h1⟩,⟨HBK2.out.setCell HGB.out _⟩⟩
           case measure=>simp[intOf];omega
        ·have hk1: ¬(k:Int)< (r5:Int):=by omega
         have HKR:=Aside0.mk (show k=r5 by omega);go_wp2;go_ret;refine⟨_,rfl,?_,?_⟩
         ·rw[HH.out,←HKR.out];exact Kd.R_mono (Kd.R_lower HOK.out (by have:=HBC.out.size;have:=HN0.out;have:=HBM.out;have:=HBN.out;omega)) (fun _ _=>trivial)
         ·rw[HBM.out];exact(HB.out.trans (HBC.out.mono (by have:=HBN.out;omega))).trans (HBK2.out.mono (by have:=HBC.out.size;have:=HN0.out;have:=HBN.out;omega))
def anyNew (now is_:List Bool):Bool:=(List.range now.length).any fun k=>now.getD k false&&!is_.getD k false
def badN (l:List Cmp) (k:Nat):Nat:=(List.range k).countP fun i=>(l.getD i ([],false)).2
def hurN (is_:List Bool) (k:Nat):Nat:=(List.range k).countP fun i=>is_.getD i false
def supN (p:List Int) (l:List Cmp) (is_:List Bool) (k:Nat):Nat:=(List.range k).countP fun i=>is_.getD i false&&anyNew (hurdF p l (i:Int)) is_
theorem countP_step (f:Nat→Bool) (k:Nat):(List.range (k+1)).countP f=(List.range k).countP f+(if f k=true then 1 else 0):=by
 rw[List.range_succ,List.countP_append,List.countP_singleton]
theorem countP_le (f:Nat→Bool) (k:Nat):(List.range k).countP f≤k:=Nat.le_trans List.countP_le_length tS
def talF (p:List Int) (l:List Cmp):Nat×Nat×Nat×Bool:=
 (l.length,badN l l.length,hurN (hurdF p l (-1)) l.length,decide (hurN (hurdF p l (-1)) l.length % 2=1)&&decide (supN p l (hurdF p l (-1)) l.length=hurN (hurdF p l (-1)) l.length))
theorem hurdF_len (p:List Int) (l:List Cmp) (wo:Int):(hurdF p l wo).length=l.length:=outTo_len _ _ _
structure CmpOk (n:Nat) (l:List Cmp):Prop where
 ne:0< l.length
 len:l.length≤100000
 mem: ∀x,x∈l→x.1.length≤100000∧ ∀y,y∈x.1→0≤y∧y≤(n:Int)
set_option maxRecDepth 100000 in
set_option maxHeartbeats 8000000 in
theorem tallied_calls (b base:Nat) (s:List Int) (hs:s.length≤40) (hms: ∀x,x∈s→x≠0∧ -(s.length:Int)≤x∧x≤s.length) (w:World) (hP:PicOk base b s w) (T:Nat) (hT:T≤100000) (hTot:Tot s.length T (circL s)) (hne:circL s≠ []) (hcm:CmpOk s.length (cmpL s)):
  Calls Try.prog 61 #[.pointer (some ⟨b,0,none⟩)] w fun e w'=>e= .returned (.agg #[.int .i64 ((talF (picL s) (cmpL s)).1:Nat), .int .i64 ((talF (picL s) (cmpL s)).2.1:Nat), .int .i64 ((talF (picL s) (cmpL s)).2.2.1:Nat), .bool (talF (picL s) (cmpL s)).2.2.2])∧Below w.heap.size w w':=by
 have HP:=Aside0.mk hP;have HCM:=Aside0.mk hcm;have HMS:=Aside0.mk hms;unfold talF;simp only;have HCC:=Aside0.mk (fun(W:World) (hW:Below w.heap.size w W)=>components_calls b base s hs hms W (hP.below hW) T hT hTot hne);have HHC:=Aside0.mk (fun(A:Option Addr) (c bl:Nat) (wo:Int) (hwo: -1≤wo∧wo≤100000) (W:World) (hW:Below w.heap.size w W) (hl:Kd.R kCmp 110 W bl (fun _=>True) (.slice A (cmpL s).length c) (cmpL s))=>hurdles_calls b base s hs hms W (hP.below hW) A c (cmpL s) bl hl hcm.ne hcm.len hcm.mem wo hwo);obtain⟨l,hl⟩: ∃l,cmpL s=l:=⟨_,rfl⟩;rw[hl]at HCM HCC HHC ⊢;obtain⟨p,hp⟩: ∃p,picL s=p:=⟨_,rfl⟩;rw[hp]at HHC ⊢;obtain⟨n,hn⟩: ∃n,l.length=n:=⟨_,rfl⟩;have HN:=Aside0.mk hn;rw[hn]at HHC ⊢;have hn0:0< n:=by rw[←hn];exact HCM.out.ne
 have hn1:n≤100000:=by rw[←hn];exact HCM.out.len
 obtain⟨W0,hW0⟩: ∃W0,w.alloc (.cells #[.int .i64 0, .int .i64 0, .int .i64 0, .bool false] 78)=W0:=⟨_,rfl⟩;have hB0:Below w.heap.size w W0:=by rw[←hW0];exact(Below.refl _ w).alloc (Nat.le_refl _) _
 have HB0:=Aside0.mk hB0;have HT0:=Aside0.mk (show Blk W0 w.heap.size #[.int .i64 0, .int .i64 0, .int .i64 0, .bool false] 78 by rw[←hW0];exact Blk.new _ _ _);clear hP hcm hms hTot hne hl hp hn hB0
 go_enter Try.func61,Try.ntmps61
 go_upto_region 1 with fail
 (try rw[hW0]);clear hW0
 go_wp2_with (go_at_call 78;refine stopper ?_)
 (try unfold Hold);refine(HCC.out W0 HB0.out).mono ?_;rintro e w1 ⟨v1,rfl,hv1,hb1⟩;obtain⟨A,c,ev⟩:=Kd.R_slice hv1;rw[HN.out]at ev;subst ev;have HV1:=Aside0.mk hv1;have HB1:=Aside0.mk hb1;clear hv1 hb1
 go_upto_region 3 with fail
 obtain⟨W2,hW2⟩: ∃W2,w1.alloc (.cells #[.int .i64 (n:Int), .int .i64 0, .int .i64 0, .bool false] 78)=W2:=⟨_,rfl⟩;obtain⟨bt,hbt⟩: ∃bt,w1.heap.size=bt:=⟨_,rfl⟩;have HT2:=Aside0.mk (show Blk W2 bt #[.int .i64 (n:Int), .int .i64 0, .int .i64 0, .bool false] 78 by rw[←hW2,←hbt];exact Blk.new _ _ _);have HB2:=Aside0.mk (show Below bt w1 W2 by rw[←hW2,←hbt];exact(Below.refl _ _).alloc (Nat.le_refl _) _);have HBT:=Aside0.mk hbt;have HS2:=Aside0.mk (show W2.heap.size=w1.heap.size+1 by rw[←hW2];simp);(try rw[hW2]);(try rw[hbt]);clear hW2 hbt
 go_wp2_with (go_at_call 79;refine stopper ?_)
 try unfold Hold
 have hsz1:W2.heap.size=bt+1∧w.heap.size< bt∧W0.heap.size≤bt:=by
  have h1:=HT2.out.lt;have h2:=HB1.out.size;have h3:=HT0.out.lt;have h4:=HBT.out;have h5:W2.heap.size=w1.heap.size+1:=HS2.out;exact⟨by omega,by omega,by omega⟩
 have HSZ:=Aside0.mk hsz1;have HBW2:=Aside0.mk (show Below w.heap.size w W2 from(HB0.out.trans (HB1.out.mono (by have:=HT0.out.lt;omega))).trans (HB2.out.mono (by have:=hsz1.2.1;omega)));refine(HHC.out A c W0.heap.size (-1) ⟨by omega,by omega⟩ W2 HBW2.out (Kd.R_below HV1.out (by rw[HBT.out];exact HB2.out))).mono ?_;rintro e w3 ⟨v3,rfl,hv3,hb3⟩;have hil:(hurdF p l (-1)).length=n:=by rw[hurdF_len,HN.out]
 obtain⟨is_,his⟩: ∃is_,hurdF p l (-1)=is_:=⟨_,rfl⟩;rw[his]at hv3 hil;obtain⟨Ai,ci,ev⟩:=Kd.R_slice hv3;rw[hil]at ev;subst ev;have HIL:=Aside0.mk hil;have HIS:=Aside0.mk his;have HLR:=Aside0.mk (fun(W:World) (hr:Rest bt w3 W)=>Kd.R_mono (Kd.R_step (Kd.R_bound (Kd.R_below HV1.out (show Below w1.heap.size w1 W2 by rw[HBT.out];exact HB2.out) |> fun h=>(Kd.R_step (Kd.R_bound HV1.out) (fun k hk hl=>HB2.out.block k (by have:=hk.2.2.1;have:=HBT.out;omega))))) (w1:=W) (fun k hk hl=>(hr.other k (by have:=hb3.size;omega) (by have:=hk.1.2.2.1;have:=HBT.out;omega)).trans (hb3.block k hl))) (fun k _=>trivial) (ok':=fun _=>True));have HIR:=Aside0.mk (fun(W:World) (hr:Rest bt w3 W)=>(Kd.R_reads' (Kd.R_step (Kd.R_bound hv3) (w1:=W) (fun k hk hl=>hr.other k hl (by have:=hk.2.1;have:=HSZ.out;omega)))).2.2);have HBW3:=Aside0.mk (HBW2.out.trans (hb3.mono (by have:=HSZ.out;omega)));have HT3:=Aside0.mk (HT2.out.below hb3 (by have:=HSZ.out;omega));have HR3:=Aside0.mk (show Blk w3 w.heap.size #[.int .i64 0, .int .i64 0, .int .i64 0, .bool false] 78 from((HT0.out.below HB1.out (HT0.out.lt)).below HB2.out (by have:=HSZ.out;omega)).below hb3 (by have:=HSZ.out;omega));have HS3:=Aside0.mk (show bt< w3.heap.size by have:=hb3.size;have:=HSZ.out;omega);clear hv3 hb3 hil his hsz1;go_wp2
 go_loopw [6,21] (fun sv iv wr=> ∃i:Nat,i≤n∧iv= .int .i64 (i:Int)∧sv= .int .i64 ((supN p l is_ i:Nat):Int)∧Aside0 (Blk wr bt #[.int .i64 (n:Int), .int .i64 ((badN l i:Nat):Int), .int .i64 ((hurN is_ i:Nat):Int), .bool false] 78)∧Aside0 (Rest bt w3 wr)) (fun _ iv _=>n - (intOf iv).toNat)
 case atStart=>exact⟨0,Nat.zero_le _,rfl,rfl,HT3,⟨Rest.refl _ _⟩⟩
 case round=>
  obtain⟨i,hi,rfl,rfl,HT,HR⟩:=hrel;by_cases hlt:i< n
  ·have hi0:(0:Int)≤(i:Int):=by omega
   have hi1:(i:Int)< (n:Int):=by omega
   obtain⟨bb,A',c',rfl,_,_,hc0,hc1⟩:=cmp_at (HLR.out wr HR.out) i hlt;have HSB:=Aside0.mk (countP_step (fun i=>(l.getD i ([],false)).2) i);have HSH:=Aside0.mk (countP_step (fun i=>is_.getD i false) i);have HSS:=Aside0.mk (countP_step (fun i=>is_.getD i false&&anyNew (hurdF p l (i:Int)) is_) i);have HLS:=Aside0.mk (show badN l i≤i∧hurN is_ i≤i∧supN p l is_ i≤i from⟨countP_le _ _,countP_le _ _,countP_le _ _⟩);obtain⟨bd,hbd⟩: ∃bd,(l.getD i ([],false)).2=bd:=⟨_,rfl⟩;obtain⟨xn,hxn⟩: ∃xn,(l.getD i ([],false)).1.length=xn:=⟨_,rfl⟩;rw[hxn]at hc0;rw[hbd]at hc1;have HBD:=Aside0.mk hbd;obtain⟨bN,hbN⟩: ∃bN,badN l i=bN:=⟨_,rfl⟩;obtain⟨hN,hhN⟩: ∃hN,hurN is_ i=hN:=⟨_,rfl⟩;obtain⟨sN,hsN⟩: ∃sN,supN p l is_ i=sN:=⟨_,rfl⟩;rw[hbN,hhN,hsN]at HLS;rw[hbN,hhN]at HT;have HBN:=Aside0.mk hbN;have HHN:=Aside0.mk hhN;have HSN:=Aside0.mk hsN;have hls:=HLS.out;have hwb:IntKind.i64.wrap ((bN:Int)+1)=((bN+1:Nat):Int):=by rw[iw64 tO tO];omega
   have hwh:IntKind.i64.wrap ((hN:Int)+1)=((hN+1:Nat):Int):=by rw[iw64 tO tO];omega
   have hws:IntKind.i64.wrap ((sN:Int)+1)=((sN+1:Nat):Int):=by rw[iw64 tO tO];omega
   have hwt:IntKind.i64.wrap ((i:Int)+1)=((i+1:Nat):Int):=by rw[iw64 tO tO];omega
   (try rw[hsN]);clear hbd hxn hbN hhN hsN hls
   go_upto_region 8 with fail
   obtain⟨W5,hW5⟩: ∃W5,wr.alloc (.cells #[.slice A' xn c', .bool bd] 110)=W5:=⟨_,rfl⟩;have hq1:W5.cell? ⟨wr.heap.size,1,none⟩=some (.bool bd):=by rw[←hW5];exact(Blk.new wr _ _).cell 1 rfl
   have HB5:=Aside0.mk (show Below wr.heap.size wr W5 by rw[←hW5];exact(Below.refl _ _).alloc (Nat.le_refl _) _);have HT5:=Aside0.mk (HT.out.below HB5.out HT.out.lt);have HR5:=Aside0.mk (HR.out.of_below HR.out.size HB5.out);(try rw[hW5]);clear hW5 hc0 hc1
   go_upto_if 27 with fail
   go_cut []from 22 to 62 (fun wc=>Aside0 (Blk wc bt #[.int .i64 (n:Int), .int .i64 ((badN l (i+1):Nat):Int), .int .i64 (hN:Int), .bool false] 78)∧Aside0 (Rest bt w3 wc))
   case first=>
    have e0:=HT5.out.cell 1 (v:= .int .i64 (bN:Int)) rfl;have e1:=HT5.out.free 1;have HSB2:=Aside0.mk (show badN l (i+1)=bN+(if bd=true then 1 else 0)by rw[←HBN.out,←HBD.out];exact HSB.out);cases bd with
    |true=>
     go_wp2
     go_meet
     case rel=>exact⟨⟨by rw[HSB2.out];simp only[if_true];exact HT5.out.set 1 _⟩,⟨⟨HR5.out.os,HR5.out.tape,HR5.out.output,by simpa [World.setCell]using HR5.out.size,fun k hk hkb=>(Below.heap_setCell _ _ _ _ hkb).trans (HR5.out.other k hk hkb)⟩⟩⟩
    |false=>
     go_wp2
     go_meet
     case rel=>exact⟨⟨by rw[HSB2.out];exact HT5.out⟩,HR5⟩
   case rest=>
    obtain⟨HTC,HRC⟩:=hcut;obtain⟨ad6,e6,hd6⟩:=Kd.at_bool (HIR.out wc HRC.out) (i:Int) hi0 (by have:=HIL.out;omega);have hgd:rdOf false is_ (i:Int)=is_.getD i false:=by unfold rdOf;rw[Int.toNat_natCast]
    rw[hgd,Int.toNat_natCast]at hd6;subst e6;obtain⟨bi,hbi⟩: ∃bi,is_.getD i false=bi:=⟨_,rfl⟩;rw[hbi]at hd6;have HBI:=Aside0.mk hbi;clear hgd hbi hq1;cases bi with
    |false=>
     have HH1:=Aside0.mk (show hurN is_ (i+1)=hN by rw[←HHN.out];show(List.range (i+1)).countP _=_;rw[HSH.out,HBI.out];rfl);have HS1:=Aside0.mk (show supN p l is_ (i+1)=sN by rw[←HSN.out];show(List.range (i+1)).countP _=_;rw[HSS.out,HBI.out];rfl);go_wp2
     go_roundw
     case rel=>exact⟨i+1,by omega,rfl,by rw[HS1.out],⟨by rw[HH1.out];exact HTC.out⟩,HRC⟩
     case measure=>simp[intOf];omega
    | true=>
     have HH1:=Aside0.mk (show hurN is_ (i+1)=hN+1 by rw[←HHN.out];show(List.range (i+1)).countP _=_;rw[HSH.out,HBI.out];rfl);have HS1:=Aside0.mk (show supN p l is_ (i+1)=sN+(if anyNew (hurdF p l (i:Int)) is_=true then 1 else 0)by rw[←HSN.out];show(List.range (i+1)).countP _=_;rw[HSS.out,HBI.out,Bool.true_and];rfl);have e0:=HTC.out.cell 2 (v:= .int .i64 (hN:Int)) rfl;have e1:=HTC.out.free 2
     go_upto_region 12 with fail
     obtain⟨W6,hW6⟩: ∃W6,wc.setCell ⟨bt,2,none⟩ (.int .i64 ((hN:Int)+1))=W6:=⟨_,rfl⟩;have HT6:=Aside0.mk (show Blk W6 bt #[.int .i64 (n:Int), .int .i64 ((badN l (i+1):Nat):Int), .int .i64 ((hN+1:Nat):Int), .bool false] 78 by rw[←hW6];exact HTC.out.set 2 _)
     have HR6:=Aside0.mk (show Rest bt w3 W6 by
      rw[←hW6]
      exact⟨HRC.out.os,HRC.out.tape,HRC.out.output,by simpa [World.setCell]using HRC.out.size,fun k hk hkb=>(Below.heap_setCell _ _ _ _ hkb).trans (HRC.out.other k hk hkb)⟩)
     have HB6:=Aside0.mk (show Below w.heap.size w W6 from HR6.out.below HBW3.out HBW3.out.size (by have:=HSZ.out;omega));(try rw[hW6]);clear hW6 e0 e1 hd6
     go_wp2_with (go_at_call 79;refine stopper ?_)
     (try unfold Hold);refine(HHC.out (some ⟨bb,0,none⟩) c W0.heap.size (i:Int) ⟨by omega,by omega⟩ W6 HB6.out (HLR.out W6 HR6.out)).mono ?_;rintro e w7 ⟨v7,rfl,hv7,hb7⟩;have hnl:(hurdF p l (i:Int)).length=n:=by rw[hurdF_len,HN.out]
     obtain⟨now,hnow⟩: ∃now,hurdF p l (i:Int)=now:=⟨_,rfl⟩;rw[hnow]at hv7 hnl HS1;obtain⟨Aw,cw,ev⟩:=Kd.R_slice hv7;rw[hnl]at ev;subst ev;have HNC:=Aside0.mk (Kd.R_reads' hv7).2.2;have HNL:=Aside0.mk hnl;have HT7:=Aside0.mk (HT6.out.below hb7 HT6.out.lt);have HR7:=Aside0.mk (HR6.out.of_below HR6.out.size hb7);clear hv7 hb7 hnl hnow;go_wp2;obtain⟨wo_,hwo_⟩: ∃z,z=wr:=⟨_,rfl⟩;subst hwo_
     go_loopw [6,46] (fun sv kv wk=> ∃k:Nat,k≤n∧kv= .int .i64 (k:Int)∧sv= .int .i64 (sN:Int)∧wk=w7∧Aside0 (∀j,j< k→(now.getD j false&&!is_.getD j false)=false)) (fun _ kv _=>n - (intOf kv).toNat)
     case atStart=>exact⟨0,Nat.zero_le _,rfl,rfl,rfl,⟨fun j hj=>absurd hj (Nat.not_lt_zero _)⟩⟩
     case round=>
      obtain⟨k,hk,rfl,rfl,rfl,HA⟩:=hrel;by_cases hkl:k< n
      ·have hk0:(0:Int)≤(k:Int):=by omega
       have hk1:(k:Int)< (n:Int):=by omega
       obtain⟨adw,ew,hdw⟩:=Kd.at_bool HNC.out (k:Int) hk0 (by have:=HNL.out;omega);obtain⟨adi,ei,hdi⟩:=Kd.at_bool (HIR.out wr HR7.out) (k:Int) hk0 (by have:=HIL.out;omega);have hg1:rdOf false now (k:Int)=now.getD k false:=by unfold rdOf;rw[Int.toNat_natCast]
       have hg2:rdOf false is_ (k:Int)=is_.getD k false:=by unfold rdOf;rw[Int.toNat_natCast]
       rw[hg1,Int.toNat_natCast]at hdw;rw[hg2,Int.toNat_natCast]at hdi;subst ew;cases ei;have hwk:IntKind.i64.wrap ((k:Int)+1)=((k+1:Nat):Int):=by rw[iw64 tO tO];omega
       obtain⟨nk,hnk⟩: ∃nk,now.getD k false=nk:=⟨_,rfl⟩;obtain⟨ik,hik⟩: ∃ik,is_.getD k false=ik:=⟨_,rfl⟩;rw[hnk]at hdw;rw[hik]at hdi;have HNK:=Aside0.mk hnk;have HIK:=Aside0.mk hik;clear hg1 hg2 hnk hik;cases nk with
       | false=>
        go_wp2
        go_roundw
        case rel=>exact⟨k+1,by omega,rfl,rfl,by first|trivial|rfl,⟨fun j hj=>by
         by_cases e:j=k
         ·subst e;rw[HNK.out];rfl
         ·exact HA.out j tO⟩⟩
        case measure=>simp[intOf];omega
       | true=>
        cases ik with
        | true=>
         go_wp2
         go_roundw
         case rel=>exact⟨k+1,by omega,rfl,rfl,by first|trivial|rfl,⟨fun j hj=>by
          by_cases e:j=k
          ·subst e;rw[HIK.out];simp
          ·exact HA.out j tO⟩⟩
         case measure=>simp[intOf];omega
        | false=>
         have HAN:=Aside0.mk (show anyNew now is_=true by
          unfold anyNew;rw[List.any_eq_true]
          exact⟨k,List.mem_range.2 (by rw[HNL.out];exact hkl),by rw[HNK.out,HIK.out];rfl⟩)
         go_wp2
         go_roundw
         case rel=>exact⟨i+1,by omega,rfl,by rw[HS1.out,HAN.out];simp,⟨by rw[HH1.out];exact HT7.out⟩,HR7⟩
         case measure=>simp[intOf];omega
      ·have hk1: ¬(k:Int)< (n:Int):=by omega
       have HAN:=Aside0.mk (show anyNew now is_=false by
        unfold anyNew;rw[List.any_eq_false];intro j hj;rw[List.mem_range,HNL.out]at hj;rw[HA.out j tO]
        simp)
       go_wp2
       go_roundw
       case rel=>exact⟨i+1,by omega,rfl,by rw[HS1.out,HAN.out];simp,⟨by rw[HH1.out];exact HT7.out⟩,HR7⟩
       case measure=>simp[intOf];omega
  ·have hi1: ¬(i:Int)< (n:Int):=by omega
   have HIN:=Aside0.mk (show i=n by omega);have hT:=HT.out;rw[HIN.out]at hT ⊢;obtain⟨bN,hbN⟩: ∃bN,badN l n=bN:=⟨_,rfl⟩;obtain⟨hN,hhN⟩: ∃hN,hurN is_ n=hN:=⟨_,rfl⟩;obtain⟨sN,hsN⟩: ∃sN,supN p l is_ n=sN:=⟨_,rfl⟩;have HLS:=Aside0.mk (show hN≤n∧sN≤n from⟨by rw[←hhN];exact countP_le _ _,by rw[←hsN];exact countP_le _ _⟩);have HBN:=Aside0.mk hbN;have HHN:=Aside0.mk (show hurN (hurdF p l (-1)) n=hN by rw[HIS.out];exact hhN);have HSN:=Aside0.mk (show supN p l (hurdF p l (-1)) n=sN by rw[HIS.out];exact hsN);rw[hbN,hhN]at hT;rw[hsN];have HTT:=Aside0.mk hT;have e2:=hT.cell 2 (v:= .int .i64 (hN:Int)) rfl;have e3:=hT.cell 3 (v:= .bool false) rfl;have f3:=hT.free 3;have hR0:Blk wr w.heap.size #[.int .i64 0, .int .i64 0, .int .i64 0, .bool false] 78:=(HR.out.other w.heap.size HR3.out.lt (by have:=HSZ.out;omega)).trans HR3.out;have HR0:=Aside0.mk hR0;have HBW:=Aside0.mk (show Below w.heap.size w wr from HR.out.below HBW3.out HBW3.out.size (by have:=HSZ.out;omega));have hm0:0≤(hN:Int):=by omega
   have hwm:IntKind.i64.wrap ((hN:Int) % 2)=(hN:Int) % 2:=iw64 tO tO;have hwm2:IntKind.i64.wrap ((hN:Int).tmod 2)=(hN:Int) % 2:=by rw[Int.tmod_eq_emod_of_nonneg hm0];exact hwm
   have hne:w.heap.size≠bt:=by have:=HSZ.out;omega
   have HNEQ:=Aside0.mk hne;clear hT hbN hhN hsN hR0;obtain⟨q1,hq1⟩: ∃q1,((hN:Int) % 2==1)=q1:=⟨_,rfl⟩
   have HQ1:=Aside0.mk (show decide (hN % 2=1)=q1 by
    rw[←hq1];by_cases e:hN % 2=1
    ·rw[decide_eq_true e];symm;simp;omega
    ·rw[decide_eq_false e];symm;simp;omega)
   obtain⟨q2,hq2⟩: ∃q2,((sN:Int)==(hN:Int))=q2:=⟨_,rfl⟩
   have HQ2:=Aside0.mk (show decide (sN=hN)=q2 by
    rw[←hq2];by_cases e:sN=hN
    ·rw[decide_eq_true e,e];symm;simp
    ·rw[decide_eq_false e];symm;simp;omega)
   go_upto_region 19 with fail
   cases q1 with
   |false=>
    go_upto_region 20 with fail
    obtain⟨W8,hW8⟩: ∃W8,wr.setCell ⟨bt,3,none⟩ (.bool false)=W8:=⟨_,rfl⟩;have hT8:Blk W8 bt #[.int .i64 (n:Int), .int .i64 (bN:Int), .int .i64 (hN:Int), .bool false] 78:=by rw[←hW8];exact HTT.out.set 3 _
    have HR8:=Aside0.mk (show Blk W8 w.heap.size #[.int .i64 0, .int .i64 0, .int .i64 0, .bool false] 78 by rw[←hW8];exact HR0.out.setOther HNEQ.out _);have HB8:=Aside0.mk (show Below w.heap.size w W8 by rw[←hW8];exact HBW.out.setCell (by have:=HSZ.out;simp only;omega) _);have t0:=hT8.cell 0 (v:= .int .i64 (n:Int)) rfl;have t1:=hT8.cell 1 (v:= .int .i64 (bN:Int)) rfl;have t2:=hT8.cell 2 (v:= .int .i64 (hN:Int)) rfl;have t3:=hT8.cell 3 (v:= .bool false) rfl;have r0:=HR8.out.cell 0 (v:= .int .i64 0) rfl;have r1:=HR8.out.cell 1 (v:= .int .i64 0) rfl;have r2:=HR8.out.cell 2 (v:= .int .i64 0) rfl;have r3:=HR8.out.cell 3 (v:= .bool false) rfl;have g0:=HR8.out.free 0;have g1:=HR8.out.free 1;have g2:=HR8.out.free 2;have g3:=HR8.out.free 3;(try rw[hW8]);clear hW8 hT8 e2 e3 f3 hwm hwm2 hq1 hq2;go_wp2;refine bodyPost_ret (results_cell_row rfl _ _ w.heap.size 78 #[.int .i64 (n:Int), .int .i64 (bN:Int), .int .i64 (hN:Int), .bool false] (0,0) _ rfl (show Blk _ w.heap.size _ 78 from by simpa using(((HR8.out.set 0 (.int .i64 (n:Int))).set 1 (.int .i64 (bN:Int))).set 2 (.int .i64 (hN:Int))).set 3 (.bool false)) Try.underlying78 rfl tK) rfl ⟨by rw[HBN.out,HHN.out,HSN.out,HQ1.out,HQ2.out];simp,(((HB8.out.setCell (Nat.le_refl _) _).setCell (Nat.le_refl _) _).setCell (Nat.le_refl _) _).setCell (Nat.le_refl _) _⟩
   |true=>
    go_upto_region 20 with fail
    obtain⟨W8,hW8⟩: ∃W8,wr.setCell ⟨bt,3,none⟩ (.bool q2)=W8:=⟨_,rfl⟩;have hT8:Blk W8 bt #[.int .i64 (n:Int), .int .i64 (bN:Int), .int .i64 (hN:Int), .bool q2] 78:=by rw[←hW8];exact HTT.out.set 3 _
    have HR8:=Aside0.mk (show Blk W8 w.heap.size #[.int .i64 0, .int .i64 0, .int .i64 0, .bool false] 78 by rw[←hW8];exact HR0.out.setOther HNEQ.out _);have HB8:=Aside0.mk (show Below w.heap.size w W8 by rw[←hW8];exact HBW.out.setCell (by have:=HSZ.out;simp only;omega) _);have t0:=hT8.cell 0 (v:= .int .i64 (n:Int)) rfl;have t1:=hT8.cell 1 (v:= .int .i64 (bN:Int)) rfl;have t2:=hT8.cell 2 (v:= .int .i64 (hN:Int)) rfl;have t3:=hT8.cell 3 (v:= .bool q2) rfl;have r0:=HR8.out.cell 0 (v:= .int .i64 0) rfl;have r1:=HR8.out.cell 1 (v:= .int .i64 0) rfl;have r2:=HR8.out.cell 2 (v:= .int .i64 0) rfl;have r3:=HR8.out.cell 3 (v:= .bool false) rfl;have g0:=HR8.out.free 0;have g1:=HR8.out.free 1;have g2:=HR8.out.free 2;have g3:=HR8.out.free 3;(try rw[hW8]);clear hW8 hT8 e2 e3 f3 hwm hwm2 hq1 hq2;go_wp2;refine bodyPost_ret (results_cell_row rfl _ _ w.heap.size 78 #[.int .i64 (n:Int), .int .i64 (bN:Int), .int .i64 (hN:Int), .bool q2] (0,0) _ rfl (show Blk _ w.heap.size _ 78 from by simpa using(((HR8.out.set 0 (.int .i64 (n:Int))).set 1 (.int .i64 (bN:Int))).set 2 (.int .i64 (hN:Int))).set 3 (.bool q2)) Try.underlying78 rfl tK) rfl ⟨by rw[HBN.out,HHN.out,HSN.out,HQ1.out,HQ2.out];simp,(((HB8.out.setCell (Nat.le_refl _) _).setCell (Nat.le_refl _) _).setCell (Nat.le_refl _) _).setCell (Nat.le_refl _) _⟩
theorem hop_lt {n:Nat} {p pl:List Int} (hp: ∀q,0≤nth p q∧nth p q< 2*(n:Int)+2) (x:Nat):hop p pl x< 2*n+2:=by
 unfold hop;have:=hp ((nth pl (x ^^^ 1)).toNat ^^^ 1);omega
theorem folF_tot {n:Nat} {p pl:List Int} (hp: ∀q,0≤nth p q∧nth p q< 2*(n:Int)+2): ∀(k x:Nat) (seen:List Bool) (out:List Int),x< 2*n+2→seen.length=n+1→(∀y,y∈out→0≤y∧y≤(n:Int))→
  (folF p pl k x seen out).1.length+unseen (folF p pl k x seen out).2=out.length+unseen seen∧(∀y,y∈(folF p pl k x seen out).1→0≤y∧y≤(n:Int))∧out.length≤(folF p pl k x seen out).1.length
 |0,x,seen,out,_,_,ho=>⟨rfl,ho,Nat.le_refl _⟩
 | k+1,x,seen,out,hx,hs,ho=>by
  rw[folF];by_cases hsq:seen.getD (x/2) false=true
  ·rw[if_pos hsq];exact⟨rfl,ho,Nat.le_refl _⟩
  ·rw[if_neg hsq];rw[Bool.not_eq_true]at hsq;have h1:=unseen_set (seen:=seen) (j:=x/2) tO hsq
   obtain⟨i1,i2,i3⟩:=folF_tot hp k (hop p pl x) (seen.set (x/2) true) (out++ [((x/2:Nat):Int)]) (hop_lt hp x) (by rw[List.length_set];exact hs) (fun y hy=>by
    rcases List.mem_append.1 hy with hy|hy
    ·exact ho y hy
    ·rw[List.mem_singleton]at hy;omega)
   refine⟨?_,i2,?_⟩
   ·rw[i1,List.length_append,List.length_singleton];omega
   ·rw[List.length_append,List.length_singleton]at i3;omega
structure CirT (n k:Nat) (st:List Bool×List (List Int)):Prop where
 len:st.1.length=n+1
 sum:(st.2.map List.length).sum+unseen st.1=n+1
 ne: ∀c,c∈st.2→0< c.length
 mem: ∀c,c∈st.2→ ∀x,x∈c→0≤x∧x≤(n:Int)
theorem cirTo_tot {n:Nat} {p pl:List Int} (hp: ∀q,0≤nth p q∧nth p q< 2*(n:Int)+2): ∀k,k≤n+1→CirT n k (cirTo p pl n k)
 |0,_=>by
  refine⟨by simp[cirTo],?_,fun c hc=>?_,fun c hc=>?_⟩
  ·simp[cirTo,unseen,List.countP_replicate]
  ·simp[cirTo]at hc
  ·simp[cirTo]at hc
 | k+1,hk=>by
  have h:CirT n k (cirTo p pl n k):=cirTo_tot hp k tO;rw[cirTo_step];unfold cirStep;by_cases hsq:(cirTo p pl n k).1.getD k false=true
  ·rw[if_pos hsq];exact⟨h.len,h.sum,h.ne,h.mem⟩
  ·rw[if_neg hsq];obtain⟨st,hst⟩: ∃st,cirTo p pl n k=st:=⟨_,rfl⟩;rw[hst]at h hsq ⊢;obtain⟨i1,i2,i3⟩:=folF_tot (pl:=pl) hp (unseen st.1+1) (2*k) st.1 [] tO h.len (fun y hy=>by cases hy);rw[Bool.not_eq_true]at hsq
   have hpos:0< (folF p pl (unseen st.1+1) (2*k) st.1 []).1.length:=by
    have e:folF p pl (unseen st.1+1) (2*k) st.1 []=folF p pl (unseen st.1) (hop p pl (2*k)) (st.1.set k true) ([]++ [((k:Nat):Int)]):=by
     rw[folF,show 2*k/2=k by omega,if_neg (by rw[hsq];simp)]
    have:=(folF_tot (pl:=pl) hp (unseen st.1) (hop p pl (2*k)) (st.1.set k true) ([]++ [((k:Nat):Int)]) (hop_lt hp _) (by rw[List.length_set];exact h.len) (fun y hy=>by simp at hy;omega)).2.2;rw[←e]at this;simp only[List.nil_append,List.length_singleton]at this;exact this
   refine⟨by simp only;rw[folF_len];exact h.len,?_,fun c hc=>?_,fun c hc=>?_⟩
   ·simp only[List.map_append,List.map_cons,List.map_nil,List.sum_append,List.sum_cons,List.sum_nil,sortL_len];have h2:=h.sum;simp only[List.length_nil,Nat.zero_add]at i1;omega
   ·rcases List.mem_append.1 hc with hc|hc
    ·exact h.ne c hc
    ·rw[List.mem_singleton]at hc;rw[hc,sortL_len];exact hpos
   ·rcases List.mem_append.1 hc with hc|hc
    ·exact h.mem c hc
    ·rw[List.mem_singleton]at hc;rw[hc];intro x hx;exact i2 x ((List.mergeSort_perm ..).mem_iff.1 hx)
theorem circL_tot {s:List Int} (hm: ∀x,x∈s→x≠0∧ -(s.length:Int)≤x∧x≤s.length):Tot s.length (s.length+1) (circL s):=by
 have h:=cirTo_tot (pl:=plL s) (picL_range s hm) (s.length+1) (Nat.le_refl _);exact⟨h.ne,h.mem,by have:=h.sum;unfold circL;omega⟩
theorem circL_ne {s:List Int} :circL s≠ []:=by
 have hmono: ∀k,(cirTo (picL s) (plL s) s.length (k+1)).2≠ []:=by
  intro k
  induction k with
  |zero=>
   rw[cirTo_step];unfold cirStep;rw[if_neg (by simp[cirTo,List.getD_eq_getElem?_getD])];simp
  |succ k ih=>
   rw[cirTo_step];unfold cirStep
   split
   ·exact ih
   ·simp
 exact hmono s.length
theorem growF_ok {n T:Nat} (pl:List Int): ∀(k:Nat) (own:List Int) (bad:Bool) (cs:List (List Int)),(∀x,x∈own→0≤x∧x≤(n:Int))→own.length≤T→Tot n (T - own.length) cs→
  (∀x,x∈(growF pl k (own,bad) cs).1.1→0≤x∧x≤(n:Int))∧(growF pl k (own,bad) cs).1.1.length≤T∧Tot n (T - (growF pl k (own,bad) cs).1.1.length) (growF pl k (own,bad) cs).2∧(growF pl k (own,bad) cs).2.length≤cs.length
 |0,own,bad,cs,h1,h2,h3=>⟨h1,h2,h3,Nat.le_refl _⟩
 | k+1,own,bad,cs,h1,h2,h3=>by
  rw[growF];by_cases hlt:idxI (joinedB pl own) cs< 0
  ·rw[if_pos hlt];exact⟨h1,h2,h3,Nat.le_refl _⟩
  ·rw[if_neg hlt];obtain⟨hk,_⟩:=idxI_lt hlt;obtain⟨j,hj⟩: ∃j,(idxI (joinedB pl own) cs).toNat=j:=⟨_,rfl⟩;simp only;rw[hj]at hk ⊢;have he:=h3.erase j hk;have hm:=h3.mem _ (getD_mem (z:= []) hk)
   have ih:=growF_ok (n:=n) (T:=T) pl k (own++cs.getD j []) (bad||decide (1< (cs.getD j []).length)) (cs.eraseIdx j) (fun x hx=>by
    rcases List.mem_append.1 hx with hx|hx
    ·exact h1 x hx
    ·exact hm x hx) (by rw[List.length_append];omega) (by rw[List.length_append,←Nat.sub_sub];exact he.1)
   refine⟨ih.1,ih.2.1,ih.2.2.1,?_⟩;have h4:=ih.2.2.2;rw[List.length_eraseIdx_of_lt hk]at h4;omega
theorem cmpF_ok {n T:Nat} (pl:List Int): ∀(k:Nat) (cs:List (List Int)) (out:List Cmp),Tot n T cs→(∀x,x∈out→x.1.length≤T∧ ∀y,y∈x.1→0≤y∧y≤(n:Int))→
  (∀x,x∈cmpF pl k cs out→x.1.length≤T∧ ∀y,y∈x.1→0≤y∧y≤(n:Int))∧(cmpF pl k cs out).length≤out.length+cs.length∧out.length≤(cmpF pl k cs out).length
 |0,cs,out,h1,h2=>⟨h2,Nat.le_add_right _ _,Nat.le_refl _⟩
 |k+1, [],out,h1,h2=>⟨h2,Nat.le_refl _,Nat.le_refl _⟩
 | k+1,c::r,out,h1,h2=>by
  rw[cmpF];have hg:=growF_ok (n:=n) (T:=T) pl r.length c (decide (1< c.length)) r (h1.mem c tS) h1.tail.2 h1.tail.1;obtain⟨G,hG⟩: ∃G,growF pl r.length (c,decide (1< c.length)) r=G:=⟨_,rfl⟩;rw[hG]at hg ⊢
  have ih:=cmpF_ok (n:=n) (T:=T) pl k G.2 (out++ [(G.1.1,G.1.2&&!G.1.1.any (turnedB pl))]) ⟨hg.2.2.1.ne,hg.2.2.1.mem,by have:=hg.2.2.1.sum;omega⟩ (fun x hx=>by
   rcases List.mem_append.1 hx with hx|hx
   ·exact h2 x hx
   ·rw[List.mem_singleton]at hx;rw[hx]
    exact⟨hg.2.1,hg.1⟩)
  refine⟨ih.1,?_,?_⟩
  ·have h3:=ih.2.1;rw[List.length_append,List.length_singleton]at h3;rw[List.length_cons];have:=hg.2.2.2;omega
  ·have h3:=ih.2.2;rw[List.length_append,List.length_singleton]at h3;omega
theorem cmpL_ok {s:List Int} (hs:s.length≤40) (hm: ∀x,x∈s→x≠0∧ -(s.length:Int)≤x∧x≤s.length):CmpOk s.length (cmpL s)∧(cmpL s).length≤41:=by
 have ht:=circL_tot hm;have hl:=ht.len;unfold cmpL;have h:=cmpF_ok (n:=s.length) (T:=s.length+1) (plL s) (circL s).length (circL s) [] ht (fun x hx=>by cases hx)
 obtain⟨c,r,hc⟩: ∃c r,circL s=c::r:=by
  cases hcs:circL s with
  |nil=>exact absurd hcs circL_ne
  |cons c r=>exact⟨c,r,rfl⟩
 refine⟨⟨?_,?_,fun x hx=>⟨by have:=(h.1 x hx).1;omega,(h.1 x hx).2⟩⟩,?_⟩
 ·rw[hc,List.length_cons,cmpF];have hg:=growF_ok (n:=s.length) (T:=s.length+1) (plL s) r.length c (decide (1< c.length)) r (ht.mem c (by rw[hc];simp)) (by have:=ht;rw[hc]at this;exact this.tail.2) (by have:=ht;rw[hc]at this;exact this.tail.1);obtain⟨G,hG⟩: ∃G,growF (plL s) r.length (c,decide (1< c.length)) r=G:=⟨_,rfl⟩;rw[hG]at hg ⊢;have h5:=(cmpF_ok (n:=s.length) (T:=s.length+1) (plL s) r.length G.2 ([]++ [(G.1.1,G.1.2&&!G.1.1.any (turnedB (plL s)))]) ⟨hg.2.2.1.ne,hg.2.2.1.mem,by have:=hg.2.2.1.sum;omega⟩ (fun x hx=>by simp at hx;rw[hx];exact⟨hg.2.1,hg.1⟩)).2.2;simp only[List.nil_append,List.length_singleton]at h5 ⊢;omega
 ·have:=h.2.1;simp only[List.length_nil]at this;omega
 ·have:=h.2.1;simp only[List.length_nil]at this;omega
theorem results_tmp5 {fn:Func} {t u v x y:Tmp} (h:fn.results= #[.tmp t, .tmp u, .tmp v, .tmp x, .tmp y]) (tmps:Array Value) (P:Program) (w:World):
  (results fn tmps).run P w= .ok (.tuple #[tmps.getD t undef,tmps.getD u undef,tmps.getD v undef,tmps.getD x undef,tmps.getD y undef]) w:=by
 simp[results,h]
theorem tal_calls (b base:Nat) (s:List Int) (hs:s.length≤40) (hm: ∀x,x∈s→x≠0∧ -(s.length:Int)≤x∧x≤s.length) (w:World) (hP:PicOk base b s w):
  Calls Try.prog 61 #[.pointer (some ⟨b,0,none⟩)] w fun e w'=>e= .returned (.agg #[.int .i64 ((talF (picL s) (cmpL s)).1:Nat), .int .i64 ((talF (picL s) (cmpL s)).2.1:Nat), .int .i64 ((talF (picL s) (cmpL s)).2.2.1:Nat), .bool (talF (picL s) (cmpL s)).2.2.2])∧Below w.heap.size w w':=
 tallied_calls b base s hs hm w hP (s.length+1) tO (circL_tot hm) circL_ne (cmpL_ok hs hm).1
def pancake_Distance.f (l0:List Int):Option (Int×Int):=some (if isSt true 40 l0=true then((l0.length:Int)+1 - ((circL l0).length:Int)+(((talF (picL l0) (cmpL l0)).2.2.1:Nat):Int)+(if(talF (picL l0) (cmpL l0)).2.2.2=true then 1 else 0),0)else(0,70))
set_option maxRecDepth 100000 in
set_option maxHeartbeats 4000000 in
theorem pancake_Distance.calls (A0:Option Addr) (c0:Nat) (l0:List Int) (r1 r2:Int) (w:World) (hr0:Kd.C (Kd.int .i64) w A0 l0.length l0) (hc0:l0.length≤c0) (h:pancake_Distance.f l0=some (r1,r2)):
  Calls Try.prog 23 #[.slice A0 l0.length c0] w fun e w'=>e= .returned (.tuple #[.int .i64 r1, .int .i64 r2])∧Below w.heap.size w w':=by
 have HC:=Aside0.mk (check55_one A0 c0 l0 w hr0 hc0);have HR0:=Aside0.mk hr0;clear hr0;unfold pancake_Distance.f at h;unfold chk1 at HC
 go_enter Try.func23,Try.ntmps23
 by_cases hst:isSt true 40 l0=true
 ·rw[if_pos hst]at h HC;have HRG:=Aside0.mk (isSt_range hst);have HSM:=Aside0.mk (isSt_small hst tD);clear hst
  go_wp2_with (go_at_call 55;refine stopper ?_)
  (try unfold Hold);refine HC.out.mono ?_;rintro e w1 ⟨rfl,hb⟩;have HB1:=Aside0.mk hb;clear hb
  go_wp2_with (go_at_call 60;refine stopper ?_)
  (try unfold Hold);refine(pictured_calls A0 c0 l0 w1 (Kd.C_below HR0.out HB1.out) HSM.out.2.1 HRG.out).mono ?_;rintro e w2 ⟨rfl,hp,hb⟩;have HB2:=Aside0.mk (HB1.out.trans (hb.mono HB1.out.size));have HP:=Aside0.mk hp;clear hb hp
  go_wp2_with (go_at_call 61;refine stopper ?_)
  (try unfold Hold);refine(tal_calls _ _ l0 HSM.out.2.1 HRG.out w2 HP.out).mono ?_;rintro e w3 ⟨rfl,hb⟩;have hcl:=(circL_tot HRG.out).len;have hct:=(cmpL_ok HSM.out.2.1 HRG.out).2;have hhn:(talF (picL l0) (cmpL l0)).2.2.1≤(cmpL l0).length:=countP_le _ _;obtain⟨R,hR⟩: ∃R,talF (picL l0) (cmpL l0)=R:=⟨_,rfl⟩;rw[hR]at h hhn ⊢;obtain⟨cN,bN,hN,ft⟩:=R;simp only at h hhn ⊢;obtain⟨cl,hcle⟩: ∃cl,(circL l0).length=cl:=⟨_,rfl⟩;rw[hcle]at h hcl;obtain⟨n,hn⟩: ∃n,l0.length=n:=⟨_,rfl⟩;have HN:=Aside0.mk hn;have hn40:n≤40:=by have:=HSM.out.2.1;omega
  have hclb:cl≤n+1:=by omega
  have hhb:hN≤41:=by omega
  have HCL:=Aside0.mk (And.intro hcle hclb);rw[hn]at h ⊢;have HH:=Aside0.mk h;obtain⟨W4,hW4⟩: ∃W4,w3.alloc (.cells #[.int .i64 (cN:Int), .int .i64 (bN:Int), .int .i64 (hN:Int), .bool ft] 78)=W4:=⟨_,rfl⟩;obtain⟨bt,hbt⟩: ∃bt,w3.heap.size=bt:=⟨_,rfl⟩;have hB4:Below w3.heap.size w3 W4:=by rw[←hW4];exact(Below.refl _ _).alloc (Nat.le_refl _) _
  have hT:Blk W4 bt #[.int .i64 (cN:Int), .int .i64 (bN:Int), .int .i64 (hN:Int), .bool ft] 78:=by rw[←hW4,←hbt];exact Blk.new _ _ _
  have HLT4:=Aside0.mk hT.lt;have HP4:=Aside0.mk ((HP.out.below hb).below hB4);have HB4:=Aside0.mk ((HB2.out.trans (hb.mono HB2.out.size)).trans (hB4.mono (by have:=HB2.out.size;have:=hb.size;omega)));have k2:=hT.cell 2 (v:= .int .i64 (hN:Int)) rfl;have k3:=hT.cell 3 (v:= .bool ft) rfl;clear hb hR hhn hcle hcl hct hn h hB4 hT;have hw1:IntKind.i64.wrap ((n:Int)+1)=(n:Int)+1:=iw64 tO tO;have hw2:IntKind.i64.wrap ((n:Int)+1 - (cl:Int))=(n:Int)+1 - (cl:Int):=iw64 tO tO;have hw3:IntKind.i64.wrap ((n:Int)+1 - (cl:Int)+(hN:Int))=(n:Int)+1 - (cl:Int)+(hN:Int):=iw64 tO tO;have hw4:IntKind.i64.wrap ((n:Int)+1 - (cl:Int)+(hN:Int)+1)=(n:Int)+1 - (cl:Int)+(hN:Int)+1:=iw64 tO tO
  go_upto_region 6 with fail
  (try rw[hW4]);(try rw[hbt]);clear hW4 hbt;refine start_ (n:=11) (S:=fun w'=>w'.cell? ⟨bt,2,none⟩=some (.int .i64 (hN:Int))) (ds:= []) #[false,false,false,false,false,false,false,false,false,false,false] tK rfl rfl k2 (fun hHeld=>?_);refine puA 0 (some 17) ?_;refine puA 1 (some 18) ?_;refine puA 2 (some 19) ?_;refine puA 3 (some 20) ?_;refine puA 7 (some 24) ?_;refine take_ (i:=8) (N:=(some 25)) (v:=?_) (a':=?_) #[true,true,true,true,false,false,false,true,true,false,false] rfl rfl tK (fun _ _ _ h=>h) (Or.inl ⟨by rfl,?_⟩) hHeld ?_ ?_;rotate_left
  ·rintro w' s0;go_simp;with_reducible rfl
  rotate_left
  ·simp only[Act.put,List.setIfInBounds_toArray,List.set_cons_zero,List.set_cons_succ];rfl
  refine one_ (i:=4) (N:=(some 21)) #[true,true,true,true,true,false,false,true,true,false,false] rfl rfl tK tD (fun K hK=>?_);refine goes_ Try.func62 tK rfl #[.pointer (some ⟨w1.heap.size+1,0,none⟩)] (by rfl) rfl rfl tN ?_;refine(circles_calls _ _ l0 HSM.out.2.1 HRG.out W4.drew (HP4.out.below (Below.refl _ _).drew)).mono ?_;rintro e w5 ⟨v5,rfl,hv5,hb5⟩;obtain⟨A5,c5,ev⟩:=Kd.S_slice hv5;rw[HCL.out.1]at ev;subst ev;refine⟨_,rfl,?_⟩;refine hK.out _ _ (by rw[hb5.cell (World.block_lt_of_cell? _ _ hHeld)];exact hHeld) (fun hHeld=>?_);have HB5:=Aside0.mk (show Below w.heap.size w w5 from HB4.out.trans ((Below.refl w.heap.size W4).drew.trans (hb5.mono HB4.out.size)));have k3':w5.cell? ⟨bt,3,none⟩=some (.bool ft):=by rw[hb5.cell (show bt< W4.drew.heap.size from HLT4.out)];exact k3
  clear hK K hb5 hv5;refine norm_ (a':=?_) ?_ ?_;rotate_left
  ·show Act.put _ (some 21) _=_;simp only[Act.put,List.setIfInBounds_toArray,List.set_cons_zero,List.set_cons_succ];rfl
  refine puA 5 (some 22) ?_;refine puA 6 (some 23) ?_;refine puA 9 (some 26) ?_;refine puA 10 (some 7) ?_;refine done_ tK ?_;cases ft with
  |true=>
   have h:=HH.out;simp only[if_true,Option.some.injEq,Prod.mk.injEq]at h;obtain⟨rfl,rfl⟩:=h;go_wp2;refine bodyPost_ret (results_tmp2 rfl _ _ _) rfl ⟨rfl,HB5.out⟩
  |false=>
   have h:=HH.out;simp only[Bool.false_eq_true,if_false,Option.some.injEq,Prod.mk.injEq,Int.add_zero]at h;obtain⟨rfl,rfl⟩:=h;go_wp2;refine bodyPost_ret (results_tmp2 rfl _ _ _) rfl ⟨rfl,HB5.out⟩
 ·rw[if_neg hst]at h HC;cases h;clear hst
  go_wp2_with (go_at_call 55;refine stopper ?_)
  (try unfold Hold);refine HC.out.mono ?_;rintro e w1 ⟨rfl,hb⟩;have HB1:=Aside0.mk hb;clear hb;go_wp2;refine bodyPost_ret (results_tmp2 rfl _ _ _) rfl ⟨rfl,HB1.out⟩
def pancake_Components.f (l0:List Int):Option (Int×Int×Int×Bool×Int):=some (if isSt true 40 l0=true then(((talF (picL l0) (cmpL l0)).1:Nat),((talF (picL l0) (cmpL l0)).2.1:Nat),((talF (picL l0) (cmpL l0)).2.2.1:Nat),(talF (picL l0) (cmpL l0)).2.2.2,0)else(0,0,0,false,70))
set_option maxRecDepth 100000 in
set_option maxHeartbeats 4000000 in
theorem pancake_Components.calls (A0:Option Addr) (c0:Nat) (l0:List Int) (r1 r2 r3:Int) (r4:Bool) (r5:Int) (w:World) (hr0:Kd.C (Kd.int .i64) w A0 l0.length l0) (hc0:l0.length≤c0) (h:pancake_Components.f l0=some (r1,r2,r3,r4,r5)):
  Calls Try.prog 22 #[.slice A0 l0.length c0] w fun e w'=>e= .returned (.tuple #[.int .i64 r1, .int .i64 r2, .int .i64 r3, .bool r4, .int .i64 r5])∧Below w.heap.size w w':=by
 have HC:=Aside0.mk (check55_one A0 c0 l0 w hr0 hc0);have HR0:=Aside0.mk hr0;clear hr0;unfold pancake_Components.f at h;unfold chk1 at HC
 go_enter Try.func22,Try.ntmps22
 by_cases hst:isSt true 40 l0=true
 ·rw[if_pos hst]at h HC;have HRG:=Aside0.mk (isSt_range hst);have HSM:=Aside0.mk (isSt_small hst tD);clear hst
  go_wp2_with (go_at_call 55;refine stopper ?_)
  (try unfold Hold);refine HC.out.mono ?_;rintro e w1 ⟨rfl,hb⟩;have HB1:=Aside0.mk hb;clear hb
  go_wp2_with (go_at_call 60;refine stopper ?_)
  (try unfold Hold);refine(pictured_calls A0 c0 l0 w1 (Kd.C_below HR0.out HB1.out) HSM.out.2.1 HRG.out).mono ?_;rintro e w2 ⟨rfl,hp,hb⟩;have HB2:=Aside0.mk (HB1.out.trans (hb.mono HB1.out.size));have HP:=Aside0.mk hp;clear hb hp
  go_wp2_with (go_at_call 61;refine stopper ?_)
  (try unfold Hold);refine(tal_calls _ _ l0 HSM.out.2.1 HRG.out w2 HP.out).mono ?_;rintro e w3 ⟨rfl,hb⟩;obtain⟨R,hR⟩: ∃R,talF (picL l0) (cmpL l0)=R:=⟨_,rfl⟩;rw[hR]at h ⊢;obtain⟨cN,bN,hN,ft⟩:=R;simp only at h ⊢;obtain⟨n,hn⟩: ∃n,l0.length=n:=⟨_,rfl⟩;rw[hn];have HH:=Aside0.mk h;obtain⟨W4,hW4⟩: ∃W4,w3.alloc (.cells #[.int .i64 (cN:Int), .int .i64 (bN:Int), .int .i64 (hN:Int), .bool ft] 78)=W4:=⟨_,rfl⟩;obtain⟨bt,hbt⟩: ∃bt,w3.heap.size=bt:=⟨_,rfl⟩;have hB4:Below w3.heap.size w3 W4:=by rw[←hW4];exact(Below.refl _ _).alloc (Nat.le_refl _) _
  have hT:Blk W4 bt #[.int .i64 (cN:Int), .int .i64 (bN:Int), .int .i64 (hN:Int), .bool ft] 78:=by rw[←hW4,←hbt];exact Blk.new _ _ _
  have HB4:=Aside0.mk ((HB2.out.trans (hb.mono HB2.out.size)).trans (hB4.mono (by have:=HB2.out.size;have:=hb.size;omega)));have k0:=hT.cell 0 (v:= .int .i64 (cN:Int)) rfl;have k1:=hT.cell 1 (v:= .int .i64 (bN:Int)) rfl;have k2:=hT.cell 2 (v:= .int .i64 (hN:Int)) rfl;have k3:=hT.cell 3 (v:= .bool ft) rfl;clear hb hR hn h hB4 hT
  go_upto_region 5 with fail
  (try rw[hW4]);(try rw[hbt]);clear hW4 hbt;refine start_ (n:=13) (S:=fun w'=>w'.cell? ⟨bt,0,none⟩=some (.int .i64 (cN:Int))∧w'.cell? ⟨bt,1,none⟩=some (.int .i64 (bN:Int))∧w'.cell? ⟨bt,2,none⟩=some (.int .i64 (hN:Int))∧w'.cell? ⟨bt,3,none⟩=some (.bool ft)) (ds:= []) #[false,false,false,false,false,false,false,false,false,false,false,false,false] tK rfl rfl ⟨k0,k1,k2,k3⟩ (fun hHeld=>?_);refine puA 0 (some 17) ?_;refine take_ (i:=1) (N:=(some 18)) (v:=?_) (a':=?_) #[true,true,false,false,false,false,false,false,false,false,false,false,false] rfl rfl tK (fun _ _ _ h=>h) (Or.inl ⟨by rfl,?_⟩) hHeld ?_ ?_;rotate_left
  ·rintro w' ⟨s0,s1,s2,s3⟩;go_simp;with_reducible rfl
  rotate_left
  ·simp only[Act.put,List.setIfInBounds_toArray,List.set_cons_zero,List.set_cons_succ];rfl
  refine puA 2 (some 19) ?_;refine take_ (i:=3) (N:=(some 20)) (v:=?_) (a':=?_) #[true,true,true,true,false,false,false,false,false,false,false,false,false] rfl rfl tK (fun _ _ _ h=>h) (Or.inl ⟨by rfl,?_⟩) hHeld ?_ ?_;rotate_left
  ·rintro w' ⟨s0,s1,s2,s3⟩;go_simp;with_reducible rfl
  rotate_left
  ·simp only[Act.put,List.setIfInBounds_toArray,List.set_cons_zero,List.set_cons_succ];rfl
  refine puA 4 (some 21) ?_;refine take_ (i:=5) (N:=(some 22)) (v:=?_) (a':=?_) #[true,true,true,true,true,true,false,false,false,false,false,false,false] rfl rfl tK (fun _ _ _ h=>h) (Or.inl ⟨by rfl,?_⟩) hHeld ?_ ?_;rotate_left
  ·rintro w' ⟨s0,s1,s2,s3⟩;go_simp;with_reducible rfl
  rotate_left
  ·simp only[Act.put,List.setIfInBounds_toArray,List.set_cons_zero,List.set_cons_succ];rfl
  refine puA 6 (some 23) ?_;refine take_ (i:=7) (N:=(some 24)) (v:=?_) (a':=?_) #[true,true,true,true,true,true,true,true,false,false,false,false,false] rfl rfl tK (fun _ _ _ h=>h) (Or.inl ⟨by rfl,?_⟩) hHeld ?_ ?_;rotate_left
  ·rintro w' ⟨s0,s1,s2,s3⟩;go_simp;with_reducible rfl
  rotate_left
  ·simp only[Act.put,List.setIfInBounds_toArray,List.set_cons_zero,List.set_cons_succ];rfl
  refine puA 8 (some 2) ?_;refine puA 9 (some 3) ?_;refine puA 10 (some 4) ?_;refine puA 11 (some 5) ?_;refine puA 12 (some 6) ?_;refine done_ tK ?_;have h:=HH.out;simp only[Option.some.injEq,Prod.mk.injEq]at h;obtain⟨rfl,rfl,rfl,rfl,rfl⟩:=h;go_wp2;refine bodyPost_ret (results_tmp5 rfl _ _ _) rfl ⟨rfl,HB4.out.drew⟩
 ·rw[if_neg hst]at h HC;cases h;clear hst
  go_wp2_with (go_at_call 55;refine stopper ?_)
  (try unfold Hold);refine HC.out.mono ?_;rintro e w1 ⟨rfl,hb⟩;have HB1:=Aside0.mk hb;clear hb;go_wp2;refine bodyPost_ret (results_tmp5 rfl _ _ _) rfl ⟨rfl,HB1.out⟩
theorem nodup_count {n:Nat} {M:Km} {vis L:List (List Int)} (hv:vis.Nodup) (hm: ∀x,x∈vis→(M x).isSome=true) (hval: ∀x,(M x).isSome=true→Vs n x):vis.length≤15^n:=vs_count hv (fun x hx=>hval x (hm x hx))
set_option maxRecDepth 100000 in
set_option maxHeartbeats 8000000 in
theorem worst_calls (n:Nat) (hn:n≤7) (sg:Bool) (w:World):
  Calls Try.prog 72 #[.agg #[.int .i64 n, .bool sg, .bool false]] w fun e w'=>e= .returned (.tuple #[.int .i64 ((wrst n sg).1:Nat), .int .i64 ((wrst n sg).2:Nat)])∧Below w.heap.size w w':=by
 obtain⟨W0,hW0⟩: ∃W0,w.alloc (.cells #[.int .i64 n, .bool sg, .bool false] 88)=W0:=⟨_,rfl⟩;have hB:Below w.heap.size w W0:=by rw[←hW0];exact(Below.refl _ w).alloc (Nat.le_refl _) _
 have h0:Blk W0 w.heap.size #[.int .i64 n, .bool sg, .bool false] 88:=by rw[←hW0];exact Blk.new _ _ _
 have k0:=h0.cell 0 (v:= .int .i64 n) rfl;have k1:=h0.cell 1 (v:= .bool sg) rfl;have k2:=h0.cell 2 (v:= .bool false) rfl;clear h0
 go_enter Try.func72,Try.ntmps72
 go_upto_region 2 with fail
 (try rw[hW0]);clear hW0;refine start_ (n:=5) (S:=fun w'=>w'.cell? ⟨w.heap.size,0,none⟩=some (.int .i64 (n:Int))∧w'.cell? ⟨w.heap.size,1,none⟩=some (.bool sg)∧w'.cell? ⟨w.heap.size,2,none⟩=some (.bool false)) (ds:= [4]) #[false,false,false,false,false] tK rfl rfl ⟨k0,k1,k2⟩ (fun hHeld=>?_);have HB0:=Aside0.mk hB.drew;clear hB;generalize W0.drew=Wd at hHeld HB0 ⊢;clear k0 k1 k2;refine take_ (i:=0) (N:=(some 8)) (v:=?_) (a':=?_) #[true,false,false,false,false] rfl rfl tK (fun _ _ _ h=>h) (Or.inl ⟨by rfl,?_⟩) hHeld ?_ ?_;rotate_left
 ·rintro w' ⟨s0,s1,s2⟩;go_simp;with_reducible rfl
 rotate_left
 ·simp only[Act.put,List.setIfInBounds_toArray,List.set_cons_zero,List.set_cons_succ];rfl
 refine take_ (i:=1) (N:=(some 9)) (v:=?_) (a':=?_) #[true,true,false,false,false] rfl rfl tK (fun _ _ _ h=>h) (Or.inl ⟨by rfl,?_⟩) hHeld ?_ ?_;rotate_left
 ·rintro w' ⟨s0,s1,s2⟩;go_simp;with_reducible rfl
 rotate_left
 ·simp only[Act.put,List.setIfInBounds_toArray,List.set_cons_zero,List.set_cons_succ];rfl
 refine one_ (i:=2) (N:=(some 10)) #[true,true,true,false,false] rfl rfl tK tD (fun K hK=>?_);refine goes_ Try.func85 tK rfl #[.agg #[.int .i64 n, .bool sg, .bool false]] (by rfl) rfl rfl tN ?_;refine(first_calls n hn sg false Wd).mono ?_;rintro e w1 ⟨rfl,hb⟩;refine⟨_,rfl,?_⟩;obtain⟨fm,hfm⟩: ∃fm,nth (firstL n)=fm:=⟨_,rfl⟩;rw[hfm];have HFM:=Aside0.mk hfm;clear hfm;have HB1:=Aside0.mk (HB0.out.trans (hb.mono HB0.out.size));have hcc: ∀(p:Addr) v,Wd.cell? p=some v→w1.cell? p=some v:=fun p v hp=>by rw[hb.cell (p:=p) (World.block_lt_of_cell? _ _ hp)];exact hp
 refine hK.out _ _ ⟨hcc _ _ hHeld.1,hcc _ _ hHeld.2.1,hcc _ _ hHeld.2.2⟩ (fun hHeld=>?_);clear hcc hK K hb;simp only[stk];refine norm_ (a':=?_) ?_ ?_;rotate_left
 ·show Act.put _ (some 10) _=_;simp only[Act.put,List.setIfInBounds_toArray,List.set_cons_zero,List.set_cons_succ];rfl
 refine one_ (i:=3) (N:=(some 11)) #[true,true,true,true,false] rfl rfl tK tD (fun K hK=>?_);refine goes_ Try.func84 tK rfl #[.agg #[.int .i64 n, .bool sg, .bool false], .agg (stk fm), .pointer none] (by rfl) rfl rfl tN ?_;rw[←HFM.out];refine(search_calls n sg false hn (firstL n) (vs_firstL hn) none (.pointer none) w1 (.inl ⟨rfl,rfl⟩)).mono ?_;rintro e w2 ⟨rfl,M,k,L,hF,hk,h7,hb⟩;refine⟨_,rfl,?_⟩;obtain⟨bm,hbm⟩: ∃bm,w1.heap.size+2=bm:=⟨_,rfl⟩;rw[hbm]at hk h7 ⊢;have HBM:=Aside0.mk (show w.heap.size≤bm by have:=HB1.out.size;omega);have HF:=Aside0.mk hF;have HKN:=Aside0.mk hk;have HB2:=Aside0.mk (HB1.out.trans (hb.mono HB1.out.size));have hcc: ∀(p:Addr) v,w1.cell? p=some v→w2.cell? p=some v:=fun p v hp=>by rw[hb.cell (p:=p) (World.block_lt_of_cell? _ _ hp)];exact hp
 refine hK.out _ _ ⟨hcc _ _ hHeld.1,hcc _ _ hHeld.2.1,hcc _ _ hHeld.2.2⟩ (fun hHeld=>?_);clear hcc hK K hb hbm hF hk h7;refine norm_ (a':=?_) ?_ ?_;rotate_left
 ·show Act.put _ (some 11) _=_;simp only[Act.put,List.setIfInBounds_toArray,List.set_cons_zero,List.set_cons_succ];rfl
 refine last_ (i:=4) (N:=(some 12)) #[true,true,true,true,true] rfl rfl tK tD (fun K hK=>?_);rw[if_pos (by rfl)];have HK:=Aside0.mk hK.out;clear hK;obtain⟨w3,cnt0,hrun,hr0,hg3,hs3⟩:=HKN.out.range;obtain⟨ri,hri⟩: ∃ri,w2.heap.size=ri:=⟨_,rfl⟩;rw[hri]at hrun hr0;have HR0:=Aside0.mk hr0;have HB3:=Aside0.mk (HB2.out.grown hg3 (by exact HB2.out.size) (fun k e=>by cases e));have HRI:=Aside0.mk (show w.heap.size≤ri by have:=HB2.out.size;omega);clear hr0 hg3 hs3 hri;unfold Oper.wp;go_simp;refine HK.out _ _ ?_;clear HK K hrun hHeld;refine done_ tK ?_;go_wp2
 go_loopw [4,5] (fun x y wr=> ∃(a b cnt:Nat) (vis:List (List Int)),x= .int .i64 (a:Int)∧y= .int .i64 (b:Int)∧Aside0 (Rg wr bm ri k n M vis cnt)∧Aside0 (Mo (gap n sg (firstL n)) vis a b)∧Aside0 (vis.Nodup∧ ∀x,x∈vis→(M x).isSome=true)∧Aside0 (Below w.heap.size w wr)) (fun _ _ wr=>wr.rangeLeft bm ri)
 case atStart=>exact⟨0,0,cnt0, [],rfl,rfl,HR0,⟨Mo.begin _⟩,⟨List.nodup_nil,fun x hx=>(by cases hx)⟩,HB3⟩
 case round=>
  obtain⟨a,b,cnt,vis,rfl,rfl,HR,HM,HV,HW⟩:=hrel;have HLT:=Aside0.mk HR.out.lt;rcases HR.out.next hn with⟨hc,hall,hrun⟩|⟨l,e,key,W',cnt',hvl,he,hnv,hrun,hr',hlt,hg,hsz,hent⟩
  ·have HALL:=Aside0.mk hall;clear hall hc;go_wp2;have hw:=worst_of HF.out HV.out.1 (fun x=>⟨HV.out.2 x,fun hx=>HALL.out x (HF.out.valid x hx) hx⟩) HM.out;refine bodyPost_ret (results_tmp2 rfl _ _ _) rfl ⟨by rw[hw];rfl,HW.out⟩
  ·have hd:=HF.out.gapM he;obtain⟨⟨e1,e2⟩,e3⟩:=e;simp only[stepE]at hrun hent;have hcnt:vis.length≤15^n:=nodup_count (L:=vis) HV.out.1 HV.out.2 HF.out.valid;have hbl:b≤vis.length:=by rw[HM.out.many];exact List.countP_le_length
   have h15:=p15 hn;have hwb:IntKind.i64.wrap ((b:Int)+1)=((b+1:Nat):Int):=by rw[iw64 tO tO];omega
   have HR':=Aside0.mk hr';have HLC:=Aside0.mk hlt;have HG:=Aside0.mk hg;have HSZ:=Aside0.mk hsz;have HD:=Aside0.mk hd;have HNV:=Aside0.mk hnv;have HE:=Aside0.mk he;have HWB:=Aside0.mk (HW.out.grown hg (by exact HW.out.size) (fun k e=>by cases e;exact HRI.out));clear hr' hlt hg hsz hd hnv he hvl hcnt hbl h15
   have hmem: ∀x,x∈vis++ [l]→(M x).isSome=true:=fun x hx=>by
    rcases List.mem_append.1 hx with hx|hx
    ·exact HV.out.2 x hx
    ·simp at hx;subst hx;rw[HE.out];rfl
   have hnd:(vis++ [l]).Nodup:=List.nodup_append.2 ⟨HV.out.1,by simp,fun x hx y hy=>by simp at hy;subst hy;rintro rfl;exact HNV.out hx⟩;have HV':=Aside0.mk (And.intro hnd hmem);clear hmem hnd;have hkey:=HLT.out;obtain⟨hl1,hl2,hl3,hl4⟩:=HLT.out
   have fin: ∀(W2:World) (a2 b2:Nat),Below w.heap.size w W2→W'.grownBy W2 none→Mo (gap n sg (firstL n)) (vis++ [l]) a2 b2→Rg W2 bm ri k n M (vis++ [l]) cnt'∧W2.rangeLeft bm ri< wr.rangeLeft bm ri:=fun W2 a2 b2 _ hg2 _=>by
    have h2:=HR'.out.kept hg2 tS tS;exact⟨h2,by rw[h2.lt.2.2.1,hl3];exact HLC.out⟩
   have FIN:=Aside0.mk fin;have HS':=Aside0.mk (show W'.heap.size=wr.heap.size from HSZ.out);have HLS:=Aside0.mk (show w.heap.size≤W'.heap.size by have:=HW.out.size;have:=HSZ.out;omega);clear fin hl1 hl2 hl3 hl4 hkey;by_cases hgt:(e3:Int)>(a:Int)
   ·go_wp2
    go_roundw
    case rel=>exact⟨e3,1,cnt',vis++ [l],rfl,rfl,⟨(FIN.out _ e3 1 (HWB.out.alloc HLS.out _) (World.grownBy_alloc W' _ none) (by have:=HM.out.more (x:=l) (by have:=HD.out;simp only at this;omega);rw[←HD.out]at this;exact this)).1⟩,⟨by have:=HM.out.more (x:=l) (by have:=HD.out;simp only at this;omega);rw[←HD.out]at this;exact this⟩,HV',⟨HWB.out.alloc HLS.out _⟩⟩
    case measure=>exact(FIN.out _ e3 1 (HWB.out.alloc HLS.out _) (World.grownBy_alloc W' _ none) (by have:=HM.out.more (x:=l) (by have:=HD.out;simp only at this;omega);rw[←HD.out]at this;exact this)).2
   ·by_cases heq:e3=a
    ·subst heq;go_wp2
     go_roundw
     case rel=>exact⟨e3,b+1,cnt',vis++ [l],rfl,rfl,⟨(FIN.out _ e3 (b+1) (HWB.out.alloc HLS.out _) (World.grownBy_alloc W' _ none) (HM.out.same HD.out.symm)).1⟩,⟨HM.out.same HD.out.symm⟩,HV',⟨HWB.out.alloc HLS.out _⟩⟩
     case measure=>exact(FIN.out _ e3 (b+1) (HWB.out.alloc HLS.out _) (World.grownBy_alloc W' _ none) (HM.out.same HD.out.symm)).2
    ·have heq': ¬(e3:Int)=(a:Int):=by omega
     go_wp2
     go_roundw
     case rel=>exact⟨a,b,cnt',vis++ [l],rfl,rfl,⟨(FIN.out _ a b (HWB.out.alloc HLS.out _) (World.grownBy_alloc W' _ none) (HM.out.less (by have:=HD.out;simp only at this;omega))).1⟩,⟨HM.out.less (by have:=HD.out;simp only at this;omega)⟩,HV',⟨HWB.out.alloc HLS.out _⟩⟩
     case measure=>exact(FIN.out _ a b (HWB.out.alloc HLS.out _) (World.grownBy_alloc W' _ none) (HM.out.less (by have:=HD.out;simp only at this;omega))).2
def pancake_Worst.f (a0:Int):Option (Int×Int×Int):=some (if 1≤a0∧a0≤7 then(((wrst a0.toNat false).1:Nat),((wrst a0.toNat false).2:Nat),0)else(0,0,1))
set_option maxRecDepth 100000 in
set_option maxHeartbeats 4000000 in
theorem pancake_Worst.calls (a0:Int) (r1 r2 r3:Int) (w:World) (h:pancake_Worst.f a0=some (r1,r2,r3)):
  Calls Try.prog 42 #[.int .i64 a0] w fun e w'=>e= .returned (.tuple #[.int .i64 r1, .int .i64 r2, .int .i64 r3])∧Below w.heap.size w w':=by
 unfold pancake_Worst.f at h
 go_enter Try.func42,Try.ntmps42
 by_cases h1:a0< 1
 ·rw[if_neg tO]at h;cases h;go_wp2;refine bodyPost_ret (results_tmp3 rfl _ _ _) rfl ⟨rfl,Below.refl _ _⟩
 ·by_cases h2:a0>7
  ·rw[if_neg tO]at h;cases h;go_wp2;refine bodyPost_ret (results_tmp3 rfl _ _ _) rfl ⟨rfl,Below.refl _ _⟩
  ·rw[if_pos tO]at h;cases h;obtain⟨n,rfl⟩:=Int.eq_ofNat_of_zero_le (show 0≤a0 by omega);have hn:n≤7:=by omega
   go_wp2_with (go_at_call 72;refine stopper ?_)
   unfold Hold;refine(worst_calls n hn false w).mono ?_;rintro e w1 ⟨rfl,hb⟩;have HB:=Aside0.mk hb;clear hb;go_wp2;refine bodyPost_ret (results_tmp3 rfl _ _ _) rfl ⟨rfl,HB.out⟩
end Go.Proofs.Ytepjhdblmghckaa.G
namespace Go.Proofs.Ytepjhdblmghckaa.G
open Go.Proofs.Ytepjhdblmghckaa.Q Go.Proofs.Ytepjhdblmghckaa.K Go.Proofs.Ytepjhdblmghckaa.Bf
def insI (a:Int):List Int→List Int
 | []=> [a]
 |b::l=>if a≤b then a::b::l else b::insI a l
def isort:List Int→List Int
 | []=> []
 |a::l=>insI a (isort l)
theorem insI_perm (a:Int): ∀l,(insI a l).Perm (a::l)
 | []=>List.Perm.refl _
 |b::l=>by
  rw[insI]
  split
  ·exact List.Perm.refl _
  ·exact((insI_perm a l).cons b).trans (List.Perm.swap a b l)
theorem isort_perm: ∀l,(isort l).Perm l
 | []=>List.Perm.refl _
 |a::l=>(insI_perm a (isort l)).trans ((isort_perm l).cons a)
theorem insI_sorted (a:Int): ∀l:List Int,l.Pairwise (· ≤ ·)→(insI a l).Pairwise (· ≤ ·)
 | [],_=>by simp[insI]
 | b::l,h=>by
  rw[insI];rw[List.pairwise_cons]at h
  split
  ·rename_i hab
   rw[List.pairwise_cons,List.pairwise_cons]
   exact⟨fun x hx=>by
    rcases List.mem_cons.1 hx with rfl|hx
    ·exact hab
    ·have:=h.1 x hx;omega,h⟩
  ·rename_i hab
   rw[List.pairwise_cons];refine⟨fun x hx=>?_,insI_sorted a l h.2⟩;rcases List.mem_cons.1 ((insI_perm a l).mem_iff.1 hx)with rfl|hx
   ·omega
   ·exact h.1 x hx
theorem isort_sorted: ∀l,(isort l).Pairwise (· ≤ ·)
 | []=>List.Pairwise.nil
 |a::l=>insI_sorted a _ (isort_sorted l)
theorem sortL_sorted (l:List Int):(sortL l).Pairwise (· ≤ ·):=by
 have h:=List.pairwise_mergeSort (le:=fun x y:Int=>decide (x≤y)) (fun a b c h1 h2=>by simp at*;omega) (fun a b=>by simp;omega) l;exact h.imp (fun h=>by simpa using h)
theorem perm_sorted_eq: ∀(l m:List Int),l.Perm m→l.Pairwise (· ≤ ·)→m.Pairwise (· ≤ ·)→l=m
 | [],m,hp,_,_=>(List.nil_perm.1 hp).symm
 |a::l, [],hp,_,_=>by have:=hp.length_eq;simp at this
 | a::l,b::m,hp,hl,hm=>by
  rw[List.pairwise_cons]at hl hm
  have hab:a=b:=by
   have h1:a∈b::m:=hp.mem_iff.1 tS;have h2:b∈a::l:=hp.mem_iff.2 tS;rcases List.mem_cons.1 h1 with h1|h1
   ·exact h1
   ·rcases List.mem_cons.1 h2 with h2|h2
    ·exact h2.symm
    ·have:=hl.1 b h2;have:=hm.1 a h1;omega
  subst hab;rw[perm_sorted_eq l m (List.Perm.cons_inv hp) hl.2 hm.2]
theorem sortL_eq (l:List Int):sortL l=isort l:=perm_sorted_eq _ _ ((List.mergeSort_perm ..).trans (isort_perm l).symm) (sortL_sorted l) (isort_sorted l)
def cirStepK (p pl:List Int) (st:List Bool×List (List Int)) (line:Nat):List Bool×List (List Int):=
 if st.1.getD line false=true then st else((folF p pl (unseen st.1+1) (2*line) st.1 []).2,st.2++ [isort (folF p pl (unseen st.1+1) (2*line) st.1 []).1])
def circK (s:List Int):List (List Int):=((List.range (s.length+1)).foldl (cirStepK (picL s) (plL s)) (List.replicate (s.length+1) false, [])).2
theorem circL_eq (s:List Int):circL s=circK s:=by
 have e:cirStep (picL s) (plL s)=cirStepK (picL s) (plL s):=by
  funext st line;unfold cirStep cirStepK;rw[sortL_eq]
 unfold circL circK cirTo;rw[e]
def cmpK (s:List Int):List Cmp:=cmpF (plL s) (circK s).length (circK s) []
theorem cmpL_eq (s:List Int):cmpL s=cmpK s:=by unfold cmpL cmpK;rw[circL_eq]
def foundB {α:Type} [DecidableEq α] (next:α→List α) (start t:α) (M:Nat):Bool:=((List.range M).find? (fun k=>(ball next start k).contains t)).isSome
theorem least_small {α:Type} [DecidableEq α] {next:α→List α} {start t:α} {M N:Nat} (hM:M≤N) (h:foundB next start t M=true):least next start t N=least next start t M:=by
 unfold foundB at h;unfold least;obtain⟨d,rfl⟩:=Nat.exists_eq_add_of_le hM;obtain⟨x,hx⟩:=Option.isSome_iff_exists.1 h;rw[List.range_add,List.find?_append];simp only[hx,Option.some_or]
theorem gap_small {n:Nat} {sg:Bool} {a b:List Int} (M:Nat) (hM:M≤15^n+1) (h:foundB (nextK n sg false) a b M=true):gap n sg a b=least (nextK n sg false) a b M:=least_small hM h
theorem mostOf_congr {d d':List Int→Nat} : ∀(l:List (List Int)),(∀x,x∈l→d x=d' x)→mostOf d l=mostOf d' l
 | [],_=>rfl
 |x::l,h=>by unfold mostOf;rw[h x tS,mostOf_congr l (fun y hy=>h y (by simp[hy]))]
theorem mostOf_mem {d:List Int→Nat} {l m:List (List Int)} (h: ∀x,x∈l↔x∈m):mostOf d l=mostOf d m:=by
 have one: ∀l m:List (List Int),(∀x,x∈l→x∈m)→mostOf d l≤mostOf d m:=fun l m h=>by
  rcases mostOf_at d l with h0|⟨x,hx,e⟩
  ·omega
  ·rw[←e];exact mostOf_le d m x (h x hx)
 exact Nat.le_antisymm (one l m (fun x hx=>(h x).1 hx)) (one m l (fun x hx=>(h x).2 hx))
theorem wrst_of {n:Nat} {sg:Bool} {L:List (List Int)} (hnd:L.Nodup) (hst:firstL n∈L) (hcl: ∀x,x∈L→ ∀y,y∈nextK n sg false x→y∈L) (hr: ∀x,x∈L→x∈ball (nextK n sg false) (firstL n) (15^n)) (hv: ∀x,x∈L→Vs n x):
  wrst n sg=(mostOf (gap n sg (firstL n)) L,L.countP (fun x=>decide (gap n sg (firstL n) x=mostOf (gap n sg (firstL n)) L))):=by
 have hball: ∀k x,x∈ball (nextK n sg false) (firstL n) k→x∈L:=by
  intro k
  induction k with
  |zero=>intro x hx;simp[ball]at hx;rw[hx];exact hst
  |succ k ih=>
   intro x hx;rcases ball_succ.1 hx with hx|⟨y,hy,hxy⟩
   ·exact ih x hx
   ·exact hcl y (ih y hy) x hxy
 have hmem: ∀x,x∈reach n sg↔x∈L:=fun x=>by
  unfold reach;rw[mem_uniq,List.mem_filter,decide_eq_true_eq];exact⟨fun h=>hball _ x h.2,fun h=>⟨univ_mem n x (hv x h),hr x h⟩⟩
 have hperm:(reach n sg).Perm L:=(List.perm_ext_iff_of_nodup (uniq_nodup _) hnd).2 hmem;unfold wrst;simp only;rw[mostOf_mem hmem,hperm.countP_eq]
theorem aw1:pancake_Flips.f [3,1,2] [1,2,3]=some (2,0):=by
 have h:gap 3 false [1,2,3] [3,1,2]=2:=by rw[gap_small 4 tD (by decide+kernel)];decide+kernel
 unfold pancake_Flips.f;rw[if_pos (by decide+kernel)];rw[show([3,1,2]:List Int).length=3 from rfl,h];rfl
def all3:List (List Int):= [[1,2,3], [2,1,3], [3,2,1], [3,1,2], [2,3,1], [1,3,2]]
theorem aw3:pancake_Worst.f 3=some (3,1,0):=by
 have hb: ∀x,x∈all3→x∈ball (nextK 3 false false) (firstL 3) 3:=by decide+kernel
 have hd: ∀x,x∈all3→gap 3 false (firstL 3) x=least (nextK 3 false false) (firstL 3) x 4:=fun x hx=>gap_small 4 tD (by
  have: ∀x,x∈all3→foundB (nextK 3 false false) (firstL 3) x 4=true:=by decide+kernel
  exact this x hx)
 have hw:=wrst_of (n:=3) (sg:=false) (L:=all3) (by decide+kernel) (by decide+kernel) (by decide+kernel) (fun x hx=>ball_mono tD (hb x hx)) (fun x hx=>by
  have: ∀x,x∈all3→x.length=3∧x.all (fun y=>decide (-7≤y∧y≤7))=true:=by decide+kernel
  obtain⟨h1,h2⟩:=this x hx;refine⟨h1,fun j=>?_⟩;by_cases hj:j< x.length
  ·have:=List.all_eq_true.1 h2 (nth x j) (getD_mem hj);simpa using this
  ·rw[nth_end _ _ tO];omega)
 have e:(mostOf (gap 3 false (firstL 3)) all3,all3.countP (fun x=>decide (gap 3 false (firstL 3) x=mostOf (gap 3 false (firstL 3)) all3)))=(3,1):=by
  rw[mostOf_congr all3 hd,List.countP_congr (p:=fun x=>decide (gap 3 false (firstL 3) x=_)) (q:=fun x=>decide (least (nextK 3 false false) (firstL 3) x 4=mostOf (fun x=>least (nextK 3 false false) (firstL 3) x 4) all3)) (fun x hx=>by rw[hd x hx])];decide+kernel
 unfold pancake_Worst.f;rw[if_pos tD,show(3:Int).toNat=3 from rfl,hw,e];rfl
theorem aw4:pancake_Distance.f [2,1]=some (3,0):=by
 unfold pancake_Distance.f;rw[cmpL_eq,circL_eq];kernel_rfl
theorem aw5:pancake_Circles.f [-1]=some ([[0,1]],0):=by
 unfold pancake_Circles.f;rw[circL_eq];kernel_rfl
theorem aw6:pancake_Components.f [2,1]=some (1,1,1,false,0):=by
 unfold pancake_Components.f;rw[cmpL_eq];kernel_rfl
end Go.Proofs.Ytepjhdblmghckaa.G
namespace Go.Proofs.Ytepjhdblmghckaa.Q
open Go.Proofs.Ytepjhdblmghckaa.G
open Go.RowKit Go.Proofs.YtepjhdblmghckaaW.PrintWords Go.Proofs.YtepjhdblmghckaaW.PrintLast Go.Proofs.YtepjhdblmghckaaW.PrintMore
attribute [local go_sem] max2_int min2_int max_two min_two max_three min_three max_four min_four
def pancake_Check.f (k:Nat) (l0:List Int):Option (Int):=(pancake_check.f k false 7 (([l0]:List (List Int)))).bind fun t230=>(some t230)
set_option maxHeartbeats 8000000 in
set_option maxRecDepth 100000 in
theorem pancake_Check.calls (k:Nat) (P0_:Nat→Prop) (A0:Option Addr) (c0:Nat) (l0:List Int) (r:Int) (w:World) (hs0:Kd.V (Kd.int .i64) 3 w w.heap.size (fun k_=>P0_ k_) (.slice A0 l0.length c0) l0) (h:pancake_Check.f k l0=some r):
  Calls Try.prog 58 #[.slice A0 l0.length c0] w fun e w'=>e= .returned (.int .i64 r)∧Below w.heap.size w w':=by
 have HO0:=Aside0.mk (show Kd.V (Kd.int .i64) 3 w w.heap.size (fun k_=>(P0_ k_∨w.heap.size≤k_)) (.slice A0 l0.length c0) l0 from Kd.V_mono hs0 (fun k_ hk=> .inl hk));have HB:=Aside0.mk (Below.refl w.heap.size w);have H:((pancake_check.f k false 7 (([l0]:List (List Int)))).bind fun t230=>(some t230))=some r:=h;clear h;obtain⟨y227,hy227⟩: ∃y_:List (List Int),y_=(([l0]:List (List Int))):=⟨_,rfl⟩;replace H:((pancake_check.f k false 7 y227).bind fun t230=>(some t230))=some r:=by first|(rw[hy227];with_reducible exact H)|(have H2_:=(Option.bind_some _ _).symm.trans H;rw[hy227];with_reducible exact H2_)|(have H2_:=(Option.bind_some _ _).symm.trans H;with_reducible exact H2_)|with_reducible exact H|(rw[hy227];exact H)|exact H
 have Ny227:=Aside0.mk hy227;clear hy227;replace H:=Option.bind_eq_some_iff.mp H;obtain⟨t230,A20,H⟩:=H;replace H:(some t230)=some r:=H;have A2:=Aside0.mk A20;clear A20;obtain rfl:=Option.some.inj H
 go_enter Try.func58,Try.ntmps58
 go_wp2_with (first|((with_reducible refine gate_dst (N:=4) rfl ?_);refine Kd.N_lit (Kd.slice 3 (Kd.int .i64)) _ 22 ?hg (N':=4) ?hd (xs:=([l0]:List (List Int))) (inner:= [.slice A0 l0.length c0]) (ok:=(fun k_=>(P0_ k_∨w.heap.size≤k_))) (okp:=(fun k_=>(P0_ k_∨w.heap.size≤k_))) ?hr ?hp (fun _ hk=>hk) ((show ∀k_,w.heap.size≤k_→(fun k_=>(P0_ k_∨w.heap.size≤k_)) k_ from fun k_ hk=>(.inr (Nat.le_trans (below_size (tB HB.out)) hk))) _ (Nat.le_refl _)) (Below.refl _ _) (Nat.le_refl _) tS ?_;(case hd=>rfl);(case hg=>rfl);(case hr=>first|(go_simp;done)|(go_simp;rfl));(case hp=>exact(Reps.one (show Kd.FK (Kd.slice 3 (Kd.int .i64)) _ _ l0 [.slice A0 l0.length c0]from(Kd.FK_slice_mk (Kd.V_reads' (Kd.V_mono (ok':=(fun k_=>(P0_ k_∨w.heap.size≤k_))) (HO0.out) (fun k_ hk=>hk))).2.1 (Kd.V_F (Kd.V_mono (ok':=(fun k_=>(P0_ k_∨w.heap.size≤k_))) (HO0.out) (fun k_ hk=>hk))))) (Reps.none _ _)));intro v228 w3 ho4 hb hg_ hnew_;clear hg_ hnew_;(first|rw[←Ny227.out]at ho4|(simp only[Int.reduceToNat]at ho4;rw[←Ny227.out]at ho4));have n0_:=Aside0.mk (Kd.V_elder' (tV HO0.out) (Kd.N_base ho4) hb);have n1_:=Aside0.mk (Kd.N_lower ho4 (below_size (tB HB.out)));have n2_:=Aside0.mk (below_step (tB HB.out) hb);clear HO0;clear HB;have HO0:=n0_;have HO229:=n1_;have HB:=n2_;clear n0_ n1_ n2_;clear hb ho4;obtain⟨Ao5,co5,eo5⟩:=Kd.N_slice HO229.out;subst eo5)|((with_reducible refine gate_callee (f:=68) rfl ?_);refine goesL_ (some 5) rfl rfl Try.func68 tK rfl #[.bool false, .int .i64 7, .slice Ao5 y227.length co5] rfl tM ?_;(with_reducible refine(pancake_check.calls k false 7 _ _ y227 t230 _ ?side1 ?side2 A2.out).mono ?_);(case side1=>repeat(first|exact(Kd.N_reads' HO229.out).2.2|(with_reducible refine Kd.C_alloc ?_ _)|(with_reducible refine Kd.C_drewN ?_ _)|(with_reducible refine Kd.C_drew ?_)));(case side2=>exact(Kd.N_reads' HO229.out).2.1);rintro e w6 ⟨rfl,hb⟩;refine⟨_,rfl,?_⟩;have n0_:=Aside0.mk (Kd.V_below (tV HO0.out) hb);have n1_:=Aside0.mk (Kd.N_below (by(with_reducible repeat(first|apply Kd.N_alloc|apply Kd.N_drewN|apply Kd.N_drew));exact HO229.out) hb);have n2_:=Aside0.mk (below_step (tB HB.out) hb);clear HO0;clear HO229;clear HB;have HO0:=n0_;have HO229:=n1_;have HB:=n2_;clear n0_ n1_ n2_;(try clear hb);(try clear hb2);(try clear hk);(try clear hi)))
 go_ret;exact⟨by first|rfl|(simp[errW_none,errW_some]<;>rfl)|(simp[*,errW_none,errW_some]<;>rfl),by repeat(first|(with_reducible first|exact HB.out|apply below_alloc|apply pw_below_drewN|apply below_drew1)|exact HB.out)⟩
def pancake_Gaps.l0:Nat→List Int→Int→List Int→Int→Int→Option (Int×Int)
 |0,_,_,_,_,_=>none
 |k+1,x0,x5,x15,x16,x17=>if x17< x16 then(if 0≤x17 then(if x17< (x15.length:Int)then(if(wrap64 (x17+1))< (x0.length:Int)then(if 0≤(wrap64 (x17+1))then(if(wrap64 ((rd x0 (wrap64 (x17+1))) - (rd x15 x17)))>1 then(pancake_Gaps.l0 k x0 (wrap64 (x5+1)) x15 x16 (wrap64 (x17+1)))else(if(wrap64 ((rd x0 (wrap64 (x17+1))) - (rd x15 x17)))< (-1)then(pancake_Gaps.l0 k x0 (wrap64 (x5+1)) x15 x16 (wrap64 (x17+1)))else(pancake_Gaps.l0 k x0 x5 x15 x16 (wrap64 (x17+1)))))else(none))else(if(wrap64 ((wrap64 ((x0.length:Int)+1)) - (rd x15 x17)))>1 then(pancake_Gaps.l0 k x0 (wrap64 (x5+1)) x15 x16 (wrap64 (x17+1)))else(if(wrap64 ((wrap64 ((x0.length:Int)+1)) - (rd x15 x17)))< (-1)then(pancake_Gaps.l0 k x0 (wrap64 (x5+1)) x15 x16 (wrap64 (x17+1)))else(pancake_Gaps.l0 k x0 x5 x15 x16 (wrap64 (x17+1))))))else(none))else(none))else(some (x5,0))
def pancake_Gaps.f (k:Nat) (l0:List Int):Option (Int×Int):=(pancake_Check.f k l0).bind fun t231=>(if t231=0 then(pancake_Gaps.l0 k l0 0 l0 (l0.length:Int) 0)else(some (0,t231)))
set_option maxHeartbeats 8000000 in
set_option maxRecDepth 100000 in
theorem pancake_Gaps.calls (k:Nat) (A0:Option Addr) (c0:Nat) (l0:List Int) (r1:Int) (r2:Int) (w:World) (hr0:Kd.C (Kd.int .i64) w A0 l0.length l0) (hc0:l0.length≤c0) (h:pancake_Gaps.f k l0=some (r1,r2)):
  Calls Try.prog 30 #[.slice A0 l0.length c0] w fun e w'=>e= .returned (.tuple #[.int .i64 r1, .int .i64 r2])∧Below w.heap.size w w':=by
 have HR0:=Aside0.mk hr0;have HC0:=Aside0.mk hc0;clear hr0 hc0;have HB:=Aside0.mk (Below.refl w.heap.size w);have H:((pancake_Check.f k l0).bind fun t231=>(if t231=0 then(pancake_Gaps.l0 k l0 0 l0 (l0.length:Int) 0)else(some (0,t231))))=some (r1,r2):=h;clear h;replace H:=Option.bind_eq_some_iff.mp H;obtain⟨t231,A20,H⟩:=H;replace H:(if t231=0 then(pancake_Gaps.l0 k l0 0 l0 (l0.length:Int) 0)else(some (0,t231)))=some (r1,r2):=H;have A2:=Aside0.mk A20;clear A20;by_cases c3:t231=0
 ·rw[if_pos c3]at H;have c3b0:(t231==0)=true:=beq_iff_eq.mpr c3;have c3b1:(t231 !=0)=false:=bne_eq_false_iff_eq.mpr c3;clear c3;have H':=Aside0.mk H;clear H
  go_enter Try.func30,Try.ntmps30
  go_wp2_with (first|((with_reducible refine gate_callee (f:=58) rfl ?_);refine goesL_ (some 11) rfl rfl Try.func58 tK rfl #[.slice A0 l0.length c0] rfl tM ?_;(with_reducible refine(pancake_Check.calls k (fun k_=>k_< w.heap.size) _ _ l0 t231 _ ?side1 A2.out).mono ?_);(case side1=>exact Kd.V_mk HC0.out (Kd.F_below (Kd.C_F (Kd.heap_int .i64) HR0.out) (tB HB.out)));rintro e w4 ⟨rfl,hb⟩;refine⟨_,rfl,?_⟩;have n0_:=Aside0.mk (below_step (tB HB.out) hb);clear HB;have HB:=n0_;clear n0_;(try clear hb);(try clear hb2);(try clear hk);(try clear hi)))
  go_loopg [5,17] k (fun kq v5 v17 w'=> ∃(x5_1:Int) (x17_1:Int),v5= .int .i64 x5_1∧v17= .int .i64 x17_1∧Aside0 (pancake_Gaps.l0 kq l0 x5_1 l0 (l0.length:Int) x17_1=some (r1,r2))∧Aside0 (kq≤k)∧Aside0 (Below w.heap.size w w'))
  case atStart=>exact⟨(0),(0),tF,tF,H',⟨Nat.le_refl _⟩,⟨by repeat(first|(with_reducible first|exact HB.out|apply below_alloc|apply pw_below_drewN|apply below_drew1)|exact HB.out)⟩⟩
  case round=>
   clear H';obtain⟨x5_1,x17_1,rfl,rfl,HA,HK1,HB⟩:=hrel;cases gk with
   |zero=>exact absurd HA.out (by simp[pancake_Gaps.l0])
   | succ k1=>
    have H:=HA.out;clear HA;simp only[pancake_Gaps.l0]at H;by_cases c5:x17_1< (l0.length:Int)
    ·rw[if_pos c5]at H;have c5b0:decide (x17_1< (l0.length:Int))=true:=decide_eq_true c5;clear c5;by_cases c6:0≤x17_1;rotate_left
     ·rw[if_neg c6]at H;exact absurd H tS
     rw[if_pos c6]at H;have c6b0:decide (0≤x17_1)=true:=decide_eq_true c6;clear c6;by_cases c7:x17_1< (l0.length:Int);rotate_left
     ·rw[if_neg c7]at H;exact absurd H tS
     rw[if_pos c7]at H;have c7b0:decide (x17_1< (l0.length:Int))=true:=decide_eq_true c7;clear c7;by_cases c8:(wrap64 (x17_1+1))< (l0.length:Int)
     ·rw[if_pos c8]at H;have c8b0:decide ((wrap64 (x17_1+1))< (l0.length:Int))=true:=decide_eq_true c8;clear c8;obtain⟨ji9,hji9⟩: ∃j_:Int,(wrap64 (x17_1+1))=j_:=⟨_,rfl⟩;replace H:(if 0≤(ji9)then(if(wrap64 ((rd l0 (ji9)) - (rd l0 x17_1)))>1 then(pancake_Gaps.l0 k1 l0 (wrap64 (x5_1+1)) l0 (l0.length:Int) ji9)else(if(wrap64 ((rd l0 (ji9)) - (rd l0 x17_1)))< (-1)then(pancake_Gaps.l0 k1 l0 (wrap64 (x5_1+1)) l0 (l0.length:Int) ji9)else(pancake_Gaps.l0 k1 l0 x5_1 l0 (l0.length:Int) ji9)))else(none))=some (r1,r2):=by first|(rw[hji9]at H;exact H)|(simp only[hji9]at H ⊢;exact H)
      (try rw[hji9]at c8b0)
      have hji9w:(IntKind.i64.wrap (x17_1+1))=ji9:=(i64_w _).trans hji9;by_cases c10:0≤(ji9);rotate_left
      ·rw[if_neg c10]at H;exact absurd H tS
      rw[if_pos c10]at H;have c10b0:decide (0≤(ji9))=true:=decide_eq_true c10;clear c10;by_cases c11:(wrap64 ((rd l0 (ji9)) - (rd l0 x17_1)))>1
      ·rw[if_pos c11]at H;have c11b0:decide (1< (wrap64 ((rd l0 (ji9)) - (rd l0 x17_1))))=true:=decide_eq_true c11;clear c11;have H':=Aside0.mk H;clear H;have p232:0≤(x17_1:Int):=of_decide_eq_true tA;have q232:x17_1< (l0.length:Int):=of_decide_eq_true tA;obtain⟨ad232,e232,hx232_0⟩:=Kd.at_int HR0.out x17_1 p232 q232;cases e232;replace hx232_0:=(HB.out.cell (World.block_lt_of_cell? w _ hx232_0)).trans hx232_0;replace p232:=eq_true p232;replace q232:=eq_true q232;have p233:0≤((ji9):Int):=of_decide_eq_true tA;have q233:(ji9)< (l0.length:Int):=of_decide_eq_true tA;obtain⟨ad233,e233,hx233_0⟩:=Kd.at_int HR0.out (ji9) p233 q233;obtain rfl:ad232=ad233:=(by injection e233);replace hx233_0:=(HB.out.cell (World.block_lt_of_cell? w _ hx233_0)).trans hx233_0;replace p233:=eq_true p233;replace q233:=eq_true q233;go_wp2
       go_roundg k1
       case measure=>have:=HK1.out;omega
       case rel=>exact⟨(wrap64 (x5_1+1)),(ji9),tF,(by first|rfl|(simp;done)|(simp only[←hji9]<;>(first|rfl|simp))|(simp[*];done)),H',⟨by have:=HK1.out;omega⟩,⟨by repeat(first|(with_reducible first|exact HB.out|apply below_alloc|apply pw_below_drewN|apply below_drew1)|exact HB.out)⟩⟩
      ·rw[if_neg c11]at H;have c11b0:decide (1< (wrap64 ((rd l0 (ji9)) - (rd l0 x17_1))))=false:=decide_eq_false c11;clear c11;by_cases c12:(wrap64 ((rd l0 (ji9)) - (rd l0 x17_1)))< (-1)
       ·rw[if_pos c12]at H;have c12b0:decide ((wrap64 ((rd l0 (ji9)) - (rd l0 x17_1)))< (-1))=true:=decide_eq_true c12;clear c12;have H':=Aside0.mk H;clear H;have p232:0≤(x17_1:Int):=of_decide_eq_true tA;have q232:x17_1< (l0.length:Int):=of_decide_eq_true tA;obtain⟨ad232,e232,hx232_0⟩:=Kd.at_int HR0.out x17_1 p232 q232;cases e232;replace hx232_0:=(HB.out.cell (World.block_lt_of_cell? w _ hx232_0)).trans hx232_0;replace p232:=eq_true p232;replace q232:=eq_true q232;have p233:0≤((ji9):Int):=of_decide_eq_true tA;have q233:(ji9)< (l0.length:Int):=of_decide_eq_true tA;obtain⟨ad233,e233,hx233_0⟩:=Kd.at_int HR0.out (ji9) p233 q233;obtain rfl:ad232=ad233:=(by injection e233);replace hx233_0:=(HB.out.cell (World.block_lt_of_cell? w _ hx233_0)).trans hx233_0;replace p233:=eq_true p233;replace q233:=eq_true q233;go_wp2
        go_roundg k1
        case measure=>have:=HK1.out;omega
        case rel=>exact⟨(wrap64 (x5_1+1)),(ji9),tF,(by first|rfl|(simp;done)|(simp only[←hji9]<;>(first|rfl|simp))|(simp[*];done)),H',⟨by have:=HK1.out;omega⟩,⟨by repeat(first|(with_reducible first|exact HB.out|apply below_alloc|apply pw_below_drewN|apply below_drew1)|exact HB.out)⟩⟩
       ·rw[if_neg c12]at H;have c12b0:decide ((wrap64 ((rd l0 (ji9)) - (rd l0 x17_1)))< (-1))=false:=decide_eq_false c12;clear c12;have H':=Aside0.mk H;clear H;have p232:0≤(x17_1:Int):=of_decide_eq_true tA;have q232:x17_1< (l0.length:Int):=of_decide_eq_true tA;obtain⟨ad232,e232,hx232_0⟩:=Kd.at_int HR0.out x17_1 p232 q232;cases e232;replace hx232_0:=(HB.out.cell (World.block_lt_of_cell? w _ hx232_0)).trans hx232_0;replace p232:=eq_true p232;replace q232:=eq_true q232;have p233:0≤((ji9):Int):=of_decide_eq_true tA;have q233:(ji9)< (l0.length:Int):=of_decide_eq_true tA;obtain⟨ad233,e233,hx233_0⟩:=Kd.at_int HR0.out (ji9) p233 q233;obtain rfl:ad232=ad233:=(by injection e233);replace hx233_0:=(HB.out.cell (World.block_lt_of_cell? w _ hx233_0)).trans hx233_0;replace p233:=eq_true p233;replace q233:=eq_true q233;go_wp2
        go_roundg k1
        case measure=>have:=HK1.out;omega
        case rel=>exact⟨(x5_1),(ji9),tF,(by first|rfl|(simp;done)|(simp only[←hji9]<;>(first|rfl|simp))|(simp[*];done)),H',⟨by have:=HK1.out;omega⟩,⟨by repeat(first|(with_reducible first|exact HB.out|apply below_alloc|apply pw_below_drewN|apply below_drew1)|exact HB.out)⟩⟩
     ·rw[if_neg c8]at H;have c8b0:decide ((wrap64 (x17_1+1))< (l0.length:Int))=false:=decide_eq_false c8;clear c8;by_cases c13:(wrap64 ((wrap64 ((l0.length:Int)+1)) - (rd l0 x17_1)))>1
      ·rw[if_pos c13]at H;have c13b0:decide (1< (wrap64 ((wrap64 ((l0.length:Int)+1)) - (rd l0 x17_1))))=true:=decide_eq_true c13;clear c13;have H':=Aside0.mk H;clear H;have p232:0≤(x17_1:Int):=of_decide_eq_true tA;have q232:x17_1< (l0.length:Int):=of_decide_eq_true tA;obtain⟨ad232,e232,hx232_0⟩:=Kd.at_int HR0.out x17_1 p232 q232;cases e232;replace hx232_0:=(HB.out.cell (World.block_lt_of_cell? w _ hx232_0)).trans hx232_0;replace p232:=eq_true p232;replace q232:=eq_true q232;go_wp2
       go_roundg k1
       case measure=>have:=HK1.out;omega
       case rel=>exact⟨(wrap64 (x5_1+1)),(wrap64 (x17_1+1)),tF,tF,H',⟨by have:=HK1.out;omega⟩,⟨by repeat(first|(with_reducible first|exact HB.out|apply below_alloc|apply pw_below_drewN|apply below_drew1)|exact HB.out)⟩⟩
      ·rw[if_neg c13]at H;have c13b0:decide (1< (wrap64 ((wrap64 ((l0.length:Int)+1)) - (rd l0 x17_1))))=false:=decide_eq_false c13;clear c13;by_cases c14:(wrap64 ((wrap64 ((l0.length:Int)+1)) - (rd l0 x17_1)))< (-1)
       ·rw[if_pos c14]at H;have c14b0:decide ((wrap64 ((wrap64 ((l0.length:Int)+1)) - (rd l0 x17_1)))< (-1))=true:=decide_eq_true c14;clear c14;have H':=Aside0.mk H;clear H;have p232:0≤(x17_1:Int):=of_decide_eq_true tA;have q232:x17_1< (l0.length:Int):=of_decide_eq_true tA;obtain⟨ad232,e232,hx232_0⟩:=Kd.at_int HR0.out x17_1 p232 q232;cases e232;replace hx232_0:=(HB.out.cell (World.block_lt_of_cell? w _ hx232_0)).trans hx232_0;replace p232:=eq_true p232;replace q232:=eq_true q232;go_wp2
        go_roundg k1
        case measure=>have:=HK1.out;omega
        case rel=>exact⟨(wrap64 (x5_1+1)),(wrap64 (x17_1+1)),tF,tF,H',⟨by have:=HK1.out;omega⟩,⟨by repeat(first|(with_reducible first|exact HB.out|apply below_alloc|apply pw_below_drewN|apply below_drew1)|exact HB.out)⟩⟩
       ·rw[if_neg c14]at H;have c14b0:decide ((wrap64 ((wrap64 ((l0.length:Int)+1)) - (rd l0 x17_1)))< (-1))=false:=decide_eq_false c14;clear c14;have H':=Aside0.mk H;clear H;have p232:0≤(x17_1:Int):=of_decide_eq_true tA;have q232:x17_1< (l0.length:Int):=of_decide_eq_true tA;obtain⟨ad232,e232,hx232_0⟩:=Kd.at_int HR0.out x17_1 p232 q232;cases e232;replace hx232_0:=(HB.out.cell (World.block_lt_of_cell? w _ hx232_0)).trans hx232_0;replace p232:=eq_true p232;replace q232:=eq_true q232;go_wp2
        go_roundg k1
        case measure=>have:=HK1.out;omega
        case rel=>exact⟨(x5_1),(wrap64 (x17_1+1)),tF,tF,H',⟨by have:=HK1.out;omega⟩,⟨by repeat(first|(with_reducible first|exact HB.out|apply below_alloc|apply pw_below_drewN|apply below_drew1)|exact HB.out)⟩⟩
    ·rw[if_neg c5]at H;have c5b0:decide (x17_1< (l0.length:Int))=false:=decide_eq_false c5;clear c5;simp only[Option.some.injEq,Prod.mk.injEq]at H;obtain⟨rfl,rfl⟩:=H;go_wp2
     go_ret2
     exact⟨by first|rfl|(simp[errW_none,errW_some]<;>rfl)|(simp[*,errW_none,errW_some]<;>rfl),by repeat(first|(with_reducible first|exact HB.out|apply below_alloc|apply pw_below_drewN|apply below_drew1)|exact HB.out)⟩
 ·rw[if_neg c3]at H;have c3b0:(t231==0)=false:=beq_eq_false_iff_ne.mpr c3;have c3b1:(t231 !=0)=true:=bne_iff_ne.mpr c3;simp only[Option.some.injEq,Prod.mk.injEq]at H;obtain⟨rfl,rfl⟩:=H
  go_enter Try.func30,Try.ntmps30
  go_wp2_with (first|((with_reducible refine gate_callee (f:=58) rfl ?_);refine goesL_ (some 11) rfl rfl Try.func58 tK rfl #[.slice A0 l0.length c0] rfl tM ?_;(with_reducible refine(pancake_Check.calls k (fun k_=>k_< w.heap.size) _ _ l0 t231 _ ?side1 A2.out).mono ?_);(case side1=>exact Kd.V_mk HC0.out (Kd.F_below (Kd.C_F (Kd.heap_int .i64) HR0.out) (tB HB.out)));rintro e w15 ⟨rfl,hb⟩;refine⟨_,rfl,?_⟩;have n0_:=Aside0.mk (below_step (tB HB.out) hb);clear HB;have HB:=n0_;clear n0_;(try clear hb);(try clear hb2);(try clear hk);(try clear hi)))
  go_ret2
  exact⟨by first|rfl|(simp[errW_none,errW_some]<;>rfl)|(simp[*,errW_none,errW_some]<;>rfl),by repeat(first|(with_reducible first|exact HB.out|apply below_alloc|apply pw_below_drewN|apply below_drew1)|exact HB.out)⟩
def pancake_CheckBurnt.f (k:Nat) (l0:List Int):Option (Int):=(pancake_check.f k true 6 (([l0]:List (List Int)))).bind fun t247=>(some t247)
set_option maxHeartbeats 8000000 in
set_option maxRecDepth 100000 in
theorem pancake_CheckBurnt.calls (k:Nat) (P0_:Nat→Prop) (A0:Option Addr) (c0:Nat) (l0:List Int) (r:Int) (w:World) (hs0:Kd.V (Kd.int .i64) 3 w w.heap.size (fun k_=>P0_ k_) (.slice A0 l0.length c0) l0) (h:pancake_CheckBurnt.f k l0=some r):
  Calls Try.prog 59 #[.slice A0 l0.length c0] w fun e w'=>e= .returned (.int .i64 r)∧Below w.heap.size w w':=by
 have HO0:=Aside0.mk (show Kd.V (Kd.int .i64) 3 w w.heap.size (fun k_=>(P0_ k_∨w.heap.size≤k_)) (.slice A0 l0.length c0) l0 from Kd.V_mono hs0 (fun k_ hk=> .inl hk));have HB:=Aside0.mk (Below.refl w.heap.size w);have H:((pancake_check.f k true 6 (([l0]:List (List Int)))).bind fun t247=>(some t247))=some r:=h;clear h;obtain⟨y244,hy244⟩: ∃y_:List (List Int),y_=(([l0]:List (List Int))):=⟨_,rfl⟩;replace H:((pancake_check.f k true 6 y244).bind fun t247=>(some t247))=some r:=by first|(rw[hy244];with_reducible exact H)|(have H2_:=(Option.bind_some _ _).symm.trans H;rw[hy244];with_reducible exact H2_)|(have H2_:=(Option.bind_some _ _).symm.trans H;with_reducible exact H2_)|with_reducible exact H|(rw[hy244];exact H)|exact H
 have Ny244:=Aside0.mk hy244;clear hy244;replace H:=Option.bind_eq_some_iff.mp H;obtain⟨t247,A20,H⟩:=H;replace H:(some t247)=some r:=H;have A2:=Aside0.mk A20;clear A20;obtain rfl:=Option.some.inj H
 go_enter Try.func59,Try.ntmps59
 go_wp2_with (first|((with_reducible refine gate_dst (N:=4) rfl ?_);refine Kd.N_lit (Kd.slice 3 (Kd.int .i64)) _ 22 ?hg (N':=4) ?hd (xs:=([l0]:List (List Int))) (inner:= [.slice A0 l0.length c0]) (ok:=(fun k_=>(P0_ k_∨w.heap.size≤k_))) (okp:=(fun k_=>(P0_ k_∨w.heap.size≤k_))) ?hr ?hp (fun _ hk=>hk) ((show ∀k_,w.heap.size≤k_→(fun k_=>(P0_ k_∨w.heap.size≤k_)) k_ from fun k_ hk=>(.inr (Nat.le_trans (below_size (tB HB.out)) hk))) _ (Nat.le_refl _)) (Below.refl _ _) (Nat.le_refl _) tS ?_;(case hd=>rfl);(case hg=>rfl);(case hr=>first|(go_simp;done)|(go_simp;rfl));(case hp=>exact(Reps.one (show Kd.FK (Kd.slice 3 (Kd.int .i64)) _ _ l0 [.slice A0 l0.length c0]from(Kd.FK_slice_mk (Kd.V_reads' (Kd.V_mono (ok':=(fun k_=>(P0_ k_∨w.heap.size≤k_))) (HO0.out) (fun k_ hk=>hk))).2.1 (Kd.V_F (Kd.V_mono (ok':=(fun k_=>(P0_ k_∨w.heap.size≤k_))) (HO0.out) (fun k_ hk=>hk))))) (Reps.none _ _)));intro v245 w3 ho4 hb hg_ hnew_;clear hg_ hnew_;(first|rw[←Ny244.out]at ho4|(simp only[Int.reduceToNat]at ho4;rw[←Ny244.out]at ho4));have n0_:=Aside0.mk (Kd.V_elder' (tV HO0.out) (Kd.N_base ho4) hb);have n1_:=Aside0.mk (Kd.N_lower ho4 (below_size (tB HB.out)));have n2_:=Aside0.mk (below_step (tB HB.out) hb);clear HO0;clear HB;have HO0:=n0_;have HO246:=n1_;have HB:=n2_;clear n0_ n1_ n2_;clear hb ho4;obtain⟨Ao5,co5,eo5⟩:=Kd.N_slice HO246.out;subst eo5)|((with_reducible refine gate_callee (f:=68) rfl ?_);refine goesL_ (some 5) rfl rfl Try.func68 tK rfl #[.bool true, .int .i64 6, .slice Ao5 y244.length co5] rfl tM ?_;(with_reducible refine(pancake_check.calls k true 6 _ _ y244 t247 _ ?side1 ?side2 A2.out).mono ?_);(case side1=>repeat(first|exact(Kd.N_reads' HO246.out).2.2|(with_reducible refine Kd.C_alloc ?_ _)|(with_reducible refine Kd.C_drewN ?_ _)|(with_reducible refine Kd.C_drew ?_)));(case side2=>exact(Kd.N_reads' HO246.out).2.1);rintro e w6 ⟨rfl,hb⟩;refine⟨_,rfl,?_⟩;have n0_:=Aside0.mk (Kd.V_below (tV HO0.out) hb);have n1_:=Aside0.mk (Kd.N_below (by(with_reducible repeat(first|apply Kd.N_alloc|apply Kd.N_drewN|apply Kd.N_drew));exact HO246.out) hb);have n2_:=Aside0.mk (below_step (tB HB.out) hb);clear HO0;clear HO246;clear HB;have HO0:=n0_;have HO246:=n1_;have HB:=n2_;clear n0_ n1_ n2_;(try clear hb);(try clear hb2);(try clear hk);(try clear hi)))
 go_ret;exact⟨by first|rfl|(simp[errW_none,errW_some]<;>rfl)|(simp[*,errW_none,errW_some]<;>rfl),by repeat(first|(with_reducible first|exact HB.out|apply below_alloc|apply pw_below_drewN|apply below_drew1)|exact HB.out)⟩
def pancake_FlipBurnt.f (k:Nat) (l0:List Int) (a1:Int):Option (List Int×Int):=(pancake_CheckBurnt.f k l0).bind fun t248=>(if t248=0 then((pancake_topFlipped.f l0 a1 true).bind fun bt249=>(some (bt249.1,bt249.2)))else(some (([]:List Int),t248)))
set_option maxHeartbeats 8000000 in
set_option maxRecDepth 100000 in
theorem pancake_FlipBurnt.calls (k:Nat) (A0:Option Addr) (c0:Nat) (l0:List Int) (a1:Int) (r1:List Int) (r2:Int) (w:World) (hr0:Kd.C (Kd.int .i64) w A0 l0.length l0) (hc0:l0.length≤c0) (h:pancake_FlipBurnt.f k l0 a1=some (r1,r2)):
  Calls Try.prog 33 #[.slice A0 l0.length c0, .int .i64 a1] w fun e w'=> ∃v0_:Value,e= .returned (.tuple #[v0_, .int .i64 r2])∧Kd.R (Kd.int .i64) 3 w' w.heap.size (fun _=>True) v0_ r1∧Below w.heap.size w w':=by
 have HR0:=Aside0.mk hr0;have HC0:=Aside0.mk hc0;clear hr0 hc0;have HB:=Aside0.mk (Below.refl w.heap.size w);have H:((pancake_CheckBurnt.f k l0).bind fun t248=>(if t248=0 then((pancake_topFlipped.f l0 a1 true).bind fun bt249=>(some (bt249.1,bt249.2)))else(some (([]:List Int),t248))))=some (r1,r2):=h;clear h;replace H:=Option.bind_eq_some_iff.mp H;obtain⟨t248,A30,H⟩:=H;replace H:(if t248=0 then((pancake_topFlipped.f l0 a1 true).bind fun bt249=>(some (bt249.1,bt249.2)))else(some (([]:List Int),t248)))=some (r1,r2):=H;have A3:=Aside0.mk A30;clear A30;by_cases c4:t248=0
 ·rw[if_pos c4]at H;have c4b0:(t248==0)=true:=beq_iff_eq.mpr c4;have c4b1:(t248 !=0)=false:=bne_eq_false_iff_eq.mpr c4;clear c4;replace H:=Option.bind_eq_some_iff.mp H;obtain⟨⟨t249,t250⟩,A50,H⟩:=H;replace H:(some (t249,t250))=some (r1,r2):=H;have A5:=Aside0.mk A50;clear A50;simp only[Option.some.injEq,Prod.mk.injEq]at H;obtain⟨rfl,rfl⟩:=H
  go_enter Try.func33,Try.ntmps33
  go_wp2_with (first|((with_reducible refine gate_callee (f:=59) rfl ?_);refine goesL_ (some 8) rfl rfl Try.func59 tK rfl #[.slice A0 l0.length c0] rfl tM ?_;(with_reducible refine(pancake_CheckBurnt.calls k (fun k_=>k_< w.heap.size) _ _ l0 t248 _ ?side1 A3.out).mono ?_);(case side1=>exact Kd.V_mk HC0.out (Kd.F_below (Kd.C_F (Kd.heap_int .i64) HR0.out) (tB HB.out)));rintro e w6 ⟨rfl,hb⟩;refine⟨_,rfl,?_⟩;have n0_:=Aside0.mk (below_step (tB HB.out) hb);clear HB;have HB:=n0_;clear n0_;(try clear hb);(try clear hb2);(try clear hk);(try clear hi))|((with_reducible refine gate_callee (f:=71) rfl ?_);refine goesL_ (some 14) rfl rfl Try.func71 tK rfl #[.slice A0 l0.length c0, .int .i64 a1, .bool true] rfl tM ?_;(with_reducible refine(pancake_topFlipped.calls _ _ l0 a1 true t249 t250 _ ?side1 ?side2 A5.out).mono ?_);(case side1=>repeat(first|exact(Kd.C_below HR0.out HB.out)|(with_reducible refine Kd.C_alloc ?_ _)|(with_reducible refine Kd.C_drewN ?_ _)|(with_reducible refine Kd.C_drew ?_)));(case side2=>exact HC0.out);rintro e w7 ⟨v251,rfl,ho0,hb⟩;refine⟨_,rfl,?_⟩;have n0_:=Aside0.mk (Kd.R_lower ho0 (below_size (tB HB.out)));have n1_:=Aside0.mk (below_step (tB HB.out) hb);clear HB;have HO252:=n0_;have HB:=n1_;clear n0_ n1_;(try clear hb);(try clear hb2);(try clear hk);(try clear hi);(try clear ho0)))
  go_ret2
  exact⟨_,by first|rfl|(simp[errW_none,errW_some]<;>rfl)|(simp[*,errW_none,errW_some]<;>rfl),by(with_reducible repeat(first|apply Kd.R_alloc|apply Kd.R_drewN|apply Kd.R_drew));exact HO252.out,by repeat(first|(with_reducible first|exact HB.out|apply below_alloc|apply pw_below_drewN|apply below_drew1)|exact HB.out)⟩
 ·rw[if_neg c4]at H;have c4b0:(t248==0)=false:=beq_eq_false_iff_ne.mpr c4;have c4b1:(t248 !=0)=true:=bne_iff_ne.mpr c4;simp only[Option.some.injEq,Prod.mk.injEq]at H;obtain⟨rfl,rfl⟩:=H
  go_enter Try.func33,Try.ntmps33
  go_wp2_with (first|((with_reducible refine gate_callee (f:=59) rfl ?_);refine goesL_ (some 8) rfl rfl Try.func59 tK rfl #[.slice A0 l0.length c0] rfl tM ?_;(with_reducible refine(pancake_CheckBurnt.calls k (fun k_=>k_< w.heap.size) _ _ l0 t248 _ ?side1 A3.out).mono ?_);(case side1=>exact Kd.V_mk HC0.out (Kd.F_below (Kd.C_F (Kd.heap_int .i64) HR0.out) (tB HB.out)));rintro e w8 ⟨rfl,hb⟩;refine⟨_,rfl,?_⟩;have n0_:=Aside0.mk (below_step (tB HB.out) hb);clear HB;have HB:=n0_;clear n0_;(try clear hb);(try clear hb2);(try clear hk);(try clear hi)))
  go_ret2
  exact⟨_,by first|rfl|(simp[errW_none,errW_some]<;>rfl)|(simp[*,errW_none,errW_some]<;>rfl),by first|exact Kd.R_nil _ _ _ _ _|exact Kd.N_nil _ _ _ _ _|exact Kd.V_nil _ _ _ _ _|exact Kd.Q_nil _ _ _ _ _|exact Kd.S_nil _ _ _ _ _,by repeat(first|(with_reducible first|exact HB.out|apply below_alloc|apply pw_below_drewN|apply below_drew1)|exact HB.out)⟩
end Go.Proofs.Ytepjhdblmghckaa.Q
namespace Go.Proofs.Ytepjhdblmghckaa.G
open Go.Proofs.Ytepjhdblmghckaa.Q Go.Proofs.Ytepjhdblmghckaa.K Go.Proofs.Ytepjhdblmghckaa.Bf
open Go.RowKit Go.Shelf Go.Proofs.YtepjhdblmghckaaW.PrintWords Go.Proofs.YtepjhdblmghckaaW.PrintLast Go.Proofs.YtepjhdblmghckaaW.PrintMore
theorem aw2:pancake_Gaps.f 100 [1,3,2]=some (2,0):=by kernel_rfl
theorem aw7:pancake_FlipBurnt.f 100 [1] 1=some ([-1],0):=by kernel_rfl
theorem aw8:chk1 false 7 []=70:=by kernel_rfl
theorem C_new (W:World) (l:List Int) (hl:l.length≤100):Kd.C (Kd.int .i64) (W.alloc (.cells (l.map (Value.int .i64)).toArray 3)) (some ⟨W.heap.size,0,none⟩) l.length l:=by
 have hb:=Blk.new W (l.map (Value.int .i64)).toArray 3;refine⟨rfl,by omega,fun _=>⟨_,rfl,fun j p hj=>⟨[.int .i64 p],rfl,rfl,fun i u hu=>?_⟩⟩⟩
 match i,hu with
 |0,hu=>
  cases hu;show(W.alloc _).cell? (Addr.add ⟨W.heap.size,0,none⟩ (j*1+0))=_;rw[Addr.add_lit,Nat.mul_one,Nat.add_zero,Nat.zero_add];exact hb.cell j (by simp[hj])
 |i+1,hu=>simp at hu
def bibelotlaw07_awake.f:Option Bool:=some true
set_option maxRecDepth 100000 in
set_option maxHeartbeats 8000000 in
theorem bibelotlaw07_awake.calls (r:Bool) (w:World) (h:bibelotlaw07_awake.f=some r):
  Calls Try.prog 26 #[] w fun e w'=>e= .returned (.bool r)∧Below w.heap.size w w':=by
 cases h
 go_enter Try.func26,Try.ntmps26
 go_wp2_with (go_at_call 28;refine stopper ?_)
 (try unfold Hold);have c1:=C_new w [3,1,2] tD;have c2:=C_new (w.alloc (.cells #[.int .i64 3, .int .i64 1, .int .i64 2] 3)) [1,2,3] tD;have hb:=(((Below.refl w.heap.size w).alloc (Nat.le_refl _) (.cells #[.int .i64 3, .int .i64 1, .int .i64 2] 3)).alloc tS (.cells #[.int .i64 1, .int .i64 2, .int .i64 3] 3));rw[World.size_alloc]at c2;obtain⟨w0,hw0⟩: ∃w0,(w.alloc (.cells #[.int .i64 3, .int .i64 1, .int .i64 2] 3)).alloc (.cells #[.int .i64 1, .int .i64 2, .int .i64 3] 3)=w0:=⟨_,rfl⟩;have c1':=Kd.C_below c1 ((Below.refl _ _).alloc (Nat.le_refl _) (.cells #[.int .i64 1, .int .i64 2, .int .i64 3] 3));rw[show(w.alloc (.cells ([3,1,2].map (Value.int .i64)).toArray 3)).alloc (.cells #[.int .i64 1, .int .i64 2, .int .i64 3] 3)=w0 from hw0]at c1';rw[show(w.alloc (.cells #[.int .i64 3, .int .i64 1, .int .i64 2] 3)).alloc (.cells ([1,2,3].map (Value.int .i64)).toArray 3)=w0 from hw0]at c2;rw[hw0]at hb ⊢;refine(pancake_Flips.calls (some ⟨w.heap.size,0,none⟩) 3 [3,1,2] (some ⟨w.heap.size+1,0,none⟩) 3 [1,2,3] 2 0 w0 c1' tD c2 tD aw1).mono ?_;rintro e w1 ⟨rfl,hb1⟩;have HB1:=Aside0.mk (hb.trans (hb1.mono hb.size));clear c1 c2 c1' hb hw0 hb1
 go_wp2_with (go_at_call 30;refine stopper ?_)
 (try unfold Hold);have c1:=C_new w1 [1,3,2] tD;rw[show w1.alloc (.cells ([1,3,2].map (Value.int .i64)).toArray 3)=w1.alloc (.cells #[.int .i64 1, .int .i64 3, .int .i64 2] 3)from rfl]at c1;have hb:=HB1.out.alloc HB1.out.size (.cells #[.int .i64 1, .int .i64 3, .int .i64 2] 3);obtain⟨z1,hz⟩: ∃z1,w1.alloc (.cells #[.int .i64 1, .int .i64 3, .int .i64 2] 3)=z1:=⟨_,rfl⟩;obtain⟨y1,hy⟩: ∃y1,w1.heap.size=y1:=⟨_,rfl⟩;rw[hz,hy]at c1;rw[hz]at hb;(try rw[hz]);(try rw[hy]);refine(pancake_Gaps.calls 100 (some ⟨y1,0,none⟩) 3 [1,3,2] 2 0 z1 c1 tD aw2).mono ?_;rintro e w2 ⟨rfl,hb1⟩;have HB2:=Aside0.mk (hb.trans (hb1.mono hb.size));clear c1 hb hz hy hb1
 go_wp2_with (go_at_call 42;refine stopper ?_)
 (try unfold Hold);refine(pancake_Worst.calls 3 3 1 0 w2 aw3).mono ?_;rintro e w3 ⟨rfl,hb1⟩;have HB3:=Aside0.mk (HB2.out.trans (hb1.mono HB2.out.size));clear hb1
 go_wp2_with (go_at_call 23;refine stopper ?_)
 (try unfold Hold);have c1:=C_new w3 [2,1] tD;rw[show w3.alloc (.cells ([2,1].map (Value.int .i64)).toArray 3)=w3.alloc (.cells #[.int .i64 2, .int .i64 1] 3)from rfl]at c1;have hb:=HB3.out.alloc HB3.out.size (.cells #[.int .i64 2, .int .i64 1] 3);obtain⟨z3,hz⟩: ∃z3,w3.alloc (.cells #[.int .i64 2, .int .i64 1] 3)=z3:=⟨_,rfl⟩;obtain⟨y3,hy⟩: ∃y3,w3.heap.size=y3:=⟨_,rfl⟩;rw[hz,hy]at c1;rw[hz]at hb;(try rw[hz]);(try rw[hy]);refine(pancake_Distance.calls (some ⟨y3,0,none⟩) 2 [2,1] 3 0 z3 c1 tD aw4).mono ?_;rintro e w4 ⟨rfl,hb1⟩;have HB4:=Aside0.mk (hb.trans (hb1.mono hb.size));clear c1 hb hz hy hb1
 go_wp2_with (go_at_call 36;refine stopper ?_)
 (try unfold Hold);have c1:=C_new w4 [-1] tD;rw[show w4.alloc (.cells ([-1].map (Value.int .i64)).toArray 3)=w4.alloc (.cells #[.int .i64 (-1)] 3)from rfl]at c1;have hb:=HB4.out.alloc HB4.out.size (.cells #[.int .i64 (-1)] 3);obtain⟨z4,hz⟩: ∃z4,w4.alloc (.cells #[.int .i64 (-1)] 3)=z4:=⟨_,rfl⟩;obtain⟨y4,hy⟩: ∃y4,w4.heap.size=y4:=⟨_,rfl⟩;rw[hz,hy]at c1;rw[hz]at hb;(try rw[hz]);(try rw[hy]);refine(pancake_Circles.calls (some ⟨y4,0,none⟩) 1 [-1] [[0,1]] 0 z4 c1 tD aw5).mono ?_;rintro e w5 ⟨v5,rfl,hv5,hb1⟩;have HB5:=Aside0.mk (hb.trans (hb1.mono hb.size));clear c1 hb hz hy hb1;obtain⟨A5,c5,ev5⟩:=Kd.S_slice hv5;subst ev5;have HV5:=Aside0.mk hv5;clear hv5
 go_wp2_with (go_at_call 22;refine stopper ?_)
 (try unfold Hold);have c1:=C_new w5 [2,1] tD;rw[show w5.alloc (.cells ([2,1].map (Value.int .i64)).toArray 3)=w5.alloc (.cells #[.int .i64 2, .int .i64 1] 3)from rfl]at c1;have hb:=HB5.out.alloc HB5.out.size (.cells #[.int .i64 2, .int .i64 1] 3);obtain⟨z5,hz⟩: ∃z5,w5.alloc (.cells #[.int .i64 2, .int .i64 1] 3)=z5:=⟨_,rfl⟩;obtain⟨y5,hy⟩: ∃y5,w5.heap.size=y5:=⟨_,rfl⟩;rw[hz,hy]at c1;rw[hz]at hb;(try rw[hz]);(try rw[hy]);refine(pancake_Components.calls (some ⟨y5,0,none⟩) 2 [2,1] 1 1 1 false 0 z5 c1 tD aw6).mono ?_;rintro e w6 ⟨rfl,hb1⟩;have HV6:=Aside0.mk (Kd.S_below (Kd.S_below HV5.out (show Below w5.heap.size w5 z5 by rw[←hz];exact(Below.refl _ _).alloc (Nat.le_refl _) _)) hb1);have HB6:=Aside0.mk (hb.trans (hb1.mono hb.size));clear c1 hb hz hy hb1
 go_wp2_with (go_at_call 33;refine stopper ?_)
 (try unfold Hold);have c1:=C_new w6 [1] tD;rw[show w6.alloc (.cells ([1].map (Value.int .i64)).toArray 3)=w6.alloc (.cells #[.int .i64 1] 3)from rfl]at c1;have hb:=HB6.out.alloc HB6.out.size (.cells #[.int .i64 1] 3);obtain⟨z6,hz⟩: ∃z6,w6.alloc (.cells #[.int .i64 1] 3)=z6:=⟨_,rfl⟩;obtain⟨y6,hy⟩: ∃y6,w6.heap.size=y6:=⟨_,rfl⟩;rw[hz,hy]at c1;rw[hz]at hb;(try rw[hz]);(try rw[hy]);refine(pancake_FlipBurnt.calls 100 (some ⟨y6,0,none⟩) 1 [1] 1 [-1] 0 z6 c1 tD aw7).mono ?_;rintro e w7 ⟨v7,rfl,hv7,hb1⟩;have HV7:=Aside0.mk (Kd.S_below (Kd.S_below HV6.out (show Below w6.heap.size w6 z6 by rw[←hz];exact(Below.refl _ _).alloc (Nat.le_refl _) _)) hb1);obtain⟨A7,c7,ev7⟩:=Kd.R_slice hv7;subst ev7;obtain⟨ad7,e7,hc7⟩:=Kd.at_int (Kd.R_reads' hv7).2.2 0 tD tD;subst e7;have HB7:=Aside0.mk (hb.trans (hb1.mono hb.size));clear c1 hb hz hy hb1;have hS:=Kd.S_reads' HV7.out;obtain⟨ad5,cs5,e5,_,⟨A8,c8,e8,hl8,hc8⟩,hcell⟩:=Kd.C_get hS.2.2 [] 0 tD tD;subst e5;subst e8;have hc9:=hcell 0 _ rfl;have hc9':w7.cell? ad5=some (.slice A8 2 c8):=by simpa [Addr.add_zero']using hc9
 have hc7':w7.cell? ad7=some (.int .i64 (-1)):=by
  have e:rd [-1] 0= -1:=by decide
  rw[e]at hc7;simpa [Addr.add_zero']using hc7
 have HCK:=Aside0.mk (check58_one none 0 [] w7 (Kd.C_nil _ _) (Nat.le_refl _));rw[aw8]at HCK;clear hS hl8 hc8 hcell hc9 hc7 hv7
 go_wp2_with (go_at_call 58;refine stopper ?_)
 (try unfold Hold);refine HCK.out.mono ?_;rintro e w8 ⟨rfl,hb1⟩;have HB8:=Aside0.mk (HB7.out.trans (hb1.mono HB7.out.size));clear hb1;go_wp2;go_ret;exact⟨rfl,HB8.out⟩
end Go.Proofs.Ytepjhdblmghckaa.G