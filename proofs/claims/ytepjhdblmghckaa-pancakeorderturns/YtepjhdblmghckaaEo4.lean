/- PancakeOrderTurns: turns that order any short row, the smallest number of them, or ErrArg: a part of the proof (4 of 14): contracts of the functions, and plain lemmas. -/
import Derived.Test.YtepjhdblmghckaaUo
import Derived.Test.YtepjhdblmghckaaEo1
import Derived.Test.YtepjhdblmghckaaEo2
import Derived.Test.YtepjhdblmghckaaEo3
import Derived.Shelf.SlicesE.Delete
set_option linter.unusedVariables false
set_option linter.unusedSimpArgs false
namespace Go.Proofs.Ytepjhdblmghckaa.G
open Go.Proofs.Ytepjhdblmghckaa.Q Go.Proofs.Ytepjhdblmghckaa.K Go.Proofs.Ytepjhdblmghckaa.Bf
open Go.RowKit Go.Shelf Go.Proofs.YtepjhdblmghckaaW.PrintWords Go.Proofs.YtepjhdblmghckaaW.PrintLast Go.Proofs.YtepjhdblmghckaaW.PrintMore
def gap (n:Nat) (sg:Bool) (a b:List Int):Nat:=least (nextK n sg false) a b (15^n+1)
theorem FinS.gap {n:Nat} {sg:Bool} {a b:List Int} {M:Km} {L:List (List Int)} (h:FinS n sg false a (some b) M L):((M b).getD zeroS).2=gap n sg a b:=by
 cases hb:M b with
 |some e=>
  have h1:=h.found b e.2 (by unfold Sof;rw[hb];rfl);exact h1.symm
 | none=>
  rcases h.done with hd|⟨u,hu,hm⟩
  ·exact(least_none (hd b hb)).symm
  ·cases hu;rw[hb]at hm;cases hm
theorem stepAgg (x:St3):stepE x= .agg #[.int .i64 (x.1.1:Int), .int .i64 (x.1.2:Int), .int .i64 (x.2:Int)]:=rfl
set_option maxRecDepth 100000 in
set_option maxHeartbeats 4000000 in
theorem between_calls (n:Nat) (hn:n≤7) (sg:Bool) (s t:List Int) (hs:Vs n s) (ht:Vs n t) (w:World):
  Calls Try.prog 69 #[.agg #[.int .i64 n, .bool sg, .bool false], .agg (stk (nth s)), .agg (stk (nth t))] w fun e w'=>e= .returned (.int .i64 (gap n sg t s:Nat))∧Below w.heap.size w w':=by
 obtain⟨sm,hsm⟩: ∃sm,nth s=sm:=⟨_,rfl⟩;obtain⟨tm,htm⟩: ∃tm,nth t=tm:=⟨_,rfl⟩;obtain⟨W0,hW0⟩: ∃W0,((w.alloc (.cells #[.int .i64 n, .bool sg, .bool false] 88)).alloc (.cells (stk sm) 92)).alloc (.cells (stk tm) 92)=W0:=⟨_,rfl⟩;have hsz:W0.heap.size=w.heap.size+3:=by rw[←hW0];simp
 have hB:Below w.heap.size w W0:=by rw[←hW0];exact(((Below.refl _ w).alloc (Nat.le_refl _) _).alloc tS _).alloc (by simp;omega) _
 have h0:Blk W0 w.heap.size #[.int .i64 n, .bool sg, .bool false] 88:=by
  rw[←hW0];exact((Blk.new _ _ _).alloc _).alloc _
 have h1:Blk W0 (w.heap.size+1) (stk sm) 92:=by
  rw[←hW0];have:=(Blk.new (w.alloc (.cells #[.int .i64 n, .bool sg, .bool false] 88)) (stk sm) 92).alloc (.cells (stk tm) 92);rw[World.size_alloc]at this;exact this
 have h2:Blk W0 (w.heap.size+2) (stk tm) 92:=by
  rw[←hW0];have:=Blk.new ((w.alloc (.cells #[.int .i64 n, .bool sg, .bool false] 88)).alloc (.cells (stk sm) 92)) (stk tm) 92;rw[World.size_alloc,World.size_alloc]at this;exact this
 have HC:=Aside0.mk (search_calls n sg false hn t ht (some s) (.pointer (some ⟨w.heap.size+1,0,none⟩)) W0.drew (.inr ⟨w.heap.size+1,s,rfl,rfl,hs,by show w.heap.size+1< W0.heap.size;omega,by rw[hsm];exact h1.drew⟩));rw[htm]at HC;have k0:=h0.cell 0 (v:= .int .i64 n) rfl;have k1:=h0.cell 1 (v:= .bool sg) rfl;have k2:=h0.cell 2 (v:= .bool false) rfl;obtain⟨t0,t1,t2,t3,t4,t5,t6⟩:=stk_cells h2;obtain⟨q0,q1,q2,q3,q4,q5,q6⟩:=stk_cells h1;have HB:=Aside0.mk hB;have HS:=Aside0.mk hs;have H1:=Aside0.mk h1;have HSZ:=Aside0.mk hsz;have HSM:=Aside0.mk hsm;unfold stk at hW0 HC;rw[hsm,htm];unfold stk;clear h0 h1 h2 hB hs ht hsz hsm htm
 go_enter Try.func69,Try.ntmps69
 go_upto_region 1 with fail
 (try rw[hW0]);clear hW0;refine start_ (n:=7) (S:=fun w'=>w'.cell? ⟨w.heap.size,0,none⟩=some (.int .i64 (n:Int))∧w'.cell? ⟨w.heap.size,1,none⟩=some (.bool sg)∧w'.cell? ⟨w.heap.size,2,none⟩=some (.bool false)∧w'.cell? ⟨w.heap.size+2,0,none⟩=some (.int .i8 (tm 0))∧w'.cell? ⟨w.heap.size+2,1,none⟩=some (.int .i8 (tm 1))∧w'.cell? ⟨w.heap.size+2,2,none⟩=some (.int .i8 (tm 2))∧w'.cell? ⟨w.heap.size+2,3,none⟩=some (.int .i8 (tm 3))∧w'.cell? ⟨w.heap.size+2,4,none⟩=some (.int .i8 (tm 4))∧w'.cell? ⟨w.heap.size+2,5,none⟩=some (.int .i8 (tm 5))∧w'.cell? ⟨w.heap.size+2,6,none⟩=some (.int .i8 (tm 6))∧w'.cell? ⟨w.heap.size+1,0,none⟩=some (.int .i8 (sm 0))∧w'.cell? ⟨w.heap.size+1,1,none⟩=some (.int .i8 (sm 1))∧w'.cell? ⟨w.heap.size+1,2,none⟩=some (.int .i8 (sm 2))∧w'.cell? ⟨w.heap.size+1,3,none⟩=some (.int .i8 (sm 3))∧w'.cell? ⟨w.heap.size+1,4,none⟩=some (.int .i8 (sm 4))∧w'.cell? ⟨w.heap.size+1,5,none⟩=some (.int .i8 (sm 5))∧w'.cell? ⟨w.heap.size+1,6,none⟩=some (.int .i8 (sm 6))) (ds:= [4]) #[false,false,false,false,false,false,false] tK rfl rfl ⟨k0,k1,k2,t0,t1,t2,t3,t4,t5,t6,q0,q1,q2,q3,q4,q5,q6⟩ (fun hHeld=>?_);refine take_ (i:=0) (N:=(some 7)) (v:=?_) (a':=?_) #[true,false,false,false,false,false,false] rfl rfl tK (fun _ _ _ h=>h) (Or.inl ⟨by rfl,?_⟩) hHeld ?_ ?_;rotate_left
 ·rintro w' ⟨s0,s1,s2,s3,s4,s5,s6,s7,s8,s9,s10,s11,s12,s13,s14,s15,s16⟩;go_simp;with_reducible rfl
 rotate_left
 ·simp only[Act.put,List.setIfInBounds_toArray,List.set_cons_zero,List.set_cons_succ];rfl
 refine take_ (i:=1) (N:=(some 8)) (v:=?_) (a':=?_) #[true,true,false,false,false,false,false] rfl rfl tK (fun _ _ _ h=>h) (Or.inl ⟨by rfl,?_⟩) hHeld ?_ ?_;rotate_left
 ·rintro w' ⟨s0,s1,s2,s3,s4,s5,s6,s7,s8,s9,s10,s11,s12,s13,s14,s15,s16⟩;go_simp;with_reducible rfl
 rotate_left
 ·simp only[Act.put,List.setIfInBounds_toArray,List.set_cons_zero,List.set_cons_succ];rfl
 refine take_ (i:=3) (N:=(some 10)) (v:=?_) (a':=?_) #[true,true,false,true,false,false,false] rfl rfl tK (fun _ _ _ h=>h) (Or.inl ⟨by rfl,?_⟩) hHeld ?_ ?_;rotate_left
 ·rintro w' ⟨s0,s1,s2,s3,s4,s5,s6,s7,s8,s9,s10,s11,s12,s13,s14,s15,s16⟩;go_simp;with_reducible rfl
 rotate_left
 ·simp only[Act.put,List.setIfInBounds_toArray,List.set_cons_zero,List.set_cons_succ];rfl
 refine one_ (i:=2) (N:=(some 9)) #[true,true,true,true,false,false,false] rfl rfl tK tD (fun K hK=>?_);refine goes_ Try.func84 tK rfl #[.agg #[.int .i64 n, .bool sg, .bool false], .agg (stk tm), .pointer (some ⟨w.heap.size+1,0,none⟩)] (by rfl) rfl rfl tN ?_;refine HC.out.mono ?_;rintro e w' ⟨rfl,M,k,L,hF,hk,h7,hb⟩;have hl:=hk.look HS.out;have hg:=hF.gap;obtain⟨x,hx⟩: ∃x,(M s).getD zeroS=x:=⟨_,rfl⟩;rw[hx,HSM.out,stepAgg,show W0.drew.heap.size=W0.heap.size from rfl]at hl;rw[hx]at hg;have HG:=Aside0.mk hg;have HBW:=Aside0.mk hb;clear hg hb hx hF hk h7;unfold stk at hl;refine⟨_,rfl,?_⟩;have hcc: ∀(p:Addr) v,W0.drew.cell? p=some v→w'.cell? p=some v:=fun p v hp=>by rw[HBW.out.cell (p:=p) (World.block_lt_of_cell? _ _ hp)];exact hp
 refine hK.out _ _ ⟨hcc _ _ hHeld.1,hcc _ _ hHeld.2.1,hcc _ _ hHeld.2.2.1,hcc _ _ hHeld.2.2.2.1,hcc _ _ hHeld.2.2.2.2.1,hcc _ _ hHeld.2.2.2.2.2.1,hcc _ _ hHeld.2.2.2.2.2.2.1,hcc _ _ hHeld.2.2.2.2.2.2.2.1,hcc _ _ hHeld.2.2.2.2.2.2.2.2.1,hcc _ _ hHeld.2.2.2.2.2.2.2.2.2.1,hcc _ _ hHeld.2.2.2.2.2.2.2.2.2.2.1,hcc _ _ hHeld.2.2.2.2.2.2.2.2.2.2.2.1,hcc _ _ hHeld.2.2.2.2.2.2.2.2.2.2.2.2.1,hcc _ _ hHeld.2.2.2.2.2.2.2.2.2.2.2.2.2.1,hcc _ _ hHeld.2.2.2.2.2.2.2.2.2.2.2.2.2.2.1,hcc _ _ hHeld.2.2.2.2.2.2.2.2.2.2.2.2.2.2.2.1,hcc _ _ hHeld.2.2.2.2.2.2.2.2.2.2.2.2.2.2.2.2⟩ (fun hHeld=>?_);clear hcc hK K hHeld;refine norm_ (a':=?_) ?_ ?_;rotate_left
 ·show Act.put _ (some 9) _=_;simp only[Act.put,List.setIfInBounds_toArray,List.set_cons_zero,List.set_cons_succ];rfl
 refine last_ (i:=4) (N:=(some 11)) #[true,true,true,true,true,false,false] rfl rfl tK tD (fun K hK=>?_);rw[if_pos (by rfl)];have HK:=Aside0.mk hK.out;clear hK;unfold Oper.wp;go_simp;refine HK.out _ _ ?_;clear HK K;have hfd:=fun W=>field115 (x.1.1:Int) (x.1.2:Int) (x.2:Int) W;refine puA 5 (some 12) ?_;refine puA 6 (some 6) ?_;refine done_ tK ?_;go_wp2;go_ret;have hB:=HB.out.drew;exact⟨by rw[←HG.out];rfl,hB.trans (HBW.out.mono hB.size)⟩
def Rg (W:World) (b r k n:Nat) (M:Km) (vis:List (List Int)) (cnt:Nat):Prop:=
 ∃(D:DataW Unit) (left:Lit→Bool),W.ranges Try.prog 92 stepR b r k D left cnt∧
  (∀l,Vs n l→Go.Maps.has D (KL l)=(M l).isSome∧D.atKey (KL l) (stepD zeroS)=stepD ((M l).getD zeroS))∧
  (∀kl,Go.Maps.has D kl=true→ ∃l,Vs n l∧kl=KL l)∧
  (∀l,Vs n l→left (KL l)=((M l).isSome&&!decide (l∈vis)))∧(∀kl,left kl=true→Go.Maps.has D kl=true)
theorem Kn.range {W:World} {b k n:Nat} {M:Km} (h:Kn W b k n M):
  ∃W' cnt,(Instr.range 116 (.map (some b))).run Try.prog W= .ok (.pointer (some ⟨W.heap.size,0,none⟩)) W'∧Rg W' b W.heap.size k n M [] cnt∧W.grownBy W' none∧W'.heap.size=W.heap.size+1:=by
 obtain⟨D,h1,h2,h3,h4⟩:=h;obtain⟨W',hrun,hr,hg,hs⟩:=h1.range law92 u116;exact⟨W',_,hrun,⟨D,_,hr,h3,h4,fun l hl=>by rw[(h3 l hl).1];simp,fun kl h=>h⟩,hg,hs⟩
theorem Rg.kept {W W':World} {b r k n:Nat} {M:Km} {vis:List (List Int)} {cnt:Nat} {row:Option Nat} (h:Rg W b r k n M vis cnt) (hg:W.grownBy W' row) (hb:some b≠row) (hr:some r≠row):Rg W' b r k n M vis cnt:=by
 obtain⟨D,left,h1,h2⟩:=h;exact⟨D,left,h1.kept hg hb hr,h2⟩
theorem Rg.lt {W:World} {b r k n:Nat} {M:Km} {vis:List (List Int)} {cnt:Nat} (h:Rg W b r k n M vis cnt):r< W.heap.size∧b< W.heap.size∧W.rangeLeft b r=cnt∧r≠b:=by
 obtain⟨D,left,h1,h2⟩:=h;exact⟨h1.lt,h1.owns.lt,h1.left_eq,h1.ne⟩
theorem stepR_form {v:Value} {y:DataW Unit×List MemPlace} {x:St3} (h:stepR v=some y) (hy:y.1=stepD x):v=stepE x:=by
 obtain⟨y1,y2⟩:=y;simp only at hy;rw[hy]at h;exact stepR_inv h
theorem Rg.next {W:World} {b r k n:Nat} {M:Km} {vis:List (List Int)} {cnt:Nat} (h:Rg W b r k n M vis cnt) (hn:n≤7):
  (cnt=0∧(∀l,Vs n l→(M l).isSome=true→l∈vis)∧(Instr.next (.pointer (some ⟨r,0,none⟩)) false 0).run Try.prog W= .ok (.tuple #[.bool false]) W)∨
  ∃l e key W' cnt',Vs n l∧M l=some e∧l∉vis∧(Instr.next (.pointer (some ⟨r,0,none⟩)) false 0).run Try.prog W= .ok (.tuple #[.bool true,key,stepE e]) W'∧
   Rg W' b r k n M (vis++ [l]) cnt'∧cnt'< cnt∧W.grownBy W' (some r)∧W'.heap.size=W.heap.size∧(Instr.entry (.pointer (some ⟨r,0,none⟩))).run Try.prog W'= .ok (.tuple #[key,stepE e]) W':=by
 obtain⟨D,left,h1,h2,h3,h4,h5⟩:=h;rcases h1.next law92 0 with⟨hc,hno,hrun⟩|⟨key,v,kl,y,W',cnt',hkey,hl,hv,hat,hrun,hr',hlt,hg,hsz,hent⟩
 ·refine .inl ⟨hc,fun l hl hs=>?_,hrun⟩;have:=h4 l hl;rw[hno,hs]at this;simpa using this.symm
 ·obtain⟨l,hvl,rfl⟩:=h3 kl (h5 kl hl);have hlf:=h4 l hvl;rw[hl]at hlf;have hm:(M l).isSome=true∧l∉vis:=by simpa using hlf.symm
  obtain⟨e,he⟩:=Option.isSome_iff_exists.1 hm.1
  have hy:y.1=stepD e:=by
   rw[←hat (stepD zeroS),(h2 l hvl).2,he];rfl
  obtain rfl:=stepR_form hv hy;refine .inr ⟨l,e,key,W',cnt',hvl,he,hm.2,hrun,⟨D,_,hr',h2,h3,fun x hx=>?_,fun kl hkl=>h5 kl (by simp only[Bool.and_eq_true]at hkl;exact hkl.1)⟩,hlt,hg,hsz,hent⟩;rw[h4 x hx];by_cases ex:x=l
  ·subst ex;have:(KL x).sameKey (KL x)=true:=WideAt.sameKey_self (KL_lit hx);simp[this]
  ·have:(KL x).sameKey (KL l)=false:=by
    cases hs:(KL x).sameKey (KL l)
    ·rfl
    ·exact absurd (KL_inj hx hvl hn (WideAt.sameKey_eq hs)) ex
   simp[this,ex]
def uniq:List (List Int)→List (List Int)
 | []=> []
 |a::l=>if a∈l then uniq l else a::uniq l
theorem mem_uniq: ∀(l:List (List Int)) (x:List Int),x∈uniq l↔x∈l
 | [],x=>by simp[uniq]
 | a::l,x=>by
  unfold uniq
  split
  ·rename_i h
   rw[mem_uniq l x,List.mem_cons];exact⟨.inr,fun h'=>h'.elim (fun e=>e ▸ h) id⟩
  ·rw[List.mem_cons,List.mem_cons,mem_uniq l x]
theorem uniq_nodup: ∀l:List (List Int),(uniq l).Nodup
 | []=>by simp[uniq]
 | a::l=>by
  unfold uniq
  split
  ·exact uniq_nodup l
  ·rename_i h
   exact List.nodup_cons.2 ⟨fun h'=>h ((mem_uniq l a).1 h'),uniq_nodup l⟩
def reach (n:Nat) (sg:Bool):List (List Int):=uniq ((univ n).filter (fun x=>decide (x∈ball (nextK n sg false) (firstL n) (15^n))))
def mostOf (d:List Int→Nat):List (List Int)→Nat
 | []=>0
 |x::l=>max (d x) (mostOf d l)
def wrst (n:Nat) (sg:Bool):Nat×Nat:=
 let d:=gap n sg (firstL n)
 (mostOf d (reach n sg),(reach n sg).countP (fun x=>decide (d x=mostOf d (reach n sg))))
theorem mostOf_le (d:List Int→Nat): ∀(l:List (List Int)) (x:List Int),x∈l→d x≤mostOf d l
 |a::l,x,h=>by
  unfold mostOf;rcases List.mem_cons.1 h with rfl|h
  ·omega
  ·have:=mostOf_le d l x h;omega
theorem mostOf_at (d:List Int→Nat): ∀l:List (List Int),mostOf d l=0∨ ∃x,x∈l∧d x=mostOf d l
 | []=> .inl rfl
 | a::l=>by
  unfold mostOf;rcases Nat.le_total (mostOf d l) (d a)with h|h
  ·exact .inr ⟨a,by simp,by omega⟩
  ·rcases mostOf_at d l with h1|⟨x,hx,h2⟩
   ·exact .inl tO
   ·exact .inr ⟨x,List.mem_cons_of_mem _ hx,by omega⟩
structure Mo (d:List Int→Nat) (vis:List (List Int)) (a b:Nat):Prop where
 le: ∀x,x∈vis→d x≤a
 at_:a=0∨ ∃x,x∈vis∧d x=a
 many:b=vis.countP (fun x=>decide (d x=a))
theorem Mo.begin (d:List Int→Nat):Mo d [] 0 0:=⟨fun x h=>(by cases h), .inl rfl,rfl⟩
theorem Mo.more {d:List Int→Nat} {vis:List (List Int)} {a b:Nat} (h:Mo d vis a b) {x:List Int} (hx:a< d x):Mo d (vis++ [x]) (d x) 1:=by
 refine⟨fun y hy=>?_, .inr ⟨x,by simp,rfl⟩,?_⟩
 ·rcases List.mem_append.1 hy with hy|hy
  ·have:=h.le y hy;omega
  ·simp at hy;subst hy;omega
 ·rw[List.countP_append]
  have:vis.countP (fun y=>decide (d y=d x))=0:=by
   rw[List.countP_eq_zero];intro y hy;have:=h.le y hy;simp;omega
  rw[this];simp
theorem Mo.same {d:List Int→Nat} {vis:List (List Int)} {a b:Nat} (h:Mo d vis a b) {x:List Int} (hx:d x=a):Mo d (vis++ [x]) a (b+1):=by
 refine⟨fun y hy=>?_, .inr ⟨x,by simp,hx⟩,?_⟩
 ·rcases List.mem_append.1 hy with hy|hy
  ·exact h.le y hy
  ·simp at hy;subst hy;omega
 ·rw[List.countP_append,←h.many];simp[hx]
theorem Mo.less {d:List Int→Nat} {vis:List (List Int)} {a b:Nat} (h:Mo d vis a b) {x:List Int} (hx:d x< a):Mo d (vis++ [x]) a b:=by
 refine⟨fun y hy=>?_,?_,?_⟩
 ·rcases List.mem_append.1 hy with hy|hy
  ·exact h.le y hy
  ·simp at hy;subst hy;omega
 ·rcases h.at_ with h1|⟨y,hy,h2⟩
  ·exact .inl h1
  ·exact .inr ⟨y,by simp[hy],h2⟩
 ·rw[List.countP_append,←h.many];simp;omega
theorem least_lt' {α:Type} [DecidableEq α] (next:α→List α) (s t:α) (N:Nat):least next s t (N+1)< N+1:=by
 unfold least;cases h:(List.range (N+1)).find? (fun k=>(ball next s k).contains t)with
 |none=>simp
 |some j=>
  have:=List.mem_of_find?_eq_some h;simpa using this
theorem FinS.reached {n:Nat} {sg:Bool} {a:List Int} {M:Km} {L:List (List Int)} (h:FinS n sg false a none M L) (x:List Int):(M x).isSome=true↔x∈ball (nextK n sg false) a (15^n):=by
 constructor
 ·intro hm;obtain⟨e,he⟩:=Option.isSome_iff_exists.1 hm;have hs:Sof M x=some e.2:=by unfold Sof;rw[he];rfl
  have h1:=h.exact x e.2 hs;have h2:=h.found x e.2 hs;have h3:=least_lt' (nextK n sg false) a x (15^n);exact ball_mono tO h1.1
 ·intro hb;cases hm:M x with
  |some e=>rfl
  |none=>
   rcases h.done with hd|⟨u,hu,_⟩
   ·exact absurd hb (hd x hm _)
   ·cases hu
theorem worst_of {n:Nat} {sg:Bool} {M:Km} {L vis:List (List Int)} {a b:Nat} (h:FinS n sg false (firstL n) none M L) (hv:vis.Nodup) (hvis: ∀x,x∈vis↔(M x).isSome=true) (hM:Mo (G.gap n sg (firstL n)) vis a b):wrst n sg=(a,b):=by
 have hmem: ∀x,x∈reach n sg↔x∈vis:=fun x=>by
  unfold reach;rw[mem_uniq,List.mem_filter,hvis,h.reached,decide_eq_true_eq];exact⟨fun h=>h.2,fun hb=>⟨univ_mem n x (h.valid x ((h.reached x).2 hb)),hb⟩⟩
 have hperm:(reach n sg).Perm vis:=(List.perm_ext_iff_of_nodup (uniq_nodup _) hv).2 hmem
 have ha:mostOf (G.gap n sg (firstL n)) (reach n sg)=a:=by
  apply Nat.le_antisymm
  ·rcases mostOf_at (G.gap n sg (firstL n)) (reach n sg)with h0|⟨x,hx,hd⟩
   ·omega
   ·rw[←hd];exact hM.le x ((hmem x).1 hx)
  ·rcases hM.at_ with h0|⟨x,hx,hd⟩
   ·omega
   ·rw[←hd];exact mostOf_le _ _ x ((hmem x).2 hx)
 unfold wrst;simp only[ha];rw[hM.many,hperm.countP_eq]
theorem FinS.gapM {n:Nat} {sg:Bool} {a:List Int} {M:Km} {L:List (List Int)} {U:Option (List Int)} (h:FinS n sg false a U M L) {x:List Int} {e:St3} (he:M x=some e):e.2=Go.Proofs.Ytepjhdblmghckaa.G.gap n sg a x:=
 (h.found x e.2 (by unfold Sof;rw[he];rfl)).symm
def knownOf (n:Nat) (sg an:Bool) (s:List Int):Km:=(bfs n sg an (some s) (15^n) (ini (firstL n))).1
def ordF (M:Km) (n:Nat) (sg:Bool):Nat→List Int→List (Nat×Nat)
 |0,_=> []
 |k+1,s=>if s=firstL n then []else((M s).getD zeroS).1::ordF M n sg k (flL sg s ((M s).getD zeroS).1.1 ((M s).getD zeroS).1.2)
def ordL (n:Nat) (sg an:Bool) (s:List Int):List (Nat×Nat):=ordF (knownOf n sg an s) n sg (((knownOf n sg an s) s).getD zeroS).2.succ s
def mk57 (x:Nat×Nat):S57:=⟨x.1,x.2⟩
theorem field115_0 (a b c:Int) (w:World):(Instr.field 115 (.agg #[.int .i64 a, .int .i64 b, .int .i64 c]) 0).run Try.prog w= .ok (.agg #[.int .i64 a, .int .i64 b]) w:=by kernel_rfl
theorem u102:Try.prog.underlying 102=some (.slice 105):=by kernel_rfl
theorem info105:(Try.prog.info? 105).map (fun i=>(i.zero,i.size,i.bytes))=some (some (.agg #[(.int .i64 0),(.int .i64 0)]),2,16):=by kernel_rfl
def dof (M:Km) (n b:Nat) (wr:World) (d:Nat):Prop:= ∃cur,Vs n cur∧Blk wr b (stk (nth cur)) 92∧((M cur).getD zeroS).2=d
theorem lst_dof {M:Km} {n b:Nat} (hn:n≤7) {wr:World} {cur:List Int} (hv:Vs n cur) (hb:Blk wr b (stk (nth cur)) 92):lst (dof M n b wr)=((M cur).getD zeroS).2:=by
 obtain⟨c2,h1,h2,h3⟩:=lst_spec (R:=dof M n b wr) ⟨_,cur,hv,hb,rfl⟩;have e:=h2.symm.trans hb;injection e with e;injection e with e;rw[stk_inj h1 hv hn e]at h3;exact h3.symm
set_option maxRecDepth 100000 in
set_option maxHeartbeats 16000000 in
theorem order_calls (n:Nat) (hn:n≤7) (sg an:Bool) (s:List Int) (hs:Vs n s) (hsome:((knownOf n sg an s) s).isSome=true) (w:World):
  Calls Try.prog 77 #[.agg #[.int .i64 n, .bool sg, .bool an], .agg (stk (nth s))] w fun e w'=> ∃v,e= .returned v∧Kd.R k57 105 w' w.heap.size (fun _=>True) v ((ordL n sg an s).map mk57)∧Below w.heap.size w w':=by
 obtain⟨W0,hW0⟩: ∃W0,(w.alloc (.cells #[.int .i64 n, .bool sg, .bool an] 88)).alloc (.cells (stk (nth s)) 92)=W0:=⟨_,rfl⟩;have hB:Below w.heap.size w W0:=by rw[←hW0];exact((Below.refl _ w).alloc (Nat.le_refl _) _).alloc tS _
 have h0:Blk W0 w.heap.size #[.int .i64 n, .bool sg, .bool an] 88:=by rw[←hW0];exact(Blk.new _ _ _).alloc _
 have h1:Blk W0 (w.heap.size+1) (stk (nth s)) 92:=by
  rw[←hW0];have:=Blk.new (w.alloc (.cells #[.int .i64 n, .bool sg, .bool an] 88)) (stk (nth s)) 92;rw[World.size_alloc]at this;exact this
 have k0:=h0.cell 0 (v:= .int .i64 n) rfl;have k1:=h0.cell 1 (v:= .bool sg) rfl;have k2:=h0.cell 2 (v:= .bool an) rfl;have HK0:=Aside0.mk h0;have HS:=Aside0.mk hs;have HSOME:=Aside0.mk hsome;clear h0 hs hsome;unfold stk at hW0;unfold stk
 go_enter Try.func77,Try.ntmps77
 go_upto_region 1 with fail
 (try rw[hW0]);clear hW0;refine start_ (n:=5) (S:=fun w'=>w'.cell? ⟨w.heap.size,0,none⟩=some (.int .i64 (n:Int))∧w'.cell? ⟨w.heap.size,1,none⟩=some (.bool sg)∧w'.cell? ⟨w.heap.size,2,none⟩=some (.bool an)) (ds:= []) #[false,false,false,false,false] tK rfl rfl ⟨k0,k1,k2⟩ (fun hHeld=>?_);have HB0:=Aside0.mk hB.drew;have H1D:=Aside0.mk h1.drew;have HK0D:=Aside0.mk HK0.out.drew;clear hB h1 HK0;generalize W0.drew=Wd at hHeld HB0 H1D HK0D ⊢;clear k0 k1 k2;refine take_ (i:=0) (N:=(some 8)) (v:=?_) (a':=?_) #[true,false,false,false,false] rfl rfl tK (fun _ _ _ h=>h) (Or.inl ⟨by rfl,?_⟩) hHeld ?_ ?_;rotate_left
 ·rintro w' ⟨s0,s1,s2⟩;go_simp;with_reducible rfl
 rotate_left
 ·simp only[Act.put,List.setIfInBounds_toArray,List.set_cons_zero,List.set_cons_succ];rfl
 refine take_ (i:=1) (N:=(some 9)) (v:=?_) (a':=?_) #[true,true,false,false,false] rfl rfl tK (fun _ _ _ h=>h) (Or.inl ⟨by rfl,?_⟩) hHeld ?_ ?_;rotate_left
 ·rintro w' ⟨s0,s1,s2⟩;go_simp;with_reducible rfl
 rotate_left
 ·simp only[Act.put,List.setIfInBounds_toArray,List.set_cons_zero,List.set_cons_succ];rfl
 refine one_ (i:=2) (N:=(some 10)) #[true,true,true,false,false] rfl rfl tK tD (fun K hK=>?_);refine goes_ Try.func85 tK rfl #[.agg #[.int .i64 n, .bool sg, .bool an]] (by rfl) rfl rfl tN ?_;refine(first_calls n hn sg an Wd).mono ?_;rintro e w1 ⟨rfl,hb⟩;refine⟨_,rfl,?_⟩;have H1E:=Aside0.mk (H1D.out.below hb H1D.out.lt);have HK0E:=Aside0.mk (HK0D.out.below hb HK0D.out.lt);have HSZ1:=Aside0.mk H1E.out.lt;obtain⟨fm,hfm⟩: ∃fm,nth (firstL n)=fm:=⟨_,rfl⟩;rw[hfm];have HFM:=Aside0.mk hfm;clear hfm;have HB1:=Aside0.mk (HB0.out.trans (hb.mono HB0.out.size));have hcc: ∀(p:Addr) v,Wd.cell? p=some v→w1.cell? p=some v:=fun p v hp=>by rw[hb.cell (p:=p) (World.block_lt_of_cell? _ _ hp)];exact hp
 refine hK.out _ _ ⟨hcc _ _ hHeld.1,hcc _ _ hHeld.2.1,hcc _ _ hHeld.2.2⟩ (fun hHeld=>?_);clear hcc hK K hb;simp only[stk];refine norm_ (a':=?_) ?_ ?_;rotate_left
 ·show Act.put _ (some 10) _=_;simp only[Act.put,List.setIfInBounds_toArray,List.set_cons_zero,List.set_cons_succ];rfl
 refine one_ (i:=3) (N:=(some 11)) #[true,true,true,true,false] rfl rfl tK tD (fun K hK=>?_);refine goes_ Try.func84 tK rfl #[.agg #[.int .i64 n, .bool sg, .bool an], .agg (stk fm), .pointer (some ⟨w.heap.size+1,0,none⟩)] (by rfl) rfl rfl tN ?_;rw[←HFM.out];refine(search_calls n sg an hn (firstL n) (vs_firstL hn) (some s) (.pointer (some ⟨w.heap.size+1,0,none⟩)) w1 (.inr ⟨w.heap.size+1,s,rfl,rfl,HS.out,HSZ1.out,H1E.out⟩)).mono ?_;rintro e w2 ⟨rfl,M,k,L,hF,hk,h7,hb⟩;refine⟨_,rfl,?_⟩;obtain⟨bm,hbm⟩: ∃bm,w1.heap.size+2=bm:=⟨_,rfl⟩;rw[hbm]at hk h7 ⊢;have HBM:=Aside0.mk (show w.heap.size+1< bm by have:=HSZ1.out;omega);have HF:=Aside0.mk hF;have HKN:=Aside0.mk hk;have H1F:=Aside0.mk (H1E.out.below hb H1E.out.lt);have HK2:=Aside0.mk (HK0E.out.below hb HK0E.out.lt);have HB2:=Aside0.mk (HB1.out.trans (hb.mono HB1.out.size));have hcc: ∀(p:Addr) v,w1.cell? p=some v→w2.cell? p=some v:=fun p v hp=>by rw[hb.cell (p:=p) (World.block_lt_of_cell? _ _ hp)];exact hp
 refine hK.out _ _ ⟨hcc _ _ hHeld.1,hcc _ _ hHeld.2.1,hcc _ _ hHeld.2.2⟩ (fun hHeld=>?_);clear hcc hK K hb hbm hF hk h7;refine norm_ (a':=?_) ?_ ?_;rotate_left
 ·show Act.put _ (some 11) _=_;simp only[Act.put,List.setIfInBounds_toArray,List.set_cons_zero,List.set_cons_succ];rfl
 refine puA 4 (some 5) ?_;refine done_ tK ?_;obtain⟨qf,hqf⟩:=HF.out.tr;have hKM:knownOf n sg an s=M:=by unfold knownOf;rw[hqf]
 have hres:ordL n sg an s=ordF M n sg ((M s).getD zeroS).2.succ s:=by unfold ordL;rw[hKM]
 have hms:=HSOME.out;rw[hKM]at hms;have HRES:=Aside0.mk hres;have HMS:=Aside0.mk hms
 have hd0:((M s).getD zeroS).2≤15^n:=by
  obtain⟨e,he⟩:=Option.isSome_iff_exists.1 hms;have h1:=HF.out.found s e.2 (by unfold Sof;rw[he];rfl);have h2:=least_lt' (nextK n sg an) (firstL n) s (15^n);rw[he];show e.2≤15^n;omega
 have HD0:=Aside0.mk hd0;have HSB2:=Aside0.mk H1F.out.lt;clear hqf hKM hres hms hHeld hd0;go_wp2;rw[HFM.out]
 go_loopw [6] (fun v wr=> ∃(ms:List (Nat×Nat)) (cur:List Int),Aside0 (Kd.R k57 105 wr (w.heap.size+2) (fun k=>w.heap.size+2≤k) v (ms.map mk57))∧Aside0 (Vs n cur)∧Aside0 ((M cur).isSome=true)∧Aside0 (ms++ordF M n sg ((M cur).getD zeroS).2.succ cur=ordL n sg an s)∧Aside0 (ms.length+((M cur).getD zeroS).2≤15^n)∧Aside0 (Blk wr w.heap.size #[.int .i64 n, .bool sg, .bool an] 88)∧Aside0 (Blk wr (w.heap.size+1) (stk (nth cur)) 92)∧Aside0 (Kn wr bm k n M)∧Aside0 (Below w.heap.size w wr)) (fun v wr=>lst (dof M n (w.heap.size+1) wr))
 case atStart=>exact⟨[],s,⟨Kd.R_nil _ _ _ _ _⟩,HS,HMS,⟨HRES.out.symm⟩,⟨by have:=HD0.out;simpa using this⟩,HK2,H1F,HKN,HB2⟩
 case round=>
  obtain⟨ms,cur,HRW,HVC,HMC,HOR,HLN,HKW,HCW,HMW,HWW⟩:=hrel;have HLST:=Aside0.mk (lst_dof hn HVC.out HCW.out (M:=M));have HSZW:=Aside0.mk HCW.out.lt;have HOWN:=Aside0.mk (Kd.R_base HRW.out);obtain⟨A,c,e⟩:=Kd.R_slice HRW.out;subst e;obtain⟨cm,hcm⟩: ∃cm,nth cur=cm:=⟨_,rfl⟩;have heq:=fun W=>stk_eq HVC.out (vs_firstL hn) hn W;rw[hcm,HFM.out]at heq;rw[hcm]at HCW;have HCM:=Aside0.mk hcm;have HBD:=Aside0.mk (show ∀p, -100≤cm p∧cm p≤100 by rw[←hcm];exact fun p=>by have:=HVC.out.2 p;omega);unfold stk at heq;obtain⟨t0,t1,t2,t3,t4,t5,t6⟩:=stk_cells HCW.out;have k0:=HKW.out.cell 0 (v:= .int .i64 n) rfl;have k1:=HKW.out.cell 1 (v:= .bool sg) rfl;have k2:=HKW.out.cell 2 (v:= .bool an) rfl;clear hcm;by_cases hcf:cur=firstL n
  ·rw[decide_eq_true hcf]at heq;have HCF:=Aside0.mk hcf;clear hcf
   go_upto_region 3 with fail
   refine start_ (n:=4) (S:=fun w'=>w'.cell? ⟨w.heap.size+1,0,none⟩=some (.int .i8 (cm 0))∧w'.cell? ⟨w.heap.size+1,1,none⟩=some (.int .i8 (cm 1))∧w'.cell? ⟨w.heap.size+1,2,none⟩=some (.int .i8 (cm 2))∧w'.cell? ⟨w.heap.size+1,3,none⟩=some (.int .i8 (cm 3))∧w'.cell? ⟨w.heap.size+1,4,none⟩=some (.int .i8 (cm 4))∧w'.cell? ⟨w.heap.size+1,5,none⟩=some (.int .i8 (cm 5))∧w'.cell? ⟨w.heap.size+1,6,none⟩=some (.int .i8 (cm 6))∧w'.cell? ⟨w.heap.size,0,none⟩=some (.int .i64 (n:Int))∧w'.cell? ⟨w.heap.size,1,none⟩=some (.bool sg)∧w'.cell? ⟨w.heap.size,2,none⟩=some (.bool an)) (ds:= []) #[false,false,false,false] tK rfl rfl ⟨t0,t1,t2,t3,t4,t5,t6,k0,k1,k2⟩ (fun hHeld=>?_);have HKD:=Aside0.mk (HKW.out.drew);have HCD:=Aside0.mk (HCW.out.drew);have HMD:=Aside0.mk (HMW.out.mapsTo (W':=wr.drew) rfl);have HRD:=Aside0.mk (Kd.R_drew HRW.out);have HWD:=Aside0.mk HWW.out.drew;generalize wr.drew=wd at hHeld HKD HCD HMD HRD HWD ⊢;clear t0 t1 t2 t3 t4 t5 t6 k0 k1 k2 HKW HCW HMW HRW HWW;refine take_ (i:=0) (N:=(some 12)) (v:=?_) (a':=?_) #[true,false,false,false] rfl rfl tK (fun _ _ _ h=>h) (Or.inl ⟨by rfl,?_⟩) hHeld ?_ ?_;rotate_left
   ·rintro w' ⟨s0,s1,s2,s3,s4,s5,s6,s7,s8,s9⟩;go_simp;with_reducible rfl
   rotate_left
   ·simp only[Act.put,List.setIfInBounds_toArray,List.set_cons_zero,List.set_cons_succ];rfl
   refine take_ (i:=1) (N:=(some 13)) (v:=?_) (a':=?_) #[true,true,false,false] rfl rfl tK (fun _ _ _ h=>h) (Or.inl ⟨by rfl,?_⟩) hHeld ?_ ?_;rotate_left
   ·rintro w' ⟨s0,s1,s2,s3,s4,s5,s6,s7,s8,s9⟩;go_simp;with_reducible rfl
   rotate_left
   ·simp only[Act.put,List.setIfInBounds_toArray,List.set_cons_zero,List.set_cons_succ];rfl
   refine one_ (i:=2) (N:=(some 14)) #[true,true,true,false] rfl rfl tK tD (fun K hK=>?_);refine goes_ Try.func85 tK rfl #[.agg #[.int .i64 n, .bool sg, .bool an]] (by rfl) rfl rfl tN ?_;refine(first_calls n hn sg an wd).mono ?_;rintro e w4 ⟨rfl,hb⟩;refine⟨_,rfl,?_⟩;have HKE:=Aside0.mk (HKD.out.below hb HKD.out.lt);have HCE:=Aside0.mk (HCD.out.below hb HCD.out.lt);have HME:=Aside0.mk (HMD.out.below hb);have HRE:=Aside0.mk (Kd.R_below HRD.out hb);have HWE:=Aside0.mk (HWD.out.trans (hb.mono HWD.out.size));clear HKD HCD HMD HRD HWD;rw[HFM.out];have hcc: ∀(p:Addr) v,wd.cell? p=some v→w4.cell? p=some v:=fun p v hp=>by rw[hb.cell (p:=p) (World.block_lt_of_cell? _ _ hp)];exact hp
   refine hK.out _ _ ⟨hcc _ _ hHeld.1,hcc _ _ hHeld.2.1,hcc _ _ hHeld.2.2.1,hcc _ _ hHeld.2.2.2.1,hcc _ _ hHeld.2.2.2.2.1,hcc _ _ hHeld.2.2.2.2.2.1,hcc _ _ hHeld.2.2.2.2.2.2.1,hcc _ _ hHeld.2.2.2.2.2.2.2.1,hcc _ _ hHeld.2.2.2.2.2.2.2.2.1,hcc _ _ hHeld.2.2.2.2.2.2.2.2.2⟩ (fun hHeld=>?_);clear hcc hK K hb;simp only[stk];refine norm_ (a':=?_) ?_ ?_;rotate_left
   ·show Act.put _ (some 14) _=_;simp only[Act.put,List.setIfInBounds_toArray,List.set_cons_zero,List.set_cons_succ];rfl
   refine puA 3 (some 15) ?_;refine done_ tK ?_;clear heq hHeld;go_wp2;refine bodyPost_ret (results_tmp rfl _ _ _) rfl ⟨_,rfl,?_,HWE.out⟩;have h1:=HOR.out;rw[ordF,if_pos HCF.out,List.append_nil]at h1;rw[←h1];exact Kd.R_mono (Kd.R_lower HRE.out tO) (fun _ _=>trivial)
  ·rw[decide_eq_false hcf]at heq;have HNE:=Aside0.mk hcf;clear hcf
   go_upto_region 3 with fail
   refine start_ (n:=4) (S:=fun w'=>w'.cell? ⟨w.heap.size+1,0,none⟩=some (.int .i8 (cm 0))∧w'.cell? ⟨w.heap.size+1,1,none⟩=some (.int .i8 (cm 1))∧w'.cell? ⟨w.heap.size+1,2,none⟩=some (.int .i8 (cm 2))∧w'.cell? ⟨w.heap.size+1,3,none⟩=some (.int .i8 (cm 3))∧w'.cell? ⟨w.heap.size+1,4,none⟩=some (.int .i8 (cm 4))∧w'.cell? ⟨w.heap.size+1,5,none⟩=some (.int .i8 (cm 5))∧w'.cell? ⟨w.heap.size+1,6,none⟩=some (.int .i8 (cm 6))∧w'.cell? ⟨w.heap.size,0,none⟩=some (.int .i64 (n:Int))∧w'.cell? ⟨w.heap.size,1,none⟩=some (.bool sg)∧w'.cell? ⟨w.heap.size,2,none⟩=some (.bool an)) (ds:= []) #[false,false,false,false] tK rfl rfl ⟨t0,t1,t2,t3,t4,t5,t6,k0,k1,k2⟩ (fun hHeld=>?_);have HKD:=Aside0.mk (HKW.out.drew);have HCD:=Aside0.mk (HCW.out.drew);have HMD:=Aside0.mk (HMW.out.mapsTo (W':=wr.drew) rfl);have HRD:=Aside0.mk (Kd.R_drew HRW.out);have HWD:=Aside0.mk HWW.out.drew;generalize wr.drew=wd at hHeld HKD HCD HMD HRD HWD ⊢;clear t0 t1 t2 t3 t4 t5 t6 k0 k1 k2 HKW HCW HMW HRW HWW;refine take_ (i:=0) (N:=(some 12)) (v:=?_) (a':=?_) #[true,false,false,false] rfl rfl tK (fun _ _ _ h=>h) (Or.inl ⟨by rfl,?_⟩) hHeld ?_ ?_;rotate_left
   ·rintro w' ⟨s0,s1,s2,s3,s4,s5,s6,s7,s8,s9⟩;go_simp;with_reducible rfl
   rotate_left
   ·simp only[Act.put,List.setIfInBounds_toArray,List.set_cons_zero,List.set_cons_succ];rfl
   refine take_ (i:=1) (N:=(some 13)) (v:=?_) (a':=?_) #[true,true,false,false] rfl rfl tK (fun _ _ _ h=>h) (Or.inl ⟨by rfl,?_⟩) hHeld ?_ ?_;rotate_left
   ·rintro w' ⟨s0,s1,s2,s3,s4,s5,s6,s7,s8,s9⟩;go_simp;with_reducible rfl
   rotate_left
   ·simp only[Act.put,List.setIfInBounds_toArray,List.set_cons_zero,List.set_cons_succ];rfl
   refine one_ (i:=2) (N:=(some 14)) #[true,true,true,false] rfl rfl tK tD (fun K hK=>?_);refine goes_ Try.func85 tK rfl #[.agg #[.int .i64 n, .bool sg, .bool an]] (by rfl) rfl rfl tN ?_;refine(first_calls n hn sg an wd).mono ?_;rintro e w4 ⟨rfl,hb⟩;refine⟨_,rfl,?_⟩;have HKE:=Aside0.mk (HKD.out.below hb HKD.out.lt);have HCE:=Aside0.mk (HCD.out.below hb HCD.out.lt);have HME:=Aside0.mk (HMD.out.below hb);have HRE:=Aside0.mk (Kd.R_below HRD.out hb);have HWE:=Aside0.mk (HWD.out.trans (hb.mono HWD.out.size));clear HKD HCD HMD HRD HWD;rw[HFM.out];have hcc: ∀(p:Addr) v,wd.cell? p=some v→w4.cell? p=some v:=fun p v hp=>by rw[hb.cell (p:=p) (World.block_lt_of_cell? _ _ hp)];exact hp
   refine hK.out _ _ ⟨hcc _ _ hHeld.1,hcc _ _ hHeld.2.1,hcc _ _ hHeld.2.2.1,hcc _ _ hHeld.2.2.2.1,hcc _ _ hHeld.2.2.2.2.1,hcc _ _ hHeld.2.2.2.2.2.1,hcc _ _ hHeld.2.2.2.2.2.2.1,hcc _ _ hHeld.2.2.2.2.2.2.2.1,hcc _ _ hHeld.2.2.2.2.2.2.2.2.1,hcc _ _ hHeld.2.2.2.2.2.2.2.2.2⟩ (fun hHeld=>?_);clear hcc hK K hb;simp only[stk];refine norm_ (a':=?_) ?_ ?_;rotate_left
   ·show Act.put _ (some 14) _=_;simp only[Act.put,List.setIfInBounds_toArray,List.set_cons_zero,List.set_cons_succ];rfl
   refine puA 3 (some 15) ?_;refine done_ tK ?_;clear heq hHeld;obtain⟨⟨⟨e1,e2⟩,d⟩,he⟩:=Option.isSome_iff_exists.1 HMC.out;rcases HF.out.by_ cur (e1,e2) d he with⟨hcx,_⟩|⟨d',b',hd,hmem,hnext⟩
   ·exact absurd hcx HNE.out
   have hmm:=mem_mv hmem;have HX:=Aside0.mk (show e1≤e2∧e2< 7 from⟨hmm.1,by have:=hmm.2.1;simp only at this;omega⟩);have HEN:=Aside0.mk (show e2< n from hmm.2.1);have HX2:=HBD;have hl:=HME.out.look HVC.out;rw[he,HCM.out]at hl;simp only[Option.getD_some,stepE]at hl;unfold stk at hl;have hfd:=fun W=>field115_0 (e1:Int) (e2:Int) (d:Int) W;have HDD:=Aside0.mk hd;have HNX:=Aside0.mk hnext;have HE:=Aside0.mk he;have HSZ4:=Aside0.mk HCE.out.lt;have HMS2:=Aside0.mk (show ms.length≤170859375 by have:=HLN.out;have:=p15 hn;omega);obtain⟨t0,t1,t2,t3,t4,t5,t6⟩:=stk_cells HCE.out;clear he hmm hmem hd hnext
   go_wp2_with ((with_reducible refine gate_builtin (b:= .append) (xs:= #[.tmp 20, .tmp 22]) rfl ?_);at_builtin;refine stopper ?_)
   unfold Hold;have hre:=Kd.R_alloc HRE.out (Obj.cells #[Value.int .i64 (e1:Int),Value.int .i64 (e2:Int)] 105);rw[List.length_map]at hre;have hs4:=HSZ4.out;obtain⟨WA,hWA⟩: ∃WA,w4.alloc (Obj.cells #[Value.int .i64 (e1:Int),Value.int .i64 (e2:Int)] 105)=WA:=⟨_,rfl⟩;have hsA:WA.heap.size=w4.heap.size+1:=by rw[←hWA];simp
   rw[hWA]at hre ⊢;rw[←hsA];refine Kd.R_append k57 (w0:=WA) (w.heap.size+2) rfl (.tmp 20) (.tmp 22) 102 105 (.agg #[(.int .i64 0),(.int .i64 0)]) 16 rfl u102 info105 rfl tD tD _ (ms.map mk57) (mk57 (e1,e2)) [.int .i64 (e1:Int), .int .i64 (e2:Int)] (fun k=>w.heap.size+2≤k) (fun _=>False) rfl rfl (k57_mkM _ _ _ (mk57 (e1,e2))) (fun _ h=>h.elim) (fun k hk=>by omega) hre (Below.refl _ _) tO (by rw[List.length_map];have:=HMS2.out;omega) ?_;intro v1 wy ho hb hg hat;clear hre hsA;subst hWA;obtain⟨A1,cc1,ev⟩:=Kd.R_slice ho;subst ev
   have hown: ∀k,(Value.slice A ms.length c).ownBlock=some k→w.heap.size+2≤k∧k< w4.heap.size:=fun k hk=>⟨HOWN.out k (by rw[List.length_map];exact hk),by
    have h:=(Kd.R_bound HRE.out).1 k (by rw[List.length_map];exact hk)
    exact h.2.2.1⟩
   have hba:Below w4.heap.size w4 (w4.alloc (Obj.cells #[Value.int .i64 (e1:Int),Value.int .i64 (e2:Int)] 105)):=(Below.refl _ _).alloc (Nat.le_refl _) _;have hz:Blk wy w4.heap.size #[Value.int .i64 (e1:Int),Value.int .i64 (e2:Int)] 105:=(Blk.new w4 _ 105).grown hg (fun e=>by have:=hown _ e;omega);have HKW:=Aside0.mk ((HKE.out.below hba HKE.out.lt).grown hg (fun e=>by have:=hown _ e;omega));have HCW:=Aside0.mk ((HCE.out.below hba HCE.out.lt).grown hg (fun e=>by have:=hown _ e;omega));have hbm:=HME.out.lt
   have HMW:=Aside0.mk ((HME.out.below hba).mapsTo (W':=wy) (hg.block _ (by simp;omega) (fun e=>by
    obtain⟨D,⟨es,clock,h1,_⟩,_⟩:=HME.out;obtain⟨q,_,cells,h2⟩:=((Kd.R_bound HRE.out).1 bm (by rw[List.length_map];exact e.symm)).2.2.2;rw[h1]at h2
    cases h2)))
   have HWW:=Aside0.mk ((HWE.out.trans (hba.mono HWE.out.size)).grown hg (by have:=HWE.out.size;simp;omega) (fun k e=>by have:=hown k e;omega));have HRW:=Aside0.mk ho;have k1:=HKW.out.cell 1 (v:= .bool sg) rfl;have z0:=hz.cell 0 (v:= .int .i64 (e1:Int)) rfl;have z1:=hz.cell 1 (v:= .int .i64 (e2:Int)) rfl;obtain⟨b7,hb7⟩: ∃b7,w4.heap.size=b7:=⟨_,rfl⟩;rw[hb7]at z0 z1;clear ho hb hg hat hown hba hz hbm hl hfd t0 t1 t2 t3 t4 t5 t6 HKE HCE HME HRE HWE
   go_upto_region 6 with fail
   (try rw[hb7]);clear hb7;refine start_ (n:=8) (S:=fun w'=>w'.cell? ⟨b7,0,none⟩=some (.int .i64 (e1:Int))∧w'.cell? ⟨b7,1,none⟩=some (.int .i64 (e2:Int))∧w'.cell? ⟨w.heap.size,1,none⟩=some (.bool sg)) (ds:= [7]) #[false,false,false,false,false,false,false,false] tK rfl rfl ⟨z0,z1,k1⟩ (fun hHeld=>?_);have HKD:=Aside0.mk (HKW.out.drew);have HCD:=Aside0.mk (HCW.out.drew);have HMD:=Aside0.mk (HMW.out.mapsTo (W':=wy.drew) rfl);have HRD:=Aside0.mk (Kd.R_drew HRW.out);have HWD:=Aside0.mk HWW.out.drew;generalize wy.drew=wd at hHeld HKD HCD HMD HRD HWD ⊢;clear z0 z1 k1 HKW HCW HMW HRW HWW;refine puA 0 (some 24) ?_;refine puA 1 (some 25) ?_;refine take_ (i:=2) (N:=(some 26)) (v:=?_) (a':=?_) #[true,true,true,false,false,false,false,false] rfl rfl tK (fun _ _ _ h=>h) (Or.inl ⟨by rfl,?_⟩) hHeld ?_ ?_;rotate_left
   ·rintro w' ⟨s0,s1,s2⟩;go_simp;with_reducible rfl
   rotate_left
   ·simp only[Act.put,List.setIfInBounds_toArray,List.set_cons_zero,List.set_cons_succ];rfl
   refine puA 3 (some 27) ?_;refine take_ (i:=4) (N:=(some 28)) (v:=?_) (a':=?_) #[true,true,true,true,true,false,false,false] rfl rfl tK (fun _ _ _ h=>h) (Or.inl ⟨by rfl,?_⟩) hHeld ?_ ?_;rotate_left
   ·rintro w' ⟨s0,s1,s2⟩;go_simp;with_reducible rfl
   rotate_left
   ·simp only[Act.put,List.setIfInBounds_toArray,List.set_cons_zero,List.set_cons_succ];rfl
   refine puA 5 (some 29) ?_;refine take_ (i:=6) (N:=(some 30)) (v:=?_) (a':=?_) #[true,true,true,true,true,true,true,false] rfl rfl tK (fun _ _ _ h=>h) (Or.inl ⟨by rfl,?_⟩) hHeld ?_ ?_;rotate_left
   ·rintro w' ⟨s0,s1,s2⟩;go_simp;with_reducible rfl
   rotate_left
   ·simp only[Act.put,List.setIfInBounds_toArray,List.set_cons_zero,List.set_cons_succ];rfl
   refine last_ (i:=7) (N:=(some 31)) #[true,true,true,true,true,true,true,true] rfl rfl tK tD (fun K hK=>?_);refine goes_ Try.func87 tK rfl #[.slice (some ⟨w.heap.size+1,0,none⟩) 7 7, .int .i64 (e1:Int), .int .i64 (e2:Int), .bool sg] (by rfl) rfl rfl tN ?_;refine(flipped8_calls (t:=92) (n:=7) sg (stk_row HCD.out) HX.out.1 (by have:=HX.out.2;omega) tO tO HX2.out).mono ?_;rintro e W5 ⟨rfl,cs5,hr5,_,hz5,ha5⟩;have HCF:=Aside0.mk (row_stk hr5 (by rw[hz5];rfl));have HWF:=Aside0.mk (Alone.below HWD.out ha5 tO);have HKF:=Aside0.mk (show Blk W5 w.heap.size #[.int .i64 n, .bool sg, .bool an] 88 from(ha5.other _ tO).trans HKD.out);have HMF:=Aside0.mk (HMD.out.mapsTo (ha5.other _ (by have:=HBM.out;omega)));have HRF:=Aside0.mk (Kd.R_step HRD.out (fun k hk _=>ha5.other k tO));clear HKD HCD HMD HRD HWD hr5 hz5 ha5;refine⟨_,rfl,?_⟩;refine hK.out _ _ ?_;clear hK K hHeld;refine norm_ (a':=?_) ?_ ?_;rotate_left
   ·show Act.put _ (some 31) _=_;simp only[Act.put,List.setIfInBounds_toArray,List.set_cons_zero,List.set_cons_succ];rfl
   refine done_ tK ?_;go_wp2
   go_roundw
   case rel=>exact⟨ms++ [(e1,e2)],flL sg cur e1 e2,⟨by
    have h1:=HRF.out;rw[show(List.map mk57 ms++ [mk57 (e1,e2)]).length=ms.length+1 by simp]at h1
    rw[List.map_append];exact h1⟩,⟨vs_flL HVC.out sg e1 e2 HEN.out⟩,⟨by rw[HNX.out];rfl⟩,⟨by
    have h1:=HOR.out;rw[ordF,if_neg HNE.out,HE.out]at h1;rw[←h1,List.append_assoc,HNX.out,HDD.out]
    rfl⟩,⟨by
    have h1:=HLN.out;rw[HE.out]at h1;rw[HNX.out,List.length_append];have h2:=HDD.out;simp only[Option.getD_some,List.length_cons,List.length_nil]at h1 ⊢
    omega⟩,HKF,⟨by rw[nth_flL sg cur e1 e2 (by rw[HVC.out.1];exact HEN.out),HCM.out];exact HCF.out⟩,HMF,HWF⟩
   case measure=>
    have hc5:Blk W5 (w.heap.size+1) (stk (nth (flL sg cur e1 e2))) 92:=by rw[nth_flL sg cur e1 e2 (by rw[HVC.out.1];exact HEN.out),HCM.out];exact HCF.out
    rw[lst_dof hn (vs_flL HVC.out sg e1 e2 HEN.out) hc5,HLST.out,HNX.out,HE.out];have h2:=HDD.out;simp only[Option.getD_some];omega
end Go.Proofs.Ytepjhdblmghckaa.G
namespace Go.Proofs.Ytepjhdblmghckaa.G
open Go.Proofs.Ytepjhdblmghckaa.Q Go.Proofs.Ytepjhdblmghckaa.K Go.Proofs.Ytepjhdblmghckaa.Bf
structure Pl (n:Nat) (sg an:Bool) (to_:List Int) (st:Sst):Prop where
 rd:Rd (nextK n sg an) to_ (Vs n) (Sof st.1) st.2.1 st.2.2
 by_:ByOk n sg an to_ st.1
 full: ∀x,(Sof st.1 x).isSome=true→x∈st.2.2
 ql:st.2.1.length≤st.2.2.length
structure Pm (n:Nat) (sg an:Bool) (to_:List Int) (s:List Int) (pre:List (Nat×Nat)) (c:Nat) (st:Sst):Prop where
 rm:Rm (nextK n sg an) to_ (Vs n) (Sof st.1) s (pre.map (fun x=>flL sg s x.1 x.2)) st.2.1 st.2.2
 by_:ByOk n sg an to_ st.1
 full: ∀x,(Sof st.1 x).isSome=true→x∈st.2.2
 ql:c+st.2.1.length=st.2.2.length
theorem Pm.step {n:Nat} {sg an:Bool} {to_ s:List Int} {pre:List (Nat×Nat)} {c:Nat} {st:Sst} (h:Pm n sg an to_ s pre c st) {x:Nat×Nat} (hx:x∈mvL n sg an):Pm n sg an to_ s (pre++ [x]) c (stp sg s st x):=by
 obtain⟨M,q,L⟩:=st;obtain⟨ds,hds,hdl⟩:=h.rm.some_;have hvs:Vs n s:=h.rm.v s (by rw[hds];rfl);have hmx:=mem_mv hx;obtain⟨t,ht⟩: ∃t,flL sg s x.1 x.2=t:=⟨_,rfl⟩;have hvt:Vs n t:=by rw[←ht];exact vs_flL hvs sg x.1 x.2 hmx.2.1
 have hmem:t∈nextK n sg an s:=by rw[←ht];exact List.mem_map.2 ⟨x,hx,rfl⟩
 have hpre:(pre++ [x]).map (fun x=>flL sg s x.1 x.2)=pre.map (fun x=>flL sg s x.1 x.2)++ [t]:=by rw[List.map_append,←ht];rfl
 have hrm:=h.rm;have hfu:=h.full;have hby:=h.by_;have hql:=h.ql;simp only at hrm hfu hby hql hds;unfold stp;rw[ht];by_cases hs:(M t).isSome=true
 ·rw[if_pos hs];refine⟨?_,hby,hfu,hql⟩;rw[hpre];exact hrm.seen_ (by unfold Sof;rw[Option.isSome_map];exact hs)
 ·rw[if_neg hs]
  have hn:M t=none:=by cases hm:M t with
   |none=>rfl
   |some e=>rw[hm]at hs;exact absurd rfl hs
  obtain⟨bs,hMs⟩: ∃bs,M s=some (bs,ds):=by
   unfold Sof at hds;cases hms:M s with
   |none=>rw[hms]at hds;cases hds
   |some e=>rw[hms]at hds;obtain⟨e1,e2⟩:=e;cases hds;exact⟨e1,rfl⟩
  have e:((M s).getD zeroS).2=ds:=by rw[hMs];rfl
  simp only[e];obtain⟨hr2,_⟩:=hrm.new hds hmem hvt (Sof_none.2 hn);refine⟨?_,?_,fun y hy=>?_,?_⟩
  ·rw[hpre,Sof_put];exact hr2
  ·have:=hby.put hvs.1 hx hMs (by rw[ht];exact hn);rw[ht]at this;exact this
  ·simp only[Sof_put]at hy;by_cases e:y=t
   ·rw[e];exact List.mem_cons_self ..
   ·rw[Se.put_other _ _ e]at hy;exact List.mem_cons_of_mem _ (hfu y hy)
  ·simp only[List.length_append,List.length_cons,List.length_nil];omega
theorem Pm.fold {n:Nat} {sg an:Bool} {to_ s:List Int} {c:Nat} : ∀(rest pre:List (Nat×Nat)) (st:Sst),(∀x,x∈rest→x∈mvL n sg an)→Pm n sg an to_ s pre c st→Pm n sg an to_ s (pre++rest) c (rest.foldl (stp sg s) st)
 | [],pre,st,_,h=>by simpa using h
 |x::rest,pre,st,hm,h=>by
  have:=Pm.fold rest (pre++ [x]) (stp sg s st x) (fun y hy=>hm y (List.mem_cons_of_mem _ hy)) (h.step (hm x tS));rw[List.append_assoc]at this;exact this
theorem Pl.rnd {n:Nat} {sg an:Bool} {to_ s:List Int} {M:Km} {q L:List (List Int)} (h:Pl n sg an to_ (M,s::q,L)):Pl n sg an to_ (rnd n sg an (M,s::q,L))∧(rnd n sg an (M,s::q,L)).2.2.length - (rnd n sg an (M,s::q,L)).2.1.length=L.length - (s::q).length+1:=by
 have h0:=h.ql;simp only[List.length_cons]at h0;have h1:Pm n sg an to_ s [] (L.length - q.length) (M,q,L):=⟨h.rd.pop,h.by_,h.full,by show L.length - q.length+q.length=L.length;omega⟩;have h2:=Pm.fold (mvL n sg an) [] _ (fun x hx=>hx) h1;rw[List.nil_append]at h2;have e:G.rnd n sg an (M,s::q,L)=(mvL n sg an).foldl (stp sg s) (M,q,L):=rfl;rw[e];have h3:=h2.ql;refine⟨⟨Rm.finish h2.rm,h2.by_,h2.full,by omega⟩,?_⟩;simp only[List.length_cons];omega
theorem bfs_pl {n:Nat} {sg an:Bool} {to_:List Int} {U:Option (List Int)} : ∀(k:Nat) (st:Sst),Pl n sg an to_ st→Pl n sg an to_ (bfs n sg an U k st)
 |0,st,h=>h
 | k+1,st,h=>by
  rw[bfs]
  split
  ·exact h
  ·rename_i hs
   obtain⟨M,q,L⟩:=st;cases q with
   |nil=>exact absurd rfl hs
   |cons s q=>exact bfs_pl k _ h.rnd.1
theorem bfs_stops {n:Nat} {sg an:Bool} {to_:List Int} {U:Option (List Int)} : ∀(k:Nat) (st:Sst),Pl n sg an to_ st→15^n≤st.2.2.length - st.2.1.length+k→stops U (bfs n sg an U k st)=true
 |0,st,h,hk=>by
  obtain⟨M,q,L⟩:=st;have h1:=rd_count h.rd;have h2:=h.ql;simp only[bfs]at hk h1 h2 ⊢;cases q with
  |nil=>rfl
  |cons s q=>simp only[List.length_cons]at hk h2;omega
 | k+1,st,h,hk=>by
  rw[bfs]
  split
  ·assumption
  ·rename_i hs
   obtain⟨M,q,L⟩:=st;cases q with
   |nil=>exact absurd rfl hs
   |cons s q=>
    have h1:=h.rnd;refine bfs_stops k _ h1.1 ?_;rw[h1.2];simp only at hk;omega
theorem Pl.begin {n:Nat} (sg an:Bool) {to_:List Int} (hto:Vs n to_):Pl n sg an to_ (ini to_):=by
 refine⟨?_,ByOk.begin n sg an to_,fun x hx=>?_,Nat.le_refl _⟩
 ·have h:=Rd.begin (next:=nextK n sg an) (V:=Vs n) hto
  have e:Sof (ini to_).1=(fun x=>if x=to_ then some 0 else none):=by
   funext x;show Sof (Km.put (fun _=>none) to_ zeroS) x=_;unfold Sof Km.put;by_cases h:x=to_<;>simp[h,zeroS]
  rw[e];exact h
 ·change (Sof (Km.put (fun _=>none) to_ zeroS) x).isSome=true at hx
  unfold Sof Km.put at hx;by_cases h:x=to_
  ·rw[h];simp[ini]
  ·rw[if_neg h]at hx;cases hx
theorem bfs_fin {n:Nat} (sg an:Bool) {to_:List Int} (hto:Vs n to_) (U:Option (List Int)):FinS n sg an to_ U (bfs n sg an U (15^n) (ini to_)).1 (bfs n sg an U (15^n) (ini to_)).2.2:=by
 have h:=bfs_pl (U:=U) (15^n) _ (Pl.begin sg an hto);have hst:=bfs_stops (U:=U) (15^n) _ (Pl.begin sg an hto) (Nat.le_add_left _ _);obtain⟨st,hstt⟩: ∃st,bfs n sg an U (15^n) (ini to_)=st:=⟨_,rfl⟩;have HT:=hstt;rw[hstt]at h hst ⊢;obtain⟨M,q,L⟩:=st;simp only;obtain⟨A,B,d,hq,hs⟩:=h.rd.st;refine⟨h.by_,hs.exact,fun x e hx=>h.rd.found hx (rd_count h.rd),⟨q,HT⟩,fun x hx=>h.rd.v x (by show(Sof M x).isSome=true;rw[sof_some];exact hx),h.rd.nodup,fun x=>⟨fun hx=>by rw[←sof_some];exact h.rd.seen x hx,fun hx=>h.full x (by show(Sof M x).isSome=true;rw[sof_some];exact hx)⟩,?_⟩;cases q with
 |nil=>
  left
  have:A= []∧B= []:=by simpa using hq.symm
  obtain⟨rfl,rfl⟩:=this;intro x hx j;exact hs.never (Sof_none.2 hx) j
 |cons s r=>
  right
  refine⟨s,by simpa [stops]using hst,?_⟩;obtain⟨d,h1,_⟩:=h.rd.pop.some_;rw[←sof_some];show(Sof M s).isSome=true;have h1':Sof M s=some d:=h1;rw[h1'];rfl
theorem ordF_ok {n:Nat} {sg an:Bool} {M:Km} (hby:ByOk n sg an (firstL n) M): ∀(d:Nat) (s:List Int) (b:Nat×Nat),M s=some (b,d)→
  (∀x,x∈ordF M n sg d.succ s→x∈mvL n sg an)∧(ordF M n sg d.succ s).length≤d∧(ordF M n sg d.succ s).foldl (fun t x=>flL sg t x.1 x.2) s=firstL n
 | d,s,b,h=>by
  rw[ordF];by_cases hs:s=firstL n
  ·rw[if_pos hs];exact⟨fun x hx=>(by cases hx),Nat.zero_le _,hs⟩
  ·rw[if_neg hs,h];rcases hby s b d h with⟨h1,_⟩|⟨d',b',hd,hm,hn⟩
   ·exact absurd h1 hs
   ·subst hd;obtain⟨i1,i2,i3⟩:=ordF_ok hby d' (flL sg s b.1 b.2) b' hn;refine⟨fun x hx=>?_,?_,?_⟩
    ·rcases List.mem_cons.1 hx with rfl|hx
     ·exact hm
     ·exact i1 x hx
    ·simp only[List.length_cons,Option.getD_some];exact Nat.succ_le_succ i2
    ·simp only[List.foldl_cons,Option.getD_some];exact i3
 termination_by d=>d
theorem ordF_len {n:Nat} {sg an:Bool} {M:Km} (hby:ByOk n sg an (firstL n) M) (hex: ∀x e,Sof M x=some e→Exact (nextK n sg an) (firstL n) x e): ∀(d:Nat) (s:List Int) (b:Nat×Nat),M s=some (b,d)→(ordF M n sg d.succ s).length=d
 | d,s,b,h=>by
  rw[ordF];by_cases hs:s=firstL n
  ·rw[if_pos hs];have h1:=hex s d (by unfold Sof;rw[h];rfl);have h2:Exact (nextK n sg an) (firstL n) s 0:=⟨by rw[hs];simp[ball],fun j hj=>by omega⟩;rw[h1.unique h2];rfl
  ·rw[if_neg hs,h];rcases hby s b d h with⟨h1,_⟩|⟨d',b',hd,hm,hn⟩
   ·exact absurd h1 hs
   ·subst hd;have:=ordF_len hby hex d' (flL sg s b.1 b.2) b' hn;simp only[List.length_cons,Option.getD_some];exact congrArg Nat.succ this
 termination_by d=>d
theorem ord_ok (n:Nat) (hn:n≤7) (sg an:Bool) (s:List Int) (hs:Vs n s) (hk:((knownOf n sg an s) s).isSome=true):(ordL n sg an s).length≤1000000000∧ ∀x,x∈ordL n sg an s→x.2< 7:=by
 have hF:=bfs_fin sg an (vs_firstL hn) (some s);obtain⟨⟨b,d⟩,he⟩:=Option.isSome_iff_exists.1 hk;have h1:=ordF_ok hF.by_ d s b he;have h2:=hF.found s d (by unfold Sof;rw[show(bfs n sg an (some s) (15^n) (ini (firstL n))).1 s=some (b,d)from he];rfl);have h3:=least_lt' (nextK n sg an) (firstL n) s (15^n);have h4:=p15 hn;have e:ordL n sg an s=ordF (knownOf n sg an s) n sg d.succ s:=by unfold ordL;rw[he];rfl
 rw[e];refine⟨?_,fun x hx=>?_⟩
 ·have:=h1.2.1;show(ordF (bfs n sg an (some s) (15^n) (ini (firstL n))).1 n sg d.succ s).length≤_;omega
 ·have:=(mem_mv (h1.1 x hx)).2.1;omega
end Go.Proofs.Ytepjhdblmghckaa.G
namespace Go.Proofs.Ytepjhdblmghckaa.G
open Go.Proofs.Ytepjhdblmghckaa.Q Go.Proofs.Ytepjhdblmghckaa.K
open Go.RowKit Go.Proofs.YtepjhdblmghckaaW.PrintWords Go.Proofs.YtepjhdblmghckaaW.PrintLast Go.Proofs.YtepjhdblmghckaaW.PrintMore
def absS (signed:Bool) (n:Nat) (x:Int):Int:=if signed=true∧x< 0∧ -(n:Int)≤x then -x else x
def isL (signed:Bool) (n:Nat):List Int→(Nat→Bool)→Bool
 | [],_=>true
 |x::r,seen=>if absS signed n x< 1∨(n:Int)< absS signed n x∨seen (absS signed n x).toNat=true then false else isL signed n r (upd seen (absS signed n x).toNat true)
def isSt (signed:Bool) (most:Int) (s:List Int):Bool:=if s.length< 1∨most< (s.length:Int)then false else isL signed s.length s (fun _=>false)
def pancake_isStack.f (signed:Bool) (most:Int) (s:List Int):Option Bool:=if most≤40 then some (isSt signed most s)else none
def bools (m:Nat→Bool):Array Value:=arr Value.bool 41 m
theorem bools_zero:bools (fun _=>false)= #[.bool false, .bool false, .bool false, .bool false, .bool false, .bool false, .bool false, .bool false, .bool false, .bool false, .bool false, .bool false, .bool false, .bool false, .bool false, .bool false, .bool false, .bool false, .bool false, .bool false, .bool false, .bool false, .bool false, .bool false, .bool false, .bool false, .bool false, .bool false, .bool false, .bool false, .bool false, .bool false, .bool false, .bool false, .bool false, .bool false, .bool false, .bool false, .bool false, .bool false, .bool false]:=by
 kernel_rfl
theorem drop_nth (l:List Int) (k:Nat) (h:k< l.length):l.drop k=nth l k::l.drop (k+1):=by
 rw[List.drop_eq_getElem_cons h];simp[nth,h]
set_option maxHeartbeats 8000000 in
set_option maxRecDepth 100000 in
theorem pancake_isStack.calls (a0:Bool) (a1:Int) (A2:Option Addr) (c2:Nat) (l2:List Int) (r:Bool) (w:World) (hr2:Kd.C (Kd.int .i64) w A2 l2.length l2) (hc2:l2.length≤c2) (h:pancake_isStack.f a0 a1 l2=some r):
  Calls Try.prog 83 #[.bool a0, .int .i64 a1, .slice A2 l2.length c2] w fun e w'=>e= .returned (.bool r)∧Below w.heap.size w w':=by
 unfold pancake_isStack.f at h
 split at h
 case isFalse=>cases h
 case isTrue h40=>
  obtain rfl:=Option.some.inj h;clear h;have HC:=Aside0.mk hr2;clear hr2;by_cases hs:l2.length< 1∨a1< (l2.length:Int)
  ·have e:isSt a0 a1 l2=false:=by unfold isSt;rw[if_pos hs]
   rw[e];clear e;by_cases h1:l2.length< 1
   ·have h1':(l2.length:Int)< 1:=by omega
    go_enter Try.func83,Try.ntmps83
    go_wp2;go_ret;exact⟨rfl,(Below.refl _ w).alloc (Nat.le_refl _) _⟩
   ·have h1': ¬(l2.length:Int)< 1:=by omega
    have h2':a1< (l2.length:Int):=by omega
    go_enter Try.func83,Try.ntmps83
    go_wp2;go_ret;exact⟨rfl,(Below.refl _ w).alloc (Nat.le_refl _) _⟩
  ·have e:isSt a0 a1 l2=isL a0 l2.length l2 (fun _=>false):=by unfold isSt;rw[if_neg hs]
   rw[e];clear e;have h1': ¬(l2.length:Int)< 1:=by omega
   have h2': ¬a1< (l2.length:Int):=by omega
   have hl40:l2.length≤40:=by omega
   obtain⟨N,hN⟩: ∃N,l2.length=N:=⟨_,rfl⟩;have HL:=Aside0.mk hN;obtain⟨r,hr⟩: ∃r,isL a0 N l2 (fun _=>false)=r:=⟨_,rfl⟩;rw[hN]at h1' h2' hl40 ⊢;rw[hr];have HR:=Aside0.mk hr;clear hr hN hs;obtain⟨ad,e,_⟩:=Kd.at_int HC.out 0 tO (by have:=HL.out;omega);subst e
   go_enter Try.func83,Try.ntmps83
   go_upto_region 4 with fail
   rw[←bools_zero];obtain⟨W0,hW0⟩: ∃W,w.alloc (Obj.cells (bools fun _=>false) 133)=W:=⟨_,rfl⟩;have HB0:=Aside0.mk (show Blk W0 w.heap.size (bools fun _=>false) 133 by rw[←hW0];exact Blk.new w _ 133);have HW0:=Aside0.mk (show Below w.heap.size w W0 by rw[←hW0];exact(Below.refl _ w).alloc (Nat.le_refl _) _);rw[hW0];clear hW0;go_wp2
   go_loopw [9,21] (fun x i wr=> ∃(k:Nat) (seen:Nat→Bool),k≤N∧i= .int .i64 (k:Int)∧Aside0 (Blk wr w.heap.size (bools seen) 133)∧Aside0 (isL a0 N (l2.drop k) seen=r)∧Aside0 (Below w.heap.size w wr)) (fun _ i _=>N - (intOf i).toNat)
   case atStart=>exact⟨0,_,Nat.zero_le _,rfl,HB0,HR,HW0⟩
   case round=>
    obtain⟨k,seen,hk,rfl,HB,HI,HW⟩:=hrel;by_cases hlt:k< N
    ·have hi0:(0:Int)≤(k:Int):=by omega
     have hi1:(k:Int)< (N:Int):=by omega
     obtain⟨ad',e,hc⟩:=Kd.at_int (Kd.C_below HC.out HW.out) (k:Int) hi0 (by have:=HL.out;omega);cases e;rw[rd_nth,Int.toNat_natCast]at hc;have hdr:=drop_nth l2 k (by have:=HL.out;omega);have hI:=HI.out;rw[hdr,isL]at hI;obtain⟨x,hx⟩: ∃x,nth l2 k=x:=⟨_,rfl⟩;rw[hx]at hc hI;obtain⟨y,hy⟩: ∃y,absS a0 N x=y:=⟨_,rfl⟩;rw[hy]at hI;have HY:=Aside0.mk hy;have HI2:=Aside0.mk hI;have hwt:IntKind.i64.wrap ((k:Int)+1)=((k+1:Nat):Int):=by rw[iw64 tO tO];omega
     clear hI hy hdr hx HI
     go_upto_region 7 with fail
     obtain⟨tb,htb⟩: ∃tb,decide (a0=true∧x< 0∧ -(N:Int)≤x)=tb:=⟨_,rfl⟩;have HT:=Aside0.mk htb;clear htb
     go_cut [36] (fun v wc=>v= .bool tb∧wc=wr)
     case first=>
      have hT:=HT.out;cases a0
      ·rw[decide_eq_false tS]at hT;subst hT;go_wp2
       go_meet
       case rel=>exact⟨rfl,rfl⟩
      ·by_cases h1:x< 0
       ·by_cases h2: -(N:Int)≤x
        ·have h2b: -x≤(N:Int):=by omega
         rw[decide_eq_true ⟨rfl,h1,h2⟩]at hT;subst hT;go_wp2
         go_meet
         case rel=>exact⟨rfl,rfl⟩
        ·have h2b: ¬ -x≤(N:Int):=by omega
         rw[decide_eq_false tO]at hT;subst hT;go_wp2
         go_meet
         case rel=>exact⟨rfl,rfl⟩
       ·rw[decide_eq_false tO]at hT;subst hT;go_wp2
        go_meet
        case rel=>exact⟨rfl,rfl⟩
     case rest=>
     obtain⟨rfl,rfl⟩:=hcut
     go_upto_if 36 with fail
     go_cut [9] (fun v wd=>v= .int .i64 y∧wd=wc)
     case first=>
      have hY:=HY.out;unfold absS at hY;have hT:=HT.out;by_cases ht:a0=true∧x< 0∧ -(N:Int)≤x
      ·rw[decide_eq_true ht]at hT;rw[if_pos ht]at hY;subst hT;have h1:=ht.2.1;have h2:=ht.2.2;clear ht;go_wp2
       go_meet
       case rel=>exact⟨rfl,rfl⟩
      ·rw[decide_eq_false ht]at hT;rw[if_neg ht]at hY;subst hT;subst hY;clear ht;go_wp2
       go_meet
       case rel=>exact⟨rfl,rfl⟩
     case rest=>
      obtain⟨rfl,rfl⟩:=hcut;by_cases h1:y< 1
      ·have hI:=HI2.out;rw[if_pos (.inl h1)]at hI;subst hI;go_wp2;go_ret;exact⟨rfl,HW.out⟩
      ·by_cases h2:(N:Int)< y
       ·have hI:=HI2.out;rw[if_pos (.inr (.inl h2))]at hI;subst hI;go_wp2;go_ret;exact⟨rfl,HW.out⟩
       ·obtain⟨yn,rfl⟩:=Int.eq_ofNat_of_zero_le (show 0≤y by omega);have hg:=HB.out.cell yn (arr_get Value.bool 41 seen yn tO);have hf:=HB.out.free yn;by_cases h3:seen yn=true
        ·have hI:=HI2.out;rw[if_pos (.inr (.inr (by rw[Int.toNat_natCast];exact h3)))]at hI;subst hI;rw[h3]at hg;go_wp2;go_ret;exact⟨rfl,HW.out⟩
        ·have hI:=HI2.out;rw[if_neg (by rw[Int.toNat_natCast];rintro(h|h|h)<;>first|omega|exact h3 h),Int.toNat_natCast]at hI;have HI3:=Aside0.mk hI;rw[Bool.not_eq_true]at h3;rw[h3]at hg;have h40:(yn:Int)< 41:=by omega
         clear hI h3 HI2;go_wp2
         go_roundw
         case rel=>exact⟨k+1,upd seen yn true,by omega,rfl,⟨by unfold bools;rw[←arr_set Value.bool 41 seen yn true tO];exact HB.out.set yn _⟩,HI3,⟨HW.out.setCell (Nat.le_refl _) _⟩⟩
         case measure=>simp[intOf];omega
    ·have hI:=HI.out;rw[List.drop_of_length_le (by have:=HL.out;omega),isL]at hI;subst hI;go_wp2;go_ret;exact⟨rfl,HW.out⟩
end Go.Proofs.Ytepjhdblmghckaa.G
namespace Go.Proofs.Ytepjhdblmghckaa.Q
open Go.Proofs.Ytepjhdblmghckaa.G
open Go.RowKit Go.Proofs.YtepjhdblmghckaaW.PrintWords Go.Proofs.YtepjhdblmghckaaW.PrintLast Go.Proofs.YtepjhdblmghckaaW.PrintMore
attribute [local go_sem] max2_int min2_int max_two min_two max_three min_three max_four min_four
def pancake_check.l0:Nat→Bool→Int→List (List Int)→List (List Int)→Int→Int→Option (Int)
 |0,_,_,_,_,_,_=>none
 |k+1,x0,x1,x2,x9,x10,x11=>if x11< x10 then(if 0≤x11 then(if x11< (x9.length:Int)then((pancake_isStack.f x0 x1 (rd_L1 x9 x11)).bind fun t293=>(if t293=true then(pancake_check.l0 k x0 x1 x2 x9 x10 (wrap64 (x11+1)))else(some 70)))else(none))else(none))else(if(x2.length:Int)>1 then(if 0< (x2.length:Int)then(if 1< (x2.length:Int)then(if((rd_L1 x2 0).length:Int)=((rd_L1 x2 1).length:Int)then(some 0)else(some 6))else(none))else(none))else(some 0))
def pancake_check.f (k:Nat) (a0:Bool) (a1:Int) (l2:List (List Int)):Option (Int):=pancake_check.l0 k a0 a1 l2 l2 (l2.length:Int) 0
set_option maxHeartbeats 8000000 in
set_option maxRecDepth 100000 in
theorem pancake_check.calls (k:Nat) (a0:Bool) (a1:Int) (A2:Option Addr) (c2:Nat) (l2:List (List Int)) (r:Int) (w:World) (hr2:Kd.C (Kd.slice 3 (Kd.int .i64)) w A2 l2.length l2) (hc2:l2.length≤c2) (h:pancake_check.f k a0 a1 l2=some r):
  Calls Try.prog 68 #[.bool a0, .int .i64 a1, .slice A2 l2.length c2] w fun e w'=>e= .returned (.int .i64 r)∧Below w.heap.size w w':=by
 have HR2:=Aside0.mk hr2;have HC2:=Aside0.mk hc2;clear hr2 hc2;have HB:=Aside0.mk (Below.refl w.heap.size w);have H:(pancake_check.l0 k a0 a1 l2 l2 (l2.length:Int) 0)=some r:=h;clear h;have H':=Aside0.mk H;clear H
 go_enter Try.func68,Try.ntmps68
 go_wp2
 repeat(go_quiet (fail);try go_wp2)
 go_loopg [11] k (fun kq v11 w'=> ∃(x11_1:Int),v11= .int .i64 x11_1∧Aside0 (pancake_check.l0 kq a0 a1 l2 l2 (l2.length:Int) x11_1=some r)∧Aside0 (kq≤k)∧Aside0 (Below w.heap.size w w'))
 case atStart=>exact⟨(0),tF,H',⟨Nat.le_refl _⟩,⟨by repeat(first|(with_reducible first|exact HB.out|apply below_alloc|apply pw_below_drewN|apply below_drew1)|exact HB.out)⟩⟩
 case round=>
  clear H';obtain⟨x11_1,rfl,HA,HK1,HB⟩:=hrel;cases gk with
  |zero=>exact absurd HA.out (by simp[pancake_check.l0])
  | succ k1=>
   have H:=HA.out;clear HA;simp only[pancake_check.l0]at H;by_cases c4:x11_1< (l2.length:Int)
   ·rw[if_pos c4]at H;have c4b0:decide (x11_1< (l2.length:Int))=true:=decide_eq_true c4;clear c4;by_cases c5:0≤x11_1;rotate_left
    ·rw[if_neg c5]at H;exact absurd H tS
    rw[if_pos c5]at H;have c5b0:decide (0≤x11_1)=true:=decide_eq_true c5;clear c5;by_cases c6:x11_1< (l2.length:Int);rotate_left
    ·rw[if_neg c6]at H;exact absurd H tS
    rw[if_pos c6]at H;have c6b0:decide (x11_1< (l2.length:Int))=true:=decide_eq_true c6;clear c6;replace H:=Option.bind_eq_some_iff.mp H;obtain⟨t293,A70,H⟩:=H;replace H:(if t293=true then(pancake_check.l0 k1 a0 a1 l2 l2 (l2.length:Int) (wrap64 (x11_1+1)))else(some 70))=some r:=H;have A7:=Aside0.mk A70;clear A70;by_cases c8:t293=true
    ·subst c8;have H1:(pancake_check.l0 k1 a0 a1 l2 l2 (l2.length:Int) (wrap64 (x11_1+1)))=some r:=by rw[if_pos rfl]at H;exact H
     clear H;have H:=H1;clear H1;have H':=Aside0.mk H;clear H;have p292:0≤(x11_1:Int):=of_decide_eq_true tA;have q292:x11_1< (l2.length:Int):=of_decide_eq_true tA;obtain⟨ad292,A292_0,c292_0,e292,hx292_0,hl292_0,hi292_0⟩:=at_L1 HR2.out x11_1 p292 q292;cases e292;replace hx292_0:=(HB.out.cell (World.block_lt_of_cell? w _ hx292_0)).trans hx292_0;have HR292_0:=Aside0.mk hi292_0;have HC292_0:=Aside0.mk hl292_0;clear hi292_0 hl292_0;replace p292:=eq_true p292;replace q292:=eq_true q292
     go_wp2_with (first|(go_at_call 83;(with_reducible refine(pancake_isStack.calls a0 a1 _ _ (rd_L1 l2 x11_1) true _ ?side1 ?side2 A7.out).mono ?_);(case side1=>repeat(first|exact(Kd.C_below HR292_0.out HB.out)|(with_reducible refine Kd.C_alloc ?_ _)|(with_reducible refine Kd.C_drewN ?_ _)|(with_reducible refine Kd.C_drew ?_)));(case side2=>exact HC292_0.out);rintro e w9 ⟨rfl,hb⟩;have n0_:=Aside0.mk (below_step (tB HB.out) hb);clear HB;have HB:=n0_;clear n0_;(try clear hb);(try clear hb2);(try clear hk);(try clear hi)))
     go_roundg k1
     case measure=>have:=HK1.out;omega
     case rel=>exact⟨(wrap64 (x11_1+1)),tF,H',⟨by have:=HK1.out;omega⟩,⟨by repeat(first|(with_reducible first|exact HB.out|apply below_alloc|apply pw_below_drewN|apply below_drew1)|exact HB.out)⟩⟩
    ·replace c8:=Bool.eq_false_iff.mpr c8;subst c8;have H1:(some 70)=some r:=by rw[if_neg (show ¬(false=true)by decide)]at H;exact H
     clear H;have H:=H1;clear H1;obtain rfl:=Option.some.inj H;have p292:0≤(x11_1:Int):=of_decide_eq_true tA;have q292:x11_1< (l2.length:Int):=of_decide_eq_true tA;obtain⟨ad292,A292_0,c292_0,e292,hx292_0,hl292_0,hi292_0⟩:=at_L1 HR2.out x11_1 p292 q292;cases e292;replace hx292_0:=(HB.out.cell (World.block_lt_of_cell? w _ hx292_0)).trans hx292_0;have HR292_0:=Aside0.mk hi292_0;have HC292_0:=Aside0.mk hl292_0;clear hi292_0 hl292_0;replace p292:=eq_true p292;replace q292:=eq_true q292
     go_wp2_with (first|(go_at_call 83;(with_reducible refine(pancake_isStack.calls a0 a1 _ _ (rd_L1 l2 x11_1) false _ ?side1 ?side2 A7.out).mono ?_);(case side1=>repeat(first|exact(Kd.C_below HR292_0.out HB.out)|(with_reducible refine Kd.C_alloc ?_ _)|(with_reducible refine Kd.C_drewN ?_ _)|(with_reducible refine Kd.C_drew ?_)));(case side2=>exact HC292_0.out);rintro e w10 ⟨rfl,hb⟩;have n0_:=Aside0.mk (below_step (tB HB.out) hb);clear HB;have HB:=n0_;clear n0_;(try clear hb);(try clear hb2);(try clear hk);(try clear hi)))
     go_ret;exact⟨by first|rfl|(simp[errW_none,errW_some]<;>rfl)|(simp[*,errW_none,errW_some]<;>rfl),by repeat(first|(with_reducible first|exact HB.out|apply below_alloc|apply pw_below_drewN|apply below_drew1)|exact HB.out)⟩
   ·rw[if_neg c4]at H;have c4b0:decide (x11_1< (l2.length:Int))=false:=decide_eq_false c4;clear c4;by_cases c11:(l2.length:Int)>1
    ·rw[if_pos c11]at H;have c11b0:decide (1< (l2.length:Int))=true:=decide_eq_true c11;have c11b1:decide (1< l2.length)=true:=decide_eq_true tO;clear c11;by_cases c12:0< (l2.length:Int);rotate_left
     ·rw[if_neg c12]at H;exact absurd H tS
     rw[if_pos c12]at H;have c12b0:decide (0< (l2.length:Int))=true:=decide_eq_true c12;have c12b1:decide (0< l2.length)=true:=decide_eq_true tO;clear c12;by_cases c13:1< (l2.length:Int);rotate_left
     ·rw[if_neg c13]at H;exact absurd H tS
     rw[if_pos c13]at H;have c13b0:decide (1< (l2.length:Int))=true:=decide_eq_true c13;have c13b1:decide (1< l2.length)=true:=decide_eq_true tO;clear c13;by_cases c14:((rd_L1 l2 0).length:Int)=((rd_L1 l2 1).length:Int)
     ·rw[if_pos c14]at H;have c14b0:(((rd_L1 l2 0).length:Int)==((rd_L1 l2 1).length:Int))=true:=beq_iff_eq.mpr c14;have c14b1:(((rd_L1 l2 0).length:Int) !=((rd_L1 l2 1).length:Int))=false:=bne_eq_false_iff_eq.mpr c14;have c14b2:((rd_L1 l2 0).length==(rd_L1 l2 1).length)=true:=by first|simpa using c14|(simp at c14 ⊢;omega)
      clear c14;obtain rfl:=Option.some.inj H;have p294:0≤(0:Int):=tO;have q294:0< (l2.length:Int):=of_decide_eq_true tA;obtain⟨ad294,A294_0,c294_0,e294,hx294_0,hl294_0,hi294_0⟩:=at_L1 HR2.out 0 p294 q294;cases e294;have qi294:(0< l2.length)=True:=eq_true tO
      (try rw[show((0:Int)).toNat=0 from rfl]at hx294_0)
      (try rw[Addr.add_zero']at hx294_0)
      replace hx294_0:=(HB.out.cell (World.block_lt_of_cell? w _ hx294_0)).trans hx294_0;have HR294_0:=Aside0.mk hi294_0;have HC294_0:=Aside0.mk hl294_0;clear hi294_0 hl294_0;replace p294:=eq_true p294;replace q294:=eq_true q294;have p295:0≤(1:Int):=tO;have q295:1< (l2.length:Int):=of_decide_eq_true tA;obtain⟨ad295,A295_0,c295_0,e295,hx295_0,hl295_0,hi295_0⟩:=at_L1 HR2.out 1 p295 q295;obtain rfl:ad294=ad295:=(by injection e295)
      (try simp only[show(1:Int).toNat=1 from rfl,Nat.reduceMul,Nat.reduceEqDiff,Go.Addr.add,↓reduceIte]at hx295_0)
      have qi295:(1< l2.length)=True:=eq_true tO
      (try rw[show((1:Int)).toNat=1 from rfl]at hx295_0)
      replace hx295_0:=(HB.out.cell (World.block_lt_of_cell? w _ hx295_0)).trans hx295_0;have HR295_0:=Aside0.mk hi295_0;have HC295_0:=Aside0.mk hl295_0;clear hi295_0 hl295_0;replace p295:=eq_true p295;replace q295:=eq_true q295;go_wp2
      repeat(go_quiet (fail);try go_wp2)
      go_ret;exact⟨by first|rfl|(simp[errW_none,errW_some]<;>rfl)|(simp[*,errW_none,errW_some]<;>rfl),by repeat(first|(with_reducible first|exact HB.out|apply below_alloc|apply pw_below_drewN|apply below_drew1)|exact HB.out)⟩
     ·rw[if_neg c14]at H;have c14b0:(((rd_L1 l2 0).length:Int)==((rd_L1 l2 1).length:Int))=false:=beq_eq_false_iff_ne.mpr c14;have c14b1:(((rd_L1 l2 0).length:Int) !=((rd_L1 l2 1).length:Int))=true:=bne_iff_ne.mpr c14;have c14b2:((rd_L1 l2 0).length==(rd_L1 l2 1).length)=false:=by first|simpa using c14|(simp at c14 ⊢;omega)
      obtain rfl:=Option.some.inj H;have p294:0≤(0:Int):=tO;have q294:0< (l2.length:Int):=of_decide_eq_true tA;obtain⟨ad294,A294_0,c294_0,e294,hx294_0,hl294_0,hi294_0⟩:=at_L1 HR2.out 0 p294 q294;cases e294;have qi294:(0< l2.length)=True:=eq_true tO
      (try rw[show((0:Int)).toNat=0 from rfl]at hx294_0)
      (try rw[Addr.add_zero']at hx294_0)
      replace hx294_0:=(HB.out.cell (World.block_lt_of_cell? w _ hx294_0)).trans hx294_0;have HR294_0:=Aside0.mk hi294_0;have HC294_0:=Aside0.mk hl294_0;clear hi294_0 hl294_0;replace p294:=eq_true p294;replace q294:=eq_true q294;have p295:0≤(1:Int):=tO;have q295:1< (l2.length:Int):=of_decide_eq_true tA;obtain⟨ad295,A295_0,c295_0,e295,hx295_0,hl295_0,hi295_0⟩:=at_L1 HR2.out 1 p295 q295;obtain rfl:ad294=ad295:=(by injection e295)
      (try simp only[show(1:Int).toNat=1 from rfl,Nat.reduceMul,Nat.reduceEqDiff,Go.Addr.add,↓reduceIte]at hx295_0)
      have qi295:(1< l2.length)=True:=eq_true tO
      (try rw[show((1:Int)).toNat=1 from rfl]at hx295_0)
      replace hx295_0:=(HB.out.cell (World.block_lt_of_cell? w _ hx295_0)).trans hx295_0;have HR295_0:=Aside0.mk hi295_0;have HC295_0:=Aside0.mk hl295_0;clear hi295_0 hl295_0;replace p295:=eq_true p295;replace q295:=eq_true q295;go_wp2
      repeat(go_quiet (fail);try go_wp2)
      go_ret;exact⟨by first|rfl|(simp[errW_none,errW_some]<;>rfl)|(simp[*,errW_none,errW_some]<;>rfl),by repeat(first|(with_reducible first|exact HB.out|apply below_alloc|apply pw_below_drewN|apply below_drew1)|exact HB.out)⟩
    ·rw[if_neg c11]at H;have c11b0:decide (1< (l2.length:Int))=false:=decide_eq_false c11;have c11b1:decide (1< l2.length)=false:=decide_eq_false tO;clear c11;obtain rfl:=Option.some.inj H;go_wp2
     repeat(go_quiet (fail);try go_wp2)
     go_ret;exact⟨by first|rfl|(simp[errW_none,errW_some]<;>rfl)|(simp[*,errW_none,errW_some]<;>rfl),by repeat(first|(with_reducible first|exact HB.out|apply below_alloc|apply pw_below_drewN|apply below_drew1)|exact HB.out)⟩
end Go.Proofs.Ytepjhdblmghckaa.Q
namespace Go.Proofs.Ytepjhdblmghckaa.G
open Go.Proofs.Ytepjhdblmghckaa.Q Go.Proofs.Ytepjhdblmghckaa.K Go.Proofs.Ytepjhdblmghckaa.Bf
open Go.RowKit Go.Shelf Go.Proofs.YtepjhdblmghckaaW.PrintWords Go.Proofs.YtepjhdblmghckaaW.PrintLast Go.Proofs.YtepjhdblmghckaaW.PrintMore
theorem isL_mem (sg:Bool) (n:Nat): ∀(l:List Int) (seen:Nat→Bool),isL sg n l seen=true→ ∀x,x∈l→ -(n:Int)≤x∧x≤n
 | [],_,_,x,hx=>by cases hx
 | y::r,seen,h,x,hx=>by
  rw[isL]at h
  split at h
  ·cases h
  ·rename_i hn
   rcases List.mem_cons.1 hx with rfl|hx
   ·have h1: ¬absS sg n x< 1:=fun e=>hn (.inl e);have h2: ¬(n:Int)< absS sg n x:=fun e=>hn (.inr (.inl e));unfold absS at h1 h2
    split at h1<;>omega
   ·exact isL_mem sg n r _ h x hx
theorem isSt_len {sg:Bool} {most:Int} {l:List Int} (h:isSt sg most l=true):1≤l.length∧(l.length:Int)≤most:=by
 unfold isSt at h
 split at h
 ·cases h
 ·rename_i hn
  omega
theorem isSt_vs {sg:Bool} {most:Int} {l:List Int} (h:isSt sg most l=true) (hm:most≤7):Vs l.length l:=by
 have hl:=isSt_len h;refine⟨rfl,fun j=>?_⟩;unfold isSt at h
 split at h
 ·cases h
 ·have hx:=isL_mem sg l.length l _ h;unfold nth;by_cases hj:j< l.length
  ·have:=hx (l.getD j 0) (by rw[List.getD_eq_getElem?_getD,List.getElem?_eq_getElem hj];exact List.getElem_mem hj);omega
  ·rw[List.getD_eq_getElem?_getD,List.getElem?_eq_none tO];simp
def chk2 (sg:Bool) (most:Int) (l0 l1:List Int):Int:=if isSt sg most l0=true then(if isSt sg most l1=true then(if l0.length=l1.length then 0 else 6)else 70)else 70
theorem chk2_f (sg:Bool) (most:Int) (hm:most≤40) (l0 l1:List Int):pancake_check.f 3 sg most [l0,l1]=some (chk2 sg most l0 l1):=by
 unfold pancake_check.f chk2;have w1:wrap64 (0+1)=1:=w64 tD tD;have w2:wrap64 (1+1)=2:=w64 tD tD;simp only[pancake_check.l0,List.length_cons,List.length_nil,rd_L1,pancake_isStack.f,if_pos hm,Option.bind_some,w1,w2];by_cases h0:isSt sg most l0=true<;>by_cases h1:isSt sg most l1=true<;>by_cases h2:l0.length=l1.length<;>simp[h0,h1,h2]<;>omega
theorem two_rows {W:World} {b t:Nat} {A0 A1:Option Addr} {c0 c1:Nat} {l0 l1:List Int} (h:Blk W b #[.slice A0 l0.length c0, .slice A1 l1.length c1] t) (h0:Kd.C (Kd.int .i64) W A0 l0.length l0) (hc0:l0.length≤c0) (h1:Kd.C (Kd.int .i64) W A1 l1.length l1) (hc1:l1.length≤c1):
  Kd.C (Kd.slice 3 (Kd.int .i64)) W (some ⟨b,0,none⟩) [l0,l1].length [l0,l1]:=by
 refine⟨rfl,by simp,fun _=>⟨_,rfl,fun j p hj=>?_⟩⟩
 match j,hj with
 |0,hj=>
  cases hj;refine⟨[.slice A0 l0.length c0],rfl,⟨A0,c0,rfl,hc0,h0⟩,fun i u hu=>?_⟩
  match i,hu with
  |0,hu=>cases hu;exact h.cell 0 rfl
  |i+1,hu=>simp at hu
 |1,hj=>
  cases hj;refine⟨[.slice A1 l1.length c1],rfl,⟨A1,c1,rfl,hc1,h1⟩,fun i u hu=>?_⟩
  match i,hu with
  |0,hu=>cases hu;exact h.cell 1 rfl
  |i+1,hu=>simp at hu
 |j+2,hj=>simp at hj
def pancake_Flips.f (l0 l1:List Int):Option (Int×Int):=some (if chk2 false 7 l0 l1=0 then((gap l0.length false l1 l0:Nat),0)else(0,chk2 false 7 l0 l1))
set_option maxRecDepth 100000 in
set_option maxHeartbeats 4000000 in
theorem pancake_Flips.calls (A0:Option Addr) (c0:Nat) (l0:List Int) (A1:Option Addr) (c1:Nat) (l1:List Int) (r1 r2:Int) (w:World) (hr0:Kd.C (Kd.int .i64) w A0 l0.length l0) (hc0:l0.length≤c0) (hr1:Kd.C (Kd.int .i64) w A1 l1.length l1) (hc1:l1.length≤c1) (h:pancake_Flips.f l0 l1=some (r1,r2)):
  Calls Try.prog 28 #[.slice A0 l0.length c0, .slice A1 l1.length c1] w fun e w'=>e= .returned (.tuple #[.int .i64 r1, .int .i64 r2])∧Below w.heap.size w w':=by
 obtain⟨W0,hW0⟩: ∃W0,w.alloc (.cells #[.slice A0 l0.length c0, .slice A1 l1.length c1] 22)=W0:=⟨_,rfl⟩;have hB:Below w.heap.size w W0:=by rw[←hW0];exact(Below.refl _ w).alloc (Nat.le_refl _) _
 have hk:Blk W0 w.heap.size #[.slice A0 l0.length c0, .slice A1 l1.length c1] 22:=by rw[←hW0];exact Blk.new _ _ _
 have HC:=Aside0.mk (pancake_check.calls 3 false 7 (some ⟨w.heap.size,0,none⟩) 2 [l0,l1] (chk2 false 7 l0 l1) W0 (two_rows hk (Kd.C_below hr0 hB) hc0 (Kd.C_below hr1 hB) hc1) (Nat.le_refl _) (chk2_f false 7 tD l0 l1));have HB:=Aside0.mk hB;have HR0:=Aside0.mk hr0;have HR1:=Aside0.mk hr1;obtain⟨ce,hce⟩: ∃ce,chk2 false 7 l0 l1=ce:=⟨_,rfl⟩;unfold pancake_Flips.f at h;rw[hce]at h HC;have HCE:=Aside0.mk hce;clear hB hk hr0 hr1 hce
 go_enter Try.func28,Try.ntmps28
 by_cases he:ce=0
 ·rw[if_pos he]at h;subst he;cases h
  have hst:isSt false 7 l0=true∧isSt false 7 l1=true∧l0.length=l1.length:=by
   have h:=HCE.out;unfold chk2 at h;by_cases h0:isSt false 7 l0=true<;>by_cases h1:isSt false 7 l1=true<;>by_cases h2:l0.length=l1.length<;>simp[h0,h1,h2]at h
   exact⟨h0,h1,h2⟩
  have v0:=isSt_vs hst.1 tD;have v1:=isSt_vs hst.2.1 tD;rw[←hst.2.2]at v1;have hn:l0.length≤7:=by have:=(isSt_len hst.1).2;omega
  have HV0:=Aside0.mk v0;have HV1:=Aside0.mk v1;clear v0 v1 hst
  go_wp2_with (go_at_call 68;refine HC.out.mono ?_;rintro e w1 ⟨rfl,hb⟩;have HB1:=Aside0.mk (HB.out.trans (hb.mono HB.out.size));clear hb)
  go_wp2_with (go_at_call 70;refine stopper ?_)
  unfold Hold;refine(packed_calls A0 c0 l0 _ l0.length hn HV0.out (Kd.C_below HR0.out HB1.out)).mono ?_;rintro e w2 ⟨rfl,hb⟩;have HB2:=Aside0.mk (HB1.out.trans (hb.mono HB1.out.size));clear hb
  go_wp2_with (go_at_call 70;refine stopper ?_)
  unfold Hold;refine(packed_calls A1 c1 l1 _ l0.length hn HV1.out (Kd.C_below HR1.out HB2.out)).mono ?_;rintro e w3 ⟨rfl,hb⟩;have HB3:=Aside0.mk (HB2.out.trans (hb.mono HB2.out.size));clear hb
  go_wp2_with (go_at_call 69;refine stopper ?_)
  unfold Hold;refine(between_calls l0.length hn false l0 l1 HV0.out HV1.out _).mono ?_;rintro e w4 ⟨rfl,hb⟩;have HB4:=Aside0.mk (HB3.out.trans (hb.mono HB3.out.size));clear hb;go_wp2;refine bodyPost_ret (results_tmp2 rfl _ _ _) rfl ⟨rfl,HB4.out⟩
 ·rw[if_neg he]at h;cases h
  go_wp2_with (go_at_call 68;refine HC.out.mono ?_;rintro e w1 ⟨rfl,hb⟩;have HB1:=Aside0.mk (HB.out.trans (hb.mono HB.out.size));clear hb)
  refine bodyPost_ret (results_tmp2 rfl _ _ _) rfl ⟨rfl,HB1.out⟩
def chk1 (sg:Bool) (most:Int) (l0:List Int):Int:=if isSt sg most l0=true then 0 else 70
theorem chk1_f (sg:Bool) (most:Int) (hm:most≤40) (l0:List Int):pancake_check.f 2 sg most [l0]=some (chk1 sg most l0):=by
 unfold pancake_check.f chk1;have w1:wrap64 (0+1)=1:=w64 tD tD;simp only[pancake_check.l0,List.length_cons,List.length_nil,rd_L1,pancake_isStack.f,if_pos hm,Option.bind_some,w1];by_cases h0:isSt sg most l0=true<;>simp[h0]
theorem one_row {W:World} {b t:Nat} {A0:Option Addr} {c0:Nat} {l0:List Int} (h:Blk W b #[.slice A0 l0.length c0] t) (h0:Kd.C (Kd.int .i64) W A0 l0.length l0) (hc0:l0.length≤c0):
  Kd.C (Kd.slice 3 (Kd.int .i64)) W (some ⟨b,0,none⟩) [l0].length [l0]:=by
 refine⟨rfl,by simp,fun _=>⟨_,rfl,fun j p hj=>?_⟩⟩
 match j,hj with
 |0,hj=>
  cases hj;refine⟨[.slice A0 l0.length c0],rfl,⟨A0,c0,rfl,hc0,h0⟩,fun i u hu=>?_⟩
  match i,hu with
  |0,hu=>cases hu;exact h.cell 0 rfl
  |i+1,hu=>simp at hu
 |j+1,hj=>simp at hj
set_option maxHeartbeats 4000000 in
theorem check58_one (A0:Option Addr) (c0:Nat) (l0:List Int) (w:World) (hr0:Kd.C (Kd.int .i64) w A0 l0.length l0) (hc0:l0.length≤c0):
  Calls Try.prog 58 #[.slice A0 l0.length c0] w fun e w'=>e= .returned (.int .i64 (chk1 false 7 l0))∧Below w.heap.size w w':=by
 obtain⟨W0,hW0⟩: ∃W0,w.alloc (.cells #[.slice A0 l0.length c0] 22)=W0:=⟨_,rfl⟩;have hB:Below w.heap.size w W0:=by rw[←hW0];exact(Below.refl _ w).alloc (Nat.le_refl _) _
 have hk:Blk W0 w.heap.size #[.slice A0 l0.length c0] 22:=by rw[←hW0];exact Blk.new _ _ _
 have HC:=Aside0.mk (pancake_check.calls 2 false 7 (some ⟨w.heap.size,0,none⟩) 1 [l0] (chk1 false 7 l0) W0 (one_row hk (Kd.C_below hr0 hB) hc0) (Nat.le_refl _) (chk1_f false 7 tD l0));have HB:=Aside0.mk hB;clear hB hk hr0
 go_enter Try.func58,Try.ntmps58
 go_wp2_with (go_at_call 68;refine HC.out.mono ?_;rintro e w1 ⟨rfl,hb⟩;have HB1:=Aside0.mk (HB.out.trans (hb.mono HB.out.size));clear hb)
 go_ret;exact⟨rfl,HB1.out⟩
theorem nth_mem {l:List Int} {B:Int} (hB:0≤B) (h: ∀x,x∈l→ -B≤x∧x≤B) (p:Nat): -B≤nth l p∧nth l p≤B:=by
 by_cases hp:p< l.length
 ·have:=h (l.getD p 0) (by rw[List.getD_eq_getElem?_getD,List.getElem?_eq_getElem hp];exact List.getElem_mem hp);unfold nth;exact this
 ·rw[nth_end _ _ tO];omega
theorem flippedR_calls {W:World} {base:Nat} {ok:Nat→Prop} {v:Value} {l:List Int} (sg:Bool) (h:Kd.R (Kd.int .i64) 3 W base ok v l) (i k:Nat) (hik:i≤k) (hk:k< l.length) (hn:l.length≤1000) (hm: ∀x,x∈l→ -100≤x∧x≤100):
  Calls Try.prog 75 #[v, .int .i64 (i:Int), .int .i64 (k:Int), .bool sg] W fun e w'=>e= .returned (.tuple #[])∧Kd.R (Kd.int .i64) 3 w' base ok v (flL sg l i k)∧Below base W w':=by
 have ho:=Kd.own_of_R h;rcases ho.2 with⟨_,h0⟩|⟨g,cap,cur,rfl,hb,hh,hnc,hcm,hsz,htake⟩
 ·omega
 ·have hrow:Row .i64 W g 3 l.length cur (nth l):=by
   refine⟨hh,by omega,fun p hp=>?_⟩;have h1:=congrArg (fun z=>z[p]?) htake;simp only[Nat.mul_one]at h1;rw[List.getElem?_take,if_pos hp]at h1;rw[←Array.getElem?_toList,h1];unfold encs;rw[List.getElem?_map,List.getElem?_eq_getElem hp];simp[nth,hp]
  refine(flipped64_calls (c:=cap) sg hrow hik hk tO hnc (fun p=>nth_mem tD hm p)).mono ?_;rintro e w' ⟨rfl,cs',hr',_,hz',ha⟩;refine⟨rfl,?_,⟨ha.os,ha.tape,ha.output,by rw[ha.size];exact Nat.le_refl _,fun j hj=>ha.other j tO⟩⟩;have hl:(flL sg l i k).length=l.length:=flL_len sg l i k
  have hown:w'.ownsRow base 3 1 (.slice (some ⟨g,0,none⟩) l.length cap) (flL sg l i k).length (encs (Value.int .i64) (flL sg l i k)):=by
   rw[hl];refine⟨by simp[encs,hl], .inr ⟨g,cap,cs',rfl,hb,hr'.blk,hnc,hcm,by rw[hz',hsz],?_⟩⟩;apply List.ext_getElem?;intro p;rw[Nat.mul_one,List.getElem?_take];by_cases hp:p< l.length
   ·rw[if_pos hp,Array.getElem?_toList,hr'.val p hp];unfold encs;rw[List.getElem?_map,List.getElem?_eq_getElem (by rw[hl];exact hp),Option.map_some];congr 2;rw[←nth_flL sg l i k hk];simp[nth,hl,hp]
   ·rw[if_neg hp,List.getElem?_eq_none (by simp[encs,hl];omega)]
  exact Kd.R_of_own hown h.1
def small (l:List Int):Bool:=decide (0< l.length)&&decide (l.length≤40)&&l.all (fun x=>decide (-100≤x)&&decide (x≤100))
theorem small_ok {l:List Int} (h:small l=true):0< l.length∧l.length≤40∧ ∀x,x∈l→ -100≤x∧x≤100:=by
 unfold small at h;simp only[Bool.and_eq_true,decide_eq_true_eq,List.all_eq_true]at h;exact⟨h.1.1,h.1.2,h.2⟩
def pancake_topFlipped.f (l:List Int) (k:Int) (sg:Bool):Option (List Int×Int):=if small l=true then some (if k< 1∨(l.length:Int)< k then([],1)else(flL sg l 0 (k.toNat - 1),0))else none
set_option maxRecDepth 100000 in
set_option maxHeartbeats 4000000 in
theorem pancake_topFlipped.calls (A0:Option Addr) (c0:Nat) (l0:List Int) (a1:Int) (a2:Bool) (r1:List Int) (r2:Int) (w:World) (hr0:Kd.C (Kd.int .i64) w A0 l0.length l0) (hc0:l0.length≤c0) (h:pancake_topFlipped.f l0 a1 a2=some (r1,r2)):
  Calls Try.prog 71 #[.slice A0 l0.length c0, .int .i64 a1, .bool a2] w fun e w'=> ∃v0_:Value,e= .returned (.tuple #[v0_, .int .i64 r2])∧Kd.R (Kd.int .i64) 3 w' w.heap.size (fun _=>True) v0_ r1∧Below w.heap.size w w':=by
 unfold pancake_topFlipped.f at h
 split at h
 ·rename_i hs
  obtain⟨hs1,hs2,hs3⟩:=small_ok hs;have HC:=Aside0.mk (slices_Clone_int_int.calls A0 c0 l0 l0 w hr0 hc0 (by unfold slices_Clone_int_int.f;rw[if_pos ⟨hs1,by omega⟩]));have HS:=Aside0.mk hs3;clear hs hs3 hr0;by_cases h1:a1< 1
  ·rw[if_pos (.inl h1)]at h;cases h
   go_enter Try.func71,Try.ntmps71
   go_wp2;refine bodyPost_ret (results_tmp2 rfl _ _ _) rfl ⟨_,rfl,Kd.R_nil _ _ _ _ _,Below.refl _ _⟩
  ·by_cases h2:(l0.length:Int)< a1
   ·rw[if_pos (.inr h2)]at h;cases h
    go_enter Try.func71,Try.ntmps71
    go_wp2;refine bodyPost_ret (results_tmp2 rfl _ _ _) rfl ⟨_,rfl,Kd.R_nil _ _ _ _ _,Below.refl _ _⟩
   ·rw[if_neg (by rintro(h|h)<;>omega)]at h;cases h;obtain⟨q,hq⟩: ∃q:Nat,a1=((q+1:Nat):Int):=⟨(a1 - 1).toNat,by omega⟩;subst hq;have hw1:IntKind.i64.wrap (((q+1:Nat):Int) - 1)=(q:Int):=by rw[iw64 tO tO];omega
    have e1:((q+1:Nat):Int).toNat - 1=q:=by omega
    rw[e1];have hql:q< l0.length:=by omega
    go_enter Try.func71,Try.ntmps71
    go_wp2_with (go_at_call 74;refine stopper ?_)
    unfold Hold;refine HC.out.mono ?_;rintro e w1 ⟨v1,rfl,hv1,hb1⟩;have HF:=Aside0.mk (flippedR_calls a2 hv1 0 q (Nat.zero_le _) hql tO HS.out);have HB1:=Aside0.mk hb1;clear hv1 hb1
    go_wp2_with (go_at_call 75;refine stopper ?_)
    unfold Hold;refine HF.out.mono ?_;rintro e w2 ⟨rfl,hv2,hb2⟩;have HV2:=Aside0.mk hv2;have HB2:=Aside0.mk (HB1.out.trans hb2);clear hv2 hb2;go_wp2;refine bodyPost_ret (results_tmp2 rfl _ _ _) rfl ⟨_,rfl,HV2.out,HB2.out⟩
 ·cases h
set_option maxHeartbeats 4000000 in
theorem check55_one (A0:Option Addr) (c0:Nat) (l0:List Int) (w:World) (hr0:Kd.C (Kd.int .i64) w A0 l0.length l0) (hc0:l0.length≤c0):
  Calls Try.prog 55 #[.slice A0 l0.length c0] w fun e w'=>e= .returned (.int .i64 (chk1 true 40 l0))∧Below w.heap.size w w':=by
 obtain⟨W0,hW0⟩: ∃W0,w.alloc (.cells #[.slice A0 l0.length c0] 22)=W0:=⟨_,rfl⟩;have hB:Below w.heap.size w W0:=by rw[←hW0];exact(Below.refl _ w).alloc (Nat.le_refl _) _
 have hk:Blk W0 w.heap.size #[.slice A0 l0.length c0] 22:=by rw[←hW0];exact Blk.new _ _ _
 have HC:=Aside0.mk (pancake_check.calls 2 true 40 (some ⟨w.heap.size,0,none⟩) 1 [l0] (chk1 true 40 l0) W0 (one_row hk (Kd.C_below hr0 hB) hc0) (Nat.le_refl _) (chk1_f true 40 tD l0));have HB:=Aside0.mk hB;clear hB hk hr0
 go_enter Try.func55,Try.ntmps55
 go_wp2_with (go_at_call 68;refine HC.out.mono ?_;rintro e w1 ⟨rfl,hb⟩;have HB1:=Aside0.mk (HB.out.trans (hb.mono HB.out.size));clear hb)
 go_ret;exact⟨rfl,HB1.out⟩
theorem isSt_small {sg:Bool} {most:Int} {l:List Int} (h:isSt sg most l=true) (hm:most≤40):0< l.length∧l.length≤40∧ ∀x,x∈l→ -100≤x∧x≤100:=by
 have hl:=isSt_len h;refine⟨by omega,by omega,fun x hx=>?_⟩;unfold isSt at h
 split at h
 ·cases h
 ·have:=isL_mem sg l.length l _ h x hx;omega
theorem u68:Try.prog.underlying 68=some (.slice 57):=by kernel_rfl
theorem info57:(Try.prog.info? 57).map (fun i=>(i.zero,i.size,i.bytes))=some (some (.agg #[(.int .i64 0),(.int .i64 0)]),2,16):=by kernel_rfl
theorem isSt_vs' {sg:Bool} {most:Int} {l:List Int} (h:isSt sg most l=true) (hm:l.length≤7):Vs l.length l:=by
 refine⟨rfl,fun j=>?_⟩;unfold isSt at h
 split at h
 ·cases h
 ·have:=nth_mem (B:=7) tD (fun x hx=>by have:=isL_mem sg l.length l _ h x hx;omega) j;exact this
def pancake_OrderTurns.f (l0:List Int):Option (List S57×Int):=if isSt true 40 l0=true then(if 6< l0.length then some ([],1)else if((knownOf l0.length true true l0) l0).isSome=true then some ((ordL l0.length true true l0).map mk57,0)else none)else some ([],70)
theorem take_57 (ms:List S57) (k:Nat) (h:k< ms.length):ms.take k++ [rd_T57 ms (k:Int)]=ms.take (k+1):=by
 rw[List.take_succ_eq_append_getElem h];congr 2;simp[rd_T57,h]
set_option maxRecDepth 100000 in
set_option maxHeartbeats 8000000 in
theorem pancake_OrderTurns.calls (A0:Option Addr) (c0:Nat) (l0:List Int) (r1:List S57) (r2:Int) (w:World) (hr0:Kd.C (Kd.int .i64) w A0 l0.length l0) (hc0:l0.length≤c0) (h:pancake_OrderTurns.f l0=some (r1,r2)):
  Calls Try.prog 50 #[.slice A0 l0.length c0] w fun e w'=> ∃v0_:Value,e= .returned (.tuple #[v0_, .int .i64 r2])∧Kd.R k57 57 w' w.heap.size (fun _=>True) v0_ r1∧Below w.heap.size w w':=by
 have HC:=Aside0.mk (check55_one A0 c0 l0 w hr0 hc0);have HR0:=Aside0.mk hr0;clear hr0;unfold pancake_OrderTurns.f at h;unfold chk1 at HC
 go_enter Try.func50,Try.ntmps50
 by_cases hst:isSt true 40 l0=true
 ·rw[if_pos hst]at h HC
  go_wp2_with (go_at_call 55;refine stopper ?_)
  unfold Hold;refine HC.out.mono ?_;rintro e w1 ⟨rfl,hb⟩;have HB1:=Aside0.mk hb;clear hb;by_cases h6:6< l0.length
  ·rw[if_pos h6]at h;cases h;have h6':(l0.length:Int)>6:=by omega
   go_wp2;refine bodyPost_ret (results_tmp2 rfl _ _ _) rfl ⟨_,rfl,Kd.R_nil _ _ _ _ _,HB1.out⟩
  ·rw[if_neg h6]at h;have h6': ¬(l0.length:Int)>6:=by omega
   have hn:l0.length≤7:=by omega
   have hx:=isSt_vs' hst tO;have HV:=Aside0.mk hx;clear hst hx;by_cases hk:((knownOf l0.length true true l0) l0).isSome=true
   ·rw[if_pos hk]at h;cases h;have HKS:=Aside0.mk hk;clear hk
    go_wp2_with (go_at_call 70;refine stopper ?_)
    unfold Hold;refine(packed_calls A0 c0 l0 _ l0.length hn HV.out (Kd.C_below HR0.out HB1.out)).mono ?_;rintro e w2 ⟨rfl,hb⟩;have HB2:=Aside0.mk (HB1.out.trans (hb.mono HB1.out.size));clear hb
    go_wp2_with (go_at_call 77;refine stopper ?_)
    unfold Hold;refine(order_calls l0.length hn true true l0 HV.out HKS.out w2).mono ?_;rintro e w3 ⟨v3,rfl,hv3,hb⟩;have HB3:=Aside0.mk (HB2.out.trans (hb.mono HB2.out.size));obtain⟨A3,c3,ev⟩:=Kd.R_slice hv3;subst ev;have HC3:=Aside0.mk (Kd.R_reads' hv3).2.2;obtain⟨os,hos⟩: ∃os,(ordL l0.length true true l0).map mk57=os:=⟨_,rfl⟩;rw[hos]at HC3 ⊢;have HOS:=Aside0.mk hos;have HOL:=Aside0.mk (show os.length≤1000000000 by rw[←hos,List.length_map];exact(ord_ok l0.length hn true true l0 HV.out HKS.out).1);obtain⟨N,hN⟩: ∃N,os.length=N:=⟨_,rfl⟩;have HN:=Aside0.mk hN;rw[hN]at HOL ⊢;clear hb hv3 hos hN;go_wp2
    go_loopw [5,23] (fun o i wr=> ∃k:Nat,k≤N∧i= .int .i64 (k:Int)∧Aside0 (Kd.R k57 57 wr w3.heap.size (fun _=>True) o (os.take k))∧Aside0 (Below w3.heap.size w3 wr)) (fun _ i _=>N - (intOf i).toNat)
    case atStart=>exact⟨0,Nat.zero_le _,rfl,⟨Kd.R_nil _ _ _ _ _⟩,⟨Below.refl _ _⟩⟩
    case round=>
     obtain⟨k,hk,rfl,HO,HW⟩:=hrel;by_cases hlt:k< N
     ·have hi0:(0:Int)≤(k:Int):=by omega
      have hi1:(k:Int)< (N:Int):=by omega
      obtain⟨ad,e,hc0,hc1⟩:=at_T57 (Kd.C_below HC3.out HW.out) (k:Int) hi0 (by rw[HN.out];exact hi1);subst e;rw[Int.toNat_natCast]at hc0 hc1;have HT:=Aside0.mk (take_57 os k (by rw[HN.out];exact hlt));obtain⟨x,hx⟩: ∃x,rd_T57 os (k:Int)=x:=⟨_,rfl⟩;rw[hx]at hc0 hc1 HT;obtain⟨x0,x1⟩:=x;simp only at hc0 hc1;have HOL2:=Aside0.mk (show N≤1000000000 from HOL.out);have hwt:IntKind.i64.wrap ((k:Int)+1)=((k+1:Nat):Int):=by rw[iw64 (by have:=HOL.out;omega) (by have:=HOL.out;omega)];omega
      have HWW:=Aside0.mk (HB3.out.trans (HW.out.mono HB3.out.size));have HSW:=Aside0.mk HWW.out.size;obtain⟨xs,hxs⟩: ∃xs,os.take k=xs:=⟨_,rfl⟩;have hxl:xs.length=k:=by rw[←hxs,List.length_take];have:=HN.out;omega
      rw[hxs]at HO HT;have HXL:=Aside0.mk hxl;clear hx hxs hxl
      go_wp2_with ((with_reducible refine gate_builtin (b:= .append) (xs:= #[.tmp 27, .tmp 33]) rfl ?_);at_builtin;refine stopper ?_)
      unfold Hold;obtain⟨WA,hWA⟩: ∃WA,wr.alloc (Obj.cells #[Value.int .i64 x0,Value.int .i64 x1] 105)=WA:=⟨_,rfl⟩;have hsA:WA.heap.size=wr.heap.size+1:=by rw[←hWA];simp
      have hro:Kd.R k57 57 WA w3.heap.size (fun _=>True) u5 xs:=by rw[←hWA];exact Kd.R_alloc HO.out _
      have hwo3:Below w3.heap.size w3 WA:=by rw[←hWA];exact HW.out.alloc HW.out.size _
      rw[hWA,←hsA];have HW3:=Aside0.mk hwo3;have HRO:=Aside0.mk hro;refine Kd.R_append k57 (w0:=w3) w3.heap.size rfl (.tmp 27) (.tmp 33) 68 57 (.agg #[(.int .i64 0),(.int .i64 0)]) 16 rfl u68 info57 rfl tD tD u5 xs ⟨x0,x1⟩ [.int .i64 x0, .int .i64 x1] (fun _=>True) (fun k=>False) rfl rfl (k57_mkM _ _ _ ⟨x0,x1⟩) (fun k h=>h.elim) (fun k hk=>trivial) hro hwo3 HW3.out.size (by have:=HXL.out;have:=HOL2.out;omega) ?_;intro v1 wy ho hb hg hat;rw[HT.out]at ho;have HO':=Aside0.mk ho;have HW':=Aside0.mk hb;clear ho hb hg hat hro hwo3 hsA hWA;go_wp2
      go_roundw
      case rel=>exact⟨k+1,by omega,rfl,HO',HW'⟩
      case measure=>simp[intOf];omega
     ·have hi1: ¬(k:Int)< (N:Int):=by omega
      have HKN:=Aside0.mk (show k=N by omega);go_wp2;refine bodyPost_ret (results_tmp2 rfl _ _ _) rfl ⟨_,rfl,?_,HB3.out.trans (HW.out.mono HB3.out.size)⟩;have h1:=HO.out;rw[List.take_of_length_le (by have:=HN.out;have:=HKN.out;omega)]at h1;rw[HOS.out];exact Kd.R_lower h1 HB3.out.size
   ·rw[if_neg hk]at h;cases h
 ·rw[if_neg hst]at h HC;cases h;clear hst
  go_wp2_with (go_at_call 55;refine stopper ?_)
  unfold Hold;refine HC.out.mono ?_;rintro e w1 ⟨rfl,hb⟩;have HB1:=Aside0.mk hb;clear hb;go_wp2;refine bodyPost_ret (results_tmp2 rfl _ _ _) rfl ⟨_,rfl,Kd.R_nil _ _ _ _ _,HB1.out⟩
end Go.Proofs.Ytepjhdblmghckaa.G
namespace Go.Proofs.Ytepjhdblmghckaa.G
open Go.Proofs.Ytepjhdblmghckaa.Q Go.Proofs.Ytepjhdblmghckaa.K
open Go.RowKit Go.Shelf Go.Proofs.YtepjhdblmghckaaW.PrintWords Go.Proofs.YtepjhdblmghckaaW.PrintLast Go.Proofs.YtepjhdblmghckaaW.PrintMore
attribute [local go_sem] max2_int min2_int max_two min_two
theorem C_take {w:World} {A:Option Addr} {l:List Int} {n:Nat} (h:Kd.C (Kd.int .i64) w A n l) (k:Nat) (hk:k≤n):Kd.C (Kd.int .i64) w A k (l.take k):=by
 have h1:=Kd.reads_of_C (enc:=Value.int .i64) (d:=(0:Int)) (h1:=fun _=>rfl) h;refine Kd.C_of_reads (enc:=Value.int .i64) (d:=(0:Int)) (h1:=fun _=>rfl) ⟨by rw[List.length_take];have:=h1.1;omega,by have:=h1.2.1;omega,fun hp=>?_⟩;obtain⟨ad,e,hc⟩:=h1.2.2 tO;refine⟨ad,e,fun j hj=>?_⟩;rw[hc j tO];congr 2;simp[List.getD_eq_getElem?_getD,List.getElem?_take,hj]
end Go.Proofs.Ytepjhdblmghckaa.G
namespace Go.Proofs.Ytepjhdblmghckaa.G
open Go.Proofs.Ytepjhdblmghckaa.Q Go.Proofs.Ytepjhdblmghckaa.K
open Go.RowKit Go.Shelf Go.Proofs.YtepjhdblmghckaaW.PrintWords Go.Proofs.YtepjhdblmghckaaW.PrintLast Go.Proofs.YtepjhdblmghckaaW.PrintMore
theorem cut22 (ad:Option Addr) (n c k:Nat) (hk:k≤n) (hc:n≤c) (W:World):
  (Instr.slice 22 (.slice ad n c) (some (.int .i64 (k:Int))) none none).run Try.prog W= .ok (.slice (if c=k then ad else ad.map (·.add (k*1))) (n - k) (c - k)) W:=by
 have he:Try.prog.elem 22=3:=by kernel_rfl
 have hu:Try.prog.underlying 22=some (.slice (Try.prog.elem 22)):=by rw[he];exact Try.underlying22
 rw[run_slice_l (P:=Try.prog) W 22 ad n c hu .i64 (k:Int) tO tO,he,Try.sizeOf3];simp only[Result.andThen,sliced,Int.toNat_natCast]
theorem C_cut {w:World} {A:Option Addr} {l:List Int} {n c k:Nat} (h:Kd.C (Kd.int .i64) w A n l) (hk:k≤n) (hc:n≤c):Kd.C (Kd.int .i64) w (if c=k then A else A.map (·.add (k*1))) (n - k) (l.drop k):=by
 have h1:=Kd.reads_of_C (enc:=Value.int .i64) (d:=(0:Int)) (h1:=fun _=>rfl) h;refine Kd.C_of_reads (enc:=Value.int .i64) (d:=(0:Int)) (h1:=fun _=>rfl) ⟨by rw[List.length_drop];have:=h1.1;omega,by have:=h1.2.1;omega,fun hp=>?_⟩;obtain⟨ad,rfl,hcell⟩:=h1.2.2 tO;rw[if_neg tO];refine⟨_,rfl,fun j hj=>?_⟩;have h2:=hcell (k+j) tO
 have e:(ad.add (k*1)).add j=ad.add (k+j):=by
  rw[Nat.mul_one];unfold Addr.add;by_cases hk0:k=0<;>by_cases hj0:j=0<;>simp[hk0,hj0]
  omega
 rw[e,h2];congr 2;simp[List.getD_eq_getElem?_getD,List.getElem?_drop]
def rowK (l:List Int) (x:Nat):Int:=(IntKind.u64.wrap (nth l (x - 1))).tmod (2*(x:Int))
def rowAt (l:List Int) (x:Nat):Nat:=if x≤l.length then(rowK l x/2).toNat else x - 1
def rowSg (l:List Int) (sg:Bool) (x:Nat):Int:=if x≤l.length∧sg=true∧rowK l x % 2=1 then -1 else 1
def rowOf (l:List Int) (sg:Bool):Nat→List Int
 |0=> []
 |x+1=>(rowOf l sg x).take (rowAt l (x+1))++ [rowSg l sg (x+1)*((x+1:Nat):Int)]++(rowOf l sg x).drop (rowAt l (x+1))
theorem u64_nonneg (x:Int):0≤IntKind.u64.wrap x∧IntKind.u64.wrap x≤18446744073709551615:=by
 have h:IntKind.u64.wrap x=x % 18446744073709551616:=by
  have e1:IntKind.u64.signed=false:=rfl;have e2:IntKind.u64.bits=64:=rfl;unfold IntKind.wrap;rw[e1,e2];simp
 rw[h];omega
theorem u64_small {x:Int} (h:0≤x) (h':x≤18446744073709551615):IntKind.u64.wrap x=x:=by
 have e1:IntKind.u64.signed=false:=rfl;have e2:IntKind.u64.bits=64:=rfl;unfold IntKind.wrap;rw[e1,e2];simp;omega
theorem rowK_range (l:List Int) (x:Nat) (hx:1≤x):0≤rowK l x∧rowK l x< 2*(x:Int):=by
 unfold rowK;exact⟨Int.tmod_nonneg _ (u64_nonneg _).1,Int.tmod_lt_of_pos _ tO⟩
theorem rowAt_lt (l:List Int) (x:Nat) (hx:1≤x):rowAt l x≤x - 1:=by
 unfold rowAt;have:=rowK_range l x hx
 split<;>omega
theorem rowOf_length (l:List Int) (sg:Bool) (x:Nat):(rowOf l sg x).length=x:=by
 induction x with
 |zero=>rfl
 |succ x ih=>
  have:=rowAt_lt l (x+1) tO;simp only[rowOf,List.length_append,List.length_take,List.length_drop,List.length_singleton,ih];omega
def bibelotlaw07_row.f (l0:List Int) (a1:Int) (a2:Bool):Option (List Int):=if a1≤1000000 then some (rowOf l0 a2 a1.toNat)else none
set_option maxRecDepth 100000 in
set_option maxHeartbeats 8000000 in
theorem bibelotlaw07_row.calls (A0:Option Addr) (c0:Nat) (l0:List Int) (a1:Int) (a2:Bool) (r:List Int) (w:World) (hr0:Kd.C (Kd.int .i64) w A0 l0.length l0) (hc0:l0.length≤c0) (h:bibelotlaw07_row.f l0 a1 a2=some r):
  Calls Try.prog 27 #[.slice A0 l0.length c0, .int .i64 a1, .bool a2] w fun e w'=> ∃v0_:Value,e= .returned (v0_)∧Kd.R (Kd.int .i64) 3 w' w.heap.size (fun _=>True) v0_ r∧Below w.heap.size w w':=by
 unfold bibelotlaw07_row.f at h
 split at h
 case isFalse=>cases h
 rename_i ha1
 cases h;have HR0:=Aside0.mk hr0;obtain⟨n,hn⟩: ∃n,l0.length=n:=⟨_,rfl⟩;rw[hn]at HR0 hc0 ⊢;have HN:=Aside0.mk hn;have hnn:(n:Int)≤9223372036854775807:=by have:=HR0.out.2.1;omega
 clear hr0 hn
 go_enter Try.func27,Try.ntmps27
 go_wp2
 go_loopw [7,8] (fun ov xv wr=> ∃x:Nat,x≤a1.toNat∧xv= .int .i64 ((x:Int)+1)∧Aside0 (Kd.R (Kd.int .i64) 3 wr w.heap.size (fun _=>True) ov (rowOf l0 a2 x))∧Aside0 (Below w.heap.size w wr)) (fun _ xv _=>a1.toNat+1 - (intOf xv).toNat)
 case atStart=>exact⟨0,Nat.zero_le _,rfl,⟨Kd.R_nil _ _ _ _ _⟩,⟨Below.refl _ _⟩⟩
 case round=>
  obtain⟨x,hx,rfl,HO,HB⟩:=hrel;by_cases hlt:(x:Int)+1≤a1
  ·have hxn:x+1≤a1.toNat:=by omega
   obtain⟨Ao,co,ev⟩:=Kd.R_slice HO.out;rw[rowOf_length]at ev;subst ev;have hco:x≤co:=(Kd.R_reads' HO.out).2.1;have HOC:=Aside0.mk (show Kd.C (Kd.int .i64) wr Ao x (rowOf l0 a2 x)by have h1:=(Kd.R_reads' HO.out).2.2;rw[rowOf_length]at h1;exact h1);have hat:=rowAt_lt l0 (x+1) tO;have HST:=Aside0.mk (show rowOf l0 a2 (x+1)=(rowOf l0 a2 x).take (rowAt l0 (x+1))++ [rowSg l0 a2 (x+1)*((x+1:Nat):Int)]++(rowOf l0 a2 x).drop (rowAt l0 (x+1))from rfl);have HAT:=Aside0.mk (show rowAt l0 (x+1)=if x+1≤l0.length then(rowK l0 (x+1)/2).toNat else x from rfl);have HSG:=Aside0.mk (show rowSg l0 a2 (x+1)=if x+1≤l0.length∧a2=true∧rowK l0 (x+1) % 2=1 then -1 else 1 from rfl);obtain⟨at_,hate⟩: ∃at_,rowAt l0 (x+1)=at_:=⟨_,rfl⟩;obtain⟨sg,hsge⟩: ∃sg,rowSg l0 a2 (x+1)=sg:=⟨_,rfl⟩;have hsgr:sg=1∨sg= -1:=by rw[←hsge,HSG.out];split<;>simp
   rw[hate]at HST HAT hat;rw[hsge]at HST HSG;obtain⟨o,ho⟩: ∃o,rowOf l0 a2 x=o:=⟨_,rfl⟩;rw[ho]at HST HOC HO;have hwx:IntKind.i64.wrap ((x:Int)+1 - 1)=(x:Int):=by rw[iw64 tO tO];omega
   have hwx1:IntKind.i64.wrap ((x:Int)+1+1)=((x+1:Nat):Int)+1:=by rw[iw64 tO tO];omega
   have hwx2:IntKind.i64.wrap (x:Int)=(x:Int):=iw64 tO tO;clear hate hsge ho;have hxb:(x:Int)+1≤1000000:=by omega
   by_cases hxl:(x:Int)+1≤(n:Int)
   ·have hv0:(0:Int)≤(x:Int):=by omega
    have hv1:(x:Int)< (n:Int):=by omega
    obtain⟨ad,e1,hc1⟩:=Kd.at_int (Kd.C_below HR0.out HB.out) (x:Int) hv0 tO;rw[rd_nth,Int.toNat_natCast]at hc1;have hk:=rowK_range l0 (x+1) tO;have hkd:rowK l0 (x+1)=(IntKind.u64.wrap (nth l0 x)).tmod (2*((x:Int)+1)):=rfl;obtain⟨v,hv⟩: ∃v,nth l0 x=v:=⟨_,rfl⟩;rw[hv]at hc1 hkd;rw[if_pos (by have:=HN.out;omega)]at HAT;obtain⟨kk,hkk⟩: ∃kk,rowK l0 (x+1)=kk:=⟨_,rfl⟩;rw[hkk]at hk hkd HAT HSG;have hkd1:=hkd.symm;have hkd2:IntKind.u64.wrap v % (2*((x:Int)+1))=kk:=by rw[←hkd1,Int.tmod_eq_emod_of_nonneg (u64_nonneg v).1]
    clear hkd;obtain⟨q,hq⟩: ∃q,(kk % 2==1)=q:=⟨_,rfl⟩;have HQ:=Aside0.mk hq;have hw2:IntKind.i64.wrap (2*((x:Int)+1))=2*((x:Int)+1):=iw64 tO tO;have hu2:IntKind.u64.wrap (2*((x:Int)+1))=2*((x:Int)+1):=u64_small tO tO;have hne: ¬(2*((x:Int)+1))=0:=by omega
    have hu3:IntKind.u64.wrap kk=kk:=u64_small hk.1 tO;have hk0:=hk.1;have hk1:kk< 2*((x:Int)+1):=by have:=hk.2;omega
    have hw3:IntKind.i64.wrap kk=kk:=iw64 tO tO;have hw4:IntKind.i64.wrap (kk/2)=kk/2:=iw64 tO tO;have hw5:IntKind.i64.wrap (kk % 2)=kk % 2:=iw64 tO tO;have hat2:kk/2=(at_:Int):=by rw[HAT.out];omega
    subst e1;clear hk hkk hv
    go_upto_if 23 with fail
    go_cut [9,10]from 18 to 42 (fun av sv wc=>wc=wr∧av= .int .i64 (at_:Int)∧sv= .int .i64 sg)
    case first=>
     cases a2 with
     | true=>
      cases q with
      |true=>
       have hsg:sg= -1:=by rw[HSG.out,if_pos ⟨by have:=HN.out;omega,rfl,by have:=HQ.out;simpa using this⟩]
       subst hsg;go_wp2
       go_meet
       case rel=>exact⟨rfl,rfl,rfl⟩
      |false=>
       have hsg:sg=1:=by rw[HSG.out,if_neg (fun h=>by have:=HQ.out;rw[h.2.2]at this;cases this)]
       subst hsg;go_wp2
       go_meet
       case rel=>exact⟨rfl,rfl,rfl⟩
     |false=>
      have hsg:sg=1:=by rw[HSG.out,if_neg (fun h=>by cases h.2.1)]
      subst hsg;go_wp2
      go_meet
      case rel=>exact⟨rfl,rfl,rfl⟩
    case rest=>
     obtain⟨rfl,rfl,rfl⟩:=hcut;have HHN:=Aside0.mk (show at_≤x∧x≤co∧w.heap.size≤wc.heap.size from⟨by omega,hco,HB.out.size⟩);have hwm:IntKind.i64.wrap (sg*((x:Int)+1))=sg*((x:Int)+1):=by rcases hsgr with h|h<;>rw[h]<;>exact iw64 tO tO
     have ha0:(0:Int)≤(at_:Int):=by omega
     have ha1':(at_:Int)≤(co:Int):=by omega
     have ha2:(at_:Int)≤(x:Int):=by omega
     have hpop:=fun W=>cut22 Ao x co at_ tO hco W;have HCT:=Aside0.mk (C_cut HOC.out (show at_≤x by omega) hco);obtain⟨A3,hA3⟩: ∃A3,(if co=at_ then Ao else Ao.map (·.add (at_*1)))=A3:=⟨_,rfl⟩;rw[hA3]at hpop HCT;have HOL:=Aside0.mk (show o.length=x from HOC.out.1);have HTK:=Aside0.mk (C_take HOC.out at_ (show at_≤x by omega));clear hA3
     go_wp2_with ((with_reducible refine gate_builtin (b:= .append) (xs:= #[.tmp 43, .tmp 46]) rfl ?_);at_builtin;refine stopper ?_)
     (try unfold Hold);refine Kd.R_append_rows (Kd.int .i64) (Rr:=fun x cs=>(Kd.int .i64).K wc x cs) (w0:=wc) wc.heap.size rfl (.tmp 43) (.tmp 46) 22 3 (.int .i64 0) 8 rfl Try.underlying22 info3 rfl tD tD (.slice none 0 0) [] (o.take at_) Ao at_ co (fun _=>True) (fun _=>False) rfl rfl (Kd.R_nil _ _ _ _ _) HTK.out (fun x cs h=>h) (fun _ h=>h.elim) (fun _ _=>trivial) (Below.refl _ _) (Nat.le_refl _) (by simp;omega) ?_;intro v1 w1 ho hb hg hat;rw[List.nil_append]at ho;have hl1:(o.take at_).length=at_:=by rw[List.length_take,HOL.out];omega
     obtain⟨A1,c1,ev⟩:=Kd.R_slice ho;rw[hl1]at ev;subst ev;have HO1:=Aside0.mk ho;have HB1:=Aside0.mk hb;have HL1:=Aside0.mk hl1;clear ho hb hg hat hl1
     go_wp2_with ((with_reducible refine gate_builtin (b:= .append) (xs:= #[.tmp 48, .tmp 52]) rfl ?_);at_builtin;refine stopper ?_)
     (try unfold Hold);refine Kd.R_append (Kd.int .i64) (w0:=w1) wc.heap.size rfl (.tmp 48) (.tmp 52) 22 3 (.int .i64 0) 8 rfl Try.underlying22 info3 rfl tD tD (.slice A1 at_ c1) (o.take at_) (sg*((x:Int)+1)) [.int .i64 (sg*((x:Int)+1))] (fun _=>True) (fun k=>some k≠(Value.slice A1 at_ c1).ownBlock) rfl rfl rfl (fun k h=>⟨trivial,h⟩) (fun k hk=>trivial) HO1.out (Below.refl _ _) HB1.out.size (by rw[HL1.out];omega) ?_;intro v2 w2 ho hb hg hat;have hl2:(o.take at_++ [sg*((x:Int)+1)]).length=at_+1:=by rw[List.length_append,HL1.out];rfl
     obtain⟨A2,c2,ev⟩:=Kd.R_slice ho;rw[hl2]at ev;subst ev;have HO2:=Aside0.mk ho;have HB2:=Aside0.mk (HB1.out.trans hb);have HL2:=Aside0.mk hl2;clear ho hb hg hat hl2
     go_wp2_with ((with_reducible refine gate_builtin (b:= .append) (xs:= #[.tmp 54, .tmp 57]) rfl ?_);at_builtin;refine stopper ?_)
     (try unfold Hold);refine Kd.R_append_rows (Kd.int .i64) (Rr:=fun x cs=>(Kd.int .i64).K w2 x cs) (w0:=w2) wc.heap.size rfl (.tmp 54) (.tmp 57) 22 3 (.int .i64 0) 8 rfl Try.underlying22 info3 rfl tD tD (.slice A2 (at_+1) c2) (o.take at_++ [sg*((x:Int)+1)]) (o.drop at_) A3 (x - at_) (co - at_) (fun _=>True) (fun k=>some k≠(Value.slice A2 (at_+1) c2).ownBlock) rfl rfl HO2.out (Kd.C_below HCT.out HB2.out) (fun x cs h=>h) (fun k h=>⟨trivial,h⟩) (fun _ _=>trivial) (Below.refl _ _) HB2.out.size (by rw[HL2.out];omega) ?_;intro v3 w3 ho hb hg hat;have HO3:=Aside0.mk ho;have HB3:=Aside0.mk (HB2.out.trans hb);clear ho hb hg hat hpop;go_wp2
     go_roundw
     case rel=>exact⟨x+1,hxn,rfl,⟨by rw[HST.out];exact Kd.R_lower HO3.out HHN.out.2.2⟩,⟨HB.out.trans (HB3.out.mono HHN.out.2.2)⟩⟩
     case measure=>simp[intOf];omega
   ·rw[if_neg (by have:=HN.out;omega)]at HAT;rw[if_neg (fun h=>by have:=HN.out;have:=h.1;omega)]at HSG;have hae:=HAT.out.symm;have hse:=HSG.out.symm;subst hae;subst hse;obtain⟨wc,hwc⟩: ∃z,z=wr:=⟨_,rfl⟩;subst hwc;have HHN:=Aside0.mk (show x≤x∧x≤co∧w.heap.size≤wc.heap.size from⟨by omega,hco,HB.out.size⟩);have hwm:IntKind.i64.wrap ((x:Int)+1)=(x:Int)+1:=by exact iw64 tO tO
    have ha0:(0:Int)≤(x:Int):=by omega
    have ha1':(x:Int)≤(co:Int):=by omega
    have ha2:(x:Int)≤(x:Int):=by omega
    have hpop:=fun W=>cut22 Ao x co x tO hco W;have HCT:=Aside0.mk (C_cut HOC.out (show x≤x by omega) hco);obtain⟨A3,hA3⟩: ∃A3,(if co=x then Ao else Ao.map (·.add (x*1)))=A3:=⟨_,rfl⟩;rw[hA3]at hpop HCT;rw[Nat.sub_self]at HCT;have HOL:=Aside0.mk (show o.length=x from HOC.out.1);have HTK:=Aside0.mk (C_take HOC.out x (show x≤x by omega));clear hA3
    go_wp2_with ((with_reducible refine gate_builtin (b:= .append) (xs:= #[.tmp 43, .tmp 46]) rfl ?_);at_builtin;refine stopper ?_)
    (try unfold Hold);refine Kd.R_append_rows (Kd.int .i64) (Rr:=fun x cs=>(Kd.int .i64).K wc x cs) (w0:=wc) wc.heap.size rfl (.tmp 43) (.tmp 46) 22 3 (.int .i64 0) 8 rfl Try.underlying22 info3 rfl tD tD (.slice none 0 0) [] (o.take x) Ao x co (fun _=>True) (fun _=>False) rfl rfl (Kd.R_nil _ _ _ _ _) HTK.out (fun x cs h=>h) (fun _ h=>h.elim) (fun _ _=>trivial) (Below.refl _ _) (Nat.le_refl _) (by simp;omega) ?_;intro v1 w1 ho hb hg hat;rw[List.nil_append]at ho;have hl1:(o.take x).length=x:=by rw[List.length_take,HOL.out];omega
    obtain⟨A1,c1,ev⟩:=Kd.R_slice ho;rw[hl1]at ev;subst ev;have HO1:=Aside0.mk ho;have HB1:=Aside0.mk hb;have HL1:=Aside0.mk hl1;clear ho hb hg hat hl1
    go_wp2_with ((with_reducible refine gate_builtin (b:= .append) (xs:= #[.tmp 48, .tmp 52]) rfl ?_);at_builtin;refine stopper ?_)
    (try unfold Hold);refine Kd.R_append (Kd.int .i64) (w0:=w1) wc.heap.size rfl (.tmp 48) (.tmp 52) 22 3 (.int .i64 0) 8 rfl Try.underlying22 info3 rfl tD tD (.slice A1 x c1) (o.take x) ((x:Int)+1) [.int .i64 ((x:Int)+1)] (fun _=>True) (fun k=>some k≠(Value.slice A1 x c1).ownBlock) rfl rfl rfl (fun k h=>⟨trivial,h⟩) (fun k hk=>trivial) HO1.out (Below.refl _ _) HB1.out.size (by rw[HL1.out];omega) ?_;intro v2 w2 ho hb hg hat;have hl2:(o.take x++ [(x:Int)+1]).length=x+1:=by rw[List.length_append,HL1.out];rfl
    obtain⟨A2,c2,ev⟩:=Kd.R_slice ho;rw[hl2]at ev;subst ev;have HO2:=Aside0.mk ho;have HB2:=Aside0.mk (HB1.out.trans hb);have HL2:=Aside0.mk hl2;clear ho hb hg hat hl2
    go_wp2_with ((with_reducible refine gate_builtin (b:= .append) (xs:= #[.tmp 54, .tmp 57]) rfl ?_);at_builtin;refine stopper ?_)
    (try unfold Hold);refine Kd.R_append_rows (Kd.int .i64) (Rr:=fun x cs=>(Kd.int .i64).K w2 x cs) (w0:=w2) wc.heap.size rfl (.tmp 54) (.tmp 57) 22 3 (.int .i64 0) 8 rfl Try.underlying22 info3 rfl tD tD (.slice A2 (x+1) c2) (o.take x++ [(x:Int)+1]) (o.drop x) A3 0 (co - x) (fun _=>True) (fun k=>some k≠(Value.slice A2 (x+1) c2).ownBlock) rfl rfl HO2.out (Kd.C_below HCT.out HB2.out) (fun x cs h=>h) (fun k h=>⟨trivial,h⟩) (fun _ _=>trivial) (Below.refl _ _) HB2.out.size (by rw[HL2.out];omega) ?_;intro v3 w3 ho hb hg hat;have HO3:=Aside0.mk ho;have HB3:=Aside0.mk (HB2.out.trans hb);clear ho hb hg hat hpop;go_wp2
    go_roundw
    case rel=>exact⟨x+1,hxn,rfl,⟨by rw[HST.out,Int.one_mul];exact Kd.R_lower HO3.out HHN.out.2.2⟩,⟨HB.out.trans (HB3.out.mono HHN.out.2.2)⟩⟩
    case measure=>simp[intOf];omega
  ·have hgt: ¬(x:Int)+1≤a1:=hlt;have HXN:=Aside0.mk (show x=a1.toNat by omega);go_wp2;go_ret;exact⟨_,rfl,by rw[←HXN.out];exact HO.out,HB.out⟩
end Go.Proofs.Ytepjhdblmghckaa.G
namespace Go.Proofs.Ytepjhdblmghckaa.G
open Go.Proofs.Ytepjhdblmghckaa.Q Go.Proofs.Ytepjhdblmghckaa.K Go.Proofs.Ytepjhdblmghckaa.Bf
open Go.RowKit Go.Shelf Go.Proofs.YtepjhdblmghckaaW.PrintWords Go.Proofs.YtepjhdblmghckaaW.PrintLast Go.Proofs.YtepjhdblmghckaaW.PrintMore
theorem isL_nz (sg:Bool) (n:Nat): ∀(l:List Int) (seen:Nat→Bool),isL sg n l seen=true→ ∀x,x∈l→x≠0∧ -(n:Int)≤x∧x≤n
 | [],_,_,x,hx=>by cases hx
 | y::r,seen,h,x,hx=>by
  rw[isL]at h
  split at h
  ·cases h
  ·rename_i hn
   rcases List.mem_cons.1 hx with rfl|hx
   ·have h1: ¬absS sg n x< 1:=fun e=>hn (.inl e);have h2: ¬(n:Int)< absS sg n x:=fun e=>hn (.inr (.inl e));unfold absS at h1 h2
    split at h1<;>omega
   ·exact isL_nz sg n r _ h x hx
def pic1 (x:Int):List Int:=if x>0 then [2*x - 1,2*x]else [-2*x, -2*x - 1]
def picTo (s:List Int):List Int:=0::s.flatMap pic1
def picL (s:List Int):List Int:=picTo s++ [2*(s.length:Int)+1]
theorem picTo_len (s:List Int):(picTo s).length=1+2*s.length:=by
 unfold picTo;rw[List.length_cons,List.length_flatMap]
 have:s.map (fun x=>(pic1 x).length)=List.replicate s.length 2:=by
  rw[List.eq_replicate_iff];refine⟨by simp,fun b hb=>?_⟩;obtain⟨x,_,rfl⟩:=List.mem_map.1 hb;unfold pic1;split<;>rfl
 rw[this,List.sum_replicate_nat];omega
theorem picTo_step (s:List Int) (k:Nat) (h:k< s.length):picTo (s.take k)++pic1 (nth s k)=picTo (s.take (k+1)):=by
 unfold picTo;rw[List.take_succ_eq_append_getElem h,List.flatMap_append,List.cons_append];congr 2;simp[nth,h]
theorem two_lit (W:World) (a b:Int):ReadsRow (fun x cs=>(Kd.int .i64).M (W.alloc (.cells #[.int .i64 a, .int .i64 b] 3)) 0 (fun _=>False) x cs) (Kd.int .i64).sz (W.alloc (.cells #[.int .i64 a, .int .i64 b] 3)) (some ⟨W.heap.size,0,none⟩) 2 [a,b]:=by
 have hb:=Blk.new W #[.int .i64 a, .int .i64 b] 3;refine⟨rfl,by omega,fun _=>⟨_,rfl,fun j p hj=>?_⟩⟩
 match j,hj with
 |0,hj=>cases hj;exact⟨[.int .i64 a],rfl,rfl,fun i u hu=>by match i,hu with|0,hu=>cases hu;exact hb.cell 0 rfl|i+1,hu=>simp at hu⟩
 |1,hj=>cases hj;exact⟨[.int .i64 b],rfl,rfl,fun i u hu=>by match i,hu with|0,hu=>cases hu;exact hb.cell 1 rfl|i+1,hu=>simp at hu⟩
 |j+2,hj=>simp at hj
theorem one_lit (W:World) (a:Int) (base:Nat) (ok:Nat→Prop) (hb:base≤W.heap.size) (hok:ok W.heap.size):Kd.R (Kd.int .i64) 3 (W.alloc (.cells #[.int .i64 a] 3)) base ok (.slice (some ⟨W.heap.size,0,none⟩) 1 1) [a]:=by
 refine Kd.R_of_own ?_ (fun k hk=>?_)
 ·exact World.ownsRow_lit (base:=base) (e:=3) (size:=1) W #[.int .i64 a] 1 hb tD rfl
 ·have:W.heap.size=k:=by simpa [Value.ownBlock]using hk
  rw[←this];exact hok
def plTo (p:List Int) (k:Nat):List Int:=(List.range k).foldl (fun P (at_:Nat)=>P.set (nth p at_).toNat (at_:Int)) (List.replicate p.length 0)
theorem plTo_step (p:List Int) (k:Nat):plTo p (k+1)=(plTo p k).set (nth p k).toNat (k:Int):=by
 unfold plTo;rw[List.range_succ,List.foldl_append];rfl
theorem plTo_len (p:List Int) (k:Nat):(plTo p k).length=p.length:=by
 induction k with
 |zero=>simp[plTo]
 |succ k ih=>rw[plTo_step,List.length_set,ih]
def plL (s:List Int):List Int:=plTo (picL s) (picL s).length
theorem picL_len (s:List Int):(picL s).length=2*s.length+2:=by
 unfold picL;rw[List.length_append,picTo_len];simp;omega
theorem picL_range (s:List Int) (h: ∀x,x∈s→x≠0∧ -(s.length:Int)≤x∧x≤s.length): ∀p,0≤nth (picL s) p∧nth (picL s) p< 2*(s.length:Int)+2:=by
 have hall: ∀y,y∈picL s→0≤y∧y< 2*(s.length:Int)+2:=fun y hy=>by
  unfold picL picTo at hy;rcases List.mem_append.1 hy with hy|hy
  ·rcases List.mem_cons.1 hy with rfl|hy
   ·omega
   ·obtain⟨x,hx,hy⟩:=List.mem_flatMap.1 hy;have:=h x hx;unfold pic1 at hy
    split at hy<;>simp at hy<;>omega
  ·simp at hy;omega
 intro p;by_cases hp:p< (picL s).length
 ·have:=hall ((picL s).getD p 0) (by rw[List.getD_eq_getElem?_getD,List.getElem?_eq_getElem hp];exact List.getElem_mem hp);exact this
 ·rw[nth_end _ _ tO];omega
def PicOk (base b:Nat) (s:List Int) (W:World):Prop:=
 ∃A c A2 c2,Blk W b #[.slice A (2*s.length+2) c, .slice A2 (2*s.length+2) c2] 96∧
  Kd.R (Kd.int .i64) 3 W base (fun j=>j≠b) (.slice A (2*s.length+2) c) (picL s)∧
  Kd.R (Kd.int .i64) 3 W base (fun j=>j≠b∧some j≠(Value.slice A (2*s.length+2) c).ownBlock) (.slice A2 (2*s.length+2) c2) (plL s)
structure PicI (w:World) (s:List Int) (k:Nat) (v:Value) (W:World):Prop where
 blk:Blk W (w.heap.size+1) #[v, .slice none 0 0] 96
 row:Kd.R (Kd.int .i64) 3 W w.heap.size (fun j=>j≠w.heap.size+1) v (picTo (s.take k))
 below:Below w.heap.size w W
set_option maxRecDepth 100000 in
set_option maxHeartbeats 8000000 in
theorem pictured_calls (A0:Option Addr) (c0:Nat) (s:List Int) (w:World) (hr0:Kd.C (Kd.int .i64) w A0 s.length s) (hs:s.length≤40) (hm0: ∀x,x∈s→x≠0∧ -(s.length:Int)≤x∧x≤s.length):
  Calls Try.prog 60 #[.slice A0 s.length c0] w fun e w'=>e= .returned (.pointer (some ⟨w.heap.size+1,0,none⟩))∧PicOk w.heap.size (w.heap.size+1) s w'∧Below w.heap.size w w':=by
 have hm: ∀x,x∈s→ -100≤x∧x≤100:=fun x hx=>by have:=hm0 x hx;omega
 have HPT:=Aside0.mk (picL_range s hm0);have HC:=Aside0.mk hr0;have HM:=Aside0.mk hm;obtain⟨n,hn⟩: ∃n,s.length=n:=⟨_,rfl⟩;rw[hn]at hs ⊢;have HN:=Aside0.mk hn;clear hr0 hm hn;have hL:=one_lit w 0 w.heap.size (fun j=>j≠w.heap.size+1) (Nat.le_refl _) tO
 have HI0:=Aside0.mk (show PicI w s 0 (.slice (some ⟨w.heap.size,0,none⟩) 1 1) ((w.alloc (.cells #[.int .i64 0] 3)).alloc (.cells #[.slice (some ⟨w.heap.size,0,none⟩) 1 1, .slice none 0 0] 96))from
  ⟨by
   have:=Blk.new (w.alloc (.cells #[.int .i64 0] 3)) #[.slice (some ⟨w.heap.size,0,none⟩) 1 1, .slice none 0 0] 96;rw[World.size_alloc]at this
   exact this,Kd.R_alloc hL _,((Below.refl _ w).alloc (Nat.le_refl _) _).alloc tS _⟩)
 clear hL
 go_enter Try.func60,Try.ntmps60
 go_wp2
 go_loopw [13] (fun i wr=> ∃(k:Nat) (v:Value),k≤n∧i= .int .i64 (k:Int)∧Aside0 (PicI w s k v wr)) (fun i _=>n - (intOf i).toNat)
 case atStart=>exact⟨0,_,Nat.zero_le _,rfl,HI0⟩
 case round=>
  obtain⟨k,v,hk,rfl,HI⟩:=hrel;by_cases hlt:k< n
  ·have hi0:(0:Int)≤(k:Int):=by omega
   have hi1:(k:Int)< (n:Int):=by omega
   obtain⟨ad',e,hc⟩:=Kd.at_int (Kd.C_below HC.out HI.out.below) (k:Int) hi0 (by have:=HN.out;omega);cases e;rw[rd_nth,Int.toNat_natCast]at hc;have hx:=nth_mem (B:=100) tD HM.out k;have HST:=Aside0.mk (picTo_step s k (by rw[HN.out];exact hlt));obtain⟨x,hxe⟩: ∃x,nth s k=x:=⟨_,rfl⟩;rw[hxe]at hc hx HST;have hwt:IntKind.i64.wrap ((k:Int)+1)=((k+1:Nat):Int):=by rw[iw64 tO tO];omega
   have hv:=HI.out.blk.cell 0 (v:=v) rfl;have hf:=HI.out.blk.free 0;have HLB:=Aside0.mk HI.out.blk.lt;obtain⟨xs,hxs⟩: ∃xs,picTo (s.take k)=xs:=⟨_,rfl⟩;have hxl:xs.length=1+2*k:=by rw[←hxs,picTo_len,List.length_take];have:=HN.out;omega
   have HR:=Aside0.mk HI.out.row;have HB:=Aside0.mk HI.out.blk;have HW:=Aside0.mk HI.out.below;rw[hxs]at HR HST;have HXL:=Aside0.mk hxl;clear hxe hxs hxl HI;by_cases hpos:x>0
   ·have hw2:IntKind.i64.wrap (2*x)=2*x:=iw64 tO tO;have hw3:IntKind.i64.wrap (2*x - 1)=2*x - 1:=iw64 tO tO;have HP:=Aside0.mk (show pic1 x= [2*x - 1,2*x]from if_pos hpos);clear hx
    go_wp2_with ((with_reducible refine gate_builtin (b:= .append) (xs:= #[.tmp 23, .tmp 29]) rfl ?_);at_builtin;refine stopper ?_)
    unfold Hold;refine Kd.R_append_rows (Kd.int .i64) (Rr:=fun x cs=>(Kd.int .i64).M (wr.alloc (.cells #[.int .i64 (2*x - 1), .int .i64 (2*x)] 3)) 0 (fun _=>False) x cs) (w0:=w) w.heap.size rfl (.tmp 23) (.tmp 29) 22 3 (.int .i64 0) 8 rfl Try.underlying22 info3 rfl tD tD v xs [2*x - 1,2*x] (some ⟨wr.heap.size,0,none⟩) 2 2 (fun j=>j≠w.heap.size+1) (fun _=>False) rfl rfl (Kd.R_alloc HR.out _) (two_lit wr _ _) (fun x cs h=>h) (fun _ h=>h.elim) (fun k hk=>by have:=HLB.out;rw[World.size_alloc]at hk;omega) (HW.out.alloc HW.out.size _) (by have:=HW.out.size;rw[World.size_alloc];omega) (by have:=HXL.out;omega) ?_;intro v1 wy ho hb hg hat;rw[←HP.out,HST.out]at ho;have hne:v.ownBlock≠some (w.heap.size+1):=fun e=>HR.out.1 _ e rfl;have hbk:Blk wy (w.heap.size+1) #[v, .slice none 0 0] 96:=(HB.out.alloc _).grown hg hne;obtain⟨A1,c1,ev⟩:=Kd.R_slice ho;subst ev;have hv2:=hbk.cell 0 (v:=v) rfl;have hf2:=hbk.free 0;have HBK:=Aside0.mk hbk;have HO:=Aside0.mk ho;have HWY:=Aside0.mk hb;clear ho hb hg hat hne hbk hv hf hc HR HB HW;generalize hlen:(picTo (List.take (k+1) s)).length=ln at*;go_wp2
    go_roundw
    case rel=>exact⟨k+1,_,by omega,rfl,⟨HBK.out.set 0 _,by rw[←hlen];rw[←hlen]at HO;exact Kd.R_far HO.out (fun j hj=>hj) _,HWY.out.setCell tS _⟩⟩
    case measure=>simp[intOf];omega
   ·have hw2:IntKind.i64.wrap (-2*x)= -2*x:=iw64 tO tO;have hw3:IntKind.i64.wrap (-2*x - 1)= -2*x - 1:=iw64 tO tO;have HP:=Aside0.mk (show pic1 x= [-2*x, -2*x - 1]from if_neg hpos);clear hx
    go_wp2_with ((with_reducible refine gate_builtin (b:= .append) (xs:= #[.tmp 37, .tmp 43]) rfl ?_);at_builtin;refine stopper ?_)
    unfold Hold;refine Kd.R_append_rows (Kd.int .i64) (Rr:=fun x cs=>(Kd.int .i64).M (wr.alloc (.cells #[.int .i64 (-2*x), .int .i64 (-2*x - 1)] 3)) 0 (fun _=>False) x cs) (w0:=w) w.heap.size rfl (.tmp 37) (.tmp 43) 22 3 (.int .i64 0) 8 rfl Try.underlying22 info3 rfl tD tD v xs [-2*x, -2*x - 1] (some ⟨wr.heap.size,0,none⟩) 2 2 (fun j=>j≠w.heap.size+1) (fun _=>False) rfl rfl (Kd.R_alloc HR.out _) (two_lit wr _ _) (fun x cs h=>h) (fun _ h=>h.elim) (fun k hk=>by have:=HLB.out;rw[World.size_alloc]at hk;omega) (HW.out.alloc HW.out.size _) (by have:=HW.out.size;rw[World.size_alloc];omega) (by have:=HXL.out;omega) ?_;intro v1 wy ho hb hg hat;rw[←HP.out,HST.out]at ho;have hne:v.ownBlock≠some (w.heap.size+1):=fun e=>HR.out.1 _ e rfl;have hbk:Blk wy (w.heap.size+1) #[v, .slice none 0 0] 96:=(HB.out.alloc _).grown hg hne;obtain⟨A1,c1,ev⟩:=Kd.R_slice ho;subst ev;have hv2:=hbk.cell 0 (v:=v) rfl;have hf2:=hbk.free 0;have HBK:=Aside0.mk hbk;have HO:=Aside0.mk ho;have HWY:=Aside0.mk hb;clear ho hb hg hat hne hbk hv hf hc HR HB HW;generalize hlen:(picTo (List.take (k+1) s)).length=ln at*;go_wp2
    go_roundw
    case rel=>exact⟨k+1,_,by omega,rfl,⟨HBK.out.set 0 _,by rw[←hlen];rw[←hlen]at HO;exact Kd.R_far HO.out (fun j hj=>hj) _,HWY.out.setCell tS _⟩⟩
    case measure=>simp[intOf];omega
  ·have hi1: ¬(k:Int)< (n:Int):=by omega
   have HKN:=Aside0.mk (show k=n by omega);have HR0:=HI.out.row;rw[List.take_of_length_le (by have:=HN.out;have:=HKN.out;omega)]at HR0;have hv:=HI.out.blk.cell 0 (v:=v) rfl;have hf:=HI.out.blk.free 0;have HLB:=Aside0.mk HI.out.blk.lt;have HR:=Aside0.mk HR0;have HB:=Aside0.mk HI.out.blk;have HW:=Aside0.mk HI.out.below;have hw2:IntKind.i64.wrap (2*(n:Int))=2*(n:Int):=iw64 tO tO;have hw3:IntKind.i64.wrap (2*(n:Int)+1)=2*(n:Int)+1:=iw64 tO tO;have HXL:=Aside0.mk (picTo_len s);have HPL:=Aside0.mk (show picTo s++ [2*(n:Int)+1]=picL s by unfold picL;rw[HN.out]);clear HR0 HI
   go_wp2_with ((with_reducible refine gate_builtin (b:= .append) (xs:= #[.tmp 52, .tmp 57]) rfl ?_);at_builtin;refine stopper ?_)
   unfold Hold;refine Kd.R_append (Kd.int .i64) (w0:=w) w.heap.size rfl (.tmp 52) (.tmp 57) 22 3 (.int .i64 0) 8 rfl Try.underlying22 info3 rfl tD tD v (picTo s) (2*(n:Int)+1) [.int .i64 (2*(n:Int)+1)] (fun j=>j≠w.heap.size+1) (fun j=>j≠w.heap.size+1∧some j≠v.ownBlock) rfl rfl rfl (fun k h=>h) (fun k hk=>by have:=HLB.out;omega) HR.out HW.out HW.out.size (by have:=HXL.out;have:=HN.out;omega) ?_;intro v1 wy ho hb hg hat;rw[HPL.out]at ho;have hne:v.ownBlock≠some (w.heap.size+1):=fun e=>HR.out.1 _ e rfl;have hbk:Blk wy (w.heap.size+1) #[v, .slice none 0 0] 96:=HB.out.grown hg hne;obtain⟨A1,c1,ev⟩:=Kd.R_slice ho;subst ev;have hv2:=hbk.cell 0 (v:=v) rfl;have hf2:=hbk.free 0;have hv3:=hbk.cell 1 (v:= .slice none 0 0) rfl;have hf3:=hbk.free 1;have HBK:=Aside0.mk hbk;have HWY:=Aside0.mk hb;obtain⟨pl,hpl⟩: ∃pl,picL s=pl:=⟨_,rfl⟩;have hln:pl.length=2*n+2:=by rw[←hpl,picL_len,HN.out]
   rw[hpl,hln]at ho;have HO:=Aside0.mk ho;rw[hpl,hln];have HPE:=Aside0.mk hpl;have HLN:=Aside0.mk hln;clear ho hb hg hat hne hbk hv hf HR HB HW hpl hln
   go_upto_region 10 with fail
   obtain⟨Wz,hWz⟩: ∃Wz,wy.setCell ⟨w.heap.size+1,0,none⟩ (.slice A1 (2*n+2) c1)=Wz:=⟨_,rfl⟩;have hbz:Blk Wz (w.heap.size+1) #[.slice A1 (2*n+2) c1, .slice none 0 0] 96:=by rw[←hWz];exact HBK.out.set 0 _
   have hrz:Kd.R (Kd.int .i64) 3 Wz w.heap.size (fun j=>j≠w.heap.size+1) (.slice A1 (2*n+2) c1) pl:=by rw[←hWz];exact Kd.R_far HO.out (fun j hj=>hj) _
   have hwz:Below w.heap.size w Wz:=by rw[←hWz];exact HWY.out.setCell tS _
   have hv:=hbz.cell 0 (v:= .slice A1 (2*n+2) c1) rfl;have hv4:=hbz.cell 1 (v:= .slice none 0 0) rfl;have hf4:=hbz.free 1;have hlz:=hbz.lt;have HBZ:=Aside0.mk hbz;have HRZ:=Aside0.mk hrz;have HWZ:=Aside0.mk hwz;(try rw[hWz]);clear hWz hbz hrz hwz HBK HO HWY hv2 hf2 hv3 hf3
   go_wp2_with (at_make;refine stopper ?_)
   unfold Hold
   refine Kd.R_make (Kd.int .i64) (w0:=w) w.heap.size 3 rfl (N:=67) rfl 22 (.tmp 66) (.tmp 66) rfl ((2*n+2:Nat):Int) (by first|rfl|simp) (by first|rfl|simp) Try.underlying22 (.int .i64 0) 8 info3 rfl tD tD (0:Int) (ok:=fun j=>j≠w.heap.size+1∧some j≠(Value.slice A1 (2*n+2) c1).ownBlock) (okp:=fun _=>False) rfl (fun _ h=>h.elim) ⟨by omega,fun e=>by
    have h:=(Kd.R_bound HRZ.out).1 _ e.symm;have:=h.2.2.1
    omega⟩ tO tO HWZ.out HWZ.out.size ?_
   intro v2 wm ho hb hg hat;rw[Int.toNat_natCast]at ho;have hown:=Kd.own_of_R ho;rcases hown.2 with⟨_,h0⟩|⟨g,cap,cur,rfl,hgb,_⟩
   ·simp at h0
   rw[List.length_replicate]at ho;have hgok:=ho.1 g rfl;have hbm:Blk wm (w.heap.size+1) #[.slice A1 (2*n+2) c1, .slice none 0 0] 96:=HBZ.out.grown hg tS
   have hrm:Kd.R (Kd.int .i64) 3 wm w.heap.size (fun j=>j≠w.heap.size+1∧j≠g) (.slice A1 (2*n+2) c1) pl:=by
    have h1:=Kd.R_step HRZ.out (w1:=wm) (fun j _ hj=>hg.block j hj tS);exact Kd.R_of_own (by exact Kd.own_of_R h1) (fun j hj=>⟨h1.1 j hj,fun e=>hgok.2 (by rw[hj,e])⟩)
   have hv5:=hbm.cell 0 (v:= .slice A1 (2*n+2) c1) rfl;have hv6:=hbm.cell 1 (v:= .slice none 0 0) rfl;have hf6:=hbm.free 1;have HBM:=Aside0.mk hbm;have HRM:=Aside0.mk hrm;have HWM:=Aside0.mk hb;have HQM:=Aside0.mk ho;have HGK:=Aside0.mk hgok;have HGB:=Aside0.mk hgb;simp only[List.length_replicate];clear ho hb hg hat hown hgok hbm hrm hgb hv hv4 hf4 hlz HBZ HRZ HWZ;go_wp2;obtain⟨Wl,hWl⟩: ∃Wl,wm.setCell ⟨w.heap.size+1,1,none⟩ (.slice (some ⟨g,0,none⟩) (2*n+2) cap)=Wl:=⟨_,rfl⟩;have hne2:g≠w.heap.size+1:=HGK.out.1;have HBL:=Aside0.mk (show Blk Wl (w.heap.size+1) #[.slice A1 (2*n+2) c1, .slice (some ⟨g,0,none⟩) (2*n+2) cap] 96 by rw[←hWl];exact HBM.out.set 1 _);have HRL:=Aside0.mk (show Kd.R (Kd.int .i64) 3 Wl w.heap.size (fun j=>j≠w.heap.size+1∧j≠g) (.slice A1 (2*n+2) c1) pl by rw[←hWl];exact Kd.R_far HRM.out (fun j hj=>hj.1) _)
   have HQL:=Aside0.mk (show Kd.R (Kd.int .i64) 3 Wl w.heap.size (fun j=>j≠w.heap.size+1∧some j≠(Value.slice A1 (2*n+2) c1).ownBlock) (.slice (some ⟨g,0,none⟩) (2*n+2) cap) (plTo pl 0)by
    rw[←hWl,show plTo pl 0=List.replicate (2*n+2) 0 by unfold plTo;rw[HLN.out];rfl]
    exact Kd.R_far HQM.out (fun j hj=>hj.1) _)
   have HWL:=Aside0.mk (show Below w.heap.size w Wl by rw[←hWl];exact HWM.out.setCell tS _);have HPT2:=Aside0.mk (show ∀q,0≤nth pl q∧nth pl q< 2*(n:Int)+2 by rw[←HPE.out,←HN.out];exact HPT.out);(try rw[hWl]);clear hWl HBM HRM HQM HWM hv5 hv6 hf6
   go_loopw [75] (fun i wl=> ∃j:Nat,j≤2*n+2∧i= .int .i64 (j:Int)∧Aside0 (Blk wl (w.heap.size+1) #[.slice A1 (2*n+2) c1, .slice (some ⟨g,0,none⟩) (2*n+2) cap] 96)∧Aside0 (Kd.R (Kd.int .i64) 3 wl w.heap.size (fun j=>j≠w.heap.size+1∧j≠g) (.slice A1 (2*n+2) c1) pl)∧Aside0 (Kd.R (Kd.int .i64) 3 wl w.heap.size (fun j=>j≠w.heap.size+1∧some j≠(Value.slice A1 (2*n+2) c1).ownBlock) (.slice (some ⟨g,0,none⟩) (2*n+2) cap) (plTo pl j))∧Aside0 (Below w.heap.size w wl)) (fun i _=>2*n+2 - (intOf i).toNat)
   case atStart=>exact⟨0,Nat.zero_le _,rfl,HBL,HRL,HQL,HWL⟩
   case round=>
    obtain⟨j,hj,rfl,HB,HR,HQ,HW⟩:=hrel;by_cases hjl:j< 2*n+2
    ·have hi0:(0:Int)≤(j:Int):=by omega
     have hi1:(j:Int)< 2*(n:Int)+2:=by omega
     obtain⟨ad',e,hc⟩:=Kd.at_int (Kd.R_reads' HR.out).2.2 (j:Int) hi0 (by have:=HLN.out;omega);rw[rd_nth,Int.toNat_natCast]at hc;have hx:=HPT2.out j;have HPS:=Aside0.mk (plTo_step pl j);obtain⟨x,hxe⟩: ∃x,nth pl j=x:=⟨_,rfl⟩;rw[hxe]at hc hx HPS;obtain⟨xn,rfl⟩:=Int.eq_ofNat_of_zero_le hx.1;have hx1:=hx.2;have hx0:=hx.1;have hwt:IntKind.i64.wrap ((j:Int)+1)=((j+1:Nat):Int):=by rw[iw64 tO tO];omega
     have hlp:(plTo pl j).length=2*n+2:=by rw[plTo_len,HLN.out]
     have hq:=HQ.out;rw[←hlp]at hq;obtain⟨hg1,hg2⟩:=Kd.R_cell (0:Int) hq (xn:Int) hx0 (by rw[hlp];omega);rw[Int.toNat_natCast]at hg1 hg2;have hp0:=HB.out.cell 0 (v:= .slice A1 (2*n+2) c1) rfl;have hp1:=HB.out.cell 1 (v:= .slice (some ⟨g,0,none⟩) (2*n+2) cap) rfl;subst e;clear hxe hx hlp hq;go_wp2
     go_roundw
     case rel=>exact⟨j+1,by omega,rfl,⟨HB.out.setOther (fun e=>hne2 e.symm) _⟩,⟨Kd.R_far HR.out (fun k hk=>hk.2) _⟩,⟨by rw[HPS.out];exact Kd.R_putn HQ.out (xn:Int) (j:Int)⟩,⟨HW.out.setCell (by have:=HGB.out;simpa using this) _⟩⟩
     case measure=>simp[intOf];omega
    ·have hi1: ¬(j:Int)< 2*(n:Int)+2:=by omega
     have HJN:=Aside0.mk (show j=2*n+2 by omega);go_wp2;go_ret;refine⟨rfl,⟨A1,c1,some ⟨g,0,none⟩,cap,?_⟩,HW.out⟩;rw[HN.out,HPE.out];refine⟨HB.out,Kd.R_mono HR.out (fun k hk=>hk.1),?_⟩;have h1:=HQ.out;rw[HJN.out]at h1;unfold plL;rw[HPE.out,HLN.out];exact h1
theorem isSt_range {sg:Bool} {most:Int} {l:List Int} (h:isSt sg most l=true): ∀x,x∈l→x≠0∧ -(l.length:Int)≤x∧x≤l.length:=by
 unfold isSt at h
 split at h
 ·cases h
 ·exact isL_nz sg l.length l _ h
end Go.Proofs.Ytepjhdblmghckaa.G
namespace Go.Proofs.Ytepjhdblmghckaa.G
open Go.Proofs.Ytepjhdblmghckaa.Q Go.Proofs.Ytepjhdblmghckaa.K Go.Proofs.Ytepjhdblmghckaa.Bf
open Go.RowKit Go.Shelf Go.Sort Go.Proofs.YtepjhdblmghckaaW.PrintWords Go.Proofs.YtepjhdblmghckaaW.PrintLast Go.Proofs.YtepjhdblmghckaaW.PrintMore
def sortL (l:List Int):List Int:=l.mergeSort fun x y=>decide (x≤y)
theorem sortL_len (l:List Int):(sortL l).length=l.length:=List.length_mergeSort _
theorem xor_one: ∀a:Nat,a< 128→bits .xor .i64 (a:Int) 1=((a ^^^ 1:Nat):Int):=by decide+kernel
theorem sortR_calls {W:World} {base:Nat} {ok:Nat→Prop} {v:Value} {l:List Int} (h:Kd.R (Kd.int .i64) 3 W base ok v l) (hl:0< l.length) (hn:l.length≤1000000):
  Calls Try.prog 81 #[v] W fun e w'=>e= .returned (.tuple #[])∧Kd.R (Kd.int .i64) 3 w' base ok v (sortL l)∧Below base W w':=by
 have ho:=Kd.own_of_R h;rcases ho.2 with⟨_,h0⟩|⟨g,cap,cur,rfl,hb,hh,hnc,hcm,hsz,htake⟩
 ·omega
 ·have hcs: ∀p,p< l.length→cur[p]? =some (.int .i64 (nth l p)):=fun p hp=>by
   have h1:=congrArg (fun z=>z[p]?) htake;simp only[Nat.mul_one]at h1;rw[List.getElem?_take,if_pos hp]at h1;rw[←Array.getElem?_toList,h1];unfold encs;rw[List.getElem?_map,List.getElem?_eq_getElem hp];simp[nth,hp]
  have hblk:Blk W g cur 3:=hh
  have hH:Holds (Value.int .i64) W g 0 l.toArray:=fun p hp=>by
   have hp':p< l.length:=by simpa using hp
   have e:l.toArray[p]! =nth l p:=by
    rw[getElem!_pos l.toArray p hp];simp[nth,hp']
   rw[e,Nat.zero_add];exact⟨hblk.cell p (hcs p hp'),hblk.free p⟩
  refine(Try.slices_Sort_int g 0 cap l W hH hblk.lt tO).mono ?_;rintro e w' ⟨rfl,q,os,rfl⟩;have hlen:=sortL_len l
  have hput:(grow (putRow (Value.int .i64) (Sort.ahead W q) g 0 (sortL l).toArray) os).heap[g]? =some (.cells (putCells (Value.int .i64) 0 (sortL l).toArray cur) 3 (0,0)):=by
   have hlt:=hblk.lt;unfold grow putRow mapBlock;simp only;rw[Array.getElem?_append_left (by simpa using hlt),Array.getElem?_modify,if_pos rfl,show(Sort.ahead W q).heap=W.heap from rfl,hh];rfl
  refine⟨rfl,?_,⟨rfl,rfl,rfl,by simp[grow,putRow,mapBlock,Sort.ahead],fun k hk=>?_⟩⟩
  ·refine Kd.R_of_own ?_ h.1
   change World.ownsRow (grow (putRow (Value.int .i64) (Sort.ahead W q) g 0 (sortL l).toArray) os) base 3 1 (.slice (some ⟨g,0,none⟩) l.length cap) (sortL l).length (encs (Value.int .i64) (sortL l))
   rw[hlen];refine⟨by simp[encs,hlen], .inr ⟨g,cap,_,rfl,hb,hput,hnc,hcm,by simp[putCells,hsz],?_⟩⟩;apply List.ext_getElem?;intro p;rw[Nat.mul_one,List.getElem?_take];by_cases hp:p< l.length
   ·rw[if_pos hp,Array.getElem?_toList];unfold putCells encs;rw[Array.getElem?_mapIdx,hcs p hp,Option.map_some,if_pos ⟨Nat.zero_le _,by simp[hlen];omega⟩,List.getElem?_map,List.getElem?_eq_getElem (by rw[hlen];exact hp),Option.map_some];congr 2;rw[getElem!_pos (sortL l).toArray (p - 0) (by simp[hlen];omega)];simp
   ·rw[if_neg hp,List.getElem?_eq_none (by simp[encs,hlen];omega)]
  ·have hlt:=hblk.lt;unfold grow putRow mapBlock;simp only;rw[Array.getElem?_append_left (by simp;omega),Array.getElem?_modify,if_neg tO];rfl
def hop (p pl:List Int) (x:Nat):Nat:=(nth p ((nth pl (x ^^^ 1)).toNat ^^^ 1)).toNat
def folF (p pl:List Int):Nat→Nat→List Bool→List Int→List Int×List Bool
 |0,_,seen,out=>(out,seen)
 |k+1,x,seen,out=>if seen.getD (x/2) false=true then(out,seen)else folF p pl k (hop p pl x) (seen.set (x/2) true) (out++ [((x/2:Nat):Int)])
def unseen (seen:List Bool):Nat:=seen.countP (fun b=>!b)
theorem unseen_set {seen:List Bool} {j:Nat} (h:j< seen.length) (hj:seen.getD j false=false):unseen (seen.set j true)+1=unseen seen:=by
 induction seen generalizing j with
 |nil=>simp at h
 | cons b l ih=>
  cases j with
  |zero=>
   simp at hj;subst hj;simp[unseen]
  |succ j=>
   have:=ih (j:=j) (by simpa using h) (by simpa using hj);simp only[unseen,List.set_cons_succ,List.countP_cons]at this ⊢;omega
theorem folF_stop (p pl:List Int) (x:Nat) (seen:List Bool) (out:List Int) (k:Nat) (h:seen.getD (x/2) false=true):folF p pl (k+1) x seen out=(out,seen):=by
 rw[folF,if_pos h]
theorem folF_go (p pl:List Int) (x:Nat) (seen:List Bool) (out:List Int) (h:seen.getD (x/2) false=false) (hl:x/2< seen.length):
  folF p pl (unseen seen+1) x seen out=folF p pl (unseen (seen.set (x/2) true)+1) (hop p pl x) (seen.set (x/2) true) (out++ [((x/2:Nat):Int)]):=by
 rw[folF,if_neg (by rw[h];simp),←unseen_set hl h]
end Go.Proofs.Ytepjhdblmghckaa.G
namespace Go.Proofs.Ytepjhdblmghckaa.G
open Go.Proofs.Ytepjhdblmghckaa.Q Go.Proofs.Ytepjhdblmghckaa.K Go.Proofs.Ytepjhdblmghckaa.Bf
open Go.RowKit Go.Shelf Go.Proofs.YtepjhdblmghckaaW.PrintWords Go.Proofs.YtepjhdblmghckaaW.PrintLast Go.Proofs.YtepjhdblmghckaaW.PrintMore
structure FolI (N bs bx b g cap n:Nat) (p pl:List Int) (seen:List Bool) (W:World):Prop where
 sb:Blk W bs #[.slice (some ⟨g,0,none⟩) (n+1) cap] 62
 xb:Blk W bx #[.pointer (some ⟨b,0,none⟩)] 79
 pic: ∃A c A2 c2,Blk W b #[.slice A (2*n+2) c, .slice A2 (2*n+2) c2] 96∧Kd.R (Kd.int .i64) 3 W 0 (fun j=>j≠g∧j< N) (.slice A (2*n+2) c) p∧Kd.R (Kd.int .i64) 3 W 0 (fun j=>j≠g∧j< N) (.slice A2 (2*n+2) c2) pl
 row:Kd.R Kd.bool 4 W 0 (fun j=>j=g) (.slice (some ⟨g,0,none⟩) (n+1) cap) seen
 lt:bs< N∧bx< N∧b< N∧g< N∧bs≠g∧bx≠g∧b≠g
theorem rowB_block {W:World} {base g n cap:Nat} {ok:Nat→Prop} {seen:List Bool} (h:Kd.R Kd.bool 4 W base ok (.slice (some ⟨g,0,none⟩) n cap) seen):n=seen.length∧ ∃cur,W.heap[g]? =some (.cells cur 4 (0,0)):=by
 obtain⟨A,c,e⟩:=Kd.R_slice h;injection e with e1 e2 e3;refine⟨e2,?_⟩;have ho:=Kd.own_of_R h;rcases ho.2 with⟨h0,_⟩|⟨g',cap',cur,hv,_,hh,_⟩
 ·cases h0
 ·injection hv with h1;injection h1 with h1;injection h1 with h1;subst h1;exact⟨cur,hh⟩
def sliceLen:Value→Nat
 | .slice _ n _=>n
 |_=>0
structure Rest (g:Nat) (w W:World):Prop where
 os:W.os=w.os
 tape:W.tape=w.tape
 output:W.output=w.output
 size:w.heap.size≤W.heap.size
 other: ∀k,k< w.heap.size→k≠g→W.heap[k]? =w.heap[k]?
theorem FolI.keep {N bs bx b g cap n:Nat} {p pl:List Int} {seen:List Bool} {W W':World} (h:FolI N bs bx b g cap n p pl seen W) (hb: ∀k,k< N→W'.heap[k]? =W.heap[k]?):FolI N bs bx b g cap n p pl seen W':=by
 obtain⟨A,c,A2,c2,h1,h2,h3⟩:=h.pic;obtain⟨l1,l2,l3,l4,l5,l6,l7⟩:=h.lt;exact⟨(hb _ l1).trans h.sb,(hb _ l2).trans h.xb,⟨A,c,A2,c2,(hb _ l3).trans h1,Kd.R_step h2 (fun k hk _=>hb k hk.2),Kd.R_step h3 (fun k hk _=>hb k hk.2)⟩,Kd.R_step h.row (fun k hk _=>by subst hk;exact hb _ l4),h.lt⟩
theorem FolI.put {N bs bx b g cap n:Nat} {p pl:List Int} {seen:List Bool} {W:World} (h:FolI N bs bx b g cap n p pl seen W) (i:Nat) (v:Bool):FolI N bs bx b g cap n p pl (seen.set i v) (W.setCell ⟨g,i,none⟩ (.bool v)):=by
 obtain⟨A,c,A2,c2,h1,h2,h3⟩:=h.pic;obtain⟨l1,l2,l3,l4,l5,l6,l7⟩:=h.lt;exact⟨h.sb.setOther l5 _,h.xb.setOther l6 _,⟨A,c,A2,c2,h1.setOther l7 _,Kd.R_far h2 (fun k hk=>hk.1) _,Kd.R_far h3 (fun k hk=>hk.1) _⟩,Kd.R_putn h.row (i:Int) v,h.lt⟩
theorem xor1: ∀a:Nat,a< 128→a ^^^ 1=if a % 2=0 then a+1 else a - 1:=by decide+kernel
theorem xor1_lt {a m:Nat} (h:a< 2*m) (hm:m≤60):a ^^^ 1< 2*m:=by
 rw[xor1 a tO]
 split<;>omega
set_option maxRecDepth 100000 in
set_option maxHeartbeats 8000000 in
theorem follow_calls (N bs bx b g cap n:Nat) (hn:n≤40) (p pl:List Int) (seen:List Bool) (line:Nat) (hline:line≤n) (w:World) (hN:N≤w.heap.size) (h:FolI N bs bx b g cap n p pl seen w)
  (hp: ∀q,0≤nth p q∧nth p q< 2*(n:Int)+2) (hpl: ∀q,0≤nth pl q∧nth pl q< 2*(n:Int)+2) (hs:seen.getD line false=false):
  Calls Try.prog 80 #[.int .i64 (line:Int), .pointer (some ⟨bs,0,none⟩), .pointer (some ⟨bx,0,none⟩)] w fun e w'=> ∃v,e= .returned v∧
   Kd.R (Kd.int .i64) 3 w' w.heap.size (fun _=>True) v (sortL (folF p pl (unseen seen+1) (2*line) seen []).1)∧FolI N bs bx b g cap n p pl (folF p pl (unseen seen+1) (2*line) seen []).2 w'∧
   Rest g w w':=by
 have HI:=Aside0.mk h;have HP:=Aside0.mk hp;have HPL:=Aside0.mk hpl;have HS:=Aside0.mk hs;have hw1:IntKind.i64.wrap (2*(line:Int))=2*(line:Int):=iw64 tO tO;clear h hp hpl hs
 go_enter Try.func80,Try.ntmps80
 go_wp2;obtain⟨R0,hR0⟩: ∃R0,folF p pl (unseen seen+1) (2*line) seen []=R0:=⟨_,rfl⟩;have HR0:=Aside0.mk hR0;have hsl:=(rowB_block HI.out.row).1;have hus:unseen seen≤n+1:=by rw[hsl];exact List.countP_le_length
 have HUS:=Aside0.mk hus;clear hR0 hsl hus
 go_loopw [5,6] (fun o xv wr=> ∃(x:Nat) (out:List Int) (sn:List Bool),x< 2*n+2∧xv= .int .i64 (x:Int)∧Aside0 (Kd.R (Kd.int .i64) 3 wr w.heap.size (fun j=>w.heap.size≤j) o out)∧Aside0 (FolI N bs bx b g cap n p pl sn wr)∧Aside0 (folF p pl (unseen sn+1) x sn out=R0)∧Aside0 (out.length+unseen sn≤n+1)∧Aside0 (Rest g w wr)∧Aside0 (out= []→x=2*line∧sn=seen)) (fun o _ _=>n+2 - sliceLen o)
 case atStart=>exact⟨2*line, [],seen,by omega,by simp,⟨Kd.R_nil _ _ _ _ _⟩,HI,HR0,⟨by have:=HUS.out;simpa using this⟩,⟨⟨rfl,rfl,rfl,Nat.le_refl _,fun _ _ _=>rfl⟩⟩,⟨fun _=>⟨rfl,rfl⟩⟩⟩
 case round=>
  obtain⟨x,out,sn,hx,rfl,HO,HF,HE,HL,HW,HZ⟩:=hrel;have hq0:(0:Int)≤(x:Int)/2:=by omega
  have hq1:(x:Int)/2< (n:Int)+1:=by omega
  have hsl:=(rowB_block HF.out.row).1;have hs0:=HF.out.sb.cell 0 (v:= .slice (some ⟨g,0,none⟩) (n+1) cap) rfl;obtain⟨hg1,hg2⟩:=Kd.R_cell (h1:=fun _=>rfl) (enc:=Value.bool) false (by rw[←hsl];exact HF.out.row) ((x/2:Nat):Int) tO (by rw[←hsl];omega);rw[Int.toNat_natCast]at hg1 hg2;have HSL:=Aside0.mk hsl
  have hgd:rdOf false sn ((x/2:Nat):Int)=sn.getD (x/2) false:=by
   unfold rdOf;rw[Int.toNat_natCast]
  rw[hgd]at hg1;clear hsl hgd;by_cases hsq:sn.getD (x/2) false=true
  ·rw[hsq]at hg1;have HE2:=Aside0.mk ((folF_stop p pl x sn out (unseen sn) hsq).symm.trans HE.out)
   have HNE:=Aside0.mk (show 0< out.length by
    cases ho:out with
    |nil=>
     obtain⟨e1,e2⟩:=HZ.out ho;rw[e1,e2,show 2*line/2=line by omega,HS.out]at hsq;cases hsq
    |cons a l=>simp)
   obtain⟨A,c,ev⟩:=Kd.R_slice HO.out;subst ev;clear hsq
   go_wp2_with (go_at_call 81;refine stopper ?_)
   unfold Hold;refine(sortR_calls HO.out HNE.out (by have:=HL.out;omega)).mono ?_;rintro e w2 ⟨rfl,hv2,hb2⟩;have HV2:=Aside0.mk hv2;have HB2:=Aside0.mk hb2;clear hv2 hb2;go_wp2;go_ret;refine⟨_,rfl,?_,?_,⟨HB2.out.os.trans HW.out.os,HB2.out.tape.trans HW.out.tape,HB2.out.output.trans HW.out.output,Nat.le_trans HW.out.size HB2.out.size,fun k hk hg=>(HB2.out.block k hk).trans (HW.out.other k hk hg)⟩⟩
   ·rw[HR0.out,←HE2.out];exact Kd.R_mono HV2.out (fun _ _=>trivial)
   ·rw[HR0.out,←HE2.out];exact HF.out.keep (fun k hk=>HB2.out.block k tO)
  ·rw[Bool.not_eq_true]at hsq;rw[hsq]at hg1;have HSQ:=Aside0.mk hsq;have HSN:=Aside0.mk (show sliceLen u5=out.length by obtain⟨A,c,e⟩:=Kd.R_slice HO.out;rw[e];rfl);clear hsq
   go_wp2_with ((with_reducible refine gate_builtin (b:= .append) (xs:= #[.tmp 19, .tmp 22]) rfl ?_);at_builtin;refine stopper ?_)
   unfold Hold;obtain⟨W1,hW1⟩: ∃W1,wr.setCell ⟨g,x/2,none⟩ (.bool true)=W1:=⟨_,rfl⟩;have hF1:FolI N bs bx b g cap n p pl (sn.set (x/2) true) W1:=by rw[←hW1];exact HF.out.put (x/2) true
   have hsz1:W1.heap.size=wr.heap.size:=by rw[←hW1];simp[World.setCell]
   have hglt:=HF.out.lt.2.2.2.1;have hO1:Kd.R (Kd.int .i64) 3 W1 w.heap.size (fun j=>w.heap.size≤j) u5 out:=by rw[←hW1];exact Kd.R_far HO.out (fun j hj=>by simp only;omega) _
   have hW1r:Rest g w W1:=by
    rw[←hW1];exact⟨HW.out.os,HW.out.tape,HW.out.output,by simpa [World.setCell]using HW.out.size,fun k hk hg=>(Below.heap_setCell _ _ _ _ hg).trans (HW.out.other k hk hg)⟩
   rw[hW1,←hsz1];have HF1:=Aside0.mk hF1;have HW1:=Aside0.mk hW1r;refine Kd.R_append (Kd.int .i64) (w0:=W1) w.heap.size rfl (.tmp 19) (.tmp 22) 22 3 (.int .i64 0) 8 rfl Try.underlying22 info3 rfl tD tD u5 out ((x:Int)/2) [.int .i64 ((x:Int)/2)] (fun j=>w.heap.size≤j) (fun j=>w.heap.size≤j∧some j≠u5.ownBlock) rfl rfl rfl (fun k h=>h) (fun k hk=>by have:=HW1.out.size;omega) hO1 ((Below.refl W1.heap.size W1).mono HW1.out.size) HW1.out.size (by have:=HL.out;omega) ?_;intro v1 wy ho hb hg hat;have HO1:=Aside0.mk ho;have HF2:=Aside0.mk (HF1.out.keep (fun k hk=>hb.block k tO));have HW2:=Aside0.mk (show Rest g w wy from⟨hb.os.trans HW1.out.os,hb.tape.trans HW1.out.tape,hb.output.trans HW1.out.output,Nat.le_trans HW1.out.size hb.size,fun k hk hg=>(hb.block k hk).trans (HW1.out.other k hk hg)⟩);obtain⟨A,c,A2,c2,hbb,hpp,hqq⟩:=HF2.out.pic;have hx1:=xor_one x tO;have hxl:x ^^^ 1< 2*n+2:=by have:=xor1_lt (a:=x) (m:=n+1) tO tO;omega
   have hbx:=HF2.out.xb.cell 0 (v:= .pointer (some ⟨b,0,none⟩)) rfl;have hb0:=hbb.cell 0 (v:= .slice A (2*n+2) c) rfl;have hb1:=hbb.cell 1 (v:= .slice A2 (2*n+2) c2) rfl;obtain⟨ad2,e2,hc2⟩:=Kd.at_int (Kd.R_reads' hqq).2.2 ((x ^^^ 1:Nat):Int) tO (by first|omega|(have:=(Kd.R_reads' hqq).1;omega));rw[rd_nth,Int.toNat_natCast]at hc2;have hy:=HPL.out (x ^^^ 1);have hhop:hop p pl x=(nth p ((nth pl (x ^^^ 1)).toNat ^^^ 1)).toNat:=rfl;obtain⟨y,hye⟩: ∃y,nth pl (x ^^^ 1)=y:=⟨_,rfl⟩;rw[hye]at hc2 hy hhop;obtain⟨yn,rfl⟩:=Int.eq_ofNat_of_zero_le hy.1;rw[Int.toNat_natCast]at hhop;have hx2:=xor_one yn tO;have hyl:yn ^^^ 1< 2*n+2:=by have:=xor1_lt (a:=yn) (m:=n+1) tO tO;omega
   obtain⟨ad1,e1,hc1⟩:=Kd.at_int (Kd.R_reads' hpp).2.2 ((yn ^^^ 1:Nat):Int) tO (by first|omega|(have:=(Kd.R_reads' hpp).1;omega));rw[rd_nth,Int.toNat_natCast]at hc1;have hz:=HP.out (yn ^^^ 1);obtain⟨z,hze⟩: ∃z,nth p (yn ^^^ 1)=z:=⟨_,rfl⟩;rw[hze]at hc1 hz hhop;obtain⟨zn,rfl⟩:=Int.eq_ofNat_of_zero_le hz.1;rw[Int.toNat_natCast]at hhop;obtain⟨x1,hx1e⟩: ∃x1,x ^^^ 1=x1:=⟨_,rfl⟩;obtain⟨y1,hy1e⟩: ∃y1,yn ^^^ 1=y1:=⟨_,rfl⟩;rw[hx1e]at hx1 hxl hc2;rw[hy1e]at hx2 hyl hc1;have hx10:(0:Int)≤(x1:Int):=by omega
   have hx11:(x1:Int)< 2*(n:Int)+2:=by omega
   have hy10:(0:Int)≤(y1:Int):=by omega
   have hy11:(y1:Int)< 2*(n:Int)+2:=by omega
   have HHOP:=Aside0.mk hhop;have HZL:=Aside0.mk (show zn< 2*n+2 by omega);have HGO:=Aside0.mk (folF_go p pl x sn out HSQ.out (by have:=HSL.out;omega));have HUN:=Aside0.mk (unseen_set (seen:=sn) (j:=x/2) (by have:=HSL.out;omega) HSQ.out);subst e1;subst e2;obtain⟨Av,cv,ev⟩:=Kd.R_slice ho;subst ev;have HLV:=Aside0.mk (show(out++ [(x:Int)/2]).length=out.length+1 by simp);clear hye hze hx1e hy1e hhop hy hz hpp hqq hbb hb hg hat ho hO1 hF1 hW1r hW1 hsz1 hg1 hg2 hs0
   go_upto_region 6 with fail
   go_quiet (fail);go_wp2
   go_roundw
   case rel=>exact⟨zn,out++ [(x:Int)/2],sn.set (x/2) true,HZL.out,rfl,⟨by have h1:=Kd.R_drewN HO1.out nq;rw[HLV.out]at h1;exact h1⟩,⟨HF2.out.keep (fun k hk=>rfl)⟩,⟨by rw[←HE.out,HGO.out,HHOP.out];rfl⟩,⟨by have:=HUN.out;have:=HL.out;have:=HLV.out;omega⟩,⟨⟨HW2.out.os,HW2.out.tape,HW2.out.output,HW2.out.size,HW2.out.other⟩⟩,⟨fun e=>by simp at e⟩⟩
   case measure=>
    have h1:=HSN.out;have h2:=HL.out;have h3:=HUN.out;show n+2 - (out.length+1)< n+2 - sliceLen u5;rw[h1];omega
def cirStep (p pl:List Int) (st:List Bool×List (List Int)) (line:Nat):List Bool×List (List Int):=
 if st.1.getD line false=true then st else((folF p pl (unseen st.1+1) (2*line) st.1 []).2,st.2++ [sortL (folF p pl (unseen st.1+1) (2*line) st.1 []).1])
def cirTo (p pl:List Int) (n k:Nat):List Bool×List (List Int):=(List.range k).foldl (cirStep p pl) (List.replicate (n+1) false, [])
def circL (s:List Int):List (List Int):=(cirTo (picL s) (plL s) s.length (s.length+1)).2
theorem cirTo_step (p pl:List Int) (n k:Nat):cirTo p pl n (k+1)=cirStep p pl (cirTo p pl n k) k:=by
 unfold cirTo;rw[List.range_succ,List.foldl_append];rfl
theorem folF_len (p pl:List Int): ∀(k x:Nat) (seen:List Bool) (out:List Int),(folF p pl k x seen out).2.length=seen.length
 |0,_,_,_=>rfl
 |k+1,x,seen,out=>by
  rw[folF]
  split
  ·rfl
  ·rw[folF_len p pl k,List.length_set]
theorem plTo_range (p:List Int) (k:Nat): ∀y,y∈plTo p k→0≤y∧(y=0∨y< k):=by
 induction k with
 |zero=>
  intro y hy;have:y∈List.replicate p.length (0:Int):=hy;rw[List.mem_replicate]at this;omega
 |succ k ih=>
  intro y hy;rw[plTo_step]at hy;rcases List.mem_or_eq_of_mem_set hy with hy|rfl
  ·have:=ih y hy;omega
  ·omega
theorem plL_range (s:List Int) (q:Nat):0≤nth (plL s) q∧nth (plL s) q< 2*(s.length:Int)+2:=by
 unfold plL;by_cases hq:q< (plTo (picL s) (picL s).length).length
 ·have:=plTo_range (picL s) (picL s).length ((plTo (picL s) (picL s).length).getD q 0) (by rw[List.getD_eq_getElem?_getD,List.getElem?_eq_getElem hq];exact List.getElem_mem hq);rw[picL_len]at this;unfold nth;rw[picL_len];omega
 ·rw[nth_end _ _ tO];omega
set_option maxRecDepth 100000 in
set_option maxHeartbeats 8000000 in
theorem circles_calls (b base:Nat) (s:List Int) (hs:s.length≤40) (hm: ∀x,x∈s→x≠0∧ -(s.length:Int)≤x∧x≤s.length) (w:World) (hP:PicOk base b s w):
  Calls Try.prog 62 #[.pointer (some ⟨b,0,none⟩)] w fun e w'=> ∃v,e= .returned v∧Kd.S (Kd.slice 3 (Kd.int .i64)) 22 w' w.heap.size (fun _=>True) v (circL s)∧Below w.heap.size w w':=by
 obtain⟨n,hn⟩: ∃n,s.length=n:=⟨_,rfl⟩;have HPR:=Aside0.mk (picL_range s hm);have HPLR:=Aside0.mk (plL_range s);have HCI:=Aside0.mk (show circL s=(cirTo (picL s) (plL s) s.length (s.length+1)).2 from rfl);obtain⟨A,c,A2,c2,hbb,hpp,hqq⟩:=hP;rw[hn]at hs HPR HPLR HCI hbb hpp hqq;obtain⟨p,hpe⟩: ∃p,picL s=p:=⟨_,rfl⟩;obtain⟨pl,hple⟩: ∃pl,plL s=pl:=⟨_,rfl⟩;rw[hpe]at HPR HCI hpp;rw[hple]at HPLR HCI hqq;have hbl:=hbb.lt;have HBB:=Aside0.mk hbb;have HPP:=Aside0.mk hpp;have HQQ:=Aside0.mk hqq;have hb0:=hbb.cell 0 (v:= .slice A (2*n+2) c) rfl;clear hbb hpp hqq hm hn hpe hple
 go_enter Try.func62,Try.ntmps62
 go_wp2_with (at_make;refine stopper ?_)
 unfold Hold;have hba:Below w.heap.size w (w.alloc (Obj.cells #[Value.pointer (some { block:=b,off:=0 })] 79)):=(Below.refl _ w).alloc (Nat.le_refl _) _;refine Kd.R_make Kd.bool (w0:=w) w.heap.size 4 rfl (N:=13) rfl 62 (.tmp 12) (.tmp 12) rfl ((n+1:Nat):Int) (by show Value.int .i64 ((2*(n:Int)+2)/2)=_;congr 1;omega) (by show Value.int .i64 ((2*(n:Int)+2)/2)=_;congr 1;omega) Try.underlying62 (.bool false) 1 info4 rfl tD tD false (ok:=fun _=>True) (okp:=fun _=>False) rfl (fun _ h=>h.elim) trivial tO tO hba hba.size ?_;intro v2 wm ho hb hg hat;rw[Int.toNat_natCast]at ho;have hown:=Kd.own_of_R ho;rcases hown.2 with⟨_,h0⟩|⟨g,cap,cur,rfl,hgb,hgh,_⟩
 ·simp at h0
 have hgl:g< wm.heap.size:=(Array.getElem?_eq_some_iff.1 hgh).1;rw[List.length_replicate]at ho;have hbx:Blk wm w.heap.size #[.pointer (some ⟨b,0,none⟩)] 79:=(Blk.new w _ 79).grown hg tS
 have hgx:g≠w.heap.size:=fun e=>by
  have e2:=hbx.symm.trans (e ▸ hgh);injection e2 with e2;injection e2 with _ e3;cases e3
 obtain⟨Wl,hWl⟩: ∃Wl,wm.alloc (.cells #[.slice (some ⟨g,0,none⟩) (n+1) cap] 62)=Wl:=⟨_,rfl⟩;have hsl:Wl.heap.size=wm.heap.size+1:=by rw[←hWl];simp
 have hbl2:Below w.heap.size w Wl:=by rw[←hWl];exact hb.alloc hb.size _
 have hkeep: ∀k,k< wm.heap.size→Wl.heap[k]? =wm.heap[k]? :=fun k hk=>by rw[←hWl];exact Below.heap_alloc _ _ _ hk
 have HIN:=Aside0.mk (show FolI Wl.heap.size wm.heap.size w.heap.size b g cap n p pl (List.replicate (n+1) false) Wl from by
  have hwl:=hbl2;refine⟨by rw[←hWl];exact Blk.new _ _ _,(hkeep _ hbx.lt).trans hbx,⟨A,c,A2,c2,HBB.out.below hwl hbl,?_,?_⟩,?_,by have:=hb.size;omega,by have:=hb.size;omega,by have:=hb.size;omega,by omega,by omega,by omega,by omega⟩
  ·have h1:=Kd.R_step (Kd.R_bound (Kd.R_lower HPP.out (Nat.zero_le _))) (w1:=Wl) (fun k hk _=>hwl.block k hk.2.2.1);exact Kd.R_mono h1 (fun k hk=>⟨by have:=hk.2.2.1;omega,by have:=hk.2.2.1;have:=hb.size;omega⟩)
  ·have h1:=Kd.R_step (Kd.R_bound (Kd.R_lower HQQ.out (Nat.zero_le _))) (w1:=Wl) (fun k hk _=>hwl.block k hk.2.2.1);exact Kd.R_mono h1 (fun k hk=>⟨by have:=hk.2.2.1;omega,by have:=hk.2.2.1;have:=hb.size;omega⟩)
  ·have h1:=Kd.R_lower (Kd.R_step ho (w1:=Wl) (fun k _ hk=>hkeep k hk)) (Nat.zero_le _)
   exact Kd.R_of_own (by rw[show(List.replicate (n+1) false).length=n+1 from List.length_replicate ..];have:=Kd.own_of_R h1;rw[List.length_replicate]at this;exact this) (fun k hk=>by simpa [Value.ownBlock]using hk.symm))
 have HBL:=Aside0.mk hbl2;have HGW:=Aside0.mk hgb;have HSL:=Aside0.mk hsl;have HGH:=Aside0.mk (show w.heap.size≤wm.heap.size from hb.size);have hs0:Wl.cell? ⟨wm.heap.size,0,none⟩=some (.slice (some ⟨g,0,none⟩) (n+1) cap):=HIN.out.sb.cell 0 rfl;simp only[List.length_replicate];clear ho hb hg hat hown hgb hgh hgl hbx hgx hbl2 hsl hkeep hba hb0;go_wp2;obtain⟨N,hNe⟩: ∃N,Wl.heap.size=N:=⟨_,rfl⟩;obtain⟨bs,hbs⟩: ∃bs,wm.heap.size=bs:=⟨_,rfl⟩;rw[hNe,hbs]at HIN;rw[hbs]at HSL HGH hs0;rw[hNe]at HSL;(try rw[hWl]);(try rw[hbs]);have HNE:=Aside0.mk hNe;have HNW:=Aside0.mk (show w.heap.size≤N by have:=HSL.out;have:=HGH.out;omega);clear hWl hbs hNe hs0
 go_loopw [5,17] (fun o iv wr=> ∃(k:Nat) (sn:List Bool) (out:List (List Int)),k≤n+1∧iv= .int .i64 (k:Int)∧Aside0 (cirTo p pl n k=(sn,out))∧Aside0 (out.length≤k)∧Aside0 (Kd.S (Kd.slice 3 (Kd.int .i64)) 22 wr N (fun j=>N≤j) o out)∧Aside0 (FolI N bs w.heap.size b g cap n p pl sn wr)∧Aside0 (Below w.heap.size w wr)∧Aside0 (N≤wr.heap.size)) (fun _ iv _=>n+1 - (intOf iv).toNat)
 case atStart=>exact⟨0,List.replicate (n+1) false, [],Nat.zero_le _,rfl,⟨rfl⟩,⟨Nat.le_refl _⟩,⟨Kd.S_nil _ _ _ _ _⟩,HIN,HBL,⟨by rw[HNE.out];exact Nat.le_refl _⟩⟩
 case round=>
  obtain⟨k,sn,out,hk,rfl,HC,HOL,HO,HF,HW,HN⟩:=hrel;by_cases hlt:k< n+1
  ·have hi0:(0:Int)≤(k:Int):=by omega
   have hi1:(k:Int)< (n:Int)+1:=by omega
   have hsl:=(rowB_block HF.out.row).1;have hs0:=HF.out.sb.cell 0 (v:= .slice (some ⟨g,0,none⟩) (n+1) cap) rfl;obtain⟨hg1,hg2⟩:=Kd.R_cell (h1:=fun _=>rfl) (enc:=Value.bool) false (by rw[←hsl];exact HF.out.row) (k:Int) tO (by rw[←hsl];omega);rw[Int.toNat_natCast]at hg1 hg2
   have hgd:rdOf false sn (k:Int)=sn.getD k false:=by
    unfold rdOf;rw[Int.toNat_natCast]
   rw[hgd]at hg1;have HST:=Aside0.mk (cirTo_step p pl n k);have hwt:IntKind.i64.wrap ((k:Int)+1)=((k+1:Nat):Int):=by rw[iw64 tO tO];omega
   clear hsl hgd;by_cases hsq:sn.getD k false=true
   ·rw[hsq]at hg1;have HSQ:=Aside0.mk hsq;clear hsq;go_wp2
    go_roundw
    case rel=>exact⟨k+1,sn,out,by omega,rfl,⟨by rw[HST.out,HC.out,cirStep,if_pos HSQ.out]⟩,⟨by have:=HOL.out;omega⟩,HO,HF,HW,HN⟩
    case measure=>simp[intOf];omega
   ·rw[Bool.not_eq_true]at hsq;rw[hsq]at hg1;have HSQ:=Aside0.mk hsq;clear hsq
    go_wp2_with (go_at_call 80;refine stopper ?_)
    unfold Hold;refine(follow_calls N bs w.heap.size b g cap n hs p pl sn k tO wr HN.out HF.out HPR.out HPLR.out HSQ.out).mono ?_;rintro e w2 ⟨v2,rfl,hv2,hf2,hr2⟩;obtain⟨r,hre⟩: ∃r,folF p pl (unseen sn+1) (2*k) sn []=r:=⟨_,rfl⟩;rw[hre]at hv2 hf2;have HRE:=Aside0.mk hre;have HV2:=Aside0.mk hv2;have HF2:=Aside0.mk hf2;have HR2:=Aside0.mk hr2;have HVB:=Aside0.mk (Kd.R_base hv2);have HO2:=Aside0.mk (Kd.S_step (Kd.S_mono (ok':=fun j=>N≤j∧j< wr.heap.size) (Kd.S_bound HO.out) (fun j hj=>⟨hj.1,hj.2.2.1⟩)) (w1:=w2) (fun j hj hl=>hr2.other j hl (by have:=HF.out.lt.2.2.2.1;omega)));have HULT:=Aside0.mk (Kd.S_lt HO.out);obtain⟨Av,cv,ev⟩:=Kd.R_slice hv2;subst ev;clear hre hv2 hf2 hr2
    go_wp2_with ((with_reducible refine gate_builtin (b:= .append) (xs:= #[.tmp 25, .tmp 29]) rfl ?_);at_builtin;refine stopper ?_)
    unfold Hold;refine Kd.S_append (Kd.slice 3 (Kd.int .i64)) (w0:=w2) N rfl (.tmp 25) (.tmp 29) 45 22 (.slice none 0 0) 24 rfl Try.underlying45 info22 rfl tD tD u5 out (sortL r.1) [.slice Av (sortL r.1).length cv] (fun j=>N≤j) (fun j=>some j=(Value.slice Av (sortL r.1).length cv).ownBlock) rfl rfl ⟨_,rfl,Kd.R_of_own (Kd.own_of_R (Kd.R_lower HV2.out HN.out)) (fun k hk=>hk.symm)⟩ (fun k hk=>⟨by have:=HVB.out k hk.symm;have:=HN.out;omega,fun e=>by have h1:=HVB.out k hk.symm;have h2:=HULT.out k e.symm;omega⟩) (fun k hk=>by have:=HN.out;have:=HR2.out.size;omega) (Kd.S_mono HO2.out (fun k hk=>⟨hk.1,fun e=>by have h1:=HVB.out k e.symm;omega⟩)) ((Below.refl w2.heap.size w2).mono (by have:=HN.out;have:=HR2.out.size;omega)) (by have:=HN.out;have:=HR2.out.size;omega) (by have:=HOL.out;omega) ?_;intro v1 wy ho hb hg hat;have HOY:=Aside0.mk ho;have HFY:=Aside0.mk (HF2.out.keep (fun j hj=>hb.block j hj))
    have HWY:=Aside0.mk (show Below w.heap.size w wy from by
     have h1:Below w.heap.size w w2:=⟨HR2.out.os.trans HW.out.os,HR2.out.tape.trans HW.out.tape,HR2.out.output.trans HW.out.output,Nat.le_trans HW.out.size HR2.out.size,fun j hj=>(HR2.out.other j (by have:=HW.out.size;omega) (by have:=HGW.out;omega)).trans (HW.out.block j hj)⟩
     exact h1.trans (hb.mono HNW.out))
    have HNY:=Aside0.mk (show N≤wy.heap.size by have:=HN.out;have:=HR2.out.size;have:=hb.size;omega);clear ho hb hg hat hg1 hg2 hs0;go_wp2
    go_roundw
    case rel=>exact⟨k+1,r.2,out++ [sortL r.1],by omega,rfl,⟨by rw[HST.out,HC.out,cirStep,if_neg (by simp only;rw[HSQ.out];simp)];simp only;rw[HRE.out]⟩,⟨by have:=HOL.out;simp;omega⟩,HOY,HFY,HWY,HNY⟩
    case measure=>simp[intOf];omega
  ·have hi1: ¬(k:Int)< (n:Int)+1:=by omega
   have HKN:=Aside0.mk (show k=n+1 by omega);go_wp2;go_ret;refine⟨_,rfl,?_,HW.out⟩;rw[HCI.out,←HKN.out,HC.out];exact Kd.S_mono (Kd.S_lower HO.out HNW.out) (fun _ _=>trivial)
def pancake_Circles.f (l0:List Int):Option (List (List Int)×Int):=some (if isSt true 40 l0=true then(circL l0,0)else([],70))
set_option maxHeartbeats 4000000 in
theorem pancake_Circles.calls (A0:Option Addr) (c0:Nat) (l0:List Int) (r1:List (List Int)) (r2:Int) (w:World) (hr0:Kd.C (Kd.int .i64) w A0 l0.length l0) (hc0:l0.length≤c0) (h:pancake_Circles.f l0=some (r1,r2)):
  Calls Try.prog 36 #[.slice A0 l0.length c0] w fun e w'=> ∃v0_:Value,e= .returned (.tuple #[v0_, .int .i64 r2])∧Kd.S (Kd.slice 3 (Kd.int .i64)) 22 w' w.heap.size (fun _=>True) v0_ r1∧Below w.heap.size w w':=by
 have HC:=Aside0.mk (check55_one A0 c0 l0 w hr0 hc0);have HR0:=Aside0.mk hr0;clear hr0;unfold pancake_Circles.f at h;unfold chk1 at HC
 go_enter Try.func36,Try.ntmps36
 by_cases hst:isSt true 40 l0=true
 ·rw[if_pos hst]at h HC;cases h;have HRG:=Aside0.mk (isSt_range hst);have HSM:=Aside0.mk (isSt_small hst tD);clear hst
  go_wp2_with (go_at_call 55;refine stopper ?_)
  unfold Hold;refine HC.out.mono ?_;rintro e w1 ⟨rfl,hb⟩;have HB1:=Aside0.mk hb;clear hb
  go_wp2_with (go_at_call 60;refine stopper ?_)
  unfold Hold;refine(pictured_calls A0 c0 l0 w1 (Kd.C_below HR0.out HB1.out) HSM.out.2.1 HRG.out).mono ?_;rintro e w2 ⟨rfl,hp,hb⟩;have HB2:=Aside0.mk (HB1.out.trans (hb.mono HB1.out.size));have HP:=Aside0.mk hp;clear hb hp
  go_wp2_with (go_at_call 62;refine stopper ?_)
  unfold Hold;refine(circles_calls _ _ l0 HSM.out.2.1 HRG.out w2 HP.out).mono ?_;rintro e w3 ⟨v3,rfl,hv3,hb⟩;have HB3:=Aside0.mk (HB2.out.trans (hb.mono HB2.out.size));have HV3:=Aside0.mk (Kd.S_lower hv3 HB2.out.size);clear hb hv3;go_wp2;refine bodyPost_ret (results_tmp2 rfl _ _ _) rfl ⟨_,rfl,HV3.out,HB3.out⟩
 ·rw[if_neg hst]at h HC;cases h;clear hst
  go_wp2_with (go_at_call 55;refine stopper ?_)
  unfold Hold;refine HC.out.mono ?_;rintro e w1 ⟨rfl,hb⟩;have HB1:=Aside0.mk hb;clear hb;go_wp2;refine bodyPost_ret (results_tmp2 rfl _ _ _) rfl ⟨_,rfl,Kd.S_nil _ _ _ _ _,HB1.out⟩
end Go.Proofs.Ytepjhdblmghckaa.G
namespace Go.Proofs.Ytepjhdblmghckaa.G
open Go.Proofs.Ytepjhdblmghckaa.Q Go.Proofs.Ytepjhdblmghckaa.K Go.Proofs.Ytepjhdblmghckaa.Bf
open Go.RowKit Go.Shelf Go.Proofs.YtepjhdblmghckaaW.PrintWords Go.Proofs.YtepjhdblmghckaaW.PrintLast Go.Proofs.YtepjhdblmghckaaW.PrintMore
attribute [local go_sem] max2_int min2_int max_two min_two
def spanOf (pl:List Int) (line:Nat):Int×Int:=(min (nth pl (2*line)) (nth pl (2*line+1)),max (nth pl (2*line)) (nth pl (2*line+1)))
set_option maxRecDepth 100000 in
set_option maxHeartbeats 4000000 in
theorem span_calls (b base:Nat) (s:List Int) (hs:s.length≤40) (line:Nat) (hline:line≤s.length) (w:World) (hP:PicOk base b s w):
  Calls Try.prog 92 #[.pointer (some ⟨b,0,none⟩), .int .i64 (line:Int)] w fun e w'=>e= .returned (.agg #[.int .i64 (spanOf (plL s) line).1, .int .i64 (spanOf (plL s) line).2])∧Below w.heap.size w w':=by
 obtain⟨n,hn⟩: ∃n,s.length=n:=⟨_,rfl⟩;obtain⟨A,c,A2,c2,hbb,hpp,hqq⟩:=hP;rw[hn]at hs hline hbb hpp hqq;obtain⟨pl,hple⟩: ∃pl,plL s=pl:=⟨_,rfl⟩;rw[hple]at hqq ⊢;obtain⟨W0,hW0⟩: ∃W0,w.alloc (.cells #[.int .i64 0, .int .i64 0] 124)=W0:=⟨_,rfl⟩;have hB:Below w.heap.size w W0:=by rw[←hW0];exact(Below.refl _ w).alloc (Nat.le_refl _) _
 have hN:Blk W0 w.heap.size #[.int .i64 0, .int .i64 0] 124:=by rw[←hW0];exact Blk.new _ _ _
 have hb1:=(hbb.below hB hbb.lt).cell 1 (v:= .slice A2 (2*n+2) c2) rfl;obtain⟨ad,e1,hc1⟩:=Kd.at_int (Kd.C_below (Kd.R_reads' hqq).2.2 hB) ((2*line:Nat):Int) tO (by first|omega|(have:=(Kd.R_reads' hqq).1;omega));obtain⟨ad',e2,hc2⟩:=Kd.at_int (Kd.C_below (Kd.R_reads' hqq).2.2 hB) ((2*line+1:Nat):Int) tO (by first|omega|(have:=(Kd.R_reads' hqq).1;omega));rw[rd_nth,Int.toNat_natCast]at hc1 hc2;subst e1;cases e2;unfold spanOf;obtain⟨x,hx⟩: ∃x,nth pl (2*line)=x:=⟨_,rfl⟩;obtain⟨y,hy⟩: ∃y,nth pl (2*line+1)=y:=⟨_,rfl⟩;rw[hx]at hc1 ⊢;rw[hy]at hc2 ⊢;have hw1:IntKind.i64.wrap (2*(line:Int))=2*(line:Int):=iw64 tO tO;have hw2:IntKind.i64.wrap (2*(line:Int)+1)=2*(line:Int)+1:=iw64 tO tO;have ht1:(2*(line:Int)).toNat=2*line:=by omega
 have ht2:(2*(line:Int)+1).toNat=2*line+1:=by omega
 have hi0:(0:Int)≤2*(line:Int):=by omega
 have hi1:2*(line:Int)< 2*(n:Int)+2:=by omega
 have hi2:(0:Int)≤2*(line:Int)+1:=by omega
 have hi3:2*(line:Int)+1< 2*(n:Int)+2:=by omega
 have hc3:W0.cell? { block:=ad.block,off:=ad.off+(2*line+1) } =some (.int .i64 y):=by
  have h:=hc2;simp only[Addr.add]at h
  first|exact h|(split at h<;>first|omega|exact h)|simpa using h
 have HB:=Aside0.mk hB;have HN:=Aside0.mk hN;have n0:=hN.cell 0 (v:= .int .i64 0) rfl;have n1:=hN.cell 1 (v:= .int .i64 0) rfl;have f0:=hN.free 0;have f1:=hN.free 1;clear hbb hpp hqq hB hN hx hy hple hn
 go_enter Try.func92,Try.ntmps92
 go_upto_region 1 with fail
 (try rw[hW0]);clear hW0;go_quiet (fail);have HB2:=Aside0.mk (pw_below_drewN HB.out nq);rcases Int.lt_trichotomy x y with hlt|rfl|hgt
 ·have m1:min x y=x:=by omega
  have m2:max x y=y:=by omega
  have q1: ¬y< x:=by omega
  have q2: ¬y≤x:=by omega
  have q3:x≤y:=by omega
  have M12:=Aside0.mk (And.intro m1 m2);clear m1 m2;go_wp2;refine bodyPost_ret (results_cell_row rfl _ _ w.heap.size 124 #[.int .i64 x, .int .i64 y] (0,0) _ rfl (show Blk _ w.heap.size _ 124 from by simpa using((HN.out.drewN nq).set 0 (.int .i64 x)).set 1 (.int .i64 y)) Try.underlying124 rfl tK) rfl ⟨by rw[M12.out.1,M12.out.2],(HB2.out.setCell (Nat.le_refl _) _).setCell (Nat.le_refl _) _⟩
 ·have m1:min x x=x:=by omega
  have m2:max x x=x:=by omega
  have M12:=Aside0.mk (And.intro m1 m2);clear m1 m2;go_wp2;refine bodyPost_ret (results_cell_row rfl _ _ w.heap.size 124 #[.int .i64 x, .int .i64 x] (0,0) _ rfl (show Blk _ w.heap.size _ 124 from by simpa using((HN.out.drewN nq).set 0 (.int .i64 x)).set 1 (.int .i64 x)) Try.underlying124 rfl tK) rfl ⟨by rw[M12.out.1,M12.out.2],(HB2.out.setCell (Nat.le_refl _) _).setCell (Nat.le_refl _) _⟩
 ·have m1:min x y=y:=by omega
  have m2:max x y=x:=by omega
  have q1: ¬x< y:=by omega
  have q2: ¬x≤y:=by omega
  have q3:y≤x:=by omega
  have M12:=Aside0.mk (And.intro m1 m2);clear m1 m2;go_wp2;refine bodyPost_ret (results_cell_row rfl _ _ w.heap.size 124 #[.int .i64 y, .int .i64 x] (0,0) _ rfl (show Blk _ w.heap.size _ 124 from by simpa using((HN.out.drewN nq).set 0 (.int .i64 y)).set 1 (.int .i64 x)) Try.underlying124 rfl tK) rfl ⟨by rw[M12.out.1,M12.out.2],(HB2.out.setCell (Nat.le_refl _) _).setCell (Nat.le_refl _) _⟩
end Go.Proofs.Ytepjhdblmghckaa.G
namespace Go.Proofs.Ytepjhdblmghckaa.G
open Go.Proofs.Ytepjhdblmghckaa.Q Go.Proofs.Ytepjhdblmghckaa.K Go.Proofs.Ytepjhdblmghckaa.Bf
open Go.RowKit Go.Shelf Go.Proofs.YtepjhdblmghckaaW.PrintWords Go.Proofs.YtepjhdblmghckaaW.PrintLast Go.Proofs.YtepjhdblmghckaaW.PrintMore
theorem eq124 (W:World) (a b c d:Int):(Op.equalIn 10000 124 (.agg #[.int .i64 a, .int .i64 b]) (.agg #[.int .i64 c, .int .i64 d])).run Try.prog W= .ok (a==c&&b==d) W:=by
 have hu0:=Try.underlying124;have hf:=show Try.prog.fieldsOf 124=_ from by unfold Program.fieldsOf;rw[hu0]
 have hu:Try.prog.underlying 124=some (.struct (Try.prog.fieldsOf 124)):=by rw[hf];exact hu0
 have hp:Try.prog.stoodInHeld 124=false:=by kernel_rfl
 rw[show(10000:Nat)=9999+1 from rfl,run_equalIn_struct W 9999 124 _ _ hu hp,hf];have e1: ∀x y:Int,(Op.equalIn 9999 3 (.int .i64 x) (.int .i64 y)).run Try.prog W= .ok (x==y) W:=fun x y=>run_equalIn_int W 9998 3 .i64 .i64 x y Try.underlying3;have p0: ∀x y:Int,(part 3 #[Value.int .i64 x,Value.int .i64 y] 0).run Try.prog W= .ok (.int .i64 x) W:=fun x y=>by simp[part,Try.isAgg3]
 have p1: ∀x y:Int,(part 3 #[Value.int .i64 x,Value.int .i64 y] 1).run Try.prog W= .ok (.int .i64 y) W:=fun x y=>by simp[part,Try.isAgg3]
 simp only[Op.eqFields,Sem.run_bind,p0,p1,e1,Result.andThen_ok];by_cases h:a=c<;>by_cases k:b=d<;>simp[h,k,Sem.run_pure,p0,p1,e1,Result.andThen_ok]
def crossB (a b:Int×Int):Bool:=!(a.1==b.1&&a.2==b.2)&&((decide (a.1< b.1)&&decide (b.1< a.2)&&decide (a.2< b.2))||(decide (b.1< a.1)&&decide (a.1< b.2)&&decide (b.2< a.2)))
set_option maxRecDepth 100000 in
set_option maxHeartbeats 8000000 in
theorem cross_calls (x0 x1 y0 y1:Int) (w:World):
  Calls Try.prog 93 #[.agg #[.int .i64 x0, .int .i64 x1], .agg #[.int .i64 y0, .int .i64 y1]] w fun e w'=>e= .returned (.bool (crossB (x0,x1) (y0,y1)))∧Below w.heap.size w w':=by
 unfold crossB;simp only;have heq:=fun W=>eq124 W x0 x1 y0 y1;obtain⟨W0,hW0⟩: ∃W0,(w.alloc (.cells #[.int .i64 x0, .int .i64 x1] 124)).alloc (.cells #[.int .i64 y0, .int .i64 y1] 124)=W0:=⟨_,rfl⟩;have hB:Below w.heap.size w W0:=by rw[←hW0];exact((Below.refl _ w).alloc (Nat.le_refl _) _).alloc tS _
 have h0:Blk W0 w.heap.size #[.int .i64 x0, .int .i64 x1] 124:=by rw[←hW0];exact(Blk.new _ _ _).alloc _
 have h1:Blk W0 (w.heap.size+1) #[.int .i64 y0, .int .i64 y1] 124:=by
  rw[←hW0];have:=Blk.new (w.alloc (.cells #[.int .i64 x0, .int .i64 x1] 124)) #[.int .i64 y0, .int .i64 y1] 124;rw[World.size_alloc]at this;exact this
 have a0:=h0.cell 0 (v:= .int .i64 x0) rfl;have a1:=h0.cell 1 (v:= .int .i64 x1) rfl;have b0:=h1.cell 0 (v:= .int .i64 y0) rfl;have b1:=h1.cell 1 (v:= .int .i64 y1) rfl;have HB:=Aside0.mk hB;clear h0 h1 hB;obtain⟨q,hq⟩: ∃q,(x0==y0&&x1==y1)=q:=⟨_,rfl⟩;rw[hq]at heq ⊢;clear hq
 go_enter Try.func93,Try.ntmps93
 go_upto_region 1 with fail
 (try rw[hW0]);clear hW0;cases q
 ·by_cases c1:x0< y0<;>by_cases c2:y0< x1<;>by_cases c3:x1< y1<;>by_cases c4:y0< x0<;>by_cases c5:x0< y1<;>by_cases c6:y1< x1<;>first
   |(exfalso;omega)
   |(go_wp2;go_ret;exact⟨by simp[c1,c2,c3,c4,c5,c6],HB.out⟩)
 ·go_wp2;go_ret;exact⟨by simp,HB.out⟩
def idxI {α:Type} (p:α→Bool) (l:List α):Int:=if l.any p=true then((l.findIdx p:Nat):Int)else -1
theorem idxI_hit {α:Type} {p:α→Bool} {l:List α} (z:α) {k:Nat} (hk:k< l.length) (h:p (l.getD k z)=true) (hm: ∀j,j< k→p (l.getD j z)=false):idxI p l=(k:Int):=by
 have hg: ∀j (hj:j< l.length),l.getD j z=l[j]:=fun j hj=>by simp[List.getD_eq_getElem?_getD,hj]
 have e:l.findIdx p=k:=by
  rw[List.findIdx_eq hk];exact⟨by rw[←hg k hk];exact h,fun j hj=>by rw[←hg j tO];exact hm j hj⟩
 unfold idxI;rw[if_pos (by rw[List.any_eq_true];exact⟨l[k],List.getElem_mem hk,by rw[←hg k hk];exact h⟩),e]
theorem idxI_miss {α:Type} {p:α→Bool} {l:List α} (z:α) (hm: ∀j,j< l.length→p (l.getD j z)=false):idxI p l= -1:=by
 unfold idxI;rw[if_neg];rw[List.any_eq_true];rintro⟨x,hx,hp⟩;obtain⟨j,hj,rfl⟩:=List.mem_iff_getElem.1 hx;have:=hm j hj;rw[List.getD_eq_getElem?_getD,List.getElem?_eq_getElem hj]at this;simp only[Option.getD_some]at this;rw[this]at hp;cases hp
set_option maxRecDepth 100000 in
set_option maxHeartbeats 4000000 in
theorem idx101_calls (g:Nat) (lb:Array Value) (eg: ∀args w,(callFunc g args).run Try.prog w= .ok (.enter g args) w) (p:Int→Bool) (A:Option Addr) (c:Nat) (l:List Int) (w:World) (hC:Kd.C (Kd.int .i64) w A l.length l) (hl:l.length≤1000000)
  (hp: ∀x,x∈l→ ∀W,Below w.heap.size w W→Calls Try.prog g (#[.int .i64 x]++lb) W fun e W'=>e= .returned (.bool (p x))∧Below W.heap.size W W'):
  Calls Try.prog 101 #[.slice A l.length c, .func (.func g) #[] lb] w fun e w'=>e= .returned (.int .i64 (idxI p l))∧Below w.heap.size w w':=by
 obtain⟨n,hn⟩: ∃n,l.length=n:=⟨_,rfl⟩;have HC:=Aside0.mk hC;have HP:=Aside0.mk hp;have HN:=Aside0.mk hn;rw[hn]at hl HC ⊢;clear hC hp hn
 go_enter Try.func101,Try.ntmps101
 go_wp2
 go_loopw [5,8] (fun _ s8 wr=> ∃k:Nat,k≤n∧s8= .int .i64 (k:Int)∧Aside0 (Below w.heap.size w wr)∧Aside0 (∀j,j< k→p (l.getD j 0)=false)) (fun _ s8 _=>n - (intOf s8).toNat)
 case atStart=>exact⟨0,Nat.zero_le _,rfl,⟨Below.refl _ _⟩,⟨fun j hj=>absurd hj (Nat.not_lt_zero _)⟩⟩
 case round=>
  obtain⟨k,hk,rfl,HB,HA⟩:=hrel;by_cases hlt:k< n
  ·have hi0:(0:Int)≤(k:Int):=by omega
   have hi1:(k:Int)< (n:Int):=by omega
   obtain⟨ad,e1,hc1⟩:=Kd.at_int (Kd.C_below HC.out HB.out) (k:Int) hi0 tO;rw[rd_nth,Int.toNat_natCast]at hc1
   have hmem:l.getD k 0∈l:=by
    rw[List.getD_eq_getElem?_getD,List.getElem?_eq_getElem (by rw[HN.out];exact hlt)];exact List.getElem_mem _
   have hcall:=HP.out _ hmem wr HB.out;have hwt:IntKind.i64.wrap ((k:Int)+1)=((k+1:Nat):Int):=by rw[iw64 tO tO];omega
   have HNT:=Aside0.mk (show nth l k=l.getD k 0 from rfl);rw[HNT.out]at hc1;obtain⟨x,hx⟩: ∃x,l.getD k 0=x:=⟨_,rfl⟩;rw[hx]at hc1 hcall;have HX:=Aside0.mk hx;subst e1;clear hx hmem;cases hq:p x with
   |true=>
    rw[hq]at hcall;have HQ:=Aside0.mk hq;have HCL:=Aside0.mk hcall;clear hq hcall
    go_wp2_with (go_at_fn g;refine stopper ?_)
    unfold Hold;refine HCL.out.mono ?_;rintro e w2 ⟨rfl,hb⟩;have HB2:=Aside0.mk (HB.out.trans (hb.mono HB.out.size));clear hb;go_wp2;go_ret;exact⟨by rw[idxI_hit 0 (by rw[HN.out];exact hlt) (by rw[HX.out];exact HQ.out) HA.out];rfl,HB2.out⟩
   | false=>
    rw[hq]at hcall;have HQ:=Aside0.mk hq;have HCL:=Aside0.mk hcall;clear hq hcall
    go_wp2_with (go_at_fn g;refine stopper ?_)
    unfold Hold;refine HCL.out.mono ?_;rintro e w2 ⟨rfl,hb⟩;have HB2:=Aside0.mk (HB.out.trans (hb.mono HB.out.size));clear hb;go_wp2
    go_roundw
    case rel=>exact⟨k+1,by omega,rfl,HB2,⟨fun j hj=>by
     by_cases e:j=k
     ·subst e;rw[HX.out];exact HQ.out
     ·exact HA.out j tO⟩⟩
    case measure=>simp[intOf];omega
  ·have hi1: ¬(k:Int)< (n:Int):=by omega
   have HKN:=Aside0.mk (show k=n by omega);go_wp2;go_ret;exact⟨by rw[idxI_miss 0 (fun j hj=>HA.out j (by have:=HN.out;have:=HKN.out;omega))];rfl,HB.out⟩
set_option maxRecDepth 100000 in
set_option maxHeartbeats 4000000 in
theorem any89_calls (g:Nat) (lb:Array Value) (eg: ∀args w,(callFunc g args).run Try.prog w= .ok (.enter g args) w) (p:Int→Bool) (A:Option Addr) (c:Nat) (l:List Int) (w:World) (hC:Kd.C (Kd.int .i64) w A l.length l) (hl:l.length≤1000000)
  (hp: ∀x,x∈l→ ∀W,Below w.heap.size w W→Calls Try.prog g (#[.int .i64 x]++lb) W fun e W'=>e= .returned (.bool (p x))∧Below W.heap.size W W'):
  Calls Try.prog 89 #[.slice A l.length c, .func (.func g) #[] lb] w fun e w'=>e= .returned (.bool (l.any p))∧Below w.heap.size w w':=by
 have HI:=Aside0.mk (idx101_calls g lb eg p A c l w hC hl hp);clear hC hp
 go_enter Try.func89,Try.ntmps89
 go_wp2_with (go_at_call 101;refine stopper ?_)
 unfold Hold;refine HI.out.mono ?_;rintro e w2 ⟨rfl,hb⟩;have HB:=Aside0.mk hb;clear hb;have HQ0:=Aside0.mk (rfl:l.any p=l.any p);obtain⟨q,hqe⟩: ∃q,l.any p=q:=⟨_,rfl⟩;have HQ:=Aside0.mk hqe;cases q with
 |true=>
  have hq:=HQ.out;have e:idxI p l=((l.findIdx p:Nat):Int):=by unfold idxI;rw[if_pos hq]
  rw[e];have hge:(0:Int)≤((l.findIdx p:Nat):Int):=by omega
  obtain⟨m,hm⟩: ∃m,l.findIdx p=m:=⟨_,rfl⟩;rw[hm]at hge ⊢;clear hq e hqe hm;go_wp2;go_ret;exact⟨by rw[HQ.out];rfl,HB.out⟩
 |false=>
  have hq:=HQ.out;have e:idxI p l= -1:=by unfold idxI;rw[if_neg (by rw[hq];simp)]
  rw[e];clear hq e hqe;go_wp2;go_ret;exact⟨by rw[HQ.out];rfl,HB.out⟩
set_option maxRecDepth 100000 in
set_option maxHeartbeats 4000000 in
theorem idx94_calls (g:Nat) (lb:Array Value) (eg: ∀args w,(callFunc g args).run Try.prog w= .ok (.enter g args) w) (p:List Int→Bool) (A:Option Addr) (c:Nat) (l:List (List Int)) (w:World) (hC:Kd.C (Kd.slice 3 (Kd.int .i64)) w A l.length l) (hl:l.length≤1000000)
  (hp: ∀x,x∈l→ ∀W A' c',Below w.heap.size w W→x.length≤c'→Kd.C (Kd.int .i64) W A' x.length x→Calls Try.prog g (#[.slice A' x.length c']++lb) W fun e W'=>e= .returned (.bool (p x))∧Below W.heap.size W W'):
  Calls Try.prog 94 #[.slice A l.length c, .func (.func g) #[] lb] w fun e w'=>e= .returned (.int .i64 (idxI p l))∧Below w.heap.size w w':=by
 obtain⟨n,hn⟩: ∃n,l.length=n:=⟨_,rfl⟩;have HC:=Aside0.mk hC;have HP:=Aside0.mk hp;have HN:=Aside0.mk hn;rw[hn]at hl HC ⊢;clear hC hp hn
 go_enter Try.func94,Try.ntmps94
 go_wp2
 go_loopw [5,8] (fun _ s8 wr=> ∃k:Nat,k≤n∧s8= .int .i64 (k:Int)∧Aside0 (Below w.heap.size w wr)∧Aside0 (∀j,j< k→p (l.getD j [])=false)) (fun _ s8 _=>n - (intOf s8).toNat)
 case atStart=>exact⟨0,Nat.zero_le _,rfl,⟨Below.refl _ _⟩,⟨fun j hj=>absurd hj (Nat.not_lt_zero _)⟩⟩
 case round=>
  obtain⟨k,hk,rfl,HB,HA⟩:=hrel;by_cases hlt:k< n
  ·have hi0:(0:Int)≤(k:Int):=by omega
   have hi1:(k:Int)< (n:Int):=by omega
   obtain⟨ad,cs,e1,_,⟨A',c',e2,hl2,hc2⟩,hc1⟩:=Kd.C_get (Kd.C_below HC.out HB.out) [] (k:Int) hi0 tO;subst e2;have hc1:=hc1 0 _ rfl;rw[Int.toNat_natCast,show(Kd.slice 3 (Kd.int .i64)).sz=1 from rfl,Nat.mul_one,Nat.add_zero]at hc1;rw[Int.toNat_natCast]at hl2 hc2
   have hmem:l.getD k []∈l:=by
    rw[List.getD_eq_getElem?_getD,List.getElem?_eq_getElem (by rw[HN.out];exact hlt)];exact List.getElem_mem _
   have hcall:=HP.out _ hmem wr A' c' HB.out hl2 hc2;have hwt:IntKind.i64.wrap ((k:Int)+1)=((k+1:Nat):Int):=by rw[iw64 tO tO];omega
   obtain⟨x,hx⟩: ∃x,l.getD k []=x:=⟨_,rfl⟩;rw[hx]at hc1 hcall;have HX:=Aside0.mk hx;subst e1;clear hx hmem hl2 hc2;obtain⟨xn,hxn⟩: ∃xn,x.length=xn:=⟨_,rfl⟩;rw[hxn]at hc1 hcall;clear hxn;cases hq:p x with
   |true=>
    rw[hq]at hcall;have HQ:=Aside0.mk hq;have HCL:=Aside0.mk hcall;clear hq hcall
    go_wp2_with (go_at_fn g;refine stopper ?_)
    unfold Hold;refine HCL.out.mono ?_;rintro e w2 ⟨rfl,hb⟩;have HB2:=Aside0.mk (HB.out.trans (hb.mono HB.out.size));clear hb;go_wp2;go_ret;exact⟨by rw[idxI_hit [] (by rw[HN.out];exact hlt) (by rw[HX.out];exact HQ.out) HA.out];rfl,HB2.out⟩
   | false=>
    rw[hq]at hcall;have HQ:=Aside0.mk hq;have HCL:=Aside0.mk hcall;clear hq hcall
    go_wp2_with (go_at_fn g;refine stopper ?_)
    unfold Hold;refine HCL.out.mono ?_;rintro e w2 ⟨rfl,hb⟩;have HB2:=Aside0.mk (HB.out.trans (hb.mono HB.out.size));clear hb;go_wp2
    go_roundw
    case rel=>exact⟨k+1,by omega,rfl,HB2,⟨fun j hj=>by
     by_cases e:j=k
     ·subst e;rw[HX.out];exact HQ.out
     ·exact HA.out j tO⟩⟩
    case measure=>simp[intOf];omega
  ·have hi1: ¬(k:Int)< (n:Int):=by omega
   have HKN:=Aside0.mk (show k=n by omega);go_wp2;go_ret;exact⟨by rw[idxI_miss [] (fun j hj=>HA.out j (by have:=HN.out;have:=HKN.out;omega))];rfl,HB.out⟩
theorem PicOk.below {base b:Nat} {s:List Int} {W W':World} (h:PicOk base b s W) (hb:Below W.heap.size W W'):PicOk base b s W':=by
 obtain⟨A,c,A2,c2,h1,h2,h3⟩:=h;exact⟨A,c,A2,c2,blk_below h1 hb,Kd.R_below h2 hb,Kd.R_below h3 hb⟩
def crossL (pl:List Int) (x y:Int):Bool:=crossB (spanOf pl x.toNat) (spanOf pl y.toNat)
def joinedB (pl:List Int) (a b:List Int):Bool:=a.any fun x=>b.any fun y=>crossL pl x y
set_option maxRecDepth 100000 in
set_option maxHeartbeats 4000000 in
theorem c91_calls (b base bx xx:Nat) (s:List Int) (hs:s.length≤40) (w:World) (hP:PicOk base b s w) (hbx:Blk w bx #[.pointer (some ⟨b,0,none⟩)] 79) (x y:Nat) (hxx:Blk w xx #[.int .i64 (x:Int)] 3) (hx:x≤s.length) (hy:y≤s.length):
  Calls Try.prog 91 #[.int .i64 (y:Int), .pointer (some ⟨bx,0,none⟩), .pointer (some ⟨xx,0,none⟩)] w fun e w'=>e= .returned (.bool (crossB (spanOf (plL s) x) (spanOf (plL s) y)))∧Below w.heap.size w w':=by
 have k0:=hbx.cell 0 (v:= .pointer (some ⟨b,0,none⟩)) rfl;have k1:=hxx.cell 0 (v:= .int .i64 (x:Int)) rfl;have HP:=Aside0.mk hP;clear hP hbx hxx
 go_enter Try.func91,Try.ntmps91
 go_upto_region 1 with fail
 refine start_ (n:=8) (S:=fun w'=>w'.cell? ⟨bx,0,none⟩=some (.pointer (some ⟨b,0,none⟩))∧w'.cell? ⟨xx,0,none⟩=some (.int .i64 (x:Int))) (ds:= []) #[false,false,false,false,false,false,false,false] tK rfl rfl ⟨k0,k1⟩ (fun hHeld=>?_);refine take_ (i:=0) (N:=(some 5)) (v:=?_) (a':=?_) #[true,false,false,false,false,false,false,false] rfl rfl tK (fun _ _ _ h=>h) (Or.inl ⟨by rfl,?_⟩) hHeld ?_ ?_;rotate_left
 ·rintro w' ⟨s0,s1⟩;go_simp;with_reducible rfl
 rotate_left
 ·simp only[Act.put,List.setIfInBounds_toArray,List.set_cons_zero,List.set_cons_succ];rfl
 refine take_ (i:=1) (N:=(some 6)) (v:=?_) (a':=?_) #[true,true,false,false,false,false,false,false] rfl rfl tK (fun _ _ _ h=>h) (Or.inl ⟨by rfl,?_⟩) hHeld ?_ ?_;rotate_left
 ·rintro w' ⟨s0,s1⟩;go_simp;with_reducible rfl
 rotate_left
 ·simp only[Act.put,List.setIfInBounds_toArray,List.set_cons_zero,List.set_cons_succ];rfl
 refine take_ (i:=3) (N:=(some 8)) (v:=?_) (a':=?_) #[true,true,false,true,false,false,false,false] rfl rfl tK (fun _ _ _ h=>h) (Or.inl ⟨by rfl,?_⟩) hHeld ?_ ?_;rotate_left
 ·rintro w' ⟨s0,s1⟩;go_simp;with_reducible rfl
 rotate_left
 ·simp only[Act.put,List.setIfInBounds_toArray,List.set_cons_zero,List.set_cons_succ];rfl
 refine puA 4 (some 9) ?_;refine one_ (i:=2) (N:=(some 7)) #[true,true,true,true,true,false,false,false] rfl rfl tK tD (fun K hK=>?_);refine goes_ Try.func92 tK rfl #[.pointer (some ⟨b,0,none⟩), .int .i64 (x:Int)] (by rfl) rfl rfl tN ?_;refine(span_calls b base s hs x hx w.drew (HP.out.below (Below.refl _ _).drew)).mono ?_;rintro e w1 ⟨rfl,hb⟩;refine⟨_,rfl,?_⟩;have hcc: ∀(p:Addr) v,w.drew.cell? p=some v→w1.cell? p=some v:=fun p v hp=>by rw[hb.cell (p:=p) (World.block_lt_of_cell? _ _ hp)];exact hp
 refine hK.out _ _ ⟨hcc _ _ hHeld.1,hcc _ _ hHeld.2⟩ (fun hHeld=>?_);have HB1:=Aside0.mk ((Below.refl w.heap.size w).drew.trans hb);clear hcc hK K hb;refine norm_ (a':=?_) ?_ ?_;rotate_left
 ·show Act.put _ (some 7) _=_;simp only[Act.put,List.setIfInBounds_toArray,List.set_cons_zero,List.set_cons_succ];rfl
 refine one_ (i:=5) (N:=(some 10)) #[true,true,true,true,true,true,false,false] rfl rfl tK tD (fun K hK=>?_);refine goes_ Try.func92 tK rfl #[.pointer (some ⟨b,0,none⟩), .int .i64 (y:Int)] (by rfl) rfl rfl tN ?_;refine(span_calls b base s hs y hy w1 (HP.out.below HB1.out)).mono ?_;rintro e w2 ⟨rfl,hb⟩;refine⟨_,rfl,?_⟩;have hcc: ∀(p:Addr) v,w1.cell? p=some v→w2.cell? p=some v:=fun p v hp=>by rw[hb.cell (p:=p) (World.block_lt_of_cell? _ _ hp)];exact hp
 refine hK.out _ _ ⟨hcc _ _ hHeld.1,hcc _ _ hHeld.2⟩ (fun hHeld=>?_);have HB2:=Aside0.mk (HB1.out.trans (hb.mono HB1.out.size));clear hcc hK K hb;refine norm_ (a':=?_) ?_ ?_;rotate_left
 ·show Act.put _ (some 10) _=_;simp only[Act.put,List.setIfInBounds_toArray,List.set_cons_zero,List.set_cons_succ];rfl
 refine one_ (i:=6) (N:=(some 11)) #[true,true,true,true,true,true,true,false] rfl rfl tK tD (fun K hK=>?_);refine goes_ Try.func93 tK rfl #[.agg #[.int .i64 (spanOf (plL s) x).1, .int .i64 (spanOf (plL s) x).2], .agg #[.int .i64 (spanOf (plL s) y).1, .int .i64 (spanOf (plL s) y).2]] (by rfl) rfl rfl tN ?_;refine(cross_calls (spanOf (plL s) x).1 (spanOf (plL s) x).2 (spanOf (plL s) y).1 (spanOf (plL s) y).2 w2).mono ?_;rintro e w3 ⟨rfl,hb⟩;refine⟨_,rfl,?_⟩;have hcc: ∀(p:Addr) v,w2.cell? p=some v→w3.cell? p=some v:=fun p v hp=>by rw[hb.cell (p:=p) (World.block_lt_of_cell? _ _ hp)];exact hp
 refine hK.out _ _ ⟨hcc _ _ hHeld.1,hcc _ _ hHeld.2⟩ (fun hHeld=>?_);have HB3:=Aside0.mk (HB2.out.trans (hb.mono HB2.out.size));clear hcc hK K hb;refine norm_ (a':=?_) ?_ ?_;rotate_left
 ·show Act.put _ (some 11) _=_;simp only[Act.put,List.setIfInBounds_toArray,List.set_cons_zero,List.set_cons_succ];rfl
 refine puA 7 (some 4) ?_;refine done_ tK ?_;go_wp2;go_ret;exact⟨rfl,HB3.out⟩
set_option maxRecDepth 100000 in
set_option maxHeartbeats 4000000 in
theorem c90_calls (b base bx bb:Nat) (s:List Int) (hs:s.length≤40) (w:World) (hP:PicOk base b s w) (hbx:Blk w bx #[.pointer (some ⟨b,0,none⟩)] 79) (A:Option Addr) (c:Nat) (l:List Int) (hbb:Blk w bb #[.slice A l.length c] 22) (hl:Kd.C (Kd.int .i64) w A l.length l) (hll:l.length≤1000000) (hm: ∀y,y∈l→0≤y∧y≤s.length) (x:Nat) (hx:x≤s.length):
  Calls Try.prog 90 #[.int .i64 (x:Int), .pointer (some ⟨bb,0,none⟩), .pointer (some ⟨bx,0,none⟩)] w fun e w'=>e= .returned (.bool (l.any fun y=>crossL (plL s) x y))∧Below w.heap.size w w':=by
 obtain⟨W0,hW0⟩: ∃W0,w.alloc (.cells #[.int .i64 (x:Int)] 3)=W0:=⟨_,rfl⟩;have hB:Below w.heap.size w W0:=by rw[←hW0];exact(Below.refl _ w).alloc (Nat.le_refl _) _
 have hN:Blk W0 w.heap.size #[.int .i64 (x:Int)] 3:=by rw[←hW0];exact Blk.new _ _ _
 have hb0:=(blk_below hbb hB).cell 0 (v:= .slice A l.length c) rfl;have HP:=Aside0.mk (hP.below hB);have HBX:=Aside0.mk (blk_below hbx hB);have HN:=Aside0.mk hN;have HL:=Aside0.mk (Kd.C_below hl hB);have HM:=Aside0.mk hm;have HB:=Aside0.mk hB;have eg:=enters_of Try.func91 tK rfl;obtain⟨n,hn⟩: ∃n,l.length=n:=⟨_,rfl⟩;have HNN:=Aside0.mk hn;rw[hn]at hb0;clear hP hbx hbb hl hm hB hN hn
 go_enter Try.func90,Try.ntmps90
 go_upto_region 1 with fail
 (try rw[hW0]);clear hW0
 go_wp2_with (go_at_call 89;refine stopper ?_)
 (try unfold Hold);rw[←HNN.out];refine(any89_calls 91 #[.pointer (some ⟨bx,0,none⟩), .pointer (some ⟨w.heap.size,0,none⟩)] eg (fun y=>crossL (plL s) x y) A c l W0 HL.out hll (fun y hy W hbw=>?_)).mono ?_
 ·have hy':=HM.out y hy;obtain⟨yn,rfl⟩:=Int.eq_ofNat_of_zero_le hy'.1;have h:=c91_calls b base bx w.heap.size s hs W (HP.out.below hbw) (blk_below HBX.out hbw) x yn (blk_below HN.out hbw) hx tO;unfold crossL;simp only[Int.toNat_natCast];exact h
 ·rintro e w1 ⟨rfl,hb⟩;have HB1:=Aside0.mk (HB.out.trans (hb.mono HB.out.size));clear hb;go_wp2;go_ret;exact⟨rfl,HB1.out⟩
set_option maxRecDepth 100000 in
set_option maxHeartbeats 4000000 in
theorem c88_calls (b base bx:Nat) (s:List Int) (hs:s.length≤40) (w:World) (hP:PicOk base b s w) (hbx:Blk w bx #[.pointer (some ⟨b,0,none⟩)] 79) (A1 A2:Option Addr) (c1 c2:Nat) (l1 l2:List Int) (h1:Kd.C (Kd.int .i64) w A1 l1.length l1) (h2:Kd.C (Kd.int .i64) w A2 l2.length l2) (hl1:l1.length≤1000000) (hl2:l2.length≤1000000) (hm1: ∀y,y∈l1→0≤y∧y≤s.length) (hm2: ∀y,y∈l2→0≤y∧y≤s.length):
  Calls Try.prog 88 #[.slice A1 l1.length c1, .slice A2 l2.length c2, .pointer (some ⟨bx,0,none⟩)] w fun e w'=>e= .returned (.bool (joinedB (plL s) l1 l2))∧Below w.heap.size w w':=by
 obtain⟨W0,hW0⟩: ∃W0,w.alloc (.cells #[.slice A2 l2.length c2] 22)=W0:=⟨_,rfl⟩;have hB:Below w.heap.size w W0:=by rw[←hW0];exact(Below.refl _ w).alloc (Nat.le_refl _) _
 have hN:Blk W0 w.heap.size #[.slice A2 l2.length c2] 22:=by rw[←hW0];exact Blk.new _ _ _
 have HP:=Aside0.mk (hP.below hB);have HBX:=Aside0.mk (blk_below hbx hB);have HN:=Aside0.mk hN;have HL1:=Aside0.mk (Kd.C_below h1 hB);have HL2:=Aside0.mk (Kd.C_below h2 hB);have HM1:=Aside0.mk hm1;have HM2:=Aside0.mk hm2;have HB:=Aside0.mk hB;have eg:=enters_of Try.func90 tK rfl
 have EC:=Aside0.mk (any89_calls 90 #[.pointer (some ⟨w.heap.size,0,none⟩), .pointer (some ⟨bx,0,none⟩)] eg (fun x=>l2.any fun y=>crossL (plL s) x y) A1 c1 l1 W0 HL1.out hl1 (fun y hy W hbw=>by
  have hy':=HM1.out y hy;obtain⟨yn,rfl⟩:=Int.eq_ofNat_of_zero_le hy'.1
  exact c90_calls b base bx w.heap.size s hs W (HP.out.below hbw) (blk_below HBX.out hbw) A2 c2 l2 (blk_below HN.out hbw) (Kd.C_below HL2.out hbw) hl2 HM2.out yn tO))
 obtain⟨n1,hn1⟩: ∃n1,l1.length=n1:=⟨_,rfl⟩;obtain⟨n2,hn2⟩: ∃n2,l2.length=n2:=⟨_,rfl⟩;rw[hn1]at EC ⊢;rw[hn2]at hW0 ⊢;clear hP hbx h1 h2 hm1 hm2 hB hN hn1 hn2
 go_enter Try.func88,Try.ntmps88
 go_upto_region 1 with fail
 (try rw[hW0]);clear hW0
 go_wp2_with (go_at_call 89;refine stopper ?_)
 (try unfold Hold);refine EC.out.mono ?_;rintro e w1 ⟨rfl,hb⟩;have HB1:=Aside0.mk (HB.out.trans (hb.mono HB.out.size));clear hb;go_wp2;go_ret;exact⟨rfl,HB1.out⟩
set_option maxRecDepth 100000 in
set_option maxHeartbeats 4000000 in
theorem c95_calls (b base bx bj bo:Nat) (s:List Int) (hs:s.length≤40) (w:World) (hP:PicOk base b s w) (hbx:Blk w bx #[.pointer (some ⟨b,0,none⟩)] 79) (hbj:Blk w bj #[.func (.func 88) #[] #[.pointer (some ⟨bx,0,none⟩)]] 39) (A1 A2:Option Addr) (c1 c2:Nat) (l1 l2:List Int) (bad:Bool) (hbo:Blk w bo #[.slice A1 l1.length c1, .bool bad] 110) (h1:Kd.C (Kd.int .i64) w A1 l1.length l1) (h2:Kd.C (Kd.int .i64) w A2 l2.length l2) (hl1:l1.length≤1000000) (hl2:l2.length≤1000000) (hm1: ∀y,y∈l1→0≤y∧y≤s.length) (hm2: ∀y,y∈l2→0≤y∧y≤s.length):
  Calls Try.prog 95 #[.slice A2 l2.length c2, .pointer (some ⟨bj,0,none⟩), .pointer (some ⟨bo,0,none⟩)] w fun e w'=>e= .returned (.bool (joinedB (plL s) l1 l2))∧Below w.heap.size w w':=by
 have k0:=hbj.cell 0 (v:= .func (.func 88) #[] #[.pointer (some ⟨bx,0,none⟩)]) rfl;have k1:=hbo.cell 0 (v:= .slice A1 l1.length c1) rfl;have EC:=Aside0.mk (c88_calls b base bx s hs w hP hbx A1 A2 c1 c2 l1 l2 h1 h2 hl1 hl2 hm1 hm2);have eg:=enters_of Try.func88 tK rfl;obtain⟨n1,hn1⟩: ∃n1,l1.length=n1:=⟨_,rfl⟩;obtain⟨n2,hn2⟩: ∃n2,l2.length=n2:=⟨_,rfl⟩;rw[hn1,hn2]at EC;rw[hn1]at k1;rw[hn2];clear hP hbx hbj hbo h1 h2 hl1 hl2 hm1 hm2 hn1 hn2
 go_enter Try.func95,Try.ntmps95
 go_wp2_with (go_at_fn 88;refine stopper ?_)
 (try unfold Hold);refine EC.out.mono ?_;rintro e w1 ⟨rfl,hb⟩;have HB1:=Aside0.mk hb;clear hb;go_wp2;go_ret;exact⟨rfl,HB1.out⟩
end Go.Proofs.Ytepjhdblmghckaa.G
namespace Go.Proofs
open Go.Shelf Go.Lib
def Try.del_ren:Go.Shelf.Ren:=⟨fun|45=>96|n=>n,fun|22=>45|23=>22|n=>n,fun|n=>n⟩
theorem Try.laysDel:SlLaysE.n45 Try.prog Try.del_ren:= {
 mixed:=by kernel_rfl
 f45:=⟨_,by kernel_rfl,Try.func96⟩
 t0:=Try.underlying0
 a0:=Try.isAgg0
 z0:=Try.sizeOf0
 v0:=Try.zeroValue0
 t3:=Try.underlying3
 a3:=Try.isAgg3
 z3:=Try.sizeOf3
 v3:=Try.zeroValue3
 t4:=Try.underlying4
 a4:=Try.isAgg4
 z4:=Try.sizeOf4
 v4:=Try.zeroValue4
 t22:=Try.underlying45
 a22:=Try.isAgg45
 z22:=Try.sizeOf45
 v22:=Try.zeroValue45
 a23:=Try.isAgg22
 z23:=Try.sizeOf22 }
end Go.Proofs
namespace Go.Proofs.Ytepjhdblmghckaa.G
open Go.Proofs.Ytepjhdblmghckaa.Q Go.Proofs.Ytepjhdblmghckaa.K Go.Proofs.Ytepjhdblmghckaa.Bf
open Go.RowKit Go.Shelf Go.Sort Go.Proofs.YtepjhdblmghckaaW.PrintWords Go.Proofs.YtepjhdblmghckaaW.PrintLast Go.Proofs.YtepjhdblmghckaaW.PrintMore
abbrev Sl3:=Option Addr×Nat×Nat
def sv (x:Sl3):Value:= .slice x.1 x.2.1 x.2.2
theorem sv_one:OneCell sv:=fun x=>rfl
def CrI (N g:Nat) (W:World) (A:Option Addr) (cap:Nat) (cs:List (List Int)):Prop:=
 cs= []∨ ∃off,∃d:Array Sl3,A=some ⟨g,off,none⟩∧d.size=cs.length∧cs.length≤cap∧cap≤9223372036854775807∧Holds sv W g off d∧
  ∀j,j< cs.length→(d[j]!).2.1=(cs.getD j []).length∧(cs.getD j []).length≤(d[j]!).2.2∧Kd.F (Kd.int .i64) W (fun k=>k≠g∧k< N) (d[j]!).1 (cs.getD j []).length (cs.getD j [])
theorem cell_same {W W':World} {a:Addr} (h:W'.heap[a.block]? =W.heap[a.block]?):W'.cell? a=W.cell? a:=by unfold World.cell?;rw[h]
theorem frozen_same {W W':World} {a:Addr} (h:W'.heap[a.block]? =W.heap[a.block]?):W'.frozen? a=W.frozen? a:=by unfold World.frozen?;rw[h]
theorem CrI.keep {N g:Nat} {W W':World} {A:Option Addr} {cap:Nat} {cs:List (List Int)} (h:CrI N g W A cap cs) (hg:g< N) (hb: ∀k,k< N→W'.heap[k]? =W.heap[k]?):CrI N g W' A cap cs:=by
 rcases h with h|⟨off,d,h1,h2,h3,h4,h5,h6⟩
 ·exact .inl h
 ·exact .inr ⟨off,d,h1,h2,h3,h4,fun j hj=>by rw[cell_same (hb g hg),frozen_same (hb g hg)];exact h5 j hj,fun j hj=>⟨(h6 j hj).1,(h6 j hj).2.1,Kd.F_step (h6 j hj).2.2 (fun k hk _=>hb k hk.2)⟩⟩
theorem CrI.at {N g:Nat} {W:World} {A:Option Addr} {cap:Nat} {cs:List (List Int)} (h:CrI N g W A cap cs) (j:Nat) (hj:j< cs.length):
  ∃off A' c',A=some ⟨g,off,none⟩∧W.cell? ⟨g,off+j,none⟩=some (.slice A' (cs.getD j []).length c')∧(cs.getD j []).length≤c'∧Kd.F (Kd.int .i64) W (fun k=>k≠g∧k< N) A' (cs.getD j []).length (cs.getD j []):=by
 rcases h with h|⟨off,d,h1,h2,h3,h4,h5,h6⟩
 ·rw[h]at hj;cases hj
 ·refine⟨off,(d[j]!).1,(d[j]!).2.2,h1,?_,(h6 j hj).2.1,(h6 j hj).2.2⟩;rw[(h5 j tO).1,←(h6 j hj).1];rfl
theorem CrI.C {N g:Nat} {W:World} {A:Option Addr} {cap:Nat} {cs:List (List Int)} (h:CrI N g W A cap cs):Kd.C (Kd.slice 3 (Kd.int .i64)) W A cs.length cs:=by
 have hlen:cs.length≤9223372036854775807:=by
  rcases h with h|⟨off,d,h1,h2,h3,h4,h5,h6⟩
  ·rw[h];simp
  ·omega
 refine⟨rfl,hlen,fun hp=>?_⟩;obtain⟨off,_,_,e,_⟩:=h.at 0 hp;refine⟨_,e,fun j p hj=>?_⟩;have hjl:=(List.getElem?_eq_some_iff.1 hj).1;obtain⟨off2,A',c',e2,hc,hl,hF⟩:=h.at j hjl;have hp:cs.getD j []=p:=by rw[List.getD_eq_getElem?_getD,hj];rfl
 rw[hp]at hc hl hF;rw[e]at e2;cases e2;refine⟨[.slice A' p.length c'],rfl,⟨A',c',rfl,hl,Kd.F_now hF⟩,fun i u hu=>?_⟩
 match i,hu with
 |0,hu=>
  cases hu;show W.cell? (Addr.add ⟨g,off,none⟩ (j*1+0))=_;rw[Addr.add_lit,Nat.mul_one,Nat.add_zero];exact hc
 |i+1,hu=>simp at hu
theorem CrI.tail {N g:Nat} {W:World} {off cap:Nat} {c:List Int} {cs:List (List Int)} (h:CrI N g W (some ⟨g,off,none⟩) cap (c::cs)):
  CrI N g W (if cap=1 then some ⟨g,off,none⟩else some ⟨g,off+1,none⟩) (cap - 1) cs:=by
 rcases h with h|⟨off',d,h1,h2,h3,h4,h5,h6⟩
 ·cases h
 ·cases h1;by_cases hc:cs= []
  ·exact .inl hc
  ·have hl:0< cs.length:=List.length_pos_iff.2 hc;simp only[List.length_cons]at h2 h3 h6
   right
   have hg: ∀j,j< cs.length→(d.extract 1 d.size)[j]! =d[j+1]! :=fun j hj=>by
    rw[getElem!_pos _ j (by simp;omega),getElem!_pos d (j+1) tO,Array.getElem_extract];congr 1;omega
   refine⟨off+1,d.extract 1 d.size,by rw[if_neg tO],by simp;omega,by omega,by omega,fun j hj=>?_,fun j hj=>?_⟩
   ·have hj':j< cs.length:=by simp at hj;omega
    rw[hg j hj',show off+1+j=off+(j+1)by omega];exact h5 (j+1) tO
   ·rw[hg j hj];exact h6 (j+1) tO
theorem choose_arr {α:Type} [Inhabited α] {n:Nat} {P:Nat→α→Prop} (h: ∀j,j< n→ ∃x,P j x): ∃d:Array α,d.size=n∧ ∀j,j< n→P j d[j]! :=by
 refine⟨Array.ofFn (n:=n) fun j=>Classical.choose (h j.1 j.2),by simp,fun j hj=>?_⟩;rw[getElem!_pos _ j (by simpa using hj),Array.getElem_ofFn];exact Classical.choose_spec (h j hj)
theorem CrI.of_R {base:Nat} {ok:Nat→Prop} {N:Nat} {W:World} {v:Value} {cs:List (List Int)} (h:Kd.R (Kd.slice 3 (Kd.int .i64)) 22 W base ok v cs) (hN:W.heap.size≤N) (hne:cs≠ []):
  ∃g cap,v= .slice (some ⟨g,0,none⟩) cs.length cap∧CrI N g W (some ⟨g,0,none⟩) cap cs∧base≤g∧g< W.heap.size:=by
 have hl:0< cs.length:=List.length_pos_iff.2 hne;obtain⟨inner,ho⟩:=Kd.R_own h;rcases ho.2 with⟨_,h0⟩|⟨g,cap,cur,rfl,hg,hh,hnc,hcm,hsz,htake⟩
 ·omega
 ·have hlt:g< W.heap.size:=(Array.getElem?_eq_some_iff.1 hh).1
  have hel: ∀j,j< cs.length→ ∃x:Sl3,(W.cell? ⟨g,0+j,none⟩=some (sv x)∧W.frozen? ⟨g,0+j,none⟩=false)∧x.2.1=(cs.getD j []).length∧(cs.getD j []).length≤x.2.2∧Kd.F (Kd.int .i64) W (fun k=>k≠g∧k< N) x.1 (cs.getD j []).length (cs.getD j []):=fun j hj=>by
   obtain⟨c,_,⟨u,rfl,hu⟩,hcell,hfz⟩:=Kd.R_elem h [] (j:Int) tO tO;rw[Int.toNat_natCast]at hu hcell hfz;have hc0:=hcell 0 u rfl;have hf0:=hfz 0;rw[show(Kd.slice 3 (Kd.int .i64)).sz=1 from rfl,Nat.mul_one,Nat.add_zero]at hc0 hf0;obtain⟨A',c',rfl⟩:=Kd.R_slice hu;refine⟨(A',(cs.getD j []).length,c'),⟨by rw[Nat.zero_add];exact hc0,by rw[Nat.zero_add];exact hf0⟩,rfl,(Kd.R_reads' hu).2.1,?_⟩;exact Kd.F_mono (Kd.F_bound (Kd.R_F hu)) (fun k hk=>⟨hk.1.2,by have:=hk.2;omega⟩)
  obtain⟨d,hd,hP⟩:=choose_arr hel;refine⟨g,cap,rfl, .inr ⟨0,d,rfl,hd,hnc,?_,fun j hj=>(hP j tO).1,fun j hj=>(hP j hj).2⟩,hg,hlt⟩;unfold maxLen at hcm;omega
theorem info22_: ∃i0,Try.prog.info? 22=some i0∧i0.size=1:=by
 have h:(Try.prog.info? 22).map (fun i=>i.size)=some 1:=by kernel_rfl
 cases hi:Try.prog.info? 22 with
 |none=>rw[hi]at h;cases h
 |some i0=>rw[hi]at h;exact⟨i0,rfl,by simpa using h⟩
set_option maxRecDepth 100000 in
theorem CrI.del {N g:Nat} {W:World} {A:Option Addr} {cap:Nat} {cs:List (List Int)} (h:CrI N g W A cap cs) (k:Nat) (hk:k< cs.length):
  Calls Try.prog 96 #[.slice A cs.length cap, .int .i64 (k:Int), .int .i64 ((k+1:Nat):Int)] W fun e W'=>e= .returned (.slice A (cs.length - 1) cap)∧CrI N g W' A cap (cs.eraseIdx k)∧Rest g W W':=by
 have hlen0:(cs.eraseIdx k).length=cs.length - 1:=List.length_eraseIdx_of_lt hk;rcases h with h|⟨off,d,rfl,h2,h3,h4,h5,h6⟩
 ·rw[h]at hk;cases hk
 ·obtain⟨i0,hi0,hz1⟩:=info22_;rw[←h2];refine(AnyE.slices_Delete Try.laysDel sv sv_one (none,0,0) Try.zeroValue22 i0 hi0 hz1 g off cap k (k+1) d W h5 tO h4 tO tO).mono ?_;rintro e W' ⟨rfl,q,rfl⟩;obtain⟨dn,hdn⟩: ∃dn:Array Sl3,(d.toList.take k++d.toList.drop (k+1)++List.replicate (k+1 - k) (none,0,0)).toArray=dn:=⟨_,rfl⟩;rw[hdn];have hsz:dn.size=d.size:=by rw[←hdn];simp;omega
  have hget: ∀j,j< d.size - 1→dn[j]! =d[if j< k then j else j+1]! :=fun j hj=>by
   have hidx:(if j< k then j else j+1)< d.size:=by split<;>omega
   rw[getElem!_pos dn j tO,getElem!_pos d _ hidx]
   have e1:dn[j]? =d[if j< k then j else j+1]? :=by
    rw[←hdn,List.getElem?_toArray,List.append_assoc];by_cases hjk:j< k
    ·rw[List.getElem?_append_left (by simp;omega),List.getElem?_take,if_pos hjk,if_pos hjk,Array.getElem?_toList]
    ·rw[List.getElem?_append_right (by simp;omega),List.getElem?_append_left (by simp;omega),List.getElem?_drop,if_neg hjk,Array.getElem?_toList];congr 1;simp;omega
   rw[Array.getElem?_eq_getElem tO,Array.getElem?_eq_getElem hidx]at e1;exact Option.some.inj e1
  have hgc: ∀j,j< cs.length - 1→(cs.eraseIdx k).getD j []=cs.getD (if j< k then j else j+1) []:=fun j hj=>by
   rw[List.getD_eq_getElem?_getD,List.getD_eq_getElem?_getD,List.getElem?_eraseIdx]
   split<;>rfl
  have hoth: ∀b,b≠g→(putRow sv (Sort.ahead W q) g off dn).heap[b]? =W.heap[b]? :=fun b hb=>by
   unfold putRow mapBlock;simp only;rw[Array.getElem?_modify,if_neg (fun e=>hb e.symm)];rfl
  have hH:=holds_putRow sv (Sort.ahead W q) g off d dn (holds_ahead sv W q g off d h5) hsz;refine⟨by rw[show k+1 - k=1 by omega],?_,⟨rfl,rfl,rfl,by simp[putRow,mapBlock,Sort.ahead],fun b _ hb=>hoth b hb⟩⟩;by_cases hc:cs.eraseIdx k= []
  ·exact .inl hc
  ·refine .inr ⟨off,dn.extract 0 (d.size - 1),rfl,by rw[hlen0];simp;omega,by omega,h4,fun j hj=>?_,fun j hj=>?_⟩
   ·have hj':j< d.size - 1:=by simp at hj;omega
    have e:(dn.extract 0 (d.size - 1))[j]! =dn[j]! :=by
     rw[getElem!_pos _ j hj,getElem!_pos dn j tO,Array.getElem_extract];congr 1;omega
    rw[e];exact hH j tO
   ·rw[hlen0]at hj
    have e:(dn.extract 0 (d.size - 1))[j]! =dn[j]! :=by
     rw[getElem!_pos _ j (by simp;omega),getElem!_pos dn j tO,Array.getElem_extract];congr 1;omega
    rw[e,hget j tO,hgc j hj];have hidx:(if j< k then j else j+1)< cs.length:=by split<;>omega
    have:=h6 _ hidx;exact⟨this.1,this.2.1,Kd.F_step this.2.2 (fun b hb _=>hoth b hb.1)⟩
end Go.Proofs.Ytepjhdblmghckaa.G
namespace Go.Proofs.Ytepjhdblmghckaa.G
open Go.Proofs.Ytepjhdblmghckaa.Q Go.Proofs.Ytepjhdblmghckaa.K Go.Proofs.Ytepjhdblmghckaa.Bf
open Go.RowKit Go.Shelf Go.Proofs.YtepjhdblmghckaaW.PrintWords Go.Proofs.YtepjhdblmghckaaW.PrintLast Go.Proofs.YtepjhdblmghckaaW.PrintMore
abbrev Cmp:=List Int×Bool
def growF (pl:List Int):Nat→Cmp→List (List Int)→Cmp×List (List Int)
 |0,o,cs=>(o,cs)
 | k+1,o,cs=>if idxI (joinedB pl o.1) cs< 0 then(o,cs)else
   growF pl k (o.1++cs.getD (idxI (joinedB pl o.1) cs).toNat [],o.2||decide (1< (cs.getD (idxI (joinedB pl o.1) cs).toNat []).length)) (cs.eraseIdx (idxI (joinedB pl o.1) cs).toNat)
def turnedB (pl:List Int) (x:Int):Bool:=decide (((spanOf pl x.toNat).2 - (spanOf pl x.toNat).1).tmod 2=0)
def cmpF (pl:List Int):Nat→List (List Int)→List Cmp→List Cmp
 |0,_,out=>out
 |_+1, [],out=>out
 |k+1,c::r,out=>cmpF pl k (growF pl r.length (c,decide (1< c.length)) r).2 (out++ [((growF pl r.length (c,decide (1< c.length)) r).1.1,(growF pl r.length (c,decide (1< c.length)) r).1.2&&!(growF pl r.length (c,decide (1< c.length)) r).1.1.any (turnedB pl))])
def cmpL (s:List Int):List Cmp:=cmpF (plL s) (circL s).length (circL s) []
structure Tot (n T:Nat) (cs:List (List Int)):Prop where
 ne: ∀c,c∈cs→0< c.length
 mem: ∀c,c∈cs→ ∀x,x∈c→0≤x∧x≤(n:Int)
 sum:(cs.map List.length).sum≤T
theorem Tot.len {n T:Nat} {cs:List (List Int)} (h:Tot n T cs):cs.length≤T:=by
 have: ∀l:List (List Int),(∀c,c∈l→0< c.length)→l.length≤(l.map List.length).sum:=by
  intro l
  induction l with
  |nil=>intro _;simp
  |cons c l ih=>
   intro h;have h1:=h c tS;have h2:=ih (fun x hx=>h x (by simp[hx]));simp only[List.length_cons,List.map_cons,List.sum_cons];omega
 exact Nat.le_trans (this cs h.ne) h.sum
theorem sum_erase: ∀(l:List Nat) (k:Nat) (hk:k< l.length),(l.eraseIdx k).sum+l.getD k 0=l.sum
 |a::l,0,_=>by simp;omega
 |a::l,k+1,hk=>by
  have:=sum_erase l k (by simpa using hk);simp only[List.eraseIdx_cons_succ,List.sum_cons,List.getD_cons_succ];omega
theorem erase_map {α β:Type} (f:α→β): ∀(l:List α) (k:Nat),(l.map f).eraseIdx k=(l.eraseIdx k).map f
 | [],_=>rfl
 |a::l,0=>rfl
 |a::l,k+1=>by simp[List.eraseIdx_cons_succ,erase_map f l k]
theorem getD_mem {α:Type} {l:List α} {k:Nat} {z:α} (hk:k< l.length):l.getD k z∈l:=by
 rw[List.getD_eq_getElem?_getD,List.getElem?_eq_getElem hk];exact List.getElem_mem hk
theorem Tot.erase {n T:Nat} {cs:List (List Int)} (h:Tot n T cs) (k:Nat) (hk:k< cs.length):Tot n (T - (cs.getD k []).length) (cs.eraseIdx k)∧(cs.getD k []).length≤T:=by
 have h1:=sum_erase (cs.map List.length) k (by simpa using hk);have h2:=h.sum
 have e1:(cs.map List.length).getD k 0=(cs.getD k []).length:=by
  rw[List.getD_eq_getElem?_getD,List.getD_eq_getElem?_getD,List.getElem?_map,List.getElem?_eq_getElem hk];rfl
 have e2:(cs.map List.length).eraseIdx k=(cs.eraseIdx k).map List.length:=erase_map ..;rw[e1,e2]at h1;refine⟨⟨fun c hc=>h.ne c (List.mem_of_mem_eraseIdx hc),fun c hc=>h.mem c (List.mem_of_mem_eraseIdx hc),by omega⟩,by omega⟩
theorem Tot.tail {n T:Nat} {c:List Int} {cs:List (List Int)} (h:Tot n T (c::cs)):Tot n (T - c.length) cs∧c.length≤T:=by
 have h2:=h.sum;simp only[List.map_cons,List.sum_cons]at h2;exact⟨⟨fun x hx=>h.ne x (by simp[hx]),fun x hx=>h.mem x (by simp[hx]),by omega⟩,by omega⟩
theorem idxI_lt {α:Type} {p:α→Bool} {l:List α} (h: ¬idxI p l< 0):(idxI p l).toNat< l.length∧idxI p l=((idxI p l).toNat:Int):=by
 unfold idxI at h ⊢;by_cases hany:l.any p=true
 ·simp only[hany,if_true,Int.toNat_natCast]at h ⊢;rw[List.any_eq_true]at hany;obtain⟨x,hx,hp⟩:=hany;exact⟨List.findIdx_lt_length_of_exists ⟨x,hx,hp⟩,by first|trivial|rfl⟩
 ·rw[if_neg hany]at h;exact absurd tD h
abbrev kCmp:Kd Cmp:=Kd.pair (Kd.slice 3 (Kd.int .i64)) Kd.bool
theorem Rest.below {g B:Nat} {w0 w W:World} (h0:Below B w0 w) (hB:B≤w.heap.size) (hg:B≤g) (h:Rest g w W):Below B w0 W:=
 ⟨h.os.trans h0.os,h.tape.trans h0.tape,h.output.trans h0.output,Nat.le_trans h0.size h.size,fun k hk=>(h.other k tO tO).trans (h0.block k hk)⟩
theorem Rest.refl (g:Nat) (w:World):Rest g w w:=⟨rfl,rfl,rfl,Nat.le_refl _,fun _ _ _=>rfl⟩
theorem Rest.trans {g:Nat} {w W W':World} (h:Rest g w W) (h':Rest g W W'):Rest g w W':=
 ⟨h'.os.trans h.os,h'.tape.trans h.tape,h'.output.trans h.output,Nat.le_trans h.size h'.size,fun k hk hg=>(h'.other k (by have:=h.size;omega) hg).trans (h.other k hk hg)⟩
theorem Rest.of_below {g B:Nat} {w W W':World} (h:Rest g w W) (hB:w.heap.size≤B) (h':Below B W W'):Rest g w W':=
 ⟨h'.os.trans h.os,h'.tape.trans h.tape,h'.output.trans h.output,Nat.le_trans h.size h'.size,fun k hk hg=>(h'.block k tO).trans (h.other k hk hg)⟩
theorem st_func {P:Program} {w:World} (a:Addr) (m:Mode) (fn:Fn) (f c:Array Value):(store a (.func fn f c) m).run P w=stored P w a (.func fn f c) m:=run_store P w a _ m rfl
attribute [local go_sem] st_func
theorem CrI.keep' {N g:Nat} {W W':World} {A:Option Addr} {cap:Nat} {cs:List (List Int)} (h:CrI N g W A cap cs) (hN:W.heap.size≤N) (hg:g< W.heap.size) (hb: ∀k,k< W.heap.size→W'.heap[k]? =W.heap[k]?):CrI N g W' A cap cs:=by
 rcases h with h|⟨off,d,h1,h2,h3,h4,h5,h6⟩
 ·exact .inl h
 ·exact .inr ⟨off,d,h1,h2,h3,h4,fun j hj=>by rw[cell_same (hb g hg),frozen_same (hb g hg)];exact h5 j hj,fun j hj=>⟨(h6 j hj).1,(h6 j hj).2.1,Kd.F_step (h6 j hj).2.2 (fun k _ hk=>hb k hk)⟩⟩
theorem cmpF_nil (pl:List Int) (f:Nat) (out:List Cmp):cmpF pl f [] out=out:=by cases f<;>rfl
theorem growF_step {pl:List Int} {own:List Int} {bad:Bool} {cs:List (List Int)} {k p:Nat} (h:idxI (joinedB pl own) cs=(k:Int)):
  growF pl (p+1) (own,bad) cs=growF pl p (own++cs.getD k [],bad||decide (1< (cs.getD k []).length)) (cs.eraseIdx k):=by
 rw[growF];simp only[h,Int.toNat_natCast];rw[if_neg tO]
theorem growF_stop {pl:List Int} {own:List Int} {bad:Bool} {cs:List (List Int)} (h:idxI (joinedB pl own) cs< 0) (k:Nat):growF pl k (own,bad) cs=((own,bad),cs):=by
 cases k with
 |zero=>rfl
 |succ k=>rw[growF,if_pos h]
theorem info110:(Try.prog.info? 110).map (fun i=>(i.zero,i.size,i.bytes))=some (some (.agg #[.slice none 0 0, .bool false]),2,32):=by kernel_rfl
structure Cm0 (w:World) (N bx bj b:Nat) (W:World):Prop where
 below:Below w.heap.size w W
 size:N≤W.heap.size
 bxb:Blk W bx #[.pointer (some ⟨b,0,none⟩)] 79
 bjb:Blk W bj #[.func (.func 88) #[] #[.pointer (some ⟨bx,0,none⟩)]] 39
theorem Cm0.rest {w:World} {N bx bj b g:Nat} {W W':World} (h:Cm0 w N bx bj b W) (hr:Rest g W W') (hx:bx≠g) (hj:bj≠g) (hg:w.heap.size≤g):Cm0 w N bx bj b W':=
 ⟨hr.below h.below h.below.size hg,Nat.le_trans h.size hr.size,(hr.other _ h.bxb.lt hx).trans h.bxb,(hr.other _ h.bjb.lt hj).trans h.bjb⟩
theorem pop45 (ad:Addr) (n c:Nat) (hc:n+1≤c) (W:World):
  (Instr.slice 45 (.slice (some ad) (n+1) c) (some (.int .i64 1)) none none).run Try.prog W= .ok (.slice (if c=1 then some ad else some (ad.add 1)) n (c - 1)) W:=by
 have he:Try.prog.elem 45=22:=by kernel_rfl
 have hu:Try.prog.underlying 45=some (.slice (Try.prog.elem 45)):=by rw[he];exact Try.underlying45
 rw[run_slice_l (P:=Try.prog) W 45 (some ad) (n+1) c hu .i64 1 tO tO,he,Try.sizeOf22];have e1:(1:Int).toNat=1:=rfl;simp only[Result.andThen,sliced,e1,Option.map_some,Nat.one_mul,Nat.add_sub_cancel]
theorem cell_alloc' {w:World} {p:Addr} {v:Value} (h:w.cell? p=some v) (o:Obj):(w.alloc o).cell? p=some v:=by
 rw[((Below.refl w.heap.size w).alloc (Nat.le_refl _) o).cell (World.block_lt_of_cell? _ _ h)];exact h
structure Own5 (N1 g:Nat) (w W:World) (bo:Nat) (v:Value) (c:List Int):Prop where
 blk:Blk W bo #[.slice none 0 0, .bool false] 110
 row:Kd.R (Kd.int .i64) 3 W N1 (fun j=>j≠bo) v c
 below:Below N1 w W
 lt:N1≤bo
theorem own5_a {wr w2:World} {N1 g:Nat} {v:Value} {c:List Int} (hN:wr.heap.size=N1) (hv:Kd.R (Kd.int .i64) 3 w2 wr.drew.heap.size (fun _=>True) v c) (hb:Below wr.drew.heap.size wr.drew w2):
  Own5 N1 g wr (w2.alloc (.cells #[.slice none 0 0, .bool false] 110)) w2.heap.size v c:=by
 have e:wr.drew.heap.size=wr.heap.size:=rfl;have h1:wr.heap.size≤w2.heap.size:=hb.size;rw[e,hN]at hv hb;exact⟨Blk.new _ _ _,Kd.R_alloc (Kd.R_mono (Kd.R_bound hv) (fun k hk=>by have:=hk.2.2.1;omega)) _,(((Below.refl N1 wr).drew).trans hb).alloc tO _,by omega⟩
theorem own5_b {wr w2:World} {N1 g:Nat} {v:Value} {c:List Int} (hN:wr.heap.size=N1) (hv:Kd.R (Kd.int .i64) 3 w2 (wr.alloc (.cells #[.slice none 0 0, .bool false] 110)).drew.heap.size (fun _=>True) v c) (hb:Below (wr.alloc (.cells #[.slice none 0 0, .bool false] 110)).drew.heap.size (wr.alloc (.cells #[.slice none 0 0, .bool false] 110)).drew w2):
  Own5 N1 g wr w2 wr.heap.size v c:=by
 have e:(wr.alloc (.cells #[.slice none 0 0, .bool false] 110)).drew.heap.size=N1+1:=by show(wr.alloc _).heap.size=_;rw[World.size_alloc,hN]
 rw[e]at hv hb;have hx:Blk (wr.alloc (.cells #[.slice none 0 0, .bool false] 110)).drew wr.heap.size #[.slice none 0 0, .bool false] 110:=(Blk.new wr _ _).drew;refine⟨hx.below hb tO,Kd.R_lower (Kd.R_mono (Kd.R_bound hv) (fun k hk=>by have:=hk.2.1;omega)) (Nat.le_succ _),?_,by omega⟩;exact((((Below.refl N1 wr).alloc tO _).drew).trans (hb.mono (Nat.le_succ _)))
set_option maxRecDepth 100000 in
set_option maxHeartbeats 8000000 in
theorem components_calls (b base:Nat) (s:List Int) (hs:s.length≤40) (hm: ∀x,x∈s→x≠0∧ -(s.length:Int)≤x∧x≤s.length) (w:World) (hP:PicOk base b s w) (T:Nat) (hT:T≤100000) (hTot:Tot s.length T (circL s)) (hne:circL s≠ []):
  Calls Try.prog 78 #[.pointer (some ⟨b,0,none⟩)] w fun e w'=> ∃v,e= .returned v∧Kd.R kCmp 110 w' w.heap.size (fun _=>True) v (cmpL s)∧Below w.heap.size w w':=by
 have HP:=Aside0.mk hP;have HTot:=Aside0.mk hTot;have HNE:=Aside0.mk hne;have HML:=Aside0.mk hm;have HCM:=Aside0.mk (show cmpL s=cmpF (plL s) (circL s).length (circL s) []from rfl);obtain⟨R0,hR0⟩: ∃R0,cmpL s=R0:=⟨_,rfl⟩;rw[hR0]at HCM ⊢;obtain⟨Wa,hWa⟩: ∃Wa,w.alloc (.cells #[.pointer (some ⟨b,0,none⟩)] 79)=Wa:=⟨_,rfl⟩;have hBa:Below w.heap.size w Wa:=by rw[←hWa];exact(Below.refl _ w).alloc (Nat.le_refl _) _
 have hXa:Blk Wa w.heap.size #[.pointer (some ⟨b,0,none⟩)] 79:=by rw[←hWa];exact Blk.new _ _ _
 have hx0:=hXa.cell 0 (v:= .pointer (some ⟨b,0,none⟩)) rfl;have HBA:=Aside0.mk hBa;have HXA:=Aside0.mk hXa;have hsa:Wa.heap.size=w.heap.size+1:=by rw[←hWa];simp
 have HSA:=Aside0.mk hsa;clear hBa hXa hP hTot hne hm hR0 hsa
 go_enter Try.func78,Try.ntmps78
 go_upto_region 1 with fail
 (try rw[hWa]);clear hWa
 go_wp2_with (go_at_call 62;refine stopper ?_)
 (try unfold Hold);refine(circles_calls b base s hs HML.out Wa (HP.out.below HBA.out)).mono ?_;rintro e w1 ⟨v1,rfl,hv1,hb1⟩;obtain⟨cs0,hcs0⟩: ∃cs0,circL s=cs0:=⟨_,rfl⟩;rw[hcs0]at HCM HTot HNE hv1;obtain⟨g,cap0,rfl,hCr,hg1,hg2⟩:=CrI.of_R (N:=w1.heap.size+1) (Kd.S_R hv1) (Nat.le_succ _) HNE.out;have HCr:=Aside0.mk hCr;have HB1:=Aside0.mk hb1;have HG:=Aside0.mk (And.intro hg1 hg2);obtain⟨n0,hn0⟩: ∃n0,cs0.length=n0:=⟨_,rfl⟩;have HN0:=Aside0.mk hn0;rw[hn0];clear hcs0 hv1 hb1 hCr hg1 hg2 hn0 hx0
 go_wp2_with fail
 obtain⟨W0,hW0⟩: ∃W0,w1.alloc (.cells #[.func (.func 88) #[] #[.pointer (some ⟨w.heap.size,0,none⟩)]] 39)=W0:=⟨_,rfl⟩;obtain⟨bx,hbx⟩: ∃bx,w.heap.size=bx:=⟨_,rfl⟩;obtain⟨bj,hbj⟩: ∃bj,w1.heap.size=bj:=⟨_,rfl⟩;have hs0:W0.heap.size=bj+1:=by rw[←hW0,←hbj];simp
 have hb0:Below bj w1 W0:=by rw[←hW0,←hbj];exact(Below.refl _ w1).alloc (Nat.le_refl _) _
 have hj0:Blk W0 bj #[.func (.func 88) #[] #[.pointer (some ⟨bx,0,none⟩)]] 39:=by
  rw[←hW0,←hbx,←hbj];exact Blk.new w1 _ 39
 have HBJ:=Aside0.mk hbj;have HBX:=Aside0.mk hbx;have HLT:=Aside0.mk (show bx< bj∧bx< g∧g< bj by have:=HG.out;have:=HSA.out;have:=HB1.out.size;omega);have HIN:=Aside0.mk (show Cm0 w (bj+1) bx bj b W0 from⟨(HBA.out.trans (HB1.out.mono HBA.out.size)).trans (hb0.mono (by have:=HLT.out;omega)),by omega,by rw[←HBX.out];exact(HXA.out.below HB1.out (by have:=HSA.out;omega)).below hb0 (by have:=HLT.out;have:=HBX.out;omega),hj0⟩)
 have HCR0:=Aside0.mk (show CrI (bj+1) g W0 (some ⟨g,0,none⟩) cap0 cs0 from by
  have h1:CrI (bj+1) g w1 (some ⟨g,0,none⟩) cap0 cs0:=by rw[←hbj];exact HCr.out
  refine CrI.keep' h1 (by have:=HBJ.out;omega) HG.out.2 (fun k hk=>hb0.block k (by have:=HBJ.out;omega)))
 have HS0:=Aside0.mk hs0;(try rw[hW0]);(try rw[hbx]);(try rw[hbj]);clear hW0 hbx hbj hs0 hb0 hj0
 go_loopw [3,5] (fun cv ov wr=> ∃(cs:List (List Int)) (n:Nat) (A:Option Addr) (cap:Nat) (out:List Cmp),cv= .slice A n cap∧Aside0 (cs.length=n)∧Aside0 (CrI (bj+1) g wr A cap cs)∧Aside0 (Kd.R kCmp 110 wr (bj+1) (fun j=>bj+1≤j) ov out)∧Aside0 (Cm0 w (bj+1) bx bj b wr)∧Aside0 (∃f,n≤f∧cmpF (plL s) f cs out=R0)∧Aside0 (Tot s.length T cs)∧Aside0 (out.length+n≤T)) (fun cv _ _=>sliceLen cv)
 case atStart=>exact⟨cs0,n0,_,cap0, [],rfl,HN0,HCR0,⟨Kd.R_nil _ _ _ _ _⟩,HIN,⟨n0,Nat.le_refl _,by rw[HCM.out,HN0.out]⟩,HTot,⟨by have:=HTot.out.len;have:=HN0.out;simp;omega⟩⟩
 case round=>
  obtain⟨cs,n,A,cap,out,rfl,HN,HCR,HO,HC0,HR,HTT,HOL⟩:=hrel;by_cases hn:n=0
  ·subst hn;go_wp2;go_ret;refine⟨_,rfl,?_,HC0.out.below⟩;have hcs:cs= []:=List.eq_nil_of_length_eq_zero HN.out;obtain⟨f,_,h1⟩:=HR.out;rw[hcs,cmpF_nil]at h1;rw[←h1];exact Kd.R_mono (Kd.R_lower HO.out (by have:=HLT.out;have:=HBX.out;omega)) (fun _ _=>trivial)
  ·obtain⟨m,rfl⟩:=Nat.exists_eq_succ_of_ne_zero hn
   obtain⟨c,r,rfl⟩: ∃c r,cs=c::r:=by
    cases cs with
    |nil=>exact absurd HN.out tS
    |cons c r=>exact⟨c,r,rfl⟩
   obtain⟨off,A',c',rfl,hhd,hl,hF⟩:=HCR.out.at 0 tS;rw[Nat.add_zero]at hhd;simp only[List.getD_cons_zero]at hhd hl hF;have hcne:=HTT.out.ne c tS;have HCL:=Aside0.mk (fun(W:World) (hW:Below wr.heap.size wr W)=>slices_Clone_int_int.calls A' c' c c W (Kd.C_below (Kd.F_now hF) hW) hl (by unfold slices_Clone_int_int.f;rw[if_pos ⟨hcne,by have:=HTT.out.tail.2;omega⟩]));have HF:=Aside0.mk hF;obtain⟨cn,hcn⟩: ∃cn,c.length=cn:=⟨_,rfl⟩;have HCN:=Aside0.mk hcn;rw[hcn]at hhd HCL hl;obtain⟨N1,hN1⟩: ∃N1,wr.heap.size=N1:=⟨_,rfl⟩;have HN1:=Aside0.mk hN1;clear hF hcne hcn hN1 hn;have hi0:(0:Int)< (m:Int)+1:=by omega
   go_upto_region 5 with fail
   apply wp_scope_straight;apply wp_seq_k;intro _ _;refine start_ (n:=12) (S:=fun w'=>w'.cell? ⟨g,off,none⟩=some (.slice A' cn c')) (ds:= [11]) #[false,false,false,false,false,false,false,false,false,false,false,false] tK rfl rfl hhd (fun hHeld=>?_);refine puA 0 (some 17) ?_;refine puA 1 (some 18) ?_;refine take_ (i:=2) (N:=(some 19)) (v:=?_) (a':=?_) #[true,true,true,false,false,false,false,false,false,false,false,false] rfl rfl tK (fun _ _ _ h=>h) (Or.inl ⟨by rfl,?_⟩) hHeld ?_ ?_;rotate_left
   ·rintro w' s0;go_simp;with_reducible rfl
   rotate_left
   ·simp only[Act.put,List.setIfInBounds_toArray,List.set_cons_zero,List.set_cons_succ];rfl
   refine puA 4 (some 21) ?_;refine puA 5 (some 22) ?_;refine take_ (i:=6) (N:=(some 23)) (v:=?_) (a':=?_) #[true,true,true,false,true,true,true,false,false,false,false,false] rfl rfl tK (fun _ _ _ h=>h) (Or.inl ⟨by rfl,?_⟩) hHeld ?_ ?_;rotate_left
   ·rintro w' s0;go_simp;with_reducible rfl
   rotate_left
   ·simp only[Act.put,List.setIfInBounds_toArray,List.set_cons_zero,List.set_cons_succ];rfl
   refine puA 7 (some 24) ?_;refine puA 8 (some 25) ?_;refine join_ (σ:=(Option Addr×Nat)×Nat) 1 #[true,true,true,true,true,true,true,true,true,true,true,false] (fun s=> [(20, .slice s.1.1 cn s.1.2),(26, .agg #[.slice s.1.1 cn s.1.2, .bool (decide ((1:Int)< (cn:Int)))]),(6, .pointer (some ⟨s.2,0,none⟩))]) (fun s w'=>Own5 N1 g wr w' s.2 (.slice s.1.1 cn s.1.2) c) ?_ ?_;rotate_left
   ·intro hcont;refine two_ (i:=3) (j:=10) (Ni:=(some 20)) (Nj:=(some 6)) #[true,true,true,true,true,true,true,true,true,false,false,false] #[true,true,true,false,true,true,true,true,true,false,true,false] rfl rfl rfl rfl tK tD tD (fun K hK=>?_) (fun K hK=>?_)
    ·skip
     refine goes_ Try.func74 tK rfl #[.slice A' cn c'] (by rfl) rfl rfl tN ?_;refine(HCL.out wr.drew ((Below.refl _ _).drew)).mono ?_;rintro e w2 ⟨v2,rfl,hv2,hb2⟩;obtain⟨Av,cv,ev⟩:=Kd.R_slice hv2;rw[HCN.out]at ev;subst ev;refine⟨_,rfl,?_⟩;refine hK.out _ _ (by rw[hb2.cell (World.block_lt_of_cell? _ _ hHeld)];exact hHeld) (fun hHeld=>?_);have HV2:=Aside0.mk hv2;have HB2:=Aside0.mk hb2;clear hv2 hb2 hK K;refine norm_ (a':=?_) ?_ ?_;rotate_left
     ·show Act.put _ (some 20) _=_;simp only[Act.put,List.setIfInBounds_toArray,List.set_cons_zero,List.set_cons_succ];rfl
     refine puA 9 (some 26) ?_;refine one_ (i:=10) (N:=(some 6)) #[true,true,true,true,true,true,true,true,true,true,true,false] rfl rfl tK tD (fun K hK=>?_);rw[if_pos (by rfl)];have HK:=Aside0.mk hK.out;clear hK;unfold Oper.wp;go_simp;refine HK.out _ _ (cell_alloc' hHeld _) (fun hHeld=>?_);exact hcont ((Av,cv),w2.heap.size) _ (own5_a HN1.out HV2.out HB2.out)
    ·skip
     rw[if_pos (by rfl)];have HK:=Aside0.mk hK.out;clear hK;unfold Oper.wp;go_simp;refine HK.out _ _ (cell_alloc' hHeld _) (fun hHeld=>?_);clear HK K;refine one_ (i:=3) (N:=(some 20)) #[true,true,true,true,true,true,true,true,true,false,true,false] rfl rfl tK tD (fun K hK=>?_);refine goes_ Try.func74 tK rfl #[.slice A' cn c'] (by rfl) rfl rfl tN ?_;refine(HCL.out (wr.alloc (.cells #[.slice none 0 0, .bool false] 110)).drew (((Below.refl _ _).alloc (Nat.le_refl _) _).drew)).mono ?_;rintro e w2 ⟨v2,rfl,hv2,hb2⟩;obtain⟨Av,cv,ev⟩:=Kd.R_slice hv2;rw[HCN.out]at ev;subst ev;refine⟨_,rfl,?_⟩;refine hK.out _ _ (by rw[hb2.cell (World.block_lt_of_cell? _ _ hHeld)];exact hHeld) (fun hHeld=>?_);have HV2:=Aside0.mk hv2;have HB2:=Aside0.mk hb2;clear hv2 hb2 hK K;refine norm_ (a':=?_) ?_ ?_;rotate_left
     ·show Act.put _ (some 20) _=_;simp only[Act.put,List.setIfInBounds_toArray,List.set_cons_zero,List.set_cons_succ];rfl
     refine puA 9 (some 26) ?_;exact hcont ((Av,cv),wr.heap.size) w2 (own5_b HN1.out HV2.out HB2.out)
   rintro⟨⟨Av,cv⟩,bo⟩ w5 hF5;have HF5:=Aside0.mk hF5;have f0:=hF5.blk.cell 0 (v:= .slice none 0 0) rfl;have f1:=hF5.blk.cell 1 (v:= .bool false) rfl;have g0:=hF5.blk.free 0;have g1:=hF5.blk.free 1;clear hF5;refine norm_ (a':=?_) ?_ ?_;rotate_left
   ·simp only[putAll,Act.put,List.setIfInBounds_toArray,List.set_cons_zero,List.set_cons_succ];rfl
   refine last_ (i:=11) (N:=none) #[true,true,true,true,true,true,true,true,true,true,true,true] rfl rfl tK tD (fun K hK=>?_);rw[if_pos (by rfl)];have HK:=Aside0.mk hK.out;clear hK;unfold Oper.wp;go_simp;refine HK.out _ _ ?_;clear HK K;refine done_ tK ?_;obtain⟨q,hq⟩: ∃q,decide ((1:Int)< (cn:Int))=q:=⟨_,rfl⟩;rw[hq];have HQ:=Aside0.mk hq;obtain⟨W6,hW6⟩: ∃W6,(w5.setCell ⟨bo,0,none⟩ (.slice Av cn cv)).setCell ⟨bo,1,none⟩ (.bool q)=W6:=⟨_,rfl⟩;have HBK:=Aside0.mk (show Blk W6 bo #[.slice Av cn cv, .bool q] 110 by rw[←hW6];exact(HF5.out.blk.set 0 _).set 1 _);have HRW:=Aside0.mk (show Kd.R (Kd.int .i64) 3 W6 N1 (fun j=>j≠bo) (.slice Av cn cv) c by rw[←hW6];exact Kd.R_far (Kd.R_far HF5.out.row (fun k hk=>hk) _) (fun k hk=>hk) _);have HBW:=Aside0.mk (show Below N1 wr W6 by rw[←hW6];exact(HF5.out.below.setCell HF5.out.lt _).setCell HF5.out.lt _);have HNN:=Aside0.mk (show bj+1≤N1 by have:=HC0.out.size;have:=HN1.out;omega);have HBO:=Aside0.mk HF5.out.lt;have HCT:=Aside0.mk (CrI.tail (HCR.out.keep (by have:=HLT.out;omega) (fun k hk=>HBW.out.block k (by have:=HNN.out;omega))));have HRS:=Aside0.mk (show Rest g wr W6 from⟨HBW.out.os,HBW.out.tape,HBW.out.output,HBW.out.size,fun k hk _=>HBW.out.block k (by have:=HN1.out;omega)⟩);try rw[hW6]
   have hpop:=fun W=>pop45 ⟨g,off,none⟩ m cap (by
    rcases HCR.out with h|⟨_,_,_,_,h,_⟩
    ·cases h
    ·have:=HN.out;simp only[List.length_cons]at h this;omega) W
   rw[Addr.add_lit]at hpop;obtain⟨A2,hA2⟩: ∃A2,(if cap=1 then some (⟨g,off,none⟩:Addr)else some ⟨g,off+1,none⟩)=A2:=⟨_,rfl⟩;rw[hA2]at hpop HCT;clear hq hW6 f0 f1 g0 g1 hHeld hhd hl HF5 hA2;go_wp2
   go_step3
   go_wp2;obtain⟨wo,hwo⟩: ∃z,z=wr:=⟨_,rfl⟩;subst hwo;obtain⟨G0,hG0⟩: ∃G0,growF (plL s) m (c,q) r=G0:=⟨_,rfl⟩;have HG0:=Aside0.mk hG0;have HTL:=Aside0.mk HTT.out.tail;have HCM2:=Aside0.mk (HTT.out.mem c tS);clear hG0
   go_loopw [3] (fun cv2 wi=> ∃(cs2:List (List Int)) (n2:Nat) (A3:Option Addr) (cap2:Nat) (own:List Int) (ow:Option Addr) (oc:Nat) (bad:Bool),cv2= .slice A3 n2 cap2∧Aside0 (cs2.length=n2∧n2≤m)∧Aside0 (CrI (bj+1) g wi A3 cap2 cs2)∧Aside0 (Blk wi bo #[.slice ow own.length oc, .bool bad] 110)∧Aside0 (Kd.R (Kd.int .i64) 3 wi N1 (fun j=>j≠bo) (.slice ow own.length oc) own)∧Aside0 (Rest g wo wi)∧Aside0 (growF (plL s) n2 (own,bad) cs2=G0)∧Aside0 (Tot s.length (T - own.length) cs2)∧Aside0 (own.length≤T∧ ∀x,x∈own→0≤x∧x≤(s.length:Int))) (fun cv2 _=>sliceLen cv2)
   case atStart=>exact⟨r,m,A2,_,c,Av,cv,q,rfl,⟨by have:=HN.out;simpa using this,Nat.le_refl _⟩,HCT,⟨by rw[HCN.out];exact HBK.out⟩,⟨by rw[HCN.out];exact HRW.out⟩,HRS,HG0,⟨HTL.out.1⟩,⟨HTL.out.2,HCM2.out⟩⟩
   case round=>
    obtain⟨cs2,n2,A3,cap2,own,ow,oc,bad,rfl,HN2,HCR2,HBO2,HOW,HRE,HGR,HT2,HOM⟩:=hrel;have HC2:=Aside0.mk (HC0.out.rest HRE.out (by have:=HLT.out;omega) (by have:=HLT.out;omega) (by have:=HLT.out;have:=HBX.out;omega))
    have HIX:=Aside0.mk (idx94_calls 95 #[.pointer (some ⟨bj,0,none⟩), .pointer (some ⟨bo,0,none⟩)] (enters_of Try.func95 tK rfl) (joinedB (plL s) own) A3 cap2 cs2 wr HCR2.out.C (by have:=HT2.out.len;omega) (fun x hx W A4 c4 hbw hx1 hx2=>c95_calls b base bx bj bo s hs W (HP.out.below (HC2.out.below.trans (hbw.mono HC2.out.below.size))) (blk_below HC2.out.bxb hbw) (blk_below HC2.out.bjb hbw) ow A4 oc c4 own x bad (blk_below HBO2.out hbw) (Kd.C_below (Kd.R_reads' HOW.out).2.2 hbw) hx2 (by have:=HOM.out.1;omega) (by
     have h1:=HT2.out.sum
     have h2: ∀(l:List (List Int)),x∈l→x.length≤(l.map List.length).sum:=fun l=>by
      induction l with
      |nil=>intro h;cases h
      |cons a l ih=>
       intro h;simp only[List.map_cons,List.sum_cons];rcases List.mem_cons.1 h with rfl|h
       ·omega
       ·have:=ih h;omega
     have:=h2 cs2 hx
     omega) HOM.out.2 (HT2.out.mem x hx)))
    rw[HN2.out.1]at HIX;obtain⟨ix,hix⟩: ∃ix,idxI (joinedB (plL s) own) cs2=ix:=⟨_,rfl⟩;rw[hix]at HIX;have HIX2:=Aside0.mk hix;clear hix
    go_wp2_with (go_at_call 94;refine stopper ?_)
    (try unfold Hold);refine HIX.out.mono ?_;rintro e w2 ⟨rfl,hb2⟩;have HB2:=Aside0.mk hb2;clear hb2;by_cases hlt:ix< 0
    ·have HGS:=Aside0.mk (show G0=((own,bad),cs2)by rw[←HGR.out];exact growF_stop (by rw[HIX2.out];exact hlt) n2);have hbk:=blk_below HBO2.out HB2.out;have HCR3:=Aside0.mk (HCR2.out.keep (W':=w2) (by have:=HLT.out;omega) (fun j hj=>HB2.out.block j (by have:=HC2.out.size;omega)));have HRE3:=Aside0.mk (HRE.out.of_below HRE.out.size HB2.out);have HOW3:=Aside0.mk (Kd.R_below HOW.out HB2.out);have HC3:=Aside0.mk (HC2.out.rest (Rest.of_below (Rest.refl g wr) (Nat.le_refl _) HB2.out) (by have:=HLT.out;omega) (by have:=HLT.out;omega) (by have:=HLT.out;have:=HBX.out;omega));obtain⟨on,hon⟩: ∃on,own.length=on:=⟨_,rfl⟩;rw[hon]at hbk HOW3;have HON:=Aside0.mk hon;have HBK3:=Aside0.mk hbk;have o0:=hbk.cell 0 (v:= .slice ow on oc) rfl;have HT0:=Aside0.mk (show(bad&&!((own.take 0).any (turnedB (plL s))))=bad by simp);have HON2:=Aside0.mk (show on≤T by have:=HOM.out.1;omega);have HPR:=Aside0.mk (plL_range s);clear hbk hon;obtain⟨wi0,hwi0⟩: ∃z,z=wr:=⟨_,rfl⟩;subst hwi0;go_wp2
     go_loopw [61] (fun jv wj=> ∃j:Nat,j≤on∧jv= .int .i64 (j:Int)∧Aside0 (Blk wj bo #[.slice ow on oc, .bool (bad&&!((own.take j).any (turnedB (plL s))))] 110)∧Aside0 (Rest bo w2 wj)) (fun jv _=>on - (intOf jv).toNat)
     case atStart=>exact⟨0,Nat.zero_le _,rfl,⟨by rw[HT0.out];exact HBK3.out⟩,⟨Rest.refl _ _⟩⟩
     case round=>
      obtain⟨j,hj,rfl,HBJ2,HRJ⟩:=hrel;by_cases hjl:j< on
      ·have hj0:(0:Int)≤(j:Int):=by omega
       have hj1:(j:Int)< (on:Int):=by omega
       have HOJ:=Aside0.mk (Kd.R_step HOW3.out (fun k hk hl=>HRJ.out.other k hl hk));obtain⟨ad,e1,hc1⟩:=Kd.at_int (Kd.R_reads' HOJ.out).2.2 (j:Int) hj0 (by have:=HON.out;omega);rw[rd_nth,Int.toNat_natCast]at hc1;have hmem:nth own j∈own:=getD_mem (by rw[HON.out];exact hjl);have hx:=HOM.out.2 _ hmem
       have HTS:=Aside0.mk (show(own.take (j+1)).any (turnedB (plL s))=((own.take j).any (turnedB (plL s))||turnedB (plL s) (nth own j))by
        rw[List.take_succ_eq_append_getElem (by rw[HON.out];exact hjl),List.any_append,List.any_cons,List.any_nil,Bool.or_false];congr 2;have h1:j< own.length:=by rw[HON.out];exact hjl
        simp[nth,h1])
       obtain⟨xv,hxv⟩: ∃xv,nth own j=xv:=⟨_,rfl⟩;rw[hxv]at hc1 hx HTS;obtain⟨xl,rfl⟩:=Int.eq_ofNat_of_zero_le hx.1;have hxl:xl≤s.length:=by omega
       have hwt:IntKind.i64.wrap ((j:Int)+1)=((j+1:Nat):Int):=by rw[iw64 tO (by have:=HON2.out;omega)];omega
       have HBW2:=Aside0.mk (show Below w.heap.size w wr from HRJ.out.below HC3.out.below HC3.out.below.size (by have:=HBO.out;have:=HNN.out;have:=HLT.out;have:=HBX.out;omega));have HSP:=Aside0.mk (span_calls b base s hs xl hxl wr (HP.out.below HBW2.out));have hsr1:=HPR.out (2*xl);have hsr2:=HPR.out (2*xl+1)
       have hsp1:0≤(spanOf (plL s) xl).2 - (spanOf (plL s) xl).1∧(spanOf (plL s) xl).2 - (spanOf (plL s) xl).1≤100:=by
        unfold spanOf;simp only;omega
       have HTB:=Aside0.mk (show turnedB (plL s) ((xl:Nat):Int)=decide (((spanOf (plL s) xl).2 - (spanOf (plL s) xl).1).tmod 2=0)by unfold turnedB;rw[Int.toNat_natCast]);obtain⟨a1,ha1⟩: ∃a1,(spanOf (plL s) xl).1=a1:=⟨_,rfl⟩;obtain⟨a2,ha2⟩: ∃a2,(spanOf (plL s) xl).2=a2:=⟨_,rfl⟩;rw[ha1,ha2]at HSP hsp1 HTB;have hws:IntKind.i64.wrap (a2 - a1)=a2 - a1:=iw64 tO tO;have hbx0:=(show Blk wr bx #[.pointer (some ⟨b,0,none⟩)] 79 from(HRJ.out.other bx HC3.out.bxb.lt (by have:=HBO.out;have:=HNN.out;have:=HLT.out;omega)).trans HC3.out.bxb).cell 0 (v:= .pointer (some ⟨b,0,none⟩)) rfl;subst e1;clear hmem hx hxv hsr1 hsr2 ha1 ha2 hxl
       have hwm:IntKind.i64.wrap ((a2 - a1).tmod 2)=(a2 - a1).tmod 2:=by
        have:0≤(a2 - a1).tmod 2∧(a2 - a1).tmod 2< 2:=⟨Int.tmod_nonneg _ hsp1.1,Int.tmod_lt_of_pos _ tO⟩;exact iw64 tO tO
       go_wp2_with (go_at_call 92;refine stopper ?_)
       (try unfold Hold);refine HSP.out.mono ?_;rintro e w3 ⟨rfl,hb3⟩;obtain⟨W4,hW4⟩: ∃W4,w3.alloc (.cells #[.int .i64 a1, .int .i64 a2] 124)=W4:=⟨_,rfl⟩;have hb4:Below wr.heap.size wr W4:=by rw[←hW4];exact hb3.alloc hb3.size _
       have hbk4:=blk_below HBJ2.out hb4;have o1:=hbk4.cell 1 (v:= .bool (bad&&!((own.take j).any (turnedB (plL s))))) rfl;have p1:=hbk4.free 1;have hn4:Blk W4 w3.heap.size #[.int .i64 a1, .int .i64 a2] 124:=by rw[←hW4];exact Blk.new _ _ _
       have q0:=hn4.cell 0 (v:= .int .i64 a1) rfl;have q1:=hn4.cell 1 (v:= .int .i64 a2) rfl;have HBK5:=Aside0.mk hbk4;have HRJ4:=Aside0.mk (HRJ.out.of_below HRJ.out.size hb4);clear hbk4 hb3 hb4 hn4
       go_upto_region 16 with fail
       (try rw[hW4]);clear hW4;have hmod:(a2 - a1).tmod 2=(a2 - a1) % 2:=Int.tmod_eq_emod_of_nonneg hsp1.1;rw[hmod]at HTB;clear hmod;obtain⟨tb,htb⟩: ∃tb,((a2 - a1) % 2==0)=tb:=⟨_,rfl⟩;have HTE:=Aside0.mk (show turnedB (plL s) ((xl:Nat):Int)=tb by rw[HTB.out,←htb];rfl);cases tb
       ·go_wp2
        go_roundw
        case rel=>exact⟨j+1,by omega,rfl,⟨by rw[HTS.out,HTE.out,Bool.or_false];exact HBK5.out⟩,HRJ4⟩
        case measure=>simp[intOf];omega
       ·skip
        go_wp2
        go_roundw
        case rel=>exact⟨j+1,by omega,rfl,⟨by rw[HTS.out,HTE.out,Bool.or_true,Bool.not_true,Bool.and_false];exact HBK5.out.set 1 _⟩,⟨HRJ4.out.os,HRJ4.out.tape,HRJ4.out.output,by simpa [World.setCell]using HRJ4.out.size,fun k hk hkb=>(Below.heap_setCell _ _ _ _ hkb).trans (HRJ4.out.other k hk hkb)⟩⟩
        case measure=>simp[intOf];omega
      ·have hj1: ¬(j:Int)< (on:Int):=by omega
       have HJ:=Aside0.mk (show j=on by omega);have hOJ:=Kd.R_step HOW3.out (fun k hk hl=>HRJ.out.other k hl hk);have hBK:=HBJ2.out;rw[HJ.out,List.take_of_length_le (by have:=HON.out;omega)]at hBK;obtain⟨bd,hbd⟩: ∃bd,(bad&&!(own.any (turnedB (plL s))))=bd:=⟨_,rfl⟩;rw[hbd]at hBK;have HBD:=Aside0.mk hbd;have o0:=hBK.cell 0 (v:= .slice ow on oc) rfl;have o1:=hBK.cell 1 (v:= .bool bd) rfl;have HBKJ:=Aside0.mk hBK;have HOJ:=Aside0.mk hOJ;have hrb:=Kd.R_base hOJ;have HRB:=Aside0.mk hrb;have HUL:=Aside0.mk (Kd.R_lt HO.out);have HBB:=Aside0.mk (show bj+1≤N1∧N1≤bo∧g< bj+1∧wo.heap.size=N1∧N1≤wr.heap.size from⟨HNN.out,HBO.out,by have:=HLT.out;omega,HN1.out,by have:=HRJ.out.size;have:=HRE3.out.size;have:=HN1.out;omega⟩)
       have HOO:=Aside0.mk (show Kd.R kCmp 110 wr (bj+1) (fun j=>bj+1≤j) u5 out from Kd.R_step HO.out (fun k hk hl=>by
        have h1:=HBB.out
        exact(HRJ.out.other k (by have:=HRE3.out.size;omega) tO).trans (HRE3.out.other k hl tO)))
       clear hOJ hBK hbd hrb
       go_wp2_with ((with_reducible refine gate_builtin (b:= .append) (xs:= #[.tmp 77, .tmp 79]) rfl ?_);at_builtin;refine stopper ?_)
       (try unfold Hold);refine Kd.R_append kCmp (w0:=wr) (bj+1) rfl (.tmp 77) (.tmp 79) 106 110 (.agg #[.slice none 0 0, .bool false]) 32 rfl Try.underlying106 info110 rfl tD tD u5 out (own,bd) [.slice ow on oc, .bool bd] (fun j=>bj+1≤j) (fun k=>some k=(Value.slice ow on oc).ownBlock) rfl rfl ⟨[.slice ow on oc], [.bool bd],rfl,⟨_,rfl,Kd.R_of_own (Kd.own_of_R (Kd.R_lower HOJ.out HBB.out.1)) (fun k hk=>hk.symm)⟩,rfl⟩ (fun k hk=>⟨by have:=HRB.out k hk.symm;have:=HBB.out;omega,fun e=>by have h1:=HRB.out k hk.symm;have h2:=HUL.out k e.symm;have h3:=HBB.out;omega⟩) (fun k hk=>by have:=HBB.out;omega) HOO.out (Below.refl _ _) (by have:=HBB.out;omega) (by have:=HOL.out;omega) ?_;intro v1 wy ho hb hg hat;have HHO:=Aside0.mk ho;have HHB:=Aside0.mk hb;clear ho hb hg hat o0 o1;go_wp2;rw[Exit.noGoto_normal];go_wp2
       go_roundw
       case rel=>
        have hkeep: ∀k,k< bj+1→wy.heap[k]? =w2.heap[k]? :=fun k hk=>(HHB.out.block k hk).trans (HRJ.out.other k (by have:=HBB.out;have:=HRE3.out.size;omega) (by have:=HBB.out;omega));obtain⟨f,hf1,hf2⟩:=HR.out
        have hG:growF (plL s) r.length (c,decide (1< c.length)) r=((own,bad),cs2):=by
         have hrl:r.length=m:=by have:=HN.out;simpa using this
         have hq2:decide (1< c.length)=q:=by rw[←HQ.out,HCN.out];exact decide_eq_decide.2 tO
         rw[hrl,hq2,HG0.out,HGS.out]
        obtain⟨f',rfl⟩: ∃f',f=f'+1:=⟨f - 1,by omega⟩;rw[cmpF,hG]at hf2;simp only at hf2;rw[HBD.out]at hf2;have hbel:Below w.heap.size w wr:=HRJ.out.below HC3.out.below HC3.out.below.size (by have:=HBB.out;have:=HLT.out;have:=HBX.out;omega);refine⟨cs2,n2,A3,cap2,out++ [(own,bd)],rfl,⟨HN2.out.1⟩,⟨HCR3.out.keep (by have:=HBB.out;omega) hkeep⟩,HHO,⟨⟨hbel.trans (HHB.out.mono (by have:=HLT.out;have:=HBX.out;omega)),by have:=HBB.out;have:=HHB.out.size;omega,(hkeep _ (by have:=HLT.out;omega)).trans HC3.out.bxb,(hkeep _ tO).trans HC3.out.bjb⟩⟩,⟨f',by have:=HN2.out.2;omega,hf2⟩,⟨⟨HT2.out.ne,HT2.out.mem,by have:=HT2.out.sum;omega⟩⟩,⟨by have:=HOL.out;have:=HN2.out.2;rw[List.length_append,List.length_singleton];omega⟩⟩
       case measure=>
        simp[sliceLen];have:=HN2.out.2;omega
    ·have HK0:=Aside0.mk (idxI_lt (p:=joinedB (plL s) own) (l:=cs2) (by rw[HIX2.out];exact hlt));obtain⟨k,rfl⟩:=Int.eq_ofNat_of_zero_le (show 0≤ix by omega)
     have hkl:k< n2:=by
      have h1:=HK0.out.1;rw[HIX2.out,Int.toNat_natCast,HN2.out.1]at h1;exact h1
     have HCR3:=Aside0.mk (HCR2.out.keep (W':=w2) (by have:=HLT.out;omega) (fun j hj=>HB2.out.block j (by have:=HC2.out.size;omega)));obtain⟨off3,Ax,cx,rfl,hck,hlk,hFk⟩:=HCR3.out.at k (by rw[HN2.out.1];exact hkl);have hbk:=blk_below HBO2.out HB2.out;have o0:=hbk.cell 0 (v:= .slice ow own.length oc) rfl;have o1:=hbk.cell 1 (v:= .bool bad) rfl;have p1:=hbk.free 1;have HBK3:=Aside0.mk hbk;have HFK:=Aside0.mk hFk;have HLK:=Aside0.mk hlk;obtain⟨x,hx⟩: ∃x,cs2.getD k []=x:=⟨_,rfl⟩;rw[hx]at hck HFK HLK;have HX:=Aside0.mk hx;obtain⟨xn,hxn⟩: ∃xn,x.length=xn:=⟨_,rfl⟩;rw[hxn]at hck;have HXN:=Aside0.mk hxn;obtain⟨on,hon⟩: ∃on,own.length=on:=⟨_,rfl⟩;rw[hon]at o0;have HON:=Aside0.mk hon;have hk0:(0:Int)≤(k:Int):=by omega
     have hk1:(k:Int)< (n2:Int):=by omega
     have hkw:IntKind.i64.wrap ((k:Int)+1)=((k+1:Nat):Int):=by rw[iw64 tO (by have:=HN2.out;have:=HT2.out.len;omega)];omega
     have HNL:=Aside0.mk (show on≤T∧xn≤T∧(cs2.length≤T)by
      refine⟨by have:=HOM.out.1;omega,?_,by have:=HT2.out.len;omega⟩;have h1:=(HT2.out.erase k (by rw[HN2.out.1];exact hkl)).2;rw[hx,hxn]at h1
      omega)
     clear hbk hFk hlk hx hxn hon hlt;cases bad
     ·skip
      go_upto_region 10 with fail
      obtain⟨W3,hW3⟩: ∃W3,w2.setCell ⟨bo,1,none⟩ (.bool (decide ((1:Int)< (xn:Int))))=W3:=⟨_,rfl⟩;have hne:bo≠g:=by have:=HBO.out;have:=HLT.out;have:=HNN.out;omega
      have HNE:=Aside0.mk hne;have HBK4:=Aside0.mk (show Blk W3 bo #[.slice ow on oc, .bool (decide ((1:Int)< (xn:Int)))] 110 by rw[←hW3,←HON.out];exact HBK3.out.set 1 _);have hck3:W3.cell? ⟨g,off3+k,none⟩=some (.slice Ax xn cx):=by rw[←hW3];exact(cell_same (Below.heap_setCell _ _ _ _ (Ne.symm hne))).trans hck
      have o03:=HBK4.out.cell 0 (v:= .slice ow on oc) rfl;have HOW4:=Aside0.mk (show Kd.R (Kd.int .i64) 3 W3 N1 (fun j=>j≠bo) (.slice ow on oc) own by rw[←hW3,←HON.out];exact Kd.R_far (Kd.R_below HOW.out HB2.out) (fun k hk=>hk) _);have HFK4:=Aside0.mk (show Kd.F (Kd.int .i64) W3 (fun k=>k≠g∧k< bj+1) Ax x.length x by rw[←hW3];exact Kd.F_far HFK.out (fun k hk=>by have:=hk.2;have:=HNN.out;have:=HBO.out;simp only;omega) _)
      have HRE4:=Aside0.mk (show Rest g wo W3 by
       have h1:=HRE.out.of_below HRE.out.size HB2.out;rw[←hW3]
       exact⟨h1.os,h1.tape,h1.output,by simpa [World.setCell]using h1.size,fun j hj hg=>(Below.heap_setCell _ _ _ _ (by have:=HBO.out;have:=HN1.out;simp only;omega)).trans (h1.other j hj hg)⟩)
      have HCR4:=Aside0.mk (HCR3.out.keep (W':=W3) (by have:=HLT.out;omega) (fun j hj=>by rw[←hW3];exact Below.heap_setCell _ _ _ _ (by have:=HBO.out;have:=HNN.out;simp only;omega)));(try rw[hW3]);clear hW3 hck o0 o1 p1 hne;refine start_ (n:=9) (S:=fun w'=>w'.cell? ⟨bo,0,none⟩=some (.slice ow on oc)∧w'.cell? ⟨g,off3+k,none⟩=some (.slice Ax xn cx)) (ds:= [8]) #[false,false,false,false,false,false,false,false,false] tK rfl rfl ⟨o03,hck3⟩ (fun hHeld=>?_);refine puA 0 (some 45) ?_;refine take_ (i:=1) (N:=(some 46)) (v:=?_) (a':=?_) #[true,true,false,false,false,false,false,false,false] rfl rfl tK (fun _ _ _ h=>h) (Or.inl ⟨by rfl,?_⟩) hHeld ?_ ?_;rotate_left
      ·rintro w' ⟨s0,s1⟩;go_simp;with_reducible rfl
      rotate_left
      ·simp only[Act.put,List.setIfInBounds_toArray,List.set_cons_zero,List.set_cons_succ];rfl
      refine puA 2 (some 47) ?_;refine puA 3 (some 48) ?_;refine puA 4 (some 49) ?_;refine take_ (i:=5) (N:=(some 50)) (v:=?_) (a':=?_) #[true,true,true,true,true,true,false,false,false] rfl rfl tK (fun _ _ _ h=>h) (Or.inl ⟨by rfl,?_⟩) hHeld ?_ ?_;rotate_left
      ·rintro w' ⟨s0,s1⟩;go_simp;with_reducible rfl
      rotate_left
      ·simp only[Act.put,List.setIfInBounds_toArray,List.set_cons_zero,List.set_cons_succ];rfl
      refine one_ (i:=6) (N:=(some 51)) #[true,true,true,true,true,true,true,false,false] rfl rfl tK tD (fun K hK=>?_);refine Kd.R_append_rows_step (Kd.int .i64) (Rr:=fun x cs=>(Kd.int .i64).K W3.drew x cs) (w0:=W3.drew) N1 (by rfl) (.tmp 46) (.tmp 50) 22 3 (.int .i64 0) 8 rfl Try.underlying22 info3 rfl tD tD (.slice ow on oc) own x Ax xn cx (fun j=>j≠bo) (fun _=>False) rfl rfl (Kd.R_drew HOW4.out) (by rw[←HXN.out];exact Kd.C_drew (Kd.F_now HFK4.out)) (fun x cs h=>h) (fun _ h=>h.elim) (fun k hk=>by have:=HBK4.out.lt;have e:W3.drew.heap.size=W3.heap.size:=rfl;omega) (Below.refl _ _) (by have:=HRE4.out.size;have:=HN1.out;have e:W3.drew.heap.size=W3.heap.size:=rfl;omega) (by have:=HNL.out;have:=HON.out;omega) ?_;intro v1 w4 ho hb hg hat;obtain⟨Av1,cv1,ev⟩:=Kd.R_slice ho;subst ev;have hnb:(Value.slice ow on oc).ownBlock≠some bo:=fun e=>HOW4.out.1 _ e rfl;have hb4:Blk w4 bo #[.slice ow on oc, .bool (decide ((1:Int)< (xn:Int)))] 110:=HBK4.out.drew.grown hg hnb;have HB4:=Aside0.mk hb4;have HO4:=Aside0.mk ho;have HBE4:=Aside0.mk (show Below N1 W3 w4 from⟨hb.os,hb.tape,hb.output,hb.size,hb.block⟩);have hgk:w4.heap[g]? =W3.heap[g]? :=hb.block g (by have:=HLT.out;have:=HNN.out;omega);refine hK.out _ _ ⟨hb4.cell 0 rfl,(cell_same hgk).trans hck3⟩ (fun hHeld=>?_);have o04:=hb4.cell 0 (v:= .slice ow on oc) rfl;have p04:=hb4.free 0;obtain⟨ln,hln⟩: ∃ln,(own++x).length=ln:=⟨_,rfl⟩;rw[hln];have HLN:=Aside0.mk hln;rw[hln]at HO4;clear hK K ho hb hg hat hnb hb4 hgk hck3 o03 hln hHeld
      refine norm_ (a':=?_) ?_ ?_;rotate_left
      ·show Act.put _ (some 51) _=_;simp only[Act.put,List.setIfInBounds_toArray,List.set_cons_zero,List.set_cons_succ];rfl
      refine puA 7 (some 52) ?_;refine last_ (i:=8) (N:=none) #[true,true,true,true,true,true,true,true,true] rfl rfl tK tD (fun K hK=>?_);rw[if_pos (by rfl)];have HK:=Aside0.mk hK.out;clear hK;unfold Oper.wp;go_simp;refine HK.out _ _ ?_;clear HK K;refine done_ tK ?_;obtain⟨W5,hW5⟩: ∃W5,w4.setCell ⟨bo,0,none⟩ (.slice Av1 ln cv1)=W5:=⟨_,rfl⟩;have HBK5:=Aside0.mk (show Blk W5 bo #[.slice Av1 ln cv1, .bool (decide ((1:Int)< (xn:Int)))] 110 by rw[←hW5];exact HB4.out.set 0 _);have HOW5:=Aside0.mk (show Kd.R (Kd.int .i64) 3 W5 N1 (fun j=>j≠bo) (.slice Av1 ln cv1) (own++x)by rw[←hW5];exact Kd.R_far HO4.out (fun k hk=>hk) _);have hk5: ∀j,j< N1→W5.heap[j]? =W3.heap[j]? :=fun j hj=>by rw[←hW5];exact(Below.heap_setCell _ _ _ _ (by have:=HBO.out;simp only;omega)).trans (HBE4.out.block j hj)
      have HRE5:=Aside0.mk (show Rest g wo W5 from⟨by rw[←hW5];exact HBE4.out.os.trans HRE4.out.os,by rw[←hW5];exact HBE4.out.tape.trans HRE4.out.tape,by rw[←hW5];exact HBE4.out.output.trans HRE4.out.output,by rw[←hW5];simpa [World.setCell]using Nat.le_trans HRE4.out.size HBE4.out.size,fun j hj hg=>(hk5 j (by have:=HN1.out;omega)).trans (HRE4.out.other j hj hg)⟩);have HCR5:=Aside0.mk (HCR4.out.keep (W':=W5) (by have:=HLT.out;omega) (fun j hj=>hk5 j (by have:=HNN.out;omega)));have HDEL:=Aside0.mk (HCR5.out.del k (by rw[HN2.out.1];exact hkl));rw[HN2.out.1]at HDEL;(try rw[hW5]);clear hW5 o04 p04 hk5
      go_wp2_with (go_at_call 96;refine stopper ?_)
      (try unfold Hold);refine HDEL.out.mono ?_;rintro e w6 ⟨rfl,hcr6,hre6⟩;have HCR6:=Aside0.mk hcr6;have HRE6:=Aside0.mk hre6;clear hcr6 hre6;go_wp2
      go_roundw
      case rel=>
       have herase:=HT2.out.erase k (by rw[HN2.out.1];exact hkl);rw[HX.out,HXN.out]at herase;have hxm:=HT2.out.mem _ (getD_mem (z:= []) (show k< cs2.length by rw[HN2.out.1];exact hkl));rw[HX.out]at hxm;have hlen:(own++x).length=on+xn:=by rw[List.length_append,HON.out,HXN.out]
       have hbo6:w6.heap[bo]? =W5.heap[bo]? :=HRE6.out.other bo HBK5.out.lt HNE.out
       refine⟨cs2.eraseIdx k,n2 - 1,_,cap2,own++x,Av1,cv1,(decide ((1:Int)< (xn:Int))),rfl,⟨by rw[List.length_eraseIdx_of_lt (by rw[HN2.out.1];exact hkl),HN2.out.1],by have:=HN2.out.2;omega⟩,HCR6,⟨by rw[HLN.out];exact hbo6.trans HBK5.out⟩,⟨by rw[HLN.out];exact Kd.R_step (Kd.R_mono (ok':=fun j=>j≠bo∧j≠g) (Kd.R_bound HOW5.out) (fun j hj=>⟨hj.1,by have:=hj.2.1;have:=HNN.out;have:=HLT.out;omega⟩)) (fun j hj hl=>HRE6.out.other j hl hj.2) |> fun h=>Kd.R_mono h (fun j hj=>hj.1)⟩,⟨HRE5.out.trans HRE6.out⟩,⟨?_⟩,⟨by rw[hlen,←Nat.sub_sub,←HON.out];exact herase.1⟩,⟨by rw[hlen];have:=HOM.out.1;have:=HON.out;have:=herase.2;omega,fun y hy=>by
        rcases List.mem_append.1 hy with hy|hy
        ·exact HOM.out.2 y hy
        ·exact hxm y hy⟩⟩
       have h:=growF_step (bad:=false) (p:=n2 - 1) HIX2.out;rw[HX.out,HXN.out,show n2 - 1+1=n2 by omega,HGR.out]at h;rw[h];congr 2
       first|done|(rw[Bool.false_or];exact decide_eq_decide.2 tO)|rfl
      case measure=>
       simp[sliceLen];omega
     ·skip
      go_upto_region 10 with fail
      obtain⟨W3,hW3⟩: ∃W3,w2.setCell ⟨bo,1,none⟩ (.bool true)=W3:=⟨_,rfl⟩;have hne:bo≠g:=by have:=HBO.out;have:=HLT.out;have:=HNN.out;omega
      have HNE:=Aside0.mk hne;have HBK4:=Aside0.mk (show Blk W3 bo #[.slice ow on oc, .bool true] 110 by rw[←hW3,←HON.out];exact HBK3.out.set 1 _);have hck3:W3.cell? ⟨g,off3+k,none⟩=some (.slice Ax xn cx):=by rw[←hW3];exact(cell_same (Below.heap_setCell _ _ _ _ (Ne.symm hne))).trans hck
      have o03:=HBK4.out.cell 0 (v:= .slice ow on oc) rfl;have HOW4:=Aside0.mk (show Kd.R (Kd.int .i64) 3 W3 N1 (fun j=>j≠bo) (.slice ow on oc) own by rw[←hW3,←HON.out];exact Kd.R_far (Kd.R_below HOW.out HB2.out) (fun k hk=>hk) _);have HFK4:=Aside0.mk (show Kd.F (Kd.int .i64) W3 (fun k=>k≠g∧k< bj+1) Ax x.length x by rw[←hW3];exact Kd.F_far HFK.out (fun k hk=>by have:=hk.2;have:=HNN.out;have:=HBO.out;simp only;omega) _)
      have HRE4:=Aside0.mk (show Rest g wo W3 by
       have h1:=HRE.out.of_below HRE.out.size HB2.out;rw[←hW3]
       exact⟨h1.os,h1.tape,h1.output,by simpa [World.setCell]using h1.size,fun j hj hg=>(Below.heap_setCell _ _ _ _ (by have:=HBO.out;have:=HN1.out;simp only;omega)).trans (h1.other j hj hg)⟩)
      have HCR4:=Aside0.mk (HCR3.out.keep (W':=W3) (by have:=HLT.out;omega) (fun j hj=>by rw[←hW3];exact Below.heap_setCell _ _ _ _ (by have:=HBO.out;have:=HNN.out;simp only;omega)));(try rw[hW3]);clear hW3 hck o0 o1 p1 hne;refine start_ (n:=9) (S:=fun w'=>w'.cell? ⟨bo,0,none⟩=some (.slice ow on oc)∧w'.cell? ⟨g,off3+k,none⟩=some (.slice Ax xn cx)) (ds:= [8]) #[false,false,false,false,false,false,false,false,false] tK rfl rfl ⟨o03,hck3⟩ (fun hHeld=>?_);refine puA 0 (some 45) ?_;refine take_ (i:=1) (N:=(some 46)) (v:=?_) (a':=?_) #[true,true,false,false,false,false,false,false,false] rfl rfl tK (fun _ _ _ h=>h) (Or.inl ⟨by rfl,?_⟩) hHeld ?_ ?_;rotate_left
      ·rintro w' ⟨s0,s1⟩;go_simp;with_reducible rfl
      rotate_left
      ·simp only[Act.put,List.setIfInBounds_toArray,List.set_cons_zero,List.set_cons_succ];rfl
      refine puA 2 (some 47) ?_;refine puA 3 (some 48) ?_;refine puA 4 (some 49) ?_;refine take_ (i:=5) (N:=(some 50)) (v:=?_) (a':=?_) #[true,true,true,true,true,true,false,false,false] rfl rfl tK (fun _ _ _ h=>h) (Or.inl ⟨by rfl,?_⟩) hHeld ?_ ?_;rotate_left
      ·rintro w' ⟨s0,s1⟩;go_simp;with_reducible rfl
      rotate_left
      ·simp only[Act.put,List.setIfInBounds_toArray,List.set_cons_zero,List.set_cons_succ];rfl
      refine one_ (i:=6) (N:=(some 51)) #[true,true,true,true,true,true,true,false,false] rfl rfl tK tD (fun K hK=>?_);refine Kd.R_append_rows_step (Kd.int .i64) (Rr:=fun x cs=>(Kd.int .i64).K W3.drew x cs) (w0:=W3.drew) N1 (by rfl) (.tmp 46) (.tmp 50) 22 3 (.int .i64 0) 8 rfl Try.underlying22 info3 rfl tD tD (.slice ow on oc) own x Ax xn cx (fun j=>j≠bo) (fun _=>False) rfl rfl (Kd.R_drew HOW4.out) (by rw[←HXN.out];exact Kd.C_drew (Kd.F_now HFK4.out)) (fun x cs h=>h) (fun _ h=>h.elim) (fun k hk=>by have:=HBK4.out.lt;have e:W3.drew.heap.size=W3.heap.size:=rfl;omega) (Below.refl _ _) (by have:=HRE4.out.size;have:=HN1.out;have e:W3.drew.heap.size=W3.heap.size:=rfl;omega) (by have:=HNL.out;have:=HON.out;omega) ?_;intro v1 w4 ho hb hg hat;obtain⟨Av1,cv1,ev⟩:=Kd.R_slice ho;subst ev;have hnb:(Value.slice ow on oc).ownBlock≠some bo:=fun e=>HOW4.out.1 _ e rfl;have hb4:Blk w4 bo #[.slice ow on oc, .bool true] 110:=HBK4.out.drew.grown hg hnb;have HB4:=Aside0.mk hb4;have HO4:=Aside0.mk ho;have HBE4:=Aside0.mk (show Below N1 W3 w4 from⟨hb.os,hb.tape,hb.output,hb.size,hb.block⟩);have hgk:w4.heap[g]? =W3.heap[g]? :=hb.block g (by have:=HLT.out;have:=HNN.out;omega);refine hK.out _ _ ⟨hb4.cell 0 rfl,(cell_same hgk).trans hck3⟩ (fun hHeld=>?_);have o04:=hb4.cell 0 (v:= .slice ow on oc) rfl;have p04:=hb4.free 0;obtain⟨ln,hln⟩: ∃ln,(own++x).length=ln:=⟨_,rfl⟩;rw[hln];have HLN:=Aside0.mk hln;rw[hln]at HO4;clear hK K ho hb hg hat hnb hb4 hgk hck3 o03 hln hHeld;refine norm_ (a':=?_) ?_ ?_
      rotate_left
      ·show Act.put _ (some 51) _=_;simp only[Act.put,List.setIfInBounds_toArray,List.set_cons_zero,List.set_cons_succ];rfl
      refine puA 7 (some 52) ?_;refine last_ (i:=8) (N:=none) #[true,true,true,true,true,true,true,true,true] rfl rfl tK tD (fun K hK=>?_);rw[if_pos (by rfl)];have HK:=Aside0.mk hK.out;clear hK;unfold Oper.wp;go_simp;refine HK.out _ _ ?_;clear HK K;refine done_ tK ?_;obtain⟨W5,hW5⟩: ∃W5,w4.setCell ⟨bo,0,none⟩ (.slice Av1 ln cv1)=W5:=⟨_,rfl⟩;have HBK5:=Aside0.mk (show Blk W5 bo #[.slice Av1 ln cv1, .bool true] 110 by rw[←hW5];exact HB4.out.set 0 _);have HOW5:=Aside0.mk (show Kd.R (Kd.int .i64) 3 W5 N1 (fun j=>j≠bo) (.slice Av1 ln cv1) (own++x)by rw[←hW5];exact Kd.R_far HO4.out (fun k hk=>hk) _);have hk5: ∀j,j< N1→W5.heap[j]? =W3.heap[j]? :=fun j hj=>by rw[←hW5];exact(Below.heap_setCell _ _ _ _ (by have:=HBO.out;simp only;omega)).trans (HBE4.out.block j hj)
      have HRE5:=Aside0.mk (show Rest g wo W5 from⟨by rw[←hW5];exact HBE4.out.os.trans HRE4.out.os,by rw[←hW5];exact HBE4.out.tape.trans HRE4.out.tape,by rw[←hW5];exact HBE4.out.output.trans HRE4.out.output,by rw[←hW5];simpa [World.setCell]using Nat.le_trans HRE4.out.size HBE4.out.size,fun j hj hg=>(hk5 j (by have:=HN1.out;omega)).trans (HRE4.out.other j hj hg)⟩);have HCR5:=Aside0.mk (HCR4.out.keep (W':=W5) (by have:=HLT.out;omega) (fun j hj=>hk5 j (by have:=HNN.out;omega)));have HDEL:=Aside0.mk (HCR5.out.del k (by rw[HN2.out.1];exact hkl));rw[HN2.out.1]at HDEL;(try rw[hW5]);clear hW5 o04 p04 hk5
      go_wp2_with (go_at_call 96;refine stopper ?_)
      (try unfold Hold);refine HDEL.out.mono ?_;rintro e w6 ⟨rfl,hcr6,hre6⟩;have HCR6:=Aside0.mk hcr6;have HRE6:=Aside0.mk hre6;clear hcr6 hre6;go_wp2
      go_roundw
      case rel=>
       have herase:=HT2.out.erase k (by rw[HN2.out.1];exact hkl);rw[HX.out,HXN.out]at herase;have hxm:=HT2.out.mem _ (getD_mem (z:= []) (show k< cs2.length by rw[HN2.out.1];exact hkl));rw[HX.out]at hxm;have hlen:(own++x).length=on+xn:=by rw[List.length_append,HON.out,HXN.out]
       have hbo6:w6.heap[bo]? =W5.heap[bo]? :=HRE6.out.other bo HBK5.out.lt HNE.out
       refine⟨cs2.eraseIdx k,n2 - 1,_,cap2,own++x,Av1,cv1,true,rfl,⟨by rw[List.length_eraseIdx_of_lt (by rw[HN2.out.1];exact hkl),HN2.out.1],by have:=HN2.out.2;omega⟩,HCR6,⟨by rw[HLN.out];exact hbo6.trans HBK5.out⟩,⟨by rw[HLN.out];exact Kd.R_step (Kd.R_mono (ok':=fun j=>j≠bo∧j≠g) (Kd.R_bound HOW5.out) (fun j hj=>⟨hj.1,by have:=hj.2.1;have:=HNN.out;have:=HLT.out;omega⟩)) (fun j hj hl=>HRE6.out.other j hl hj.2) |> fun h=>Kd.R_mono h (fun j hj=>hj.1)⟩,⟨HRE5.out.trans HRE6.out⟩,⟨?_⟩,⟨by rw[hlen,←Nat.sub_sub,←HON.out];exact herase.1⟩,⟨by rw[hlen];have:=HOM.out.1;have:=HON.out;have:=herase.2;omega,fun y hy=>by
        rcases List.mem_append.1 hy with hy|hy
        ·exact HOM.out.2 y hy
        ·exact hxm y hy⟩⟩
       have h:=growF_step (bad:=true) (p:=n2 - 1) HIX2.out;rw[HX.out,HXN.out,show n2 - 1+1=n2 by omega,HGR.out]at h;rw[h];congr 2
       first|done|(rw[Bool.false_or];exact decide_eq_decide.2 tO)|rfl
      case measure=>
       simp[sliceLen];omega
end Go.Proofs.Ytepjhdblmghckaa.G