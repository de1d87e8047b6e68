/-
  plain.Solve: the rows are laid from the list, the system is solved, the answer is read, then overwritten.
-/
import Derived.Test.YtjlibljfpkmpfaaGreatDoorSa36
set_option maxRecDepth 100000
set_option linter.unusedSimpArgs false
set_option linter.unusedVariables false
namespace Go.Enc
open Go.Proofs Go.Enc.Fl Go.RowKit
theorem jL (L:List (Nat×Nat)):(boxC L).length=L.length*2:=by
 have:=qE L;rw[Q5,List.length_map] at this;omega
theorem yH:∀ {L:List (Nat×Nat)} {i:Nat} {X:Nat×Nat},L[i]?=some X->(boxC L)[i*2]?=some (.v (.int .u64 X.1))/\(boxC L)[i*2+1]?=some (.v (.int .u64 X.2))
 |Y :: L,0,X,h=>by
  simp only[List.getElem?_cons_zero,Option.some.injEq] at h;subst h;exact⟨rfl,rfl⟩
 |Y :: L,i+1,X,h=>by
  simp only[List.getElem?_cons_succ] at h;have:=yH h;have e1:(i+1)*2=i*2+1+1:=by omega
  have e2:(i+1)*2+1=(i*2+1)+1+1:=by omega
  rw[e1];simp only[boxC,List.flatMap_cons,List.cons_append,List.nil_append,List.getElem?_cons_succ];exact this
theorem kf {L:List (Nat×Nat)}{i:Nat}{X:Nat×Nat}(h:L[i]?=some X):((boxC L).drop (i*2)).take 2=[.v (.int .u64 X.1),.v (.int .u64 X.2)]:=ZJ (yH h).1 (yH h).2
theorem zke {n d:Nat}:(n:Int).tmod (d:Int)=((n % d:Nat):Int):=by rw[Int.tmod_eq_emod_of_nonneg (by omega),Int.natCast_emod]
section
variable (F:Nat×Nat->Nat×Nat) (L:List (Nat×Nat)) (w:Nat)
def psA (r c:Nat):Nat×Nat:=F (L.getD (r*w+c) (0,0))
def psM (w:Int):Nat:=if w<=0 then 0 else if L.length=0 then 0 else (L.length-1)/w.toNat+1
def psN (r:Nat):Nat:=min w (L.length-r*w)
def psP (R:Nat):List T:=(List.range R).map fun r=>.d (.sl 2 (ivC (psA F L w r) w))
theorem qw (R:Nat):(psP F L w R).length=R:=by simp[psP]
theorem zcC (R:Nat):psP F L w (R+1)=psP F L w R++[.d (.sl 2 (ivC (psA F L w R) w))]:=by simp[psP,List.range_succ]
theorem Z7 (k R:Nat):(psP F L w R).map (wU k)=psP F L w R:=by simp[psP,wU]
theorem Z8 (k R:Nat)(o:Obj)(ds:List D):(psP F L w R).map (jM k o ds)=psP F L w R:=by simp[psP,jM]
end
section
variable {E:Nat->Option Value} {q:Nat->Addr} {F:Nat×Nat->Nat×Nat} {L L':List (Nat×Nat)}
abbrev kW (cs:List T):Obj:=⟨some (154,1,true),cs⟩
abbrev Qg (cs:List T):Obj:=⟨some (59,2,true),cs⟩
def psS (F:Nat×Nat->Nat×Nat)(L L':List (Nat×Nat))(w:Int)(i:Nat):St:=match i with
 |0=>St.of [(1,.d (intD w)),(2,.d (.sl 2 (boxC L'))),(8,.gs 39),(22,.d (.sl 2 (boxC L))),(23,.d (intD L.length)),(24,.d (intD ((0:Nat):Int)))] [(39,kW [])]
 |j+1=>if w<=0 then St.of [(1,.d (intD w)),(2,.d (.sl 2 (boxC L'))),(8,.gs 39),(22,.d (.sl 2 (boxC L))),(23,.d (intD L.length)),(24,.d (intD ((j+1:Nat):Int)))] [(39,kW [])]
  else St.of [(1,.d (intD w)),(2,.d (.sl 2 (boxC L'))),(8,.gs 39),(22,.d (.sl 2 (boxC L))),(23,.d (intD L.length)),(24,.d (intD ((j+1:Nat):Int)))]
   [(39,kW (psP F L w.toNat (j/w.toNat)++[.gs 56])),(56,Qg (ivT (psA F L w.toNat (j/w.toNat)) (j % w.toNat+1)))]
theorem ziF {n r:Nat}(h:(r+1)*n<=L.length):psN L n r=n:=by
 unfold psN;have:(r+1)*n=r*n+n:=by rw[Nat.add_mul,Nat.one_mul]
 omega
theorem zfD {C:Ctx}{w:Int}(hN:L.length<=1000000):Leads C (psS F L L' w L.length)
  (St.of [(1,.d (intD w)),(2,.d (.sl 2 (boxC L'))),(8,.d (w9 (psA F L w.toNat) (psN L w.toNat) (psM L w))),(22,.d (.sl 2 (boxC L))),(23,.d (intD L.length)),(24,.d (intD L.length))] []):=by
 have one:∀l,l=L.length->psM L w=0->Leads C (St.of [(1,.d (intD w)),(2,.d (.sl 2 (boxC L'))),(8,.gs 39),(22,.d (.sl 2 (boxC L))),(23,.d (intD L.length)),(24,.d (intD (l:Nat)))] [(39,kW [])])
  (St.of [(1,.d (intD w)),(2,.d (.sl 2 (boxC L'))),(8,.d (w9 (psA F L w.toNat) (psN L w.toNat) (psM L w))),(22,.d (.sl 2 (boxC L))),(23,.d (intD L.length)),(24,.d (intD L.length))] []):=fun l hl h=>by
  rw[hl];refine(qS 39 (ds:=[]) rfl rfl).trans (jb (we ?_ ?_ rfl))
  ·rw[h];simp -implicitDefEqProofs only[go_sem,w9,List.range_zero,List.map_nil]
  ·simp -implicitDefEqProofs only[go_sem]
 by_cases hw:w<=0
 ·have hM:psM L w=0:=by unfold psM;rw[if_pos hw]
  have:psS F L L' w L.length=St.of [(1,.d (intD w)),(2,.d (.sl 2 (boxC L'))),(8,.gs 39),(22,.d (.sl 2 (boxC L))),(23,.d (intD L.length)),(24,.d (intD L.length))] [(39,kW [])]:=by
   unfold psS;cases L.length with
   |zero=>rfl
   |succ j=>simp only;rw[if_pos hw]
  rw[this];exact one _ rfl hM
 ·obtain⟨n,rfl⟩:∃n:Nat,w=(n:Int):=⟨w.toNat,by omega⟩;have hn0:0<n:=by omega
  by_cases h0:L.length=0
  ·have hM:psM L n=0:=by unfold psM;rw[if_neg hw,if_pos h0]
   have:psS F L L' n L.length=St.of [(1,.d (intD n)),(2,.d (.sl 2 (boxC L'))),(8,.gs 39),(22,.d (.sl 2 (boxC L))),(23,.d (intD L.length)),(24,.d (intD ((0:Nat):Int)))] [(39,kW [])]:=by
    have:∀l,l=0->psS F L L' n l=St.of [(1,.d (intD n)),(2,.d (.sl 2 (boxC L'))),(8,.gs 39),(22,.d (.sl 2 (boxC L))),(23,.d (intD L.length)),(24,.d (intD ((0:Nat):Int)))] [(39,kW [])]:=fun l hl=>by rw[hl];rfl
    exact this _ h0
   rw[this];exact one 0 h0.symm hM
  ·obtain⟨j,hj⟩:∃j,L.length=j+1:=⟨L.length-1,by omega⟩;obtain⟨p,hp⟩:∃p,j/n=p:=⟨_,rfl⟩;obtain⟨c,hc⟩:∃c,j % n=c:=⟨_,rfl⟩;have hcn:c<n:=by rw[<-hc];exact Nat.mod_lt _ hn0
   have hpc:p*n+c=j:=by rw[<-hp,<-hc,Nat.mul_comm];exact Nat.div_add_mod _ n
   have hM:psM L n=p+1:=by
    unfold psM;rw[if_neg hw,if_neg h0,Int.toNat_natCast,hj,<-hp];rfl
   have hS:psS F L L' n L.length=St.of [(1,.d (intD n)),(2,.d (.sl 2 (boxC L'))),(8,.gs 39),(22,.d (.sl 2 (boxC L))),(23,.d (intD L.length)),(24,.d (intD L.length))]
     [(39,kW (psP F L n p++[.gs 56])),(56,Qg (ivT (psA F L n p) (c+1)))]:=by
    have:∀l,l=j+1->psS F L L' n l=St.of [(1,.d (intD n)),(2,.d (.sl 2 (boxC L'))),(8,.gs 39),(22,.d (.sl 2 (boxC L))),(23,.d (intD L.length)),(24,.d (intD (l:Nat)))]
     [(39,kW (psP F L n p++[.gs 56])),(56,Qg (ivT (psA F L n p) (c+1)))]:=fun l hl=>by
     rw[hl];unfold psS;simp only;rw[if_neg hw,Int.toNat_natCast,hp,hc]
    exact this _ hj
   rw[hS,hM,Int.toNat_natCast];have pc56:List.map (jM 56 ⟨some (59,2,true),ivT (psA F L n p) (c+1)⟩ (ivC (psA F L n p) (c+1))) (psP F L n p++[T.gs 56])=((List.range p).map (fun r=>D.sl 2 (ivC (psA F L n r) n))++[D.sl 2 (ivC (psA F L n p) (c+1))]).map .d:=by
    rw[List.map_append,Z8,List.map_append];unfold psP;rw[List.map_map];rfl
   refine(qS 56 rfl (QF _ _)).trans ((qS 39 (ds:=(List.range p).map (fun r=>D.sl 2 (ivC (psA F L n r) n))++[D.sl 2 (ivC (psA F L n p) (c+1))]) rfl ?_).trans (jb (we ?_ ?_ rfl)))
   ·show asDs (List.map (jM 56 ⟨some (59,2,true),ivT (psA F L n p) (c+1)⟩ (ivC (psA F L n p) (c+1))) (psP F L n p++[T.gs 56]))=_
    rw[pc56,jX]
   ·have hlast:psN L n p=c+1:=by
     unfold psN;rw[hj];omega
    have hrows:w9 (psA F L n) (psN L n) (p+1) = .sl 1 ((List.range p).map (fun r=>D.sl 2 (ivC (psA F L n r) n))++[D.sl 2 (ivC (psA F L n p) (c+1))]):=by
     unfold w9;rw[List.range_succ,List.map_append,List.map_cons,List.map_nil,hlast];congr 2;refine List.map_congr_left fun r hr=>?_
     rw[List.mem_range] at hr;have hb:(r+1)*n<=p*n:=Nat.mul_le_mul_right _ hr;rw[ziF (by omega)]
    rw[hrows];simp -implicitDefEqProofs only[go_sem]
   ·simp -implicitDefEqProofs only[go_sem]
noncomputable def solN (M V S:Nat×Nat->Nat×Nat->AnsQ)(a:Nat->Nat->Nat×Nat)(ln:Nat->Nat)(m:Nat)(b:Nat->Nat×Nat)(n:Nat):Option (Nat->Nat×Nat)×Nat:=
 if n<1\/4<n\/m≠n\/¬(∀i,i<m->ln i=n) then (none,8)
 else if kS (augB a b n) (n+1) n=false then (none,3)
 else match solS M V S (augB a b n) n with
  |none=>(none,9)
  |some out=>(some out,0)
theorem Hn (M V S:Nat×Nat->Nat×Nat->AnsQ)(q:Nat->Addr)(a:Nat->Nat->Nat×Nat)(ln:Nat->Nat)(m:Nat)(b:Nat->Nat×Nat)(n:Nat) :
  (∃k,k<9/\solR M V S q a ln m b n = .data (.tup [.v (.slice none 0 0),eD q k])/\solN M V S a ln m b n=(none,k+1))\/∃out,solR M V S q a ln m b n = .ownP 59 2 false (ivC out n) (.v .nilIface)/\solN M V S a ln m b n=(some out,0):=by
 unfold solR solN;by_cases h1:n<1\/4<n\/m≠n\/¬(∀i,i<m->ln i=n)
 ·rw[if_pos h1,if_pos h1];exact .inl ⟨7,by omega,rfl,rfl⟩
 ·rw[if_neg h1,if_neg h1];by_cases h2:kS (augB a b n) (n+1) n=false
  ·rw[if_pos h2,if_pos h2];exact .inl ⟨2,by omega,rfl,rfl⟩
  ·rw[if_neg h2,if_neg h2];cases solS M V S (augB a b n) n with
   |none=>exact .inl ⟨8,by omega,rfl,rfl⟩
   |some out=>exact .inr ⟨out,rfl,rfl⟩
def wrO (out:Nat->Nat×Nat)(i:Nat):Nat->Nat×Nat:=fun j=>if j<i then (0,0) else out j
theorem zbB (out:Nat->Nat×Nat)(i:Nat):upd (wrO out i) i (0,0)=wrO out (i+1):=by
 funext j
 simp only[upd,wrO];by_cases h:j=i
 ·rw[if_pos h,if_pos (by omega)]
 ·rw[if_neg h];by_cases h2:j<i
  ·rw[if_pos h2,if_pos (by omega)]
  ·rw[if_neg h2,if_neg (by omega)]
theorem zaH (out:Nat->Nat×Nat)(i:Nat):(List.range (i+1)).map out=(List.range i).map out++[out i]:=by simp[List.range_succ]
noncomputable def psR (R:Option (Nat->Nat×Nat))(n:Nat)(c:Nat):D:=match R with
 |none=>.tup [.v (.slice none 0 0),intD c]
 |some out=>.tup [.sl 2 (boxC ((List.range n).map out)),intD 0]
set_option maxHeartbeats 4000000 in
theorem zcB (hq:Sent E q){M V S:Nat×Nat->Nat×Nat->AnsQ}(O:Ops3 E M V S)(hN:L.length<=1000000)(hN':L'.length*16<=140737488355328){w:Int}(hw:w<=1000000)
  (hm:∀X,X∈L\/X∈L'->DQz E 37 [boxD X] (.data (ivD (F X)))) (hF:∀X,X∈L\/X∈L'->Gd (F X)) :
  DQz E 72 [.sl 2 (boxC L),intD w,.sl 2 (boxC L')] (.data (psR (solN M V S (psA F L w.toNat) (psN L w.toNat) (psM L w) (fun i=>F (L'.getD i (0,0))) L'.length).1 L'.length (solN M V S (psA F L w.toNat) (psN L w.toNat) (psM L w) (fun i=>F (L'.getD i (0,0))) L'.length).2)):=by
 refine dcA Tryz.func72 Tryz.ntmps72 (rs:=[.tmp 6,.tmp 7]) fun σ0 w0 base df G0=>?_
 have cl:=jL;have d2:=ke;have hmx:∀x,x<=140737488355328->x<=maxLen:=fun x hx=>by simp only[maxLen];omega
 have mx1:1<=maxLen:=hmx 1 (by omega);have z1:∀x:Nat,(0:Int)<=(x:Int):=fun x=>by omega
 simp -implicitDefEqProofs only[go_sem,cl,d2];rw[wu];refine jF 8 39 154 1 rfl rfl ?_;have get:∀ {i:Nat},i<L.length->∃X,L[i]?=some X/\X∈L/\L.getD i (0,0)=X:=fun {i} h=>⟨L[i],List.getElem?_eq_getElem h,List.getElem_mem h,by rw[List.getD_eq_getElem?_getD,List.getElem?_eq_getElem h];rfl⟩
 refine zt (α:={i:Nat // i<=L.length}) (fun i=>psS F L L' w i.1) (fun i=>L.length-i.1) ⟨0,by omega⟩ (jb ?_) (fun i=>?_)
 ·refine we ?_ ?_ (by simp[wv,wG,T.ref])<;>simp -implicitDefEqProofs only[go_sem,upd]
 obtain⟨i,hi⟩:=i;have w1:=wL (c:=i) (by omega);simp only;by_cases hB:i<L.length
 ·refine kM (by kernel_rfl) ?_;have eB:decide ((i:Int)<(L.length:Int))=true:=tD (by omega);obtain⟨X,hX,hXL,hXg⟩:=get hB;have tk:=kf hX;have q1:i*2<L.length*2:=by omega
  have q2:i*2+2<=L.length*2:=by omega
  by_cases hw0:w<=0
  ·have eS:∀j,psS F L L' w j=St.of [(1,.d (intD w)),(2,.d (.sl 2 (boxC L'))),(8,.gs 39),(22,.d (.sl 2 (boxC L))),(23,.d (intD L.length)),(24,.d (intD (j:Nat)))] [(39,kW [])]:=fun j=>by
    unfold psS;cases j with
    |zero=>rfl
    |succ j=>simp only;rw[if_pos hw0]
   have eW:=tV (fD (show ¬w>0 by omega));rw[eS];have eL0:=tV (fD (show ¬(0:Int)>0 by omega));simp -implicitDefEqProofs only[go_sem,eB,cl,q1,q2,tk,eW,w1,eL0];refine⟨⟨i+1,hB⟩,jb ?_,by simp only;omega⟩;simp only;rw[eS];refine we ?_ ?_ (by simp[wv,wG,T.ref])<;>simp -implicitDefEqProofs only[go_sem]
  ·obtain⟨n,rfl⟩:∃n:Nat,w=(n:Int):=⟨w.toNat,by omega⟩;have hn0:0<n:=by omega
   have eS0:psS F L L' n 0=St.of [(1,.d (intD n)),(2,.d (.sl 2 (boxC L'))),(8,.gs 39),(22,.d (.sl 2 (boxC L))),(23,.d (intD L.length)),(24,.d (intD ((0:Nat):Int)))] [(39,kW [])]:=rfl;have eS1:∀j,psS F L L' n (j+1)=St.of [(1,.d (intD n)),(2,.d (.sl 2 (boxC L'))),(8,.gs 39),(22,.d (.sl 2 (boxC L))),(23,.d (intD L.length)),(24,.d (intD ((j+1:Nat):Int)))]
     [(39,kW (psP F L n (j/n)++[.gs 56])),(56,Qg (ivT (psA F L n (j/n)) (j % n+1)))]:=fun j=>by
    unfold psS;simp only;rw[if_neg hw0,Int.toNat_natCast]
   have eW:=tB (tD (show(n:Int)>0 by omega));have eR:(i:Int).tmod (n:Int)=((i % n:Nat):Int):=zke;have eN:((n:Int)=0)=False:=by simp;omega
   have hdm:i/n*n+i % n=i:=by rw[Nat.mul_comm];exact Nat.div_add_mod i n
   have hXa:F X=psA F L n (i/n) (i % n):=by
    unfold psA;rw[hdm,hXg]
   have hmade:=hm X (.inl hXL);have fin:∀ {s:St},s.t 1 = .d (intD n)->s.t 2 = .d (.sl 2 (boxC L'))->s.t 8 = .gs 39->s.t 22 = .d (.sl 2 (boxC L))->s.t 23 = .d (intD L.length)->s.t 24 = .d (intD ((i+1:Nat):Int)) ->
     s.h 39=some (kW (psP F L n (i/n)++[.gs 56]))->s.h 56=some (Qg (ivT (psA F L n (i/n)) (i % n+1))) ->
     ∃x:{i:Nat // i<=L.length},Leads ⟨Tryz.prog,E,σ0,w0,base,106,0,df,G0⟩ s (psS F L L' n x.1)/\L.length-x.1<L.length-i:=fun t1 t2 t8 t22 t23 t24 h39 h56=>by
    refine⟨⟨i+1,hB⟩,jb ?_,by simp only;omega⟩;simp only;rw[eS1];refine we ?_ ?_ ?_
    ·simp only[zQ,t1,t2,t8,t22,t23,t24,Jv,and_self]
    ·simp only[allH,h39,h56,and_self]
    ·simp only[wv,List.all_cons,List.all_nil,List.map_cons,List.map_nil,List.all_append];have g1:(psP F L n (i/n)).all (wG [39,56])=true:=by simp[psP,wG,T.ref]
     have g2:(ivT (psA F L n (i/n)) (i % n+1)).all (wG [39,56])=true:=by
      rw[List.all_eq_true];intro c hc;simp[wG,ve hc]
     simp only[g1,g2];rfl
   by_cases h0:i=0
   ·have eSz:psS F L L' n i=St.of [(1,.d (intD n)),(2,.d (.sl 2 (boxC L'))),(8,.gs 39),(22,.d (.sl 2 (boxC L))),(23,.d (intD L.length)),(24,.d (intD (i:Int)))] [(39,kW [])]:=by subst h0;rfl
    have hr:i % n=0:=by rw[h0];exact Nat.zero_mod n
    have hd:i/n=0:=by rw[h0];exact Nat.zero_div n
    have eZ:=tB (show(((i % n:Nat):Int)==0)=true by rw[hr];rfl);have eL:=tB (tD (show((1:Nat):Int)>0 by omega));rw[eSz];simp -implicitDefEqProofs only[go_sem,eB,cl,q1,q2,tk,eW,eR,eN,eZ,eL,w1,mx1];refine⟨fun _=>?_,fun h=>by rw[tD (show((1:Nat):Int)>0 by omega)] at h;cases h⟩;rw[wu];simp -implicitDefEqProofs only[go_sem];refine drw ?_;have wp:IntKind.i64.wrap (((1:Nat):Int)-1)=((0:Nat):Int):=by decide
    have ng:List.map (wU 39) ([]++[T.d (.v (.slice none 0 0))])=[T.d (.v (.slice none 0 0))]:=rfl;have p1:0<1:=by omega
    simp -implicitDefEqProofs only[go_sem,wp,p1,z1,ng];refine cI hmade ?_;have p2:0+1<=1:=by omega
    have a2:1<=maxLen:=hmx _ (by omega);have rowX:[T.d (flD (F X).1),T.d (flD (F X).2)]=ivT (psA F L n 0) 1:=by
     rw[hXa,hd,hr];rfl
    simp -implicitDefEqProofs only[go_sem,wp,p1,p2,z1,ng,a2,w1];rw[hd,hr] at fin;exact fin (by simp -implicitDefEqProofs only[go_sem]) (by simp -implicitDefEqProofs only[go_sem]) (by simp -implicitDefEqProofs only[go_sem]) (by simp -implicitDefEqProofs only[go_sem]) (by simp -implicitDefEqProofs only[go_sem]) (by simp -implicitDefEqProofs only[go_sem]) (by simp -implicitDefEqProofs only[go_sem];rfl) (by simp -implicitDefEqProofs only[go_sem,rowX])
   ·obtain⟨p,hp⟩:∃p,(i-1)/n=p:=⟨_,rfl⟩;obtain⟨c,hc⟩:∃c,(i-1) % n=c:=⟨_,rfl⟩;have hcn:c<n:=by rw[<-hc];exact Nat.mod_lt _ hn0
    have hpc:p*n+c=i-1:=by rw[<-hp,<-hc,Nat.mul_comm];exact Nat.div_add_mod _ n
    have hpi:p<=i-1:=by rw[<-hp];exact Nat.div_le_self _ n
    have pl:(psP F L n p++[T.gs 56]).length=p+1:=by rw[List.length_append,qw];rfl
    have pm1:(p+1+1)*24<=140737488355328:=by omega
    have pm2:p+1+1<=maxLen:=hmx _ (by omega);have eL1:=tB (tD (show((p+2:Nat):Int)>0 by omega));have pk:List.map (wU 39) (psP F L n p++[T.gs 56]++[T.d (.v (.slice none 0 0))])=psP F L n p++[T.gs 56]++[T.d (.v (.slice none 0 0))]:=by
     rw[List.map_append,List.map_append,Z7];rfl
    have pl2:(psP F L n p++[T.gs 56]++[T.d (.v (.slice none 0 0))]).length=p+2:=by rw[List.length_append,pl];rfl
    have eL2:=tB (tD (show((p+1:Nat):Int)>0 by omega));have eSi:psS F L L' n i=St.of [(1,.d (intD n)),(2,.d (.sl 2 (boxC L'))),(8,.gs 39),(22,.d (.sl 2 (boxC L))),(23,.d (intD L.length)),(24,.d (intD (i:Int)))]
     [(39,kW (psP F L n p++[.gs 56])),(56,Qg (ivT (psA F L n p) (c+1)))]:=by
     have:=eS1 (i-1);rw[show i-1+1=i by omega,hp,hc] at this;exact this
    by_cases hr:i % n=0
    ·have eZ:=tB (show(((i % n:Nat):Int)==0)=true by rw[hr];rfl);rw[eSi];simp -implicitDefEqProofs only[go_sem,eB,cl,q1,q2,tk,eW,eR,eN,eZ,w1,pl,pl2,pk,pm1,pm2,eL1,eL2,Nat.div_one];refine⟨fun _=>?_,fun h=>by rw[tD (show((p+2:Nat):Int)>0 by omega)] at h;cases h⟩;rw[wu];simp -implicitDefEqProofs only[go_sem];rw[wu];refine yZ (qS 56 rfl (show asDs (List.map (wU 39) (ivT (psA F L n p) (c+1)))=some (ivC (psA F L n p) (c+1)) by rw[xY,QF])) ?_;rw[<-wu (DWp _ _ _ _) ⟨⟩];refine drw ?_;have hcn':c+1=n:=by
      rcases Nat.lt_or_ge (c+1) n with h|h
      ·exfalso;have e1:i=p*n+(c+1):=by omega
       rw[e1,Nat.add_comm,Nat.add_mul_mod_self_right,Nat.mod_eq_of_lt h] at hr;omega
      ·omega
     have dv:i/n=p+1:=by
      have e1:i=(p+1)*n:=by rw[Nat.add_mul];omega
      rw[e1,Nat.mul_div_cancel _ hn0]
     have pc56:List.map (jM 56 ⟨some (59,2,true),List.map (wU 39) (ivT (psA F L n p) (c+1))⟩ (ivC (psA F L n p) (c+1))) (psP F L n p++[T.gs 56]++[T.d (.v (.slice none 0 0))])=psP F L n (p+1)++[T.d (.v (.slice none 0 0))]:=by
      rw[List.map_append,List.map_append,Z8,zcC,hcn'];rfl
     have pl4:(psP F L n (p+1)++[T.d (.v (.slice none 0 0))]).length=p+2:=by rw[List.length_append,qw];rfl
     have wp:IntKind.i64.wrap (((p+2:Nat):Int)-1)=((p+1:Nat):Int):=by rw[w64 (by omega)];omega
     have p1:p+1<p+2:=by omega
     have p2:p+1+1<=p+2:=by omega
     have gp:(psP F L n (p+1)++[T.d (.v (.slice none 0 0))])[p+1]?=some (.d (.v (.slice none 0 0))):=by
      rw[List.getElem?_append_right (by rw[qw];omega),qw,Nat.sub_self];rfl
     have ps3:(psP F L n (p+1)++[T.d (.v (.slice none 0 0))]).set (p+1) (.gs 56)=psP F L n (p+1)++[T.gs 56]:=by
      rw[List.set_append_right _ _ (by rw[qw];omega),qw,Nat.sub_self];rfl
     simp -implicitDefEqProofs only[go_sem,pk,pc56,pl4,wp,z1,p1,gp];refine cI hmade ?_;have rowX:[T.d (flD (F X).1),T.d (flD (F X).2)]=ivT (psA F L n (p+1)) 1:=by
      rw[hXa,dv,hr];rfl
     simp -implicitDefEqProofs only[go_sem,pk,pc56,pl4,wp,p1,p2,gp,ps3,z1,mx1,w1];rw[dv,hr] at fin;exact fin (by simp -implicitDefEqProofs only[go_sem]) (by simp -implicitDefEqProofs only[go_sem]) (by simp -implicitDefEqProofs only[go_sem]) (by simp -implicitDefEqProofs only[go_sem]) (by simp -implicitDefEqProofs only[go_sem]) (by simp -implicitDefEqProofs only[go_sem]) (by simp -implicitDefEqProofs only[go_sem,pk,pc56,ps3]) (by simp -implicitDefEqProofs only[go_sem,rowX])
    ·have eZ:=tV (show(((i % n:Nat):Int)==0)=false by simp;omega);rw[eSi];simp -implicitDefEqProofs only[go_sem,eB,cl,q1,q2,tk,eW,eR,eN,eZ,w1,pl,pl2,pk,pm1,pm2,eL1,eL2,Nat.div_one];refine drw ?_;have wp:IntKind.i64.wrap (((p+1:Nat):Int)-1)=(p:Int):=by rw[w64 (by omega)];omega
     have p1:p<p+1:=by omega
     have gp:(psP F L n p++[T.gs 56])[p]?=some (.gs 56):=by
      rw[List.getElem?_append_right (by rw[qw];omega),qw,Nat.sub_self];rfl
     simp -implicitDefEqProofs only[go_sem,pl,wp,z1,p1,gp];refine cI hmade ?_;have e1:i=p*n+(c+1):=by omega
     have hc1:c+1<n:=by
      rcases Nat.lt_or_ge (c+1) n with h|h
      ·exact h
      ·exfalso;apply hr;rw[show i=(p+1)*n by rw[Nat.add_mul];omega,Nat.mul_mod_left]
     have md:i % n=c+1:=by rw[e1,Nat.add_comm,Nat.add_mul_mod_self_right,Nat.mod_eq_of_lt hc1]
     have dv:i/n=p:=by rw[e1,Nat.add_comm,Nat.add_mul_div_right _ _ hn0,Nat.div_eq_of_lt hc1,Nat.zero_add]
     have il:=jv;have ik:=xY;have hsk:SzOk Tryz.prog:=⟨by kernel_rfl,by kernel_rfl⟩;have a1:((c+1)*2+2)/2=c+2:=by omega
     have a2:(c+2)*16<=140737488355328:=by omega
     have a3:c+2<=maxLen:=hmx _ (by omega);have rowX:ivT (psA F L n p) (c+1)++[T.d (flD (F X).1),T.d (flD (F X).2)]=ivT (psA F L n p) (c+2):=by
      rw[hXa,dv,md];rfl
     have pk56:List.map (wU 56) (psP F L n p++[T.gs 56])=psP F L n p++[T.d .any]:=by
      rw[List.map_append,Z7];rfl
     have pl3:(psP F L n p++[T.d .any]).length=p+1:=by rw[List.length_append,qw];rfl
     have ps3:(psP F L n p++[T.d .any]).set p (.gs 56)=psP F L n p++[T.gs 56]:=by
      rw[List.set_append_right _ _ (by rw[qw];omega),qw,Nat.sub_self];rfl
     have p2:p+1<=p+1:=Nat.le_refl _;simp -implicitDefEqProofs only[go_sem,il,ik,hsk,a1,a2,a3,rowX,pk56,pl3,ps3,p1,p2,z1,pl,wp,w1];rw[dv,md] at fin;exact fin (by simp -implicitDefEqProofs only[go_sem]) (by simp -implicitDefEqProofs only[go_sem]) (by simp -implicitDefEqProofs only[go_sem]) (by simp -implicitDefEqProofs only[go_sem]) (by simp -implicitDefEqProofs only[go_sem]) (by simp -implicitDefEqProofs only[go_sem]) (by simp -implicitDefEqProofs only[go_sem,pk56,ps3]) (by simp -implicitDefEqProofs only[go_sem,rowX,ik])
 ·obtain rfl:i=L.length:=by omega
  have eB:decide ((L.length:Int)<(L.length:Int))=false:=fD (by omega);refine yZ (zfD hN) ?_;refine kM (by kernel_rfl) ?_;simp -implicitDefEqProofs only[go_sem,eB,cl,d2];rw[wu];refine jF 11 69 59 2 rfl rfl ?_;have il:=jv;have ik:=xY;refine wm (α:={i:Nat // i<=L'.length}) (fun i=>St.of [(8,.d (w9 (psA F L w.toNat) (psN L w.toNat) (psM L w))),(11,.gs 69),(59,.d (.sl 2 (boxC L'))),(60,.d (intD L'.length)),(61,.d (intD i.1))] [(69,Qg (ivT (fun i=>F (L'.getD i (0,0))) i.1))])
   (fun i=>L'.length-i.1) ⟨0,Nat.zero_le _⟩ (we ?_ ?_ rfl) (by kernel_rfl) (fun i=>?_)
  ·simp -implicitDefEqProofs only[go_sem,upd]
  ·simp -implicitDefEqProofs only[go_sem,upd];rfl
  obtain⟨i,hi⟩:=i;have w1:=wL (c:=i) (by omega);simp only;by_cases hB:i<L'.length
  ·have eB:decide ((i:Int)<(L'.length:Int))=true:=tD (by omega);obtain⟨X,hX,hXL,hXg⟩:∃X,L'[i]?=some X/\X∈L'/\L'.getD i (0,0)=X:=⟨L'[i],List.getElem?_eq_getElem hB,List.getElem_mem hB,by rw[List.getD_eq_getElem?_getD,List.getElem?_eq_getElem hB];rfl⟩;have tk:=kf hX;have q1:i*2<L'.length*2:=by omega
   have q2:i*2+2<=L'.length*2:=by omega
   have a1:(i*2+2)/2=i+1:=by omega
   have a2:(i+1)*16<=140737488355328:=by omega
   have a3:i+1<=maxLen:=hmx _ (by omega);have rowX:ivT (fun i=>F (L'.getD i (0,0))) i++[T.d (flD (F X).1),T.d (flD (F X).2)]=ivT (fun i=>F (L'.getD i (0,0))) (i+1):=by
    simp only[ivT];rw[hXg]
   obtain⟨i',hi'⟩:∃i':{i:Nat // i<=L'.length},i'.1=i+1:=⟨⟨i+1,hB⟩,rfl⟩;simp -implicitDefEqProofs only[go_sem,eB,cl,q1,q2,tk];refine cI (hm X (.inr hXL)) ?_;have hsk:SzOk Tryz.prog:=⟨by kernel_rfl,by kernel_rfl⟩;simp -implicitDefEqProofs only[go_sem,il,ik,a1,a2,a3,rowX,w1,hsk];refine⟨i',we ?_ ?_ ?_,by omega⟩
   ·simp -implicitDefEqProofs only[go_sem,hi']
   ·simp -implicitDefEqProofs only[go_sem,rowX,ik,hi']
   ·simp only[wv,List.all_cons,List.all_nil,List.map_cons,List.map_nil];have g2:(ivT (fun i=>F (L'.getD i (0,0))) i'.1).all (wG [69])=true:=by
     rw[List.all_eq_true];intro c hc;simp[wG,ve hc]
    simp only[g2];rfl
  ·have eB:decide ((i:Int)<(L'.length:Int))=false:=fD (by omega);obtain rfl:i=L'.length:=by omega
   have ad:=QF;simp -implicitDefEqProofs only[go_sem,eB,ad];have hM6:psM L w<=1000000:=by
    unfold psM;split
    ·omega
    ·split
     ·omega
     ·have:=Nat.div_le_self (L.length-1) w.toNat;omega
   have hga:∀i j,i<psM L w->j<psN L w.toNat i->Gd (psA F L w.toNat i j):=fun i j _ hj=>by
    unfold psN at hj;have hij:i*w.toNat+j<L.length:=by omega
    obtain⟨X,_,hXL,hXg⟩:=get hij;unfold psA;rw[hXg];exact hF X (.inl hXL)
   have hgb:∀i,i<L'.length->Gd (F (L'.getD i (0,0))):=fun i hi=>by
    rw[List.getD_eq_getElem?_getD,List.getElem?_eq_getElem hi];exact hF _ (.inr (List.getElem_mem hi))
   refine cI (zcn hq O hM6 hga hgb) ?_;obtain⟨n,hn⟩:∃n,L'.length=n:=⟨_,rfl⟩;rw[hn] at hN' ⊢;rcases Hn M V S q (psA F L w.toNat) (psN L w.toNat) (psM L w) (fun i=>F (L'.getD i (0,0))) n with⟨k,hk9,hR,hS⟩|⟨out,hR,hS⟩
   ·rw[hR,hS];simp -implicitDefEqProofs only[go_sem,psR];refine cI (qp hq hk9) ?_;simp -implicitDefEqProofs only[go_sem];rw[wu];have eN:decide ((0:Int)<0)=false:=by decide
    refine wm (α:=Unit) (fun _=>St.of [(14,.d (.v (.slice none 0 0))),(16,.d (intD ((k:Int)+1))),(18,.d (.v (.slice none 0 0))),(83,.d (intD 0)),(84,.d (intD 0))] []) (fun _=>0) () (we ?_ ?_ rfl) (by kernel_rfl) (fun _=>?_)
    ·simp -implicitDefEqProofs only[go_sem]
    ·simp -implicitDefEqProofs only[go_sem]
    simp -implicitDefEqProofs only[go_sem,eN];rw[wu];refine wm (α:=Unit) (fun _=>St.of [(16,.d (intD ((k:Int)+1))),(18,.d (.v (.slice none 0 0))),(95,.d (intD 0)),(96,.d (intD 0))] []) (fun _=>0) () (we ?_ ?_ rfl) (by kernel_rfl) (fun _=>?_)
    ·simp -implicitDefEqProofs only[go_sem]
    ·simp -implicitDefEqProofs only[go_sem]
    simp -implicitDefEqProofs only[go_sem,eN];refine wc ?_;have ek:((k+1:Nat):Int)=(k:Int)+1:=rfl;simp -implicitDefEqProofs only[go_sem,ek]
   ·rw[hR,hS];simp -implicitDefEqProofs only[go_sem,psR];refine cI (jE E) ?_;have mt:∀(f:Nat->Nat×Nat) (k:Nat),(ivC f k).map T.d=ivT f k:=fun f k=>(yY f k).symm
    simp -implicitDefEqProofs only[go_sem,mt,il,Nat.mul_div_cancel];rw[wu];refine jF 18 92 32 2 rfl rfl ?_;have bl:∀i,(boxT ((List.range i).map out)).length=i*2:=fun i=>by
     rw[qE,List.length_map,List.length_range];omega
    have rfo:∀(f:Nat->Nat×Nat) (m:Nat) (ks:List Nat),(ivT f m).all (wG ks)=true:=fun f m ks=>by
     rw[List.all_eq_true];intro c hc;simp[wG,ve hc]
    refine wm (α:={i:Nat // i<=n}) (fun i=>St.of [(14,.gs 74),(16,.d (intD 0)),(18,.gs 92),(82,.gs 74),(83,.d (intD n)),(84,.d (intD i.1))] [(74,⟨some (59,2,false),ivT out n⟩),(92,rowB ((List.range i.1).map out))])
     (fun i=>n-i.1) ⟨0,Nat.zero_le _⟩ (we ?_ ?_ ?_) (by kernel_rfl) (fun i=>?_)
    ·simp -implicitDefEqProofs only[go_sem,upd]
    ·simp -implicitDefEqProofs only[go_sem,upd,mt];rfl
    ·simp[wv,rfo,wV,wG,T.ref]
    obtain⟨i,hi⟩:=i;have w1:=wL (c:=i) (by omega);simp only;by_cases hB:i<n
    ·have eB:decide ((i:Int)<(n:Int))=true:=tD (by omega);have tk:=ko out hB;have q1:i*2<n*2:=by omega
     have q2:i*2+2<=n*2:=by omega
     have a1:(i*2+2)/2=i+1:=by omega
     have a2:(i+1)*16<=140737488355328:=by omega
     have a3:i+1<=maxLen:=hmx _ (by omega);have os:=(zaH out i).symm;have bk:=wZ;obtain⟨i',hi'⟩:∃i':{i:Nat // i<=n},i'.1=i+1:=⟨⟨i+1,hB⟩,rfl⟩;simp -implicitDefEqProofs only[go_sem,eB,il,q1,q2,tk];refine cI (jN E (out i)) ?_;simp -implicitDefEqProofs only[go_sem,bl,a1,a2,a3,w1];refine⟨i',we ?_ ?_ ?_,by omega⟩
     ·simp -implicitDefEqProofs only[go_sem,hi']
     ·simp -implicitDefEqProofs only[go_sem,hi',bk,os,ik]
     ·simp[wv,rfo,wV,wG,T.ref]
    ·have eB:decide ((i:Int)<(n:Int))=false:=fD (by omega);obtain rfl:i=n:=by omega
     simp -implicitDefEqProofs only[go_sem,eB,il,Nat.mul_div_cancel];rw[wu];refine wm (α:={j:Nat // j<=i}) (fun j=>St.of [(14,.gs 74),(16,.d (intD 0)),(18,.gs 92),(95,.d (intD i)),(96,.d (intD j.1))] [(74,⟨some (59,2,false),ivT (wrO out j.1) i⟩),(92,rowB ((List.range i).map out))])
      (fun j=>i-j.1) ⟨0,Nat.zero_le _⟩ (we ?_ ?_ ?_) (by kernel_rfl) (fun j=>?_)
     ·simp -implicitDefEqProofs only[go_sem]
     ·simp -implicitDefEqProofs only[go_sem];rfl
     ·simp[wv,rfo,wV,wG,T.ref]
     obtain⟨j,hj⟩:=j;have w1:=wL (c:=j) (by omega);simp only;by_cases hC:j<i
     ·have eC:decide ((j:Int)<(i:Int))=true:=tD (by omega);have q1:j*2<i*2:=by omega
      have q2:j*2+2<=i*2:=by omega
      have st:=Je (wrO out j) (0,0) i j hC;have ws:=zbB out j;obtain⟨j',hj'⟩:∃j':{j:Nat // j<=i},j'.1=j+1:=⟨⟨j+1,hC⟩,rfl⟩;simp -implicitDefEqProofs only[go_sem,eC,il,q1,q2,st,ws,w1];refine⟨j',we ?_ ?_ ?_,by omega⟩
      ·simp -implicitDefEqProofs only[go_sem,hj']
      ·simp -implicitDefEqProofs only[go_sem,hj',st,ws]
      ·simp[wv,rfo,wV,wG,T.ref]
     ·have eC:decide ((j:Int)<(i:Int))=false:=fD (by omega);have ab:=xL;simp -implicitDefEqProofs only[go_sem,eC];refine wc ?_;simp -implicitDefEqProofs only[go_sem,ab]
end
end Go.Enc
