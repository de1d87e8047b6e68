/-
  A script's list of floats, as the program takes it; a copy of it. The document's Eval by contract; a step of kind 5 answers true. Eval answers as the document says: a step of kind 5 answers true.
-/
import Derived.Test.YtjlibljfpkmpfaaGreatDoorSa27
import Derived.Test.YtjlibljfpkmpfaaGreatDoorSa29
set_option maxRecDepth 100000
set_option linter.unusedSimpArgs false
set_option linter.unusedVariables false
section
namespace Go.Enc
open Go.Proofs Go.Enc.Dg Go.Enc.Nu Go.Enc.Fl
theorem zdP (E:Nat->Option Value){l:List Nat}(hlen:l.length*8<=140737488355328):DQz E 66 [usD l] (.data (fsD l)):=by
 have hml:(l.map uD).length=l.length:=List.length_map _;refine dcA Tryz.func66 Tryz.ntmps66 (rs:=[.tmp 2]) fun _ _ _ _ _=>?_
 simp -implicitDefEqProofs only[go_sem,hml,div1];rw[wu];refine jF 3 16 57 1 rfl rfl ?_;refine wm (α:={i:Nat // i<=l.length}) (fun i=>St.of [(0,.d (usD l)),(3,.gs 16),(6,.d (usD l)),(7,.d (intD l.length)),(8,.d (intD i.1))] [(16,⟨some (57,1,true),flT (l.take i.1)⟩)]) (fun i=>l.length-i.1)
  ⟨0,Nat.zero_le _⟩ (we ?_ ?_ rfl) (by kernel_rfl) (fun i=>?_)
 ·have c0:=c0E;simp -implicitDefEqProofs only[go_sem,upd,c0,hml,div1]
 ·simp -implicitDefEqProofs only[go_sem,upd,flT,List.take_zero,List.map_nil]
 ·obtain⟨i,hi⟩:=i;have htl:(l.take i).length=i:=by rw[List.length_take];omega
  by_cases hA:i<l.length
  ·obtain⟨x,hx⟩:=wJ hA;have eA:decide ((i:Int)<(l.length:Int))=true:=tD (by omega);have w1:=wL (c:=i) (by omega);have hmax:=mxE;obtain⟨i',hi'⟩:∃i':{i:Nat // i<=l.length},i'.1=i+1:=⟨⟨i+1,hA⟩,rfl⟩;simp -implicitDefEqProofs only[go_sem,hml,div1,eA,hA,KV hx];refine cI (Rj _ x) ?_;simp -implicitDefEqProofs only[go_sem,KH,htl,w1,Kg,Xv hx];refine⟨by omega,by omega,i',we ?_ ?_ (by simp[wv,yw,wG,T.ref]),by simp only[hi'];omega⟩<;>simp -implicitDefEqProofs only[go_sem,hi']
  ·have eA:decide ((i:Int)<(l.length:Int))=false:=fD (by omega);have ht:l.take i=l:=List.take_of_length_le (by omega);simp -implicitDefEqProofs only[go_sem,hml,div1,eA,Xc,ht,finK]
theorem Y1 (E:Nat->Option Value){l:List Nat}(hlen:l.length*8<=140737488355328):DQz E 24 [usD l] (.data (usD l)):=by
 have hml:(l.map uD).length=l.length:=List.length_map _;refine dcA Tryz.func24 Tryz.ntmps24 (rs:=[.tmp 2]) fun _ _ _ _ _=>?_
 have hmax:=mxE;simp -implicitDefEqProofs only[go_sem,hml,div1,List.length_map];exact⟨by omega,by omega⟩
end Go.Enc
end
section
namespace Go.Enc
open Go.Proofs Go.Enc.Dg Go.Enc.Nu Go.Enc.Fl
section
variable {E:Nat->Option Value} {q:Nat->Addr} {l:List Nat} {x:Nat×Nat}
theorem Zi (hq:Sent E q)(hl:∀x∈l,x<18446744073709551616)(hr:wI l=0){X:Nat×Nat}(gX:Gd X):∀j,j<l.length->Res1 (evB (coef l) l.length X j)
 |0,_=>by
  obtain⟨h1,h2⟩:=QT (X:=X) hl hr;exact .inl ⟨h1,rfl,h2⟩
 |j+1,hj=>by
  have ih:=Zi hq hl hr gX j (by omega);by_cases h0:(evB (coef l) l.length X j).2.1=0
  ·have g:Gd (evB (coef l) l.length X j).1:=by
    rcases ih with⟨_,_,g⟩|⟨g1,_,_⟩
    ·exact g
    ·omega
   have S:=Zh (E:=E) hq hl hr gX hj h0 g;rw[S.next];split
   ·rename_i hm;exact(S.ma hm).2
   ·exact S.m1
  ·have:evB (coef l) l.length X (j+1)=evB (coef l) l.length X j:=QU h0 1;rw[this];exact ih
theorem zfx (hq:Sent E q)(hl:∀x∈l,x<18446744073709551616)(hr:wI l=0){X:Nat×Nat}(gX:Gd X)(j:Nat)(hj:j<l.length)(h0:(evB (coef l) l.length X j).2.1=0):(evB (coef l) l.length X j).2.2=noS:=by
 rcases Zi hq hl hr gX j hj with⟨_,h,_⟩|⟨g1,_,_⟩
 ·exact h
 ·omega
def inB (R M A:Ans):Nat->Nat×Nat
 |0=>R.1
 |1=>M.1
 |_=>A.1
theorem refM (E:Nat->Option Value){r y:Nat×Nat}(g:Gd r)(y1:y.1<18446744073709551616)(y2:y.2<18446744073709551616):DQz E 18 [intD 5,boxD r,boxD y] (.data (ansD (mulB r (mk2 y)))):=by
 have:=refop (x:=r) (y:=y) E 5 g.l1 g.l2 y1 y2
 rwa [JJ g] at this
theorem refA (E:Nat->Option Value){r y:Nat×Nat}(g:Gd r)(g':Gd y):DQz E 18 [intD 3,boxD r,boxD y] (.data (ansD (addB r y))):=by
 have:=refop (x:=r) (y:=y) E 3 g.l1 g.l2 g'.l1 g'.l2
 rwa [JJ g,JJ g'] at this
theorem ziq (hq:Sent E q)(hl:∀x∈l,x<18446744073709551616)(hr:wI l=0)(x1:x.1<18446744073709551616)(x2:x.2<18446744073709551616){j c:Nat}(hj:j+1<l.length)(h0:(evB (coef l) l.length (mk2 x) j).2.1=0)(g:Gd (evB (coef l) l.length (mk2 x) j).1)(hc:l[l.length-2-j]?=some c) :
  ∃M A:Ans,DQz E 18 [intD 5,boxD (evB (coef l) l.length (mk2 x) j).1,boxD x] (.data (ansD M))/\Res1 M/\(M.2.1=0->DQz E 18 [intD 3,boxD M.1,boxD (ptB c)] (.data (ansD A))/\Res1 A)/\evB (coef l) l.length (mk2 x) (j+1)=if M.2.1=0 then A else M:=by
 have gX:=jO x1 x2;have S:=Zh (E:=E) hq hl hr gX hj h0 g;have h3:=(qb hr).2.2;have gp:=zcA (hl c (List.mem_of_getElem? hc)) (h3 c (List.mem_of_getElem? hc));have hkx:coef l (l.length-2-j)=c:=vQ hc;refine⟨mulB (evB (coef l) l.length (mk2 x) j).1 (mk2 x),addB (mulB (evB (coef l) l.length (mk2 x) j).1 (mk2 x)).1 (ptB c),refM E g x1 x2,S.m1,fun hm=>?_,?_⟩
 ·have gm:Gd (mulB (evB (coef l) l.length (mk2 x) j).1 (mk2 x)).1:=by
   rcases S.m1 with⟨_,_,gm⟩|⟨g1,_,_⟩
   ·exact gm
   ·omega
  refine⟨refA E gm gp,?_⟩;have:=(S.ma hm).2
  rwa [hkx] at this
 ·have:=S.next
  rwa [hkx] at this
theorem VJ (hq:Sent E q)(hl:∀x∈l,x<18446744073709551616)(hlen:l.length<=1152921504606846976)(x1:x.1<18446744073709551616)(x2:x.2<18446744073709551616):DQz E 25 [usD l,boxD x] (.data (ansD (jC l (mk2 x)))):=by
 have hri:=ZR E hl hlen;have gX:=jO x1 x2;by_cases hr:wI l=0
 ·obtain⟨h1,h2,h3⟩:=qb hr;have hR:jC l (mk2 x)=evB (coef l) l.length (mk2 x) (l.length-1):=if_pos hr;have hname:=zfx hq hl hr gX (l.length-1) (by omega);obtain⟨R,hF⟩:∃R,evB (coef l) l.length (mk2 x) (l.length-1)=R:=⟨_,rfl⟩;rw[hR,hF];rw[hr] at hri;have hml:(l.map uD).length=l.length:=List.length_map _;obtain⟨x0,hx0⟩:=wJ (l:=l) (i:=l.length-1) (by omega);have ev0:evB (coef l) l.length (mk2 x) 0=(ptB x0,0,noS):=by show(ptB (coef l (l.length-1)),_,_)=_;rw[vQ hx0]
  have wn1:IntKind.i64.wrap ((l.length:Int)-1)=((l.length-1:Nat):Int):=zbP (by omega);have w2:IntKind.i64.wrap ((l.length:Int)-2)=(l.length:Int)-2:=w64 (by omega);have hA0:l.length-1<l.length:=by omega
  have n00:((0:Int) != 0)=false:=by decide
  refine dcA Tryz.func25 Tryz.ntmps25 (rs:=[.cell 4 27,.tmp 5,.tmp 6]) fun σ0 w0 base df G0=>?_
  simp -implicitDefEqProofs only[go_sem];refine cI hri ?_;simp -implicitDefEqProofs only[go_sem,n00,hml,div1,wn1,w2,hA0,KV hx0];refine cI (UJ _ x0) ?_;simp -implicitDefEqProofs only[go_sem,hml,div1,wn1,w2];rw[wu];refine wm (α:={j:Nat // j<l.length/\(evB (coef l) l.length (mk2 x) j).2.1=0/\Gd (evB (coef l) l.length (mk2 x) j).1}) (fun j=>St.of [(0,.d (usD l)),(3,.ptr 3 0),(4,.ptr 4 0),(8,.ptr 8 0),(9,.d (intD ((l.length:Int)-2-(j.1:Int))))]
   [(3,⟨none,[.d (.v (.int .u64 x.1)),.d (.v (.int .u64 x.2))]⟩),(4,⟨none,[.d (.v (.int .u64 0)),.d (.v (.int .u64 0))]⟩),(8,⟨none,[.d (.v (.int .u64 (evB (coef l) l.length (mk2 x) j.1).1.1)),.d (.v (.int .u64 (evB (coef l) l.length (mk2 x) j.1).1.2))]⟩)]) (fun j=>l.length-j.1)
   ⟨0,by omega,QT hl hr⟩ (we ?_ ?_ rfl) (by kernel_rfl) (fun j=>?_)
  ·simp -implicitDefEqProofs only[go_sem,Int.sub_zero]
  ·simp -implicitDefEqProofs only[go_sem,ev0,ptB]
  ·obtain⟨j,hj,z0,gz⟩:=j;by_cases hA:j+1<l.length
   ·obtain⟨k,hk⟩:∃k:Nat,l.length-2-j=k:=⟨_,rfl⟩;obtain⟨c,hx⟩:=wJ (l:=l) (i:=k) (by omega);obtain⟨M,A,opM,sm1,sma,snext⟩:=ziq (E:=E) hq hl hr x1 x2 hA z0 gz (c:=c) (by rw[hk];exact hx);have hkI:(l.length:Int)-2-(j:Int)=(k:Int):=by omega
    have hkA:k<l.length:=by omega
    have eA:decide ((k:Int)>=0)=true:=geZ k;have w1:IntKind.i64.wrap ((k:Int)-1)=(l.length:Int)-2-((j+1:Nat):Int):=by rw[w64 (by omega)];omega
    have hend:=zdW (X:=mk2 x) hA;have nM:∀ {n:Int},n≠0->(n != 0)=true:=fun h=>bneT h
    simp -implicitDefEqProofs only[go_sem,hkI,eA];rw[wu];refine wm (α:={i:Nat // i<=2/\(1<=i->M.2.1=0)/\(2<=i->A.2.1=0)}) (fun i=>St.of [(0,.d (usD l)),(3,.ptr 3 0),(4,.ptr 4 0),(8,.ptr 8 0),(9,.d (intD k)),(10,.d (intD (5-2*(i.1:Int))))]
     [(3,⟨none,[.d (.v (.int .u64 x.1)),.d (.v (.int .u64 x.2))]⟩),(4,⟨none,[.d (.v (.int .u64 0)),.d (.v (.int .u64 0))]⟩),(8,⟨none,[.d (.v (.int .u64 (inB (evB (coef l) l.length (mk2 x) j) M A i.1).1)),.d (.v (.int .u64 (inB (evB (coef l) l.length (mk2 x) j) M A i.1).2))]⟩)]) (fun i=>2-i.1)
     ⟨0,by omega,by omega,by omega⟩ (we ?_ ?_ rfl) (by kernel_rfl) (fun i=>?_)
    ·have c5:(5:Int)-2*((0:Nat):Int)=5:=by decide
     simp -implicitDefEqProofs only[go_sem,hkI,Int.mul_zero,Int.sub_zero]
    ·simp -implicitDefEqProofs only[go_sem,inB]
    ·obtain⟨i,hi,i1,i2⟩:=i;have hcase:i=0\/i=1\/i=2:=by omega
     rcases hcase with hi0|hi1|hi2
     ·have t5:(5:Int)-2*(i:Int)=5:=by omega
      have hin:inB (evB (coef l) l.length (mk2 x) j) M A i=(evB (coef l) l.length (mk2 x) j).1:=by rw[hi0];rfl
      have q53:=tB' (show decide ((5:Int)>=3)=true by decide);simp -implicitDefEqProofs only[go_sem,t5,hin,Int.reduceBEq,q53];refine cI opM ?_;by_cases hm:M.2.1=0
      ·have e0:(M.2.1 != 0)=false:=bneF hm;have w5:IntKind.i64.wrap (5-2)=5-2*(1:Int):=by decide
       obtain⟨i',hi'⟩:∃i':{i:Nat // i<=2/\(1<=i->M.2.1=0)/\(2<=i->A.2.1=0)},i'.1=1:=⟨⟨1,by omega,fun _=>hm,fun h=>by omega⟩,rfl⟩;simp -implicitDefEqProofs only[go_sem,t5,e0];refine⟨i',we ?_ ?_ rfl,by simp only[hi'];omega⟩
       ·have w6:IntKind.i64.wrap (5-2)=3:=by decide
        have w7:(5:Int)-2*((1:Nat):Int)=3:=by decide
        simp -implicitDefEqProofs only[go_sem,t5,hi',w6,w7]
       ·simp -implicitDefEqProofs only[go_sem,hi',inB]
      ·have e0:=tV (nM hm);have h00:M.1=(0,0):=by
        rcases sm1 with⟨g1,_,_⟩|⟨_,_,g1⟩
        ·exact absurd g1 hm
        ·exact g1
       rw[if_neg hm] at snext;have hfin:=hend (by rw[snext];exact hm);rw[snext,hF] at hfin;rw[hfin];have c0:=c0E;simp -implicitDefEqProofs only[go_sem,t5,e0,h00,c0];refine wc ?_;simp -implicitDefEqProofs only[go_sem,h00,c0]
     ·have t5:(5:Int)-2*(i:Int)=3:=by omega
      have hm:=i1 (by omega);have hin:inB (evB (coef l) l.length (mk2 x) j) M A i=M.1:=by rw[hi1];rfl
      have q33:=tB' (show decide ((3:Int)>=3)=true by decide);simp -implicitDefEqProofs only[go_sem,t5,hin,Int.reduceBEq,q33,hml,hkA,KV hx];refine cI (UJ _ c) ?_;simp -implicitDefEqProofs only[go_sem,t5,hin];obtain⟨opA,ma2⟩:=sma hm;refine cI opA ?_;rw[if_pos hm] at snext;by_cases ha:A.2.1=0
      ·have e0:(A.2.1 != 0)=false:=bneF ha;obtain⟨i',hi'⟩:∃i':{i:Nat // i<=2/\(1<=i->M.2.1=0)/\(2<=i->A.2.1=0)},i'.1=2:=⟨⟨2,by omega,fun _=>hm,fun _=>ha⟩,rfl⟩;simp -implicitDefEqProofs only[go_sem,t5,e0];refine⟨i',we ?_ ?_ rfl,by simp only[hi'];omega⟩
       ·have w6:IntKind.i64.wrap (3-2)=1:=by decide
        have w7:(5:Int)-2*((2:Nat):Int)=1:=by decide
        simp -implicitDefEqProofs only[go_sem,t5,hi',w6,w7]
       ·simp -implicitDefEqProofs only[go_sem,hi',inB]
      ·have e0:=tV (nM ha);have h00:A.1=(0,0):=by
        rcases ma2 with⟨g1,_,_⟩|⟨_,_,g1⟩
        ·exact absurd g1 ha
        ·exact g1
       have hfin:=hend (by rw[snext];exact ha);rw[snext,hF] at hfin;rw[hfin];have c0:=c0E;simp -implicitDefEqProofs only[go_sem,t5,e0,h00,c0];refine wc ?_;simp -implicitDefEqProofs only[go_sem,h00,c0]
     ·have t5:(5:Int)-2*(i:Int)=1:=by omega
      have hm:=i1 (by omega);have ha:=i2 (by omega);have hin:inB (evB (coef l) l.length (mk2 x) j) M A i=A.1:=by rw[hi2];rfl
      rw[if_pos hm] at snext;obtain⟨_,ma2⟩:=sma hm;have gA:Gd A.1:=by
       rcases ma2 with⟨_,_,gm⟩|⟨g1,_,_⟩
       ·exact gm
       ·omega
      have e13:decide ((1:Int)>=3)=false:=by decide
      obtain⟨j',hj'⟩:∃j':{j:Nat // j<l.length/\(evB (coef l) l.length (mk2 x) j).2.1=0/\Gd (evB (coef l) l.length (mk2 x) j).1},j'.1=j+1:=⟨⟨j+1,hA,by rw[snext];exact ha,by rw[snext];exact gA⟩,rfl⟩;simp -implicitDefEqProofs only[go_sem,t5,e13,w1];refine⟨j',we ?_ ?_ rfl,by simp only[hj'];omega⟩<;>simp -implicitDefEqProofs only[go_sem,hj',w1,snext,hin]
   ·have eA:decide ((l.length:Int)-2-(j:Int)>=0)=false:=fD (by omega);have hj1:j=l.length-1:=by omega
    subst hj1;have hn:=hname z0;rw[hF] at z0 hn;obtain⟨r1,r2,r3⟩:=R;simp only at z0 hn;subst z0 hn;simp -implicitDefEqProofs only[go_sem,eA,hF];refine wc ?_;simp -implicitDefEqProofs only[go_sem]
 ·have hR:jC l (mk2 x)=((0,0),wI l,noS):=if_neg hr;have e0:=tV (bneT hr);rw[hR];refine dcA Tryz.func25 Tryz.ntmps25 (rs:=[.cell 4 27,.tmp 5,.tmp 6]) fun _ _ _ _ _=>?_
  simp -implicitDefEqProofs only[go_sem];refine cI hri ?_;simp -implicitDefEqProofs only[go_sem,e0];refine wc ?_;simp -implicitDefEqProofs only[go_sem]
end
end Go.Enc
end
section
namespace Go.Enc
open Go.Proofs Go.Enc.Dg Go.Enc.Nu Go.Enc.Fl
section
variable {E:Nat->Option Value} {q:Nat->Addr} {l:List Nat} {x:Nat×Nat}
theorem Hs (l:List Nat):wI l=0\/wI l=1\/wI l=8:=by
 unfold wI;split
 ·exact .inr (.inr rfl)
 ·split
  ·exact .inl rfl
  ·exact .inr (.inl rfl)
theorem zgJ (hq:Sent E q)(hl:∀x∈l,x<18446744073709551616){X:Nat×Nat}(gX:Gd X):DQz E 32 [Kh q l X] (.data (.tup [intD (jC l X).2.1,strD (jC l X).2.2])):=by
 by_cases hr:wI l=0
 ·obtain⟨h1,_,_⟩:=qb hr;have hR:jC l X=evB (coef l) l.length X (l.length-1):=if_pos hr;have hE:Kh q l X=errD q (jC l X).2.1 (jC l X).2.2:=if_pos hr;rw[hE,hR];rcases Zi hq hl hr gX (l.length-1) (by omega) with⟨a,b,_⟩|⟨a,b,_⟩
  ·exact Y4 hq (.inl ⟨a,b⟩)
  ·exact Y4 hq (.inr ⟨by omega,by omega⟩)
 ·have hR:jC l X=((0,0),wI l,noS):=if_neg hr;have hE:Kh q l X=errR q (wI l):=if_neg hr;have hE2:errR q (wI l)=eD q (wI l-1).toNat:=if_neg hr;rw[hE,hR,hE2];rcases Hs l with h|h|h
  ·exact absurd h hr
  ·rw[h];exact qp hq (i:=0) (by decide)
  ·rw[h];exact qp hq (i:=7) (by decide)
theorem zfJ (hq:Sent E q)(hl:∀x∈l,x<18446744073709551616)(hlen:l.length*8<=140737488355328)(x1:x.1<18446744073709551616)(x2:x.2<18446744073709551616) :
  DQz E 23 [usD l,boxD x] (.data (.tup [boxD (jC l (mk2 x)).1,intD (jC l (mk2 x)).2.1,strD (jC l (mk2 x)).2.2])):=by
 have gX:=jO x1 x2;have h1:=zdP E hlen;have h2:=qY hq x1 x2;have h3:=U8 hq hl (by omega) gX;have h4:=zgJ hq hl gX;obtain⟨R,hF⟩:∃R,jC l (mk2 x)=R:=⟨_,rfl⟩;obtain⟨e,hG⟩:∃e,Kh q l (mk2 x)=e:=⟨_,rfl⟩;rw[hF,hG] at h3;rw[hF,hG] at h4;rw[hF];clear hF hG;refine dcA Tryz.func23 Tryz.ntmps23 (rs:=[.cell 4 32,.tmp 5,.tmp 6]) fun _ _ _ _ _=>?_
 simp -implicitDefEqProofs only[go_sem];refine drw ?_;simp -implicitDefEqProofs only[go_sem];refine cI h1 ?_;simp -implicitDefEqProofs only[go_sem];refine cI h2 ?_;simp -implicitDefEqProofs only[go_sem];refine cI h3 ?_;simp -implicitDefEqProofs only[go_sem];refine cI h4 ?_;simp -implicitDefEqProofs only[go_sem];refine cI (jN _ R.1) ?_;simp -implicitDefEqProofs only[go_sem];refine wc ?_;simp -implicitDefEqProofs only[go_sem]
theorem Hz (hq:Sent E q){o:OpD}(hw:o.Wf)(hlen:o.p.length*8<=140737488355328)(hk:o.kind=5):DQz E 12 [opD o] (.data (bD true)):=by
 have hp:∀x∈o.p,x<18446744073709551616:=hw.p;have h0:=Y1 E hlen;have h1:=zfJ (x:=(o.xl,o.xh)) hq hp hlen hw.xl hw.xh;have h2:=VJ (x:=(o.xl,o.xh)) hq hp (by omega) hw.xl hw.xh;obtain⟨R,hF⟩:∃R,jC o.p (mk2 (o.xl,o.xh))=R:=⟨_,rfl⟩;rw[hF] at h1 h2;clear hF;obtain⟨r,n,s⟩:=R;refine dcA Tryz.func12 Tryz.ntmps12 (rs:=[.tmp 2]) fun _ _ _ _ _=>?_
 have e0:=tB (beqT (show n=n from rfl));have e1:=tV (show(s.toList==s.toList)=true from beq_self_eq_true _);simp -implicitDefEqProofs only[go_sem,OpD.cells,iD,uD,hk,Int.reduceBEq];refine drw ?_;simp -implicitDefEqProofs only[go_sem,OpD.cells,iD,uD];refine cI h0 ?_;simp -implicitDefEqProofs only[go_sem];refine cI (ym _ (o.xl,o.xh)) ?_;simp -implicitDefEqProofs only[go_sem];refine cI h1 ?_;simp -implicitDefEqProofs only[go_sem];refine cI h2 ?_;simp -implicitDefEqProofs only[go_sem];refine cI (WB _ _) ?_;simp -implicitDefEqProofs only[go_sem,e0,e1,beq_self_eq_true,finK]
end
end Go.Enc
end
