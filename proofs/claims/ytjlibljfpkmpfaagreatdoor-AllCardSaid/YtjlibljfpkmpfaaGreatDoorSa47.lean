/-
  Is the answer narrow? As the judge asks it.
-/
import Derived.Test.YtjlibljfpkmpfaaGreatDoorSa44
import Derived.Test.YtjlibljfpkmpfaaGreatDoorSa46
set_option maxRecDepth 100000
set_option linter.unusedSimpArgs false
set_option linter.unusedVariables false
namespace Go.Enc
open Go.Proofs Go.Enc.Dg Go.Enc.Nu Go.Enc.Fl Go.RowKit
def e30N (a:Nm):Nm:=⟨a.neg,a.n,a.e-30⟩
theorem zmY {a:Nm}{k L:Nat}(h:Nr a k L):Nr (e30N a) k (L+30):=⟨h.n,by have:=h.lo;show _<=a.e-30;omega,by have:=h.hi;show a.e-30<=_;omega⟩
theorem zbF (a:Nm):val (e30N a)=1/1073741824*val a:=by
 have h:(2:Rat)^(a.e-30)=2^a.e*2^(-30:Int):=by rw[<-wA];congr 1
 have e:(2:Rat)^(-30:Int)=1/1073741824:=by decide +kernel
 unfold val e30N;simp only;rw[h,e];split<;>grind
theorem zed (a:Nm):val (e2N a)=4*val a:=by
 have h:(2:Rat)^(a.e+2)=2^a.e*2^(2:Int):=wA _ _;have e:(2:Rat)^(2:Int)=4:=by decide +kernel
 unfold val e2N;simp only;rw[h,e];split<;>grind
def prN (a b:Nm)(k:Nat):Nm:=if k=0 then a else b
def GrN (O:Nat->Nat×Nat)(g:Nm)(i:Nat):Prop:=Nr g 60 1000/\∀r,r<i->am (iL (O r))<=val g/\am (iH (O r))<=val g
set_option maxHeartbeats 4000000 in
theorem zcW (E:Nat->Option Value){LO:List (Nat×Nat)}{n:Nat}(hn:n<=4)(hO:LO.length=n)(gO:∀X∈LO,Gd X)(hw:∀G:Rat,(∀i,i<n->Am G (LO.getD i (0,0)))->∀i,i<n->Wdt (1/1073741824*G) (LO.getD i (0,0))) :
  DQz E 113 [.sl 2 (boxC LO)] (.data (bD true)):=by
 obtain⟨O,hOe⟩:∃O:Nat->Nat×Nat,(fun i=>LO.getD i (0,0))=O:=⟨_,rfl⟩;have hOe':∀i,LO.getD i (0,0)=O i:=fun i=>congrFun hOe i
 have gE:∀i,i<n->LO[i]?=some (O i):=fun i h=>by rw[<-hOe];exact getD_some (by omega)
 have gG:∀i,i<n->Gd (O i):=fun i h=>gO _ (List.mem_of_getElem? (gE i h))
 simp only[hOe'] at hw;have hmd:∀i,i<n->DQz E 46 [boxD (O i)] (.data (nvD (loN (O i)) (hiN (O i)))):=fun i h=>JK E ⟨(gG i h).l1,(gG i h).l2⟩
 have nrL:∀X,Nr (loN X) 60 1000:=fun X=>qN _
 have nrH:∀X,Nr (hiN X) 60 1000:=fun X=>qN _
 refine dcA Tryz.func113 Tryz.ntmps113 (rs:=[.tmp 2]) fun _ _ _ _ _=>?_
 have clO:=jL LO;rw[hO] at clO;have d2:=ke;have hmax:=mxE;simp -implicitDefEqProofs only[go_sem];rw[wu];refine Jj 3 1 (natD 0) rfl rfl (fun σ u h=>?_) ?_
 ·have e:natD 0 = .sl 1 []:=by rw[show natD 0=digD (dg 0) from rfl,jU];rfl
  rw[e];exact Ky 1 σ u h
 refine wm (α:={p:Nat×Nm // p.1<=n/\GrN O p.2 p.1}) (fun p=>St.of [(0,.d (.sl 2 (boxC LO))),(3,.ptr 3 0),(4,.d (intD p.1.1))] [(3,nmO p.1.2)]) (fun p=>n-p.1.1)
  ⟨(0,nzero),Nat.zero_le _,yW _ _,fun r h=>by omega⟩ (we ?_ ?_ (by simp[wv,wG,T.ref])) (by kernel_rfl) (fun p=>?_)
 ·have c0:=c0E;simp -implicitDefEqProofs only[go_sem,c0,upd]
 ·simp -implicitDefEqProofs only[go_sem,upd,nzero]
 obtain⟨⟨i,g⟩,hi,hg⟩:=p;simp only at hi hg;by_cases hA:i<n
 ·have eA:decide ((i:Int)<(n:Int))=true:=tD (by omega);have w1:=wL (c:=i) (by omega);have tk:=kf (gE i hA);have q1:i*2<n*2:=by omega
  have q2:i*2+2<=n*2:=by omega
  have vl:=KT (gG i hA);have vh:=Vn (gG i hA);have a1:=Xe E (loN (O i));have a2:=Xe E (hiN (O i));simp -implicitDefEqProofs only[go_sem,eA,clO,d2,q1,q2,tk];refine cI (hmd i hA) ?_;simp -implicitDefEqProofs only[go_sem];refine drw ?_;simp -implicitDefEqProofs only[go_sem];refine cI a1 ?_;simp -implicitDefEqProofs only[go_sem];refine cI a2 ?_;simp -implicitDefEqProofs only[go_sem];rw[wu];obtain⟨pr,hpr⟩:∃pr,prN (nam (loN (O i))) (nam (hiN (O i)))=pr:=⟨_,rfl⟩;have nrp:∀k,Nr (pr k) 60 1000:=fun k=>by
   rw[<-hpr];unfold prN;split
   ·exact HG (nrL _)
   ·exact HG (nrH _)
  have v0:val (pr 0)=am (iL (O i)):=by rw[<-hpr,<-vl,<-WT];rfl
  have v1:val (pr 1)=am (iH (O i)):=by rw[<-hpr,<-vh,<-WT];rfl
  have p0:pr 0=nam (loN (O i)):=by rw[<-hpr];rfl
  have p1:pr 1=nam (hiN (O i)):=by rw[<-hpr];rfl
  have rl2:(rnC pr 2).length=6:=qu _ _;refine wm (α:={p:Nat×Nm // p.1<=2/\GrN O p.2 i/\∀k,k<p.1->val (pr k)<=val p.2}) (fun p=>St.of [(0,.d (.sl 2 (boxC LO))),(3,.ptr 3 0),(4,.d (intD i)),(32,.d (.sl 3 (rnC pr 2))),(33,.d (intD 2)),(34,.d (intD p.1.1))] [(3,nmO p.1.2)]) (fun p=>2-p.1.1)
   ⟨(0,g),by omega,hg,fun k h=>by omega⟩ (we ?_ ?_ (by simp[wv,wG,T.ref])) (by kernel_rfl) (fun p=>?_)
  ·have c0:=c0E;have c2:((2:Nat):Int)=2:=rfl;simp -implicitDefEqProofs only[go_sem,c0,c2,rnC,p0,p1]
  ·simp -implicitDefEqProofs only[go_sem]
  obtain⟨⟨k,g'⟩,hk,hg',hkk⟩:=p;simp only at hk hg' hkk;by_cases hB:k<2
  ·have eB:decide ((k:Int)<2)=true:=tD (by omega);have w2:=wL (c:=k) (by omega);have tk2:=yc pr hB;have q3:k*3<6:=by omega
   have q4:k*3+3<=6:=by omega
   have q5:k<2:=hB;have hl:=kE E (hg'.1.ok (by omega)) ((nrp k).ok (by omega)) (by omega);have d6:6/3=2:=rfl;have lt:=jP g' (pr k);simp -implicitDefEqProofs only[go_sem,eB,rl2,d6,q3,q4,q5,tk2];refine cI hl ?_;cases hb:nless g' (pr k) with
   |true=>
    rw[hb] at lt;have lt':=of_decide_eq_true lt.symm;obtain⟨p',hp'⟩:∃p':{p:Nat×Nm // p.1<=2/\GrN O p.2 i/\∀k,k<p.1->val (pr k)<=val p.2},p'.1=(k+1,pr k):=⟨⟨(k+1,pr k),by simp only;omega,⟨nrp k,fun r hr=>by
     have:=hg'.2 r hr;exact⟨by grind,by grind⟩⟩,fun c hc=>by
     simp only at hc ⊢;rcases Nat.lt_or_ge c k with h|h
     ·have:=hkk c h;grind
     ·rw[show c=k by omega];exact Rat.le_refl⟩,rfl⟩
    simp -implicitDefEqProofs only[go_sem,w2];refine⟨p',we ?_ ?_ (by simp[wv,wG,T.ref]),by simp only[hp'];omega⟩<;>simp -implicitDefEqProofs only[go_sem,hp']
   |false=>
    rw[hb] at lt;have lt':=of_decide_eq_false lt.symm;obtain⟨p',hp'⟩:∃p':{p:Nat×Nm // p.1<=2/\GrN O p.2 i/\∀k,k<p.1->val (pr k)<=val p.2},p'.1=(k+1,g'):=⟨⟨(k+1,g'),by simp only;omega,hg',fun c hc=>by
     simp only at hc ⊢;rcases Nat.lt_or_ge c k with h|h
     ·exact hkk c h
     ·rw[show c=k by omega];grind⟩,rfl⟩
    simp -implicitDefEqProofs only[go_sem,w2];refine⟨p',we ?_ ?_ (by simp[wv,wG,T.ref]),by simp only[hp'];omega⟩<;>simp -implicitDefEqProofs only[go_sem,hp']
  ·have eB:decide ((k:Int)<2)=false:=fD (by omega);obtain⟨p',hp'⟩:∃p':{p:Nat×Nm // p.1<=n/\GrN O p.2 p.1},p'.1=(i+1,g'):=⟨⟨(i+1,g'),hA,hg'.1,fun r hr=>by
    rcases Nat.lt_or_ge r i with h|h
    ·exact hg'.2 r h
    ·obtain rfl:r=i:=by simp only at hr;omega
     have h0:=hkk 0 (by omega);have h1:=hkk 1 (by omega);rw[v0] at h0;rw[v1] at h1;exact⟨h0,h1⟩⟩,rfl⟩
   simp -implicitDefEqProofs only[go_sem,eB,w1];refine⟨p',we ?_ ?_ (by simp[wv,wG,T.ref]),by simp only[hp'];omega⟩<;>simp -implicitDefEqProofs only[go_sem,hp']
 ·have eA:decide ((i:Int)<(n:Int))=false:=fD (by omega);obtain rfl:i=n:=by omega
  have g1:=hg.1.lo;have g2:=hg.1.hi;have w3:IntKind.i64.wrap (g.e-30)=(e30N g).e:=by rw[w64 (by omega)];rfl
  have n1:NOk (e30N g) 100000:=((zmY hg.1).ok (by omega)).mono (by omega);have thin:=hw (val g) (fun r hr=>by
   have h:=hg.2 r hr;have s1:=kg (iL (O r));have s2:=kg (iH (O r));exact⟨by grind,by grind⟩)
  have eg:nmO (e30N g)=⟨none,[.d (bD g.neg),.d (natD g.n),.d (intD (e30N g).e)]⟩:=rfl;simp -implicitDefEqProofs only[go_sem,eA,clO,d2,w3];rw[wu];refine wm (α:={j:Nat // j<=i}) (fun j=>St.of [(0,.d (.sl 2 (boxC LO))),(3,.ptr 3 0),(9,.d (intD j.1))] [(3,nmO (e30N g))]) (fun j=>i-j.1)
   ⟨0,Nat.zero_le _⟩ (we ?_ ?_ (by simp[wv,wG,T.ref])) (by kernel_rfl) (fun j=>?_)
  ·have c0:=c0E;simp -implicitDefEqProofs only[go_sem,c0]
  ·simp -implicitDefEqProofs only[go_sem,eg]
  obtain⟨j,hj⟩:=j;by_cases hC:j<i
  ·have eC:decide ((j:Int)<(i:Int))=true:=tD (by omega);have w1:=wL (c:=j) (by omega);have tk:=kf (gE j hC);have q1:j*2<i*2:=by omega
   have q2:j*2+2<=i*2:=by omega
   have hneg:=wP E (loN (O j));have hsum:=zZ E (((nrH (O j)).ok (by omega)).mono (j:=60) (by omega)) (((nrL (O j)).neg.ok (by omega)).mono (by omega)) (by omega);have n2:NOk (nsum (hiN (O j)) (nneg (loN (O j)))) 100000:=((((nrH (O j)).sum (nrL (O j)).neg).ok (by omega)).mono (by omega));have hl:=kE E n1 n2 (by omega);have lt:nless (e30N g) (nsum (hiN (O j)) (nneg (loN (O j))))=false:=by
    rw[jP,zbF,kj,xa,KT (gG j hC),Vn (gG j hC)];have:=thin j hC;unfold Wdt at this;exact decide_eq_false (by grind)
   rw[lt] at hl;obtain⟨j',hj'⟩:∃j':{j:Nat // j<=i},j'.1=j+1:=⟨⟨j+1,hC⟩,rfl⟩;generalize nsum (hiN (O j)) (nneg (loN (O j)))=d at *;simp -implicitDefEqProofs only[go_sem,eC,clO,d2,q1,q2,tk];refine cI (hmd j hC) ?_;simp -implicitDefEqProofs only[go_sem];refine cI hneg ?_;simp -implicitDefEqProofs only[go_sem];refine cI hsum ?_;simp -implicitDefEqProofs only[go_sem];refine cI hl ?_;simp -implicitDefEqProofs only[go_sem,w1];refine⟨j',we ?_ ?_ (by simp[wv,wG,T.ref]),by simp only[hj'];omega⟩<;>simp -implicitDefEqProofs only[go_sem,hj']
  ·have eC:decide ((j:Int)<(i:Int))=false:=fD (by omega);simp -implicitDefEqProofs only[go_sem,eC,clO,d2,finK]
theorem zcV {a b:Nm}(ha:Nr a 53 82)(hb:Nr b 53 82)(p:Int):Nr (chN a b p) 220 100:=by
 unfold chN;split
 ·exact ha.mono (by omega) (by omega)
 ·split
  ·exact hb.mono (by omega) (by omega)
  ·have s:=ha.sum hb;have h1:=s.lo;have h2:=s.hi;exact⟨Nat.lt_of_lt_of_le s.n (Nat.pow_le_pow_right (by decide) (by omega)),by show -((100:Nat):Int)<=(nsum a b).e-1;omega,by show(nsum a b).e-1<=((100:Nat):Int);omega⟩
section
variable (A B:Nat->Nat×Nat) (n:Nat) (p:Int)
def cN (i j:Nat):Nm:=chN (loN (A (n*i+j))) (hiN (A (n*i+j))) (p.fdiv (2^min (2*(n*i+j)) 64))
def cB (i:Nat):Nm:=chN (loN (B i)) (hiN (B i)) (p.fdiv (2^min (2*i+40) 64))
def RH (O:Nat->Nat×Nat)(i:Nat):Prop:=
 (nsign (detN n (cN A n p))<0->nless (detN n (rpN (cN A n p) (cB B p) i)) (nprod (hiN (O i)) (detN n (cN A n p)))=false/\nless (nprod (loN (O i)) (detN n (cN A n p))) (detN n (rpN (cN A n p) (cB B p) i))=false) /\
 (¬nsign (detN n (cN A n p))<0->nless (detN n (rpN (cN A n p) (cB B p) i)) (nprod (loN (O i)) (detN n (cN A n p)))=false/\nless (nprod (hiN (O i)) (detN n (cN A n p))) (detN n (rpN (cN A n p) (cB B p) i))=false)
end
set_option maxHeartbeats 8000000 in
theorem zii (E:Nat->Option Value){LA LB LO:List (Nat×Nat)}{n:Nat}(hn:n<=4)(h1n:1<=n)(hA:LA.length=n*n)(hB:LB.length=n)(hO:LO.length=n)(bA:Bits LA)(bB:Bits LB)(gO:∀X∈LO,Gd X)(p:Int)
  (fA:∀X∈LA,Nr (loN X) 53 82/\Nr (hiN X) 53 82) (fB:∀X∈LB,Nr (loN X) 53 82/\Nr (hiN X) 53 82)
  (hd:nsign (detN n (cN (fun i=>LA.getD i (0,0)) n p))≠0) (hx:∀i,i<n->RH (fun i=>LA.getD i (0,0)) (fun i=>LB.getD i (0,0)) n p (fun i=>LO.getD i (0,0)) i) :
  DQz E 112 [.sl 2 (boxC LA),.sl 2 (boxC LB),.sl 2 (boxC LO),intD p] (.data (bD true)):=by
 obtain⟨A,hAe⟩:∃A:Nat->Nat×Nat,(fun i=>LA.getD i (0,0))=A:=⟨_,rfl⟩;obtain⟨B,hBe⟩:∃B:Nat->Nat×Nat,(fun i=>LB.getD i (0,0))=B:=⟨_,rfl⟩;obtain⟨O,hOe⟩:∃O:Nat->Nat×Nat,(fun i=>LO.getD i (0,0))=O:=⟨_,rfl⟩;have gA:∀i,i<n*n->LA[i]?=some (A i):=fun i h=>by rw[<-hAe];exact getD_some (by omega)
 have gB:∀i,i<n->LB[i]?=some (B i):=fun i h=>by rw[<-hBe];exact getD_some (by omega)
 have gOe:∀i,i<n->LO[i]?=some (O i):=fun i h=>by rw[<-hOe];exact getD_some (by omega)
 rw[hAe] at hd hx;rw[hBe,hOe] at hx;have hij:∀ {i j},i<n->j<n->n*i+j<n*n:=fun {i j} hi hj=>by
  have:n*i+n<=n*n:=by rw[<-Nat.mul_succ];exact Nat.mul_le_mul_left _ hi
  omega
 have h16:n*n<=16:=Nat.mul_le_mul hn hn;obtain⟨c,hc⟩:∃c,cN A n p=c:=⟨_,rfl⟩;obtain⟨cb,hcb⟩:∃cb,cB B p=cb:=⟨_,rfl⟩;have nrc:∀i j,i<n->j<n->Nr (c i j) 220 100:=fun i j hi hj=>by
  have:=fA _ (List.mem_of_getElem? (gA _ (hij hi hj)));rw[<-hc];exact zcV this.1 this.2 _
 have nrb:∀i,i<n->Nr (cb i) 220 100:=fun i hi=>by
  have:=fB _ (List.mem_of_getElem? (gB _ hi));rw[<-hcb];exact zcV this.1 this.2 _
 have call1:∀i j,i<n->j<n->DQz E 140 [boxD (A (n*i+j)),intD (p.fdiv (2^min (2*(n*i+j)) 64))] (.data (nmD (c i j))):=fun i j hi hj=>by
  have hm:=List.mem_of_getElem? (gA _ (hij hi hj));have f:=fA _ hm;rw[<-hc];exact Y6 E (JK E (bA _ hm)) (f.1.mono (by omega) (by omega)) (f.2.mono (by omega) (by omega)) _
 have call2:∀i,i<n->DQz E 140 [boxD (B i),intD (p.fdiv (2^min (2*i+40) 64))] (.data (nmD (cb i))):=fun i hi=>by
  have hm:=List.mem_of_getElem? (gB _ hi);have f:=fB _ hm;rw[<-hcb];exact Y6 E (JK E (bB _ hm)) (f.1.mono (by omega) (by omega)) (f.2.mono (by omega) (by omega)) _
 have dK4:=zhE (n:=n) hn;obtain⟨d,hde⟩:∃d,detN n c=d:=⟨_,rfl⟩;have det1:DQz E 141 [.sl 1 (matC c n n),.sl 3 (rnC cb n),intD (-1)] (.data (nmD d)):=by
  have:=zdj E n hn c cb (.sl 3 (rnC cb n)) (-1) (.inl rfl) (by rw[W4];exact nrc);rw[W4,hde] at this;exact this
 have nrd:Nr d 10000 400:=by
  rw[<-hde];exact(Nr.det nrc).mono dK4 (by omega)
 have nrr:∀i,i<n->∀r k,r<n->k<n->Nr (rpN c cb i r k) 220 100:=fun i hi r k hr hk=>by
  unfold rpN;split
  ·exact nrb r hr
  ·exact nrc r k hr hk
 have det2:∀i,i<n->DQz E 141 [.sl 1 (matC c n n),.sl 3 (rnC cb n),intD i] (.data (nmD (detN n (rpN c cb i)))):=fun i hi=>zdj E n hn c cb _ i (.inr ⟨rfl,by omega,by omega⟩) (nrr i hi)
 have nrx:∀i,i<n->Nr (detN n (rpN c cb i)) 10000 400:=fun i hi=>(Nr.det (nrr i hi)).mono dK4 (by omega)
 have hmd:∀i,i<n->DQz E 46 [boxD (O i)] (.data (nvD (loN (O i)) (hiN (O i)))):=fun i h=>by
  have g:=gO _ (List.mem_of_getElem? (gOe i h));exact JK E ⟨g.l1,g.l2⟩
 unfold RH at hx;rw[hc,hde] at hd;rw[hc,hcb,hde] at hx;have hsg:=WA E d;refine dcA Tryz.func112 Tryz.ntmps112 (rs:=[.tmp 8]) fun _ _ _ _ _=>?_
 have clA:=jL LA;have clB:=jL LB;have clO:=jL LO;rw[hA] at clA;rw[hB] at clB;rw[hO] at clO;have d2:=ke;have hmax:=mxE;simp -implicitDefEqProofs only[go_sem,clB,d2];rw[wu];refine jF 10 62 86 1 rfl rfl ?_;refine jF 11 76 70 3 rfl rfl ?_;refine wm (α:={i:Nat // i<=n}) (fun i=>St.of [(0,.d (.sl 2 (boxC LA))),(1,.d (.sl 2 (boxC LB))),(2,.d (.sl 2 (boxC LO))),(3,.d (intD p)),(9,.d (intD n)),(10,.gs 62),(11,.gs 76),(12,.d (intD i.1))] [(62,VC c n i.1),(76,UA cb i.1)]) (fun i=>n-i.1)
  ⟨0,Nat.zero_le _⟩ (we ?_ ?_ (by simp[wv,j7,qt,wG,T.ref])) (by kernel_rfl) (fun i=>?_)
 ·have c0:=c0E;simp -implicitDefEqProofs only[go_sem,c0,upd]
 ·simp -implicitDefEqProofs only[go_sem,upd];exact⟨rfl,rfl⟩
 obtain⟨i,hi⟩:=i;by_cases hiA:i<n
 ·have eA:decide ((i:Int)<(n:Int))=true:=tD (by omega);have w1:=wL (c:=i) (by omega);have w3:IntKind.i64.wrap ((n:Int)*(i:Int))=((n*i:Nat):Int):=by
   have:=hij hiA h1n;rw[<-Int.natCast_mul,w64 (by omega)]
  obtain⟨i',hi'⟩:∃i':{i:Nat // i<=n},i'.1=i+1:=⟨⟨i+1,hiA⟩,rfl⟩;simp -implicitDefEqProofs only[go_sem,eA];rw[wu];refine jF 13 58 70 3 rfl rfl ?_;refine zt (α:={j:Nat // j<=n}) (fun j=>St.of [(0,.d (.sl 2 (boxC LA))),(1,.d (.sl 2 (boxC LB))),(2,.d (.sl 2 (boxC LO))),(3,.d (intD p)),(9,.d (intD n)),(10,.gs 62),(11,.gs 76),(12,.d (intD i)),(13,.gs 58),(14,.d (intD j.1))] [(58,UA (c i) j.1),(62,VC c n i),(76,UA cb i)]) (fun j=>n-j.1)
   ⟨0,Nat.zero_le _⟩ (jb (we ?_ ?_ (by simp[wv,j7,qt,wG,T.ref]))) (fun j=>?_)
  ·have c0:=c0E;simp -implicitDefEqProofs only[go_sem,c0,upd]
  ·simp -implicitDefEqProofs only[go_sem,upd];rfl
  obtain⟨j,hj⟩:=j;by_cases hjA:j<n
  ·refine kM (by kernel_rfl) ?_;have eB:decide ((j:Int)<(n:Int))=true:=tD (by omega);have hlt:=hij hiA hjA;have w2:=wL (c:=j) (by omega);have w4:IntKind.i64.wrap (((n*i:Nat):Int)+(j:Int))=((n*i+j:Nat):Int):=by rw[w64 (by omega)];omega
   have w5:IntKind.i64.wrap (2*((n*i+j:Nat):Int))=((2*(n*i+j):Nat):Int):=by rw[w64 (by omega)];omega
   have tk2:=kf (gA _ hlt);have q4:(n*i+j)*2<n*n*2:=by omega
   have q5:(n*i+j)*2+2<=n*n*2:=by omega
   have hc1:=call1 i j hiA hjA;have tl:(rnT (c i) j).length=j*3:=VI _ _;have a1:(j*3+3)/3=j+1:=by omega
   have st:rnT (c i) j++[.d (bD (c i j).neg),.d (natD (c i j).n),.d (intD (c i j).e)]=rnT (c i) (j+1):=rfl;obtain⟨j',hj'⟩:∃j':{j:Nat // j<=n},j'.1=j+1:=⟨⟨j+1,hjA⟩,rfl⟩;simp -implicitDefEqProofs only[go_sem,eB];refine drw ?_;simp -implicitDefEqProofs only[go_sem,w3,w4,w5,clA,d2,q4,q5,tk2];refine cI hc1 ?_;simp -implicitDefEqProofs only[go_sem,tl,a1,st,kO,jH,w2];refine⟨by omega,by omega,j',jb (we ?_ ?_ (by simp[wv,j7,qt,wG,T.ref])),by simp only[hj'];omega⟩<;>simp -implicitDefEqProofs only[go_sem,hj',st,kO,jH]
  ·obtain rfl:j=n:=by omega
   have eB:decide ((j:Int)<(j:Int))=false:=fD (by omega);refine yZ (qS 58 rfl (Ql _ _)) ?_;refine kM (by kernel_rfl) ?_;have tl:(matT c j i).length=i:=Yq _ _ _;have ms:=XL c j i;have tl2:(rnT cb i).length=i*3:=VI _ _;have a1:(i*3+3)/3=i+1:=by omega
   have st:rnT cb i++[.d (bD (cb i).neg),.d (natD (cb i).n),.d (intD (cb i).e)]=rnT cb (i+1):=rfl;have w4:IntKind.i64.wrap (2*(i:Int))=((2*i:Nat):Int):=by rw[w64 (by omega)];omega
   have w5:IntKind.i64.wrap (((2*i:Nat):Int)+40)=((2*i+40:Nat):Int):=by rw[w64 (by omega)];omega
   have tk:=kf (gB i hiA);have q1:i*2<j*2:=by omega
   have q2:i*2+2<=j*2:=by omega
   have hc2:=call2 i hiA;simp -implicitDefEqProofs only[go_sem,eB,tl,ms,qh,jH,yb,kO,Nat.div_one];refine⟨by omega,by omega,?_⟩;refine drw ?_;simp -implicitDefEqProofs only[go_sem,w4,w5,clB,d2,q1,q2,tk];refine cI hc2 ?_;simp -implicitDefEqProofs only[go_sem,tl2,a1,st,ms,qh,jH,yb,kO,w1];refine⟨by omega,by omega,i',we ?_ ?_ (by simp[wv,j7,qt,wG,T.ref]),by simp only[hi'];omega⟩<;>simp -implicitDefEqProofs only[go_sem,hi',st,ms,qh,jH,yb,kO]
 ·have eA:decide ((i:Int)<(n:Int))=false:=fD (by omega);obtain rfl:i=n:=by omega
  simp -implicitDefEqProofs only[go_sem,eA,XM,Ql,qh,yb];refine cI det1 ?_;have e0:=tV (show(nsign d==0)=false by simp[hd]);simp -implicitDefEqProofs only[go_sem];refine cI hsg ?_;simp -implicitDefEqProofs only[go_sem,e0];rw[wu];refine wm (α:={k:Nat // k<=i}) (fun k=>St.of [(2,.d (.sl 2 (boxC LO))),(9,.d (intD i)),(10,.d (.sl 1 (matC c i i))),(11,.d (.sl 3 (rnC cb i))),(17,.ptr 17 0),(18,.d (intD k.1))] [(17,nmO d)]) (fun k=>i-k.1)
   ⟨0,Nat.zero_le _⟩ (we ?_ ?_ (by simp[wv,wG,T.ref])) (by kernel_rfl) (fun k=>?_)
  ·have c0:=c0E;simp -implicitDefEqProofs only[go_sem,c0]
  ·simp -implicitDefEqProofs only[go_sem]
  obtain⟨k,hk⟩:=k;by_cases hkA:k<i
  ·have eB:decide ((k:Int)<(i:Int))=true:=tD (by omega);have w1:=wL (c:=k) (by omega);obtain⟨k',hk'⟩:∃k':{k:Nat // k<=i},k'.1=k+1:=⟨⟨k+1,hkA⟩,rfl⟩;have tk:=kf (gOe k hkA);have q1:k*2<i*2:=by omega
   have q2:k*2+2<=i*2:=by omega
   have dt:=det2 k hkA;have nx:=nrx k hkA;have hk1:=hx k hkA;have nl:Nr (loN (O k)) 60 1000:=qN _;have nh:Nr (hiN (O k)) 60 1000:=qN _;have hm:=hmd k hkA;generalize detN i (rpN c cb k)=x at *;have o1:NOk (loN (O k)) 100000:=(nl.ok (by omega)).mono (by omega);have o2:NOk (hiN (O k)) 100000:=(nh.ok (by omega)).mono (by omega);have o3:NOk d 100000:=(nrd.ok (by omega)).mono (by omega);have o4:NOk x 100000:=(nx.ok (by omega)).mono (by omega);have o5:NOk (nprod (loN (O k)) d) 100000:=((nl.prod nrd).ok (by omega)).mono (by omega);have o6:NOk (nprod (hiN (O k)) d) 100000:=((nh.prod nrd).ok (by omega)).mono (by omega);have hp1:=qM E o1 o3 (by omega);have hp2:=qM E o2 o3 (by omega);have l1:=kE E o4 o5 (by omega);have l2:=kE E o6 o4 (by omega);have l3:=kE E o4 o6 (by omega);have l4:=kE E o5 o4 (by omega);generalize nprod (loN (O k)) d=lo at *;generalize nprod (hiN (O k)) d=hi at *;simp -implicitDefEqProofs only[go_sem,eB];refine cI dt ?_;simp -implicitDefEqProofs only[go_sem,clO,d2,q1,q2,tk];refine cI hm ?_;simp -implicitDefEqProofs only[go_sem];refine cI hp1 ?_;simp -implicitDefEqProofs only[go_sem];refine cI hp2 ?_;simp -implicitDefEqProofs only[go_sem];refine cI hsg ?_;by_cases hneg:nsign d<0
   ·have en:=tB (tD hneg);obtain⟨r1,r2⟩:=hk1.1 hneg;rw[r1] at l3;rw[r2] at l4;simp -implicitDefEqProofs only[go_sem,en];refine cI l3 ?_;simp -implicitDefEqProofs only[go_sem];refine cI l4 ?_;simp -implicitDefEqProofs only[go_sem,w1];refine⟨k',we ?_ ?_ (by simp[wv,wG,T.ref]),by simp only[hk'];omega⟩<;>simp -implicitDefEqProofs only[go_sem,hk']
   ·have en:=tV (fD hneg);obtain⟨r1,r2⟩:=hk1.2 hneg;rw[r1] at l1;rw[r2] at l2;simp -implicitDefEqProofs only[go_sem,en];refine cI l1 ?_;simp -implicitDefEqProofs only[go_sem];refine cI l2 ?_;simp -implicitDefEqProofs only[go_sem,w1];refine⟨k',we ?_ ?_ (by simp[wv,wG,T.ref]),by simp only[hk'];omega⟩<;>simp -implicitDefEqProofs only[go_sem,hk']
  ·have eB:decide ((k:Int)<(i:Int))=false:=fD (by omega);simp -implicitDefEqProofs only[go_sem,eB,finK]
section
variable {LA LB:List (Nat×Nat)} {w:Int}
theorem Yx (E:Nat->Option Value)(hA:LA.length<=1000000)(hB:LB.length*16<=140737488355328)(hs:kw LA.length w LB.length=false)(p:Int) :
  DQz E 75 [.sl 2 (boxC LA),intD w,.sl 2 (boxC LB),.v (.slice none 0 0),intD 8,intD p] (.data (bD true)):=by
 have h:=WZ E hA hB w;rw[hs] at h;have e8:=tB (show((8:Int)==8)=true from rfl);refine dcA Tryz.func75 Tryz.ntmps75 (rs:=[.tmp 12]) fun _ _ _ _ _=>?_
 simp -implicitDefEqProofs only[go_sem];refine cI h ?_;simp -implicitDefEqProofs only[go_sem,e8,finK]
theorem Yy (E:Nat->Option Value)(hA:LA.length<=1000000)(hB:LB.length*16<=140737488355328)(bA:Bits LA)(bB:Bits LB)(hs:kw LA.length w LB.length=true)(hr:(kA LA&&kA LB)=false)(p:Int) :
  DQz E 75 [.sl 2 (boxC LA),intD w,.sl 2 (boxC LB),.v (.slice none 0 0),intD 3,intD p] (.data (bD true)):=by
 have h:=WZ E hA hB w;rw[hs] at h;have h1:=vA E (L:=LA) (by omega) bA;have h2:=vA E hB bB;have e3:=tB (show((3:Int)==3)=true from rfl);generalize kA LA=r1 at *;generalize kA LB=r2 at *;refine dcA Tryz.func75 Tryz.ntmps75 (rs:=[.tmp 12]) fun _ _ _ _ _=>?_
 simp -implicitDefEqProofs only[go_sem];refine cI h ?_;simp -implicitDefEqProofs only[go_sem];refine cI h1 ?_;simp -implicitDefEqProofs only[go_sem];refine cI h2 ?_;cases r1
 ·simp -implicitDefEqProofs only[go_sem,e3,finK]
 ·rw[Bool.true_and] at hr;subst hr;simp -implicitDefEqProofs only[go_sem,e3,finK]
theorem qO (L:List (Nat×Nat)):(jk L).length=L.length:=by unfold jk;rw[List.length_map]
theorem za {L:List (Nat×Nat)}(h:Bits L):Bits (jk L):=fun X hX=>by
 unfold jk at hX;rw[List.mem_map] at hX;obtain⟨Y,hY,rfl⟩:=hX;have g:=jO (h Y hY).1 (h Y hY).2;exact⟨g.l1,g.l2⟩
theorem HQ (E:Nat->Option Value){n:Nat}(hn:n<=4)(hA:LA.length=n*n)(hB:LB.length=n)(bA:Bits LA)(bB:Bits LB)(hs:kw LA.length w LB.length=true)(h1:kA LA=true)(h2:kA LB=true)
  (hu:zY (fun i=>(jk LA).getD i (0,0)) (fun i=>(jk LB).getD i (0,0)) n=false) (p:Int) :
  DQz E 75 [.sl 2 (boxC LA),intD w,.sl 2 (boxC LB),.v (.slice none 0 0),intD 9,intD p] (.data (bD true)):=by
 have h16:n*n<=16:=Nat.mul_le_mul hn hn;have h:=WZ E (L:=LA) (L':=LB) (by omega) (by omega) w;rw[hs] at h;have r1:=vA E (L:=LA) (by omega) bA;have r2:=vA E (L:=LB) (by omega) bB;have m1:=Ja E (L:=LA) (by omega) bA;have m2:=Ja E (L:=LB) (by omega) bB;have su:=zbN E (LA:=jk LA) (LB:=jk LB) hn (by rw[qO,hA]) (by rw[qO,hB]) (za bA);rw[hu] at su;rw[h1] at r1;rw[h2] at r2;have e9:=tB (show((9:Int)==9)=true from rfl);refine dcA Tryz.func75 Tryz.ntmps75 (rs:=[.tmp 12]) fun _ _ _ _ _=>?_
 simp -implicitDefEqProofs only[go_sem];refine cI h ?_;simp -implicitDefEqProofs only[go_sem];refine cI r1 ?_;simp -implicitDefEqProofs only[go_sem];refine cI r2 ?_;simp -implicitDefEqProofs only[go_sem];refine cI m1 ?_;simp -implicitDefEqProofs only[go_sem];refine cI m2 ?_;simp -implicitDefEqProofs only[go_sem];refine cI su ?_;simp -implicitDefEqProofs only[go_sem,e9,finK]
theorem zck (E:Nat->Option Value){n:Nat}(h1n:1<=n)(hn:n<=4){LO:List (Nat×Nat)}(hA:LA.length=n*n)(hB:LB.length=n)(hO:LO.length=n)(bA:Bits LA)(bB:Bits LB)(gO:∀X∈LO,Gd X)(hs:kw LA.length w LB.length=true)(h1:kA LA=true)(h2:kA LB=true)(p:Int)
  (he:DQz E 112 [.sl 2 (boxC (jk LA)),.sl 2 (boxC (jk LB)),.sl 2 (boxC LO),intD p] (.data (bD true)))
  (hna:zY (fun i=>(jk LA).getD i (0,0)) (fun i=>(jk LB).getD i (0,0)) n=true->DQz E 113 [.sl 2 (boxC LO)] (.data (bD true))) :
  DQz E 75 [.sl 2 (boxC LA),intD w,.sl 2 (boxC LB),.sl 2 (boxC LO),intD 0,intD p] (.data (bD true)):=by
 have h16:n*n<=16:=Nat.mul_le_mul hn hn;have h:=WZ E (L:=LA) (L':=LB) (by omega) (by omega) w;rw[hs] at h;have r1:=vA E (L:=LA) (by omega) bA;have r2:=vA E (L:=LB) (by omega) bB;have m1:=Ja E (L:=LA) (by omega) bA;have m2:=Ja E (L:=LB) (by omega) bB;have su:=zbN E (LA:=jk LA) (LB:=jk LB) hn (by rw[qO,hA]) (by rw[qO,hB]) (za bA);rw[h1] at r1;rw[h2] at r2;obtain⟨u,hu⟩:∃u,zY (fun i=>(jk LA).getD i (0,0)) (fun i=>(jk LB).getD i (0,0)) n=u:=⟨_,rfl⟩;rw[hu] at su hna;have e9:=tV (show((0:Int)==9)=false from rfl);have e0:=tV (show((0:Int) != 0)=false from rfl);have clO:=jL LO;have clB:=jL (jk LB);rw[hO] at clO;rw[qO,hB] at clB;have d2:=ke;have enn:=tV (show((n:Int) != (n:Int))=false by simp);have gE:∀i,i<n->LO[i]?=some (LO.getD i (0,0)):=fun i h=>getD_some (by omega)
 have hmax:=mxE;have e00:((0:Int) != 0)=false:=rfl;refine dcA Tryz.func75 Tryz.ntmps75 (rs:=[.tmp 12]) fun _ _ _ _ _=>?_
 simp -implicitDefEqProofs only[go_sem];refine cI h ?_;simp -implicitDefEqProofs only[go_sem];refine cI r1 ?_;simp -implicitDefEqProofs only[go_sem];refine cI r2 ?_;simp -implicitDefEqProofs only[go_sem];refine cI m1 ?_;simp -implicitDefEqProofs only[go_sem];refine cI m2 ?_;simp -implicitDefEqProofs only[go_sem];refine cI su ?_;simp -implicitDefEqProofs only[go_sem,e9,e0,clO,clB,d2,enn];rw[wu];refine wm (α:={i:Nat // i<=n}) (fun i=>St.of [(0,.d (.sl 2 (boxC (jk LA)))),(2,.d (.sl 2 (boxC (jk LB)))),(3,.d (.sl 2 (boxC LO))),(5,.d (intD p)),(16,.d (bD u)),(17,.d (intD i.1))] []) (fun i=>n-i.1)
  ⟨0,Nat.zero_le _⟩ (we ?_ ?_ rfl) (by kernel_rfl) (fun i=>?_)
 ·have c0:=c0E;simp -implicitDefEqProofs only[go_sem,c0]
 ·simp -implicitDefEqProofs only[go_sem]
 obtain⟨i,hi⟩:=i;by_cases hiA:i<n
 ·have eA:decide ((i:Int)<(n:Int))=true:=tD (by omega);have w1:=wL (c:=i) (by omega);obtain⟨i',hi'⟩:∃i':{i:Nat // i<=n},i'.1=i+1:=⟨⟨i+1,hiA⟩,rfl⟩;obtain⟨X,hX⟩:∃X,LO.getD i (0,0)=X:=⟨_,rfl⟩;have gX:=gE i hiA;rw[hX] at gX;have tk:=kf gX;have q1:i*2<n*2:=by omega
  have q2:i*2+2<=n*2:=by omega
  have g:=gO X (List.mem_of_getElem? gX);have hm:=VZ E g.l1 g.l2;have hM:vG X.1 X.2=((X.1,X.2),0):=by
   have:=((qi g.l1 g.l2).2 (by rw[g.p1,g.p2];simp)).2 (by have:=g.le;omega);rw[this,g.q1,g.q2]
  rw[hM] at hm;obtain⟨x1,x2⟩:=X;simp -implicitDefEqProofs only[go_sem,eA,clO,d2,q1,q2,tk];refine cI hm ?_;simp -implicitDefEqProofs only[go_sem];refine drw ?_;simp -implicitDefEqProofs only[go_sem,e00,clO,d2,q1,q2,tk,beq_self_eq_true,Bool.and_self,Bool.and_true,Bool.true_and,w1];refine⟨i',we ?_ ?_ rfl,by simp only[hi'];omega⟩<;>simp -implicitDefEqProofs only[go_sem,hi']
 ·have eA:decide ((i:Int)<(n:Int))=false:=fD (by omega);simp -implicitDefEqProofs only[go_sem,eA,clO,d2];refine cI he ?_;cases u with
  |false=>simp -implicitDefEqProofs only[go_sem,finK]
  |true=>
   simp -implicitDefEqProofs only[go_sem];refine cI (hna rfl) ?_;simp -implicitDefEqProofs only[go_sem,finK]
end
end Go.Enc
