/-
  Lists of boxes: copied, made of numbers, as intervals have them.
-/
import Derived.Test.YtjlibljfpkmpfaaGreatDoorSa43
set_option maxRecDepth 100000
set_option linter.unusedSimpArgs false
set_option linter.unusedVariables false
namespace Go.Enc
open Go.Proofs Go.Enc.Dg Go.Enc.Nu Go.Enc.Fl Go.RowKit
theorem zy {L:List (Nat×Nat)}{i:Nat}{X:Nat×Nat}(h:L[i]?=some X):L.take i++[X]=L.take (i+1):=by
 rw[List.take_add_one,h];rfl
theorem y9 (L:List (Nat×Nat)):(boxT L).length=L.length*2:=by rw[qE];omega
def jk (L:List (Nat×Nat)):List (Nat×Nat):=L.map mk2
theorem Ja (E:Nat->Option Value){L:List (Nat×Nat)}(hL:L.length*16<=140737488355328)(hb:Bits L):DQz E 110 [.sl 2 (boxC L)] (.data (.sl 2 (boxC (jk L)))):=by
 refine dcA Tryz.func110 Tryz.ntmps110 (rs:=[.tmp 2]) fun _ _ _ _ _=>?_
 have cl:=jL L;have d2:=ke;have hmax:=mxE;simp -implicitDefEqProofs only[go_sem];rw[wu];refine jF 3 24 27 2 rfl rfl ?_;refine wm (α:={i:Nat // i<=L.length}) (fun i=>St.of [(0,.d (.sl 2 (boxC L))),(3,.gs 24),(4,.d (intD i.1))] [(24,⟨some (27,2,true),boxT ((jk L).take i.1)⟩)]) (fun i=>L.length-i.1)
  ⟨0,Nat.zero_le _⟩ (we ?_ ?_ rfl) (by kernel_rfl) (fun i=>?_)
 ·have c0:=c0E;simp -implicitDefEqProofs only[go_sem,c0,upd]
 ·simp -implicitDefEqProofs only[go_sem,upd];rfl
 obtain⟨i,hi⟩:=i;have nl:(jk L).length=L.length:=by unfold jk;rw[List.length_map]
 by_cases hA:i<L.length
 ·have eA:decide ((i:Int)<(L.length:Int))=true:=tD (by omega);have w1:=wL (c:=i) (by omega);obtain⟨X,hX⟩:∃X,L[i]?=some X:=⟨_,List.getElem?_eq_getElem hA⟩;have hXm:=List.mem_of_getElem? hX;have tk:=kf hX;have q1:i*2<L.length*2:=by omega
  have q2:i*2+2<=L.length*2:=by omega
  have bl:(boxT ((jk L).take i)).length=i*2:=by rw[y9,List.length_take,nl];omega
  have a1:(i*2+2)/2=i+1:=by omega
  have hn:(jk L)[i]?=some (mk2 X):=by unfold jk;rw[List.getElem?_map,hX];rfl
  have bs:=zy hn;have h:=hb X hXm;obtain⟨i',hi'⟩:∃i':{i:Nat // i<=L.length},i'.1=i+1:=⟨⟨i+1,hA⟩,rfl⟩;have hm:=VZ E h.1 h.2;generalize (vG X.1 X.2).2=e at hm;have hm:DQz E 15 [boxD X] (.data (.tup [boxD (mk2 X),intD e])):=hm;generalize mk2 X=Y at *;simp -implicitDefEqProofs only[go_sem,eA,cl,d2,q1,q2,tk];refine cI hm ?_;simp -implicitDefEqProofs only[go_sem,bl,a1,wZ,kr,bs,w1];refine⟨by omega,by omega,i',we ?_ ?_ (by simp[wv,wV,wG,T.ref]),by simp only[hi'];omega⟩<;>simp -implicitDefEqProofs only[go_sem,hi',wZ,kr,bs]
 ·have eA:decide ((i:Int)<(L.length:Int))=false:=fD (by omega);have ht:(jk L).take i=jk L:=List.take_of_length_le (by omega);simp -implicitDefEqProofs only[go_sem,eA,cl,d2,ht,xL,finK]
theorem Rh (E:Nat->Option Value){L:List (Nat×Nat)}(hL:L.length*16<=140737488355328):DQz E 73 [.sl 2 (boxC L)] (.data (.sl 2 (boxC L))):=by
 refine dcA Tryz.func73 Tryz.ntmps73 (rs:=[.tmp 2]) fun _ _ _ _ _=>?_
 have cl:=jL L;have d2:=ke;have hmax:=mxE;simp -implicitDefEqProofs only[go_sem];rw[wu];refine jF 3 18 32 2 rfl rfl ?_;refine wm (α:={i:Nat // i<=L.length}) (fun i=>St.of [(0,.d (.sl 2 (boxC L))),(3,.gs 18),(4,.d (intD i.1))] [(18,⟨some (32,2,true),boxT (L.take i.1)⟩)]) (fun i=>L.length-i.1)
  ⟨0,Nat.zero_le _⟩ (we ?_ ?_ rfl) (by kernel_rfl) (fun i=>?_)
 ·have c0:=c0E;simp -implicitDefEqProofs only[go_sem,c0,upd]
 ·simp -implicitDefEqProofs only[go_sem,upd];rfl
 obtain⟨i,hi⟩:=i;by_cases hA:i<L.length
 ·have eA:decide ((i:Int)<(L.length:Int))=true:=tD (by omega);have w1:=wL (c:=i) (by omega);obtain⟨X,hX⟩:∃X,L[i]?=some X:=⟨_,List.getElem?_eq_getElem hA⟩;have tk:=kf hX;have q1:i*2<L.length*2:=by omega
  have q2:i*2+2<=L.length*2:=by omega
  have bl:(boxT (L.take i)).length=i*2:=by rw[y9,List.length_take];omega
  have a1:(i*2+2)/2=i+1:=by omega
  have bs:=zy hX;obtain⟨i',hi'⟩:∃i':{i:Nat // i<=L.length},i'.1=i+1:=⟨⟨i+1,hA⟩,rfl⟩;simp -implicitDefEqProofs only[go_sem,eA,cl,d2,q1,q2,tk];refine cI (ym _ X) ?_;simp -implicitDefEqProofs only[go_sem,bl,a1,wZ,kr,bs,w1];refine⟨by omega,by omega,i',we ?_ ?_ (by simp[wv,wV,wG,T.ref]),by simp only[hi'];omega⟩<;>simp -implicitDefEqProofs only[go_sem,hi',wZ,kr,bs]
 ·have eA:decide ((i:Int)<(L.length:Int))=false:=fD (by omega);have ht:L.take i=L:=List.take_of_length_le (by omega);simp -implicitDefEqProofs only[go_sem,eA,cl,d2,ht,xL,finK]
theorem zek (E:Nat->Option Value){L:List (Nat×Nat)}(hL:L.length*16<=140737488355328):DQz E 74 [.sl 2 (boxC L)] (.data (.sl 2 (boxC L))):=by
 refine dcA Tryz.func74 Tryz.ntmps74 (rs:=[.tmp 2]) fun _ _ _ _ _=>?_
 have cl:=jL L;have d2:=ke;have hmax:=mxE;simp -implicitDefEqProofs only[go_sem];rw[wu];refine jF 3 24 27 2 rfl rfl ?_;refine wm (α:={i:Nat // i<=L.length}) (fun i=>St.of [(0,.d (.sl 2 (boxC L))),(3,.gs 24),(4,.d (intD i.1))] [(24,⟨some (27,2,true),boxT (L.take i.1)⟩)]) (fun i=>L.length-i.1)
  ⟨0,Nat.zero_le _⟩ (we ?_ ?_ rfl) (by kernel_rfl) (fun i=>?_)
 ·have c0:=c0E;simp -implicitDefEqProofs only[go_sem,c0,upd]
 ·simp -implicitDefEqProofs only[go_sem,upd];rfl
 obtain⟨i,hi⟩:=i;by_cases hA:i<L.length
 ·have eA:decide ((i:Int)<(L.length:Int))=true:=tD (by omega);have w1:=wL (c:=i) (by omega);obtain⟨X,hX⟩:∃X,L[i]?=some X:=⟨_,List.getElem?_eq_getElem hA⟩;have tk:=kf hX;obtain⟨g1,g2⟩:=yH hX;have q1:i*2<L.length*2:=by omega
  have q2:i*2+2<=L.length*2:=by omega
  have q3:i*2+1<L.length*2:=by omega
  have bl:(boxT (L.take i)).length=i*2:=by rw[y9,List.length_take];omega
  have a1:(i*2+2)/2=i+1:=by omega
  have bs:=zy hX;obtain⟨i',hi'⟩:∃i':{i:Nat // i<=L.length},i'.1=i+1:=⟨⟨i+1,hA⟩,rfl⟩;simp -implicitDefEqProofs only[go_sem,eA,cl,d2];refine drw ?_;simp -implicitDefEqProofs only[go_sem,cl,d2,q1,q2,q3,tk,g1,g2,bl,a1,wZ,kr,bs,w1];refine⟨by omega,by omega,i',we ?_ ?_ (by simp[wv,wV,wG,T.ref]),by simp only[hi'];omega⟩<;>simp -implicitDefEqProofs only[go_sem,hi',wZ,kr,bs]
 ·have eA:decide ((i:Int)<(L.length:Int))=false:=fD (by omega);have ht:L.take i=L:=List.take_of_length_le (by omega);simp -implicitDefEqProofs only[go_sem,eA,cl,d2,ht,xL,finK]
theorem Jz (E:Nat->Option Value):DQz E 74 [.v (.slice none 0 0)] (.data (.v (.slice none 0 0))):=by
 refine dcA Tryz.func74 Tryz.ntmps74 (rs:=[.tmp 2]) fun _ _ _ _ _=>?_
 have eA:decide ((0:Int)<0)=false:=by decide
 simp -implicitDefEqProofs only[go_sem];rw[wu];refine wm (α:=Unit) (fun _=>St.of [(0,.d (.v (.slice none 0 0))),(3,.d (.v (.slice none 0 0))),(4,.d (intD 0))] []) (fun _=>0) () (we ?_ ?_ rfl) (by kernel_rfl) (fun _=>?_)
 ·simp -implicitDefEqProofs only[go_sem]
 ·simp -implicitDefEqProofs only[go_sem]
 simp -implicitDefEqProofs only[go_sem,eA,finK]
def boxL (p:List Nat):List (Nat×Nat):=(List.range (p.length/2)).map fun i=>(p.getD (i*2) 0,p.getD (i*2+1) 0)
theorem xk (p:List Nat):(boxL p).length=p.length/2:=by simp[boxL]
theorem zdy {p:List Nat}{i:Nat}(h:i<p.length/2):(boxL p)[i]?=some (p.getD (i*2) 0,p.getD (i*2+1) 0):=by simp[boxL,h]
theorem zgS (E:Nat->Option Value){p:List Nat}(hp:p.length*8<=140737488355328):DQz E 71 [usD p] (.data (.sl 2 (boxC (boxL p)))):=by
 refine dcA Tryz.func71 Tryz.ntmps71 (rs:=[.tmp 2]) fun _ _ _ _ _=>?_
 have hml:(p.map uD).length=p.length:=List.length_map _;have hmax:=mxE;simp -implicitDefEqProofs only[go_sem];rw[wu];refine jF 3 24 27 2 rfl rfl ?_;refine wm (α:={i:Nat // i<=p.length/2}) (fun i=>St.of [(0,.d (usD p)),(3,.gs 24),(4,.d (intD ((i.1*2:Nat):Int)))] [(24,⟨some (27,2,true),boxT ((boxL p).take i.1)⟩)]) (fun i=>p.length/2-i.1)
  ⟨0,Nat.zero_le _⟩ (we ?_ ?_ rfl) (by kernel_rfl) (fun i=>?_)
 ·have c0:((0*2:Nat):Int)=0:=rfl;simp -implicitDefEqProofs only[go_sem,c0,upd]
 ·simp -implicitDefEqProofs only[go_sem,upd];rfl
 obtain⟨i,hi⟩:=i;have w0:IntKind.i64.wrap (((i*2:Nat):Int)+1)=((i*2+1:Nat):Int):=wL (by omega);have bll:=xk p;by_cases hA:i<p.length/2
 ·have eA:decide (((i*2+1:Nat):Int)<(p.length:Int))=true:=tD (by omega);have w1:IntKind.i64.wrap (((i*2:Nat):Int)+2)=(((i+1)*2:Nat):Int):=by rw[w64 (by omega)];omega
  have q1:i*2<p.length:=by omega
  have q2:i*2+1<p.length:=by omega
  have g1:(p.map uD)[i*2]?=some (uD (p.getD (i*2) 0)):=by rw[List.getElem?_map,List.getD_eq_getElem?_getD,List.getElem?_eq_getElem q1];rfl
  have g2:(p.map uD)[i*2+1]?=some (uD (p.getD (i*2+1) 0)):=by rw[List.getElem?_map,List.getD_eq_getElem?_getD,List.getElem?_eq_getElem q2];rfl
  have bl:(boxT ((boxL p).take i)).length=i*2:=by rw[y9,List.length_take,bll];omega
  have a1:(i*2+2)/2=i+1:=by omega
  have bs:=zy (zdy hA);have bk:List.map (wU 24) (boxT ((boxL p).take i)++[T.d (D.v (Value.int IntKind.u64 (p.getD (i*2) 0))),T.d (D.v (Value.int IntKind.u64 (p.getD (i*2+1) 0)))])=boxT ((boxL p).take (i+1)):=by
   rw[<-bs];exact wZ 24 ((boxL p).take i) (p.getD (i*2) 0,p.getD (i*2+1) 0)
  obtain⟨i',hi'⟩:∃i':{i:Nat // i<=p.length/2},i'.1=i+1:=⟨⟨i+1,hA⟩,rfl⟩;simp -implicitDefEqProofs only[go_sem,hml,div1,w0,eA];refine drw ?_;simp -implicitDefEqProofs only[go_sem,hml,div1,w0,q1,q2,g1,g2,uD,bl,a1,w1,wZ,kr,bs];refine⟨by omega,by omega,i',we ?_ ?_ (by simp[wv,wV,wG,T.ref]),by simp only[hi'];omega⟩<;>simp -implicitDefEqProofs only[go_sem,hi',bk]
 ·have eA:decide (((i*2+1:Nat):Int)<(p.length:Int))=false:=fD (by omega);have ht:(boxL p).take i=boxL p:=List.take_of_length_le (by omega);simp -implicitDefEqProofs only[go_sem,hml,div1,w0,eA,ht,xL,finK]
theorem VX {X:Nat×Nat}(g:Gd X):mk2 X=X:=by
 obtain⟨lo,hi⟩:=X;have:=((qi g.l1 g.l2).2 (by rw[g.p1,g.p2];simp)).2 (by have:=g.le;omega);unfold mk2;rw[this,g.q1,g.q2]
theorem KT {X:Nat×Nat}(g:Gd X):val (loN X)=iL X:=by
 unfold loN iL;rw[VX g];exact kX g.l1 g.p1
theorem Vn {X:Nat×Nat}(g:Gd X):val (hiN X)=iH X:=by
 unfold hiN iH;rw[VX g];exact kX g.l2 g.p2
def offN (f:Nat->Nm)(i:Nat):Nat->Nm
 |0=>nzero
 |j+1=>if i=j then offN f i j else nsum (offN f i j) (f j)
theorem KS (f:Nat->Nm)(i:Nat):∀m,val (offN f i m)=smR (fun j=>if j≠i then val (f j) else 0) m
 |0=>jm rfl
 |m+1=>by
  simp only[offN,smR];by_cases h:i=m
  ·rw[if_pos h,if_neg (fun g=>g h.symm),KS f i m];grind
  ·rw[if_neg h,if_pos (fun g=>h g.symm),kj,KS f i m]
theorem VU {f:Nat->Nm}(hf:∀j,Nr (f j) 60 1000)(i:Nat):∀m,Nr (offN f i m) (60+m*2001) 1000
 |0=>yW _ _
 |m+1=>by
  have h1:=VU hf i m;simp only[offN];split
  ·exact h1.mono (by omega) (Nat.le_refl _)
  ·exact(h1.sum ((hf m).mono (by omega) (Nat.le_refl _))).mono (by omega) (Nat.le_refl _)
section
variable (A B:Nat->Nat×Nat) (n:Nat)
def amA (i j:Nat):Nm:=nam (loN (A (n*i+j)))
def e2N (a:Nm):Nm:=⟨a.neg,a.n,a.e+2⟩
omit A B n in
theorem zmZ {a:Nm}{k L:Nat}(h:Nr a k L):Nr (e2N a) k (L+2):=⟨h.n,by have:=h.lo;show _<=a.e+2;omega,by have:=h.hi;show a.e+2<=_;omega⟩
def RS (i:Nat):Prop:=(B i).1=(B i).2/\(∀j,j<n->(A (n*i+j)).1=(A (n*i+j)).2)/\nless (amA A n i i) (e2N (offN (amA A n i) i n))=false/\nsign (amA A n i i)≠0
open Classical in
noncomputable def zY:Bool:=decide (∀i,i<n->RS A B n i)
theorem JA:zY A B n=true↔∀i,i<n->RS A B n i:=by unfold zY;simp
end
theorem getD_some {L:List (Nat×Nat)}{i:Nat}(h:i<L.length):L[i]?=some (L.getD i (0,0)):=by
 rw[List.getD_eq_getElem?_getD,List.getElem?_eq_getElem h];rfl
theorem HG {a:Nm}{k L:Nat}(h:Nr a k L):Nr (nam a) k L:=⟨h.n,h.lo,h.hi⟩
theorem neqN (x y:Nat):(((x:Int) != (y:Int)):Bool)=decide (x≠y):=by
 rw[Bool.eq_iff_iff,bne_iff_ne,decide_eq_true_eq];omega
set_option maxHeartbeats 4000000 in
theorem zbN (E:Nat->Option Value){LA LB:List (Nat×Nat)}{n:Nat}(hn:n<=4)(hA:LA.length=n*n)(hB:LB.length=n)(bA:Bits LA):DQz E 111 [.sl 2 (boxC LA),.sl 2 (boxC LB)] (.data (bD (zY (fun i=>LA.getD i (0,0)) (fun i=>LB.getD i (0,0)) n))):=by
 obtain⟨A,hAe⟩:∃A:Nat->Nat×Nat,(fun i=>LA.getD i (0,0))=A:=⟨_,rfl⟩;obtain⟨B,hBe⟩:∃B:Nat->Nat×Nat,(fun i=>LB.getD i (0,0))=B:=⟨_,rfl⟩;have gA:∀i,i<n*n->LA[i]?=some (A i):=fun i h=>by rw[<-hAe];exact getD_some (by omega)
 have gB:∀i,i<n->LB[i]?=some (B i):=fun i h=>by rw[<-hBe];exact getD_some (by omega)
 rw[hAe,hBe];have no:∀ {i},i<n->¬RS A B n i->zY A B n=false:=fun {i} hi h=>by
  cases hs:zY A B n with
  |false=>rfl
  |true=>exact absurd ((JA A B n).1 hs i hi) h
 have hnr:∀i j,Nr (amA A n i j) 60 1000:=fun i j=>HG (qN _)
 refine dcA Tryz.func111 Tryz.ntmps111 (rs:=[.tmp 4]) fun _ _ _ _ _=>?_
 have clA:=jL LA;have clB:=jL LB;rw[hA] at clA;rw[hB] at clB;have d2:=ke;have hmax:=mxE;simp -implicitDefEqProofs only[go_sem,clB,d2];rw[wu];refine wm (α:={i:Nat // i<=n/\∀r,r<i->RS A B n r}) (fun i=>St.of [(0,.d (.sl 2 (boxC LA))),(1,.d (.sl 2 (boxC LB))),(5,.d (intD n)),(6,.d (intD i.1))] []) (fun i=>n-i.1)
  ⟨0,Nat.zero_le _,fun r h=>by omega⟩ (we ?_ ?_ rfl) (by kernel_rfl) (fun i=>?_)
 ·have c0:=c0E;simp -implicitDefEqProofs only[go_sem,c0]
 ·simp -implicitDefEqProofs only[go_sem]
 obtain⟨i,hi,hR⟩:=i;by_cases hiA:i<n
 ·have eA:decide ((i:Int)<(n:Int))=true:=tD (by omega);have w1:=wL (c:=i) (by omega);have tk:=kf (gB i hiA);obtain⟨g1,g2⟩:=yH (gB i hiA);have q1:i*2<n*2:=by omega
  have q2:i*2+2<=n*2:=by omega
  have q3:i*2+1<n*2:=by omega
  simp -implicitDefEqProofs only[go_sem,eA];refine drw ?_;by_cases hb:(B i).1=(B i).2
  ·have eb:=tV (show(((B i).1:Int) != ((B i).2:Int))=false by rw[neqN];exact decide_eq_false (fun h=>h hb));simp -implicitDefEqProofs only[go_sem,clB,d2,q1,q2,q3,g1,g2,eb];rw[wu];refine Jj 7 1 (natD 0) rfl rfl (fun σ u h=>?_) ?_
   ·have e:natD 0 = .sl 1 []:=by rw[show natD 0=digD (dg 0) from rfl,jU];rfl
    rw[e];exact Ky 1 σ u h
   refine Jj 8 1 (natD 0) rfl rfl (fun σ u h=>?_) ?_
   ·have e:natD 0 = .sl 1 []:=by rw[show natD 0=digD (dg 0) from rfl,jU];rfl
    rw[e];exact Ky 1 σ u h
   refine wm (α:={j:Nat // j<=n/\∀c,c<j->(A (n*i+c)).1=(A (n*i+c)).2}) (fun j=>St.of [(0,.d (.sl 2 (boxC LA))),(1,.d (.sl 2 (boxC LB))),(5,.d (intD n)),(6,.d (intD i)),(7,.ptr 7 0),(8,.ptr 8 0),(9,.d (intD j.1))] [(7,nmO (offN (amA A n i) i j.1)),(8,nmO (if i<j.1 then amA A n i i else nzero))]) (fun j=>n-j.1)
    ⟨0,Nat.zero_le _,fun r h=>by omega⟩ (we ?_ ?_ (by simp[wv,wG,T.ref])) (by kernel_rfl) (fun j=>?_)
   ·have c0:=c0E;simp -implicitDefEqProofs only[go_sem,c0,upd]
   ·have z:(if i<0 then amA A n i i else ⟨false,0,0⟩)=⟨false,0,0⟩:=if_neg (by omega);simp -implicitDefEqProofs only[go_sem,upd,z,offN,nzero]
   obtain⟨j,hj,hP⟩:=j;by_cases hjA:j<n
   ·have hij:n*i+j<n*n:=by
     have:n*i+n<=n*n:=by rw[<-Nat.mul_succ];exact Nat.mul_le_mul_left _ hiA
     omega
    have h16:n*n<=16:=Nat.mul_le_mul hn hn;have eB:decide ((j:Int)<(n:Int))=true:=tD (by omega);have w2:=wL (c:=j) (by omega);have w3:IntKind.i64.wrap ((n:Int)*(i:Int))=((n*i:Nat):Int):=by rw[<-Int.natCast_mul,w64 (by omega)]
    have w4:IntKind.i64.wrap (((n*i:Nat):Int)+(j:Int))=((n*i+j:Nat):Int):=by rw[w64 (by omega)];omega
    have tk2:=kf (gA _ hij);have q4:(n*i+j)*2<n*n*2:=by omega
    have q5:(n*i+j)*2+2<=n*n*2:=by omega
    have hXb:=bA _ (List.mem_of_getElem? (gA _ hij));have hmade:=JK E hXb;have hamo:=Xe E (loN (A (n*i+j)));have hamA:nam (loN (A (n*i+j)))=amA A n i j:=rfl;rw[hamA] at hamo;generalize hX:A (n*i+j)=X at *;by_cases hx:X.1=X.2
    ·have ex:=tV (show((X.1:Int) != (X.2:Int))=false by rw[neqN];exact decide_eq_false (fun h=>h hx));obtain⟨j',hj'⟩:∃j':{j:Nat // j<=n/\∀c,c<j->(A (n*i+c)).1=(A (n*i+c)).2},j'.1=j+1:=⟨⟨j+1,hjA,fun c hc=>by
      rcases Nat.lt_or_ge c j with g|g
      ·exact hP c g
      ·obtain rfl:c=j:=by omega
       rw[hX];exact hx⟩,rfl⟩
     simp -implicitDefEqProofs only[go_sem,eB,w3,w4,clA,d2,q4,q5,tk2,ex];refine cI hmade ?_;simp -implicitDefEqProofs only[go_sem];refine cI hamo ?_;by_cases hije:i=j
     ·have eij:=tB (show((i:Int)==(j:Int))=true by simp[hije]);have o1:offN (amA A n i) i (j+1)=offN (amA A n i) i j:=by simp only[offN];rw[if_pos hije]
      have o2:(if i<j+1 then amA A n i i else nzero)=amA A n i j:=by rw[if_pos (by omega),hije]
      simp -implicitDefEqProofs only[go_sem,eij,w2];refine⟨j',we ?_ ?_ (by simp[wv,wG,T.ref]),by simp only[hj'];omega⟩<;>simp -implicitDefEqProofs only[go_sem,hj',o1,o2]
     ·have eij:=tV (show((i:Int)==(j:Int))=false by simp;omega);have o1:offN (amA A n i) i (j+1)=nsum (offN (amA A n i) i j) (amA A n i j):=by simp only[offN];rw[if_neg hije]
      have o2:(if i<j+1 then amA A n i i else nzero)=(if i<j then amA A n i i else nzero):=by
       by_cases g:i<j
       ·rw[if_pos g,if_pos (by omega)]
       ·rw[if_neg g,if_neg (by omega)]
      have n1:NOk (offN (amA A n i) i j) 100000:=((VU (hnr i) i j).ok (by omega)).mono (by omega);have n2:NOk (amA A n i j) 100000:=((hnr i j).ok (by omega)).mono (by omega);simp -implicitDefEqProofs only[go_sem,eij];refine cI (zZ _ n1 n2 (by omega)) ?_;rw[<-o1];simp -implicitDefEqProofs only[go_sem,w2];refine⟨j',we ?_ ?_ (by simp[wv,wG,T.ref]),by simp only[hj'];omega⟩<;>simp -implicitDefEqProofs only[go_sem,hj',o2]
    ·have ex:=tB (show((X.1:Int) != (X.2:Int))=true by rw[neqN];exact decide_eq_true hx);have hs:=no hiA (fun g=>hx (by have:=g.2.1 j hjA;rw[hX] at this;exact this));rw[hs];simp -implicitDefEqProofs only[go_sem,eB,w3,w4,clA,d2,q4,q5,tk2,ex,finK]
   ·have eB:decide ((j:Int)<(n:Int))=false:=fD (by omega);obtain rfl:j=n:=by omega
    have nr1:=VU (hnr i) i j;have nl1:=nr1.lo;have nl2:=nr1.hi;have hd:(if i<j then amA A j i i else nzero)=amA A j i i:=if_pos hiA;have w5:IntKind.i64.wrap ((offN (amA A j i) i j).e+2)=(offN (amA A j i) i j).e+2:=w64 (by omega);have n1:NOk (e2N (offN (amA A j i) i j)) 100000:=((zmZ nr1).ok (by omega)).mono (by omega);have n2:NOk (amA A j i i) 100000:=((hnr i i).ok (by omega)).mono (by omega);have hl:=kE E n2 n1 (by omega);have hl':DQz E 35 [nmD (amA A j i i),.agg [bD (offN (amA A j i) i j).neg,natD (offN (amA A j i) i j).n,intD ((offN (amA A j i) i j).e+2)]] (.data (bD (nless (amA A j i i) (e2N (offN (amA A j i) i j))))):=hl;have hs:=WA E (amA A j i i);rw[hd];simp -implicitDefEqProofs only[go_sem,eB,w5];refine cI hl' ?_;cases hb1:nless (amA A j i i) (e2N (offN (amA A j i) i j)) with
    |true=>
     have hs:=no hiA (fun g=>by have:=g.2.2.1;rw[hb1] at this;cases this);rw[hs];simp -implicitDefEqProofs only[go_sem,finK]
    |false=>
     simp -implicitDefEqProofs only[go_sem];refine cI hs ?_;by_cases h0:nsign (amA A j i i)=0
     ·have e0:=tB (show(nsign (amA A j i i)==0)=true by simp[h0]);have hs:=no hiA (fun g=>g.2.2.2 h0);rw[hs];simp -implicitDefEqProofs only[go_sem,e0,finK]
     ·have e0:=tV (show(nsign (amA A j i i)==0)=false by simp[h0]);obtain⟨i',hi'⟩:∃i':{i:Nat // i<=j/\∀r,r<i->RS A B j r},i'.1=i+1:=⟨⟨i+1,hiA,fun r hr=>by
       rcases Nat.lt_or_ge r i with g|g
       ·exact hR r g
       ·obtain rfl:r=i:=by omega
        exact⟨hb,hP,hb1,h0⟩⟩,rfl⟩
      simp -implicitDefEqProofs only[go_sem,e0,w1];refine⟨i',we ?_ ?_ rfl,by simp only[hi'];omega⟩<;>simp -implicitDefEqProofs only[go_sem,hi']
  ·have eb:=tB (show(((B i).1:Int) != ((B i).2:Int))=true by rw[neqN];exact decide_eq_true hb);have hs:=no hiA (fun g=>hb g.1);rw[hs];simp -implicitDefEqProofs only[go_sem,clB,d2,q1,q2,q3,g1,g2,eb,finK]
 ·have eA:decide ((i:Int)<(n:Int))=false:=fD (by omega);have hs:zY A B n=true:=by
   exact(JA A B n).2 fun r hr=>hR r (by omega)
  rw[hs];simp -implicitDefEqProofs only[go_sem,eA,finK]
end Go.Enc
