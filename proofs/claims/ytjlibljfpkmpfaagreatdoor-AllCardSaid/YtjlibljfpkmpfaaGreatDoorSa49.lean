/-
  Apply: the program's by its table, the document's by its list of names; they answer alike.
-/
import Derived.Test.YtjlibljfpkmpfaaGreatDoorSa26
import Derived.Laws.Strings
import Derived.Test.YtjlibljfpkmpfaaGreatDoorSa27
import Derived.Test.YtjlibljfpkmpfaaGreatDoorSa15
import Derived.Test.YtjlibljfpkmpfaaGreatDoorRows
import Derived.LaidHandle
import Derived.Deep.SlicePairs
import Derived.WordedOn
set_option maxRecDepth 100000
set_option linter.unusedSimpArgs false
set_option linter.unusedVariables false
section
namespace Go.Enc
open Go.Proofs Go.Enc.Dg Go.Enc.Nu Go.Enc.Fl
def tabN:Nat->ByteArray
 |0=>⟨#[43]⟩
 |1=>⟨#[45]⟩
 |2=>⟨#[42]⟩
 |3=>⟨#[47]⟩
 |4=>⟨#[109,101,101,116]⟩
 |_=>⟨#[104,117,108,108]⟩
def tabF:Nat->FuncId
 |0=>41
 |1=>42
 |2=>43
 |3=>44
 |4=>40
 |_=>183
def refN:Nat->ByteArray
 |0=>⟨#[]⟩
 |1=>⟨#[104,117,108,108]⟩
 |2=>⟨#[109,101,101,116]⟩
 |3=>⟨#[43]⟩
 |4=>⟨#[45]⟩
 |5=>⟨#[42]⟩
 |_=>⟨#[47]⟩
def tabC:List D:=[.v (.string ⟨#[43]⟩),.v (.func (.func 41) #[] #[]),.v (.string ⟨#[45]⟩),.v (.func (.func 42) #[] #[]),.v (.string ⟨#[42]⟩),.v (.func (.func 43) #[] #[]),.v (.string ⟨#[47]⟩),.v (.func (.func 44) #[] #[]),.v (.string ⟨#[109,101,101,116]⟩),.v (.func (.func 40) #[] #[]),.v (.string ⟨#[104,117,108,108]⟩),.v (.func (.func 183) #[] #[])]
theorem WW:tabD = .sl 2 tabC:=rfl
theorem KZ:tabC.length=12:=rfl
theorem Vs {k:Nat}(h:k<6):(tabC.drop (k*2)).take 2=[.v (.string (tabN k)),.v (.func (.func (tabF k)) #[] #[])]:=by
 have:k=0\/k=1\/k=2\/k=3\/k=4\/k=5:=by omega
 rcases this with rfl|rfl|rfl|rfl|rfl|rfl<;>rfl
theorem zen {k:Nat}(h:k<6):isP (tabF k)=false:=by
 have:k=0\/k=1\/k=2\/k=3\/k=4\/k=5:=by omega
 rcases this with rfl|rfl|rfl|rfl|rfl|rfl<;>decide
def refC:List T:=[.d (.v (.string ⟨#[]⟩)),.d (.v (.string ⟨#[104,117,108,108]⟩)),.d (.v (.string ⟨#[109,101,101,116]⟩)),.d (.v (.string ⟨#[43]⟩)),.d (.v (.string ⟨#[45]⟩)),.d (.v (.string ⟨#[42]⟩)),.d (.v (.string ⟨#[47]⟩))]
theorem W5:refC.length=7:=rfl
theorem VL {k:Nat}(h:k<7):refC[k]?=some (.d (.v (.string (refN k)))):=by
 have:k=0\/k=1\/k=2\/k=3\/k=4\/k=5\/k=6:=by omega
 rcases this with rfl|rfl|rfl|rfl|rfl|rfl|rfl<;>rfl
theorem toList_inj {a b:ByteArray}(h:a.toList=b.toList):a=b:=by
 rw[ByteArray.toList_eq,ByteArray.toList_eq] at h;exact ByteArray.ext (Array.toList_inj.mp h)
theorem zbQ {a b:ByteArray}(h:a=b):(a.toList==b.toList)=true:=by rw[h];exact beq_self_eq_true _
theorem Vu {a b:ByteArray}(h:a≠b):(a.toList==b.toList)=false:=by
 rw[beq_eq_false_iff_ne];intro e;exact h (toList_inj e)
theorem zih (E:Nat->Option Value){a b r:Nat×Nat}(h:DQz E 39 [ivD a,ivD b] (.data (ivD r))):DQz E 183 [ivD a,ivD b] (.data (.tup [ivD r,.v .nilIface])):=by
 refine dcA Tryz.func183 Tryz.ntmps183 (rs:=[.cell 4 59,.tmp 5]) fun _ _ _ _ _=>?_
 simp -implicitDefEqProofs only[go_sem];refine cI h ?_;simp -implicitDefEqProofs only[go_sem];refine wc ?_;simp -implicitDefEqProofs only[go_sem]
theorem zdA {E:Nat->Option Value}{u:Value}(hE:E 9=some u){nm:ByteArray}{a b r:Nat×Nat}{e:D}{i:Nat}(hi:i<6)(hne:∀j,j<i->tabN j≠nm)(heq:tabN i=nm)(hf:DQz E (tabF i) [ivD a,ivD b] (.data (.tup [ivD r,e]))) :
  DQz E 57 [strD nm,ivD a,ivD b] (.data (.tup [ivD r,e])):=by
 refine dcA Tryz.func57 Tryz.ntmps57 (rs:=[.cell 6 59,.tmp 7]) fun _ _ _ _ _=>?_
 have hE:E 9=some u:=hE;have c6:((6:Nat):Int)=6:=rfl;simp -implicitDefEqProofs only[go_sem,hE,tabD,c6];rw[wu];refine wm (α:={k:Nat // k<=i}) (fun k=>St.of [(0,.d (strD nm)),(4,.ptr 4 0),(5,.ptr 5 0),(6,.ptr 6 0),(10,.d tabD),(11,.d (intD 6)),(12,.d (intD k.1))]
  [(4,⟨none,[.d (flD a.1),.d (flD a.2)]⟩),(5,⟨none,[.d (flD b.1),.d (flD b.2)]⟩),(6,⟨none,[.d (flD 0),.d (flD 0)]⟩)]) (fun k=>i-k.1) ⟨0,by omega⟩ (we ?_ ?_ rfl) (by kernel_rfl) (fun k=>?_)
 ·have c0:=c0E;simp -implicitDefEqProofs only[go_sem,tabD,c0]
 ·simp -implicitDefEqProofs only[go_sem]
 ·obtain⟨k,hk⟩:=k;have eA:decide ((k:Int)<6)=true:=tD (by omega);have w1:=wL (c:=k) (by omega);have q1:k*2<12:=by omega
  have q2:k*2+2<=12:=by omega
  by_cases hki:k=i
  ·have e1:=tV (zbQ heq);have hx:((tabC.drop (k*2)).take 2)=[.v (.string (tabN i)),.v (.func (.func (tabF i)) #[] #[])]:=by rw[hki];exact Vs hi
   have hP:isP (tabF i)=false:=zen hi;simp -implicitDefEqProofs only[go_sem,eA,WW,KZ,q1,q2,hx,e1,hP];refine cI hf ?_;simp -implicitDefEqProofs only[go_sem];refine wc ?_;simp -implicitDefEqProofs only[go_sem]
  ·have e1:=Vu (hne k (by omega));have hx:((tabC.drop (k*2)).take 2)=[.v (.string (tabN k)),.v (.func (.func (tabF k)) #[] #[])]:=Vs (by omega);obtain⟨k',hk'⟩:∃k':{k:Nat // k<=i},k'.1=k+1:=⟨⟨k+1,by omega⟩,rfl⟩;simp -implicitDefEqProofs only[go_sem,eA,WW,KZ,q1,q2,hx,e1,w1];refine⟨k',we ?_ ?_ rfl,by simp only[hk'];omega⟩<;>simp -implicitDefEqProofs only[go_sem,hk',WW]
theorem zcz {E:Nat->Option Value}{q:Nat->Addr}(hq:Sent E q){u:Value}(hE:E 9=some u){nm:ByteArray}{a b:Nat×Nat}(hne:∀j,j<6->tabN j≠nm) :
  DQz E 57 [strD nm,ivD a,ivD b] (.data (.tup [ivD (0,0),opE nm (eD q 6)])):=by
 refine dcA Tryz.func57 Tryz.ntmps57 (rs:=[.cell 6 59,.tmp 7]) fun _ _ _ _ _=>?_
 have hE:E 9=some u:=hE;have c6:((6:Nat):Int)=6:=rfl;have e6:E 6=some (errV (q 6)):=hq.var 6 (by decide);simp -implicitDefEqProofs only[go_sem,hE,tabD,c6];rw[wu];refine wm (α:={k:Nat // k<=6}) (fun k=>St.of [(0,.d (strD nm)),(4,.ptr 4 0),(5,.ptr 5 0),(6,.ptr 6 0),(10,.d tabD),(11,.d (intD 6)),(12,.d (intD k.1))]
  [(4,⟨none,[.d (flD a.1),.d (flD a.2)]⟩),(5,⟨none,[.d (flD b.1),.d (flD b.2)]⟩),(6,⟨none,[.d (flD 0),.d (flD 0)]⟩)]) (fun k=>6-k.1) ⟨0,by omega⟩ (we ?_ ?_ rfl) (by kernel_rfl) (fun k=>?_)
 ·have c0:=c0E;simp -implicitDefEqProofs only[go_sem,tabD,c0]
 ·simp -implicitDefEqProofs only[go_sem]
 ·obtain⟨k,hk⟩:=k;by_cases hk6:k<6
  ·have eA:decide ((k:Int)<6)=true:=tD (by omega);have w1:=wL (c:=k) (by omega);have q1:k*2<12:=by omega
   have q2:k*2+2<=12:=by omega
   have e1:=Vu (hne k (by omega));have hx:((tabC.drop (k*2)).take 2)=[.v (.string (tabN k)),.v (.func (.func (tabF k)) #[] #[])]:=Vs (by omega);obtain⟨k',hk'⟩:∃k':{k:Nat // k<=6},k'.1=k+1:=⟨⟨k+1,by omega⟩,rfl⟩;simp -implicitDefEqProofs only[go_sem,eA,WW,KZ,q1,q2,hx,e1,w1];refine⟨k',we ?_ ?_ rfl,by simp only[hk'];omega⟩<;>simp -implicitDefEqProofs only[go_sem,hk',WW]
  ·have eA:decide ((k:Int)<6)=false:=fD (by omega);simp -implicitDefEqProofs only[go_sem,eA];refine drw ?_;simp -implicitDefEqProofs only[go_sem,e6,errV];refine wc ?_;simp -implicitDefEqProofs only[go_sem,errV]
theorem zbw {E:Nat->Option Value}{nm:ByteArray}{x y:Nat×Nat}{R:Ans}{i:Nat}(hi1:1<=i)(hi:i<7)(hne:∀j,1<=j->j<i->refN j≠nm)(heq:refN i=nm)(hf:DQz E 18 [intD i,boxD x,boxD y] (.data (ansD R))) :
  DQz E 20 [strD nm,boxD x,boxD y] (.data (ansD R)):=by
 refine dcA Tryz.func20 Tryz.ntmps20 (rs:=[.cell 6 27,.tmp 7,.tmp 8]) fun _ _ _ _ _=>?_
 have c7:((7:Nat):Int)=7:=rfl;simp -implicitDefEqProofs only[go_sem];rw[wu];refine wm (α:={k:Nat // 1<=k/\k<=i}) (fun k=>St.of [(0,.d (strD nm)),(4,.ptr 4 0),(5,.ptr 5 0),(6,.ptr 6 0),(9,.gs 11),(10,.d (intD k.1))]
  [(4,⟨none,[.d (.v (.int .u64 x.1)),.d (.v (.int .u64 x.2))]⟩),(5,⟨none,[.d (.v (.int .u64 y.1)),.d (.v (.int .u64 y.2))]⟩),(6,⟨none,[.d (.v (.int .u64 0)),.d (.v (.int .u64 0))]⟩),(11,⟨some (9,1,false),refC⟩)]) (fun k=>i-k.1) ⟨1,by omega,hi1⟩ (we ?_ ?_ (by rfl)) (by kernel_rfl) (fun k=>?_)
 ·have c1:((1:Nat):Int)=1:=rfl;simp -implicitDefEqProofs only[go_sem,c1]
 ·simp -implicitDefEqProofs only[go_sem,refC]
 ·obtain⟨k,hk1,hk⟩:=k;have eA:decide ((k:Int)<7)=true:=tD (by omega);have w1:=wL (c:=k) (by omega);have q1:k<7:=by omega
  by_cases hki:k=i
  ·subst hki;have e1:=tV (zbQ heq);have hx:=VL (k:=k) (by omega);simp -implicitDefEqProofs only[go_sem,W5,c7,eA,q1,hx,e1];refine cI hf ?_;simp -implicitDefEqProofs only[go_sem];refine wc ?_;simp -implicitDefEqProofs only[go_sem]
  ·have e1:=Vu (hne k hk1 (by omega));have hx:=VL (k:=k) (by omega);obtain⟨k',hk'⟩:∃k':{k:Nat // 1<=k/\k<=i},k'.1=k+1:=⟨⟨k+1,by omega,by omega⟩,rfl⟩;simp -implicitDefEqProofs only[go_sem,W5,c7,eA,q1,hx,e1,w1];refine⟨k',we ?_ ?_ (by rfl),by simp only[hk'];omega⟩<;>simp -implicitDefEqProofs only[go_sem,hk']
theorem zbv {E:Nat->Option Value}{nm:ByteArray}{x y:Nat×Nat}(hne:∀j,1<=j->j<7->refN j≠nm) :
  DQz E 20 [strD nm,boxD x,boxD y] (.data (ansD ((0,0),7,nm))):=by
 refine dcA Tryz.func20 Tryz.ntmps20 (rs:=[.cell 6 27,.tmp 7,.tmp 8]) fun _ _ _ _ _=>?_
 have c7:((7:Nat):Int)=7:=rfl;simp -implicitDefEqProofs only[go_sem];rw[wu];refine wm (α:={k:Nat // 1<=k/\k<=7}) (fun k=>St.of [(0,.d (strD nm)),(4,.ptr 4 0),(5,.ptr 5 0),(6,.ptr 6 0),(9,.gs 11),(10,.d (intD k.1))]
  [(4,⟨none,[.d (.v (.int .u64 x.1)),.d (.v (.int .u64 x.2))]⟩),(5,⟨none,[.d (.v (.int .u64 y.1)),.d (.v (.int .u64 y.2))]⟩),(6,⟨none,[.d (.v (.int .u64 0)),.d (.v (.int .u64 0))]⟩),(11,⟨some (9,1,false),refC⟩)]) (fun k=>7-k.1) ⟨1,by omega,by omega⟩ (we ?_ ?_ (by rfl)) (by kernel_rfl) (fun k=>?_)
 ·have c1:((1:Nat):Int)=1:=rfl;simp -implicitDefEqProofs only[go_sem,c1]
 ·simp -implicitDefEqProofs only[go_sem,refC]
 ·obtain⟨k,hk1,hk⟩:=k;by_cases hk7:k<7
  ·have eA:decide ((k:Int)<7)=true:=tD (by omega);have w1:=wL (c:=k) (by omega);have e1:=Vu (hne k hk1 hk7);have hx:=VL (k:=k) (by omega);obtain⟨k',hk'⟩:∃k':{k:Nat // 1<=k/\k<=7},k'.1=k+1:=⟨⟨k+1,by omega,by omega⟩,rfl⟩;simp -implicitDefEqProofs only[go_sem,W5,c7,eA,hk7,hx,e1,w1];refine⟨k',we ?_ ?_ (by rfl),by simp only[hk'];omega⟩<;>simp -implicitDefEqProofs only[go_sem,hk']
  ·have eA:decide ((k:Int)<7)=false:=fD (by omega);simp -implicitDefEqProofs only[go_sem,W5,c7,eA];refine wc ?_;simp -implicitDefEqProofs only[go_sem]
theorem Yf (E:Nat->Option Value){nm:ByteArray}{x y a b r:Nat×Nat}{e:D}{n:Int}{s:ByteArray}(h1:DQz E 37 [boxD x] (.data (ivD a)))(h2:DQz E 37 [boxD y] (.data (ivD b)))
  (h3:DQz E 57 [strD nm,ivD a,ivD b] (.data (.tup [ivD r,e]))) (h4:DQz E 32 [e] (.data (.tup [intD n,strD s]))) :
  DQz E 19 [strD nm,boxD x,boxD y] (.data (.tup [boxD r,intD n,strD s])):=by
 refine dcA Tryz.func19 Tryz.ntmps19 (rs:=[.cell 6 32,.tmp 7,.tmp 8]) fun _ _ _ _ _=>?_
 simp -implicitDefEqProofs only[go_sem];refine drw ?_;simp -implicitDefEqProofs only[go_sem];refine cI h1 ?_;simp -implicitDefEqProofs only[go_sem];refine cI h2 ?_;simp -implicitDefEqProofs only[go_sem];refine cI h3 ?_;simp -implicitDefEqProofs only[go_sem];refine cI h4 ?_;simp -implicitDefEqProofs only[go_sem];refine cI (jN _ r) ?_;simp -implicitDefEqProofs only[go_sem];refine wc ?_;simp -implicitDefEqProofs only[go_sem]
section
variable {E:Nat->Option Value} {q:Nat->Addr} {x y:Nat×Nat} {u:Value}
def zhV (E:Nat->Option Value)(s:ByteArray)(x y:Nat×Nat):Prop:=∃r n t,DQz E 19 [strD s,boxD x,boxD y] (.data (.tup [boxD r,intD n,strD t]))/\DQz E 20 [strD s,boxD x,boxD y] (.data (.tup [boxD r,intD n,strD t]))
theorem xN (hq:Sent E q)(hE:E 9=some u)(x1:x.1<18446744073709551616)(x2:x.2<18446744073709551616)(y1:y.1<18446744073709551616)(y2:y.2<18446744073709551616)
  {s:ByteArray} {i k:Nat} (hi:i<6) (hk1:1<=k) (hk:k<7) (d1:∀j,j<i->tabN j≠s) (e1:tabN i=s) (d2:∀j,1<=j->j<k->refN j≠s) (e2:refN k=s) (hs:Vl E (tabF i) (k:Int) (mk2 x) (mk2 y)):zhV E s x y:=by
 obtain⟨r,e,n,t,h1,h2,h3⟩:=hs;have R:=refop (x:=x) (y:=y) E (k:Int) x1 x2 y1 y2;rw[h3] at R;exact⟨r,n,t,Yf E (qY hq x1 x2) (qY hq y1 y2) (zdA hE hi d1 e1 h1) h2,zbw hk1 hk d2 e2 R⟩
theorem Uk (hq:Sent E q)(hE:E 9=some u)(s:ByteArray)(x1:x.1<18446744073709551616)(x2:x.2<18446744073709551616)(y1:y.1<18446744073709551616)(y2:y.2<18446744073709551616):zhV E s x y:=by
 have g:=jO x1 x2;have g':=jO y1 y2;have sp:∀ {j n:Nat} {P:Nat->Prop},j<n->(∀j,j<n->P j)->P j:=fun h f=>f _ h
 have D:∀i,i<6->∀j,j<i->tabN j≠tabN i:=by decide
 have D':∀k,k<7->∀j,j<k->1<=j->refN j≠refN k:=by decide
 by_cases h0:s=tabN 0
 ·subst h0;exact xN hq hE x1 x2 y1 y2 (i:=0) (k:=3) (by omega) (by omega) (by omega) (D 0 (by omega)) rfl (fun j a b=>D' 3 (by omega) j b a) rfl (zbf hq g g')
 by_cases h1:s=tabN 1
 ·subst h1;exact xN hq hE x1 x2 y1 y2 (i:=1) (k:=4) (by omega) (by omega) (by omega) (D 1 (by omega)) rfl (fun j a b=>D' 4 (by omega) j b a) rfl (zbe hq g g')
 by_cases h2:s=tabN 2
 ·subst h2;exact xN hq hE x1 x2 y1 y2 (i:=2) (k:=5) (by omega) (by omega) (by omega) (D 2 (by omega)) rfl (fun j a b=>D' 5 (by omega) j b a) rfl (zbd hq g g')
 by_cases h3:s=tabN 3
 ·subst h3;exact xN hq hE x1 x2 y1 y2 (i:=3) (k:=6) (by omega) (by omega) (by omega) (D 3 (by omega)) rfl (fun j a b=>D' 6 (by omega) j b a) rfl (zbc hq g g')
 by_cases h4:s=tabN 4
 ·subst h4;exact xN hq hE x1 x2 y1 y2 (i:=4) (k:=2) (by omega) (by omega) (by omega) (D 4 (by omega)) rfl (fun j a b=>D' 2 (by omega) j b a) rfl (zbg hq g g')
 by_cases h5:s=tabN 5
 ·subst h5;obtain⟨r,hr,e⟩:=zgp (E:=E) g g';exact xN hq hE x1 x2 y1 y2 (i:=5) (k:=1) (by omega) (by omega) (by omega) (D 5 (by omega)) rfl (fun j a b=>D' 1 (by omega) j b a) rfl ⟨r,.v .nilIface,0,_,zih E hr,jE E,e⟩
 have n1:∀j,j<6->tabN j≠s:=fun j hj=>by
  have:j=0\/j=1\/j=2\/j=3\/j=4\/j=5:=by omega
  rcases this with rfl|rfl|rfl|rfl|rfl|rfl
  ·exact fun e=>h0 e.symm
  ·exact fun e=>h1 e.symm
  ·exact fun e=>h2 e.symm
  ·exact fun e=>h3 e.symm
  ·exact fun e=>h4 e.symm
  ·exact fun e=>h5 e.symm
 have n2:∀j,1<=j->j<7->refN j≠s:=fun j hj hj'=>by
  have:j=1\/j=2\/j=3\/j=4\/j=5\/j=6:=by omega
  rcases this with rfl|rfl|rfl|rfl|rfl|rfl
  ·exact n1 5 (by omega)
  ·exact n1 4 (by omega)
  ·exact n1 0 (by omega)
  ·exact n1 1 (by omega)
  ·exact n1 2 (by omega)
  ·exact n1 3 (by omega)
 exact⟨(0,0),7,s,Yf E (qY hq x1 x2) (qY hq y1 y2) (zcz hq hE n1) (Jn hq (i:=6) (by decide) s),zbv n2⟩
theorem Yc (hq:Sent E q)(hE:E 9=some u){o:OpD}(hw:o.Wf)(hk:o.kind=3):DQz E 12 [opD o] (.data (bD true)):=by
 obtain⟨r,n,s,h1,h2⟩:=Uk (x:=(o.xl,o.xh)) (y:=(o.yl,o.yh)) hq hE o.s hw.xl hw.xh hw.yl hw.yh;refine dcA Tryz.func12 Tryz.ntmps12 (rs:=[.tmp 2]) fun _ _ _ _ _=>?_
 have e0:=tB (beqT (show n=n from rfl));have e1:=tV (show(s.toList==s.toList)=true from beq_self_eq_true _);simp -implicitDefEqProofs only[go_sem,OpD.cells,iD,uD,hk,Int.reduceBEq];refine drw ?_;simp -implicitDefEqProofs only[go_sem,OpD.cells,iD,uD];refine cI (ym _ (o.xl,o.xh)) ?_;simp -implicitDefEqProofs only[go_sem];refine cI (ym _ (o.yl,o.yh)) ?_;simp -implicitDefEqProofs only[go_sem];refine cI h1 ?_;simp -implicitDefEqProofs only[go_sem];refine cI h2 ?_;simp -implicitDefEqProofs only[go_sem];refine cI (WB _ _) ?_;simp -implicitDefEqProofs only[go_sem,e0,e1,beq_self_eq_true,finK]
end
end Go.Enc
end
section
namespace Go.Enc
open Go.Proofs Go.RowKit Go.ChangeShapes Go.Deep
def tabCells:List Value:=[.string ⟨#[43]⟩,.func (.func 41) #[] #[],.string ⟨#[45]⟩,.func (.func 42) #[] #[],.string ⟨#[42]⟩,.func (.func 43) #[] #[],
 .string ⟨#[47]⟩,.func (.func 44) #[] #[],.string ⟨#[109,101,101,116]⟩,.func (.func 40) #[] #[],.string ⟨#[104,117,108,108]⟩,.func (.func 183) #[] #[]]
noncomputable def KY (os:Os):World:=
 let w0:=World.holding Tryz.prog os ⟨((texts.map fun s=>Go.Obj.cells #[.string s] 235)++[Go.Obj.cells tabCells.toArray 61]).toArray,#[],[]⟩
 {w0 with heap:=JB (JB ((List.range 9).foldl (fun h g=>JB h g (errV ⟨low+g,0,none⟩)) w0.heap) 11 (.iface 199 (.agg #[.pointer (some ⟨12,61,none⟩)]))) 9 (.slice (some ⟨low+9,0,none⟩) 6 6) }
theorem zem (os:Os):laidMetH Tryz.prog YtjlibljfpkmpfaaGreatDoor.Rows.makesRow.laid ((KY os).forCall (fun _ _=>0) ⟨#[],#[],[]⟩).memory:=
 laidMetH_of_parts3 (fuel:=8) (laidMet_of_run' 8 (by kernel_rfl) (by kernel_rfl)) (by kernel_rfl) (by kernel_rfl)
section
variable {H:Type} {enc:TypeId×Value->H} {w:World} {held:Bool} {sp:Nat->Bool}
end
theorem zej {H:Type}{enc:TypeId×Value->H}{P:Program}{w:World}{sp:Nat->Bool}{fuel:Nat}{t:TypeId}{v:Value}{x:DataW H×List MemPlace}{a:Array TypeId}{b:Array TypeId}{c:Bool}(ht:P.underlying t=some (.func a b c))
  (h:DataW.trod enc P w 0 sp true fuel t [v]=some x):x=(.nil,[])\/x=(.held (enc (t,v)),[]):=by
 cases fuel with
 |zero=>simp[DataW.trod] at h
 |succ n=>
  unfold DataW.trod at h;rw[ht] at h;split at h<;>simp_all
theorem Jy {v:Value}{t:TypeId}{b:UInt8}{r:List UInt8}{s:String}{f:FuncId}(h:funcToken Tryz.prog (t,v)=b :: r)(hs:s.toUTF8.data.toList=b :: r)(hf:Tryz.prog.funcNamed s=some f):v = .func (.func f) #[] #[]:=by
 obtain⟨g,fn,e1,e2,e3,e4⟩:=funcToken_tells h;have:fn.name=s:=bytes_inj (by rw[e4,hs]);rw[this,hf] at e3;cases e3;exact e1
theorem zeq {s:ByteArray}{l:List UInt8}(h:s.data.toList=l){t:ByteArray}(ht:t.data.toList=l):s=t:=ByteArray.ext (Array.toList_inj.mp (by rw[h,ht]))
def tabW (i:Nat):DataW (List UInt8):=.agg [.lit (.string (tabN i).data.toList),.held (match i with
 |0 => "(enclose/enclose.Interval).Add".toUTF8.data.toList
 |1 => "(enclose/enclose.Interval).Sub".toUTF8.data.toList
 |2 => "(enclose/enclose.Interval).Mul".toUTF8.data.toList
 |3 => "(enclose/enclose.Interval).Div".toUTF8.data.toList
 |4 => "(enclose/enclose.Interval).Meet".toUTF8.data.toList
 |_ => "enclose/enclose.table$1".toUTF8.data.toList)]
theorem ZK {W:World}{l:List (String×DataW Unit)}{d:DataW Unit}(hl:laidMetH Tryz.prog l W)(hm:("enclose/enclose.table",DataW.iface "func table" d)∈l)(hd:d.funcsOut = .slice [tabW 0,tabW 1,tabW 2,tabW 3,tabW 4,tabW 5] []) :
  ∃u,W.cell? ⟨9,0,none⟩=some u/\(∀t a,u≠.iface t (.pointer (some a)))/\Rep (fun b o=>W.cell? ⟨b,o,none⟩) tabD u:=by
 obtain⟨g,t,cs,fuel,p,h1,h2,h3,h4⟩:=hl.funcs hm;have eN:Tryz.prog.globalNamed "enclose/enclose.table" = some 9:=by kernel_rfl
 rw[eN] at h1;cases h1;have eT:(Tryz.prog.globals[9]?).map (·.type)=some 145:=by kernel_rfl
 rw[eT] at h2;cases h2;rw[hd] at h4;have c0:=World.var?_cell eN h3 0;have hO:=open_slice_pairs Tryz.underlying145 Tryz.underlying148 (by kernel_rfl) (by rfl) (by rfl) (by kernel_rfl) (by kernel_rfl) h4;rcases hO with⟨_,h5⟩|⟨a,len,cap,m,n,V0,V1,D0,D1,P0,P1,hcs,_,hle,hcm,hmm,hx,hi⟩
 ·cases (congrArg Prod.fst h5)
 have hx1:=congrArg Prod.fst hx;simp only[DataW.slice.injEq] at hx1;obtain⟨hx1,hx2⟩:=hx1;have hlen:len=6:=by
  have:=congrArg List.length hx1
  simpa using this.symm
 subst hlen;have hm6:6<=m:=by rw[hmm];split<;>omega
 have hrow:∀i,i<6->tabW i = .agg [D0 i,D1 i]:=fun i hi6=>by
  have h6:[tabW 0,tabW 1,tabW 2,tabW 3,tabW 4,tabW 5][i]?=some (tabW i):=by
   have:i=0\/i=1\/i=2\/i=3\/i=4\/i=5:=by omega
   rcases this with rfl|rfl|rfl|rfl|rfl|rfl<;>rfl
  rw[hx1] at h6;simp only[List.getElem?_map,List.getElem?_range hi6,Option.map_some,Option.some.injEq] at h6;exact h6.symm
 have hv:∀i,i<6->V0 i = .string (tabN i)/\V1 i = .func (.func (tabF i)) #[] #[]:=fun i hi6=>by
  obtain⟨_,_,t0,t1⟩:=hi i (by omega);have hr:=hrow i hi6;simp only[tabW,DataW.agg.injEq,List.cons.injEq,and_true] at hr;obtain⟨r0,r1⟩:=hr;obtain⟨s,e1,e2,_⟩:=DataW.trod_string Tryz.underlying9 t0;have e1:V0 i = .string s:=by simpa using e1
  have e3:=congrArg Prod.fst e2;simp only at e3;rw[<-r0] at e3;simp only[DataW.lit.injEq,Lit.string.injEq] at e3;refine⟨by rw[e1,zeq e3.symm rfl],?_⟩;have hfn:=zej Tryz.underlying146 t1;rcases hfn with hfn|hfn
  ·have:=congrArg Prod.fst hfn;simp only at this;rw[<-r1] at this;cases this
  ·have:=congrArg Prod.fst hfn;simp only at this;rw[<-r1] at this;simp only[DataW.held.injEq] at this;have hcase:i=0\/i=1\/i=2\/i=3\/i=4\/i=5:=by omega
   rcases hcase with rfl|rfl|rfl|rfl|rfl|rfl
   ·exact Jy (s := "(enclose/enclose.Interval).Add") (this.symm.trans (by rfl)) (by rfl) (by kernel_rfl)
   ·exact Jy (s := "(enclose/enclose.Interval).Sub") (this.symm.trans (by rfl)) (by rfl) (by kernel_rfl)
   ·exact Jy (s := "(enclose/enclose.Interval).Mul") (this.symm.trans (by rfl)) (by rfl) (by kernel_rfl)
   ·exact Jy (s := "(enclose/enclose.Interval).Div") (this.symm.trans (by rfl)) (by rfl) (by kernel_rfl)
   ·exact Jy (s := "(enclose/enclose.Interval).Meet") (this.symm.trans (by rfl)) (by rfl) (by kernel_rfl)
   ·exact Jy (s := "enclose/enclose.table$1") (this.symm.trans (by rfl)) (by rfl) (by kernel_rfl)
 have hspot:a.spot=none:=by
  have h0:=(hi 0 (by omega)).1;simp only[Nat.zero_mul,Addr.add,if_true] at h0;simp only[World.cell?] at h0;cases hs:a.spot with
  |none=>rfl
  |some q=>
   split at h0
   ·rw[hs] at h0;simp at h0
   ·cases h0
 obtain⟨bl,off,spt⟩:=a;simp only at hspot;subst hspot;have hcell:∀i,i<6->W.cell? ⟨bl,off+i*2,none⟩=some (.string (tabN i))/\W.cell? ⟨bl,off+(i*2+1),none⟩=some (.func (.func (tabF i)) #[] #[]):=fun i hi6=>by
  obtain⟨c1,c2,_,_⟩:=hi i (by omega);obtain⟨v1,v2⟩:=hv i hi6;rw[v1] at c1;rw[v2] at c2;constructor
  ·rw[<-c1];by_cases hz:i*2=0
   ·simp[Addr.add,hz]
   ·simp[Addr.add,hz]
  ·rw[<-c2];simp[Addr.add]
 refine⟨.slice (some ⟨bl,off,none⟩) 6 cap,?_,(fun t a h=>by cases h),?_⟩
 ·rw[c0];have:cs[0]?=cs.toList[0]?:=by simp
  rw[this,hcs];rfl
 ·show Rep _ (.sl 2 tabC) _
  simp only[Rep];refine .inr (.inl ⟨bl,off,6,cap,rfl,rfl,hle,hcm,?_⟩);have c0:=hcell 0 (by omega);have c1:=hcell 1 (by omega);have c2:=hcell 2 (by omega);have c3:=hcell 3 (by omega);have c4:=hcell 4 (by omega);have c5:=hcell 5 (by omega);refine RepC.of_values (us:=[.string (tabN 0),.func (.func (tabF 0)) #[] #[],.string (tabN 1),.func (.func (tabF 1)) #[] #[],.string (tabN 2),.func (.func (tabF 2)) #[] #[],.string (tabN 3),.func (.func (tabF 3)) #[] #[],.string (tabN 4),.func (.func (tabF 4)) #[] #[],.string (tabN 5),.func (.func (tabF 5)) #[] #[]]) ?_ (fun j u hj=>?_)
  ·simp only[tabC,RepU,Rep];exact⟨_,_,rfl,rfl,rfl,_,_,rfl,rfl,rfl,_,_,rfl,rfl,rfl,_,_,rfl,rfl,rfl,_,_,rfl,rfl,rfl,_,_,rfl,rfl,rfl,_,_,rfl,rfl,rfl,_,_,rfl,rfl,rfl,_,_,rfl,rfl,rfl,_,_,rfl,rfl,rfl,_,_,rfl,rfl,rfl,_,_,rfl,rfl,rfl,rfl⟩
  ·have hj12:j<12:=by
    rcases Nat.lt_or_ge j 12 with h|h
    ·exact h
    ·rw[List.getElem?_eq_none (by simpa using h)] at hj;cases hj
   have hcase:j=0\/j=1\/j=2\/j=3\/j=4\/j=5\/j=6\/j=7\/j=8\/j=9\/j=10\/j=11:=by omega
   rcases hcase with rfl|rfl|rfl|rfl|rfl|rfl|rfl|rfl|rfl|rfl|rfl|rfl<;>(rw[<-hj])
   ·exact c0.1
   ·exact c0.2
   ·exact c1.1
   ·exact c1.2
   ·exact c2.1
   ·exact c2.2
   ·exact c3.1
   ·exact c3.2
   ·exact c4.1
   ·exact c4.2
   ·exact c5.1
   ·exact c5.2
end Go.Enc
end
