/-
  The document's operations on intervals, by contract.
-/
import Derived.Test.YtjlibljfpkmpfaaGreatDoorSa20
import Derived.Test.YtjlibljfpkmpfaaGreatDoorSa22
set_option maxRecDepth 100000
set_option linter.unusedSimpArgs false
set_option linter.unusedVariables false
namespace Go.Enc
open Go.Proofs Go.Enc.Dg Go.Enc.Nu
abbrev J6:ByteArray:=⟨#[115,113,114,116]⟩
structure Nt (a:Nm):Prop where
 n:Bd a.n 53
 lo : -1000<=a.e
 hi:a.e<=1000
theorem qg (b:Nat):Nt (nplain b).1:=by
 by_cases hz:(nplain b).1=nzero
 ·rw[hz];exact⟨Nat.pow_pos (by decide),by decide,by decide⟩
 ·obtain⟨p1,p2,p3,p4,p5⟩:=qf hz;rw[p2];have hf:b % 4503599627370496<4503599627370496:=Nat.mod_lt _ (by decide);refine⟨?_,by simp only;omega,by simp only;omega⟩;unfold Bd;simp only;omega
theorem Nt.ok {a:Nm}(h:Nt a):NOk a 53:=by
 obtain⟨h1,h2,h3⟩:=h;exact⟨h1,by omega,by omega⟩
theorem Nt.prod {a b:Nm}(h:Nt a)(g:Nt b):NOk (nprod a b) 106:=by
 obtain⟨h1,h2,h3⟩:=h;obtain⟨g1,g2,g3⟩:=g;exact⟨h1.mul g1,by show -1000000<=a.e+b.e;omega,by show a.e+b.e<=1000000;omega⟩
theorem RD {q n:Nat}(w:Bool)(h:Bd q n):Bd (2*q+w.toNat) (n+1):=by
 unfold Bd at *;rw[Nat.pow_succ];cases w<;>simp only[Bool.toNat_true,Bool.toNat_false]<;>omega
theorem Nt.quot {a b:Nm}(h:Nt a)(g:Nt b):NOk (nquot a b) 200:=by
 obtain⟨h1,h2,h3⟩:=h;obtain⟨g1,g2,g3⟩:=g;have hb:=KK g1;refine⟨?_,?_,?_⟩
 ·have h4:Bd (a.n*2^(60+nbits b.n)/b.n) (53+(60+nbits b.n)):=Bd.le h1.up (Nat.div_le_self _ _);exact(RD (!decide (a.n*2^(60+nbits b.n) % b.n=0)) h4).mono (by omega)
 ·show -1000000<=a.e-((60+nbits b.n:Nat):Int)-b.e-1;omega
 ·show a.e-((60+nbits b.n:Nat):Int)-b.e-1<=1000000;omega
theorem Nt.root {a:Nm}(h:Nt a):NOk (nroot a) 200:=by
 obtain⟨h1,h2,h3⟩:=h;have hk:rootk a.e<=131:=by unfold rootk;split<;>omega
 refine⟨?_,?_,?_⟩
 ·have h4:Bd (isq (a.n*2^rootk a.e)) (53+rootk a.e):=Bd.le h1.up (Nat.le_trans (Ux _) (vI _).1);exact(RD (!decide (isq (a.n*2^rootk a.e)*isq (a.n*2^rootk a.e)=a.n*2^rootk a.e)) h4).mono (by omega)
 ·show -1000000<=(a.e-(rootk a.e:Int))/2-1;omega
 ·show(a.e-(rootk a.e:Int))/2-1<=1000000;omega
abbrev Ans:=(Nat×Nat)×Int×ByteArray
abbrev ansD (r:Ans):D:=.tup [boxD r.1,intD r.2.1,tD_ r.2.2]
def ovrB (a1 a2 b1 b2:Nm):Ans:=if kK b1 b2=true then ((0,0),4,xc) else jK (xb (nquot a1 b1) (nquot a1 b2) (nquot a2 b1) (nquot a2 b2)).1 (xb (nquot a1 b1) (nquot a1 b2) (nquot a2 b1) (nquot a2 b2)).2 xc
theorem zag (E:Nat->Option Value){a1 a2 b1 b2:Nm}(ha1:Nt a1)(ha2:Nt a2)(hb1:Nt b1)(hb2:Nt b2)(hz:kK b1 b2=false->b1.n≠0/\b2.n≠0) :
  DQz E 54 [nvD a1 a2,nvD b1 b2] (.data (ansD (ovrB a1 a2 b1 b2))):=by
 refine dcA Tryz.func54 Tryz.ntmps54 (rs:=[.cell 4 27,.tmp 5,.tmp 6]) fun _ _ _ _ _=>?_
 have h0:=YE E b1 b2;obtain⟨R,hR⟩:∃R,ovrB a1 a2 b1 b2=R:=⟨_,rfl⟩;have hD:R=if kK b1 b2=true then ((0,0),4,xc) else jK (xb (nquot a1 b1) (nquot a1 b2) (nquot a2 b1) (nquot a2 b2)).1 (xb (nquot a1 b1) (nquot a1 b2) (nquot a2 b1) (nquot a2 b2)).2 xc:=hR.symm
 rw[hR];cases hc:kK b1 b2
 ·obtain⟨z1,z2⟩:=hz hc;rw[hc,if_neg (by decide)] at hD;have q1:=v7 E ha1.ok hb1.ok (by omega) z1;have q2:=v7 E ha1.ok hb2.ok (by omega) z2;have q3:=v7 E ha2.ok hb1.ok (by omega) z1;have q4:=v7 E ha2.ok hb2.ok (by omega) z2;have hs:=Vx E (ha1.quot hb1) (ha1.quot hb2) (ha2.quot hb1) (ha2.quot hb2) (by omega);generalize nquot a1 b1=u1 at *;generalize nquot a1 b2=u2 at *;generalize nquot a2 b1=u3 at *;generalize nquot a2 b2=u4 at *;generalize xb u1 u2 u3 u4=S at *;have hn:=Jc E S.1 S.2 xc;rw[<-hD] at hn;rw[hc] at h0;simp -implicitDefEqProofs only[go_sem];refine cI h0 ?_;simp -implicitDefEqProofs only[go_sem];refine drw ?_;simp -implicitDefEqProofs only[go_sem];refine cI q1 ?_;simp -implicitDefEqProofs only[go_sem];refine cI q2 ?_;simp -implicitDefEqProofs only[go_sem];refine cI q3 ?_;simp -implicitDefEqProofs only[go_sem];refine cI q4 ?_;simp -implicitDefEqProofs only[go_sem];refine cI hs ?_;simp -implicitDefEqProofs only[go_sem];refine cI hn ?_;simp -implicitDefEqProofs only[go_sem];refine wc ?_;simp -implicitDefEqProofs only[go_sem]
 ·rw[hc,if_pos rfl] at hD;rw[hc] at h0;rw[hD];simp -implicitDefEqProofs only[go_sem];refine cI h0 ?_;simp -implicitDefEqProofs only[go_sem];refine wc ?_;simp -implicitDefEqProofs only[go_sem]
def refB (k:Int)(a1 a2 b1 b2:Nm):Ans:=
 if k=0 then ((wH (nneg a2) (nneg a1)).1,0,noS)
 else if k=1 then ((xb a1 a2 b1 b2).1,0,noS)
 else if k=2 then ((vD a1 a2 b1 b2).1,(vD a1 a2 b1 b2).2,noS)
 else if k=3 then jK (wH (nsum a1 b1) (nsum a2 b2)).1 (wH (nsum a1 b1) (nsum a2 b2)).2 J9
 else if k=4 then jK (wH (nsum a1 (nneg b2)) (nsum a2 (nneg b1))).1 (wH (nsum a1 (nneg b2)) (nsum a2 (nneg b1))).2 yi
 else if k=5 then jK (xb (nprod a1 b1) (nprod a1 b2) (nprod a2 b1) (nprod a2 b2)).1 (xb (nprod a1 b1) (nprod a1 b2) (nprod a2 b1) (nprod a2 b2)).2 kc
 else if k=6 then ovrB a1 a2 b1 b2
 else if k=7 then (if nsign a1<0 then ((0,0),5,J6) else jK (wH (nroot a1) (nroot a2)).1 (wH (nroot a1) (nroot a2)).2 J6)
 else ((wH a1 a2).1,0,noS)
section
variable (E:Nat->Option Value) {x y:Nat×Nat} {a1 a2 b1 b2:Nm}
theorem ziC (hx:DQz E 46 [boxD x] (.data (nvD a1 a2)))(hy:DQz E 46 [boxD y] (.data (nvD b1 b2)))(na1:Nt a1)(na2:Nt a2)(nb1:Nt b1)(nb2:Nt b2):DQz E 18 [intD 0,boxD x,boxD y] (.data (ansD (((wH (nneg a2) (nneg a1)).1,0,noS)))):=by
 have m1:=wP E b2;have m2:=wP E b1;have c1:=wP E a2;have c2:=wP E a1;have c3:=kU E na2.ok.neg na1.ok.neg (by omega);generalize wH (nneg a2) (nneg a1)=R at *;refine dcA Tryz.func18 Tryz.ntmps18 (rs:=[.cell 6 27,.tmp 7,.tmp 8]) fun _ _ _ _ _=>?_
 simp -implicitDefEqProofs only[go_sem];refine cI hx ?_;simp -implicitDefEqProofs only[go_sem];refine cI hy ?_;simp -implicitDefEqProofs only[go_sem];refine cI m1 ?_;simp -implicitDefEqProofs only[go_sem];refine cI m2 ?_;simp -implicitDefEqProofs only[go_sem,Int.reduceBEq];refine cI c1 ?_;simp -implicitDefEqProofs only[go_sem];refine cI c2 ?_;simp -implicitDefEqProofs only[go_sem];refine cI c3 ?_;simp -implicitDefEqProofs only[go_sem];refine wc ?_;simp -implicitDefEqProofs only[go_sem]
theorem ziB (hx:DQz E 46 [boxD x] (.data (nvD a1 a2)))(hy:DQz E 46 [boxD y] (.data (nvD b1 b2)))(na1:Nt a1)(na2:Nt a2)(nb1:Nt b1)(nb2:Nt b2):DQz E 18 [intD 1,boxD x,boxD y] (.data (ansD (((xb a1 a2 b1 b2).1,0,noS)))):=by
 have m1:=wP E b2;have m2:=wP E b1;have c3:=Vx E na1.ok na2.ok nb1.ok nb2.ok (by omega);generalize xb a1 a2 b1 b2=R at *;refine dcA Tryz.func18 Tryz.ntmps18 (rs:=[.cell 6 27,.tmp 7,.tmp 8]) fun _ _ _ _ _=>?_
 simp -implicitDefEqProofs only[go_sem];refine cI hx ?_;simp -implicitDefEqProofs only[go_sem];refine cI hy ?_;simp -implicitDefEqProofs only[go_sem];refine cI m1 ?_;simp -implicitDefEqProofs only[go_sem];refine cI m2 ?_;simp -implicitDefEqProofs only[go_sem,Int.reduceBEq];refine cI c3 ?_;simp -implicitDefEqProofs only[go_sem];refine wc ?_;simp -implicitDefEqProofs only[go_sem]
theorem ziA (hx:DQz E 46 [boxD x] (.data (nvD a1 a2)))(hy:DQz E 46 [boxD y] (.data (nvD b1 b2)))(na1:Nt a1)(na2:Nt a2)(nb1:Nt b1)(nb2:Nt b2):DQz E 18 [intD 2,boxD x,boxD y] (.data (ansD (((vD a1 a2 b1 b2).1,(vD a1 a2 b1 b2).2,noS)))):=by
 have m1:=wP E b2;have m2:=wP E b1;have c3:=ziW E na1.ok na2.ok nb1.ok nb2.ok (by omega);generalize vD a1 a2 b1 b2=R at *;refine dcA Tryz.func18 Tryz.ntmps18 (rs:=[.cell 6 27,.tmp 7,.tmp 8]) fun _ _ _ _ _=>?_
 simp -implicitDefEqProofs only[go_sem];refine cI hx ?_;simp -implicitDefEqProofs only[go_sem];refine cI hy ?_;simp -implicitDefEqProofs only[go_sem];refine cI m1 ?_;simp -implicitDefEqProofs only[go_sem];refine cI m2 ?_;simp -implicitDefEqProofs only[go_sem,Int.reduceBEq];refine cI c3 ?_;simp -implicitDefEqProofs only[go_sem];refine wc ?_;simp -implicitDefEqProofs only[go_sem]
theorem zhz (hx:DQz E 46 [boxD x] (.data (nvD a1 a2)))(hy:DQz E 46 [boxD y] (.data (nvD b1 b2)))(na1:Nt a1)(na2:Nt a2)(nb1:Nt b1)(nb2:Nt b2):DQz E 18 [intD 3,boxD x,boxD y] (.data (ansD (jK (wH (nsum a1 b1) (nsum a2 b2)).1 (wH (nsum a1 b1) (nsum a2 b2)).2 J9))):=by
 have m1:=wP E b2;have m2:=wP E b1;have c1:=zZ E na1.ok nb1.ok (by omega);have c2:=zZ E na2.ok nb2.ok (by omega);have c3:=kU E (na1.ok.sum nb1.ok) (na2.ok.sum nb2.ok) (by omega);generalize nsum a1 b1=u1 at *;generalize nsum a2 b2=u2 at *;generalize wH u1 u2=R at *;have c4:=Jc E R.1 R.2 J9;generalize jK R.1 R.2 J9=Q at *;refine dcA Tryz.func18 Tryz.ntmps18 (rs:=[.cell 6 27,.tmp 7,.tmp 8]) fun _ _ _ _ _=>?_
 simp -implicitDefEqProofs only[go_sem];refine cI hx ?_;simp -implicitDefEqProofs only[go_sem];refine cI hy ?_;simp -implicitDefEqProofs only[go_sem];refine cI m1 ?_;simp -implicitDefEqProofs only[go_sem];refine cI m2 ?_;simp -implicitDefEqProofs only[go_sem,Int.reduceBEq];refine drw ?_;simp -implicitDefEqProofs only[go_sem];refine cI c1 ?_;simp -implicitDefEqProofs only[go_sem];refine cI c2 ?_;simp -implicitDefEqProofs only[go_sem];refine cI c3 ?_;simp -implicitDefEqProofs only[go_sem];refine cI c4 ?_;simp -implicitDefEqProofs only[go_sem];refine wc ?_;simp -implicitDefEqProofs only[go_sem]
theorem zhy (hx:DQz E 46 [boxD x] (.data (nvD a1 a2)))(hy:DQz E 46 [boxD y] (.data (nvD b1 b2)))(na1:Nt a1)(na2:Nt a2)(nb1:Nt b1)(nb2:Nt b2):DQz E 18 [intD 4,boxD x,boxD y] (.data (ansD (jK (wH (nsum a1 (nneg b2)) (nsum a2 (nneg b1))).1 (wH (nsum a1 (nneg b2)) (nsum a2 (nneg b1))).2 yi))):=by
 have m1:=wP E b2;have m2:=wP E b1;have c1:=zZ E na1.ok nb2.ok.neg (by omega);have c2:=zZ E na2.ok nb1.ok.neg (by omega);have c3:=kU E (na1.ok.sum nb2.ok.neg) (na2.ok.sum nb1.ok.neg) (by omega);generalize nneg b2=d2 at *;generalize nneg b1=d1 at *;generalize nsum a1 d2=u1 at *;generalize nsum a2 d1=u2 at *;generalize wH u1 u2=R at *;have c4:=Jc E R.1 R.2 yi;generalize jK R.1 R.2 yi=Q at *;refine dcA Tryz.func18 Tryz.ntmps18 (rs:=[.cell 6 27,.tmp 7,.tmp 8]) fun _ _ _ _ _=>?_
 simp -implicitDefEqProofs only[go_sem];refine cI hx ?_;simp -implicitDefEqProofs only[go_sem];refine cI hy ?_;simp -implicitDefEqProofs only[go_sem];refine cI m1 ?_;simp -implicitDefEqProofs only[go_sem];refine cI m2 ?_;simp -implicitDefEqProofs only[go_sem,Int.reduceBEq];refine drw ?_;simp -implicitDefEqProofs only[go_sem];refine cI c1 ?_;simp -implicitDefEqProofs only[go_sem];refine cI c2 ?_;simp -implicitDefEqProofs only[go_sem];refine cI c3 ?_;simp -implicitDefEqProofs only[go_sem];refine cI c4 ?_;simp -implicitDefEqProofs only[go_sem];refine wc ?_;simp -implicitDefEqProofs only[go_sem]
theorem zhx (hx:DQz E 46 [boxD x] (.data (nvD a1 a2)))(hy:DQz E 46 [boxD y] (.data (nvD b1 b2)))(na1:Nt a1)(na2:Nt a2)(nb1:Nt b1)(nb2:Nt b2):DQz E 18 [intD 5,boxD x,boxD y] (.data (ansD (jK (xb (nprod a1 b1) (nprod a1 b2) (nprod a2 b1) (nprod a2 b2)).1 (xb (nprod a1 b1) (nprod a1 b2) (nprod a2 b1) (nprod a2 b2)).2 kc))):=by
 have m1:=wP E b2;have m2:=wP E b1;have p1:=qM E na1.ok nb1.ok (by omega);have p2:=qM E na1.ok nb2.ok (by omega);have p3:=qM E na2.ok nb1.ok (by omega);have p4:=qM E na2.ok nb2.ok (by omega);have c3:=Vx E (na1.prod nb1) (na1.prod nb2) (na2.prod nb1) (na2.prod nb2) (by omega);generalize nprod a1 b1=u1 at *;generalize nprod a1 b2=u2 at *;generalize nprod a2 b1=u3 at *;generalize nprod a2 b2=u4 at *;generalize xb u1 u2 u3 u4=R at *;have c4:=Jc E R.1 R.2 kc;generalize jK R.1 R.2 kc=Q at *;refine dcA Tryz.func18 Tryz.ntmps18 (rs:=[.cell 6 27,.tmp 7,.tmp 8]) fun _ _ _ _ _=>?_
 simp -implicitDefEqProofs only[go_sem];refine cI hx ?_;simp -implicitDefEqProofs only[go_sem];refine cI hy ?_;simp -implicitDefEqProofs only[go_sem];refine cI m1 ?_;simp -implicitDefEqProofs only[go_sem];refine cI m2 ?_;simp -implicitDefEqProofs only[go_sem,Int.reduceBEq];refine drw ?_;simp -implicitDefEqProofs only[go_sem];refine cI p1 ?_;simp -implicitDefEqProofs only[go_sem];refine cI p2 ?_;simp -implicitDefEqProofs only[go_sem];refine cI p3 ?_;simp -implicitDefEqProofs only[go_sem];refine cI p4 ?_;simp -implicitDefEqProofs only[go_sem];refine cI c3 ?_;simp -implicitDefEqProofs only[go_sem];refine cI c4 ?_;simp -implicitDefEqProofs only[go_sem];refine wc ?_;simp -implicitDefEqProofs only[go_sem]
theorem zhw (hx:DQz E 46 [boxD x] (.data (nvD a1 a2)))(hy:DQz E 46 [boxD y] (.data (nvD b1 b2)))(na1:Nt a1)(na2:Nt a2)(nb1:Nt b1)(nb2:Nt b2)(hz:kK b1 b2=false->b1.n≠0/\b2.n≠0):DQz E 18 [intD 6,boxD x,boxD y] (.data (ansD (ovrB a1 a2 b1 b2))):=by
 have m1:=wP E b2;have m2:=wP E b1;have c3:=zag E na1 na2 nb1 nb2 hz;generalize ovrB a1 a2 b1 b2=R at *;refine dcA Tryz.func18 Tryz.ntmps18 (rs:=[.cell 6 27,.tmp 7,.tmp 8]) fun _ _ _ _ _=>?_
 simp -implicitDefEqProofs only[go_sem];refine cI hx ?_;simp -implicitDefEqProofs only[go_sem];refine cI hy ?_;simp -implicitDefEqProofs only[go_sem];refine cI m1 ?_;simp -implicitDefEqProofs only[go_sem];refine cI m2 ?_;simp -implicitDefEqProofs only[go_sem,Int.reduceBEq];refine cI c3 ?_;simp -implicitDefEqProofs only[go_sem];refine wc ?_;simp -implicitDefEqProofs only[go_sem]
theorem zhv (hx:DQz E 46 [boxD x] (.data (nvD a1 a2)))(hy:DQz E 46 [boxD y] (.data (nvD b1 b2)))(na1:Nt a1)(na2:Nt a2)(nb1:Nt b1)(nb2:Nt b2):DQz E 18 [intD 7,boxD x,boxD y] (.data (ansD (if nsign a1<0 then ((0,0),5,J6) else jK (wH (nroot a1) (nroot a2)).1 (wH (nroot a1) (nroot a2)).2 J6))):=by
 have m1:=wP E b2;have m2:=wP E b1;have c0:=WA E a1;have p1:=ZX E na1.ok (by omega);have p2:=ZX E na2.ok (by omega);have c3:=kU E na1.root na2.root (by omega);generalize nroot a1=u1 at *;generalize nroot a2=u2 at *;generalize wH u1 u2=R at *;have c4:=Jc E R.1 R.2 J6;generalize jK R.1 R.2 J6=Q at *;generalize nsign a1=g at *;by_cases h:g<0
 ·rw[if_pos h];have e0:decide (g<0)=true:=tD h;refine dcA Tryz.func18 Tryz.ntmps18 (rs:=[.cell 6 27,.tmp 7,.tmp 8]) fun σ0 w0 base df G0=>?_
  simp -implicitDefEqProofs only[go_sem];refine cI hx ?_;simp -implicitDefEqProofs only[go_sem];refine cI hy ?_;simp -implicitDefEqProofs only[go_sem];refine cI m1 ?_;simp -implicitDefEqProofs only[go_sem];refine cI m2 ?_;simp -implicitDefEqProofs only[go_sem,Int.reduceBEq];refine cI c0 ?_;simp -implicitDefEqProofs only[go_sem,e0];refine wc ?_;simp -implicitDefEqProofs only[go_sem]
 ·rw[if_neg h];have e0:decide (g<0)=false:=fD h;refine dcA Tryz.func18 Tryz.ntmps18 (rs:=[.cell 6 27,.tmp 7,.tmp 8]) fun _ _ _ _ _=>?_
  simp -implicitDefEqProofs only[go_sem];refine cI hx ?_;simp -implicitDefEqProofs only[go_sem];refine cI hy ?_;simp -implicitDefEqProofs only[go_sem];refine cI m1 ?_;simp -implicitDefEqProofs only[go_sem];refine cI m2 ?_;simp -implicitDefEqProofs only[go_sem,Int.reduceBEq];refine cI c0 ?_;simp -implicitDefEqProofs only[go_sem,e0];refine drw ?_;simp -implicitDefEqProofs only[go_sem];refine cI p1 ?_;simp -implicitDefEqProofs only[go_sem];refine cI p2 ?_;simp -implicitDefEqProofs only[go_sem];refine cI c3 ?_;simp -implicitDefEqProofs only[go_sem];refine cI c4 ?_;simp -implicitDefEqProofs only[go_sem];refine wc ?_;simp -implicitDefEqProofs only[go_sem]
theorem zhu {k:Int}(hk:k<0\/7<k)(hx:DQz E 46 [boxD x] (.data (nvD a1 a2)))(hy:DQz E 46 [boxD y] (.data (nvD b1 b2)))(na1:Nt a1)(na2:Nt a2)(nb1:Nt b1)(nb2:Nt b2):DQz E 18 [intD k,boxD x,boxD y] (.data (ansD ((wH a1 a2).1,0,noS))):=by
 have m1:=wP E b2;have m2:=wP E b1;have c3:=kU E na1.ok na2.ok (by omega);generalize wH a1 a2=R at *;have e0:(k==0)=false:=beqF (by omega);have e1:(k==1)=false:=beqF (by omega);have e2:(k==2)=false:=beqF (by omega);have e3:(k==3)=false:=beqF (by omega);have e4:(k==4)=false:=beqF (by omega);have e5:(k==5)=false:=beqF (by omega);have e6:(k==6)=false:=beqF (by omega);have e7:(k==7)=false:=beqF (by omega);refine dcA Tryz.func18 Tryz.ntmps18 (rs:=[.cell 6 27,.tmp 7,.tmp 8]) fun _ _ _ _ _=>?_
 simp -implicitDefEqProofs only[go_sem];refine cI hx ?_;simp -implicitDefEqProofs only[go_sem];refine cI hy ?_;simp -implicitDefEqProofs only[go_sem];refine cI m1 ?_;simp -implicitDefEqProofs only[go_sem];refine cI m2 ?_;simp -implicitDefEqProofs only[go_sem,Int.reduceBEq,e0,e1,e2,e3,e4,e5,e6,e7];refine cI c3 ?_;simp -implicitDefEqProofs only[go_sem];refine wc ?_;simp -implicitDefEqProofs only[go_sem]
theorem zgq (k:Int)(hx:DQz E 46 [boxD x] (.data (nvD a1 a2)))(hy:DQz E 46 [boxD y] (.data (nvD b1 b2)))(na1:Nt a1)(na2:Nt a2)(nb1:Nt b1)(nb2:Nt b2)(hz:kK b1 b2=false->b1.n≠0/\b2.n≠0):DQz E 18 [intD k,boxD x,boxD y] (.data (ansD (refB k a1 a2 b1 b2))):=by
 by_cases hk:k<0\/7<k
 ·have e:refB k a1 a2 b1 b2=((wH a1 a2).1,0,noS):=by
   unfold refB;rw[if_neg (by omega),if_neg (by omega),if_neg (by omega),if_neg (by omega),if_neg (by omega),if_neg (by omega),if_neg (by omega),if_neg (by omega)]
  rw[e];exact zhu E hk hx hy na1 na2 nb1 nb2
 ·have:k=0\/k=1\/k=2\/k=3\/k=4\/k=5\/k=6\/k=7:=by omega
  rcases this with rfl|rfl|rfl|rfl|rfl|rfl|rfl|rfl
  ·exact ziC E hx hy na1 na2 nb1 nb2
  ·exact ziB E hx hy na1 na2 nb1 nb2
  ·exact ziA E hx hy na1 na2 nb1 nb2
  ·exact zhz E hx hy na1 na2 nb1 nb2
  ·exact zhy E hx hy na1 na2 nb1 nb2
  ·exact zhx E hx hy na1 na2 nb1 nb2
  ·exact zhw E hx hy na1 na2 nb1 nb2 hz
  ·exact zhv E hx hy na1 na2 nb1 nb2
end
end Go.Enc
