/-
  The eight operations, one by one: the program's answer is the document's.
-/
import Derived.Test.YtjlibljfpkmpfaaGreatDoorSa25
set_option maxRecDepth 100000
set_option linter.unusedSimpArgs false
set_option linter.unusedVariables false
namespace Go.Enc
open Go.Proofs Go.Enc.Dg Go.Enc.Nu Go.Enc.Fl
abbrev nm (b:Nat):Nm:=(nplain b).1
theorem nval {b:Nat}(hl:b<18446744073709551616)(hp:wg b=true):val (nm b)=v (idx b):=kX hl hp
theorem v9 {b:Nat}(hl:b<18446744073709551616):wg (fneg b)=wg b:=by
 unfold wg;rw[(jt hl).2.1]
section
variable {E:Nat->Option Value} {q:Nat->Addr} {x y a b:Nat×Nat}
def Same (E:Nat->Option Value)(k:Int)(x y a b:Nat×Nat):Prop:=∃r n s,DQz E 17 [intD k,boxD x,boxD y] (.data (.tup [boxD r,intD n,strD s]))/\refB k (nm a.1) (nm a.2) (nm b.1) (nm b.2)=(r,n,s)
def Vl (E:Nat->Option Value)(F:FuncId)(k:Int)(a b:Nat×Nat):Prop:=∃r e n s,DQz E F [ivD a,ivD b] (.data (.tup [ivD r,e]))/\DQz E 32 [e] (.data (.tup [intD n,strD s]))/\refB k (nm a.1) (nm a.2) (nm b.1) (nm b.2)=(r,n,s)
theorem zkc (g:Gd a)(h1:DQz E 37 [boxD x] (.data (ivD a)))(h2:DQz E 37 [boxD y] (.data (ivD b))):Same E 0 x y a b:=by
 have f1:=jt g.l1;have f2:=jt g.l2;have d1:DnK (val (nneg (nm a.2))) (K (idx (fneg a.2))):=by
  rw[xa,nval g.l2 g.p2,<-wQ,<-f2.1];exact(kC f2.2.2.1 (by rw[v9 g.l2];exact g.p2)).1
 have d2:UpK (val (nneg (nm a.1))) (K (idx (fneg a.1))):=by
  rw[xa,nval g.l1 g.p1,<-wQ,<-f1.1];exact(kC f1.2.2.1 (by rw[v9 g.l1];exact g.p1)).2
 have hR:=jQ f2.2.2.1 f1.2.2.1 d1 d2;rw[if_pos ⟨by rw[v9 g.l2];exact g.p2,by rw[v9 g.l1];exact g.p1⟩] at hR;refine⟨(posB (fneg a.2),posB (fneg a.1)),0,_,ziQ E (e:=.v .nilIface) (n:=0) (s:=⟨#[]⟩) h1 h2 (zid E (sub0 g.l2 g.p2 g.q2) (sub0 g.l1 g.p1 g.q1)),?_⟩
 show((wH (nneg (nm a.2)) (nneg (nm a.1))).1,(0:Int),noS)=_
 rw[hR]
theorem zkU {k:Int}(hk:k<0\/7<k)(g:Gd a)(h1:DQz E 37 [boxD x] (.data (ivD a)))(h2:DQz E 37 [boxD y] (.data (ivD b))):Same E k x y a b:=by
 have hR:=jQ g.l1 g.l2 (lo:=nm a.1) (hi:=nm a.2) (by rw[nval g.l1 g.p1];exact(kC g.l1 g.p1).1) (by rw[nval g.l2 g.p2];exact(kC g.l2 g.p2).2);rw[if_pos ⟨g.p1,g.p2⟩,g.q1,g.q2] at hR;refine⟨a,0,_,ziJ E (e:=.v .nilIface) (n:=0) (s:=⟨#[]⟩) (r:=a) h1 h2 hk,?_⟩;have e:refB k (nm a.1) (nm a.2) (nm b.1) (nm b.2)=((wH (nm a.1) (nm a.2)).1,0,noS):=by
  unfold refB;rw[if_neg (by omega),if_neg (by omega),if_neg (by omega),if_neg (by omega),if_neg (by omega),if_neg (by omega),if_neg (by omega),if_neg (by omega)]
 rw[e,hR]
theorem Gd.c1 (g:Gd a):DnK (val (nm a.1)) (K (idx a.1))/\UpK (val (nm a.1)) (K (idx a.1)):=by rw[nval g.l1 g.p1];exact kC g.l1 g.p1
theorem Gd.c2 (g:Gd a):DnK (val (nm a.2)) (K (idx a.2))/\UpK (val (nm a.2)) (K (idx a.2)):=by rw[nval g.l2 g.p2];exact kC g.l2 g.p2
theorem Gd.n1 (g:Gd a):Num a.1:=(jr g.p1).num
theorem Gd.n2 (g:Gd a):Num a.2:=(jr g.p2).num
theorem zgp (g:Gd a)(g':Gd b):∃r,DQz E 39 [ivD a,ivD b] (.data (ivD r))/\refB 1 (nm a.1) (nm a.2) (nm b.1) (nm b.2)=(r,0,noS):=by
 obtain⟨z,e1,z1,z2⟩:=jh false g.n1 g'.n1;obtain⟨w,e2,w1,w2⟩:=jh true g.n2 g'.n2;simp only[Bool.false_eq_true,if_false] at z2;simp only[if_true] at w2;have zl:z<18446744073709551616/\wg z=true/\posB z=z:=by rcases z1 with rfl|rfl;exact⟨g.l1,g.p1,g.q1⟩;exact⟨g'.l1,g'.p1,g'.q1⟩
 have wl:w<18446744073709551616/\wg w=true/\posB w=w:=by rcases w1 with rfl|rfl;exact⟨g.l2,g.p2,g.q2⟩;exact⟨g'.l2,g'.p2,g'.q2⟩
 have i1:=g.le;have i2:=g'.le;have kk:∀i,i<=3->DnK (val (four (nm a.1) (nm a.2) (nm b.1) (nm b.2) i)) (K (match i with|0=>idx a.1|1=>idx a.2|2=>idx b.1|_=>idx b.2))/\UpK (val (four (nm a.1) (nm a.2) (nm b.1) (nm b.2) i)) (K (match i with|0=>idx a.1|1=>idx a.2|2=>idx b.1|_=>idx b.2)):=fun i hi=>by
  rcases Ke hi with rfl|rfl|rfl|rfl
  ·exact g.c1
  ·exact g.c2
  ·exact g'.c1
  ·exact g'.c2
 have d:DnK (val (loAt (four (nm a.1) (nm a.2) (nm b.1) (nm b.2)) 3)) (K (idx z)):=by
  refine Yv (fun i hi=>(kk i hi).1) (fun i hi=>?_) ?_
  ·rcases Ke hi with rfl|rfl|rfl|rfl
   ·exact kh (by show idx z<=idx a.1;omega)
   ·exact kh (by show idx z<=idx a.2;omega)
   ·exact kh (by show idx z<=idx b.1;omega)
   ·exact kh (by show idx z<=idx b.2;omega)
  ·rcases z1 with rfl|rfl
   ·exact⟨0,by omega,rfl⟩
   ·exact⟨2,by omega,rfl⟩
 have u:UpK (val (hiAt (four (nm a.1) (nm a.2) (nm b.1) (nm b.2)) 3)) (K (idx w)):=by
  refine YF (fun i hi=>(kk i hi).2) (fun i hi=>?_) ?_
  ·rcases Ke hi with rfl|rfl|rfl|rfl
   ·exact kh (by show idx a.1<=idx w;omega)
   ·exact kh (by show idx a.2<=idx w;omega)
   ·exact kh (by show idx b.1<=idx w;omega)
   ·exact kh (by show idx b.2<=idx w;omega)
  ·rcases w1 with rfl|rfl
   ·exact⟨1,by omega,rfl⟩
   ·exact⟨3,by omega,rfl⟩
 have hR:=jQ zl.1 wl.1 d u;rw[if_pos ⟨zl.2.1,wl.2.1⟩,zl.2.2,wl.2.2] at hR;refine⟨(z,w),zfm E (r:=(z,w)) e1 e2,?_⟩
 show((xb (nm a.1) (nm a.2) (nm b.1) (nm b.2)).1,(0:Int),noS)=_
 unfold xb;rw[hR]
theorem zkb (g:Gd a)(g':Gd b)(h1:DQz E 37 [boxD x] (.data (ivD a)))(h2:DQz E 37 [boxD y] (.data (ivD b))):Same E 1 x y a b:=by
 obtain⟨r,h,e⟩:=zgp (E:=E) g g';exact⟨r,0,_,ziP E (e:=.v .nilIface) (n:=0) (s:=⟨#[]⟩) h1 h2 h,e⟩
theorem zbg (hq:Sent E q)(g:Gd a)(g':Gd b):Vl E 40 2 a b:=by
 obtain⟨z,e1,z1,z2⟩:=jh true g.n1 g'.n1;obtain⟨w,e2,w1,w2⟩:=jh false g.n2 g'.n2;simp only[if_true] at z2;simp only[Bool.false_eq_true,if_false] at w2;have zl:z<18446744073709551616/\wg z=true/\posB z=z:=by rcases z1 with rfl|rfl;exact⟨g.l1,g.p1,g.q1⟩;exact⟨g'.l1,g'.p1,g'.q1⟩
 have wl:w<18446744073709551616/\wg w=true/\posB w=w:=by rcases w1 with rfl|rfl;exact⟨g.l2,g.p2,g.q2⟩;exact⟨g'.l2,g'.p2,g'.q2⟩
 obtain⟨lo,hlo⟩:∃lo,(if nless (nm a.1) (nm b.1)=true then nm b.1 else nm a.1)=lo:=⟨_,rfl⟩;obtain⟨hi,hhi⟩:∃hi,(if nless (nm b.2) (nm a.2)=true then nm b.2 else nm a.2)=hi:=⟨_,rfl⟩;have vlo:val lo=v (idx z):=by
  rw[<-hlo,jP,nval g.l1 g.p1,nval g'.l1 g'.p1];by_cases h:idx a.1<idx b.1
  ·rw[if_pos (decide_eq_true (v_lt h)),nval g'.l1 g'.p1,z2,Int.max_eq_right (by omega)]
  ·rw[if_neg (fun k=>h (jf.1 (of_decide_eq_true k))),nval g.l1 g.p1,z2,Int.max_eq_left (by omega)]
 have vhi:val hi=v (idx w):=by
  rw[<-hhi,jP,nval g.l2 g.p2,nval g'.l2 g'.p2];by_cases h:idx b.2<idx a.2
  ·rw[if_pos (decide_eq_true (v_lt h)),nval g'.l2 g'.p2,w2,Int.min_eq_right (by omega)]
  ·rw[if_neg (fun k=>h (jf.1 (of_decide_eq_true k))),nval g.l2 g.p2,w2,Int.min_eq_left (by omega)]
 have hM:vD (nm a.1) (nm a.2) (nm b.1) (nm b.2)=if nless hi lo=true then ((0,0),6) else ((wH lo hi).1,0):=by
  unfold vD;simp only;rw[hlo,hhi]
 have hn:nless hi lo=decide (idx w<idx z):=by rw[jP,vlo,vhi,decide_eq_decide];exact jf
 rw[hn] at hM;have n1:Num z:=(jr zl.2.1).num;have n2:Num w:=(jr wl.2.1).num;have hi3:=zfl hq (r:=(z,w)) e1 e2 n1 n2;have hres:refB 2 (nm a.1) (nm a.2) (nm b.1) (nm b.2)=((vD (nm a.1) (nm a.2) (nm b.1) (nm b.2)).1,(vD (nm a.1) (nm a.2) (nm b.1) (nm b.2)).2,noS):=rfl;by_cases h:idx w<idx z
 ·rw[if_pos h] at hi3;rw[if_pos (decide_eq_true h)] at hM;refine⟨(0,0),_,6,_,hi3,qp hq (i:=5) (by decide),?_⟩;rw[hres,hM]
 ·rw[if_neg h] at hi3;rw[if_neg (by simpa using h)] at hM;have hR:=jQ zl.1 wl.1 (lo:=lo) (hi:=hi) (by rw[vlo];exact(kC zl.1 zl.2.1).1) (by rw[vhi];exact(kC wl.1 wl.2.1).2);rw[if_pos ⟨zl.2.1,wl.2.1⟩,zl.2.2,wl.2.2] at hR;refine⟨(z,w),_,0,_,hi3,jE E,?_⟩;rw[hres,hM,hR]
theorem Gd.o1 (g:Gd a):OkB a.1:=kQ g.p1 g.l1
theorem Gd.o2 (g:Gd a):OkB a.2:=kQ g.p2 g.l2
theorem Hb (hq:Sent E q)(s:ByteArray){a1 b1 a2 b2:Nat}(o1:OkB a1)(o2:OkB b1)(o3:OkB a2)(o4:OkB b2){lo hi:Nm}(vl:val lo=v (idx a1)+v (idx b1))(vh:val hi=v (idx a2)+v (idx b2)) :
  ∃l h r n t e,DQz E 86 [flD a1,flD b1,intD (-1)] (.data (flD l))/\DQz E 86 [flD a2,flD b2,intD 1] (.data (flD h))/\DQz E 85 [strD s,flD l,flD h] (.data (.tup [ivD r,e])) /\
   DQz E 32 [e] (.data (.tup [intD n,strD t]))/\jK (wH lo hi).1 (wH lo hi).2 s=(r,n,t):=by
 obtain⟨l,_,l1,_,ll,_,ld,_⟩:=Vk E o1 o2;obtain⟨_,h,_,h2,_,lh,_,hu⟩:=Vk E o3 o4;have m1:=(((mu_v (idx a1)).add (mu_v (idx b1))).class).1;have m2:=(((mu_v (idx a2)).add (mu_v (idx b2))).class).2;have hR:=jQ ll lh (lo:=lo) (hi:=hi) (by rw[vl];exact zu ld m1) (by rw[vh];exact Wt hu m2);obtain⟨r,n,t,e,k1,k2,k3⟩:=zr hq s ll lh hR;have he:=QX hq s ll lh;rw[k1] at he;exact⟨l,h,r,n,t,e,l1,h2,he,k2,k3⟩
theorem zbf (hq:Sent E q)(g:Gd a)(g':Gd b):Vl E 41 3 a b:=by
 obtain⟨l,h,r,n,t,e,k1,k2,k3,k4,k5⟩:=Hb hq J9 g.o1 g'.o1 g.o2 g'.o2 (lo:=nsum (nm a.1) (nm b.1)) (hi:=nsum (nm a.2) (nm b.2)) (by rw[kj,nval g.l1 g.p1,nval g'.l1 g'.p1]) (by rw[kj,nval g.l2 g.p2,nval g'.l2 g'.p2]);exact⟨r,e,n,t,zdB E k1 k2 k3,k4,k5⟩
theorem zbe (hq:Sent E q)(g:Gd a)(g':Gd b):Vl E 42 4 a b:=by
 obtain⟨p1,p2⟩:=UV g'.o2;obtain⟨p3,p4⟩:=UV g'.o1;obtain⟨l,h,r,n,t,e,k1,k2,k3,k4,k5⟩:=Hb hq yi g.o1 p1 g.o2 p3 (lo:=nsum (nm a.1) (nneg (nm b.2))) (hi:=nsum (nm a.2) (nneg (nm b.1))) (by rw[kj,xa,nval g.l1 g.p1,nval g'.l2 g'.p2,p2]) (by rw[kj,xa,nval g.l2 g.p2,nval g'.l1 g'.p1,p4]);exact⟨r,e,n,t,HR E k1 k2 k3,k4,k5⟩
theorem zbd (hq:Sent E q)(g:Gd a)(g':Gd b):Vl E 43 5 a b:=by
 have hc:∀n,n<4->∃l h,Corner E 88 kc (two a.1 a.2 (n/2)) (two b.1 b.2 (n % 2)) l h/\DnK (val (four (nprod (nm a.1) (nm b.1)) (nprod (nm a.1) (nm b.2)) (nprod (nm a.2) (nm b.1)) (nprod (nm a.2) (nm b.2)) n)) (K (idx l)) /\
   UpK (val (four (nprod (nm a.1) (nm b.1)) (nprod (nm a.1) (nm b.2)) (nprod (nm a.2) (nm b.1)) (nprod (nm a.2) (nm b.2)) n)) (K (idx h)):=fun n hn=>by
  rcases Ke (show n<=3 by omega) with rfl|rfl|rfl|rfl
  ·show ∃l h,Corner E _ kc a.1 b.1 l h/\DnK (val (nprod (nm a.1) (nm b.1))) _/\UpK (val (nprod (nm a.1) (nm b.1))) _
   rw[k8,nval g.l1 g.p1,nval g'.l1 g'.p1];exact yX E g.o1 g'.o1
  ·show ∃l h,Corner E _ kc a.1 b.2 l h/\DnK (val (nprod (nm a.1) (nm b.2))) _/\UpK (val (nprod (nm a.1) (nm b.2))) _
   rw[k8,nval g.l1 g.p1,nval g'.l2 g'.p2];exact yX E g.o1 g'.o2
  ·show ∃l h,Corner E _ kc a.2 b.1 l h/\DnK (val (nprod (nm a.2) (nm b.1))) _/\UpK (val (nprod (nm a.2) (nm b.1))) _
   rw[k8,nval g.l2 g.p2,nval g'.l1 g'.p1];exact yX E g.o2 g'.o1
  ·show ∃l h,Corner E _ kc a.2 b.2 l h/\DnK (val (nprod (nm a.2) (nm b.2))) _/\UpK (val (nprod (nm a.2) (nm b.2))) _
   rw[k8,nval g.l2 g.p2,nval g'.l2 g'.p2];exact yX E g.o2 g'.o2
 obtain⟨l,h,c1,ll,lh,d,u⟩:=vx hq (by decide) kc hc;obtain⟨r,n,t,e,k1,k2,k3⟩:=zr hq kc ll lh (jQ ll lh d u);rw[k1] at c1;exact⟨r,e,n,t,HW E c1,k2,k3⟩
theorem VA {b:Nat}(hl:b<18446744073709551616)(hp:wg b=true):(nsign (nm b)<0↔idx b<0)/\(nsign (nm b)=0↔idx b=0)/\(0<nsign (nm b)↔0<idx b):=by
 obtain⟨s1,s2,s3⟩:=vy (nm b);rw[nval hl hp] at s1 s2 s3;have z:=wC;refine⟨s1.trans ?_,s2.trans ?_,s3.trans ?_⟩
 ·rw[<-z];exact jf
 ·rw[<-z];exact⟨fun h=>Wh h,fun h=>by rw[h]⟩
 ·rw[<-z];exact jf
theorem WG {b:Nat}(hl:b<18446744073709551616)(hp:wg b=true)(h:idx b≠0):(nm b).n≠0:=fun e=>by
 have:=jm e;rw[nval hl hp,<-wC] at this;exact h (Wh this)
theorem zj (g:Gd b):kK (nm b.1) (nm b.2)=(decide (idx b.1<=0)&&decide (0<=idx b.2)):=by
 obtain⟨s1,s2,s3⟩:=VA g.l1 g.p1;obtain⟨t1,t2,t3⟩:=VA g.l2 g.p2;unfold kK;congr 1
 ·rw[decide_eq_decide];omega
 ·rw[decide_eq_decide];omega
theorem zbc (hq:Sent E q)(g:Gd a)(g':Gd b):Vl E 44 6 a b:=by
 have hh:=yp E (x:=0) g'.n1 g'.n2 num0.1;rw[num0.2] at hh;have h0:=zj g';rw[<-h0] at hh;have hle:=g'.le;cases hz:kK (nm b.1) (nm b.2)
 ·rw[hz] at hh h0;have hb:idx b.1≠0/\idx b.2≠0:=by
   have:¬(idx b.1<=0/\0<=idx b.2):=fun k=>by rw[decide_eq_true k.1,decide_eq_true k.2] at h0;cases h0
   omega
  have z1:=WG g'.l1 g'.p1 hb.1;have z2:=WG g'.l2 g'.p2 hb.2;have hc:∀n,n<4->∃l h,Corner E 90 xc (two a.1 a.2 (n/2)) (two b.1 b.2 (n % 2)) l h/\DnK (val (four (nquot (nm a.1) (nm b.1)) (nquot (nm a.1) (nm b.2)) (nquot (nm a.2) (nm b.1)) (nquot (nm a.2) (nm b.2)) n)) (K (idx l)) /\
    UpK (val (four (nquot (nm a.1) (nm b.1)) (nquot (nm a.1) (nm b.2)) (nquot (nm a.2) (nm b.1)) (nquot (nm a.2) (nm b.2)) n)) (K (idx h)):=fun n hn=>by
   have key:∀ {a1 b1:Nat},OkB a1->OkB b1->wg a1=true->wg b1=true->idx b1≠0->(nm b1).n≠0->∃l h,Corner E 90 xc a1 b1 l h/\DnK (val (nquot (nm a1) (nm b1))) (K (idx l))/\UpK (val (nquot (nm a1) (nm b1))) (K (idx h)):=fun {a1 b1} o1 o2 p1 p2 z zn=>by
    obtain⟨l,h,c,d,u⟩:=Rq E o1 o2 z;have s:=zfC (nm a1) (nm b1) zn;rw[nval o1.1 p1,nval o2.1 p2] at s;exact⟨l,h,c,(s.dnk _).2 d,(s.upk _).2 u⟩
   rcases Ke (show n<=3 by omega) with rfl|rfl|rfl|rfl
   ·exact key g.o1 g'.o1 g.p1 g'.p1 hb.1 z1
   ·exact key g.o1 g'.o2 g.p1 g'.p2 hb.2 z2
   ·exact key g.o2 g'.o1 g.p2 g'.p1 hb.1 z1
   ·exact key g.o2 g'.o2 g.p2 g'.p2 hb.2 z2
  obtain⟨l,h,c1,ll,lh,d,u⟩:=vx hq (by decide) xc hc;obtain⟨r,n,t,e,k1,k2,k3⟩:=zr hq xc ll lh (jQ ll lh d u);rw[k1] at c1;refine⟨r,e,n,t,zcy E hh c1,k2,?_⟩
  show ovrB (nm a.1) (nm a.2) (nm b.1) (nm b.2)=_
  unfold ovrB;rw[hz,if_neg (by decide)];exact k3
 ·rw[hz] at hh;refine⟨(0,0),_,4,xc,zcx hq hh,Jn hq (i:=3) (by decide) xc,?_⟩
  show ovrB (nm a.1) (nm a.2) (nm b.1) (nm b.2)=_
  unfold ovrB;rw[hz,if_pos rfl]
theorem zka (hq:Sent E q)(g:Gd a)(g':Gd b)(h1:DQz E 37 [boxD x] (.data (ivD a)))(h2:DQz E 37 [boxD y] (.data (ivD b))):Same E 2 x y a b:=by
 obtain⟨r,e,n,s,i1,i2,i3⟩:=zbg (E:=E) hq g g';exact⟨r,n,s,ziO E h1 h2 i1 i2,i3⟩
theorem zkZ (hq:Sent E q)(g:Gd a)(g':Gd b)(h1:DQz E 37 [boxD x] (.data (ivD a)))(h2:DQz E 37 [boxD y] (.data (ivD b))):Same E 3 x y a b:=by
 obtain⟨r,e,n,s,i1,i2,i3⟩:=zbf (E:=E) hq g g';exact⟨r,n,s,ziN E h1 h2 i1 i2,i3⟩
theorem zkY (hq:Sent E q)(g:Gd a)(g':Gd b)(h1:DQz E 37 [boxD x] (.data (ivD a)))(h2:DQz E 37 [boxD y] (.data (ivD b))):Same E 4 x y a b:=by
 obtain⟨r,e,n,s,i1,i2,i3⟩:=zbe (E:=E) hq g g';exact⟨r,n,s,ziM E h1 h2 i1 i2,i3⟩
theorem zkX (hq:Sent E q)(g:Gd a)(g':Gd b)(h1:DQz E 37 [boxD x] (.data (ivD a)))(h2:DQz E 37 [boxD y] (.data (ivD b))):Same E 5 x y a b:=by
 obtain⟨r,e,n,s,i1,i2,i3⟩:=zbd (E:=E) hq g g';exact⟨r,n,s,ziL E h1 h2 i1 i2,i3⟩
theorem zkW (hq:Sent E q)(g:Gd a)(g':Gd b)(h1:DQz E 37 [boxD x] (.data (ivD a)))(h2:DQz E 37 [boxD y] (.data (ivD b))):Same E 6 x y a b:=by
 obtain⟨r,e,n,s,i1,i2,i3⟩:=zbc (E:=E) hq g g';exact⟨r,n,s,ziK E h1 h2 i1 i2,i3⟩
theorem zks {b:Nat}(hl:b<18446744073709551616)(hp:wg b=true)(h:0<=idx b):(nm b).neg=false:=by
 by_cases h0:idx b=0
 ·by_cases hz:(nplain b).1=nzero
  ·show(nplain b).1.neg=false
   rw[hz];rfl
  ·exfalso;obtain⟨p1,p2,p3,p4,p5⟩:=qf hz;have:=xf.1 h0;omega
 ·cases hn:(nm b).neg
  ·rfl
  ·exfalso;have hv:=nval hl hp;have hz:=WG hl hp h0;have hpos:=vb hz;unfold val at hv;rw[hn,if_pos rfl,Rat.neg_mul] at hv;have:=v_le h;rw[wC] at this;grind
theorem K7 (E:Nat->Option Value){a:Nat}(hl:a<18446744073709551616)(hp:wg a=true)(h0:0<=idx a) :
  ∃l h,DQz E 91 [flD a,intD (-1)] (.data (flD l))/\DQz E 91 [flD a,intD 1] (.data (flD h))/\l<18446744073709551616/\h<18446744073709551616 /\
   DnK (val (nroot (nm a))) (K (idx l))/\UpK (val (nroot (nm a))) (K (idx h)):=by
 have ob:=kQ hp hl;have hok:=ob.2;have hlt:=KB;have hbig:idx a=0\/p901<=idx a:=by unfold ok at hok;omega
 obtain⟨s,es,_⟩:=Xw ob.fin h0;obtain⟨N,r,er,r1,r2⟩:=Hm ob.fin h0 hbig es;obtain⟨r',er',Nr⟩:=yt (yr N.lt N.fin) N.fin ob.fin;rw[er] at er';cases er';have nr:Num r:=Nr.num;have hN:NearRt (val (nm a)) s:=by rw[nval hl hp];exact N
 obtain⟨k1,k2,k3,k4,k5⟩:=R3 (zks hl hp h0) hN;rw[nval hl hp] at k3 k4;have d:=zbY N.lt N.fin ⟨k1,k2⟩ (r1.trans k3.symm);have u:=zbX N.lt N.fin ⟨k1,k2⟩ (r2.trans k4.symm);refine⟨_,_,Uq E es er (vX E N.lt N.fin nr),Uq E es er (vW E N.lt N.fin nr),d.2,u.2,zu d.1 ?_,Wt u.1 ?_⟩
 ·rcases k5 with k5|k5
  ·exact .inl k5
  ·right;left;have ha:idx a≠0:=fun e=>by
    have h1:=N.zero (by rw[e,wC]);rw[h1,wC,e] at k4;rw[wC] at k4;have:=k4.1 k5;grind
   have hp0:p0<=idx a:=by unfold ok at hok;omega
   have hs:2<=idx s:=by
    rcases Int.lt_or_le (idx s) 2 with g|g
    ·exfalso;have e1:=v_le (show idx s+1<=p0 by omega);have e2:=v_le (show 0<=idx s+1 by have:=N.nn;omega);have e3:=v_le hp0;have e4:=N.hi;have e5:v p0<=1:=by
      rw[<-WU];exact v_le (by unfold p0 pw;omega)
     rw[wC] at e2;have e6:=K8 e2 e1;have e7:v p0*v p0<=v p0*1:=Rat.mul_le_mul_of_nonneg_left e5 (Rat.le_trans e2 e1);grind
    ·exact g
   exact Rat.le_trans (v_le (show 1<=idx s-1 by omega)) (Rat.le_of_lt k1)
 ·rcases k5 with k5|k5
  ·exact .inl k5
  ·exact .inr (.inl k5)
theorem zkV (hq:Sent E q)(g:Gd a)(h1:DQz E 37 [boxD x] (.data (ivD a)))(h2:DQz E 37 [boxD y] (.data (ivD b))):Same E 7 x y a b:=by
 obtain⟨s1,_,_⟩:=VA g.l1 g.p1;have hres:refB 7 (nm a.1) (nm a.2) (nm b.1) (nm b.2)=if nsign (nm a.1)<0 then ((0,0),5,J6) else jK (wH (nroot (nm a.1)) (nroot (nm a.2))).1 (wH (nroot (nm a.1)) (nroot (nm a.2))).2 J6:=rfl
 by_cases h:idx a.1<0
 ·rw[if_pos (s1.2 h)] at hres;exact⟨(0,0),5,XD,zcE E h1 h2 (zfi hq g.n1 h) (Jn hq (i:=4) (by decide) XD),hres⟩
 ·rw[if_neg (fun k=>h (s1.1 k))] at hres;have hle:=g.le;obtain⟨l,_,c1,_,ll,_,d,_⟩:=K7 E g.l1 g.p1 (by omega);obtain⟨_,hh,_,c2,_,lh,_,u⟩:=K7 E g.l2 g.p2 (by omega);obtain⟨r,n,t,e,k1,k2,k3⟩:=zr hq XD ll lh (jQ ll lh d u);have he:=QX hq XD ll lh;rw[k1] at he;exact⟨r,n,t,zcE E h1 h2 (zfj E g.n1 h c1 c2 he) k2,by rw[hres];exact k3⟩
theorem zfN (hq:Sent E q)(k:Int)(x1:x.1<18446744073709551616)(x2:x.2<18446744073709551616)(y1:y.1<18446744073709551616)(y2:y.2<18446744073709551616) :
  ∃r n s,DQz E 17 [intD k,boxD x,boxD y] (.data (.tup [boxD r,intD n,strD s]))/\DQz E 18 [intD k,boxD x,boxD y] (.data (.tup [boxD r,intD n,strD s])):=by
 have g:=jO x1 x2;have g':=jO y1 y2;have h1:=qY hq x1 x2;have h2:=qY hq y1 y2;have hs:Same E k x y (mk2 x) (mk2 y):=by
  by_cases hk:k<0\/7<k
  ·exact zkU hk g h1 h2
  ·have:k=0\/k=1\/k=2\/k=3\/k=4\/k=5\/k=6\/k=7:=by omega
   rcases this with rfl|rfl|rfl|rfl|rfl|rfl|rfl|rfl
   ·exact zkc g h1 h2
   ·exact zkb g g' h1 h2
   ·exact zka hq g g' h1 h2
   ·exact zkZ hq g g' h1 h2
   ·exact zkY hq g g' h1 h2
   ·exact zkX hq g g' h1 h2
   ·exact zkW hq g g' h1 h2
   ·exact zkV hq g h1 h2
 obtain⟨r,n,s,p,e⟩:=hs;have hz:kK (nm (mk2 y).1) (nm (mk2 y).2)=false->(nm (mk2 y).1).n≠0/\(nm (mk2 y).2).n≠0:=fun hz=>by
  have h0:=zj g';rw[hz] at h0;have hle:=g'.le;have:¬(idx (mk2 y).1<=0/\0<=idx (mk2 y).2):=fun k=>by rw[decide_eq_true k.1,decide_eq_true k.2] at h0;cases h0
  exact⟨WG g'.l1 g'.p1 (by omega),WG g'.l2 g'.p2 (by omega)⟩
 have R:=zgq E k (WJ E x1 x2 g.l1 g.l2) (WJ E y1 y2 g'.l1 g'.l2) (qg _) (qg _) (qg _) (qg _) hz;rw[e] at R;exact⟨r,n,s,p,R⟩
theorem zcF (hq:Sent E q){o:OpD}(hw:o.Wf)(hk:o.kind=2):DQz E 12 [opD o] (.data (bD true)):=by
 obtain⟨r,n,s,h1,h2⟩:=zfN (x:=(o.xl,o.xh)) (y:=(o.yl,o.yh)) hq o.a hw.xl hw.xh hw.yl hw.yh;refine dcA Tryz.func12 Tryz.ntmps12 (rs:=[.tmp 2]) fun _ _ _ _ _=>?_
 have e0:=tB (beqT (show n=n from rfl));have e1:=tV (show(s.toList==s.toList)=true from beq_self_eq_true _);simp -implicitDefEqProofs only[go_sem,OpD.cells,iD,uD,hk,Int.reduceBEq];refine drw ?_;simp -implicitDefEqProofs only[go_sem,OpD.cells,iD,uD];refine cI (ym _ (o.xl,o.xh)) ?_;simp -implicitDefEqProofs only[go_sem];refine cI (ym _ (o.yl,o.yh)) ?_;simp -implicitDefEqProofs only[go_sem];refine cI h1 ?_;simp -implicitDefEqProofs only[go_sem];refine cI h2 ?_;simp -implicitDefEqProofs only[go_sem];refine cI (WB _ _) ?_;simp -implicitDefEqProofs only[go_sem,e0,e1,beq_self_eq_true,finK]
end
end Go.Enc
