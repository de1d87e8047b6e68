/-
  The document's quotients and roots, worked out to more digits than a float has: they lie in the classes of the true ones.
-/
import Derived.Test.YtjlibljfpkmpfaaGreatDoorSa16
import Derived.Test.YtjlibljfpkmpfaaGreatDoorSa18
set_option maxRecDepth 100000
set_option linter.unusedSimpArgs false
set_option linter.unusedVariables false
section
namespace Go.Enc.Nu
open Go.Enc.Fl
structure Sd (X Y:Rat):Prop where
 le:∀i:Int,v i<=X↔v i<=Y
 ge:∀i:Int,X<=v i↔Y<=v i
theorem Sd.refl (X:Rat):Sd X X:=⟨fun _=>Iff.rfl,fun _=>Iff.rfl⟩
theorem Sd.neg {X Y:Rat}(h:Sd X Y):Sd (-X) (-Y):=by
 refine⟨fun i=>?_,fun i=>?_⟩
 ·have:=h.ge (-i);rw[wQ] at this;constructor<;>intro g
  ·have:=this.1 (by grind);grind
  ·have:=this.2 (by grind);grind
 ·have:=h.le (-i);rw[wQ] at this;constructor<;>intro g
  ·have:=this.1 (by grind);grind
  ·have:=this.2 (by grind);grind
theorem Sd.lt {X Y:Rat}(h:Sd X Y)(i:Int):X<v i↔Y<v i:=by
 have:=h.le i;rw[<-Rat.not_le,<-Rat.not_le,this]
theorem Sd.gt {X Y:Rat}(h:Sd X Y)(i:Int):v i<X↔v i<Y:=by
 have:=h.ge i;rw[<-Rat.not_le,<-Rat.not_le,this]
theorem Sd.dnk {X Y:Rat}(h:Sd X Y)(k:Int):DnK X k↔DnK Y k:=by
 have h0:(0<X)=(0<Y):=by have:=h.gt 0;rw[wC] at this;exact propext this
 have h1:(X<0)=(Y<0):=by have:=h.lt 0;rw[wC] at this;exact propext this
 have h2:(X=0)=(Y=0):=by
  have a:=h.lt 0;have b:=h.gt 0;rw[wC] at a b;apply propext;constructor<;>intro g
  ·have:=(not_congr a).1 (by grind);have:=(not_congr b).1 (by grind);grind
  ·have:=(not_congr a).2 (by grind);have:=(not_congr b).2 (by grind);grind
 have hl:∀i,(X<v i)=(Y<v i):=fun i=>propext (h.lt i)
 have hg:∀i,(v i<=X)=(v i<=Y):=fun i=>propext (h.le i)
 unfold DnK Dn;simp only[h0,h1,h2,hl,hg]
theorem Sd.upk {X Y:Rat}(h:Sd X Y)(k:Int):UpK X k↔UpK Y k:=h.neg.dnk (-k)
theorem zgN {Q:Nat}{e:Int}{x y:Rat}(h:Cell Q e x y)(hx:0<x)(hy:0<y):Sd y x:=by
 have hneg:∀i:Int,i<0->v i<0:=fun i hi=>by have:=v_lt hi;rwa [wC] at this
 refine⟨fun i=>?_,fun i=>?_⟩
 ·rcases Int.lt_or_le i 0 with hi|hi
  ·have:=hneg i hi;constructor<;>intro _<;>grind
  ·obtain⟨r,rfl⟩:=Int.eq_ofNat_of_zero_le hi;exact(h.cmp (JO r e)).1
 ·rcases Int.lt_or_le i 0 with hi|hi
  ·have:=hneg i hi;constructor<;>intro _<;>grind
  ·obtain⟨r,rfl⟩:=Int.eq_ofNat_of_zero_le hi;exact(h.cmp (JO r e)).2
def nmark (neg:Bool)(q:Nat)(e:Int)(whole:Bool):Nm:=⟨neg&&decide (0<2*q+(!whole).toNat),2*q+(!whole).toNat,e-1⟩
def nquot (a b:Nm):Nm:=nmark (a.neg != b.neg) (a.n*2^(60+nbits b.n)/b.n) (a.e-((60+nbits b.n:Nat):Int)-b.e) (decide (a.n*2^(60+nbits b.n) % b.n=0))
def mag (a:Nm):Rat:=(a.n:Rat)*2^a.e
theorem Kt (a:Nm):val a=if a.neg then -mag a else mag a:=by
 unfold val mag;cases a.neg
 ·rfl
 ·rw[if_pos rfl,if_pos rfl,Rat.neg_mul]
theorem R6 {a b:Nm}(ha:a.n≠0)(hb:b.n≠0):Sd (mag (nquot a b)) (mag a/mag b):=by
 obtain⟨s1,s2,s3⟩:=kt hb;obtain⟨k,hk⟩:∃k,60+nbits b.n=k:=⟨_,rfl⟩;have hbig:2^53<=a.n*2^k/b.n:=by
  refine(Nat.le_div_iff_mul_le (Nat.pos_of_ne_zero hb)).2 ?_;have h1:2^k=2^60*2^nbits b.n:=by rw[<-hk,Nat.pow_add]
  have h2:2^53*b.n<=2^60*2^nbits b.n:=Nat.mul_le_mul (by decide) (Nat.le_of_lt s2);have h3:1*2^k<=a.n*2^k:=Nat.mul_le_mul_right _ (Nat.pos_of_ne_zero ha);omega
 have hc:=Y7 (n:=b.n) (D:=a.n*2^k) (Nat.pos_of_ne_zero hb) (a.e-(k:Int)-b.e) hbig;have hA:0<mag a:=vb ha;have hB:0<mag b:=vb hb;have e1:(((a.n*2^k:Nat):Rat)/(b.n:Rat))*2^(a.e-(k:Int)-b.e)=mag a/mag b:=by
  unfold mag;have p1:=wB b.e;have p2:(2:Rat)^(a.e-(k:Int)-b.e)*2^b.e*2^(k:Int)=2^a.e:=by
   rw[<-wA,<-wA];congr 1;omega
  have p3:((a.n*2^k:Nat):Rat)=(a.n:Rat)*2^(k:Int):=by rw[Rat.natCast_mul,wX]
  have p4:(b.n:Rat)≠0:=by
   have:(0:Rat)<(b.n:Rat):=by exact_mod_cast Nat.pos_of_ne_zero hb
   grind
  rw[p3,<-p2];have p5:(2:Rat)^b.e≠0:=by grind
  grind
 have e2:mag (nquot a b)=(((2*(a.n*2^k/b.n)+(a.n*2^k % b.n != 0).toNat:Nat):Rat))*2^(a.e-(k:Int)-b.e-1):=by
  unfold nquot nmark mag;rw[hk];have:(!decide (a.n*2^k % b.n=0))=(a.n*2^k % b.n != 0):=by
   by_cases h:a.n*2^k % b.n=0<;>simp[h]
  rw[this]
 rw[e1,<-e2] at hc;refine zgN hc (by rw[Rat.div_def];exact Rat.mul_pos hA (Rat.inv_pos.2 hB)) ?_;rw[e2];refine Rat.mul_pos ?_ (wB _);have:0<2*(a.n*2^k/b.n)+(a.n*2^k % b.n != 0).toNat:=by
  have:0<2^53:=by decide
  omega
 exact_mod_cast this
theorem zfC (a b:Nm)(hb:b.n≠0):Sd (val (nquot a b)) (val a/val b):=by
 by_cases ha:a.n=0
 ·have h1:(nquot a b).n=0:=by unfold nquot nmark;rw[ha];simp
  rw[jm h1,jm ha];have:(0:Rat)/val b=0:=by rw[Rat.div_def,Rat.zero_mul]
  rw[this];exact Sd.refl 0
 have h:=R6 ha hb;have hB:0<mag b:=vb hb;have hpos:0<2*(a.n*2^(60+nbits b.n)/b.n)+(!decide (a.n*2^(60+nbits b.n) % b.n=0)).toNat:=by
  rcases Nat.eq_zero_or_pos (2*(a.n*2^(60+nbits b.n)/b.n)+(!decide (a.n*2^(60+nbits b.n) % b.n=0)).toNat) with h0|h0
  ·exfalso;have:mag (nquot a b)=0:=by
    unfold mag nquot nmark;simp only[h0];have:((0:Nat):Rat)=0:=rfl;rw[this,Rat.zero_mul]
   have h2:=h.gt 0;rw[wC,this] at h2;have hA:0<mag a:=vb ha;have:0<mag a/mag b:=by rw[Rat.div_def];exact Rat.mul_pos hA (Rat.inv_pos.2 hB)
   have:=h2.2 this;grind
  ·exact h0
 have hneg:(nquot a b).neg=(a.neg != b.neg):=by
  unfold nquot nmark;simp only[hpos,decide_true,Bool.and_true]
 rw[Kt,Kt a,Kt b,hneg];have hB':mag b≠0:=by grind
 cases a.neg<;>cases b.neg
 ·exact h
 ·have:mag a / -mag b = -(mag a/mag b):=by grind
  simp only[Bool.false_bne,if_true,this,Bool.false_eq_true,if_false];exact h.neg
 ·have : -mag a/mag b = -(mag a/mag b):=by grind
  simp only[Bool.true_bne,Bool.not_false,if_true,this,Bool.false_eq_true,if_false];exact h.neg
 ·have : -mag a / -mag b=mag a/mag b:=by grind
  simp only[Bool.true_bne,Bool.not_true,if_true,this,Bool.false_eq_true,if_false];exact h
def isq (n:Nat):Nat:=Ieee.Datum.rootFrom n (n.log2/2+1) 0
theorem vI (n:Nat):isq n*isq n<=n/\n<(isq n+1)*(isq n+1):=QG n
theorem zcm {n x:Nat}(h1:x*x<=n)(h2:n<(x+1)*(x+1)):x=isq n:=by
 obtain⟨a,b⟩:=vI n;rcases Nat.lt_trichotomy x (isq n) with h|h|h
 ·have:=Nat.mul_le_mul (show x+1<=isq n from h) (show x+1<=isq n from h);omega
 ·exact h
 ·have:=Nat.mul_le_mul (show isq n+1<=x from h) (show isq n+1<=x from h);omega
def rootk (e:Int):Nat:=if (e-130) % 2=0 then 130 else 131
def nroot (a:Nm):Nm:=nmark false (isq (a.n*2^rootk a.e)) ((a.e-(rootk a.e:Int))/2) (decide (isq (a.n*2^rootk a.e)*isq (a.n*2^rootk a.e)=a.n*2^rootk a.e))
theorem Hr (e:Int):(e-(rootk e:Int))/2+(e-(rootk e:Int))/2=e-(rootk e:Int)/\130<=rootk e:=by
 unfold rootk;split<;>constructor<;>omega
theorem R4 {a:Nm}(ha:a.n≠0):∃Q n e,RCell Q n e (mag a) (val (nroot a)):=by
 obtain⟨h1,h2⟩:=Hr a.e;obtain⟨k,hk⟩:∃k,rootk a.e=k:=⟨_,rfl⟩;obtain⟨E,hE⟩:∃E,(a.e-(k:Int))/2=E:=⟨_,rfl⟩;obtain⟨n,hn⟩:∃n,a.n*2^k=n:=⟨_,rfl⟩;rw[hk,hE] at h1;rw[hk] at h2;obtain⟨s1,s2⟩:=vI n;have hw:=wB E;have hw2:(2:Rat)^E=2*2^(E-1):=by
  have:=wA 1 (E-1);rw[show 1+(E-1)=E by omega] at this;rw[this];rfl
 have hw3:=wB (E-1);have hval:val (nroot a)=((2*isq n+(!decide (isq n*isq n=n)).toNat:Nat):Rat)*2^(E-1):=by
  unfold nroot nmark val;rw[hk,hn,hE];simp only[Bool.false_and,Bool.false_eq_true,if_false]
 refine⟨isq n,n,E,⟨?_,s1,s2,?_,?_⟩⟩
 ·have hbig:2^130<=n:=by
   rw[<-hn];have p1:2^130<=2^k:=Nat.pow_le_pow_right (by decide) h2;have p2:1*2^k<=a.n*2^k:=Nat.mul_le_mul_right _ (Nat.pos_of_ne_zero ha);omega
  rcases Nat.lt_or_ge (isq n) (2^53) with g|g
  ·have:=Nat.mul_le_mul (show isq n+1<=2^53 from g) (show isq n+1<=2^53 from g);have e1:2^53*2^53<2^130:=by decide
   omega
  ·exact g
 ·unfold mag;rw[<-hn,Rat.natCast_mul,<-wX,<-wA,h1,Rat.mul_assoc,<-wA];congr 2;omega
 ·rw[hval];by_cases g:isq n*isq n=n
  ·left;refine⟨g,?_⟩;rw[decide_eq_true g,hw2];simp only[Bool.not_true,Bool.toNat_false,Nat.add_zero,Rat.natCast_mul];have:((2:Nat):Rat)=2:=rfl;rw[this];grind
  ·right;refine⟨g,?_⟩;rw[decide_eq_false g,hw2];simp only[Bool.not_false,Bool.toNat_true,Rat.natCast_mul,Rat.natCast_add];have:((2:Nat):Rat)=2:=rfl;have h1:((1:Nat):Rat)=1:=rfl;rw[this,h1];constructor<;>grind
theorem R3 {a:Nm}{s:Nat}(hn:a.neg=false)(h:NearRt (val a) s):v (idx s-1)<val (nroot a)/\val (nroot a)<v (idx s+1) /\
  (val (nroot a)<v (idx s)↔val a<v (idx s)*v (idx s))/\(v (idx s)<val (nroot a)↔v (idx s)*v (idx s)<val a)/\(val (nroot a)=0\/0<val (nroot a)):=by
 have hm:val a=mag a:=by rw[Kt,hn];rfl
 by_cases ha:a.n=0
 ·have h0:val a=0:=jm ha;have hq:isq 0=0:=by have:=vI 0;have:=Nat.mul_eq_zero.1 (Nat.le_zero.1 this.1);omega
  have h1:(nroot a).n=0:=by unfold nroot nmark;rw[ha];simp[hq]
  have hs:=h.zero h0;rw[jm h1,h0,hs,wC];have p1:=v_lt (i:=0-1) (j:=0) (by omega);have p2:=v_lt (i:=0) (j:=0+1) (by omega);rw[wC] at p1 p2;refine⟨p1,p2,?_,?_,.inl rfl⟩<;>grind
 ·have hA:0<mag a:=vb ha;obtain⟨Q,n,e,c⟩:=R4 ha;have hi:=h.pos (by rw[hm];exact hA);have lo:=h.lo (by rw[hm];exact hA);have hh:=h.hi;rw[hm] at lo hh ⊢;obtain⟨r,hr⟩:=Int.eq_ofNat_of_zero_le (show 0<=idx s-1 by omega);have nn:∀i:Int,0<=i->0<=v i:=fun i hi=>by have:=v_le hi;rwa [wC] at this
  have key:∀i:Int,0<=i->(v i<=val (nroot a)↔v i*v i<=mag a)/\(val (nroot a)<=v i↔mag a<=v i*v i):=fun i hi=>by
   obtain⟨r,rfl⟩:=Int.eq_ofNat_of_zero_le hi;exact c.cmp (JO r e) (nn _ hi)
  have k1:=key (idx s-1) (by omega);have k2:=key (idx s) (by omega);have k3:=key (idx s+1) (by omega);refine⟨Rat.not_le.1 (fun g=>?_),Rat.not_le.1 (fun g=>?_),?_,?_,.inr ?_⟩
  ·have:=k1.2.1 g;grind
  ·have:=k3.1.1 g;grind
  ·rw[<-Rat.not_le,<-Rat.not_le,k2.1]
  ·rw[<-Rat.not_le,<-Rat.not_le,k2.2]
  ·have:=nn (idx s-1) (by omega);have:=Rat.not_le.1 (fun g=>by have:=k1.2.1 g;grind:¬val (nroot a)<=v (idx s-1));grind
theorem zbY {X:Rat}{x rest:Nat}(hl:x<2^64)(hf:Fl.Fin x)(h:v (idx x-1)<X/\X<v (idx x+1))(hs:idx rest<0↔X<v (idx x)):Dn X (idx (side x rest (-1)))/\side x rest (-1)<2^64:=by
 have:=zhC h;unfold side;by_cases hr:idx rest<0
 ·rw[if_pos (hs.1 hr)] at this;rw[if_pos ⟨by omega,hr⟩,(xX hl hf).1];exact⟨this,(xX hl hf).2⟩
 ·rw[if_neg (fun e=>hr (hs.2 e))] at this;rw[if_neg (by omega),if_neg (by omega)];exact⟨this,hl⟩
theorem zbX {X:Rat}{x rest:Nat}(hl:x<2^64)(hf:Fl.Fin x)(h:v (idx x-1)<X/\X<v (idx x+1))(hs:0<idx rest↔v (idx x)<X):Up X (idx (side x rest 1))/\side x rest 1<2^64:=by
 have:=zgh h;unfold side;by_cases hr:0<idx rest
 ·rw[if_pos (hs.1 hr)] at this;rw[if_neg (by omega),if_pos ⟨by omega,hr⟩,(xW hl hf).1];exact⟨this,(xW hl hf).2⟩
 ·rw[if_neg (fun e=>hr (hs.2 e))] at this;rw[if_neg (by omega),if_neg (by omega)];exact⟨this,hl⟩
end Go.Enc.Nu
end
section
namespace Go.Enc
open Go.Proofs Go.Enc.Dg Go.Enc.Nu
abbrev tD_ (s:ByteArray):D:=.v (.string s)
abbrev noS:ByteArray:=⟨#[]⟩
def wH (lo hi:Nm):(Nat×Nat)×Int:=if (wO false lo).2=true/\(wO true hi).2=true then (((wO false lo).1,(wO true hi).1),0) else ((0,0),3)
theorem kU (E:Nat->Option Value){lo hi:Nm}{k:Nat}(h1:NOk lo k)(h2:NOk hi k)(hk:k<=10000000):DQz E 48 [nmD lo,nmD hi] (.data (.tup [boxD (wH lo hi).1,intD (wH lo hi).2])):=by
 refine dcA Tryz.func48 Tryz.ntmps48 (rs:=[.cell 4 27,.tmp 5]) fun _ _ _ _ _=>?_
 have r1:=UB E (up:=false) (w:=-1) rfl h1 hk;have r2:=UB E (up:=true) (w:=1) rfl h2 hk;have hA:wH lo hi=if (wO false lo).2=true/\(wO true hi).2=true then (((wO false lo).1,(wO true hi).1),0) else ((0,0),3):=rfl
 obtain⟨⟨x,bx⟩,hx⟩:∃p,wO false lo=p:=⟨_,rfl⟩;obtain⟨⟨y,by'⟩,hy⟩:∃p,wO true hi=p:=⟨_,rfl⟩;rw[hx] at r1 hA;rw[hy] at r2 hA;simp -implicitDefEqProofs only[go_sem];refine cI r1 ?_;simp -implicitDefEqProofs only[go_sem];refine cI r2 ?_;cases bx
 ·have hA:wH lo hi=((0,0),3):=by rw[hA,if_neg (by simp)]
  rw[hA];simp -implicitDefEqProofs only[go_sem];refine wc ?_;simp -implicitDefEqProofs only[go_sem]
 ·cases by'
  ·have hA:wH lo hi=((0,0),3):=by rw[hA,if_neg (by simp)]
   rw[hA];simp -implicitDefEqProofs only[go_sem];refine wc ?_;simp -implicitDefEqProofs only[go_sem]
  ·have hA:wH lo hi=((x,y),0):=by rw[hA,if_pos ⟨rfl,rfl⟩]
   rw[hA];simp -implicitDefEqProofs only[go_sem];refine wc ?_;simp -implicitDefEqProofs only[go_sem]
theorem qM (E:Nat->Option Value){a b:Nm}{k:Nat}(ha:NOk a k)(hb:NOk b k)(hk:k<=10000000):DQz E 53 [nmD a,nmD b] (.data (nmD (nprod a b))):=by
 refine dcA Tryz.func53 Tryz.ntmps53 (rs:=[.cell 4 70]) fun _ _ _ _ _=>?_
 obtain⟨na,n,e⟩:=a;obtain⟨nb,m,f⟩:=b;obtain⟨h1,h2,h3⟩:=ha;obtain⟨g1,g2,g3⟩:=hb;simp only at h1 h2 h3 g1 g2 g3;have w:IntKind.i64.wrap (e+f)=e+f:=w64 (by omega);simp -implicitDefEqProofs only[go_sem];refine cI (Ku _ (h1.sm (by omega)) (g1.sm (by omega))) ?_;have l0:=lenpos (n*m);have eff:(false==false)=true:=by decide
 have eft:(false==true)=false:=by decide
 have etf:(true==false)=false:=by decide
 have ett:(true==true)=true:=by decide
 cases na<;>cases nb
 ·have hp:nprod ⟨false,n,e⟩ ⟨false,m,f⟩=⟨false,n*m,e+f⟩:=rfl;rw[hp];simp -implicitDefEqProofs only[go_sem,w,l0,eff]
 ·have hp:nprod ⟨false,n,e⟩ ⟨true,m,f⟩=⟨decide (0<n*m),n*m,e+f⟩:=rfl;rw[hp];simp -implicitDefEqProofs only[go_sem,w,l0,eft]
 ·have hp:nprod ⟨true,n,e⟩ ⟨false,m,f⟩=⟨decide (0<n*m),n*m,e+f⟩:=rfl;rw[hp];simp -implicitDefEqProofs only[go_sem,w,l0,etf]
 ·have hp:nprod ⟨true,n,e⟩ ⟨true,m,f⟩=⟨false,n*m,e+f⟩:=rfl;rw[hp];simp -implicitDefEqProofs only[go_sem,w,l0,ett]
abbrev nvD (a b:Nm):D:=.agg [bD a.neg,natD a.n,intD a.e,bD b.neg,natD b.n,intD b.e]
attribute [go_sem] nvD
def kK (a b:Nm):Bool:=decide (nsign a<=0)&&decide (nsign b>=0)
theorem YE (E:Nat->Option Value)(a b:Nm):DQz E 98 [nvD a b] (.data (bD (kK a b))):=by
 refine dcA Tryz.func98 Tryz.ntmps98 (rs:=[.tmp 2]) fun _ _ _ _ _=>?_
 have s1:=WA E a;have s2:=WA E b;unfold kK;generalize nsign a=i at *;generalize nsign b=j at *;simp -implicitDefEqProofs only[go_sem];refine cI s1 ?_;rcases Decidable.em (i<=0) with h|h
 ·have h1:decide (i<=0)=true:=tD h;simp -implicitDefEqProofs only[go_sem,h1];refine cI s2 ?_;simp -implicitDefEqProofs only[go_sem,finK];rw[h1,Bool.true_and]
 ·have h1:decide (i<=0)=false:=fD h;simp -implicitDefEqProofs only[go_sem,h1,finK,Bool.false_and]
def jK (c:Nat×Nat)(e:Int)(s:ByteArray):(Nat×Nat)×Int×ByteArray:=if e=0 then (c,e,noS) else ((0,0),e,s)
theorem Jc (E:Nat->Option Value)(c:Nat×Nat)(e:Int)(s:ByteArray):DQz E 52 [boxD c,intD e,tD_ s] (.data (.tup [boxD (jK c e s).1,intD (jK c e s).2.1,tD_ (jK c e s).2.2])):=by
 refine dcA Tryz.func52 Tryz.ntmps52 (rs:=[.cell 6 27,.tmp 7,.tmp 8]) fun _ _ _ _ _=>?_
 by_cases h:e=0
 ·have hN:jK c e s=(c,e,noS):=if_pos h;have e0:=tB (beqT h);rw[hN];simp -implicitDefEqProofs only[go_sem,e0];refine wc ?_;simp -implicitDefEqProofs only[go_sem]
 ·have hN:jK c e s=((0,0),e,s):=if_neg h;have e0:(e==0)=false:=beqF h;rw[hN];simp -implicitDefEqProofs only[go_sem,e0];refine wc ?_;simp -implicitDefEqProofs only[go_sem]
theorem vF (E:Nat->Option Value)(neg:Bool){q n:Nat}{e:Int}(whole:Bool)(hq:Bd q n)(hn:n<=10000000)(he : -100000000<=e/\e<=100000000):DQz E 102 [bD neg,natD q,intD e,bD whole] (.data (nmD (nmark neg q e whole))):=by
 refine dcA Tryz.func102 Tryz.ntmps102 (rs:=[.cell 8 70]) fun _ _ _ _ _=>?_
 have w:IntKind.i64.wrap (e-1)=e-1:=w64 (by omega);have h2:q*2^1=2*q:=by omega
 have b2:Bd (2*q) (n+1):=by unfold Bd at *;rw[Nat.pow_succ];omega
 simp -implicitDefEqProofs only[go_sem];refine cI (up_c _ (k:=1) hq (by omega) (by omega)) ?_;rw[h2];cases whole
 ·have hm:nmark neg q e false=⟨neg&&decide (0<2*q+1),2*q+1,e-1⟩:=rfl;rw[hm];simp -implicitDefEqProofs only[go_sem];refine cI (qI _ 1 (by decide)) ?_;simp -implicitDefEqProofs only[go_sem];refine cI (xn _ (b2.sm (by omega)) (Bd.sm (n:=1) (k:=1) (by unfold Bd;decide) (by omega))) ?_;cases neg
  ·simp -implicitDefEqProofs only[go_sem,w,lenpos,Bool.false_and]
  ·simp -implicitDefEqProofs only[go_sem,w,lenpos,Bool.true_and]
 ·have hm:nmark neg q e true=⟨neg&&decide (0<2*q),2*q,e-1⟩:=rfl;rw[hm];cases neg
  ·simp -implicitDefEqProofs only[go_sem,w,lenpos,Bool.false_and]
  ·simp -implicitDefEqProofs only[go_sem,w,lenpos,Bool.true_and]
end Go.Enc
end
