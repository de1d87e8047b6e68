/-
  A heavy diagonal: how wide the numbers become. No program.
-/
import Derived.Test.YtjlibljfpkmpfaaGreatDoorSa43
set_option maxRecDepth 100000
set_option linter.unusedSimpArgs false
set_option linter.unusedVariables false
namespace Go.Enc
open Go.Enc.Fl
theorem U1 {x y x' y' A B wa wb:Rat}(h1 : -A<=x)(h2:x<=A)(k1 : -B<=y')(k2:y'<=B)(hx : -wa<=x-x')(hx':x-x'<=wa)(hy : -wb<=y-y')(hy':y-y'<=wb):x*y-x'*y'<=A*wb+B*wa:=by
 have p:=kJ h1 h2 hy hy';have q:=kJ k1 k2 hx hx';grind
theorem ar_f {di dk ik u e f:Rat}(hdi:0<=di)(hik:dk*ik=1)(hi0:0<=ik)(hu:0<=u)(he:0<=e)(hw:f<=4/15*di*(u*dk*(ik*ik))+ik*(u*di)+2*e*(4/15*di*ik)):f<=(2*u+e)*(di*ik):=by
 have p:=Rat.mul_nonneg hdi hi0;have p1:=Rat.mul_nonneg hu p;have p2:=Rat.mul_nonneg he p;have:4/15*di*(u*dk*(ik*ik))=4/15*u*(di*ik):=by grind
 grind
theorem ar_p {di dk ik u e f:Rat}(hdi:0<=di)(hik:dk*ik=1)(hu:0<=u)(he:0<=e)(hw:f<=3/10*(di*ik)*(u*dk)+4/15*dk*((2*u+e)*(di*ik))+2*e*(3/10*(di*ik)*(4/15*dk))):f<=(u+e)*di:=by
 have p1:=Rat.mul_nonneg hu hdi;have p2:=Rat.mul_nonneg he hdi;have e1:3/10*(di*ik)*(u*dk)=3/10*u*di:=by grind
 have e2:4/15*dk*((2*u+e)*(di*ik))=4/15*(2*u+e)*di:=by grind
 have e3:2*e*(3/10*(di*ik)*(4/15*dk))=2*e*(3/10*4/15)*di:=by grind
 grind
theorem ar_r {di dk ik u e f X:Rat}(hdi:0<=di)(hik:dk*ik=1)(hu:0<=u)(he:0<=e)(hX:0<=X)(hw:f<=3/10*(di*ik)*(u*dk*X)+5/2*dk*X*((2*u+e)*(di*ik))+2*e*(3/10*(di*ik)*(5/2*dk*X))):f<=(6*u+4*e)*di*X:=by
 have p1:=Rat.mul_nonneg (Rat.mul_nonneg hu hdi) hX;have p2:=Rat.mul_nonneg (Rat.mul_nonneg he hdi) hX;have e1:3/10*(di*ik)*(u*dk*X)=3/10*u*di*X:=by grind
 have e2:5/2*dk*X*((2*u+e)*(di*ik))=5/2*(2*u+e)*di*X:=by grind
 have e3:2*e*(3/10*(di*ik)*(5/2*dk*X))=2*e*(3/4)*di*X:=by grind
 grind
theorem zlL {di dk ik:Rat}(hdi:0<=di)(hik:dk*ik=1):3/10*(di*ik)*(4/15*dk)*(1025/1024)<=1/10*di:=by
 have:3/10*(di*ik)*(4/15*dk)=3/10*4/15*di:=by grind
 rw[this];grind
theorem zlK {di dk ik X:Rat}(hdi:0<=di*X)(hik:dk*ik=1):3/10*(di*ik)*(5/2*dk*X)*(1025/1024)<=4/5*di*X:=by
 have:3/10*(di*ik)*(5/2*dk*X)=3/4*(di*X):=by grind
 rw[this];grind
def Am (m:Rat)(X:Nat×Nat):Prop:=-m<=iL X/\iH X<=m
def Wdt (w:Rat)(X:Nat×Nat):Prop:=iH X-iL X<=w
theorem Am.mono {m m':Rat}{X:Nat×Nat}(h:Am m X)(k:m<=m'):Am m' X:=⟨by have:=h.1;grind,by have:=h.2;grind⟩
theorem Wdt.mono {m m':Rat}{X:Nat×Nat}(h:Wdt m X)(k:m<=m'):Wdt m' X:=Rat.le_trans h k
theorem Qi.am {L:Int}{m:Rat}{X:Nat×Nat}(q:Qi L m X):Am m X:=⟨q.lo,q.hi⟩
theorem Am.nonneg {m:Rat}{X:Nat×Nat}(h:Am m X)(g:Gd X):0<=m:=by have:=h.1;have:=h.2;have:=g.iLH;grind
theorem Am.end_ {m:Rat}{X:Nat×Nat}(q:Am m X)(g:Gd X)(j:Nat) : -m<=iE X j/\iE X j<=m:=by
 have:=g.iLH;have h1:=q.1;have h2:=q.2;unfold iE;split<;>exact⟨by grind,by grind⟩
theorem Wdt.end_ {w:Rat}{X:Nat×Nat}(q:Wdt w X)(g:Gd X)(j j':Nat) : -w<=iE X j-iE X j'/\iE X j-iE X j'<=w:=by
 have:=g.iLH;unfold Wdt at q;unfold iE;split<;>split<;>exact⟨by grind,by grind⟩
theorem Am.wi {m w x:Rat}{X:Nat×Nat}(h:Wi x X)(hw:Wdt w X)(h1 : -m<=x)(h2:x<=m):Am (m+w) X:=by
 unfold Wi at h;unfold Wdt at hw;exact⟨by grind,by grind⟩
theorem opW {X:Nat->Nat->Rat}{R:AnsQ}(h:Res3 X R)(hp:∀j k,j<2->k<2->Pl (X j k)){w m:Rat}(h0:0<=m)(hm:∀j k,j<2->k<2->-m<=X j k/\X j k<=m)(hw:∀j k j' k',j<2->k<2->j'<2->k'<2->X j k-X j' k'<=w) :
  Wdt (w+2*eps*m) R.1/\Am (m*kap1) R.1:=by
 have r:=h.good (h.pl hp);obtain⟨j,k,hj,hk,hd⟩:=r.dn;obtain⟨j',k',hj',hk',hu⟩:=r.up;have a:=hm j k hj hk;have a':=hm j' k' hj' hk';have b:=hw j' k' j k hj' hk' hj hk;refine⟨?_,zdd hd (hp j k hj hk) a.1 h0,zgi hu (hp j' k' hj' hk') a'.2 h0⟩;have d1:=hd.err (hp j k hj hk).low;have d2:=hu.neg.err (hp j' k' hj' hk').neg.low;rw[wQ] at d2;have e0:(0:Rat)<=eps:=Rat.le_of_lt xK.1;generalize eps=e at *;have m1:=Rat.mul_le_mul_of_nonneg_left a.2 e0;have m2:=Rat.mul_le_mul_of_nonneg_left (show -X j k<=m by grind) e0;have m3:=Rat.mul_le_mul_of_nonneg_left a'.2 e0;have m4:=Rat.mul_le_mul_of_nonneg_left (show -X j' k'<=m by grind) e0;unfold Wdt iL iH;grind
section
variable {E:Nat->Option Value} {M V S:Nat×Nat->Nat×Nat->AnsQ} (O:Ops3 E M V S) {a b:Nat×Nat} {La Lb:Int} {ma mb A B wa wb:Rat}
include O
theorem mulW (g:Gd a)(g':Gd b)(q:Qi La ma a)(q':Qi Lb mb b)(hL:La+Lb<=900)(hm:ma*mb<=(2:Rat)^(900:Int))(hA:Am A a)(hB:Am B b)(ha:Wdt wa a)(hb:Wdt wb b) :
  Wdt (A*wb+B*wa+2*eps*(A*B)) (M a b).1/\Am (A*B*kap1) (M a b).1:=by
 refine opW (O.m a b g g').2 (fun j k hj hk=>?_) (Rat.mul_nonneg (hA.nonneg g) (hB.nonneg g')) (fun j k hj hk=>?_) (fun j k j' k' _ _ _ _=>?_)
 ·obtain⟨a1,a2,a3⟩:=q.end_ g j;obtain⟨b1,b2,b3⟩:=q'.end_ g' k;have:=kJ a2 a3 b2 b3;exact Ye hL (a1.mul b1) hm this.1 this.2
 ·have a1:=hA.end_ g j;have b1:=hB.end_ g' k;exact kJ a1.1 a1.2 b1.1 b1.2
 ·have a1:=hA.end_ g j;have b1:=hB.end_ g' k';have a2:=ha.end_ g j j';have b2:=hb.end_ g' k k';exact U1 a1.1 a1.2 b1.1 b1.2 a2.1 a2.2 b2.1 b2.2
theorem subW (g:Gd a)(g':Gd b)(q:Qi La ma a)(q':Qi Lb mb b){c:Int}(hc:(Lb<=c/\La+54<=c)\/(La<=c/\Lb+54<=c))(hL:c<=900)(hm:ma+mb<=(2:Rat)^(900:Int))(hA:Am A a)(hB:Am B b)(ha:Wdt wa a)(hb:Wdt wb b) :
  Wdt (wa+wb+2*eps*(A+B)) (S a b).1/\Am ((A+B)*kap1) (S a b).1:=by
 have lw:∀ {x y:Int},Lw La (v x)->Lw Lb (v y)->Lw c (v x-v y):=fun {x y} h k=>by
  rcases hc with hc|hc
  ·exact Lw.sub h k hc.1 hc.2
  ·have:=(Lw.sub k h hc.1 hc.2).neg;rw[show -(v y-v x)=v x-v y by grind] at this;exact this
 have a1:=q.lo;have a2:=q.hi;have b1:=q'.lo;have b2:=q'.hi;have ga:=g.iLH;have gb:=g'.iLH;have nA:=hA.nonneg g;have nB:=hB.nonneg g';have xA:=hA.1;have yA:=hA.2;have xB:=hB.1;have yB:=hB.2;unfold Wdt at ha hb;refine opW (O.s a b g g').2 (fun j k hj hk=>?_) (by grind) (fun j k hj hk=>?_) (fun j k j' k' _ _ _ _=>?_)
 ·unfold subX;split
  ·exact Ye hL (lw q.l q'.h) hm (by grind) (by grind)
  ·exact Ye hL (lw q.h q'.l) hm (by grind) (by grind)
 ·unfold subX;split<;>exact⟨by grind,by grind⟩
 ·unfold subX;split<;>split<;>grind
theorem divW (g:Gd a)(g':Gd b)(q:Qi La ma a){l:Rat}(hl:0<l)(k:LoA l b){u:Int}(hu1 : -(2:Rat)^u<=iL b)(hu2:iH b<=(2:Rat)^u)(hL:La+u<=900)(hm:ma*l⁻¹<=(2:Rat)^(900:Int))(hA:Am A a)(ha:Wdt wa a)(hb:Wdt wb b) :
  Wdt (A*(wb*(l⁻¹*l⁻¹))+l⁻¹*wa+2*eps*(A*l⁻¹)) (V a b).1/\Am (A*l⁻¹*kap1) (V a b).1:=by
 have hli:=Rat.inv_pos.2 hl;have i1:∀i,-l⁻¹<=(iE b i)⁻¹/\(iE b i)⁻¹<=l⁻¹:=fun i=>V9 hl (k.end_ g' i)
 have ne:∀i,iE b i≠0:=fun i=>by rcases k.end_ g' i with h|h<;>grind
 have di:∀i i',-(wb*(l⁻¹*l⁻¹))<=(iE b i)⁻¹-(iE b i')⁻¹/\(iE b i)⁻¹-(iE b i')⁻¹<=wb*(l⁻¹*l⁻¹):=fun i i'=>by
  have e:(iE b i)⁻¹-(iE b i')⁻¹=(iE b i'-iE b i)*((iE b i)⁻¹*(iE b i')⁻¹):=by
   have h1:=Rat.mul_inv_cancel _ (ne i);have h2:=Rat.mul_inv_cancel _ (ne i');grind
  have w:=hb.end_ g' i' i;have p:=kJ (i1 i).1 (i1 i).2 (i1 i').1 (i1 i').2;rw[e];exact kJ w.1 w.2 p.1 p.2
 refine opW ((O.v a b g g').2.2 (k.has0 hl)) (fun j i hj hi=>?_) (Rat.mul_nonneg (hA.nonneg g) (Rat.le_of_lt hli)) (fun j i hj hi=>?_) (fun j i j' i' _ _ _ _=>?_)
 ·obtain⟨a1,a2,a3⟩:=q.end_ g j;have b4 : -(2:Rat)^u<=iE b i/\iE b i<=2^u:=by
   have:=g'.iLH;unfold iE;split<;>exact⟨by grind,by grind⟩
  have:=kJ a2 a3 (i1 i).1 (i1 i).2;unfold divX;rw[Rat.div_def];exact Ye hL (a1.mul (Lw.inv (ne i) b4.1 b4.2)) hm this.1 this.2
 ·have a1:=hA.end_ g j;unfold divX;rw[Rat.div_def];exact kJ a1.1 a1.2 (i1 i).1 (i1 i).2
 ·have a1:=hA.end_ g j;have a2:=ha.end_ g j j';have:=U1 a1.1 a1.2 (i1 i').1 (i1 i').2 a2.1 a2.2 (di i i').1 (di i i').2;unfold divX;rw[Rat.div_def,Rat.div_def];exact this
end
structure Ww (B:Nat->Nat->Nat×Nat)(n k:Nat)(d:Nat->Rat)(X u:Rat):Prop where
 wd:∀i j,k<=i->i<n->k<=j->j<n->Wdt (u*d i) (B i j)
 wr:∀i,k<=i->i<n->Wdt (u*d i*X) (B i n)
 ar:∀i,k<=i->i<n->Am (5/2*d i*X) (B i n)
section
variable {B:Nat->Nat->Nat×Nat} {n k:Nat} {c r e:Rat} {L:Int} {U:Rat} {d:Nat->Rat} {m:Nat->Nat->Rat} {b:Nat->Nat->Rat} {x:Nat->Rat} {X:Rat}
theorem Hv.right (h:Hv B n k c r e L U d m)(hc:15/4<=c)(hr2:r<=2)(I:ElI B b x n k)(hX:∀j,j<n->-X<=x j/\x j<=X){i:Nat}(hi:k<=i)(hin:i<n) : -(34/15*d i*X)<=b i n/\b i n<=34/15*d i*X:=by
 have hd:=h.w.dp i hi hin;have X0:0<=X:=by have:=hX i hin;grind
 have key:∀s:Rat,(s=1\/s = -1)->s*b i n<=34/15*d i*X:=fun s hs=>by
  have sat:=I.sat i hin;unfold SatR at sat;rw[<-sat,<-z7];have h1:smR (fun j=>s*(b i j*x j)) n<=smR (fun j=>X*((if k<=j/\j≠i then m i j else 0)+(if j=i then m i j else 0))) n:=zbV fun j hj=>by
   by_cases hk:k<=j
   ·have w:=I.wi i j hin (by omega);have q:=h.am i j hi hin hk (by omega);have q1:=q.lo;have q2:=q.hi;unfold Wi at w;have p:=kJ (a:=m i j) (b:=X) (x:=b i j) (y:=x j) (by grind) (by grind) (hX j hj).1 (hX j hj).2;have e:(if k<=j/\j≠i then m i j else 0)+(if j=i then m i j else 0)=m i j:=by
     by_cases g:j=i
     ·rw[if_neg (fun z=>z.2 g),if_pos g];grind
     ·rw[if_pos ⟨hk,g⟩,if_neg g];grind
    rw[e];rcases hs with rfl|rfl<;>grind
   ·rw[I.zero i j hin (by omega) (by omega),if_neg (fun z=>hk z.1),if_neg (by omega)];grind
  rw[z7 (fun j=>(if k<=j/\j≠i then m i j else 0)+(if j=i then m i j else 0)) X,z6,Kw (fun j=>m i j) i n,if_pos hin] at h1;have d1:=h.w.dom i hi hin;have d2:=h.w.rat i hi hin;have d3:r*d i<=2*d i:=Rat.mul_le_mul_of_nonneg_right hr2 (Rat.le_of_lt hd);have o0:0<=offR m k n i:=Wz fun j hj=>by
   split
   ·rename_i z;exact h.w.mp i j hi hin z.1 (by omega)
   ·exact Rat.le_refl
  have o1:=Rat.mul_le_mul_of_nonneg_right hc o0;have o2:smR (fun j=>if k<=j/\j≠i then m i j else 0) n=offR m k n i:=rfl;rw[o2] at h1;have h2:=Rat.mul_le_mul_of_nonneg_left (show offR m k n i+m i i<=34/15*d i by grind) X0;grind
 have k1:=key 1 (.inl rfl);have k2:=key (-1) (.inr rfl);exact⟨by grind,by grind⟩
section
variable {E:Nat->Option Value} {M V S:Nat×Nat->Nat×Nat->AnsQ} (O:Ops3 E M V S)
theorem ar_w {di dh u e:Rat}(h:9/10*di<=dh)(hdi:0<=di)(hu:0<=u)(he:0<=e){f:Rat}(hf:f<=(2*u+6*e)*di):f<=(8*u+16*e)*dh:=by
 have h1:=Rat.mul_le_mul_of_nonneg_left h hu;have h2:=Rat.mul_le_mul_of_nonneg_left h he;have h3:=Rat.mul_nonneg hu hdi;have h4:=Rat.mul_nonneg he hdi;grind
theorem ar_x {di dh u e X:Rat}(h:9/10*di<=dh)(hdi:0<=di)(hu:0<=u)(he:0<=e)(hX:0<=X){f:Rat}(hf:f<=(7*u+11*e)*di*X):f<=(8*u+16*e)*dh*X:=by
 have h1:=Rat.mul_le_mul_of_nonneg_left h (Rat.mul_nonneg hu hX);have h2:=Rat.mul_le_mul_of_nonneg_left h (Rat.mul_nonneg he hX);have h3:=Rat.mul_nonneg (Rat.mul_nonneg hu hdi) hX;have h4:=Rat.mul_nonneg (Rat.mul_nonneg he hdi) hX;grind
theorem Hw.dH_ge (h:Hw n k c r e d m)(hk:k<n)(hc:15/4<=c){i:Nat}(hi:k<i)(hin:i<n):9/10*d i<=dH d m k i/\dH d m k i<=d i:=by
 have hdk:=h.dp k (Nat.le_refl _) hk;have hdi:=h.dp i (by omega) hin;have hinv:=Rat.mul_inv_cancel (d k) (by grind);have hip:=Rat.inv_pos.2 hdk;have k1:kap1=1025/1024:=rfl;have k0:kap0=1023/1024:=rfl;have o1:=h.off (by grind) (show k<=i by omega) hin (Nat.le_refl k) hk (by omega);have o2:=h.off (by grind) (Nat.le_refl k) hk (show k<=i by omega) hin (by omega);have p1:=h.mp i k (by omega) hin (Nat.le_refl _) (by omega);have p2:=h.mp k i (Nat.le_refl _) hk (by omega) (by omega);have c1:=Rat.mul_le_mul_of_nonneg_right hc p1;have c2:=Rat.mul_le_mul_of_nonneg_right hc p2;have a1:m i k<=4/15*d i:=by grind
 have a2:m k i<=4/15*d k:=by grind
 have b1:=Rat.mul_le_mul_of_nonneg_left a2 (c:=m i k*(d k)⁻¹) (Rat.mul_nonneg p1 (Rat.le_of_lt hip));have b2:m i k*(d k)⁻¹*(4/15*d k)=4/15*m i k:=by grind
 have b3:=Rat.mul_nonneg (Rat.mul_nonneg p1 (Rat.le_of_lt hip)) p2;unfold dH fH;rw[k1,k0];exact⟨by grind,by grind⟩
include O
theorem Hv.width (h:Hv B n k c r e L U d m)(hk:k<n)(hc:15/4<=c)(hr2:r<=2)(he:1/2147483648<=e){u:Int}(hu:m k k<=(2:Rat)^u)(hu0:24<=u)(hL:30<=L)(hL2:L+(L+u)<=900)(hU:2147483648<=U)(hU2:U*2^63<=(2:Rat)^(900:Int))
  {w:Rat} (hw:0<=w) (hX0:0<=X) (W:Ww B n k d X w) {B':Nat->Nat->Nat×Nat} (hB':∀i j,i<n->j<=n->B' i j=nxt M V S B n k i j) :
  (∀i j,k+1<=i->i<n->k+1<=j->j<n->Wdt ((8*w+16*eps)*dH d m k i) (B' i j))/\(∀i,k+1<=i->i<n->Wdt ((8*w+16*eps)*dH d m k i*X) (B' i n)):=by
 have hdk:=h.w.dp k (Nat.le_refl _) hk;have hip:=Rat.inv_pos.2 hdk;have hik:=Rat.mul_inv_cancel (d k) (by grind);have k1:kap1=1025/1024:=rfl;have e63:(2:Rat)^63=9223372036854775808:=by decide +kernel
 obtain⟨fq,f0,mU,fm,bkk⟩:=h.sizes hk hc hr2 he hU;have qkk:=h.am k k (Nat.le_refl _) hk (Nat.le_refl _) (by omega);have gkk:=h.gd k k hk (by omega);have e0:(0:Rat)<=eps:=Rat.le_of_lt xK.1;have off:∀ {i j},k<=i->i<n->k<=j->j<n->j≠i->m i j<=4/15*d i:=fun {i j} hi hin hj hjn hij=>by
  have o1:=h.w.off (by grind) hi hin hj hjn hij;have c1:=Rat.mul_le_mul_of_nonneg_right hc (h.w.mp i j hi hin hj (by omega));grind
 have ops:∀i,k<i->i<n->(∀j,k<j->j<n->Wdt ((2*w+6*eps)*d i) (S (B i j) (M (V (B i k) (B k k)).1 (B k j)).1).1)/\Wdt ((7*w+11*eps)*d i*X) (S (B i n) (M (V (B i k) (B k k)).1 (B k n)).1).1:=fun i hi hin=>by
  have hdi:=h.w.dp i (by omega) hin;have gik:=h.gd i k hin (by omega);have oik:=off (show k<=i by omega) hin (Nat.le_refl k) hk (by omega);have dv1 : -(2:Rat)^u<=iL (B k k):=by have:=qkk.lo;grind
  have dv2:iH (B k k)<=(2:Rat)^u:=by have:=qkk.hi;grind
  have dv3:m i k*(d k)⁻¹<=(2:Rat)^(900:Int):=by
   have:=(fq i (by omega) hin).2;rw[e63] at hU2;grind
  have qik:=h.am i k (by omega) hin (Nat.le_refl _) (by omega);obtain⟨v1,v2⟩:=divQ O gik gkk qik hdk (h.dg k (Nat.le_refl _) hk) (u:=u) dv1 dv2 (by omega) (by omega) dv3;have gF:Gd (V (B i k) (B k k)).1:=O.gv gik gkk;obtain⟨wF,aF⟩:=divW O gik gkk qik hdk (h.dg k (Nat.le_refl _) hk) (u:=u) dv1 dv2 (by omega) dv3 (A:=4/15*d i) (qik.am.mono oik) (W.wd i k (by omega) hin (Nat.le_refl _) hk) (W.wd k k (Nat.le_refl _) hk (Nat.le_refl _) hk);have wF':Wdt ((2*w+eps)*(d i*(d k)⁻¹)) (V (B i k) (B k k)).1:=ar_f (Rat.le_of_lt hdi) hik (Rat.le_of_lt hip) hw e0 wF;have rho:=Rat.mul_nonneg (Rat.le_of_lt hdi) (Rat.le_of_lt hip);have aF':Am (3/10*(d i*(d k)⁻¹)) (V (B i k) (B k k)).1:=aF.mono (by rw[k1];grind);have mul:∀j,k<j->j<=n->∀ {A w':Rat},Am A (B k j)->Wdt w' (B k j)->Gd (M (V (B i k) (B k k)).1 (B k j)).1/\Wdt (3/10*(d i*(d k)⁻¹)*w'+A*((2*w+eps)*(d i*(d k)⁻¹))+2*eps*(3/10*(d i*(d k)⁻¹)*A)) (M (V (B i k) (B k k)).1 (B k j)).1/\Am (3/10*(d i*(d k)⁻¹)*A*kap1) (M (V (B i k) (B k k)).1 (B k j)).1 /\
    ∀ {wa wb Aa Ab:Rat},Am Aa (B i j)->Wdt wa (B i j)->Am Ab (M (V (B i k) (B k k)).1 (B k j)).1->Wdt wb (M (V (B i k) (B k k)).1 (B k j)).1->Wdt (wa+wb+2*eps*(Aa+Ab)) (S (B i j) (M (V (B i k) (B k k)).1 (B k j)).1).1:=fun j hj hjn {A w'} hA hW=>by
   have gkj:=h.gd k j hk hjn;have qkj:=h.am k j (Nat.le_refl _) hk (by omega) hjn;have hfm:=fm i j (by omega) hin (by omega) hjn;have hmm:=mU i j (by omega) hin (by omega) hjn;have c1:m i k*(d k)⁻¹*kap1*m k j<=(2:Rat)^(900:Int):=by
    show fH d m k i*m k j<=_
    rw[e63] at hU2;grind
   obtain⟨m1,m2⟩:=mulQ O gF gkj v2 qkj (by omega) (by omega) c1;obtain⟨n1,n2⟩:=mulW O gF gkj v2 qkj (by omega) c1 aF' hA wF' hW;have gP:=O.gm gF gkj;refine⟨gP,n1,n2,fun {wa wb Aa Ab} ha hwa hb hwb=>?_⟩;exact(subW O (h.gd i j hin hjn) gP (h.am i j (by omega) hin (by omega) hjn) m2 (c:=L+(L+u)) (.inl ⟨by omega,by omega⟩) (by omega) (by
    show m i j+fH d m k i*m k j*kap1<=_
    rw[e63] at hU2;rw[k1];grind) ha hb hwa hwb).1
  refine⟨fun j hj hjn=>?_,?_⟩
  ·obtain⟨_,n1,n2,n3⟩:=mul j hj (by omega) ((h.am k j (Nat.le_refl _) hk (by omega) (by omega)).am.mono (off (Nat.le_refl k) hk (by omega) hjn (by omega))) (W.wd k j (Nat.le_refl _) hk (by omega) hjn);have n1':=ar_p (Rat.le_of_lt hdi) hik hw e0 n1;have aP:Am (1/10*d i) (M (V (B i k) (B k k)).1 (B k j)).1:=n2.mono (by rw[k1];exact zlL (Rat.le_of_lt hdi) hik);have aij:Am (2*d i) (B i j):=(h.am i j (by omega) hin (by omega) (by omega)).am.mono (by
    by_cases g:j=i
    ·subst g;have:=h.w.rat j (by omega) hin;have:=Rat.mul_le_mul_of_nonneg_right hr2 (Rat.le_of_lt hdi);grind
    ·have:=off (show k<=i by omega) hin (show k<=j by omega) hjn g;grind)
   refine(n3 aij (W.wd i j (by omega) hin (by omega) hjn) aP n1').mono ?_;have:=Rat.mul_nonneg e0 (Rat.le_of_lt hdi);grind
  ·obtain⟨_,n1,n2,n3⟩:=mul n hk (Nat.le_refl _) (W.ar k (Nat.le_refl _) hk) (W.wr k (Nat.le_refl _) hk);have n1':=ar_r (Rat.le_of_lt hdi) hik hw e0 hX0 n1;have dX:=Rat.mul_nonneg (Rat.le_of_lt hdi) hX0;have aP:Am (4/5*d i*X) (M (V (B i k) (B k k)).1 (B k n)).1:=n2.mono (by rw[k1];exact zlK dX hik);refine(n3 (W.ar i (by omega) hin) (W.wr i (by omega) hin) aP n1').mono ?_;have:=Rat.mul_nonneg e0 dX;grind
 refine⟨fun i j hi hin hj hjn=>?_,fun i hi hin=>?_⟩
 ·rw[hB' i j hin (by omega)];have hdi:=h.w.dp i (by omega) hin;have dh:=(h.w.dH_ge hk hc (show k<i by omega) hin).1;unfold nxt;split
  ·rw[if_neg (by omega),if_pos ⟨by omega,by omega⟩];exact ar_w dh (Rat.le_of_lt hdi) hw e0 ((ops i (by omega) hin).1 j (by omega) hjn)
  ·refine ar_w dh (Rat.le_of_lt hdi) hw e0 (Rat.le_trans (W.wd i j (by omega) hin (by omega) hjn) ?_);have:=Rat.mul_nonneg hw (Rat.le_of_lt hdi);have:=Rat.mul_nonneg e0 (Rat.le_of_lt hdi);grind
 ·rw[hB' i n hin (Nat.le_refl _)];have hdi:=h.w.dp i (by omega) hin;have dh:=(h.w.dH_ge hk hc (show k<i by omega) hin).1;unfold nxt;split
  ·rw[if_neg (by omega),if_pos ⟨by omega,by omega⟩];exact ar_x dh (Rat.le_of_lt hdi) hw e0 hX0 (ops i (by omega) hin).2
  ·refine ar_x dh (Rat.le_of_lt hdi) hw e0 hX0 (Rat.le_trans (W.wr i (by omega) hin) ?_);have:=Rat.mul_nonneg (Rat.mul_nonneg hw (Rat.le_of_lt hdi)) hX0;have:=Rat.mul_nonneg (Rat.mul_nonneg e0 (Rat.le_of_lt hdi)) hX0;grind
end
end
end Go.Enc
