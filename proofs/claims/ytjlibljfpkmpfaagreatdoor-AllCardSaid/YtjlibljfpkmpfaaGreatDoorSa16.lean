/-
  A number of the document rounded in a direction: it lies in the class of the answer.
-/
import Derived.Test.YtjlibljfpkmpfaaGreatDoorSa13
set_option maxRecDepth 100000
set_option linter.unusedSimpArgs false
set_option linter.unusedVariables false
namespace Go.Enc.Nu
open Go.Enc.Fl
def rndQ (away:Bool)(n k:Nat):Nat:=if away=true/\n % 2^k≠0 then n/2^k+1 else n/2^k
def rndM (away:Bool)(n:Nat)(e:Int):Nat×Int:=
 if 53<nbits n then
  if rndQ away n (nbits n-53)=9007199254740992 then (4503599627370496,e+(nbits n-53:Nat)+1) else (rndQ away n (nbits n-53),e+(nbits n-53:Nat))
 else (n*2^(53-nbits n),e-(53-nbits n:Nat))
def wW (neg:Bool)(m:Nat)(e:Int):Nat×Bool:=
 if e+1075<123\/e+1075>1923\/(e+1075=1923/\4503599627370496<m) then (0,false)
 else (m-4503599627370496+4503599627370496*(e+1075).toNat+(if neg then 9223372036854775808 else 0),true)
theorem xG {neg:Bool}{m:Nat}{e:Int}(h:e+1075<123\/e+1075>1923\/(e+1075=1923/\4503599627370496<m)):wW neg m e=(0,false):=by unfold wW;rw[if_pos h]
theorem zcO {neg:Bool}{m:Nat}{e:Int}(h:¬(e+1075<123\/e+1075>1923\/(e+1075=1923/\4503599627370496<m))):wW neg m e=(m-4503599627370496+4503599627370496*(e+1075).toNat+(if neg then 9223372036854775808 else 0),true):=by unfold wW;rw[if_neg h]
def wO (up:Bool)(a:Nm):Nat×Bool:=
 if a.n=0 then (0,true) else wW a.neg (rndM (up != a.neg) a.n a.e).1 (rndM (up != a.neg) a.n a.e).2
def Jt (k:Int):Nat:=if 0<=k then k.toNat else 9223372036854775808+(-k).toNat
structure Tz (Y:Rat)(m:Nat)(e:Int):Prop where
 lo:4503599627370496<=m
 hi:m<9007199254740992
 le:(m:Rat)*2^e<=Y
 lt:Y<((m+1:Nat):Rat)*2^e
structure Aw (Y:Rat)(m:Nat)(e:Int):Prop where
 lo:4503599627370496<=m
 hi:m<9007199254740992
 le:Y<=(m:Rat)*2^e
 lt:4503599627370496<m->((m-1:Nat):Rat)*2^e<Y
 lt2:m=4503599627370496->((9007199254740991:Nat):Rat)*2^(e-1)<Y
theorem qR {x y:Nat}{e:Int}:(x:Rat)*2^e<(y:Rat)*2^e↔x<y:=by
 rw[Rat.mul_lt_mul_right (wB e)]
 exact_mod_cast Iff.rfl
theorem zc {x y:Nat}{e:Int}:(x:Rat)*2^e<=(y:Rat)*2^e↔x<=y:=by
 rw[jj (wB e)]
 exact_mod_cast Iff.rfl
theorem VH {n k:Nat}(h1:4503599627370496*2^k<=n)(h2:n<9007199254740992*2^k):4503599627370496<=n/2^k/\n/2^k<9007199254740992/\(n/2^k)*2^k+n % 2^k=n/\n % 2^k<2^k:=by
 have hP:=Nat.two_pow_pos k;refine⟨(Nat.le_div_iff_mul_le hP).2 h1,(Nat.div_lt_iff_lt_mul hP).2 h2,?_,Nat.mod_lt _ hP⟩;rw[Nat.mul_comm];exact Nat.div_add_mod n (2^k)
theorem Q9 {n:Nat}(h:n≠0)(hb:53<nbits n):4503599627370496*2^(nbits n-53)<=n/\n<9007199254740992*2^(nbits n-53):=by
 obtain⟨a,b,c⟩:=kt h;have e1:nbits n-1=52+(nbits n-53):=by omega
 have e2:nbits n=53+(nbits n-53):=by omega
 rw[e1,Nat.pow_add] at a;have b':=Nat.lt_of_lt_of_eq b (congrArg (2 ^ ·) e2);simp only[Nat.pow_add] at b';exact⟨a,b'⟩
theorem yJ {n:Nat}(h:n≠0)(hb:nbits n<=53):4503599627370496<=n*2^(53-nbits n)/\n*2^(53-nbits n)<9007199254740992:=by
 obtain⟨a,b,c⟩:=kt h;have hP:=Nat.two_pow_pos (53-nbits n);have h1:=Nat.mul_le_mul_right (2^(53-nbits n)) a;have h2:=Nat.mul_lt_mul_of_pos_right b hP;rw[<-Nat.pow_add] at h1 h2;rw[show nbits n-1+(53-nbits n)=52 by omega] at h1;rw[show nbits n+(53-nbits n)=53 by omega] at h2;exact⟨h1,h2⟩
theorem KD (n s:Nat)(e:Int):((n*2^s:Nat):Rat)*2^(e-(s:Nat))=(n:Rat)*2^e:=by
 have:=jo n s (e-(s:Nat));rw[show e-(s:Int)+(s:Int)=e by omega] at this;exact this
structure Part (n k q P r:Nat)(e:Int):Prop where
 lo:4503599627370496<=q
 hi:q<9007199254740992
 sum:q*P+r=n
 rest:r<P
 at_:∀m:Nat,(m:Rat)*2^(e+(k:Int))=((m*P:Nat):Rat)*2^e
theorem UP {n:Nat}(e:Int)(h:n≠0)(hb:53<nbits n):Part n (nbits n-53) (n/2^(nbits n-53)) (2^(nbits n-53)) (n % 2^(nbits n-53)) e:=by
 obtain⟨a,b⟩:=Q9 h hb;obtain⟨c1,c2,c3,c4⟩:=VH a b;exact⟨c1,c2,c3,c4,fun m=>(jo m _ e).symm⟩
theorem zfL {n k q P r:Nat}{e:Int}(h:Part n k q P r e):Tz ((n:Rat)*2^e) q (e+k):=by
 obtain⟨a,b,c,d,z⟩:=h;refine⟨a,b,?_,?_⟩
 ·rw[z,zc];omega
 ·rw[z,qR,Nat.add_mul,Nat.one_mul];omega
theorem twice (m:Nat)(e:Int):((m*2:Nat):Rat)*2^(e-1)=(m:Rat)*2^e:=by
 have h:=jo m 1 (e-1);rw[show e-1+((1:Nat):Int)=e by omega] at h;exact h
theorem Y8 {n q:Nat}{e:Int}{Y:Rat}(lo:4503599627370496<=q)(hi:q<9007199254740992)(h:Y=(q:Rat)*2^e):Aw Y q e:=by
 refine⟨lo,hi,by rw[h];exact Rat.le_refl,fun hm=>by rw[h,qR];omega,fun hm=>?_⟩;rw[h,<-twice q e,qR];omega
theorem zcN {n k q P r:Nat}{e:Int}(h:Part n k q P r e)(hr:r=0):Aw ((n:Rat)*2^e) q (e+k):=by
 obtain⟨a,b,c,d,z⟩:=h;refine Y8 (n:=n) a b ?_;rw[z];congr 2;omega
theorem zcM {n k q P r:Nat}{e:Int}(h:Part n k q P r e)(hr:r≠0)(hq:q+1≠9007199254740992):Aw ((n:Rat)*2^e) (q+1) (e+k):=by
 obtain⟨a,b,c,d,z⟩:=h;refine⟨by omega,by omega,?_,fun hm=>?_,fun hm=>by omega⟩
 ·rw[z,zc,Nat.add_mul,Nat.one_mul];omega
 ·rw[z,qR,Nat.add_sub_cancel];omega
theorem zcL {n k q P r:Nat}{e:Int}(h:Part n k q P r e)(hr:r≠0)(hq:q+1=9007199254740992):Aw ((n:Rat)*2^e) 4503599627370496 (e+k+1):=by
 obtain⟨a,b,c,d,z⟩:=h;refine⟨by omega,by omega,?_,fun hm=>by omega,fun hm=>?_⟩
 ·have:=twice 4503599627370496 (e+k+1);rw[show(4503599627370496*2:Nat)=q+1 by omega,show e+(k:Int)+1-1=e+k by omega] at this;rw[<-this,z,zc,Nat.add_mul,Nat.one_mul];omega
 ·rw[show e+(k:Int)+1-1=e+k by omega,show(9007199254740991:Nat)=q by omega,z,qR];omega
theorem zbp {n:Nat}(e:Int)(h:n≠0):Tz ((n:Rat)*2^e) (rndM false n e).1 (rndM false n e).2:=by
 unfold rndM;by_cases hb:53<nbits n
 ·have hp:=UP e h hb;have:=hp.hi;have t:=zfL hp;have hq:rndQ false n (nbits n-53)=n/2^(nbits n-53):=if_neg (by intro g;exact absurd g.1 (by decide));rw[if_pos hb,hq,if_neg (by omega)];exact t
 ·obtain⟨a,b⟩:=yJ h (by omega);rw[if_neg hb]
  dsimp only
  refine⟨a,b,?_,?_⟩
  ·rw[KD];exact Rat.le_refl
  ·rw[<-KD n (53-nbits n) e,qR];omega
theorem zbq {n:Nat}(e:Int)(h:n≠0):Aw ((n:Rat)*2^e) (rndM true n e).1 (rndM true n e).2:=by
 unfold rndM;by_cases hb:53<nbits n
 ·have hp:=UP e h hb;have:=hp.hi;rw[if_pos hb];by_cases hr:n % 2^(nbits n-53)=0
  ·have t:=zcN hp hr;have hq:rndQ true n (nbits n-53)=n/2^(nbits n-53):=if_neg (by intro g;exact g.2 hr);rw[hq,if_neg (by omega)];exact t
  ·have hq:rndQ true n (nbits n-53)=n/2^(nbits n-53)+1:=if_pos ⟨rfl,hr⟩;rw[hq];by_cases hq:n/2^(nbits n-53)+1=9007199254740992
   ·have t:=zcL hp hr hq;rw[if_pos hq];exact t
   ·have t:=zcM hp hr hq;rw[if_neg hq];exact t
 ·obtain⟨a,b⟩:=yJ h (by omega);rw[if_neg hb]
  dsimp only
  exact Y8 (n:=n) a b (KD _ _ _).symm
theorem xr {i q m:Nat}(hi:q*4503599627370496+m=i)(h:4503599627370496<=m)(h2:m<=9007199254740992):v (i:Int)=(m:Rat)*2^((q:Int)-1074):=by
 have hV:=V_of q m h2 (.inr h);rw[show q*2^52+m=i from hi] at hV;rw[vc,hV];have:=jo m q (-1074);rw[show(-1074+(q:Int))=(q:Int)-1074 by omega] at this;exact this
theorem Uy {n:Nat}{e:Int}(hm:n<=9007199254740992)(he:e<=-1074):(n:Rat)*2^e<=v (p0-1):=by
 obtain⟨M,hM⟩:∃M:Nat,M=9007199254740992:=⟨_,rfl⟩;have h1:(n:Rat)*2^e<=(M:Rat)*2^e:=zc.2 (by omega);have h2:(M:Rat)*2^e<=(M:Rat)*2^(-1074:Int):=by
  have:=jl he;exact Rat.mul_le_mul_of_nonneg_left this (by exact_mod_cast Nat.zero_le _)
 have h3:=xr (i:=M) (q:=0) (m:=M) (by rw[Nat.zero_mul,Nat.zero_add]) (by omega) (Nat.le_of_eq hM);have h4:v (M:Int)<=v (p0-1):=v_le (by rw[hM];unfold p0;omega);rw[h3] at h4;have e:(((0:Nat):Int)-1074) = -1074:=by omega
 rw[e] at h4;exact Rat.le_trans h1 (Rat.le_trans h2 h4)
theorem nok1:¬ok 1:=by have:=qd;unfold ok;omega
theorem HD {i q m:Nat}{e:Int}(neg:Bool)(hi:q*4503599627370496+m=i)(he:e=(q:Int)-1074)(a:4503599627370496<=m)(b:m<9007199254740992):0<=K (i:Int)/\wW neg m e=if ok (K (i:Int)) then ((K (i:Int)).toNat+(if neg then 9223372036854775808 else 0),true) else (0,false):=by
 have q0:=qd;have r0:p0=123*4503599627370496:=rfl;have r1:p1=1923*4503599627370496:=rfl;obtain⟨k1,k2⟩:=K_ok (i:Int);refine⟨?_,?_⟩
 ·have:K 0<=K (i:Int):=kh (by omega);exact this
 by_cases hk:ok (i:Int)
 ·rw[if_pos (k1.2 hk),k2 hk];unfold ok at hk;rw[zcO (by omega),show m-4503599627370496+4503599627370496*(e+1075).toNat=(i:Int).toNat by omega]
 ·rw[if_neg (fun g=>hk (k1.1 g))];unfold ok at hk;exact xG (by omega)
theorem UQ {Y:Rat}{m:Nat}{e:Int}(hY:0<Y)(h:Tz Y m e)(neg:Bool):∃k,0<=k/\DnK Y k/\wW neg m e=if ok k then (k.toNat+(if neg then 9223372036854775808 else 0),true) else (0,false):=by
 obtain⟨a,b,c,d⟩:=h;by_cases hx:e+1075<1
 ·refine⟨1,by omega,.inr (.inl ⟨hY,?_,rfl⟩),?_⟩
  ·have h1:=Uy (n:=m+1) (e:=e) (by omega) (by omega);have h2:=v_lt (i:=p0-1) (j:=p0) (by omega);grind
  ·rw[if_neg nok1,xG (by omega)]
 ·obtain⟨q,hq⟩:∃q:Nat,e=(q:Int)-1074:=⟨(e+1074).toNat,by omega⟩;obtain⟨i,hi⟩:∃i:Nat,q*4503599627370496+m=i:=⟨_,rfl⟩;have v1:=xr hi a (by omega);have v2:=xr (i:=i+1) (q:=q) (m:=m+1) (by omega) (by omega) (by omega);have hD:Dn Y (i:Int):=⟨by rw[v1,<-hq];exact c,by rw[show(i:Int)+1=((i+1:Nat):Int) by omega,v2,<-hq];exact d⟩;have h1:v 1<=Y:=Rat.le_trans (v_le (by omega)) hD.1;obtain⟨p,p2⟩:=HD neg hi hq a b;exact⟨K i,p,zu hD (.inr (.inl h1)),p2⟩
theorem ziH {i q m M:Nat}(hi:(q+1)*4503599627370496+m=i)(hm:m=4503599627370496)(hM:9007199254740991=M):q*4503599627370496+M=i-1/\4503599627370496<=M/\M<=9007199254740992:=by
 rw[Nat.add_mul,Nat.one_mul] at hi;omega
theorem ziG {i:Nat}(h:1<=i):((i-1:Nat):Int)=(i:Int)-1:=by omega
theorem UR {Y:Rat}{m:Nat}{e:Int}(hY:0<Y)(h:Aw Y m e)(neg:Bool):∃k,0<=k/\UpK Y k/\wW neg m e=if ok k then (k.toNat+(if neg then 9223372036854775808 else 0),true) else (0,false):=by
 obtain⟨a,b,c,d,d2⟩:=h;by_cases hx:e+1075<2
 ·refine⟨1,by omega,(JS hY ?_).2,?_⟩
  ·exact Rat.le_trans c (Uy (by omega) (by omega))
  ·rw[if_neg nok1,xG (by omega)]
 ·obtain⟨q,hq⟩:∃q:Nat,e=((q+1:Nat):Int)-1074:=⟨(e+1073).toNat,by omega⟩;obtain⟨i,hi⟩:∃i:Nat,(q+1)*4503599627370496+m=i:=⟨_,rfl⟩;have v1:=xr hi a (by omega);have hU:Up Y (i:Int):=by
   refine⟨?_,by rw[v1,<-hq];exact c⟩;by_cases hm:m=4503599627370496
   ·have d3:=d2 hm;obtain⟨M,hM⟩:∃M:Nat,9007199254740991=M:=⟨_,rfl⟩;rw[hM] at d3;obtain⟨y1,y2,y3⟩:=ziH hi hm hM;have v2:=xr y1 y2 y3;rw[ziG (by omega)] at v2;rw[v2,show((q:Int)-1074)=e-1 by omega];exact d3
   ·have v2:=xr (i:=i-1) (q:=q+1) (m:=m-1) (by omega) (by omega) (by omega);rw[show((i-1:Nat):Int)=(i:Int)-1 by omega,<-hq] at v2;rw[v2];exact d (by omega)
  obtain⟨p,p2⟩:=HD neg hi hq a b;exact⟨K i,p,Wt hU (.inr (.inl hY)),p2⟩
theorem vb {a:Nm}(h:a.n≠0):0<(a.n:Rat)*2^a.e:=Rat.mul_pos (by exact_mod_cast Nat.pos_of_ne_zero h) (wB _)
theorem WE {k:Int}:ok (-k)↔ok k:=⟨fun h=>by have:=xV h;rwa [Int.neg_neg] at this,xV⟩
theorem JX {k:Int}(h:0<=k):Jt k=k.toNat:=by unfold Jt;rw[if_pos h]
theorem JY {k:Int}(h:0<k):Jt (-k)=k.toNat+9223372036854775808:=by unfold Jt;rw[if_neg (by omega)];omega
theorem DnK.pos {Y:Rat}{k:Int}(hY:0<Y)(h:DnK Y k)(hk:ok k):0<k:=by
 have:=(h.val hk).2;have h2:v (0:Int)<v (k+1):=by rw[wC];grind
 have h3:=jf.1 h2;rcases h with⟨h1,_⟩|⟨_,_,h1⟩|⟨h1,_,h2⟩|⟨h1,h2⟩|⟨_,h1,_⟩|⟨_,h1,_⟩|⟨h1,_⟩
 ·exact absurd h1 (by grind)
 ·omega
 ·have:=h2.ge h1;have:=qd;omega
 ·have:=qd;omega
 ·exact absurd h1 (by grind)
 ·have:=vs;exact absurd h1 (by grind)
 ·have:=vs;exact absurd h1 (by grind)
theorem UpK.pos {Y:Rat}{k:Int}(hY:0<Y)(h:UpK Y k)(hk:ok k):0<k:=by
 have:=(h.val hk).2;have h2:v (0:Int)<v k:=by rw[wC];grind
 exact jf.1 h2
theorem zbm (a:Nm):∃k,DnK (val a) k/\wO false a=if ok k then (Jt k,true) else (0,false):=by
 by_cases h0:a.n=0
 ·refine⟨0,.inl ⟨jm h0,rfl⟩,?_⟩;unfold wO;rw[if_pos h0,if_pos (.inl rfl)];rfl
 have hp:=vb h0;unfold wO;rw[if_neg h0];cases hn:a.neg
 ·obtain⟨k,hk,h1,h2⟩:=UQ hp (zbp a.e h0) false;refine⟨k,?_,?_⟩
  ·unfold val;rw[hn];exact h1
  ·show wW false (rndM false a.n a.e).1 (rndM false a.n a.e).2=_
   rw[h2,JX hk];rfl
 ·obtain⟨k,hk,h1,h2⟩:=UR hp (zbq a.e h0) true;refine⟨-k,?_,?_⟩
  ·unfold val;rw[hn];unfold UpK at h1;rw[if_pos rfl,Rat.neg_mul];exact h1
  ·show wW true (rndM true a.n a.e).1 (rndM true a.n a.e).2=_
   rw[h2];by_cases hk2:ok k
   ·rw[if_pos hk2,if_pos (xV hk2),if_pos rfl,JY (UpK.pos hp h1 hk2)]
   ·rw[if_neg hk2,if_neg (fun g=>hk2 (WE.1 g))]
theorem zbl (a:Nm):∃k,UpK (val a) k/\wO true a=if ok k then (Jt k,true) else (0,false):=by
 by_cases h0:a.n=0
 ·refine⟨0,.inl ⟨by rw[jm h0];grind,rfl⟩,?_⟩;unfold wO;rw[if_pos h0,if_pos (.inl rfl)];rfl
 have hp:=vb h0;unfold wO;rw[if_neg h0];cases hn:a.neg
 ·obtain⟨k,hk,h1,h2⟩:=UR hp (zbq a.e h0) false;refine⟨k,?_,?_⟩
  ·unfold val;rw[hn];exact h1
  ·show wW false (rndM true a.n a.e).1 (rndM true a.n a.e).2=_
   rw[h2,JX hk];rfl
 ·obtain⟨k,hk,h1,h2⟩:=UQ hp (zbp a.e h0) true;refine⟨-k,?_,?_⟩
  ·unfold val UpK;rw[hn];rw[if_pos rfl,Rat.neg_mul,Rat.neg_neg,Int.neg_neg];exact h1
  ·show wW true (rndM false a.n a.e).1 (rndM false a.n a.e).2=_
   rw[h2];by_cases hk2:ok k
   ·rw[if_pos hk2,if_pos (xV hk2),if_pos rfl,JY (DnK.pos hp h1 hk2)]
   ·rw[if_neg hk2,if_neg (fun g=>hk2 (WE.1 g))]
theorem JZ {b:Nat}(h:b<18446744073709551616)(hok:ok (idx b)):Jt (idx b)=if b=9223372036854775808 then 0 else b:=by
 have h1:=jB b;unfold sgn at h1;unfold Jt;have:=qd;by_cases hs:b/2^63 % 2=1
 ·rw[show(b/2^63 % 2==1)=true by rw[hs];rfl,if_pos rfl] at h1;by_cases hz:b=9223372036854775808
  ·rw[if_pos hz,if_pos (by omega)];omega
  ·rw[if_neg hz,if_neg (by omega)];omega
 ·rw[show(b/2^63 % 2==1)=false by simp[hs],if_neg (by decide)] at h1;have h2:0<=idx b:=by omega
  have h3:¬b=9223372036854775808:=by omega
  rw[if_pos h2,if_neg h3];omega
theorem VF {a:Nm}{b:Nat}(hb:b<18446744073709551616)(h:DnK (val a) (K (idx b))):wO false a=if ok (idx b) then (if b=9223372036854775808 then 0 else b,true) else (0,false):=by
 obtain⟨k,h1,h2⟩:=zbm a;have e:=h1.uniq h;subst e;obtain⟨k1,k2⟩:=K_ok (idx b);rw[h2];by_cases hk:ok (idx b)
 ·rw[if_pos (k1.2 hk),if_pos hk,k2 hk,JZ hb hk]
 ·rw[if_neg (fun g=>hk (k1.1 g)),if_neg hk]
theorem VE {a:Nm}{b:Nat}(hb:b<18446744073709551616)(h:UpK (val a) (K (idx b))):wO true a=if ok (idx b) then (if b=9223372036854775808 then 0 else b,true) else (0,false):=by
 obtain⟨k,h1,h2⟩:=zbl a;have e:=h1.uniq h;subst e;obtain⟨k1,k2⟩:=K_ok (idx b);rw[h2];by_cases hk:ok (idx b)
 ·rw[if_pos (k1.2 hk),if_pos hk,k2 hk,JZ hb hk]
 ·rw[if_neg (fun g=>hk (k1.1 g)),if_neg hk]
end Go.Enc.Nu
