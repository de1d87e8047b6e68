/-
  A number of the document rounded to the nearest float. The document's halves of an interval: they are the program's. A number of the document rounded to the nearest float: what is computed. The document's pieces: piece and Roots, by contract. The document's Roots; the comparison of two lists of boxes. A step of kind 6 answers true.
-/
import Derived.Test.YtjlibljfpkmpfaaGreatDoorSa16
import Derived.Test.YtjlibljfpkmpfaaGreatDoorSa30
import Derived.Test.YtjlibljfpkmpfaaGreatDoorSa28
import Derived.Test.YtjlibljfpkmpfaaGreatDoorSa18
import Derived.Test.YtjlibljfpkmpfaaGreatDoorSa21
import Derived.Test.YtjlibljfpkmpfaaGreatDoorSa20
import Derived.Test.YtjlibljfpkmpfaaGreatDoorSa29
import Derived.Test.YtjlibljfpkmpfaaGreatDoorSa15
set_option maxRecDepth 100000
set_option linter.unusedSimpArgs false
set_option linter.unusedVariables false
section
namespace Go.Enc.Nu
open Go.Enc.Fl
def upN (n k:Nat):Bool:=decide (n/2^(k-1) % 2=1)&&(decide (¬n % 2^(k-1)=0)||decide (n/2^k % 2=1))
def rndN (n k:Nat):Nat:=if upN n k=true then n/2^k+1 else n/2^k
def ya (n:Nat)(e:Int):Nat×Int:=
 if 53<nbits n then
  if rndN n (nbits n-53)=9007199254740992 then (4503599627370496,e+(nbits n-53:Nat)+1) else (rndN n (nbits n-53),e+(nbits n-53:Nat))
 else (n*2^(53-nbits n),e-(53-nbits n:Nat))
def wY (a:Nm):Nat×Bool:=if a.n=0 then (0,true) else wW a.neg (ya a.n a.e).1 (ya a.n a.e).2
theorem HK {n P q r s t:Nat}(hP:0<P)(h1:q*(2*P)+s=n)(hs:s<2*P)(h2:r*P+t=n)(ht:t<P) :
  (r % 2=1/\(¬t=0\/q % 2=1)->2*(q+1)*(2*P)<=2*n+2*P/\2*n<=(2*(q+1)+1)*(2*P)/\(2*(q+1)*(2*P)=2*n+2*P\/2*n=(2*(q+1)+1)*(2*P)->(q+1) % 2=0)) /\
  (¬(r % 2=1/\(¬t=0\/q % 2=1))->2*q*(2*P)<=2*n+2*P/\2*n<=(2*q+1)*(2*P)/\(2*q*(2*P)=2*n+2*P\/2*n=(2*q+1)*(2*P)->q % 2=0)):=by
 obtain⟨x,hx⟩:∃x,q*P=x:=⟨_,rfl⟩;have e1:q*(2*P)=2*x:=by rw[Nat.mul_left_comm,hx]
 have e2:2*(q+1)*(2*P)=4*x+4*P:=by rw[Nat.mul_assoc,Nat.add_mul,e1];omega
 have e3:(2*(q+1)+1)*(2*P)=4*x+6*P:=by rw[Nat.add_mul,e2];omega
 have e4:2*q*(2*P)=4*x:=by rw[Nat.mul_assoc,e1];omega
 have e5:(2*q+1)*(2*P)=4*x+2*P:=by rw[Nat.add_mul,e4];omega
 rw[e1] at h1;have hr:r=2*q\/r=2*q+1:=by
  rcases Nat.lt_trichotomy r (2*q) with h|h|h
  ·exfalso;have:=Nat.mul_le_mul_right P (show r+1<=2*q by omega);rw[Nat.add_mul,Nat.mul_assoc 2 q P,hx] at this;omega
  ·exact .inl h
  ·rcases Nat.lt_trichotomy r (2*q+1) with h'|h'|h'
   ·omega
   ·exact .inr h'
   ·exfalso;have:=Nat.mul_le_mul_right P (show 2*q+2<=r by omega);rw[Nat.add_mul,Nat.mul_assoc 2 q P,hx] at this;omega
 have h3:(r=2*q/\s=t)\/(r=2*q+1/\s=P+t):=by
  rcases hr with h|h
  ·left;refine⟨h,?_⟩;rw[h,Nat.mul_assoc,hx] at h2;omega
  ·right;refine⟨h,?_⟩;rw[h,Nat.add_mul,Nat.mul_assoc,hx] at h2;omega
 rw[e2,e3,e4,e5];clear hr h2 e1 e2 e3 e4 e5;refine⟨fun hc=>?_,fun hc=>?_⟩
 ·rcases h3 with⟨a,b⟩|⟨a,b⟩
  ·omega
  ·refine⟨by omega,by omega,fun h=>?_⟩;omega
 ·rcases h3 with⟨a,b⟩|⟨a,b⟩
  ·refine⟨by omega,by omega,fun h=>?_⟩;omega
  ·refine⟨by omega,by omega,fun h=>?_⟩;omega
theorem Qy {n k:Nat}(hk:1<=k):2*rndN n k*2^k<=2*n+2^k/\2*n<=(2*rndN n k+1)*2^k/\(2*rndN n k*2^k=2*n+2^k\/2*n=(2*rndN n k+1)*2^k->rndN n k % 2=0):=by
 obtain⟨P,hP⟩:∃P,2^(k-1)=P:=⟨_,rfl⟩;have hp:0<P:=by rw[<-hP];exact Nat.two_pow_pos _
 have hk2:2^k=2*P:=by rw[<-hP,<-Nat.pow_succ'];congr 1;omega
 have d1:=Nat.div_add_mod n (2^k);have d2:=Nat.div_add_mod n (2^(k-1));have m1:=Nat.mod_lt n (show 0<2*P by omega);have m2:=Nat.mod_lt n hp;unfold rndN upN;rw[hk2] at d1 ⊢;rw[hP] at d2 ⊢;rw[Nat.mul_comm] at d1 d2;obtain⟨A,B⟩:=HK hp d1 m1 d2 m2;by_cases hc:n/P % 2=1/\(¬n % P=0\/n/(2*P) % 2=1)
 ·rw[if_pos (by simpa using hc)];exact A hc
 ·rw[if_neg (fun h=>hc (by simpa using h))];exact B hc
theorem zfA {n:Nat}{e:Int}(h:n≠0)(he : -1022<=e):∃q i:Nat,q*4503599627370496+(ya n e).1=i/\(ya n e).2=(q:Int)-1074/\4503599627370496<=(ya n e).1/\(ya n e).1<9007199254740992/\IsR ((n:Rat)*2^e) (i:Int):=by
 unfold ya;by_cases hb:53<nbits n
 ·rw[if_pos hb];obtain⟨k,hk⟩:∃k,nbits n-53=k:=⟨_,rfl⟩;have hB:=Q9 h hb;rw[hk] at hB ⊢;obtain⟨b1,b2,b3,b4⟩:=VH hB.1 hB.2;obtain⟨q,hq⟩:∃q:Nat,e+(k:Int)=(q:Int)-1074:=⟨(e+k+1074).toNat,by omega⟩;obtain⟨h1,h2,h3⟩:=Qy (n:=n) (k:=k) (by omega);have hr:rndN n k=n/2^k\/rndN n k=n/2^k+1:=by unfold rndN;split<;>simp
  have hl:4503599627370496<=rndN n k:=by omega
  have hu:rndN n k<=9007199254740992:=by omega
  have hs:=scale n (a:=0) (d:=k) (q:=q) (place:=e) (by omega);rw[Nat.pow_zero,Nat.mul_one] at hs;have hI:=zcq (x:=(n:Rat)*2^e) (n:=n) (d:=k) (q:=q) (k:=rndN n k) (R:=q*2^52+rndN n k) rfl hs hu (.inr hB.1) h1 h2 h3;by_cases hc:rndN n k=9007199254740992
  ·rw[if_pos hc];refine⟨q+1,q*2^52+rndN n k,?_,by dsimp only;omega,by dsimp only;omega,by dsimp only;omega,hI⟩
   dsimp only
   rw[hc];omega
  ·rw[if_neg hc];exact⟨q,q*2^52+rndN n k,rfl,hq,hl,by dsimp only;omega,hI⟩
 ·rw[if_neg hb];obtain⟨b1,b2⟩:=yJ h (by omega);have hbp:=(kt h).2.2;obtain⟨q,hq⟩:∃q:Nat,e-((53-nbits n:Nat):Int)=(q:Int)-1074:=⟨(e-((53-nbits n:Nat):Int)+1074).toNat,by omega⟩;refine⟨q,q*4503599627370496+n*2^(53-nbits n),rfl,hq,b1,b2,?_⟩;have hv:=xr (i:=q*4503599627370496+n*2^(53-nbits n)) rfl b1 (Nat.le_of_lt b2);rw[<-KD n (53-nbits n) e,hq,<-hv];exact IsR.self _
theorem Qj {a:Nm}{b:Nat}(hb:b<18446744073709551616)(he : -1022<=a.e)(h:IsR (val a) (idx b)):wY a=if ok (idx b) then (if b=9223372036854775808 then 0 else b,true) else (0,false):=by
 have key:wY a=if ok (idx b) then (Jt (idx b),true) else (0,false):=by
  unfold wY;by_cases h0:a.n=0
  ·rw[if_pos h0];rw[jm h0] at h;have:idx b=0:=h.uniq (by have:=IsR.self 0;rwa [wC] at this);rw[this,if_pos (.inl rfl)];rfl
  ·rw[if_neg h0];obtain⟨q,i,hi,hq,h1,h2,hI⟩:=zfA (e:=a.e) h0 he;obtain⟨hp,hpk⟩:=HD a.neg hi hq h1 h2;obtain⟨k1,k2⟩:=K_ok (i:Int);have hi0:(0:Int)<i:=by omega
   rw[hpk];cases hn:a.neg
   ·have e1:idx b=i:=h.uniq (by unfold val;rw[hn];exact hI);rw[e1];by_cases hk:ok (i:Int)
    ·rw[if_pos (k1.2 hk),if_pos hk,k2 hk,JX (by omega)];rfl
    ·rw[if_neg (fun g=>hk (k1.1 g)),if_neg hk]
   ·have e1:idx b = -(i:Int):=h.uniq (by unfold val;rw[hn,if_pos rfl,Rat.neg_mul];exact hI.neg);rw[e1];by_cases hk:ok (i:Int)
    ·rw[if_pos (k1.2 hk),if_pos (xV hk),k2 hk,JY hi0];rfl
    ·rw[if_neg (fun g=>hk (k1.1 g)),if_neg (fun g=>hk (WE.1 g))]
 rw[key];by_cases hk:ok (idx b)
 ·rw[if_pos hk,if_pos hk,JZ hb hk]
 ·rw[if_neg hk,if_neg hk]
end Go.Enc.Nu
end
section
namespace Go.Enc
open Go.Proofs Go.Enc.Dg Go.Enc.Nu Go.Enc.Fl
theorem nm_e (b:Nat) : -952<=(nm b).e:=by
 by_cases hz:nm b=nzero
 ·rw[hz];decide
 ·obtain⟨p1,p2,p3,p4,p5⟩:=qf hz
  show -952<=((nplain b).1).e
  rw[p2];simp only;omega
def nhalf (X:Nat×Nat):Nm:=⟨(nsum (nm X.1) (nm X.2)).neg,(nsum (nm X.1) (nm X.2)).n,(nsum (nm X.1) (nm X.2)).e-1⟩
theorem ziT {a b:Nm}{k:Int}(ha:k<=a.e)(hb:k<=b.e)(hk:k<=0):k<=(nsum a b).e:=by
 have hl:k<=lev a b:=by unfold lev;omega
 unfold nsum;simp only;split
 ·exact hl
 ·split
  ·exact hk
  ·split<;>exact hl
theorem zbE (a:Nm):val ⟨a.neg,a.n,a.e-1⟩=val a/2:=by
 unfold val;simp only;have h:=wA (a.e-1) 1;rw[show a.e-1+1=a.e by omega] at h;have e4:(2:Rat)^(1:Int)=2:=rfl;rw[e4] at h;rw[h];generalize (2:Rat)^(a.e-1)=z;grind
theorem zaJ {X:Nat×Nat}(g:Gd X):val (nhalf X)=(v (idx X.1)+v (idx X.2))/2:=by
 unfold nhalf;rw[zbE,kj,nval g.l1 g.p1,nval g.l2 g.p2]
theorem UZ (X:Nat×Nat) : -1022<=(nhalf X).e:=by
 have:=ziT (nm_e X.1) (nm_e X.2) (by decide)
 show -1022<=(nsum (nm X.1) (nm X.2)).e-1
 omega
theorem Qh {b:Nat}(hl:b<18446744073709551616)(hp:wg b=true)(hq:posB b=b):wY (nm b)=(b,true):=by
 have h:=Qj (a:=nm b) hl (by have:=nm_e b;omega) (by rw[nval hl hp];exact IsR.self _);rw[h,if_pos ((kI hl).1 hp)];unfold posB at hq;rw[hq]
theorem JE {X:Nat×Nat}(g:Gd X):wY (nhalf X)=if wg (midB X)=true then (posB (midB X),true) else (0,false):=by
 obtain⟨_,_,M⟩:=WI g;have h:=Qj (a:=nhalf X) (b:=midB X) M.lt (UZ X) (by rw[zaJ g];exact M.is);rw[h];by_cases hp:wg (midB X)=true
 ·rw[if_pos ((kI M.lt).1 hp),if_pos hp];rfl
 ·rw[if_neg (fun k=>hp ((kI M.lt).2 k)),if_neg hp]
theorem zim {X:Nat×Nat}(g:Gd X)(hp:wg (midB X)=true):nless (nm X.1) (nm (posB (midB X)))=decide (idx X.1<idx (midB X))/\nless (nm (posB (midB X))) (nm X.2)=decide (idx (midB X)<idx X.2):=by
 obtain⟨_,_,M⟩:=WI g;have hl:posB (midB X)<18446744073709551616:=kB M.lt;have hp':=jq hp;refine⟨?_,?_⟩
 ·have:=QD g.l1 hl g.p1 hp';rw[jS] at this;exact this
 ·have:=QD hl g.l2 hp' g.p2;rw[jS] at this;exact this
def drE (l:List Nat)(X:Nat×Nat):Bool:=decide ((jC l X).2.1=0) && !(decide (idx (jC l X).1.1<=0)&&decide (0<=idx (jC l X).1.2))
theorem YN {E:Nat->Option Value}{q:Nat->Addr}(hq:Sent E q){l:List Nat}(hl:∀x∈l,x<18446744073709551616){X:Nat×Nat}(g:Gd X)(hr:wI l=0):Res1 (jC l X):=by
 obtain⟨h1,_,_⟩:=qb hr;have hR:jC l X=evB (coef l) l.length X (l.length-1):=if_pos hr;rw[hR];exact Zi hq hl hr g _ (by omega)
theorem zfw {E:Nat->Option Value}{q:Nat->Addr}(hq:Sent E q){l:List Nat}(hl:∀x∈l,x<18446744073709551616)(hlen:l.length<=1152921504606846976)(hr:wI l=0):DrOk E l (drE l):=fun X g=>by
 have hc:=U8 hq hl hlen g;have hE:Kh q l X=errD q (jC l X).2.1 (jC l X).2.2:=if_pos hr;refine⟨_,_,hc,?_⟩;rw[hE];rcases YN hq hl g hr with⟨h0,_,gd⟩|⟨h1,h2,_⟩
 ·refine .inl ⟨?_,(jr gd.p1).num,(jr gd.p2).num,?_⟩
  ·rw[h0];rfl
  ·unfold drE;rw[h0];rfl
 ·refine .inr ⟨.inr ⟨(jC l X).2.2,eD q ((jC l X).2.1-1).toNat,if_neg (by omega)⟩,?_⟩
  ·unfold drE;rw[decide_eq_false (by omega)];rfl
end Go.Enc
end
section
namespace Go.Enc
open Go.Proofs Go.Enc.Dg Go.Enc.Nu
theorem nB0 {neg:Bool}{n K q r:Nat}{e:Int}(h:upN n K=false)(h0:n≠0)(hb:53<nbits n)(hK:nbits n-53=K)(B:Big n K q r):wY ⟨neg,n,e⟩=wW neg q (e+K):=by
 have hq:rndN n K=q:=by
  unfold rndN;rw[h,if_neg (by decide),B.q]
 have:=B.hi;unfold wY ya;simp only;rw[if_neg h0,if_pos hb,hK,hq,if_neg (by omega)]
theorem nB1 {neg:Bool}{n K q r:Nat}{e:Int}(h:upN n K=true)(h0:n≠0)(hb:53<nbits n)(hK:nbits n-53=K)(B:Big n K q r)(hc:¬q+1=9007199254740992):wY ⟨neg,n,e⟩=wW neg (q+1) (e+K):=by
 have hq:rndN n K=q+1:=by
  unfold rndN;rw[h,if_pos rfl,B.q]
 unfold wY ya;simp only;rw[if_neg h0,if_pos hb,hK,hq,if_neg hc]
theorem nB2 {neg:Bool}{n K q r half:Nat}{e:Int}(h:upN n K=true)(h0:n≠0)(hb:53<nbits n)(hK:nbits n-53=K)(B:Big n K q r)(hc:q+1=9007199254740992)(hh:4503599627370496=half):wY ⟨neg,n,e⟩=wW neg half (e+K+1):=by
 have hq:rndN n K=q+1:=by
  unfold rndN;rw[h,if_pos rfl,B.q]
 unfold wY ya;simp only;rw[if_neg h0,if_pos hb,hK,hq,if_pos hc,hh]
theorem YY {n:Nat}(h:n≠0):(dg n)[0]?=some (n % 16777216)/\0<(dg n).length:=by
 rw[zw (by omega)];exact⟨rfl,by simp⟩
theorem zhd {n K p t q:Nat}(hp:n/2^(K-1) % 2=p)(ht:n % 2^(K-1)=t)(hq:n/2^K=q):upN n K=(decide (p=1)&&(decide (¬t=0)||decide (q % 2=1))):=by
 unfold upN;rw[hp,ht,hq]
set_option maxHeartbeats 2000000 in
theorem Qk (E:Nat->Option Value){a:Nm}{k:Nat}(ha:NOk a k)(hk:k<=10000000) :
  DQz E 92 [nmD a,intD 0] (.data (.tup [.v (.int .u64 (wY a).1),bD (wY a).2])):=by
 refine dcA Tryz.func92 Tryz.ntmps92 (rs:=[.tmp 4,.tmp 5]) fun _ _ _ _ _=>?_
 obtain⟨neg,n,e⟩:=a;obtain⟨h1,h2,h3⟩:=ha;simp only at h1 h2 h3;have hbl:=RC h1;simp -implicitDefEqProofs only[go_sem];refine cI (jZ _ (h1.sm (by omega))) ?_;by_cases h0:n=0
 ·have e1:=tB (beqT (show((nbits n:Nat):Int)=0 by rw[h0];rfl));have hR:wY ⟨neg,n,e⟩=(0,true):=by unfold wY;rw[if_pos h0]
  rw[hR];simp -implicitDefEqProofs only[go_sem,e1];refine wc ?_;simp -implicitDefEqProofs only[go_sem]
 have e1:(((nbits n:Nat):Int)==0)=false:=beqF (by have:=(kt h0).2.2;omega);by_cases hb:53<nbits n
 ·have e2:decide (((nbits n:Nat):Int)>53)=true:=tD (by omega);obtain⟨half,hhf⟩:∃half,4503599627370496=half:=⟨_,rfl⟩;obtain⟨K,hK⟩:∃K,nbits n-53=K:=⟨_,rfl⟩;have B:=zeB h0 hb;rw[hK] at B;obtain⟨q,hq⟩:∃q,n/2^K=q:=⟨_,rfl⟩;obtain⟨r,hr⟩:∃r,n % 2^K=r:=⟨_,rfl⟩;rw[hq,hr] at B;obtain⟨K1,hK1⟩:∃K1,K-1=K1:=⟨_,rfl⟩;obtain⟨h,hh⟩:∃h,n/2^K1=h:=⟨_,rfl⟩;obtain⟨t,ht⟩:∃t,n % 2^K1=t:=⟨_,rfl⟩;have hq0:h≠0:=by
   have hle:n/2^K<=n/2^K1:=Nat.div_le_div_left (Nat.pow_le_pow_right (by decide) (by omega)) (Nat.two_pow_pos K1);have:=B.lo;rw[hq,hh] at hle;omega
  have hup:upN n K=(decide (h % 2=1)&&(decide (¬t=0)||decide (q % 2=1))):=zhd (by rw[hK1,hh]) (by rw[hK1,ht]) hq;obtain⟨g0,l0⟩:=YY hq0;have hqz:q≠0:=by have:=B.lo;omega
  obtain⟨gq0,lq0⟩:=YY hqz;have hand:=Ul (x:=h % 16777216) (by omega);have handq:=Ul (x:=q % 16777216) (by omega);simp -implicitDefEqProofs only[go_sem,Option.some.injEq,Value.int.injEq,true_and] at hand handq;have m2:∀z:Nat,z % 16777216 % 2=z % 2:=fun z=>by omega
  rw[m2] at hand handq;have hhalf:q+1=9007199254740992->(q+1)/2^1=half:=zdE hhf;have hh1:4503599627370496<=half:=by omega
  have hh2:half<9007199254740992:=by omega
  have b1:=B.lo;have b2:=B.hi;have q1:decide ((0:Int)>0)=false:=by decide
  have q2:decide ((0:Int)<0)=false:=by decide
  have q1':=tV q1;have q2':=tV q2;have q5:=tB' (show((0:Int)==0)=true by decide);have w1:IntKind.i64.wrap (((nbits n:Nat):Int)-53)=(K:Int):=(w64 (by omega)).trans (by omega);have w4:IntKind.i64.wrap ((K:Int)-1)=(K1:Int):=(w64 (by omega)).trans (by omega);have w2:IntKind.i64.wrap (e+(K:Int))=e+(K:Int):=w64 (by omega);have w3:IntKind.i64.wrap (e+(K:Int)+1)=e+(K:Int)+1:=w64 (by omega);have e3:nbits q=53:=yK b1 b2;have e7:decide (((nbits q:Nat):Int)<53)=false:=fD (by omega);have e8:(((nbits q:Nat):Int)==54)=false:=beqF (by omega);simp -implicitDefEqProofs only[go_sem,e1,e2,w1];refine cI (xp _ h1 (by omega) (by omega)) ?_;rw[hq,hr];by_cases hr0:r=0
  ·have e5:T.d (D.v (Value.bool (decide (r=0))))=T.d (D.v (Value.bool true)):=tB' (decide_eq_true hr0);simp -implicitDefEqProofs only[go_sem,e5,q1,q2,q1',q2',q5,w4];refine cI (xp _ h1 (by omega) (by omega)) ?_;rw[hh,ht];simp -implicitDefEqProofs only[go_sem,g0,l0,jd g0,dD,hand,w4];refine cI (xp _ h1 (by omega) (by omega)) ?_;rw[hh,ht];by_cases hp:h % 2=1
   ·have p1:=tB (beqT (show((h % 2:Nat):Int)=1 by omega));by_cases ht0:t=0
    ·have t1:T.d (D.v (Value.bool (decide (t=0))))=T.d (D.v (Value.bool true)):=tB' (decide_eq_true ht0);by_cases hqo:q % 2=1
     ·have o1:=tB (beqT (show((q % 2:Nat):Int)=1 by omega));have hU:upN n K=true:=by rw[hup,decide_eq_true hp,decide_eq_true hqo];simp
      simp -implicitDefEqProofs only[go_sem,p1,t1,o1,gq0,lq0,jd gq0,dD,handq];refine cI (qI _ 1 (by decide)) ?_;simp -implicitDefEqProofs only[go_sem];refine cI (xn _ (sm60 (m:=q) (Nat.le_of_lt b2)) (sm60 (m:=1) (by decide))) ?_;simp -implicitDefEqProofs only[go_sem,w2];refine cI (jZ _ (sm60 (m:=q+1) b2)) ?_;by_cases hc:q+1=9007199254740992
      ·have hR:wY ⟨neg,n,e⟩=wW neg half (e+K+1):=nB2 hU h0 hb hK B hc hhf;have e6:nbits (q+1)=54:=by rw[hc];exact J0
       have e7:decide (((nbits (q+1):Nat):Int)<53)=false:=fD (by omega);have e8:=tB (beqT (show((nbits (q+1):Nat):Int)=54 by omega));rw[hR];simp -implicitDefEqProofs only[go_sem,e7,e8];refine cI (xp _ (k:=1) (bd53 (m:=q+1) b2) (by omega) (by omega)) ?_;rw[hhalf hc];simp -implicitDefEqProofs only[go_sem,w3];refine cI (wS _ neg hh1 hh2 (e:=e+(K:Int)+1) ⟨by omega,by omega⟩) ?_;simp -implicitDefEqProofs only[go_sem];refine wc ?_;simp -implicitDefEqProofs only[go_sem]
      ·have hR:wY ⟨neg,n,e⟩=wW neg (q+1) (e+K):=nB1 hU h0 hb hK B hc;have e6:nbits (q+1)=53:=yK (by omega) (by omega);have e9:decide (((nbits (q+1):Nat):Int)<53)=false:=fD (by omega);have e10:(((nbits (q+1):Nat):Int)==54)=false:=beqF (by omega);rw[hR];simp -implicitDefEqProofs only[go_sem,e9,e10,w2];refine cI (wS _ neg (m:=q+1) (e:=e+(K:Int)) (by omega) (by omega) ⟨by omega,by omega⟩) ?_;simp -implicitDefEqProofs only[go_sem];refine wc ?_;simp -implicitDefEqProofs only[go_sem]
     ·have o1:=tV (beqF (show ¬((q % 2:Nat):Int)=1 by omega));have hR:wY ⟨neg,n,e⟩=wW neg q (e+K):=nB0 (by rw[hup,decide_eq_false hqo];simp[ht0]) h0 hb hK B;rw[hR];simp -implicitDefEqProofs only[go_sem,p1,t1,o1,gq0,lq0,jd gq0,dD,handq,w2];refine cI (jZ _ (sm60 (m:=q) (Nat.le_of_lt b2))) ?_;simp -implicitDefEqProofs only[go_sem,e7,e8,w2];refine cI (wS _ neg B.lo B.hi (e:=e+(K:Int)) ⟨by omega,by omega⟩) ?_;simp -implicitDefEqProofs only[go_sem];refine wc ?_;simp -implicitDefEqProofs only[go_sem]
    ·have t1:=tV (decide_eq_false ht0);have hU:upN n K=true:=by rw[hup,decide_eq_true hp];simp[ht0]
     simp -implicitDefEqProofs only[go_sem,p1,t1];refine cI (qI _ 1 (by decide)) ?_;simp -implicitDefEqProofs only[go_sem];refine cI (xn _ (sm60 (m:=q) (Nat.le_of_lt b2)) (sm60 (m:=1) (by decide))) ?_;simp -implicitDefEqProofs only[go_sem,w2];refine cI (jZ _ (sm60 (m:=q+1) b2)) ?_;by_cases hc:q+1=9007199254740992
     ·have hR:wY ⟨neg,n,e⟩=wW neg half (e+K+1):=nB2 hU h0 hb hK B hc hhf;have e6:nbits (q+1)=54:=by rw[hc];exact J0
      have e7:decide (((nbits (q+1):Nat):Int)<53)=false:=fD (by omega);have e8:=tB (beqT (show((nbits (q+1):Nat):Int)=54 by omega));rw[hR];simp -implicitDefEqProofs only[go_sem,e7,e8];refine cI (xp _ (k:=1) (bd53 (m:=q+1) b2) (by omega) (by omega)) ?_;rw[hhalf hc];simp -implicitDefEqProofs only[go_sem,w3];refine cI (wS _ neg hh1 hh2 (e:=e+(K:Int)+1) ⟨by omega,by omega⟩) ?_;simp -implicitDefEqProofs only[go_sem];refine wc ?_;simp -implicitDefEqProofs only[go_sem]
     ·have hR:wY ⟨neg,n,e⟩=wW neg (q+1) (e+K):=nB1 hU h0 hb hK B hc;have e6:nbits (q+1)=53:=yK (by omega) (by omega);have e9:decide (((nbits (q+1):Nat):Int)<53)=false:=fD (by omega);have e10:(((nbits (q+1):Nat):Int)==54)=false:=beqF (by omega);rw[hR];simp -implicitDefEqProofs only[go_sem,e9,e10,w2];refine cI (wS _ neg (m:=q+1) (e:=e+(K:Int)) (by omega) (by omega) ⟨by omega,by omega⟩) ?_;simp -implicitDefEqProofs only[go_sem];refine wc ?_;simp -implicitDefEqProofs only[go_sem]
   ·have p1:=tV (beqF (show ¬((h % 2:Nat):Int)=1 by omega));have hR:wY ⟨neg,n,e⟩=wW neg q (e+K):=nB0 (by rw[hup,decide_eq_false hp];rfl) h0 hb hK B;rw[hR];simp -implicitDefEqProofs only[go_sem,p1,w2];refine cI (jZ _ (sm60 (m:=q) (Nat.le_of_lt b2))) ?_;simp -implicitDefEqProofs only[go_sem,e7,e8,w2];refine cI (wS _ neg B.lo B.hi (e:=e+(K:Int)) ⟨by omega,by omega⟩) ?_;simp -implicitDefEqProofs only[go_sem];refine wc ?_;simp -implicitDefEqProofs only[go_sem]
  ·have e5:decide (r=0)=false:=decide_eq_false hr0;simp -implicitDefEqProofs only[go_sem,e5,q1,q2,q1',q2',q5,w4];refine cI (xp _ h1 (by omega) (by omega)) ?_;rw[hh,ht];simp -implicitDefEqProofs only[go_sem,g0,l0,jd g0,dD,hand,w4];refine cI (xp _ h1 (by omega) (by omega)) ?_;rw[hh,ht];by_cases hp:h % 2=1
   ·have p1:=tB (beqT (show((h % 2:Nat):Int)=1 by omega));by_cases ht0:t=0
    ·have t1:T.d (D.v (Value.bool (decide (t=0))))=T.d (D.v (Value.bool true)):=tB' (decide_eq_true ht0);by_cases hqo:q % 2=1
     ·have o1:=tB (beqT (show((q % 2:Nat):Int)=1 by omega));have hU:upN n K=true:=by rw[hup,decide_eq_true hp,decide_eq_true hqo];simp
      simp -implicitDefEqProofs only[go_sem,p1,t1,o1,gq0,lq0,jd gq0,dD,handq];refine cI (qI _ 1 (by decide)) ?_;simp -implicitDefEqProofs only[go_sem];refine cI (xn _ (sm60 (m:=q) (Nat.le_of_lt b2)) (sm60 (m:=1) (by decide))) ?_;simp -implicitDefEqProofs only[go_sem,w2];refine cI (jZ _ (sm60 (m:=q+1) b2)) ?_;by_cases hc:q+1=9007199254740992
      ·have hR:wY ⟨neg,n,e⟩=wW neg half (e+K+1):=nB2 hU h0 hb hK B hc hhf;have e6:nbits (q+1)=54:=by rw[hc];exact J0
       have e7:decide (((nbits (q+1):Nat):Int)<53)=false:=fD (by omega);have e8:=tB (beqT (show((nbits (q+1):Nat):Int)=54 by omega));rw[hR];simp -implicitDefEqProofs only[go_sem,e7,e8];refine cI (xp _ (k:=1) (bd53 (m:=q+1) b2) (by omega) (by omega)) ?_;rw[hhalf hc];simp -implicitDefEqProofs only[go_sem,w3];refine cI (wS _ neg hh1 hh2 (e:=e+(K:Int)+1) ⟨by omega,by omega⟩) ?_;simp -implicitDefEqProofs only[go_sem];refine wc ?_;simp -implicitDefEqProofs only[go_sem]
      ·have hR:wY ⟨neg,n,e⟩=wW neg (q+1) (e+K):=nB1 hU h0 hb hK B hc;have e6:nbits (q+1)=53:=yK (by omega) (by omega);have e9:decide (((nbits (q+1):Nat):Int)<53)=false:=fD (by omega);have e10:(((nbits (q+1):Nat):Int)==54)=false:=beqF (by omega);rw[hR];simp -implicitDefEqProofs only[go_sem,e9,e10,w2];refine cI (wS _ neg (m:=q+1) (e:=e+(K:Int)) (by omega) (by omega) ⟨by omega,by omega⟩) ?_;simp -implicitDefEqProofs only[go_sem];refine wc ?_;simp -implicitDefEqProofs only[go_sem]
     ·have o1:=tV (beqF (show ¬((q % 2:Nat):Int)=1 by omega));have hR:wY ⟨neg,n,e⟩=wW neg q (e+K):=nB0 (by rw[hup,decide_eq_false hqo];simp[ht0]) h0 hb hK B;rw[hR];simp -implicitDefEqProofs only[go_sem,p1,t1,o1,gq0,lq0,jd gq0,dD,handq,w2];refine cI (jZ _ (sm60 (m:=q) (Nat.le_of_lt b2))) ?_;simp -implicitDefEqProofs only[go_sem,e7,e8,w2];refine cI (wS _ neg B.lo B.hi (e:=e+(K:Int)) ⟨by omega,by omega⟩) ?_;simp -implicitDefEqProofs only[go_sem];refine wc ?_;simp -implicitDefEqProofs only[go_sem]
    ·have t1:=tV (decide_eq_false ht0);have hU:upN n K=true:=by rw[hup,decide_eq_true hp];simp[ht0]
     simp -implicitDefEqProofs only[go_sem,p1,t1];refine cI (qI _ 1 (by decide)) ?_;simp -implicitDefEqProofs only[go_sem];refine cI (xn _ (sm60 (m:=q) (Nat.le_of_lt b2)) (sm60 (m:=1) (by decide))) ?_;simp -implicitDefEqProofs only[go_sem,w2];refine cI (jZ _ (sm60 (m:=q+1) b2)) ?_;by_cases hc:q+1=9007199254740992
     ·have hR:wY ⟨neg,n,e⟩=wW neg half (e+K+1):=nB2 hU h0 hb hK B hc hhf;have e6:nbits (q+1)=54:=by rw[hc];exact J0
      have e7:decide (((nbits (q+1):Nat):Int)<53)=false:=fD (by omega);have e8:=tB (beqT (show((nbits (q+1):Nat):Int)=54 by omega));rw[hR];simp -implicitDefEqProofs only[go_sem,e7,e8];refine cI (xp _ (k:=1) (bd53 (m:=q+1) b2) (by omega) (by omega)) ?_;rw[hhalf hc];simp -implicitDefEqProofs only[go_sem,w3];refine cI (wS _ neg hh1 hh2 (e:=e+(K:Int)+1) ⟨by omega,by omega⟩) ?_;simp -implicitDefEqProofs only[go_sem];refine wc ?_;simp -implicitDefEqProofs only[go_sem]
     ·have hR:wY ⟨neg,n,e⟩=wW neg (q+1) (e+K):=nB1 hU h0 hb hK B hc;have e6:nbits (q+1)=53:=yK (by omega) (by omega);have e9:decide (((nbits (q+1):Nat):Int)<53)=false:=fD (by omega);have e10:(((nbits (q+1):Nat):Int)==54)=false:=beqF (by omega);rw[hR];simp -implicitDefEqProofs only[go_sem,e9,e10,w2];refine cI (wS _ neg (m:=q+1) (e:=e+(K:Int)) (by omega) (by omega) ⟨by omega,by omega⟩) ?_;simp -implicitDefEqProofs only[go_sem];refine wc ?_;simp -implicitDefEqProofs only[go_sem]
   ·have p1:=tV (beqF (show ¬((h % 2:Nat):Int)=1 by omega));have hR:wY ⟨neg,n,e⟩=wW neg q (e+K):=nB0 (by rw[hup,decide_eq_false hp];rfl) h0 hb hK B;rw[hR];simp -implicitDefEqProofs only[go_sem,p1,w2];refine cI (jZ _ (sm60 (m:=q) (Nat.le_of_lt b2))) ?_;simp -implicitDefEqProofs only[go_sem,e7,e8,w2];refine cI (wS _ neg B.lo B.hi (e:=e+(K:Int)) ⟨by omega,by omega⟩) ?_;simp -implicitDefEqProofs only[go_sem];refine wc ?_;simp -implicitDefEqProofs only[go_sem]
 ·have e2:decide (((nbits n:Nat):Int)>53)=false:=fD (by omega);obtain⟨g1,g2⟩:=yJ h0 (by omega);have hR:wY ⟨neg,n,e⟩=wW neg (n*2^(53-nbits n)) (e-(53-nbits n:Nat)):=by
   unfold wY ya;simp only;rw[if_neg h0,if_neg hb]
  rw[hR];by_cases hs:nbits n<53
  ·have e3:decide (((nbits n:Nat):Int)<53)=true:=tD (by omega);have e4:(((nbits n:Nat):Int)==54)=false:=beqF (by omega);have w1:IntKind.i64.wrap (53-((nbits n:Nat):Int))=((53-nbits n:Nat):Int):=(w64 (by omega)).trans (by omega);have w2:IntKind.i64.wrap (e-((53-nbits n:Nat):Int))=e-((53-nbits n:Nat):Int):=w64 (by omega);simp -implicitDefEqProofs only[go_sem,e1,e2,e3,w1];refine cI (up_c _ h1 (by omega) (by omega)) ?_;simp -implicitDefEqProofs only[go_sem,w1,w2,e4];refine cI (wS _ neg g1 g2 (e:=e-((53-nbits n:Nat):Int)) ⟨by omega,by omega⟩) ?_;simp -implicitDefEqProofs only[go_sem];refine wc ?_;simp -implicitDefEqProofs only[go_sem]
  ·have e3:nbits n=53:=by omega
   have e4:n*2^(53-nbits n)=n:=by rw[e3];exact Nat.mul_one n
   have e5:e-((53-nbits n:Nat):Int)=e:=by omega
   have e7:decide (((nbits n:Nat):Int)<53)=false:=fD (by omega);have e8:(((nbits n:Nat):Int)==54)=false:=beqF (by omega);rw[e4] at g1 g2 ⊢;rw[e5];simp -implicitDefEqProofs only[go_sem,e1,e2,e7,e8];refine cI (wS _ neg g1 g2 (e:=e) ⟨by omega,by omega⟩) ?_;simp -implicitDefEqProofs only[go_sem];refine wc ?_;simp -implicitDefEqProofs only[go_sem]
end Go.Enc
end
section
namespace Go.Enc
open Go.Proofs Go.Enc.Dg Go.Enc.Nu Go.Enc.Fl Go.RowKit
theorem NOk.half {X:Nat×Nat}:NOk (nhalf X) 2000054:=by
 have h:=NOk.sum (ja X.1) (ja X.2);have h2:=UZ X;exact⟨h.n.mono (by omega),by omega,by have h3:=h.hi;show(nsum (nplain X.1).1 (nplain X.2).1).e-1<=1000000;omega⟩
theorem zin {X:Nat×Nat}(g:Gd X):((wY (nhalf X)).2&&(nless (nm X.1) (nm (wY (nhalf X)).1)&&nless (nm (wY (nhalf X)).1) (nm X.2)))=goB X:=by
 rw[JE g];unfold goB;by_cases hp:wg (midB X)=true
 ·obtain⟨h1,h2⟩:=zim g hp;rw[if_pos hp,hp];simp only;rw[h1,h2]
 ·rw[if_neg hp];have:wg (midB X)=false:=by simpa using hp
  rw[this];rfl
section
variable {E:Nat->Option Value} {q:Nat->Addr} {l:List Nat} {x:Nat×Nat}
theorem zdO:Gd (0,0):=⟨by decide,by decide,by decide,by decide,by decide,rfl,rfl⟩
theorem Ro (hq:Sent E q)(hl:∀x∈l,x<18446744073709551616){X:Nat×Nat}(g:Gd X)(hr:wI l=0):Gd (jC l X).1:=by
 rcases YN hq hl g hr with⟨_,_,gd⟩|⟨_,_,h⟩
 ·exact gd
 ·rw[h];exact zdO
theorem U4 (E:Nat->Option Value){X:Nat×Nat}(g:Gd X):DQz E 46 [boxD X] (.data (nvD (nm X.1) (nm X.2))):=by
 have e:=JJ g;have h:=WJ E (x:=X) g.l1 g.l2 (by rw[e];exact g.l1) (by rw[e];exact g.l2);rw[e] at h;exact h
theorem U3 (E:Nat->Option Value)(x1:x.1<18446744073709551616)(x2:x.2<18446744073709551616):DQz E 46 [boxD x] (.data (nvD (nm (mk2 x).1) (nm (mk2 x).2))):=
 WJ E x1 x2 (jO x1 x2).l1 (jO x1 x2).l2
theorem YD (E:Nat->Option Value){X:Nat×Nat}(g:Gd X):DQz E 98 [nvD (nm X.1) (nm X.2)] (.data (bD (decide (idx X.1<=0)&&decide (0<=idx X.2)))):=by
 have h:=YE E (nm X.1) (nm X.2);rw[zj g] at h;exact h
theorem ZT (hq:Sent E q)(hl:∀x∈l,x<18446744073709551616)(hlen:l.length<=1152921504606846976)(hr:wI l=0)(x1:x.1<18446744073709551616)(x2:x.2<18446744073709551616){d:Nat}(hd:drE l (mk2 x)=true) :
  DQz E 70 [usD l,boxD x,intD d] (.own 27 2 true []):=by
 refine zfM ?_;have gX:=jO x1 x2;have gR:=Ro hq hl gX hr;have c1:=U3 E x1 x2;have c2:=VJ hq hl hlen x1 x2;have c3:=U4 E gR;have c4:=YD E gR;unfold drE at hd;obtain⟨R,hR⟩:∃R,jC l (mk2 x)=R:=⟨_,rfl⟩;rw[hR] at hd gR c2 c3 c4;obtain⟨⟨r1,r2⟩,e,s⟩:=R;simp only at hd gR c2 c3 c4;simp only[Bool.and_eq_true,decide_eq_true_eq] at hd;obtain⟨he,hz⟩:=hd;obtain⟨z,hzz⟩:∃z,(decide (idx r1<=0)&&decide (0<=idx r2))=z:=⟨_,rfl⟩;rw[hzz] at c4 hz;have hz:z=false:=by simpa using hz
 rw[hz] at c4;have q1:=tB (beqT he);refine dcA Tryz.func70 Tryz.ntmps70 (rs:=[.tmp 6]) fun _ _ _ _ _=>?_
 simp -implicitDefEqProofs only[go_sem];refine cI c1 ?_;simp -implicitDefEqProofs only[go_sem];refine cI c2 ?_;simp -implicitDefEqProofs only[go_sem];refine cI c3 ?_;simp -implicitDefEqProofs only[go_sem];refine cI c4 ?_;simp -implicitDefEqProofs only[go_sem,q1,finK]
abbrev pS (l:List Nat)(d:Nat)(X:Nat×Nat):St:=St.of [(0,.d (usD l)),(2,.d (intD d)),(7,.ptr 7 0)]
 [(7,⟨none,[.d (bD (nm X.1).neg),.d (natD (nm X.1).n),.d (intD (nm X.1).e),.d (bD (nm X.2).neg),.d (natD (nm X.2).n),.d (intD (nm X.2).e)]⟩)]
theorem ZV (hq:Sent E q)(hl:∀x∈l,x<18446744073709551616)(hlen:l.length<=1152921504606846976)(hr:wI l=0)(x1:x.1<18446744073709551616)(x2:x.2<18446744073709551616){d:Nat}(hd:drE l (mk2 x)=false)
  {C:Ctx} (hP:C.P=Tryz.prog) (hE:C.E=E) (hn:C.n=119) (hk:C.kb=0) {c:Code} (hcode:Tryz.f70.body=some c) :
  DC C (cutC 6 c).1 (QW (pS l d (mk2 x))) (St.init [usD l,boxD x,intD d]):=by
 have gX:=jO x1 x2;have gR:=Ro hq hl gX hr;have c1:=U3 E x1 x2;have c2:=VJ hq hl hlen x1 x2;have c3:=U4 E gR;have c4:=YD E gR;unfold drE at hd;obtain⟨R,hR⟩:∃R,jC l (mk2 x)=R:=⟨_,rfl⟩;rw[hR] at hd gR c2 c3 c4;obtain⟨⟨r1,r2⟩,e,s⟩:=R;simp only at hd gR c2 c3 c4;obtain⟨z,hzz⟩:∃z,(decide (idx r1<=0)&&decide (0<=idx r2))=z:=⟨_,rfl⟩;rw[hzz] at c4 hd;obtain⟨P,E',σ0,w0,base,n,kb,df,G0⟩:=C;simp only at hP hE hn hk;subst hP hE hn hk;simp only[Tryz.f70,Option.some.injEq] at hcode;subst hcode;simp only[cutC];simp -implicitDefEqProofs only[go_sem];refine cI c1 ?_;simp -implicitDefEqProofs only[go_sem];refine cI c2 ?_;simp -implicitDefEqProofs only[go_sem];refine cI c3 ?_;simp -implicitDefEqProofs only[go_sem];refine cI c4 ?_;by_cases he:e=0
 ·have hz:z=true:=by
   cases z
   ·rw[he] at hd;cases hd
   ·rfl
  have q1:=tB (beqT he);simp -implicitDefEqProofs only[go_sem,q1,hz,QW,pS];refine we ?_ ?_ rfl<;>simp -implicitDefEqProofs only[go_sem]
 ·have q1:=tV (beqF he);simp -implicitDefEqProofs only[go_sem,q1,QW,pS];refine we ?_ ?_ rfl<;>simp -implicitDefEqProofs only[go_sem]
abbrev pS2 (l:List Nat)(d:Nat)(X:Nat×Nat)(m:Nat)(ok b1 b2:Bool):St:=St.of [(0,.d (usD l)),(2,.d (intD d)),(14,.d (.v (.int .u64 m))),(15,.d (bD ok)),(18,.d (bD b1)),(19,.d (bD b2)),(20,.d (.v (.int .u64 X.1))),(22,.d (.v (.int .u64 X.2)))] []
theorem ZU {d:Nat}{X:Nat×Nat}(g:Gd X){m:Nat}{ok:Bool}(hm:wY (nhalf X)=(m,ok))(hml:m<18446744073709551616){C:Ctx}(hP:C.P=Tryz.prog)(hE:C.E=E)(hn:C.n=119)(hk:C.kb=0){c:Code}(hcode:Tryz.f70.body=some c) :
  DC C (cutC 8 (cutC 6 c).2).1 (QW (pS2 l d X m ok (nless (nm X.1) (nm m)) (nless (nm m) (nm X.2)))) (pS l d X):=by
 have c1:=zZ E (ja X.1) (ja X.2) (by decide);have c2:=Qk E (NOk.half (X:=X)) (by decide);have c3:=xP E hml;have c4:=kE E (ja X.1) (ja m) (by decide);have c5:=kE E (ja m) (ja X.2) (by decide);have c6:=Qk E (ja X.1) (by decide);have c7:=Qk E (ja X.2) (by decide);rw[Qh g.l1 g.p1 g.q1] at c6;rw[Qh g.l2 g.p2 g.q2] at c7;have hso:=NOk.sum (ja X.1) (ja X.2);obtain⟨sg,sn,se,hs⟩:∃sg sn se,nsum (nm X.1) (nm X.2)=⟨sg,sn,se⟩:=⟨_,_,_,rfl⟩;have hh:nhalf X=⟨sg,sn,se-1⟩:=by unfold nhalf;rw[hs]
 have hs':nsum (nplain X.1).1 (nplain X.2).1=⟨sg,sn,se⟩:=hs;rw[hs'] at hso;have w1:IntKind.i64.wrap (se-1)=se-1:=w64 (by have:=hso.lo;have:=hso.hi;simp only at *;omega);rw[hs'] at c1;rw[hm,hh] at c2;obtain⟨L,hL⟩:∃L,nless (nplain X.1).1 (nplain m).1=L:=⟨_,rfl⟩;obtain⟨H,hH⟩:∃H,nless (nplain m).1 (nplain X.2).1=H:=⟨_,rfl⟩;rw[hL] at c4;rw[hH] at c5
 show DC _ _ (QW (pS2 l d X m ok (nless (nplain X.1).1 (nplain m).1) (nless (nplain m).1 (nplain X.2).1))) _
 rw[hL,hH];obtain⟨P,E',σ0,w0,base,n,kb,df,G0⟩:=C;simp only at hP hE hn hk;subst hP hE hn hk;simp only[Tryz.f70,Option.some.injEq] at hcode;subst hcode;simp only[cutC];simp only[pS];simp -implicitDefEqProofs only[go_sem];refine cI c1 ?_;simp -implicitDefEqProofs only[go_sem,w1];refine cI c2 ?_;simp -implicitDefEqProofs only[go_sem];refine cI c3 ?_;simp -implicitDefEqProofs only[go_sem];refine cI c4 ?_;simp -implicitDefEqProofs only[go_sem];refine cI c5 ?_;simp -implicitDefEqProofs only[go_sem];refine cI c6 ?_;simp -implicitDefEqProofs only[go_sem];refine cI c7 ?_;simp -implicitDefEqProofs only[go_sem,QW,pS2];refine we ?_ ?_ rfl<;>simp -implicitDefEqProofs only[go_sem]
theorem ZS {d:Nat}{X:Nat×Nat}{m:Nat}{ok b1 b2:Bool}(hb:(decide (d=0) || !(ok&&(b1&&b2)))=true){C:Ctx}(hP:C.P=Tryz.prog)(hn:C.n=119)(hk:C.kb=0){c:Code}(hcode:Tryz.f70.body=some c) :
  DC C (cutC 8 (cutC 6 c).2).2 (Post C [.tmp 6] (.own 27 2 false (boxC [X]))) (pS2 l d X m ok b1 b2):=by
 obtain⟨P,E',σ0,w0,base,n,kb,df,G0⟩:=C;simp only at hP hn hk;subst hP hn hk;simp only[Tryz.f70,Option.some.injEq] at hcode;subst hcode;simp only[cutC];simp only[pS2];by_cases h0:d=0
 ·have q1:=tB (beqT (show(d:Int)=0 by omega));simp -implicitDefEqProofs only[go_sem,q1,finK,boxC,List.flatMap_cons,List.flatMap_nil,List.append_nil];exact⟨101,rfl,rfl⟩
 have q1:=tV (beqF (show ¬(d:Int)=0 by omega));rw[decide_eq_false h0,Bool.false_or] at hb;cases ok
 ·simp -implicitDefEqProofs only[go_sem,q1,finK,boxC,List.flatMap_cons,List.flatMap_nil,List.append_nil];exact⟨101,rfl,rfl⟩
 cases b1
 ·simp -implicitDefEqProofs only[go_sem,q1,finK,boxC,List.flatMap_cons,List.flatMap_nil,List.append_nil];exact⟨101,rfl,rfl⟩
 cases b2
 ·simp -implicitDefEqProofs only[go_sem,q1,finK,boxC,List.flatMap_cons,List.flatMap_nil,List.append_nil];exact⟨101,rfl,rfl⟩
 ·cases hb
theorem R1 {d:Nat}{X:Nat×Nat}{m:Nat}{A B:List (Nat×Nat)}(hd:d<=8)(hA:A.length<=1000000)(hB:B.length<=1000000)(ca:DQz E 70 [usD l,boxD (X.1,m),intD d] (.own 27 2 true (boxC A)))
  (cb:DQz E 70 [usD l,boxD (m,X.2),intD d] (.own 27 2 true (boxC B))) {C:Ctx} (hP:C.P=Tryz.prog) (hE:C.E=E) (hn:C.n=119) (hk:C.kb=0) {c:Code} (hcode:Tryz.f70.body=some c) :
  DC C (cutC 8 (cutC 6 c).2).2 (Post C [.tmp 6] (.own 27 2 true (boxC (A++B)))) (pS2 l (d+1) X m true true true):=by
 have q1:=tV (beqF (show ¬((d+1:Nat):Int)=0 by omega));have w1:IntKind.i64.wrap (((d+1:Nat):Int)-1)=(d:Int):=by rw[w64 (by omega)];omega
 have hla:=Q7 A;have hlb:=Q7 B;obtain⟨P,E',σ0,w0,base,n,kb,df,G0⟩:=C;simp only at hP hE hn hk;subst hP hE hn hk;simp only[Tryz.f70,Option.some.injEq] at hcode;subst hcode;simp only[cutC];simp only[pS2];simp -implicitDefEqProofs only[go_sem,q1,w1];refine cI ca ?_;simp -implicitDefEqProofs only[go_sem,w1];refine cI cb ?_;simp -implicitDefEqProofs only[go_sem,zdz];have hmax:=mxE;rw[List.length_map,List.length_map,hla,hlb];refine⟨by omega,by omega,118,rfl,?_⟩;rw[if_pos rfl,<-List.map_append,List.map_map];rfl
theorem zgT (X:Nat×Nat)(L:List (Nat×Nat)):boxC (X :: L)≠[]:=by
 unfold boxC;simp
theorem Qf (hq:Sent E q)(hl:∀x∈l,x<18446744073709551616)(hlen:l.length<=1152921504606846976)(hr:wI l=0):∀(d:Nat),d<=8->∀(x:Nat×Nat),x.1<18446744073709551616->x.2<18446744073709551616 ->
  DQz E 70 [usD l,boxD x,intD d] (.own 27 2 true (boxC (pcs (drE l) d (mk2 x))))
 |d,hd,x,x1,x2=>by
  have g:=jO x1 x2;cases hdr:drE l (mk2 x)
  ·obtain⟨m,ok,hm⟩:∃m ok,wY (nhalf (mk2 x))=(m,ok):=⟨_,_,rfl⟩;have hml:m<18446744073709551616:=by
    have h:=JE g;rw[hm] at h;obtain⟨_,_,M⟩:=WI g;split at h
    ·rw[(Prod.mk.inj h).1];exact kB M.lt
    ·rw[(Prod.mk.inj h).1];decide
   have hgo:=zin g;rw[hm] at hgo;simp only at hgo;have leaf:(decide (d=0) || !goB (mk2 x))=true->DQz E 70 [usD l,boxD x,intD d] (.own 27 2 true (boxC [mk2 x])):=fun hb=>by
    refine zcQ (zgT _ _) ?_;rw[<-hgo] at hb;refine Jl Tryz.func70 rfl (by kernel_rfl) Tryz.ntmps70 (by simp) (rs:=[.tmp 6]) rfl (fun C hP hE hn hk=>?_);refine xD 6 (by rw[hn];kernel_rfl) (ZV hq hl hlen hr x1 x2 hdr hP hE hn hk rfl) ?_;refine xD 8 (by rw[hn];kernel_rfl) (ZU g hm hml hP hE hn hk rfl) ?_;exact kM (by rw[hn];kernel_rfl) (ZS hb hP hn hk rfl)
   cases d with
   |zero=>
    have:pcs (drE l) 0 (mk2 x)=[mk2 x]:=by unfold pcs;rw[if_neg (by rw[hdr];decide)]
    rw[this];exact leaf rfl
   |succ d=>
    cases hg:goB (mk2 x)
    ·have:pcs (drE l) (d+1) (mk2 x)=[mk2 x]:=by unfold pcs;rw[if_neg (by rw[hdr];decide),if_neg (by rw[hg];decide)]
     rw[this];exact leaf (by rw[hg];simp)
    ·obtain⟨_,_,M⟩:=WI g;have hmm:m=posB (midB (mk2 x))/\ok=true:=by
      have h:=JE g;rw[hm] at h;have hp:wg (midB (mk2 x))=true:=by
       unfold goB at hg;simp only[Bool.and_eq_true] at hg;exact hg.1
      rw[if_pos hp] at h;exact Prod.mk.inj h
     obtain⟨hmm,hok⟩:=hmm;have gl:=Rg g hg M.lt;have gr:=YJ g hg M.lt;rw[<-hmm] at gl gr;have ca:=Qf hq hl hlen hr d (by omega) ((mk2 x).1,m) gl.l1 gl.l2;have cb:=Qf hq hl hlen hr d (by omega) (m,(mk2 x).2) gr.l1 gr.l2;rw[JJ gl] at ca;rw[JJ gr] at cb;have hpc:pcs (drE l) (d+1) (mk2 x)=pcs (drE l) d ((mk2 x).1,m)++pcs (drE l) d (m,(mk2 x).2):=by
      show(if _ then _ else _)=_
      rw[if_neg (by rw[hdr];decide),if_pos hg,<-hmm]
     have h2:2^d<=256:=Nat.pow_le_pow_right (n:=2) (by decide) (show d<=8 by omega);have hA:=yd (drE l) d ((mk2 x).1,m);have hB:=yd (drE l) d (m,(mk2 x).2);rw[hpc];rw[hg,hok] at hgo;simp only[Bool.and_eq_true,true_and] at hgo;refine Jl Tryz.func70 rfl (by kernel_rfl) Tryz.ntmps70 (by simp) (rs:=[.tmp 6]) rfl (fun C hP hE hn hk=>?_);refine xD 6 (by rw[hn];kernel_rfl) (ZV hq hl hlen hr x1 x2 hdr hP hE hn hk rfl) ?_;refine xD 8 (by rw[hn];kernel_rfl) (ZU g hm hml hP hE hn hk rfl) ?_;rw[hgo.1,hgo.2,hok];exact kM (by rw[hn];kernel_rfl) (R1 (by omega) (by omega) (by omega) ca cb hP hE hn hk rfl)
  ·have:pcs (drE l) d (mk2 x)=[]:=by cases d<;>· unfold pcs;rw[if_pos hdr]
   rw[this];exact ZT hq hl hlen hr x1 x2 hdr
end
end Go.Enc
end
section
namespace Go.Enc
open Go.Proofs Go.Enc.Dg Go.Enc.Nu Go.Enc.Fl Go.RowKit
def vp (l:List Nat)(X:Nat×Nat)(d:Int):List (Nat×Nat):=if wI l=0/\0<=d/\d<=8 then pcs (drE l) d.toNat X else []
theorem Wu {σ:Mem}{u:Value}{n:Nat}{ds:List D}(h:Rep σ (.tup (.v (.slice none 0 0) :: ds)) u):Rep σ (.tup (.sl n [] :: ds)) u:=by
 simp only[Rep,RepL] at h ⊢;obtain⟨us,rfl,u1,r1,e1,h1,h2⟩:=h;exact⟨us,rfl,u1,r1,e1,.inl ⟨h1,trivial⟩,h2⟩
section
variable {E:Nat->Option Value} {q:Nat->Addr} {l:List Nat} {x:Nat×Nat}
theorem zbj (hq:Sent E q)(hl:∀x∈l,x<18446744073709551616)(hlen:l.length<=1152921504606846976)(x1:x.1<18446744073709551616)(x2:x.2<18446744073709551616)(d:Int) :
  DQz E 27 [usD l,boxD x,intD d] (.data (.tup [.sl 2 (boxC (vp l (mk2 x) d)),intD (jJ l d)])):=by
 have c1:=ZR E hl hlen;unfold vp jJ;by_cases hr:wI l=0
 ·by_cases h0:d<0
  ·rw[if_neg (by omega),if_pos hr,if_neg (by omega)];have q1:=tB' (tD h0);have n00:((0:Int) != 0)=false:=by decide
   rw[hr] at c1;refine DCall.weak (d:=(.tup [.v (.slice none 0 0),intD 8])) ?_ (fun σ u h=>Wu h);refine dcA Tryz.func27 Tryz.ntmps27 (rs:=[.tmp 6,.tmp 7]) fun σ0 w0 base df G0=>?_
   simp -implicitDefEqProofs only[go_sem];refine cI c1 ?_;simp -implicitDefEqProofs only[go_sem,n00,q1];refine wc ?_;simp -implicitDefEqProofs only[go_sem]
  by_cases h8:d>8
  ·rw[if_neg (by omega),if_pos hr,if_neg (by omega)];have q1:=tV (fD h0);have q2:=tB' (tD h8);have n00:((0:Int) != 0)=false:=by decide
   rw[hr] at c1;refine DCall.weak (d:=(.tup [.v (.slice none 0 0),intD 8])) ?_ (fun σ u h=>Wu h);refine dcA Tryz.func27 Tryz.ntmps27 (rs:=[.tmp 6,.tmp 7]) fun σ0 w0 base df G0=>?_
   simp -implicitDefEqProofs only[go_sem];refine cI c1 ?_;simp -implicitDefEqProofs only[go_sem,n00,q1,q2];refine wc ?_;simp -implicitDefEqProofs only[go_sem]
  ·have q1:=tV (fD h0);have q2:=tV (fD h8);rw[if_pos ⟨hr,by omega,by omega⟩,if_pos hr,if_pos ⟨by omega,by omega⟩];have c2:=Qf hq hl hlen hr d.toNat (by omega) x x1 x2;rw[show((d.toNat:Nat):Int)=d by omega] at c2;have n00:((0:Int) != 0)=false:=by decide
   rw[hr] at c1;refine dcA Tryz.func27 Tryz.ntmps27 (rs:=[.tmp 6,.tmp 7]) fun σ0 w0 base df G0=>?_
   simp -implicitDefEqProofs only[go_sem];refine cI c1 ?_;simp -implicitDefEqProofs only[go_sem,n00,q1,q2];refine cI c2 ?_;simp -implicitDefEqProofs only[go_sem];refine wc ?_;simp -implicitDefEqProofs only[go_sem]
 ·rw[if_neg (by omega),if_neg hr];have q1:=tV (bneT hr);refine DCall.weak (d:=(.tup [.v (.slice none 0 0),intD (wI l)])) ?_ (fun σ u h=>Wu h);refine dcA Tryz.func27 Tryz.ntmps27 (rs:=[.tmp 6,.tmp 7]) fun _ _ _ _ _=>?_
  simp -implicitDefEqProofs only[go_sem];refine cI c1 ?_;simp -implicitDefEqProofs only[go_sem,q1];refine wc ?_;simp -implicitDefEqProofs only[go_sem]
end
theorem JV (X:Nat×Nat)(L:List (Nat×Nat)):boxC (X :: L) = .v (.int .u64 X.1) :: .v (.int .u64 X.2) :: boxC L:=rfl
theorem Vg (L:List (Nat×Nat)):(boxC L).length=L.length*2:=by rw[Q7,Nat.mul_comm]
theorem RA:∀ {L:List (Nat×Nat)} {i:Nat} {X:Nat×Nat},L[i]?=some X->((boxC L).drop (i*2)).take 2=[.v (.int .u64 X.1),.v (.int .u64 X.2)]
 |[],i,X,h=>by simp at h
 |Y :: L,0,X,h=>by
  simp only[List.getElem?_cons_zero,Option.some.injEq] at h;subst h;rfl
 |Y :: L,i+1,X,h=>by
  simp only[List.getElem?_cons_succ] at h;rw[JV,Nat.add_mul,Nat.one_mul];exact RA (L:=L) h
theorem JU:∀(L:List (Nat×Nat)) (n:Nat),(boxC L).take (n*2)=boxC (L.take n)
 |[],n=>by simp[boxC]
 |X :: L,0=>by simp[boxC]
 |X :: L,n+1=>by
  have h:=JU L n;rw[Nat.add_mul,Nat.one_mul,List.take_succ_cons,JV,JV,<-h];rfl
theorem Xa (n:Nat):n*2/2=n:=Nat.mul_div_cancel _ (by decide)
abbrev lS (L:List (Nat×Nat)):St:=St.of [(0,.d (.sl 2 (boxC L))),(1,.d (.sl 2 (boxC L)))] []
theorem zcf {L M:List (Nat×Nat)}{n:Int}(hM:M.length<=1000000)(hc:0<n/\n<M.length/\L=M.take n.toNat\/¬(0<n/\n<M.length)/\L=M)
  {C:Ctx} (hP:C.P=Tryz.prog) (hn:C.n=42) (hk:C.kb=0) {c:Code} (hcode:Tryz.f28.body=some c) :
  DC C (cutC 2 c).1 (QW (lS L)) (St.init [.sl 2 (boxC L),.sl 2 (boxC M),intD n]):=by
 have hlM:=Vg M;obtain⟨P,E',σ0,w0,base,n',kb,df,G0⟩:=C;simp only at hP hn hk;subst hP hn hk;simp only[Tryz.f28,Option.some.injEq] at hcode;subst hcode;simp only[cutC];rcases hc with⟨h0,h1,rfl⟩|⟨h,rfl⟩
 ·have q1:=tB' (tD (show n>0 by omega));have q2:=tB' (tD h1);have hk2:n.toNat*2<=M.length*2:=by omega
  have z0:(0:Int)<=0:=by decide
  have z1:(0:Int)<=n:=by omega
  have z2:(n.toNat-0)*2=n.toNat*2:=by omega
  simp -implicitDefEqProofs only[go_sem,hlM,Xa,q1,q2,hk2,z0,z1,z2,Nat.zero_mul,JU,QW,lS];refine we ?_ ?_ rfl<;>simp -implicitDefEqProofs only[go_sem,JU,Nat.sub_zero]
 ·by_cases h0:n>0
  ·have q1:=tB' (tD h0);have q2:=tV (fD (show ¬n<L.length by omega));simp -implicitDefEqProofs only[go_sem,hlM,Xa,q1,q2,QW,lS];refine we ?_ ?_ rfl<;>simp -implicitDefEqProofs only[go_sem]
  ·have q1:=tV (fD h0);simp -implicitDefEqProofs only[go_sem,hlM,Xa,q1,QW,lS];refine we ?_ ?_ rfl<;>simp -implicitDefEqProofs only[go_sem]
theorem zce {L:List (Nat×Nat)}(hL:L.length<=1000000){C:Ctx}(hP:C.P=Tryz.prog)(hn:C.n=42)(hk:C.kb=0){c:Code}(hcode:Tryz.f28.body=some c) :
  DC C (cutC 2 c).2 (Post C [.tmp 6] (.data (bD true))) (lS L):=by
 have hlL:=Vg L;have hneq:((L.length:Int) != (L.length:Int))=false:=by simp
 obtain⟨P,E',σ0,w0,base,n',kb,df,G0⟩:=C;simp only at hP hn hk;subst hP hn hk;simp only[Tryz.f28,Option.some.injEq] at hcode;subst hcode;simp only[cutC];simp only[lS];simp -implicitDefEqProofs only[go_sem,hlL,Xa,hneq];rw[wu];refine wm (α:={i:Nat // i<=L.length}) (fun i=>St.of [(0,.d (.sl 2 (boxC L))),(1,.d (.sl 2 (boxC L))),(7,.d (intD (i.1:Nat)))] []) (fun i=>L.length-i.1) ⟨0,Nat.zero_le _⟩ (we ?_ ?_ rfl) (by kernel_rfl) (fun i=>?_)
 ·have c0:=c0E;simp -implicitDefEqProofs only[go_sem,c0]
 ·simp -implicitDefEqProofs only[go_sem]
 ·obtain⟨i,hi⟩:=i;by_cases hA:i<L.length
  ·obtain⟨X,hX⟩:∃X,L[i]?=some X:=⟨_,List.getElem?_eq_getElem hA⟩;have hx:=RA hX;have eA:decide ((i:Int)<(L.length:Int))=true:=tD (by omega);have w1:=wL (c:=i) (by omega);have y1:i*2<L.length*2:=by omega
   have y2:i*2+2<=L.length*2:=by omega
   obtain⟨i',hi'⟩:∃i':{i:Nat // i<=L.length},i'.1=i+1:=⟨⟨i+1,hA⟩,rfl⟩;simp -implicitDefEqProofs only[go_sem,hlL,Xa,eA];refine drw ?_;simp -implicitDefEqProofs only[go_sem,hlL,Xa,y1,y2,hx];refine cI (WB _ X) ?_;simp -implicitDefEqProofs only[go_sem,w1];refine⟨i',we ?_ ?_ rfl,by simp only[hi'];omega⟩<;>simp -implicitDefEqProofs only[go_sem,hi']
  ·have eA:decide ((i:Int)<(L.length:Int))=false:=fD (by omega);simp -implicitDefEqProofs only[go_sem,hlL,Xa,eA,finK]
theorem Yw (E:Nat->Option Value){L M:List (Nat×Nat)}{n:Int}(hM:M.length<=1000000)(hc:0<n/\n<M.length/\L=M.take n.toNat\/¬(0<n/\n<M.length)/\L=M) :
  DQz E 28 [.sl 2 (boxC L),.sl 2 (boxC M),intD n] (.data (bD true)):=by
 have hL:L.length<=1000000:=by
  rcases hc with⟨_,_,rfl⟩|⟨_,rfl⟩
  ·rw[List.length_take];omega
  ·exact hM
 refine Jl Tryz.func28 rfl (by kernel_rfl) Tryz.ntmps28 (by simp) (rs:=[.tmp 6]) rfl (fun C hP hE hn hk=>?_);refine xD 2 (by rw[hn];kernel_rfl) (zcf hM hc hP hn hk rfl) (kM (by rw[hn];kernel_rfl) (zce hL hP hn hk rfl))
end Go.Enc
end
section
namespace Go.Enc
open Go.Proofs Go.Enc.Dg Go.Enc.Nu Go.Enc.Fl Go.RowKit
section
variable {E:Nat->Option Value} {q:Nat->Addr} {l:List Nat} {x:Nat×Nat}
theorem zdn (stop:Int):cutS stop []=[]:=by unfold cutS;simp
theorem zcD (hq:Sent E q)(hl:∀x∈l,x<18446744073709551616)(hlen:l.length*8<=140737488355328)(x1:x.1<18446744073709551616)(x2:x.2<18446744073709551616)(d stop:Int) :
  DQz E 26 [usD l,boxD x,intD d,intD stop] (.data (.tup [.sl 2 (boxC (vp l (mk2 x) d)),.sl 2 (boxC (cutS stop (vp l (mk2 x) d))),intD (jJ l d)])):=by
 by_cases hb:jJ l d=0
 ·have hr:wI l=0/\0<=d/\d<=8:=by
   unfold jJ at hb;split at hb
   ·rename_i h;split at hb
    ·rename_i h2;exact⟨h,h2.1,h2.2⟩
    ·cases hb
   ·rename_i h;exact absurd hb h
  have h:=Z9 hq hl hlen (jO x1 x2) (qY hq x1 x2) (zfw (E:=E) hq hl (by omega) hr.1) hr.1 (d:=d.toNat) (by omega) stop;have e:((d.toNat:Nat):Int)=d:=by omega
  rw[e] at h;have hL:vp l (mk2 x) d=pcs (drE l) d.toNat (mk2 x):=if_pos hr;rw[hL,hb];exact h
 ·have h:=Hx hq hl hlen (qY hq x1 x2) (stop:=stop) hb;have hL:vp l (mk2 x) d=[]:=if_neg fun hr=>hb (by unfold jJ;rw[if_pos hr.1,if_pos hr.2])
  rw[hL,zdn];exact h
theorem Hq (l:List Nat)(X:Nat×Nat)(d:Int):(vp l X d).length<=1000000:=by
 unfold vp;split
 ·rename_i h;have h1:=yd (drE l) d.toNat X;have h2:2^d.toNat<=256:=Nat.pow_le_pow_right (n:=2) (by decide) (show d.toNat<=8 by omega);omega
 ·simp
theorem Ue (stop:Int)(M:List (Nat×Nat)):0<stop/\stop<M.length/\cutS stop M=M.take stop.toNat\/¬(0<stop/\stop<M.length)/\cutS stop M=M:=by
 unfold cutS;by_cases h:0<stop/\stop<M.length
 ·exact .inl ⟨h.1,h.2,if_pos h⟩
 ·exact .inr ⟨h,if_neg h⟩
theorem VP (hq:Sent E q){o:OpD}(hw:o.Wf)(hlen:o.p.length*8<=140737488355328)(hk:o.kind=6):DQz E 12 [opD o] (.data (bD true)):=by
 have hp:∀x∈o.p,x<18446744073709551616:=hw.p;have h0:=Y1 E hlen;have h1:=zcD (x:=(o.xl,o.xh)) hq hp hlen hw.xl hw.xh o.a o.b;have h2:=zbj (x:=(o.xl,o.xh)) hq hp (by omega) hw.xl hw.xh o.a;have hM:=Hq o.p (mk2 (o.xl,o.xh)) o.a;have h3:=Yw E (L:=vp o.p (mk2 (o.xl,o.xh)) o.a) (n:=0) hM (.inr ⟨by omega,rfl⟩);have h4:=Yw E (n:=o.b) hM (Ue _ _);obtain⟨M,hMe⟩:∃M,vp o.p (mk2 (o.xl,o.xh)) o.a=M:=⟨_,rfl⟩;rw[hMe] at h1 h2 h3 h4;obtain⟨n,hn⟩:∃n,jJ o.p o.a=n:=⟨_,rfl⟩;rw[hn] at h1 h2;refine dcA Tryz.func12 Tryz.ntmps12 (rs:=[.tmp 2]) fun _ _ _ _ _=>?_
 have e0:=tV (beqT (show n=n from rfl));simp -implicitDefEqProofs only[go_sem,OpD.cells,iD,uD,hk,Int.reduceBEq];refine drw ?_;simp -implicitDefEqProofs only[go_sem,OpD.cells,iD,uD];refine cI h0 ?_;simp -implicitDefEqProofs only[go_sem];refine cI (ym _ (o.xl,o.xh)) ?_;simp -implicitDefEqProofs only[go_sem];refine cI h1 ?_;simp -implicitDefEqProofs only[go_sem];refine cI h2 ?_;simp -implicitDefEqProofs only[go_sem];refine cI h3 ?_;simp -implicitDefEqProofs only[go_sem];refine cI h4 ?_;simp -implicitDefEqProofs only[go_sem,e0,beq_self_eq_true,finK]
end
end Go.Enc
end
