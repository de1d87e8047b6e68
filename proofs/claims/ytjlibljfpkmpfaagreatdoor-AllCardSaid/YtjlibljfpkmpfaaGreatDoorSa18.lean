/-
  A number packed as a float's bits, and rounded in a direction: what is computed.
-/
import Derived.Test.YtjlibljfpkmpfaaGreatDoorSa17
import Derived.Test.YtjlibljfpkmpfaaGreatDoorSa16
set_option maxRecDepth 100000
set_option linter.unusedSimpArgs false
set_option linter.unusedVariables false
namespace Go.Enc
open Go.Proofs Go.Enc.Dg Go.Enc.Nu
theorem zfQ {σ:Mem}{u:Value}(h:Rep σ (.v (.slice none 0 0)) u):Rep σ (natD 0) u:=by
 rw[natD,jU];simp only[Rep] at h;simp only[digD,List.map_nil,Rep];exact .inl ⟨h,trivial⟩
theorem xp (E:Nat->Option Value){a k n:Nat}(ha:Bd a n)(hn:n<=24000000)(hk:k<=24000000):DQz E 130 [natD a,intD k] (.data (.tup [natD (a/2^k),bD (decide (a % 2^k=0))])):=by
 rcases Nat.lt_or_ge (k/24) (dg a).length with hm|hm
 ·exact zaf E (ha.sm hn) hk hm
 ·have hlt:a<2^k:=by
   have:=X3 a;refine Nat.lt_of_lt_of_le this ?_;rw[Kp];exact Nat.pow_le_pow_right (by decide) (by omega)
  rw[Nat.div_eq_of_lt hlt,Nat.mod_eq_of_lt hlt];refine(zdb E (ha.sm hn) hk hm).weak fun σ u h=>?_
  simp only[Rep,RepL] at h ⊢;obtain⟨us,rfl,u1,r1,e1,h1,h2⟩:=h;exact⟨us,rfl,u1,r1,e1,zfQ (by simp only[Rep];exact h1),h2⟩
theorem dg3 {m:Nat}(h1:4503599627370496<=m)(h2:m<9007199254740992):dg m=[m % 16777216,m/16777216 % 16777216,m/281474976710656]:=by
 rw[zw (by omega),zw (n:=m/B) (by unfold B;omega),zw (n:=m/B/B) (by unfold B;omega),show m/B/B/B=0 by unfold B;omega,jU];unfold B;rw[show m/16777216/16777216 % 16777216=m/281474976710656 by omega]
theorem pk_w {m x y z:Nat}(h1:4503599627370496<=m)(h2:m<9007199254740992)(hx:m % 16777216=x)(hy:m/16777216 % 16777216=y)(hz:m/281474976710656=z) :
  IntKind.i64.wrap ((y:Int)*16777216)=(y:Int)*16777216 /\
  IntKind.i64.wrap ((x:Int)+(y:Int)*16777216)=(x:Int)+(y:Int)*16777216 /\
  IntKind.i64.wrap ((z:Int)*16777216)=(z:Int)*16777216 /\
  IntKind.i64.wrap ((z:Int)*16777216*16777216)=(z:Int)*16777216*16777216 /\
  IntKind.i64.wrap ((x:Int)+(y:Int)*16777216+(z:Int)*16777216*16777216)=(m:Int) /\
  IntKind.i64.wrap ((m:Int)-4503599627370496)=((m-4503599627370496:Nat):Int):=by
 refine⟨w64 (by omega),w64 (by omega),w64 (by omega),w64 (by omega),(w64 (by omega)).trans (by omega),(w64 (by omega)).trans (by omega)⟩
theorem pk_f {m f:Nat}(h2:m<9007199254740992)(hf:m-4503599627370496=f):f<4503599627370496:=by omega
theorem pk_v {f n:Nat}(hf:f<4503599627370496)(hn:n<2048):∃s g h:Nat,
  IntKind.u64.wrap ((n:Int)*2^min 52 64)=(s:Int)/\IntKind.u64.wrap ((f:Int)+(s:Int))=(g:Int) /\
  (n<1924->IntKind.u64.wrap ((g:Int)+9223372036854775808)=(h:Int)) /\
  g=f+4503599627370496*n/\h=f+4503599627370496*n+9223372036854775808:=by
 refine⟨4503599627370496*n,f+4503599627370496*n,f+4503599627370496*n+9223372036854775808,?_,?_,?_,rfl,rfl⟩
 ·rw[show min 52 64=52 from rfl,show((n:Int)*2^52)=((4503599627370496*n:Nat):Int) by omega];exact yM (by omega)
 ·rw[show((f:Int)+((4503599627370496*n:Nat):Int))=((f+4503599627370496*n:Nat):Int) by omega];exact yM (by omega)
 ·intro hl;rw[show(((f+4503599627370496*n:Nat):Int)+9223372036854775808)=((f+4503599627370496*n+9223372036854775808:Nat):Int) by omega];exact yM (by omega)
theorem pk_p {m:Nat}{e:Int}(neg:Bool){f n g h:Nat}(h1:4503599627370496<=m)(hf:m-4503599627370496=f)(hn:e+1075=(n:Int))(ha:123<=n)(hb:n<=1923)(hc:n=1923->f=0)
  (hg:g=f+4503599627370496*n) (hh:h=f+4503599627370496*n+9223372036854775808):wW neg m e=(if neg then h else g,true):=by
 unfold wW;rw[if_neg (by omega),hf,show(e+1075).toNat=n by omega];cases neg
 ·rw[if_neg (by decide),if_neg (by decide),hg,Nat.add_zero]
 ·rw[if_pos rfl,if_pos rfl,hh]
theorem pk_g {m f:Nat}(hf:m-4503599627370496=f)(h:0<f):4503599627370496<m:=by omega
theorem pk_n {e:Int}{f:Nat}(hA:¬e+1075<123)(hB:¬e+1075>1923)(hC:¬(e+1075=1923/\0<f)):∃n:Nat,e+1075=(n:Int)/\123<=n/\n<=1923/\(n=1923->f=0):=⟨(e+1075).toNat,by omega,by omega,by omega,by omega⟩
theorem wS (E:Nat->Option Value)(neg:Bool){m:Nat}{e:Int}(h1:4503599627370496<=m)(h2:m<9007199254740992)(he : -100000000<=e/\e<=100000000) :
  DQz E 131 [bD neg,natD m,intD e] (.data (.tup [.v (.int .u64 (wW neg m e).1),bD (wW neg m e).2])):=by
 refine dcA Tryz.func131 Tryz.ntmps131 (rs:=[.tmp 6,.tmp 7]) fun _ _ _ _ _=>?_
 have hd:=dg3 h1 h2;obtain⟨x,hx⟩:∃x,m % 16777216=x:=⟨_,rfl⟩;obtain⟨y,hy⟩:∃x,m/16777216 % 16777216=x:=⟨_,rfl⟩;obtain⟨z,hz⟩:∃x,m/281474976710656=x:=⟨_,rfl⟩;obtain⟨w1,w2,w3,w4,w5,w6⟩:=pk_w h1 h2 hx hy hz;rw[hx,hy,hz] at hd;clear hx hy hz;have w7:IntKind.i64.wrap (e+1075)=e+1075:=w64 (by omega);obtain⟨f,hf⟩:∃f,m-4503599627370496=f:=⟨_,rfl⟩;rw[hf] at w6;have hfl:f<4503599627370496:=pk_f h2 hf;simp -implicitDefEqProofs only[go_sem,hd];refine drw ?_;simp -implicitDefEqProofs only[go_sem,hd,dD,w1,w2,w3,w4,w5,w6,w7];by_cases hA:e+1075<123
 ·have eA:decide (e+1075<123)=true:=tD hA;have hp:wW neg m e=(0,false):=xG (.inl hA);simp -implicitDefEqProofs only[go_sem,eA,hp];refine wc ?_;simp -implicitDefEqProofs only[go_sem]
 have eA:decide (e+1075<123)=false:=fD hA;by_cases hB:e+1075>1923
 ·have eB:decide (e+1075>1923)=true:=tD hB;have hp:wW neg m e=(0,false):=xG (.inr (.inl hB));simp -implicitDefEqProofs only[go_sem,eA,eB,hp];refine wc ?_;simp -implicitDefEqProofs only[go_sem]
 have eB:decide (e+1075>1923)=false:=fD hB;by_cases hC:e+1075=1923/\0<f
 ·have eC':=tB (beqT hC.1);have eD:decide ((f:Int)>0)=true:=tD (by omega);have hp:wW neg m e=(0,false):=xG (.inr (.inr ⟨hC.1,pk_g hf hC.2⟩));simp -implicitDefEqProofs only[go_sem,eA,eB,eC',eD,hp];refine wc ?_;simp -implicitDefEqProofs only[go_sem]
 obtain⟨n,hn,hn1,hn2,hn3⟩:=pk_n hA hB hC;obtain⟨s,g,h,v2,v3,v4,v5,v6⟩:=pk_v hfl (n:=n) (by omega);have v4:=v4 (by omega);rw[pk_p neg h1 hf hn hn1 hn2 hn3 v5 v6];rw[hn] at eA eB;have v0:IntKind.u64.wrap (f:Int)=f:=yM (by omega);have v1:IntKind.u64.wrap (n:Int)=n:=yM (by omega);by_cases hD:n=1923
 ·have eC':=tB (beqT (show((n:Int))=1923 by omega));have eD:decide ((f:Int)>0)=false:=fD (by omega);cases neg
  ·simp -implicitDefEqProofs only[go_sem,hn,eA,eB,eC',eD,v0,v1,v2,v3,v4];refine wc ?_;simp -implicitDefEqProofs only[go_sem]
  ·simp -implicitDefEqProofs only[go_sem,hn,eA,eB,eC',eD,v0,v1,v2,v3,v4];refine wc ?_;simp -implicitDefEqProofs only[go_sem]
 ·have eC:((n:Int)==1923)=false:=beqF (by omega);cases neg
  ·simp -implicitDefEqProofs only[go_sem,hn,eA,eB,eC,v0,v1,v2,v3,v4];refine wc ?_;simp -implicitDefEqProofs only[go_sem]
  ·simp -implicitDefEqProofs only[go_sem,hn,eA,eB,eC,v0,v1,v2,v3,v4];refine wc ?_;simp -implicitDefEqProofs only[go_sem]
theorem yK {m:Nat}(h1:4503599627370496<=m)(h2:m<9007199254740992):nbits m=53:=Zv (k:=52) h1 h2
theorem J0:nbits 9007199254740992=54:=Zv (k:=53) (Nat.le_refl _) (by decide)
theorem RC {n k:Nat}(h:Bd n k):nbits n<=k:=by
 rcases Nat.eq_zero_or_pos n with h0|h0
 ·subst h0;exact Nat.zero_le _
 ·obtain⟨a,b,c⟩:=kt (Nat.pos_iff_ne_zero.1 h0);rcases Nat.lt_or_ge k (nbits n) with g|g
  ·have:=Nat.pow_le_pow_right (show 0<2 by decide) (show k<=nbits n-1 by omega);unfold Bd at h;omega
  ·exact g
structure Big (n k q r:Nat):Prop where
 sz:nbits n=k+53
 lo:4503599627370496<=q
 hi:q<9007199254740992
 q:n/2^k=q
 r:n % 2^k=r
theorem zeB {n:Nat}(h0:n≠0)(h:53<nbits n):Big n (nbits n-53) (n/2^(nbits n-53)) (n % 2^(nbits n-53)):=by
 obtain⟨a,b⟩:=Q9 h0 h;obtain⟨c1,c2,c3,c4⟩:=VH a b;exact⟨by omega,c1,c2,rfl,rfl⟩
theorem sm60 {m:Nat}(h2:m<=9007199254740992):Sm (dg m):=Bd.sm (k:=60) (Nat.lt_of_le_of_lt h2 (by decide)) (by omega)
theorem bd53 {m:Nat}(h2:m<=9007199254740992):Bd m 60:=Nat.lt_of_le_of_lt h2 (by decide)
theorem rB0 {up neg:Bool}{n K q r:Nat}{e:Int}(h:(up != neg)=false\/r=0)(h0:n≠0)(hb:53<nbits n)(hK:nbits n-53=K)(B:Big n K q r):wO up ⟨neg,n,e⟩=wW neg q (e+K):=by
 have hq:rndQ (up != neg) n K=q:=by
  unfold rndQ;rw[if_neg (fun g=>by
   rcases h with h|h
   ·rw[h] at g;exact absurd g.1 (by decide)
   ·exact g.2 (B.r.trans h)),B.q]
 have:=B.hi;unfold wO rndM;simp only;rw[if_neg h0,if_pos hb,hK,hq,if_neg (by omega)]
theorem rB1 {up neg:Bool}{n K q r:Nat}{e:Int}(hr:r≠0)(h0:n≠0)(hb:53<nbits n)(hK:nbits n-53=K)(B:Big n K q r)(hc:¬q+1=9007199254740992)(h:(up != neg)=true):wO up ⟨neg,n,e⟩=wW neg (q+1) (e+K):=by
 have hq:rndQ (up != neg) n K=q+1:=by
  unfold rndQ;rw[if_pos ⟨h,fun g=>hr (B.r.symm.trans g)⟩,B.q]
 unfold wO rndM;simp only;rw[if_neg h0,if_pos hb,hK,hq,if_neg hc]
theorem rB2 {up neg:Bool}{n K q r half:Nat}{e:Int}(hr:r≠0)(h0:n≠0)(hb:53<nbits n)(hK:nbits n-53=K)(B:Big n K q r)(hc:q+1=9007199254740992)(h:(up != neg)=true)(hh:4503599627370496=half):wO up ⟨neg,n,e⟩=wW neg half (e+K+1):=by
 have hq:rndQ (up != neg) n K=q+1:=by
  unfold rndQ;rw[if_pos ⟨h,fun g=>hr (B.r.symm.trans g)⟩,B.q]
 unfold wO rndM;simp only;rw[if_neg h0,if_pos hb,hK,hq,if_pos hc,hh]
theorem zdE {q half:Nat}(hh:4503599627370496=half)(hc:q+1=9007199254740992):(q+1)/2^1=half:=by rw[<-hh,hc]
set_option maxHeartbeats 1000000 in
theorem UB (E:Nat->Option Value){up:Bool}{w:Int}(hw:w=if up=true then 1 else -1){a:Nm}{k:Nat}(ha:NOk a k)(hk:k<=10000000) :
  DQz E 92 [nmD a,intD w] (.data (.tup [.v (.int .u64 (wO up a).1),bD (wO up a).2])):=by
 refine dcA Tryz.func92 Tryz.ntmps92 (rs:=[.tmp 4,.tmp 5]) fun _ _ _ _ _=>?_
 obtain⟨neg,n,e⟩:=a;obtain⟨h1,h2,h3⟩:=ha;simp only at h1 h2 h3;have hbl:=RC h1;simp -implicitDefEqProofs only[go_sem];refine cI (jZ _ (h1.sm (by omega))) ?_;by_cases h0:n=0
 ·have e1:=tB (beqT (show((nbits n:Nat):Int)=0 by rw[h0];rfl));have hR:wO up ⟨neg,n,e⟩=(0,true):=by unfold wO;rw[if_pos h0]
  rw[hR];simp -implicitDefEqProofs only[go_sem,e1];refine wc ?_;simp -implicitDefEqProofs only[go_sem]
 have e1:(((nbits n:Nat):Int)==0)=false:=beqF (by have:=(kt h0).2.2;omega);by_cases hb:53<nbits n
 ·have e2:decide (((nbits n:Nat):Int)>53)=true:=tD (by omega);obtain⟨half,hhf⟩:∃half,4503599627370496=half:=⟨_,rfl⟩;obtain⟨K,hK⟩:∃K,nbits n-53=K:=⟨_,rfl⟩;have B:=zeB h0 hb;rw[hK] at B;obtain⟨q,hq⟩:∃q,n/2^K=q:=⟨_,rfl⟩;obtain⟨r,hr⟩:∃r,n % 2^K=r:=⟨_,rfl⟩;rw[hq,hr] at B;have hhalf:q+1=9007199254740992->(q+1)/2^1=half:=zdE hhf;have hh1:4503599627370496<=half:=by omega
  have hh2:half<9007199254740992:=by omega
  have b1:=B.lo;have b2:=B.hi;have q1:=tB' (show decide ((1:Int)>0)=true by decide);have q2:=tB' (show decide ((1:Int)<0)=false by decide);have q3:=tB' (show decide ((-1:Int)>0)=false by decide);have q4:=tB' (show decide ((-1:Int)<0)=true by decide);have q5:(((1:Int)==0):Bool)=false:=by decide
  have q6:(((-1:Int)==0):Bool)=false:=by decide
  have w1:IntKind.i64.wrap (((nbits n:Nat):Int)-53)=(K:Int):=(w64 (by omega)).trans (by omega);have w2:IntKind.i64.wrap (e+(K:Int))=e+(K:Int):=w64 (by omega);have w3:IntKind.i64.wrap (e+(K:Int)+1)=e+(K:Int)+1:=w64 (by omega);have e3:nbits q=53:=yK b1 b2;have e7:decide (((nbits q:Nat):Int)<53)=false:=fD (by omega);have e8:(((nbits q:Nat):Int)==54)=false:=beqF (by omega);simp -implicitDefEqProofs only[go_sem,e1,e2,w1];refine cI (xp _ h1 (by omega) (by omega)) ?_;rw[hq,hr];by_cases hr0:r=0
  ·have e5:T.d (D.v (Value.bool (decide (r=0))))=T.d (D.v (Value.bool true)):=tB' (decide_eq_true hr0);cases neg
   ·cases up
    ·subst hw;have hR:wO false ⟨false,n,e⟩=wW false q (e+K):=rB0 (by exact .inr hr0) h0 hb hK B;rw[hR];simp -implicitDefEqProofs only[go_sem,e5,w1,w2,q1,q2,q3,q4,q5,q6];refine cI (jZ _ (sm60 (m:=q) (Nat.le_of_lt b2))) ?_;simp -implicitDefEqProofs only[go_sem,e7,e8,w2];refine cI (wS _ false B.lo B.hi (e:=e+(K:Int)) ⟨by omega,by omega⟩) ?_;simp -implicitDefEqProofs only[go_sem];refine wc ?_;simp -implicitDefEqProofs only[go_sem]
    ·subst hw;have hR:wO true ⟨false,n,e⟩=wW false q (e+K):=rB0 (by exact .inr hr0) h0 hb hK B;rw[hR];simp -implicitDefEqProofs only[go_sem,e5,w1,w2,q1,q2,q3,q4,q5,q6];refine cI (jZ _ (sm60 (m:=q) (Nat.le_of_lt b2))) ?_;simp -implicitDefEqProofs only[go_sem,e7,e8,w2];refine cI (wS _ false B.lo B.hi (e:=e+(K:Int)) ⟨by omega,by omega⟩) ?_;simp -implicitDefEqProofs only[go_sem];refine wc ?_;simp -implicitDefEqProofs only[go_sem]
   ·cases up
    ·subst hw;have hR:wO false ⟨true,n,e⟩=wW true q (e+K):=rB0 (by exact .inr hr0) h0 hb hK B;rw[hR];simp -implicitDefEqProofs only[go_sem,e5,w1,w2,q1,q2,q3,q4,q5,q6];refine cI (jZ _ (sm60 (m:=q) (Nat.le_of_lt b2))) ?_;simp -implicitDefEqProofs only[go_sem,e7,e8,w2];refine cI (wS _ true B.lo B.hi (e:=e+(K:Int)) ⟨by omega,by omega⟩) ?_;simp -implicitDefEqProofs only[go_sem];refine wc ?_;simp -implicitDefEqProofs only[go_sem]
    ·subst hw;have hR:wO true ⟨true,n,e⟩=wW true q (e+K):=rB0 (by exact .inr hr0) h0 hb hK B;rw[hR];simp -implicitDefEqProofs only[go_sem,e5,w1,w2,q1,q2,q3,q4,q5,q6];refine cI (jZ _ (sm60 (m:=q) (Nat.le_of_lt b2))) ?_;simp -implicitDefEqProofs only[go_sem,e7,e8,w2];refine cI (wS _ true B.lo B.hi (e:=e+(K:Int)) ⟨by omega,by omega⟩) ?_;simp -implicitDefEqProofs only[go_sem];refine wc ?_;simp -implicitDefEqProofs only[go_sem]
  ·have e5:decide (r=0)=false:=decide_eq_false hr0;cases neg
   ·cases up
    ·subst hw;have hR:wO false ⟨false,n,e⟩=wW false q (e+K):=rB0 (by exact .inl rfl) h0 hb hK B;rw[hR];simp -implicitDefEqProofs only[go_sem,e5,w1,w2,q1,q2,q3,q4,q5,q6];refine cI (jZ _ (sm60 (m:=q) (Nat.le_of_lt b2))) ?_;simp -implicitDefEqProofs only[go_sem,e7,e8,w2];refine cI (wS _ false B.lo B.hi (e:=e+(K:Int)) ⟨by omega,by omega⟩) ?_;simp -implicitDefEqProofs only[go_sem];refine wc ?_;simp -implicitDefEqProofs only[go_sem]
    ·subst hw;simp -implicitDefEqProofs only[go_sem,e5,w1,w2,q1,q2,q3,q4,q5,q6];refine cI (qI _ 1 (by decide)) ?_;simp -implicitDefEqProofs only[go_sem];refine cI (xn _ (sm60 (m:=q) (Nat.le_of_lt b2)) (sm60 (m:=1) (by decide))) ?_;simp -implicitDefEqProofs only[go_sem,w2];refine cI (jZ _ (sm60 (m:=q+1) b2)) ?_;by_cases hc:q+1=9007199254740992
     ·have hR:wO true ⟨false,n,e⟩=wW false half (e+K+1):=rB2 hr0 h0 hb hK B hc (by decide) hhf;have e6:nbits (q+1)=54:=by rw[hc];exact J0
      have e7:decide (((nbits (q+1):Nat):Int)<53)=false:=fD (by omega);have e8:=tB (beqT (show((nbits (q+1):Nat):Int)=54 by omega));rw[hR];simp -implicitDefEqProofs only[go_sem,e7,e8];refine cI (xp _ (k:=1) (bd53 (m:=q+1) b2) (by omega) (by omega)) ?_;rw[hhalf hc];simp -implicitDefEqProofs only[go_sem,w3];refine cI (wS _ false hh1 hh2 (e:=e+(K:Int)+1) ⟨by omega,by omega⟩) ?_;simp -implicitDefEqProofs only[go_sem];refine wc ?_;simp -implicitDefEqProofs only[go_sem]
     ·have hR:wO true ⟨false,n,e⟩=wW false (q+1) (e+K):=rB1 hr0 h0 hb hK B hc (by decide);have e6:nbits (q+1)=53:=yK (by omega) (by omega);have e9:decide (((nbits (q+1):Nat):Int)<53)=false:=fD (by omega);have e10:(((nbits (q+1):Nat):Int)==54)=false:=beqF (by omega);rw[hR];simp -implicitDefEqProofs only[go_sem,e9,e10,w2];refine cI (wS _ false (m:=q+1) (e:=e+(K:Int)) (by omega) (by omega) ⟨by omega,by omega⟩) ?_;simp -implicitDefEqProofs only[go_sem];refine wc ?_;simp -implicitDefEqProofs only[go_sem]
   ·cases up
    ·subst hw;simp -implicitDefEqProofs only[go_sem,e5,w1,w2,q1,q2,q3,q4,q5,q6];refine cI (qI _ 1 (by decide)) ?_;simp -implicitDefEqProofs only[go_sem];refine cI (xn _ (sm60 (m:=q) (Nat.le_of_lt b2)) (sm60 (m:=1) (by decide))) ?_;simp -implicitDefEqProofs only[go_sem,w2];refine cI (jZ _ (sm60 (m:=q+1) b2)) ?_;by_cases hc:q+1=9007199254740992
     ·have hR:wO false ⟨true,n,e⟩=wW true half (e+K+1):=rB2 hr0 h0 hb hK B hc (by decide) hhf;have e6:nbits (q+1)=54:=by rw[hc];exact J0
      have e7:decide (((nbits (q+1):Nat):Int)<53)=false:=fD (by omega);have e8:=tB (beqT (show((nbits (q+1):Nat):Int)=54 by omega));rw[hR];simp -implicitDefEqProofs only[go_sem,e7,e8];refine cI (xp _ (k:=1) (bd53 (m:=q+1) b2) (by omega) (by omega)) ?_;rw[hhalf hc];simp -implicitDefEqProofs only[go_sem,w3];refine cI (wS _ true hh1 hh2 (e:=e+(K:Int)+1) ⟨by omega,by omega⟩) ?_;simp -implicitDefEqProofs only[go_sem];refine wc ?_;simp -implicitDefEqProofs only[go_sem]
     ·have hR:wO false ⟨true,n,e⟩=wW true (q+1) (e+K):=rB1 hr0 h0 hb hK B hc (by decide);have e6:nbits (q+1)=53:=yK (by omega) (by omega);have e9:decide (((nbits (q+1):Nat):Int)<53)=false:=fD (by omega);have e10:(((nbits (q+1):Nat):Int)==54)=false:=beqF (by omega);rw[hR];simp -implicitDefEqProofs only[go_sem,e9,e10,w2];refine cI (wS _ true (m:=q+1) (e:=e+(K:Int)) (by omega) (by omega) ⟨by omega,by omega⟩) ?_;simp -implicitDefEqProofs only[go_sem];refine wc ?_;simp -implicitDefEqProofs only[go_sem]
    ·subst hw;have hR:wO true ⟨true,n,e⟩=wW true q (e+K):=rB0 (by exact .inl rfl) h0 hb hK B;rw[hR];simp -implicitDefEqProofs only[go_sem,e5,w1,w2,q1,q2,q3,q4,q5,q6];refine cI (jZ _ (sm60 (m:=q) (Nat.le_of_lt b2))) ?_;simp -implicitDefEqProofs only[go_sem,e7,e8,w2];refine cI (wS _ true B.lo B.hi (e:=e+(K:Int)) ⟨by omega,by omega⟩) ?_;simp -implicitDefEqProofs only[go_sem];refine wc ?_;simp -implicitDefEqProofs only[go_sem]
 ·have e2:decide (((nbits n:Nat):Int)>53)=false:=fD (by omega);obtain⟨g1,g2⟩:=yJ h0 (by omega);have hR:wO up ⟨neg,n,e⟩=wW neg (n*2^(53-nbits n)) (e-(53-nbits n:Nat)):=by
   unfold wO rndM;simp only;rw[if_neg h0,if_neg hb]
  rw[hR];by_cases hs:nbits n<53
  ·have e3:decide (((nbits n:Nat):Int)<53)=true:=tD (by omega);have e4:(((nbits n:Nat):Int)==54)=false:=beqF (by omega);have w1:IntKind.i64.wrap (53-((nbits n:Nat):Int))=((53-nbits n:Nat):Int):=(w64 (by omega)).trans (by omega);have w2:IntKind.i64.wrap (e-((53-nbits n:Nat):Int))=e-((53-nbits n:Nat):Int):=w64 (by omega);simp -implicitDefEqProofs only[go_sem,e1,e2,e3,w1];refine cI (up_c _ h1 (by omega) (by omega)) ?_;simp -implicitDefEqProofs only[go_sem,w1,w2,e4];refine cI (wS _ neg g1 g2 (e:=e-((53-nbits n:Nat):Int)) ⟨by omega,by omega⟩) ?_;simp -implicitDefEqProofs only[go_sem];refine wc ?_;simp -implicitDefEqProofs only[go_sem]
  ·have e3:nbits n=53:=by omega
   have e4:n*2^(53-nbits n)=n:=by rw[e3];exact Nat.mul_one n
   have e5:e-((53-nbits n:Nat):Int)=e:=by omega
   have e7:decide (((nbits n:Nat):Int)<53)=false:=fD (by omega);have e8:(((nbits n:Nat):Int)==54)=false:=beqF (by omega);rw[e4] at g1 g2 ⊢;rw[e5];simp -implicitDefEqProofs only[go_sem,e1,e2,e7,e8];refine cI (wS _ neg g1 g2 (e:=e) ⟨by omega,by omega⟩) ?_;simp -implicitDefEqProofs only[go_sem];refine wc ?_;simp -implicitDefEqProofs only[go_sem]
end Go.Enc
