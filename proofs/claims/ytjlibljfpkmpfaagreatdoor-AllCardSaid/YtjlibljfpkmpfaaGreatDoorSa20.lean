/-
  The document's long division and whole root, by their digits.
-/
import Derived.Test.YtjlibljfpkmpfaaGreatDoorSa17
import Derived.Test.YtjlibljfpkmpfaaGreatDoorSa19
import Derived.Test.YtjlibljfpkmpfaaGreatDoorSa14
set_option maxRecDepth 100000
set_option linter.unusedSimpArgs false
set_option linter.unusedVariables false
namespace Go.Enc
open Go.Proofs Go.Enc.Dg Go.Enc.Nu
theorem KK {n k:Nat}(h:Bd n k):nbits n<=k:=by
 rcases Nat.eq_zero_or_pos n with h0|h0
 ·subst h0;exact Nat.zero_le _
 ·obtain⟨a,b,c⟩:=kt (Nat.pos_iff_ne_zero.1 h0);rcases Nat.lt_or_ge k (nbits n) with g|g
  ·have:=Nat.pow_le_pow_right (show 0<2 by decide) (show k<=nbits n-1 by omega);unfold Bd at h;omega
  ·exact g
theorem RB (n:Nat):n<2^nbits n:=by
 rcases Nat.eq_zero_or_pos n with h0|h0
 ·subst h0;decide
 ·exact(kt (Nat.pos_iff_ne_zero.1 h0)).2.1
theorem zjJ {x:Nat}(h:x<9223372036854775808):IntKind.i64.wrap (((BitVec.ofInt 64 (x:Int) &&& BitVec.ofInt 64 1).toNat:Nat):Int)=((x % 2:Nat):Int):=by
 have e:(BitVec.ofInt 64 (x:Int) &&& BitVec.ofInt 64 1).toNat=x % 2:=by
  have h1:(BitVec.ofInt 64 1).toNat=2^1-1:=by decide
  rw[BitVec.toNat_and,UW (by omega),h1,Nat.and_two_pow_sub_one_eq_mod]
 rw[e];exact w64 (by omega)
theorem Ul {x:Nat}(h:x<9223372036854775808):pint .and .i64 (x:Int) 1=some (.int .i64 ((x % 2:Nat):Int)):=congrArg (fun z=>some (Value.int .i64 z)) (zjJ h)
theorem zgD {la:List Nat}{a j x:Nat}(hd:Dig la)(hv:vl la=a)(hx:la[j/24]?=some x):x/2^(j % 24) % 2=a/2^j % 2:=by
 have hj:j=24*(j/24)+j % 24:=(Nat.div_add_mod j 24).symm;have hm:j % 24<24:=Nat.mod_lt _ (by decide);generalize j/24=m at *;generalize j % 24=s at *;subst hj;rw[Nat.pow_add,<-Kp,<-Nat.div_div_eq_div_mul,<-hv,<-Zl hd];have h0:(la.drop m)[0]?=some x:=by rw[List.getElem?_drop];simpa using hx
 generalize la.drop m=l at h0;cases l with
 |nil=>simp at h0
 |cons d l=>
  simp only[List.getElem?_cons_zero,Option.some.injEq] at h0;subst h0
  show d/2^s % 2=(d+B*vl l)/2^s % 2
  have hB:B=2^s*(2*2^(23-s)):=by rw[<-Nat.pow_succ',<-Nat.pow_add,show s+(23-s+1)=24 by omega]
  rw[hB,Nat.mul_assoc,Nat.add_mul_div_left _ _ (Nat.two_pow_pos s),Nat.mul_assoc,Nat.add_mul_mod_self_left]
theorem divstep {A b t:Nat}(hb:0<b)(ht:t<2) :
  (b<=2*(A % b)+t->(2*A+t)/b=2*(A/b)+1/\(2*A+t) % b=2*(A % b)+t-b)/\(¬b<=2*(A % b)+t->(2*A+t)/b=2*(A/b)/\(2*A+t) % b=2*(A % b)+t):=by
 have h1:=Nat.div_add_mod A b;have h2:=Nat.mod_lt A hb;generalize A/b=q at *;generalize A % b=r at *;constructor
 ·intro h;refine(Nat.div_mod_unique hb).2 ⟨?_,by omega⟩;have e:=Nat.mul_left_comm b 2 q;rw[Nat.mul_add,Nat.mul_one];omega
 ·intro h;refine(Nat.div_mod_unique hb).2 ⟨?_,by omega⟩;have e:=Nat.mul_left_comm b 2 q;omega
theorem zaR (a j:Nat):a/2^j=2*(a/2^(j+1))+a/2^j % 2:=by
 rw[Nat.pow_succ,<-Nat.div_div_eq_div_mul]
 try omega
theorem geZ (n:Nat):decide (((n:Nat):Int)>=0)=true:=tD (by omega)
theorem ziR (E:Nat->Option Value){a b n:Nat}(ha:Bd a n)(hb:Bd b n)(hn:n<=10000000)(hb0:b≠0):DQz E 133 [natD a,natD b] (.data (.tup [natD (a/b),bD (decide (a % b=0))])):=by
 refine dcA Tryz.func133 Tryz.ntmps133 (rs:=[.tmp 4,.tmp 5]) fun _ _ _ _ _=>?_
 obtain⟨la,hla⟩:∃la,dg a=la:=⟨_,rfl⟩;have hda:=kZ a;have hva:=q9 a;have sa:=jZ E (ha.sm (by omega));have hlt:=RB a;have hbn:=KK ha;have hbp:0<b:=Nat.pos_of_ne_zero hb0;have hlen:a<B^la.length:=by have:=X3 a;rwa [hla] at this
 rw[hla] at hda hva;have hnat:natD a=digD la:=by rw[<-hla]
 rw[hnat] at sa;obtain⟨s,hs⟩:∃s,nbits a=s:=⟨_,rfl⟩;have hsz:a≠0->2^(s-1)<=a/\1<=s:=fun h=>by have:=kt h;rw[hs] at this;exact⟨this.1,this.2.2⟩
 rw[hs] at sa hlt hbn;have w0:IntKind.i64.wrap ((s:Int)-1)=(s:Int)-1:=w64 (by omega);have z0:a/2^s=0:=Nat.div_eq_of_lt hlt;have i0:natD (a/2^s/b) = .sl 1 []/\natD (a/2^s % b) = .sl 1 []:=by
  rw[z0,Nat.zero_div,Nat.zero_mod,natD,jU];exact⟨rfl,rfl⟩
 simp -implicitDefEqProofs only[go_sem,hla];refine cI sa ?_;simp -implicitDefEqProofs only[go_sem,w0];rw[wu];refine wm (α:={i:Nat // i<=s}) (fun i=>St.of [(0,.d (digD la)),(1,.d (natD b)),(6,.d (natD (a/2^i.1/b))),(7,.d (natD (a/2^i.1 % b))),(8,.d (intD ((i.1:Int)-1)))] []) (fun i=>i.1)
  ⟨s,Nat.le_refl _⟩ (we ?_ ?_ rfl) (by kernel_rfl) (fun i=>?_)
 ·simp -implicitDefEqProofs only[go_sem,i0.1,i0.2]
 ·simp -implicitDefEqProofs only[go_sem]
 ·obtain⟨i,hi⟩:=i;by_cases h0:i=0
  ·have e1:decide ((i:Int)-1>=0)=false:=fD (by omega);have q0:a/2^i=a:=by rw[h0,Nat.pow_zero,Nat.div_one]
   simp -implicitDefEqProofs only[go_sem,e1,q0,len0];refine wc ?_;simp -implicitDefEqProofs only[go_sem,q0,len0]
  ·obtain⟨j,rfl⟩:∃j,i=j+1:=⟨i-1,by omega⟩;have ej:(((j+1:Nat):Int)-1)=(j:Int):=by omega
   have a0:a≠0:=fun e=>by
    have:=Vh;rw[e,this] at hs;omega
   have hjl:j/24<la.length:=by
    obtain⟨h1,h2⟩:=hsz a0;rw[Kp] at hlen;rcases Nat.lt_or_ge (j/24) la.length with g|g
    ·exact g
    ·have:=Nat.pow_le_pow_right (show 0<2 by decide) (show 24*la.length<=s-1 by omega);omega
   obtain⟨x,hx⟩:=wJ hjl;have hx2:x<16777216:=hda.get hx;have hm24:j % 24<24:=Nat.mod_lt _ (by decide);have hdiv:=Rr (n:=j) (by omega);have hmod:=zcY (n:=j);have hsh:=shrS (x:=x) hm24;have hxd:x/2^(j % 24)<9223372036854775808:=Nat.lt_of_le_of_lt (Nat.div_le_self _ _) (by omega);have hand:=Ul hxd;simp -implicitDefEqProofs only[go_sem,Option.some.injEq,Value.int.injEq,true_and] at hand;have hbit:=zgD hda hva hx;rw[hbit] at hand;obtain⟨t,ht⟩:∃t,a/2^j % 2=t:=⟨_,rfl⟩;have hst:=zaR a j;rw[ht] at hand hst;have ht2:t<2:=by omega
   obtain⟨A,hA⟩:∃A,a/2^(j+1)=A:=⟨_,rfl⟩;rw[hA] at hst;obtain⟨d1,d2⟩:=divstep (A:=A) hbp ht2;have hrb:A % b<b:=Nat.mod_lt _ hbp;have hqA:A/b<=a:=Nat.le_trans (Nat.div_le_self _ _) (by rw[<-hA];exact Nat.div_le_self _ _);have bq:Bd (A/b) n:=ha.le hqA;have br:Bd (A % b) n:=hb.le (Nat.le_of_lt hrb);have bt:Bd t n:=by
    rcases Nat.eq_zero_or_pos n with g|g
    ·subst g;unfold Bd at ha;omega
    ·unfold Bd;have:=Nat.pow_le_pow_right (show 0<2 by decide) g;omega
   have u2:∀z:Nat,z*2^1=2*z:=fun z=>by omega
   have e1:decide ((j:Int)>=0)=true:=geZ j;have w1:IntKind.i64.wrap ((j:Int)-1)=(j:Int)-1:=w64 (by omega);have br2:Bd (2*(A % b)) (n+1):=by have:=br.up (j:=1);rwa [u2] at this
   have bq2:Bd (2*(A/b)) (n+1):=by have:=bq.up (j:=1);rwa [u2] at this
   have br3:Bd (2*(A % b)+t) (n+2):=br2.add (bt.mono (by omega));obtain⟨c1,c2,c3⟩:=vR (2*(A % b)+t) b;simp -implicitDefEqProofs only[go_sem,ej,hA,e1,hdiv,hmod,hjl,jd hx,dD,hsh,hand];refine cI (up_c _ (k:=1) br (by omega) (by omega)) ?_;rw[u2];simp -implicitDefEqProofs only[go_sem,ej,hA];refine cI (qI _ t (Nat.lt_trans ht2 (by decide))) ?_;simp -implicitDefEqProofs only[go_sem,ej,hA];refine cI (xn _ (br2.sm (by omega)) (bt.sm (by omega))) ?_;simp -implicitDefEqProofs only[go_sem,ej,hA];refine cI (up_c _ (k:=1) bq (by omega) (by omega)) ?_;rw[u2];simp -implicitDefEqProofs only[go_sem,ej,hA];refine cI (Y5 _ (br3.sm (by omega)) (hb.sm (by omega))) ?_;obtain⟨x',hx'⟩:∃x':{i:Nat // i<=s},x'.1=j:=⟨⟨j,by omega⟩,rfl⟩;by_cases hge:b<=2*(A % b)+t
   ·have e2:decide (cmpI (2*(A % b)+t) b>=0)=true:=tD (by omega);obtain⟨f1,f2⟩:=d1 hge;simp -implicitDefEqProofs only[go_sem,ej,hA,e2];refine cI (VY _ (br3.sm (by omega)) hge) ?_;simp -implicitDefEqProofs only[go_sem,ej,hA];refine cI (qI _ 1 (by decide)) ?_;simp -implicitDefEqProofs only[go_sem,ej,hA];refine cI (xn _ (bq2.sm (by omega)) (Bd.sm (n:=1) (k:=1) (by unfold Bd;decide) (by omega))) ?_;simp -implicitDefEqProofs only[go_sem,ej,hA,w1];refine⟨x',we ?_ ?_ rfl,by simp only[hx'];omega⟩<;>simp -implicitDefEqProofs only[go_sem,ej,hA,hx',hst,f1,f2,w1]
   ·have e2:decide (cmpI (2*(A % b)+t) b>=0)=false:=fD (by omega);obtain⟨f1,f2⟩:=d2 hge;simp -implicitDefEqProofs only[go_sem,ej,hA,e2,w1];refine⟨x',we ?_ ?_ rfl,by simp only[hx'];omega⟩<;>simp -implicitDefEqProofs only[go_sem,ej,hA,hx',hst,f1,f2,w1]
theorem rootstep {a x j:Nat}(h1:x*x<=a)(h2:a<(x+2^(j+1))*(x+2^(j+1))) :
  ((x+2^j)*(x+2^j)<=a->a<(x+2^j+2^j)*(x+2^j+2^j)):=by
 intro _;rw[Nat.add_assoc,show 2^j+2^j=2^(j+1) by rw[Nat.pow_succ];omega];exact h2
theorem Ux (x:Nat):x<=x*x:=by
 rcases Nat.eq_zero_or_pos x with h|h
 ·omega
 ·exact Nat.le_mul_of_pos_left x h
structure RInv (a k x:Nat):Prop where
 lo:x*x<=a
 hi:a<(x+2^k)*(x+2^k)
theorem zbo (E:Nat->Option Value){a n:Nat}(ha:Bd a n)(hn:n<=4000000):DQz E 101 [natD a] (.data (.tup [natD (isq a),bD (decide (isq a*isq a=a))])):=by
 refine dcA Tryz.func101 Tryz.ntmps101 (rs:=[.tmp 2,.tmp 3]) fun _ _ _ _ _=>?_
 have sa:=jZ E (ha.sm (by omega));have hlt:=RB a;have hbn:=KK ha;obtain⟨s,hs⟩:∃s,nbits a=s:=⟨_,rfl⟩;rw[hs] at sa hlt hbn;obtain⟨i0,hi0⟩:∃i0,(s+1)/2=i0:=⟨_,rfl⟩;have w0:=wL (c:=s) (by omega);have w1:IntKind.i64.wrap (((s+1:Nat):Int).tdiv 2)=(i0:Int):=by rw[div2 (by omega),hi0]
 have hst:RInv a (i0+1) 0:=by
  refine⟨by omega,?_⟩;rw[Nat.zero_add,<-Nat.pow_add];exact Nat.lt_of_lt_of_le hlt (Nat.pow_le_pow_right (by decide) (by omega))
 have n0:natD 0 = .sl 1 []:=by rw[natD,jU];rfl
 simp -implicitDefEqProofs only[go_sem];refine cI sa ?_;simp -implicitDefEqProofs only[go_sem,w0,w1];rw[wu];refine wm (α:={p:Nat×Nat // p.1<=i0+1/\RInv a p.1 p.2}) (fun p=>St.of [(0,.d (natD a)),(4,.d (natD p.1.2)),(5,.d (intD ((p.1.1:Int)-1)))] []) (fun p=>p.1.1)
  ⟨(i0+1,0),Nat.le_refl _,hst⟩ (we ?_ ?_ rfl) (by kernel_rfl) (fun p=>?_)
 ·have e:(((i0+1:Nat):Int)-1)=(i0:Int):=by omega
  simp -implicitDefEqProofs only[go_sem,n0,e]
 ·simp -implicitDefEqProofs only[go_sem]
 ·obtain⟨⟨i,x⟩,hi,R⟩:=p;simp only at hi R;have bx:Bd x n:=ha.le (Nat.le_trans (Ux x) R.lo);by_cases h0:i=0
  ·have e1:decide ((i:Int)-1>=0)=false:=fD (by omega);have hx:x=isq a:=zcm R.lo (by have:=R.hi;rwa [h0,Nat.pow_zero] at this);have hc:=vR (x*x) a;have e2:((cmpI (x*x) a==0):Bool)=decide (x*x=a):=by rw[Bool.eq_iff_iff,beq_iff_eq,decide_eq_true_eq];exact hc.2.1
   simp -implicitDefEqProofs only[go_sem,e1];refine cI (Ku _ (bx.sm (by omega)) (bx.sm (by omega))) ?_;simp -implicitDefEqProofs only[go_sem];refine cI (Y5 _ ((bx.mul bx).sm (by omega)) (ha.sm (by omega))) ?_;simp -implicitDefEqProofs only[go_sem,e2];refine wc ?_;simp -implicitDefEqProofs only[go_sem,e2,hx]
  ·obtain⟨j,rfl⟩:∃j,i=j+1:=⟨i-1,by omega⟩;have ej:(((j+1:Nat):Int)-1)=(j:Int):=by omega
   have e1:decide ((j:Int)>=0)=true:=geZ j;have w2:IntKind.i64.wrap ((j:Int)-1)=(j:Int)-1:=w64 (by omega);have o1:1*2^j=2^j:=Nat.one_mul _;have b1:Bd 1 1:=by unfold Bd;decide
   have bj:Bd (2^j) (n+3):=by unfold Bd;exact Nat.pow_lt_pow_right (by decide) (by omega)
   have by':Bd (x+2^j) (n+4):=(bx.mono (by omega)).add bj;simp -implicitDefEqProofs only[go_sem,ej,e1];refine cI (qI _ 1 (by decide)) ?_;simp -implicitDefEqProofs only[go_sem,ej];refine cI (up_c _ (k:=j) b1 (by omega) (by omega)) ?_;rw[o1];simp -implicitDefEqProofs only[go_sem,ej];refine cI (xn _ (bx.sm (by omega)) (bj.sm (by omega))) ?_;simp -implicitDefEqProofs only[go_sem,ej];obtain⟨y,hy⟩:∃y,x+2^j=y:=⟨_,rfl⟩;have hstep:=rootstep R.lo R.hi;have hR:=R.lo;rw[hy] at by' hstep ⊢;refine cI (Ku _ (by'.sm (by omega)) (by'.sm (by omega))) ?_;simp -implicitDefEqProofs only[go_sem,ej];refine cI (Y5 _ ((by'.mul by').sm (by omega)) (ha.sm (by omega))) ?_;obtain⟨c1,c2,c3⟩:=vR (y*y) a;by_cases hle:y*y<=a
   ·have e2:decide (cmpI (y*y) a<=0)=true:=tD (by omega);obtain⟨x',hx'⟩:∃x':{p:Nat×Nat // p.1<=i0+1/\RInv a p.1 p.2},x'.1=(j,y):=⟨⟨(j,y),by simp only;omega,⟨hle,hstep hle⟩⟩,rfl⟩;simp -implicitDefEqProofs only[go_sem,ej,e2,w2];refine⟨x',we ?_ ?_ rfl,by simp only[hx'];omega⟩<;>simp -implicitDefEqProofs only[go_sem,ej,hx',w2]
   ·have e2:decide (cmpI (y*y) a<=0)=false:=fD (by omega);obtain⟨x',hx'⟩:∃x':{p:Nat×Nat // p.1<=i0+1/\RInv a p.1 p.2},x'.1=(j,x):=⟨⟨(j,x),by simp only;omega,⟨hR,by simp only;rw[hy];omega⟩⟩,rfl⟩;simp -implicitDefEqProofs only[go_sem,ej,e2,w2];refine⟨x',we ?_ ?_ rfl,by simp only[hx'];omega⟩<;>simp -implicitDefEqProofs only[go_sem,ej,hx',w2]
theorem v7 (E:Nat->Option Value){a b:Nm}{k:Nat}(ha:NOk a k)(hb:NOk b k)(hk:k<=1000000)(hb0:b.n≠0):DQz E 99 [nmD a,nmD b] (.data (nmD (nquot a b))):=by
 refine dcA Tryz.func99 Tryz.ntmps99 (rs:=[.cell 4 70]) fun _ _ _ _ _=>?_
 obtain⟨na,n,e⟩:=a;obtain⟨nb,m,f⟩:=b;obtain⟨h1,h2,h3⟩:=ha;obtain⟨g1,g2,g3⟩:=hb;simp only at h1 h2 h3 g1 g2 g3 hb0;have hbl:=KK g1;obtain⟨K,hK⟩:∃K,60+nbits m=K:=⟨_,rfl⟩;have hq:nquot ⟨na,n,e⟩ ⟨nb,m,f⟩=nmark (na != nb) (n*2^K/m) (e-K-f) (decide (n*2^K % m=0)):=by unfold nquot;simp only;rw[hK]
 rw[hq];have w1:IntKind.i64.wrap (60+((nbits m:Nat):Int))=(K:Int):=(w64 (by omega)).trans (by omega);have w2:IntKind.i64.wrap (e-(K:Int))=e-(K:Int):=w64 (by omega);have w3:IntKind.i64.wrap (e-(K:Int)-f)=e-(K:Int)-f:=w64 (by omega);have bK:Bd (n*2^K) (k+K):=h1.up;have bq:Bd (n*2^K/m) (k+K):=bK.le (Nat.div_le_self _ _);have eff:(false==false)=true:=by decide
 have eft:(false==true)=false:=by decide
 have etf:(true==false)=false:=by decide
 have ett:(true==true)=true:=by decide
 simp -implicitDefEqProofs only[go_sem];refine cI (jZ _ (g1.sm (by omega))) ?_;simp -implicitDefEqProofs only[go_sem,w1];refine cI (up_c _ h1 (by omega) (by omega)) ?_;simp -implicitDefEqProofs only[go_sem,w1];refine cI (ziR _ bK (g1.mono (by omega)) (by omega) hb0) ?_;generalize n*2^K/m=q at *;generalize decide (n*2^K % m=0)=whole at *;cases na<;>cases nb
 ·simp -implicitDefEqProofs only[go_sem,w1,w2,w3,eff];refine cI (vF _ false whole bq (by omega) (e:=e-(K:Int)-f) ⟨by omega,by omega⟩) ?_;simp -implicitDefEqProofs only[go_sem];rfl
 ·simp -implicitDefEqProofs only[go_sem,w1,w2,w3,eft];refine cI (vF _ true whole bq (by omega) (e:=e-(K:Int)-f) ⟨by omega,by omega⟩) ?_;simp -implicitDefEqProofs only[go_sem];rfl
 ·simp -implicitDefEqProofs only[go_sem,w1,w2,w3,etf];refine cI (vF _ true whole bq (by omega) (e:=e-(K:Int)-f) ⟨by omega,by omega⟩) ?_;simp -implicitDefEqProofs only[go_sem];rfl
 ·simp -implicitDefEqProofs only[go_sem,w1,w2,w3,ett];refine cI (vF _ false whole bq (by omega) (e:=e-(K:Int)-f) ⟨by omega,by omega⟩) ?_;simp -implicitDefEqProofs only[go_sem];rfl
theorem bneF {x y:Int}(h:x=y):(x != y)=false:=by rw[h];exact bne_self_eq_false y
theorem bneT {x y:Int}(h:x≠y):(x != y)=true:=bne_iff_ne.2 h
theorem tm2 {z:Int}:z.tmod 2=0↔z % 2=0:=by
 constructor
 ·intro h;have:=Int.dvd_of_tmod_eq_zero h;omega
 ·intro h;exact Int.tmod_eq_zero_of_dvd (by omega)
theorem td2 {z:Int}(h:z % 2=0)(hb : -100000000<=z/\z<=100000000):IntKind.i64.wrap (z.tdiv 2)=z/2:=by
 obtain⟨t,rfl⟩:∃t,z=2*t:=⟨z/2,by omega⟩;rw[Int.mul_tdiv_cancel_left t (by decide),w64 (by omega)];omega
theorem ZX (E:Nat->Option Value){a:Nm}{k:Nat}(ha:NOk a k)(hk:k<=1000000):DQz E 56 [nmD a] (.data (nmD (nroot a))):=by
 refine dcA Tryz.func56 Tryz.ntmps56 (rs:=[.cell 2 70]) fun _ _ _ _ _=>?_
 obtain⟨na,n,e⟩:=a;obtain⟨h1,h2,h3⟩:=ha;simp only at h1 h2 h3;have w0:IntKind.i64.wrap (e-130)=e-130:=w64 (by omega);have b1:∀j,Bd (n*2^j) (k+j):=fun j=>h1.up
 by_cases hev:(e-130) % 2=0
 ·have hK:rootk e=130:=by unfold rootk;rw[if_pos hev]
  have hq:nroot ⟨na,n,e⟩=nmark false (isq (n*2^130)) ((e-130)/2) (decide (isq (n*2^130)*isq (n*2^130)=n*2^130)):=by unfold nroot;simp only[hK];rfl
  rw[hq];have e1:((e-130).tmod 2 != 0)=false:=bneF (tm2.2 hev);have w1:=td2 hev ⟨by omega,by omega⟩;have bq:=(b1 130).le (Nat.le_trans (Ux _) (vI (n*2^130)).1);obtain⟨N,hN⟩:∃N,n*2^130=N:=⟨_,rfl⟩;have hu:=up_c E (k:=130) h1 (by omega) (by omega);have bN:=b1 130;rw[hN] at hu bq bN ⊢;have hr:=zbo E bN (by omega);have hm:=vF E false (decide (isq N*isq N=N)) bq (by omega) (e:=(e-130)/2) ⟨by omega,by omega⟩;simp -implicitDefEqProofs only[go_sem,w0,e1];refine cI hu ?_;simp -implicitDefEqProofs only[go_sem];refine cI hr ?_;simp -implicitDefEqProofs only[go_sem,w0,w1];refine cI hm ?_;simp -implicitDefEqProofs only[go_sem]
 ·have hK:rootk e=131:=by unfold rootk;rw[if_neg hev]
  have hq:nroot ⟨na,n,e⟩=nmark false (isq (n*2^131)) ((e-131)/2) (decide (isq (n*2^131)*isq (n*2^131)=n*2^131)):=by unfold nroot;simp only[hK];rfl
  rw[hq];have e1:((e-130).tmod 2 != 0)=true:=bneT (fun h=>hev (tm2.1 h));have e2:=tB e1;have w1:=td2 (z:=e-131) (by omega) ⟨by omega,by omega⟩;have w2:IntKind.i64.wrap (e-131)=e-131:=w64 (by omega);have w3:IntKind.i64.wrap (130+1)=131:=by decide
  have bq:=(b1 131).le (Nat.le_trans (Ux _) (vI (n*2^131)).1);obtain⟨N,hN⟩:∃N,n*2^131=N:=⟨_,rfl⟩;have hu:=up_c E (k:=131) h1 (by omega) (by omega);have bN:=b1 131;rw[hN] at hu bq bN ⊢;have hr:=zbo E bN (by omega);have hm:=vF E false (decide (isq N*isq N=N)) bq (by omega) (e:=(e-131)/2) ⟨by omega,by omega⟩;simp -implicitDefEqProofs only[go_sem,w0,e2,w3];refine cI hu ?_;simp -implicitDefEqProofs only[go_sem];refine cI hr ?_;simp -implicitDefEqProofs only[go_sem,w3,w2,w1];refine cI hm ?_;simp -implicitDefEqProofs only[go_sem]
def nmC (a:Nm):List D:=[bD a.neg,natD a.n,intD a.e]
theorem KC (a:Nm):(nmC a).length=3:=rfl
theorem zfR (l:List Nm):(l.flatMap nmC).length=l.length*3:=by
 induction l with
 |nil=>rfl
 |cons o l ih=>simp only[List.flatMap_cons,List.length_append,ih,KC,List.length_cons,Nat.add_mul];omega
theorem HH:∀ {l:List Nm} {i:Nat} {o:Nm},l[i]?=some o->((l.flatMap nmC).drop (i*3)).take 3=nmC o
 |[],i,o,h=>by simp at h
 |a :: l,0,o,h=>by
  simp only[List.getElem?_cons_zero,Option.some.injEq] at h;subst h;rw[Nat.zero_mul,List.drop_zero,List.flatMap_cons,List.take_append_of_le_length (by simp[KC])];exact List.take_of_length_le (by simp[KC])
 |a :: l,i+1,o,h=>by
  simp only[List.getElem?_cons_succ] at h;rw[List.flatMap_cons,Nat.add_mul,Nat.one_mul,Nat.add_comm,<-List.drop_drop,List.drop_left' (KC a)];exact HH h
abbrev nlD (l:List Nm):D:=.sl 3 (l.flatMap nmC)
theorem div3 (n:Nat):n*3/3=n:=Nat.mul_div_cancel _ (by decide)
def loAt (f:Nat->Nm):Nat->Nm
 |0=>f 0
 |n+1=>if nless (f (n+1)) (loAt f n)=true then f (n+1) else loAt f n
def hiAt (f:Nat->Nm):Nat->Nm
 |0=>f 0
 |n+1=>if nless (hiAt f n) (f (n+1))=true then f (n+1) else hiAt f n
theorem V2 {f:Nat->Nm}{k m:Nat}(h:∀n,n<m->NOk (f n) k):∀n,n<m->NOk (loAt f n) k
 |0,hn=>h 0 hn
 |n+1,hn=>by
  unfold loAt;split
  ·exact h _ hn
  ·exact V2 h n (by omega)
theorem Ze {f:Nat->Nm}{k m:Nat}(h:∀n,n<m->NOk (f n) k):∀n,n<m->NOk (hiAt f n) k
 |0,hn=>h 0 hn
 |n+1,hn=>by
  unfold hiAt;split
  ·exact h _ hn
  ·exact Ze h n (by omega)
abbrev nmT (a:Nm):List T:=[.d (bD a.neg),.d (natD a.n),.d (intD a.e)]
theorem zhk (E:Nat->Option Value){l:List Nm}{f:Nat->Nm}{m k:Nat}(hl:l.length=m+1)(hm:m<=1000)(hf:∀i,i<m+1->l[i]?=some (f i))(hk:k<=1000000)(hok:∀i,i<m+1->NOk (f i) k) :
  DQz E 49 [nlD l] (.data (.tup [boxD (wH (loAt f m) (hiAt f m)).1,intD (wH (loAt f m) (hiAt f m)).2])):=by
 refine dcA Tryz.func49 Tryz.ntmps49 (rs:=[.cell 2 27,.tmp 3]) fun _ _ _ _ _=>?_
 have hmax:=mxE;have hlen:=zfR l;rw[hl] at hlen;have h0:=HH (hf 0 (by omega));have z0:0<(m+1)*3:=by omega
 have z1:0+3<=(m+1)*3:=by omega
 have z2:3<=(m+1)*3:=by omega
 rw[Nat.zero_mul,List.drop_zero] at h0;have hfin:=kU E (V2 hok m (by omega)) (Ze hok m (by omega)) (by omega);obtain⟨R,hR⟩:∃R,wH (loAt f m) (hiAt f m)=R:=⟨_,rfl⟩;rw[hR] at hfin ⊢;simp -implicitDefEqProofs only[go_sem,hlen,h0,nmC,z0,z1,z2,div3];rw[wu];refine wm (α:={i:Nat // i<=m}) (fun i=>St.of [(0,.d (nlD l)),(2,.ptr 2 0),(4,.ptr 4 0),(5,.ptr 5 0),(6,.d (intD (i.1+1:Nat)))]
  [(2,⟨none,[.d (.v (.int .u64 0)),.d (.v (.int .u64 0))]⟩),(4,⟨none,nmT (loAt f i.1)⟩),(5,⟨none,nmT (hiAt f i.1)⟩)]) (fun i=>m-i.1) ⟨0,by omega⟩ (we ?_ ?_ rfl) (by kernel_rfl) (fun i=>?_)
 ·have c1:((1:Nat):Int)=1:=rfl;simp -implicitDefEqProofs only[go_sem,loAt,c1]
 ·simp -implicitDefEqProofs only[go_sem,loAt,hiAt]
 ·obtain⟨i,hi⟩:=i;by_cases hA:i<m
  ·have eA:decide (((i+1:Nat):Int)<((m+1:Nat):Int))=true:=tD (by omega);have w1:IntKind.i64.wrap (((i+1:Nat):Int)+1)=((i+1+1:Nat):Int):=wL (by omega);have hx:=hf (i+1) (by omega);have hx3:=HH hx;have y1:(i+1)*3<(m+1)*3:=by omega
   have y2:(i+1)*3+3<=(m+1)*3:=by omega
   have l1:=kE E (hok (i+1) (by omega)) (V2 hok i (by omega)) hk;have l2:=kE E (Ze hok i (by omega)) (hok (i+1) (by omega)) hk;have s1:loAt f (i+1)=if nless (f (i+1)) (loAt f i)=true then f (i+1) else loAt f i:=rfl
   have s2:hiAt f (i+1)=if nless (hiAt f i) (f (i+1))=true then f (i+1) else hiAt f i:=rfl
   obtain⟨i',hi'⟩:∃i':{i:Nat // i<=m},i'.1=i+1:=⟨⟨i+1,hA⟩,rfl⟩;generalize nless (f (i+1)) (loAt f i)=c1 at *;generalize nless (hiAt f i) (f (i+1))=c2 at *;simp -implicitDefEqProofs only[go_sem,hlen,div3,eA];refine drw ?_;simp -implicitDefEqProofs only[go_sem,hlen,div3,y1,y2,hx3,nmC];refine cI l1 ?_;simp -implicitDefEqProofs only[go_sem];refine drw ?_;simp -implicitDefEqProofs only[go_sem,hlen,div3,y1,y2,hx3,nmC];refine cI l2 ?_;cases c1<;>cases c2
   ·rw[if_neg (by decide)] at s1 s2;simp -implicitDefEqProofs only[go_sem,w1];refine⟨i',we ?_ ?_ rfl,by simp only[hi'];omega⟩<;>simp -implicitDefEqProofs only[go_sem,hi',s1,s2]
   ·rw[if_neg (by decide)] at s1;rw[if_pos rfl] at s2;simp -implicitDefEqProofs only[go_sem,w1,hlen,div3,y1,y2,hx3,nmC];refine⟨i',we ?_ ?_ rfl,by simp only[hi'];omega⟩<;>simp -implicitDefEqProofs only[go_sem,hi',s1,s2,hx3,nmC]
   ·rw[if_neg (by decide)] at s2;rw[if_pos rfl] at s1;simp -implicitDefEqProofs only[go_sem,w1,hlen,div3,y1,y2,hx3,nmC];refine⟨i',we ?_ ?_ rfl,by simp only[hi'];omega⟩<;>simp -implicitDefEqProofs only[go_sem,hi',s1,s2,hx3,nmC]
   ·rw[if_pos rfl] at s1 s2;simp -implicitDefEqProofs only[go_sem,w1,hlen,div3,y1,y2,hx3,nmC];refine⟨i',we ?_ ?_ rfl,by simp only[hi'];omega⟩<;>simp -implicitDefEqProofs only[go_sem,hi',s1,s2,hx3,nmC]
  ·have eA:decide (((i+1:Nat):Int)<((m+1:Nat):Int))=false:=fD (by omega);have him:i=m:=by omega
   subst him;simp -implicitDefEqProofs only[go_sem,hlen,div3,eA];refine cI hfin ?_;simp -implicitDefEqProofs only[go_sem];refine wc ?_;simp -implicitDefEqProofs only[go_sem]
def vD (a1 a2 b1 b2:Nm):(Nat×Nat)×Int:=
 let lo:=if nless a1 b1=true then b1 else a1
 let hi:=if nless b2 a2=true then b2 else a2
 if nless hi lo=true then ((0,0),6) else ((wH lo hi).1,0)
theorem ziW (E:Nat->Option Value){a1 a2 b1 b2:Nm}{k:Nat}(ha1:NOk a1 k)(ha2:NOk a2 k)(hb1:NOk b1 k)(hb2:NOk b2 k)(hk:k<=1000000) :
  DQz E 50 [nvD a1 a2,nvD b1 b2] (.data (.tup [boxD (vD a1 a2 b1 b2).1,intD (vD a1 a2 b1 b2).2,tD_ noS])):=by
 refine dcA Tryz.func50 Tryz.ntmps50 (rs:=[.cell 4 27,.tmp 5,.tmp 6]) fun _ _ _ _ _=>?_
 have hM:vD a1 a2 b1 b2=if nless (if nless b2 a2=true then b2 else a2) (if nless a1 b1=true then b1 else a1)=true then ((0,0),6) else ((wH (if nless a1 b1=true then b1 else a1) (if nless b2 a2=true then b2 else a2)).1,0):=rfl
 have l1:=kE E ha1 hb1 hk;have l2:=kE E hb2 ha2 hk;have key:∀ {lo hi:Nm},NOk lo k->NOk hi k->∀ {M:(Nat×Nat)×Int},(M=if nless hi lo=true then ((0,0),6) else ((wH lo hi).1,0))->DQz E 35 [nmD hi,nmD lo] (.data (bD (nless hi lo)))/\DQz E 48 [nmD lo,nmD hi] (.data (.tup [boxD (wH lo hi).1,intD (wH lo hi).2]))/\((nless hi lo=true/\M=((0,0),6))\/(nless hi lo=false/\M=((wH lo hi).1,0))):=fun {lo hi} h1 h2 M e=>by
  refine⟨kE E h2 h1 hk,kU E h1 h2 (by omega),?_⟩;cases h:nless hi lo
  ·exact .inr ⟨rfl,by rw[e,if_neg (by rw[h];decide)]⟩
  ·exact .inl ⟨rfl,by rw[e,if_pos h]⟩
 obtain⟨M,hMM⟩:∃M,vD a1 a2 b1 b2=M:=⟨_,rfl⟩;rw[hMM] at hM ⊢;generalize nless a1 b1=c1 at *;generalize nless b2 a2=c2 at *;simp -implicitDefEqProofs only[go_sem];refine cI l1 ?_;cases c1<;>cases c2
 ·rw[if_neg (show ¬(false=true) by decide),if_neg (show ¬(false=true) by decide)] at hM;obtain⟨k1,k2,k3⟩:=key ha1 ha2 hM;simp -implicitDefEqProofs only[go_sem];refine cI l2 ?_;simp -implicitDefEqProofs only[go_sem];refine cI k1 ?_;rcases k3 with⟨e1,e2⟩|⟨e1,e2⟩
  ·rw[e1,e2];simp -implicitDefEqProofs only[go_sem];refine wc ?_;simp -implicitDefEqProofs only[go_sem]
  ·rw[e1,e2];simp -implicitDefEqProofs only[go_sem];refine cI k2 ?_;simp -implicitDefEqProofs only[go_sem];refine wc ?_;simp -implicitDefEqProofs only[go_sem]
 ·rw[if_neg (show ¬(false=true) by decide),if_pos (rfl:true=true)] at hM;obtain⟨k1,k2,k3⟩:=key ha1 hb2 hM;simp -implicitDefEqProofs only[go_sem];refine cI l2 ?_;simp -implicitDefEqProofs only[go_sem];refine cI k1 ?_;rcases k3 with⟨e1,e2⟩|⟨e1,e2⟩
  ·rw[e1,e2];simp -implicitDefEqProofs only[go_sem];refine wc ?_;simp -implicitDefEqProofs only[go_sem]
  ·rw[e1,e2];simp -implicitDefEqProofs only[go_sem];refine cI k2 ?_;simp -implicitDefEqProofs only[go_sem];refine wc ?_;simp -implicitDefEqProofs only[go_sem]
 ·rw[if_pos (rfl:true=true),if_neg (show ¬(false=true) by decide)] at hM;obtain⟨k1,k2,k3⟩:=key hb1 ha2 hM;simp -implicitDefEqProofs only[go_sem];refine cI l2 ?_;simp -implicitDefEqProofs only[go_sem];refine cI k1 ?_;rcases k3 with⟨e1,e2⟩|⟨e1,e2⟩
  ·rw[e1,e2];simp -implicitDefEqProofs only[go_sem];refine wc ?_;simp -implicitDefEqProofs only[go_sem]
  ·rw[e1,e2];simp -implicitDefEqProofs only[go_sem];refine cI k2 ?_;simp -implicitDefEqProofs only[go_sem];refine wc ?_;simp -implicitDefEqProofs only[go_sem]
 ·rw[if_pos (rfl:true=true),if_pos (rfl:true=true)] at hM;obtain⟨k1,k2,k3⟩:=key hb1 hb2 hM;simp -implicitDefEqProofs only[go_sem];refine cI l2 ?_;simp -implicitDefEqProofs only[go_sem];refine cI k1 ?_;rcases k3 with⟨e1,e2⟩|⟨e1,e2⟩
  ·rw[e1,e2];simp -implicitDefEqProofs only[go_sem];refine wc ?_;simp -implicitDefEqProofs only[go_sem]
  ·rw[e1,e2];simp -implicitDefEqProofs only[go_sem];refine cI k2 ?_;simp -implicitDefEqProofs only[go_sem];refine wc ?_;simp -implicitDefEqProofs only[go_sem]
theorem ziZ (E:Nat->Option Value){x r:Nat×Nat}{n:Int}{a b:Nm}{p1 p2:Bool}(hm:DQz E 15 [boxD x] (.data (.tup [boxD r,intD n])))(ha:DQz E 34 [.v (.int .u64 r.1)] (.data (.tup [nmD a,bD p1])))
  (hb:DQz E 34 [.v (.int .u64 r.2)] (.data (.tup [nmD b,bD p2]))):DQz E 46 [boxD x] (.data (nvD a b)):=by
 refine dcA Tryz.func46 Tryz.ntmps46 (rs:=[.cell 2 81]) fun _ _ _ _ _=>?_
 simp -implicitDefEqProofs only[go_sem];refine cI hm ?_;simp -implicitDefEqProofs only[go_sem];refine cI ha ?_;simp -implicitDefEqProofs only[go_sem];refine cI hb ?_;simp -implicitDefEqProofs only[go_sem]
abbrev mk2 (x:Nat×Nat):Nat×Nat:=(vG x.1 x.2).1
theorem WJ (E:Nat->Option Value){x:Nat×Nat}(h1:x.1<18446744073709551616)(h2:x.2<18446744073709551616)(g1:(mk2 x).1<18446744073709551616)(g2:(mk2 x).2<18446744073709551616) :
  DQz E 46 [boxD x] (.data (nvD (nplain (mk2 x).1).1 (nplain (mk2 x).2).1)):=
 ziZ E (VZ E h1 h2) (xP E g1) (xP E g2)
def four (a b c d:Nm):Nat->Nm
 |0=>a
 |1=>b
 |2=>c
 |_=>d
def xb (a b c d:Nm):(Nat×Nat)×Int:=wH (loAt (four a b c d) 3) (hiAt (four a b c d) 3)
theorem Vx (E:Nat->Option Value){a b c d:Nm}{k:Nat}(ha:NOk a k)(hb:NOk b k)(hc:NOk c k)(hd:NOk d k)(hk:k<=1000000) :
  DQz E 49 [nlD [a,b,c,d]] (.data (.tup [boxD (xb a b c d).1,intD (xb a b c d).2])):=by
 refine zhk E (l:=[a,b,c,d]) (f:=four a b c d) (m:=3) (k:=k) rfl (by omega) (fun i hi=>?_) hk (fun i hi=>?_)
 ·have:i=0\/i=1\/i=2\/i=3:=by omega
  rcases this with rfl|rfl|rfl|rfl<;>rfl
 ·have:i=0\/i=1\/i=2\/i=3:=by omega
  rcases this with rfl|rfl|rfl|rfl
  ·exact ha
  ·exact hb
  ·exact hc
  ·exact hd
end Go.Enc
