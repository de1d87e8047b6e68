/-
  A heavy diagonal: how small ends may become in two columns. No program.
-/
import Derived.Test.YtjlibljfpkmpfaaGreatDoorSa41
set_option maxRecDepth 100000
set_option linter.unusedSimpArgs false
set_option linter.unusedVariables false
namespace Go.Enc
open Go.Enc.Fl
def am (x:Rat):Rat:=if 0<=x then x else -x
theorem kg (x:Rat):0<=am x/\(am x<=x\/x<=-am x)/\-am x<=x/\x<=am x:=by
 unfold am;split<;>exact⟨by grind,by grind,by grind,by grind⟩
theorem Zw {x:Rat}(h:x≠0):0<am x:=by
 unfold am;split<;>grind
theorem Zx (x y:Rat):am (x*y)=am x*am y:=by
 have hx:=kg x;unfold am;by_cases h1:0<=x<;>by_cases h2:0<=y
 ·rw[if_pos (Rat.mul_nonneg h1 h2),if_pos h1,if_pos h2]
 ·rw[if_pos h1,if_neg h2];have:=Rat.mul_nonneg h1 (show 0<=-y by grind);split<;>grind
 ·rw[if_neg h1,if_pos h2];have:=Rat.mul_nonneg (show 0<=-x by grind) h2;split<;>grind
 ·rw[if_neg h1,if_neg h2];have:=Rat.mul_nonneg (show 0<=-x by grind) (show 0<=-y by grind);rw[if_pos (by grind)];grind
theorem Lw.of_am {L:Int}{x:Rat}(h:(2:Rat)^(-L)<=am x):Lw L x:=by
 unfold am at h;unfold Lw;split at h
 ·exact .inr (.inl h)
 ·exact .inr (.inr (by grind))
theorem Lw.am_ge {L:Int}{x:Rat}(h:Lw L x)(hx:x≠0):(2:Rat)^(-L)<=am x:=by
 have:=wB (-L);unfold am;rcases h with h|h|h
 ·exact absurd h hx
 ·rw[if_pos (by grind)];exact h
 ·rw[if_neg (by grind)];grind
theorem Lw.subNz {a:Int}{i j:Int}(h:(2:Rat)^(-a)<=v i\/v i<=-(2:Rat)^(-a)):Lw (a+54) (v i-v j):=by
 have hz:=wB (-a);have e1:(2:Rat)^(-a)=2^(-a-1)*2:=by
  rw[show(-a:Int)=(-a-1)+1 by omega,wA];congr 1;rw[show(-a-1+1-1:Int) = -a-1 by omega]
 by_cases hs:(2:Rat)^(-a-1)<=v j\/v j<=-(2:Rat)^(-a-1)
 ·obtain⟨x,hx⟩:=gran (z:=-a-1) (i:=i) (by grind);obtain⟨y,hy⟩:=gran (z:=-a-1) hs;rw[hx,hy];have:=Yo (a:=x) (b:=y) (wB (-a-1-53));have h3:=jl (a:=-(a+54)) (b:=-a-1-53) (by omega);unfold Lw;grind
 ·have h3:=jl (a:=-(a+54)) (b:=-a-1) (by omega);unfold Lw;grind
theorem LoA.mono {l l':Rat}{X:Nat×Nat}(h:LoA l X)(hl:l'<=l):LoA l' X:=by
 rcases h with h|h
 ·exact .inl (by grind)
 ·exact .inr (by grind)
theorem zd {x y a b:Rat}(ha:0<=a)(hb:0<=b)(h:a<=x)(k:b<=y):a*b<=x*y:=by
 have h1:=Rat.mul_le_mul_of_nonneg_right h hb;have h2:=Rat.mul_le_mul_of_nonneg_left k (c:=x) (by grind);grind
section
variable {E:Nat->Option Value} {M V S:Nat×Nat->Nat×Nat->AnsQ} (O:Ops3 E M V S) {a b:Nat×Nat} {La Lb:Int} {ma mb la lb:Rat}
include O
theorem zgv (g:Gd a)(g':Gd b)(q:Qi La ma a)(q':Qi Lb mb b)(h0:0<=La+Lb)(hL:La+Lb<=900)(hm:ma*mb<=(2:Rat)^(900:Int))(ka:0<=la)(kb:0<=lb)(h:LoA la a)(k:LoA lb b):LoA (la*lb*kap0) (M a b).1:=by
 have am:0<=ma*mb:=Rat.mul_nonneg (by have:=q.lo;have:=q.hi;have:=g.iLH;grind) (by have:=q'.lo;have:=q'.hi;have:=g'.iLH;grind);obtain⟨_,_,_,h3,h4⟩:=opQ (O.m a b g g').2 h0 hL hm am (fun j k hj hk=>by
  obtain⟨a1,a2,a3⟩:=q.end_ g j;obtain⟨b1,b2,b3⟩:=q'.end_ g' k;have:=kJ a2 a3 b2 b3;exact⟨a1.mul b1,this.1,this.2⟩)
 have ga:=g.iLH;have gb:=g'.iLH;have nn:=Rat.mul_nonneg ka kb;have ea:∀j,iL a<=iE a j/\iE a j<=iH a:=fun j=>by unfold iE;split<;>exact⟨by grind,by grind⟩
 have eb:∀j,iL b<=iE b j/\iE b j<=iH b:=fun j=>by unfold iE;split<;>exact⟨by grind,by grind⟩
 rcases h with h|h<;>rcases k with k|k
 ·exact .inl (h3 _ nn fun i j _ _=>by
   have:=ea i;have:=eb j;exact zd ka kb (by grind) (by grind))
 ·exact .inr (h4 _ nn fun i j _ _=>by
   have:=ea i;have:=eb j;have:=zd (x:=iE a i) (y:=-iE b j) ka kb (by grind) (by grind);unfold mulX;grind)
 ·exact .inr (h4 _ nn fun i j _ _=>by
   have:=ea i;have:=eb j;have:=zd (x:=-iE a i) (y:=iE b j) ka kb (by grind) (by grind);unfold mulX;grind)
 ·exact .inl (h3 _ nn fun i j _ _=>by
   have:=ea i;have:=eb j;have:=zd (x:=-iE a i) (y:=-iE b j) ka kb (by grind) (by grind);unfold mulX;grind)
theorem zlD (g:Gd a)(g':Gd b)(q:Qi La ma a){l:Rat}(hl:0<l)(k:LoA l b){u:Int}(hu1 : -(2:Rat)^u<=iL b)(hu2:iH b<=(2:Rat)^u)(h0:0<=La+u)(hL:La+u<=900)(hm:ma*l⁻¹<=(2:Rat)^(900:Int))(ka:0<=la)(h:LoA la a):LoA (la*2^(-u)*kap0) (V a b).1:=by
 have hli:=Rat.inv_pos.2 hl;have am:0<=ma*l⁻¹:=Rat.mul_nonneg (by have:=q.lo;have:=q.hi;have:=g.iLH;grind) (Rat.le_of_lt hli);obtain⟨_,_,_,h3,h4⟩:=opQ ((O.v a b g g').2.2 (k.has0 hl)) h0 hL hm am (fun j i hj hi=>by
  obtain⟨a1,a2,a3⟩:=q.end_ g j;have b1:=k.end_ g' i;have b2:=V9 hl b1;have b3:iE b i≠0:=by rcases b1 with h|h<;>grind
  have b4 : -(2:Rat)^u<=iE b i/\iE b i<=2^u:=by
   have:=g'.iLH;unfold iE;split<;>exact⟨by grind,by grind⟩
  have:=kJ a2 a3 b2.1 b2.2;unfold divX;rw[Rat.div_def];exact⟨a1.mul (Lw.inv b3 b4.1 b4.2),this.1,this.2⟩)
 have ga:=g.iLH;have gb:=g'.iLH;have hz:=wB (-u);have nn:=Rat.mul_nonneg ka (Rat.le_of_lt hz);have ea:∀j,iL a<=iE a j/\iE a j<=iH a:=fun j=>by unfold iE;split<;>exact⟨by grind,by grind⟩
 have eb:∀j,iL b<=iE b j/\iE b j<=iH b:=fun j=>by unfold iE;split<;>exact⟨by grind,by grind⟩
 have ei:∀j,(l<=iE b j->(2:Rat)^(-u)<=(iE b j)⁻¹)/\(iE b j<=-l->(2:Rat)^(-u)<=-(iE b j)⁻¹):=fun j=>by
  have e:=UI u;have:=eb j;refine⟨fun hj=>?_,fun hj=>?_⟩
  ·have:=(vu (l:=iE b j) (y:=2^u) (by grind) (by grind)).2;rw[e] at this;exact this
  ·have:=(vu (l:=-iE b j) (y:=2^u) (by grind) (by grind)).2;rw[e,QJ] at this;exact this
 rcases h with h|h<;>rcases k with k|k
 ·exact .inl (h3 _ nn fun i j _ _=>by
   have:=ea i;have:=eb j;have:=(ei j).1 (by grind);unfold divX;rw[Rat.div_def];exact zd ka (Rat.le_of_lt hz) (by grind) (by grind))
 ·exact .inr (h4 _ nn fun i j _ _=>by
   have:=ea i;have:=eb j;have:=(ei j).2 (by grind);have:=zd (x:=iE a i) (y:=-(iE b j)⁻¹) ka (Rat.le_of_lt hz) (by grind) (by grind);unfold divX;rw[Rat.div_def];grind)
 ·exact .inr (h4 _ nn fun i j _ _=>by
   have:=ea i;have:=eb j;have:=(ei j).1 (by grind);have:=zd (x:=-iE a i) (y:=(iE b j)⁻¹) ka (Rat.le_of_lt hz) (by grind) (by grind);unfold divX;rw[Rat.div_def];grind)
 ·exact .inl (h3 _ nn fun i j _ _=>by
   have:=ea i;have:=eb j;have:=(ei j).2 (by grind);have:=zd (x:=-iE a i) (y:=-(iE b j)⁻¹) ka (Rat.le_of_lt hz) (by grind) (by grind);unfold divX;rw[Rat.div_def];grind)
end
section
variable {E:Nat->Option Value} {M V S:Nat×Nat->Nat×Nat->AnsQ} (O:Ops3 E M V S) {a b:Nat×Nat} {La Lb:Int} {ma mb la lb:Rat}
include O
theorem zgj (g:Gd a)(g':Gd b){c:Int}(h0:0<=c)(hL:c<=900)(q : -ma<=iL a/\iH a<=ma)(q' : -mb<=iL b/\iH b<=mb)(hm:ma+mb<=(2:Rat)^(900:Int))(h1:Lw c (iL a-iH b))(h2:Lw c (iH a-iL b)) :
  Lw c (iL (S a b).1)/\Lw c (iH (S a b).1)/\(iL a=0->iH a=0->0<=lb->LoA lb b->LoA (lb*kap0) (S a b).1):=by
 have ga:=g.iLH;have gb:=g'.iLH;obtain⟨_,r,_,h3,h4⟩:=opQ (O.s a b g g').2 (L:=c) (m:=ma+mb) h0 hL hm (by grind) (fun j k hj hk=>by
  unfold subX;split
  ·exact⟨h1,by grind,by grind⟩
  ·exact⟨h2,by grind,by grind⟩)
 refine⟨r.l,r.h,fun z1 z2 hl k=>?_⟩;rcases k with k|k
 ·exact .inr (h4 _ hl fun i j _ _=>by unfold subX;split<;>grind)
 ·exact .inl (h3 _ hl fun i j _ _=>by unfold subX;split<;>grind)
end
structure Pts (A:Nat->Nat->Nat×Nat)(a:Nat->Nat->Rat)(n:Nat):Prop where
 gd:∀i j,i<n->j<=n->Gd (A i j)
 eq:∀i j,i<n->j<=n->iL (A i j)=a i j/\iH (A i j)=a i j
 lw:∀i j,i<n->j<=n->Lw 30 (a i j)
 le:∀i j,i<n->j<=n->am (a i j)<=1073741824
def tQ (a:Nat->Nat->Rat)(i j:Nat):Rat:=am (a i 0*(a 0 0)⁻¹)*am (a 0 j)
section
variable {E:Nat->Option Value} {M V S:Nat×Nat->Nat×Nat->AnsQ} (O:Ops3 E M V S) {A:Nat->Nat->Nat×Nat} {a:Nat->Nat->Rat} {n:Nat}
theorem KL:am 0=0:=by unfold am;rw[if_pos Rat.le_refl]
theorem Vt (P:Pts A a n)(h00:a 0 0≠0)(hn:0<n){i j:Nat}(hi:i<n)(hj:j<=n)(h:0<tQ a i j):a i 0≠0/\a 0 j≠0/\(2:Rat)^(-90:Int)<=tQ a i j:=by
 have e30:(2:Rat)^(30:Int)=1073741824:=by decide +kernel
 have h1:a i 0≠0:=fun e=>by
  unfold tQ at h;rw[e,Rat.zero_mul,KL,Rat.zero_mul] at h;grind
 have h2:a 0 j≠0:=fun e=>by
  unfold tQ at h;rw[e,KL] at h;grind
 refine⟨h1,h2,?_⟩;have s0:=kg (a 0 0);have l0:=P.le 0 0 hn (by omega);have q:=(P.lw i 0 hi (by omega)).mul (Lw.inv (u:=30) h00 (by rw[e30];grind) (by rw[e30];grind));have w:=q.mul (P.lw 0 j hn hj);have hne:a i 0*(a 0 0)⁻¹*a 0 j≠0:=by
  intro e;unfold tQ at h;rw[<-Zx,e,KL] at h;grind
 have:=Lw.am_ge w hne;rw[Zx] at this;exact this
include O
theorem zhg (P:Pts A a n)(h00:a 0 0≠0)(hn:0<n){i j:Nat}(hi:i<n)(hj:j<=n)(hz:isZ (A i 0)=false) :
  Gd (V (A i 0) (A 0 0)).1/\Gd (M (V (A i 0) (A 0 0)).1 (A 0 j)).1/\Qi 90 (tQ a i j*(kap1*kap1)) (M (V (A i 0) (A 0 0)).1 (A 0 j)).1/\LoA (tQ a i j*(kap0*kap0)) (M (V (A i 0) (A 0 0)).1 (A 0 j)).1/\tQ a i j<=1237940039285380274899124224:=by
 have e30:(2:Rat)^(30:Int)=1073741824:=by decide +kernel
 have e900:(1237940039285380274899124224*2:Rat)<=(2:Rat)^(900:Int):=by decide +kernel
 have s0:=kg (a 0 0);have p0:=Zw h00;have l0:=P.le 0 0 hn (by omega);have g0:=P.gd 0 0 hn (by omega);have gi:=P.gd i 0 hi (by omega);have gj:=P.gd 0 j hn hj;have x0:=P.eq 0 0 hn (by omega);have xi:=P.eq i 0 hi (by omega);have xj:=P.eq 0 j hn hj;have si:=kg (a i 0);have sj:=kg (a 0 j);have li:=P.le i 0 hi (by omega);have lj:=P.le 0 j hn hj;have k00:LoA (am (a 0 0)) (A 0 0):=by unfold LoA;rw[x0.1,x0.2];exact s0.2.1
 obtain⟨f,hf⟩:∃f,a i 0*(a 0 0)⁻¹=f:=⟨_,rfl⟩;have sf:=kg f;have inv30:am (a 0 0)⁻¹<=1073741824:=by
  have l30:=Lw.am_ge (P.lw 0 0 hn (by omega)) h00;have e:(2:Rat)^(-30:Int)=1/1073741824:=by decide +kernel
  rw[e] at l30;have h1:=(vu (l:=1/1073741824) (y:=am (a 0 0)) (by decide +kernel) l30).2;have h2:((1:Rat)/1073741824)⁻¹=1073741824:=by decide +kernel
  rw[h2] at h1;have h3:am (a 0 0)⁻¹=(am (a 0 0))⁻¹:=by
   have m1:=Zx (a 0 0) (a 0 0)⁻¹;rw[Rat.mul_inv_cancel _ h00] at m1;have m2:am 1=1:=by decide +kernel
   rw[m2] at m1;have m3:=Rat.mul_inv_cancel (am (a 0 0)) (by grind);have m4:(am (a 0 0))⁻¹*(am (a 0 0)*am (a 0 0)⁻¹)=(am (a 0 0))⁻¹:=by rw[<-m1,Rat.mul_one]
   grind
  rw[h3];exact h1
 have sI:=kg (a 0 0)⁻¹;have fle:am f<=1152921504606846976:=by
  rw[<-hf,Zx];have h1:=Rat.mul_le_mul_of_nonneg_right li sI.1;have h2:=Rat.mul_le_mul_of_nonneg_left inv30 (c:=1073741824) (by decide +kernel);grind
 have lwf:Lw 60 f:=by
  rw[<-hf];exact(P.lw i 0 hi (by omega)).mul (Lw.inv (u:=30) h00 (by rw[e30];grind) (by rw[e30];grind))
 have cor:∀j k,divX (A i 0) (A 0 0) j k=f:=fun j k=>by
  unfold divX iE;rw[xi.1,xi.2,x0.1,x0.2,Rat.div_def];have:∀x:Rat,(if j=0 then x else x)=x:=fun x=>by split<;>rfl
  have:∀x:Rat,(if k=0 then x else x)=x:=fun x=>by split<;>rfl
  simp only[*]
 obtain⟨v1,v2,v3,v4,v5⟩:=opQ ((O.v _ _ gi g0).2.2 (k00.has0 p0)) (L:=60) (m:=am f) (by omega) (by omega) (by grind) sf.1 (fun j k _ _=>by rw[cor];exact⟨lwf,sf.2.2.1,sf.2.2.2⟩);have loF:LoA (am f*kap0) (V (A i 0) (A 0 0)).1:=by
  rcases sf.2.1 with h|h
  ·exact .inl (v4 _ sf.1 fun j k _ _=>by rw[cor];exact h)
  ·exact .inr (v5 _ sf.1 fun j k _ _=>by rw[cor];exact h)
 have qj:Qi 30 (am (a 0 j)) (A 0 j):=⟨by rw[xj.1];exact P.lw 0 j hn hj,by rw[xj.2];exact P.lw 0 j hn hj,by rw[xj.1];exact sj.2.2.1,by rw[xj.2];exact sj.2.2.2⟩;have loj:LoA (am (a 0 j)) (A 0 j):=by unfold LoA;rw[xj.1,xj.2];exact sj.2.1
 have tle:tQ a i j<=1237940039285380274899124224:=by
  unfold tQ;rw[hf];have h1:=Rat.mul_le_mul_of_nonneg_right fle sj.1;have h2:=Rat.mul_le_mul_of_nonneg_left lj (c:=1152921504606846976) (by decide +kernel);grind
 have k1:kap1=1025/1024:=rfl;have k0:kap0=1023/1024:=rfl;have tdef:tQ a i j=am f*am (a 0 j):=by unfold tQ;rw[hf]
 have hmm:am f*kap1*am (a 0 j)<=(2:Rat)^(900:Int):=by
  have:am f*kap1*am (a 0 j)=tQ a i j*kap1:=by rw[tdef];grind
  rw[this,k1];have:=Rat.mul_nonneg sf.1 sj.1;grind
 obtain⟨m1,m2⟩:=mulQ O v3 gj v2 qj (by omega) (by omega) hmm;have m3:=zgv O v3 gj v2 qj (by omega) (by omega) hmm (Rat.mul_nonneg sf.1 (by decide +kernel)) sj.1 loF loj;refine⟨v3,O.gm v3 gj,m2.mono (by omega) ?_,m3.mono ?_,tle⟩
 ·rw[tdef,k1];grind
 ·rw[tdef,k0];grind
end
section
variable {E:Nat->Option Value} {M V S:Nat×Nat->Nat×Nat->AnsQ} (O:Ops3 E M V S) {A:Nat->Nat->Nat×Nat} {a:Nat->Nat->Rat} {n:Nat}
theorem zep (P:Pts A a n)(hn:0<n){i j:Nat}(hi:i<n)(hz:isZ (A i 0)=true):tQ a i j=0:=by
 have h:=(zco (P.gd i 0 hi (by omega))).1 hz;have e:=P.eq i 0 hi (by omega);rw[h,Zc] at e;unfold tQ;rw[<-e.1,Rat.zero_mul,KL,Rat.zero_mul]
theorem RT {i j:Nat}:0<=tQ a i j:=Rat.mul_nonneg (kg _).1 (kg _).1
include O
theorem Hl (P:Pts A a n)(h00:a 0 0≠0){i j:Nat}(h1:0<i)(hi:i<n)(g1:0<j)(hj:j<=n) :
  ((Lw 84 (iL (nxt M V S A n 0 i j))/\Lw 84 (iH (nxt M V S A n 0 i j)))\/(a i j=0/\0<tQ a i j)) /\
  (a i j=0->0<tQ a i j->LoA (tQ a i j*(kap0*kap0*kap0)) (nxt M V S A n 0 i j)) /\
  (a i j≠0->0<tQ a i j->tQ a i j<1/4294967296->LoA (1/2147483648) (nxt M V S A n 0 i j)):=by
 have k1:kap1=1025/1024:=rfl;have k0:kap0=1023/1024:=rfl;have e900:(1237940039285380274899124224*4:Rat)<=(2:Rat)^(900:Int):=by decide +kernel
 have t0:=RT (a:=a) (i:=i) (j:=j);have x:=P.eq i j hi hj;have gij:=P.gd i j hi hj;have l:=P.lw i j hi hj;have sa:=kg (a i j);have la:=P.le i j hi hj;cases hz:isZ (A i 0) with
 |true=>
  have ht:=zep P (by omega) hi hz (j:=j);have e:nxt M V S A n 0 i j=A i j:=by unfold nxt;rw[if_neg (by rw[hz];simp)]
  rw[e,ht,x.1,x.2];exact⟨.inl ⟨l.mono (by omega),l.mono (by omega)⟩,fun _ h=>by grind,fun _ h=>by grind⟩
 |false=>
  obtain⟨gF,gP,qP,kP,tle⟩:=zhg O P h00 (by omega) hi hj hz;have e:nxt M V S A n 0 i j=(S (A i j) (M (V (A i 0) (A 0 0)).1 (A 0 j)).1).1:=by
   unfold nxt;rw[if_pos ⟨h1,hi,hz⟩,if_neg (by omega),if_pos ⟨g1,hj⟩]
  rw[e];obtain⟨X,hX⟩:∃X,(M (V (A i 0) (A 0 0)).1 (A 0 j)).1=X:=⟨_,rfl⟩;rw[hX] at gP qP kP ⊢;have qa : -am (a i j)<=iL (A i j)/\iH (A i j)<=am (a i j):=by rw[x.1,x.2];exact⟨sa.2.2.1,sa.2.2.2⟩
  have hmm:am (a i j)+tQ a i j*(kap1*kap1)<=(2:Rat)^(900:Int):=by rw[k1];grind
  have sub:=fun c h0 hL=>zgj (lb:=tQ a i j*(kap0*kap0)) O gij gP (c:=c) h0 hL qa ⟨qP.lo,qP.hi⟩ hmm
  have tk:0<=tQ a i j*(kap0*kap0):=by rw[k0];grind
  have nz:a i j≠0->Lw 84 (iL (A i j)-iH X)/\Lw 84 (iH (A i j)-iL X):=fun hne=>by
   have hl:(2:Rat)^(-30:Int)<=a i j\/a i j<=-(2:Rat)^(-30:Int):=l.resolve_left hne;refine⟨Lw.subNz (a:=30) (i:=idx (A i j).1) (j:=idx X.2) ?_,Lw.subNz (a:=30) (i:=idx (A i j).2) (j:=idx X.1) ?_⟩
   ·have:v (idx (A i j).1)=a i j:=x.1;rw[this];exact hl
   ·have:v (idx (A i j).2)=a i j:=x.2;rw[this];exact hl
  refine⟨?_,fun hz0 ht=>?_,fun hne ht hs=>?_⟩
  ·by_cases hne:a i j=0
   ·by_cases ht:0<tQ a i j
    ·exact .inr ⟨hne,ht⟩
    ·left;have tz:tQ a i j=0:=by grind
     have p1:=qP.lo;have p2:=qP.hi;have p3:=gP.iLH;rw[tz] at p1 p2;have z1:iL X=0:=by grind
     have z2:iH X=0:=by grind
     have:=sub 84 (by omega) (by omega) (by rw[x.1,z2,hne];exact .inl (by grind)) (by rw[x.2,z1,hne];exact .inl (by grind));exact⟨this.1,this.2.1⟩
   ·obtain⟨n1,n2⟩:=nz hne;have:=sub 84 (by omega) (by omega) n1 n2;exact .inl ⟨this.1,this.2.1⟩
  ·have:=(sub 90 (by omega) (by omega) (by
    rw[x.1,hz0];have:=qP.h.neg;have e0:(0:Rat)-iH X = -iH X:=by grind
    rw[e0];exact this) (by
    rw[x.2,hz0];have:=qP.l.neg;have e0:(0:Rat)-iL X = -iL X:=by grind
    rw[e0];exact this)).2.2 (by rw[x.1,hz0]) (by rw[x.2,hz0]) tk kP
   refine this.mono ?_;grind
  ·obtain⟨n1,n2⟩:=nz hne;have hl:(2:Rat)^(-30:Int)<=am (a i j):=Lw.am_ge l hne;have e30:(2:Rat)^(-30:Int)=1/1073741824:=by decide +kernel
   rw[e30] at hl;obtain⟨_,_,_,h3,h4⟩:=opQ (O.s _ _ gij gP).2 (L:=84) (m:=am (a i j)+tQ a i j*(kap1*kap1)) (by omega) (by omega) hmm (by rw[k1];grind) (fun j k _ _=>by
    have p1:=qP.lo;have p2:=qP.hi;have p3:=gP.iLH;unfold subX;split
    ·exact⟨n1,by grind,by grind⟩
    ·exact⟨n2,by grind,by grind⟩)
   have p1:=qP.lo;have p2:=qP.hi;have p3:=gP.iLH;have p4:tQ a i j*(kap1*kap1)<=1/4294967296*(kap1*kap1):=by rw[k1];grind
   have lb:(0:Rat)<=1/1073741824-1/4294967296*(kap1*kap1):=by decide +kernel
   have lc:(1:Rat)/2147483648<=(1/1073741824-1/4294967296*(kap1*kap1))*kap0:=by decide +kernel
   rcases sa.2.1 with q|q
   ·refine LoA.mono (.inl (h3 _ lb fun j k _ _=>?_)) lc;unfold subX;rw[x.1,x.2];split<;>grind
   ·refine LoA.mono (.inr (h4 _ lb fun j k _ _=>?_)) lc;unfold subX;rw[x.1,x.2];split<;>grind
end
section
variable {E:Nat->Option Value} {M V S:Nat×Nat->Nat×Nat->AnsQ} (O:Ops3 E M V S) {A B:Nat->Nat->Nat×Nat} {a:Nat->Nat->Rat} {n:Nat} {c r e U:Rat} {d:Nat->Rat} {m:Nat->Nat->Rat}
theorem LoA.lw {L:Int}{X:Nat×Nat}(h:LoA ((2:Rat)^(-L)) X)(g:Gd X):Lw L (iL X)/\Lw L (iH X):=by
 have:=g.iLH;unfold Lw;rcases h with h|h
 ·exact⟨.inr (.inl h),.inr (.inl (by grind))⟩
 ·exact⟨.inr (.inr (by grind)),.inr (.inr h)⟩
theorem zeo (a:Nat->Nat->Rat)(i j:Nat):tQ a i 1*tQ a 1 j=tQ a i j*tQ a 1 1:=by unfold tQ;grind
include O
theorem K5 (P:Pts A a n)(h00:a 0 0≠0)(hB:∀i j,i<n->j<=n->B i j=nxt M V S A n 0 i j)(h:Hv B n 1 c r e 90 U d m)(hn:1<n)(hc:15/4<=c)(hr2:r<=2)(he:1/2147483648<=e)(hU:2147483648<=U)(hU2:U*2^63<=(2:Rat)^(900:Int))
  {i j:Nat} (h1:1<i) (hi:i<n) (g1:1<j) (hj:j<=n):Lw 206 (iL (nxt M V S B n 1 i j))/\Lw 206 (iH (nxt M V S B n 1 i j)):=by
 have k1:kap1=1025/1024:=rfl;have k0:kap0=1023/1024:=rfl;have e63:(2:Rat)^63=9223372036854775808:=by decide +kernel
 have e31:(2:Rat)^(31:Int)=2147483648:=by decide +kernel
 obtain⟨fq,f0,mU,fm,mkk⟩:=h.sizes hn hc hr2 he hU;have qX:=h.am i j (by omega) hi (by omega) hj;by_cases hz:isZ (B i 1)=true
 ·have e:nxt M V S B n 1 i j=B i j:=by unfold nxt;rw[if_neg (by rw[hz];simp)]
  rw[e];exact⟨qX.l.mono (by omega),qX.h.mono (by omega)⟩
 have hz:isZ (B i 1)=false:=by simpa using hz
 have e:nxt M V S B n 1 i j=(S (B i j) (M (V (B i 1) (B 1 1)).1 (B 1 j)).1).1:=by
  unfold nxt;rw[if_pos ⟨h1,hi,hz⟩,if_neg (by omega),if_pos ⟨g1,hj⟩]
 rw[e];have gX:=h.gd i j hi hj;have gF:=h.gd i 1 hi (by omega);have gK:=h.gd 1 1 hn (by omega);have gC:=h.gd 1 j hn hj;have qF:=h.am i 1 (by omega) hi (by omega) (by omega);have qK:=h.am 1 1 (by omega) hn (by omega) (by omega);have qC:=h.am 1 j (by omega) hn (by omega) hj;have dK:=h.dg 1 (by omega) hn;have dp:=h.w.dp 1 (by omega) hn;have b1 : -(2:Rat)^(31:Int)<=iL (B 1 1):=by rw[e31];have:=qK.lo;grind
 have b2:iH (B 1 1)<=(2:Rat)^(31:Int):=by rw[e31];have:=qK.hi;grind
 have hf:=fq i (by omega) hi;have hfm:=fm i j (by omega) hi (by omega) hj;have hmX:=mU i j (by omega) hi (by omega) hj;rw[e63] at hU2;have s1:m i 1*(d 1)⁻¹<=(2:Rat)^(900:Int):=by grind
 have s2:fH d m 1 i*m 1 j<=(2:Rat)^(900:Int):=by grind
 have gG:Gd (V (B i 1) (B 1 1)).1:=O.gv gF gK;have gP:Gd (M (V (B i 1) (B 1 1)).1 (B 1 j)).1:=O.gm gG gC;have prod:∀x y:Int,0<=x->0<=y->x+31+y<=900->Lw x (iL (B i 1))/\Lw x (iH (B i 1))->Lw y (iL (B 1 j))/\Lw y (iH (B 1 j))->Qi (x+31+y) (fH d m 1 i*m 1 j*kap1) (M (V (B i 1) (B 1 1)).1 (B 1 j)).1/\Qi (x+31) (fH d m 1 i) (V (B i 1) (B 1 1)).1:=fun x y hx hy hxy lx ly=>by
  have v2:=(divQ O gF gK (⟨lx.1,lx.2,qF.lo,qF.hi⟩:Qi x (m i 1) (B i 1)) dp dK (u:=31) b1 b2 (by omega) (by omega) s1).2;exact⟨(mulQ O gG gC v2 (⟨ly.1,ly.2,qC.lo,qC.hi⟩:Qi y (m 1 j) (B 1 j)) (by omega) (by omega) s2).2,v2⟩
 have pr0:=prod 90 90 (by omega) (by omega) (by omega) ⟨qF.l,qF.h⟩ ⟨qC.l,qC.h⟩;have hmm:m i j+fH d m 1 i*m 1 j*kap1<=(2:Rat)^(900:Int):=by rw[k1];grind
 have fin:Lw 206 (iL (B i j)-iH (M (V (B i 1) (B 1 1)).1 (B 1 j)).1)->Lw 206 (iH (B i j)-iL (M (V (B i 1) (B 1 1)).1 (B 1 j)).1)->Lw 206 (iL (S (B i j) (M (V (B i 1) (B 1 1)).1 (B 1 j)).1).1)/\Lw 206 (iH (S (B i j) (M (V (B i 1) (B 1 1)).1 (B 1 j)).1).1):=fun l1 l2=>by
  have:=zgj (lb:=0) O gX gP (c:=206) (by omega) (by omega) ⟨qX.lo,qX.hi⟩ ⟨pr0.1.lo,pr0.1.hi⟩ hmm l1 l2;exact⟨this.1,this.2.1⟩
 have caseP:∀x:Int,x<=206->Lw x (iL (M (V (B i 1) (B 1 1)).1 (B 1 j)).1)->Lw x (iH (M (V (B i 1) (B 1 1)).1 (B 1 j)).1)->Lw 206 (iL (S (B i j) (M (V (B i 1) (B 1 1)).1 (B 1 j)).1).1)/\Lw 206 (iH (S (B i j) (M (V (B i 1) (B 1 1)).1 (B 1 j)).1).1):=fun x hx l1 l2=>
  fin (Lw.sub (a:=90) (b:=x) qX.l l2 hx (by omega)) (Lw.sub (a:=90) (b:=x) qX.h l1 hx (by omega))
 have caseX:LoA ((2:Rat)^(-92:Int)) (B i j)->Lw 206 (iL (S (B i j) (M (V (B i 1) (B 1 1)).1 (B 1 j)).1).1)/\Lw 206 (iH (S (B i j) (M (V (B i 1) (B 1 1)).1 (B 1 j)).1).1):=fun hl=>by
  have gl:=gX.iLH;refine fin ((Lw.subNz (a:=92) (i:=idx (B i j).1) (j:=idx (M (V (B i 1) (B 1 1)).1 (B 1 j)).1.2) ?_).mono (by omega)) ((Lw.subNz (a:=92) (i:=idx (B i j).2) (j:=idx (M (V (B i 1) (B 1 1)).1 (B 1 j)).1.1) ?_).mono (by omega))
  ·rcases hl with q|q
   ·exact .inl q
   ·exact .inr (by unfold iH iL at *;grind)
  ·rcases hl with q|q
   ·exact .inl (by unfold iH iL at *;grind)
   ·exact .inr q
 have st:=fun i j h1 hi g1 hj=>by have:=Hl O P h00 (i:=i) (j:=j) h1 hi g1 hj;rw[<-hB i j hi hj] at this;exact this
 rcases(st i 1 (by omega) hi (by omega) (by omega)).1 with n1|⟨z1,t1⟩
 ·have:=(prod 84 90 (by omega) (by omega) (by omega) n1 ⟨qC.l,qC.h⟩).1;exact caseP _ (by omega) this.l this.h
 rcases(st 1 j (by omega) hn (by omega) hj).1 with n2|⟨z2,t2⟩
 ·have:=(prod 90 84 (by omega) (by omega) (by omega) ⟨qF.l,qF.h⟩ n2).1;exact caseP _ (by omega) this.l this.h
 have w1:=Vt P h00 (by omega) hi (by omega) t1;have w2:=Vt P h00 (by omega) hn hj t2;have pos:∀i j,i<n->a i 0≠0->a 0 j≠0->0<tQ a i j:=fun i j hi q1 q2=>by
  unfold tQ;have:a i 0*(a 0 0)⁻¹≠0:=by
   intro e;rcases Rat.mul_eq_zero.1 e with q|q
   ·exact q1 q
   ·have:=Rat.mul_inv_cancel _ h00;rw[q,Rat.mul_zero] at this;exact absurd this (by decide +kernel)
  exact Rat.mul_pos (Zw this) (Zw q2)
 have tij:=pos i j hi w1.1 w2.2.1;have t11:=pos 1 1 hn w2.1 w1.2.1;have wij:=(Vt P h00 (by omega) hi hj tij).2.2;have w11:=(Vt P h00 (by omega) hn (by omega) t11).2.2;have e90:(2:Rat)^(-90:Int)=1/1237940039285380274899124224:=by decide +kernel
 have e92:(2:Rat)^(-92:Int)=1/4951760157141521099596496896:=by decide +kernel
 rw[e90] at wij w11;by_cases hij:a i j=0
 ·refine caseX (((st i j (by omega) hi (by omega) hj).2.1 hij tij).mono ?_);rw[e92,k0];grind
 ·by_cases hs:tQ a i j<1/4294967296
  ·refine caseX (((st i j (by omega) hi (by omega) hj).2.2 hij tij hs).mono ?_);rw[e92];decide +kernel
  ·have lF:=(st i 1 (by omega) hi (by omega) (by omega)).2.1 z1 t1;have lC:=(st 1 j (by omega) hn (by omega) hj).2.1 z2 t2;have c1:0<=tQ a i 1*(kap0*kap0*kap0):=by rw[k0];grind
   have c2:0<=tQ a 1 j*(kap0*kap0*kap0):=by rw[k0];grind
   have lV:=zlD O gF gK qF dp dK (u:=31) b1 b2 (by omega) (by omega) s1 c1 lF;have em:(2:Rat)^(-31:Int)=1/2147483648:=by decide +kernel
   rw[em] at lV;have lP:=zgv O gG gC pr0.2 qC (by omega) (by omega) s2 (by rw[k0] at c1 ⊢;grind) c2 lV lC;have e160:(2:Rat)^(-160:Int)=1/1461501637330902918203684832716283019655932542976:=by decide +kernel
   have tt:=zeo a i j;have hs':(1:Rat)/4294967296<=tQ a i j:=Rat.not_lt.1 hs;have prodge:=zd (a:=1/4294967296) (b:=1/1237940039285380274899124224) (by decide +kernel) (by decide +kernel) hs' w11;rw[<-tt] at prodge;have lP2:LoA ((2:Rat)^(-160:Int)) (M (V (B i 1) (B 1 1)).1 (B 1 j)).1:=by
    refine lP.mono ?_;rw[e160];have:tQ a i 1*(kap0*kap0*kap0)*(1/2147483648)*kap0*(tQ a 1 j*(kap0*kap0*kap0))*kap0=tQ a i 1*tQ a 1 j*((kap0*kap0*kap0)*(1/2147483648)*kap0*(kap0*kap0*kap0)*kap0):=by grind
    rw[this,k0];grind
   have lw:=LoA.lw lP2 gP;exact caseP 160 (by omega) lw.1 lw.2
end
end Go.Enc
