/-
  A heavy diagonal: amounts. No program.
-/
import Derived.Test.YtjlibljfpkmpfaaGreatDoorSa37
set_option maxRecDepth 100000
set_option linter.unusedSimpArgs false
set_option linter.unusedVariables false
namespace Go.Enc
open Go.Enc.Fl
def kap1:Rat:=1025/1024
def kap0:Rat:=1023/1024
structure Qi (L:Int)(m:Rat)(X:Nat×Nat):Prop where
 l:Lw L (iL X)
 h:Lw L (iH X)
 lo : -m<=iL X
 hi:iH X<=m
theorem Qi.mono {L L':Int}{m m':Rat}{X:Nat×Nat}(q:Qi L m X)(h:L<=L')(h':m<=m'):Qi L' m' X:=
 ⟨q.l.mono h,q.h.mono h,by have:=q.lo;grind,by have:=q.hi;grind⟩
theorem xK:(0:Rat)<eps/\eps<1/1024:=by unfold eps;decide +kernel
theorem Ye {L:Int}{m x:Rat}(hL:L<=900)(h:Lw L x)(hm:m<=(2:Rat)^(900:Int))(h1 : -m<=x)(h2:x<=m):Pl x:=by
 have e:=jl (a:=-900) (b:=-L) (by omega);have e1:=v_p0;have e2:=v_p1;unfold Pl;rw[wQ,wQ,e1,e2];rcases h with h|h|h
 ·exact .inl h
 ·right;left;exact⟨by grind,by grind⟩
 ·right;right;exact⟨by grind,by grind⟩
theorem zdd {x m:Rat}{i:Int}(h:Dn x i)(hp:Pl x)(hm : -m<=x)(h0:0<=m) : -(m*kap1)<=v i:=by
 have e:=xK;unfold kap1;rcases h.err hp.low with h1|h1
 ·rcases Rat.le_total (a:=0) (b:=x) with hx|hx
  ·have:=Rat.mul_le_mul_of_nonneg_right (Rat.le_of_lt e.2) hx;grind
  ·have:=Rat.mul_le_mul_of_nonneg_right (Rat.le_of_lt e.1) (show 0<=-x by grind);grind
 ·rcases Rat.le_total (a:=0) (b:=x) with hx|hx
  ·have:=Rat.mul_le_mul_of_nonneg_right (Rat.le_of_lt e.1) hx;grind
  ·have:=Rat.mul_le_mul_of_nonneg_right (Rat.le_of_lt e.2) (show 0<=-x by grind);grind
theorem zgi {x m:Rat}{i:Int}(h:Up x i)(hp:Pl x)(hm:x<=m)(h0:0<=m):v i<=m*kap1:=by
 have:=zdd h.neg hp.neg (m:=m) (by grind) h0;rw[wQ] at this;grind
theorem zdc {x l:Rat}{i:Int}(h:Dn x i)(hp:Pl x)(hl:l<=x)(h0:0<=l):l*kap0<=v i:=by
 have e:=xK;unfold kap0;have hx:0<=x:=Rat.le_trans h0 hl;have h2:=Rat.mul_le_mul_of_nonneg_right (Rat.le_of_lt e.2) hx;have h3:=Rat.mul_le_mul_of_nonneg_right (Rat.le_of_lt e.1) hx;rcases h.err hp.low with h1|h1<;>grind
theorem zhb {x l:Rat}{i:Int}(h:Up x i)(hp:Pl x)(hl:x<=-l)(h0:0<=l):v i<=-(l*kap0):=by
 have:=zdc h.neg hp.neg (l:=l) (by grind) h0;rw[wQ] at this;grind
theorem opQ {X:Nat->Nat->Rat}{R:AnsQ}(h:Res3 X R){L:Int}{m:Rat}(hL0:0<=L)(hL:L<=900)(hm:m<=(2:Rat)^(900:Int))(h0:0<=m)(hX:∀j k,j<2->k<2->Lw L (X j k)/\-m<=X j k/\X j k<=m) :
  R.2=none/\Qi L (m*kap1) R.1/\Gd R.1/\(∀l,0<=l->(∀j k,j<2->k<2->l<=X j k)->l*kap0<=iL R.1)/\(∀l,0<=l->(∀j k,j<2->k<2->X j k<=-l)->iH R.1<=-(l*kap0)):=by
 have hp:∀j k,j<2->k<2->Pl (X j k):=fun j k hj hk=>by
  obtain⟨h1,h2,h3⟩:=hX j k hj hk;exact Ye hL h1 hm h2 h3
 have e:=h.pl hp;have r:=h.good e;obtain⟨j,k,hj,hk,hd⟩:=r.dn;obtain⟨j',k',hj',hk',hu⟩:=r.up;have a:=hX j k hj hk;have a':=hX j' k' hj' hk';have lw:∀ {L:Int} {x:Rat} {i:Int},0<=L->L<=900->Dn x i->Lw L x->Lw L (v i):=fun {L x i} hL0 hL hd hl=>by
  rcases hl with rfl|hl|hl
  ·left;have h1:=hd.ge (j:=0) (by rw[wC];exact Rat.le_refl);have h2:=v_le h1;rw[wC] at h2;exact Rat.le_antisymm hd.1 h2
  ·right;left;exact hd.pow_le (by omega) (by omega) hl
  ·right;right;exact Rat.le_trans hd.1 hl
 refine⟨e,⟨lw hL0 hL hd a.1,?_,zdd hd (hp j k hj hk) a.2.1 h0,zgi hu (hp j' k' hj' hk') a'.2.2 h0⟩,r.gd,fun l hl hX'=>zdc hd (hp j k hj hk) (hX' j k hj hk) hl,fun l hl hX'=>zhb hu (hp j' k' hj' hk') (hX' j' k' hj' hk') hl⟩;have:=(lw hL0 hL hu.neg a'.1.neg).neg;rw[wQ,Rat.neg_neg] at this;exact this
theorem kJ {x y a b:Rat}(h1 : -a<=x)(h2:x<=a)(k1 : -b<=y)(k2:y<=b) : -(a*b)<=x*y/\x*y<=a*b:=by
 have hb:0<=b:=by grind
 have ha:0<=a:=by grind
 have p1:=Rat.mul_nonneg (show 0<=a-x by grind) (show 0<=b+y by grind);have p2:=Rat.mul_nonneg (show 0<=a+x by grind) (show 0<=b-y by grind);have p3:=Rat.mul_nonneg (show 0<=a-x by grind) (show 0<=b-y by grind);have p4:=Rat.mul_nonneg (show 0<=a+x by grind) (show 0<=b+y by grind);exact⟨by grind,by grind⟩
theorem Qi.end_ {L:Int}{m:Rat}{X:Nat×Nat}(q:Qi L m X)(g:Gd X)(j:Nat):Lw L (iE X j)/\-m<=iE X j/\iE X j<=m:=by
 have:=g.iLH;have h1:=q.lo;have h2:=q.hi;unfold iE;split
 ·exact⟨q.l,by grind,by grind⟩
 ·exact⟨q.h,by grind,by grind⟩
def LoA (l:Rat)(X:Nat×Nat):Prop:=l<=iL X\/iH X<=-l
theorem LoA.has0 {l:Rat}{X:Nat×Nat}(h:LoA l X)(h0:0<l):has0 X=false:=by
 have z:=wC;unfold Go.Enc.has0;rcases h with h|h
 ·have:¬idx X.1<=0:=fun h1=>by
   have:=v_le h1;unfold iL at h;grind
  simp[this]
 ·have:¬0<=idx X.2:=fun h1=>by
   have:=v_le h1;unfold iH at h;grind
  simp[this]
theorem LoA.end_ {l:Rat}{X:Nat×Nat}(h:LoA l X)(g:Gd X)(j:Nat):l<=iE X j\/iE X j<=-l:=by
 have:=g.iLH;unfold iE;split<;>rcases h with h|h
 ·exact .inl h
 ·exact .inr (by grind)
 ·exact .inl (by grind)
 ·exact .inr h
theorem vu {l y:Rat}(h0:0<l)(h:l<=y):0<y⁻¹/\y⁻¹<=l⁻¹:=by
 have hy:0<y:=by grind
 refine⟨Rat.inv_pos.2 hy,?_⟩;exact QK h (Rat.mul_pos h0 hy)
theorem QJ {y:Rat}:(-y)⁻¹ = -y⁻¹:=by
 by_cases h:y=0
 ·subst h;decide +kernel
 ·have h1:=Rat.mul_inv_cancel y h;have h2:=Rat.mul_inv_cancel (-y) (by grind);have h3 : -y*(-y)⁻¹*y⁻¹=y⁻¹:=by rw[h2,Rat.one_mul]
  have h4 : -y*(-y)⁻¹*y⁻¹ = -(y*y⁻¹)*(-y)⁻¹:=by grind
  rw[h4,h1] at h3;grind
theorem V9 {l y:Rat}(h0:0<l)(h:l<=y\/y<=-l) : -l⁻¹<=y⁻¹/\y⁻¹<=l⁻¹:=by
 rcases h with h|h
 ·have:=vu h0 h;have:=Rat.inv_pos.2 h0;exact⟨by grind,by grind⟩
 ·have:=vu h0 (y:=-y) (by grind);have h2:=Rat.inv_pos.2 h0;rw[QJ] at this;exact⟨by grind,by grind⟩
theorem UI (u:Int):((2:Rat)^u)⁻¹=2^(-u):=by
 have h1:=Rat.mul_inv_cancel ((2:Rat)^u) (by have:=wB u;grind);have h2:(2:Rat)^u*2^(-u)=1:=by rw[<-wA,show u + -u=0 by omega,Rat.zpow_zero]
 have h3:(2:Rat)^(-u)*(2^u*(2^u)⁻¹)=2^(-u):=by rw[h1,Rat.mul_one]
 grind
theorem Lw.inv {u:Int}{y:Rat}(hy:y≠0)(h1 : -(2:Rat)^u<=y)(h2:y<=2^u):Lw u y⁻¹:=by
 have e:=UI u;have hp:=wB u;unfold Lw;rcases Rat.le_total (a:=0) (b:=y) with h|h
 ·right;left;have:=(vu (l:=y) (y:=2^u) (by grind) h2).2;rw[e] at this;exact this
 ·right;right;have:=(vu (l:=-y) (y:=2^u) (by grind) (by grind)).2;rw[e,QJ] at this;grind
section
variable {E:Nat->Option Value} {M V S:Nat×Nat->Nat×Nat->AnsQ} (O:Ops3 E M V S) {a b:Nat×Nat} {La Lb:Int} {ma mb:Rat}
include O
theorem mulQ (g:Gd a)(g':Gd b)(q:Qi La ma a)(q':Qi Lb mb b)(h0:0<=La+Lb)(hL:La+Lb<=900)(hm:ma*mb<=(2:Rat)^(900:Int)) :
  (M a b).2=none/\Qi (La+Lb) (ma*mb*kap1) (M a b).1:=by
 have am:0<=ma*mb:=Rat.mul_nonneg (by have:=q.lo;have:=q.hi;have:=g.iLH;grind) (by have:=q'.lo;have:=q'.hi;have:=g'.iLH;grind);obtain⟨h1,h2,_⟩:=opQ (O.m a b g g').2 h0 hL hm am (fun j k hj hk=>by
  obtain⟨a1,a2,a3⟩:=q.end_ g j;obtain⟨b1,b2,b3⟩:=q'.end_ g' k;have:=kJ a2 a3 b2 b3;exact⟨a1.mul b1,this.1,this.2⟩)
 exact⟨h1,h2⟩
theorem divQ (g:Gd a)(g':Gd b)(q:Qi La ma a){l:Rat}(hl:0<l)(k:LoA l b){u:Int}(hu1 : -(2:Rat)^u<=iL b)(hu2:iH b<=(2:Rat)^u)(h0:0<=La+u)(hL:La+u<=900)(hm:ma*l⁻¹<=(2:Rat)^(900:Int)) :
  (V a b).2=none/\Qi (La+u) (ma*l⁻¹*kap1) (V a b).1:=by
 have hli:=Rat.inv_pos.2 hl;have am:0<=ma*l⁻¹:=Rat.mul_nonneg (by have:=q.lo;have:=q.hi;have:=g.iLH;grind) (Rat.le_of_lt hli);obtain⟨h1,h2,_⟩:=opQ ((O.v a b g g').2.2 (k.has0 hl)) h0 hL hm am (fun j i hj hi=>by
  obtain⟨a1,a2,a3⟩:=q.end_ g j;have b1:=k.end_ g' i;have b2:=V9 hl b1;have b3:iE b i≠0:=by rcases b1 with h|h<;>grind
  have b4 : -(2:Rat)^u<=iE b i/\iE b i<=2^u:=by
   have:=g'.iLH;unfold iE;split<;>exact⟨by grind,by grind⟩
  have:=kJ a2 a3 b2.1 b2.2;unfold divX;rw[Rat.div_def];exact⟨a1.mul (Lw.inv b3 b4.1 b4.2),this.1,this.2⟩)
 exact⟨h1,h2⟩
theorem subQ (g:Gd a)(g':Gd b)(q:Qi La ma a)(q':Qi Lb mb b){c:Int}(hc:(Lb<=c/\La+54<=c)\/(La<=c/\Lb+54<=c))(h0:0<=c)(hL:c<=900)(hm:ma+mb<=(2:Rat)^(900:Int)) :
  (S a b).2=none/\Qi c ((ma+mb)*kap1) (S a b).1/\(∀l,LoA l a->0<=l-mb->LoA ((l-mb)*kap0) (S a b).1):=by
 have hma:0<=ma:=by have:=q.lo;have:=q.hi;have:=g.iLH;grind
 have hmb:0<=mb:=by have:=q'.lo;have:=q'.hi;have:=g'.iLH;grind
 have lw:∀ {x y:Int},Lw La (v x)->Lw Lb (v y)->Lw c (v x-v y):=fun {x y} h k=>by
  rcases hc with hc|hc
  ·exact Lw.sub h k hc.1 hc.2
  ·have:=(Lw.sub k h hc.1 hc.2).neg;rw[show -(v y-v x)=v x-v y by grind] at this;exact this
 have a1:=q.lo;have a2:=q.hi;have b1:=q'.lo;have b2:=q'.hi;have ga:=g.iLH;have gb:=g'.iLH;obtain⟨h1,h2,_,h3,h4⟩:=opQ (O.s a b g g').2 h0 hL hm (by grind) (fun j k hj hk=>by
  unfold subX;split
  ·exact⟨lw q.l q'.h,by grind,by grind⟩
  ·exact⟨lw q.h q'.l,by grind,by grind⟩)
 refine⟨h1,h2,fun l hl hd=>?_⟩;rcases hl with hl|hl
 ·exact .inl (h3 _ hd fun j k hj hk=>by unfold subX;split<;>grind)
 ·exact .inr (h4 _ hd fun j k hj hk=>by unfold subX;split<;>grind)
end
section
variable (M V S:Nat×Nat->Nat×Nat->AnsQ) (B:Nat->Nat->Nat×Nat) (n k:Nat)
def nxt:Nat->Nat->Nat×Nat:=fun i j=>if k<i/\i<n/\isZ (B i k)=false then (if j=k then (0,0) else if k<j/\j<=n then (S (B i j) (M (V (B i k) (B k k)).1 (B k j)).1).1 else B i j) else B i j
def OkS:Prop:=∀i,k<i->i<n->isZ (B i k)=false->(V (B i k) (B k k)).2=none/\∀j,k<j->j<=n->(M (V (B i k) (B k k)).1 (B k j)).2=none/\(S (B i j) (M (V (B i k) (B k k)).1 (B k j)).1).2=none
end
section
variable {M V S:Nat×Nat->Nat×Nat->AnsQ} {A B:Nat->Nat->Nat×Nat} {n k:Nat}
theorem Y3 {i:Nat}{F:AnsQ}(hF:F.2=none)(h:∀j,k<j->j<=n->(M F.1 (B k j)).2=none/\(S (B i j) (M F.1 (B k j)).1).2=none):∀m,m<=n-k ->
  (colS M S B k i F m).2=none/\∀j,(colS M S B k i F m).1 j=if k<j/\j<k+1+m then (S (B i j) (M F.1 (B k j)).1).1 else B i j
 |0,_=>⟨hF,fun j=>by rw[if_neg (by omega)];rfl⟩
 |m+1,hm=>by
  obtain⟨h1,h2⟩:=Y3 hF h m (by omega);obtain⟨h3,h4⟩:=h (k+1+m) (by omega) (by omega);have h5:(colS M S B k i F m).1 (k+1+m)=B i (k+1+m):=by rw[h2,if_neg (by omega)]
  simp only[colS];rw[if_neg (by rw[h1];simp)];refine⟨?_,fun j=>?_⟩
  ·simp only[h1,h5,h3,h4,ors]
  ·simp only[upd,h5];by_cases e:j=k+1+m
   ·subst e;rw[if_pos rfl,if_pos (by omega)]
   ·rw[if_neg e,h2];have:(k<j/\j<k+1+m)↔(k<j/\j<k+1+(m+1)):=by omega
    simp only[this]
theorem ZW (h:OkS M V S B n k):∀m,m<=n-1-k ->
  (rowS M V S B n k m).2=none/\∀i j,j<=n->(rowS M V S B n k m).1 i j=if i<k+1+m then nxt M V S B n k i j else B i j
 |0,_=>⟨rfl,fun i j hj=>by
  split
  ·unfold nxt;rw[if_neg (by omega)];rfl
  ·rfl⟩
 |m+1,hm=>by
  obtain⟨h1,h2⟩:=ZW h m (by omega);have hk:∀j,j<=n->(rowS M V S B n k m).1 k j=B k j:=fun j hj=>by
   rw[h2 k j hj,if_pos (by omega)];unfold nxt;rw[if_neg (by omega)]
  have hi:∀j,j<=n->(rowS M V S B n k m).1 (k+1+m) j=B (k+1+m) j:=fun j hj=>by rw[h2 _ j hj,if_neg (by omega)]
  have hlt:∀i,i≠k+1+m->((i<k+1+m)↔(i<k+1+(m+1))):=fun i h=>by omega
  simp only[rowS];rw[if_neg (by rw[h1];simp)];rw[hi k (by omega),hk k (by omega)];split
  ·rename_i hz;refine⟨h1,fun i j hj=>?_⟩;rw[h2 i j hj];by_cases e:i=k+1+m
   ·subst e;rw[if_neg (by omega),if_pos (by omega)];unfold nxt;rw[if_neg (by rw[hz];simp)]
   ·simp only[hlt i e]
  ·rename_i hz;have hz':isZ (B (k+1+m) k)=false:=by simpa using hz
   obtain⟨hV,hO⟩:=h (k+1+m) (by omega) (by omega) hz';obtain⟨c1,c2⟩:=Y3 (M:=M) (S:=S) (B:=(rowS M V S B n k m).1) (n:=n) (k:=k) (i:=k+1+m) (F:=V (B (k+1+m) k) (B k k)) hV (fun j h1 h2=>by rw[hk j h2,hi j h2];exact hO j h1 h2) (n-k) (Nat.le_refl _);rw[if_neg (by rw[c1];simp)];refine⟨rfl,fun i j hj=>?_⟩;by_cases e:i=k+1+m
   ·subst e;rw[if_pos (by omega)];simp only[wq];unfold nxt;rw[if_pos ⟨by omega,by omega,hz'⟩];simp only[upd];by_cases e2:j=k
    ·rw[if_pos e2,if_pos e2]
    ·rw[if_neg e2,if_neg e2,c2];by_cases e3:k<j/\j<=n
     ·rw[if_pos (by omega),if_pos e3,hk j hj,hi j hj]
     ·rw[if_neg (by omega),if_neg e3,hi j hj]
   ·simp only[wD _ _ e];rw[h2 i j hj];simp only[hlt i e]
theorem qU (he:je M V S A n k=some B)(hp:(pvS B n k (n-k)).2=(k:Int))(h:OkS M V S B n k)(hk:k<n) :
  ∃B',je M V S A n (k+1)=some B'/\∀i j,i<n->j<=n->B' i j=nxt M V S B n k i j:=by
 obtain⟨h1,h2⟩:=ZW h (n-1-k) (Nat.le_refl _);have hs:swp B k k=B:=by
  funext x
  unfold swp;split
  ·rename_i e;rw[e]
  ·rfl
 refine⟨(rowS M V S B n k (n-1-k)).1,?_,fun i j hi hj=>by rw[h2 i j hj,if_pos (by omega)]⟩;simp only[je,he,hp,Int.toNat_natCast,hs,h1];rw[if_neg (by omega)]
theorem zfV {x:Rat}{r:Nat}{i:Int}(h:Near x r)(h1 : -(inf:Int)<=i)(h2:i<=inf)(hx:v i<=x):i<=idx r:=by
 obtain⟨k,hk,e⟩:=h.ex;have:=hk.ge hx;rw[e];unfold clamp;omega
theorem zfU {x:Rat}{r:Nat}{i:Int}(h:Near x r)(h1 : -(inf:Int)<=i)(h2:i<=inf)(hx:x<=v i):idx r<=i:=by
 obtain⟨k,hk,e⟩:=h.ex;have:=hk.le hx;rw[e];unfold clamp;omega
theorem U2 {f:Nat->Nat×Nat}{k m:Nat}(h:∀j,j<m->Gd (f (k+j))){T:Rat}(h0:0<=T)(hB:∀j,j<m->-T<=iL (f (k+j))/\iH (f (k+j))<=T):∀j,j<=m->v (idx (jA f k j))<=T
 |0,_=>by show v (idx 0)<=T;rw[num0.2,wC];exact h0
 |j+1,hj=>by
  obtain⟨_,_,_,e⟩:=WH h (j:=j) (by omega);have h1:=U2 h h0 hB j (by omega);have h2:=hB j (by omega);rw[e];have h3:v (-idx (f (k+j)).1)<=T:=by
   rw[wQ];have:=h2.1;unfold iL at this;grind
  have h4:v (idx (f (k+j)).2)<=T:=h2.2;rcases(show max (max (idx (jA f k j)) (-idx (f (k+j)).1)) (idx (f (k+j)).2)=idx (jA f k j)\/max (max (idx (jA f k j)) (-idx (f (k+j)).1)) (idx (f (k+j)).2) = -idx (f (k+j)).1\/max (max (idx (jA f k j)) (-idx (f (k+j)).1)) (idx (f (k+j)).2)=idx (f (k+j)).2 by omega) with q|q|q<;>rw[q]<;>assumption
theorem zfe {X:Nat×Nat}(g:Gd X):(∀d,0<d->LoA d X->d<=v (idx (kL X)))/\(∀m,0<=m->-m<=iL X->iH X<=m->v (idx (kL X))<=m)/\0<=idx (kL X):=by
 obtain⟨h1,h2,h3⟩:=yk g;have a1:v ((X.1 % 2^63:Nat):Int)=iL X\/v ((X.1 % 2^63:Nat):Int) = -iL X:=by
  unfold iL;rw[jB];split
  ·right;rw[wQ,Rat.neg_neg]
  ·left;rfl
 have a2:v ((X.2 % 2^63:Nat):Int)=iH X\/v ((X.2 % 2^63:Nat):Int) = -iH X:=by
  unfold iH;rw[jB];split
  ·right;rw[wQ,Rat.neg_neg]
  ·left;rfl
 have p1:0<=v ((X.1 % 2^63:Nat):Int):=by have:=v_le (i:=0) (j:=((X.1 % 2^63:Nat):Int)) (by omega);rw[wC] at this;exact this
 have p2:0<=v ((X.2 % 2^63:Nat):Int):=by have:=v_le (i:=0) (j:=((X.2 % 2^63:Nat):Int)) (by omega);rw[wC] at this;exact this
 have hle:=g.iLH;refine⟨fun d hd h=>?_,fun m hm l1 l2=>?_,?_⟩
 ·rw[h3 (h.has0 hd)];rcases(show min (X.1 % 2^63) (X.2 % 2^63)=X.1 % 2^63\/min (X.1 % 2^63) (X.2 % 2^63)=X.2 % 2^63 by omega) with q|q<;>rw[q]<;>rcases h with h|h<;>grind
 ·cases hb:has0 X with
  |true=>rw[h2 hb,num0.2,wC];exact hm
  |false=>
   rw[h3 hb];rcases(show min (X.1 % 2^63) (X.2 % 2^63)=X.1 % 2^63\/min (X.1 % 2^63) (X.2 % 2^63)=X.2 % 2^63 by omega) with q|q<;>rw[q]<;>grind
 ·cases hb:has0 X with
  |true=>rw[h2 hb,num0.2];exact Int.le_refl _
  |false=>rw[h3 hb];omega
theorem zkg (hG:∀i j,i<n->j<=n->Gd (B i j))(hk:k<n){d:Nat->Rat}(hd:∀i,k<=i->i<n->0<d i/\LoA (d i) (B i i))(h1:∀j,k<=j->j<n->-(2*d k)<=iL (B k j)/\iH (B k j)<=2*d k)
  (h2:∀i,k<i->i<n->-(d i)<=2*iL (B i k)/\2*iH (B i k)<=d i):(pvS B n k (n-k)).2=(k:Int):=by
 obtain⟨ih,hih,hpos⟩:=zge (z:=-1) (by omega) (by omega);have hhalf:v ih=1/2:=by rw[hih];decide +kernel
 have hinf:ih<=inf:=by
  have e1:v (pw 1022)=(2:Rat)^(-1:Int):=by rw[v_pw 1022 (by omega)];rfl
  have e2:ih=pw 1022:=Wh (by rw[hih,e1]);rw[e2];unfold pw inf;omega
 have val:∀i,k<=i->i<n->∃z,valO B n k i=some z/\Num z/\(i=k->ih<=idx z)/\(k<i->idx z<=ih):=fun i hi hin=>by
  have gi:∀j,j<n-k->Gd (B i (k+j)):=fun j hj=>hG _ _ hin (by omega)
  have hls:=yk (hG i k hin (by omega));obtain⟨l1,l2,l3⟩:=zfe (hG i k hin (by omega));have hmf:=ze gi (n-k) (Nat.le_refl _);obtain⟨d0,dL⟩:=hd i hi hin;have hge:=(QA gi (n-k) (Nat.le_refl _)).2 (i-k) (by omega);rw[show k+(i-k)=i by omega] at hge;have hmd:d i<=v (idx (jA (B i) k (n-k))):=by
   have g1:=v_le hge.1;have g2:=v_le hge.2;rw[wQ] at g1;unfold LoA iL iH at dL;have:=(hG i i hin (by omega)).iLH;unfold iL iH at this;rcases dL with q|q<;>grind
  have hm0:0<v (idx (jA (B i) k (n-k))):=by grind
  have hne:idx (jA (B i) k (n-k))≠0:=fun e=>by rw[e,wC] at hm0;grind
  obtain⟨z,e,hn⟩:=vO hls.1 hmf.1 hne;refine⟨z,e,hn.num,fun hik=>?_,fun hik=>?_⟩
  ·subst hik;refine zfV hn (by omega) hinf ?_;rw[hhalf];have q1:=l1 (d i) d0 dL;have q2:=U2 gi (T:=2*d i) (by grind) (fun j hj=>h1 (i+j) (by omega) (by omega)) (n-i) (Nat.le_refl _);have hi:=Rat.inv_pos.2 hm0;rw[Rat.div_def];have:=Rat.mul_le_mul_of_nonneg_right (show v (idx (jA (B i) i (n-i)))*(1/2)<=v (idx (kL (B i i))) by grind) (Rat.le_of_lt hi);have q3:=Rat.mul_inv_cancel _ (show v (idx (jA (B i) i (n-i)))≠0 by grind);grind
  ·refine zfU hn (by omega) hinf ?_;rw[hhalf];have q0:=h2 i hik hin;have q1:=l2 (d i*(1/2)) (by grind) (by grind) (by grind);have hi:=Rat.inv_pos.2 hm0;rw[Rat.div_def];have:=Rat.mul_le_mul_of_nonneg_right (show v (idx (kL (B i k)))<=v (idx (jA (B i) k (n-k)))*(1/2) by grind) (Rat.le_of_lt hi);have q3:=Rat.mul_inv_cancel _ (show v (idx (jA (B i) k (n-k)))≠0 by grind);grind
 have main:∀m,1<=m->m<=n-k->(pvS B n k m).2=(k:Int)/\ih<=idx (pvS B n k m).1/\Num (pvS B n k m).1:=by
  intro m
  induction m with
  |zero=>intro h;omega
  |succ m ih'=>
   intro _ hm;obtain⟨z,e,nz,z1,z2⟩:=val (k+m) (by omega) (by omega);by_cases h0:m=0
   ·subst h0;have z1:=z1 rfl;have:abv (valO B n k (k+0)) (pvS B n k 0).1=true:=by
     rw[e];simp only[abv];have ho:FloatKind.f64.format.order z (pvS B n k 0).1=_:=qe nz num0.1;have:(pvS B n k 0).1=0:=rfl;rw[ho,this,num0.2,if_neg (by omega),if_neg (by omega)];rfl
    have ep:pvS B n k (0+1)=(z,((k+0:Nat):Int)):=by
     show(if abv (valO B n k (k+0)) (pvS B n k 0).1=true then _ else _)=_
     rw[if_pos this,e];rfl
    rw[ep];exact⟨rfl,z1,nz⟩
   ·obtain⟨i1,i2,i3⟩:=ih' (by omega) (by omega);have z2:=z2 (by omega);have:abv (valO B n k (k+m)) (pvS B n k m).1=false:=by
     rw[e];simp only[abv];have ho:FloatKind.f64.format.order z (pvS B n k m).1=_:=qe nz i3;rw[ho];by_cases q:idx z<idx (pvS B n k m).1
     ·rw[if_pos q];rfl
     ·rw[if_neg q,if_pos (by omega)];rfl
    have ep:pvS B n k (m+1)=pvS B n k m:=by
     show(if abv (valO B n k (k+m)) (pvS B n k m).1=true then _ else _)=_
     rw[if_neg (by rw[this];simp)]
    rw[ep];exact⟨i1,i2,i3⟩
 exact(main (n-k) (by omega) (Nat.le_refl _)).1
end
end Go.Enc
