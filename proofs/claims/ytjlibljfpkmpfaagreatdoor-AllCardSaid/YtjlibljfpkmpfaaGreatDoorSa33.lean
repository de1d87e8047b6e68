/-
  How much a directed rounding loses; which multiples floats are; how small a difference of floats can be.
-/
import Derived.Test.YtjlibljfpkmpfaaGreatDoorSa10
import Derived.Test.YtjlibljfpkmpfaaGreatDoorSa24
import Derived.Test.YtjlibljfpkmpfaaGreatDoorSa32
set_option maxRecDepth 100000
set_option linter.unusedSimpArgs false
set_option linter.unusedVariables false
section
namespace Go.Enc.Fl
open Ieee
abbrev eps:Rat:=1/4503599627370496
theorem zlQ {r:Nat}(h:2^52<=r):V r<=V (r+1)/\2^52*(V (r+1)-V r)<=V r:=by
 obtain⟨q,k,h1,h2,h3,h4,h5⟩:=zC r;have hk:2^52<=k:=by
  rcases h3 with h3|h3
  ·subst h3;omega
  ·exact h3
 rw[h4,h5];have e:(k+1)*2^q=k*2^q+2^q:=by rw[Nat.add_mul,Nat.one_mul]
 rw[e];refine⟨Nat.le_add_right _ _,?_⟩;rw[Nat.add_sub_cancel_left];exact Nat.mul_le_mul_right _ hk
theorem zgg {r:Nat}(h:2^52<=r):v ((r:Int)+1)-v r<=eps*v r:=by
 obtain⟨h1,h2⟩:=zlQ h;have e:((r:Int)+1)=((r+1:Nat):Int):=by omega
 rw[e,vc,vc];have hu:=WV;have h3:((2^52*(V (r+1)-V r):Nat):Rat)<=(V r:Rat):=by exact_mod_cast h2
 have h4:((2^52*(V (r+1)-V r):Nat):Rat)=4503599627370496*((V (r+1):Rat)-V r):=by
  obtain⟨g,hg⟩:=Nat.exists_eq_add_of_le h1;rw[hg,Nat.add_sub_cancel_left,Rat.natCast_mul,Rat.natCast_add];have:((2^52:Nat):Rat)=4503599627370496:=rfl;rw[this];grind
 rw[h4] at h3;have h5:=Rat.mul_le_mul_of_nonneg_right h3 (Rat.le_of_lt hu);unfold eps;grind
theorem Dn.err {x:Rat}{i:Int}(h:Dn x i)(hx:x=0\/v p0<=x\/x<=v (-p0)):x-v i<=eps*x\/x-v i<=eps * -x:=by
 have hp:=qd;have hp52:(2:Int)^52+1<p0:=by unfold p0;omega
 rcases hx with rfl|hx|hx
 ·have h1:=h.ge (j:=0) (by rw[wC];exact Rat.le_refl);have h2:=v_le h1;rw[wC] at h2;left;grind
 ·have h1:=h.ge hx;obtain⟨r,rfl⟩:=Int.eq_ofNat_of_zero_le (show 0<=i by omega);have h2:=zgg (r:=r) (by omega);have h3:=h.1;have h4:=h.2;left;have:(0:Rat)<eps:=by unfold eps;decide +kernel
  have h5:=Rat.mul_le_mul_of_nonneg_left h3 (Rat.le_of_lt this);grind
 ·have h1:i<=-p0:=kl.1 (Rat.le_trans h.1 hx);obtain⟨r,hr⟩:=Int.eq_ofNat_of_zero_le (show 0<=-i-1 by omega);have h2:=zgg (r:=r) (by omega);have h3:=h.1;have h4:=h.2;have e1:i = -((r:Int)+1):=by omega
  have e2:i+1 = -(r:Int):=by omega
  rw[e2,wQ] at h4;rw[e1,wQ] at h3;rw[e1,wQ];right;have:(0:Rat)<eps:=by unfold eps;decide +kernel
  have h5:eps*v r<=eps * -x:=Rat.mul_le_mul_of_nonneg_left (by grind) (Rat.le_of_lt this);grind
def Pl (x:Rat):Prop:=x=0\/(v p0<=x/\x<=v p1)\/(v (-p1)<=x/\x<=v (-p0))
theorem Pl.low {x:Rat}(h:Pl x):x=0\/v p0<=x\/x<=v (-p0):=by
 rcases h with h|h|h
 ·exact .inl h
 ·exact .inr (.inl h.1)
 ·exact .inr (.inr h.2)
theorem Pl.neg {x:Rat}(h:Pl x):Pl (-x):=by
 unfold Pl at *;rw[wQ,wQ] at *;grind
theorem DnK.okOf {x:Rat}{k:Int}(h:DnK x k)(hp:Pl x):ok k:=by
 have hq:=qd;rcases hp with rfl|⟨h1,h2⟩|⟨h1,h2⟩
 ·have h3:=h.mono (kT (k:=0) (.inl rfl)) (by rw[wC];exact Rat.le_refl);have h4:=(kT (k:=0) (.inl rfl)).mono h (by rw[wC];exact Rat.le_refl);exact .inl (by omega)
 ·have h3:=h.mono (kT (k:=p1) (.inr (.inl ⟨by omega,by omega⟩))) h2;have h4:=(kT (k:=p0) (.inr (.inl ⟨by omega,by omega⟩))).mono h h1;exact .inr (.inl ⟨by omega,by omega⟩)
 ·have h3:=h.mono (kT (k:=-p0) (.inr (.inr ⟨by omega,by omega⟩))) h2;have h4:=(kT (k:=-p1) (.inr (.inr ⟨by omega,by omega⟩))).mono h h1;exact .inr (.inr ⟨by omega,by omega⟩)
theorem UpK.okOf {x:Rat}{k:Int}(h:UpK x k)(hp:Pl x):ok k:=by
 have:=xV (DnK.okOf h hp.neg)
 rwa [Int.neg_neg] at this
theorem zge {z:Int}(h1 : -900<=z)(h2:z<=900):∃i,v i=(2:Rat)^z/\0<i:=by
 refine⟨pw (z+1023).toNat,?_,?_⟩
 ·rw[v_pw _ (by omega)];congr 1;omega
 ·unfold pw;omega
theorem Dn.pow_le {x:Rat}{i:Int}(h:Dn x i){z:Int}(h1 : -900<=z)(h2:z<=900)(hx:(2:Rat)^z<=x):(2:Rat)^z<=v i:=by
 obtain⟨j,hj,_⟩:=zge h1 h2;rw[<-hj] at hx ⊢;exact v_le (h.ge hx)
theorem gran {i z:Int}(h:(2:Rat)^z<=v i\/v i<=-(2:Rat)^z):∃k:Int,v i=(k:Rat)*2^(z-53):=by
 have pos:∀ {i:Int},(2:Rat)^z<=v i->∃k:Int,v i=(k:Rat)*2^(z-53):=fun {i} h=>by
  have hi:0<=i:=by
   rcases Int.lt_or_le i 0 with h1|h1
   ·have h2:=v_lt (i:=i) (j:=0) h1;rw[wC] at h2;have:=wB z;grind
   ·exact h1
  obtain⟨r,rfl⟩:=Int.eq_ofNat_of_zero_le hi;rcases JO r (z-53) with g|g
  ·have e:((2^53:Nat):Rat)*(2:Rat)^(z-53)=2^z:=by
    rw[<-wX,<-wA];congr 1;omega
   rw[e] at g;refine⟨((2^53:Nat):Int),?_⟩;rw[Rat.intCast_natCast,e];exact Rat.le_antisymm g h
  ·exact g
 rcases h with h|h
 ·exact pos h
 ·obtain⟨k,hk⟩:=pos (i:=-i) (by rw[wQ];grind);rw[wQ] at hk;exact⟨-k,by rw[Rat.intCast_neg];grind⟩
theorem Yo {a b:Int}{c:Rat}(hc:0<c):(a:Rat)*c-(b:Rat)*c=0\/c<=(a:Rat)*c-(b:Rat)*c\/(a:Rat)*c-(b:Rat)*c<=-c:=by
 rcases Int.lt_trichotomy a b with h|h|h
 ·have h1:(a:Rat)+1<=(b:Rat):=by exact_mod_cast h
  have:=Rat.mul_le_mul_of_nonneg_right h1 (Rat.le_of_lt hc);grind
 ·subst h;left;grind
 ·have h1:(b:Rat)+1<=(a:Rat):=by exact_mod_cast h
  have:=Rat.mul_le_mul_of_nonneg_right h1 (Rat.le_of_lt hc);grind
def Lw (L:Int)(x:Rat):Prop:=x=0\/(2:Rat)^(-L)<=x\/x<=-(2:Rat)^(-L)
theorem Lw.mono {a b:Int}(h:a<=b){x:Rat}(k:Lw a x):Lw b x:=by
 have:=jl (a:=-b) (b:=-a) (by omega);unfold Lw at *;grind
theorem Lw.neg {a:Int}{x:Rat}(k:Lw a x):Lw a (-x):=by unfold Lw at *;grind
theorem Lw.mul {a b:Int}{x y:Rat}(h:Lw a x)(k:Lw b y):Lw (a+b) (x*y):=by
 have pos:∀ {x y:Rat},(2:Rat)^(-a)<=x->(2:Rat)^(-b)<=y->(2:Rat)^(-(a+b))<=x*y:=fun {x y} h k=>by
  have e:(2:Rat)^(-(a+b))=2^(-a)*2^(-b):=by rw[<-wA];congr 1;omega
  rw[e];have h0:=wB (-a);have h1:=wB (-b);have h2:=Rat.mul_le_mul_of_nonneg_right h (Rat.le_of_lt h1);have h3:=Rat.mul_le_mul_of_nonneg_left k (c:=x) (by grind);grind
 rcases h with rfl|h|h
 ·exact .inl (by grind)
 ·rcases k with rfl|k|k
  ·exact .inl (by grind)
  ·exact .inr (.inl (pos h k))
  ·have:=pos h (y:=-y) (by grind);exact .inr (.inr (by grind))
 ·rcases k with rfl|k|k
  ·exact .inl (by grind)
  ·have:=pos (x:=-x) (by grind) k;exact .inr (.inr (by grind))
  ·have:=pos (x:=-x) (y:=-y) (by grind) (by grind);exact .inr (.inl (by grind))
theorem Lw.sub {a b:Int}{i j:Int}(h:Lw a (v i))(k:Lw b (v j)){c:Int}(hb:b<=c)(ha:a+54<=c):Lw c (v i-v j):=by
 have hac:a<=c:=by omega
 rcases h with h|h
 ·rw[h];have:=(Lw.mono hb k).neg;unfold Lw at *;grind
 rcases k with k|k
 ·rw[k];have:=Lw.mono hac (.inr h);unfold Lw at *;grind
 have hz:=wB (-a);have e1:(2:Rat)^(-a)=2^(-a-1)*2:=by
  rw[show(-a:Int)=(-a-1)+1 by omega,wA];congr 1;rw[show(-a-1+1-1:Int) = -a-1 by omega]
 by_cases hs:(2:Rat)^(-a-1)<=v j\/v j<=-(2:Rat)^(-a-1)
 ·obtain⟨x,hx⟩:=gran (z:=-a-1) (i:=i) (by grind);obtain⟨y,hy⟩:=gran (z:=-a-1) hs;rw[hx,hy];have:=Yo (a:=x) (b:=y) (wB (-a-1-53));have h3:=jl (a:=-c) (b:=-a-1-53) (by omega);unfold Lw;grind
 ·have h3:=jl (a:=-c) (b:=-a-1) (by omega);unfold Lw;grind
end Go.Enc.Fl
end
section
namespace Go.Enc
open Go.Proofs Go.Enc.Fl
def iL (X:Nat×Nat):Rat:=v (idx X.1)
def iH (X:Nat×Nat):Rat:=v (idx X.2)
def iE (X:Nat×Nat)(j:Nat):Rat:=if j=0 then iL X else iH X
theorem x3 {a:Nat×Nat}(g:Gd a):OkB a.1:=kQ g.p1 g.l1
theorem vv {a:Nat×Nat}(g:Gd a):OkB a.2:=kQ g.p2 g.l2
theorem QO {a:Nat×Nat}(g:Gd a)(j:Nat):OkB (two a.1 a.2 j):=by
 unfold two;split
 ·exact x3 g
 ·exact vv g
theorem twoE (a:Nat×Nat)(j:Nat):v (idx (two a.1 a.2 j))=iE a j:=by
 unfold two iE iL iH;split<;>rfl
theorem Gd.iLH {a:Nat×Nat}(g:Gd a):iL a<=iH a:=v_le g.le
structure Rnds (X:Nat->Nat->Rat)(r:Nat×Nat):Prop where
 gd:Gd r
 all:∀j k,j<2->k<2->iL r<=X j k/\X j k<=iH r
 dn:∃j k,j<2/\k<2/\Dn (X j k) (idx r.1)
 up:∃j k,j<2/\k<2/\Up (X j k) (idx r.2)
abbrev AnsQ:=(Nat×Nat)×Option (ByteArray×D)
def errQ:Option (ByteArray×D)->D
 |none=>.v .nilIface
 |some (s,d)=>opE s d
structure Res3 (X:Nat->Nat->Rat)(R:AnsQ):Prop where
 good:R.2=none->Rnds X R.1
 bad:R.2≠none->R.1=(0,0)
 pl:(∀j k,j<2->k<2->Pl (X j k))->R.2=none
theorem zfc {X:Rat}{k l:Int}(h:DnK X k)(hl:ok l)(hle:l<=k):v l<=X:=by
 refine Rat.not_lt.1 fun hx=>?_
 have h1:=h.mono (kT hl) (Rat.le_of_lt hx);obtain rfl:k=l:=by omega
 have:=(h.val hl).1;grind
theorem zdC {X:Rat}{k l:Int}(h:UpK X k)(hl:ok l)(hle:k<=l):X<=v l:=by
 refine Rat.not_lt.1 fun hx=>?_
 have h1:=(KW hl).mono h (Rat.le_of_lt hx);obtain rfl:k=l:=by omega
 have:=(UpK.val h hl).2;grind
theorem zku {a b c d:Int}:∃n,n<4/\min (min (min a b) c) d=(if n=0 then a else if n=1 then b else if n=2 then c else d):=by
 rcases(show min (min (min a b) c) d=a\/min (min (min a b) c) d=b\/min (min (min a b) c) d=c\/min (min (min a b) c) d=d by omega) with h|h|h|h
 ·exact⟨0,by omega,h⟩
 ·exact⟨1,by omega,h⟩
 ·exact⟨2,by omega,h⟩
 ·exact⟨3,by omega,h⟩
theorem zkv {a b c d:Int}:∃n,n<4/\max (max (max a b) c) d=(if n=0 then a else if n=1 then b else if n=2 then c else d):=by
 rcases(show max (max (max a b) c) d=a\/max (max (max a b) c) d=b\/max (max (max a b) c) d=c\/max (max (max a b) c) d=d by omega) with h|h|h|h
 ·exact⟨0,by omega,h⟩
 ·exact⟨1,by omega,h⟩
 ·exact⟨2,by omega,h⟩
 ·exact⟨3,by omega,h⟩
theorem X6 {E:Nat->Option Value}{q:Nat->Addr}(hq:Sent E q){F:FuncId}(hF:isP F=false)(op:ByteArray){x0 x1 y0 y1:Nat}(X:Nat->Nat->Rat)
  (hc:∀j k,j<2->k<2->∃l h,Corner E F op (two x0 x1 j) (two y0 y1 k) l h/\DnK (X j k) (K (idx l))/\UpK (X j k) (K (idx h))) :
  ∃R:AnsQ,DQz E 87 [strD op,ivD (x0,x1),ivD (y0,y1),.v (.func (.func F) #[] #[])] (.data (.tup [ivD R.1,errQ R.2]))/\Res3 X R:=by
 have hc':∀n,∃p:Nat×Nat,n<4->Corner E F op (two x0 x1 (n/2)) (two y0 y1 (n % 2)) p.1 p.2/\DnK (X (n/2) (n % 2)) (K (idx p.1))/\UpK (X (n/2) (n % 2)) (K (idx p.2)):=fun n=>by
  by_cases hn:n<4
  ·obtain⟨l,h,h1⟩:=hc (n/2) (n % 2) (by omega) (by omega);exact⟨(l,h),fun _=>h1⟩
  ·exact⟨(0,0),fun h=>absurd h hn⟩
 have⟨f,hf⟩:=Classical.axiomOfChoice hc'
 let ls:Nat->Nat:=fun n=>(f n).1
 let hs:Nat->Nat:=fun n=>(f n).2
 have hcs:∀j k,j<2->k<2->Corner E F op (two x0 x1 j) (two y0 y1 k) (ls (2*j+k)) (hs (2*j+k)):=fun j k hj hk=>by
  have h:=(hf (2*j+k) (by omega)).1;rw[show(2*j+k)/2=j by omega,show(2*j+k) % 2=k by omega] at h;exact h
 have hl:∀n,n<4->Num (ls n)/\ls n<18446744073709551616:=fun n hn=>⟨(hf n hn).1.ln,(hf n hn).1.ll⟩
 have hh:∀n,n<4->Num (hs n)/\hs n<18446744073709551616:=fun n hn=>⟨(hf n hn).1.hn,(hf n hn).1.hl⟩
 have hcor:=X7 hq hF op hcs;have l4:=(yj hl 4 (by omega)).2;have h4:=(yq hh 4 (by omega)).2;have i0:idx (loS ls 0)=(inf:Int):=by show idx 9218868437227405312=_;decide
 have j0:idx (hiS hs 0) = -(inf:Int):=by show idx 18442240474082181120=_;decide
 have a1:=(qz hl (n:=0) (by omega)).2;have a2:=(qz hl (n:=1) (by omega)).2;have a3:=(qz hl (n:=2) (by omega)).2;have a4:=(qz hl (n:=3) (by omega)).2;have b1:=(qA hh (n:=0) (by omega)).2;have b2:=(qA hh (n:=1) (by omega)).2;have b3:=(qA hh (n:=2) (by omega)).2;have b4:=(qA hh (n:=3) (by omega)).2;have bl:∀n,n<4->idx (ls n)<=inf:=fun n hn=>(KE (hl n hn).1).2
 have bh:∀n,n<4->-(inf:Int)<=idx (hs n):=fun n hn=>(KE (hh n hn).1).1
 have eL:idx (loS ls 4)=min (min (min (idx (ls 0)) (idx (ls 1))) (idx (ls 2))) (idx (ls 3)):=by
  rw[a4,a3,a2,a1,i0,Int.min_eq_right (bl 0 (by omega))]
 have eH:idx (hiS hs 4)=max (max (max (idx (hs 0)) (idx (hs 1))) (idx (hs 2))) (idx (hs 3)):=by
  rw[b4,b3,b2,b1,j0,Int.max_eq_right (bh 0 (by omega))]
 obtain⟨nl,hnl,enl⟩:∃n,n<4/\idx (loS ls 4)=idx (ls n):=by
  obtain⟨n,hn,e⟩:=zku (a:=idx (ls 0)) (b:=idx (ls 1)) (c:=idx (ls 2)) (d:=idx (ls 3));refine⟨n,hn,?_⟩;rw[eL,e];rcases(show n=0\/n=1\/n=2\/n=3 by omega) with rfl|rfl|rfl|rfl<;>rfl
 obtain⟨nh,hnh,enh⟩:∃n,n<4/\idx (hiS hs 4)=idx (hs n):=by
  obtain⟨n,hn,e⟩:=zkv (a:=idx (hs 0)) (b:=idx (hs 1)) (c:=idx (hs 2)) (d:=idx (hs 3));refine⟨n,hn,?_⟩;rw[eH,e];rcases(show n=0\/n=1\/n=2\/n=3 by omega) with rfl|rfl|rfl|rfl<;>rfl
 unfold zN at hcor;by_cases hp:wg (loS ls 4)=false\/wg (hiS hs 4)=false
 ·rw[if_pos hp] at hcor;refine⟨((0,0),some (op,eD q 2)),hcor,⟨fun h=>(by cases h),fun _=>rfl,fun hX=>?_⟩⟩;exfalso;have o1:ok (idx (loS ls 4)):=by
   rw[enl];have:=DnK.okOf (hf nl hnl).2.1 (hX _ _ (by omega) (by omega));exact(K_ok _).1.1 this
  have o2:ok (idx (hiS hs 4)):=by
   rw[enh];have:=UpK.okOf (hf nh hnh).2.2 (hX _ _ (by omega) (by omega));exact(K_ok _).1.1 this
  rw[xU o1,xU o2] at hp;simp at hp
 ·rw[if_neg hp] at hcor;have p1:wg (loS ls 4)=true:=by simpa using (not_or.1 hp).1
  have p2:wg (hiS hs 4)=true:=by simpa using (not_or.1 hp).2
  have o1:=(kQ p1 l4).2;have o2:=(kQ p2 h4).2;refine⟨((posB (loS ls 4),posB (hiS hs 4)),none),hcor,⟨fun _=>?_,fun h=>absurd rfl h,fun _=>rfl⟩⟩;have all:∀j k,j<2->k<2->v (idx (loS ls 4))<=X j k/\X j k<=v (idx (hiS hs 4)):=fun j k hj hk=>by
   obtain⟨_,d,u⟩:=hf (2*j+k) (by omega);rw[show(2*j+k)/2=j by omega,show(2*j+k) % 2=k by omega] at d u;have c4:2*j+k=0\/2*j+k=1\/2*j+k=2\/2*j+k=3:=by omega
   have m1:idx (loS ls 4)<=idx (ls (2*j+k)):=by rw[eL];exact mins (by rcases c4 with e|e|e|e<;>rw[e]<;>simp)
   have m2:idx (hs (2*j+k))<=idx (hiS hs 4):=by rw[eH];exact maxs (by rcases c4 with e|e|e|e<;>rw[e]<;>simp)
   have k1:=kh m1;have k2:=kh m2;rw[(K_ok _).2 o1] at k1;rw[(K_ok _).2 o2] at k2;exact⟨zfc d o1 k1,zdC u o2 k2⟩
  have hle:idx (loS ls 4)<=idx (hiS hs 4):=by
   obtain⟨g1,g2⟩:=all 0 0 (by omega) (by omega);exact kl.1 (Rat.le_trans g1 g2)
  refine⟨⟨kB l4,kB h4,jq p1,jq p2,by simp only[jS];exact hle,km _,km _⟩,?_,?_,?_⟩
  ·intro j k hj hk;simp only[iL,iH,jS];exact all j k hj hk
  ·obtain⟨_,d,_⟩:=hf nl hnl;refine⟨nl/2,nl % 2,by omega,by omega,?_⟩;simp only[jS];have h1:K (idx (ls nl))=idx (loS ls 4):=by rw[<-enl];exact(K_ok _).2 o1
   have d:DnK (X (nl/2) (nl % 2)) (K (idx (ls nl))):=d;rw[h1] at d;exact d.val o1
  ·obtain⟨_,_,d⟩:=hf nh hnh;refine⟨nh/2,nh % 2,by omega,by omega,?_⟩;simp only[jS];have h1:K (idx (hs nh))=idx (hiS hs 4):=by rw[<-enh];exact(K_ok _).2 o2
   have d:UpK (X (nh/2) (nh % 2)) (K (idx (hs nh))):=d;rw[h1] at d;exact UpK.val d o2
section
variable {E:Nat->Option Value} {q:Nat->Addr} {a b:Nat×Nat}
def mulX (a b:Nat×Nat)(j k:Nat):Rat:=iE a j*iE b k
def divX (a b:Nat×Nat)(j k:Nat):Rat:=iE a j/iE b k
def subX (a b:Nat×Nat)(j _k:Nat):Rat:=if j=0 then iL a-iH b else iH a-iL b
theorem zif (hq:Sent E q)(g:Gd a)(g':Gd b):∃R:AnsQ,DQz E 43 [ivD a,ivD b] (.data (.tup [ivD R.1,errQ R.2]))/\Res3 (mulX a b) R:=by
 obtain⟨R,h1,h2⟩:=X6 hq (F:=88) rfl kc (x0:=a.1) (x1:=a.2) (y0:=b.1) (y1:=b.2) (mulX a b) fun j k hj hk=>by
  obtain⟨l,h,c⟩:=yX E (QO g j) (QO g' k);rw[twoE,twoE] at c;exact⟨l,h,c⟩
 exact⟨R,HW E h1,h2⟩
def has0 (b:Nat×Nat):Bool:=decide (idx b.1<=0)&&decide (0<=idx b.2)
theorem zig (hq:Sent E q)(g:Gd a)(g':Gd b):∃R:AnsQ,DQz E 44 [ivD a,ivD b] (.data (.tup [ivD R.1,errQ R.2])) /\
  (has0 b=true->R.2≠none/\R.1=(0,0))/\(has0 b=false->Res3 (divX a b) R):=by
 have n1:=(x3 g').fin.num;have n2:=(vv g').fin.num;have hh:=yp E n1 n2 num0.1;have h0:idx 0=0:=num0.2;rw[h0] at hh;cases hb:has0 b
 ·rw[show(decide (idx b.1<=0)&&decide (0<=idx b.2))=false from hb] at hh;have hne:idx b.1≠0/\idx b.2≠0:=by
   have:=g'.le;unfold has0 at hb;rw[Bool.and_eq_false_iff,decide_eq_false_iff_not,decide_eq_false_iff_not] at hb;omega
  obtain⟨R,h1,h2⟩:=X6 hq (F:=90) rfl xc (x0:=a.1) (x1:=a.2) (y0:=b.1) (y1:=b.2) (divX a b) fun j k hj hk=>by
   obtain⟨l,h,c⟩:=Rq E (QO g j) (QO g' k) (by unfold two;split<;>first|exact hne.1|exact hne.2);rw[twoE,twoE] at c;exact⟨l,h,c⟩
  exact⟨R,zcy E hh h1,fun h=>(by cases h),fun _=>h2⟩
 ·rw[show(decide (idx b.1<=0)&&decide (0<=idx b.2))=true from hb] at hh;exact⟨((0,0),some (xc,eD q 3)),zcx hq hh,fun _=>⟨by simp,rfl⟩,fun h=>(by cases h)⟩
theorem VT {b:Nat}(h:OkB b):OkB (fneg b):=by
 obtain⟨h1,h2,h3,_⟩:=jt h.1;exact⟨h3,by rw[h1];exact xV h.2⟩
theorem zgu {b:Nat}(h:OkB b):v (idx (fneg b)) = -v (idx b):=by rw[(jt h.1).1,wQ]
theorem zic (hq:Sent E q)(g:Gd a)(g':Gd b):∃R:AnsQ,DQz E 42 [ivD a,ivD b] (.data (.tup [ivD R.1,errQ R.2]))/\Res3 (subX a b) R:=by
 obtain⟨l,_,l1,_,ll,_,ld,_⟩:=Vk E (x3 g) (VT (vv g'));obtain⟨_,h,_,h2,_,lh,_,hu⟩:=Vk E (vv g) (VT (x3 g'));rw[zgu (vv g')] at ld;rw[zgu (x3 g')] at hu;have el:v (idx a.1) + -v (idx b.2)=iL a-iH b:=by unfold iL iH;grind
 have eh:v (idx a.2) + -v (idx b.1)=iH a-iL b:=by unfold iL iH;grind
 rw[el] at ld;rw[eh] at hu;have he:=QX hq yi ll lh;unfold zN at he;have dle:=ld.1;have ule:=hu.2;have ga:=g.iLH;have gb:=g'.iLH;by_cases hp:wg l=false\/wg h=false
 ·rw[if_pos hp] at he;refine⟨((0,0),some (yi,eD q 2)),HR E l1 h2 he,⟨fun h=>(by cases h),fun _=>rfl,fun hX=>?_⟩⟩;exfalso;have x1:Pl (iL a-iH b):=hX 0 0 (by omega) (by omega);have x2:Pl (iH a-iL b):=hX 1 0 (by omega) (by omega);have mu1:MU (iL a-iH b):=(mu_v _).sub (mu_v _);have mu2:MU (iH a-iL b):=(mu_v _).sub (mu_v _);have o1:ok (idx l):=(K_ok _).1.1 (DnK.okOf (zu ld mu1.class.1) x1);have o2:ok (idx h):=(K_ok _).1.1 (UpK.okOf (Wt hu mu2.class.2) x2);rw[xU o1,xU o2] at hp;simp at hp
 ·rw[if_neg hp] at he;have p1:wg l=true:=by simpa using (not_or.1 hp).1
  have p2:wg h=true:=by simpa using (not_or.1 hp).2
  refine⟨((posB l,posB h),none),HR E l1 h2 he,⟨fun _=>?_,fun h=>absurd rfl h,fun _=>rfl⟩⟩;refine⟨⟨kB ll,kB lh,jq p1,jq p2,by simp only[jS];exact kl.1 (by grind),km _,km _⟩,?_,?_,?_⟩
  ·intro j k hj hk;simp only[iL,iH,jS,subX];unfold iL iH at *;split
   ·exact⟨by grind,by grind⟩
   ·exact⟨by grind,by grind⟩
  ·exact⟨0,0,by omega,by omega,by simp only[jS];exact ld⟩
  ·exact⟨1,0,by omega,by omega,by simp only[jS];exact hu⟩
structure Ops3 (E:Nat->Option Value)(M V S:Nat×Nat->Nat×Nat->AnsQ):Prop where
 m:∀a b,Gd a->Gd b->DQz E 43 [ivD a,ivD b] (.data (.tup [ivD (M a b).1,errQ (M a b).2]))/\Res3 (mulX a b) (M a b)
 v:∀a b,Gd a->Gd b->DQz E 44 [ivD a,ivD b] (.data (.tup [ivD (V a b).1,errQ (V a b).2]))/\(has0 b=true->(V a b).2≠none/\(V a b).1=(0,0))/\(has0 b=false->Res3 (divX a b) (V a b))
 s:∀a b,Gd a->Gd b->DQz E 42 [ivD a,ivD b] (.data (.tup [ivD (S a b).1,errQ (S a b).2]))/\Res3 (subX a b) (S a b)
theorem Zn {R:Nat×Nat->Nat×Nat->AnsQ->Prop}(h:∀a b,Gd a->Gd b->∃r,R a b r):∃f:Nat×Nat->Nat×Nat->AnsQ,∀a b,Gd a->Gd b->R a b (f a b):=by
 have h':∀p:(Nat×Nat)×(Nat×Nat),∃r:AnsQ,Gd p.1->Gd p.2->R p.1 p.2 r:=fun p=>by
  by_cases g:Gd p.1/\Gd p.2
  ·obtain⟨r,hr⟩:=h p.1 p.2 g.1 g.2;exact⟨r,fun _ _=>hr⟩
  ·exact⟨((0,0),none),fun h1 h2=>absurd ⟨h1,h2⟩ g⟩
 obtain⟨f,hf⟩:=Classical.axiomOfChoice h';exact⟨fun a b=>f (a,b),fun a b g g'=>hf (a,b) g g'⟩
theorem ops3 (hq:Sent E q):∃M V S,Ops3 E M V S:=by
 obtain⟨M,hM⟩:=Zn (fun a b g g'=>zif (a:=a) (b:=b) hq g g');obtain⟨V,hV⟩:=Zn (fun a b g g'=>zig (a:=a) (b:=b) hq g g');obtain⟨S,hS⟩:=Zn (fun a b g g'=>zic (a:=a) (b:=b) hq g g');exact⟨M,V,S,hM,hV,hS⟩
end
end Go.Enc
end
section
namespace Go.Enc
open Go.Proofs Go.Enc.Fl Go.RowKit
theorem QE {C:Ctx}{s:St}{k:Nat}{r:T}{e:D}(hk:s.h k=some ⟨none,[r,.d e]⟩):Leads C s (s.setH k ⟨none,[r,.hid e]⟩):=fun σ G a w S=>by
 have hh:∀j o,(s.setH k ⟨none,[r,.hid e]⟩).h j=some o->(j=k/\o=⟨none,[r,.hid e]⟩)\/(j≠k/\s.h j=some o):=by
  intro j o h;simp only[St.setH,upd] at h;split at h
  ·rename_i e;exact .inl ⟨e,by simpa using h.symm⟩
  ·rename_i e;exact .inr ⟨e,h⟩
 have hl:∀j,s.h j≠none->(s.setH k ⟨none,[r,.hid e]⟩).h j≠none:=fun j hj=>by
  simp only[St.setH,upd];split
  ·simp
  ·exact hj
 have hfin:∃N,∀j,N<=j->(s.setH k ⟨none,[r,.hid e]⟩).h j=none:=by
  obtain⟨N,hN⟩:=S.fin;exact⟨N,fun j hj=>by
   simp only[St.setH];rw[wD _ _ (fun e=>by have:=hN j hj;rw[e,hk] at this;cases this)];exact hN j hj⟩
 refine⟨σ,G,{ S with fin:=hfin,live:=fun i j hj=>hl j (S.live i j hj),obj:=fun j o h=>?_,deep:=fun j o h c hc j' hj'=>?_,sep:=fun j j' o1 o2 b h1 h2=>?_,own:=fun j o b h=>?_ }⟩
 ·rcases hh j o h with⟨rfl,rfl⟩|⟨hj,h⟩
  ·have H:=S.obj j _ hk;simp only[ObjIs] at H ⊢;obtain⟨b,us,ty,h1,h2,h3,h4,h5⟩:=H;refine⟨b,us,ty,h1,h2,h3,?_,h5⟩;obtain⟨u,q,e1,e2,e3,v,q',e4,e5,e6,e7⟩:=h4;exact⟨u,q,e1,e2,e3,v,q',e4,e5,e6,e7⟩
  ·exact S.obj j o h
 ·rcases hh j o h with⟨rfl,rfl⟩|⟨hj,h⟩
  ·simp only[List.mem_cons,List.not_mem_nil,or_false] at hc;rcases hc with rfl|rfl
   ·exact hl j' (S.deep j _ hk _ (by simp) j' hj')
   ·simp[T.ref] at hj'
  ·exact hl j' (S.deep j o h c hc j' hj')
 ·have conv:∀ {j o},(s.setH k ⟨none,[r,.hid e]⟩).h j=some o->∃o1,s.h j=some o1:=fun {j o} h=>by
   rcases hh j o h with⟨rfl,rfl⟩|⟨_,h⟩
   ·exact⟨_,hk⟩
   ·exact⟨_,h⟩
  obtain⟨p1,q1⟩:=conv h1
  obtain⟨p2,q2⟩:=conv h2
  exact S.sep j j' p1 p2 b q1 q2
 ·rcases hh j o h with⟨rfl,rfl⟩|⟨_,h⟩
  ·exact S.own j _ b hk
  ·exact S.own j o b h
theorem Qb (s:St)(k:Nat)(o o':Obj):(s.setH k o).setH k o'=s.setH k o':=by
 unfold St.setH;congr 1
 funext i
 simp only[upd];split<;>rfl
theorem RZ {s:St}{k:Nat}{o:Obj}(h:s.h k=some o):s.setH k o=s:=by
 unfold St.setH;cases s;congr 1
 funext i
 simp only[upd];split
 ·rename_i e;subst e;exact h.symm
 ·rfl
theorem zhA (E:Nat->Option Value):DoOk Tryz.prog E:=by
 intro C s dst k r e0 e a hP hE hk ha he;obtain⟨P,E',σ0,w0,base,n,kb,df,G0⟩:=C;simp only at hP hE;subst hP;subst hE;obtain⟨x,y,rfl⟩:∃x y,a=[x,y]:=by
  match a,ha with
  |[x,y],_=>exact⟨x,y,rfl⟩
 have key:∀(e:D),xZ e=true->e≠.v .nilIface->∃t cs,e = .ip t cs:=fun e h hn=>by
  cases e with
  |v u=>cases u<;>first|exact absurd rfl hn|(simp[xZ] at h)
  |ip t cs=>exact⟨t,cs,rfl⟩
  |_=>simp[xZ] at h
 have hts:∀c∈[T.ptr k 0,.d (.agg [x,y]),.d e],∀k',c.ref=some k'->s.h k'≠none:=fun c hc k' hk'=>by
  simp only[List.mem_cons,List.not_mem_nil,or_false] at hc;rcases hc with rfl|rfl|rfl
  ·simp only[T.ref,Option.some.injEq] at hk';subst hk';rw[hk];simp
  ·simp[T.ref] at hk'
  ·simp[T.ref] at hk'
 by_cases hn:e = .v .nilIface
 ·subst hn;rw[show doE e0 (.v .nilIface)=e0 from rfl,RZ hk];refine W8 (C:=⟨Tryz.prog,E',σ0,w0,base,n,kb,df,G0⟩) (s:=s) (H:=s.h) Tryz.func137 rfl (by kernel_rfl) Tryz.ntmps137 (by simp) (rs:=[.cell 6 59]) rfl hts (fun _ h=>h) (fun h=>h) fun kb' hK C' h1 h2 h3 h4=>?_
  obtain⟨P1,E1,σ1,w1,base1,n1,kb1,df1,G1⟩:=C';simp only at h1 h2 h3 h4;subst h1;subst h2;subst h3;subst h4;have n4:s.h (kb1+4)=none:=Decidable.byContradiction fun h=>by have:=hK _ h;omega
  have n6:s.h (kb1+6)=none:=Decidable.byContradiction fun h=>by have:=hK _ h;omega
  refine kM (by kernel_rfl) ?_;have q1:(kb1+6=kb1+4)=False:=by simp
  have q2:(kb1+4=kb1+6)=False:=by simp
  simp -implicitDefEqProofs only[go_sem,n4,n6,q1,q2];refine⟨?_,fun k' o ho=>?_⟩
  ·simp -implicitDefEqProofs only[go_sem,FinP.resL1,q1,q2]
  ·have hlt:=hK k' (by rw[ho];simp);have q3:(k'=kb1+4)=False:=by simp;omega
   have q4:(k'=kb1+6)=False:=by simp;omega
   simp -implicitDefEqProofs only[go_sem,q3,q4,ho]
 ·obtain⟨t,cs,rfl⟩:=key e he hn;rw[show doE e0 (.ip t cs) = .ip t cs from rfl];have hL:Leads ⟨Tryz.prog,E',σ0,w0,base,n,kb,df,G0⟩ ((⟨s.t,(s.setH k ⟨none,[r,.d (.ip t cs)]⟩).h⟩:St).put dst (.d (.agg [x,y]))) ((s.setH k ⟨none,[r,.hid (.ip t cs)]⟩).put dst (.d (.agg [x,y]))):=by
   have h1:((⟨s.t,(s.setH k ⟨none,[r,.d (.ip t cs)]⟩).h⟩:St).put dst (.d (.agg [x,y]))).h k=some ⟨none,[r,.d (.ip t cs)]⟩:=by
    rw[xO];simp[St.setH,wq]
   have h2:=QE (C:=⟨Tryz.prog,E',σ0,w0,base,n,kb,df,G0⟩) h1;have e1:((⟨s.t,(s.setH k ⟨none,[r,.d (.ip t cs)]⟩).h⟩:St).put dst (.d (.agg [x,y]))).setH k ⟨none,[r,.hid (.ip t cs)]⟩=(s.setH k ⟨none,[r,.hid (.ip t cs)]⟩).put dst (.d (.agg [x,y])):=by
    cases dst with
    |none=>exact Qb s k _ _
    |some d=>
     show(((s.setH k _).setH k ⟨none,[r,.hid (.ip t cs)]⟩).put (some d) _)=_
     rw[Qb]
   rw[e1] at h2;exact h2
  refine HA ?_ hL;refine W8 (C:=⟨Tryz.prog,E',σ0,w0,base,n,kb,df,G0⟩) (s:=s) (H:=(s.setH k ⟨none,[r,.d (.ip t cs)]⟩).h) Tryz.func137 rfl (by kernel_rfl) Tryz.ntmps137 (by simp) (rs:=[.cell 6 59]) rfl hts (fun k' h=>?_) (fun hD k' o ho c hc k2 hk2=>?_) fun kb' hK C' h1 h2 h3 h4=>?_
  ·simp only[St.setH,upd];split
   ·simp
   ·exact h
  ·have hl:∀j,s.h j≠none->(s.setH k ⟨none,[r,.d (.ip t cs)]⟩).h j≠none:=fun j hj=>by
    simp only[St.setH,upd];split
    ·simp
    ·exact hj
   simp only[St.setH,upd] at ho;split at ho
   ·cases ho;simp only[List.mem_cons,List.not_mem_nil,or_false] at hc;rcases hc with rfl|rfl
    ·exact hl k2 (hD k _ hk _ (by simp) k2 hk2)
    ·simp[T.ref] at hk2
   ·exact hl k2 (hD k' o ho c hc k2 hk2)
  obtain⟨P1,E1,σ1,w1,base1,n1,kb1,df1,G1⟩:=C';simp only at h1 h2 h3 h4;subst h1;subst h2;subst h3;subst h4;have n4:s.h (kb1+4)=none:=Decidable.byContradiction fun h=>by have:=hK _ h;omega
  have n6:s.h (kb1+6)=none:=Decidable.byContradiction fun h=>by have:=hK _ h;omega
  have hlt:=hK k (by rw[hk];simp);refine kM (by kernel_rfl) ?_;have q1:(kb1+6=kb1+4)=False:=by simp
  have q2:(kb1+4=kb1+6)=False:=by simp
  have q3:(k=kb1+4)=False:=by simp;omega
  have q4:(k=kb1+6)=False:=by simp;omega
  have q5:(kb1+4=k)=False:=by simp;omega
  have q6:(kb1+6=k)=False:=by simp;omega
  simp -implicitDefEqProofs only[go_sem,n4,n6,q1,q2,q3,q4,q5,q6,hk];refine⟨?_,fun k' o ho=>?_⟩
  ·simp -implicitDefEqProofs only[go_sem,FinP.resL1,q1,q2,q5,q6]
  ·simp -implicitDefEqProofs only[go_sem] at ho;by_cases hkk:k'=k
   ·subst hkk;simp only[if_true,Option.some.injEq] at ho;subst ho;simp -implicitDefEqProofs only[go_sem,q3,q4]
   ·simp only[hkk,if_false] at ho;have hlt:=hK k' (by rw[ho];simp);have q3:(k'=kb1+4)=False:=by simp;omega
    have q4:(k'=kb1+6)=False:=by simp;omega
    have q5:(k'=k)=False:=by simp[hkk]
    simp -implicitDefEqProofs only[go_sem,q3,q4,q5,ho]
def kL (a:Nat×Nat):Nat:=if has0 a=true then 0 else (qx false (a.1 % 2^63) (a.2 % 2^63)).getD 0
theorem zff (E:Nat->Option Value){a:Nat×Nat}(g:Gd a):DQz E 146 [ivD a] (.data (flD (kL a))):=by
 have n1:=(x3 g).fin.num;have n2:=(vv g).fin.num;have hh:=yp E (b:=a) n1 n2 num0.1;rw[num0.2] at hh;have hh:DQz E 89 [ivD a,flD 0] (.data (bD (has0 a))):=hh;obtain⟨z,hz,_⟩:=jh false (xw.2 n1) (xw.2 n2);unfold kL;rw[hz,Option.getD_some];refine dcA Tryz.func146 Tryz.ntmps146 (rs:=[.tmp 2]) fun _ _ _ _ _=>?_
 simp -implicitDefEqProofs only[go_sem];refine cI hh ?_;cases hb:has0 a
 ·simp -implicitDefEqProofs only[go_sem];refine drw ?_;simp -implicitDefEqProofs only[go_sem];refine cI (yL _ g.l1) ?_;simp -implicitDefEqProofs only[go_sem];refine cI (yL _ g.l2) ?_;simp -implicitDefEqProofs only[go_sem,hz,finK]
 ·simp -implicitDefEqProofs only[go_sem,finK]
def qm (b:Nat):Bool:=decide (b % 2^63=0)||(decide (4472074429978902528<=b % 2^63)&&decide (b % 2^63<=4742290407621132288))
def vL (a:Nat×Nat):Bool:=qm a.1&&qm a.2
theorem zio (E:Nat->Option Value){a:Nat×Nat}(g:Gd a):DQz E 134 [ivD a] (.data (bD (vL a))):=by
 have two_ok:∀j,OkB (two a.1 a.2 j):=QO g;refine dcA Tryz.func134 Tryz.ntmps134 (rs:=[.tmp 2]) fun _ _ _ _ _=>?_
 simp -implicitDefEqProofs only[go_sem];rw[wu];refine wm (α:={j:Nat // j<=2/\∀i,i<j->qm (two a.1 a.2 i)=true}) (fun j=>St.of [(10,.d (.agg [flD a.1,flD a.2])),(11,.d (intD j.1))] []) (fun j=>2-j.1) ⟨0,by omega,fun i hi=>by omega⟩ (we ?_ ?_ rfl) (by kernel_rfl) (fun j=>?_)
 ·simp -implicitDefEqProofs only[go_sem]
 ·simp -implicitDefEqProofs only[go_sem]
 ·obtain⟨j,hj,hf⟩:=j;by_cases hA:j<2
  ·have eA:decide ((j:Int)<2)=true:=tD (by omega);have ex:([flD a.1,flD a.2]:List D)[j]?=some (flD (two a.1 a.2 j)):=by
    have:j=0\/j=1:=by omega
    rcases this with rfl|rfl<;>rfl
   have eJ:(j:Int)<((2:Nat):Int):=by omega
   have w1:=wL (c:=j) (by omega);have ob:=two_ok j;obtain⟨b,hb⟩:∃b,two a.1 a.2 j=b:=⟨_,rfl⟩;rw[hb] at ex ob;have nb:=xw.2 ob.fin.num;have c1:(FloatKind.f64.format.order (b % 2^63) 0 != some Ordering.eq) = !decide (b % 2^63=0):=by
    rw[VR nb num0.1,xC,num0.2];congr 2;rw[eq_iff_iff];omega
   have c2:(FloatKind.f64.format.order (b % 2^63) 4472074429978902528==some Ordering.lt)=decide (b % 2^63<4472074429978902528):=by
    rw[Qu nb (show Num 4472074429978902528 by decide),xC,show idx 4472074429978902528=((4472074429978902528:Nat):Int) by decide];congr 1;rw[eq_iff_iff];omega
   have c3:(FloatKind.f64.format.order (b % 2^63) 4742290407621132288==some Ordering.gt)=decide (4742290407621132288<b % 2^63):=by
    rw[xQ nb (show Num 4742290407621132288 by decide),xC,show idx 4742290407621132288=((4742290407621132288:Nat):Int) by decide];congr 1;rw[eq_iff_iff];omega
   simp -implicitDefEqProofs only[go_sem,eA,eJ,ex];refine cI (yL _ ob.1) ?_;have good:qm b=true->∃k':{j:Nat // j<=2/\∀i,i<j->qm (two a.1 a.2 i)=true},k'.1=j+1:=fun h=>⟨⟨j+1,by omega,fun i hi=>by
    rcases Nat.lt_or_ge i j with h1|h1
    ·exact hf i h1
    ·have:i=j:=by omega
     rw[this,hb];exact h⟩,rfl⟩
   have bad:qm b=false->vL a=false:=fun h=>by
    rw[<-hb] at h;unfold vL;have:j=0\/j=1:=by omega
    rcases this with rfl|rfl
    ·have h:qm a.1=false:=h;rw[h];rfl
    ·have h:qm a.2=false:=h;rw[h,Bool.and_false]
   by_cases h1:b % 2^63=0
   ·have e1:=tV c1;rw[decide_eq_true h1] at e1;obtain⟨k',hk'⟩:=good (by unfold qm;rw[decide_eq_true h1];rfl);simp -implicitDefEqProofs only[go_sem,e1,w1];refine⟨k',we ?_ ?_ rfl,by simp only[hk'];omega⟩<;>simp -implicitDefEqProofs only[go_sem,hk']
   ·have e1:=tV c1;rw[decide_eq_false h1] at e1;by_cases h2:b % 2^63<4472074429978902528
    ·have e2:=tV c2;rw[decide_eq_true h2] at e2;have hb0:=bad (by unfold qm;rw[decide_eq_false h1,decide_eq_false (by omega)];rfl);simp -implicitDefEqProofs only[go_sem,e1,e2,hb0,finK]
    ·have e2:=tV c2;rw[decide_eq_false h2] at e2;by_cases h3:4742290407621132288<b % 2^63
     ·have e3:=tV c3;rw[decide_eq_true h3] at e3;have hb0:=bad (by unfold qm;rw[decide_eq_false h1,decide_eq_false (show ¬b % 2^63<=4742290407621132288 by omega),Bool.and_false];rfl);simp -implicitDefEqProofs only[go_sem,e1,e2,e3,hb0,finK]
     ·have e3:=tV c3;rw[decide_eq_false h3] at e3;obtain⟨k',hk'⟩:=good (by unfold qm;rw[decide_eq_true (show 4472074429978902528<=b % 2^63 by omega),decide_eq_true (show b % 2^63<=4742290407621132288 by omega)];simp);simp -implicitDefEqProofs only[go_sem,e1,e2,e3,w1];refine⟨k',we ?_ ?_ rfl,by simp only[hk'];omega⟩<;>simp -implicitDefEqProofs only[go_sem,hk']
  ·have eA:decide ((j:Int)<2)=false:=fD (by omega);have hj2:j=2:=by omega
   subst hj2;have hr:vL a=true:=by
    unfold vL;have h0:qm a.1=true:=hf 0 (by omega);have h1:qm a.2=true:=hf 1 (by omega);rw[h0,h1];rfl
   simp -implicitDefEqProofs only[go_sem,eA,hr,finK]
end Go.Enc
end
