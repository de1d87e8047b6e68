/-
  Floats as exact numbers: to the nearest; what is lost of a sum, a product, a quotient, a root; rounding in a direction.
-/
import Ieee.Arith
set_option maxRecDepth 100000
set_option linter.unusedSimpArgs false
set_option linter.unusedVariables false
namespace Go.Enc.Fl
open Ieee
/-! Floats as numbers: the rungs' numbers in units of 2^-1074;to the nearest. -/
def V (r:Nat):Nat:=if r<2^52 then r else (2^52+r % 2^52)*2^(r/2^52-1)
theorem V_of (q k:Nat)(h:k<=2^53)(hq:q=0\/2^52<=k):V (q*2^52+k)=k*2^q:=by
 unfold V;rcases Nat.lt_or_ge k (2^52) with h1|h1
 ·have:q=0:=by omega
  subst this;rw[if_pos (by omega)];omega
 ·rw[if_neg (by omega)];rcases Nat.lt_or_ge k (2^53) with h2|h2
  ·have e1:(q*2^52+k)/2^52=q+1:=by omega
   have e2:(q*2^52+k) % 2^52=k-2^52:=by omega
   rw[e1,e2,Nat.add_sub_cancel,Nat.add_sub_cancel' h1]
  ·have:k=2^53:=by omega
   subst this;have e1:(q*2^52+2^53)/2^52=q+2:=by omega
   have e2:(q*2^52+2^53) % 2^52=0:=by omega
   rw[e1,e2,show q+2-1=q+1 from rfl,Nat.pow_succ 2 q];omega
theorem zC (r:Nat):∃q k,r=q*2^52+k/\k<2^53/\(q=0\/2^52<=k)/\V r=k*2^q/\V (r+1)=(k+1)*2^q:=by
 refine⟨r/2^52-1,r-(r/2^52-1)*2^52,by omega,by omega,by omega,?_,?_⟩
 ·have:=V_of (r/2^52-1) (r-(r/2^52-1)*2^52) (by omega) (by omega)
  rwa [show(r/2^52-1)*2^52+(r-(r/2^52-1)*2^52)=r by omega] at this
 ·have:=V_of (r/2^52-1) (r-(r/2^52-1)*2^52+1) (by omega) (by omega)
  rwa [show(r/2^52-1)*2^52+(r-(r/2^52-1)*2^52+1)=r+1 by omega] at this
theorem Zz (r:Nat):V r<V (r+1):=by
 obtain⟨q,k,_,_,_,h1,h2⟩:=zC r;rw[h1,h2];exact Nat.mul_lt_mul_of_pos_right (by omega) (Nat.two_pow_pos q)
theorem zeH {r s:Nat}(h:r<s):V r<V s:=by
 induction s with
 |zero=>omega
 |succ s ih=>
  rcases Nat.lt_or_ge r s with h1|h1
  ·exact Nat.lt_trans (ih h1) (Zz s)
  ·have:r=s:=by omega
   subst this;exact Zz r
theorem zeG:V 0=0:=rfl
def S (i:Int):Int:=if i<0 then -(V i.natAbs:Int) else V i.natAbs
theorem Xg (i:Int):S (-i) = -S i:=by
 unfold S;rw[Int.natAbs_neg];split<;>split<;>try omega
 rw[show i=0 by omega];rfl
theorem vT (r:Nat):S r=V r:=by simp[S];omega
theorem zjM:S 0=0:=rfl
theorem zeI (i:Int):S i<S (i+1):=by
 rcases Decidable.em (i<0) with h|h
 ·obtain⟨n,rfl⟩:∃n:Nat,i = -(n+1:Nat):=⟨(-i).toNat-1,by omega⟩;rw[show(-(n+1:Nat):Int)+1 = -(n:Nat) by omega,Xg,Xg,vT,vT];have:=Zz n;omega
 ·obtain⟨n,rfl⟩:∃n:Nat,i=(n:Nat):=⟨i.toNat,by omega⟩;rw[show(n:Int)+1=(n+1:Nat) by omega,vT,vT];have:=Zz n;omega
theorem zeJ {i j:Int}(h:i<j):S i<S j:=by
 obtain⟨n,rfl⟩:∃n:Nat,j=i+(n+1:Nat):=⟨(j-i).toNat-1,by omega⟩;clear h
 induction n with
 |zero=>exact zeI i
 |succ n ih=>
  have:=zeI (i+(n+1:Nat));rw[show i+((n+1+1:Nat):Int)=i+(n+1:Nat)+1 by omega];omega
theorem S_le {i j:Int}(h:i<=j):S i<=S j:=by
 rcases Int.lt_or_eq_of_le h with h|h
 ·exact Int.le_of_lt (zeJ h)
 ·rw[h];exact Int.le_refl _
theorem zeK {i j:Int}:S i<S j↔i<j:=⟨fun h=>by
 rcases Decidable.em (i<j) with h1|h1
 ·exact h1
 ·have:=S_le (i:=j) (j:=i) (by omega);omega,zeJ⟩
def u:Rat:=2^(-1074:Int)
theorem WV:0<u:=Rat.zpow_pos (by decide)
def v (i:Int):Rat:=(S i:Rat)*u
theorem wQ (i:Int):v (-i) = -v i:=by unfold v;rw[Xg,Rat.intCast_neg];grind
theorem wC:v 0=0:=by unfold v;rw[zjM];grind
theorem jf {i j:Int}:v i<v j↔i<j:=by
 unfold v;rw[Rat.mul_lt_mul_right WV,Rat.intCast_lt_intCast,zeK]
theorem kl {i j:Int}:v i<=v j↔i<=j:=by
 rw[<-Rat.not_lt,jf];omega
theorem v_lt {i j:Int}(h:i<j):v i<v j:=jf.2 h
theorem v_le {i j:Int}(h:i<=j):v i<=v j:=kl.2 h
theorem Wh {i j:Int}(h:v i=v j):i=j:=by
 have h1:=@kl i j;have h2:=@kl j i;have:v i<=v j:=by rw[h];exact Rat.le_refl
 have:v j<=v i:=by rw[h];exact Rat.le_refl
 have:=h1.1 ‹_›;have:=h2.1 ‹_›;omega
/-! To the nearest,ties to even: what is written is the rung nearest to the number. -/
def idx (b:Nat):Int:=if b/2^63 % 2=1 then -(b % 2^63:Nat) else (b % 2^63:Nat)
def sgn (b:Nat):Bool:=b/2^63 % 2==1
def inf:Nat:=2047*2^52
def IsR (x:Rat)(i:Int):Prop:=v (i-1)+v i<=2*x/\2*x<=v i+v (i+1)/\(v (i-1)+v i=2*x\/2*x=v i+v (i+1)->i % 2=0)
theorem zdm (neg:Bool)(n d:Nat):let k:=Toward.even.cut neg n d
  2*k*2^d<=2*n+2^d/\2*n<=(2*k+1)*2^d/\(2*k*2^d=2*n+2^d\/2*n=(2*k+1)*2^d->k % 2=0):=by
 have key:∀gap:Nat,0<gap->∀k,k=n/gap+((decide (gap<2*(n % gap))||(gap==2*(n % gap)&&(n/gap % 2==1))).toNat) ->
   2*k*gap<=2*n+gap/\2*n<=(2*k+1)*gap/\(2*k*gap=2*n+gap\/2*n=(2*k+1)*gap->k % 2=0):=by
  intro gap hg k hk;have hn:=Nat.div_add_mod n gap;have hm:=Nat.mod_lt n hg;generalize n/gap=l at *;generalize n % gap=r at *;subst hn;have e1:∀z,2*z*gap=2*(gap*z):=fun z=>by rw[Nat.mul_assoc,Nat.mul_comm z]
  have e2:∀z,(2*z+1)*gap=2*(gap*z)+gap:=fun z=>by rw[Nat.add_mul,Nat.one_mul,e1]
  rw[e1,e2];by_cases h1:gap<2*r
  ·have:k=l+1:=by rw[hk];simp[h1]
   subst this;rw[Nat.mul_add,Nat.mul_one];refine⟨by omega,by omega,fun h=>?_⟩;omega
  ·by_cases h2:gap=2*r
   ·by_cases h3:l % 2=1
    ·have:k=l+1:=by rw[hk,<-h2];simp[h3]
     subst this;rw[Nat.mul_add,Nat.mul_one];exact⟨by omega,by omega,fun h=>by omega⟩
    ·have:k=l:=by rw[hk,<-h2];simp[h3]
     subst this;exact⟨by omega,by omega,fun h=>by omega⟩
   ·have:k=l:=by rw[hk];simp[h1,h2]
    subst this;exact⟨by omega,by omega,fun h=>by omega⟩
 intro k;have hk:k=Toward.even.cut neg n d:=rfl;unfold Toward.cut at hk;simp only[Nat.one_shiftLeft] at hk;rcases Nat.le_total d (n.log2+2) with h|h
 ·rw[Nat.min_eq_left h] at hk;exact key (2^d) (Nat.two_pow_pos d) k hk
 ·rw[Nat.min_eq_right h] at hk;have hlt:n<2^(n.log2+1):=Nat.lt_log2_self;have hp:2^(n.log2+2)=2*2^(n.log2+1):=by rw[Nat.pow_succ];omega
  have hd:n/2^(n.log2+2)=0:=Nat.div_eq_of_lt (by omega);have hr:n % 2^(n.log2+2)=n:=Nat.mod_eq_of_lt (by omega);have h2:¬2^(n.log2+2)<2*n:=by omega
  have h3:¬2^(n.log2+2)=2*n:=by omega
  rw[hd,hr] at hk;have hk0:k=0:=by rw[hk];simp[h2]
  rw[hk0];have hpd:2^(n.log2+2)<=2^d:=Nat.pow_le_pow_right (by decide) h;refine⟨by omega,by omega,fun _=>rfl⟩
theorem Vq (n:Nat):((2^n:Nat):Rat)=(2:Rat)^n:=Rat.natCast_pow 2 n
theorem wB (n:Int):(0:Rat)<(2:Rat)^n:=Rat.zpow_pos (by decide)
theorem wA (m n:Int):(2:Rat)^(m+n)=2^m*2^n:=Rat.zpow_add (by decide) m n
theorem wX (n:Nat):(2:Rat)^(n:Int)=((2^n:Nat):Rat):=by rw[Rat.zpow_natCast,Vq]
theorem zhc (n k P D B:Nat)(hB:(k+1)*P<=B)(h2:2*n<=(2*k+1)*D)(hP:0<P):2*(n*P)<=(k*P+B)*D/\(2*(n*P)=(k*P+B)*D->2*n=(2*k+1)*D):=by
 have e1:2*n*P<=(2*k+1)*D*P:=Nat.mul_le_mul_right _ h2;have e2:(k*P+(k+1)*P)*D<=(k*P+B)*D:=Nat.mul_le_mul_right _ (by omega);have e3:(k*P+(k+1)*P)*D=(2*k+1)*D*P:=by grind
 have e4:2*(n*P)=2*n*P:=by grind
 refine⟨by omega,fun h=>?_⟩;have:2*n*P=(2*k+1)*D*P:=by omega
 exact Nat.mul_right_cancel hP this
theorem zib (n k P D:Nat)(hk:0<k)(h1:2*k*D<=2*n+D)(hP:0<P):((k-1)*P+k*P)*D<=2*(n*P)/\(((k-1)*P+k*P)*D=2*(n*P)->2*k*D=2*n+D):=by
 obtain⟨j,rfl⟩:∃j,k=j+1:=⟨k-1,by omega⟩;simp only[Nat.add_sub_cancel];have e1:(2*(j+1)*D)*P<=(2*n+D)*P:=Nat.mul_le_mul_right _ h1;have e3:(j*P+(j+1)*P)*D+D*P=(2*(j+1)*D)*P:=by grind
 have e4:(2*n+D)*P=2*(n*P)+D*P:=by grind
 refine⟨by omega,fun h=>?_⟩;exact Nat.mul_right_cancel hP (by omega:(2*(j+1)*D)*P=(2*n+D)*P)
theorem zfd (n k P D B:Nat)(hB:B<k*P)(h1:k*D<=n)(hD:0<D):(B+k*P)*D<2*(n*P):=by
 have e1:(B+k*P)*D<(2*(k*P))*D:=Nat.mul_lt_mul_of_pos_right (by omega) hD;have e2:k*D*P<=n*P:=Nat.mul_le_mul_right _ h1;have e3:(2*(k*P))*D=2*(k*D*P):=by grind
 omega
theorem jj {a b c:Rat}(h:0<c):a*c<=b*c↔a<=b:=by
 rw[<-Rat.not_lt,<-Rat.not_lt,Rat.mul_lt_mul_right h]
theorem Ve {x:Rat}{d N:Nat}(h:x*((2^d:Nat):Rat)=(N:Rat)*u)(i j:Int):2*x<=v i+v j↔2*(N:Int)<=(S i+S j)*(2^d:Nat):=by
 have hd:(0:Rat)<((2^d:Nat):Rat):=by exact_mod_cast Nat.two_pow_pos d
 rw[<-jj hd,<-Rat.intCast_le_intCast];have e1:2*x*((2^d:Nat):Rat)=((2*(N:Int):Int):Rat)*u:=by push_cast;grind
 have e2:(v i+v j)*((2^d:Nat):Rat)=(((S i+S j)*(2^d:Nat):Int):Rat)*u:=by unfold v;push_cast;grind
 rw[e1,e2,jj WV]
theorem Vf {x:Rat}{d N:Nat}(h:x*((2^d:Nat):Rat)=(N:Rat)*u)(i j:Int):v i+v j<=2*x↔(S i+S j)*(2^d:Nat)<=2*(N:Int):=by
 have hd:(0:Rat)<((2^d:Nat):Rat):=by exact_mod_cast Nat.two_pow_pos d
 rw[<-jj hd,<-Rat.intCast_le_intCast];have e1:2*x*((2^d:Nat):Rat)=((2*(N:Int):Int):Rat)*u:=by push_cast;grind
 have e2:(v i+v j)*((2^d:Nat):Rat)=(((S i+S j)*(2^d:Nat):Int):Rat)*u:=by unfold v;push_cast;grind
 rw[e1,e2,jj WV]
theorem S_m1:S (((0:Nat):Int)-1) = -1:=by
 rw[show(((0:Nat):Int)-1) = -((1:Nat):Int) by omega,Xg,vT];have:=V_of 0 1 (by omega) (.inl rfl);simp only[Nat.zero_mul,Nat.zero_add,Nat.pow_zero,Nat.mul_one] at this;rw[this];rfl
theorem zcq {x:Rat}{n d q k R:Nat}(hR:R=q*2^52+k)(hx:x*((2^d:Nat):Rat)=((n*2^q:Nat):Rat)*u)(hk:k<=2^53)(hq:q=0\/2^52*2^d<=n)
  (h1:2*k*2^d<=2*n+2^d) (h2:2*n<=(2*k+1)*2^d) (h3:2*k*2^d=2*n+2^d\/2*n=(2*k+1)*2^d->k % 2=0):IsR x (R:Int):=by
 have hp:=Nat.two_pow_pos d;have hpq:=Nat.two_pow_pos q;have hk52:q=0\/2^52<=k:=by
  rcases hq with h|h
  ·exact .inl h
  ·right;rcases Nat.lt_or_ge k (2^52) with h4|h4
   ·exfalso;have:(2*k+1)*2^d<2*(2^52*2^d):=by rw[<-Nat.mul_assoc];exact Nat.mul_lt_mul_of_pos_right (by omega) hp
    omega
   ·exact h4
 have hV:=V_of q k hk hk52;rw[<-hR] at hV;have hS:S ((R:Nat):Int)=(k*2^q:Nat):=by rw[vT,hV]
 have hV1:(k+1)*2^q<=V (R+1):=by
  rcases Nat.lt_or_ge k (2^53) with h4|h4
  ·have:=V_of q (k+1) (by omega) (by omega);rw[<-Nat.add_assoc,<-hR] at this;omega
  ·have hk53:k=2^53:=by omega
   have:=V_of (q+1) (2^52+1) (by omega) (.inr (by omega));rw[show(q+1)*2^52+(2^52+1)=R+1 by omega] at this;rw[this,hk53,Nat.pow_succ 2 q];omega
 have up:2*((n*2^q:Nat):Int)<=(S ((R:Nat):Int)+S ((R:Nat)+1:Int))*(2^d:Nat) /\
   (2*((n*2^q:Nat):Int)=(S ((R:Nat):Int)+S ((R:Nat)+1:Int))*(2^d:Nat)->2*n=(2*k+1)*2^d):=by
  have:=zhc n k (2^q) (2^d) _ hV1 h2 hpq;rw[show((R:Nat)+1:Int)=((R+1:Nat):Int) by omega,vT (R+1),hS]
  exact_mod_cast this
 have lo:(S ((R:Nat)-1:Int)+S ((R:Nat):Int))*(2^d:Nat)<=2*((n*2^q:Nat):Int) /\
   ((S ((R:Nat)-1:Int)+S ((R:Nat):Int))*(2^d:Nat)=2*((n*2^q:Nat):Int)->2*k*2^d=2*n+2^d\/k=0):=by
  rcases Nat.eq_zero_or_pos k with hk0|hk0
  ·have hq0:q=0:=by omega
   have e0:(R:Nat)=0:=by omega
   have:S (((R:Nat):Int)-1) = -1:=by rw[e0];exact S_m1
   rw[this,hS];refine⟨?_,fun _=>.inr hk0⟩;have:(0:Int)<=((2^d:Nat):Int):=Int.natCast_nonneg _;have e1:((k*2^q:Nat):Int)=0:=by rw[hk0];simp
   rw[e1];have e2:(0:Int)<=((n*2^q:Nat):Int):=Int.natCast_nonneg _;generalize ((2^d:Nat):Int)=D at *;omega
  ·have ei:((R:Nat)-1:Int)=((R-1:Nat):Int):=by omega
   rw[ei,vT,hS];by_cases hc:q=0\/2^52<k
   ·have hv:=V_of q (k-1) (by omega) (by omega);rw[show q*2^52+(k-1)=R-1 by omega] at hv;rw[hv];have:=zib n k (2^q) (2^d) hk0 h1 hpq;exact⟨by exact_mod_cast this.1,fun h=>.inl (this.2 (by exact_mod_cast h))⟩
   ·have hk2:k=2^52:=by omega
    have hn:k*2^d<=n:=by
     rw[hk2];rcases hq with h|h
     ·exact absurd (.inl h) hc
     ·exact h
    have hlt:V (R-1)<k*2^q:=by
     have:=zeH (r:=R-1) (s:=R) (by omega)
     rwa [hV] at this
    have e3:=zfd n k (2^q) (2^d) _ hlt hn hp;have e4:((V (R-1):Int)+((k*2^q:Nat):Int))*((2^d:Nat):Int)<2*((n*2^q:Nat):Int):=by exact_mod_cast e3
    exact⟨Int.le_of_lt e4,fun h=>absurd h (Int.ne_of_lt e4)⟩
 refine⟨(Vf hx _ _).2 lo.1,(Ve hx _ _).2 up.1,fun h=>?_⟩;have hpar:((R:Nat):Int) % 2=0↔k % 2=0:=by omega
 rw[hpar];rcases h with h|h
 ·have a1:(S ((R:Nat)-1:Int)+S ((R:Nat):Int))*(2^d:Nat)=2*((n*2^q:Nat):Int):=
   Int.le_antisymm lo.1 ((Ve hx _ _).1 (by rw[h];exact Rat.le_refl))
  rcases lo.2 a1 with a2|a2
  ·exact h3 (.inl a2)
  ·rw[a2]
 ·have a1:=Int.le_antisymm up.1 ((Vf hx _ _).1 (by rw[h];exact Rat.le_refl));exact h3 (.inr (up.2 a1))
theorem zcp:IsR 0 ((0:Nat):Int):=by
 refine⟨?_,?_,fun _=>by omega⟩
 ·have:=v_lt (i:=((0:Nat):Int)-1) (j:=((0:Nat):Int)) (by omega);have e:v ((0:Nat):Int)=0:=wC;rw[e] at this ⊢;grind
 ·have:=v_lt (i:=((0:Nat):Int)) (j:=((0:Nat):Int)+1) (by omega);have e:v ((0:Nat):Int)=0:=wC;rw[e] at this ⊢;grind
theorem zhr (mag a d q:Nat)(place z:Int)(h:place+d=a+q+z):(mag:Rat)*2^place*((2^d:Nat):Rat)=((mag*2^a*2^q:Nat):Rat)*2^z:=by
 rw[Rat.natCast_mul,Rat.natCast_mul,<-wX,<-wX,<-wX,Rat.mul_assoc,Rat.mul_assoc,Rat.mul_assoc,<-wA,<-wA,<-wA,h];congr 2;omega
theorem scale (mag:Nat){a d q:Nat}{place:Int}(h:place+d=a+q+(-1074)):(mag:Rat)*2^place*((2^d:Nat):Rat)=((mag*2^a*2^q:Nat):Rat)*u:=zhr mag a d q place (-1074) h
theorem zb (neg:Bool)(mag:Nat)(place:Int):∃r:Nat,double.nearest neg mag place=double.word neg (min r inf)/\IsR ((mag:Rat)*2^place) r:=by
 unfold Format.nearest;by_cases h0:mag=0
 ·subst h0;refine⟨0,by simp,?_⟩;rw[show((0:Nat):Rat)*2^place=0 by simp];exact zcp
 ·rw[if_neg h0];have hl:double.leastPlace = -1074:=by decide
  have hb:double.binade=2^52:=by decide
  have hf:(double.fractionBits:Int)=52:=by decide
  have hi:double.infRung=inf:=by decide
  simp only[hl,hb,hf,hi];have hlog1:2^mag.log2<=mag:=Nat.log2_self_le h0;have hlog2:mag<2^(mag.log2+1):=Nat.lt_log2_self;generalize hL:mag.log2=L at *;generalize hlast:max (place+(L:Int)-52) (-1074)=last
  let q:=(last+1074).toNat
  let a:=(place-last).toNat
  let d:=(last-place).toNat
  have hmax:last=place+(L:Int)-52\/(last = -1074/\place+(L:Int)-52<=-1074):=by
   rcases Int.le_total (place+(L:Int)-52) (-1074) with h|h
   ·rw[Int.max_eq_right h] at hlast;exact .inr ⟨hlast.symm,h⟩
   ·rw[Int.max_eq_left h] at hlast;exact .inl hlast.symm
  have hge : -1074<=last:=by omega
  obtain⟨c1,c2,c3⟩:=zdm neg (mag <<< a) d;have hn:mag <<< a=mag*2^a:=Nat.shiftLeft_eq _ _;rw[hn] at c1 c2 c3;generalize hk:Toward.even.cut neg (mag*2^a) d=k at *;refine⟨q*2^52+k,?_,?_⟩
  ·show double.word neg (min ((last+1074).toNat*2^52+Toward.even.cut neg (mag <<< a) d) inf)=_
   rw[hn,hk]
  ·have hx:(mag:Rat)*2^place*((2^d:Nat):Rat)=((mag*2^a*2^q:Nat):Rat)*u:=by
    exact scale _ (by omega)
   have hd53:mag*2^a<2^53*2^d:=by
    rw[<-Nat.pow_add];refine Nat.lt_of_lt_of_le (Nat.mul_lt_mul_of_pos_right hlog2 (Nat.two_pow_pos a)) ?_;rw[<-Nat.pow_add];exact Nat.pow_le_pow_right (by decide) (by omega)
   refine zcq rfl hx ?_ ?_ c1 c2 c3
   ·rcases Nat.lt_or_ge (2^53) k with h|h
    ·exfalso;have:2*(2^53+1)*2^d<=2*k*2^d:=Nat.mul_le_mul_right _ (by omega);have e:2*(2^53+1)*2^d=2*(2^53*2^d)+2*2^d:=by rw[Nat.mul_assoc,Nat.add_mul,Nat.one_mul,Nat.mul_add]
     omega
    ·exact h
   ·rcases hmax with h|h
    ·right;rw[<-Nat.pow_add];refine Nat.le_trans ?_ (Nat.mul_le_mul_right _ hlog1);rw[<-Nat.pow_add];exact Nat.pow_le_pow_right (by decide) (by omega)
    ·left;omega
/-! The operations on floats that are finite: the nearest rung of the exact result. -/
theorem IsR.neg {x:Rat}{i:Int}(h:IsR x i):IsR (-x) (-i):=by
 obtain⟨h1,h2,h3⟩:=h;have e1:v (-i-1) = -v (i+1):=by rw[<-wQ];congr 1;omega
 have e2:v (-i+1) = -v (i-1):=by rw[<-wQ];congr 1;omega
 unfold IsR;rw[e1,e2,wQ];refine⟨by grind,by grind,fun h=>?_⟩;have:i % 2=0:=h3 (by grind);omega
theorem IsR.ge {x:Rat}{i j:Int}(h:IsR x i)(hj:v j<=x):j<=i:=by
 rcases Decidable.em (j<=i) with h1|h1
 ·exact h1
 ·exfalso;have h2:=h.2.1;have:=v_lt (i:=i) (j:=i+1) (by omega);have:=v_le (i:=i+1) (j:=j) (by omega);grind
theorem IsR.le {x:Rat}{i j:Int}(h:IsR x i)(hj:x<=v j):i<=j:=by
 rcases Decidable.em (i<=j) with h1|h1
 ·exact h1
 ·exfalso;have h2:=h.1;have:=v_lt (i:=i-1) (j:=i) (by omega);have:=v_le (i:=j) (j:=i-1) (by omega);grind
theorem IsR.self (i:Int):IsR (v i) i:=by
 have h1:=v_lt (i:=i-1) (j:=i) (by omega);have h2:=v_lt (i:=i) (j:=i+1) (by omega);exact⟨by grind,by grind,fun h=>by grind⟩
theorem IsR.exact {i j:Int}(h:IsR (v i) j):j=i:=by
 have h1:=h.ge (j:=i) Rat.le_refl;have h2:=h.le (j:=i) Rat.le_refl;omega
theorem IsR.uniq {x:Rat}{i j:Int}(h:IsR x i)(k:IsR x j):i=j:=by
 have key:∀ {i j:Int},IsR x i->IsR x j->¬i<j:=by
  intro i j h k hij;obtain⟨h1,h2,h3⟩:=h;obtain⟨k1,k2,k3⟩:=k;have a1:=v_le (i:=i+1) (j:=j) (by omega);have a2:=v_le (i:=i) (j:=j-1) (by omega);have e1:v (i+1)=v j:=by grind
  have e2:v i=v (j-1):=by grind
  have:=Wh e1;have:=h3 (by grind);have:=k3 (by grind);omega
 have:=key h k;have:=key k h;omega
theorem IsR.near {x:Rat}{i:Int}(h:IsR x i)(j:Int):(x<=v i->v i-x<=v j-x\/v i-x<=x-v j)/\(v i<=x->x-v i<=x-v j\/x-v i<=v j-x):=by
 obtain⟨h1,h2,_⟩:=h;refine⟨fun hx=>?_,fun hx=>?_⟩
 ·rcases Decidable.em (i<=j) with hj|hj
  ·left;have:=v_le hj;grind
  ·right;have:=v_le (i:=j) (j:=i-1) (by omega);grind
 ·rcases Decidable.em (j<=i) with hj|hj
  ·left;have:=v_le hj;grind
  ·right;have:=v_le (i:=i+1) (j:=j) (by omega);grind
theorem sw:double.signWeight=2^63:=rfl
theorem lp:double.leastPlace = -1074:=by decide
def Fin (b:Nat):Prop:=b % 2^63<inf
instance (b:Nat):Decidable (Fin b):=by unfold Fin;infer_instance
theorem Qr (b:Nat):double.read b=if b % 2^63<2^52 then .number (sgn b) (b % 2^63) (-1074) else if b % 2^63<inf then .number (sgn b) (2^52+b % 2^63 % 2^52) (-1074+((b % 2^63/2^52-1:Nat):Int)) else if b % 2^63=inf then .infinity (sgn b) else .nan (sgn b) (b % 2^63-inf):=by
 rfl
theorem zbu {b:Nat}(h:Fin b):∃m q:Nat,double.read b = .number (sgn b) m (-1074+q)/\V (b % 2^63)=m*2^q/\m<2^53:=by
 unfold Fin at h;rw[Qr];generalize b % 2^63=r at *;split
 ·rename_i h1;exact⟨r,0,by simp,by unfold V;rw[if_pos h1];omega,by omega⟩
 ·rename_i h1;exact⟨2^52+r % 2^52,r/2^52-1,rfl,by unfold V;rw[if_neg h1],by omega⟩
theorem zbt {b:Nat}(h:b % 2^63=inf):double.read b = .infinity (sgn b):=by
 rw[Qr,h,if_neg (by unfold inf;omega),if_neg (by omega),if_pos rfl]
theorem Qp {b:Nat}(h:inf<b % 2^63):∃t,double.read b = .nan (sgn b) t:=by
 rw[Qr,if_neg (by unfold inf at h;omega),if_neg (by omega),if_neg (by omega)];exact⟨_,rfl⟩
def dv (s:Bool)(m:Nat)(e:Int):Rat:=(if s then -(m:Rat) else m)*2^e
theorem zir (s:Bool)(m:Nat)(e:Int):dv (!s) m e = -dv s m e:=by cases s<;>simp[dv]<;>grind
theorem jB (b:Nat):idx b=if sgn b then -((b % 2^63:Nat):Int) else ((b % 2^63:Nat):Int):=by
 unfold idx sgn;by_cases h:b/2^63 % 2=1<;>simp[h]
theorem vc (r:Nat):v (r:Int)=(V r:Rat)*u:=by unfold v;rw[vT];rfl
theorem zkA (b:Nat):v (idx b)=(if sgn b then -((V (b % 2^63):Nat):Rat) else ((V (b % 2^63):Nat):Rat))*u:=by
 rw[jB];cases sgn b
 ·simp only[Bool.false_eq_true,if_false];rw[vc]
 ·simp only[if_true];rw[wQ,vc];grind
theorem jo (m q:Nat)(z:Int):((m*2^q:Nat):Rat)*2^z=(m:Rat)*2^(z+q):=by
 rw[Rat.natCast_mul,<-wX,Rat.mul_assoc,<-wA,Int.add_comm]
theorem jx {b:Nat}(h:Fin b):∃m e,double.read b = .number (sgn b) m e/\dv (sgn b) m e=v (idx b)/\-1074<=e/\(m=0↔idx b=0)/\m<2^53:=by
 obtain⟨m,q,h1,h2,h3⟩:=zbu h;refine⟨m,_,h1,?_,by omega,?_,h3⟩
 ·rw[zkA,h2];have:=jo m q (-1074);unfold dv;cases sgn b
  ·simp only[Bool.false_eq_true,if_false];exact this.symm
  ·simp only[if_true];have e:∀y:Rat,-(m:Rat)*y = -((m:Rat)*y):=fun y=>by grind
   have e2:∀x y:Rat,-x*y = -(x*y):=fun x y=>by grind
   rw[e,e2];congr 1;exact this.symm
 ·have e:m=0↔b % 2^63=0:=by
   constructor
   ·intro hm;rcases Nat.eq_zero_or_pos (b % 2^63) with h0|h0
    ·exact h0
    ·have:=zeH h0;rw[h2,hm,zeG] at this;omega
   ·intro hb;rw[hb,zeG] at h2;rcases Nat.eq_zero_or_pos m with h0|h0
    ·exact h0
    ·have:=Nat.mul_pos h0 (Nat.two_pow_pos q);omega
  rw[e,jB];split<;>omega
def clamp (i:Int):Int:=max (-(inf:Int)) (min i inf)
theorem Jo {i:Int}(h1 : -(inf:Int)<=i)(h2:i<=inf):clamp i=i:=by unfold clamp;omega
theorem zT (s:Bool)(r:Nat)(h:r<2^63):idx (double.word s r)=(if s then -(r:Int) else r)/\sgn (double.word s r)=s/\double.word s r % 2^63=r/\double.word s r<2^64:=by
 unfold Format.word;rw[sw];cases s
 ·simp only[Bool.false_eq_true,if_false];have e1:r % 2^63=r:=Nat.mod_eq_of_lt h;have e2:r/2^63=0:=Nat.div_eq_of_lt h;unfold idx sgn;rw[e1,e2];exact⟨by simp,by simp,rfl,by omega⟩
 ·simp only[if_true];have e1:(2^63+r) % 2^63=r:=by omega
  have e2:(2^63+r)/2^63=1:=by omega
  unfold idx sgn;rw[e1,e2];exact⟨by simp,by simp,rfl,by omega⟩
theorem yn:inf<2^63:=by unfold inf;omega
theorem KN (s:Bool)(m:Nat)(e:Int):∃i,IsR (dv s m e) i/\idx (double.write (.number s m e))=clamp i/\double.write (.number s m e)<2^64/\sgn (double.write (.number s m e))=s/\double.write (.number s m e) % 2^63<=inf:=by
 obtain⟨r,h1,h2⟩:=zb s m e;have h3:double.write (.number s m e)=double.word s (min r inf):=h1;rw[h3];obtain⟨w1,w2,w3,w4⟩:=zT s (min r inf) (by have:=yn;omega);rw[w1,w2,w3];cases s
 ·refine⟨r,by simpa [dv] using h2,?_,w4,rfl,by omega⟩;simp only[Bool.false_eq_true,if_false];unfold clamp;omega
 ·refine⟨-r,?_,?_,w4,rfl,by omega⟩
  ·have:=h2.neg
   simpa [dv,Rat.neg_mul] using this
  ·simp only[if_true];unfold clamp;omega
/-! Sums,products: what the operations give at finite floats. -/
theorem ZN (s:Bool)(m k:Nat):((signed s m k:Int):Rat)=(if s then -(m:Rat) else m)*2^(k:Int):=by
 unfold signed;rw[Nat.shiftLeft_eq,wX];cases s
 ·simp only[Bool.false_eq_true,if_false,Rat.intCast_natCast,Rat.natCast_mul]
 ·simp only[if_true,Rat.intCast_neg,Rat.intCast_natCast,Rat.natCast_mul];grind
theorem vV (s:Bool)(m:Nat){e b:Int}(h:b<=e):((signed s m (e-b).toNat:Int):Rat)*2^b=dv s m e:=by
 rw[ZN];unfold dv;rw[Rat.mul_assoc,<-wA];congr 2;omega
theorem zdZ (t:Int)(b:Int):dv (decide (t<0)) t.natAbs b=(t:Rat)*2^b:=by
 unfold dv;by_cases h:t<0
 ·simp only[h,decide_true,if_true];congr 1;have:(t:Rat)=((-(t.natAbs:Int):Int):Rat):=by congr 1;omega
  rw[this,Rat.intCast_neg,Rat.intCast_natCast]
 ·simp only[h,decide_false,Bool.false_eq_true,if_false];congr 1;have:(t:Rat)=((t.natAbs:Int):Rat):=by congr 1;omega
  rw[this,Rat.intCast_natCast]
theorem K3 (s t:Bool)(m n:Nat)(i j:Int):∃sg mg e,Datum.sum (.number s m i) (.number t n j)=some (.number sg mg e)/\dv sg mg e=dv s m i+dv t n j/\min i j<=e:=by
 unfold Datum.sum;simp only;refine⟨_,_,_,rfl,?_,Int.le_refl _⟩;have h1:=vV s m (Int.min_le_left i j);have h2:=vV t n (Int.min_le_right i j);rw[<-h1,<-h2,<-Rat.add_mul,<-Rat.intCast_add];generalize signed s m (i-min i j).toNat+signed t n (j-min i j).toNat=T;rcases Decidable.em (T=0) with h0|h0
 ·subst h0;simp only[Int.natAbs_zero,dv];simp
 ·rw[if_neg h0];exact zdZ T _
theorem W7 (s t:Bool)(m n:Nat)(i j:Int):Datum.product (.number s m i) (.number t n j)=some (.number (s ^^ t) (m*n) (i+j))/\dv (s ^^ t) (m*n) (i+j)=dv s m i*dv t n j:=by
 refine⟨rfl,?_⟩;unfold dv;rw[wA,Rat.natCast_mul];cases s<;>cases t<;>simp<;>grind
structure Near (x:Rat)(r:Nat):Prop where
 ex:∃i,IsR x i/\idx r=clamp i
 lt:r<2^64
 num:r % 2^63<=inf
theorem qQ {s:Bool}{m:Nat}{e:Int}{x:Rat}(h:dv s m e=x):Near x (double.write (.number s m e)):=by
 obtain⟨i,h1,h2,h3,h4,h5⟩:=KN s m e;exact⟨⟨i,by rw[<-h];exact h1,h2⟩,h3,h5⟩
theorem vS {x y:Nat}(hx:Fin x)(hy:Fin y):∃r,double.add x y=some r/\Near (v (idx x)+v (idx y)) r:=by
 obtain⟨m,i,h1,h2,_⟩:=jx hx;obtain⟨n,j,k1,k2,_⟩:=jx hy;obtain⟨sg,mg,e,e1,e2,_⟩:=K3 (sgn x) (sgn y) m n i j;refine⟨double.write (.number sg mg e),?_,qQ (by rw[e2,h2,k2])⟩;unfold Format.add;rw[h1,k1,e1];rfl
theorem qr {x y:Nat}(hx:Fin x)(hy:Fin y):∃r,double.sub x y=some r/\Near (v (idx x)-v (idx y)) r:=by
 obtain⟨m,i,h1,h2,_⟩:=jx hx;obtain⟨n,j,k1,k2,_⟩:=jx hy;obtain⟨sg,mg,e,e1,e2,_⟩:=K3 (sgn x) (!sgn y) m n i j;refine⟨double.write (.number sg mg e),?_,qQ (by rw[e2,h2,zir,k2];grind)⟩;unfold Format.sub;rw[h1,k1]
 show(Datum.sum _ (Datum.number _ _ _)).map _=_
 rw[e1];rfl
theorem Yp {x y:Nat}(hx:Fin x)(hy:Fin y):∃r,double.mul x y=some r/\Near (v (idx x)*v (idx y)) r:=by
 obtain⟨m,i,h1,h2,_⟩:=jx hx;obtain⟨n,j,k1,k2,_⟩:=jx hy;obtain⟨e1,e2⟩:=W7 (sgn x) (sgn y) m n i j;refine⟨_,?_,qQ (by rw[e2,h2,k2])⟩;unfold Format.mul;rw[h1,k1,e1];rfl
theorem yt {x y z:Nat}(hx:Fin x)(hy:Fin y)(hz:Fin z):∃r,double.fma x y z=some r/\Near (v (idx x)*v (idx y)+v (idx z)) r:=by
 obtain⟨m,i,h1,h2,_⟩:=jx hx;obtain⟨n,j,k1,k2,_⟩:=jx hy;obtain⟨l,q,l1,l2,_⟩:=jx hz;obtain⟨e1,e2⟩:=W7 (sgn x) (sgn y) m n i j;obtain⟨sg,mg,e,f1,f2,_⟩:=K3 (sgn x ^^ sgn y) (sgn z) (m*n) l (i+j) q;refine⟨double.write (.number sg mg e),?_,qQ (by rw[f2,e2,h2,k2,l2])⟩;unfold Format.fma;rw[h1,k1,e1,l1,Option.bind_some,f1];rfl
theorem zgK (a b:Int):compare a b=if a<b then .lt else if a=b then .eq else .gt:=by
 rw[Int.compare_eq_ite_lt];split
 ·rfl
 ·split
  ·rename_i h1 h2;rw[if_neg (by omega)]
  ·rename_i h1 h2;rw[if_pos (by omega)]
theorem HE {x y:Nat}(hx:Fin x)(hy:Fin y):double.order x y=some (if idx x<idx y then .lt else if idx x=idx y then .eq else .gt):=by
 obtain⟨m,i,h1,h2,_⟩:=jx hx;obtain⟨n,j,k1,k2,_⟩:=jx hy;unfold Format.order;rw[h1,k1];unfold Datum.order;simp only;congr 1;have e1:=vV (sgn x) m (Int.min_le_left i j);have e2:=vV (sgn y) n (Int.min_le_right i j);rw[h2] at e1;rw[k2] at e2;generalize signed (sgn x) m (i-min i j).toNat=a at *;generalize signed (sgn y) n (j-min i j).toNat=b at *;have hp:=wB (min i j);have l1:a<b↔idx x<idx y:=by rw[<- @jf (idx x) (idx y),<-e1,<-e2,Rat.mul_lt_mul_right hp,Rat.intCast_lt_intCast]
 have l2:b<a↔idx y<idx x:=by rw[<- @jf (idx y) (idx x),<-e1,<-e2,Rat.mul_lt_mul_right hp,Rat.intCast_lt_intCast]
 rw[zgK];split<;>split<;>(try split)<;>(try split)<;>first|rfl|omega
/-! What is lost of a sum: Knuth's six operations give it exactly (in units: whole numbers). -/
def F (x:Int):Prop:=∃i,x=S i
theorem zS {x:Int}(h:F x):F (-x):=by obtain⟨i,rfl⟩:=h;exact⟨-i,by rw[Xg]⟩
theorem Xi:F 0:=⟨0,rfl⟩
theorem UE:∀(q k:Nat),k<=2^53->∃r,V r=k*2^q
 |0,k,h=>⟨k,by have:=V_of 0 k h (.inl rfl);simpa using this⟩
 |q+1,k,h=>by
  rcases Nat.lt_or_ge k (2^52) with h1|h1
  ·obtain⟨r,hr⟩:=UE q (2*k) (by omega);exact⟨r,by rw[hr,Nat.pow_succ];grind⟩
  ·exact⟨(q+1)*2^52+k,V_of (q+1) k h (.inr h1)⟩
theorem F_of (m:Int)(q:Nat)(h:m.natAbs<=2^53):F (m*((2^q:Nat):Int)):=by
 obtain⟨r,hr⟩:=UE q m.natAbs h;rcases Int.le_total 0 m with h0|h0
 ·refine⟨r,?_⟩;rw[vT,hr,Int.natCast_mul];congr 1;omega
 ·refine⟨-r,?_⟩;rw[Xg,vT,hr,Int.natCast_mul,<-Int.neg_mul];congr 1;omega
theorem zI {x:Int}(h:F x):∃(m:Int) (q:Nat),x=m*((2^q:Nat):Int)/\m.natAbs<2^53/\(q=0\/2^52<=m.natAbs):=by
 obtain⟨i,rfl⟩:=h;obtain⟨q,k,_,h2,h3,h4,_⟩:=zC i.natAbs;rcases Int.le_total 0 i with h0|h0
 ·refine⟨k,q,?_,by omega,by omega⟩;rw[<-Int.natCast_mul,<-h4,<-vT];congr 1;omega
 ·refine⟨-(k:Int),q,?_,by omega,by omega⟩;rw[Int.neg_mul,<-Int.natCast_mul,<-h4,<-vT,<-Xg];congr 1;omega
def RN (x s:Int):Prop:=F s/\∀y,F y->(s-x).natAbs<=(y-x).natAbs
theorem RN.exact {x s:Int}(h:RN x s)(hx:F x):s=x:=by
 have:=h.2 x hx;omega
theorem ji (m:Int)(q:Nat):(m*((2^q:Nat):Int)).natAbs=m.natAbs*2^q:=by rw[Int.natAbs_mul,Int.natAbs_natCast]
theorem R7 {a b:Nat}(h:2^a<2*2^b):a<=b:=by
 rcases Nat.lt_or_ge b a with h1|h1
 ·have:=Nat.pow_le_pow_right (n:=2) (by decide) h1;rw[Nat.pow_succ] at this;omega
 ·exact h1
theorem zeh {m n:Int}{p q:Nat}(hm:m.natAbs<2^53)(hn:q=0\/2^52<=n.natAbs)(h:(n*((2^q:Nat):Int)).natAbs<=(m*((2^p:Nat):Int)).natAbs):q<=p:=by
 rw[ji,ji] at h;rcases hn with hn|hn
 ·omega
 ·refine R7 ?_;have h1:2^52*2^q<=n.natAbs*2^q:=Nat.mul_le_mul_right _ hn;have h2:m.natAbs*2^p<2^53*2^p:=Nat.mul_lt_mul_of_pos_right hm (Nat.two_pow_pos p);omega
theorem xI {m:Int}{p q:Nat}(h:q<=p):∃z,m*((2^p:Nat):Int)=z*((2^q:Nat):Int):=by
 refine⟨m*((2^(p-q):Nat):Int),?_⟩;rw[Int.mul_assoc,<-Int.natCast_mul,<-Nat.pow_add,show p-q+q=p by omega]
theorem We {z:Int}{q:Nat}{B:Nat}(h:(z*((2^q:Nat):Int)).natAbs<=B)(hB:B<=2^53*2^q):F (z*((2^q:Nat):Int)):=by
 refine F_of z q ?_;rw[ji] at h;exact Nat.le_of_mul_le_mul_right (Nat.le_trans h hB) (Nat.two_pow_pos q)
theorem H2 {m:Int}{p q:Nat}(hm:m.natAbs<2^53)(h:2^53*2^q<=(m*((2^p:Nat):Int)).natAbs):q+1<=p:=by
 rw[ji] at h;have h2:m.natAbs*2^p<2^53*2^p:=Nat.mul_lt_mul_of_pos_right hm (Nat.two_pow_pos p);rcases Nat.lt_or_ge q p with h1|h1
 ·exact h1
 ·have:=Nat.pow_le_pow_right (n:=2) (by decide) h1;omega
theorem Qy {x s:Int}{q:Nat}(h:RN x s)(hx:2^53*2^q<=x.natAbs):2^53*2^q<=s.natAbs:=by
 have hc:F (((2^53:Nat):Int)*((2^q:Nat):Int)):=F_of _ q (by omega);have e:(((2^53:Nat):Int)*((2^q:Nat):Int)).natAbs=2^53*2^q:=by rw[ji];rfl
 have e':0<=(((2^53:Nat):Int)*((2^q:Nat):Int)):=Int.mul_nonneg (by omega) (by omega);have h1:=h.2 _ hc;have h2:=h.2 _ (zS hc);generalize ((2^53:Nat):Int)*((2^q:Nat):Int)=c at *;generalize 2^53*2^q=d at *;omega
theorem zca {m n s:Int}{p:Nat}(hm:m.natAbs<2^53)(hn:n.natAbs<2^53)(hF:¬F (m*((2^p:Nat):Int)+n*((2^p:Nat):Int)))(hs:RN (m*((2^p:Nat):Int)+n*((2^p:Nat):Int)) s) :
  (s-(m*((2^p:Nat):Int)+n*((2^p:Nat):Int))).natAbs<=2^p:=by
 have half:∀z:Int,z*2*((2^p:Nat):Int)=z*((2^(p+1):Nat):Int):=fun z=>by
  rw[Nat.pow_succ,Int.natCast_mul,Int.mul_comm ((2^p:Nat):Int),<-Int.mul_assoc];rfl
 obtain⟨k,hk⟩:∃k,m+n=k*2\/m+n=k*2+1:=⟨(m+n)/2,by omega⟩;have hkb:(k+1).natAbs<=2^53/\k.natAbs<=2^53:=by omega
 rw[<-Int.add_mul] at hF hs ⊢;rcases hk with hk|hk
 ·exact absurd (by rw[hk,half];exact F_of _ _ hkb.2) hF
 ·have h1:=hs.2 _ (F_of (k+1) (p+1) hkb.1);rw[<-half,<-Int.sub_mul] at h1;have:(k+1)*2-(m+n)=1:=by omega
  rw[this,Int.one_mul,Int.natAbs_natCast] at h1;exact h1
theorem lost {a b s:Int}(ha:F a)(hb:F b)(hs:RN (a+b) s)(hab:b.natAbs<=a.natAbs):F (a+b-s)/\F (s-a):=by
 by_cases hF:F (a+b)
 ·have:=hs.exact hF;subst this;exact⟨by rw[Int.sub_self];exact Xi,by rw[show a+b-a=b by omega];exact hb⟩
 ·obtain⟨m,p,rfl,hm,hmn⟩:=zI ha;obtain⟨n,q,rfl,hn,hnn⟩:=zI hb;obtain⟨l,o,rfl,hl,hln⟩:=zI hs.1;have hqp:=zeh hm hnn hab;have hnear:=hs.2 _ ha;obtain⟨z,hz⟩:=xI (m:=m) hqp;have hsum:m*((2^p:Nat):Int)+n*((2^q:Nat):Int)=(z+n)*((2^q:Nat):Int):=by rw[hz,Int.add_mul]
  have hgreat:2^53*2^q<(m*((2^p:Nat):Int)+n*((2^q:Nat):Int)).natAbs:=by
   rcases Nat.lt_or_ge (2^53*2^q) (m*((2^p:Nat):Int)+n*((2^q:Nat):Int)).natAbs with h|h
   ·exact h
   ·exfalso;apply hF;rw[hsum] at h ⊢;exact We h (Nat.le_refl _)
  have hso:=H2 hl (Qy hs (Nat.le_of_lt hgreat));obtain⟨y,hy⟩:=xI (m:=l) (p:=o) (q:=q) (by omega);have hbn:(n*((2^q:Nat):Int)).natAbs<=2^53*2^q:=by rw[ji];exact Nat.mul_le_mul_right _ (by omega)
  refine⟨?_,?_⟩
  ·have e:m*((2^p:Nat):Int)+n*((2^q:Nat):Int)-l*((2^o:Nat):Int)=(z+n-y)*((2^q:Nat):Int):=by rw[hsum,hy,Int.sub_mul]
   rw[e];refine We (B:=2^53*2^q) ?_ (Nat.le_refl _);rw[<-e];omega
  ·rcases Nat.lt_or_ge q p with hlt|hge
   ·obtain⟨z',hz'⟩:=xI (m:=m) (p:=p) (q:=q+1) hlt;obtain⟨y',hy'⟩:=xI (m:=l) (p:=o) (q:=q+1) hso;have e:l*((2^o:Nat):Int)-m*((2^p:Nat):Int)=(y'-z')*((2^(q+1):Nat):Int):=by rw[hz',hy',Int.sub_mul]
    rw[e];refine We (B:=2*(2^53*2^q)) ?_ (by rw[Nat.pow_succ];omega);rw[<-e];omega
   ·have hpq:p=q:=by omega
    subst hpq;have h1:=zca hm hn hF hs;have e:l*((2^o:Nat):Int)-m*((2^p:Nat):Int)=(y-m)*((2^p:Nat):Int):=by rw[hy,Int.sub_mul]
    rw[e];have hb2:(n*((2^p:Nat):Int)).natAbs+2^p<=2^53*2^p:=by
     rw[ji];have:(n.natAbs+1)*2^p<=2^53*2^p:=Nat.mul_le_mul_right _ (by omega);rw[Nat.add_mul,Nat.one_mul] at this;exact this
    refine We (B:=2^53*2^p) ?_ (Nat.le_refl _);rw[<-e];omega
theorem zeM {a b:Int}(ha:F a)(hb:F b)(h1:(a+b).natAbs<=a.natAbs)(h2:(a+b).natAbs<=b.natAbs):F (a+b):=by
 obtain⟨m,p,rfl,hm,hmn⟩:=zI ha;obtain⟨n,q,rfl,hn,hnn⟩:=zI hb;have e1:(m*((2^p:Nat):Int)).natAbs<=2^53*2^p:=by rw[ji];exact Nat.mul_le_mul_right _ (by omega)
 have e2:(n*((2^q:Nat):Int)).natAbs<=2^53*2^q:=by rw[ji];exact Nat.mul_le_mul_right _ (by omega)
 rcases Nat.le_total q p with h|h
 ·obtain⟨z,hz⟩:=xI (m:=m) h;rw[hz,<-Int.add_mul] at h2 ⊢;exact We (Nat.le_trans h2 e2) (Nat.le_refl _)
 ·obtain⟨z,hz⟩:=xI (m:=n) h;rw[hz,<-Int.add_mul] at h1 ⊢;exact We (Nat.le_trans h1 e1) (Nat.le_refl _)
theorem zei {a b s t c d f r:Int}(ha:F a)(hb:F b)(hs:RN (a+b) s)(ht:RN (s-a) t)(hc:RN (s-t) c)(hd:RN (a-c) d)(hf:RN (b-t) f)(hr:RN (d+f) r):r=a+b-s:=by
 have exact0:F (a+b)->r=a+b-s:=fun hF=>by
  have e:=hs.exact hF;subst e;have e1:t=b:=by
   have:a+b-a=b:=by omega
   rw[this] at ht;exact ht.exact hb
  subst e1;have e2:c=a:=by
   have:a+t-t=a:=by omega
   rw[this] at hc;exact hc.exact ha
  subst e2;have e3:d=0:=by
   rw[Int.sub_self] at hd;exact hd.exact Xi
  have e4:f=0:=by
   rw[Int.sub_self] at hf;exact hf.exact Xi
  subst e3 e4;have:=hr.exact Xi;omega
 rcases Nat.le_total b.natAbs a.natAbs with hab|hab
 ·obtain⟨h1,h2⟩:=lost ha hb hs hab;have et:=ht.exact h2;subst et;have ec:c=a:=by
   have:s-(s-a)=a:=by omega
   rw[this] at hc;exact hc.exact ha
  subst ec;have ed:d=0:=by rw[Int.sub_self] at hd;exact hd.exact Xi
  subst ed;have ef:f=c+b-s:=by
   have:b-(s-c)=c+b-s:=by omega
   rw[this] at hf;exact hf.exact h1
  subst ef;rw[Int.zero_add] at hr;exact hr.exact h1
 ·have hs':RN (b+a) s:=by rw[Int.add_comm];exact hs
  obtain⟨h1,h2⟩:=lost hb ha hs' hab;rcases Nat.le_total a.natAbs s.natAbs with hsa|hsa
  ·
   have ht':RN (s + -a) t:=by rw[<-Int.sub_eq_add_neg];exact ht
   obtain⟨g1,g2⟩:=lost hs.1 (zS ha) ht' (by omega);have ec:c=s-t:=hc.exact (by have:=zS g2;rwa [Int.neg_sub] at this);have ed:d=a-c:=hd.exact (by
    have:=zS g1;rw[ec];have e:a-(s-t) = -(s + -a-t):=by omega
    rw[e];exact this)
   have he:F (-(b+a-s)):=zS h1;have ht2:RN (b + -(b+a-s)) t:=by
    have:b + -(b+a-s)=s-a:=by omega
    rw[this];exact ht
   have hle:(-(b+a-s)).natAbs<=b.natAbs:=by
    have:=hs.2 _ hb;omega
   obtain⟨k1,k2⟩:=lost hb he ht2 hle;have ef:f=b-t:=hf.exact (by have:=zS k2;rwa [Int.neg_sub] at this);have er:=hr.exact (by
    rw[ed,ef,ec];have e:a-(s-t)+(b-t)=b+a-s:=by omega
    rw[e];exact h1)
   rw[er,ed,ef,ec];omega
  ·rcases Nat.lt_or_ge s.natAbs a.natAbs with hlt|hge
   ·refine exact0 (zeM ha hb ?_ ?_)
    all_goals
     have p1:=hs.2 _ ha;have p2:=hs.2 _ (zS ha);omega
   ·
    have ht':RN (s + -a) t:=by rw[<-Int.sub_eq_add_neg];exact ht
    obtain⟨g1,g2⟩:=lost hs.1 (zS ha) ht' (by omega);have ec:c=s-t:=hc.exact (by have:=zS g2;rwa [Int.neg_sub] at this);have ed:d=a-c:=hd.exact (by
     have:=zS g1;rw[ec];have e:a-(s-t) = -(s + -a-t):=by omega
     rw[e];exact this)
    have he:F (-(b+a-s)):=zS h1;have ht2:RN (b + -(b+a-s)) t:=by
     have:b + -(b+a-s)=s-a:=by omega
     rw[this];exact ht
    have hle:(-(b+a-s)).natAbs<=b.natAbs:=by
     have:=hs.2 _ hb;omega
    obtain⟨k1,k2⟩:=lost hb he ht2 hle;have ef:f=b-t:=hf.exact (by have:=zS k2;rwa [Int.neg_sub] at this);have er:=hr.exact (by
     rw[ed,ef,ec];have e:a-(s-t)+(b-t)=b+a-s:=by omega
     rw[e];exact h1)
    rw[er,ed,ef,ec];omega
/-! Bounds;the sign of what is lost of a sum;directed rounding of a sum. -/
def pw (n:Nat):Int:=((n*2^52:Nat):Int)
theorem v_pw (n:Nat)(h:1<=n):v (pw n)=2^((n:Int)-1023):=by
 obtain⟨m,rfl⟩:∃m,n=m+1:=⟨n-1,by omega⟩;have hV:=V_of m (2^52) (by omega) (.inr (Nat.le_refl _));rw[show m*2^52+2^52=(m+1)*2^52 by rw[Nat.add_mul,Nat.one_mul]] at hV;unfold pw;rw[vc,hV];have:=jo (2^52) m (-1074)
 show((2^52*2^m:Nat):Rat)*(2:Rat)^(-1074:Int)=_
 rw[this,<-wX,<-wA];congr 1;omega
theorem UG {m n:Nat}(h:m<=n):pw m<=pw n:=by
 unfold pw;have:=Nat.mul_le_mul_right (2^52) h;omega
def Num (b:Nat):Prop:=b % 2^63<=inf
instance (b:Nat):Decidable (Num b):=by unfold Num;infer_instance
theorem Fin.num {b:Nat}(h:Fin b):Num b:=Nat.le_of_lt h
theorem Near.fin {x:Rat}{r n:Nat}(h:Near x r)(hn1:1<=n)(hn:n<2047)(h1 : -(2:Rat)^((n:Int)-1023)<=x)(h2:x<=2^((n:Int)-1023)):Fin r/\IsR x (idx r)/\-(2:Rat)^((n:Int)-1023)<=v (idx r)/\v (idx r)<=2^((n:Int)-1023)/\r<2^64:=by
 obtain⟨⟨i,hi,hc⟩,hlt,hnum⟩:=h;rw[<-v_pw n hn1] at h1 h2 ⊢;have k1:=hi.le h2;have k2:=hi.ge (j:=-pw n) (by rw[wQ];exact h1);have hp:pw n<inf:=by unfold pw inf;have:=Nat.mul_lt_mul_of_pos_right hn (show 0<2^52 by omega);omega
 have hi':clamp i=i:=Jo (by omega) (by omega);rw[hi'] at hc;rw[hc];refine⟨?_,hi,?_,v_le k1,hlt⟩
 ·unfold Fin;rw[jB] at hc;split at hc<;>omega
 ·rw[<-wQ];exact v_le k2
theorem zee (i:Int):v i=(S i:Rat)*u:=rfl
theorem IsR.rn {x:Int}{i:Int}(h:IsR ((x:Rat)*u) i):RN x (S i):=by
 refine⟨⟨i,rfl⟩,fun y ⟨j,hj⟩=>?_⟩;subst hj;have hn:=h.near j;have conv:∀a b:Int,(a:Rat)*u<=(b:Rat)*u↔a<=b:=fun a b=>by rw[jj WV,Rat.intCast_le_intCast]
 have e1:v i-(x:Rat)*u=((S i-x:Int):Rat)*u:=by unfold v;push_cast;grind
 have e2:v j-(x:Rat)*u=((S j-x:Int):Rat)*u:=by unfold v;push_cast;grind
 have e3:(x:Rat)*u-v i=((x-S i:Int):Rat)*u:=by unfold v;push_cast;grind
 have e4:(x:Rat)*u-v j=((x-S j:Int):Rat)*u:=by unfold v;push_cast;grind
 rw[e1,e2,e3,e4,conv,conv,conv,conv] at hn;unfold v at hn;rw[conv,conv] at hn;omega
theorem Vp {a b s t c d f r:Nat}{n:Nat}(hn1:1<=n)(hn:n<=2030)(ha:Fin a)(hb:Fin b)
  (ba : -(2:Rat)^((n:Int)-1023)<=v (idx a)/\v (idx a)<=2^((n:Int)-1023)) (bb : -(2:Rat)^((n:Int)-1023)<=v (idx b)/\v (idx b)<=2^((n:Int)-1023))
  (hs:double.add a b=some s) (ht:double.sub s a=some t) (hc:double.sub s t=some c) (hd:double.sub a c=some d) (hf:double.sub b t=some f) (hr:double.add d f=some r) :
  Fin s/\Fin r/\IsR (v (idx a)+v (idx b)) (idx s)/\v (idx r)=v (idx a)+v (idx b)-v (idx s)/\s<2^64/\r<2^64:=by
 have pe:∀k:Nat,(2:Rat)^(((n+(k+1):Nat):Int)-1023)=2*2^(((n+k:Nat):Int)-1023):=fun k=>by
  rw[show(((n+(k+1):Nat):Int)-1023)=1+(((n+k:Nat):Int)-1023) by omega,wA];rfl
 have p0:=wB ((n:Int)-1023);have q1:(2:Rat)^(((n+1:Nat):Int)-1023)=2*2^((n:Int)-1023):=pe 0;have q2:=pe 1;have q3:=pe 2;have q4:=pe 3;have q5:=pe 4;simp only[Nat.reduceAdd] at q2 q3 q4 q5;rw[q1] at q2;rw[q2] at q3;rw[q3] at q4;rw[q4] at q5;obtain⟨s',es,Ns⟩:=vS ha hb;rw[hs] at es;cases es;obtain⟨fs,rs,bs1,bs2,ls⟩:=Ns.fin (n:=n+1) (by omega) (by omega) (by rw[q1];grind) (by rw[q1];grind);obtain⟨t',et,Nt⟩:=qr fs ha;rw[ht] at et;cases et;obtain⟨ft,rt,bt1,bt2,_⟩:=Nt.fin (n:=n+2) (by omega) (by omega) (by rw[q2];grind) (by rw[q2];grind);obtain⟨c',ec,Nc⟩:=qr fs ft;rw[hc] at ec;cases ec;obtain⟨fc,rc,bc1,bc2,_⟩:=Nc.fin (n:=n+3) (by omega) (by omega) (by rw[q3];grind) (by rw[q3];grind);obtain⟨d',ed,Nd⟩:=qr ha fc;rw[hd] at ed;cases ed;obtain⟨fd,rd,bd1,bd2,_⟩:=Nd.fin (n:=n+4) (by omega) (by omega) (by rw[q4];grind) (by rw[q4];grind);obtain⟨f',ef,Nf⟩:=qr hb ft;rw[hf] at ef;cases ef;obtain⟨ff,rf,bf1,bf2,_⟩:=Nf.fin (n:=n+3) (by omega) (by omega) (by rw[q3];grind) (by rw[q3];grind);obtain⟨r',er,Nr⟩:=vS fd ff;rw[hr] at er;cases er;obtain⟨fr,rr,_,_,lr⟩:=Nr.fin (n:=n+5) (by omega) (by omega) (by rw[q5];grind) (by rw[q5];grind);refine⟨fs,fr,rs,?_,ls,lr⟩;have addu:∀i j,v i+v j=((S i+S j:Int):Rat)*u:=fun i j=>by unfold v;push_cast;grind
 have subu:∀i j,v i-v j=((S i-S j:Int):Rat)*u:=fun i j=>by unfold v;push_cast;grind
 have rs0:=rs;rw[addu] at rs0 rr;rw[subu] at rt rc rd rf;have:=zei ⟨_,rfl⟩ ⟨_,rfl⟩ rs0.rn rt.rn rc.rn rd.rn rf.rn rr.rn;rw[zee (idx r),this];unfold v;push_cast;grind
def Dn (x:Rat)(i:Int):Prop:=v i<=x/\x<v (i+1)
def Up (x:Rat)(i:Int):Prop:=v (i-1)<x/\x<=v i
theorem IsR.lt1 {x:Rat}{i:Int}(h:IsR x i):x<v (i+1)/\v (i-1)<x:=by
 have h1:=h.1;have h2:=h.2.1;have:=v_lt (i:=i-1) (j:=i) (by omega);have:=v_lt (i:=i) (j:=i+1) (by omega);exact⟨by grind,by grind⟩
theorem zhC {x:Rat}{i:Int}(h:v (i-1)<x/\x<v (i+1)):Dn x (if x<v i then i-1 else i):=by
 obtain⟨h2,h1⟩:=h;split
 ·rename_i hl;exact⟨by grind,by rw[show i-1+1=i by omega];exact hl⟩
 ·rename_i hl;exact⟨Rat.not_lt.1 hl,h1⟩
theorem zgh {x:Rat}{i:Int}(h:v (i-1)<x/\x<v (i+1)):Up x (if v i<x then i+1 else i):=by
 obtain⟨h2,h1⟩:=h;split
 ·rename_i hl;exact⟨by rw[show i+1-1=i by omega];exact hl,by grind⟩
 ·rename_i hl;exact⟨h2,Rat.not_lt.1 hl⟩
theorem KE {b:Nat}(h:Num b) : -(inf:Int)<=idx b/\idx b<=inf:=by
 unfold Num at h;rw[jB];split<;>omega
theorem kd {b:Nat}:Fin b↔-(inf:Int)<idx b/\idx b<inf:=by
 unfold Fin;rw[jB];have:0<inf:=by unfold inf;omega
 split<;>omega
theorem Z5 {b:Nat}(h:Num b):(Fin b)\/(double.read b = .infinity (sgn b)/\idx b=if sgn b then -(inf:Int) else inf):=by
 rcases Nat.lt_or_ge (b % 2^63) inf with h1|h1
 ·exact .inl h1
 ·have:b % 2^63=inf:=Nat.le_antisymm h h1;exact .inr ⟨zbt this,by rw[jB,this]⟩
theorem qe {x y:Nat}(hx:Num x)(hy:Num y):double.order x y=some (if idx x<idx y then .lt else if idx x=idx y then .eq else .gt):=by
 have hi:0<(inf:Int):=by unfold inf;omega
 rcases Z5 hx with h1|⟨h1,h2⟩<;>rcases Z5 hy with k1|⟨k1,k2⟩
 ·exact HE h1 k1
 ·obtain⟨m,i,e1,_⟩:=jx h1;have:=kd.1 h1;unfold Format.order;rw[e1,k1,k2];unfold Datum.order;cases sgn y
  ·simp only[Bool.false_eq_true,if_false];rw[if_pos (by omega)]
  ·simp only[if_true];rw[if_neg (by omega),if_neg (by omega)]
 ·obtain⟨m,i,e1,_⟩:=jx k1;have:=kd.1 k1;unfold Format.order;rw[e1,h1,h2];unfold Datum.order;cases sgn x
  ·simp only[Bool.false_eq_true,if_false];rw[if_neg (by omega),if_neg (by omega)]
  ·simp only[if_true];rw[if_pos (by omega)]
 ·unfold Format.order;rw[h1,k1,h2,k2];unfold Datum.order;cases sgn x<;>cases sgn y
  ·simp
  ·simp only[Bool.false_eq_true,if_false,if_true];rw[if_neg (by omega),if_neg (by omega)];rfl
  ·simp only[Bool.false_eq_true,if_false,if_true];rw[if_pos (by omega)];rfl
  ·simp
/-! The next float;the sign of what is lost of a product,a quotient,a root;directed rounding. -/
def yf (b:Nat):Nat:=if idx b=0 then 1 else if 0<idx b then b+1 else b-1
def yg (b:Nat):Nat:=if idx b=0 then 2^63+1 else if 0<idx b then b-1 else b+1
theorem yI {b:Nat}(hl:b<2^64)(h:0<idx b):b<2^63/\idx b=b/\b % 2^63=b:=by
 rw[jB] at h ⊢;unfold sgn at *;by_cases h1:b/2^63 % 2=1
 ·simp[h1] at h;omega
 ·have:b<2^63:=by omega
  have e:b % 2^63=b:=Nat.mod_eq_of_lt this;simp[h1,this];omega
theorem Js {b:Nat}(hl:b<2^64)(h:idx b<0):∃r,b=2^63+r/\r<2^63/\0<r/\idx b = -(r:Int)/\b % 2^63=r:=by
 rw[jB] at h ⊢;unfold sgn at *;by_cases h1:b/2^63 % 2=1
 ·refine⟨b-2^63,by omega,by omega,?_,?_,by omega⟩
  ·simp[h1] at h;omega
  ·simp[h1];omega
 ·simp[h1] at h;omega
theorem xJ {r:Nat}(h:r<2^63):idx r=r:=by
 have:=(zT false r h).1
 simpa [Format.word] using this
theorem zi {r:Nat}(h:r<2^63):idx (2^63+r) = -(r:Int):=by
 have:=(zT true r h).1
 simpa [Format.word,sw] using this
theorem xW {b:Nat}(hl:b<2^64)(hf:Fin b):idx (yf b)=idx b+1/\yf b<2^64:=by
 have hi:=yn;have:=kd.1 hf;unfold yf;split
 ·rename_i h0;rw[xJ (by omega)];omega
 ·split
  ·rename_i h1;obtain⟨g1,g2,g3⟩:=yI hl h1;rw[xJ (by omega)];omega
  ·obtain⟨r,g1,g2,g3,g4,_⟩:=Js hl (by omega);have:b-1=2^63+(r-1):=by omega
   rw[this,zi (by omega)];omega
theorem xX {b:Nat}(hl:b<2^64)(hf:Fin b):idx (yg b)=idx b-1/\yg b<2^64:=by
 have hi:=yn;have:=kd.1 hf;unfold yg;split
 ·rename_i h0;rw[zi (by omega)];omega
 ·split
  ·rename_i h1;obtain⟨g1,g2,g3⟩:=yI hl h1;rw[xJ (by omega)];omega
  ·obtain⟨r,g1,g2,g3,g4,_⟩:=Js hl (by omega);have:b+1=2^63+(r+1):=by omega
   rw[this,zi (by omega)];omega
def side (x rest:Nat)(way:Int):Nat:=
 if way<0/\idx rest<0 then yg x else if 0<way/\0<idx rest then yf x else x
theorem yP {X:Rat}{x rest:Nat}(hl:x<2^64)(hf:Fin x)(h:IsR X (idx x))(hs:idx rest<0↔X<v (idx x)):Dn X (idx (side x rest (-1)))/\side x rest (-1)<2^64:=by
 have:=zhC h.lt1.symm;unfold side;by_cases hr:idx rest<0
 ·rw[if_pos (hs.1 hr)] at this;rw[if_pos ⟨by omega,hr⟩,(xX hl hf).1];exact⟨this,(xX hl hf).2⟩
 ·rw[if_neg (fun e=>hr (hs.2 e))] at this;rw[if_neg (by omega),if_neg (by omega)];exact⟨this,hl⟩
theorem yO {X:Rat}{x rest:Nat}(hl:x<2^64)(hf:Fin x)(h:IsR X (idx x))(hs:0<idx rest↔v (idx x)<X):Up X (idx (side x rest 1))/\side x rest 1<2^64:=by
 have:=zgh h.lt1.symm;unfold side;by_cases hr:0<idx rest
 ·rw[if_pos (hs.1 hr)] at this;rw[if_neg (by omega),if_pos ⟨by omega,hr⟩,(xW hl hf).1];exact⟨this,(xW hl hf).2⟩
 ·rw[if_neg (fun e=>hr (hs.2 e))] at this;rw[if_neg (by omega),if_neg (by omega)];exact⟨this,hl⟩
def MU (y:Rat):Prop:=∃z:Int,y=(z:Rat)*u
theorem MU.sub {x y:Rat}(h:MU x)(k:MU y):MU (x-y):=by
 obtain⟨a,rfl⟩:=h;obtain⟨b,rfl⟩:=k;exact⟨a-b,by push_cast;grind⟩
theorem mu_v (i:Int):MU (v i):=⟨S i,rfl⟩
theorem MU.neg {x:Rat}(h:MU x):MU (-x):=by
 obtain⟨a,rfl⟩:=h;exact⟨-a,by push_cast;grind⟩
theorem zgf:v 1=u:=by
 have:V 1=1:=by unfold V;rw[if_pos (by omega)]
 have h:=vc 1;rw[this] at h;have e:v ((1:Nat):Int)=v 1:=rfl;rw[e] at h;rw[h];simp
theorem MU.pos {x:Rat}(h:MU x)(k:0<x):v 1<=x:=by
 obtain⟨z,rfl⟩:=h;rw[zgf];have:0<z:=by
  have h0:(0:Rat)*u<(z:Rat)*u:=by rw[Rat.zero_mul];exact k
  rw[Rat.mul_lt_mul_right WV] at h0
  exact_mod_cast h0
 have h1:((1:Int):Rat)*u<=(z:Rat)*u:=by rw[jj WV,Rat.intCast_le_intCast];omega
 simpa using h1
theorem Q2 (i:Int):(clamp i<0↔i<0)/\(0<clamp i↔0<i):=by
 have:0<(inf:Int):=by unfold inf;omega
 unfold clamp;omega
theorem Near.sign {y:Rat}{r:Nat}(h:Near y r)(hm:MU y):(idx r<0↔y<0)/\(0<idx r↔0<y):=by
 obtain⟨⟨i,hi,hc⟩,_,_⟩:=h;rw[hc,(Q2 i).1,(Q2 i).2];have z:=wC;refine⟨⟨fun h=>?_,fun h=>?_⟩,⟨fun h=>?_,fun h=>?_⟩⟩
 ·rcases Decidable.em (y<0) with h1|h1
  ·exact h1
  ·have:=hi.ge (j:=0) (by rw[z];exact Rat.not_lt.1 h1);omega
 ·have h1:=hm.neg.pos (by grind);have:=hi.le (j:=-1) (by rw[wQ];grind);omega
 ·rcases Decidable.em (0<y) with h1|h1
  ·exact h1
  ·have:=hi.le (j:=0) (by rw[z];exact Rat.not_lt.1 h1);omega
 ·have h1:=hm.pos h;have:=hi.ge (j:=1) h1;omega
theorem Xf (m:Int)(k:Nat):((m*((2^k:Nat):Int):Int):Rat)=(m:Rat)*2^(k:Int):=by
 rw[Rat.intCast_mul,Rat.intCast_natCast,wX]
theorem MU.prod {i j:Int}(h:(2:Rat)^(-969:Int)<=v i*v j\/v i*v j<=-(2:Rat)^(-969:Int)):MU (v i*v j):=by
 obtain⟨m,p,h1,h2,_⟩:=zI ⟨i,rfl⟩;obtain⟨n,q,k1,k2,_⟩:=zI ⟨j,rfl⟩;have e:v i*v j=((m*n:Int):Rat)*2^((p:Int)+q-1074)*u:=by
  unfold v;rw[h1,k1,Xf,Xf,Rat.intCast_mul];have:(2:Rat)^((p:Int)+q-1074)=2^(p:Int)*2^(q:Int)*u:=by
   unfold u;rw[<-wA,<-wA];congr 1
  rw[this];grind
 rcases Nat.lt_or_ge (p+q) 1074 with hl|hl
 ·exfalso;have hmn:(m*n).natAbs<2^106:=by
   rw[Int.natAbs_mul];have a1:m.natAbs*n.natAbs<=m.natAbs*2^53:=Nat.mul_le_mul_left _ (by omega);have a2:m.natAbs*2^53<2^53*2^53:=Nat.mul_lt_mul_of_pos_right h2 (by omega);omega
  have b0:(2:Rat)^((p:Int)+q-1074)<=2^(-1:Int):=by
   have hx:=wA ((p:Int)+q-1074) (((1073-(p+q):Nat)):Int);have hy:(1:Rat)<=2^(((1073-(p+q):Nat)):Int):=by
    rw[wX];have:1<=2^(1073-(p+q)):=Nat.one_le_two_pow
    exact_mod_cast this
   rw[show((p:Int)+q-1074)+(((1073-(p+q):Nat)):Int) = -1 by omega] at hx;rw[hx];have hz:=wB ((p:Int)+q-1074);have:=Rat.mul_le_mul_of_nonneg_left hy (Rat.le_of_lt hz)
   rwa [Rat.mul_one] at this
  have b1:((m*n:Int):Rat)<((2^106:Nat):Rat)/\-((2^106:Nat):Rat)<((m*n:Int):Rat):=by
   refine⟨?_,?_⟩
   ·rw[<-Rat.intCast_natCast,Rat.intCast_lt_intCast];generalize m*n=w at hmn ⊢;omega
   ·rw[<-Rat.intCast_natCast,<-Rat.intCast_neg,Rat.intCast_lt_intCast];generalize m*n=w at hmn ⊢;omega
  have c0:(2:Rat)^(-969:Int)=((2^106:Nat):Rat)*2^(-1:Int)*u:=by
   unfold u;rw[<-wX,<-wA,<-wA];congr 1
  rw[e,c0] at h;have hu:=WV;have hw:=wB ((p:Int)+q-1074);generalize ((m*n:Int):Rat)=A at *;generalize (2:Rat)^((p:Int)+q-1074)=W at *;generalize ((2^106:Nat):Rat)=B at *;generalize (2:Rat)^(-1:Int)=H at *;have f1:A*W<B*W:=Rat.mul_lt_mul_of_pos_right b1.1 hw;have f2 : -B*W<A*W:=Rat.mul_lt_mul_of_pos_right b1.2 hw;have hB:0<=B:=by grind
  have f3:B*W<=B*H:=Rat.mul_le_mul_of_nonneg_left b0 hB;have f4:A*W*u<B*H*u:=Rat.mul_lt_mul_of_pos_right (by grind) hu;have f5 : -(B*H)*u<A*W*u:=Rat.mul_lt_mul_of_pos_right (by grind) hu;rcases h with h|h
  ·grind
  ·grind
 ·refine⟨m*n*((2^(p+q-1074):Nat):Int),?_⟩;rw[e,Xf];congr 3;omega
/-! Negation;products;quotients;roots: to the nearest,and the side on which the truth lies. -/
def fneg (b:Nat):Nat:=b ^^^ 2^63
theorem jt {b:Nat}(h:b<2^64):idx (fneg b) = -idx b/\fneg b % 2^63=b % 2^63/\fneg b<2^64/\sgn (fneg b) = !sgn b:=by
 have h1:fneg b % 2^63=b % 2^63:=by
  unfold fneg;rw[Nat.xor_mod_two_pow,Nat.mod_self,Nat.xor_zero]
 have h2:fneg b/2^63=(b/2^63) ^^^ 1:=by
  unfold fneg;rw[Nat.xor_div_two_pow,Nat.div_self (by omega)]
 have h3:b/2^63=0\/b/2^63=1:=by omega
 have h4:(b/2^63=0/\fneg b/2^63=1)\/(b/2^63=1/\fneg b/2^63=0):=by
  rcases h3 with h3|h3
  ·left;rw[h2,h3];exact⟨rfl,rfl⟩
  ·right;rw[h2,h3];exact⟨rfl,rfl⟩
 refine⟨?_,h1,by omega,?_⟩
 ·unfold idx;rw[h1];rcases h4 with⟨e1,e2⟩|⟨e1,e2⟩<;>rw[e1,e2]<;>simp
 ·unfold sgn;rcases h4 with⟨e1,e2⟩|⟨e1,e2⟩<;>rw[e1,e2]<;>rfl
theorem yr {b:Nat}(h:b<2^64)(hf:Fin b):Fin (fneg b):=by unfold Fin at *;rw[(jt h).2.1];exact hf
theorem KU {i:Int}(h:1<=i):v (i+1)<=2*v i:=by
 obtain⟨r,rfl⟩:∃r:Nat,i=(r:Nat):=⟨i.toNat,by omega⟩;obtain⟨q,k,h1,h2,h3,h4,h5⟩:=zC r;have hk:1<=k:=by
  rcases Nat.eq_zero_or_pos k with h0|h0
  ·have:q=0:=by omega
   subst h0 this;omega
  ·exact h0
 have e1:=vc r;have e2:=vc (r+1);have e3:v ((r:Int)+1)=v ((r+1:Nat):Int):=rfl;rw[e3,e1,e2,h4,h5];have hle:(k+1)*2^q<=2*(k*2^q):=by
  rw[<-Nat.mul_assoc];exact Nat.mul_le_mul_right _ (by omega)
 have:(((k+1)*2^q:Nat):Rat)<=((2*(k*2^q):Nat):Rat):=by exact_mod_cast hle
 have h6:=(jj WV).2 this;have e4:((2*(k*2^q):Nat):Rat)*u=2*(((k*2^q:Nat):Rat)*u):=by
  rw[Rat.natCast_mul 2];grind
 rw[e4] at h6;exact h6
theorem zhY {i:Int}(h:2<=i):v i<=2*v (i-1):=by
 have:=KU (i:=i-1) (by omega)
 rwa [show i-1+1=i by omega] at this
theorem IsR.half {x:Rat}{i:Int}(h:IsR x i)(hi:1<=i):x<2*v i/\0<x/\(2<=i->v i<2*x):=by
 have h1:=h.lt1;have h2:=KU hi;have h0:=v_le (i:=0) (j:=i-1) (by omega);rw[wC] at h0;refine⟨by grind,by grind,fun h3=>?_⟩;have:=zhY h3;grind
theorem KA (n:Nat)(h:1<=n)(z:Int)(hz:(n:Int)-1023=z):v (pw n)=(2:Rat)^z:=by rw[v_pw n h,hz]
theorem Un {a b:Int}(h:a<b):(2:Rat)^a<2^b:=by
 have e:=wA a (((b-a).toNat:Nat):Int);rw[show a+(((b-a).toNat:Nat):Int)=b by omega] at e;rw[e];have hp:=wB a;have h1:(1:Rat)<2^(((b-a).toNat:Nat):Int):=by
  rw[wX];have:1<2^(b-a).toNat:=Nat.one_lt_two_pow (by omega)
  exact_mod_cast this
 have:=Rat.mul_lt_mul_of_pos_left h1 hp
 rwa [Rat.mul_one] at this
theorem jl {a b:Int}(h:a<=b):(2:Rat)^a<=2^b:=by
 rcases Decidable.em (a<b) with h1|h1
 ·exact Rat.le_of_lt (Un h1)
 ·rw[show a=b by omega];exact Rat.le_refl
abbrev p901:Int:=pw 122
theorem zaN {a b p:Nat}(ha:Fin a)(hb:Fin b)(hp:double.mul a b=some p)(fp:Fin p)(hbig:v (idx a)*v (idx b)=0\/p901<=idx p\/idx p<=-p901) :
  IsR (v (idx a)*v (idx b)) (idx p)/\p<2^64/\∃r,double.fma a b (fneg p)=some r/\(idx r<0↔v (idx a)*v (idx b)<v (idx p))/\(0<idx r↔v (idx p)<v (idx a)*v (idx b)):=by
 obtain⟨p',e,N⟩:=Yp ha hb;rw[hp] at e;cases e;have hR:IsR (v (idx a)*v (idx b)) (idx p):=by
  obtain⟨i,h1,h2⟩:=N.ex;have:=kd.1 fp;have hi:clamp i=i:=by unfold clamp at h2 ⊢;omega
  rw[h2,hi];exact h1
 refine⟨hR,N.lt,?_⟩;obtain⟨r,er,Nr⟩:=yt ha hb (yr N.lt fp);rw[(jt N.lt).1,wQ,<-Rat.sub_eq_add_neg] at Nr;have hmu:MU (v (idx a)*v (idx b)):=by
  rcases hbig with h|h|h
  ·rw[h];exact⟨0,by simp⟩
  ·refine MU.prod (.inl ?_);have h1:=hR.half (by unfold p901 pw at h;omega);have h2:=h1.2.2 (by unfold p901 pw at h;omega);have h3:=v_le h;rw[KA 122 (by omega) (-901) (by omega)] at h3;have h4:(2:Rat)^(-901:Int)=2*2^(-902:Int):=by
    rw[show(-901:Int)=1+(-902) by omega,wA];rfl
   have h5:=jl (show(-969:Int)<=-902 by omega);grind
  ·refine MU.prod (.inr ?_);have hR':=hR.neg;have h1:=hR'.half (by unfold p901 pw at h;omega);have h2:=h1.2.2 (by unfold p901 pw at h;omega);have h3:=v_le (show p901<=-idx p by omega);rw[KA 122 (by omega) (-901) (by omega)] at h3;have h4:(2:Rat)^(-901:Int)=2*2^(-902:Int):=by
    rw[show(-901:Int)=1+(-902) by omega,wA];rfl
   have h5:=jl (show(-969:Int)<=-902 by omega);grind
 obtain⟨s1,s2⟩:=Nr.sign (hmu.sub (mu_v _));refine⟨r,er,?_,?_⟩
 ·rw[s1];constructor<;>intro h<;>grind
 ·rw[s2];constructor<;>intro h<;>grind
/-! Quotients and roots. -/
theorem JO (r:Nat)(e:Int):v (r:Int)<=(2^53:Nat)*(2:Rat)^e\/∃z:Int,v (r:Int)=(z:Rat)*2^e:=by
 obtain⟨q,k,h1,h2,h3,h4,h5⟩:=zC r;have hv:v (r:Int)=(k:Rat)*2^((q:Int)-1074):=by
  rw[vc,h4];unfold u;rw[jo];congr 2<;>omega
 rcases Decidable.em ((q:Int)-1074<=e) with h|h
 ·left;rw[hv];have h6:=jl h;have h7:(k:Rat)<=((2^53:Nat):Rat):=by exact_mod_cast Nat.le_of_lt h2
  have h8:=wB ((q:Int)-1074);have h9:(0:Rat)<=((2^53:Nat):Rat):=by exact_mod_cast Nat.zero_le _
  exact Rat.le_trans ((jj h8).2 h7) (Rat.mul_le_mul_of_nonneg_left h6 h9)
 ·right;refine⟨(k*2^(((q:Int)-1074-e).toNat):Nat),?_⟩;rw[hv,Rat.intCast_natCast,jo];congr 2;omega
theorem zdM (r:Nat)(e:Int):v (r:Int)+v ((r:Int)+1)<=2*((2^53:Nat)*(2:Rat)^e)\/∃z:Int,v (r:Int)+v ((r:Int)+1)=2*((z:Rat)*2^e):=by
 obtain⟨q,k,h1,h2,h3,h4,h5⟩:=zC r;have hv:v (r:Int)+v ((r:Int)+1)=((2*k+1:Nat):Rat)*2^((q:Int)-1074):=by
  have e3:v ((r:Int)+1)=v ((r+1:Nat):Int):=rfl;rw[e3,vc,vc,h4,h5];have:((k*2^q:Nat):Rat)*u+(((k+1)*2^q:Nat):Rat)*u=(((2*k+1)*2^q:Nat):Rat)*u:=by
   rw[<-Rat.add_mul,<-Rat.natCast_add,<-Nat.add_mul];congr 3;omega
  rw[this];unfold u;rw[jo];congr 2<;>omega
 rcases Decidable.em ((q:Int)-1074<=e) with h|h
 ·left;rw[hv];have h6:=jl h;have h7:((2*k+1:Nat):Rat)<=((2*2^53:Nat):Rat):=by
   have:2*k+1<=2*2^53:=by omega
   exact_mod_cast this
  have h8:=wB ((q:Int)-1074);have h9:(0:Rat)<=((2*2^53:Nat):Rat):=by exact_mod_cast Nat.zero_le _
  have:=Rat.le_trans ((jj h8).2 h7) (Rat.mul_le_mul_of_nonneg_left h6 h9);rw[Rat.natCast_mul,Rat.mul_assoc] at this;exact this
 ·right;refine⟨((2*k+1)*2^(((q:Int)-1074-e-1).toNat):Nat),?_⟩;rw[hv,Rat.intCast_natCast,jo];have:(q:Int)-1074=1+(e+(((q:Int)-1074-e-1).toNat:Nat)):=by omega
  rw[this,wA];have e1:(2:Rat)^(1:Int)=2:=rfl;rw[e1];have e2:e+((1+(e+(((q:Int)-1074-e-1).toNat:Nat))-e-1).toNat:Nat)=e+(((q:Int)-1074-e-1).toNat:Nat):=by omega
  rw[e2];grind
structure Cell (Q:Nat)(e:Int)(x y:Rat):Prop where
 big:2^53<=Q
 or:(x=(Q:Rat)*2^e/\y=(Q:Rat)*2^e)\/((Q:Rat)*2^e<x/\x<((Q:Rat)+1)*2^e/\(Q:Rat)*2^e<y/\y<((Q:Rat)+1)*2^e)
theorem Cell.cmp {Q:Nat}{e:Int}{x y T:Rat}(h:Cell Q e x y)(hT:T<=(2^53:Nat)*(2:Rat)^e\/∃z:Int,T=(z:Rat)*2^e):(T<=y↔T<=x)/\(y<=T↔x<=T):=by
 have hw:=wB e;rcases h.or with⟨h1,h2⟩|⟨h1,h2,h3,h4⟩
 ·rw[h1,h2];exact⟨Iff.rfl,Iff.rfl⟩
 ·have key:T<=(Q:Rat)*2^e\/((Q:Rat)+1)*2^e<=T:=by
   rcases hT with hT|⟨z,rfl⟩
   ·left;have:((2^53:Nat):Rat)<=(Q:Rat):=by exact_mod_cast h.big
    exact Rat.le_trans hT ((jj hw).2 this)
   ·rcases Decidable.em (z<=(Q:Int)) with hz|hz
    ·left;have:(z:Rat)<=((Q:Int):Rat):=Rat.intCast_le_intCast.2 hz;exact(jj hw).2 this
    ·right;have h5:(((Q:Int)+1:Int):Rat)<=(z:Rat):=Rat.intCast_le_intCast.2 (by omega);rw[Rat.intCast_add] at h5;exact(jj hw).2 h5
  rcases key with k|k<;>constructor<;>constructor<;>intro g<;>grind
theorem Cell.isR {Q:Nat}{e:Int}{x y:Rat}(h:Cell Q e x y){i:Nat}(hR:IsR y i):IsR x i:=by
 have hw:=wB e;have mid:∀r:Nat,(v (r:Int)+v ((r:Int)+1)<=2*y↔v (r:Int)+v ((r:Int)+1)<=2*x)/\(2*y<=v (r:Int)+v ((r:Int)+1)↔2*x<=v (r:Int)+v ((r:Int)+1)):=fun r=>by
  have:=h.cmp (T:=(v (r:Int)+v ((r:Int)+1))/2) (by
   rcases zdM r e with g|⟨z,g⟩
   ·left;grind
   ·right;exact⟨z,by rw[g];grind⟩)
  constructor<;>constructor<;>intro g<;>grind
 have hx0:0<=x:=by
  have hQ:(0:Rat)<=(Q:Rat):=by exact_mod_cast Nat.zero_le Q
  have:=Rat.mul_nonneg hQ (Rat.le_of_lt hw);rcases h.or with⟨h1,_⟩|⟨h1,_⟩<;>grind
 have hup:=mid i;rcases Nat.eq_zero_or_pos i with h0|h0
 ·subst h0;obtain⟨h1,h2,h3⟩:=hR;refine⟨?_,hup.2.1 h2,fun _=>by omega⟩;have:=v_lt (i:=((0:Nat):Int)-1) (j:=((0:Nat):Int)) (by omega);have z:v ((0:Nat):Int)=0:=wC;rw[z] at this ⊢;grind
 ·have hlo:=mid (i-1);have ei:(((i-1:Nat)):Int)=(i:Int)-1:=by omega
  rw[ei,show(i:Int)-1+1=i by omega] at hlo;obtain⟨h1,h2,h3⟩:=hR;refine⟨hlo.1.1 h1,hup.2.1 h2,fun h=>h3 ?_⟩;rcases h with h|h
  ·left;exact Rat.le_antisymm h1 (hlo.2.2 (by rw[h];exact Rat.le_refl))
  ·right;exact Rat.le_antisymm h2 (hup.1.2 (by rw[h];exact Rat.le_refl))
theorem VW {Q:Nat}{st:Bool}{e:Int}{x:Rat}(neg:Bool)(h:Cell Q e x (((2*Q+st.toNat:Nat):Rat)*2^(e-1))):Near (if neg then -x else x) (double.write (.number neg (2*Q+st.toNat) (e-1))):=by
 obtain⟨r,h1,h2⟩:=zb neg (2*Q+st.toNat) (e-1);have h3:double.write (.number neg (2*Q+st.toNat) (e-1))=double.word neg (min r inf):=h1;rw[h3];obtain⟨w1,w2,w3,w4⟩:=zT neg (min r inf) (by have:=yn;omega);have hR:=h.isR h2;refine⟨?_,w4,by rw[w3];omega⟩;rw[w1];cases neg
 ·exact⟨r,hR,by simp only[Bool.false_eq_true,if_false];unfold clamp;omega⟩
 ·exact⟨-r,hR.neg,by simp only[if_true];unfold clamp;omega⟩
theorem Y7 {n D:Nat}(hn:0<n)(e:Int)(h:2^53<=D/n):Cell (D/n) e ((D:Rat)/n*2^e) (((2*(D/n)+(D % n != 0).toNat:Nat):Rat)*2^(e-1)):=by
 have hw:=wB e;have hw2:(2:Rat)^e=2*2^(e-1):=by
  have:=wA 1 (e-1);rw[show 1+(e-1)=e by omega] at this;rw[this];rfl
 have hn':(0:Rat)<(n:Rat):=by exact_mod_cast hn
 have hd:=Nat.div_add_mod D n;have hr:=Nat.mod_lt D hn;generalize D/n=Q at *;generalize D % n=R at *;have hD:(D:Rat)=(n:Rat)*Q+R:=by rw[<-hd];push_cast;rfl
 have hx:(D:Rat)/n=(Q:Rat)+(R:Rat)/n:=by rw[hD];grind
 refine⟨h,?_⟩;rw[hx];by_cases h0:R=0
 ·left;subst h0;simp;constructor
  ·grind
  ·rw[hw2];grind
 ·right;have hR:(0:Rat)<(R:Rat):=by exact_mod_cast Nat.pos_of_ne_zero h0
  have hR2:(R:Rat)<n:=by exact_mod_cast hr
  have f1:0<(R:Rat)/n:=by rw[Rat.div_def];exact Rat.mul_pos hR (Rat.inv_pos.2 hn')
  have f2:(R:Rat)/n<1:=by
   rw[Rat.div_def];have:=Rat.mul_lt_mul_of_pos_right hR2 (Rat.inv_pos.2 hn')
   rwa [Rat.mul_inv_cancel _ (by grind)] at this
  have e1:(R != 0).toNat=1:=by simp[h0]
  rw[e1];generalize (R:Rat)/n=t at *;have g1:=Rat.mul_lt_mul_of_pos_right (show(Q:Rat)<Q+t by grind) hw;have g2:=Rat.mul_lt_mul_of_pos_right (show(Q:Rat)+t<Q+1 by grind) hw;refine⟨g1,g2,?_,?_⟩
  ·rw[hw2];push_cast;have:=wB (e-1);grind
  ·rw[hw2];push_cast;have:=wB (e-1);grind
theorem vO {x y:Nat}(hx:Fin x)(hy:Fin y)(h0:idx y≠0):∃r,double.div x y=some r/\Near (v (idx x)/v (idx y)) r:=by
 obtain⟨m,i,h1,h2,_,h3,hm⟩:=jx hx;obtain⟨n,j,k1,k2,_,k3,hn⟩:=jx hy;have hn0:n≠0:=fun e=>h0 (k3.1 e)
 have hnp:0<n:=Nat.pos_of_ne_zero hn0;have hfb:double.fractionBits+2=54:=rfl;unfold Format.div;rw[h1,k1,hfb];unfold Datum.quotient;simp only[hn0,if_false,Option.map_some,Nat.shiftLeft_eq];refine⟨_,rfl,?_⟩;rcases Nat.eq_zero_or_pos m with hm0|hm0
 ·subst hm0;have hv:v (idx x)=0:=by rw[<-h2];unfold dv;cases sgn x<;>simp
  rw[hv];refine qQ ?_;simp[dv];grind
 ·have hlm:m.log2<53:=(Nat.log2_lt (by omega)).2 hm;have a1:2^m.log2<=m:=Nat.log2_self_le (by omega);have a2:n<2^(n.log2+1):=Nat.lt_log2_self;generalize hmore:54+n.log2-m.log2=more;have hbig:2^53<=(m*2^more)/n:=by
   rw[Nat.le_div_iff_mul_le hnp];have b1:2^53*n<=2^53*2^(n.log2+1):=Nat.mul_le_mul_left _ (Nat.le_of_lt a2);have b2:2^m.log2*2^more<=m*2^more:=Nat.mul_le_mul_right _ a1;rw[<-Nat.pow_add] at b1 b2;rw[show 53+(n.log2+1)=m.log2+more by omega] at b1;omega
  have hc:=Y7 hnp (i-j-more) hbig;have hN:=VW (sgn x ^^ sgn y) hc;have he:i-j-(more:Int)-1=(i-j-more)-1:=rfl;have hval:(if (sgn x ^^ sgn y)=true then -(((m*2^more:Nat):Rat)/n*2^(i-j-(more:Int))) else ((m*2^more:Nat):Rat)/n*2^(i-j-(more:Int)))=v (idx x)/v (idx y):=by
   rw[<-h2,<-k2];have e1:((m*2^more:Nat):Rat)/n*2^(i-j-(more:Int))=(m:Rat)*2^i/((n:Rat)*2^j):=by
    have p1:=wB j;have hn':(0:Rat)<(n:Rat):=by exact_mod_cast hnp
    have e2:((m*2^more:Nat):Rat)*2^(i-j-(more:Int))*2^j=(m:Rat)*2^i:=by
     rw[jo,Rat.mul_assoc,<-wA];congr 2;omega
    have hj:(2:Rat)^j≠0:=by grind
    have hn2:(n:Rat)≠0:=by grind
    rw[<-e2];grind
   rw[e1];unfold dv;cases sgn x<;>cases sgn y<;>simp<;>grind
  rw[<-hval];exact hN
/-! Division and roots: rounded in a direction. -/
theorem vq (n:Nat):∀(todo root:Nat),root*root<=n->n<(root+2^todo)*(root+2^todo) ->
  Datum.rootFrom n todo root*Datum.rootFrom n todo root<=n/\n<(Datum.rootFrom n todo root+1)*(Datum.rootFrom n todo root+1)
 |0,root,h1,h2=>by simpa [Datum.rootFrom] using ⟨h1,h2⟩
 |todo+1,root,h1,h2=>by
  unfold Datum.rootFrom;simp only[Nat.one_shiftLeft];have e:root+2^(todo+1)=root+2^todo+2^todo:=by rw[Nat.pow_succ];omega
  rw[e] at h2;split
  ·rename_i h;exact vq n todo _ h h2
  ·rename_i h;exact vq n todo root h1 (by omega)
theorem QG (n:Nat):let w:=Datum.rootFrom n (n.log2/2+1) 0
  w*w<=n/\n<(w+1)*(w+1):=by
 refine vq n _ 0 (by omega) ?_;rw[Nat.zero_add,<-Nat.pow_add];exact Nat.lt_of_lt_of_le Nat.lt_log2_self (Nat.pow_le_pow_right (by decide) (by omega))
structure RCell (Q n:Nat)(e:Int)(a y:Rat):Prop where
 big:2^53<=Q
 lo:Q*Q<=n
 hi:n<(Q+1)*(Q+1)
 val:a=(n:Rat)*(2^e*2^e)
 or:(Q*Q=n/\y=(Q:Rat)*2^e)\/(Q*Q≠n/\(Q:Rat)*2^e<y/\y<((Q:Rat)+1)*2^e)
theorem zgm {x y:Rat}(hx:0<=x)(h:x<y):x*x<y*y:=by
 have h1:=Rat.mul_le_mul_of_nonneg_left (Rat.le_of_lt h) hx;have h2:=Rat.mul_lt_mul_of_pos_right h (show 0<y by grind);grind
theorem K8 {x y:Rat}(hx:0<=x)(h:x<=y):x*x<=y*y:=by
 have h1:=Rat.mul_le_mul_of_nonneg_left h hx;have h2:=(Rat.mul_le_mul_of_nonneg_right h (show 0<=y by grind));grind
theorem RCell.sq {Q n:Nat}{e:Int}{a y:Rat}(h:RCell Q n e a y):(Q:Rat)*2^e*((Q:Rat)*2^e)<=a/\a<((Q:Rat)+1)*2^e*(((Q:Rat)+1)*2^e)/\(Q*Q=n↔(Q:Rat)*2^e*((Q:Rat)*2^e)=a):=by
 have hw:=wB e;have hw2:(0:Rat)<2^e*2^e:=Rat.mul_pos hw hw;have e1:(Q:Rat)*2^e*((Q:Rat)*2^e)=((Q*Q:Nat):Rat)*(2^e*2^e):=by rw[Rat.natCast_mul];grind
 have e2:((Q:Rat)+1)*2^e*(((Q:Rat)+1)*2^e)=(((Q+1)*(Q+1):Nat):Rat)*(2^e*2^e):=by push_cast;grind
 rw[h.val,e1,e2,jj hw2,Rat.mul_lt_mul_right hw2];refine⟨by exact_mod_cast h.lo,by exact_mod_cast h.hi,⟨fun g=>by rw[g],fun g=>?_⟩⟩;have:((Q*Q:Nat):Rat)=((n:Nat):Rat):=by
  refine Rat.le_antisymm ((jj hw2).1 (by rw[g];exact Rat.le_refl)) ((jj hw2).1 (by rw[g];exact Rat.le_refl))
 exact_mod_cast this
theorem RCell.cmp {Q n:Nat}{e:Int}{a y T:Rat}(h:RCell Q n e a y)(hT:T<=(2^53:Nat)*(2:Rat)^e\/∃z:Int,T=(z:Rat)*2^e)(h0:0<=T):(T<=y↔T*T<=a)/\(y<=T↔a<=T*T):=by
 have hw:=wB e;obtain⟨s1,s2,s3⟩:=h.sq;have hQ0:(0:Rat)<=(Q:Rat)*2^e:=Rat.mul_nonneg (by exact_mod_cast Nat.zero_le Q) (Rat.le_of_lt hw);rcases h.or with⟨g1,g2⟩|⟨g1,g2,g3⟩
 ·have s4:=s3.1 g1;rw[<-s4,g2];constructor
  ·constructor
   ·intro g;exact K8 h0 g
   ·intro g;rcases Decidable.em (T<=(Q:Rat)*2^e) with k|k
    ·exact k
    ·have:=zgm hQ0 (Rat.not_le.1 k);grind
  ·constructor
   ·intro g;exact K8 hQ0 g
   ·intro g;rcases Decidable.em ((Q:Rat)*2^e<=T) with k|k
    ·exact k
    ·have:=zgm h0 (Rat.not_le.1 k);grind
 ·have s4:(Q:Rat)*2^e*((Q:Rat)*2^e)≠a:=fun g=>g1 (s3.2 g)
  have key:T<=(Q:Rat)*2^e\/((Q:Rat)+1)*2^e<=T:=by
   rcases hT with hT|⟨z,rfl⟩
   ·left;have:((2^53:Nat):Rat)<=(Q:Rat):=by exact_mod_cast h.big
    exact Rat.le_trans hT ((jj hw).2 this)
   ·rcases Decidable.em (z<=(Q:Int)) with hz|hz
    ·left;have:(z:Rat)<=((Q:Int):Rat):=Rat.intCast_le_intCast.2 hz;exact(jj hw).2 this
    ·right;have h5:(((Q:Int)+1:Int):Rat)<=(z:Rat):=Rat.intCast_le_intCast.2 (by omega);rw[Rat.intCast_add] at h5;exact(jj hw).2 h5
  rcases key with k|k
  ·have:=K8 h0 k;constructor<;>constructor<;>intro g<;>grind
  ·have:=K8 (show(0:Rat)<=((Q:Rat)+1)*2^e by grind) k;constructor<;>constructor<;>intro g<;>grind
structure NearRt (a:Rat)(r:Nat):Prop where
 fin:Fin r
 lt:r<2^64
 nn:0<=idx r
 pos:0<a->1<=idx r
 zero:a=0->idx r=0
 lo:0<a->v (idx r-1)*v (idx r-1)<a
 hi:a<v (idx r+1)*v (idx r+1)
theorem Xw {x:Nat}(hx:Fin x)(h0:0<=idx x):∃r,double.sqrt x=some r/\NearRt (v (idx x)) r:=by
 obtain⟨m,i,h1,h2,hi1,h3,hm⟩:=jx hx;have hfb:double.fractionBits+2=54:=rfl;have hxf:=kd.1 hx;unfold Format.sqrt;rw[h1,hfb];unfold Datum.root;simp only;rcases Nat.eq_zero_or_pos m with hm0|hm0
 ·subst hm0;have hx0:=h3.1 rfl;simp only[if_true,Option.map_some];refine⟨_,rfl,?_⟩;obtain⟨j,j1,j2,j3,_,j5⟩:=KN (sgn x) 0 i;have e0:dv (sgn x) 0 i=0:=by rw[h2,hx0,wC]
  rw[e0] at j1;have:j=0:=j1.uniq (by have:=IsR.self 0;rwa [wC] at this);subst this;have hc:clamp 0=0:=rfl;rw[hc] at j2;have hpos:0<(inf:Int):=by unfold inf;omega
  refine⟨kd.2 (by omega),j3,by omega,?_,fun _=>j2,?_,?_⟩
  ·rw[hx0,wC];intro h;grind
  ·rw[hx0,wC];intro h;grind
  ·rw[hx0,j2,wC];have:=v_lt (i:=0) (j:=0+1) (by omega);rw[wC] at this;exact Rat.mul_pos this this
 ·have hmne:m≠0:=by omega
  have hsg:sgn x=false:=by
   cases hs:sgn x with
   |false=>rfl
   |true=>
    exfalso;have:=jB x;rw[hs] at this;simp only[if_true] at this;have:idx x≠0:=fun e=>hmne (h3.2 e)
    omega
  rw[hsg];simp only[hmne,if_false,Bool.false_eq_true,Option.map_some,Nat.shiftLeft_eq];refine⟨_,rfl,?_⟩;generalize hmore:2*54-m.log2+((i-((2*54-m.log2:Nat):Int)) % 2).toNat=more;have hlm:m.log2<53:=(Nat.log2_lt (by omega)).2 hm;have a1:2^m.log2<=m:=Nat.log2_self_le (by omega);have heven:(i-(more:Int)) % 2=0:=by omega
  have hmore108:108<=m.log2+more:=by omega
  obtain⟨q1,q2⟩:=QG (m*2^more);generalize hQ:Datum.rootFrom (m*2^more) ((m*2^more).log2/2+1) 0=Q at *;have hnbig:2^108<=m*2^more:=by
   have b2:2^m.log2*2^more<=m*2^more:=Nat.mul_le_mul_right _ a1;rw[<-Nat.pow_add] at b2;exact Nat.le_trans (Nat.pow_le_pow_right (by decide) hmore108) b2
  have hQbig:2^53<=Q:=by
   rcases Nat.lt_or_ge Q (2^53) with h|h
   ·exfalso;have:(Q+1)*(Q+1)<=2^53*2^53:=Nat.mul_le_mul (by omega) (by omega);omega
   ·exact h
  generalize hh:(i-(more:Int))/2=h;have hi2:i=h+h+more:=by omega
  have hval:v (idx x)=((m*2^more:Nat):Rat)*(2^h*2^h):=by
   rw[<-h2,hsg];unfold dv;simp only[Bool.false_eq_true,if_false];rw[<-wA,jo,hi2]
  have hw2:(2:Rat)^h=2*2^(h-1):=by
   have:=wA 1 (h-1);rw[show 1+(h-1)=h by omega] at this;rw[this];rfl
  generalize hst:(Q*Q != m*2^more).toNat=st;have hcell:RCell Q (m*2^more) h (v (idx x)) (((2*Q+st:Nat):Rat)*2^(h-1)):=by
   refine⟨hQbig,q1,q2,hval,?_⟩;have hp:=wB (h-1);by_cases hq:Q*Q=m*2^more
   ·left;have:st=0:=by rw[<-hst,hq];simp
    subst this;refine⟨hq,?_⟩;rw[hw2];push_cast;grind
   ·right;have:st=1:=by rw[<-hst];simp[hq]
    subst this;refine⟨hq,?_,?_⟩<;>(rw[hw2];push_cast;grind)
  obtain⟨r,n1,n2⟩:=zb false (2*Q+st) (h-1);have n3:double.write (.number false (2*Q+st) (h-1))=double.word false (min r inf):=n1;rw[n3];obtain⟨w1,w2,w3,w4⟩:=zT false (min r inf) (by have:=yn;omega);simp only[Bool.false_eq_true,if_false] at w1;have hlt:=n2.lt1;have hup:v (idx x)<v ((r:Int)+1)*v ((r:Int)+1):=by
   have e3:v ((r:Int)+1)=v ((r+1:Nat):Int):=rfl;have hc:=hcell.cmp (JO (r+1) h) (by have:=v_le (i:=0) (j:=((r+1:Nat):Int)) (by omega);rwa [wC] at this);rw[<-e3] at hc;rcases Decidable.em (v (idx x)<v ((r:Int)+1)*v ((r:Int)+1)) with g|g
   ·exact g
   ·have:=hc.1.2 (Rat.not_lt.1 g);grind
  have hr1:1<=r:=by
   rcases Nat.eq_zero_or_pos r with g|g
   ·exfalso;subst g;have hge : -1074<=h-1:=by omega
    have y1:v 1<=((2*Q+st:Nat):Rat)*2^(h-1):=by
     rw[zgf];unfold u;have b1:=jl hge;have b2:(1:Rat)<=((2*Q+st:Nat):Rat):=by
      have:1<=2*Q+st:=by omega
      exact_mod_cast this
     have b3:=wB (h-1);have:=Rat.mul_le_mul_of_nonneg_right b2 (Rat.le_of_lt b3);grind
    have:=hlt.1;have e3:v (((0:Nat):Int)+1)=v 1:=rfl;rw[e3] at this;grind
   ·exact g
  have hlo:v ((r:Int)-1)*v ((r:Int)-1)<v (idx x):=by
   have e3:((r:Int)-1)=((r-1:Nat):Int):=by omega
   have hc:=hcell.cmp (JO (r-1) h) (by have:=v_le (i:=0) (j:=((r-1:Nat):Int)) (by omega);rwa [wC] at this);rw[<-e3] at hc;rcases Decidable.em (v ((r:Int)-1)*v ((r:Int)-1)<v (idx x)) with g|g
   ·exact g
   ·have:=hc.2.2 (Rat.not_lt.1 g);grind
  have hrinf:r<inf:=by
   rcases Nat.lt_or_ge r inf with g|g
   ·exact g
   ·exfalso;have c1:v (idx x)<=v (pw 2047):=v_le (by unfold pw;have:=hxf.2;unfold inf at this;omega);have c2:v (pw 2046)<=v ((r:Int)-1):=v_le (by unfold pw;unfold inf at g;omega);rw[v_pw 2047 (by omega)] at c1;rw[v_pw 2046 (by omega)] at c2;have c3:=K8 (Rat.le_of_lt (wB _)) c2;rw[<-wA] at c3;have c4:=Un (show(((2047:Nat):Int)-1023)<(((2046:Nat):Int)-1023)+(((2046:Nat):Int)-1023) by omega);grind
  rw[Nat.min_eq_left (by omega)] at w1 w2 w3 w4 ⊢;refine⟨by unfold Fin;rw[w3];exact hrinf,w4,by omega,fun _=>by omega,fun g=>?_,fun _=>?_,?_⟩
  ·exfalso;exact hmne (h3.2 (Wh (by rw[g,wC])))
  ·rw[w1];exact hlo
  ·rw[w1];exact hup
theorem zah {a b q:Nat}(la:a<2^64)(ha:Fin a)(hb:Fin b)(hb0:idx b≠0)(hq:double.div a b=some q)(fq:Fin q)(hbig:idx a=0\/((p901<=idx q\/idx q<=-p901)/\(p901<=idx a\/idx a<=-p901))) :
  IsR (v (idx a)/v (idx b)) (idx q)/\q<2^64/\∃r,double.fma (fneg q) b a=some r/\r<2^64/\Num r/\(idx r<0↔v (idx a)<v (idx q)*v (idx b))/\(0<idx r↔v (idx q)*v (idx b)<v (idx a)):=by
 obtain⟨q',e,N⟩:=vO ha hb hb0;rw[hq] at e;cases e;have hR:IsR (v (idx a)/v (idx b)) (idx q):=by
  obtain⟨i,h1,h2⟩:=N.ex;have:=kd.1 fq;have hi:clamp i=i:=by unfold clamp at h2 ⊢;omega
  rw[h2,hi];exact h1
 refine⟨hR,N.lt,?_⟩;obtain⟨r,er,Nr⟩:=yt (yr N.lt fq) hb ha;rw[(jt N.lt).1,wQ] at Nr;have hvb:v (idx b)≠0:=fun h=>hb0 (Wh (by rw[h,wC]))
 have hy : -v (idx q)*v (idx b)+v (idx a)=v (idx a)-v (idx q)*v (idx b):=by grind
 rw[hy] at Nr;have hmu:MU (v (idx q)*v (idx b)):=by
  rcases hbig with h|⟨h,ha9⟩
  ·have e0:v (idx a)/v (idx b)=v 0:=by rw[h,wC,Rat.div_def,Rat.zero_mul]
   rw[e0] at hR;rw[hR.exact,wC,Rat.zero_mul];exact⟨0,by simp⟩
  ·
   have h4:(2:Rat)^(-901:Int)=2*2^(-902:Int):=by
    rw[show(-901:Int)=1+(-902) by omega,wA];rfl
   have h5:=jl (show(-969:Int)<=-902 by omega);have h6:=wB (-902);have hA:(2:Rat)^(-901:Int)<=v (idx a)\/v (idx a)<=-(2:Rat)^(-901:Int):=by
    rw[<-KA 122 (by omega) (-901) (by omega)];rcases ha9 with h|h
    ·exact .inl (v_le h)
    ·right;rw[<-wQ];exact v_le h
   have hx:v (idx a)=v (idx a)/v (idx b)*v (idx b):=by grind
   generalize v (idx a)/v (idx b)=X at *;have hq2:(X<2*v (idx q)/\0<X)\/(2*v (idx q)<X/\X<0):=by
    rcases h with h|h
    ·have:=hR.half (by unfold p901 pw at h;omega);exact .inl ⟨this.1,this.2.1⟩
    ·have:=hR.neg.half (by unfold p901 pw at h;omega);rw[wQ] at this;exact .inr ⟨by grind,by grind⟩
   refine MU.prod ?_;generalize v (idx a)=A at *;generalize v (idx q)=Q at *;generalize v (idx b)=B at *;rcases Decidable.em (0<=B) with hB|hB
   ·have hB':0<B:=by grind
    rcases hq2 with⟨k1,k2⟩|⟨k1,k2⟩
    ·have m1:=Rat.mul_lt_mul_of_pos_right k1 hB';have m2:=Rat.mul_pos k2 hB';left;grind
    ·have m1:=Rat.mul_lt_mul_of_pos_right k1 hB';have m2:=Rat.mul_lt_mul_of_pos_right k2 hB';right;grind
   ·have hB':0 < -B:=by grind
    rcases hq2 with⟨k1,k2⟩|⟨k1,k2⟩
    ·have m1:=Rat.mul_lt_mul_of_pos_right k1 hB';have m2:=Rat.mul_pos k2 hB';right;grind
    ·have m1:=Rat.mul_lt_mul_of_pos_right k1 hB';have m2:=Rat.mul_lt_mul_of_pos_right k2 hB';left;grind
 obtain⟨s1,s2⟩:=Nr.sign ((mu_v _).sub hmu);refine⟨r,er,Nr.lt,Nr.num,?_,?_⟩
 ·rw[s1];constructor<;>intro h<;>grind
 ·rw[s2];constructor<;>intro h<;>grind
theorem Hm {a s:Nat}(ha:Fin a)(h0:0<=idx a)(hbig:idx a=0\/p901<=idx a)(hs:double.sqrt a=some s) :
  NearRt (v (idx a)) s/\∃r,double.fma (fneg s) s a=some r/\(idx r<0↔v (idx a)<v (idx s)*v (idx s))/\(0<idx r↔v (idx s)*v (idx s)<v (idx a)):=by
 obtain⟨s',e,N⟩:=Xw ha h0;rw[hs] at e;cases e;refine⟨N,?_⟩;obtain⟨r,er,Nr⟩:=yt (yr N.lt N.fin) N.fin ha;rw[(jt N.lt).1,wQ] at Nr;have hy : -v (idx s)*v (idx s)+v (idx a)=v (idx a)-v (idx s)*v (idx s):=by grind
 rw[hy] at Nr;have hmu:MU (v (idx s)*v (idx s)):=by
  rcases hbig with h|h
  ·have ha0:v (idx a)=0:=by rw[h,wC]
   rw[N.zero ha0,wC,Rat.zero_mul];exact⟨0,by simp⟩
  ·have hA:=v_le h;rw[KA 122 (by omega) (-901) (by omega)] at hA;have hpos:0<v (idx a):=by have:=wB (-901);grind
   have h1:=N.pos hpos;have h2:=KU h1;have h3:=N.hi;have h4:(2:Rat)^(-901:Int)=4*2^(-903:Int):=by
    rw[show(-901:Int)=2+(-903) by omega,wA];rfl
   have h5:=jl (show(-969:Int)<=-903 by omega);refine MU.prod (.inl ?_);have h6:=v_le (i:=0) (j:=idx s+1) (by omega);rw[wC] at h6;have h7:=K8 h6 h2;grind
 obtain⟨s1,s2⟩:=Nr.sign ((mu_v _).sub hmu);refine⟨r,er,?_,?_⟩
 ·rw[s1];constructor<;>intro h<;>grind
 ·rw[s2];constructor<;>intro h<;>grind
/-! The sorts of numbers: plain ones by their index,the others by their sort;rounded in a direction. -/
def p0:Int:=123*2^52
def p1:Int:=1923*2^52
theorem zgt:p0=pw 123:=by unfold p0 pw;omega
theorem zcP:p1=pw 1923:=by unfold p1 pw;omega
theorem qd:1<p0/\p0<p1/\p1+1<inf:=by unfold p0 p1 inf;omega
theorem v_p0:v p0=(2:Rat)^(-900:Int):=by rw[zgt,v_pw 123 (by omega)];rfl
theorem v_p1:v p1=(2:Rat)^(900:Int):=by rw[zcP,v_pw 1923 (by omega)];rfl
def ok (i:Int):Prop:=i=0\/(p0<=i/\i<=p1)\/(-p1<=i/\i<=-p0)
instance (i:Int):Decidable (ok i):=by unfold ok;infer_instance
theorem xV {i:Int}(h:ok i):ok (-i):=by unfold ok at *;omega
def K (i:Int):Int:=
 if i=0 then 0 else if 0<i then (if i<p0 then 1 else if p1<i then p1+1 else i) else (if -p0<i then -1 else if i < -p1 then -(p1+1) else i)
theorem kh {i j:Int}(h:i<=j):K i<=K j:=by
 have:=qd;unfold K;split<;>split<;>(try split)<;>(try split)<;>(try split)<;>(try split)<;>(try split)<;>(try split)<;>omega
theorem zlR (i:Int):K (-i) = -K i:=by
 have:=qd;unfold K;split<;>split<;>(try split)<;>(try split)<;>(try split)<;>(try split)<;>(try split)<;>(try split)<;>omega
theorem K_ok (i:Int):(ok (K i)↔ok i)/\(ok i->K i=i):=by
 have:=qd;unfold K ok;split<;>(try split)<;>(try split)<;>(try split)<;>omega
def DnK (x:Rat)(k:Int):Prop:=
 (x=0/\k=0)\/(0<x/\x<v p0/\k=1)\/(v p0<=x/\x<v (p1+1)/\Dn x k)\/(v (p1+1)<=x/\k=p1+1) \/
 (v (-p0+1)<=x/\x<0/\k = -1)\/(v (-p1)<=x/\x<v (-p0+1)/\Dn x k)\/(x<v (-p1)/\k = -(p1+1))
def UpK (x:Rat)(k:Int):Prop:=DnK (-x) (-k)
theorem vs:v (-p1)<v (-p0+1)/\v (-p0+1)<0/\0<v p0/\v p0<v (p1+1):=by
 have:=qd;have h1:=v_lt (i:=-p1) (j:=-p0+1) (by omega);have h2:=v_lt (i:=-p0+1) (j:=0) (by omega);have h3:=v_lt (i:=0) (j:=p0) (by omega);have h4:=v_lt (i:=p0) (j:=p1+1) (by omega);rw[wC] at h2 h3;exact⟨h1,h2,h3,h4⟩
theorem Dn.ge {x:Rat}{k j:Int}(h:Dn x k)(hj:v j<=x):j<=k:=by
 have h1:=h.2;have:=jf.1 (show v j<v (k+1) by grind);omega
theorem Dn.lt {x:Rat}{k j:Int}(h:Dn x k)(hj:x<v j):k<j:=by
 have h1:=h.1;exact jf.1 (show v k<v j by grind)
theorem DnK.mono {x y:Rat}{k l:Int}(h:DnK x k)(g:DnK y l)(hxy:x<=y):k<=l:=by
 obtain⟨b1,b2,b3,b4⟩:=vs;have c:=qd;have r3:∀ {z:Rat} {m:Int},v p0<=z->z<v (p1+1)->Dn z m->p0<=m/\m<=p1:=fun h1 h2 h3=>⟨h3.ge h1,by have:=h3.lt h2;omega⟩
 have r6:∀ {z:Rat} {m:Int},v (-p1)<=z->z<v (-p0+1)->Dn z m->-p1<=m/\m<=-p0:=fun h1 h2 h3=>⟨h3.ge h1,by have:=h3.lt h2;omega⟩
 have rr:∀ {z w:Rat} {m n:Int},Dn z m->Dn w n->z<=w->m<=n:=fun h1 h2 h3=>h2.ge (by have:=h1.1;grind)
 unfold DnK at h g;generalize v (-p1)=A at *;generalize v (-p0+1)=B at *;generalize v p0=D at *;generalize v (p1+1)=E at *;generalize p0=P at *;generalize p1=Q at *;rcases h with⟨h1,h2⟩|⟨h1,h2,h3⟩|⟨h1,h2,h3⟩|⟨h1,h2⟩|⟨h1,h2,h3⟩|⟨h1,h2,h3⟩|⟨h1,h2⟩ <;>
 rcases g with⟨g1,g2⟩|⟨g1,g2,g3⟩|⟨g1,g2,g3⟩|⟨g1,g2⟩|⟨g1,g2,g3⟩|⟨g1,g2,g3⟩|⟨g1,g2⟩ <;>
 first
 |exact rr h3 g3 hxy
 |(exfalso;grind;done)
 |(have a1:=r3 h1 h2 h3;have a2:=r3 g1 g2 g3;omega)
 |(have a1:=r6 h1 h2 h3;have a2:=r3 g1 g2 g3;omega)
 |(have a1:=r3 h1 h2 h3;have a2:=r6 g1 g2 g3;omega)
 |(have a1:=r3 h1 h2 h3;omega)
 |(have a1:=r6 h1 h2 h3;omega)
 |(have a2:=r3 g1 g2 g3;omega)
 |(have a2:=r6 g1 g2 g3;omega)
 |omega
theorem DnK.uniq {x:Rat}{k l:Int}(h:DnK x k)(g:DnK x l):k=l:=by
 have:=h.mono g Rat.le_refl;have:=g.mono h Rat.le_refl;omega
theorem UpK.mono {x y:Rat}{k l:Int}(h:UpK x k)(g:UpK y l)(hxy:x<=y):k<=l:=by
 have:=DnK.mono g h (by grind);omega
theorem UpK.uniq {x:Rat}{k l:Int}(h:UpK x k)(g:UpK x l):k=l:=by
 have:=DnK.uniq h g;omega
theorem zu {x:Rat}{i:Int}(h:Dn x i)(hx:x=0\/v 1<=x\/x<0):DnK x (K i):=by
 obtain⟨b1,b2,b3,b4⟩:=vs;have c:=qd;have z1:=v_lt (i:=0) (j:=1) (by omega);rw[wC] at z1;rcases hx with hx|hx|hx
 ·subst hx;left;have h1:=h.ge (j:=0) (by rw[wC];exact Rat.le_refl);have h2:=h.lt (j:=1) z1;have:i=0:=by omega
  subst this;exact⟨rfl,rfl⟩
 ·have h1:=h.ge hx;rcases Decidable.em (x<v p0) with g|g
  ·right;left;have h2:=h.lt g;refine⟨by grind,g,?_⟩;unfold K;rw[if_neg (by omega),if_pos (by omega),if_pos h2]
  ·rcases Decidable.em (x<v (p1+1)) with g2|g2
   ·right;right;left;have h2:=h.ge (Rat.not_lt.1 g);have h3:=h.lt g2;have e:K i=i:=by unfold K;rw[if_neg (by omega),if_pos (by omega),if_neg (by omega),if_neg (by omega)]
    exact⟨Rat.not_lt.1 g,g2,by rw[e];exact h⟩
   ·right;right;right;left;have h2:=h.ge (Rat.not_lt.1 g2);refine⟨Rat.not_lt.1 g2,?_⟩;unfold K;rw[if_neg (by omega),if_pos (by omega),if_neg (by omega),if_pos (by omega)]
 ·have h1:=h.lt (j:=0) (by rw[wC];exact hx);rcases Decidable.em (x<v (-p1)) with g|g
  ·right;right;right;right;right;right;have h2:=h.lt g;refine⟨g,?_⟩;unfold K;rw[if_neg (by omega),if_neg (by omega),if_neg (by omega),if_pos (by omega)]
  ·rcases Decidable.em (x<v (-p0+1)) with g2|g2
   ·right;right;right;right;right;left;have h2:=h.ge (Rat.not_lt.1 g);have h3:=h.lt g2;have e:K i=i:=by unfold K;rw[if_neg (by omega),if_neg (by omega),if_neg (by omega),if_neg (by omega)]
    exact⟨Rat.not_lt.1 g,g2,by rw[e];exact h⟩
   ·right;right;right;right;left;have h2:=h.ge (Rat.not_lt.1 g2);refine⟨Rat.not_lt.1 g2,hx,?_⟩;unfold K;rw[if_neg (by omega),if_neg (by omega),if_pos (by omega)]
theorem Up.neg {x:Rat}{i:Int}(h:Up x i):Dn (-x) (-i):=by
 obtain⟨h1,h2⟩:=h;refine⟨by rw[wQ];grind,?_⟩;rw[show -i+1 = -(i-1) by omega,wQ];grind
theorem Wt {x:Rat}{i:Int}(h:Up x i)(hx:x=0\/0<x\/x<=v (-1)):UpK x (K i):=by
 unfold UpK;rw[<-zlR];refine zu h.neg ?_;rw[wQ] at hx;rcases hx with h|h|h
 ·left;grind
 ·right;right;grind
 ·right;left;grind
theorem DnK.val {x:Rat}{k:Int}(h:DnK x k)(hk:ok k):v k<=x/\x<v (k+1):=by
 have c:=qd;unfold ok at hk;rcases h with⟨h1,h2⟩|⟨h1,h2,h3⟩|⟨h1,h2,h3⟩|⟨h1,h2⟩|⟨h1,h2,h3⟩|⟨h1,h2,h3⟩|⟨h1,h2⟩
 ·subst h1 h2;have:=v_lt (i:=0) (j:=0+1) (by omega);rw[wC] at this ⊢;exact⟨Rat.le_refl,this⟩
 ·omega
 ·exact h3
 ·omega
 ·omega
 ·exact h3
 ·omega
theorem UpK.val {x:Rat}{k:Int}(h:UpK x k)(hk:ok k):v (k-1)<x/\x<=v k:=by
 have:=DnK.val h (xV hk);rw[wQ,show -k+1 = -(k-1) by omega,wQ] at this;exact⟨by grind,by grind⟩
theorem kT {k:Int}(hk:ok k):DnK (v k) k:=by
 have h:Dn (v k) k:=⟨Rat.le_refl,v_lt (by omega)⟩;have:=zu h (by
  rcases Int.lt_trichotomy k 0 with g|g|g
  ·right;right;have:=v_lt g;rwa [wC] at this
  ·left;rw[g,wC]
  ·right;left;exact v_le (by omega))
 rwa [(K_ok k).2 hk] at this
theorem KW {k:Int}(hk:ok k):UpK (v k) k:=by
 unfold UpK;rw[<-wQ];exact kT (xV hk)
/-! The operations of package exact,on bits. -/
def OkB (b:Nat):Prop:=b<2^64/\ok (idx b)
theorem OkB.fin {b:Nat}(h:OkB b):Fin b:=by
 have:=qd;have:=h.2;unfold ok at this;exact kd.2 (by omega)
theorem OkB.bound {b:Nat}(h:OkB b) : -(2:Rat)^(((1923:Nat):Int)-1023)<=v (idx b)/\v (idx b)<=2^(((1923:Nat):Int)-1023):=by
 have h1:=qd;have h2:=h.2;unfold ok at h2;rw[<-v_pw 1923 (by omega),<-zcP,<-wQ];exact⟨v_le (by omega),v_le (by omega)⟩
theorem zau {a b:Nat}(ha:OkB a)(hb:OkB b):∃s t c d f r,double.add a b=some s/\double.sub s a=some t/\double.sub s t=some c/\double.sub a c=some d/\double.sub b t=some f/\double.add d f=some r /\
  s<2^64/\Fin s/\Num r/\(Dn (v (idx a)+v (idx b)) (idx (side s r (-1)))/\side s r (-1)<2^64)/\Up (v (idx a)+v (idx b)) (idx (side s r 1))/\side s r 1<2^64:=by
 have fa:=ha.fin;have fb:=hb.fin;obtain⟨ba1,ba2⟩:=ha.bound;obtain⟨bb1,bb2⟩:=hb.bound;have pe:∀k:Nat,(2:Rat)^(((1923+(k+1):Nat):Int)-1023)=2*2^(((1923+k:Nat):Int)-1023):=fun k=>by
  rw[show(((1923+(k+1):Nat):Int)-1023)=1+(((1923+k:Nat):Int)-1023) by omega,wA];rfl
 have p0:=wB (((1923:Nat):Int)-1023);have q1:=pe 0;have q2:=pe 1;have q3:=pe 2;have q4:=pe 3;have q5:=pe 4;simp only[Nat.reduceAdd] at q1 q2 q3 q4 q5;rw[q1] at q2;rw[q2] at q3;rw[q3] at q4;rw[q4] at q5;generalize hA:v (idx a)=A at *;generalize hB:v (idx b)=B at *;generalize hP:(2:Rat)^(((1923:Nat):Int)-1023)=P at *;obtain⟨s,es,Ns⟩:=vS fa fb;rw[hA,hB] at Ns;obtain⟨fs,rs,bs1,bs2,ls⟩:=Ns.fin (n:=1924) (by omega) (by omega) (by rw[q1];grind) (by rw[q1];grind);rw[q1] at bs1 bs2;obtain⟨t,et,Nt⟩:=qr fs fa;rw[hA] at Nt;generalize hS:v (idx s)=S' at *;obtain⟨ft,rt,bt1,bt2,_⟩:=Nt.fin (n:=1925) (by omega) (by omega) (by rw[q2];grind) (by rw[q2];grind);rw[q2] at bt1 bt2;obtain⟨c,ec,Nc⟩:=qr fs ft;rw[hS] at Nc;generalize hT:v (idx t)=T' at *;obtain⟨fc,rc,bc1,bc2,_⟩:=Nc.fin (n:=1926) (by omega) (by omega) (by rw[q3];grind) (by rw[q3];grind);rw[q3] at bc1 bc2;obtain⟨d,ed,Nd⟩:=qr fa fc;rw[hA] at Nd;generalize hC:v (idx c)=C' at *;obtain⟨fd,rd,bd1,bd2,_⟩:=Nd.fin (n:=1927) (by omega) (by omega) (by rw[q4];grind) (by rw[q4];grind);rw[q4] at bd1 bd2;obtain⟨f,ef,Nf⟩:=qr fb ft;rw[hB,hT] at Nf;obtain⟨ff,rf,bf1,bf2,_⟩:=Nf.fin (n:=1926) (by omega) (by omega) (by rw[q3];grind) (by rw[q3];grind);rw[q3] at bf1 bf2;obtain⟨r,er,Nr⟩:=vS fd ff;generalize hD:v (idx d)=D' at *;generalize hF:v (idx f)=F' at *;obtain⟨fr,rr,_,_,lr⟩:=Nr.fin (n:=1928) (by omega) (by omega) (by rw[q5];grind) (by rw[q5];grind);have two:=Vp (n:=1923) (by omega) (by omega) fa fb ⟨by rw[hA,hP];exact ba1,by rw[hA,hP];exact ba2⟩ ⟨by rw[hB,hP];exact bb1,by rw[hB,hP];exact bb2⟩ es et ec ed ef er;obtain⟨_,_,_,hv,_,_⟩:=two;rw[hA,hB,hS] at hv;have z:=wC;refine⟨s,t,c,d,f,r,es,et,ec,ed,ef,er,ls,fs,fr.num,?_,?_⟩
 ·refine yP ls fs rs ?_;rw[<-jf (i:=idx r) (j:=0),hv,z,hS];constructor<;>intro h<;>grind
 ·refine yO ls fs rs ?_;rw[<-jf (i:=0) (j:=idx r),hv,z,hS];constructor<;>intro h<;>grind
theorem MU.class {x:Rat}(h:MU x):(x=0\/v 1<=x\/x<0)/\(x=0\/0<x\/x<=v (-1)):=by
 rw[wQ];constructor
 ·rcases Decidable.em (0<x) with h1|h1
  ·exact .inr (.inl (h.pos h1))
  ·rcases Decidable.em (x=0) with h2|h2
   ·exact .inl h2
   ·exact .inr (.inr (by grind))
 ·rcases Decidable.em (x<0) with h1|h1
  ·have:=h.neg.pos (by grind);exact .inr (.inr (by grind))
  ·rcases Decidable.em (x=0) with h2|h2
   ·exact .inl h2
   ·exact .inr (.inl (by grind))
theorem MU.add {x y:Rat}(h:MU x)(k:MU y):MU (x+y):=by
 obtain⟨a,rfl⟩:=h;obtain⟨b,rfl⟩:=k;exact⟨a+b,by push_cast;grind⟩
/-! Products and quotients at the corners: rounded in a direction,or too small,or too great. -/
def Odd (p:Nat)(zero:Prop):Prop:=(idx p≠0/\-p901<idx p/\idx p<p901)\/p % 2^63=inf\/(idx p=0/\¬zero)
def kv (p:Nat)(neg:Bool):Nat:=if p % 2^63=inf then p else if neg then 2^63+1 else 1
theorem KB:2<p901/\p901+1<p0:=by unfold p901 pw p0;omega
theorem idx1:idx 1=1/\idx (2^63+1) = -1:=⟨xJ (by omega),zi (by omega)⟩
theorem K1:K 1=1/\K (-1) = -1/\K inf=p1+1/\K (-(inf:Int)) = -(p1+1):=by
 have h:=qd;refine⟨?_,?_,?_,?_⟩
 ·unfold K;rw[if_neg (by omega),if_pos (by omega),if_pos (by omega)]
 ·unfold K;rw[if_neg (by omega),if_neg (by omega),if_pos (by omega)]
 ·unfold K;rw[if_neg (by omega),if_pos (by omega),if_neg (by omega),if_pos (by omega)]
 ·unfold K;rw[if_neg (by omega),if_neg (by omega),if_neg (by omega),if_pos (by omega)]
theorem JS {X:Rat}(h:0<X)(h2:X<=v (p0-1)):DnK X 1/\UpK X 1:=by
 have:=v_lt (i:=p0-1) (j:=p0) (by omega);refine⟨.inr (.inl ⟨h,by grind,rfl⟩),.inr (.inr (.inr (.inr (.inl ⟨?_,by grind,rfl⟩))))⟩;rw[show -p0+1 = -(p0-1) by omega,wQ];grind
theorem Xn {X:Rat}(h:X<0)(h2:v (-p0+1)<=X):DnK X (-1)/\UpK X (-1):=by
 rw[show -p0+1 = -(p0-1) by omega,wQ] at h2;have:=JS (X:=-X) (by grind) (by grind);refine⟨?_,by unfold UpK;exact this.1⟩;have h3:=this.2;unfold UpK at h3
 rwa [Rat.neg_neg] at h3
theorem XY {X:Rat}(h:v (p1+1)<=X):DnK X (p1+1)/\UpK X (p1+1):=by
 refine⟨.inr (.inr (.inr (.inl ⟨h,rfl⟩))),.inr (.inr (.inr (.inr (.inr (.inr ⟨?_,rfl⟩)))))⟩;have:=v_lt (i:=p1) (j:=p1+1) (by omega);rw[wQ];grind
theorem Xo {X:Rat}(h:X<=v (-(p1+1))):DnK X (-(p1+1))/\UpK X (-(p1+1)):=by
 rw[wQ] at h;have:=XY (X:=-X) (by grind);refine⟨?_,by unfold UpK;rw[Int.neg_neg];exact this.1⟩;have h3:=this.2;unfold UpK at h3
 rwa [Rat.neg_neg] at h3
theorem XJ {X:Rat}{p:Nat}{zero:Prop}{neg:Bool}(N:Near X p)(h:Odd p zero)(hz:X=0->zero)(hn:X<0->neg=true)(hp:0<X->neg=false) :
  DnK X (K (idx (kv p neg)))/\UpK X (K (idx (kv p neg)))/\kv p neg<2^64/\Num (kv p neg):=by
 have h1:=qd;have h9:=KB;have hil:=yn;obtain⟨⟨i,hi,hc⟩,hl,hnum⟩:=N;have lt:=hi.lt1;have num1:Num 1/\Num (2^63+1):=by decide
 have small:¬p % 2^63=inf->X≠0->-p901<=i->i<=p901->DnK X (K (idx (kv p neg)))/\UpK X (K (idx (kv p neg)))/\kv p neg<2^64/\Num (kv p neg):=by
  intro g0 g1 g2 g3;unfold kv;rw[if_neg g0];have u1:=v_le (i:=i+1) (j:=p0-1) (by omega);have u2:=v_le (i:=-p0+1) (j:=i-1) (by omega);rcases Decidable.em (X<0) with gx|gx
  ·rw[hn gx];simp only[if_true];rw[idx1.2,K1.2.1];obtain⟨k1,k2⟩:=Xn gx (by grind);exact⟨k1,k2,by omega,num1.2⟩
  ·rw[hp (by grind)];simp only[Bool.false_eq_true,if_false];rw[idx1.1,K1.1];obtain⟨k1,k2⟩:=JS (X:=X) (by grind) (by grind);exact⟨k1,k2,by omega,num1.1⟩
 have big:p % 2^63=inf->DnK X (K (idx (kv p neg)))/\UpK X (K (idx (kv p neg)))/\kv p neg<2^64/\Num (kv p neg):=by
  intro g0;unfold kv;rw[if_pos g0];have hidx:idx p=if sgn p then -(inf:Int) else inf:=by rw[jB,g0]
  cases hs:sgn p with
  |false=>
   rw[hs] at hidx;simp only[Bool.false_eq_true,if_false] at hidx;have hge:(inf:Int)<=i:=by unfold clamp at hc;omega
   have:=v_le (i:=p1+1) (j:=i-1) (by omega);rw[hidx,K1.2.2.1];obtain⟨k1,k2⟩:=XY (X:=X) (by grind);exact⟨k1,k2,hl,hnum⟩
  |true=>
   rw[hs] at hidx;simp only[if_true] at hidx;have hge:i<=-(inf:Int):=by unfold clamp at hc;omega
   have:=v_le (i:=i+1) (j:=-(p1+1)) (by omega);rw[hidx,K1.2.2.2];obtain⟨k1,k2⟩:=Xo (X:=X) (by grind);exact⟨k1,k2,hl,hnum⟩
 have notinf:idx p<inf->-(inf:Int)<idx p->¬p % 2^63=inf:=by
  intro g1 g2 g3;have hidx:idx p=if sgn p then -(inf:Int) else inf:=by rw[jB,g3]
  split at hidx<;>omega
 rcases h with⟨h2,h3,h4⟩|h2|⟨h2,h3⟩
 ·have hci:i=idx p:=by unfold clamp at hc;omega
  refine small (notinf (by omega) (by omega)) (fun e=>?_) (by omega) (by omega);have:i=0:=hi.uniq (by rw[e];have:=IsR.self 0;rwa [wC] at this);omega
 ·exact big h2
 ·have hci:i=0:=by unfold clamp at hc;omega
  exact small (notinf (by omega) (by omega)) (fun e=>h3 (hz e)) (by omega) (by omega)
theorem J8 {X:Rat}{p l h:Nat}(hR:IsR X (idx p))(hp:X=0\/2<=idx p\/idx p<=-2)(hl:Dn X (idx l))(hh:Up X (idx h)):DnK X (K (idx l))/\UpK X (K (idx h)):=by
 have lt:=hR.lt1;have c:(X=0\/v 1<=X\/X<0)/\(X=0\/0<X\/X<=v (-1)):=by
  rcases hp with h|h|h
  ·exact⟨.inl h,.inl h⟩
  ·have h1:=v_le (i:=1) (j:=idx p-1) (by omega);have h2:=v_lt (i:=0) (j:=1) (by omega);rw[wC] at h2;exact⟨.inr (.inl (by grind)),.inr (.inl (by grind))⟩
  ·have h1:=v_le (i:=idx p+1) (j:=-1) (by omega);have h2:=v_lt (i:=-1) (j:=0) (by omega);rw[wC] at h2;exact⟨.inr (.inr (by grind)),.inr (.inr (by grind))⟩
 exact⟨zu hl c.1,Wt hh c.2⟩
theorem yx {p:Nat}(hn:Num p){z:Prop}(h:¬Odd p z):Fin p:=by
 unfold Odd at h;unfold Num at hn;unfold Fin;have:¬p % 2^63=inf:=fun e=>h (.inr (.inl e))
 omega
theorem Qz {a b:Nat}(ha:OkB a)(hb:OkB b):∃p,double.mul a b=some p/\p<2^64/\Num p /\
  (¬Odd p (idx a=0\/idx b=0)->Fin p/\∃r,double.fma a b (fneg p)=some r/\Num r/\DnK (v (idx a)*v (idx b)) (K (idx (side p r (-1))))/\UpK (v (idx a)*v (idx b)) (K (idx (side p r 1)))/\side p r (-1)<2^64/\side p r 1<2^64) /\
  (Odd p (idx a=0\/idx b=0)->DnK (v (idx a)*v (idx b)) (K (idx (kv p (decide (idx a<0) != decide (idx b<0)))))/\UpK (v (idx a)*v (idx b)) (K (idx (kv p (decide (idx a<0) != decide (idx b<0))))) /\
   kv p (decide (idx a<0) != decide (idx b<0))<2^64/\Num (kv p (decide (idx a<0) != decide (idx b<0)))):=by
 obtain⟨p,ep,N⟩:=Yp ha.fin hb.fin;refine⟨p,ep,N.lt,N.num,fun hno=>?_,fun ho=>?_⟩
 ·have fp:=yx N.num hno;have h9:=KB;have hbig:v (idx a)*v (idx b)=0\/p901<=idx p\/idx p<=-p901:=by
   unfold Odd at hno;rcases Decidable.em (idx a=0\/idx b=0) with h|h
   ·left;rcases h with h|h<;>rw[h,wC]<;>simp
   ·right;rcases Decidable.em (p901<=idx p\/idx p<=-p901) with g|g
    ·exact g
    ·exfalso;apply hno;rcases Decidable.em (idx p=0) with g0|g0
     ·exact .inr (.inr ⟨g0,h⟩)
     ·exact .inl ⟨g0,by omega,by omega⟩
  obtain⟨hR,hl,r,er,s1,s2⟩:=zaN ha.fin hb.fin ep fp hbig;obtain⟨r',er',Nr⟩:=yt ha.fin hb.fin (yr hl fp);rw[er] at er';cases er';have d:=yP hl fp hR s1;have u:=yO hl fp hR s2;obtain⟨k1,k2⟩:=J8 hR (by rcases hbig with h|h|h<;>first|exact .inl h|exact .inr (.inl (by omega))|exact .inr (.inr (by omega))) d.1 u.1;exact⟨fp,r,er,Nr.num,k1,k2,d.2,u.2⟩
 ·have z:=wC;have sgn':∀i:Int,(v i<0↔i<0)/\(0<v i↔0<i)/\(v i=0↔i=0):=fun i=>by
   rw[<-z,jf,jf];exact⟨Iff.rfl,Iff.rfl,fun h=>Wh h,fun h=>by rw[h]⟩
  have sa:=sgn' (idx a);have sb:=sgn' (idx b);refine XJ N ho (fun h=>?_) (fun h=>?_) (fun h=>?_)
  ·rcases Rat.mul_eq_zero.1 h with h|h
   ·exact .inl (sa.2.2.1 h)
   ·exact .inr (sb.2.2.1 h)
  ·rcases Int.lt_trichotomy (idx a) 0 with g|g|g<;>rcases Int.lt_trichotomy (idx b) 0 with k|k|k
   ·exfalso;have:=Rat.mul_pos (show 0 < -v (idx a) by have:=sa.1.2 g;grind) (show 0 < -v (idx b) by have:=sb.1.2 k;grind);grind
   ·exfalso;rw[sb.2.2.2 k] at h;grind
   ·simp[g];omega
   ·exfalso;rw[sa.2.2.2 g] at h;grind
   ·exfalso;rw[sa.2.2.2 g] at h;grind
   ·exfalso;rw[sa.2.2.2 g] at h;grind
   ·simp[k];omega
   ·exfalso;rw[sb.2.2.2 k] at h;grind
   ·exfalso;have:=Rat.mul_pos (sa.2.1.2 g) (sb.2.1.2 k);grind
  ·rcases Int.lt_trichotomy (idx a) 0 with g|g|g<;>rcases Int.lt_trichotomy (idx b) 0 with k|k|k
   ·simp[g,k]
   ·exfalso;rw[sb.2.2.2 k] at h;grind
   ·exfalso;have:=Rat.mul_pos (show 0 < -v (idx a) by have:=sa.1.2 g;grind) (sb.2.1.2 k);grind
   ·exfalso;rw[sa.2.2.2 g] at h;grind
   ·exfalso;rw[sa.2.2.2 g] at h;grind
   ·exfalso;rw[sa.2.2.2 g] at h;grind
   ·exfalso;have:=Rat.mul_pos (sa.2.1.2 g) (show 0 < -v (idx b) by have:=sb.1.2 k;grind);grind
   ·exfalso;rw[sb.2.2.2 k] at h;grind
   ·simp;omega
theorem Uc {a b:Nat}(ha:OkB a)(hb:OkB b)(hb0:idx b≠0):∃q,double.div a b=some q/\q<2^64/\Num q /\
  (¬Odd q (idx a=0)->Fin q/\∃r,double.fma (fneg q) b a=some r/\r<2^64/\Num r/\DnK (v (idx a)/v (idx b)) (K (idx (side q (if idx b<0 then fneg r else r) (-1))))/\UpK (v (idx a)/v (idx b)) (K (idx (side q (if idx b<0 then fneg r else r) 1))) /\
   side q (if idx b<0 then fneg r else r) (-1)<2^64/\side q (if idx b<0 then fneg r else r) 1<2^64) /\
  (Odd q (idx a=0)->DnK (v (idx a)/v (idx b)) (K (idx (kv q (decide (idx a<0) != decide (idx b<0)))))/\UpK (v (idx a)/v (idx b)) (K (idx (kv q (decide (idx a<0) != decide (idx b<0))))) /\
   kv q (decide (idx a<0) != decide (idx b<0))<2^64/\Num (kv q (decide (idx a<0) != decide (idx b<0)))):=by
 have z:=wC;have sgn':∀i:Int,(v i<0↔i<0)/\(0<v i↔0<i)/\(v i=0↔i=0):=fun i=>by
  rw[<-z,jf,jf];exact⟨Iff.rfl,Iff.rfl,fun h=>Wh h,fun h=>by rw[h]⟩
 have sa:=sgn' (idx a);have sb:=sgn' (idx b);have hvb:v (idx b)≠0:=fun h=>hb0 (sb.2.2.1 h)
 have hx:v (idx a)=v (idx a)/v (idx b)*v (idx b):=by grind
 obtain⟨q,eq,N⟩:=vO ha.fin hb.fin hb0;refine⟨q,eq,N.lt,N.num,fun hno=>?_,fun ho=>?_⟩
 ·have fq:=yx N.num hno;have h9:=KB;have hA:idx a=0\/(p901<=idx a\/idx a<=-p901):=by
   have h1:=qd;have h2:=ha.2;unfold ok at h2;omega
  have hbig:idx a=0\/((p901<=idx q\/idx q<=-p901)/\(p901<=idx a\/idx a<=-p901)):=by
   unfold Odd at hno;rcases Decidable.em (idx a=0) with h|h
   ·exact .inl h
   ·right;refine⟨?_,hA.resolve_left h⟩;rcases Decidable.em (p901<=idx q\/idx q<=-p901) with g|g
    ·exact g
    ·exfalso;apply hno;rcases Decidable.em (idx q=0) with g0|g0
     ·exact .inr (.inr ⟨g0,h⟩)
     ·exact .inl ⟨g0,by omega,by omega⟩
  obtain⟨hR,hl,r,er,lr,nr,s1,s2⟩:=zah ha.1 ha.fin hb.fin hb0 eq fq hbig;have hsign:(idx (if idx b<0 then fneg r else r)<0↔v (idx a)/v (idx b)<v (idx q))/\(0<idx (if idx b<0 then fneg r else r)↔v (idx q)<v (idx a)/v (idx b)):=by
   generalize v (idx a)/v (idx b)=X at *;generalize v (idx q)=Q at *;rcases Int.lt_trichotomy (idx b) 0 with g|g|g
   ·rw[if_pos g,(jt lr).1];have hB:0 < -v (idx b):=by have:=sb.1.2 g;grind
    have i1:∀Y Z:Rat,Y<Z↔Z*v (idx b)<Y*v (idx b):=fun Y Z=>by
     rw[<-Rat.mul_lt_mul_right hB];constructor<;>intro h<;>grind
    rw[i1 X Q,i1 Q X,<-hx,<-s1,<-s2];omega
   ·exact absurd g hb0
   ·rw[if_neg (by omega)];have hB:=sb.2.1.2 g;rw[<-Rat.mul_lt_mul_right (a:=X) (b:=Q) hB,<-Rat.mul_lt_mul_right (a:=Q) (b:=X) hB,<-hx,<-s1,<-s2];omega
  have d:=yP hl fq hR hsign.1;have u:=yO hl fq hR hsign.2;have hX0:idx a=0->v (idx a)/v (idx b)=0:=fun h=>by rw[h,z,Rat.div_def,Rat.zero_mul]
  obtain⟨k1,k2⟩:=J8 hR (by rcases hbig with h|⟨h|h,_⟩<;>first|exact .inl (hX0 h)|exact .inr (.inl (by omega))|exact .inr (.inr (by omega))) d.1 u.1;exact⟨fq,r,er,lr,nr,k1,k2,d.2,u.2⟩
 ·generalize v (idx a)/v (idx b)=X at *;refine XJ N ho (fun h=>?_) (fun h=>?_) (fun h=>?_)
  ·exact sa.2.2.1 (by rw[hx,h,Rat.zero_mul])
  ·rcases Int.lt_trichotomy (idx b) 0 with k|k|k
   ·have:=Rat.mul_pos (show 0 < -X by grind) (show 0 < -v (idx b) by have:=sb.1.2 k;grind);have h1:=sa.2.1.1 (by grind);simp[k];omega
   ·exact absurd k hb0
   ·have:=Rat.mul_pos (show 0 < -X by grind) (sb.2.1.2 k);have h1:=sa.1.1 (by grind);simp[h1];omega
  ·rcases Int.lt_trichotomy (idx b) 0 with k|k|k
   ·have:=Rat.mul_pos h (show 0 < -v (idx b) by have:=sb.1.2 k;grind);have h1:=sa.1.1 (by grind);simp[k,h1]
   ·exact absurd k hb0
   ·have:=Rat.mul_pos h (sb.2.1.2 k);have h1:=sa.2.1.1 (by grind);simp;omega
end Go.Enc.Fl
