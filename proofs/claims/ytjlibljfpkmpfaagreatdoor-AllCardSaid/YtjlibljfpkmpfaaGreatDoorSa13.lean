/-
  The document's exact numbers as plain functions: sums, products, order; rounding.
-/
import Derived.Test.YtjlibljfpkmpfaaGreatDoorSa10
import Derived.Test.YtjlibljfpkmpfaaGreatDoorSa12
set_option maxRecDepth 100000
set_option linter.unusedSimpArgs false
set_option linter.unusedVariables false
section
namespace Go.Enc.Nu
open Go.Enc.Fl
structure Nm where
 neg:Bool
 n:Nat
 e:Int
def nbits (n:Nat):Nat:=if n=0 then 0 else n.log2+1
theorem Zv {n k:Nat}(h1:2^k<=n)(h2:n<2^(k+1)):nbits n=k+1:=by
 have h0:n≠0:=by have:0<2^k:=Nat.pow_pos (by decide);omega
 unfold nbits;rw[if_neg h0];have a:=(Nat.le_log2 h0).2 h1;have b:=(Nat.log2_lt h0).2 h2;omega
theorem kt {n:Nat}(h:n≠0):2^(nbits n-1)<=n/\n<2^nbits n/\1<=nbits n:=by
 unfold nbits;rw[if_neg h];exact⟨by simpa using Nat.log2_self_le h,Nat.lt_log2_self,by omega⟩
theorem Vh:nbits 0=0:=rfl
def nzero:Nm:=⟨false,0,0⟩
def nneg (a:Nm):Nm:=⟨!a.neg&&decide (0<a.n),a.n,a.e⟩
def lev (a b:Nm):Int:=min a.e b.e
def at_ (a:Nm)(e:Int):Nat:=a.n*2^(a.e-e).toNat
def nsum (a b:Nm):Nm:=
 let e:=lev a b
 let x:=at_ a e
 let y:=at_ b e
 if a.neg=b.neg then ⟨a.neg,x+y,e⟩ else if x=y then nzero else if y<x then ⟨a.neg,x-y,e⟩ else ⟨b.neg,y-x,e⟩
def nprod (a b:Nm):Nm:=⟨(a.neg != b.neg)&&decide (0<a.n*b.n),a.n*b.n,a.e+b.e⟩
def nsign (a:Nm):Int:=if a.n=0 then 0 else if a.neg then -1 else 1
def nless (a b:Nm):Bool:=decide (nsign (nsum a (nneg b))<0)
def val (a:Nm):Rat:=(if a.neg then -((a.n:Nat):Rat) else ((a.n:Nat):Rat))*2^a.e
theorem jm {a:Nm}(h:a.n=0):val a=0:=by unfold val;rw[h];split<;>(simp<;>grind)
theorem xa (a:Nm):val (nneg a) = -val a:=by
 by_cases h:a.n=0
 ·rw[jm h,jm (a:=nneg a) h];grind
 ·unfold val nneg;have:decide (0<a.n)=true:=by simp;omega
  rw[this];cases a.neg<;>simp<;>grind
theorem vy (a:Nm):(nsign a<0↔val a<0)/\(nsign a=0↔val a=0)/\(0<nsign a↔0<val a):=by
 unfold nsign;by_cases h:a.n=0
 ·rw[jm h];simp[h]
 ·have hn:(0:Rat)<(a.n:Nat):=by exact_mod_cast Nat.pos_of_ne_zero h
  have hp:=wB a.e;have hm:=Rat.mul_pos hn hp;unfold val;cases a.neg<;>simp[h]<;>grind
theorem zbG {a:Nm}{e:Int}(h:e<=a.e):val a=(if a.neg then -((at_ a e:Nat):Rat) else ((at_ a e:Nat):Rat))*2^e:=by
 have:=jo a.n (a.e-e).toNat e;rw[show e+(((a.e-e).toNat:Nat):Int)=a.e by omega] at this;have h2:((at_ a e:Nat):Rat)*2^e=(a.n:Nat)*2^a.e:=by unfold at_;rw[this]
 unfold val;cases a.neg<;>simp<;>grind
theorem kj (a b:Nm):val (nsum a b)=val a+val b:=by
 have ha:=zbG (a:=a) (e:=lev a b) (by unfold lev;omega);have hb:=zbG (a:=b) (e:=lev a b) (by unfold lev;omega);rw[ha,hb];unfold nsum;simp only;generalize at_ a (lev a b)=x;generalize at_ b (lev a b)=y;generalize lev a b=e;by_cases h:a.neg=b.neg
 ·rw[if_pos h,<-h];unfold val;have:((x+y:Nat):Rat)=(x:Rat)+y:=by exact_mod_cast rfl
  simp only[this];cases a.neg<;>simp<;>grind
 ·rw[if_neg h];by_cases h2:x=y
  ·rw[if_pos h2,h2];rw[jm (a:=nzero) rfl];cases ha:a.neg<;>cases hb:b.neg<;>simp_all<;>grind
  ·rw[if_neg h2];by_cases h3:y<x
   ·rw[if_pos h3];have:((x-y:Nat):Rat)=(x:Rat)-y:=by
     have:((x-y:Nat):Rat)+y=x:=by exact_mod_cast (by omega:x-y+y=x)
     grind
    unfold val;simp only[this];cases ha:a.neg<;>cases hb:b.neg<;>simp_all<;>grind
   ·rw[if_neg h3];have:((y-x:Nat):Rat)=(y:Rat)-x:=by
     have:((y-x:Nat):Rat)+x=y:=by exact_mod_cast (by omega:y-x+x=y)
     grind
    unfold val;simp only[this];cases ha:a.neg<;>cases hb:b.neg<;>simp_all<;>grind
theorem jP (a b:Nm):nless a b=decide (val a<val b):=by
 unfold nless;have:=(vy (nsum a (nneg b))).1;rw[kj,xa] at this;congr 1;rw[eq_iff_iff,this];grind
theorem k8 (a b:Nm):val (nprod a b)=val a*val b:=by
 have h2:(2:Rat)^(a.e+b.e)=2^a.e*2^b.e:=wA _ _;have h3:((a.n*b.n:Nat):Rat)=(a.n:Rat)*b.n:=by exact_mod_cast rfl
 by_cases h:a.n*b.n=0
 ·rw[jm (a:=nprod a b) h];rcases Nat.mul_eq_zero.1 h with h|h
  ·rw[jm h];grind
  ·rw[jm h];grind
 ·unfold val nprod;have:decide (0<a.n*b.n)=true:=by simp;exact Nat.pos_of_ne_zero h
  rw[this];simp only[h2,h3];cases a.neg<;>cases b.neg<;>simp<;>grind
end Go.Enc.Nu
end
section
section
namespace Go.Enc
open Go.Proofs Go.Enc.Dg Go.Enc.Nu
abbrev bD (b:Bool):D:=.v (.bool b)
abbrev nmD (a:Nm):D:=.agg [bD a.neg,natD a.n,intD a.e]
attribute [go_sem] bD nmD
theorem lenpos (n:Nat):decide (((dg n).length:Int)>0)=decide (0<n):=by
 have:=@y7 n;congr 1;rw[eq_iff_iff];omega
theorem len0 (n:Nat):(((dg n).length:Int)==0)=decide (n=0):=by
 have:=@y7 n;rw[Bool.eq_iff_iff,beq_iff_eq,decide_eq_true_eq];omega
theorem wP (E:Nat->Option Value)(a:Nm):DQz E 47 [nmD a] (.data (nmD (nneg a))):=by
 refine dcA Tryz.func47 Tryz.ntmps47 (rs:=[.cell 2 70]) fun _ _ _ _ _=>?_
 obtain⟨neg,n,e⟩:=a;cases neg
 ·simp -implicitDefEqProofs only[go_sem,nneg,lenpos,Bool.true_and]
 ·simp -implicitDefEqProofs only[go_sem,nneg,lenpos,Bool.false_and]
theorem WA (E:Nat->Option Value)(a:Nm):DQz E 55 [nmD a] (.data (intD (nsign a))):=by
 refine dcA Tryz.func55 Tryz.ntmps55 (rs:=[.tmp 2]) fun _ _ _ _ _=>?_
 obtain⟨neg,n,e⟩:=a;simp -implicitDefEqProofs only[go_sem,len0];refine wN (fun h=>?_) (fun h=>?_)
 ·have h0:n=0:=of_decide_eq_true h;simp -implicitDefEqProofs only[go_sem,finK];unfold nsign;rw[if_pos h0]
 ·have h0:n≠0:=of_decide_eq_false h;simp -implicitDefEqProofs only[go_sem];refine wN (fun h=>?_) (fun h=>?_)
  ·simp -implicitDefEqProofs only[go_sem,finK];unfold nsign;rw[if_neg h0,if_pos h]
  ·simp -implicitDefEqProofs only[go_sem,finK];unfold nsign;rw[if_neg h0,if_neg (by simp[h])]
structure NOk (a:Nm)(k:Nat):Prop where
 n:Bd a.n k
 lo : -1000000<=a.e
 hi:a.e<=1000000
theorem U6 (E:Nat->Option Value){a b:Nm}{k:Nat}(ha:NOk a k)(hb:NOk b k)(hk:k<=1000000):DQz E 93 [nmD a,nmD b] (.data (.tup [nmD ⟨a.neg,at_ a (lev a b),lev a b⟩,nmD ⟨b.neg,at_ b (lev a b),lev a b⟩])):=by
 refine dcA Tryz.func93 Tryz.ntmps93 (rs:=[.cell 4 70,.cell 5 70]) fun _ _ _ _ _=>?_
 obtain⟨na,n,e⟩:=a;obtain⟨nb,m,f⟩:=b;obtain⟨h1,h2,h3⟩:=ha;obtain⟨g1,g2,g3⟩:=hb;simp only at h1 h2 h3 g1 g2 g3;simp -implicitDefEqProofs only[go_sem];refine wN (fun h=>?_) (fun h=>?_)
 ·have h0:=of_decide_eq_true h;have w:IntKind.i64.wrap (e-f)=((e-f).toNat:Nat):=by rw[w64 (by omega)];omega
  have e1:lev ⟨na,n,e⟩ ⟨nb,m,f⟩=f:=by unfold lev;simp only;omega
  have e2:at_ ⟨na,n,e⟩ f=n*2^(e-f).toNat:=rfl;have e3:at_ ⟨nb,m,f⟩ f=m:=by unfold at_;simp
  simp -implicitDefEqProofs only[go_sem,w];refine cI (up_c _ h1 (by omega) (by omega)) ?_;simp -implicitDefEqProofs only[go_sem];refine Jk [(3,4)] (by kernel_rfl) (by kernel_rfl) (by kernel_rfl) (by kernel_rfl) (fun pq hp=>?_) ?_
  ·simp only[List.mem_singleton] at hp;subst hp;refine⟨3,4,?_,?_,by decide⟩
   ·simp -implicitDefEqProofs only[go_sem,T.ref]
   ·simp -implicitDefEqProofs only[go_sem,T.ref]
  simp -implicitDefEqProofs only[go_sem];refine wc ?_;simp -implicitDefEqProofs only[go_sem,e1,e2,e3]
 ·have h0:=of_decide_eq_false h;have w:IntKind.i64.wrap (f-e)=((f-e).toNat:Nat):=by rw[w64 (by omega)];omega
  have e1:lev ⟨na,n,e⟩ ⟨nb,m,f⟩=e:=by unfold lev;simp only;omega
  have e2:at_ ⟨nb,m,f⟩ e=m*2^(f-e).toNat:=rfl;have e3:at_ ⟨na,n,e⟩ e=n:=by unfold at_;simp
  simp -implicitDefEqProofs only[go_sem,w];refine cI (up_c _ g1 (by omega) (by omega)) ?_;simp -implicitDefEqProofs only[go_sem];refine Jk [(3,4)] (by kernel_rfl) (by kernel_rfl) (by kernel_rfl) (by kernel_rfl) (fun pq hp=>?_) ?_
  ·simp only[List.mem_singleton] at hp;subst hp;refine⟨3,4,?_,?_,by decide⟩
   ·simp -implicitDefEqProofs only[go_sem,T.ref]
   ·simp -implicitDefEqProofs only[go_sem,T.ref]
  simp -implicitDefEqProofs only[go_sem];refine wc ?_;simp -implicitDefEqProofs only[go_sem,e1,e2,e3]
theorem NOk.mono {a:Nm}{k j:Nat}(h:NOk a k)(hj:k<=j):NOk a j:=⟨h.n.mono hj,h.lo,h.hi⟩
theorem NOk.at {a b:Nm}{k:Nat}(ha:NOk a k)(hb:NOk b k):Bd (at_ a (lev a b)) (k+2000000)/\Bd (at_ b (lev a b)) (k+2000000):=by
 have h1:=ha.lo;have h2:=ha.hi;have h3:=hb.lo;have h4:=hb.hi;have e:lev a b<=a.e/\lev a b<=b.e/\-1000000<=lev a b:=by unfold lev;omega
 exact⟨(ha.n.up).mono (by omega),(hb.n.up).mono (by omega)⟩
theorem NOk.neg {a:Nm}{k:Nat}(h:NOk a k):NOk (nneg a) k:=⟨h.n,h.lo,h.hi⟩
theorem NOk.sum {a b:Nm}{k:Nat}(ha:NOk a k)(hb:NOk b k):NOk (nsum a b) (k+2000001):=by
 obtain⟨h1,h2⟩:=ha.at hb;have g1:=ha.lo;have g2:=ha.hi;have g3:=hb.lo;have g4:=hb.hi;have e : -1000000<=lev a b/\lev a b<=1000000:=by unfold lev;omega
 unfold nsum;simp only;split
 ·exact⟨h1.add h2,e.1,e.2⟩
 ·split
  ·exact⟨Nat.pow_pos (by decide),by decide,by decide⟩
  ·split
   ·exact⟨(h1.mono (by omega)).le (Nat.sub_le _ _),e.1,e.2⟩
   ·exact⟨(h2.mono (by omega)).le (Nat.sub_le _ _),e.1,e.2⟩
abbrev zD:D:=.agg [bD false,.v (.slice none 0 0),intD 0]
theorem Uo {σ:Mem}{u:Value}(h:Rep σ zD u):Rep σ (nmD nzero) u:=by
 simp only[Rep,RepU] at h ⊢;obtain⟨us,rfl,u1,r1,e1,o1,rfl,u2,r2,e2,o2,rfl,u3,r3,e3,o3,rfl,rfl⟩:=h;refine⟨us,rfl,_,_,e1,o1,rfl,_,_,e2,o2,.inl ⟨rfl,?_⟩,_,_,e3,o3,rfl,rfl⟩;rw[show(nzero).n=0 from rfl,jU];rfl
theorem zkJ (E:Nat->Option Value){a b:Nm}{k:Nat}(ha:NOk a k)(hb:NOk b k)(hk:k<=1000000)(h0:a.neg≠b.neg)(h3:at_ a (lev a b)=at_ b (lev a b)):DQz E 51 [nmD a,nmD b] (.data zD):=by
 refine dcA Tryz.func51 Tryz.ntmps51 (rs:=[.cell 4 70]) fun _ _ _ _ _=>?_
 have hl:=U6 E ha hb hk;obtain⟨h1,h2⟩:=ha.at hb;generalize at_ a (lev a b)=x at *;generalize at_ b (lev a b)=y at *;generalize lev a b=e at *;obtain⟨na,n,ea⟩:=a;obtain⟨nb,m,eb⟩:=b;simp -implicitDefEqProofs only[go_sem];refine cI hl ?_;simp -implicitDefEqProofs only[go_sem];refine wN (fun h=>?_) (fun h=>?_)
 ·exact absurd (by simpa using h) h0
 ·simp -implicitDefEqProofs only[go_sem];refine cI (Y5 _ (h1.sm (by omega)) (h2.sm (by omega))) ?_;have hc:cmpI x y=0:=(vR x y).2.1.2 h3;simp -implicitDefEqProofs only[go_sem,hc];refine wN (fun h=>?_) (fun h=>?_)
  ·simp -implicitDefEqProofs only[go_sem]
  ·simp at h
theorem zZ (E:Nat->Option Value){a b:Nm}{k:Nat}(ha:NOk a k)(hb:NOk b k)(hk:k<=1000000):DQz E 51 [nmD a,nmD b] (.data (nmD (nsum a b))):=by
 by_cases hz:a.neg≠b.neg/\at_ a (lev a b)=at_ b (lev a b)
 ·have e:nsum a b=nzero:=by unfold nsum;simp only;rw[if_neg hz.1,if_pos hz.2]
  rw[e];exact(zkJ E ha hb hk hz.1 hz.2).weak fun σ u h=>Uo h
 refine dcA Tryz.func51 Tryz.ntmps51 (rs:=[.cell 4 70]) fun _ _ _ _ _=>?_
 have hl:=U6 E ha hb hk;obtain⟨h1,h2⟩:=ha.at hb;have hS:nsum a b=if a.neg=b.neg then ⟨a.neg,at_ a (lev a b)+at_ b (lev a b),lev a b⟩ else if at_ a (lev a b)=at_ b (lev a b) then nzero else if at_ b (lev a b)<at_ a (lev a b) then ⟨a.neg,at_ a (lev a b)-at_ b (lev a b),lev a b⟩ else ⟨b.neg,at_ b (lev a b)-at_ a (lev a b),lev a b⟩:=rfl
 rw[hS];generalize at_ a (lev a b)=x at *;generalize at_ b (lev a b)=y at *;generalize lev a b=e at *;obtain⟨na,n,ea⟩:=a;obtain⟨nb,m,eb⟩:=b;simp -implicitDefEqProofs only[go_sem];refine cI hl ?_;simp -implicitDefEqProofs only[go_sem];refine wN (fun h=>?_) (fun h=>?_)
 ·have h0:na=nb:=by simpa using h
  simp -implicitDefEqProofs only[go_sem];refine drw ?_;simp -implicitDefEqProofs only[go_sem];refine cI (xn _ (h1.sm (by omega)) (h2.sm (by omega))) ?_;simp -implicitDefEqProofs only[go_sem];rw[if_pos h0]
 ·have h0:na≠nb:=by simpa using h
  simp -implicitDefEqProofs only[go_sem];refine cI (Y5 _ (h1.sm (by omega)) (h2.sm (by omega))) ?_;simp -implicitDefEqProofs only[go_sem];rw[if_neg h0];obtain⟨c1,c2,c3⟩:=vR x y;refine wN (fun h=>?_) (fun h=>?_)
  ·have h3:x=y:=c2.1 (by simpa using h);exact absurd ⟨h0,h3⟩ hz
  ·have h3:x≠y:=fun q=>by have:=c2.2 q;simp[this] at h
   simp -implicitDefEqProofs only[go_sem];rw[if_neg h3];refine wN (fun h=>?_) (fun h=>?_)
   ·have h4:y<x:=c3.1 (of_decide_eq_true h);simp -implicitDefEqProofs only[go_sem];refine drw ?_;simp -implicitDefEqProofs only[go_sem];refine cI (VY _ (h1.sm (by omega)) (Nat.le_of_lt h4)) ?_;simp -implicitDefEqProofs only[go_sem];rw[if_pos h4]
   ·have h4:¬y<x:=fun q=>of_decide_eq_false h (c3.2 q)
    simp -implicitDefEqProofs only[go_sem];refine drw ?_;simp -implicitDefEqProofs only[go_sem];refine cI (VY _ (h2.sm (by omega)) (by omega)) ?_;simp -implicitDefEqProofs only[go_sem];rw[if_neg h4]
theorem kE (E:Nat->Option Value){a b:Nm}{k:Nat}(ha:NOk a k)(hb:NOk b k)(hk:k<=1000000):DQz E 35 [nmD a,nmD b] (.data (bD (nless a b))):=by
 refine dcA Tryz.func35 Tryz.ntmps35 (rs:=[.tmp 4]) fun _ _ _ _ _=>?_
 have hn:=wP E b;have hs:=zZ E ha hb.neg hk;have hg:=WA E (nsum a (nneg b));have hL:nless a b=decide (nsign (nsum a (nneg b))<0):=rfl;rw[hL];generalize nsum a (nneg b)=d at *;generalize nneg b=c at *;simp -implicitDefEqProofs only[go_sem];refine cI hn ?_;simp -implicitDefEqProofs only[go_sem];refine cI hs ?_;simp -implicitDefEqProofs only[go_sem];refine cI hg ?_;simp -implicitDefEqProofs only[go_sem,finK]
def posB (b:Nat):Nat:=if b=9223372036854775808 then 0 else b
theorem v8 (E:Nat->Option Value)(b:Nat):DQz E 36 [.v (.int .u64 b)] (.data (.v (.int .u64 (posB b)))):=by
 refine dcA Tryz.func36 Tryz.ntmps36 (rs:=[.tmp 2]) fun _ _ _ _ _=>?_
 simp -implicitDefEqProofs only[go_sem];refine wN (fun h=>?_) (fun h=>?_)
 ·have:b=9223372036854775808:=by have:=beq_iff_eq.1 h;omega
  simp -implicitDefEqProofs only[go_sem,finK];unfold posB;rw[if_pos this];rfl
 ·have:b≠9223372036854775808:=by have:=beq_eq_false_iff_ne.1 h;omega
  simp -implicitDefEqProofs only[go_sem,finK];unfold posB;rw[if_neg this]
end Go.Enc
end
section
namespace Go.Enc
open Go.Proofs Go.Enc.Dg Go.Enc.Nu
def nplain (b:Nat):Nm×Bool:=
 let e:=b/4503599627370496 % 2048
 let f:=b % 4503599627370496
 if e=0/\f=0 then (nzero,true) else if e<123\/1923<e\/(e=1923/\0<f) then (nzero,false) else (⟨decide (b/9223372036854775808=1),f+4503599627370496,(e:Int)-1075⟩,true)
theorem UW {b:Nat}(h:b<18446744073709551616):(BitVec.ofInt 64 (b:Int)).toNat=b:=by
 simp[BitVec.ofInt,Int.toNat_emod];omega
theorem yM {n:Nat}(h:n<18446744073709551616):IntKind.u64.wrap (n:Int)=n:=IntWalk.u64_in n ⟨by omega,by omega⟩
theorem Qa {b:Nat}:(b:Int).fdiv (2^min 52 64)=((b/4503599627370496:Nat):Int):=by
 rw[show(2:Int)^min 52 64=4503599627370496 by decide,Int.fdiv_eq_ediv_of_nonneg _ (by decide)];omega
theorem zgn {b:Nat}:(b:Int).fdiv (2^min 63 64)=((b/9223372036854775808:Nat):Int):=by
 rw[show(2:Int)^min 63 64=9223372036854775808 by decide,Int.fdiv_eq_ediv_of_nonneg _ (by decide)];omega
theorem andM {x m k:Nat}(h:x<18446744073709551616)(hm:(BitVec.ofInt 64 (m:Int)).toNat=2^k-1):pint .and .u64 (x:Int) (m:Int)=some (.int .u64 ((x % 2^k:Nat):Int)):=by
 have e:(BitVec.ofInt 64 (x:Int) &&& BitVec.ofInt 64 (m:Int)).toNat=x % 2^k:=by
  rw[BitVec.toNat_and,UW h,hm,Nat.and_two_pow_sub_one_eq_mod]
 have h2:x % 2^k<=x:=Nat.mod_le _ _
 show some (Value.int .u64 (IntKind.u64.wrap ((BitVec.ofInt 64 (x:Int) &&& BitVec.ofInt 64 (m:Int)).toNat:Int)))=_
 rw[e,yM (Nat.lt_of_le_of_lt h2 h)]
theorem RE {x:Nat}(h:x<18446744073709551616):pint .and .u64 (x:Int) 2047=some (.int .u64 ((x % 2048:Nat):Int)):=andM (m:=2047) (k:=11) h (by decide)
theorem zhU {x:Nat}(h:x<18446744073709551616):pint .and .u64 (x:Int) 4503599627370495=some (.int .u64 ((x % 4503599627370496:Nat):Int)):=andM (m:=4503599627370495) (k:=52) h (by decide)
theorem tB {b:Bool}(h:b=true):T.d (D.v (Value.bool b))=T.d (D.v (Value.bool true)):=by rw[h]
theorem beqT {x y:Int}(h:x=y):(x==y)=true:=beq_iff_eq.2 h
theorem beqF {x y:Int}(h:x≠y):(x==y)=false:=beq_eq_false_iff_ne.2 h
theorem zbJ {σ:Mem}{u:Value}{ds:List D}(h:Rep σ (.tup (zD :: ds)) u):Rep σ (.tup (nmD nzero :: ds)) u:=by
 simp only[Rep,RepL] at h ⊢;obtain⟨us,rfl,u1,r1,e1,h1,h2⟩:=h;refine⟨us,rfl,u1,r1,e1,?_,h2⟩;have:=Uo (σ:=σ) (u:=u1) (by simp only[Rep];exact h1)
 simpa only[Rep] using this
theorem zcG (E:Nat->Option Value){b:Nat}(hb:b<18446744073709551616)(h:(nplain b).1=nzero):DQz E 34 [.v (.int .u64 b)] (.data (.tup [zD,bD (nplain b).2])):=by
 refine dcA Tryz.func34 Tryz.ntmps34 (rs:=[.cell 2 70,.tmp 3]) fun _ _ _ _ _=>?_
 have q1:=RE (x:=b/4503599627370496) (by omega);have q2:=zhU hb;simp -implicitDefEqProofs only[go_sem,Option.some.injEq,Value.int.injEq,true_and] at q1 q2;have he:b/4503599627370496 % 2048<2048:=Nat.mod_lt _ (by decide);have hf:b % 4503599627370496<4503599627370496:=Nat.mod_lt _ (by decide);unfold nplain at h ⊢;simp only at h ⊢;generalize b/4503599627370496 % 2048=e at *;generalize b % 4503599627370496=f at *;have c1:IntKind.i64.wrap (e:Int)=e:=w64 (by omega);have c2:IntKind.i64.wrap (f:Int)=f:=w64 (by omega);by_cases h1:e=0
 ·have e0:=tB (beqT (show(e:Int)=0 by omega));by_cases h2:f=0
  ·have e1:=tB (beqT (show(f:Int)=0 by omega));rw[if_pos ⟨h1,h2⟩];simp -implicitDefEqProofs only[go_sem,Qa,q1,q2,c1,c2,e0,e1];refine wc ?_;simp -implicitDefEqProofs only[go_sem]
  ·have e1:((f:Int)==0)=false:=beqF (by omega);rw[if_neg (by omega),if_pos (by omega)];have e2:decide ((e:Int)<123)=true:=tD (by omega);simp -implicitDefEqProofs only[go_sem,Qa,q1,q2,c1,c2,e0,e1,e2];refine wc ?_;simp -implicitDefEqProofs only[go_sem]
 ·have e1:((e:Int)==0)=false:=beqF (by omega);by_cases h2:e<123\/1923<e\/(e=1923/\0<f)
  ·rw[if_neg (by omega),if_pos h2];by_cases h3:e<123
   ·have e2:decide ((e:Int)<123)=true:=tD (by omega);simp -implicitDefEqProofs only[go_sem,Qa,q1,q2,c1,c2,e1,e2];refine wc ?_;simp -implicitDefEqProofs only[go_sem]
   ·have e2:decide ((e:Int)<123)=false:=fD (by omega);by_cases h4:1923<e
    ·have e3:decide ((e:Int)>1923)=true:=tD (by omega);simp -implicitDefEqProofs only[go_sem,Qa,q1,q2,c1,c2,e1,e2,e3];refine wc ?_;simp -implicitDefEqProofs only[go_sem]
    ·have e3:decide ((e:Int)>1923)=false:=fD (by omega);have e4:e=1923:=by omega
     have e6:=tB (beqT (show(e:Int)=1923 by omega));have e5:decide ((f:Int)>0)=true:=tD (by omega);simp -implicitDefEqProofs only[go_sem,Qa,q1,q2,c1,c2,e1,e2,e3,e6,e5];refine wc ?_;simp -implicitDefEqProofs only[go_sem]
  ·rw[if_neg (by omega),if_neg h2] at h;exact absurd (congrArg Nm.n h) (by show f+4503599627370496≠0;omega)
theorem qf {b:Nat}(h:(nplain b).1≠nzero):(nplain b).2=true/\(nplain b).1=⟨decide (b/9223372036854775808=1),b % 4503599627370496+4503599627370496,((b/4503599627370496 % 2048:Nat):Int)-1075⟩/\123<=b/4503599627370496 % 2048/\b/4503599627370496 % 2048<=1923/\(b/4503599627370496 % 2048=1923->b % 4503599627370496=0):=by
 unfold nplain at h ⊢;simp only at h ⊢;split at h
 ·exact absurd rfl h
 ·rename_i h1;split at h
  ·exact absurd rfl h
  ·rename_i h2;rw[if_neg h1,if_neg h2];exact⟨rfl,rfl,by omega,by omega,by omega⟩
theorem xP (E:Nat->Option Value){b:Nat}(hb:b<18446744073709551616):DQz E 34 [.v (.int .u64 b)] (.data (.tup [nmD (nplain b).1,bD (nplain b).2])):=by
 by_cases hz:(nplain b).1=nzero
 ·rw[hz];exact(zcG E hb hz).weak fun σ u h=>zbJ h
 obtain⟨p1,p2,p3,p4,p5⟩:=qf hz;rw[p1,p2];refine dcA Tryz.func34 Tryz.ntmps34 (rs:=[.cell 2 70,.tmp 3]) fun _ _ _ _ _=>?_
 have q1:=RE (x:=b/4503599627370496) (by omega);have q2:=zhU hb;simp -implicitDefEqProofs only[go_sem,Option.some.injEq,Value.int.injEq,true_and] at q1 q2;have he:b/4503599627370496 % 2048<2048:=Nat.mod_lt _ (by decide);have hf:b % 4503599627370496<4503599627370496:=Nat.mod_lt _ (by decide);generalize b/4503599627370496 % 2048=e at *;generalize b % 4503599627370496=f at *;have c1:IntKind.i64.wrap (e:Int)=e:=w64 (by omega);have c2:IntKind.i64.wrap (f:Int)=f:=w64 (by omega);have c3:IntKind.i64.wrap ((f:Int)+4503599627370496)=((f+4503599627370496:Nat):Int):=by rw[w64 (by omega)];omega
 have c4:IntKind.i64.wrap ((e:Int)-1075)=(e:Int)-1075:=w64 (by omega);have e1:((e:Int)==0)=false:=beqF (by omega);have e2:decide ((e:Int)<123)=false:=fD (by omega);have e3:decide ((e:Int)>1923)=false:=fD (by omega);have sg:(((b/9223372036854775808:Nat):Int)==1)=decide (b/9223372036854775808=1):=by rw[Bool.eq_iff_iff,beq_iff_eq,decide_eq_true_eq];omega
 by_cases h4:e=1923
 ·have e6:=tB (beqT (show(e:Int)=1923 by omega));have e5:decide ((f:Int)>0)=false:=fD (by have:=p5 h4;omega);simp -implicitDefEqProofs only[go_sem,Qa,zgn,q1,q2,c1,c2,c3,c4,e1,e2,e3,e6,e5];refine cI (qI _ (f+4503599627370496) (Nat.lt_of_le_of_lt (show _<=9007199254740992 by omega) (by decide))) ?_;simp -implicitDefEqProofs only[go_sem];refine wc ?_;simp -implicitDefEqProofs only[go_sem,sg,c4]
 ·have e6:((e:Int)==1923)=false:=beqF (by omega);simp -implicitDefEqProofs only[go_sem,Qa,zgn,q1,q2,c1,c2,c3,c4,e1,e2,e3,e6];refine cI (qI _ (f+4503599627370496) (Nat.lt_of_le_of_lt (show _<=9007199254740992 by omega) (by decide))) ?_;simp -implicitDefEqProofs only[go_sem];refine wc ?_;simp -implicitDefEqProofs only[go_sem,sg,c4]
theorem ja (b:Nat):NOk (nplain b).1 53:=by
 by_cases hz:(nplain b).1=nzero
 ·rw[hz];exact⟨Nat.pow_pos (by decide),by decide,by decide⟩
 ·obtain⟨p1,p2,p3,p4,p5⟩:=qf hz;rw[p2];have hf:b % 4503599627370496<4503599627370496:=Nat.mod_lt _ (by decide);refine⟨?_,by simp only;omega,by simp only;omega⟩;unfold Bd;simp only;omega
abbrev boxD (x:Nat×Nat):D:=.agg [.v (.int .u64 x.1),.v (.int .u64 x.2)]
attribute [go_sem] boxD
def Yt (lo hi:Nat)(bx by' c:Bool):(Nat×Nat)×Int:=
 if bx=false\/by'=false then ((0,0),1) else if c=true then ((0,0),2) else ((posB lo,posB hi),0)
def vG (lo hi:Nat):(Nat×Nat)×Int:=Yt lo hi (nplain lo).2 (nplain hi).2 (nless (nplain hi).1 (nplain lo).1)
theorem ziX (E:Nat->Option Value){lo hi:Nat}{x y:Nm}{bx by' c:Bool}(p1:DQz E 34 [.v (.int .u64 lo)] (.data (.tup [nmD x,bD bx])))(p2:DQz E 34 [.v (.int .u64 hi)] (.data (.tup [nmD y,bD by'])))
  (hl:DQz E 35 [nmD y,nmD x] (.data (bD c))):DQz E 15 [boxD (lo,hi)] (.data (.tup [boxD (Yt lo hi bx by' c).1,intD (Yt lo hi bx by' c).2])):=by
 refine dcA Tryz.func15 Tryz.ntmps15 (rs:=[.cell 2 27,.tmp 3]) fun _ _ _ _ _=>?_
 unfold Yt;simp -implicitDefEqProofs only[go_sem];refine cI p1 ?_;simp -implicitDefEqProofs only[go_sem];refine cI p2 ?_;cases bx
 ·simp -implicitDefEqProofs only[go_sem,true_or];refine wc ?_;simp -implicitDefEqProofs only[go_sem]
 ·cases by'
  ·simp -implicitDefEqProofs only[go_sem,or_true];refine wc ?_;simp -implicitDefEqProofs only[go_sem]
  ·simp -implicitDefEqProofs only[go_sem,or_self,if_false];refine cI hl ?_;cases c
   ·simp -implicitDefEqProofs only[go_sem];refine drw ?_;simp -implicitDefEqProofs only[go_sem];refine cI (v8 _ lo) ?_;simp -implicitDefEqProofs only[go_sem];refine cI (v8 _ hi) ?_;simp -implicitDefEqProofs only[go_sem];refine wc ?_;simp -implicitDefEqProofs only[go_sem,or_self,if_false]
   ·simp -implicitDefEqProofs only[go_sem];refine wc ?_;simp -implicitDefEqProofs only[go_sem,or_self,if_false]
theorem VZ (E:Nat->Option Value){lo hi:Nat}(h1:lo<18446744073709551616)(h2:hi<18446744073709551616):DQz E 15 [boxD (lo,hi)] (.data (.tup [boxD (vG lo hi).1,intD (vG lo hi).2])):=by
 have q1:=xP E h1;have q2:=xP E h2;have q3:=kE E (ja hi) (ja lo) (by omega);have q:=ziX E q1 q2 q3;unfold vG;exact q
end Go.Enc
end
end
