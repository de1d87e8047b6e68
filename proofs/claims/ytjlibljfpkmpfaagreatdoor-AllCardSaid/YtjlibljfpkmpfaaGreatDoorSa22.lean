/-
  Whole numbers as floats, and back.
-/
import Derived.Test.YtjlibljfpkmpfaaGreatDoorSa10
import Derived.Laws.FloatArith
import Derived.Test.YtjlibljfpkmpfaaGreatDoorSa21
set_option maxRecDepth 100000
set_option linter.unusedSimpArgs false
set_option linter.unusedVariables false
section
namespace Go.Enc.Fl
open Ieee
theorem zdl (s:Bool)(n d:Nat):Toward.cut .zero s n d=n/2^min d (n.log2+2):=by
 unfold Toward.cut;simp[Nat.shiftLeft_eq]
theorem J4 {s:Bool}{m:Nat}{i:Int}{N:Nat}(h:(m:Rat)*2^i=(N:Rat)):(Datum.number s m i).toInt .zero=some (if s then -(N:Int) else N):=by
 have key:Toward.cut .zero s (m <<< i.toNat) (-i).toNat=N:=by
  rw[zdl,Nat.shiftLeft_eq];rcases Decidable.em (0<=i) with hi|hi
  ·have e1:(-i).toNat=0:=by omega
   rw[e1,Nat.zero_min,Nat.pow_zero,Nat.div_one];have e2:=jo m i.toNat 0;rw[Rat.zpow_zero,Rat.mul_one,show(0:Int)+((i.toNat:Nat):Int)=i by omega,h] at e2
   exact_mod_cast e2
  ·have e1:i.toNat=0:=by omega
   rw[e1,Nat.pow_zero,Nat.mul_one];obtain⟨d,hd⟩:∃d:Nat,(-i).toNat=d:=⟨_,rfl⟩;rw[hd];have e2:m=N*2^d:=by
    have h2:=jo N d 0;rw[Rat.zpow_zero,Rat.mul_one,<-h,Rat.mul_assoc,<-wA,show i+((0:Int)+(d:Int))=0 by omega,Rat.zpow_zero,Rat.mul_one] at h2
    exact_mod_cast h2.symm
   rcases Nat.eq_zero_or_pos N with h0|h0
   ·rw[e2,h0,Nat.zero_mul,Nat.zero_div]
   ·have hm:m≠0:=by rw[e2];exact Nat.pos_iff_ne_zero.1 (Nat.mul_pos h0 (Nat.pow_pos (by decide)))
    have hl:d<=m.log2:=(Nat.le_log2 hm).2 (by rw[e2];exact Nat.le_mul_of_pos_left _ h0);rw[Nat.min_eq_left (by omega)];exact Nat.div_eq_of_eq_mul_left (Nat.pow_pos (by decide)) e2
 unfold Datum.toInt Datum.integral;simp only[key,signed,Nat.shiftLeft_zero]
theorem zbK {b:Nat}(h:Fin b){z:Int}(hz:v (idx b)=(z:Rat)):(double.read b).toInt .zero=some z:=by
 obtain⟨m,e,h1,h2,_⟩:=jx h;rw[h1];rw[hz] at h2;unfold dv at h2;cases hs:sgn b
 ·rw[hs] at h2;simp only[Bool.false_eq_true,if_false] at h2;have hnn:0<=z:=by
   have:(0:Rat)<=(z:Rat):=by rw[<-h2];exact Rat.mul_nonneg (by exact_mod_cast Nat.zero_le _) (Rat.le_of_lt (wB e))
   exact_mod_cast this
  obtain⟨N,rfl⟩:=Int.eq_ofNat_of_zero_le hnn;exact J4 (by rw[h2,Rat.intCast_natCast])
 ·rw[hs] at h2;simp only[if_true] at h2;have h3:(m:Rat)*2^e=((-z:Int):Rat):=by rw[Rat.intCast_neg,<-h2];grind
  have hnn:0<=-z:=by
   have:(0:Rat)<=((-z:Int):Rat):=by rw[<-h3];exact Rat.mul_nonneg (by exact_mod_cast Nat.zero_le _) (Rat.le_of_lt (wB e))
   exact_mod_cast this
  obtain⟨N,hN⟩:=Int.eq_ofNat_of_zero_le hnn;rw[hN,Rat.intCast_natCast] at h3;rw[J4 h3];simp only[if_true];congr 1;omega
theorem ZG {z:Int}(h:z.natAbs<=2^53):∃i,v i=(z:Rat):=by
 obtain⟨q,hq⟩:∃q:Nat,(q:Int)=1074:=⟨1074,rfl⟩;obtain⟨i,hi⟩:=F_of z q h;refine⟨i,?_⟩;unfold v;rw[<-hi];unfold u;have:(((2^q:Nat):Int):Rat)*2^(-1074:Int)=1:=by
  rw[Rat.intCast_natCast,<-wX,<-wA,show(q:Int) + -1074=0 by omega,Rat.zpow_zero]
 rw[Rat.intCast_mul,Rat.mul_assoc,this,Rat.mul_one]
theorem zkB {i:Int}(h:(2:Rat)^(53:Int)<=v i):∃z:Int,v i=(z:Rat):=by
 have hi:0<=i:=by
  rcases Int.lt_or_le i 0 with h1|h1
  ·have:=v_lt (i:=i) (j:=0) h1;rw[wC] at this;have:=wB 53;grind
  ·exact h1
 obtain⟨r,rfl⟩:=Int.eq_ofNat_of_zero_le hi;obtain⟨q,k,h1,h2,h3,h4,h5⟩:=zC r;have hv:v (r:Int)=(k:Rat)*2^((q:Int)-1074):=by
  rw[vc,h4];unfold u;rw[jo];congr 2<;>omega
 rcases Decidable.em (0<=(q:Int)-1074) with g|g
 ·refine⟨((k*2^(q-1074):Nat):Int),?_⟩;rw[hv,Rat.intCast_natCast];have:=jo k (q-1074) 0;rw[Rat.zpow_zero,Rat.mul_one] at this;rw[this];congr 2;omega
 ·exfalso;have h6:=jl (a:=(q:Int)-1074) (b:=0) (by omega);rw[Rat.zpow_zero] at h6;have h7:(k:Rat)<((2^53:Nat):Rat):=by exact_mod_cast h2
  rw[<-wX] at h7;have h8:(k:Rat)*2^((q:Int)-1074)<=(k:Rat)*1:=Rat.mul_le_mul_of_nonneg_left h6 (by exact_mod_cast Nat.zero_le _);rw[hv,] at h;have e53:((53:Nat):Int)=53:=rfl;rw[e53] at h7;grind
theorem zcw {n:Int}{i:Int}(h:IsR (n:Rat) i):∃z:Int,v i=(z:Rat):=by
 have hpos:∀ {n:Int} {i:Int},0<=n->IsR (n:Rat) i->∃z:Int,v i=(z:Rat):=fun {n i} hn h=>by
  rcases Decidable.em (n.natAbs<=2^53) with h1|h1
  ·obtain⟨j,hj⟩:=ZG h1;rw[<-hj] at h;rw[h.exact];exact⟨n,hj⟩
  ·obtain⟨j,hj⟩:=ZG (z:=9007199254740992) (by decide);have h2:v j<=(n:Rat):=by rw[hj];exact Rat.intCast_le_intCast.2 (by omega)
   have h3:=v_le (h.ge h2);rw[hj] at h3;refine zkB (Rat.le_trans ?_ h3);have:(2:Rat)^(53:Int)=((9007199254740992:Int):Rat):=by
    have:=wX 53;rw[show((53:Nat):Int)=53 from rfl] at this;rw[this];rfl
   rw[this];exact Rat.le_refl
 rcases Int.le_total 0 n with hn|hn
 ·exact hpos hn h
 ·obtain⟨z,hz⟩:=hpos (n:=-n) (i:=-i) (by omega) (by rw[Rat.intCast_neg];exact h.neg);refine⟨-z,?_⟩;rw[wQ] at hz;rw[Rat.intCast_neg,<-hz];grind
theorem Yn {n:Int}(h : -9223372036854775808<=n/\n<=9223372036854775808):∃x,Go.FloatKind.f64.nearest n=x/\Fin x/\x<2^64/\IsR (n:Rat) (idx x)/\-(2:Rat)^(63:Int)<=v (idx x)/\v (idx x)<=2^(63:Int):=by
 refine⟨_,rfl,?_⟩;have hN:Near (n:Rat) (double.write (.number (decide (n<0)) n.natAbs 0)):=qQ (by
  unfold dv;rw[Rat.zpow_zero,Rat.mul_one];rcases Decidable.em (n<0) with g|g
  ·rw[decide_eq_true g];have h1:((n.natAbs:Nat):Int) = -n:=by omega
   have h2:(((n.natAbs:Nat):Int):Rat)=((-n:Int):Rat):=by rw[h1]
   rw[Rat.intCast_natCast] at h2;simp only[if_true];rw[h2,Rat.intCast_neg];grind
  ·rw[decide_eq_false g];have h1:((n.natAbs:Nat):Int)=n:=by omega
   have h2:(((n.natAbs:Nat):Int):Rat)=((n:Int):Rat):=by rw[h1]
   rwa [Rat.intCast_natCast] at h2)
 have e63:(2:Rat)^(63:Int)=((9223372036854775808:Int):Rat):=by
  have:=wX 63;rw[show((63:Nat):Int)=63 from rfl] at this;rw[this];rfl
 have b1 : -(2:Rat)^(((1086:Nat):Int)-1023)<=(n:Rat):=by
  rw[show((1086:Nat):Int)-1023=63 by decide,e63,<-Rat.intCast_neg];exact Rat.intCast_le_intCast.2 h.1
 have b2:(n:Rat)<=2^(((1086:Nat):Int)-1023):=by
  rw[show((1086:Nat):Int)-1023=63 by decide,e63];exact Rat.intCast_le_intCast.2 h.2
 obtain⟨f1,f2,f3,f4,f5⟩:=hN.fin (n:=1086) (by decide) (by decide) b1 b2;rw[show((1086:Nat):Int)-1023=63 by decide] at f3 f4;exact⟨f1,f5,f2,f3,f4⟩
theorem zeC {x:Nat}{z:Int}(h:Fin x)(hz:v (idx x)=(z:Rat))(hb : -9223372036854775808<=z/\z<=9223372036854775807):Go.floatToIntVal .f64 x .i64=some z:=by
 unfold Go.floatToIntVal;have:(Go.FloatKind.f64.decode x).toInt .zero=some z:=zbK h hz;rw[this];exact if_pos hb
theorem WU:v (pw 1023)=1:=by rw[v_pw 1023 (by omega)];rfl
theorem zhB {n:Int}{i:Int}(h : -9223372036854775808<=n/\n<=9223372036854775808)(hd:Dn (n:Rat) i):ok i:=by
 have hp:=qd;have e63:v (pw 1086)=((9223372036854775808:Int):Rat):=by
  rw[v_pw 1086 (by omega),show((1086:Nat):Int)-1023=63 by decide];have:=wX 63;rw[show((63:Nat):Int)=63 from rfl] at this;rw[this];rfl
 have m1:=UG (show 123<=1023 by omega);have m2:=UG (show 1086<=1923 by omega);rw[<-zgt] at m1;rw[<-zcP] at m2;have up:i<=pw 1086:=by
  have:v i<=v (pw 1086):=by rw[e63];exact Rat.le_trans hd.1 (Rat.intCast_le_intCast.2 h.2)
  exact kl.1 this
 have lo : -pw 1086<=i:=hd.ge (by rw[wQ,e63,<-Rat.intCast_neg];exact Rat.intCast_le_intCast.2 h.1);rcases Int.lt_trichotomy n 0 with g|g|g
 ·have:v i<=v (-pw 1023):=by
   rw[wQ,WU];refine Rat.le_trans hd.1 ?_;have:((n:Int):Rat)<=((-1:Int):Rat):=Rat.intCast_le_intCast.2 (by omega);exact this
  have:=kl.1 this;unfold ok;omega
 ·subst g;have h0:((0:Int):Rat)=v 0:=by rw[wC];rfl
  rw[h0] at hd;have h1:=hd.ge (j:=0) Rat.le_refl;have h2:=kl.1 hd.1;unfold ok;omega
 ·have:=hd.ge (j:=pw 1023) (by
   rw[WU];have:((1:Int):Rat)<=((n:Int):Rat):=Rat.intCast_le_intCast.2 (by omega);exact this)
  unfold ok;omega
theorem zkD {n:Int}{i:Int}(h : -9223372036854775808<=n/\n<=9223372036854775808)(hd:Up (n:Rat) i):ok i:=by
 have:=zhB (n:=-n) (i:=-i) (by omega) (by rw[Rat.intCast_neg];exact hd.neg);have:=xV this
 rwa [Int.neg_neg] at this
end Go.Enc.Fl
end
section
section
namespace Go.Enc
open Go.Proofs Go.Enc.Fl
theorem ql (E:Nat->Option Value){n m w:Int}{x y:Nat}(hx:FloatKind.f64.nearest n=x)(hf:Fl.Fin x)(h63:idx x≠4890909195324358656)(hm:floatToIntVal .f64 x .i64=some m)
  (h1:m<n->DQz E 121 [flD x,flD 4607182418800017408,intD w] (.data (flD y))) (h2:n<m->DQz E 121 [flD x,flD 13830554455654793216,intD w] (.data (flD y))) (h3:m=n->x=y) :
  DQz E 103 [.v (.int .i64 n),intD w] (.data (flD y)):=by
 refine dcA Tryz.func103 Tryz.ntmps103 (rs:=[.tmp 4]) fun _ _ _ _ _=>?_
 have e1:(FloatKind.f64.format.order x 4890909195324358656==some Ordering.eq)=false:=by
  rw[xR hf.num (show Num 4890909195324358656 by decide)];exact decide_eq_false (by rw[show idx 4890909195324358656=4890909195324358656 by decide];exact h63)
 rcases Int.lt_trichotomy m n with g|g|g
 ·have e2:decide (m<n)=true:=tD g;simp -implicitDefEqProofs only[go_sem,hx,e1,hm,e2];refine cI (h1 g) ?_;simp -implicitDefEqProofs only[go_sem,finK]
 ·have e2:decide (m<n)=false:=fD (by omega);have e3:decide (m>n)=false:=fD (by omega);simp -implicitDefEqProofs only[go_sem,hx,e1,hm,e2,e3,finK];rw[h3 g]
 ·have e2:decide (m<n)=false:=fD (by omega);have e3:decide (m>n)=true:=tD g;simp -implicitDefEqProofs only[go_sem,hx,e1,hm,e2,e3];refine cI (h2 g) ?_;simp -implicitDefEqProofs only[go_sem,finK]
theorem QP (E:Nat->Option Value){n w:Int}{y:Nat}(hx:FloatKind.f64.nearest n=4890909195324358656)
  (h1:DQz E 121 [flD 4890909195324358656,flD 13830554455654793216,intD w] (.data (flD y))) :
  DQz E 103 [.v (.int .i64 n),intD w] (.data (flD y)):=by
 refine dcA Tryz.func103 Tryz.ntmps103 (rs:=[.tmp 4]) fun _ _ _ _ _=>?_
 have e1:(FloatKind.f64.format.order 4890909195324358656 4890909195324358656==some Ordering.eq)=true:=by
  rw[xR (show Num 4890909195324358656 by decide) (show Num 4890909195324358656 by decide)];exact decide_eq_true rfl
 have e2:=tV e1;simp -implicitDefEqProofs only[go_sem,hx,e2];refine cI h1 ?_;simp -implicitDefEqProofs only[go_sem,finK]
theorem zaT (E:Nat->Option Value){n:Int}(h : -9223372036854775808<=n/\n<=9223372036854775807) :
  ∃lo hi,DQz E 103 [.v (.int .i64 n),intD (-1)] (.data (flD lo))/\DQz E 103 [.v (.int .i64 n),intD 1] (.data (flD hi))/\lo<2^64/\hi<2^64/\Dn (n:Rat) (idx lo)/\Up (n:Rat) (idx hi):=by
 obtain⟨x,hx,hf,hl,hR,hb1,hb2⟩:=Yn (n:=n) ⟨by omega,by omega⟩;obtain⟨m,hm⟩:=zcw hR;have e63:(2:Rat)^(63:Int)=((9223372036854775808:Int):Rat):=by
  have:=wX 63;rw[show((63:Nat):Int)=63 from rfl] at this;rw[this];rfl
 rw[hm,e63,<-Rat.intCast_neg] at hb1;rw[hm,e63] at hb2;have m1:=Rat.intCast_le_intCast.1 hb1;have m2:=Rat.intCast_le_intCast.1 hb2;have v63:v 4890909195324358656=((9223372036854775808:Int):Rat):=by
  rw[show(4890909195324358656:Int)=pw 1086 by unfold pw;rfl,v_pw 1086 (by omega),show((1086:Nat):Int)-1023=63 by decide,e63]
 have i2:Num 13830554455654793216/\idx 13830554455654793216 = -4607182418800017408:=by decide
 by_cases h63:idx x=4890909195324358656
 ·have hx63:x=4890909195324358656:=by
   have:=(yI hl (by omega)).2.1;omega
  subst hx63;have hlt:(n:Rat)<v (idx 4890909195324358656):=by rw[h63,v63];exact Rat.intCast_lt_intCast.2 (by omega)
  have d:=yP (rest:=13830554455654793216) hl hf hR (by rw[i2.2];constructor<;>intro q<;>grind);have u:=yO (rest:=13830554455654793216) hl hf hR (by rw[i2.2];constructor<;>intro q<;>grind);exact⟨_,_,QP E hx (vX E hl hf i2.1),QP E hx (vW E hl hf i2.1),d.2,u.2,d.1,u.1⟩
 have hm63:m≠9223372036854775808:=fun e=>h63 (Wh (by rw[hm,e,v63]))
 have hback:=zeC hf hm ⟨by omega,by omega⟩;have i1:Num 4607182418800017408/\idx 4607182418800017408=4607182418800017408:=by decide
 rcases Int.lt_trichotomy m n with g|g|g
 ·have hlt:v (idx x)<(n:Rat):=by rw[hm];exact Rat.intCast_lt_intCast.2 g
  have d:=yP (rest:=4607182418800017408) hl hf hR (by rw[i1.2];constructor<;>intro q<;>grind);have u:=yO (rest:=4607182418800017408) hl hf hR (by rw[i1.2];constructor<;>intro q<;>grind);exact⟨_,_,ql E hx hf h63 hback (fun _=>vX E hl hf i1.1) (fun q=>by omega) (fun q=>by omega),ql E hx hf h63 hback (fun _=>vW E hl hf i1.1) (fun q=>by omega) (fun q=>by omega),d.2,u.2,d.1,u.1⟩
 ·have heq:v (idx x)=(n:Rat):=by rw[hm,g]
  have v1:=v_lt (i:=idx x) (j:=idx x+1) (by omega);have v2:=v_lt (i:=idx x-1) (j:=idx x) (by omega);exact⟨x,x,ql E hx hf h63 hback (fun q=>by omega) (fun q=>by omega) (fun _=>rfl),ql E hx hf h63 hback (fun q=>by omega) (fun q=>by omega) (fun _=>rfl),hl,hl,⟨by grind,by grind⟩,⟨by grind,by grind⟩⟩
 ·have hlt:(n:Rat)<v (idx x):=by rw[hm];exact Rat.intCast_lt_intCast.2 g
  have d:=yP (rest:=13830554455654793216) hl hf hR (by rw[i2.2];constructor<;>intro q<;>grind);have u:=yO (rest:=13830554455654793216) hl hf hR (by rw[i2.2];constructor<;>intro q<;>grind);exact⟨_,_,ql E hx hf h63 hback (fun q=>by omega) (fun _=>vX E hl hf i2.1) (fun q=>by omega),ql E hx hf h63 hback (fun q=>by omega) (fun _=>vW E hl hf i2.1) (fun q=>by omega),d.2,u.2,d.1,u.1⟩
theorem zaW (E:Nat->Option Value){n:Int}{lo hi:Nat}(h1:DQz E 103 [.v (.int .i64 n),intD (-1)] (.data (flD lo)))(h2:DQz E 103 [.v (.int .i64 n),intD 1] (.data (flD hi))) :
  DQz E 60 [.v (.int .i64 n)] (.data (.tup [ivD (lo,hi),.v .nilIface])):=by
 refine dcA Tryz.func60 Tryz.ntmps60 (rs:=[.cell 2 59,.tmp 3]) fun _ _ _ _ _=>?_
 have e0:floatToIntVal .f64 4602678819172646912 .i64=some 0:=by decide +kernel
 have e1:((0:Int) != 0)=false:=by decide
 simp -implicitDefEqProofs only[go_sem,e0,e1];refine cI h1 ?_;simp -implicitDefEqProofs only[go_sem];refine cI h2 ?_;simp -implicitDefEqProofs only[go_sem];refine wc ?_;simp -implicitDefEqProofs only[go_sem]
end Go.Enc
end
section
namespace Go.Enc
open Go.Proofs Go.Enc.Fl
abbrev J9:ByteArray:=⟨#[43]⟩
abbrev yi:ByteArray:=⟨#[45]⟩
abbrev kc:ByteArray:=⟨#[42]⟩
abbrev xc:ByteArray:=⟨#[47]⟩
theorem zdB (E:Nat->Option Value){a b r:Nat×Nat}{l h:Nat}{e:D}(h1:DQz E 86 [flD a.1,flD b.1,intD (-1)] (.data (flD l)))(h2:DQz E 86 [flD a.2,flD b.2,intD 1] (.data (flD h)))
  (h3:DQz E 85 [strD J9,flD l,flD h] (.data (.tup [ivD r,e]))):DQz E 41 [ivD a,ivD b] (.data (.tup [ivD r,e])):=by
 refine dcA Tryz.func41 Tryz.ntmps41 (rs:=[.cell 4 59,.tmp 5]) fun _ _ _ _ _=>?_
 simp -implicitDefEqProofs only[go_sem];refine drw ?_;simp -implicitDefEqProofs only[go_sem];refine cI h1 ?_;simp -implicitDefEqProofs only[go_sem];refine cI h2 ?_;simp -implicitDefEqProofs only[go_sem];refine cI h3 ?_;simp -implicitDefEqProofs only[go_sem];refine wc ?_;simp -implicitDefEqProofs only[go_sem]
theorem HR (E:Nat->Option Value){a b r:Nat×Nat}{l h:Nat}{e:D}(h1:DQz E 86 [flD a.1,flD (fneg b.2),intD (-1)] (.data (flD l)))(h2:DQz E 86 [flD a.2,flD (fneg b.1),intD 1] (.data (flD h)))
  (h3:DQz E 85 [strD yi,flD l,flD h] (.data (.tup [ivD r,e]))):DQz E 42 [ivD a,ivD b] (.data (.tup [ivD r,e])):=by
 refine dcA Tryz.func42 Tryz.ntmps42 (rs:=[.cell 4 59,.tmp 5]) fun _ _ _ _ _=>?_
 simp -implicitDefEqProofs only[go_sem];refine drw ?_;simp -implicitDefEqProofs only[go_sem,wR];refine cI h1 ?_;simp -implicitDefEqProofs only[go_sem,wR];refine cI h2 ?_;simp -implicitDefEqProofs only[go_sem];refine cI h3 ?_;simp -implicitDefEqProofs only[go_sem];refine wc ?_;simp -implicitDefEqProofs only[go_sem]
theorem HW (E:Nat->Option Value){a b r:Nat×Nat}{e:D}(h3:DQz E 87 [strD kc,ivD a,ivD b,.v (.func (.func 88) #[] #[])] (.data (.tup [ivD r,e]))):DQz E 43 [ivD a,ivD b] (.data (.tup [ivD r,e])):=by
 refine dcA Tryz.func43 Tryz.ntmps43 (rs:=[.cell 4 59,.tmp 5]) fun _ _ _ _ _=>?_
 simp -implicitDefEqProofs only[go_sem];refine cI h3 ?_;simp -implicitDefEqProofs only[go_sem];refine wc ?_;simp -implicitDefEqProofs only[go_sem]
theorem yp (E:Nat->Option Value){b:Nat×Nat}{x:Nat}(h1:Num b.1)(h2:Num b.2)(hx:Num x):DQz E 89 [ivD b,flD x] (.data (bD (decide (idx b.1<=idx x)&&decide (idx x<=idx b.2)))):=by
 refine dcA Tryz.func89 Tryz.ntmps89 (rs:=[.tmp 4]) fun _ _ _ _ _=>?_
 have e1:=tV (VS h1 hx);have e2:=tV (VS hx h2);cases hA:decide (idx b.1<=idx x)
 ·rw[hA] at e1;simp -implicitDefEqProofs only[go_sem,e1,finK,Bool.false_and]
 ·rw[hA] at e1;simp -implicitDefEqProofs only[go_sem,e1,e2,finK,Bool.true_and]
theorem zcy (E:Nat->Option Value){a b r:Nat×Nat}{e:D}(h1:DQz E 89 [ivD b,flD 0] (.data (bD false)))(h3:DQz E 87 [strD xc,ivD a,ivD b,.v (.func (.func 90) #[] #[])] (.data (.tup [ivD r,e]))) :
  DQz E 44 [ivD a,ivD b] (.data (.tup [ivD r,e])):=by
 refine dcA Tryz.func44 Tryz.ntmps44 (rs:=[.cell 4 59,.tmp 5]) fun _ _ _ _ _=>?_
 simp -implicitDefEqProofs only[go_sem];refine cI h1 ?_;simp -implicitDefEqProofs only[go_sem];refine cI h3 ?_;simp -implicitDefEqProofs only[go_sem];refine wc ?_;simp -implicitDefEqProofs only[go_sem]
theorem zcx {E:Nat->Option Value}{q:Nat->Addr}(hq:Sent E q){a b:Nat×Nat}(h1:DQz E 89 [ivD b,flD 0] (.data (bD true))) :
  DQz E 44 [ivD a,ivD b] (.data (.tup [ivD (0,0),opE xc (eD q 3)])):=by
 refine dcA Tryz.func44 Tryz.ntmps44 (rs:=[.cell 4 59,.tmp 5]) fun _ _ _ _ _=>?_
 have e3:E 3=some (errV (q 3)):=hq.var 3 (by decide);simp -implicitDefEqProofs only[go_sem];refine cI h1 ?_;simp -implicitDefEqProofs only[go_sem];refine drw ?_;simp -implicitDefEqProofs only[go_sem,e3,errV];refine wc ?_;simp -implicitDefEqProofs only[go_sem,errV]
theorem VO (E:Nat->Option Value){x r:Nat×Nat}{e:D}(hm:DQz E 30 [flD x.1,flD x.2] (.data (.tup [ivD r,e]))):DQz E 37 [boxD x] (.data (ivD r)):=by
 refine dcA Tryz.func37 Tryz.ntmps37 (rs:=[.cell 2 59]) fun _ _ _ _ _=>?_
 simp -implicitDefEqProofs only[go_sem];refine drw ?_;simp -implicitDefEqProofs only[go_sem];refine cI (zp _ x.1) ?_;simp -implicitDefEqProofs only[go_sem];refine cI (zp _ x.2) ?_;simp -implicitDefEqProofs only[go_sem];refine cI hm ?_;simp -implicitDefEqProofs only[go_sem]
theorem ziN (E:Nat->Option Value){x y a b r:Nat×Nat}{e:D}{n:Int}{s:ByteArray}(h1:DQz E 37 [boxD x] (.data (ivD a)))(h2:DQz E 37 [boxD y] (.data (ivD b)))
  (h3:DQz E 41 [ivD a,ivD b] (.data (.tup [ivD r,e]))) (h4:DQz E 32 [e] (.data (.tup [intD n,strD s]))) :
  DQz E 17 [intD 3,boxD x,boxD y] (.data (.tup [boxD r,intD n,strD s])):=by
 refine dcA Tryz.func17 Tryz.ntmps17 (rs:=[.cell 6 32,.tmp 7,.tmp 8]) fun _ _ _ _ _=>?_
 simp -implicitDefEqProofs only[go_sem];refine drw ?_;simp -implicitDefEqProofs only[go_sem];refine cI h1 ?_;simp -implicitDefEqProofs only[go_sem];refine cI h2 ?_;simp -implicitDefEqProofs only[go_sem,Int.reduceBEq];refine cI h3 ?_;simp -implicitDefEqProofs only[go_sem];refine cI h4 ?_;simp -implicitDefEqProofs only[go_sem];refine cI (jN _ r) ?_;simp -implicitDefEqProofs only[go_sem];refine wc ?_;simp -implicitDefEqProofs only[go_sem]
theorem ziM (E:Nat->Option Value){x y a b r:Nat×Nat}{e:D}{n:Int}{s:ByteArray}(h1:DQz E 37 [boxD x] (.data (ivD a)))(h2:DQz E 37 [boxD y] (.data (ivD b)))
  (h3:DQz E 42 [ivD a,ivD b] (.data (.tup [ivD r,e]))) (h4:DQz E 32 [e] (.data (.tup [intD n,strD s]))) :
  DQz E 17 [intD 4,boxD x,boxD y] (.data (.tup [boxD r,intD n,strD s])):=by
 refine dcA Tryz.func17 Tryz.ntmps17 (rs:=[.cell 6 32,.tmp 7,.tmp 8]) fun _ _ _ _ _=>?_
 simp -implicitDefEqProofs only[go_sem];refine drw ?_;simp -implicitDefEqProofs only[go_sem];refine cI h1 ?_;simp -implicitDefEqProofs only[go_sem];refine cI h2 ?_;simp -implicitDefEqProofs only[go_sem,Int.reduceBEq];refine cI h3 ?_;simp -implicitDefEqProofs only[go_sem];refine cI h4 ?_;simp -implicitDefEqProofs only[go_sem];refine cI (jN _ r) ?_;simp -implicitDefEqProofs only[go_sem];refine wc ?_;simp -implicitDefEqProofs only[go_sem]
theorem ziL (E:Nat->Option Value){x y a b r:Nat×Nat}{e:D}{n:Int}{s:ByteArray}(h1:DQz E 37 [boxD x] (.data (ivD a)))(h2:DQz E 37 [boxD y] (.data (ivD b)))
  (h3:DQz E 43 [ivD a,ivD b] (.data (.tup [ivD r,e]))) (h4:DQz E 32 [e] (.data (.tup [intD n,strD s]))) :
  DQz E 17 [intD 5,boxD x,boxD y] (.data (.tup [boxD r,intD n,strD s])):=by
 refine dcA Tryz.func17 Tryz.ntmps17 (rs:=[.cell 6 32,.tmp 7,.tmp 8]) fun _ _ _ _ _=>?_
 simp -implicitDefEqProofs only[go_sem];refine drw ?_;simp -implicitDefEqProofs only[go_sem];refine cI h1 ?_;simp -implicitDefEqProofs only[go_sem];refine cI h2 ?_;simp -implicitDefEqProofs only[go_sem,Int.reduceBEq];refine cI h3 ?_;simp -implicitDefEqProofs only[go_sem];refine cI h4 ?_;simp -implicitDefEqProofs only[go_sem];refine cI (jN _ r) ?_;simp -implicitDefEqProofs only[go_sem];refine wc ?_;simp -implicitDefEqProofs only[go_sem]
theorem ziK (E:Nat->Option Value){x y a b r:Nat×Nat}{e:D}{n:Int}{s:ByteArray}(h1:DQz E 37 [boxD x] (.data (ivD a)))(h2:DQz E 37 [boxD y] (.data (ivD b)))
  (h3:DQz E 44 [ivD a,ivD b] (.data (.tup [ivD r,e]))) (h4:DQz E 32 [e] (.data (.tup [intD n,strD s]))) :
  DQz E 17 [intD 6,boxD x,boxD y] (.data (.tup [boxD r,intD n,strD s])):=by
 refine dcA Tryz.func17 Tryz.ntmps17 (rs:=[.cell 6 32,.tmp 7,.tmp 8]) fun _ _ _ _ _=>?_
 simp -implicitDefEqProofs only[go_sem];refine drw ?_;simp -implicitDefEqProofs only[go_sem];refine cI h1 ?_;simp -implicitDefEqProofs only[go_sem];refine cI h2 ?_;simp -implicitDefEqProofs only[go_sem,Int.reduceBEq];refine cI h3 ?_;simp -implicitDefEqProofs only[go_sem];refine cI h4 ?_;simp -implicitDefEqProofs only[go_sem];refine cI (jN _ r) ?_;simp -implicitDefEqProofs only[go_sem];refine wc ?_;simp -implicitDefEqProofs only[go_sem]
theorem zaD (E:Nat->Option Value){x:Int}{r:Nat×Nat}{n:Int}{s:ByteArray}{e:D}(h1:DQz E 60 [.v (.int .i64 x)] (.data (.tup [ivD r,e])))(h2:DQz E 32 [e] (.data (.tup [intD n,strD s]))) :
  DQz E 21 [intD 2,.v (.int .i64 x)] (.data (.tup [boxD r,intD n])):=by
 refine dcA Tryz.func21 Tryz.ntmps21 (rs:=[.cell 4 32,.tmp 5]) fun _ _ _ _ _=>?_
 simp -implicitDefEqProofs only[go_sem,Int.reduceBEq];refine cI h1 ?_;simp -implicitDefEqProofs only[go_sem];refine cI h2 ?_;simp -implicitDefEqProofs only[go_sem];refine cI (jN _ r) ?_;simp -implicitDefEqProofs only[go_sem];refine wc ?_;simp -implicitDefEqProofs only[go_sem]
end Go.Enc
end
end
