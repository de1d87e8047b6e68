/-
  Package math and package exact by their contracts on data. Package exact by its contracts: Plain, side, Add.
-/
import Derived.Test.YtjlibljfpkmpfaaGreatDoorSa09
import Derived.Test.YtjlibljfpkmpfaaGreatDoorSa10
import Derived.WalkKit
set_option maxRecDepth 100000
set_option linter.unusedSimpArgs false
set_option linter.unusedVariables false
section
section
namespace Go.Enc
open Go.Proofs Go.Enc.Fl
theorem xE {P:Program}{E:Nat->Option Value}{f:FuncId}{fn:Func}{args:List D}{d:D}{e:Array Value->Sem Value}(hf:P.funcs[f]?=some fn)(h1:(fn.name == "runtime.NumGoroutine")=false)(h2:fn.body.isNone=true)(h3:(Extern.findNext fn).isNone=true)
  (h4:Extern.find fn=some e) (h:∀(σ:Mem) (w:World) (us:List Value),RepL σ args us->∃u,(e us.toArray).run P w = .ok u w/\Rep σ d u):DCall P E f args (.data d):=by
 intro σ w us hF hargs o a next Q hnext
 obtain⟨u,hu,hr⟩:=h σ w us hargs;rw[run_callFunc_extern hf h1 h2 (by simpa using h3) h4,hu];exact hnext u w (After.same hF hr)
abbrev flD (b:Nat):D:=.v (.float .f64 b)
abbrev u64D (n:Int):D:=.v (.int .u64 n)
theorem js (E:Nat->Option Value)(n:Int):DQz E 77 [u64D n] (.data (flD n.toNat)):=by
 refine xE Tryz.func77 (by kernel_rfl) (by kernel_rfl) (by kernel_rfl) (e:=Extern.MathFloatBits.float64frombits) (by kernel_rfl) fun σ w us h=>?_
 simp only[RepL,Rep,u64D] at h;obtain⟨_,_,rfl,rfl,rfl⟩:=h;exact⟨.float .f64 n.toNat,rfl,by simp[flD,Rep]⟩
theorem x7 (E:Nat->Option Value)(n:Nat):DQz E 81 [flD n] (.data (u64D n)):=by
 refine xE Tryz.func81 (by kernel_rfl) (by kernel_rfl) (by kernel_rfl) (e:=Extern.MathFloatBits.float64bits) (by kernel_rfl) fun σ w us h=>?_
 simp only[RepL,Rep,flD] at h;obtain⟨_,_,rfl,rfl,rfl⟩:=h;exact⟨.int .u64 n,rfl,by simp[u64D,Rep]⟩
theorem yu (E:Nat->Option Value){x y z r:Nat}(hr:Ieee.double.fma x y z=some r):DQz E 127 [flD x,flD y,flD z] (.data (flD r)):=by
 refine xE Tryz.func127 (by kernel_rfl) (by kernel_rfl) (by kernel_rfl) (e:=Extern.MathFMA.fma) (by kernel_rfl) fun σ w us h=>?_
 simp only[RepL,Rep,flD] at h;obtain⟨_,_,rfl,rfl,_,_,rfl,rfl,_,_,rfl,rfl,rfl⟩:=h;refine⟨.float .f64 r,?_,by simp[flD,Rep]⟩;have:FloatKind.f64.format.fma x y z=some r:=hr
 show Sem.run _ (match FloatKind.f64.format.fma x y z with|some r=>(pure (Value.float .f64 r):Sem Value)|none=>_) w=_
 rw[this];rfl
theorem zhj (E:Nat->Option Value){x r:Nat}(hr:Ieee.double.sqrt x=some r):DQz E 145 [flD x] (.data (flD r)):=by
 refine xE Tryz.func145 (by kernel_rfl) (by kernel_rfl) (by kernel_rfl) (e:=Extern.MathSqrt.sqrt) (by kernel_rfl) fun σ w us h=>?_
 simp only[RepL,Rep,flD] at h;obtain⟨_,_,rfl,rfl,rfl⟩:=h;refine⟨.float .f64 r,?_,by simp[flD,Rep]⟩;have:FloatKind.f64.format.sqrt x=some r:=hr
 show Sem.run _ (match FloatKind.f64.format.sqrt x with|some r=>(pure (Value.float .f64 r):Sem Value)|none=>_) w=_
 rw[this];rfl
theorem zft (E:Nat->Option Value){x r:Nat}(hr:Ieee.double.sqrt x=some r):DQz E 128 [flD x] (.data (flD r)):=by
 refine dcA Tryz.func128 Tryz.ntmps128 (rs:=[.tmp 2]) fun _ _ _ _ _=>?_
 simp only[go_sem,flD];refine cI (zhj _ hr) ?_;simp only[go_sem,flD]
theorem zp (E:Nat->Option Value)(n:Nat):DQz E 31 [u64D n] (.data (flD n)):=by
 refine dcA Tryz.func31 Tryz.ntmps31 (rs:=[.tmp 2]) fun _ _ _ _ _=>?_
 simp only[go_sem,u64D,flD];refine cI (js _ n) ?_;simp only[go_sem,flD,Int.toNat_natCast]
theorem zbA {n:Int}(h:0<=n)(h2:n<18446744073709551616):IntKind.u64.wrap n=n:=by
 exact IntWalk.u64_in n ⟨h,by omega⟩
theorem Yj {b:Nat}(h:b<2^64):(BitVec.ofInt 64 (b:Int)).toNat=b:=by
 simp[BitVec.ofInt,Int.toNat_emod];omega
theorem Ha {b:Nat}(h:b<2^64):IntKind.u64.wrap ((BitVec.ofInt 64 (b:Int) &&& ~~~ BitVec.ofInt 64 9223372036854775808).toNat:Int)=((b % 2^63:Nat):Int):=by
 have e:(~~~ BitVec.ofInt 64 9223372036854775808).toNat=2^63-1:=by decide
 rw[BitVec.toNat_and,Yj h,e,Nat.and_two_pow_sub_one_eq_mod];exact zbA (by omega) (by omega)
theorem yL (E:Nat->Option Value){b:Nat}(h:b<2^64):DQz E 114 [flD b] (.data (flD (b % 2^63))):=by
 refine dcA Tryz.func114 Tryz.ntmps114 (rs:=[.tmp 2]) fun _ _ _ _ _=>?_
 simp only[go_sem,flD];refine cI (x7 _ b) ?_;simp only[go_sem,u64D,Ha h];refine cI (js _ _) ?_;simp only[go_sem,flD];have e:=congrArg Int.toNat (Ha h);rw[Int.toNat_natCast] at e;exact congrArg (fun z=>T.d (D.v (Value.float FloatKind.f64 z))) e
theorem U7 (E:Nat->Option Value)(n:Int):DQz E 122 [intD n] (.data (flD (if 0<=n then 9218868437227405312 else 18442240474082181120))):=by
 refine dcA Tryz.func122 Tryz.ntmps122 (rs:=[.tmp 2]) fun _ _ _ _ _=>?_
 simp only[go_sem,intD];refine wN (fun h=>?_) (fun h=>?_)
 ·simp only[go_sem];refine cI (js _ _) ?_;simp only[go_sem,flD];rw[if_pos (by simpa using h)]
 ·simp only[go_sem];refine cI (js _ _) ?_;simp only[go_sem,flD];rw[if_neg (by simpa using h)]
theorem Wn (E:Nat->Option Value):DQz E 126 [] (.data (flD 9221120237041090561)):=by
 refine dcA Tryz.func126 Tryz.ntmps126 (rs:=[.tmp 0]) fun _ _ _ _ _=>?_
 simp only[go_sem];refine cI (js _ _) ?_;simp only[go_sem,flD]
theorem HF {b:Nat}:(FloatKind.f64.format.order b b != some Ordering.eq)=decide (¬Num b):=by
 by_cases h:Num b
 ·have:FloatKind.f64.format.order b b=some .eq:=by
   show Ieee.double.order b b=_
   rw[qe h h];simp
  simp[this,h]
 ·have:FloatKind.f64.format.order b b=none:=by
   obtain⟨t,ht⟩:=Qp (b:=b) (by unfold Num at h;omega)
   show Ieee.double.order b b=_
   unfold Ieee.Format.order;rw[ht];rfl
  simp[this,h]
theorem Jf (E:Nat->Option Value)(b:Nat):DQz E 123 [flD b] (.data (wM (decide (¬Num b)))):=by
 refine dcA Tryz.func123 Tryz.ntmps123 (rs:=[.tmp 2]) fun _ _ _ _ _=>?_
 simp only[go_sem,flD,wM];rw[<-HF]
theorem Qu {x y:Nat}(hx:Num x)(hy:Num y):(FloatKind.f64.format.order x y==some Ordering.lt)=decide (idx x<idx y):=by
 have:FloatKind.f64.format.order x y=_:=qe hx hy;rw[this];split
 ·rename_i h;simp[h]
 ·rename_i h;split<;>simp[h]
theorem xQ {x y:Nat}(hx:Num x)(hy:Num y):(FloatKind.f64.format.order x y==some Ordering.gt)=decide (idx y<idx x):=by
 have:FloatKind.f64.format.order x y=_:=qe hx hy;rw[this];split
 ·rename_i h;simp;omega
 ·rename_i h;split
  ·rename_i h2;simp;omega
  ·rename_i h2;simp;omega
theorem xR {x y:Nat}(hx:Num x)(hy:Num y):(FloatKind.f64.format.order x y==some Ordering.eq)=decide (idx x=idx y):=by
 have:FloatKind.f64.format.order x y=_:=qe hx hy;rw[this];split
 ·rename_i h;simp;omega
 ·rename_i h;split
  ·rename_i h2;simp[h2]
  ·rename_i h2;simp[h2]
theorem VR {x y:Nat}(hx:Num x)(hy:Num y):(FloatKind.f64.format.order x y != some Ordering.eq) = !decide (idx x=idx y):=by
 rw[<-xR hx hy];rfl
theorem zcR {x y:Nat}(hx:Num x)(hy:Num y):(FloatKind.f64.format.order x y==some Ordering.gt||FloatKind.f64.format.order x y==some Ordering.eq)=decide (idx y<=idx x):=by
 rw[xQ hx hy,xR hx hy,Bool.eq_iff_iff];simp;omega
theorem VS {x y:Nat}(hx:Num x)(hy:Num y):(FloatKind.f64.format.order x y==some Ordering.lt||FloatKind.f64.format.order x y==some Ordering.eq)=decide (idx x<=idx y):=by
 rw[Qu hx hy,xR hx hy,Bool.eq_iff_iff];simp;omega
theorem num0:Num 0/\idx 0=0:=by decide
theorem vf (E:Nat->Option Value){b:Nat}(hl:b<2^64)(hb:Num b):DQz E 125 [flD b,intD 0] (.data (wM (decide (b % 2^63=inf)))):=by
 refine dcA Tryz.func125 Tryz.ntmps125 (rs:=[.tmp 4]) fun _ _ _ _ _=>?_
 simp only[go_sem,flD,wM,intD];refine wN (fun _=>?_) (fun h=>by cases h);simp only[go_sem];refine cI (yL _ hl) ?_;simp only[go_sem,flD];have h1:b % 2^63 % 2^63=b % 2^63:=Nat.mod_mod _ _;have n1:Num (b % 2^63):=by unfold Num at *;omega
 have n2:Num 9218868437227405311:=by decide
 have i1:idx (b % 2^63)=(b % 2^63:Nat):=xJ (by omega);have i2:idx 9218868437227405311=9218868437227405311:=by decide
 rw[xQ n1 n2,i1,i2];unfold Num inf at *;congr 4;simp only[eq_iff_iff];omega
end Go.Enc
end
section
namespace Go.Enc
open Go.Proofs Go.Enc.Fl
def wg (b:Nat):Bool:=decide (b % 2^63=0\/(123*2^52<=b % 2^63/\b % 2^63<=1923*2^52))
theorem XI {b c:Nat}(h:¬Num b):FloatKind.f64.format.order b c=none:=by
 obtain⟨t,ht⟩:=Qp (b:=b) (by unfold Num at h;omega)
 show Ieee.double.order b c=_
 unfold Ieee.Format.order;rw[ht];rfl
theorem xw {b:Nat}:Num (b % 2^63)↔Num b:=by unfold Num;rw[Nat.mod_mod]
theorem xC (b:Nat):idx (b % 2^63)=(b % 2^63:Nat):=xJ (Nat.mod_lt _ (by omega))
theorem xf {b:Nat}:idx b=0↔b % 2^63=0:=by rw[jB];split<;>omega
theorem yU (E:Nat->Option Value){b:Nat}(hl:b<2^64):DQz E 76 [flD b] (.data (wM (wg b))):=by
 refine dcA Tryz.func76 Tryz.ntmps76 (rs:=[.tmp 2]) fun _ _ _ _ _=>?_
 simp only[go_sem,flD,wM];refine cI (yL _ hl) ?_;have n2:Num 553942754166571008/\idx 553942754166571008=553942754166571008:=by decide
 have n3:Num 8660422083433463808/\idx 8660422083433463808=8660422083433463808:=by decide
 by_cases hN:Num b
 ·have hA:=xw.2 hN;have e1:=xR hN num0.1;have e2:=zcR hA n2.1;have e3:=VS hA n3.1;rw[num0.2] at e1;rw[n2.2,xC] at e2;rw[n3.2,xC] at e3;have hz:=@xf b;by_cases h0:b % 2^63=0
  ·have e1':=e1.trans (decide_eq_true (hz.2 h0));simp only[go_sem,flD,e1'];have:wg b=true:=decide_eq_true (.inl h0);rw[this]
  ·have e1':=e1.trans (decide_eq_false (fun e=>h0 (hz.1 e)));by_cases h1:123*2^52<=b % 2^63
   ·have e2':=e2.trans (decide_eq_true (by omega));simp only[go_sem,flD,e1',e2'];rw[e3];have:wg b=decide (((b % 2^63:Nat):Int)<=8660422083433463808):=by unfold wg;congr 1;simp only[eq_iff_iff];omega
    rw[this]
   ·have e2':=e2.trans (decide_eq_false (by omega));simp only[go_sem,flD,e1',e2'];have:wg b=false:=decide_eq_false (by omega);rw[this]
 ·have hA:¬Num (b % 2^63):=fun h=>hN (xw.1 h)
  have e1:(FloatKind.f64.format.order b 0==some Ordering.eq)=false:=by rw[XI hN];rfl
  have e2:(FloatKind.f64.format.order (b % 2^63) 553942754166571008==some Ordering.gt||FloatKind.f64.format.order (b % 2^63) 553942754166571008==some Ordering.eq)=false:=by rw[XI hA];rfl
  simp only[go_sem,flD,e1,e2];have:wg b=false:=decide_eq_false (by unfold Num inf at hN;omega);rw[this]
/-! ### The next float -/
theorem Xu {b:Nat}(h:b+1<2^64):(IntKind.u64.wrap ((b:Int)+1)).toNat=b+1:=by rw[zbA (by omega) (by omega)];omega
theorem Xt {b:Nat}(h:b<2^64)(h1:1<=b):(IntKind.u64.wrap ((b:Int)-1)).toNat=b-1:=by rw[zbA (by omega) (by omega)];omega
theorem YZ (E:Nat->Option Value):DQz E 147 [flD 1,flD 9218868437227405312] (.data (flD (1))):=by
 refine dcA Tryz.func147 Tryz.ntmps147 (rs:=[.tmp 4]) fun _ _ _ _ _=>?_
 simp only[go_sem,flD];refine cI (x7 _ _) ?_;simp only[go_sem,flD,u64D];refine cI (x7 _ _) ?_;simp only[go_sem,flD,u64D];refine cI (js _ _) ?_;simp only[go_sem,flD];exact congrArg (fun z=>T.d (D.v (Value.float FloatKind.f64 z))) (by decide)
theorem zfS (E:Nat->Option Value){b:Nat}(hl:b<2^64)(hf:Fl.Fin b) :
  DQz E 144 [flD b,flD 9218868437227405312] (.data (flD (yf b))):=by
 refine dcA Tryz.func144 Tryz.ntmps144 (rs:=[.tmp 4]) fun _ _ _ _ _=>?_
 have hN:=hf.num;have hi:=kd.1 hf;have hI:Num 9218868437227405312/\idx 9218868437227405312=(inf:Int):=by decide
 simp only[go_sem,flD];refine cI (Jf _ _) ?_;have a1:decide (¬Num b)=false:=decide_eq_false (fun h=>h hN);have a2:decide (¬Num 9218868437227405312)=false:=decide_eq_false (fun h=>h hI.1);simp only[go_sem,flD,wM,a1];refine cI (Jf _ _) ?_;have e1:=xR hN hI.1;have e1':=e1.trans (decide_eq_false (by rw[hI.2];omega));have e2:=xR hN num0.1;rw[num0.2] at e2;have e3:=xQ hI.1 hN;have e4:=xQ hN num0.1;rw[num0.2] at e4;have hinf:=yn;have e3':=e3.trans (decide_eq_true (by rw[hI.2];omega));rcases Int.lt_trichotomy (idx b) 0 with h|h|h
 ·have e2':=e2.trans (decide_eq_false (by omega));have e4':=e4.trans (decide_eq_false (by omega));obtain⟨r,g1,g2,g3,g4,_⟩:=Js hl h;have be:((true:Bool)==false)=false:=rfl;simp only[go_sem,flD,wM,a2,e1',e2',e3',e4',be];refine cI (x7 _ _) ?_;simp only[go_sem,flD,u64D];refine cI (js _ _) ?_;simp only[go_sem,flD];refine congrArg (fun z=>T.d (D.v (Value.float FloatKind.f64 z))) ?_;rw[Xt hl (by omega)];unfold yf;rw[if_neg (by omega),if_neg (by omega)]
 ·have e2':=e2.trans (decide_eq_true h);simp only[go_sem,flD,wM,a2,e1',e2'];refine cI (js _ _) ?_;simp only[go_sem,flD];refine cI (YZ _) ?_;simp only[go_sem,flD];unfold yf;rw[if_pos h]
 ·have e2':=e2.trans (decide_eq_false (by omega));have e4':=e4.trans (decide_eq_true (by omega));obtain⟨g1,g2,g3⟩:=yI hl h;have be:((true:Bool)==true)=true:=rfl;simp only[go_sem,flD,wM,a2,e1',e2',e3',e4',be];refine cI (x7 _ _) ?_;simp only[go_sem,flD,u64D];refine cI (js _ _) ?_;simp only[go_sem,flD];refine congrArg (fun z=>T.d (D.v (Value.float FloatKind.f64 z))) ?_;rw[Xu (by omega)];unfold yf;rw[if_neg (by omega),if_pos (by omega)]
theorem Y0 (E:Nat->Option Value):DQz E 147 [flD 1,flD 18442240474082181120] (.data (flD (2^63+1))):=by
 refine dcA Tryz.func147 Tryz.ntmps147 (rs:=[.tmp 4]) fun _ _ _ _ _=>?_
 simp only[go_sem,flD];refine cI (x7 _ _) ?_;simp only[go_sem,flD,u64D];refine cI (x7 _ _) ?_;simp only[go_sem,flD,u64D];refine cI (js _ _) ?_;simp only[go_sem,flD];exact congrArg (fun z=>T.d (D.v (Value.float FloatKind.f64 z))) (by decide)
theorem zfT (E:Nat->Option Value){b:Nat}(hl:b<2^64)(hf:Fl.Fin b) :
  DQz E 144 [flD b,flD 18442240474082181120] (.data (flD (yg b))):=by
 refine dcA Tryz.func144 Tryz.ntmps144 (rs:=[.tmp 4]) fun _ _ _ _ _=>?_
 have hN:=hf.num;have hi:=kd.1 hf;have hI:Num 18442240474082181120/\idx 18442240474082181120 = -(inf:Int):=by decide
 simp only[go_sem,flD];refine cI (Jf _ _) ?_;have a1:decide (¬Num b)=false:=decide_eq_false (fun h=>h hN);have a2:decide (¬Num 18442240474082181120)=false:=decide_eq_false (fun h=>h hI.1);simp only[go_sem,flD,wM,a1];refine cI (Jf _ _) ?_;have e1:=xR hN hI.1;have e1':=e1.trans (decide_eq_false (by rw[hI.2];omega));have e2:=xR hN num0.1;rw[num0.2] at e2;have e3:=xQ hI.1 hN;have e4:=xQ hN num0.1;rw[num0.2] at e4;have hinf:=yn;have e3':=e3.trans (decide_eq_false (by rw[hI.2];omega));rcases Int.lt_trichotomy (idx b) 0 with h|h|h
 ·have e2':=e2.trans (decide_eq_false (by omega));have e4':=e4.trans (decide_eq_false (by omega));obtain⟨r,g1,g2,g3,g4,_⟩:=Js hl h;have be:((false:Bool)==false)=true:=rfl;simp only[go_sem,flD,wM,a2,e1',e2',e3',e4',be];refine cI (x7 _ _) ?_;simp only[go_sem,flD,u64D];refine cI (js _ _) ?_;simp only[go_sem,flD];refine congrArg (fun z=>T.d (D.v (Value.float FloatKind.f64 z))) ?_;rw[Xu (by omega)];unfold yg;rw[if_neg (by omega),if_neg (by omega)]
 ·have e2':=e2.trans (decide_eq_true h);simp only[go_sem,flD,wM,a2,e1',e2'];refine cI (js _ _) ?_;simp only[go_sem,flD];refine cI (Y0 _) ?_;simp only[go_sem,flD];unfold yg;rw[if_pos h]
 ·have e2':=e2.trans (decide_eq_false (by omega));have e4':=e4.trans (decide_eq_true (by omega));obtain⟨g1,g2,g3⟩:=yI hl h;have be:((false:Bool)==true)=false:=rfl;simp only[go_sem,flD,wM,a2,e1',e2',e3',e4',be];refine cI (x7 _ _) ?_;simp only[go_sem,flD,u64D];refine cI (js _ _) ?_;simp only[go_sem,flD];refine congrArg (fun z=>T.d (D.v (Value.float FloatKind.f64 z))) ?_;rw[Xt hl (by omega)];unfold yg;rw[if_neg (by omega),if_pos (by omega)]
theorem vW (E:Nat->Option Value){x r:Nat}(hl:x<2^64)(hf:Fl.Fin x)(hr:Num r):DQz E 121 [flD x,flD r,intD (1)] (.data (flD (side x r (1)))):=by
 refine dcA Tryz.func121 Tryz.ntmps121 (rs:=[.tmp 6]) fun _ _ _ _ _=>?_
 have e1:=xQ hr num0.1;rw[num0.2] at e1;have g1:decide ((1:Int)>0)=true:=rfl;have g2:decide ((-1:Int)>0)=false:=rfl;by_cases h:0<idx r
 ·have e1':=e1.trans (decide_eq_true h);simp only[go_sem,flD,intD,e1',g1,g2];refine cI (U7 _ _) ?_;simp only[go_sem,flD];refine cI (zfS _ hl hf) ?_;simp only[go_sem,flD];unfold side;rw[if_neg (by omega),if_pos ⟨by omega,h⟩]
 ·have e1':=e1.trans (decide_eq_false h);simp only[go_sem,flD,intD,e1',g1,g2];unfold side;rw[if_neg (by omega),if_neg (by omega)]
theorem vX (E:Nat->Option Value){x r:Nat}(hl:x<2^64)(hf:Fl.Fin x)(hr:Num r):DQz E 121 [flD x,flD r,intD (-1)] (.data (flD (side x r (-1)))):=by
 refine dcA Tryz.func121 Tryz.ntmps121 (rs:=[.tmp 6]) fun _ _ _ _ _=>?_
 have e1:=Qu hr num0.1;rw[num0.2] at e1;have g1:decide ((1:Int)>0)=true:=rfl;have g2:decide ((-1:Int)>0)=false:=rfl;by_cases h:idx r<0
 ·have e1':=e1.trans (decide_eq_true h);simp only[go_sem,flD,intD,e1',g1,g2];refine cI (U7 _ _) ?_;simp only[go_sem,flD];refine cI (zfT _ hl hf) ?_;simp only[go_sem,flD];unfold side;rw[if_pos ⟨by omega,h⟩]
 ·have e1':=e1.trans (decide_eq_false h);simp only[go_sem,flD,intD,e1',g1,g2];unfold side;rw[if_neg (by omega),if_neg (by omega)]
end Go.Enc
end
end
section
namespace Go.Enc.Dg
abbrev B:Nat:=16777216
def vl:List Nat->Nat
 |[]=>0
 |d :: r=>d+B*vl r
def Dig (l:List Nat):Prop:=∀d∈l,d<B
def dg (n:Nat):List Nat:=if _h:n=0 then [] else (n % B) :: dg (n/B)
termination_by n
decreasing_by exact Nat.div_lt_self (Nat.pos_of_ne_zero ‹_›) (by decide)
theorem jU:dg 0=[]:=by rw[dg];simp
theorem zw {n:Nat}(h:n≠0):dg n=(n % B) :: dg (n/B):=by rw[dg];simp[h]
theorem q9 (n:Nat):vl (dg n)=n:=by
 induction n using Nat.strongRecOn with
 |ind n ih=>
  by_cases h:n=0
  ·subst h;rw[jU];rfl
  ·rw[zw h];simp only[vl];rw[ih (n/B) (Nat.div_lt_self (Nat.pos_of_ne_zero h) (by decide))];exact Nat.mod_add_div n B
theorem kZ (n:Nat):Dig (dg n):=by
 induction n using Nat.strongRecOn with
 |ind n ih=>
  by_cases h:n=0
  ·subst h;rw[jU];intro d hd;cases hd
  ·rw[zw h];intro d hd;rcases List.mem_cons.1 hd with rfl|hd
   ·exact Nat.mod_lt _ (by decide)
   ·exact ih (n/B) (Nat.div_lt_self (Nat.pos_of_ne_zero h) (by decide)) d hd
theorem Dig.cons {d:Nat}{l:List Nat}(h:Dig (d :: l)):d<B/\Dig l:=⟨h d (by simp),fun x hx=>h x (by simp[hx])⟩
theorem Dig.snoc {d:Nat}{l:List Nat}(k:Dig l)(h:d<B):Dig (l++[d]):=fun x hx=>by
 simp only[List.mem_append,List.mem_singleton] at hx;rcases hx with hx|rfl
 ·exact k x hx
 ·exact h
theorem Dig.set {d i:Nat}{l:List Nat}(k:Dig l)(h:d<B):Dig (l.set i d):=fun x hx=>by
 rcases List.mem_or_eq_of_mem_set hx with hx|rfl
 ·exact k x hx
 ·exact h
theorem Dig.take {i:Nat}{l:List Nat}(k:Dig l):Dig (l.take i):=fun x hx=>k x (List.mem_of_mem_take hx)
theorem Dig.app {l m:List Nat}(k:Dig l)(h:Dig m):Dig (l++m):=fun x hx=>by
 simp only[List.mem_append] at hx;rcases hx with hx|hx
 ·exact k x hx
 ·exact h x hx
theorem Dig.get {l:List Nat}(k:Dig l){i x:Nat}(h:l[i]?=some x):x<B:=k x (List.mem_of_getElem? h)
theorem zV:∀ {l:List Nat},Dig l->vl l<B^l.length
 |[],_=>by simp[vl]
 |d :: l,h=>by
  have:=zV h.cons.2;have h1:=h.cons.1;simp only[vl,List.length_cons,Nat.pow_succ];generalize B^l.length=p at *;simp only[B] at *;omega
theorem zW:∀(l m:List Nat),vl (l++m)=vl l+B^l.length*vl m
 |[],m=>by simp[vl]
 |d :: l,m=>by
  simp only[List.cons_append,vl,zW l m,List.length_cons,Nat.pow_succ];rw[Nat.mul_add,Nat.mul_comm (B^l.length) B,Nat.mul_assoc];omega
theorem WS (l:List Nat)(d:Nat):vl (l++[d])=vl l+B^l.length*d:=by rw[zW];simp[vl]
theorem zbD:∀(l:List Nat) (i x d:Nat),l[i]?=some x->vl (l.set i d)+B^i*x=vl l+B^i*d
 |[],i,x,d,h=>by simp at h
 |a :: l,0,x,d,h=>by
  simp only[List.getElem?_cons_zero,Option.some.injEq] at h;subst h;simp[vl];omega
 |a :: l,i+1,x,d,h=>by
  simp only[List.getElem?_cons_succ] at h;have:=zbD l i x d h;simp only[List.set_cons_succ,vl,Nat.pow_succ];have e1:B^i*B*x=B*(B^i*x):=by rw[Nat.mul_comm (B^i) B,Nat.mul_assoc]
  have e2:B^i*B*d=B*(B^i*d):=by rw[Nat.mul_comm (B^i) B,Nat.mul_assoc]
  rw[e1,e2];generalize B^i*x=p at *;generalize B^i*d=q at *;generalize vl (l.set i d)=u at *;simp only[B];omega
theorem j9 {l:List Nat}{i x:Nat}(h:l[i]?=some x):vl (l.take (i+1))=vl (l.take i)+B^i*x:=by
 have hl:i<l.length:=by
  rcases Nat.lt_or_ge i l.length with h'|h'
  ·exact h'
  ·rw[List.getElem?_eq_none h'] at h;cases h
 rw[List.take_add_one,h];simp only[Option.toList_some];rw[WS,List.length_take,Nat.min_eq_left (by omega)]
theorem jp {l:List Nat}{i:Nat}(h:l.length<=i):vl (l.take i)=vl l:=by rw[List.take_of_length_le h]
theorem KQ (n:Nat):vl (List.replicate n 0)=0:=by
 induction n with
 |zero=>rfl
 |succ n ih=>simp[List.replicate_succ,vl,ih]
theorem XZ (n:Nat):Dig (List.replicate n 0):=fun d hd=>by
 rw[(List.mem_replicate.1 hd).2];decide
theorem YX:∀ {l:List Nat},Dig l->(l=[]\/B^(l.length-1)<=vl l)->dg (vl l)=l
 |[],_,_=>jU
 |d :: l,h,hb=>by
  have h1:=h.cons.1;have hl:=zV h.cons.2;rcases hb with hb|hb
  ·cases hb
  simp only[List.length_cons,Nat.add_sub_cancel,vl] at hb;have hne:d+B*vl l≠0:=by
   have:0<B^l.length:=Nat.pow_pos (by decide);omega
  simp only[vl];rw[zw hne];have e1:(d+B*vl l) % B=d:=by rw[Nat.add_mul_mod_self_left,Nat.mod_eq_of_lt h1]
  have e2:(d+B*vl l)/B=vl l:=by rw[Nat.add_mul_div_left _ _ (by decide),Nat.div_eq_of_lt h1];omega
  rw[e1,e2,YX h.cons.2 ?_];cases l with
  |nil=>exact .inl rfl
  |cons e l=>
   refine .inr ?_;simp only[List.length_cons,Nat.add_sub_cancel,Nat.pow_succ] at hb ⊢;generalize vl (e :: l)=v at *;generalize B^l.length=p at *;simp only[B] at *;omega
theorem Rs {n:Nat}(h:n≠0):B^((dg n).length-1)<=n:=by
 induction n using Nat.strongRecOn with
 |ind n ih=>
  rw[zw h];simp only[List.length_cons,Nat.add_sub_cancel];by_cases h2:n/B=0
  ·rw[h2,jU];simp;omega
  ·have h3:=ih (n/B) (Nat.div_lt_self (Nat.pos_of_ne_zero h) (by decide)) h2;have hne:dg (n/B)≠[]:=by rw[zw h2];simp
   have hp:0<(dg (n/B)).length:=List.length_pos_iff.2 hne;obtain⟨m,hm⟩:∃m,(dg (n/B)).length=m+1:=⟨(dg (n/B)).length-1,by omega⟩;rw[hm] at h3 ⊢;simp only[Nat.add_sub_cancel] at *;have h4:=Nat.mul_le_mul_right B h3;have h5:=Nat.div_mul_le_self n B;rw[Nat.pow_succ];exact Nat.le_trans h4 h5
theorem X3 (n:Nat):n<B^(dg n).length:=by have:=zV (kZ n);rwa [q9] at this
theorem zdi {n:Nat}:dg n=[]↔n=0:=by
 constructor
 ·intro h;have:=q9 n;rw[h] at this;exact this.symm
 ·rintro rfl;exact jU
theorem y7 {n:Nat}:(dg n).length=0↔n=0:=by rw[List.length_eq_zero_iff];exact zdi
theorem X4 {n i:Nat}(h2:n<B^i):(dg n).length<=i:=by
 by_cases h0:n=0
 ·rw[y7.2 h0];omega
 ·rcases Nat.lt_or_ge i (dg n).length with h|h
  ·have a:=Rs h0;have:=Nat.pow_le_pow_right (show 0<B by decide) (show i<=(dg n).length-1 by omega);omega
  ·exact h
theorem yC {n m:Nat}(h:n<=m):(dg n).length<=(dg m).length:=X4 (Nat.lt_of_le_of_lt h (X3 m))
theorem KR {l:List Nat}{i x:Nat}(h:l[i]?=some x):vl l=vl (l.take i)+B^i*x+B^(i+1)*vl (l.drop (i+1)):=by
 have hl:i<l.length:=by
  rcases Nat.lt_or_ge i l.length with h'|h'
  ·exact h'
  ·rw[List.getElem?_eq_none h'] at h;cases h
 have e:l=l.take (i+1)++l.drop (i+1):=(List.take_append_drop _ _).symm;have:=zW (l.take (i+1)) (l.drop (i+1));rw[<-e,j9 h,List.length_take,Nat.min_eq_left (by omega)] at this;exact this
theorem Zl {l:List Nat}(hl:Dig l)(i:Nat):vl (l.drop i)=vl l/B^i:=by
 rcases Nat.lt_or_ge i l.length with h|h
 ·have:=zW (l.take i) (l.drop i);rw[List.take_append_drop,List.length_take,Nat.min_eq_left (by omega)] at this;have hlt:=zV (hl.take (i:=i));rw[List.length_take,Nat.min_eq_left (by omega)] at hlt;rw[this,Nat.add_mul_div_left _ _ (Nat.pow_pos (by decide)),Nat.div_eq_of_lt hlt,Nat.zero_add]
 ·rw[List.drop_of_length_le h];have h1:=zV hl;have h2:=Nat.pow_le_pow_right (show 0<B by decide) h;rw[Nat.div_eq_of_lt (by omega)];rfl
theorem zel {l:List Nat}(hl:Dig l)(i:Nat):vl (l.take i)=vl l % B^i:=by
 rcases Nat.lt_or_ge i l.length with h|h
 ·have:=zW (l.take i) (l.drop i);rw[List.take_append_drop,List.length_take,Nat.min_eq_left (by omega)] at this;have hlt:=zV (hl.take (i:=i));rw[List.length_take,Nat.min_eq_left (by omega)] at hlt;rw[this,Nat.add_mul_mod_self_left,Nat.mod_eq_of_lt hlt]
 ·rw[List.take_of_length_le h];have h1:=zV hl;have h2:=Nat.pow_le_pow_right (show 0<B by decide) h;rw[Nat.mod_eq_of_lt (by omega)]
theorem zec (l:List Nat)(i:Nat)(h:∀j x,i<=j->l[j]?=some x->x=0):vl (l.take i)=vl l:=by
 have:=zW (l.take i) (l.drop i);rw[List.take_append_drop] at this;have hz:∀m:List Nat,(∀(j x:Nat),m[j]?=some x->x=0)->vl m=0:=by
  intro m
  induction m with
  |nil=>intro _;rfl
  |cons d m ih=>
   intro hm;simp only[vl];rw[hm 0 d (by simp),ih fun j x hj=>hm (j+1) x (by simpa using hj)];rfl
 have hd:vl (l.drop i)=0:=hz _ fun j x hj=>by
  rw[List.getElem?_drop] at hj;exact h (i+j) x (by omega) hj
 rw[this,hd];omega
end Go.Enc.Dg
end
