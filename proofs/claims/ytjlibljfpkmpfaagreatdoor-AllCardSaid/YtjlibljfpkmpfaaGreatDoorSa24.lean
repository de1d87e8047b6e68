/-
  The corners of products and of quotients, and where they are rounded to. Sums, differences, products, quotients of intervals: plain where they are not too great; they hold.
-/
import Derived.Test.YtjlibljfpkmpfaaGreatDoorSa22
set_option maxRecDepth 100000
set_option linter.unusedSimpArgs false
set_option linter.unusedVariables false
section
section
namespace Go.Enc
open Go.Proofs Go.Enc.Fl
theorem Qv {b:Nat}(h : -(inf:Int)<=idx b/\idx b<=inf):Num b:=by
 unfold Num;rw[jB] at h;split at h<;>omega
theorem vz {p r:Nat}(w:Int)(hl:p<2^64)(hf:Fl.Fin p):Num (side p r w):=by
 have hi:=kd.1 hf;unfold side;split
 ·have:=(xX hl hf).1;exact Qv (by omega)
 ·split
  ·have:=(xW hl hf).1;exact Qv (by omega)
  ·exact hf.num
theorem Yg:p901=549439154539200512:=by unfold p901 pw;omega
theorem Xy {p:Nat}(hn:Num p):(FloatKind.f64.format.order (p % 2^63) 549439154539200512==some Ordering.lt)=decide (-p901<idx p/\idx p<p901):=by
 rw[Qu (xw.2 hn) (show Num 549439154539200512 by decide),xC,show idx 549439154539200512=549439154539200512 by decide,Yg];congr 1;rw[eq_iff_iff];have:=jB p;split at this<;>omega
theorem UU {p:Nat}(hn:Num p):(FloatKind.f64.format.order (p % 2^63) 4607182418800017408==some Ordering.gt)=decide ((4607182418800017408:Int)<(p % 2^63:Nat)):=by
 rw[xQ (xw.2 hn) (show Num 4607182418800017408 by decide),xC,show idx 4607182418800017408=4607182418800017408 by decide]
theorem U0:¬Num 9221120237041090561:=by decide
theorem zf {a:Nat}(ha:Num a):(FloatKind.f64.format.order a 0==some Ordering.lt)=decide (idx a<0):=by
 have:=Qu ha num0.1
 rwa [num0.2] at this
theorem KI {a:Nat}(ha:Num a):(FloatKind.f64.format.order a 0==some Ordering.eq)=decide (idx a=0):=by
 have:=xR ha num0.1
 rwa [num0.2] at this
theorem Jb {a:Nat}(ha:Num a):(FloatKind.f64.format.order a 0 != some Ordering.eq) = !decide (idx a=0):=by
 have:=VR ha num0.1
 rwa [num0.2] at this
theorem Uw {p:Nat}{z:Prop}{n1 n2:Bool}(hn:Num p)(ho:Odd p z):(if decide ((4607182418800017408:Int)<(p % 2^63:Nat))=true then p else if (n1 != n2)=true then 9223372036854775809 else 1)=kv p (n1 != n2):=by
 unfold kv;by_cases h:p % 2^63=inf
 ·rw[if_pos h,if_pos (decide_eq_true (by rw[h];unfold inf;omega))]
 ·rw[if_neg h];have:¬((4607182418800017408:Int)<(p % 2^63:Nat)):=by
   unfold Odd at ho;rw[Yg] at ho;have:=jB p;rcases ho with ho|ho|ho
   ·split at this<;>omega
   ·exact absurd ho h
   ·split at this<;>omega
  rw[if_neg (by simpa using this)]
theorem yX (E:Nat->Option Value){a b:Nat}(ha:OkB a)(hb:OkB b):∃l h,Corner E 88 kc a b l h/\DnK (v (idx a)*v (idx b)) (K (idx l))/\UpK (v (idx a)*v (idx b)) (K (idx h)):=by
 obtain⟨p,ep,hl,hn,c1,c2⟩:=Qz ha hb;have na:=ha.fin.num;have nb:=hb.fin.num;have g1:=Xy hn;have g2:=Jb hn;have g4:=KI hn;have g5:=Jb na;have g6:=Jb nb;have ep':FloatKind.f64.format.mul a b=some p:=ep;have ho:oddM (decide (-p901<idx p/\idx p<p901)) (!decide (idx p=0)) (decide (p % 2^63=inf)) (decide (idx p=0)) (!decide (idx a=0)) (!decide (idx b=0))=true↔Odd p (idx a=0\/idx b=0):=by
  simp only[oddM,Odd,Bool.or_eq_true,Bool.and_eq_true,Bool.not_eq_true',decide_eq_true_eq,decide_eq_false_iff_not];omega
 by_cases h:Odd p (idx a=0\/idx b=0)
 ·obtain⟨d1,d2,d3,d4⟩:=c2 h;have ho':=ho.2 h;refine⟨_,_,⟨⟨_,_,ZC E (-1) ep' hl hn g1 g2 rfl g4 g5 g6 ho',ZC E 1 ep' hl hn g1 g2 rfl g4 g5 g6 ho',.inr ⟨U0,?_,rfl⟩⟩,d4,d4,d3,d3⟩,d1,d2⟩;have ht:=zbL E (s:=kc) (dv:=false) (by kernel_rfl) ep' (p:=p) (by simpa using ep') hl (UU hn) (zf na) (zf nb)
  rwa [Uw hn h] at ht
 ·obtain⟨fp,r,er,nr,d1,d2,d3,d4⟩:=c1 h;have ho':=Bool.eq_false_iff.2 (fun k=>h (ho.1 k));exact⟨_,_,⟨⟨_,_,Ur E (-1) ep' hl hn g1 g2 rfl g4 g5 g6 ho' er (vX E hl fp nr),Ur E 1 ep' hl hn g1 g2 rfl g4 g5 g6 ho' er (vW E hl fp nr),.inl ⟨vz _ hl fp,rfl,rfl⟩⟩,vz _ hl fp,vz _ hl fp,d3,d4⟩,d1,d2⟩
theorem Rq (E:Nat->Option Value){a b:Nat}(ha:OkB a)(hb:OkB b)(hb0:idx b≠0):∃l h,Corner E 90 xc a b l h/\DnK (v (idx a)/v (idx b)) (K (idx l))/\UpK (v (idx a)/v (idx b)) (K (idx h)):=by
 obtain⟨p,ep,hl,hn,c1,c2⟩:=Uc ha hb hb0;obtain⟨m,em,_⟩:=Qz ha hb;have na:=ha.fin.num;have nb:=hb.fin.num;have g1:=Xy hn;have g2:=Jb hn;have g4:=KI hn;have g5:=Jb na;have gb:=zf nb;have ep':FloatKind.f64.format.div a b=some p:=ep;have em':FloatKind.f64.format.mul a b=some m:=em;have ho:oddV (decide (-p901<idx p/\idx p<p901)) (!decide (idx p=0)) (decide (p % 2^63=inf)) (decide (idx p=0)) (!decide (idx a=0))=true↔Odd p (idx a=0):=by
  simp only[oddV,Odd,Bool.or_eq_true,Bool.and_eq_true,Bool.not_eq_true',decide_eq_true_eq,decide_eq_false_iff_not];omega
 by_cases h:Odd p (idx a=0)
 ·obtain⟨d1,d2,d3,d4⟩:=c2 h;have ho':=ho.2 h;refine⟨_,_,⟨⟨_,_,ZD E (-1) ep' hl hn g1 g2 rfl g4 g5 ho',ZD E 1 ep' hl hn g1 g2 rfl g4 g5 ho',.inr ⟨U0,?_,rfl⟩⟩,d4,d4,d3,d3⟩,d1,d2⟩;have ht:=zbL E (s:=xc) (dv:=true) (by kernel_rfl) em' (p:=p) (by simpa using ep') hl (UU hn) (zf na) (zf nb)
  rwa [Uw hn h] at ht
 ·obtain⟨fp,r,er,rl,nr,d1,d2,d3,d4⟩:=c1 h;have ho':=Bool.eq_false_iff.2 (fun k=>h (ho.1 k));have nr':Num (if idx b<0 then fneg r else r):=by
   split
   ·unfold Num;rw[(jt rl).2.1];exact nr
   ·exact nr
  have hsD:=vX E hl fp nr';have hsU:=vW E hl fp nr';have e:(if decide (idx b<0)=true then fneg r else r)=(if idx b<0 then fneg r else r):=by simp
  exact⟨_,_,⟨⟨_,_,Us E (-1) ep' hl hn g1 g2 rfl g4 g5 ho' er gb (by rw[e];exact hsD),Us E 1 ep' hl hn g1 g2 rfl g4 g5 ho' er gb (by rw[e];exact hsU),.inl ⟨vz _ hl fp,rfl,rfl⟩⟩,vz _ hl fp,vz _ hl fp,d3,d4⟩,d1,d2⟩
end Go.Enc
end
section
namespace Go.Enc
open Go.Proofs Go.Enc.Fl
structure Gd (x:Nat×Nat):Prop where
 l1:x.1<18446744073709551616
 l2:x.2<18446744073709551616
 p1:wg x.1=true
 p2:wg x.2=true
 le:idx x.1<=idx x.2
 q1:posB x.1=x.1
 q2:posB x.2=x.2
theorem xU {b:Nat}(h:ok (idx b)):wg b=true:=by
 unfold wg;apply decide_eq_true;have:=jB b;unfold ok p0 p1 at h;split at this<;>omega
theorem kQ {b:Nat}(h:wg b=true)(hl:b<18446744073709551616):OkB b:=by
 refine⟨hl,?_⟩;have h:=of_decide_eq_true h;have:=jB b;unfold ok p0 p1;split at this<;>omega
theorem jS (b:Nat):idx (posB b)=idx b:=by
 unfold posB;split
 ·rename_i h;subst h;decide
 ·rfl
theorem jq {b:Nat}(h:wg b=true):wg (posB b)=true:=by
 unfold posB;split
 ·decide
 ·exact h
def Mid (X:Rat):Prop:=X=0\/(v p0<=X/\X<v (p1+1))\/(v (-p1)<=X/\X<v (-p0+1))
theorem Vk (E:Nat->Option Value){a b:Nat}(ha:OkB a)(hb:OkB b):∃l h,DQz E 86 [flD a,flD b,intD (-1)] (.data (flD l))/\DQz E 86 [flD a,flD b,intD 1] (.data (flD h)) /\
  l<2^64/\h<2^64/\Dn (v (idx a)+v (idx b)) (idx l)/\Up (v (idx a)+v (idx b)) (idx h):=by
 obtain⟨s,t,c,d,f,r,es,et,ec,ed,ef,er,sl,sf,rn,⟨d1,d2⟩,u1,u2⟩:=zau ha hb;exact⟨_,_,zaz E es et ec ed ef er (vX E sl sf rn),zaz E es et ec ed ef er (vW E sl sf rn),d2,u2,d1,u1⟩
theorem mins {a b c d x:Int}(h:x=a\/x=b\/x=c\/x=d):min (min (min a b) c) d<=x:=by omega
theorem maxs {a b c d x:Int}(h:x=a\/x=b\/x=c\/x=d):x<=max (max (max a b) c) d:=by omega
end Go.Enc
end
end
section
namespace Go.Enc
open Go.Proofs Go.Enc.Fl
abbrev XD:ByteArray:=⟨#[115,113,114,116]⟩
theorem Uq (E:Nat->Option Value){a s r y:Nat}{w:Int}(es:Ieee.double.sqrt a=some s)(er:Ieee.double.fma (fneg s) s a=some r)(hs:DQz E 121 [flD s,flD r,intD w] (.data (flD y))) :
  DQz E 91 [flD a,intD w] (.data (flD y)):=by
 refine dcA Tryz.func91 Tryz.ntmps91 (rs:=[.tmp 4]) fun _ _ _ _ _=>?_
 simp -implicitDefEqProofs only[go_sem];refine cI (zft _ es) ?_;simp -implicitDefEqProofs only[go_sem,wR];refine cI (yu _ er) ?_;simp -implicitDefEqProofs only[go_sem];refine cI hs ?_;simp -implicitDefEqProofs only[go_sem,finK]
theorem zid (E:Nat->Option Value){a r:Nat×Nat}(h1:FloatKind.f64.format.sub 0 a.2=some r.1)(h2:FloatKind.f64.format.sub 0 a.1=some r.2):DQz E 38 [ivD a] (.data (ivD r)):=by
 refine dcA Tryz.func38 Tryz.ntmps38 (rs:=[.cell 2 59]) fun _ _ _ _ _=>?_
 simp -implicitDefEqProofs only[go_sem,h1,h2]
theorem zfm (E:Nat->Option Value){a b r:Nat×Nat}(h1:qx false a.1 b.1=some r.1)(h2:qx true a.2 b.2=some r.2):DQz E 39 [ivD a,ivD b] (.data (ivD r)):=by
 refine dcA Tryz.func39 Tryz.ntmps39 (rs:=[.cell 4 59]) fun _ _ _ _ _=>?_
 simp -implicitDefEqProofs only[go_sem,h1,h2]
theorem zfl {E:Nat->Option Value}{q:Nat->Addr}(hq:Sent E q){a b r:Nat×Nat}(h1:qx true a.1 b.1=some r.1)(h2:qx false a.2 b.2=some r.2)(n1:Num r.1)(n2:Num r.2) :
  DQz E 40 [ivD a,ivD b] (.data (if idx r.2<idx r.1 then .tup [ivD (0,0),eD q 5] else .tup [ivD r,.v .nilIface])):=by
 refine dcA Tryz.func40 Tryz.ntmps40 (rs:=[.cell 4 59,.tmp 5]) fun _ _ _ _ _=>?_
 have g:=xQ n1 n2;have e5:E 5=some (errV (q 5)):=hq.var 5 (by decide);by_cases h:idx r.2<idx r.1
 ·have g1:(FloatKind.f64.format.order r.1 r.2==some Ordering.gt)=true:=g.trans (decide_eq_true h);have g2:=tV g1;rw[if_pos h];simp -implicitDefEqProofs only[go_sem,h1,h2,g2];refine drw ?_;simp -implicitDefEqProofs only[go_sem,e5,errV];refine wc ?_;simp -implicitDefEqProofs only[go_sem,errV]
 ·have g1:(FloatKind.f64.format.order r.1 r.2==some Ordering.gt)=false:=g.trans (decide_eq_false h);rw[if_neg h];simp -implicitDefEqProofs only[go_sem,h1,h2,g1];refine wc ?_;simp -implicitDefEqProofs only[go_sem]
theorem zfj (E:Nat->Option Value){a r:Nat×Nat}{l h:Nat}{e:D}(n1:Num a.1)(hn:¬idx a.1<0)(h1:DQz E 91 [flD a.1,intD (-1)] (.data (flD l)))(h2:DQz E 91 [flD a.2,intD 1] (.data (flD h)))
  (h3:DQz E 85 [strD XD,flD l,flD h] (.data (.tup [ivD r,e]))):DQz E 45 [ivD a] (.data (.tup [ivD r,e])):=by
 refine dcA Tryz.func45 Tryz.ntmps45 (rs:=[.cell 2 59,.tmp 3]) fun _ _ _ _ _=>?_
 have g1:(FloatKind.f64.format.order a.1 0==some Ordering.lt)=false:=(zf n1).trans (decide_eq_false hn);simp -implicitDefEqProofs only[go_sem,g1];refine drw ?_;simp -implicitDefEqProofs only[go_sem];refine cI h1 ?_;simp -implicitDefEqProofs only[go_sem];refine cI h2 ?_;simp -implicitDefEqProofs only[go_sem];refine cI h3 ?_;simp -implicitDefEqProofs only[go_sem];refine wc ?_;simp -implicitDefEqProofs only[go_sem]
theorem zfi {E:Nat->Option Value}{q:Nat->Addr}(hq:Sent E q){a:Nat×Nat}(n1:Num a.1)(hn:idx a.1<0):DQz E 45 [ivD a] (.data (.tup [ivD (0,0),opE XD (eD q 4)])):=by
 refine dcA Tryz.func45 Tryz.ntmps45 (rs:=[.cell 2 59,.tmp 3]) fun _ _ _ _ _=>?_
 have e4:E 4=some (errV (q 4)):=hq.var 4 (by decide);have g1:(FloatKind.f64.format.order a.1 0==some Ordering.lt)=true:=(zf n1).trans (decide_eq_true hn);have g2:=tV g1;simp -implicitDefEqProofs only[go_sem,g2];refine drw ?_;simp -implicitDefEqProofs only[go_sem,e4,errV];refine wc ?_;simp -implicitDefEqProofs only[go_sem,errV]
theorem ziQ (E:Nat->Option Value){x y a b r:Nat×Nat}{e:D}{n:Int}{s:ByteArray}(h1:DQz E 37 [boxD x] (.data (ivD a)))(h2:DQz E 37 [boxD y] (.data (ivD b)))(h3:DQz E 38 [ivD a] (.data (ivD r))) :
  DQz E 17 [intD 0,boxD x,boxD y] (.data (.tup [boxD r,intD 0,strD ⟨#[]⟩])):=by
 refine dcA Tryz.func17 Tryz.ntmps17 (rs:=[.cell 6 32,.tmp 7,.tmp 8]) fun _ _ _ _ _=>?_
 simp -implicitDefEqProofs only[go_sem];refine drw ?_;simp -implicitDefEqProofs only[go_sem];refine cI h1 ?_;simp -implicitDefEqProofs only[go_sem];refine cI h2 ?_;simp -implicitDefEqProofs only[go_sem,Int.reduceBEq];refine cI h3 ?_;simp -implicitDefEqProofs only[go_sem];refine cI (jE E) ?_;simp -implicitDefEqProofs only[go_sem];refine cI (jN _ r) ?_;simp -implicitDefEqProofs only[go_sem];refine wc ?_;simp -implicitDefEqProofs only[go_sem]
theorem ziP (E:Nat->Option Value){x y a b r:Nat×Nat}{e:D}{n:Int}{s:ByteArray}(h1:DQz E 37 [boxD x] (.data (ivD a)))(h2:DQz E 37 [boxD y] (.data (ivD b)))(h3:DQz E 39 [ivD a,ivD b] (.data (ivD r))) :
  DQz E 17 [intD 1,boxD x,boxD y] (.data (.tup [boxD r,intD 0,strD ⟨#[]⟩])):=by
 refine dcA Tryz.func17 Tryz.ntmps17 (rs:=[.cell 6 32,.tmp 7,.tmp 8]) fun _ _ _ _ _=>?_
 simp -implicitDefEqProofs only[go_sem];refine drw ?_;simp -implicitDefEqProofs only[go_sem];refine cI h1 ?_;simp -implicitDefEqProofs only[go_sem];refine cI h2 ?_;simp -implicitDefEqProofs only[go_sem,Int.reduceBEq];refine cI h3 ?_;simp -implicitDefEqProofs only[go_sem];refine cI (jE E) ?_;simp -implicitDefEqProofs only[go_sem];refine cI (jN _ r) ?_;simp -implicitDefEqProofs only[go_sem];refine wc ?_;simp -implicitDefEqProofs only[go_sem]
theorem ziO (E:Nat->Option Value){x y a b r:Nat×Nat}{e:D}{n:Int}{s:ByteArray}(h1:DQz E 37 [boxD x] (.data (ivD a)))(h2:DQz E 37 [boxD y] (.data (ivD b)))(h3:DQz E 40 [ivD a,ivD b] (.data (.tup [ivD r,e])))(h4:DQz E 32 [e] (.data (.tup [intD n,strD s]))) :
  DQz E 17 [intD 2,boxD x,boxD y] (.data (.tup [boxD r,intD n,strD s])):=by
 refine dcA Tryz.func17 Tryz.ntmps17 (rs:=[.cell 6 32,.tmp 7,.tmp 8]) fun _ _ _ _ _=>?_
 simp -implicitDefEqProofs only[go_sem];refine drw ?_;simp -implicitDefEqProofs only[go_sem];refine cI h1 ?_;simp -implicitDefEqProofs only[go_sem];refine cI h2 ?_;simp -implicitDefEqProofs only[go_sem,Int.reduceBEq];refine cI h3 ?_;simp -implicitDefEqProofs only[go_sem];refine cI h4 ?_;simp -implicitDefEqProofs only[go_sem];refine cI (jN _ r) ?_;simp -implicitDefEqProofs only[go_sem];refine wc ?_;simp -implicitDefEqProofs only[go_sem]
theorem zcE (E:Nat->Option Value){x y a b r:Nat×Nat}{e:D}{n:Int}{s:ByteArray}(h1:DQz E 37 [boxD x] (.data (ivD a)))(h2:DQz E 37 [boxD y] (.data (ivD b)))(h3:DQz E 45 [ivD a] (.data (.tup [ivD r,e])))(h4:DQz E 32 [e] (.data (.tup [intD n,strD s]))) :
  DQz E 17 [intD 7,boxD x,boxD y] (.data (.tup [boxD r,intD n,strD s])):=by
 refine dcA Tryz.func17 Tryz.ntmps17 (rs:=[.cell 6 32,.tmp 7,.tmp 8]) fun _ _ _ _ _=>?_
 simp -implicitDefEqProofs only[go_sem];refine drw ?_;simp -implicitDefEqProofs only[go_sem];refine cI h1 ?_;simp -implicitDefEqProofs only[go_sem];refine cI h2 ?_;simp -implicitDefEqProofs only[go_sem,Int.reduceBEq];refine cI h3 ?_;simp -implicitDefEqProofs only[go_sem];refine cI h4 ?_;simp -implicitDefEqProofs only[go_sem];refine cI (jN _ r) ?_;simp -implicitDefEqProofs only[go_sem];refine wc ?_;simp -implicitDefEqProofs only[go_sem]
theorem ziJ (E:Nat->Option Value){x y a b r:Nat×Nat}{e:D}{n:Int}{s:ByteArray}(h1:DQz E 37 [boxD x] (.data (ivD a)))(h2:DQz E 37 [boxD y] (.data (ivD b))){k:Int}(hk:k<0\/7<k) :
  DQz E 17 [intD k,boxD x,boxD y] (.data (.tup [boxD a,intD 0,strD ⟨#[]⟩])):=by
 have e0:(k==0)=false:=beqF (by omega);have e1:(k==1)=false:=beqF (by omega);have e2:(k==2)=false:=beqF (by omega);have e3:(k==3)=false:=beqF (by omega);have e4:(k==4)=false:=beqF (by omega);have e5:(k==5)=false:=beqF (by omega);have e6:(k==6)=false:=beqF (by omega);have e7:(k==7)=false:=beqF (by omega);refine dcA Tryz.func17 Tryz.ntmps17 (rs:=[.cell 6 32,.tmp 7,.tmp 8]) fun _ _ _ _ _=>?_
 simp -implicitDefEqProofs only[go_sem];refine drw ?_;simp -implicitDefEqProofs only[go_sem];refine cI h1 ?_;simp -implicitDefEqProofs only[go_sem];refine cI h2 ?_;simp -implicitDefEqProofs only[go_sem,Int.reduceBEq,e0,e1,e2,e3,e4,e5,e6,e7];refine cI (jE E) ?_;simp -implicitDefEqProofs only[go_sem];refine cI (jN _ a) ?_;simp -implicitDefEqProofs only[go_sem];refine wc ?_;simp -implicitDefEqProofs only[go_sem]
end Go.Enc
end
