/-
  Package exact by its contracts: Add, Mul, Div. Package enclose by its contracts: tiny, ends, corners. An operation at all four corners.
-/
import Derived.Test.YtjlibljfpkmpfaaGreatDoorSa14
set_option maxRecDepth 100000
set_option linter.unusedSimpArgs false
set_option linter.unusedVariables false
section
namespace Go.Enc
open Go.Proofs Go.Enc.Fl
theorem wR (b:Nat):Op.negFloat .f64 b=fneg b:=rfl
theorem tV {b c:Bool}(h:b=c):T.d (D.v (Value.bool b))=T.d (D.v (Value.bool c)):=by rw[h]
theorem zaz (E:Nat->Option Value){a b s t c d f r y:Nat}{w:Int}(es:Ieee.double.add a b=some s)(et:Ieee.double.sub s a=some t)(ec:Ieee.double.sub s t=some c)(ed:Ieee.double.sub a c=some d)(ef:Ieee.double.sub b t=some f)(er:Ieee.double.add d f=some r)
  (hs:DQz E 121 [flD s,flD r,intD w] (.data (flD y))):DQz E 86 [flD a,flD b,intD w] (.data (flD y)):=by
 refine dcA Tryz.func86 Tryz.ntmps86 (rs:=[.tmp 6]) fun _ _ _ _ _=>?_
 have es':FloatKind.f64.format.add a b=some s:=es;have et':FloatKind.f64.format.sub s a=some t:=et;have ec':FloatKind.f64.format.sub s t=some c:=ec;have ed':FloatKind.f64.format.sub a c=some d:=ed;have ef':FloatKind.f64.format.sub b t=some f:=ef;have er':FloatKind.f64.format.add d f=some r:=er;simp -implicitDefEqProofs only[go_sem,es',et',ec',ed',ef',er'];refine cI hs ?_;simp -implicitDefEqProofs only[go_sem,finK]
def oddM (t1 t2 t3 t4 t5 t6:Bool):Bool:=t1&&t2||t3||(t4&&t5&&t6)
theorem ZC (E:Nat->Option Value){a b p:Nat}(w:Int)(ep:FloatKind.f64.format.mul a b=some p)(hl:p<2^64)(hn:Num p){t1 t2 t3 t4 t5 t6:Bool}
  (g1:(FloatKind.f64.format.order (p % 2^63) 549439154539200512==some Ordering.lt)=t1) (g2:(FloatKind.f64.format.order p 0 != some Ordering.eq)=t2) (g3:decide (p % 2^63=inf)=t3)
  (g4:(FloatKind.f64.format.order p 0==some Ordering.eq)=t4) (g5:(FloatKind.f64.format.order a 0 != some Ordering.eq)=t5) (g6:(FloatKind.f64.format.order b 0 != some Ordering.eq)=t6) (ho:oddM t1 t2 t3 t4 t5 t6=true) :
  DQz E 88 [flD a,flD b,intD w] (.data (flD 9221120237041090561)):=by
 refine dcA Tryz.func88 Tryz.ntmps88 (rs:=[.tmp 6]) fun _ _ _ _ _=>?_
 have h1:=tV g1;have h2:=tV g2;have h3:=tV g3;have h4:=tV g4;have h5:=tV g5;have h6:=tV g6;clear g1 g2 g3 g4 g5 g6;simp -implicitDefEqProofs only[go_sem,ep];refine cI (yL _ hl) ?_;cases t1
 ·simp -implicitDefEqProofs only[go_sem,h1];refine cI (vf _ hl hn) ?_;cases t3
  ·cases t4
   ·exfalso;simp[oddM] at ho
   ·cases t5
    ·exfalso;simp[oddM] at ho
    ·cases t6
     ·exfalso;simp[oddM] at ho
     ·simp -implicitDefEqProofs only[go_sem,wM,h3,h4,h5,h6];refine cI (Wn _) ?_;simp -implicitDefEqProofs only[go_sem,finK]
  ·simp -implicitDefEqProofs only[go_sem,wM,h3];refine cI (Wn _) ?_;simp -implicitDefEqProofs only[go_sem,finK]
 ·cases t2
  ·simp -implicitDefEqProofs only[go_sem,h1,h2];refine cI (vf _ hl hn) ?_;cases t3
   ·cases t4
    ·exfalso;simp[oddM] at ho
    ·cases t5
     ·exfalso;simp[oddM] at ho
     ·cases t6
      ·exfalso;simp[oddM] at ho
      ·simp -implicitDefEqProofs only[go_sem,wM,h3,h4,h5,h6];refine cI (Wn _) ?_;simp -implicitDefEqProofs only[go_sem,finK]
   ·simp -implicitDefEqProofs only[go_sem,wM,h3];refine cI (Wn _) ?_;simp -implicitDefEqProofs only[go_sem,finK]
  ·simp -implicitDefEqProofs only[go_sem,h1,h2];refine cI (Wn _) ?_;simp -implicitDefEqProofs only[go_sem,finK]
theorem Ur (E:Nat->Option Value){a b p r y:Nat}(w:Int)(ep:FloatKind.f64.format.mul a b=some p)(hl:p<2^64)(hn:Num p){t1 t2 t3 t4 t5 t6:Bool}
  (g1:(FloatKind.f64.format.order (p % 2^63) 549439154539200512==some Ordering.lt)=t1) (g2:(FloatKind.f64.format.order p 0 != some Ordering.eq)=t2) (g3:decide (p % 2^63=inf)=t3)
  (g4:(FloatKind.f64.format.order p 0==some Ordering.eq)=t4) (g5:(FloatKind.f64.format.order a 0 != some Ordering.eq)=t5) (g6:(FloatKind.f64.format.order b 0 != some Ordering.eq)=t6) (ho:oddM t1 t2 t3 t4 t5 t6=false)
  (er:Ieee.double.fma a b (fneg p)=some r) (hs:DQz E 121 [flD p,flD r,intD w] (.data (flD y))) :
  DQz E 88 [flD a,flD b,intD w] (.data (flD y)):=by
 refine dcA Tryz.func88 Tryz.ntmps88 (rs:=[.tmp 6]) fun _ _ _ _ _=>?_
 have h1:=tV g1;have h2:=tV g2;have h3:=tV g3;have h4:=tV g4;have h5:=tV g5;have h6:=tV g6;clear g1 g2 g3 g4 g5 g6;simp -implicitDefEqProofs only[go_sem,ep];refine cI (yL _ hl) ?_;cases t3
 rotate_left
 ·exfalso;simp[oddM] at ho
 have rest:t1=false\/(t1=true/\t2=false):=by
  revert ho;cases t1<;>cases t2<;>simp[oddM]
 rcases rest with rfl|⟨rfl,rfl⟩
 ·simp -implicitDefEqProofs only[go_sem,h1];refine cI (vf _ hl hn) ?_;cases t4
  ·simp -implicitDefEqProofs only[go_sem,wM,h3,h4,wR];refine cI (yu _ er) ?_;simp -implicitDefEqProofs only[go_sem];refine cI hs ?_;simp -implicitDefEqProofs only[go_sem,finK]
  ·cases t5
   ·simp -implicitDefEqProofs only[go_sem,wM,h3,h4,h5,wR];refine cI (yu _ er) ?_;simp -implicitDefEqProofs only[go_sem];refine cI hs ?_;simp -implicitDefEqProofs only[go_sem,finK]
   ·cases t6
    ·simp -implicitDefEqProofs only[go_sem,wM,h3,h4,h5,h6,wR];refine cI (yu _ er) ?_;simp -implicitDefEqProofs only[go_sem];refine cI hs ?_;simp -implicitDefEqProofs only[go_sem,finK]
    ·exfalso;simp[oddM] at ho
 ·simp -implicitDefEqProofs only[go_sem,h1,h2];refine cI (vf _ hl hn) ?_;cases t4
  ·simp -implicitDefEqProofs only[go_sem,wM,h3,h4,wR];refine cI (yu _ er) ?_;simp -implicitDefEqProofs only[go_sem];refine cI hs ?_;simp -implicitDefEqProofs only[go_sem,finK]
  ·cases t5
   ·simp -implicitDefEqProofs only[go_sem,wM,h3,h4,h5,wR];refine cI (yu _ er) ?_;simp -implicitDefEqProofs only[go_sem];refine cI hs ?_;simp -implicitDefEqProofs only[go_sem,finK]
   ·cases t6
    ·simp -implicitDefEqProofs only[go_sem,wM,h3,h4,h5,h6,wR];refine cI (yu _ er) ?_;simp -implicitDefEqProofs only[go_sem];refine cI hs ?_;simp -implicitDefEqProofs only[go_sem,finK]
    ·exfalso;simp[oddM] at ho
def oddV (t1 t2 t3 t4 t5:Bool):Bool:=t1&&t2||t3||(t4&&t5)
theorem ZD (E:Nat->Option Value){a b p:Nat}(w:Int)(ep:FloatKind.f64.format.div a b=some p)(hl:p<2^64)(hn:Num p){t1 t2 t3 t4 t5:Bool}
  (g1:(FloatKind.f64.format.order (p % 2^63) 549439154539200512==some Ordering.lt)=t1) (g2:(FloatKind.f64.format.order p 0 != some Ordering.eq)=t2) (g3:decide (p % 2^63=inf)=t3)
  (g4:(FloatKind.f64.format.order p 0==some Ordering.eq)=t4) (g5:(FloatKind.f64.format.order a 0 != some Ordering.eq)=t5) (ho:oddV t1 t2 t3 t4 t5=true) :
  DQz E 90 [flD a,flD b,intD w] (.data (flD 9221120237041090561)):=by
 refine dcA Tryz.func90 Tryz.ntmps90 (rs:=[.tmp 6]) fun _ _ _ _ _=>?_
 have h1:=tV g1;have h2:=tV g2;have h3:=tV g3;have h4:=tV g4;have h5:=tV g5;clear g1 g2 g3 g4 g5;simp -implicitDefEqProofs only[go_sem,ep];refine cI (yL _ hl) ?_;cases t1
 ·simp -implicitDefEqProofs only[go_sem,h1];refine cI (vf _ hl hn) ?_;cases t3
  ·cases t4
   ·exfalso;simp[oddV] at ho
   ·cases t5
    ·exfalso;simp[oddV] at ho
    ·simp -implicitDefEqProofs only[go_sem,wM,h3,h4,h5];refine cI (Wn _) ?_;simp -implicitDefEqProofs only[go_sem,finK]
  ·simp -implicitDefEqProofs only[go_sem,wM,h3];refine cI (Wn _) ?_;simp -implicitDefEqProofs only[go_sem,finK]
 ·cases t2
  ·simp -implicitDefEqProofs only[go_sem,h1,h2];refine cI (vf _ hl hn) ?_;cases t3
   ·cases t4
    ·exfalso;simp[oddV] at ho
    ·cases t5
     ·exfalso;simp[oddV] at ho
     ·simp -implicitDefEqProofs only[go_sem,wM,h3,h4,h5];refine cI (Wn _) ?_;simp -implicitDefEqProofs only[go_sem,finK]
   ·simp -implicitDefEqProofs only[go_sem,wM,h3];refine cI (Wn _) ?_;simp -implicitDefEqProofs only[go_sem,finK]
  ·simp -implicitDefEqProofs only[go_sem,h1,h2];refine cI (Wn _) ?_;simp -implicitDefEqProofs only[go_sem,finK]
theorem Us (E:Nat->Option Value){a b p r y:Nat}(w:Int)(ep:FloatKind.f64.format.div a b=some p)(hl:p<2^64)(hn:Num p){t1 t2 t3 t4 t5 n:Bool}
  (g1:(FloatKind.f64.format.order (p % 2^63) 549439154539200512==some Ordering.lt)=t1) (g2:(FloatKind.f64.format.order p 0 != some Ordering.eq)=t2) (g3:decide (p % 2^63=inf)=t3)
  (g4:(FloatKind.f64.format.order p 0==some Ordering.eq)=t4) (g5:(FloatKind.f64.format.order a 0 != some Ordering.eq)=t5) (ho:oddV t1 t2 t3 t4 t5=false)
  (er:Ieee.double.fma (fneg p) b a=some r) (gb:(FloatKind.f64.format.order b 0==some Ordering.lt)=n) (hs:DQz E 121 [flD p,flD (if n=true then fneg r else r),intD w] (.data (flD y))) :
  DQz E 90 [flD a,flD b,intD w] (.data (flD y)):=by
 refine dcA Tryz.func90 Tryz.ntmps90 (rs:=[.tmp 6]) fun _ _ _ _ _=>?_
 have h1:=tV g1;have h2:=tV g2;have h3:=tV g3;have h4:=tV g4;have h5:=tV g5;have hb:=tV gb;clear g1 g2 g3 g4 g5 gb;have fin:∀ {K:Prop},K->K:=fun h=>h
 simp -implicitDefEqProofs only[go_sem,ep];refine cI (yL _ hl) ?_;cases t3
 rotate_left
 ·exfalso;simp[oddV] at ho
 have rest:t1=false\/(t1=true/\t2=false):=by
  revert ho;cases t1<;>cases t2<;>simp[oddV]
 rcases rest with rfl|⟨rfl,rfl⟩
 ·simp -implicitDefEqProofs only[go_sem,h1];refine cI (vf _ hl hn) ?_;cases t4
  ·simp -implicitDefEqProofs only[go_sem,wM,h3,h4,wR];refine cI (yu _ er) ?_;cases n
   ·simp -implicitDefEqProofs only[go_sem,hb];refine cI hs ?_;simp -implicitDefEqProofs only[go_sem,finK]
   ·simp -implicitDefEqProofs only[go_sem,hb,wR];refine cI hs ?_;simp -implicitDefEqProofs only[go_sem,finK]
  ·cases t5
   ·simp -implicitDefEqProofs only[go_sem,wM,h3,h4,h5,wR];refine cI (yu _ er) ?_;cases n
    ·simp -implicitDefEqProofs only[go_sem,hb];refine cI hs ?_;simp -implicitDefEqProofs only[go_sem,finK]
    ·simp -implicitDefEqProofs only[go_sem,hb,wR];refine cI hs ?_;simp -implicitDefEqProofs only[go_sem,finK]
   ·exfalso;simp[oddV] at ho
 ·simp -implicitDefEqProofs only[go_sem,h1,h2];refine cI (vf _ hl hn) ?_;cases t4
  ·simp -implicitDefEqProofs only[go_sem,wM,h3,h4,wR];refine cI (yu _ er) ?_;cases n
   ·simp -implicitDefEqProofs only[go_sem,hb];refine cI hs ?_;simp -implicitDefEqProofs only[go_sem,finK]
   ·simp -implicitDefEqProofs only[go_sem,hb,wR];refine cI hs ?_;simp -implicitDefEqProofs only[go_sem,finK]
  ·cases t5
   ·simp -implicitDefEqProofs only[go_sem,wM,h3,h4,h5,wR];refine cI (yu _ er) ?_;cases n
    ·simp -implicitDefEqProofs only[go_sem,hb];refine cI hs ?_;simp -implicitDefEqProofs only[go_sem,finK]
    ·simp -implicitDefEqProofs only[go_sem,hb,wR];refine cI hs ?_;simp -implicitDefEqProofs only[go_sem,finK]
   ·exfalso;simp[oddV] at ho
end Go.Enc
end
section
namespace Go.Enc
open Go.Proofs Go.Enc.Fl
abbrev strD (s:ByteArray):D:=.v (.string s)
abbrev opE (nm:ByteArray)(e:D):D:=.ip 119 [strD nm,e]
attribute [go_sem] strD opE
theorem btt:(true==true)=true:=by decide
theorem btf:(true==false)=false:=by decide
theorem bft:(false==true)=false:=by decide
theorem bff:(false==false)=true:=by decide
theorem zbL (E:Nat->Option Value){s:ByteArray}{a b m p:Nat}{dv g n1 n2:Bool}(hs:(s.toList==(⟨#[47]⟩:ByteArray).toList)=dv)(em:FloatKind.f64.format.mul a b=some m)(ep:(if dv then FloatKind.f64.format.div a b else FloatKind.f64.format.mul a b)=some p)(hl:p<2^64)
  (hg:(FloatKind.f64.format.order (p % 2^63) 4607182418800017408==some Ordering.gt)=g) (h1:(FloatKind.f64.format.order a 0==some Ordering.lt)=n1) (h2:(FloatKind.f64.format.order b 0==some Ordering.lt)=n2) :
  DQz E 124 [strD s,flD a,flD b] (.data (flD (if g then p else if n1 != n2 then 9223372036854775809 else 1))):=by
 refine dcA Tryz.func124 Tryz.ntmps124 (rs:=[.tmp 6]) fun _ _ _ _ _=>?_
 have e1:=tV hs;have e2:=tV hg;have e3:=tV h1;have e4:=tV h2;clear hs hg h1 h2;have hn:Op.negFloat .f64 1=9223372036854775809:=by decide
 cases dv
 ·simp only[Bool.false_eq_true,if_false] at ep;have:m=p:=by rw[em] at ep;exact Option.some.inj ep
  subst this;simp -implicitDefEqProofs only[go_sem,em,e1];refine cI (yL _ hl) ?_;cases g
  ·cases n1<;>cases n2<;>simp -implicitDefEqProofs only[go_sem,e2,e3,e4,hn,finK,btt,btf,bft,bff]<;>rfl
  ·simp -implicitDefEqProofs only[go_sem,e2,finK]
 ·simp only[if_true] at ep;simp -implicitDefEqProofs only[go_sem,em,e1,ep];refine cI (yL _ hl) ?_;cases g
  ·cases n1<;>cases n2<;>simp -implicitDefEqProofs only[go_sem,e2,e3,e4,hn,finK,btt,btf,bft,bff]<;>rfl
  ·simp -implicitDefEqProofs only[go_sem,e2,finK]
def zN (q:Nat->Addr)(nm:ByteArray)(lo hi:Nat):D:=
 if wg lo=false\/wg hi=false then .tup [ivD (0,0),opE nm (eD q 2)] else .tup [ivD (posB lo,posB hi),.v .nilIface]
theorem QX {E:Nat->Option Value}{q:Nat->Addr}(hq:Sent E q)(nm:ByteArray){lo hi:Nat}(h1:lo<18446744073709551616)(h2:hi<18446744073709551616):DQz E 85 [strD nm,flD lo,flD hi] (.data (zN q nm lo hi)):=by
 unfold zN;refine dcA Tryz.func85 Tryz.ntmps85 (rs:=[.cell 6 59,.tmp 7]) fun _ _ _ _ _=>?_
 have p1:=yU E h1;have p2:=yU E h2;have e2:E 2=some (errV (q 2)):=hq.var 2 (by decide);simp -implicitDefEqProofs only[go_sem];refine cI p1 ?_;cases hx:wg lo
 ·simp -implicitDefEqProofs only[go_sem,wM];refine drw ?_;simp -implicitDefEqProofs only[go_sem,e2,errV,true_or];refine wc ?_;simp -implicitDefEqProofs only[go_sem,errV]
 ·simp -implicitDefEqProofs only[go_sem,wM];refine cI p2 ?_;cases hy:wg hi
  ·simp -implicitDefEqProofs only[go_sem,wM];refine drw ?_;simp -implicitDefEqProofs only[go_sem,e2,errV,or_true];refine wc ?_;simp -implicitDefEqProofs only[go_sem,errV]
  ·have a1:=zB h1 hx;have a2:=zB h2 hy;simp -implicitDefEqProofs only[go_sem,wM,or_self,if_false,a1,a2];refine wc ?_;simp -implicitDefEqProofs only[go_sem]
theorem jh (mx:Bool){x y:Nat}(hx:Num x)(hy:Num y):∃z,qx mx x y=some z/\(z=x\/z=y)/\idx z=if mx then max (idx x) (idx y) else min (idx x) (idx y):=by
 have ho:FloatKind.f64.format.order x y=some (if idx x<idx y then .lt else if idx x=idx y then .eq else .gt):=qe hx hy;unfold qx;rw[ho];by_cases h1:idx x<idx y
 ·rw[if_pos h1];cases mx
  ·exact⟨x,rfl,.inl rfl,by simp only[Bool.false_eq_true,if_false];omega⟩
  ·exact⟨y,rfl,.inr rfl,by simp only[if_true];omega⟩
 ·rw[if_neg h1];by_cases h2:idx x=idx y
  ·rw[if_pos h2];cases hn:(FloatKind.f64.decode x).neg<;>cases mx
   ·exact⟨y,by simp[hn],.inr rfl,by simp only[Bool.false_eq_true,if_false];omega⟩
   ·exact⟨x,by simp[hn],.inl rfl,by simp only[if_true];omega⟩
   ·exact⟨x,by simp[hn],.inl rfl,by simp only[Bool.false_eq_true,if_false];omega⟩
   ·exact⟨y,by simp[hn],.inr rfl,by simp only[if_true];omega⟩
  ·rw[if_neg h2];cases mx
   ·exact⟨y,rfl,.inr rfl,by simp only[Bool.false_eq_true,if_false];omega⟩
   ·exact⟨x,rfl,.inl rfl,by simp only[if_true];omega⟩
end Go.Enc
end
section
namespace Go.Enc
open Go.Proofs Go.Enc.Fl
structure Corner (E:Nat->Option Value)(F:FuncId)(op:ByteArray)(x y l h:Nat):Prop where
 ex:∃l0 h0,DQz E F [flD x,flD y,intD (-1)] (.data (flD l0))/\DQz E F [flD x,flD y,intD 1] (.data (flD h0)) /\
  ((Num l0/\l=l0/\h=h0)\/(¬Num l0/\DQz E 124 [strD op,flD x,flD y] (.data (flD l))/\h=l))
 ln:Num l
 hn:Num h
 ll:l<18446744073709551616
 hl:h<18446744073709551616
def loS (ls:Nat->Nat):Nat->Nat
 |0=>9218868437227405312
 |n+1=>(qx false (loS ls n) (ls n)).getD 0
def hiS (hs:Nat->Nat):Nat->Nat
 |0=>18442240474082181120
 |n+1=>(qx true (hiS hs n) (hs n)).getD 0
theorem yj {ls:Nat->Nat}{m:Nat}(h:∀n,n<m->Num (ls n)/\ls n<18446744073709551616):∀n,n<=m->Num (loS ls n)/\loS ls n<18446744073709551616
 |0,_=>⟨show Num 9218868437227405312 by decide,show 9218868437227405312<18446744073709551616 by decide⟩
 |n+1,hn=>by
  obtain⟨h1,h2⟩:=yj h n (by omega);obtain⟨h3,h4⟩:=h n (by omega);obtain⟨z,e,hz,_⟩:=jh false h1 h3;simp only[loS,e,Option.getD_some];rcases hz with rfl|rfl
  ·exact⟨h1,h2⟩
  ·exact⟨h3,h4⟩
theorem yq {ls:Nat->Nat}{m:Nat}(h:∀n,n<m->Num (ls n)/\ls n<18446744073709551616):∀n,n<=m->Num (hiS ls n)/\hiS ls n<18446744073709551616
 |0,_=>⟨show Num 18442240474082181120 by decide,show 18442240474082181120<18446744073709551616 by decide⟩
 |n+1,hn=>by
  obtain⟨h1,h2⟩:=yq h n (by omega);obtain⟨h3,h4⟩:=h n (by omega);obtain⟨z,e,hz,_⟩:=jh true h1 h3;simp only[hiS,e,Option.getD_some];rcases hz with rfl|rfl
  ·exact⟨h1,h2⟩
  ·exact⟨h3,h4⟩
theorem qz {ls:Nat->Nat}{m n:Nat}(h:∀n,n<m->Num (ls n)/\ls n<18446744073709551616)(hn:n<m):qx false (loS ls n) (ls n)=some (loS ls (n+1))/\idx (loS ls (n+1))=min (idx (loS ls n)) (idx (ls n)):=by
 obtain⟨z,e,_,hz⟩:=jh false (yj h n (by omega)).1 (h n hn).1;simp only[loS,e,Option.getD_some];exact⟨trivial,by simpa using hz⟩
theorem qA {ls:Nat->Nat}{m n:Nat}(h:∀n,n<m->Num (ls n)/\ls n<18446744073709551616)(hn:n<m):qx true (hiS ls n) (ls n)=some (hiS ls (n+1))/\idx (hiS ls (n+1))=max (idx (hiS ls n)) (idx (ls n)):=by
 obtain⟨z,e,_,hz⟩:=jh true (yq h n (by omega)).1 (h n hn).1;simp only[hiS,e,Option.getD_some];exact⟨trivial,by simpa using hz⟩
def two (a b:Nat)(i:Nat):Nat:=if i=0 then a else b
theorem X7 {E:Nat->Option Value}{q:Nat->Addr}(hq:Sent E q){F:FuncId}(hF:isP F=false)(op:ByteArray){x0 x1 y0 y1:Nat}{ls hs:Nat->Nat}
  (hc:∀j k,j<2->k<2->Corner E F op (two x0 x1 j) (two y0 y1 k) (ls (2*j+k)) (hs (2*j+k))) :
  DQz E 87 [strD op,ivD (x0,x1),ivD (y0,y1),.v (.func (.func F) #[] #[])] (.data (zN q op (loS ls 4) (hiS hs 4))):=by
 have hl:∀n,n<4->Num (ls n)/\ls n<18446744073709551616:=fun n hn=>by
  have h:=hc (n/2) (n % 2) (by omega) (by omega);rw[show 2*(n/2)+n % 2=n by omega] at h;exact⟨h.ln,h.ll⟩
 have hh:∀n,n<4->Num (hs n)/\hs n<18446744073709551616:=fun n hn=>by
  have h:=hc (n/2) (n % 2) (by omega) (by omega);rw[show 2*(n/2)+n % 2=n by omega] at h;exact⟨h.hn,h.hl⟩
 have he:=QX hq op (yj hl 4 (by omega)).2 (yq hh 4 (by omega)).2;generalize hR:zN q op (loS ls 4) (hiS hs 4)=R at *;refine dcA Tryz.func87 Tryz.ntmps87 (rs:=[.cell 8 59,.tmp 9]) fun _ _ _ _ _=>?_
 simp -implicitDefEqProofs only[go_sem];refine cI (U7 _ 1) ?_;simp -implicitDefEqProofs only[go_sem];refine cI (U7 _ (-1)) ?_;simp -implicitDefEqProofs only[go_sem];rw[wu];have step:∀j k,j<2->k<2->Corner E F op (two x0 x1 j) (two y0 y1 k) (ls (2*j+k)) (hs (2*j+k))/\qx false (loS ls (2*j+k)) (ls (2*j+k))=some (loS ls (2*j+(k+1)))/\qx true (hiS hs (2*j+k)) (hs (2*j+k))=some (hiS hs (2*j+(k+1))):=fun j k hj hk=>
  ⟨hc j k hj hk,(qz hl (by omega)).1,(qA hh (by omega)).1⟩
 refine wm (α:={j:Nat // j<=2}) (fun j=>St.of [(0,.d (strD op)),(3,.d (.v (.func (.func F) #[] #[]))),(5,.ptr 5 0),(6,.ptr 6 0),(8,.ptr 8 0),(10,.d (flD (loS ls (2*j.1)))),(11,.d (flD (hiS hs (2*j.1)))),(24,.d (.agg [flD x0,flD x1])),(25,.d (intD j.1))]
  [(5,⟨none,[.d (flD x0),.d (flD x1)]⟩),(6,⟨none,[.d (flD y0),.d (flD y1)]⟩),(8,⟨none,[.d (flD 0),.d (flD 0)]⟩)]) (fun j=>2-j.1) ⟨0,by omega⟩ (we ?_ ?_ rfl) (by kernel_rfl) (fun j=>?_)
 ·simp -implicitDefEqProofs only[go_sem,loS,hiS]
 ·simp -implicitDefEqProofs only[go_sem]
 ·obtain⟨j,hj⟩:=j;by_cases hA:j<2
  ·have eA:decide ((j:Int)<2)=true:=tD (by omega);have ex:([flD x0,flD x1]:List D)[j]?=some (flD (two x0 x1 j)):=by
    have:j=0\/j=1:=by omega
    rcases this with rfl|rfl<;>rfl
   have eJ:(j:Int)<((2:Nat):Int):=by omega
   simp -implicitDefEqProofs only[go_sem,eA,eJ,ex];rw[wu];refine wm (α:={k:Nat // k<=2}) (fun k=>St.of [(0,.d (strD op)),(3,.d (.v (.func (.func F) #[] #[]))),(5,.ptr 5 0),(6,.ptr 6 0),(8,.ptr 8 0),(10,.d (flD (loS ls (2*j+k.1)))),(11,.d (flD (hiS hs (2*j+k.1)))),(13,.d (flD (two x0 x1 j))),(24,.d (.agg [flD x0,flD x1])),(25,.d (intD j)),(32,.d (.agg [flD y0,flD y1])),(33,.d (intD k.1))]
    [(5,⟨none,[.d (flD x0),.d (flD x1)]⟩),(6,⟨none,[.d (flD y0),.d (flD y1)]⟩),(8,⟨none,[.d (flD 0),.d (flD 0)]⟩)]) (fun k=>2-k.1) ⟨0,by omega⟩ (we ?_ ?_ rfl) (by kernel_rfl) (fun k=>?_)
   ·simp -implicitDefEqProofs only[go_sem]
   ·simp -implicitDefEqProofs only[go_sem]
   ·obtain⟨k,hk⟩:=k;by_cases hB:k<2
    ·have eB:decide ((k:Int)<2)=true:=tD (by omega);have eK:(k:Int)<((2:Nat):Int):=by omega
     have ey:([flD y0,flD y1]:List D)[k]?=some (flD (two y0 y1 k)):=by
      have:k=0\/k=1:=by omega
      rcases this with rfl|rfl<;>rfl
     have w1:=wL (c:=k) (by omega);obtain⟨⟨⟨l0,h0,c1,c2,c3⟩,_,_,_,_⟩,pl,ph⟩:=step j k hA hB;simp -implicitDefEqProofs only[go_sem,eB,eK,ey,hF];refine cI c1 ?_;simp -implicitDefEqProofs only[go_sem,hF];refine cI c2 ?_;simp -implicitDefEqProofs only[go_sem];refine cI (Jf _ l0) ?_;obtain⟨k',hk'⟩:∃k':{k:Nat // k<=2},k'.1=k+1:=⟨⟨k+1,hB⟩,rfl⟩;rcases c3 with⟨n1,rfl,rfl⟩|⟨n1,c4,e4⟩
     ·have eN:decide (¬Num (ls (2*j+k)))=false:=decide_eq_false (fun h=>h n1);simp -implicitDefEqProofs only[go_sem,wM,eN,pl,ph,w1];refine⟨k',we ?_ ?_ rfl,by simp only[hk'];omega⟩<;>simp -implicitDefEqProofs only[go_sem,hk']
     ·have eN:decide (¬Num l0)=true:=decide_eq_true n1;rw[e4] at ph;simp -implicitDefEqProofs only[go_sem,wM,eN];refine cI c4 ?_;simp -implicitDefEqProofs only[go_sem,pl,ph,w1];refine⟨k',we ?_ ?_ rfl,by simp only[hk'];omega⟩<;>simp -implicitDefEqProofs only[go_sem,hk']
    ·have eB:decide ((k:Int)<2)=false:=fD (by omega);have hk2:k=2:=by omega
     have w1:=wL (c:=j) (by omega);have e2:2*j+k=2*(j+1):=by omega
     simp -implicitDefEqProofs only[go_sem,eB,w1];obtain⟨j',hj'⟩:∃j':{j:Nat // j<=2},j'.1=j+1:=⟨⟨j+1,hA⟩,rfl⟩;refine⟨j',we ?_ ?_ rfl,by simp only[hj'];omega⟩<;>simp -implicitDefEqProofs only[go_sem,hj',e2]
  ·have eA:decide ((j:Int)<2)=false:=fD (by omega);have hj2:j=2:=by omega
   subst hj2;simp -implicitDefEqProofs only[go_sem,eA];refine cI he ?_;rw[<-hR];unfold zN;split
   ·simp -implicitDefEqProofs only[go_sem];refine wc ?_;simp -implicitDefEqProofs only[go_sem]
   ·simp -implicitDefEqProofs only[go_sem];refine wc ?_;simp -implicitDefEqProofs only[go_sem]
end Go.Enc
end
