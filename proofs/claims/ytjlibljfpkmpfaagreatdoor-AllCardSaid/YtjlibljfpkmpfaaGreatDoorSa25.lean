/-
  Exact, of six types: the program's by contract, the document's by contract; they answer alike.
-/
import Derived.Test.YtjlibljfpkmpfaaGreatDoorSa23
import Derived.Test.YtjlibljfpkmpfaaGreatDoorSa24
import Derived.Test.YtjlibljfpkmpfaaGreatDoorSa15
set_option maxRecDepth 100000
set_option linter.unusedSimpArgs false
set_option linter.unusedVariables false
namespace Go.Enc
open Go.Proofs Go.Enc.Dg Go.Enc.Nu Go.Enc.Fl
def nwhole (n:Int):Nm:=⟨decide (n<0),n.natAbs,0⟩
theorem Jx (n:Int):val (nwhole n)=(n:Rat):=by
 unfold val nwhole;simp only[Rat.zpow_zero,Rat.mul_one];by_cases h:n<0
 ·rw[if_pos (by simpa using h)];have:((n.natAbs:Nat):Int) = -n:=by omega
  have h2:(((n.natAbs:Nat):Int):Rat)=((-n:Int):Rat):=by rw[this]
  rw[Rat.intCast_natCast] at h2;rw[h2,Rat.intCast_neg];grind
 ·rw[if_neg (by simpa using h)];have:((n.natAbs:Nat):Int)=n:=by omega
  have h2:(((n.natAbs:Nat):Int):Rat)=((n:Int):Rat):=by rw[this]
  rwa [Rat.intCast_natCast] at h2
theorem yV {n:Int}(h : -9223372036854775808<=n/\n<=9223372036854775807):NOk (nwhole n) 64:=by
 refine⟨?_,show(-1000000:Int)<=0 by decide,show(0:Int)<=1000000 by decide⟩;unfold Bd
 show n.natAbs<2^64
 omega
theorem ZP (E:Nat->Option Value){n:Int}(h : -9223372036854775808<=n/\n<=9223372036854775807):DQz E 64 [intD n] (.data (nmD (nwhole n))):=by
 refine dcA Tryz.func64 Tryz.ntmps64 (rs:=[.cell 2 70]) fun _ _ _ _ _=>?_
 by_cases h0:0<=n
 ·have e0:decide (n>=0)=true:=tD h0;have e1:n=((n.natAbs:Nat):Int):=by omega
  have e2:decide (n<0)=false:=fD (by omega);simp -implicitDefEqProofs only[go_sem,e0,nwhole,e2];refine cI (r:=.data (natD n.natAbs)) ?_ ?_
  ·have:=qI E n.natAbs (by omega)
   rwa [<-e1] at this
  ·simp -implicitDefEqProofs only[go_sem]
 ·have e0:decide (n>=0)=false:=fD h0;have e2:decide (n<0)=true:=tD (by omega);have w1:IntKind.i64.wrap (n+1)=n+1:=w64 (by omega);have w2:IntKind.i64.wrap (0-(n+1))=((n.natAbs-1:Nat):Int):=by rw[w64 (by omega)];omega
  simp -implicitDefEqProofs only[go_sem,e0,w1,w2,nwhole,e2];refine cI (qI E (n.natAbs-1) (by omega)) ?_;simp -implicitDefEqProofs only[go_sem];refine cI (qI E 1 (by omega)) ?_;simp -implicitDefEqProofs only[go_sem];refine cI (xn E (Bd.sm (k:=64) (by unfold Bd;omega) (by omega)) (Bd.sm (k:=64) (by unfold Bd;omega) (by omega))) ?_;have e3:n.natAbs-1+1=n.natAbs:=by omega
  simp -implicitDefEqProofs only[go_sem,e3,e2]
theorem XO (x:Int) : -2147483648<=IntKind.i32.wrap x/\IntKind.i32.wrap x<=2147483647:=by rw[IntKind.wrap_i32];omega
/-! The document's Exact. -/
def zq (n:Int):(Nat×Nat)×Int:=wH (nwhole n) (nwhole n)
theorem ZZ (E:Nat->Option Value){k x:Int}(hk:k=0\/k=2)(h : -9223372036854775808<=x/\x<=9223372036854775807):DQz E 22 [intD k,.v (.int .i64 x)] (.data (.tup [boxD (zq x).1,intD (zq x).2])):=by
 refine dcA Tryz.func22 Tryz.ntmps22 (rs:=[.cell 4 27,.tmp 5]) fun _ _ _ _ _=>?_
 have a:=kU E (yV h) (yV h) (by omega);unfold zq;generalize wH (nwhole x) (nwhole x)=R at *;have w:=ZP E h;rcases hk with rfl|rfl
 ·simp -implicitDefEqProofs only[go_sem,Int.reduceBEq];refine cI w ?_;simp -implicitDefEqProofs only[go_sem];refine cI a ?_;simp -implicitDefEqProofs only[go_sem];refine wc ?_;simp -implicitDefEqProofs only[go_sem]
 ·simp -implicitDefEqProofs only[go_sem,Int.reduceBEq];refine cI w ?_;simp -implicitDefEqProofs only[go_sem];refine cI a ?_;simp -implicitDefEqProofs only[go_sem];refine wc ?_;simp -implicitDefEqProofs only[go_sem]
theorem Z0 (E:Nat->Option Value){k x:Int}(hk:k=1\/k=4):DQz E 22 [intD k,.v (.int .i64 x)] (.data (.tup [boxD (zq (IntKind.i32.wrap x)).1,intD (zq (IntKind.i32.wrap x)).2])):=by
 refine dcA Tryz.func22 Tryz.ntmps22 (rs:=[.cell 4 27,.tmp 5]) fun _ _ _ _ _=>?_
 have hr:=XO x;obtain⟨y,hy⟩:∃y,IntKind.i32.wrap x=y:=⟨_,rfl⟩;rw[hy] at hr ⊢;have h : -9223372036854775808<=y/\y<=9223372036854775807:=by omega
 have a:=kU E (yV h) (yV h) (by omega);have wy:IntKind.i64.wrap y=y:=w64 h;unfold zq;generalize wH (nwhole y) (nwhole y)=R at *;have w:=ZP E h;rcases hk with rfl|rfl
 ·simp -implicitDefEqProofs only[go_sem,Int.reduceBEq,hy,wy];refine cI w ?_;simp -implicitDefEqProofs only[go_sem];refine cI a ?_;simp -implicitDefEqProofs only[go_sem];refine wc ?_;simp -implicitDefEqProofs only[go_sem]
 ·simp -implicitDefEqProofs only[go_sem,Int.reduceBEq,hy,wy];refine cI w ?_;simp -implicitDefEqProofs only[go_sem];refine cI a ?_;simp -implicitDefEqProofs only[go_sem];refine wc ?_;simp -implicitDefEqProofs only[go_sem]
def WO (b:Nat):(Nat×Nat)×Int:=if (nplain b).2=true then wH (nplain b).1 (nplain b).1 else ((0,0),1)
theorem Z1 (E:Nat->Option Value){k x:Int}{b:Nat}(hk:k=3\/k=5)(hx:IntKind.u64.wrap x=(b:Int))(hb:b<18446744073709551616):DQz E 22 [intD k,.v (.int .i64 x)] (.data (.tup [boxD (WO b).1,intD (WO b).2])):=by
 refine dcA Tryz.func22 Tryz.ntmps22 (rs:=[.cell 4 27,.tmp 5]) fun _ _ _ _ _=>?_
 have a:=kU E (ja b) (ja b) (by omega);have p:=xP E hb;obtain⟨R,hR⟩:∃R,WO b=R:=⟨_,rfl⟩;rw[hR];unfold WO at hR;generalize wH (nplain b).1 (nplain b).1=A at *;generalize (nplain b).1=m at *;generalize (nplain b).2=o at *;cases o
 ·rw[if_neg (by decide)] at hR;subst hR;rcases hk with rfl|rfl
  ·simp -implicitDefEqProofs only[go_sem,Int.reduceBEq,hx];refine cI p ?_;simp -implicitDefEqProofs only[go_sem];refine wc ?_;simp -implicitDefEqProofs only[go_sem]
  ·simp -implicitDefEqProofs only[go_sem,Int.reduceBEq,hx];refine cI p ?_;simp -implicitDefEqProofs only[go_sem];refine wc ?_;simp -implicitDefEqProofs only[go_sem]
 ·rw[if_pos rfl] at hR;subst hR;rcases hk with rfl|rfl
  ·simp -implicitDefEqProofs only[go_sem,Int.reduceBEq,hx];refine cI p ?_;simp -implicitDefEqProofs only[go_sem];refine cI a ?_;simp -implicitDefEqProofs only[go_sem];refine wc ?_;simp -implicitDefEqProofs only[go_sem]
  ·simp -implicitDefEqProofs only[go_sem,Int.reduceBEq,hx];refine cI p ?_;simp -implicitDefEqProofs only[go_sem];refine cI a ?_;simp -implicitDefEqProofs only[go_sem];refine wc ?_;simp -implicitDefEqProofs only[go_sem]
theorem zbr (E:Nat->Option Value){k x:Int}(hk:k<0\/5<k):DQz E 22 [intD k,.v (.int .i64 x)] (.data (.tup [boxD (0,0),intD 0])):=by
 refine dcA Tryz.func22 Tryz.ntmps22 (rs:=[.cell 4 27,.tmp 5]) fun _ _ _ _ _=>?_
 have e0:(k==0)=false:=beqF (by omega);have e1:(k==1)=false:=beqF (by omega);have e2:(k==2)=false:=beqF (by omega);have e3:(k==3)=false:=beqF (by omega);have e4:(k==4)=false:=beqF (by omega);have e5:(k==5)=false:=beqF (by omega);simp -implicitDefEqProofs only[go_sem,e0,e1,e2,e3,e4,e5];refine wc ?_;simp -implicitDefEqProofs only[go_sem]
/-! The program's Exact. -/
theorem zdU (E:Nat->Option Value){n:Int}{lo hi:Nat}(hn : -9223372036854775808<=n/\n<=9223372036854775807)(h1:DQz E 103 [.v (.int .i64 n),intD (-1)] (.data (flD lo)))(h2:DQz E 103 [.v (.int .i64 n),intD 1] (.data (flD hi))) :
  DQz E 58 [.v (.int .i64 n)] (.data (.tup [ivD (lo,hi),.v .nilIface])):=by
 refine dcA Tryz.func58 Tryz.ntmps58 (rs:=[.cell 2 59,.tmp 3]) fun _ _ _ _ _=>?_
 have e0:floatToIntVal .f64 4602678819172646912 .i64=some 0:=by decide +kernel
 have e1:((0:Int) != 0)=false:=by decide
 have w:IntKind.i64.wrap n=n:=w64 hn;simp -implicitDefEqProofs only[go_sem,e0,e1,w];refine cI h1 ?_;simp -implicitDefEqProofs only[go_sem,w];refine cI h2 ?_;simp -implicitDefEqProofs only[go_sem];refine wc ?_;simp -implicitDefEqProofs only[go_sem]
theorem zaX (E:Nat->Option Value){n:Int}{lo hi:Nat}(hn : -9223372036854775808<=n/\n<=9223372036854775807)(h1:DQz E 103 [.v (.int .i64 n),intD (-1)] (.data (flD lo)))(h2:DQz E 103 [.v (.int .i64 n),intD 1] (.data (flD hi))) :
  DQz E 59 [.v (.int .i32 n)] (.data (.tup [ivD (lo,hi),.v .nilIface])):=by
 refine dcA Tryz.func59 Tryz.ntmps59 (rs:=[.cell 2 59,.tmp 3]) fun _ _ _ _ _=>?_
 have e0:floatToIntVal .f64 4602678819172646912 .i32=some 0:=by decide +kernel
 have e1:((0:Int) != 0)=false:=by decide
 have w:IntKind.i64.wrap n=n:=w64 hn;simp -implicitDefEqProofs only[go_sem,e0,e1,w];refine cI h1 ?_;simp -implicitDefEqProofs only[go_sem,w];refine cI h2 ?_;simp -implicitDefEqProofs only[go_sem];refine wc ?_;simp -implicitDefEqProofs only[go_sem]
theorem zdS (E:Nat->Option Value){n:Int}{lo hi:Nat}(hn : -9223372036854775808<=n/\n<=9223372036854775807)(h1:DQz E 103 [.v (.int .i64 n),intD (-1)] (.data (flD lo)))(h2:DQz E 103 [.v (.int .i64 n),intD 1] (.data (flD hi))) :
  DQz E 62 [.v (.int .i32 n)] (.data (.tup [ivD (lo,hi),.v .nilIface])):=by
 refine dcA Tryz.func62 Tryz.ntmps62 (rs:=[.cell 2 59,.tmp 3]) fun _ _ _ _ _=>?_
 have e0:floatToIntVal .f64 4602678819172646912 .i32=some 0:=by decide +kernel
 have e1:((0:Int) != 0)=false:=by decide
 have w:IntKind.i64.wrap n=n:=w64 hn;simp -implicitDefEqProofs only[go_sem,e0,e1,w];refine cI h1 ?_;simp -implicitDefEqProofs only[go_sem,w];refine cI h2 ?_;simp -implicitDefEqProofs only[go_sem];refine wc ?_;simp -implicitDefEqProofs only[go_sem]
theorem zdV (E:Nat->Option Value){b:Nat}{r:Nat×Nat}{e:D}(hm:DQz E 30 [flD b,flD b] (.data (.tup [ivD r,e]))) :
  DQz E 61 [flD b] (.data (.tup [ivD r,e])):=by
 refine dcA Tryz.func61 Tryz.ntmps61 (rs:=[.cell 2 59,.tmp 3]) fun _ _ _ _ _=>?_
 have e1:(FloatKind.f64.format.order 4602678819172646912 0 != some Ordering.eq)=true:=by
  rw[VR (show Num 4602678819172646912 by decide) (show Num 0 by decide)];decide
 have e2:=tV e1;simp -implicitDefEqProofs only[go_sem,e2];refine cI hm ?_;simp -implicitDefEqProofs only[go_sem];refine wc ?_;simp -implicitDefEqProofs only[go_sem]
theorem zdT (E:Nat->Option Value){b:Nat}{r:Nat×Nat}{e:D}(hm:DQz E 30 [flD b,flD b] (.data (.tup [ivD r,e]))) :
  DQz E 63 [flD b] (.data (.tup [ivD r,e])):=by
 refine dcA Tryz.func63 Tryz.ntmps63 (rs:=[.cell 2 59,.tmp 3]) fun _ _ _ _ _=>?_
 have e1:(FloatKind.f64.format.order 4602678819172646912 0 != some Ordering.eq)=true:=by
  rw[VR (show Num 4602678819172646912 by decide) (show Num 0 by decide)];decide
 have e2:=tV e1;simp -implicitDefEqProofs only[go_sem,e2];refine cI hm ?_;simp -implicitDefEqProofs only[go_sem];refine wc ?_;simp -implicitDefEqProofs only[go_sem]
theorem zaF (E:Nat->Option Value){x:Int}{r:Nat×Nat}{n:Int}{s:ByteArray}{e:D}(wx:IntKind.i64.wrap x=x)(h1:DQz E 58 [.v (.int .i64 x)] (.data (.tup [ivD r,e])))(h2:DQz E 32 [e] (.data (.tup [intD n,strD s]))) :
  DQz E 21 [intD 0,.v (.int .i64 x)] (.data (.tup [boxD r,intD n])):=by
 refine dcA Tryz.func21 Tryz.ntmps21 (rs:=[.cell 4 32,.tmp 5]) fun _ _ _ _ _=>?_
 simp -implicitDefEqProofs only[go_sem,Int.reduceBEq];refine cI h1 ?_;simp -implicitDefEqProofs only[go_sem];refine cI h2 ?_;simp -implicitDefEqProofs only[go_sem];refine cI (jN _ r) ?_;simp -implicitDefEqProofs only[go_sem];refine wc ?_;simp -implicitDefEqProofs only[go_sem]
theorem zaE (E:Nat->Option Value){x:Int}{r:Nat×Nat}{n:Int}{s:ByteArray}{e:D}(h1:DQz E 59 [.v (.int .i32 (IntKind.i32.wrap x))] (.data (.tup [ivD r,e])))(h2:DQz E 32 [e] (.data (.tup [intD n,strD s]))) :
  DQz E 21 [intD 1,.v (.int .i64 x)] (.data (.tup [boxD r,intD n])):=by
 refine dcA Tryz.func21 Tryz.ntmps21 (rs:=[.cell 4 32,.tmp 5]) fun _ _ _ _ _=>?_
 simp -implicitDefEqProofs only[go_sem,Int.reduceBEq];refine cI h1 ?_;simp -implicitDefEqProofs only[go_sem];refine cI h2 ?_;simp -implicitDefEqProofs only[go_sem];refine cI (jN _ r) ?_;simp -implicitDefEqProofs only[go_sem];refine wc ?_;simp -implicitDefEqProofs only[go_sem]
theorem zaC (E:Nat->Option Value){x:Int}{b:Nat}{r:Nat×Nat}{n:Int}{s:ByteArray}{e:D}(hx:IntKind.u64.wrap x=(b:Int))(h1:DQz E 61 [flD b] (.data (.tup [ivD r,e])))(h2:DQz E 32 [e] (.data (.tup [intD n,strD s]))) :
  DQz E 21 [intD 3,.v (.int .i64 x)] (.data (.tup [boxD r,intD n])):=by
 refine dcA Tryz.func21 Tryz.ntmps21 (rs:=[.cell 4 32,.tmp 5]) fun _ _ _ _ _=>?_
 simp -implicitDefEqProofs only[go_sem,Int.reduceBEq,hx,Int.toNat_natCast];refine cI (zp _ b) ?_;simp -implicitDefEqProofs only[go_sem,Int.reduceBEq,hx,Int.toNat_natCast];refine cI h1 ?_;simp -implicitDefEqProofs only[go_sem];refine cI h2 ?_;simp -implicitDefEqProofs only[go_sem];refine cI (jN _ r) ?_;simp -implicitDefEqProofs only[go_sem];refine wc ?_;simp -implicitDefEqProofs only[go_sem]
theorem zaB (E:Nat->Option Value){x:Int}{r:Nat×Nat}{n:Int}{s:ByteArray}{e:D}(h1:DQz E 62 [.v (.int .i32 (IntKind.i32.wrap x))] (.data (.tup [ivD r,e])))(h2:DQz E 32 [e] (.data (.tup [intD n,strD s]))) :
  DQz E 21 [intD 4,.v (.int .i64 x)] (.data (.tup [boxD r,intD n])):=by
 refine dcA Tryz.func21 Tryz.ntmps21 (rs:=[.cell 4 32,.tmp 5]) fun _ _ _ _ _=>?_
 simp -implicitDefEqProofs only[go_sem,Int.reduceBEq];refine cI h1 ?_;simp -implicitDefEqProofs only[go_sem];refine cI h2 ?_;simp -implicitDefEqProofs only[go_sem];refine cI (jN _ r) ?_;simp -implicitDefEqProofs only[go_sem];refine wc ?_;simp -implicitDefEqProofs only[go_sem]
theorem zaA (E:Nat->Option Value){x:Int}{b:Nat}{r:Nat×Nat}{n:Int}{s:ByteArray}{e:D}(hx:IntKind.u64.wrap x=(b:Int))(h1:DQz E 63 [flD b] (.data (.tup [ivD r,e])))(h2:DQz E 32 [e] (.data (.tup [intD n,strD s]))) :
  DQz E 21 [intD 5,.v (.int .i64 x)] (.data (.tup [boxD r,intD n])):=by
 refine dcA Tryz.func21 Tryz.ntmps21 (rs:=[.cell 4 32,.tmp 5]) fun _ _ _ _ _=>?_
 simp -implicitDefEqProofs only[go_sem,Int.reduceBEq,hx,Int.toNat_natCast];refine cI (zp _ b) ?_;simp -implicitDefEqProofs only[go_sem,Int.reduceBEq,hx,Int.toNat_natCast];refine cI h1 ?_;simp -implicitDefEqProofs only[go_sem];refine cI h2 ?_;simp -implicitDefEqProofs only[go_sem];refine cI (jN _ r) ?_;simp -implicitDefEqProofs only[go_sem];refine wc ?_;simp -implicitDefEqProofs only[go_sem]
theorem R9 (E:Nat->Option Value){k x:Int}(hk:k<0\/5<k):DQz E 21 [intD k,.v (.int .i64 x)] (.data (.tup [boxD (0,0),intD 0])):=by
 refine dcA Tryz.func21 Tryz.ntmps21 (rs:=[.cell 4 32,.tmp 5]) fun _ _ _ _ _=>?_
 have e0:(k==0)=false:=beqF (by omega);have e1:(k==1)=false:=beqF (by omega);have e2:(k==2)=false:=beqF (by omega);have e3:(k==3)=false:=beqF (by omega);have e4:(k==4)=false:=beqF (by omega);have e5:(k==5)=false:=beqF (by omega);simp -implicitDefEqProofs only[go_sem,e0,e1,e2,e3,e4,e5];refine cI (jE E) ?_;simp -implicitDefEqProofs only[go_sem];refine cI (jN _ (0,0)) ?_;simp -implicitDefEqProofs only[go_sem];refine wc ?_;simp -implicitDefEqProofs only[go_sem]
theorem kI {b:Nat}(hl:b<18446744073709551616):wg b=true↔ok (idx b):=⟨fun h=>(kQ h hl).2,xU⟩
theorem jQ {lo hi:Nm}{l h:Nat}(ll:l<18446744073709551616)(lh:h<18446744073709551616)(d:DnK (val lo) (K (idx l)))(u:UpK (val hi) (K (idx h))) :
  wH lo hi=if wg l=true/\wg h=true then ((posB l,posB h),0) else ((0,0),3):=by
 have p1:=VF ll d;have p2:=VE lh u;unfold wH;by_cases h1:ok (idx l)
 ·have p1':wO false lo=(posB l,true):=by rw[p1,if_pos h1];rfl
  by_cases h2:ok (idx h)
  ·have p2':wO true hi=(posB h,true):=by rw[p2,if_pos h2];rfl
   rw[p1',p2',if_pos ⟨rfl,rfl⟩,if_pos ⟨(kI ll).2 h1,(kI lh).2 h2⟩]
  ·have p2':wO true hi=(0,false):=by rw[p2,if_neg h2]
   rw[p1',p2',if_neg (fun g=>by simp at g),if_neg (fun g=>h2 ((kI lh).1 g.2))]
 ·have p1':wO false lo=(0,false):=by rw[p1,if_neg h1]
  rw[p1',if_neg (fun g=>by simp at g),if_neg (fun g=>h1 ((kI ll).1 g.1))]
theorem VM {b:Nat}(h:idx b≠0):posB b=b:=by
 unfold posB;rw[if_neg (fun e=>h (by rw[e];decide))]
theorem zkC:v 1<=1:=by
 rw[<-WU];exact v_le (by decide)
theorem XT (E:Nat->Option Value){n:Int}(h : -9223372036854775808<=n/\n<=9223372036854775807) :
  ∃lo hi,DQz E 103 [.v (.int .i64 n),intD (-1)] (.data (flD lo))/\DQz E 103 [.v (.int .i64 n),intD 1] (.data (flD hi))/\zq n=((lo,hi),0):=by
 by_cases h0:n=0
 ·subst h0;have hx:FloatKind.f64.nearest 0=0:=by decide +kernel
  have hm:floatToIntVal .f64 0 .i64=some 0:=by decide +kernel
  have hf:Fl.Fin 0:=by decide
  have hi:idx 0≠4890909195324358656:=by decide
  have hv:val (nwhole 0)=0:=Jx 0;have k0:K (idx 0)=0:=by rw[show idx 0=0 by decide];rfl
  refine⟨0,0,ql E hx hf hi hm (fun g=>by omega) (fun g=>by omega) (fun _=>rfl),ql E hx hf hi hm (fun g=>by omega) (fun g=>by omega) (fun _=>rfl),?_⟩;unfold zq;rw[jQ (l:=0) (h:=0) (by decide) (by decide) (by rw[hv,k0];exact .inl ⟨rfl,rfl⟩) (by rw[hv,k0];exact .inl ⟨by grind,rfl⟩)];rfl
 ·obtain⟨lo,hi,h1,h2,l1,l2,d,u⟩:=zaT E h;have k1:=zhB ⟨by omega,by omega⟩ d;have k2:=zkD ⟨by omega,by omega⟩ u;have v1:=zkC;have z:=wC;have zn:=wQ 1;have lt1:∀ {m:Int},(m:Rat)<1->m<=0:=fun {m} g=>by
   have:(m:Rat)<((1:Int):Rat):=g;have:=Rat.intCast_lt_intCast.1 this;omega
  have gt1:∀ {m:Int},-1<(m:Rat)->0<=m:=fun {m} g=>by
   have:((-1:Int):Rat)<(m:Rat):=g;have:=Rat.intCast_lt_intCast.1 this;omega
  have i1:idx lo≠0:=fun e=>by
   rw[e] at d;have d1:=d.1;have d2:=d.2;rw[z] at d1;have a:=lt1 (m:=n) (by rw[show(0:Int)+1=1 by rfl] at d2;grind);have b:(0:Int)<=n:=by
    have:((0:Int):Rat)<=(n:Rat):=d1;exact Rat.intCast_le_intCast.1 this
   omega
  have i2:idx hi≠0:=fun e=>by
   rw[e] at u;have u1:=u.1;have u2:=u.2;rw[z] at u2;have a:=gt1 (m:=n) (by rw[show(0:Int)-1 = -1 by rfl] at u1;grind);have b:n<=(0:Int):=by
    have:(n:Rat)<=((0:Int):Rat):=u2;exact Rat.intCast_le_intCast.1 this
   omega
  have hd:DnK (val (nwhole n)) (K (idx lo)):=by
   rw[Jx];refine zu d ?_;rcases Int.lt_trichotomy n 0 with g|g|g
   ·right;right;have:(n:Rat)<((0:Int):Rat):=Rat.intCast_lt_intCast.2 g;exact this
   ·exact absurd g h0
   ·right;left;have:((1:Int):Rat)<=(n:Rat):=Rat.intCast_le_intCast.2 (by omega);exact Rat.le_trans v1 this
  have hu:UpK (val (nwhole n)) (K (idx hi)):=by
   rw[Jx];refine Wt u ?_;rcases Int.lt_trichotomy n 0 with g|g|g
   ·right;right;rw[zn];have:(n:Rat)<=((-1:Int):Rat):=Rat.intCast_le_intCast.2 (by omega);have:(n:Rat)<=-1:=this;grind
   ·exact absurd g h0
   ·right;left;have:((0:Int):Rat)<(n:Rat):=Rat.intCast_lt_intCast.2 g;exact this
  refine⟨lo,hi,h1,h2,?_⟩;unfold zq;rw[jQ l1 l2 hd hu,if_pos ⟨xU k1,xU k2⟩,VM i1,VM i2]
theorem YM {E:Nat->Option Value}{q:Nat->Addr}(hq:Sent E q){b:Nat}(hb:b<18446744073709551616) :
  ∃r e s,DQz E 30 [flD b,flD b] (.data (.tup [ivD r,e]))/\DQz E 32 [e] (.data (.tup [intD (WO b).2,strD s]))/\r=(WO b).1:=by
 have hm:=Zb hq hb hb;unfold Ys at hm;have hp:=vB hb;unfold WO;rw[hp];cases h:wg b
 ·rw[if_pos (.inl h)] at hm;rw[if_neg (by decide)];exact⟨_,_,_,hm,qp hq (i:=0) (by decide),rfl⟩
 ·rw[if_neg (by rw[h];simp),if_neg (by omega)] at hm;rw[if_pos rfl];have hv:=kX hb h;have ho:=(kQ h hb).2;have hk:=(K_ok (idx b)).2 ho;rw[jQ hb hb (by rw[hv,hk];exact kT ho) (by rw[hv,hk];exact KW ho),if_pos ⟨h,h⟩];exact⟨_,_,_,hm,jE E,rfl⟩
theorem H5 {E:Nat->Option Value}{q:Nat->Addr}(hq:Sent E q)(k:Int){x:Int}(hx : -9223372036854775808<=x/\x<=9223372036854775807) :
  ∃r n,DQz E 21 [intD k,.v (.int .i64 x)] (.data (.tup [boxD r,intD n]))/\DQz E 22 [intD k,.v (.int .i64 x)] (.data (.tup [boxD r,intD n])):=by
 have hr:=XO x;obtain⟨lo,hi,f1,f2,f3⟩:=XT E hx;obtain⟨lo',hi',g1,g2,g3⟩:=XT E (n:=IntKind.i32.wrap x) ⟨by omega,by omega⟩;have hw:IntKind.u64.wrap x=((x % 18446744073709551616).toNat:Int):=by rw[IntKind.wrap_u64];omega
 have hb:(x % 18446744073709551616).toNat<18446744073709551616:=by omega
 obtain⟨r,e,s,m1,m2,m3⟩:=YM hq hb;subst m3;by_cases hk:k<0\/5<k
 ·exact⟨_,_,R9 E hk,zbr E hk⟩
 ·have:k=0\/k=1\/k=2\/k=3\/k=4\/k=5:=by omega
  rcases this with rfl|rfl|rfl|rfl|rfl|rfl
  ·refine⟨_,_,zaF E (w64 hx) (zdU E hx f1 f2) (jE E),?_⟩;have:=ZZ E (k:=0) (.inl rfl) hx
   rwa [f3] at this
  ·refine⟨_,_,zaE E (zaX E ⟨by omega,by omega⟩ g1 g2) (jE E),?_⟩;have:=Z0 E (k:=1) (x:=x) (.inl rfl)
   rwa [g3] at this
  ·refine⟨_,_,zaD E (zaW E f1 f2) (jE E),?_⟩;have:=ZZ E (k:=2) (.inr rfl) hx
   rwa [f3] at this
  ·exact⟨_,_,zaC E hw (zdV E m1) m2,Z1 E (.inl rfl) hw hb⟩
  ·refine⟨_,_,zaB E (zdS E ⟨by omega,by omega⟩ g1 g2) (jE E),?_⟩;have:=Z0 E (k:=4) (x:=x) (.inr rfl)
   rwa [g3] at this
  ·exact⟨_,_,zaA E hw (zdT E m1) m2,Z1 E (.inr rfl) hw hb⟩
theorem Yb {E:Nat->Option Value}{q:Nat->Addr}(hq:Sent E q){o:OpD}(hw:o.Wf)(hk:o.kind=4):DQz E 12 [opD o] (.data (bD true)):=by
 obtain⟨r,n,h1,h2⟩:=H5 hq o.a hw.b;have wb:IntKind.i64.wrap o.b=o.b:=w64 hw.b;refine dcA Tryz.func12 Tryz.ntmps12 (rs:=[.tmp 2]) fun _ _ _ _ _=>?_
 have e0:=tB (beqT (show n=n from rfl));simp -implicitDefEqProofs only[go_sem,OpD.cells,iD,uD,hk,Int.reduceBEq,wb];refine cI h1 ?_;simp -implicitDefEqProofs only[go_sem,wb];refine cI h2 ?_;simp -implicitDefEqProofs only[go_sem];refine cI (WB _ _) ?_;simp -implicitDefEqProofs only[go_sem,e0,beq_self_eq_true,finK]
/-! The least and the greatest of some numbers,by class. -/
theorem HN (f:Nat->Nm):∀n,(∀i,i<=n->val (loAt f n)<=val (f i))/\∃i,i<=n/\loAt f n=f i
 |0=>⟨fun i hi=>by rw[show i=0 by omega];exact Rat.le_refl,0,Nat.le_refl _,rfl⟩
 |n+1=>by
  obtain⟨h1,j,h2,h3⟩:=HN f n;have hl:=jP (f (n+1)) (loAt f n);have e:loAt f (n+1)=if nless (f (n+1)) (loAt f n)=true then f (n+1) else loAt f n:=rfl
  by_cases h:val (f (n+1))<val (loAt f n)
  ·rw[decide_eq_true h] at hl;rw[e,if_pos hl];refine⟨fun i hi=>?_,n+1,Nat.le_refl _,rfl⟩;rcases Nat.lt_or_ge i (n+1) with g|g
   ·exact Rat.le_trans (Rat.le_of_lt h) (h1 i (by omega))
   ·rw[show i=n+1 by omega];exact Rat.le_refl
  ·rw[decide_eq_false h] at hl;rw[e,if_neg (by rw[hl];decide)];refine⟨fun i hi=>?_,j,by omega,h3⟩;rcases Nat.lt_or_ge i (n+1) with g|g
   ·exact h1 i (by omega)
   ·rw[show i=n+1 by omega];exact Rat.not_lt.1 h
theorem HY (f:Nat->Nm):∀n,(∀i,i<=n->val (f i)<=val (hiAt f n))/\∃i,i<=n/\hiAt f n=f i
 |0=>⟨fun i hi=>by rw[show i=0 by omega];exact Rat.le_refl,0,Nat.le_refl _,rfl⟩
 |n+1=>by
  obtain⟨h1,j,h2,h3⟩:=HY f n;have hl:=jP (hiAt f n) (f (n+1));have e:hiAt f (n+1)=if nless (hiAt f n) (f (n+1))=true then f (n+1) else hiAt f n:=rfl
  by_cases h:val (hiAt f n)<val (f (n+1))
  ·rw[decide_eq_true h] at hl;rw[e,if_pos hl];refine⟨fun i hi=>?_,n+1,Nat.le_refl _,rfl⟩;rcases Nat.lt_or_ge i (n+1) with g|g
   ·exact Rat.le_trans (h1 i (by omega)) (Rat.le_of_lt h)
   ·rw[show i=n+1 by omega];exact Rat.le_refl
  ·rw[decide_eq_false h] at hl;rw[e,if_neg (by rw[hl];decide)];refine⟨fun i hi=>?_,j,by omega,h3⟩;rcases Nat.lt_or_ge i (n+1) with g|g
   ·exact h1 i (by omega)
   ·rw[show i=n+1 by omega];exact Rat.not_lt.1 h
theorem Yv {f:Nat->Nm}{k:Nat->Int}{n:Nat}{m:Int}(h:∀i,i<=n->DnK (val (f i)) (k i))(h1:∀i,i<=n->m<=k i)(h2:∃i,i<=n/\m=k i):DnK (val (loAt f n)) m:=by
 obtain⟨g1,j,g2,g3⟩:=HN f n;obtain⟨i,hi,e⟩:=h2;have a:=(h j g2).mono (h i hi) (by rw[<-g3];exact g1 i hi);have b:=h1 j g2;have:m=k j:=by omega
 rw[g3,this];exact h j g2
theorem YF {f:Nat->Nm}{k:Nat->Int}{n:Nat}{m:Int}(h:∀i,i<=n->UpK (val (f i)) (k i))(h1:∀i,i<=n->k i<=m)(h2:∃i,i<=n/\m=k i):UpK (val (hiAt f n)) m:=by
 obtain⟨g1,j,g2,g3⟩:=HY f n;obtain⟨i,hi,e⟩:=h2;have a:=(h i hi).mono (h j g2) (by rw[<-g3];exact g1 i hi);have b:=h1 j g2;have:m=k j:=by omega
 rw[g3,this];exact h j g2
theorem Ke {i:Nat}(h:i<=3):i=0\/i=1\/i=2\/i=3:=by omega
theorem min4 {a b c d t:Int}(h:a<=t):min (min (min (min t a) b) c) d=min (min (min a b) c) d:=by rw[Int.min_eq_right h]
theorem max4 {a b c d t:Int}(h:t<=a):max (max (max (max t a) b) c) d=max (max (max a b) c) d:=by rw[Int.max_eq_right h]
theorem zfa (a b c d:Int):min (min (min a b) c) d<=a/\min (min (min a b) c) d<=b/\min (min (min a b) c) d<=c/\min (min (min a b) c) d<=d /\
  (min (min (min a b) c) d=a\/min (min (min a b) c) d=b\/min (min (min a b) c) d=c\/min (min (min a b) c) d=d):=by omega
theorem zfb (a b c d:Int):a<=max (max (max a b) c) d/\b<=max (max (max a b) c) d/\c<=max (max (max a b) c) d/\d<=max (max (max a b) c) d /\
  (max (max (max a b) c) d=a\/max (max (max a b) c) d=b\/max (max (max a b) c) d=c\/max (max (max a b) c) d=d):=by omega
theorem vx {E:Nat->Option Value}{q:Nat->Addr}(hq:Sent E q){F:FuncId}(hF:isP F=false)(op:ByteArray){x0 x1 y0 y1:Nat}{f:Nat->Nm}
  (hc:∀n,n<4->∃l h,Corner E F op (two x0 x1 (n/2)) (two y0 y1 (n % 2)) l h/\DnK (val (f n)) (K (idx l))/\UpK (val (f n)) (K (idx h))) :
  ∃l h,DQz E 87 [strD op,ivD (x0,x1),ivD (y0,y1),.v (.func (.func F) #[] #[])] (.data (zN q op l h))/\l<18446744073709551616/\h<18446744073709551616 /\
   DnK (val (loAt f 3)) (K (idx l))/\UpK (val (hiAt f 3)) (K (idx h)):=by
 have hc':∀n,∃p:Nat×Nat,n<4->Corner E F op (two x0 x1 (n/2)) (two y0 y1 (n % 2)) p.1 p.2/\DnK (val (f n)) (K (idx p.1))/\UpK (val (f n)) (K (idx p.2)):=fun n=>by
  by_cases hn:n<4
  ·obtain⟨l,h,h1⟩:=hc n hn;exact⟨(l,h),fun _=>h1⟩
  ·exact⟨(0,0),fun h=>absurd h hn⟩
 have⟨g,hg⟩:=Classical.axiomOfChoice hc'
 let ls:Nat->Nat:=fun n=>(g n).1
 let hs:Nat->Nat:=fun n=>(g n).2
 have hcs:∀j k,j<2->k<2->Corner E F op (two x0 x1 j) (two y0 y1 k) (ls (2*j+k)) (hs (2*j+k)):=fun j k hj hk=>by
  have h:=(hg (2*j+k) (by omega)).1;rw[show(2*j+k)/2=j by omega,show(2*j+k) % 2=k by omega] at h;exact h
 have hl:∀n,n<4->Num (ls n)/\ls n<18446744073709551616:=fun n hn=>⟨(hg n hn).1.ln,(hg n hn).1.ll⟩
 have hh:∀n,n<4->Num (hs n)/\hs n<18446744073709551616:=fun n hn=>⟨(hg n hn).1.hn,(hg n hn).1.hl⟩
 have hcor:=X7 hq hF op hcs;have i0:idx (loS ls 0)=(inf:Int):=by show idx 9218868437227405312=_;decide
 have j0:idx (hiS hs 0) = -(inf:Int):=by show idx 18442240474082181120=_;decide
 have eL:idx (loS ls 4)=min (min (min (idx (ls 0)) (idx (ls 1))) (idx (ls 2))) (idx (ls 3)):=by
  rw[(qz hl (n:=3) (by omega)).2,(qz hl (n:=2) (by omega)).2,(qz hl (n:=1) (by omega)).2,(qz hl (n:=0) (by omega)).2,i0];exact min4 (KE (hl 0 (by omega)).1).2
 have eH:idx (hiS hs 4)=max (max (max (idx (hs 0)) (idx (hs 1))) (idx (hs 2))) (idx (hs 3)):=by
  rw[(qA hh (n:=3) (by omega)).2,(qA hh (n:=2) (by omega)).2,(qA hh (n:=1) (by omega)).2,(qA hh (n:=0) (by omega)).2,j0];exact max4 (KE (hh 0 (by omega)).1).1
 obtain⟨m0,m1,m2,m3,m4⟩:=zfa (idx (ls 0)) (idx (ls 1)) (idx (ls 2)) (idx (ls 3));obtain⟨n0,n1,n2,n3,n4⟩:=zfb (idx (hs 0)) (idx (hs 1)) (idx (hs 2)) (idx (hs 3));rw[<-eL] at m0 m1 m2 m3 m4;rw[<-eH] at n0 n1 n2 n3 n4;refine⟨loS ls 4,hiS hs 4,hcor,(yj hl 4 (by omega)).2,(yq hh 4 (by omega)).2,?_,?_⟩
 ·refine Yv (k:=fun i=>K (idx (ls i))) (fun i hi=>(hg i (by omega)).2.1) (fun i hi=>?_) ?_
  ·rcases Ke hi with rfl|rfl|rfl|rfl
   ·exact kh m0
   ·exact kh m1
   ·exact kh m2
   ·exact kh m3
  ·rcases m4 with e|e|e|e
   ·exact⟨0,by omega,congrArg K e⟩
   ·exact⟨1,by omega,congrArg K e⟩
   ·exact⟨2,by omega,congrArg K e⟩
   ·exact⟨3,by omega,congrArg K e⟩
 ·refine YF (k:=fun i=>K (idx (hs i))) (fun i hi=>(hg i (by omega)).2.2) (fun i hi=>?_) ?_
  ·rcases Ke hi with rfl|rfl|rfl|rfl
   ·exact kh n0
   ·exact kh n1
   ·exact kh n2
   ·exact kh n3
  ·rcases n4 with e|e|e|e
   ·exact⟨0,by omega,congrArg K e⟩
   ·exact⟨1,by omega,congrArg K e⟩
   ·exact⟨2,by omega,congrArg K e⟩
   ·exact⟨3,by omega,congrArg K e⟩
/-! What the ends give is what the document names. -/
theorem zr {E:Nat->Option Value}{q:Nat->Addr}(hq:Sent E q)(nm:ByteArray){l h:Nat}(ll:l<18446744073709551616)(lh:h<18446744073709551616){R:(Nat×Nat)×Int}
  (hR:R=if wg l=true/\wg h=true then ((posB l,posB h),0) else ((0,0),3)) :
  ∃r n s e,zN q nm l h = .tup [ivD r,e]/\DQz E 32 [e] (.data (.tup [intD n,strD s]))/\jK R.1 R.2 nm=(r,n,s):=by
 unfold zN;by_cases g:wg l=true/\wg h=true
 ·rw[if_pos g] at hR;rw[if_neg (by rw[g.1,g.2];simp),hR];exact⟨_,_,_,_,rfl,jE E,rfl⟩
 ·rw[if_neg g] at hR;rw[if_pos (by cases hl:wg l;exact .inl rfl;cases hh:wg h;exact .inr rfl;exact absurd ⟨hl,hh⟩ g),hR];exact⟨_,_,_,_,rfl,Jn hq (i:=2) (by decide) nm,rfl⟩
theorem UV {b:Nat}(h:OkB b):OkB (fneg b)/\v (idx (fneg b)) = -v (idx b):=by
 obtain⟨h1,_,h3,_⟩:=jt h.1;refine⟨⟨h3,?_⟩,?_⟩
 ·rw[h1];exact xV h.2
 ·rw[h1,wQ]
theorem zaq {a b:Nat}(ha:a<18446744073709551616)(hb:b<18446744073709551616)(h:idx a=idx b)(h0:idx a≠0):a=b:=by
 unfold idx at *;split at h<;>split at h<;>omega
theorem sub0 {a:Nat}(hl:a<18446744073709551616)(hp:wg a=true)(hq:posB a=a):FloatKind.f64.format.sub 0 a=some (posB (fneg a)):=by
 show Ieee.double.sub 0 a=some (posB (fneg a))
 by_cases h0:idx a=0
 ·have:a=0:=by
   have h1:=xf.1 h0;have:a=0\/a=9223372036854775808:=by omega
   rcases this with h|h
   ·exact h
   ·rw[h] at hq;exact absurd hq (by decide)
  subst this;decide +kernel
 ·have hf:=jr hp;have hff:=kd.1 hf;obtain⟨r,hr,⟨⟨i,hi,hc⟩,hlt,_⟩⟩:=qr (show Fl.Fin 0 by decide) hf;have e0:v (idx 0)-v (idx a)=v (-idx a):=by rw[show idx 0=0 by decide,wC,wQ];grind
  rw[e0] at hi;rw[hi.exact,Jo (by omega) (by omega)] at hc;have hn:=(jt hl).1;rw[hr,VM (by rw[hn];omega)];congr 1;exact zaq hlt (jt hl).2.2.1 (by rw[hc,hn]) (by omega)
theorem kC {b:Nat}(hl:b<18446744073709551616)(hp:wg b=true):DnK (v (idx b)) (K (idx b))/\UpK (v (idx b)) (K (idx b)):=by
 have ho:=(kQ hp hl).2;rw[(K_ok (idx b)).2 ho];exact⟨kT ho,KW ho⟩
theorem jO {x:Nat×Nat}(h1:x.1<18446744073709551616)(h2:x.2<18446744073709551616):Gd (mk2 x):=by
 obtain⟨c1,c2⟩:=qi h1 h2;have z:Gd (0,0):=⟨by decide,by decide,by decide,by decide,by decide,rfl,rfl⟩;unfold mk2;by_cases h:wg x.1=false\/wg x.2=false
 ·rw[c1 h];exact z
 ·by_cases h':idx x.2<idx x.1
  ·rw[(c2 h).1 h'];exact z
  ·rw[(c2 h).2 h'];have p1:wg x.1=true:=by cases hx:wg x.1;exact absurd (.inl hx) h;rfl
   have p2:wg x.2=true:=by cases hx:wg x.2;exact absurd (.inr hx) h;rfl
   exact⟨kB h1,kB h2,jq p1,jq p2,by simp only[jS];omega,km _,km _⟩
theorem qY {E:Nat->Option Value}{q:Nat->Addr}(hq:Sent E q){x:Nat×Nat}(h1:x.1<18446744073709551616)(h2:x.2<18446744073709551616):DQz E 37 [boxD x] (.data (ivD (mk2 x))):=by
 have hm:=Zb hq h1 h2;obtain⟨c1,c2⟩:=qi h1 h2;unfold Ys at hm;unfold mk2;by_cases h:wg x.1=false\/wg x.2=false
 ·rw[if_pos h] at hm;rw[c1 h];exact VO E hm
 ·rw[if_neg h] at hm;by_cases h':idx x.2<idx x.1
  ·rw[if_pos h'] at hm;rw[(c2 h).1 h'];exact VO E hm
  ·rw[if_neg h'] at hm;rw[(c2 h).2 h'];exact VO E hm
end Go.Enc
