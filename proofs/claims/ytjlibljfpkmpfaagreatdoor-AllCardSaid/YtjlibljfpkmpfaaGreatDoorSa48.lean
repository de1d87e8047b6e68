/-
  A step of the law Solves, walked.
-/
import Derived.Test.YtjlibljfpkmpfaaGreatDoorSa47
import Derived.Test.YtjlibljfpkmpfaaGreatDoorSa38
set_option maxRecDepth 100000
set_option linter.unusedSimpArgs false
set_option linter.unusedVariables false
namespace Go.Enc
open Go.Proofs Go.Enc.Dg Go.Enc.Nu Go.Enc.Fl Go.RowKit
theorem Yk {n m:Int}{k:Nat}(hm:(BitVec.ofInt 64 m).toNat=2^k-1)(hk:k<=32):((BitVec.ofInt 64 n &&& BitVec.ofInt 64 m).toNat:Int)=n % 2^k:=by
 rw[BitVec.toNat_and,hm,Nat.and_two_pow_sub_one_eq_mod,BitVec.toNat_ofInt];have h1:(2:Int)^k∣2^64:=⟨2^(64-k),by rw[<-Int.pow_add];congr 1;omega⟩;rw[Int.natCast_emod,Int.natCast_pow,Int.toNat_of_nonneg (Int.emod_nonneg _ (by decide))];exact Int.emod_emod_of_dvd n h1
theorem Wb {n m:Int}{k:Nat}(hm:(BitVec.ofInt 64 m).toNat=2^k-1)(hk:k<=32):pint .and .i64 n m=some (.int .i64 (n % 2^k)):=by
 show some (Value.int .i64 (IntKind.i64.wrap ((BitVec.ofInt 64 n &&& BitVec.ofInt 64 m).toNat:Int)))=_
 rw[Yk hm hk];have h1:(0:Int)<2^k:=Int.pow_pos (by decide);have h2:=Int.emod_nonneg n (Int.ne_of_gt h1);have h3:=Int.emod_lt_of_pos n h1;have h4:(2:Int)^k<=2^32:=by
  have:2^k<=2^32:=Nat.pow_le_pow_right (by decide) hk
  exact_mod_cast this
 rw[w64 ⟨by omega,by have:(2:Int)^32=4294967296:=rfl;omega⟩]
def soN (o:OpD):Nat:=if o.a<0\/5<o.a then 2 else o.a.toNat
def soW (o:OpD):Int:=if o.b % 8=7 then 1+o.b.fdiv (2^min 3 64) % 4 else soN o
def soJ (o:OpD):Nat:=if o.b % 8=7 then ((1+o.b.fdiv (2^min 3 64) % 4)*(1+o.b.fdiv (2^min 5 64) % 4)-o.b.fdiv (2^min 7 64) % 2).toNat else soN o*soN o
def soK (o:OpD):Nat:=min (soJ o) (o.p.length/2)
abbrev soA (o:OpD):List (Nat×Nat):=(boxL o.p).take (soK o)
abbrev soB (o:OpD):List (Nat×Nat):=(boxL o.p).drop (soK o)
abbrev soP (o:OpD):Int:=o.b.fdiv (2^min 3 64)
theorem K9 (o:OpD):soN o<=5:=by unfold soN;split<;>omega
theorem XK {x y:Int}(hx:1<=x/\x<=4)(hy:1<=y/\y<=4):1<=x*y/\x*y<=16:=by
 obtain⟨m,rfl⟩:∃m:Nat,x=m:=⟨x.toNat,by omega⟩;obtain⟨k,rfl⟩:∃k:Nat,y=k:=⟨y.toNat,by omega⟩;have h1:m*k<=4*4:=Nat.mul_le_mul (by omega) (by omega);have h2:1*1<=m*k:=Nat.mul_le_mul (by omega) (by omega);have e:((m*k:Nat):Int)=(m:Int)*k:=Int.natCast_mul m k;omega
theorem zhp (o:OpD):soJ o<=25:=by
 unfold soJ;have h5:soN o*soN o<=5*5:=Nat.mul_le_mul (K9 o) (K9 o);split
 ·have:=XK (x:=1+o.b.fdiv (2^min 3 64) % 4) (y:=1+o.b.fdiv (2^min 5 64) % 4) (by omega) (by omega);omega
 ·exact h5
theorem zbU (o:OpD):soK o<=25:=by
 have:=zhp o;unfold soK;omega
section
variable {E:Nat->Option Value} {q:Nat->Addr}
abbrev qV (o:OpD):List T:=o.cells.map T.d
abbrev sS1 (o:OpD):St:=St.of [(1,.ptr 1 0),(3,.d (.sl 2 (boxC (boxL o.p)))),(4,.d (intD (soN o)))] [(1,⟨none,qV o⟩)]
abbrev sS2 (o:OpD):St:=St.of [(1,.ptr 1 0),(3,.d (.sl 2 (boxC (boxL o.p)))),(4,.d (intD (soN o))),(5,.d (intD (min (soN o*soN o) (o.p.length/2):Nat)))] [(1,⟨none,qV o⟩)]
abbrev sS3 (o:OpD):St:=St.of [(1,.ptr 1 0),(3,.d (.sl 2 (boxC (boxL o.p)))),(5,.d (intD (soK o))),(6,.d (intD (soW o)))] [(1,⟨none,qV o⟩)]
theorem zho (o:OpD)(hp:o.p.length*8<=140737488355328){C:Ctx}(hP:C.P=Tryz.prog)(hE:C.E=E)(hn:C.n=111)(hk:C.kb=0){c:Code}(hcode:Tryz.f29.body=some c) :
  DC C (cutC 4 c).1 (QW (sS1 o)) (St.init [opD o]):=by
 have hb:=zgS E hp;obtain⟨P,E',σ0,w0,base,n,kb,df,G0⟩:=C;simp only at hP hE hn hk;subst hP hE hn hk;simp only[Tryz.f29,Option.some.injEq] at hcode;subst hcode;simp only[cutC];simp -implicitDefEqProofs only[go_sem,OpD.cells,iD,uD];refine cI hb ?_;have fin1:(if o.a<0\/5<o.a then 2 else o.a.toNat)=soN o:=rfl;by_cases h1:o.a<0
 ·have e1:=tB (tD h1);have sn:soN o=2:=by unfold soN;rw[if_pos (.inl h1)]
  simp -implicitDefEqProofs only[go_sem,e1,QW,sS1];refine we ?_ ?_ (by simp[wv,wG,T.ref,OpD.cells])
  ·have c2:((2:Nat):Int)=2:=rfl;simp -implicitDefEqProofs only[go_sem,sn,c2]
  ·simp -implicitDefEqProofs only[go_sem,qV,OpD.cells,iD,uD]
 ·have e1:=tV (fD h1);by_cases h2:o.a>5
  ·have e2:=tB (tD h2);have sn:soN o=2:=by unfold soN;rw[if_pos (.inr h2)]
   simp -implicitDefEqProofs only[go_sem,e1,e2,QW,sS1];refine we ?_ ?_ (by simp[wv,wG,T.ref,OpD.cells])
   ·have c2:((2:Nat):Int)=2:=rfl;simp -implicitDefEqProofs only[go_sem,sn,c2]
   ·simp -implicitDefEqProofs only[go_sem,qV,OpD.cells,iD,uD]
  ·have e2:=tV (fD h2);have sn:((soN o:Nat):Int)=o.a:=by unfold soN;rw[if_neg (by omega)];omega
   simp -implicitDefEqProofs only[go_sem,e1,e2,QW,sS1];refine we ?_ ?_ (by simp[wv,wG,T.ref,OpD.cells])<;>simp -implicitDefEqProofs only[go_sem,sn,qV,OpD.cells,iD,uD]
theorem zhn (o:OpD){C:Ctx}(hP:C.P=Tryz.prog)(hE:C.E=E)(hn:C.n=111)(hk:C.kb=0){c:Code}(hcode:Tryz.f29.body=some c) :
  DC C (cutC 2 (cutC 4 c).2).1 (QW (sS2 o)) (sS1 o):=by
 have hl:=jL (boxL o.p);rw[xk] at hl;have d2:=ke;have h5:soN o*soN o<=5*5:=Nat.mul_le_mul (K9 o) (K9 o);have w1:IntKind.i64.wrap ((soN o:Int)*(soN o:Int))=((soN o*soN o:Nat):Int):=by rw[<-Int.natCast_mul,w64 (by omega)]
 obtain⟨P,E',σ0,w0,base,n,kb,df,G0⟩:=C;simp only at hP hE hn hk;subst hP hE hn hk;simp only[Tryz.f29,Option.some.injEq] at hcode;subst hcode;simp only[cutC];simp only[sS1];by_cases h:soN o*soN o>o.p.length/2
 ·have e1:=tB (tD (show((soN o*soN o:Nat):Int)>((o.p.length/2:Nat):Int) by omega));have em:min (soN o*soN o) (o.p.length/2)=o.p.length/2:=by omega
  simp -implicitDefEqProofs only[go_sem,w1,hl,d2,e1,QW,sS2];refine we ?_ ?_ (by simp[wv,wG,T.ref,OpD.cells])<;>simp -implicitDefEqProofs only[go_sem,em]
 ·have e1:=tV (fD (show ¬((soN o*soN o:Nat):Int)>((o.p.length/2:Nat):Int) by omega));have em:min (soN o*soN o) (o.p.length/2)=soN o*soN o:=by omega
  simp -implicitDefEqProofs only[go_sem,w1,hl,d2,e1,QW,sS2];refine we ?_ ?_ (by simp[wv,wG,T.ref,OpD.cells])<;>simp -implicitDefEqProofs only[go_sem,em]
theorem zhm (o:OpD){C:Ctx}(hP:C.P=Tryz.prog)(hE:C.E=E)(hn:C.n=111)(hk:C.kb=0){c:Code}(hcode:Tryz.f29.body=some c) :
  DC C (cutC 2 (cutC 2 (cutC 4 c).2).2).1 (QW (sS3 o)) (sS2 o):=by
 have hl:=jL (boxL o.p);rw[xk] at hl;have d2:=ke;have q7:pint .and .i64 o.b 7=some (.int .i64 (o.b % 2^3)):=Wb (k:=3) (by decide) (by decide);have q3:pint .and .i64 (o.b.fdiv (2^min 3 64)) 3=some (.int .i64 (o.b.fdiv (2^min 3 64) % 2^2)):=Wb (k:=2) (by decide) (by decide);have q5:pint .and .i64 (o.b.fdiv (2^min 5 64)) 3=some (.int .i64 (o.b.fdiv (2^min 5 64) % 2^2)):=Wb (k:=2) (by decide) (by decide);have q1:pint .and .i64 (o.b.fdiv (2^min 7 64)) 1=some (.int .i64 (o.b.fdiv (2^min 7 64) % 2^1)):=Wb (k:=1) (by decide) (by decide);have p3:(2:Int)^3=8:=rfl;have p2:(2:Int)^2=4:=rfl;have p1:(2:Int)^1=2:=rfl;rw[p3] at q7;rw[p2] at q3 q5;rw[p1] at q1;simp -implicitDefEqProofs only[go_sem,Option.some.injEq,Value.int.injEq,true_and] at q7 q3 q5 q1;obtain⟨b3,hb3⟩:∃b3,o.b.fdiv (2^min 3 64)=b3:=⟨_,rfl⟩;obtain⟨b5,hb5⟩:∃b5,o.b.fdiv (2^min 5 64)=b5:=⟨_,rfl⟩;obtain⟨b7,hb7⟩:∃b7,o.b.fdiv (2^min 7 64)=b7:=⟨_,rfl⟩;have hW:soW o=if o.b % 8=7 then 1+b3 % 4 else soN o:=by unfold soW;rw[hb3]
 have hJ:soJ o=if o.b % 8=7 then ((1+b3 % 4)*(1+b5 % 4)-b7 % 2).toNat else soN o*soN o:=by unfold soJ;rw[hb3,hb5,hb7]
 obtain⟨P,E',σ0,w0,base,n,kb,df,G0⟩:=C;simp only at hP hE hn hk;subst hP hE hn hk;simp only[Tryz.f29,Option.some.injEq] at hcode;subst hcode;simp only[cutC];simp only[sS2];by_cases h:o.b % 8=7
 ·have e7:=tB (show(o.b % 8==7)=true by simp[h]);rw[if_pos h] at hW hJ;have ms:=XK (x:=1+b3 % 4) (y:=1+b5 % 4) (by omega) (by omega);have w1:IntKind.i64.wrap (1+b3 % 4)=1+b3 % 4:=w64 (by omega);have w2:IntKind.i64.wrap (1+b5 % 4)=1+b5 % 4:=w64 (by omega);have w3:IntKind.i64.wrap ((1+b3 % 4)*(1+b5 % 4))=(1+b3 % 4)*(1+b5 % 4):=w64 (by omega);have w4:IntKind.i64.wrap ((1+b3 % 4)*(1+b5 % 4)-b7 % 2)=((soJ o:Nat):Int):=by rw[w64 (by omega),hJ];omega
  rw[hb3] at q3;rw[hb5] at q5;rw[hb7] at q1;by_cases hc:soJ o>o.p.length/2
  ·have e1:=tB (tD (show((soJ o:Nat):Int)>((o.p.length/2:Nat):Int) by omega));have em:soK o=o.p.length/2:=by unfold soK;omega
   simp -implicitDefEqProofs only[go_sem,qV,OpD.cells,iD,uD,q7,e7,hb3,hb5,hb7,q3,q5,q1,w1,w2,w3,w4,hl,d2,e1,QW,sS3];refine we ?_ ?_ (by simp[wv,wG,T.ref,OpD.cells])<;>simp -implicitDefEqProofs only[go_sem,em,hW,qV,OpD.cells,iD,uD]
  ·have e1:=tV (fD (show ¬((soJ o:Nat):Int)>((o.p.length/2:Nat):Int) by omega));have em:soK o=soJ o:=by unfold soK;omega
   simp -implicitDefEqProofs only[go_sem,qV,OpD.cells,iD,uD,q7,e7,hb3,hb5,hb7,q3,q5,q1,w1,w2,w3,w4,hl,d2,e1,QW,sS3];refine we ?_ ?_ (by simp[wv,wG,T.ref,OpD.cells])<;>simp -implicitDefEqProofs only[go_sem,em,hW,qV,OpD.cells,iD,uD]
 ·have e7:=tV (show(o.b % 8==7)=false by simp[h]);rw[if_neg h] at hW hJ;have em:soK o=min (soN o*soN o) (o.p.length/2):=by unfold soK;rw[hJ]
  simp -implicitDefEqProofs only[go_sem,qV,OpD.cells,iD,uD,q7,e7,QW,sS3];refine we ?_ ?_ (by simp[wv,wG,T.ref,OpD.cells])<;>simp -implicitDefEqProofs only[go_sem,em,hW,qV,OpD.cells,iD,uD]
theorem WK (E:Nat->Option Value):DQz E 28 [.v (.slice none 0 0),.v (.slice none 0 0),intD 0] (.data (bD true)):=by
 have e1:=tV (fD (show ¬(0:Int)>0 by omega));have e2:=tV (show((0:Int) != 0)=false from rfl);have eA:decide ((0:Int)<0)=false:=by decide
 refine dcA Tryz.func28 Tryz.ntmps28 (rs:=[.tmp 6]) fun _ _ _ _ _=>?_
 simp -implicitDefEqProofs only[go_sem,e1,e2];rw[wu];refine wm (α:=Unit) (fun _=>St.of [(0,.d (.v (.slice none 0 0))),(7,.d (intD 0))] []) (fun _=>0) () (we ?_ ?_ rfl) (by kernel_rfl) (fun _=>?_)
 ·simp -implicitDefEqProofs only[go_sem]
 ·simp -implicitDefEqProofs only[go_sem]
 simp -implicitDefEqProofs only[go_sem,eA,finK]
theorem zcg (E:Nat->Option Value){L:List (Nat×Nat)}(hL:L.length<=1000000):DQz E 28 [.sl 2 (boxC L),.sl 2 (boxC L),intD 0] (.data (bD true)):=by
 have cl:=jL L;have d2:=ke;have e1:=tV (fD (show ¬(0:Int)>0 by omega));have e2:=tV (show((L.length:Int) != (L.length:Int))=false by simp);refine dcA Tryz.func28 Tryz.ntmps28 (rs:=[.tmp 6]) fun _ _ _ _ _=>?_
 simp -implicitDefEqProofs only[go_sem,e1,e2,cl,d2];rw[wu];refine wm (α:={i:Nat // i<=L.length}) (fun i=>St.of [(0,.d (.sl 2 (boxC L))),(1,.d (.sl 2 (boxC L))),(7,.d (intD (i.1:Nat)))] []) (fun i=>L.length-i.1) ⟨0,Nat.zero_le _⟩ (we ?_ ?_ rfl) (by kernel_rfl) (fun i=>?_)
 ·have c0:=c0E;simp -implicitDefEqProofs only[go_sem,c0]
 ·simp -implicitDefEqProofs only[go_sem]
 obtain⟨i,hi⟩:=i;by_cases hA:i<L.length
 ·obtain⟨X,hX⟩:∃X,L[i]?=some X:=⟨_,List.getElem?_eq_getElem hA⟩;have hx:=kf hX;have eA:decide ((i:Int)<(L.length:Int))=true:=tD (by omega);have w1:=wL (c:=i) (by omega);have y1:i*2<L.length*2:=by omega
  have y2:i*2+2<=L.length*2:=by omega
  obtain⟨i',hi'⟩:∃i':{i:Nat // i<=L.length},i'.1=i+1:=⟨⟨i+1,hA⟩,rfl⟩;simp -implicitDefEqProofs only[go_sem,cl,d2,eA];refine drw ?_;simp -implicitDefEqProofs only[go_sem,cl,d2,y1,y2,hx];refine cI (WB _ X) ?_;simp -implicitDefEqProofs only[go_sem,w1];refine⟨i',we ?_ ?_ rfl,by simp only[hi'];omega⟩<;>simp -implicitDefEqProofs only[go_sem,hi']
 ·have eA:decide ((i:Int)<(L.length:Int))=false:=fD (by omega);simp -implicitDefEqProofs only[go_sem,cl,d2,eA,finK]
theorem Q6:∀(L:List (Nat×Nat)) (n:Nat),(boxC L).take (n*2)=boxC (L.take n)
 |[],n=>by simp[boxC]
 |X :: L,0=>by simp[boxC]
 |X :: L,n+1=>by
  have h:=Q6 L n;have e:∀M,boxC (X :: M) = .v (.int .u64 X.1) :: .v (.int .u64 X.2) :: boxC M:=fun _=>rfl
  rw[Nat.add_mul,Nat.one_mul,List.take_succ_cons,e,e,<-h];rfl
theorem Q8:∀(L:List (Nat×Nat)) (n:Nat),(boxC L).drop (n*2)=boxC (L.drop n)
 |[],n=>by simp[boxC]
 |X :: L,0=>by simp
 |X :: L,n+1=>by
  have h:=Q8 L n;have e:boxC (X :: L) = .v (.int .u64 X.1) :: .v (.int .u64 X.2) :: boxC L:=rfl;rw[Nat.add_mul,Nat.one_mul,e,List.drop_succ_cons,List.drop_succ_cons,h];rfl
theorem zhl (o:OpD)(hp:o.p.length*8<=140737488355328){y1 y2:D}{e:Int}(hs:DQz E 72 [.sl 2 (boxC (soA o)),intD (soW o),.sl 2 (boxC (soB o))] (.data (.tup [y1,intD e])))
  (ht:DQz E 74 [y1] (.data y1)) (hli:DQz E 28 [y1,y1,intD 0] (.data (bD true)))
  (hj:DQz E 75 [.sl 2 (boxC (soA o)),intD (soW o),.sl 2 (boxC (soB o)),y1,intD e,intD (soP o)] (.data (bD true))) {C:Ctx} (hP:C.P=Tryz.prog) (hE:C.E=E) (hn:C.n=111) (hk:C.kb=0) {c:Code} (hcode:Tryz.f29.body=some c) :
  DC C (cutC 2 (cutC 2 (cutC 4 c).2).2).2 (Post C [.tmp 2] (.data (bD true))) (sS3 o):=by
 have hl:=jL (boxL o.p);rw[xk] at hl;have d2:=ke;have k25:=zbU o;have kle:soK o<=o.p.length/2:=by unfold soK;omega
 have la:(soA o).length=soK o:=by rw[List.length_take,xk];omega
 have lb:(soB o).length=o.p.length/2-soK o:=by rw[List.length_drop,xk]
 have g1:=Rh E (L:=soA o) (by omega);have g2:=Rh E (L:=soB o) (by omega);obtain⟨P,E',σ0,w0,base,n,kb,df,G0⟩:=C;simp only at hP hE hn hk;subst hP hE hn hk;simp only[Tryz.f29,Option.some.injEq] at hcode;subst hcode;simp only[cutC];simp only[sS3];have q1:soK o*2<=o.p.length/2*2:=by omega
 have z0:(0:Int)<=0:=by decide
 have z1:(0:Int)<=(soK o:Int):=by omega
 have z2:(soK o-0)*2=soK o*2:=by omega
 have z3:(soK o:Int)<=((o.p.length/2:Nat):Int):=by omega
 have z4:o.p.length/2*2<=o.p.length/2*2:=Nat.le_refl _;have z5:List.take (o.p.length/2-soK o) (soB o)=soB o:=List.take_of_length_le (by omega);have q3:(0:Int)<=((o.p.length/2:Nat):Int):=by omega
 simp -implicitDefEqProofs only[go_sem,hl,d2,q1,z0,z1,z2,z3,z4,z5,Nat.zero_mul,Q6,Q8,Int.toNat_natCast];refine cI g1 ?_;simp -implicitDefEqProofs only[go_sem];refine cI g2 ?_;simp -implicitDefEqProofs only[go_sem];refine cI hs ?_;simp -implicitDefEqProofs only[go_sem];refine cI g1 ?_;simp -implicitDefEqProofs only[go_sem];refine cI g2 ?_;simp -implicitDefEqProofs only[go_sem];refine cI hs ?_;simp -implicitDefEqProofs only[go_sem];refine cI ht ?_;simp -implicitDefEqProofs only[go_sem];refine cI hli ?_;simp -implicitDefEqProofs only[go_sem,qV,OpD.cells,iD,uD];refine cI hj ?_;simp -implicitDefEqProofs only[go_sem,beq_self_eq_true,finK]
end
theorem WQ:∀ {n:Nat} {a b:Nat->Nat->Rat},(∀i j,i<n->j<n->a i j=b i j)->detR n a=detR n b
 |0,_,_,_=>rfl
 |n+1,a,b,h=>by
  simp only[detR];refine j6 fun j hj=>?_
  rw[h 0 j (by omega) hj,WQ (n:=n) (a:=mnr a j) (b:=mnr b j) (fun i k hi hk=>by
   unfold mnr;exact h _ _ (by omega) (by split<;>omega))]
theorem Q0 {n:Nat}(h4:n<=4){a:Nat->Nat->Rat}(hd:detR n a≠0):∀i,i<n->SatR a (fun j=>detR n (repC a (fun i=>a i n) j)/detR n a) n i:=fun i hi=>by
 have c:=zhF h4 a (fun i=>a i n) hi;unfold SatR;have e:smR (fun j=>a i j*(detR n (repC a (fun i=>a i n) j)/detR n a)) n=(detR n a)⁻¹*smR (fun j=>a i j*detR n (repC a (fun i=>a i n) j)) n:=by
  have:∀(f:Nat->Rat) (c:Rat) m,smR (fun j=>c*f j) m=c*smR f m:=fun f c m=>by
   induction m with
   |zero=>simp only[smR];grind
   |succ m ih=>simp only[smR];rw[ih];grind
  rw[<-this];exact j6 fun j _=>by rw[Rat.div_def];grind
 rw[e,c];have:=Rat.mul_inv_cancel _ hd;grind
theorem Rk {b:Nat}(hf:vi (nplain b).1=true):Nr (nplain b).1 53 82:=by
 by_cases h:(nplain b).1=nzero
 ·rw[h];exact yW _ _
 ·obtain⟨_,e,h1,h2,_⟩:=qf h;have hv:=(Rm _).1 hf;rw[<-WT] at hv;obtain⟨f,hfe⟩:∃f,b % 4503599627370496+4503599627370496=f:=⟨_,rfl⟩;obtain⟨x,hx⟩:∃x:Int,((b/4503599627370496 % 2048:Nat):Int)-1075=x:=⟨_,rfl⟩;rw[hfe,hx] at e;have f1:4503599627370496<=f:=by omega
  have f2:f<9007199254740992:=by have:=Nat.mod_lt b (show 0<4503599627370496 by decide);omega
  have va:val (nam (nplain b).1)=(f:Rat)*2^x:=by rw[e];rfl
  have hp:=wB x;have r1:(4503599627370496:Rat)<=(f:Rat):=by exact_mod_cast f1
  have r2:(f:Rat)<9007199254740992:=by exact_mod_cast f2
  have e52:(2:Rat)^(52:Int)=4503599627370496:=by decide +kernel
  have e53:(2:Rat)^(53:Int)=9007199254740992:=by decide +kernel
  have m1:=Rat.mul_le_mul_of_nonneg_right r1 (Rat.le_of_lt hp);have m2:(f:Rat)*2^x<9007199254740992*2^x:=Rat.mul_lt_mul_of_pos_right r2 hp;have hpos:(0:Rat)<(f:Rat)*2^x:=Rat.mul_pos (by grind) hp;have hne:val (nplain b).1≠0:=fun h0=>by
   have:=WT (nplain b).1;rw[h0,va] at this;have e0:am 0=0:=by unfold am;rw[if_pos Rat.le_refl]
   rw[e0] at this;grind
  rw[va] at hv;rcases hv with h0|⟨g1,g2⟩
  ·exact absurd h0 hne
  rw[<-e52,<-wA] at m1;rw[<-e53,<-wA] at m2;have lo : -82<=x:=by
   refine Decidable.byContradiction fun hc=>?_
   have:=jl (a:=53+x) (b:=-30) (by omega);grind
  have hi:x<=82:=by
   refine Decidable.byContradiction fun hc=>?_
   have:=jl (a:=30+1) (b:=52+x) (by omega);have e31:(2:Rat)^(30+1:Int)=2*2^(30:Int):=by decide +kernel
   have e30:(0:Rat)<2^(30:Int):=wB 30;grind
  rw[e];exact⟨by show f<2^53;omega,by show -((82:Nat):Int)<=x;omega,by show x<=((82:Nat):Int);omega⟩
theorem XS {b:Nat}(hb:b<18446744073709551616)(hp:wg b=true):qm b=vi (nplain b).1:=by
 rw[Bool.eq_iff_iff,Rl,Rm,kX hb hp]
theorem Xz {L:List (Nat×Nat)}{w:Int}{n:Nat}:(¬(n<1\/4<n\/psM L w≠n\/¬(∀i,i<psM L w->psN L w.toNat i=n)))↔kw L.length w n=true:=by
 unfold kw;rw[decide_eq_true_eq];obtain⟨a,ha⟩:∃a,L.length=a:=⟨_,rfl⟩;unfold psM psN;rw[ha];by_cases hw:w<=0
 ·rw[if_pos hw];exact⟨fun h=>by omega,fun h=>by omega⟩
 obtain⟨W,rfl⟩:∃W:Nat,w=(W:Int):=⟨w.toNat,by omega⟩;have hW:1<=W:=by omega
 rw[if_neg hw,Int.toNat_natCast];by_cases h0:a=0
 ·subst h0;rw[if_pos rfl];exact⟨fun h=>by omega,fun h=>by
   obtain⟨h1,h2,h3,h4⟩:=h;rcases h4 with h4|h4
   ·omega
   ·have:1*1<=n*n:=Nat.mul_le_mul h1 h1;omega⟩
 rw[if_neg h0];have dm:=Nat.div_add_mod (a-1) W;have ml:=Nat.mod_lt (a-1) (show 0<W by omega);generalize hq:(a-1)/W=q at *;generalize (a-1) % W=r at *;constructor
 ·intro h;have h1:1<=n:=by omega
  have h2:n<=4:=by omega
  have h3:q+1=n:=by omega
  have h4:∀i,i<n->min W (a-i*W)=n:=fun i hi=>Decidable.byContradiction fun hc=>h (.inr (.inr (.inr fun g=>hc (g i (by omega)))))
  refine⟨h1,h2,by omega,?_⟩;rcases(show n=1\/n=2\/n=3\/n=4 by omega) with rfl|rfl|rfl|rfl
  ·have g0:=h4 0 (by omega);obtain rfl:q=0:=by omega
   left;omega
  ·have g0:=h4 0 (by omega);have g1:=h4 1 (by omega);obtain rfl:q=1:=by omega
   right;omega
  ·have g0:=h4 0 (by omega);have g1:=h4 2 (by omega);obtain rfl:q=2:=by omega
   right;omega
  ·have g0:=h4 0 (by omega);have g1:=h4 3 (by omega);obtain rfl:q=3:=by omega
   right;omega
 ·rintro⟨h1,h2,h3,h4⟩ h;rcases h4 with⟨rfl,rfl⟩|⟨hn1,hw1,rfl⟩
  ·have hq0:q=0:=by rw[<-hq];simp
   rcases h with h|h|h|h
   ·omega
   ·omega
   ·omega
   ·refine h fun i hi=>?_
    obtain rfl:i=0:=by omega
    omega
  ·obtain rfl:W=n:=by omega
   rcases(show W=2\/W=3\/W=4 by omega) with rfl|rfl|rfl
   ·obtain rfl:q=1:=by omega
    rcases h with h|h|h|h
    ·omega
    ·omega
    ·omega
    ·refine h fun i hi=>?_
     rcases(show i=0\/i=1 by omega) with rfl|rfl<;>omega
   ·obtain rfl:q=2:=by omega
    rcases h with h|h|h|h
    ·omega
    ·omega
    ·omega
    ·refine h fun i hi=>?_
     rcases(show i=0\/i=1\/i=2 by omega) with rfl|rfl|rfl<;>omega
   ·obtain rfl:q=3:=by omega
    rcases h with h|h|h|h
    ·omega
    ·omega
    ·omega
    ·refine h fun i hi=>?_
     rcases(show i=0\/i=1\/i=2\/i=3 by omega) with rfl|rfl|rfl|rfl<;>omega
theorem Uu {X:Nat×Nat}(g:Gd X)(p:Int):Wi (val (chN (loN X) (hiN X) p)) X:=by
 have vl:=KT g;have vh:=Vn g;have hle:=g.iLH;unfold chN Wi;split
 ·rw[vl];exact⟨Rat.le_refl,hle⟩
 ·split
  ·rw[vh];exact⟨hle,Rat.le_refl⟩
  ·obtain⟨s,hs⟩:∃s,nsum (loN X) (hiN X)=s:=⟨_,rfl⟩;have vs:=kj (loN X) (hiN X);rw[hs,vl,vh] at vs;have e:val ⟨s.neg,s.n,s.e-1⟩*2=val s:=by
    have h:(2:Rat)^s.e=2^(s.e-1)*2:=by
     have:=wA (s.e-1) 1;have e1:(2:Rat)^(1:Int)=2:=by decide +kernel
     rw[e1,show s.e-1+1=s.e by omega] at this;exact this
    unfold val;simp only;rw[h];split<;>grind
   rw[hs];exact⟨by grind,by grind⟩
section
variable {E:Nat->Option Value} {M V S:Nat×Nat->Nat×Nat->AnsQ} (O:Ops3 E M V S) {A B:Nat->Nat×Nat} {G:Nat->Nat->Nat×Nat} {n:Nat}
include O
theorem zdF (h4:n<=4)(hG:∀i j,i<n->j<=n->Gd (G i j))(hA:∀i j,i<n->j<n->G i j=A (n*i+j))(hB:∀i,i<n->G i n=B i){out:Nat->Nat×Nat}(h:solS M V S G n=some out)(p:Int) :
  nsign (detN n (cN A n p))≠0/\∀O':Nat->Nat×Nat,(∀i,i<n->O' i=out i)->∀i,i<n->RH A B n p O' i:=by
 obtain⟨a,ha⟩:∃a:Nat->Nat->Rat,(fun i j=>if j=n then val (cB B p i) else val (cN A n p i j))=a:=⟨_,rfl⟩;have an:∀i,a i n=val (cB B p i):=fun i=>by rw[<-ha];exact if_pos rfl
 have aj:∀i j,j<n->a i j=val (cN A n p i j):=fun i j hj=>by rw[<-ha];exact if_neg (by omega)
 have hw:∀i j,i<n->j<=n->Wi (a i j) (G i j):=fun i j hi hj=>by
  by_cases g:j=n
  ·subst g;rw[an,hB i hi];exact Uu (by rw[<-hB i hi];exact hG i j hi (Nat.le_refl _)) _
  ·rw[aj i j (by omega),hA i j hi (by omega)];exact Uu (by rw[<-hA i j hi (by omega)];exact hG i j hi hj) _
 have hd:=WX O h4 hG hw h;have ed:val (detN n (cN A n p))=detR n a:=by rw[Vo];exact WQ fun i j _ hj=>(aj i j hj).symm
 have gd:=(Kv O hG hw (Q0 h4 hd) h).2;refine⟨fun h0=>hd (by rw[<-ed];exact(vy _).2.1.1 h0),fun O' hO i hi=>?_⟩;have cr:=RW O h4 hG hw h hi;have ex:val (detN n (rpN (cN A n p) (cB B p) i))=detR n (repC a (fun i=>a i n) i):=by
  rw[Vo];refine WQ fun r k _ hk=>?_
  unfold rpN repC;by_cases g:k=i
  ·rw[if_pos (by omega),if_pos g];exact(an r).symm
  ·rw[if_neg (by omega),if_neg g,aj r k hk]
 have gO:=gd i;have vl:=KT gO;have vh:=Vn gO;obtain⟨x,hx⟩:∃x,detR n (repC a (fun i=>a i n) i)=x:=⟨_,rfl⟩;obtain⟨d,hde⟩:∃d,detR n a=d:=⟨_,rfl⟩;rw[hx] at ex;rw[hde] at ed hd;rw[hx,hde] at cr;unfold Wi at cr;have hxd:x/d*d=x:=by rw[Rat.div_def,Rat.mul_assoc,Rat.mul_comm d⁻¹,Rat.mul_inv_cancel _ hd,Rat.mul_one]
 obtain⟨y,hy⟩:∃y,x/d=y:=⟨_,rfl⟩;rw[hy] at cr hxd;have sg:=(vy (detN n (cN A n p))).1;rw[ed] at sg;unfold RH;rw[hO i hi];simp only[jP,k8,ex,ed,vl,vh];refine⟨fun hn=>?_,fun hn=>?_⟩
 ·have hneg:=sg.1 hn;have m1:=Rat.mul_le_mul_of_nonneg_right cr.1 (show 0<=-d by grind);have m2:=Rat.mul_le_mul_of_nonneg_right cr.2 (show 0<=-d by grind);exact⟨decide_eq_false (by grind),decide_eq_false (by grind)⟩
 ·have hpos:¬d<0:=fun g=>hn (sg.2 g)
  have m1:=Rat.mul_le_mul_of_nonneg_right cr.1 (show 0<=d by grind);have m2:=Rat.mul_le_mul_of_nonneg_right cr.2 (show 0<=d by grind);exact⟨decide_eq_false (by grind),decide_eq_false (by grind)⟩
omit O in
theorem K2 (h1:1<=n)(hG:∀i j,i<n->j<=n->Gd (G i j))(hA:∀i j,i<n->j<n->G i j=A (n*i+j))(hB:∀i,i<n->G i n=B i)(hf:kS G (n+1) n=true)(hs:zY A B n=true) :
  Pts G (fun i j=>iL (G i j)) n/\Heavy (fun i j=>iL (G i j)) n:=by
 have hr:=(JA A B n).1 hs;refine⟨ziE hG hf fun i j hi hj=>⟨rfl,?_⟩,fun i hi=>?_⟩
 ·have e:(G i j).1=(G i j).2:=by
   by_cases g:j=n
   ·subst g;rw[hB i hi];exact(hr i hi).1
   ·rw[hA i j hi (by omega)];exact(hr i hi).2.1 j (by omega)
  unfold iH iL;rw[e]
 ·obtain⟨_,_,g1,g2⟩:=hr i hi;have va:∀j,j<n->val (amA A n i j)=am (iL (G i j)):=fun j hj=>by
   unfold amA;rw[WT,KT (by rw[<-hA i j hi hj];exact hG i j hi (by omega)),hA i j hi hj]
  rw[jP,zed,KS,va i hi] at g1;have g3:=of_decide_eq_false g1;have hne:val (amA A n i i)≠0:=fun h0=>g2 ((vy _).2.1.2 h0)
  rw[va i hi] at hne;have eo:offR (fun i j=>am (iL (G i j))) 0 n i=smR (fun j=>if j≠i then val (amA A n i j) else 0) n:=j6 fun j hj=>by
   by_cases g:j≠i
   ·rw[if_pos ⟨Nat.zero_le _,g⟩,if_pos g,va j hj]
   ·rw[if_neg (fun z=>g z.2),if_neg g]
  refine⟨fun h0=>hne (by
   have h0':iL (G i i)=0:=h0;rw[h0'];unfold am;rw[if_pos Rat.le_refl]),?_⟩
  rw[eo];grind
end
section
variable {E:Nat->Option Value} {q:Nat->Addr}
theorem zap {o:OpD}(hw:o.Wf):Bits (boxL o.p):=fun X hX=>by
 unfold boxL at hX;simp only[List.mem_map,List.mem_range] at hX;obtain⟨i,hi,rfl⟩:=hX;have get:∀k,k<o.p.length->o.p.getD k 0<18446744073709551616:=fun k hk=>by
  rw[List.getD_eq_getElem?_getD,List.getElem?_eq_getElem hk];exact hw.p _ (List.getElem_mem hk)
 exact⟨get _ (by omega),get _ (by omega)⟩
theorem kD {L:List (Nat×Nat)}{i:Nat}(h:i<L.length):(jk L).getD i (0,0)=mk2 (L.getD i (0,0)):=by
 unfold jk;rw[List.getD_eq_getElem?_getD,List.getD_eq_getElem?_getD,List.getElem?_map,List.getElem?_eq_getElem h];rfl
set_option maxHeartbeats 1000000 in
theorem zbT (hq:Sent E q){o:OpD}(hw:o.Wf)(hp:o.p.length*8<=140737488355328):DQz E 29 [opD o] (.data (bD true)):=by
 obtain⟨M,V,S,O⟩:=ops3 hq;have bL:=zap hw;have k25:=zbU o;have kle:soK o<=o.p.length/2:=by unfold soK;omega
 obtain⟨LA,hLA⟩:∃LA,soA o=LA:=⟨_,rfl⟩;obtain⟨LB,hLB⟩:∃LB,soB o=LB:=⟨_,rfl⟩;have la:LA.length=soK o:=by rw[<-hLA,List.length_take,xk];omega
 have lb:LB.length<=o.p.length/2:=by rw[<-hLB,List.length_drop,xk];omega
 have bA:Bits LA:=fun X hX=>bL X (by rw[<-hLA] at hX;exact List.mem_of_mem_take hX)
 have bB:Bits LB:=fun X hX=>bL X (by rw[<-hLB] at hX;exact List.mem_of_mem_drop hX)
 obtain⟨w,hwe⟩:∃w,soW o=w:=⟨_,rfl⟩;have wle:0<=w/\w<=5:=by
  have:=K9 o;rw[<-hwe];unfold soW;split<;>omega
 have hbits:∀X,X∈LA\/X∈LB->X.1<18446744073709551616/\X.2<18446744073709551616:=fun X hX=>by
  rcases hX with h|h
  ·exact bA X h
  ·exact bB X h
 have ps:=zcB (E:=E) (q:=q) (F:=mk2) (L:=LA) (L':=LB) hq O (by omega) (by omega) (w:=w) (by omega) (fun X hX=>qY hq (hbits X hX).1 (hbits X hX).2) (fun X hX=>jO (hbits X hX).1 (hbits X hX).2);obtain⟨n,hn⟩:∃n,LB.length=n:=⟨_,rfl⟩;obtain⟨aa,haa⟩:∃aa,psA mk2 LA w.toNat=aa:=⟨_,rfl⟩;obtain⟨bb,hbb⟩:∃bb:Nat->Nat×Nat,(fun i=>mk2 (LB.getD i (0,0)))=bb:=⟨_,rfl⟩;rw[hn,haa,hbb] at ps;have fin:∀ {y1:D} {e:Int},DQz E 72 [.sl 2 (boxC LA),intD w,.sl 2 (boxC LB)] (.data (.tup [y1,intD e]))->DQz E 74 [y1] (.data y1)->DQz E 28 [y1,y1,intD 0] (.data (bD true)) ->
   DQz E 75 [.sl 2 (boxC LA),intD w,.sl 2 (boxC LB),y1,intD e,intD (soP o)] (.data (bD true))->DQz E 29 [opD o] (.data (bD true)):=fun {y1 e} h1 h2 h3 h4=>by
  rw[<-hLA,<-hLB,<-hwe] at h1 h4;refine Jl Tryz.func29 rfl (by kernel_rfl) Tryz.ntmps29 (by simp) (rs:=[.tmp 2]) rfl (fun C hP hE hn hk=>?_);refine xD 4 (by rw[hn];kernel_rfl) (zho o hp hP hE hn hk rfl) ?_;refine xD 2 (by rw[hn];kernel_rfl) (zhn (E:=E) o hP hE hn hk rfl) ?_;refine xD 2 (by rw[hn];kernel_rfl) (zhm (E:=E) o hP hE hn hk rfl) ?_;exact kM (by rw[hn];kernel_rfl) (zhl o hp (y2:=y1) h1 h2 h3 h4 hP hE hn hk rfl)
 have lA6:LA.length<=1000000:=by omega
 have lB6:LB.length*16<=140737488355328:=by omega
 by_cases hsh:kw LA.length w n=true
 ·have hnot:=Xz.2 hsh;have hsh':kw LA.length w LB.length=true:=by rw[hn];exact hsh
  have hdat:=hsh;unfold kw at hdat;rw[decide_eq_true_eq] at hdat;obtain⟨n1,n4,w1,hcase⟩:=hdat;have lAn:LA.length=n*n:=by
   rcases hcase with⟨h1,h2⟩|⟨_,_,h2⟩
   ·rw[h2,h1]
   ·exact h2
  have hidx:∀i j,i<n->j<n->i*w.toNat+j=n*i+j:=fun i j hi hj=>by
   rcases hcase with⟨h1,h2⟩|⟨_,h1,_⟩
   ·obtain rfl:i=0:=by omega
    omega
   ·rw[h1,Int.toNat_natCast,Nat.mul_comm]
  have hlt:∀i j,i<n->j<n->n*i+j<LA.length:=fun i j hi hj=>by
   have:n*i+n<=n*n:=by rw[<-Nat.mul_succ];exact Nat.mul_le_mul_left _ hi
   omega
  obtain⟨NA,hNA⟩:∃NA:Nat->Nat×Nat,(fun i=>(jk LA).getD i (0,0))=NA:=⟨_,rfl⟩;obtain⟨NB,hNB⟩:∃NB:Nat->Nat×Nat,(fun i=>(jk LB).getD i (0,0))=NB:=⟨_,rfl⟩;have eA:∀i j,i<n->j<n->augB aa bb n i j=NA (n*i+j):=fun i j hi hj=>by
   unfold augB;rw[if_neg (by omega),<-haa,<-hNA];unfold psA;simp only;rw[hidx i j hi hj,kD (hlt i j hi hj)]
  have eB:∀i,i<n->augB aa bb n i n=NB i:=fun i hi=>by
   unfold augB;rw[if_pos rfl,<-hbb,<-hNB];simp only;rw[kD (by omega)]
  have memA:∀i,i<LA.length->LA.getD i (0,0)∈LA:=fun i hi=>List.mem_of_getElem? (getD_some hi)
  have memB:∀i,i<n->LB.getD i (0,0)∈LB:=fun i hi=>List.mem_of_getElem? (getD_some (by omega))
  have hG:∀i j,i<n->j<=n->Gd (augB aa bb n i j):=fun i j hi hj=>by
   by_cases g:j=n
   ·subst g;rw[eB i hi,<-hNB];simp only;rw[kD (by omega)];have:=bB _ (memB i hi);exact jO this.1 this.2
   ·rw[eA i j hi (by omega),<-hNA];simp only;rw[kD (hlt i j hi (by omega))];have:=bA _ (memA _ (hlt i j hi (by omega)));exact jO this.1 this.2
  have fX:∀X:Nat×Nat,X.1<18446744073709551616/\X.2<18446744073709551616->vL (mk2 X)=yz X:=fun X hX=>by
   have g:=jO hX.1 hX.2;unfold vL yz;rw[XS g.l1 g.p1,XS g.l2 g.p2]
  have hfr:kS (augB aa bb n) (n+1) n=(kA LA&&kA LB):=by
   rw[Bool.eq_iff_iff,JQ,Bool.and_eq_true];unfold kA;rw[List.all_eq_true,List.all_eq_true];refine⟨fun h=>⟨fun X hX=>?_,fun X hX=>?_⟩,fun h r j hr hj=>?_⟩
   ·obtain⟨k,hk,e⟩:=List.mem_iff_getElem.1 hX;have hkn:k<n*n:=by omega
    have hr:k/n<n:=Nat.div_lt_of_lt_mul hkn;have hc:k % n<n:=Nat.mod_lt _ (by omega);have:=h (k/n) (k % n) hr (by omega);rw[eA _ _ hr hc,Nat.div_add_mod,<-hNA] at this;simp only at this;rw[kD hk,List.getD_eq_getElem?_getD,List.getElem?_eq_getElem hk,Option.getD_some,e,fX X (bA X hX)] at this;exact this
   ·obtain⟨k,hk,e⟩:=List.mem_iff_getElem.1 hX;have:=h k n (by omega) (by omega);rw[eB k (by omega),<-hNB] at this;simp only at this;rw[kD hk,List.getD_eq_getElem?_getD,List.getElem?_eq_getElem hk,Option.getD_some,e,fX X (bB X hX)] at this;exact this
   ·by_cases g:j=n
    ·subst g;rw[eB r hr,<-hNB];simp only;rw[kD (by omega),fX _ (bB _ (memB r hr))];exact h.2 _ (memB r hr)
    ·rw[eA r j hr (by omega),<-hNA];simp only;rw[kD (hlt r j hr (by omega)),fX _ (bA _ (memA _ (hlt r j hr (by omega))))];exact h.1 _ (memA _ (hlt r j hr (by omega)))
  by_cases hra:(kA LA&&kA LB)=true
  ·obtain⟨ra,rb⟩:=(Bool.and_eq_true _ _▸hra:kA LA=true/\kA LB=true);cases hsol:solS M V S (augB aa bb n) n with
   |none=>
    have hsN:solN M V S aa (psN LA w.toNat) (psM LA w) bb n=(none,9):=by
     unfold solN;rw[if_neg hnot,if_neg (by rw[hfr,hra];simp),hsol]
    rw[hsN] at ps;simp only[psR] at ps;refine fin ps (Jz E) (WK E) (HQ E n4 lAn hn bA bB hsh' ra rb ?_ _);rw[hNA,hNB];cases hsu:zY NA NB n with
    |false=>rfl
    |true=>
     obtain⟨P,H⟩:=K2 n1 hG eA eB (by rw[hfr,hra]) hsu;obtain⟨out,hout⟩:=HZ O P H n1 n4;rw[hsol] at hout;cases hout
   |some out=>
    have hsN:solN M V S aa (psN LA w.toNat) (psM LA w) bb n=(some out,0):=by
     unfold solN;rw[if_neg hnot,if_neg (by rw[hfr,hra];simp),hsol]
    rw[hsN] at ps;simp only[psR] at ps;obtain⟨LO,hLO⟩:∃LO,(List.range n).map out=LO:=⟨_,rfl⟩;rw[hLO] at ps;have lO:LO.length=n:=by rw[<-hLO];simp
    have gO:∀i,i<n->LO.getD i (0,0)=out i:=fun i hi=>by
     rw[<-hLO,List.getD_eq_getElem?_getD,List.getElem?_map,List.getElem?_range hi];rfl
    obtain⟨hd,hh⟩:=zdF O n4 hG eA eB hsol (soP o);have hwi:∀i j,i<n->j<=n->Wi (iL (augB aa bb n i j)) (augB aa bb n i j):=fun i j hi hj=>⟨Rat.le_refl,(hG i j hi hj).iLH⟩
    have hdet:=WX O n4 hG hwi hsol;have gout:=(Kv O hG hwi (Q0 n4 hdet) hsol).2;have gLO:∀X∈LO,Gd X:=fun X hX=>by
     rw[<-hLO,List.mem_map] at hX;obtain⟨i,_,rfl⟩:=hX;exact gout i
    have nlA:=qO LA;have nlB:=qO LB;have fair_of:∀X:Nat×Nat,X.1<18446744073709551616/\X.2<18446744073709551616->yz X=true->Nr (loN (mk2 X)) 53 82/\Nr (hiN (mk2 X)) 53 82:=fun X hX hf=>by
     have g:=jO hX.1 hX.2;unfold yz at hf;rw[Bool.and_eq_true] at hf;unfold loN hiN;rw[VX g];exact⟨Rk hf.1,Rk hf.2⟩
    have fA:∀X∈jk LA,Nr (loN X) 53 82/\Nr (hiN X) 53 82:=fun X hX=>by
     unfold jk at hX;rw[List.mem_map] at hX;obtain⟨Y,hY,rfl⟩:=hX;exact fair_of Y (bA Y hY) (List.all_eq_true.1 ra Y hY)
    have fB:∀X∈jk LB,Nr (loN X) 53 82/\Nr (hiN X) 53 82:=fun X hX=>by
     unfold jk at hX;rw[List.mem_map] at hX;obtain⟨Y,hY,rfl⟩:=hX;exact fair_of Y (bB Y hY) (List.all_eq_true.1 rb Y hY)
    have hc:=zii E (LA:=jk LA) (LB:=jk LB) (LO:=LO) n4 n1 (by rw[nlA,lAn]) (by rw[nlB,hn]) lO (za bA) (za bB) gLO (soP o) fA fB (by rw[hNA];exact hd) (fun i hi=>by
     rw[hNA,hNB];exact hh _ gO i hi)
    have lk:=zcg E (L:=LO) (by omega);refine fin ps (zek E (by omega)) lk (zck E n1 n4 lAn hn lO bA bB gLO hsh' ra rb _ hc fun hsu=>?_);rw[hNA,hNB] at hsu;obtain⟨P,H⟩:=K2 n1 hG eA eB (by rw[hfr,hra]) hsu;refine zcW E n4 lO gLO fun G hGr i hi=>?_
    rw[gO i hi];exact Zf O P H n1 n4 (Q0 n4 (WX O n4 hG P.wi hsol)) hsol (fun j hj=>by have:=hGr j hj;rwa [gO j hj] at this) i hi
  ·have hraf:(kA LA&&kA LB)=false:=by
    cases h:(kA LA&&kA LB)
    ·rfl
    ·exact absurd h hra
   have hsN:solN M V S aa (psN LA w.toNat) (psM LA w) bb n=(none,3):=by
    unfold solN;rw[if_neg hnot,if_pos (by rw[hfr,hraf])]
   rw[hsN] at ps;simp only[psR] at ps;exact fin ps (Jz E) (WK E) (Yy E lA6 lB6 bA bB hsh' hraf _)
 ·have hshf:kw LA.length w LB.length=false:=by
   rw[hn];cases h:kw LA.length w n
   ·rfl
   ·exact absurd h hsh
  have hyes:n<1\/4<n\/psM LA w≠n\/¬(∀i,i<psM LA w->psN LA w.toNat i=n):=Decidable.byContradiction fun h=>hsh (Xz.1 h)
  have hsN:solN M V S aa (psN LA w.toNat) (psM LA w) bb n=(none,8):=by
   unfold solN;rw[if_pos hyes]
  rw[hsN] at ps;simp only[psR] at ps;exact fin ps (Jz E) (WK E) (Yx E lA6 lB6 hshf _)
theorem Ya (hq:Sent E q){o:OpD}(hw:o.Wf)(hlen:o.p.length*8<=140737488355328)(hk:o.kind=7):DQz E 12 [opD o] (.data (bD true)):=by
 have h:=zbT hq hw hlen;obtain⟨kind,a,b,s,xl,xh,yl,yh,p⟩:=o;simp only at hk;subst hk;refine dcA Tryz.func12 Tryz.ntmps12 (rs:=[.tmp 2]) fun _ _ _ _ _=>?_
 simp -implicitDefEqProofs only[go_sem,OpD.cells,iD,uD,Int.reduceBEq];refine cI h ?_;simp -implicitDefEqProofs only[go_sem,finK]
end
end Go.Enc
