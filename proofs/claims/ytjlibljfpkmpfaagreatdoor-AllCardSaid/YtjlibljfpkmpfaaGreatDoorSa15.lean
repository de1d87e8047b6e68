/-
  A script as data: what is handed to a law reads as a list of steps. A law's script as it is handed reads as a list of steps. A script's rows.
-/
import Derived.Test.YtjlibljfpkmpfaaGreatDoorSa14
import Derived.Test.YtjlibljfpkmpfaaGreatDoorSa06
import Derived.Deep.Slices
import Derived.ChangeArms
import Derived.HandedShaped
set_option maxRecDepth 100000
set_option linter.unusedSimpArgs false
set_option linter.unusedVariables false
section
section
namespace Go.Enc
open Go.Proofs Go.RowKit Go.ChangeShapes Go.Deep
structure OpD where
 kind:Int
 a:Int
 b:Int
 s:ByteArray
 xl:Nat
 xh:Nat
 yl:Nat
 yh:Nat
 p:List Nat
def iD (n:Int):D:=.v (.int .i64 n)
def uD (n:Nat):D:=.v (.int .u64 n)
def OpD.cells (o:OpD):List D:=[iD o.kind,iD o.a,iD o.b,.v (.string o.s),uD o.xl,uD o.xh,uD o.yl,uD o.yh,.sl 1 (o.p.map uD)]
def I64 (n:Int):Prop:=-9223372036854775808<=n/\n<=9223372036854775807
def U64 (n:Nat):Prop:=n<18446744073709551616
structure OpD.Wf (o:OpD):Prop where
 kind:I64 o.kind
 a:I64 o.a
 b:I64 o.b
 s:o.s.size<=maxLen
 xl:U64 o.xl
 xh:U64 o.xh
 yl:U64 o.yl
 yh:U64 o.yh
 p:∀n∈o.p,U64 n
 len:o.p.length<=maxLen
section
variable {H:Type} {enc:TypeId×Value->H} {P:Program} {w:World} {held:Bool} {sp:Nat->Bool}
theorem Z3 {σ:Mem}:∀ {ds es:List D} {b o:Nat},RepC σ ds b o->RepC σ es b (o+ds.length)->RepC σ (ds++es) b o
 |[],_,_,_,_,k=>by simpa using k
 |d :: ds,es,b,o,h,k=>by
  simp only[RepC,List.cons_append] at h ⊢;exact⟨h.1,Z3 h.2 (by rwa [show o+1+ds.length=o+(d :: ds).length by simp;omega])⟩
theorem XF {σ:Mem}{α:Type}(f:α->List D)(n:Nat)(hn:∀x,(f x).length=n):∀(l:List α) (b o:Nat),(∀(i:Nat) x,l[i]?=some x->RepC σ (f x) b (o+i*n))->RepC σ (l.flatMap f) b o
 |[],_,_,_=>by simp[RepC]
 |x :: l,b,o,h=>by
  simp only[List.flatMap_cons];refine Z3 (by simpa using h 0 x rfl) (XF f n hn l b _ fun i y hy=>?_);have:=h (i+1) y (by simpa using hy)
  rwa [hn,show o+n+i*n=o+(i+1)*n by rw[Nat.add_mul];omega]
theorem Km {α:Type}{R:Nat->α->Prop}:∀(n:Nat),(∀i,i<n->∃x,R i x)->∃l:List α,l.length=n/\∀(i:Nat) x,l[i]?=some x->R i x
 |0,_=>⟨[],rfl,by simp⟩
 |n+1,h=>by
  obtain⟨l,h1,h2⟩:=Km n fun i hi=>h i (by omega)
  obtain⟨x,hx⟩:=h n (by omega);refine⟨l++[x],by simp[h1],fun i y hy=>?_⟩;rcases Nat.lt_trichotomy i n with hi|hi|hi
  ·exact h2 i y (by rwa [List.getElem?_append_left (by omega)] at hy)
  ·subst hi;rw[List.getElem?_append_right (by omega),h1] at hy;simp at hy;subst hy;exact hx
  ·rw[List.getElem?_eq_none (by simp;omega)] at hy;cases hy
theorem Qo {t:TypeId}(ht:P.underlying t=some (.int .u64)){fuel:Nat}{cs:List Value}{x:DataW H×List MemPlace}(h:DataW.trod enc P w 0 sp held fuel t cs=some x):∃n:Nat,U64 n/\cs=[.int .u64 n]:=by
 obtain⟨n,h1,_,h2⟩:=DataW.trod_int ht h;simp only[Lit.wf,Bool.and_eq_true,decide_eq_true_eq] at h2;have h3:(0:Int)<=n:=h2.1;have h4:n<=18446744073709551615:=h2.2;refine⟨n.toNat,by unfold U64;omega,?_⟩;rw[h1,Int.toNat_of_nonneg h3]
theorem Qq {t:TypeId}(ht:P.underlying t=some (.int .i64)){fuel:Nat}{cs:List Value}{x:DataW H×List MemPlace}(h:DataW.trod enc P w 0 sp held fuel t cs=some x):∃n:Int,I64 n/\cs=[.int .i64 n]:=by
 obtain⟨n,h1,_,h2⟩:=DataW.trod_int ht h;refine⟨n,?_,h1⟩;simp only[Lit.wf,Bool.and_eq_true,decide_eq_true_eq] at h2;exact⟨h2.1,h2.2⟩
end
end Go.Enc
end
section
namespace Go.Enc
open Go.Proofs Go.RowKit Go.ChangeShapes Go.Deep
theorem zkw {α:Type}{l:List α}(h:l.length=9):∃c0 c1 c2 c3 c4 c5 c6 c7 c8,l=[c0,c1,c2,c3,c4,c5,c6,c7,c8]:=by
 match l,h with
 |[c0,c1,c2,c3,c4,c5,c6,c7,c8],_=>exact⟨c0,c1,c2,c3,c4,c5,c6,c7,c8,rfl⟩
theorem zgx {α:Type}{l:List α}(h:l.length=2):∃c0 c1,l=[c0,c1]:=by
 match l,h with
 |[c0,c1],_=>exact⟨c0,c1,rfl⟩
theorem zaU (l:List Nat):(l.flatMap fun n=>[uD n])=l.map uD:=by
 induction l with
 |nil=>rfl
 |cons x l ih=>simp[List.flatMap_cons,ih]
section
variable {H:Type} {enc:TypeId×Value->H} {w:World} {held:Bool} {sp:Nat->Bool}
theorem zjF:Tryz.prog.cellsOf 3=1:=by kernel_rfl
theorem zjE:Tryz.prog.cellsOf 9=1:=by kernel_rfl
theorem Ry:Tryz.prog.cellsOf 25=1:=by kernel_rfl
theorem Rw:Tryz.prog.cellsOf 27=2:=by kernel_rfl
theorem zgM:Tryz.prog.cellsOf 28=1:=by kernel_rfl
theorem Rv:Tryz.prog.cellsOf 30=9:=by kernel_rfl
theorem Z6 {fuel:Nat}{cs:List Value}{x:DataW H×List MemPlace}(h:DataW.trod enc Tryz.prog w 0 sp held fuel 27 cs=some x):∃a b:Nat,U64 a/\U64 b/\cs=[.int .u64 a,.int .u64 b]:=by
 obtain⟨xs,n,_,_,hl,hlen,hf⟩:=DataW.trod_struct Tryz.underlying27 h;rw[Rw] at hl;obtain⟨c0,c1,rfl⟩:=zgx hl;obtain⟨y0,y1,rfl⟩:=zgx hlen;have f0:=hf 0 _ rfl;have f1:=hf 1 _ rfl;simp only[List.getElem_toArray,List.getElem_cons_zero,List.getElem_cons_succ] at f0 f1;rw[Ry] at f0 f1;obtain⟨a,ha,e0⟩:=Qo Tryz.underlying25 f0;obtain⟨b,hb,e1⟩:=Qo Tryz.underlying25 f1;simp at e0 e1;exact⟨a,b,ha,hb,by rw[e0,e1]⟩
end
end Go.Enc
end
section
namespace Go.Enc
open Go.Proofs
abbrev opD (o:OpD):D:=.agg o.cells
theorem OpD.len (o:OpD):o.cells.length=9:=rfl
theorem yv (ops:List OpD):(ops.flatMap OpD.cells).length=ops.length*9:=by
 induction ops with
 |nil=>rfl
 |cons o ops ih=>simp only[List.flatMap_cons,List.length_append,ih,OpD.len,List.length_cons,Nat.add_mul];omega
theorem KG:∀ {ops:List OpD} {i:Nat} {o:OpD},ops[i]?=some o->((ops.flatMap OpD.cells).drop (i*9)).take 9=o.cells
 |[],i,o,h=>by simp at h
 |a :: ops,0,o,h=>by
  simp only[List.getElem?_cons_zero,Option.some.injEq] at h;subst h;rw[Nat.zero_mul,List.drop_zero,List.flatMap_cons,List.take_append_of_le_length (by simp[OpD.len])];exact List.take_of_length_le (by simp[OpD.len])
 |a :: ops,i+1,o,h=>by
  simp only[List.getElem?_cons_succ] at h;rw[List.flatMap_cons,Nat.add_mul,Nat.one_mul,Nat.add_comm,<-List.drop_drop,List.drop_left' (OpD.len a)];exact KG h
abbrev scD (ops:List OpD):D:=.sl 9 (ops.flatMap OpD.cells)
theorem div9 (n:Nat):n*9/9=n:=Nat.mul_div_cancel _ (by decide)
end Go.Enc
end
end
section
namespace Go.Enc
open Go.Proofs Go.Enc.Fl Go.Enc.Dg Go.Enc.Nu
abbrev sD (s:ByteArray):D:=.v (.string s)
theorem VN {E:Nat->Option Value}{lo hi:Nat}{r:Nat×Nat}{e:D}{n:Int}{s:ByteArray}(hm:DQz E 30 [flD lo,flD hi] (.data (.tup [ivD r,e])))(hc:DQz E 32 [e] (.data (.tup [intD n,sD s]))) :
  DQz E 13 [boxD (lo,hi)] (.data (.tup [boxD r,intD n])):=by
 refine dcA Tryz.func13 Tryz.ntmps13 (rs:=[.cell 2 32,.tmp 3]) fun _ _ _ _ _=>?_
 simp -implicitDefEqProofs only[go_sem];refine drw ?_;simp -implicitDefEqProofs only[go_sem];refine cI (zp _ lo) ?_;simp -implicitDefEqProofs only[go_sem];refine cI (zp _ hi) ?_;simp -implicitDefEqProofs only[go_sem];refine cI hm ?_;simp -implicitDefEqProofs only[go_sem];refine cI hc ?_;simp -implicitDefEqProofs only[go_sem];refine cI (jN _ r) ?_;simp -implicitDefEqProofs only[go_sem];refine wc ?_;simp -implicitDefEqProofs only[go_sem]
theorem zfH {E:Nat->Option Value}{q:Nat->Addr}(hq:Sent E q){lo hi:Nat}(h1:lo<18446744073709551616)(h2:hi<18446744073709551616):DQz E 13 [boxD (lo,hi)] (.data (.tup [boxD (vG lo hi).1,intD (vG lo hi).2])):=by
 have hm:=Zb hq h1 h2;obtain⟨c1,c2⟩:=qi h1 h2;unfold Ys at hm;by_cases h:wg lo=false\/wg hi=false
 ·rw[if_pos h] at hm;rw[c1 h];exact VN hm (qp hq (i:=0) (by decide))
 ·rw[if_neg h] at hm;by_cases h':idx hi<idx lo
  ·rw[if_pos h'] at hm;rw[(c2 h).1 h'];exact VN hm (qp hq (i:=1) (by decide))
  ·rw[if_neg h'] at hm;rw[(c2 h).2 h'];exact VN hm (jE E)
theorem ym (E:Nat->Option Value)(x:Nat×Nat):DQz E 14 [boxD x] (.data (boxD x)):=by
 refine dcA Tryz.func14 Tryz.ntmps14 (rs:=[.cell 2 32]) fun _ _ _ _ _=>?_
 simp -implicitDefEqProofs only[go_sem]
theorem WB (E:Nat->Option Value)(x:Nat×Nat):DQz E 16 [boxD x,boxD x] (.data (bD true)):=by
 refine dcA Tryz.func16 Tryz.ntmps16 (rs:=[.tmp 4]) fun _ _ _ _ _=>?_
 have e1:=tB (beqT (show(x.1:Int)=x.1 from rfl));have e2:=tB (beqT (show(x.2:Int)=x.2 from rfl));simp -implicitDefEqProofs only[go_sem,beq_self_eq_true,finK]
theorem Hy {E:Nat->Option Value}{q:Nat->Addr}(hq:Sent E q){o:OpD}(hw:o.Wf)(hk:o.kind=1):DQz E 12 [opD o] (.data (bD true)):=by
 have hm:=zfH hq hw.xl hw.xh;have hr:=VZ E hw.xl hw.xh;refine dcA Tryz.func12 Tryz.ntmps12 (rs:=[.tmp 2]) fun _ _ _ _ _=>?_
 simp -implicitDefEqProofs only[go_sem,OpD.cells,iD,uD,hk,beq_self_eq_true];refine cI (ym _ (o.xl,o.xh)) ?_;simp -implicitDefEqProofs only[go_sem];refine cI hm ?_;simp -implicitDefEqProofs only[go_sem];refine cI hr ?_;simp -implicitDefEqProofs only[go_sem];refine cI (WB _ _) ?_;simp -implicitDefEqProofs only[go_sem,beq_self_eq_true,finK]
theorem zhZ {E:Nat->Option Value}{ops:List OpD}(hl:ops.length<=maxLen){lo hi:Int}(hp:∀o∈ops,lo<=o.kind->o.kind<=hi->DQz E 12 [opD o] (.data (bD true))) :
  DQz E 11 [scD ops,intD lo,intD hi] (.data (intD (-1))):=by
 refine dcA Tryz.func11 Tryz.ntmps11 (rs:=[.tmp 6]) fun _ _ _ _ _=>?_
 have hmax:=mxE;simp -implicitDefEqProofs only[go_sem];rw[wu];refine wm (α:={i:Nat // i<=ops.length}) (fun i=>St.of [(0,.d (scD ops)),(1,.d (intD lo)),(2,.d (intD hi)),(7,.d (intD i.1))] []) (fun i=>ops.length-i.1)
  ⟨0,Nat.zero_le _⟩ (we ?_ ?_ rfl) (by kernel_rfl) (fun i=>?_)
 ·simp -implicitDefEqProofs only[go_sem]
 ·simp -implicitDefEqProofs only[go_sem]
 ·obtain⟨i,hi0⟩:=i;by_cases hA:i<ops.length
  ·obtain⟨o,ho⟩:∃o,ops[i]?=some o:=⟨ops[i],by simp[hA]⟩;have hm:=List.mem_of_getElem? ho;have eA:decide ((i:Int)<(ops.length:Int))=true:=tD (by omega);by_cases hB:i<1152921504606846976
   ·have eB:decide ((i:Int)<1152921504606846976)=true:=tD (by omega);have w1:=wL (c:=i) (by omega);have hin:i*9<ops.length*9:=by omega
    have hin2:i*9+9<=ops.length*9:=by omega
    have fin:∃x':{i:Nat // i<=ops.length},x'.1=i+1:=⟨⟨i+1,hA⟩,rfl⟩;by_cases hk1:lo<=o.kind
    ·have eC:decide (o.kind>=lo)=true:=tD hk1;by_cases hk2:o.kind<=hi
     ·have eD:decide (o.kind<=hi)=true:=tD hk2;have hpl:=hp o hm hk1 hk2;simp -implicitDefEqProofs only[go_sem,eA,eB,yv,div9,hin,hin2,KG ho,OpD.cells,iD,uD,eC,eD];refine cI hpl ?_;simp -implicitDefEqProofs only[go_sem,w1];obtain⟨x',hx'⟩:=fin;refine⟨x',we ?_ ?_ rfl,by simp only[hx'];omega⟩<;>simp -implicitDefEqProofs only[go_sem,hx']
     ·have eD:decide (o.kind<=hi)=false:=fD hk2;simp -implicitDefEqProofs only[go_sem,eA,eB,yv,div9,hin,hin2,KG ho,OpD.cells,iD,uD,eC,eD,w1];obtain⟨x',hx'⟩:=fin;refine⟨x',we ?_ ?_ rfl,by simp only[hx'];omega⟩<;>simp -implicitDefEqProofs only[go_sem,hx']
    ·have eC:decide (o.kind>=lo)=false:=fD hk1;simp -implicitDefEqProofs only[go_sem,eA,eB,yv,div9,hin,hin2,KG ho,OpD.cells,iD,uD,eC,w1];obtain⟨x',hx'⟩:=fin;refine⟨x',we ?_ ?_ rfl,by simp only[hx'];omega⟩<;>simp -implicitDefEqProofs only[go_sem,hx']
   ·have eB:decide ((i:Int)<1152921504606846976)=false:=fD (by omega);simp -implicitDefEqProofs only[go_sem,eA,eB,yv,div9,finK]
  ·have eA:decide ((i:Int)<(ops.length:Int))=false:=fD (by omega);simp -implicitDefEqProofs only[go_sem,eA,yv,div9,finK]
end Go.Enc
end
section
namespace Go.Enc
open Go.Proofs Go.RowKit Go.ChangeShapes Go.Deep
section
variable {H:Type} {enc:TypeId×Value->H} {P:Program} {w:World} {held:Bool} {sp:Nat->Bool}
theorem W6 {α:Type}(f:α->List D)(ok:α->DataW H->Prop){t e:TypeId}(n:Nat)(hn:0<n)(hlen:∀x,(f x).length=n)(ht:P.underlying t=some (.slice e))(hc:P.cellsOf e=n)
  (hel:∀(fuel:Nat) (cs:List Value) x,DataW.trod enc P w 0 sp held fuel e cs=some x->∃y:α,ok y x.1/\RepU (fun b o=>w.cell? ⟨b,o,none⟩) (f y) cs)
  {fuel:Nat} {cs:List Value} {x:DataW H×List MemPlace} (h:DataW.trod enc P w 0 sp held fuel t cs=some x) :
  ∃(v:Value) (l:List α),cs=[v]/\v.oneCell'=true/\Rep (fun b o=>w.cell? ⟨b,o,none⟩) (.sl n (l.flatMap f)) v/\l.length<=maxLen /\
   ((l=[]/\x.1 = .nil)\/∃es s,x.1 = .slice es s/\es.length=l.length/\∀(i:Nat) y,l[i]?=some y->∃d,es[i]?=some d/\ok y d):=by
 rcases open_slice ht h with⟨hcs,hx⟩|⟨a,len,cap,m,k,D',Pl,hcs,hb,hle,hcm,hm,hx,hi⟩
 ·exact⟨_,[],hcs,rfl,by simp[Rep],by simp,.inl ⟨rfl,by rw[hx]⟩⟩
 ·have hlm:len<=m:=by rw[hm];split<;>omega
  by_cases h0:len=0
  ·subst h0;refine⟨_,[],hcs,rfl,by simp only[Rep];exact .inr (.inr ⟨a,cap,rfl,by simp,hcm⟩),by simp,.inr ⟨_,_,by rw[hx],by simp,fun i y hy=>by simp at hy⟩⟩
  have hspot:a.spot=none:=by
   obtain⟨cs',h1,_⟩:=hi 0 (by omega);rw[hc] at h1;obtain⟨_,_,h3⟩:=World.cells?_some h1;have:=h3 0 (by omega);simp only[Nat.zero_mul,Addr.add,if_true] at this;cases hs:a.spot with
   |none=>rfl
   |some q=>
    exfalso;have hcl:cs'.length=n:=(World.cells?_some h1).2.1;have:∃z,w.cell? a=some z:=by
     cases hz:cs'[0]? with
     |none=>rw[List.getElem?_eq_none_iff] at hz;omega
     |some z=>exact⟨z,by rw[this,hz]⟩
    obtain⟨z,hz⟩:=this;simp only[World.cell?] at hz;split at hz
    ·rw[hs] at hz;simp at hz
    ·cases hz
  obtain⟨bl,off,spt⟩:=a;simp only at hspot;subst hspot;obtain⟨l,hl,hR⟩:=Km (R:=fun i (y:α)=>ok y (D' i)/\RepC (fun b o=>w.cell? ⟨b,o,none⟩) (f y) bl (off+i*n)) len fun i hil=>by
   obtain⟨cs',h1,h2⟩:=hi i (by omega);obtain⟨y,hy,hr⟩:=hel _ _ _ h2;refine⟨y,hy,RepC.of_values hr fun j u hj=>?_⟩;rw[hc] at h1;obtain⟨_,h4,h3⟩:=World.cells?_some h1;have hjn:j<n:=by
    rcases Nat.lt_or_ge j n with h|h
    ·exact h
    ·rw[List.getElem?_eq_none (by omega)] at hj;cases hj
   have:=h3 j hjn;rw[hj] at this;rw[<-this];congr 1;by_cases hz:i*n=0
   ·by_cases hj0:j=0
    ·simp[Addr.add,hz,hj0]
    ·simp[Addr.add,hz,hj0]
   ·by_cases hj0:j=0
    ·simp[Addr.add,hz,hj0]
    ·simp[Addr.add,hz,hj0]
  refine⟨_,l,hcs,rfl,?_,by omega,.inr ⟨_,_,by rw[hx],by simp[hl],fun i y hy=>?_⟩⟩
  ·simp only[Rep];refine .inr (.inl ⟨bl,off,len,cap,rfl,?_,hle,hcm,XF f n hlen l _ _ fun i y hy=>(hR i y hy).2⟩);rw[<-hl];clear hR hl
   induction l with
   |nil=>simp
   |cons y l ih=>simp only[List.flatMap_cons,List.length_append,hlen,ih,List.length_cons,Nat.add_mul];omega
  ·have hil:i<len:=by
    rw[<-hl];rcases Nat.lt_or_ge i l.length with h|h
    ·exact h
    ·rw[List.getElem?_eq_none h] at hy;cases hy
   exact⟨D' i,by simp[hil],(hR i y hy).1⟩
theorem xm:∀ {ts:List TypeId} {ds:List (DataW H)} {i:Nat} {t:TypeId} {d:DataW H} {n:Nat},ts[i]?=some t->ds[i]?=some d->n∈d.weights P t->n∈DataW.weightsEach P ts ds
 |[],_,_,_,_,_,h,_,_=>by simp at h
 |_ :: _,[],_,_,_,_,_,h,_=>by simp at h
 |t' :: ts,d' :: ds,0,t,d,n,h1,h2,h3=>by
  simp only[List.getElem?_cons_zero,Option.some.injEq] at h1 h2;subst h1 h2;unfold DataW.weightsEach;exact List.mem_append_left _ h3
 |t' :: ts,d' :: ds,i+1,t,d,n,h1,h2,h3=>by
  simp only[List.getElem?_cons_succ] at h1 h2;unfold DataW.weightsEach;exact List.mem_append_right _ (xm h1 h2 h3)
theorem zU {e:TypeId}:∀ {ds:List (DataW H)} {i:Nat} {d:DataW H} {n:Nat},ds[i]?=some d->n∈d.weights P e->n∈DataW.weightsAll P e ds
 |[],_,_,_,h,_=>by simp at h
 |d' :: ds,0,d,n,h2,h3=>by
  simp only[List.getElem?_cons_zero,Option.some.injEq] at h2;subst h2;unfold DataW.weightsAll;exact List.mem_append_left _ h3
 |d' :: ds,i+1,d,n,h2,h3=>by
  simp only[List.getElem?_cons_succ] at h2;unfold DataW.weightsAll;exact List.mem_append_right _ (zU h2 h3)
end
section
variable {H:Type} {enc:TypeId×Value->H} {w:World} {held:Bool} {sp:Nat->Bool}
theorem zgR:Tryz.prog.bytesOf 25=8:=by kernel_rfl
def RG (o:OpD)(d:DataW H):Prop:=o.p.length=0\/∃n∈d.weights Tryz.prog 30,o.p.length*8<=n
theorem R5 {fuel:Nat}{cs:List Value}{x:DataW H×List MemPlace}(h:DataW.trod enc Tryz.prog w 0 sp held fuel 30 cs=some x) :
  ∃o:OpD,(o.Wf/\RG o x.1)/\RepU (fun b o=>w.cell? ⟨b,o,none⟩) o.cells cs:=by
 obtain⟨xs,n,_,hx,hl,hlen,hf⟩:=DataW.trod_struct Tryz.underlying30 h;rw[Rv] at hl;obtain⟨c0,c1,c2,c3,c4,c5,c6,c7,c8,rfl⟩:=zkw hl;have get:∀i,i<7->∃y,xs[i]?=some y:=fun i hi=>⟨xs[i]'(by rw[hlen];exact hi),by simp[hlen,hi]⟩
 obtain⟨y0,g0⟩:=get 0 (by decide);obtain⟨y1,g1⟩:=get 1 (by decide);obtain⟨y2,g2⟩:=get 2 (by decide);obtain⟨y3,g3⟩:=get 3 (by decide);obtain⟨y4,g4⟩:=get 4 (by decide);obtain⟨y5,g5⟩:=get 5 (by decide);obtain⟨y6,g6⟩:=get 6 (by decide);have f0:=(hf 0 _ rfl).trans g0;have f1:=(hf 1 _ rfl).trans g1;have f2:=(hf 2 _ rfl).trans g2;have f3:=(hf 3 _ rfl).trans g3;have f4:=(hf 4 _ rfl).trans g4;have f5:=(hf 5 _ rfl).trans g5;have f6:=(hf 6 _ rfl).trans g6;simp only[List.getElem_toArray,List.getElem_cons_zero,List.getElem_cons_succ] at f0 f1 f2 f3 f4 f5 f6;rw[zjF] at f0 f1 f2;rw[zjE] at f3;rw[Rw] at f4 f5;rw[zgM] at f6;obtain⟨k,hk,e0⟩:=Qq Tryz.underlying3 f0;obtain⟨a,ha,e1⟩:=Qq Tryz.underlying3 f1;obtain⟨b,hb,e2⟩:=Qq Tryz.underlying3 f2;obtain⟨s,e3,_,hs⟩:=DataW.trod_string Tryz.underlying9 f3;obtain⟨xl,xh,hxl,hxh,e4⟩:=Z6 f4;obtain⟨yl,yh,hyl,hyh,e5⟩:=Z6 f5;obtain⟨v,p,e6,ho,hr,hpl,hd⟩:=W6 (fun n=>[uD n]) (fun n _=>U64 n) 1 (by decide) (fun _=>rfl) Tryz.underlying28 Ry (fun fuel cs x h=>by
  obtain⟨n,hn,rfl⟩:=Qo Tryz.underlying25 h;refine⟨n,hn,?_⟩;simp only[RepU];exact⟨_,_,rfl,rfl,by simp only[uD,Rep],rfl⟩) f6
 have hp:∀n∈p,U64 n:=fun n hn=>by
  obtain⟨i,hi⟩:=List.getElem?_of_mem hn;rcases hd with⟨h0,_⟩|⟨es,s',_,_,h2⟩
  ·rw[h0] at hi;simp at hi
  ·obtain⟨_,_,h3⟩:=h2 i n hi;exact h3
 rw[zaU] at hr;simp at e0 e1 e2 e3 e4 e5 e6;obtain⟨e4,e4'⟩:=e4;obtain⟨e5,e5'⟩:=e5;refine⟨⟨k,a,b,s,xl,xh,yl,yh,p⟩,⟨⟨hk,ha,hb,hs,hxl,hxh,hyl,hyh,hp,hpl⟩,?_⟩,?_⟩
 ·rcases hd with⟨h0,_⟩|⟨es,s',h1,h2,_⟩
  ·left;rw[h0];rfl
  ·right;refine⟨(es.length+s'.length)*8,?_,?_⟩
   ·rw[hx];have hw:(es.length+s'.length)*8∈y6.1.weights Tryz.prog 28:=by
     rw[h1];unfold DataW.weights;rw[Tryz.underlying28]
     show _∈(es.length+s'.length)*Tryz.prog.bytesOf 25 :: _
     rw[zgR];exact List.mem_cons_self
    show _∈(DataW.agg (xs.map (·.1))).weights Tryz.prog 30
    unfold DataW.weights;rw[Tryz.underlying30];exact xm (i:=6) rfl (by rw[List.getElem?_map,g6];rfl) hw
   ·show p.length*8<=_
    rw[<-h2];exact Nat.mul_le_mul_right _ (Nat.le_add_right _ _)
 ·rw[e0,e1,e2,e3,e4,e4',e5,e5',e6];simp only[OpD.cells,RepU];refine⟨_,_,rfl,rfl,by simp only[iD,Rep],_,_,rfl,rfl,by simp only[iD,Rep],_,_,rfl,rfl,by simp only[iD,Rep],_,_,rfl,rfl,by simp only[Rep],_,_,rfl,rfl,by simp only[uD,Rep],_,_,rfl,rfl,by simp only[uD,Rep],_,_,rfl,rfl,by simp only[uD,Rep],
   _,_,rfl,rfl,by simp only[uD,Rep],_,_,rfl,ho,hr,rfl⟩
theorem Xj {v:Value}{d:DataW H}{ps:List MemPlace}(hv:∃a l c,v = .slice a l c)(h:DataW.Trod enc Tryz.prog w 0 sp held 22 v d ps)(hw:∀n∈d.weights Tryz.prog 22,n<=reachBytes) :
  ∃ops:List OpD,(∀o∈ops,o.Wf/\o.p.length*8<=reachBytes)/\ops.length<=maxLen/\Rep (fun b o=>w.cell? ⟨b,o,none⟩) (.sl 9 (ops.flatMap OpD.cells)) v:=by
 obtain⟨fuel,h⟩:=h;obtain⟨u,l,e,ho,hr,hl,hd⟩:=W6 OpD.cells (fun o d=>o.Wf/\RG o d) 9 (by decide) (fun _=>rfl) Tryz.underlying22 Rv (fun fuel cs x h=>R5 h) h;refine⟨l,fun o hm=>?_,hl,?_⟩
 ·obtain⟨i,hi⟩:=List.getElem?_of_mem hm;rcases hd with⟨h0,_⟩|⟨es,s',h1,h2,h3⟩
  ·rw[h0] at hi;simp at hi
  ·obtain⟨d',h4,h5,h6⟩:=h3 i o hi;refine⟨h5,?_⟩;rcases h6 with h6|⟨n,h6,h7⟩
   ·rw[h6];exact Nat.zero_le _
   ·refine Nat.le_trans h7 (hw n ?_);simp only at h1;rw[h1];unfold DataW.weights;rw[Tryz.underlying22];exact List.mem_cons_of_mem _ (List.mem_append_left _ (zU h4 h6))
 ·obtain⟨x,y,z,rfl⟩:=hv;have hv:Value.slice x y z=u:=by simpa [Value.cells] using e
  rw[hv];exact hr
end
end Go.Enc
end
