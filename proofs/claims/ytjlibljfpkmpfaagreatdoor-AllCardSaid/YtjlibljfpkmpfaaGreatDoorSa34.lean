/-
  A system of rows that are written, as blocks; the row that is surely the greatest is laid at its place.
-/
import Derived.Test.YtjlibljfpkmpfaaGreatDoorSa33
set_option maxRecDepth 100000
set_option linter.unusedSimpArgs false
set_option linter.unusedVariables false
namespace Go.Enc
open Go.Proofs Go.Enc.Fl Go.RowKit
def ivT (f:Nat->Nat×Nat):Nat->List T
 |0=>[]
 |m+1=>ivT f m++[.d (flD (f m).1),.d (flD (f m).2)]
theorem jv (f:Nat->Nat×Nat):∀m,(ivT f m).length=m*2
 |0=>rfl
 |m+1=>by simp only[ivT,List.length_append,jv f m,List.length_cons,List.length_nil];omega
theorem V5 (f:Nat->Nat×Nat):∀m j,j<m->(ivT f m)[j*2]?=some (.d (flD (f j).1))/\(ivT f m)[j*2+1]?=some (.d (flD (f j).2))
 |m+1,j,h=>by
  simp only[ivT];rcases Nat.lt_or_ge j m with h1|h1
  ·rw[List.getElem?_append_left (by rw[jv];omega),List.getElem?_append_left (by rw[jv];omega)];exact V5 f m j h1
  ·have e:j=m:=by omega
   subst e;rw[List.getElem?_append_right (by rw[jv];omega),List.getElem?_append_right (by rw[jv];omega),jv];simp
theorem ZJ {α:Type}{l:List α}{i:Nat}{x y:α}(h1:l[i]?=some x)(h2:l[i+1]?=some y):(l.drop i).take 2=[x,y]:=by
 have hl:i+1<l.length:=by
  rcases Nat.lt_or_ge (i+1) l.length with h|h
  ·exact h
  ·rw[List.getElem?_eq_none h] at h2;cases h2
 rw[List.drop_eq_getElem_cons (by omega),List.drop_eq_getElem_cons hl];rw[List.getElem?_eq_getElem (by omega)] at h1;rw[List.getElem?_eq_getElem hl] at h2;cases h1;cases h2;rfl
theorem ko (f:Nat->Nat×Nat){m j:Nat}(h:j<m):((ivT f m).drop (j*2)).take 2=[.d (flD (f j).1),.d (flD (f j).2)]:=ZJ (V5 f m j h).1 (V5 f m j h).2
theorem JM {f g:Nat->Nat×Nat}:∀ {m:Nat},(∀j,j<m->f j=g j)->ivT f m=ivT g m
 |0,_=>rfl
 |m+1,h=>by simp only[ivT];rw[JM (fun j hj=>h j (by omega)),h m (by omega)]
theorem Je (f:Nat->Nat×Nat)(x:Nat×Nat):∀m j,j<m->((ivT f m).set (j*2) (.d (flD x.1))).set (j*2+1) (.d (flD x.2))=ivT (upd f j x) m
 |m+1,j,h=>by
  simp only[ivT];rcases Nat.lt_or_ge j m with h1|h1
  ·rw[List.set_append_left _ _ (by rw[jv];omega),List.set_append_left _ _ (by rw[List.length_set,jv];omega),Je f x m j h1,wD f x (show m≠j by omega)]
  ·have e:j=m:=by omega
   subst e;rw[List.set_append_right _ _ (by rw[jv];omega),List.set_append_right _ _ (by rw[jv];omega),jv,wq];have e1:j*2-j*2=0:=by omega
   have e2:j*2+1-j*2=1:=by omega
   rw[e1,e2,JM (g:=upd f j x) (fun i hi=>(wD f x (show i≠j by omega)).symm)];rfl
theorem ve {f:Nat->Nat×Nat}:∀ {m:Nat} {c:T},c∈ivT f m->c.ref=none
 |m+1,c,h=>by
  simp only[ivT,List.mem_append,List.mem_cons,List.not_mem_nil,or_false] at h;rcases h with h|rfl|rfl
  ·exact ve h
  ·rfl
  ·rfl
def gsT (κ:Nat->Nat)(n:Nat):List T:=(List.range n).map fun i=>.gs (κ i)
theorem zm (κ:Nat->Nat)(n:Nat):(gsT κ n).length=n:=by simp[gsT]
theorem vg (κ:Nat->Nat){n i:Nat}(h:i<n):(gsT κ n)[i]?=some (.gs (κ i)):=by
 simp[gsT,List.getElem?_map,List.getElem?_range,h]
theorem Jh {κ:Nat->Nat}{n:Nat}{c:T}(h:c∈gsT κ n):∃i,i<n/\c = .gs (κ i):=by
 simp only[gsT,List.mem_map,List.mem_range] at h;obtain⟨i,hi,rfl⟩:=h;exact⟨i,hi,rfl⟩
def swp {α:Type}(f:Nat->α)(i j:Nat):Nat->α:=fun x=>if x=j then f i else if x=i then f j else f x
theorem zfr (κ:Nat->Nat){n i j:Nat}(hi:i<n)(hj:j<n):((gsT κ n).set i (.gs (κ j))).set j (.gs (κ i))=gsT (swp κ i j) n:=by
 apply List.ext_getElem?;intro x;rcases Nat.lt_or_ge x n with h|h
 ·rw[vg _ h,List.getElem?_set,List.getElem?_set];simp only[List.length_set,zm,swp];by_cases h1:x=j
  ·subst h1;simp[hj]
  ·rw[if_neg (fun e=>h1 e.symm),if_neg h1];by_cases h2:x=i
   ·subst h2;simp[hi]
   ·rw[if_neg (fun e=>h2 e.symm),if_neg h2];exact vg κ h
 ·rw[List.getElem?_eq_none (by rw[List.length_set,List.length_set,zm];exact h),List.getElem?_eq_none (by rw[zm];exact h)]
abbrev rowO (f:Nat->Nat×Nat)(m:Nat):Obj:=⟨some (59,2,true),ivT f m⟩
abbrev zL (κ:Nat->Nat)(n:Nat):Obj:=⟨some (154,1,true),gsT κ n⟩
structure Sys (H:Nat->Option Obj)(ks kR:Nat)(κ:Nat->Nat)(n:Nat)(A:Nat->Nat->Nat×Nat)(e:D):Prop where
 s:H ks=some ⟨none,[.gs kR,.hid e]⟩
 r:H kR=some (zL κ n)
 row:∀i,i<n->H (κ i)=some (rowO (A i) (n+1))
 inj:∀i j,i<n->j<n->κ i=κ j->i=j
section
variable {H:Nat->Option Obj} {ks kR n:Nat} {κ:Nat->Nat} {A:Nat->Nat->Nat×Nat} {e:D}
theorem Sys.ne1 (S:Sys H ks kR κ n A e):ks≠kR:=fun h=>by have:=S.s;rw[h,S.r] at this;cases this
theorem Sys.ne2 (S:Sys H ks kR κ n A e){i:Nat}(hi:i<n):ks≠κ i:=fun h=>by have:=S.s;rw[h,S.row i hi] at this;cases this
theorem Sys.ne3 (S:Sys H ks kR κ n A e){i:Nat}(hi:i<n):kR≠κ i:=fun h=>by have:=S.r;rw[h,S.row i hi] at this;cases this
theorem Sys.swap (S:Sys H ks kR κ n A e){i j:Nat}(hi:i<n)(hj:j<n):Sys (upd H kR (some (zL (swp κ i j) n))) ks kR (swp κ i j) n (swp A i j) e:=by
 have hl:∀x,x<n->∃y,y<n/\swp κ i j x=κ y/\swp A i j x=A y/\y=(if x=j then i else if x=i then j else x):=fun x hx=>by
  unfold swp;by_cases h1:x=j
  ·exact⟨i,hi,by simp[h1],by simp[h1],by simp[h1]⟩
  ·by_cases h2:x=i
   ·exact⟨j,hj,by simp only[if_neg h1,if_pos h2],by simp only[if_neg h1,if_pos h2],by simp only[if_neg h1,if_pos h2]⟩
   ·exact⟨x,hx,by simp only[if_neg h1,if_neg h2],by simp only[if_neg h1,if_neg h2],by simp only[if_neg h1,if_neg h2]⟩
 refine⟨by rw[wD _ _ S.ne1];exact S.s,wq _ _ _,fun x hx=>?_,fun x y hx hy h=>?_⟩
 ·obtain⟨y,hy,e1,e2,_⟩:=hl x hx;rw[e1,e2,wD _ _ (S.ne3 hy).symm];exact S.row y hy
 ·obtain⟨x',hx',e1,_,g1⟩:=hl x hx;obtain⟨y',hy',e2,_,g2⟩:=hl y hy;rw[e1,e2] at h;have:=S.inj x' y' hx' hy' h;rw[g1,g2] at this;split at this<;>split at this<;>(try split at this)<;>(try split at this)<;>omega
end
def jA (f:Nat->Nat×Nat)(k:Nat):Nat->Nat
 |0=>0
 |m+1=>(qx true ((qx true (jA f k m) (fneg (f (k+m)).1)).getD 0) (f (k+m)).2).getD 0
theorem ze {f:Nat->Nat×Nat}{k m:Nat}(h:∀j,j<m->Gd (f (k+j))):∀j,j<=m->Fl.Fin (jA f k j)/\jA f k j<18446744073709551616
 |0,_=>⟨show Fl.Fin 0 by decide,by simp[jA]⟩
 |j+1,hj=>by
  have g:=h j (by omega);have o1:=VT (x3 g);have o2:=vv g;have ih:=ze h j (by omega);obtain⟨z,e1,h1,_⟩:=jh true ih.1.num o1.fin.num;have nz:Fl.Fin z/\z<18446744073709551616:=by
   rcases h1 with h1|h1<;>rw[h1]
   ·exact ih
   ·exact⟨o1.fin,o1.1⟩
  obtain⟨y,e2,h2,_⟩:=jh true nz.1.num o2.fin.num;simp only[jA,e1,Option.getD_some,e2];rcases h2 with h2|h2<;>rw[h2]
  ·exact nz
  ·exact⟨o2.fin,o2.1⟩
theorem WH {f:Nat->Nat×Nat}{k m:Nat}(h:∀j,j<m->Gd (f (k+j))){j:Nat}(hj:j<m) :
  ∃z,qx true (jA f k j) (fneg (f (k+j)).1)=some z/\qx true z (f (k+j)).2=some (jA f k (j+1))/\idx (jA f k (j+1))=max (max (idx (jA f k j)) (-idx (f (k+j)).1)) (idx (f (k+j)).2):=by
 have g:=h j hj;have n1:Num (fneg (f (k+j)).1):=(VT (x3 g)).fin.num;have n2:=(vv g).fin.num;have ih:=(ze h j (by omega)).1.num;obtain⟨z,e1,h1,i1⟩:=jh true ih n1;have nz:Num z:=by
  rcases h1 with h1|h1<;>rw[h1]
  ·exact ih
  ·exact n1
 obtain⟨y,e2,h2,i2⟩:=jh true nz n2;simp only[if_true] at i1 i2;have ey:jA f k (j+1)=y:=by simp only[jA,e1,Option.getD_some,e2]
 refine⟨z,e1,by rw[ey];exact e2,?_⟩;rw[ey,i2,i1,(jt (x3 g).1).1]
theorem QA {f:Nat->Nat×Nat}{k m:Nat}(h:∀j,j<m->Gd (f (k+j))):∀j,j<=m->0<=idx (jA f k j)/\∀i,i<j->-idx (f (k+i)).1<=idx (jA f k j)/\idx (f (k+i)).2<=idx (jA f k j)
 |0,_=>⟨by show 0<=idx 0;decide,fun i hi=>by omega⟩
 |j+1,hj=>by
  obtain⟨_,_,_,e⟩:=WH h (j:=j) (by omega);obtain⟨h1,h2⟩:=QA h j (by omega);refine⟨by omega,fun i hi=>?_⟩;rcases Nat.lt_or_ge i j with g|g
  ·have:=h2 i g;omega
  ·have e2:i=j:=by omega
   subst e2;omega
theorem yk {a:Nat×Nat}(g:Gd a):Fl.Fin (kL a)/\(has0 a=true->kL a=0)/\(has0 a=false->idx (kL a)=min (a.1 % 2^63:Nat) (a.2 % 2^63:Nat)):=by
 have f1:=(x3 g).fin;have f2:=(vv g).fin;have n1:=xw.2 f1.num;have n2:=xw.2 f2.num;obtain⟨z,e,h,hi⟩:=jh false n1 n2;unfold kL;rw[e,Option.getD_some];refine⟨?_,fun h=>by rw[if_pos h],fun h=>?_⟩
 ·split
  ·show Fl.Fin 0;decide
  ·rcases h with h|h<;>rw[h]
   ·unfold Fl.Fin at *;rw[Nat.mod_mod];exact f1
   ·unfold Fl.Fin at *;rw[Nat.mod_mod];exact f2
 ·rw[if_neg (by simp[h]),hi,xC,xC];simp only[Bool.false_eq_true,if_false];omega
def valO (A:Nat->Nat->Nat×Nat)(n k i:Nat):Option Nat:=FloatKind.f64.format.div (kL (A i k)) (jA (A i) k (n-k))
def abv (v:Option Nat)(b:Nat):Bool:=match v with
 |some v=>FloatKind.f64.format.order v b==some Ordering.gt
 |none=>false
def pvS (A:Nat->Nat->Nat×Nat)(n k:Nat):Nat->Nat×Int
 |0=>(0,-1)
 |m+1=>if abv (valO A n k (k+m)) (pvS A n k m).1=true then ((valO A n k (k+m)).getD 0,((k+m:Nat):Int)) else pvS A n k m
theorem JF (A:Nat->Nat->Nat×Nat)(n k:Nat):∀m,(pvS A n k m).2 = -1\/∃i,k<=i/\i<k+m/\(pvS A n k m).2=(i:Int)
 |0=>.inl rfl
 |m+1=>by
  simp only[pvS];split
  ·exact .inr ⟨k+m,by omega,by omega,rfl⟩
  ·rcases JF A n k m with h|⟨i,h1,h2,h3⟩
   ·exact .inl h
   ·exact .inr ⟨i,h1,by omega,h3⟩
theorem zaK {r b:Nat}(h:¬(r % 9223372036854775808<=9218868437227405312)):(FloatKind.f64.format.order r b==some Ordering.gt)=false:=by
 have hr:Ieee.double.read r=Ieee.double.read r:=rfl;obtain⟨t,ht⟩:=Qp (b:=r) (by unfold inf;omega);have:Ieee.double.order r b=none:=by
  unfold Ieee.Format.order;rw[ht];cases Ieee.double.read b<;>rfl
 show(Ieee.double.order r b==some Ordering.gt)=false
 rw[this];rfl
def pvH (H:Nat->Option Obj)(kR:Nat)(κ:Nat->Nat)(n k:Nat)(at_:Int):Nat->Option Obj:=
 if at_<0 then H else upd H kR (some (zL (swp κ k at_.toNat) n))
section
variable {E:Nat->Option Value} {H:Nat->Option Obj} {ks kR n k:Nat} {κ:Nat->Nat} {A:Nat->Nat->Nat×Nat} {e:D}
theorem zfI (S:Sys H ks kR κ n A e)(hn4:n<=4)(hk:k<n)(hG:∀i j,i<n->j<=n->Gd (A i j))(hDp:∀k o,H k=some o->∀c∈o.cells,∀k',c.ref=some k'->H k'≠none){C:Ctx}(hP:C.P=Tryz.prog)(hE:C.E=E){t:Nat->T}{dst:Option Nat} :
  xq C 135 [.ptr ks 0,.d (intD k)] dst ⟨t,H⟩ ((⟨t,pvH H kR κ n k (pvS A n k (n-k)).2⟩:St).put dst (.d (bD (decide (0<=(pvS A n k (n-k)).2))))):=by
 obtain⟨P,E',σ0,w0,base,nt,kb,df,G0⟩:=C;simp only at hP hE;subst hP;subst hE;have hat:=JF A n k (n-k);have hts:∀c∈[T.ptr ks 0,.d (intD k)],∀k',c.ref=some k'->H k'≠none:=fun c hc k' hk'=>by
  simp only[List.mem_cons,List.not_mem_nil,or_false] at hc;rcases hc with rfl|rfl
  ·simp only[T.ref,Option.some.injEq] at hk';subst hk';rw[S.s];simp
  ·simp[T.ref] at hk'
 have hHl:∀k',H k'≠none->pvH H kR κ n k (pvS A n k (n-k)).2 k'≠none:=fun k' h=>by
  unfold pvH;split
  ·exact h
  ·simp only[upd];split
   ·simp
   ·exact h
 refine W8 (C:=⟨Tryz.prog,E',σ0,w0,base,nt,kb,df,G0⟩) (s:=⟨t,H⟩) (H:=pvH H kR κ n k (pvS A n k (n-k)).2) Tryz.func135 rfl (by kernel_rfl) Tryz.ntmps135 (by simp) (rs:=[.tmp 4]) rfl hts hHl (fun hD k' o ho c hc k2 hk2=>?_) fun kb' hK C' h1 h2 h3 h4=>?_
 ·refine hHl k2 ?_;unfold pvH at ho;split at ho
  ·exact hD k' o ho c hc k2 hk2
  ·rename_i hneg;simp only[upd] at ho;split at ho
   ·cases ho;obtain⟨i,hi,rfl⟩:=Jh hc;simp only[T.ref,Option.some.injEq] at hk2;subst hk2;rcases hat with h|⟨a,h1,h2,h3⟩
    ·omega
    ·rw[h3] at hneg ⊢;have hrow:=(S.swap (i:=k) (j:=a) hk (by omega)).row i hi;rw[Int.toNat_natCast];intro h0;rw[wD _ _ ((S.swap (i:=k) (j:=a) hk (by omega)).ne3 hi).symm,h0] at hrow;cases hrow
   ·exact hD k' o ho c hc k2 hk2
 obtain⟨P1,E1,σ1,w1,base1,n1,kb1,df1,G1⟩:=C';simp only at h1 h2 h3 h4;subst h1;subst h2;subst h3;subst h4;have hlt:∀k',H k'≠none->k'<kb1:=hK;have hS:=S.s;have hR:=S.r;have ns:∀d,(ks=kb1+d)=False:=fun d=>by have:=hlt ks (by rw[hS];simp);simp;omega
 have nR:∀d,(kR=kb1+d)=False:=fun d=>by have:=hlt kR (by rw[hR];simp);simp;omega
 have nr:∀i d,i<n->(κ i=kb1+d)=False:=fun i d hi=>by have:=hlt (κ i) (by rw[S.row i hi];simp);simp;omega
 have n0:∀d,H (kb1+d)=none:=fun d=>Decidable.byContradiction fun h=>by have:=hlt _ h;omega
 have gl:=zm κ n;have wk:∀ {s:St} {l:List (Nat×T)},zQ s l->(∀k' o,H k'=some o->s.h k'=some o)->(∀p∈l,∀k',p.2.ref=some k'->H k'≠none)->Weak s (St.fn l H):=fun h1 h2 h3=>j4 h1 h2 h3 hDp
 refine kM (by kernel_rfl) ?_;simp -implicitDefEqProofs only[go_sem];rw[wu];refine wm (α:={m:Nat // m<=n-k}) (fun m=>St.fn [(0,.ptr ks 0),(1,.d (intD k)),(5,.d (flD (pvS A n k m.1).1)),(6,.d (intD (pvS A n k m.1).2)),(7,.d (intD ((k+m.1:Nat):Int)))] H) (fun m=>n-k-m.1) ⟨0,by omega⟩ (wk ?_ ?_ ?_) (by kernel_rfl) (fun m=>?_)
 ·simp -implicitDefEqProofs only[go_sem,pvS]
 ·intro k' o ho;simp -implicitDefEqProofs only[go_sem,ho]
 ·intro p hp k' hk';simp only[List.mem_cons,List.not_mem_nil,or_false] at hp;rcases hp with rfl|rfl|rfl|rfl|rfl<;>simp only[T.ref,Option.some.injEq,reduceCtorEq] at hk'
  subst hk';rw[hS];simp
 obtain⟨m,hm⟩:=m;by_cases hA:k+m<n
 ·have eA:decide (((k+m:Nat):Int)<(n:Int))=true:=tD (by omega);have hmi:=S.row (k+m) hA;have gg:=vg κ hA;have q1:(k+m)*1<n:=by omega
  have il:(ivT (A (k+m)) (n+1)).length=(n+1)*2:=jv _ _;have q2:n*2<=(n+1)*2:=by omega
  have q3:((k:Nat):Int)<((n:Nat):Int):=by omega
  have z1:∀x:Nat,(0:Int)<=(x:Int):=fun x=>by omega
  have r1:=nr (k+m);simp -implicitDefEqProofs only[go_sem,eA,hS,hR,gl];refine drw ?_;simp -implicitDefEqProofs only[go_sem,hS,hR,gl,gg,hA,hmi,il,q2,q3,z1];rw[wu];have hg:∀j,j<n-k->Gd (A (k+m) (k+j)):=fun j hj=>hG _ _ hA (by omega)
  refine wm (α:={j:Nat // j<=n-k}) (fun j=>St.fn [(0,.ptr ks 0),(1,.d (intD k)),(5,.d (flD (pvS A n k m).1)),(6,.d (intD (pvS A n k m).2)),(7,.d (intD ((k+m:Nat):Int))),(8,.d (flD (jA (A (k+m)) k j.1))),(35,.vw (κ (k+m)) (k*2) (n-k)),(36,.d (intD ((n-k:Nat):Int))),(37,.d (intD (j.1:Int)))] H) (fun j=>n-k-j.1) ⟨0,by omega⟩ (wk ?_ ?_ ?_) (by kernel_rfl) (fun j=>?_)
  ·simp -implicitDefEqProofs only[go_sem,jA]
  ·intro k' o ho;simp -implicitDefEqProofs only[go_sem,ho]
  ·intro p hp k' hk';simp only[List.mem_cons,List.not_mem_nil,or_false] at hp;rcases hp with rfl|rfl|rfl|rfl|rfl|rfl|rfl|rfl|rfl<;>simp only[T.ref,Option.some.injEq,reduceCtorEq] at hk'
   ·subst hk';rw[hS];simp
   ·subst hk';rw[hmi];simp
  obtain⟨j,hj⟩:=j;by_cases hB:j<n-k
  ·have eB:decide ((j:Int)<((n-k:Nat):Int))=true:=tD (by omega);obtain⟨z,e1,e2,_⟩:=WH hg hB;have q4:k*2+j*2<(n+1)*2:=by omega
   have q5:k*2+j*2+2<=(n+1)*2:=by omega
   have tk:((ivT (A (k+m)) (n+1)).drop (k*2+j*2)).take 2=[.d (flD (A (k+m) (k+j)).1),.d (flD (A (k+m) (k+j)).2)]:=by
    rw[<-Nat.add_mul];exact ko _ (by omega)
   have w1:=wL (c:=j) (by omega);obtain⟨j',hj'⟩:∃j':{j:Nat // j<=n-k},j'.1=j+1:=⟨⟨j+1,hB⟩,rfl⟩;simp -implicitDefEqProofs only[go_sem,eB,hB,hmi,il,q4,q5,tk,n0,wR,e1,e2,w1,r1 10 hA,z1];refine⟨j',wk ?_ ?_ ?_,by simp only[hj'];omega⟩
   ·simp -implicitDefEqProofs only[go_sem,hj']
   ·intro k' o ho;have d0:(k'=kb1+10)=False:=by have:=hlt k' (by rw[ho];simp);simp;omega
    simp -implicitDefEqProofs only[go_sem,ho,d0]
   ·intro p hp k' hk';simp only[List.mem_cons,List.not_mem_nil,or_false] at hp;rcases hp with rfl|rfl|rfl|rfl|rfl|rfl|rfl|rfl|rfl<;>simp only[T.ref,Option.some.injEq,reduceCtorEq] at hk'
    ·subst hk';rw[hS];simp
    ·subst hk';rw[hmi];simp
  ·have eB:decide ((j:Int)<((n-k:Nat):Int))=false:=fD (by omega);have hjn:j=n-k:=by omega
   subst hjn;have q6:k*2<(n+1)*2:=by omega
   have q7:k*2+2<=(n+1)*2:=by omega
   have tk:((ivT (A (k+m)) (n+1)).drop (k*2)).take 2=[.d (flD (A (k+m) k).1),.d (flD (A (k+m) k).2)]:=ko _ (by omega);simp -implicitDefEqProofs only[go_sem,eB,hS,hR,gl,gg,hA,hmi,il,q6,q7,tk,z1];refine cI (zff _ (hG _ _ hA (by omega))) ?_;have w1:IntKind.i64.wrap (((k+m:Nat):Int)+1)=((k+m+1:Nat):Int):=wL (by omega);obtain⟨m',hm'⟩:∃m':{m:Nat // m<=n-k},m'.1=m+1:=⟨⟨m+1,by omega⟩,rfl⟩;have e3:k+(m+1)=k+m+1:=by omega
   have fin:∀ {s:St} (b:Nat) (x:Int),pvS A n k (m+1)=(b,x)->s.t 0 = .ptr ks 0->s.t 1 = .d (intD k)->s.t 5 = .d (flD b)->s.t 6 = .d (intD x)->s.t 7 = .d (intD ((k+m+1:Nat):Int))->(∀k' o,H k'=some o->s.h k'=some o) ->
     ∃x:{m:Nat // m<=n-k},Weak s (St.fn [(0,.ptr ks 0),(1,.d (intD k)),(5,.d (flD (pvS A n k x.1).1)),(6,.d (intD (pvS A n k x.1).2)),(7,.d (intD ((k+x.1:Nat):Int)))] H)/\n-k-x.1<n-k-m:=fun b x h1 h2 h3 h4 h5 h6 h7=>by
    refine⟨m',wk ?_ h7 ?_,by omega⟩
    ·simp only[zQ,hm',h1,e3,h2,h3,h4,h5,h6,Jv,and_self]
    ·intro p hp k' hk';simp only[List.mem_cons,List.not_mem_nil,or_false] at hp;rcases hp with rfl|rfl|rfl|rfl|rfl<;>simp only[T.ref,Option.some.injEq,reduceCtorEq] at hk'
     subst hk';rw[hS];simp
   cases hv:valO A n k (k+m) with
   |some v=>
    have hv':FloatKind.f64.format.div (kL (A (k+m) k)) (jA (A (k+m)) k (n-k))=some v:=hv;cases ho:(FloatKind.f64.format.order v (pvS A n k m).1==some Ordering.gt)
    ·have e5:=tV ho;have e4:pvS A n k (m+1)=((pvS A n k m).1,(pvS A n k m).2):=by
      show(if abv (valO A n k (k+m)) (pvS A n k m).1=true then _ else _)=_
      rw[hv];simp only[abv,ho,Bool.false_eq_true,if_false]
     simp -implicitDefEqProofs only[go_sem,hv',e5,w1];exact fin _ _ e4 (by simp -implicitDefEqProofs only[go_sem]) (by simp -implicitDefEqProofs only[go_sem]) (by simp -implicitDefEqProofs only[go_sem]) (by simp -implicitDefEqProofs only[go_sem]) (by simp -implicitDefEqProofs only[go_sem]) (fun k' o ho=>by simp -implicitDefEqProofs only[go_sem,ho])
    ·have e5:=tV ho;have e4:pvS A n k (m+1)=(v,((k+m:Nat):Int)):=by
      show(if abv (valO A n k (k+m)) (pvS A n k m).1=true then _ else _)=_
      rw[hv];simp only[abv,ho,if_true,Option.getD_some]
     simp -implicitDefEqProofs only[go_sem,hv',e5,w1];exact fin _ _ e4 (by simp -implicitDefEqProofs only[go_sem]) (by simp -implicitDefEqProofs only[go_sem]) (by simp -implicitDefEqProofs only[go_sem]) (by simp -implicitDefEqProofs only[go_sem]) (by simp -implicitDefEqProofs only[go_sem]) (fun k' o ho=>by simp -implicitDefEqProofs only[go_sem,ho])
   |none=>
    have hv':FloatKind.f64.format.div (kL (A (k+m) k)) (jA (A (k+m)) k (n-k))=none:=hv;have e4:pvS A n k (m+1)=((pvS A n k m).1,(pvS A n k m).2):=by
     show(if abv (valO A n k (k+m)) (pvS A n k m).1=true then _ else _)=_
     rw[hv];simp only[abv,Bool.false_eq_true,if_false]
    simp -implicitDefEqProofs only[go_sem,hv'];intro r hr;rw[wu];have e5:=tV (zaK (b:=(pvS A n k m).1) hr);simp -implicitDefEqProofs only[go_sem,e5,w1];exact fin _ _ e4 (by simp -implicitDefEqProofs only[go_sem]) (by simp -implicitDefEqProofs only[go_sem]) (by simp -implicitDefEqProofs only[go_sem]) (by simp -implicitDefEqProofs only[go_sem]) (by simp -implicitDefEqProofs only[go_sem]) (fun k' o ho=>by simp -implicitDefEqProofs only[go_sem,ho])
 ·have eA:decide (((k+m:Nat):Int)<(n:Int))=false:=fD (by omega);have hmn:m=n-k:=by omega
  subst hmn;have z1:∀x:Nat,(0:Int)<=(x:Int):=fun x=>by omega
  rcases hat with h|⟨a,h1,h2,h3⟩
  ·have e6:decide ((-1:Int)<0)=true:=by decide
   have e7:decide ((0:Int)<=-1)=false:=by decide
   have hH:pvH H kR κ n k (-1)=H:=rfl;simp -implicitDefEqProofs only[go_sem,eA,hS,hR,gl,h,e6,e7,hH];exact⟨by simp -implicitDefEqProofs only[go_sem,FinP.resL1],fun k' o ho=>by simp -implicitDefEqProofs only[go_sem,ho]⟩
  ·have e6:decide ((a:Int)<0)=false:=fD (by omega);have e7:decide ((0:Int)<=(a:Int))=true:=tD (by omega);have hH:pvH H kR κ n k (a:Int)=upd H kR (some (zL (swp κ k a) n)):=by
    unfold pvH;rw[if_neg (by omega),Int.toNat_natCast]
   have ha:a<n:=by omega
   have g1:=vg κ ha;have g2:=vg κ hk;have i1:a+1<=n:=ha;have i2:k+1<=n:=hk;have l2:((gsT κ n).set k (.gs (κ a))).length=n:=by rw[List.length_set,gl]
   have st:=zfr κ hk ha;simp -implicitDefEqProofs only[go_sem,eA,hS,hR,gl,h3,e6,e7,hH];refine drw ?_;simp -implicitDefEqProofs only[go_sem,hS,hR,gl,z1,ha,hk,g1,g2,i1,i2,l2,st,h3];rw[hH];exact⟨by simp -implicitDefEqProofs only[go_sem,FinP.resL1],fun k' o ho=>by
    by_cases hkk:k'=kR
    ·subst hkk;rw[wq] at ho;simp -implicitDefEqProofs only[go_sem];exact ho
    ·have hkk':(k'=kR)=False:=by simp[hkk]
     rw[wD _ _ hkk] at ho;simp -implicitDefEqProofs only[go_sem,hkk'];exact ho⟩
end
end Go.Enc
