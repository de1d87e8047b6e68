/-
  A row is taken out of the rows below it.
-/
import Derived.Test.YtjlibljfpkmpfaaGreatDoorSa34
import Derived.Scope
set_option maxRecDepth 100000
set_option linter.unusedSimpArgs false
set_option linter.unusedVariables false
namespace Go.Enc
open Go.Proofs Go.Enc.Fl Go.RowKit
def ors {α:Type}(a b:Option α):Option α:=match b with
 |some x=>some x
 |none=>a
@[go_sem] theorem vN (a b:Option (ByteArray×D)):doE (errQ a) (errQ b)=errQ (ors a b):=by
 cases b with
 |none=>rfl
 |some p=>rfl
@[go_sem] theorem qk (a:Option (ByteArray×D)):xZ (errQ a)=true:=by
 cases a with
 |none=>rfl
 |some p=>rfl
theorem Qt {α:Type}{a b:Option α}:ors a b=none↔a=none/\b=none:=by
 cases b<;>simp[ors]
theorem zo:Gd (0,0):=⟨by decide,by decide,by decide,by decide,by decide,rfl,rfl⟩
section
variable {E:Nat->Option Value} {M V S:Nat×Nat->Nat×Nat->AnsQ} (O:Ops3 E M V S)
include O
theorem Ops3.gm {a b:Nat×Nat}(g:Gd a)(g':Gd b):Gd (M a b).1:=by
 have h:=(O.m a b g g').2;by_cases e:(M a b).2=none
 ·exact(h.good e).gd
 ·rw[h.bad e];exact zo
theorem Ops3.gs {a b:Nat×Nat}(g:Gd a)(g':Gd b):Gd (S a b).1:=by
 have h:=(O.s a b g g').2;by_cases e:(S a b).2=none
 ·exact(h.good e).gd
 ·rw[h.bad e];exact zo
theorem Ops3.gv {a b:Nat×Nat}(g:Gd a)(g':Gd b):Gd (V a b).1:=by
 obtain⟨_,h1,h2⟩:=O.v a b g g';cases hb:has0 b with
 |true=>rw[(h1 hb).2];exact zo
 |false=>
  have h:=h2 hb;by_cases e:(V a b).2=none
  ·exact(h.good e).gd
  ·rw[h.bad e];exact zo
end
def isZ (X:Nat×Nat):Bool:=decide (idx X.1=0)&&decide (idx X.2=0)
theorem zco {X:Nat×Nat}(g:Gd X):isZ X=true↔X=(0,0):=by
 unfold isZ;simp only[Bool.and_eq_true,decide_eq_true_eq];constructor
 ·rintro⟨h1,h2⟩;have e1:=xf.1 h1;have e2:=xf.1 h2;have b1:=g.l1;have b2:=g.l2;have p1:=g.q1;have p2:=g.q2;unfold posB at p1 p2;obtain⟨x,y⟩:=X;simp only at *;have hx:x=0:=by
   split at p1<;>omega
  have hy:y=0:=by
   split at p2<;>omega
  rw[hx,hy]
 ·rintro rfl;decide
section
variable (M V S:Nat×Nat->Nat×Nat->AnsQ)
def colS (B:Nat->Nat->Nat×Nat)(k i:Nat)(F:AnsQ):Nat->(Nat->Nat×Nat)×Option (ByteArray×D)
 |0=>(B i,F.2)
 |m+1=>if 0<m/\(colS B k i F m).2≠none then colS B k i F m else
  (upd (colS B k i F m).1 (k+1+m) (S ((colS B k i F m).1 (k+1+m)) (M F.1 (B k (k+1+m))).1).1,
   ors (ors (colS B k i F m).2 (M F.1 (B k (k+1+m))).2) (S ((colS B k i F m).1 (k+1+m)) (M F.1 (B k (k+1+m))).1).2)
def rowS (A:Nat->Nat->Nat×Nat)(n k:Nat):Nat->(Nat->Nat->Nat×Nat)×Option (ByteArray×D)
 |0=>(A,none)
 |m+1=>if (rowS A n k m).2≠none then rowS A n k m else if isZ ((rowS A n k m).1 (k+1+m) k)=true then rowS A n k m else
  if (colS M S (rowS A n k m).1 k (k+1+m) (V ((rowS A n k m).1 (k+1+m) k) ((rowS A n k m).1 k k)) (n-k)).2≠none then
   (upd (rowS A n k m).1 (k+1+m) (colS M S (rowS A n k m).1 k (k+1+m) (V ((rowS A n k m).1 (k+1+m) k) ((rowS A n k m).1 k k)) (n-k)).1,
    (colS M S (rowS A n k m).1 k (k+1+m) (V ((rowS A n k m).1 (k+1+m) k) ((rowS A n k m).1 k k)) (n-k)).2)
  else (upd (rowS A n k m).1 (k+1+m) (upd (colS M S (rowS A n k m).1 k (k+1+m) (V ((rowS A n k m).1 (k+1+m) k) ((rowS A n k m).1 k k)) (n-k)).1 k (0,0)),none)
end
section
variable {E:Nat->Option Value} {M V S:Nat×Nat->Nat×Nat->AnsQ} {B:Nat->Nat->Nat×Nat} {n k i:Nat} {F:AnsQ}
theorem KJ (O:Ops3 E M V S)(hB:∀i j,i<n->j<=n->Gd (B i j))(hF:Gd F.1)(hi:i<n)(hk:k<n):∀m,m<=n-k->∀j,j<=n->Gd ((colS M S B k i F m).1 j)
 |0,_,j,hj=>hB i j hi hj
 |m+1,hm,j,hj=>by
  have ih:=KJ O hB hF hi hk m (by omega);simp only[colS];split
  ·exact ih j hj
  ·simp only[upd];split
   ·exact O.gs (ih _ (by omega)) (O.gm hF (hB k _ hk (by omega)))
   ·exact ih j hj
theorem Kx (O:Ops3 E M V S){A:Nat->Nat->Nat×Nat}(hA:∀i j,i<n->j<=n->Gd (A i j))(hk:k<n):∀m,m<=n-1-k->∀i j,i<n->j<=n->Gd ((rowS M V S A n k m).1 i j)
 |0,_,i,j,hi,hj=>hA i j hi hj
 |m+1,hm,i,j,hi,hj=>by
  have ih:=Kx O hA hk m (by omega);have hF:Gd (V ((rowS M V S A n k m).1 (k+1+m) k) ((rowS M V S A n k m).1 k k)).1:=O.gv (ih _ _ (by omega) (by omega)) (ih _ _ hk (by omega));have hc:=KJ (i:=k+1+m) O ih hF (by omega) hk (n-k) (Nat.le_refl _);simp only[rowS];split
  ·exact ih i j hi hj
  ·split
   ·exact ih i j hi hj
   ·split
    ·by_cases e:i=k+1+m
     ·subst e;simp only[wq];exact hc j hj
     ·simp only[wD _ _ e];exact ih i j hi hj
    ·by_cases e:i=k+1+m
     ·subst e;simp only[wq];simp only[upd];split
      ·exact zo
      ·exact hc j hj
     ·simp only[wD _ _ e];exact ih i j hi hj
end
open Classical in
noncomputable def HM (H:Nat->Option Obj)(ks kR:Nat)(κ:Nat->Nat)(n:Nat)(B:Nat->Nat->Nat×Nat)(e:D):Nat->Option Obj:=fun k'=>
 if k'=ks then some ⟨none,[.gs kR,.hid e]⟩ else if h:∃i,i<n/\κ i=k' then some (rowO (B (Classical.choose h)) (n+1)) else H k'
section
variable {H:Nat->Option Obj} {ks kR n:Nat} {κ:Nat->Nat} {A B:Nat->Nat->Nat×Nat} {e e':D}
theorem HM_s:HM H ks kR κ n B e ks=some ⟨none,[.gs kR,.hid e]⟩:=by unfold HM;rw[if_pos rfl]
theorem zG (S:Sys H ks kR κ n A e'){i:Nat}(hi:i<n):HM H ks kR κ n B e (κ i)=some (rowO (B i) (n+1)):=by
 have h:∃j,j<n/\κ j=κ i:=⟨i,hi,rfl⟩;unfold HM;rw[if_neg (S.ne2 hi).symm,dif_pos h];have:=Classical.choose_spec h;rw[S.inj _ _ this.1 hi this.2]
theorem Vm {k':Nat}(h1:k'≠ks)(h2:∀i,i<n->κ i≠k'):HM H ks kR κ n B e k'=H k':=by
 unfold HM;rw[if_neg h1,dif_neg (fun ⟨i,hi,e⟩=>h2 i hi e)]
theorem ZB (S:Sys H ks kR κ n A e'):Sys (HM H ks kR κ n B e) ks kR κ n B e:=
 ⟨HM_s,by rw[Vm S.ne1.symm (fun i hi=>(S.ne3 hi).symm)];exact S.r,fun i hi=>zG S hi,S.inj⟩
theorem RI (S:Sys H ks kR κ n A e):HM H ks kR κ n A e=H:=by
 funext k'
 by_cases h1:k'=ks
 ·subst h1;rw[HM_s,S.s]
 ·by_cases h2:∃i,i<n/\κ i=k'
  ·obtain⟨i,hi,rfl⟩:=h2;rw[zG S hi,S.row i hi]
  ·exact Vm h1 (fun i hi e=>h2 ⟨i,hi,e⟩)
theorem zH (S:Sys H ks kR κ n A e'){k':Nat}:HM H ks kR κ n B e k'≠none↔H k'≠none:=by
 by_cases h1:k'=ks
 ·subst h1;rw[HM_s,S.s];simp
 ·by_cases h2:∃i,i<n/\κ i=k'
  ·obtain⟨i,hi,rfl⟩:=h2;rw[zG S hi,S.row i hi];simp
  ·rw[Vm h1 (fun i hi e=>h2 ⟨i,hi,e⟩)]
theorem vn (S:Sys H ks kR κ n A e')(hD:∀k o,H k=some o->∀c∈o.cells,∀k',c.ref=some k'->H k'≠none):∀k o,HM H ks kR κ n B e k=some o->∀c∈o.cells,∀k',c.ref=some k'->HM H ks kR κ n B e k'≠none:=by
 intro k o ho c hc k' hk';refine(zH S).2 ?_;by_cases h1:k=ks
 ·subst h1;rw[HM_s] at ho;cases ho;simp only[List.mem_cons,List.not_mem_nil,or_false] at hc;rcases hc with rfl|rfl
  ·simp only[T.ref,Option.some.injEq] at hk';subst hk';rw[S.r];simp
  ·simp[T.ref] at hk'
 ·by_cases h2:∃i,i<n/\κ i=k
  ·obtain⟨i,hi,rfl⟩:=h2;rw[zG S hi] at ho;cases ho;rw[ve hc] at hk';cases hk'
  ·rw[Vm h1 (fun i hi e=>h2 ⟨i,hi,e⟩)] at ho;exact hD k o ho c hc k' hk'
theorem zjO:upd (HM H ks kR κ n B e) ks (some ⟨none,[.gs kR,.hid e']⟩)=HM H ks kR κ n B e':=by
 funext k'
 by_cases h1:k'=ks
 ·subst h1;rw[wq,HM_s]
 ·rw[wD _ _ h1];unfold HM;rw[if_neg h1,if_neg h1]
end
theorem RJ {H:Nat->Option Obj}{ks kR n:Nat}{κ:Nat->Nat}{A B:Nat->Nat->Nat×Nat}{e e' e'':D}(S:Sys H ks kR κ n A e''){i k':Nat}(f g:Nat->Nat×Nat)(h1:k'≠κ i)(h2:k'≠ks):HM H ks kR κ n (upd B i f) e k'=HM H ks kR κ n (upd B i g) e' k':=by
 by_cases h:∃j,j<n/\κ j=k'
 ·obtain⟨j,hj,rfl⟩:=h;have:j≠i:=fun q=>h1 (by rw[q])
  rw[zG S hj,zG S hj,wD _ _ this,wD _ _ this]
 ·rw[Vm h2 (fun i hi e=>h ⟨i,hi,e⟩),Vm h2 (fun i hi e=>h ⟨i,hi,e⟩)]
theorem zX {H:Nat->Option Obj}{k:Nat}{o:Obj}(hD:∀k o,H k=some o->∀c∈o.cells,∀k',c.ref=some k'->H k'≠none)(ho:∀c∈o.cells,c.ref=none) :
  ∀k1 o1,upd H k (some o) k1=some o1->∀c∈o1.cells,∀k',c.ref=some k'->upd H k (some o) k'≠none:=by
 intro k1 o1 h c hc k' hk';have hl:∀j,H j≠none->upd H k (some o) j≠none:=fun j hj=>by
  simp only[upd];split
  ·simp
  ·exact hj
 simp only[upd] at h;split at h
 ·cases h;rw[ho c hc] at hk';cases hk'
 ·exact hl k' (hD k1 o1 h c hc k' hk')
theorem zbH {α:Type}(f:Nat->α)(i:Nat):upd f i (f i)=f:=by
 funext j
 simp only[upd];split
 ·rename_i e;rw[e]
 ·rfl
theorem zab {C:Ctx}{c:Code}{Q:Exit->St->Prop}{s:St}(hq:∀l s,¬Q (.goto l) s)(h:DWp C c Q s):DWp C (.scope c) Q s:=fun σ G a w S=>by
 refine wp_scope_straight (wp_mono (h σ G a w S) fun e a' w' h'=>?_);cases e with
 |goto l=>obtain⟨_,_,s',h1,_⟩:=h';exact(hq l s' h1).elim
 |_=>exact h'
noncomputable def clH (M V S:Nat×Nat->Nat×Nat->AnsQ)(H:Nat->Option Obj)(ks kR:Nat)(κ:Nat->Nat)(n:Nat)(A:Nat->Nat->Nat×Nat)(k:Nat):Nat->Option Obj:=
 HM H ks kR κ n (rowS M V S A n k (n-1-k)).1 (errQ (rowS M V S A n k (n-1-k)).2)
section
variable {E:Nat->Option Value} {M V S:Nat×Nat->Nat×Nat->AnsQ} {H:Nat->Option Obj} {ks kR n k:Nat} {κ:Nat->Nat} {A:Nat->Nat->Nat×Nat}
theorem XC {m:Nat}(h:(rowS M V S A n k m).2≠none):∀i,rowS M V S A n k (m+i)=rowS M V S A n k m
 |0=>rfl
 |i+1=>by
  have ih:=XC h i
  show(if (rowS M V S A n k (m+i)).2≠none then _ else _)=_
  rw[ih,if_pos h];exact ih
theorem Va {B:Nat->Nat->Nat×Nat}{i:Nat}{F:AnsQ}{m:Nat}(hm:0<m)(h:(colS M S B k i F m).2≠none):∀j,colS M S B k i F (m+j)=colS M S B k i F m
 |0=>rfl
 |j+1=>by
  have ih:=Va hm h j
  show(if 0<m+j/\(colS M S B k i F (m+j)).2≠none then _ else _)=_
  rw[ih,if_pos ⟨by omega,h⟩];exact ih
theorem zgL (O:Ops3 E M V S)(Y:Sys H ks kR κ n A (errQ none))(hn4:n<=4)(hk:k<n)(hG:∀i j,i<n->j<=n->Gd (A i j))(hDp:∀k o,H k=some o->∀c∈o.cells,∀k',c.ref=some k'->H k'≠none){C:Ctx}(hP:C.P=Tryz.prog)(hE:C.E=E){t:Nat->T}{dst:Option Nat} :
  xq C 136 [.ptr ks 0,.d (intD k)] dst ⟨t,H⟩ ((⟨t,clH M V S H ks kR κ n A k⟩:St).put dst (.d (.tup []))):=by
 obtain⟨P,E',σ0,w0,base,nt,kb,df,G0⟩:=C;simp only at hP hE;subst hP;subst hE;have hts:∀c∈[T.ptr ks 0,.d (intD k)],∀k',c.ref=some k'->H k'≠none:=fun c hc k' hk'=>by
  simp only[List.mem_cons,List.not_mem_nil,or_false] at hc;rcases hc with rfl|rfl
  ·simp only[T.ref,Option.some.injEq] at hk';subst hk';rw[Y.s];simp
  ·simp[T.ref] at hk'
 refine W8 (C:=⟨Tryz.prog,E',σ0,w0,base,nt,kb,df,G0⟩) (s:=⟨t,H⟩) (H:=clH M V S H ks kR κ n A k) Tryz.func136 rfl (by kernel_rfl) Tryz.ntmps136 (by simp) (rs:=[]) rfl hts (fun k' h=>(zH Y).2 h) (fun hD=>vn Y hD) fun kb' hK C' h1 h2 h3 h4=>?_
 obtain⟨P1,E1,σ1,w1,base1,n1,kb1,df1,G1⟩:=C';simp only at h1 h2 h3 h4;subst h1;subst h2;subst h3;subst h4;have hlt:∀k',H k'≠none->k'<kb1:=hK;have hS:=Y.s;have hR:=Y.r;have ns:∀d,(ks=kb1+d)=False:=fun d=>by have:=hlt ks (by rw[hS];simp);simp;omega
 have nR:∀d,(kR=kb1+d)=False:=fun d=>by have:=hlt kR (by rw[hR];simp);simp;omega
 have nr:∀i d,i<n->(κ i=kb1+d)=False:=fun i d hi=>by have:=hlt (κ i) (by rw[Y.row i hi];simp);simp;omega
 have n0:∀d,H (kb1+d)=none:=fun d=>Decidable.byContradiction fun h=>by have:=hlt _ h;omega
 have gl:=zm κ n;have z1:∀x:Nat,(0:Int)<=(x:Int):=fun x=>by omega
 show DWp _ (.scope _) _ _
 refine zab (fun l s h=>h) ?_;refine kM (by kernel_rfl) ?_;have w1':IntKind.i64.wrap ((k:Int)+1)=((k+1:Nat):Int):=wL (by omega);simp -implicitDefEqProofs only[go_sem,hS,hR,gl,z1,w1'];rw[wu]
 let R:=fun m=>rowS M V S A n k m
 have hR0:R 0=(A,none):=rfl;have gR:∀m,m<=n-1-k->∀i j,i<n->j<=n->Gd ((R m).1 i j):=fun m hm=>Kx O hG hk m hm
 have fo:∀ {B:Nat->Nat->Nat×Nat} {e:D} {k':Nat} {o:Obj},HM H ks kR κ n B e k'=some o->k'<kb1:=fun {B e k' o} h=>hlt k' ((zH Y).1 (by rw[h];simp))
 refine wm (α:={m:Nat // m<=n-1-k/\(R m).2=none}) (fun m=>St.fn [(0,.ptr ks 0),(1,.d (intD k)),(4,.d (intD n)),(5,.d (intD ((k+1+m.1:Nat):Int)))] (HM H ks kR κ n (R m.1).1 (errQ none))) (fun m=>n-1-k-m.1) ⟨0,by omega,rfl⟩ (j4 ?_ ?_ ?_ (vn Y hDp)) (by kernel_rfl) (fun m=>?_)
 ·simp -implicitDefEqProofs only[go_sem]
 ·intro k' o ho;have:HM H ks kR κ n (R 0).1 (errQ none)=H:=RI Y;rw[this] at ho;simp -implicitDefEqProofs only[go_sem,ho]
 ·intro p hp k' hk';simp only[List.mem_cons,List.not_mem_nil,or_false] at hp;rcases hp with rfl|rfl|rfl|rfl<;>simp only[T.ref,Option.some.injEq,reduceCtorEq] at hk'
  subst hk';rw[HM_s];simp
 obtain⟨m,hm,he⟩:=m;simp only;obtain⟨B,hB⟩:∃B,(R m).1=B:=⟨_,rfl⟩;rw[hB];have gB:∀i j,i<n->j<=n->Gd (B i j):=by rw[<-hB];exact gR m hm
 by_cases hA:k+1+m<n
 ·have eA:decide (((k+1+m:Nat):Int)<(n:Int))=true:=tD (by omega);have Z:=ZB (B:=B) (e:=errQ none) Y;have hS:=Z.s;have hR':=Z.r;have hi:=Z.row _ hA;have hk0:=Z.row _ hk;have g1:=vg κ hA;have g2:=vg κ hk;have il:∀i,(ivT (B i) (n+1)).length=(n+1)*2:=fun i=>jv _ _
  have q1:k*2<(n+1)*2:=by omega
  have q2:k*2+2<=(n+1)*2:=by omega
  have tk:∀i,((ivT (B i) (n+1)).drop (k*2)).take 2=[.d (flD (B i k).1),.d (flD (B i k).2)]:=fun i=>ko _ (by omega)
  have gik:=gB (k+1+m) k hA (by omega);have gkk:=gB k k hk (by omega);have c1:(FloatKind.f64.format.order (B (k+1+m) k).1 0==some Ordering.eq)=decide (idx (B (k+1+m) k).1=0):=KI (x3 gik).fin.num;have c2:(FloatKind.f64.format.order (B (k+1+m) k).2 0==some Ordering.eq)=decide (idx (B (k+1+m) k).2=0):=KI (vv gik).fin.num;have cz:=tV (show((FloatKind.f64.format.order (B (k+1+m) k).1 0==some Ordering.eq)&&(FloatKind.f64.format.order (B (k+1+m) k).2 0==some Ordering.eq))=isZ (B (k+1+m) k) by rw[c1,c2];rfl);have w1:IntKind.i64.wrap (((k+1+m:Nat):Int)+1)=((k+1+m+1:Nat):Int):=wL (by omega);have e3:k+1+(m+1)=k+1+m+1:=by omega
  cases hz:isZ (B (k+1+m) k)
  ·rw[hz] at cz;simp -implicitDefEqProofs only[go_sem,eA,hS,hR',hi,hk0,g1,g2,gl,il,q1,q2,tk,z1,hA,hk,cz];refine drw ?_;simp -implicitDefEqProofs only[go_sem,hS,hR',hi,hk0,g1,g2,gl,il,q1,q2,tk,z1,hA,hk];refine cI (O.v _ _ gik gkk).1 ?_;obtain⟨F,hF⟩:∃F,V (B (k+1+m) k) (B k k)=F:=⟨_,rfl⟩;have gF:Gd F.1:=by rw[<-hF];exact O.gv gik gkk
   rw[hF];obtain⟨i,hi0⟩:∃i,k+1+m=i:=⟨_,rfl⟩;rw[hi0] at hi g1 hz cz c1 c2 gik hA e3 w1 eA hF ⊢;have hDo:=zhA E1;have i0:HM H ks kR κ n B (errQ none) (kb1+6)=none:=Decidable.byContradiction fun h=>n0 6 |> fun h0=>(zH Y).1 h h0
   have s6:=ns 6;have s6':(kb1+6=ks)=False:=by have:=ns 6;simp at this ⊢;omega
   have wk1:=wL (c:=k) (by omega);have on:ors none F.2=F.2:=by cases F.2<;>rfl
   simp -implicitDefEqProofs only[go_sem,hS,hDo,i0,s6,s6',wk1,qk,vN,on];rw[wu];have hki:k≠i:=by omega
   have gC:=KJ (i:=i) O gB gF hA hk;have hn0:∀ {B':Nat->Nat->Nat×Nat} {e':D} (d:Nat),HM H ks kR κ n B' e' (kb1+d)=none:=fun d=>Decidable.byContradiction fun h=>(zH Y).1 h (n0 d)
   refine wm (α:={j:Nat // j<=n-k/\(j=0\/(colS M S B k i F j).2=none)}) (fun j=>St.fn [(0,.ptr ks 0),(1,.d (intD k)),(4,.d (intD n)),(5,.d (intD (i:Nat))),(6,.ptr (kb1+6) 0),(7,.d (intD ((k+1+j.1:Nat):Int)))]
     (upd (HM H ks kR κ n (upd B i (colS M S B k i F j.1).1) (errQ (colS M S B k i F j.1).2)) (kb1+6) (some ⟨none,[.d (flD F.1.1),.d (flD F.1.2)]⟩))) (fun j=>n-k-j.1) ⟨0,by omega,.inl rfl⟩ (j4 ?_ ?_ ?_ (zX (vn Y hDp) (by simp[T.ref]))) (by kernel_rfl) (fun j=>?_)
   ·simp -implicitDefEqProofs only[go_sem]
   ·intro k' o ho;have e0:(colS M S B k i F 0).1=B i:=rfl;have e1:(colS M S B k i F 0).2=F.2:=rfl;simp only[e0,e1,zbH] at ho;by_cases q0:k'=kb1+6
    ·subst q0;rw[wq] at ho;simp -implicitDefEqProofs only[go_sem,s6'];exact ho
    ·rw[wD _ _ q0] at ho;have q0':(k'=kb1+6)=False:=by simp[q0]
     by_cases q1:k'=ks
     ·subst q1;rw[HM_s] at ho;simp -implicitDefEqProofs only[go_sem,q0',on];exact ho
     ·have q1':(k'=ks)=False:=by simp[q1]
      have:HM H ks kR κ n B (errQ none) k'=some o:=by
       rw[<-ho,<-zjO (e:=errQ none) (e':=errQ F.2),wD _ _ q1]
      simp -implicitDefEqProofs only[go_sem,q0',q1',this]
   ·intro p hp k' hk';simp only[List.mem_cons,List.not_mem_nil,or_false] at hp;rcases hp with rfl|rfl|rfl|rfl|rfl|rfl<;>simp only[T.ref,Option.some.injEq,reduceCtorEq] at hk'
    ·subst hk';rw[wD _ _ (fun q=>by have:=ns 6;simp at this;omega),HM_s];simp
    ·subst hk';rw[wq];simp
   obtain⟨j,hj,hje⟩:=j;simp only;obtain⟨c,hc⟩:∃c,colS M S B k i F j=c:=⟨_,rfl⟩;rw[hc];have gc:∀j,j<=n->Gd (c.1 j):=by rw[<-hc];exact gC j hj
   obtain⟨Hj,hHj⟩:∃Hj,upd (HM H ks kR κ n (upd B i c.1) (errQ c.2)) (kb1+6) (some ⟨none,[.d (flD F.1.1),.d (flD F.1.2)]⟩)=Hj:=⟨_,rfl⟩;rw[hHj];have Z':=ZB (B:=upd B i c.1) (e:=errQ c.2) Y;have a1:Hj ks=some ⟨none,[.gs kR,.hid (errQ c.2)]⟩:=by rw[<-hHj,wD _ _ (fun q=>by have:=ns 6;simp at this;omega)];exact Z'.s
   have a2:Hj kR=some (zL κ n):=by rw[<-hHj,wD _ _ (fun q=>by have:=nR 6;simp at this;omega)];exact Z'.r
   have a3:Hj (κ i)=some (rowO c.1 (n+1)):=by
    rw[<-hHj,wD _ _ (fun q=>by have:=nr i 6 hA;simp at this;omega),Z'.row i hA,wq]
   have a4:Hj (κ k)=some (rowO (B k) (n+1)):=by
    rw[<-hHj,wD _ _ (fun q=>by have:=nr k 6 hk;simp at this;omega),Z'.row k hk,wD _ _ hki]
   have a5:Hj (kb1+6)=some ⟨none,[.d (flD F.1.1),.d (flD F.1.2)]⟩:=by rw[<-hHj,wq]
   have a6:Hj (kb1+8)=none:=by rw[<-hHj,wD _ _ (by omega)];exact hn0 8
   have b1:(kR=ks)=False:=by simp[Y.ne1.symm]
   have b2:(κ i=ks)=False:=by simp[(Y.ne2 hA).symm]
   have b3:(κ k=ks)=False:=by simp[(Y.ne2 hk).symm]
   have b4:(kb1+6=ks)=False:=s6';have b5:(kb1+8=ks)=False:=by have:=ns 8;simp at this ⊢;omega
   have b6:(ks=kb1+8)=False:=ns 8;have b7:(kR=kb1+8)=False:=nR 8;have b8:(κ i=kb1+8)=False:=nr i 8 hA;have b9:(κ k=kb1+8)=False:=nr k 8 hk;have b10:(kb1+6=kb1+8)=False:=by simp
   have b11:(ks=κ i)=False:=by simp[Y.ne2 hA]
   have b12:(kb1+6=κ i)=False:=by have:=nr i 6 hA;simp at this ⊢;omega
   have b13:(kb1+8=κ i)=False:=by have:=nr i 8 hA;simp at this ⊢;omega
   have b14:(kR=κ i)=False:=by simp[Y.ne3 hA]
   have l1:(ivT c.1 (n+1)).length=(n+1)*2:=jv _ _;have l2:(ivT (B k) (n+1)).length=(n+1)*2:=jv _ _;by_cases hB2:j<n-k
   ·have eB:decide (((k+1+j:Nat):Int)<=(n:Int))=true:=tD (by omega);obtain⟨x,hx⟩:∃x,k+1+j=x:=⟨_,rfl⟩;rw[hx] at eB ⊢;have q3:x*2<(n+1)*2:=by omega
    have q4:x*2+2<=(n+1)*2:=by omega
    have t1:((ivT (B k) (n+1)).drop (x*2)).take 2=[.d (flD (B k x).1),.d (flD (B k x).2)]:=ko _ (by omega);have t2:((ivT c.1 (n+1)).drop (x*2)).take 2=[.d (flD (c.1 x).1),.d (flD (c.1 x).2)]:=ko _ (by omega);have gkx:=gB k x hk (by omega);have gx:=gc x (by omega);simp -implicitDefEqProofs only[go_sem,eB];refine drw ?_;simp -implicitDefEqProofs only[go_sem,a1,a2,a3,a4,a5,a6,g1,g2,gl,z1,hA,hk,l1,l2,q3,q4,t1,t2];refine cI (O.m _ _ gF gkx).1 ?_;obtain⟨mm,hmm⟩:∃mm,M F.1 (B k x)=mm:=⟨_,rfl⟩;have gm:Gd mm.1:=by rw[<-hmm];exact O.gm gF gkx
    rw[hmm];simp -implicitDefEqProofs only[go_sem,a1,a6,hDo,qk,vN,b5,b6];refine drw ?_;simp -implicitDefEqProofs only[go_sem,a1,a2,a3,a4,a5,a6,g1,g2,gl,z1,hA,hk,l1,l2,q3,q4,t1,t2,b1,b2,b3,b4,b5,b6,b7,b8,b9,b10];refine cI (O.s _ _ gx gm).1 ?_;obtain⟨ss,hss⟩:∃ss,S (c.1 x) mm.1=ss:=⟨_,rfl⟩;rw[hss];have hst:=Je c.1 ss.1 (n+1) x (by omega);have hcs:colS M S B k i F (j+1)=(upd c.1 x ss.1,ors (ors c.2 mm.2) ss.2):=by
     show(if 0<j/\(colS M S B k i F j).2≠none then _ else _)=_
     rw[hc,if_neg (fun ⟨h1,h2⟩=>by
      rcases hje with h|h
      ·omega
      ·rw[hc] at h;exact h2 h)]
     simp only[hx,hmm,hss]
    obtain⟨e2,he2⟩:∃e2,ors (ors c.2 mm.2) ss.2=e2:=⟨_,rfl⟩;rw[he2] at hcs;simp -implicitDefEqProofs only[go_sem,a1,a2,a3,a4,a5,a6,g1,g2,gl,z1,hA,hk,l1,l2,q3,q4,hst,hDo,qk,vN,he2,b1,b2,b3,b4,b5,b6,b7,b8,b9,b10,b11,b12,b13,b14];have hgo:∀k' o,upd (HM H ks kR κ n (upd B i (upd c.1 x ss.1)) (errQ e2)) (kb1+6) (some ⟨none,[.d (flD F.1.1),.d (flD F.1.2)]⟩) k'=some o ->
      (k'=κ i/\o=rowO (upd c.1 x ss.1) (n+1))\/(k'=ks/\o=⟨none,[.gs kR,.hid (errQ e2)]⟩)\/((k'=κ i)=False/\(k'=ks)=False/\(k'=kb1+8)=False/\Hj k'=some o):=fun k' o ho=>by
     by_cases q0:k'=kb1+6
     ·subst q0;rw[wq] at ho;refine .inr (.inr ⟨b12,b4,b10,?_⟩);rw[<-hHj,wq];exact ho
     ·rw[wD _ _ q0] at ho;have hlt':=fo ho;by_cases q1:k'=κ i
      ·subst q1;rw[zG Y hA,wq] at ho;cases ho;exact .inl ⟨rfl,rfl⟩
      ·by_cases q2:k'=ks
       ·subst q2;rw[HM_s] at ho;cases ho;exact .inr (.inl ⟨rfl,rfl⟩)
       ·refine .inr (.inr ⟨by simp[q1],by simp[q2],by simp;omega,?_⟩);rw[<-hHj,wD _ _ q0,<-ho];exact RJ Y _ _ q1 q2
    have hx1:=wL (c:=x) (by omega);cases e2 with
    |none=>
     have hn:(errQ (none:Option (ByteArray×D))) = .v .nilIface:=rfl;obtain⟨j',hj'⟩:∃j':{j:Nat // j<=n-k/\(j=0\/(colS M S B k i F j).2=none)},j'.1=j+1:=⟨⟨j+1,by omega,.inr (by rw[hcs])⟩,rfl⟩;simp -implicitDefEqProofs only[go_sem,hn,hx1];refine⟨j',j4 ?_ ?_ ?_ (zX (vn Y hDp) (by simp[T.ref])),by omega⟩
     ·have:k+1+j'.1=x+1:=by omega
      simp -implicitDefEqProofs only[go_sem,this]
     ·intro k' o ho;rw[hj',hcs] at ho;rcases hgo k' o ho with⟨r1,rfl⟩|⟨r1,rfl⟩|⟨r1,r2,r3,r4⟩
      ·rw[r1];simp -implicitDefEqProofs only[go_sem,hst]
      ·rw[r1];simp -implicitDefEqProofs only[go_sem,b11,hn,he2]
      ·simp -implicitDefEqProofs only[go_sem,r1,r2,r3,r4]
     ·intro p hp k' hk';simp only[List.mem_cons,List.not_mem_nil,or_false] at hp;rcases hp with rfl|rfl|rfl|rfl|rfl|rfl<;>simp only[T.ref,Option.some.injEq,reduceCtorEq] at hk'
      ·subst hk';rw[wD _ _ (fun q=>by have:=ns 6;simp at this;omega),HM_s];simp
      ·subst hk';rw[wq];simp
    |some p=>
     have hn:(errQ (some p))=opE p.1 p.2:=rfl;have hfin:clH M V S H ks kR κ n A k=HM H ks kR κ n (upd B i (upd c.1 x ss.1)) (errQ (some p)):=by
      have h1:colS M S B k i F (n-k)=(upd c.1 x ss.1,some p):=by
       have:=Va (M:=M) (S:=S) (B:=B) (k:=k) (i:=i) (F:=F) (m:=j+1) (by omega) (by rw[hcs];simp) (n-k-(j+1));rw[show j+1+(n-k-(j+1))=n-k by omega,hcs] at this;exact this
      have h2:R (m+1)=(upd B i (upd c.1 x ss.1),some p):=by
       show(if (R m).2≠none then R m else if isZ ((R m).1 (k+1+m) k)=true then R m else _)=_
       rw[if_neg (by rw[he];simp),hB,hi0,if_neg (by rw[hz];simp),hF,h1,if_pos (by simp)]
      have h3:=XC (M:=M) (V:=V) (S:=S) (A:=A) (n:=n) (k:=k) (m:=m+1) (by show(R (m+1)).2≠none;rw[h2];simp) (n-1-k-(m+1));unfold clH;rw[show m+1+(n-1-k-(m+1))=n-1-k by omega] at h3;rw[h3]
      show HM H ks kR κ n (R (m+1)).1 (errQ (R (m+1)).2)=_
      rw[h2]
     rw[hfin];simp -implicitDefEqProofs only[go_sem,hn];refine⟨rfl,fun k' o ho=>?_⟩;have ho':upd (HM H ks kR κ n (upd B i (upd c.1 x ss.1)) (errQ (some p))) (kb1+6) (some ⟨none,[.d (flD F.1.1),.d (flD F.1.2)]⟩) k'=some o:=by
      rw[wD _ _ (fun q=>by have:=fo ho;omega)];exact ho
     rcases hgo k' o ho' with⟨r1,rfl⟩|⟨r1,rfl⟩|⟨r1,r2,r3,r4⟩
     ·rw[r1];simp -implicitDefEqProofs only[go_sem,hst]
     ·rw[r1];simp -implicitDefEqProofs only[go_sem,b11,hn,he2]
     ·simp -implicitDefEqProofs only[go_sem,r1,r2,r3,r4]
   ·have eB:decide (((k+1+j:Nat):Int)<=(n:Int))=false:=fD (by omega);have hjn:j=n-k:=by omega
    have hcn:c.2=none:=by
     rcases hje with h|h
     ·omega
     ·rw[<-hc];exact h
    have q5:k*2+2<=(n+1)*2:=by omega
    have hst:=Je c.1 (0,0) (n+1) k (by omega);have h2:R (m+1)=(upd B i (upd c.1 k (0,0)),none):=by
     show(if (R m).2≠none then R m else if isZ ((R m).1 (k+1+m) k)=true then R m else _)=_
     rw[if_neg (by rw[he];simp),hB,hi0,if_neg (by rw[hz];simp),hF,<-hjn,hc,if_neg (by rw[hcn];simp)]
    obtain⟨m',hm'⟩:∃m':{m:Nat // m<=n-1-k/\(R m).2=none},m'.1=m+1:=⟨⟨m+1,by omega,by rw[h2]⟩,rfl⟩;simp -implicitDefEqProofs only[go_sem,eB,a1,a2,a3,g1,gl,z1,hA,hk,l1,q1,q5,hst,w1];refine⟨m',j4 ?_ ?_ ?_ (vn Y hDp),by omega⟩
    ·have:k+1+m'.1=i+1:=by omega
     simp -implicitDefEqProofs only[go_sem,this]
    ·intro k' o ho;rw[hm',h2] at ho;have ho:HM H ks kR κ n (upd B i (upd c.1 k (0,0))) (errQ none) k'=some o:=ho;have hlt':=fo ho;by_cases q1:k'=κ i
     ·rw[q1,zG Y hA,wq] at ho;rw[q1];simp -implicitDefEqProofs only[go_sem];exact ho
     ·have q1':(k'=κ i)=False:=by simp[q1]
      have:Hj k'=some o:=by
       rw[<-hHj,wD _ _ (show k'≠kb1+6 by omega),<-ho];by_cases q2:k'=ks
       ·rw[q2,HM_s,HM_s,hcn]
       ·exact RJ Y _ _ q1 q2
      simp -implicitDefEqProofs only[go_sem,q1',this]
    ·intro p hp k' hk';simp only[List.mem_cons,List.not_mem_nil,or_false] at hp;rcases hp with rfl|rfl|rfl|rfl<;>simp only[T.ref,Option.some.injEq,reduceCtorEq] at hk'
     subst hk';rw[HM_s];simp
  ·rw[hz] at cz;have hst:R (m+1)=(B,none):=by
    show(if (R m).2≠none then R m else if isZ ((R m).1 (k+1+m) k)=true then R m else _)=_
    rw[if_neg (by rw[he];simp),hB,if_pos hz,<-hB,<-he]
   obtain⟨m',hm'⟩:∃m':{m:Nat // m<=n-1-k/\(R m).2=none},m'.1=m+1:=⟨⟨m+1,by omega,by rw[hst]⟩,rfl⟩;simp -implicitDefEqProofs only[go_sem,eA,hS,hR',hi,g1,gl,il,q1,q2,tk,z1,hA,cz,w1];refine⟨m',j4 ?_ ?_ ?_ (vn Y hDp),by omega⟩
   ·simp -implicitDefEqProofs only[go_sem,hm',e3]
   ·intro k' o ho;rw[hm',hst] at ho;simp -implicitDefEqProofs only[go_sem];exact ho
   ·intro p hp k' hk';simp only[List.mem_cons,List.not_mem_nil,or_false] at hp;rcases hp with rfl|rfl|rfl|rfl<;>simp only[T.ref,Option.some.injEq,reduceCtorEq] at hk'
    subst hk';rw[HM_s];simp
 ·have eA:decide (((k+1+m:Nat):Int)<(n:Int))=false:=fD (by omega);have hmn:m=n-1-k:=by omega
  have hfin:clH M V S H ks kR κ n A k=HM H ks kR κ n B (errQ none):=by
   unfold clH;rw[<-hmn]
   show HM H ks kR κ n (R m).1 (errQ (R m).2)=_
   rw[hB,he]
  rw[hfin];simp -implicitDefEqProofs only[go_sem,eA];exact⟨rfl,fun k' o ho=>by simp -implicitDefEqProofs only[go_sem,ho]⟩
end
end Go.Enc
