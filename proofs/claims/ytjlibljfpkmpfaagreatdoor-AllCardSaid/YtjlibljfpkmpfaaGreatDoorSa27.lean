/-
  A polynomial's numbers as data; may they be one's?
-/
import Derived.Test.YtjlibljfpkmpfaaGreatDoorSa24
import Derived.Test.YtjlibljfpkmpfaaGreatDoorSa15
import Derived.Test.YtjlibljfpkmpfaaGreatDoorSa26
set_option maxRecDepth 100000
set_option linter.unusedSimpArgs false
set_option linter.unusedVariables false
section
namespace Go.Enc
open Go.Proofs Go.Enc.Dg Go.Enc.Nu Go.Enc.Fl
abbrev fsD (l:List Nat):D:=.sl 1 (l.map flD)
abbrev usD (l:List Nat):D:=.sl 1 (l.map uD)
theorem H4 {l:List Nat}{i x:Nat}(h:l[i]?=some x):(l.map flD)[i]?=some (flD x):=by rw[List.getElem?_map,h];rfl
theorem KV {l:List Nat}{i x:Nat}(h:l[i]?=some x):(l.map uD)[i]?=some (.v (.int .u64 (x:Int))):=by rw[List.getElem?_map,h];rfl
theorem div1 (n:Nat):n/1=n:=Nat.div_one n
def wI (l:List Nat):Int:=if l.length<1\/9<l.length then 8 else if ∀x∈l,wg x=true then 0 else 1
theorem qb {l:List Nat}(h:wI l=0):1<=l.length/\l.length<=9/\∀x∈l,wg x=true:=by
 unfold wI at h;split at h
 ·cases h
 ·split at h
  ·rename_i h1 h2;exact⟨by omega,by omega,h2⟩
  ·cases h
def errR (q:Nat->Addr)(n:Int):D:=if n=0 then .v .nilIface else eD q (n-1).toNat
theorem QI {E:Nat->Option Value}{q:Nat->Addr}(hq:Sent E q){l:List Nat}(hl:∀x∈l,x<18446744073709551616)(hlen:l.length<=1152921504606846976):DQz E 104 [fsD l] (.data (errR q (wI l))):=by
 refine dcA Tryz.func104 Tryz.ntmps104 (rs:=[.tmp 2]) fun _ _ _ _ _=>?_
 have hml:(l.map flD).length=l.length:=List.length_map _;have e7:E 7=some (errV (q 7)):=hq.var 7 (by decide);have e0:E 0=some (errV (q 0)):=hq.var 0 (by decide);by_cases h1:l.length<1
 ·have hr:wI l=8:=if_pos (.inl h1);have e1:decide ((l.length:Int)<1)=true:=tD (by omega);have hE:errR q 8=eD q 7:=rfl;rw[hr,hE];simp -implicitDefEqProofs only[go_sem,hml,div1,e1,e7,errV,finK]
 have e1:decide ((l.length:Int)<1)=false:=fD (by omega);by_cases h2:9<l.length
 ·have hr:wI l=8:=if_pos (.inr h2);have e2:decide ((l.length:Int)>9)=true:=tD (by omega);have hE:errR q 8=eD q 7:=rfl;rw[hr,hE];simp -implicitDefEqProofs only[go_sem,hml,div1,e1,e2,e7,errV,finK]
 have e2:decide ((l.length:Int)>9)=false:=fD (by omega);obtain⟨R,hR⟩:∃R,errR q (wI l)=R:=⟨_,rfl⟩;have hr:wI l=if ∀x∈l,wg x=true then 0 else 1:=if_neg (by omega)
 rw[hR];simp -implicitDefEqProofs only[go_sem,hml,div1,e1,e2];rw[wu];refine wm (α:={i:Nat // i<=l.length/\∀j x,j<i->l[j]?=some x->wg x=true}) (fun i=>St.of [(14,.d (fsD l)),(15,.d (intD l.length)),(16,.d (intD i.1))] []) (fun i=>l.length-i.1)
  ⟨0,Nat.zero_le _,fun j x h _=>by omega⟩ (we ?_ ?_ rfl) (by kernel_rfl) (fun i=>?_)
 ·have c0:=c0E;simp -implicitDefEqProofs only[go_sem,hml,div1,c0]
 ·simp -implicitDefEqProofs only[go_sem]
 ·obtain⟨i,hi,hp⟩:=i;by_cases hA:i<l.length
  ·obtain⟨x,hx⟩:=wJ hA;have hxl:=hl x (List.mem_of_getElem? hx);have eA:decide ((i:Int)<(l.length:Int))=true:=tD (by omega);have w1:=wL (c:=i) (by omega);have pc:=yU E hxl;simp -implicitDefEqProofs only[go_sem,hml,div1,eA,hA,H4 hx];refine cI pc ?_;cases hpx:wg x
   ·have hall:¬ ∀x∈l,wg x=true:=fun h=>by rw[h x (List.mem_of_getElem? hx)] at hpx;cases hpx
    rw[if_neg hall] at hr;rw[hr] at hR;have hE:errR q 1=eD q 0:=rfl;rw[hE] at hR;subst hR;simp -implicitDefEqProofs only[go_sem,wM,e0,errV,finK]
   ·obtain⟨i',hi'⟩:∃i':{i:Nat // i<=l.length/\∀j x,j<i->l[j]?=some x->wg x=true},i'.1=i+1:=⟨⟨i+1,hA,fun j y hj hy=>by
     rcases Nat.lt_or_ge j i with h|h
     ·exact hp j y h hy
     ·have:j=i:=by omega
      subst this;rw[hx] at hy;cases hy;exact hpx⟩,rfl⟩
    simp -implicitDefEqProofs only[go_sem,wM,w1];refine⟨i',we ?_ ?_ rfl,by simp only[hi'];omega⟩<;>simp -implicitDefEqProofs only[go_sem,hi']
  ·have eA:decide ((i:Int)<(l.length:Int))=false:=fD (by omega);have hall:∀x∈l,wg x=true:=fun x hx=>by
    obtain⟨j,hj⟩:=List.getElem?_of_mem hx;exact hp j x (by have:=jI hj;omega) hj
   rw[if_pos hall] at hr;rw[hr] at hR;have hE:errR q 0 = .v .nilIface:=rfl;rw[hE] at hR;subst hR;simp -implicitDefEqProofs only[go_sem,eA,finK]
end Go.Enc
end
section
section
namespace Go.Enc
open Go.Proofs Go.Enc.Dg Go.Enc.Nu Go.Enc.Fl
def errD (q:Nat->Addr)(n:Int)(s:ByteArray):D:=if n=0 then .v .nilIface else opE s (eD q (n-1).toNat)
section
variable {E:Nat->Option Value} {q:Nat->Addr} {a b:Nat×Nat}
theorem Y4 (hq:Sent E q){n:Int}{s:ByteArray}(h:n=0/\s=noS\/(1<=n/\n<=9)):DQz E 32 [errD q n s] (.data (.tup [intD n,strD s])):=by
 rcases h with⟨rfl,rfl⟩|h
 ·exact jE E
 ·unfold errD;rw[if_neg (by omega)];have:=Jn hq (i:=(n-1).toNat) (by omega) s
  rwa [show(((n-1).toNat:Nat):Int)+1=n by omega] at this
def Res1 (R:Ans):Prop:=(R.2.1=0/\R.2.2=noS/\Gd R.1)\/(1<=R.2.1/\R.2.1<=9/\R.1=(0,0))
theorem zkz {l h:Nat}{lo hi:Nm}(ll:l<18446744073709551616)(lh:h<18446744073709551616)(d:DnK (val lo) (K (idx l)))(u:UpK (val hi) (K (idx h)))(hle:val lo<=val hi)(pl:wg l=true)(ph:wg h=true):Gd (posB l,posB h):=by
 have o1:=(kI ll).1 pl;have o2:=(kI lh).1 ph;rw[(K_ok (idx l)).2 o1] at d;rw[(K_ok (idx h)).2 o2] at u;have h1:=(d.val o1).1;have h2:=(UpK.val u o2).2;exact⟨kB ll,kB lh,jq pl,jq ph,by simp only[jS];exact kl.1 (Rat.le_trans h1 (Rat.le_trans hle h2)),km _,km _⟩
theorem YP (nm:ByteArray){l h:Nat}{lo hi:Nm}(ll:l<18446744073709551616)(lh:h<18446744073709551616)(d:DnK (val lo) (K (idx l)))(u:UpK (val hi) (K (idx h)))(hle:val lo<=val hi){R:Ans}(hR:R=jK (wH lo hi).1 (wH lo hi).2 nm) :
  zN q nm l h = .tup [ivD R.1,errD q R.2.1 R.2.2]/\Res1 R:=by
 have hA:=jQ ll lh d u;unfold zN;by_cases g:wg l=true/\wg h=true
 ·rw[if_pos g] at hA;rw[hA] at hR;have hR:R=((posB l,posB h),0,noS):=hR;subst hR;rw[if_neg (by rw[g.1,g.2];simp)];exact⟨rfl,.inl ⟨rfl,rfl,zkz ll lh d u hle g.1 g.2⟩⟩
 ·rw[if_neg g] at hA;rw[hA] at hR;have hR:R=((0,0),3,nm):=hR;subst hR;rw[if_pos (by cases hl:wg l;exact .inl rfl;cases hh:wg h;exact .inr rfl;exact absurd ⟨hl,hh⟩ g)];exact⟨rfl,.inr ⟨show(1:Int)<=3 by decide,show(3:Int)<=9 by decide,rfl⟩⟩
def mulB (a b:Nat×Nat):Ans:=refB 5 (nm a.1) (nm a.2) (nm b.1) (nm b.2)
def addB (a b:Nat×Nat):Ans:=refB 3 (nm a.1) (nm a.2) (nm b.1) (nm b.2)
theorem zgX (hq:Sent E q)(g:Gd a)(g':Gd b):DQz E 41 [ivD a,ivD b] (.data (.tup [ivD (addB a b).1,errD q (addB a b).2.1 (addB a b).2.2]))/\Res1 (addB a b):=by
 obtain⟨l,_,l1,_,ll,_,ld,_⟩:=Vk E g.o1 g'.o1;obtain⟨_,h,_,h2,_,lh,_,hu⟩:=Vk E g.o2 g'.o2;have m1:=(((mu_v (idx a.1)).add (mu_v (idx b.1))).class).1;have m2:=(((mu_v (idx a.2)).add (mu_v (idx b.2))).class).2;have vl:val (nsum (nm a.1) (nm b.1))=v (idx a.1)+v (idx b.1):=by rw[kj,nval g.l1 g.p1,nval g'.l1 g'.p1]
 have vh:val (nsum (nm a.2) (nm b.2))=v (idx a.2)+v (idx b.2):=by rw[kj,nval g.l2 g.p2,nval g'.l2 g'.p2]
 have hle:val (nsum (nm a.1) (nm b.1))<=val (nsum (nm a.2) (nm b.2)):=by
  rw[vl,vh];have:=v_le g.le;have:=v_le g'.le;grind
 obtain⟨k1,k2⟩:=YP (q:=q) J9 ll lh (lo:=nsum (nm a.1) (nm b.1)) (hi:=nsum (nm a.2) (nm b.2)) (by rw[vl];exact zu ld m1) (by rw[vh];exact Wt hu m2) hle (R:=addB a b) rfl;have he:=QX hq J9 ll lh;rw[k1] at he;exact⟨zdB E l1 h2 he,k2⟩
theorem zfY (hq:Sent E q)(g:Gd a)(g':Gd b):DQz E 43 [ivD a,ivD b] (.data (.tup [ivD (mulB a b).1,errD q (mulB a b).2.1 (mulB a b).2.2]))/\Res1 (mulB a b):=by
 have hc:∀n,n<4->∃l h,Corner E 88 kc (two a.1 a.2 (n/2)) (two b.1 b.2 (n % 2)) l h/\DnK (val (four (nprod (nm a.1) (nm b.1)) (nprod (nm a.1) (nm b.2)) (nprod (nm a.2) (nm b.1)) (nprod (nm a.2) (nm b.2)) n)) (K (idx l)) /\
   UpK (val (four (nprod (nm a.1) (nm b.1)) (nprod (nm a.1) (nm b.2)) (nprod (nm a.2) (nm b.1)) (nprod (nm a.2) (nm b.2)) n)) (K (idx h)):=fun n hn=>by
  have key:∀ {a1 b1:Nat},OkB a1->OkB b1->wg a1=true->wg b1=true->∃l h,Corner E 88 kc a1 b1 l h/\DnK (val (nprod (nm a1) (nm b1))) (K (idx l))/\UpK (val (nprod (nm a1) (nm b1))) (K (idx h)):=fun {a1 b1} o1 o2 p1 p2=>by
   rw[k8,nval o1.1 p1,nval o2.1 p2];exact yX E o1 o2
  rcases Ke (show n<=3 by omega) with rfl|rfl|rfl|rfl
  ·exact key g.o1 g'.o1 g.p1 g'.p1
  ·exact key g.o1 g'.o2 g.p1 g'.p2
  ·exact key g.o2 g'.o1 g.p2 g'.p1
  ·exact key g.o2 g'.o2 g.p2 g'.p2
 obtain⟨l,h,c1,ll,lh,d,u⟩:=vx hq (by decide) kc hc;have hle:=Rat.le_trans ((HN (four (nprod (nm a.1) (nm b.1)) (nprod (nm a.1) (nm b.2)) (nprod (nm a.2) (nm b.1)) (nprod (nm a.2) (nm b.2))) 3).1 0 (by omega)) ((HY (four (nprod (nm a.1) (nm b.1)) (nprod (nm a.1) (nm b.2)) (nprod (nm a.2) (nm b.1)) (nprod (nm a.2) (nm b.2))) 3).1 0 (by omega));obtain⟨k1,k2⟩:=YP (q:=q) kc ll lh d u hle (R:=mulB a b) rfl;rw[k1] at c1;exact⟨HW E c1,k2⟩
/-! A polynomial's values,step by step. -/
theorem JJ (g:Gd a):mk2 a=a:=by
 obtain⟨c1,c2⟩:=qi g.l1 g.l2;have h:¬(wg a.1=false\/wg a.2=false):=by rw[g.p1,g.p2];simp
 have hle:=g.le;have:=(c2 h).2 (by omega)
 show(vG a.1 a.2).1=a
 rw[this,g.q1,g.q2]
def ptB (c:Nat):Nat×Nat:=(posB c,posB c)
theorem zcA {c:Nat}(hl:c<18446744073709551616)(hp:wg c=true):Gd (ptB c):=⟨kB hl,kB hl,jq hp,jq hp,Int.le_refl _,km _,km _⟩
def zgk (r X:Nat×Nat)(c:Nat):Ans:=if (mulB r X).2.1=0 then addB (mulB r X).1 (ptB c) else mulB r X
def evB (p:Nat->Nat)(n:Nat)(X:Nat×Nat):Nat->Ans
 |0=>(ptB (p (n-1)),0,noS)
 |j+1=>if (evB p n X j).2.1=0 then zgk (evB p n X j).1 X (p (n-2-j)) else evB p n X j
theorem QU {p:Nat->Nat}{n:Nat}{X:Nat×Nat}{j:Nat}(h:(evB p n X j).2.1≠0):∀i,evB p n X (j+i)=evB p n X j
 |0=>rfl
 |i+1=>by
  have ih:=QU h i
  show(if (evB p n X (j+i)).2.1=0 then _ else evB p n X (j+i))=_
  rw[ih,if_neg h]
end
section
variable {x y:Nat×Nat}
theorem refop (E:Nat->Option Value)(k:Int)(x1:x.1<18446744073709551616)(x2:x.2<18446744073709551616)(y1:y.1<18446744073709551616)(y2:y.2<18446744073709551616) :
  DQz E 18 [intD k,boxD x,boxD y] (.data (ansD (refB k (nm (mk2 x).1) (nm (mk2 x).2) (nm (mk2 y).1) (nm (mk2 y).2)))):=by
 have g:=jO x1 x2;have g':=jO y1 y2;have hz:kK (nm (mk2 y).1) (nm (mk2 y).2)=false->(nm (mk2 y).1).n≠0/\(nm (mk2 y).2).n≠0:=fun hz=>by
  have h0:=zj g';rw[hz] at h0;have hle:=g'.le;have:¬(idx (mk2 y).1<=0/\0<=idx (mk2 y).2):=fun k=>by rw[decide_eq_true k.1,decide_eq_true k.2] at h0;cases h0
  exact⟨WG g'.l1 g'.p1 (by omega),WG g'.l2 g'.p2 (by omega)⟩
 exact zgq E k (WJ E x1 x2 g.l1 g.l2) (WJ E y1 y2 g'.l1 g'.l2) (qg _) (qg _) (qg _) (qg _) hz
end
end Go.Enc
end
section
namespace Go.Enc
open Go.Proofs Go.Enc.Dg Go.Enc.Nu Go.Enc.Fl
theorem ZR (E:Nat->Option Value){l:List Nat}(hl:∀x∈l,x<18446744073709551616)(hlen:l.length<=1152921504606846976):DQz E 67 [usD l] (.data (intD (wI l))):=by
 refine dcA Tryz.func67 Tryz.ntmps67 (rs:=[.tmp 2]) fun _ _ _ _ _=>?_
 have hml:(l.map uD).length=l.length:=List.length_map _;by_cases h1:l.length<1
 ·have hr:wI l=8:=if_pos (.inl h1);have e1:decide ((l.length:Int)<1)=true:=tD (by omega);rw[hr];simp -implicitDefEqProofs only[go_sem,hml,div1,e1,finK]
 have e1:decide ((l.length:Int)<1)=false:=fD (by omega);by_cases h2:9<l.length
 ·have hr:wI l=8:=if_pos (.inr h2);have e2:decide ((l.length:Int)>9)=true:=tD (by omega);rw[hr];simp -implicitDefEqProofs only[go_sem,hml,div1,e1,e2,finK]
 have e2:decide ((l.length:Int)>9)=false:=fD (by omega);have hr:wI l=if ∀x∈l,wg x=true then 0 else 1:=if_neg (by omega)
 simp -implicitDefEqProofs only[go_sem,hml,div1,e1,e2];rw[wu];refine wm (α:={i:Nat // i<=l.length/\∀j x,j<i->l[j]?=some x->wg x=true}) (fun i=>St.of [(0,.d (usD l)),(3,.d (intD i.1))] []) (fun i=>l.length-i.1)
  ⟨0,Nat.zero_le _,fun j x h _=>by omega⟩ (we ?_ ?_ rfl) (by kernel_rfl) (fun i=>?_)
 ·have c0:=c0E;simp -implicitDefEqProofs only[go_sem,c0]
 ·simp -implicitDefEqProofs only[go_sem]
 ·obtain⟨i,hi,hp⟩:=i;by_cases hA:i<l.length
  ·obtain⟨x,hx⟩:=wJ hA;have hxl:=hl x (List.mem_of_getElem? hx);have eA:decide ((i:Int)<(l.length:Int))=true:=tD (by omega);have w1:=wL (c:=i) (by omega);have pc:=xP E hxl;rw[vB hxl] at pc;simp -implicitDefEqProofs only[go_sem,hml,div1,eA,hA,KV hx];refine cI pc ?_;cases hpx:wg x
   ·have hall:¬ ∀x∈l,wg x=true:=fun h=>by rw[h x (List.mem_of_getElem? hx)] at hpx;cases hpx
    rw[if_neg hall] at hr;rw[hr];simp -implicitDefEqProofs only[go_sem,finK]
   ·obtain⟨i',hi'⟩:∃i':{i:Nat // i<=l.length/\∀j x,j<i->l[j]?=some x->wg x=true},i'.1=i+1:=⟨⟨i+1,hA,fun j y hj hy=>by
     rcases Nat.lt_or_ge j i with h|h
     ·exact hp j y h hy
     ·have:j=i:=by omega
      subst this;rw[hx] at hy;cases hy;exact hpx⟩,rfl⟩
    simp -implicitDefEqProofs only[go_sem,w1];refine⟨i',we ?_ ?_ rfl,by simp only[hi'];omega⟩<;>simp -implicitDefEqProofs only[go_sem,hi']
  ·have eA:decide ((i:Int)<(l.length:Int))=false:=fD (by omega);have hall:∀x∈l,wg x=true:=fun x hx=>by
    obtain⟨j,hj⟩:=List.getElem?_of_mem hx;exact hp j x (by have:=jI hj;omega) hj
   rw[if_pos hall] at hr;rw[hr];simp -implicitDefEqProofs only[go_sem,hml,div1,eA,finK]
theorem UJ (E:Nat->Option Value)(b:Nat):DQz E 68 [.v (.int .u64 b)] (.data (boxD (ptB b))):=by
 refine dcA Tryz.func68 Tryz.ntmps68 (rs:=[.cell 2 27]) fun _ _ _ _ _=>?_
 simp -implicitDefEqProofs only[go_sem];refine cI (v8 _ b) ?_;simp -implicitDefEqProofs only[go_sem];refine cI (v8 _ b) ?_;simp -implicitDefEqProofs only[go_sem,ptB]
end Go.Enc
end
section
namespace Go.Enc
open Go.Proofs Go.Enc.Dg Go.Enc.Nu Go.Enc.Fl
def coef (l:List Nat)(i:Nat):Nat:=(l[i]?).getD 0
theorem vQ {l:List Nat}{i x:Nat}(h:l[i]?=some x):coef l i=x:=by unfold coef;rw[h];rfl
def jC (l:List Nat)(X:Nat×Nat):Ans:=if wI l=0 then evB (coef l) l.length X (l.length-1) else ((0,0),wI l,noS)
def Kh (q:Nat->Addr)(l:List Nat)(X:Nat×Nat):D:=if wI l=0 then errD q (jC l X).2.1 (jC l X).2.2 else errR q (wI l)
structure Stp (E:Nat->Option Value)(q:Nat->Addr)(l:List Nat)(X:Nat×Nat)(j:Nat)(R M A:Ans):Prop where
 r0:R.2.1=0
 gr:Gd R.1
 m:DQz E 43 [ivD R.1,ivD X] (.data (.tup [ivD M.1,errD q M.2.1 M.2.2]))
 m1:Res1 M
 ma:M.2.1=0->DQz E 41 [ivD M.1,ivD (ptB (coef l (l.length-2-j)))] (.data (.tup [ivD A.1,errD q A.2.1 A.2.2]))/\Res1 A
 next:evB (coef l) l.length X (j+1)=if M.2.1=0 then A else M
section
variable {E:Nat->Option Value} {q:Nat->Addr} {l:List Nat} {X:Nat×Nat}
theorem QT (hl:∀x∈l,x<18446744073709551616)(hr:wI l=0):(evB (coef l) l.length X 0).2.1=0/\Gd (evB (coef l) l.length X 0).1:=by
 obtain⟨h1,h2,h3⟩:=qb hr;obtain⟨x,hx⟩:=wJ (l:=l) (i:=l.length-1) (by omega);refine⟨rfl,?_⟩
 show Gd (ptB (coef l (l.length-1)))
 rw[vQ hx];exact zcA (hl x (List.mem_of_getElem? hx)) (h3 x (List.mem_of_getElem? hx))
theorem Zh (hq:Sent E q)(hl:∀x∈l,x<18446744073709551616)(hr:wI l=0)(gX:Gd X){j:Nat}(hj:j+1<l.length)(h0:(evB (coef l) l.length X j).2.1=0)(g:Gd (evB (coef l) l.length X j).1) :
  Stp E q l X j (evB (coef l) l.length X j) (mulB (evB (coef l) l.length X j).1 X) (addB (mulB (evB (coef l) l.length X j).1 X).1 (ptB (coef l (l.length-2-j)))):=by
 obtain⟨h1,h2,h3⟩:=qb hr;obtain⟨m1,m2⟩:=zfY hq g gX;obtain⟨x,hx⟩:=wJ (l:=l) (i:=l.length-2-j) (by omega);have gp:=zcA (hl x (List.mem_of_getElem? hx)) (h3 x (List.mem_of_getElem? hx));refine⟨h0,g,m1,m2,fun hm=>?_,?_⟩
 ·have gm:Gd (mulB (evB (coef l) l.length X j).1 X).1:=by
   rcases m2 with⟨_,_,gm⟩|⟨g1,_,_⟩
   ·exact gm
   ·omega
  rw[vQ hx];exact zgX hq gm gp
 ·show(if (evB (coef l) l.length X j).2.1=0 then zgk (evB (coef l) l.length X j).1 X (coef l (l.length-2-j)) else evB (coef l) l.length X j)=_
  rw[if_pos h0];rfl
theorem zdW {j:Nat}(hj:j+1<l.length)(h:(evB (coef l) l.length X (j+1)).2.1≠0):evB (coef l) l.length X (l.length-1)=evB (coef l) l.length X (j+1):=by
 have:=QU h (l.length-1-(j+1))
 rwa [show j+1+(l.length-1-(j+1))=l.length-1 by omega] at this
theorem U8 (hq:Sent E q)(hl:∀x∈l,x<18446744073709551616)(hlen:l.length<=1152921504606846976)(gX:Gd X):DQz E 65 [fsD l,ivD X] (.data (.tup [ivD (jC l X).1,Kh q l X])):=by
 have hri:=QI hq hl hlen;have hE:=jC;by_cases hr:wI l=0
 ·obtain⟨h1,h2,h3⟩:=qb hr;have hR:jC l X=evB (coef l) l.length X (l.length-1):=if_pos hr;have hE:Kh q l X=errD q (jC l X).2.1 (jC l X).2.2:=if_pos hr;rw[hE,hR];have e0:errR q (wI l) = .v .nilIface:=by rw[hr];rfl
  rw[e0] at hri;have hml:(l.map flD).length=l.length:=List.length_map _;obtain⟨x0,hx0⟩:=wJ (l:=l) (i:=l.length-1) (by omega);have ap0:=zB (hl x0 (List.mem_of_getElem? hx0)) (h3 x0 (List.mem_of_getElem? hx0));have ev0:evB (coef l) l.length X 0=(ptB x0,0,noS):=by show(ptB (coef l (l.length-1)),_,_)=_;rw[vQ hx0]
  have wn1:IntKind.i64.wrap ((l.length:Int)-1)=((l.length-1:Nat):Int):=zbP (by omega);have w2:IntKind.i64.wrap ((l.length:Int)-2)=(l.length:Int)-2:=w64 (by omega);have hA0:l.length-1<l.length:=by omega
  refine dcA Tryz.func65 Tryz.ntmps65 (rs:=[.cell 4 59,.tmp 5]) fun σ0 w0 base df G0=>?_
  simp -implicitDefEqProofs only[go_sem];refine cI hri ?_;simp -implicitDefEqProofs only[go_sem,hml,div1,wn1,w2,hA0,H4 hx0,ap0];rw[wu];refine wm (α:={j:Nat // j<l.length/\(evB (coef l) l.length X j).2.1=0/\Gd (evB (coef l) l.length X j).1}) (fun j=>St.of [(0,.d (fsD l)),(3,.ptr 3 0),(4,.ptr 4 0),(8,.ptr 8 0),(9,.d (intD ((l.length:Int)-2-(j.1:Int))))]
   [(3,⟨none,[.d (flD X.1),.d (flD X.2)]⟩),(4,⟨none,[.d (flD 0),.d (flD 0)]⟩),(8,⟨none,[.d (flD (evB (coef l) l.length X j.1).1.1),.d (flD (evB (coef l) l.length X j.1).1.2)]⟩)]) (fun j=>l.length-j.1)
   ⟨0,by omega,QT hl hr⟩ (we ?_ ?_ rfl) (by kernel_rfl) (fun j=>?_)
  ·simp -implicitDefEqProofs only[go_sem,Int.sub_zero]
  ·simp -implicitDefEqProofs only[go_sem,ev0,ptB]
  ·obtain⟨j,hj,z0,gz⟩:=j;by_cases hA:j+1<l.length
   ·have S:=Zh (E:=E) hq hl hr gX hA z0 gz;obtain⟨k,hk⟩:∃k:Nat,l.length-2-j=k:=⟨_,rfl⟩;obtain⟨x,hx⟩:=wJ (l:=l) (i:=k) (by omega);have hkx:coef l (l.length-2-j)=x:=by rw[hk];exact vQ hx
    have ap:=zB (hl x (List.mem_of_getElem? hx)) (h3 x (List.mem_of_getElem? hx));have hkI:(l.length:Int)-2-(j:Int)=(k:Int):=by omega
    have hkA:k<l.length:=by omega
    have eA:decide ((k:Int)>=0)=true:=geZ k;have w1:IntKind.i64.wrap ((k:Int)-1)=(l.length:Int)-2-((j+1:Nat):Int):=by rw[w64 (by omega)];omega
    have hend:=zdW (X:=X) hA;generalize mulB (evB (coef l) l.length X j).1 X=M at S;generalize addB M.1 (ptB (coef l (l.length-2-j)))=A at S;obtain⟨_,_,sm,sm1,sma,snext⟩:=S;rw[hkx] at sma;simp -implicitDefEqProofs only[go_sem,hkI,eA];refine cI sm ?_;by_cases hm:M.2.1=0
    ·have hM0:errD q M.2.1 M.2.2 = .v .nilIface:=if_pos hm;obtain⟨ma1,ma2⟩:=sma hm;rw[if_pos hm] at snext;rw[hM0];simp -implicitDefEqProofs only[go_sem,hml,hkI,hkA,H4 hx,ap];refine cI ma1 ?_;by_cases ha:A.2.1=0
     ·have hA1:errD q A.2.1 A.2.2 = .v .nilIface:=if_pos ha;have gA:Gd A.1:=by
       rcases ma2 with⟨_,_,gm⟩|⟨g1,_,_⟩
       ·exact gm
       ·omega
      obtain⟨j',hj'⟩:∃j':{j:Nat // j<l.length/\(evB (coef l) l.length X j).2.1=0/\Gd (evB (coef l) l.length X j).1},j'.1=j+1:=⟨⟨j+1,hA,by rw[snext];exact ha,by rw[snext];exact gA⟩,rfl⟩;rw[hA1];simp -implicitDefEqProofs only[go_sem,hkI,w1];refine⟨j',we ?_ ?_ rfl,by simp only[hj'];omega⟩<;>simp -implicitDefEqProofs only[go_sem,hj',w1,snext]
     ·have hA1:errD q A.2.1 A.2.2=opE A.2.2 (eD q (A.2.1-1).toNat):=if_neg ha;have h00:A.1=(0,0):=by
       rcases ma2 with⟨g1,_,_⟩|⟨_,_,g1⟩
       ·exact absurd g1 ha
       ·exact g1
      have hfin:=hend (by rw[snext];exact ha);rw[snext] at hfin;rw[hfin,hA1,h00];simp -implicitDefEqProofs only[go_sem,hkI];refine wc ?_;simp -implicitDefEqProofs only[go_sem]
    ·have hM0:errD q M.2.1 M.2.2=opE M.2.2 (eD q (M.2.1-1).toNat):=if_neg hm;have h00:M.1=(0,0):=by
      rcases sm1 with⟨g1,_,_⟩|⟨_,_,g1⟩
      ·exact absurd g1 hm
      ·exact g1
     rw[if_neg hm] at snext;have hfin:=hend (by rw[snext];exact hm);rw[snext] at hfin;rw[hfin,hM0,h00];simp -implicitDefEqProofs only[go_sem,hkI];refine wc ?_;simp -implicitDefEqProofs only[go_sem]
   ·have eA:decide ((l.length:Int)-2-(j:Int)>=0)=false:=fD (by omega);have hj1:j=l.length-1:=by omega
    subst hj1;have hE0:errD q (evB (coef l) l.length X (l.length-1)).2.1 (evB (coef l) l.length X (l.length-1)).2.2 = .v .nilIface:=if_pos z0;rw[hE0];simp -implicitDefEqProofs only[go_sem,eA];refine wc ?_;simp -implicitDefEqProofs only[go_sem]
 ·have hR:jC l X=((0,0),wI l,noS):=if_neg hr;have hE:Kh q l X=errR q (wI l):=if_neg hr;have hE2:errR q (wI l)=eD q (wI l-1).toNat:=if_neg hr;rw[hE,hR,hE2];rw[hE2] at hri;refine dcA Tryz.func65 Tryz.ntmps65 (rs:=[.cell 4 59,.tmp 5]) fun _ _ _ _ _=>?_
  simp -implicitDefEqProofs only[go_sem];refine cI hri ?_;simp -implicitDefEqProofs only[go_sem,errV];refine wc ?_;simp -implicitDefEqProofs only[go_sem,errV]
end
end Go.Enc
end
end
