/-
  Natural numbers by their digits: the document's functions by their contracts. Natural numbers by their digits: order, differences, products. Natural numbers by their digits: products. Natural numbers by their digits: how many bits; times a power of two. Natural numbers by their digits: times a power of two.
-/
import Derived.Test.YtjlibljfpkmpfaaGreatDoorSaFacts
import Derived.Test.YtjlibljfpkmpfaaGreatDoorSa07
import Derived.Test.YtjlibljfpkmpfaaGreatDoorSa11
set_option maxRecDepth 100000
set_option linter.unusedSimpArgs false
set_option linter.unusedVariables false
section
section
namespace Go.Enc
open Go.Proofs Go.Enc.Dg
theorem DCall.weak {P:Program}{E:Nat->Option Value}{f:FuncId}{args:List D}{d d':D}(h:DCall P E f args (.data d))(hw:∀σ u,Rep σ d u->Rep σ d' u):DCall P E f args (.data d'):=by
 intro σ w us hF hargs o a next Q hnext
 refine h σ w us hF hargs o a next Q fun u w' hA=>hnext u w' ?_
 obtain⟨σ',a1,a2,a3,a3',a4,a5⟩:=hA;exact⟨σ',a1,a2,a3,a3',a4,hw _ _ a5⟩
def dD (n:Nat):D:=.v (.int .i64 n)
abbrev digD (l:List Nat):D:=.sl 1 (l.map dD)
abbrev natD (n:Nat):D:=digD (dg n)
def digT (l:List Nat):List T:=l.map fun n=>.d (dD n)
theorem YV (l:List Nat):(l.map dD).map T.d=digT l:=by simp[digT]
theorem zat (l:List Nat):asDs (digT l)=some (l.map dD):=by rw[<-YV,jX]
theorem zdg (l:List Nat):(digT l).length=l.length:=by simp[digT]
theorem zis (l:List Nat):(l.map dD).length=l.length:=by simp
theorem jd {l:List Nat}{i x:Nat}(h:l[i]?=some x):(l.map dD)[i]?=some (dD x):=by simp[h]
theorem YW {l:List Nat}{i x:Nat}(h:l[i]?=some x):(digT l)[i]?=some (.d (dD x)):=by simp[digT,h]
theorem zai (l:List Nat)(x:Nat):digT l++[.d (dD x)]=digT (l++[x]):=by simp[digT]
theorem X2 (k:Nat)(l:List Nat):(digT l).map (wU k)=digT l:=by simp[digT,wU]
theorem zdf (l:List Nat)(i x:Nat):(digT l).set i (.d (dD x))=digT (l.set i x):=by simp[digT,List.map_set]
theorem zaQ (k:Nat)(l:List Nat)(x:Nat):List.map (wU k) (digT l++[T.d (D.v (Value.int IntKind.i64 (x:Int)))])=digT (l++[x]):=by
 rw[<-X2 k (l++[x]),<-zai];rfl
theorem jc (l:List Nat)(ks:List Nat):(digT l).all (wG ks)=true:=by simp[digT,wG,T.ref]
attribute [go_sem] zat zdg zaQ digD natD intD zis Int.toNat_natCast Int.natCast_nonneg Nat.mul_one Nat.div_one Nat.sub_zero and_self Int.natCast_zero
theorem wJ {l:List Nat}{i:Nat}(h:i<l.length):∃x,l[i]?=some x:=⟨l[i],by simp[h]⟩
theorem jI {l:List Nat}{i x:Nat}(h:l[i]?=some x):i<l.length:=by
 rcases Nat.lt_or_ge i l.length with h'|h'
 ·exact h'
 ·rw[List.getElem?_eq_none h'] at h;cases h
theorem tD {p:Prop}[Decidable p](h:p):decide p=true:=decide_eq_true h
theorem fD {p:Prop}[Decidable p](h:¬p):decide p=false:=decide_eq_false h
theorem zgE {l:List Nat}(hl:Dig l){i:Nat}(hi:i<=l.length)(hz:∀j x,i<=j->l[j]?=some x->x=0)(ht:i=0\/∃x,l[i-1]?=some x/\x≠0):dg (vl l)=l.take i:=by
 rw[<-zec l i hz];refine YX hl.take ?_;rcases ht with rfl|⟨x,hx,h0⟩
 ·left;simp
 ·by_cases h:i=0
  ·left;rw[h];simp
  ·right;obtain⟨m,rfl⟩:∃m,i=m+1:=⟨i-1,by omega⟩;rw[List.length_take,Nat.min_eq_left hi,Nat.add_sub_cancel];rw[Nat.add_sub_cancel] at hx;rw[j9 hx];have:=Nat.mul_le_mul_left (B^m) (show 1<=x by omega);omega
theorem addN {c x:Nat}(h:c+x<9223372036854775808):IntKind.i64.wrap ((c:Int)+(x:Int))=((c+x:Nat):Int):=by rw[w64 (by omega)];omega
theorem wL {c:Nat}(h:c+1<9223372036854775808):IntKind.i64.wrap ((c:Int)+1)=((c+1:Nat):Int):=by rw[w64 (by omega)];omega
theorem zbP {c:Nat}(h:1<=c/\c<9223372036854775808):IntKind.i64.wrap ((c:Int)-1)=((c-1:Nat):Int):=by rw[w64 (by omega)];omega
theorem modB {n:Nat}:(n:Int).tmod 16777216=((n % 16777216:Nat):Int):=by rw[Int.tmod_eq_emod_of_nonneg (by omega)];omega
theorem divB {n:Nat}(h:n<9223372036854775808):IntKind.i64.wrap ((n:Int).tdiv 16777216)=((n/16777216:Nat):Int):=by
 rw[Int.tdiv_eq_ediv_of_nonneg (by omega),w64 (by omega)];omega
def Sm (l:List Nat):Prop:=l.length<=1048576
theorem Vr (E:Nat->Option Value)(l:List Nat)(hl:Dig l)(hlen:l.length<=1099511627776):DQz E 132 [digD l] (.data (natD (vl l))):=by
 refine dcA Tryz.func132 Tryz.ntmps132 (rs:=[.tmp 2]) fun _ _ _ _ _=>?_
 simp -implicitDefEqProofs only[go_sem,digD];rw[wu];refine wm (α:={i:Nat // i<=l.length/\∀j x,i<=j->l[j]?=some x->x=0}) (fun i=>St.of [(0,.d (digD l)),(3,.d (intD i.1))] []) (fun i=>i.1)
  ⟨l.length,Nat.le_refl _,fun j x h1 h2=>by have:=jI h2;omega⟩ (we ?_ ?_ rfl) (by kernel_rfl) (fun i=>?_)
 ·simp -implicitDefEqProofs only[go_sem]
 ·simp -implicitDefEqProofs only[go_sem]
 ·obtain⟨i,hi,hz⟩:=i;have fin:(i=0\/∃x,l[i-1]?=some x/\x≠0)->(T.d (D.sl 1 (List.take i (List.map dD l)))=T.d (D.sl 1 (List.map dD (dg (vl l))))):=fun ht=>by
   rw[zgE hl hi hz ht,List.map_take]
  by_cases h0:i=0
  ·have e0:decide ((i:Int)>0)=false:=fD (by omega);have e3:i*1<=l.length:=by omega
   simp -implicitDefEqProofs only[go_sem,e0,hi,finK];exact fin (.inl h0)
  ·obtain⟨x,hx⟩:=wJ (l:=l) (i:=i-1) (by omega);have e0:decide ((i:Int)>0)=true:=tD (by omega);have e1:IntKind.i64.wrap ((i:Int)-1)=((i-1:Nat):Int):=by rw[w64 (by omega)];omega
   have e2:=jI hx;simp -implicitDefEqProofs only[go_sem,e0,e1,e2,jd hx,dD];refine wN (fun h=>?_) (fun h=>?_)
   ·simp -implicitDefEqProofs only[go_sem,e1];have hx0:x=0:=by simp at h;omega
    refine⟨⟨i-1,by omega,fun j y h1 h2=>?_⟩,we ?_ ?_ rfl,by simp only;omega⟩
    ·by_cases hj:j=i-1
     ·subst hj;rw[hx] at h2;cases h2;exact hx0
     ·exact hz j y (by omega) h2
    ·simp -implicitDefEqProofs only[go_sem]
    ·simp -implicitDefEqProofs only[go_sem]
   ·have hx0:x≠0:=by simp at h;omega
    simp -implicitDefEqProofs only[go_sem,hi,finK];exact fin (.inr ⟨x,hx,hx0⟩)
theorem qI (E:Nat->Option Value)(n:Nat)(hn:n<2^63):DQz E 84 [intD n] (.data (natD n)):=by
 refine dcA Tryz.func84 Tryz.ntmps84 (rs:=[.tmp 2]) fun _ _ _ _ _=>?_
 simp -implicitDefEqProofs only[go_sem];rw[wu];refine jF 3 10 3 1 rfl rfl ?_;refine wm (α:={p:Nat×List Nat // Dig p.2/\vl p.2+B^p.2.length*p.1=n/\(p.2=[]\/B^(p.2.length-1)<=n)}) (fun p=>St.of [(0,.d (intD p.1.1)),(3,.gs 10)] [(10,⟨some (3,1,true),digT p.1.2⟩)]) (fun p=>p.1.1)
  ⟨(n,[]),by intro d hd;simp at hd,by simp[vl],.inl rfl⟩ (we ?_ ?_ rfl) (by kernel_rfl) (fun p=>?_)
 ·simp -implicitDefEqProofs only[go_sem,upd]
 ·simp -implicitDefEqProofs only[go_sem,upd,digT]
 ·obtain⟨⟨m,l⟩,hl,hv,hc⟩:=p;simp only at hl hv hc;have hlen:l.length<=3:=by
   rcases hc with rfl|hc
   ·simp
   ·rcases Nat.lt_or_ge l.length 4 with h|h
    ·omega
    ·have h1:=Nat.pow_le_pow_right (show 0<B by decide) (show 3<=l.length-1 by omega);have h2:B^3=4722366482869645213696:=by decide
     omega
  by_cases h0:m=0
  ·have e0:decide ((m:Int)>0)=false:=fD (by omega);simp -implicitDefEqProofs only[go_sem,e0,finK];have:dg n=l:=by
    have h1:vl l=n:=by rw[<-hv,h0];omega
    rw[<-h1] at hc ⊢;exact YX hl hc
   rw[this]
  ·have e0:decide ((m:Int)>0)=true:=tD (by omega);have e1:((m:Int).tmod 16777216)=((m % B:Nat):Int):=by rw[Int.tmod_eq_emod_of_nonneg (by omega)];simp only[B];omega
   have hmn:m<=n:=by
    have:=Nat.mul_le_mul_right m (show 1<=B^l.length from Nat.pow_pos (by decide));omega
   have e2:IntKind.i64.wrap ((m:Int).tdiv 16777216)=((m/B:Nat):Int):=by
    rw[Int.tdiv_eq_ediv_of_nonneg (by omega),w64 (by omega)];simp only[B];omega
   simp -implicitDefEqProofs only[go_sem,e0,e1,e2];have hmax:=mxE;refine⟨by omega,by omega,⟨(m/B,l++[m % B]),hl.snoc (Nat.mod_lt _ (by decide)),?_,.inr ?_⟩,we ?_ ?_ (by simp[wv,jc,wG,T.ref]),Nat.div_lt_self (by omega) (by decide)⟩
   ·simp only;rw[WS,List.length_append,List.length_singleton,Nat.pow_succ,Nat.mul_assoc,Nat.add_assoc,<-Nat.mul_add,Nat.mod_add_div];exact hv
   ·simp only[List.length_append,List.length_singleton,Nat.add_sub_cancel];have:=Nat.mul_le_mul_left (B^l.length) (show 1<=m by omega);omega
   ·simp -implicitDefEqProofs only[go_sem]
   ·simp -implicitDefEqProofs only[go_sem]
theorem R8 {la lb l:List Nat}{i c x y:Nat}(hl:Dig l)(hi:l.length=i)(hv:vl l+B^i*c=vl (la.take i)+vl (lb.take i))(hx:vl (la.take (i+1))=vl (la.take i)+B^i*x)(hy:vl (lb.take (i+1))=vl (lb.take i)+B^i*y) :
  Dig (l++[(c+x+y) % 16777216])/\vl (l++[(c+x+y) % 16777216])+B^(i+1)*((c+x+y)/16777216)=vl (la.take (i+1))+vl (lb.take (i+1)):=by
 refine⟨hl.snoc (Nat.mod_lt _ (by decide)),?_⟩;rw[WS,hi,hx,hy,Nat.pow_succ,Nat.mul_assoc,Nat.add_assoc,<-Nat.mul_add];have:(c+x+y) % 16777216+B*((c+x+y)/16777216)=c+x+y:=Nat.mod_add_div _ _;rw[this,Nat.mul_add,Nat.mul_add];omega
theorem yN {l:List Nat}{i:Nat}(h:l.length<=i):vl (l.take (i+1))=vl (l.take i)+B^i*0:=by rw[jp h,jp (by omega)];omega
theorem zcj {l:List Nat}{n i:Nat}(hn:dg n=l)(h:i<l.length):B^i<=n:=by
 subst hn;have h0:n≠0:=fun e=>by subst e;rw[jU] at h;simp at h
 have:=Rs h0;have:=Nat.pow_le_pow_right (show 0<B by decide) (show i<=(dg n).length-1 by omega);omega
theorem xn (E:Nat->Option Value){a b:Nat}(ha:Sm (dg a))(hb:Sm (dg b)):DQz E 94 [natD a,natD b] (.data (natD (a+b))):=by
 refine dcA Tryz.func94 Tryz.ntmps94 (rs:=[.tmp 4]) fun _ _ _ _ _=>?_
 obtain⟨la,hla⟩:∃la,dg a=la:=⟨_,rfl⟩;obtain⟨lb,hlb⟩:∃lb,dg b=lb:=⟨_,rfl⟩;have hda:=kZ a;have hdb:=kZ b;have hva:=q9 a;have hvb:=q9 b;unfold Sm at ha hb;rw[hla] at ha hda hva;rw[hlb] at hb hdb hvb;simp -implicitDefEqProofs only[go_sem,hla,hlb];rw[wu];refine jF 5 50 3 1 rfl rfl ?_;refine wm (α:={p:Nat×Nat×List Nat // Dig p.2.2/\p.2.2.length=p.1/\p.2.1<=1/\vl p.2.2+B^p.1*p.2.1=vl (la.take p.1)+vl (lb.take p.1)/\(p.1=0\/B^(p.1-1)<=a+b)/\p.1<=max la.length lb.length+1})
  (fun p=>St.of [(0,.d (digD la)),(1,.d (digD lb)),(5,.gs 50),(6,.d (intD p.1.2.1)),(7,.d (intD p.1.1))] [(50,⟨some (3,1,true),digT p.1.2.2⟩)]) (fun p=>max la.length lb.length+2-p.1.1)
  ⟨(0,0,[]),by intro d hd;simp at hd,rfl,by simp,by simp[vl],.inl rfl,by simp⟩ (we ?_ ?_ rfl) (by kernel_rfl) (fun p=>?_)
 ·simp -implicitDefEqProofs only[go_sem,upd,hla,hlb]
 ·simp -implicitDefEqProofs only[go_sem,upd,digT]
 ·obtain⟨⟨i,c,l⟩,hl,hi,hc,hv,ht,hm⟩:=p;simp only at hl hi hc hv ht hm;have hmax:=mxE;have next:∀x y,x<16777216->y<16777216->vl (la.take (i+1))=vl (la.take i)+B^i*x->vl (lb.take (i+1))=vl (lb.take i)+B^i*y->B^i<=a+b->i+1<=max la.length lb.length+1 ->
    ∃p':{p:Nat×Nat×List Nat // Dig p.2.2/\p.2.2.length=p.1/\p.2.1<=1/\vl p.2.2+B^p.1*p.2.1=vl (la.take p.1)+vl (lb.take p.1)/\(p.1=0\/B^(p.1-1)<=a+b)/\p.1<=max la.length lb.length+1},
     p'.1=(i+1,(c+x+y)/16777216,l++[(c+x+y) % 16777216]):=fun x y hx hy h1 h2 h3 h4=>by
   obtain⟨g1,g2⟩:=R8 (c:=c) hl hi hv h1 h2;exact⟨⟨_,g1,by simp[hi],by simp only;omega,g2,.inr (by simpa using h3),h4⟩,rfl⟩
  have hpos:0<B^i:=Nat.pow_pos (by decide);by_cases hA:i<la.length
  ·obtain⟨x,hx⟩:=wJ hA;have hx2:x<16777216:=hda.get hx;have eA:decide ((i:Int)<(la.length:Int))=true:=tD (by omega);have top:B^i<=a+b:=by have:=zcj hla hA;omega
   by_cases hB:i<lb.length
   ·obtain⟨y,hy⟩:=wJ hB;have hy2:y<16777216:=hdb.get hy;have eB:decide ((i:Int)<(lb.length:Int))=true:=tD (by omega);simp  -implicitDefEqProofs (disch:=first|omega|decide) only[go_sem,eA,eB,hA,hB,jd hx,jd hy,dD,addN,wL,modB,divB];refine⟨by omega,by omega,?_⟩;obtain⟨p',hp'⟩:=next x y hx2 hy2 (j9 hx) (j9 hy) top (by omega)
    refine⟨p',we ?_ ?_ (by simp[wv,jc,wG,T.ref]),by rw[hp'];omega⟩<;>simp -implicitDefEqProofs only[go_sem,hp']
   ·have eB:decide ((i:Int)<(lb.length:Int))=false:=fD (by omega);simp  -implicitDefEqProofs (disch:=first|omega|decide) only[go_sem,eA,eB,hA,jd hx,dD,addN,wL,modB,divB];refine⟨by omega,by omega,?_⟩;obtain⟨p',hp'⟩:=next x 0 hx2 (by omega) (j9 hx) (yN (by omega)) top (by omega)
    refine⟨p',we ?_ ?_ (by simp[wv,jc,wG,T.ref]),by rw[hp'];omega⟩<;>simp -implicitDefEqProofs only[go_sem,hp',Nat.add_zero]
  ·have eA:decide ((i:Int)<(la.length:Int))=false:=fD (by omega);by_cases hB:i<lb.length
   ·obtain⟨y,hy⟩:=wJ hB;have hy2:y<16777216:=hdb.get hy;have top:B^i<=a+b:=by have:=zcj hlb hB;omega
    have eB:decide ((i:Int)<(lb.length:Int))=true:=tD (by omega);simp  -implicitDefEqProofs (disch:=first|omega|decide) only[go_sem,eA,eB,hB,jd hy,dD,addN,wL,modB,divB];refine⟨by omega,by omega,?_⟩;obtain⟨p',hp'⟩:=next 0 y (by omega) hy2 (yN (by omega)) (j9 hy) top (by omega)
    refine⟨p',we ?_ ?_ (by simp[wv,jc,wG,T.ref]),by rw[hp'];omega⟩<;>simp -implicitDefEqProofs only[go_sem,hp',Nat.add_zero]
   ·have eB:decide ((i:Int)<(lb.length:Int))=false:=fD (by omega);have hv':=hv;rw[jp (by omega),jp (by omega),hva,hvb] at hv';by_cases hC:c=0
    ·have eC:decide ((c:Int)>0)=false:=fD (by omega);simp  -implicitDefEqProofs (disch:=first|omega|decide) only[go_sem,eA,eB,eC,finK];have:dg (a+b)=l:=by
      have h1:vl l=a+b:=by rw[<-hv',hC];omega
      rw[<-h1];refine YX hl ?_;rcases ht with ht|ht
      ·left;exact List.eq_nil_of_length_eq_zero (by omega)
      ·right;rw[hi,h1];exact ht
     rw[this]
    ·have eC:decide ((c:Int)>0)=true:=tD (by omega);have top:B^i<=a+b:=by
      have:=Nat.mul_le_mul_left (B^i) (show 1<=c by omega);omega
     have him:i<=max la.length lb.length:=by
      rcases Nat.lt_or_ge (max la.length lb.length) i with h|h
      ·exfalso;have h1:=X3 a;have h2:=X3 b;rw[hla] at h1;rw[hlb] at h2;have h3:=Nat.pow_le_pow_right (show 0<B by decide) (show la.length<=i-1 by omega);have h4:=Nat.pow_le_pow_right (show 0<B by decide) (show lb.length<=i-1 by omega);have h5:B^i=B^(i-1)*B:=by rw[<-Nat.pow_succ];congr 1;omega
       simp only[B] at *;omega
      ·exact h
     simp  -implicitDefEqProofs (disch:=first|omega|decide) only[go_sem,eA,eB,eC,wL,modB,divB];refine⟨by omega,by omega,?_⟩;obtain⟨p',hp'⟩:=next 0 0 (by omega) (by omega) (yN (by omega)) (yN (by omega)) top (by omega)
     refine⟨p',we ?_ ?_ (by simp[wv,jc,wG,T.ref]),by rw[hp'];omega⟩<;>simp -implicitDefEqProofs only[go_sem,hp',Nat.add_zero]
end Go.Enc
end
section
namespace Go.Enc
open Go.Proofs Go.Enc.Dg
def cmpI (a b:Nat):Int:=if a<b then -1 else if a=b then 0 else 1
theorem vR (a b:Nat):(cmpI a b<0↔a<b)/\(cmpI a b=0↔a=b)/\(0<cmpI a b↔b<a):=by
 unfold cmpI;split
 ·omega
 ·split<;>omega
theorem zch {a b:Nat}(h:(dg a).length<(dg b).length):a<b:=by
 rcases Nat.lt_or_ge a b with h1|h1
 ·exact h1
 ·have:=yC h1;omega
theorem YU {la lb:List Nat}{k x y:Nat}(ha:Dig la)(hb:Dig lb)(hx:la[k]?=some x)(hy:lb[k]?=some y)(he:la.drop (k+1)=lb.drop (k+1))(h:x<y):vl la<vl lb:=by
 have e1:=KR hx;have e2:=KR hy;rw[e1,e2,he];have h1:=zV (ha.take (i:=k));rw[List.length_take,Nat.min_eq_left (by have:=jI hx;omega)] at h1;have h2:=Nat.mul_le_mul_left (B^k) (show x+1<=y from h);rw[Nat.mul_add,Nat.mul_one] at h2;omega
theorem XW {l:List Nat}{k x:Nat}(hx:l[k]?=some x):l.drop k=x :: l.drop (k+1):=by
 have:=jI hx;rw[List.drop_eq_getElem_cons this];rw[List.getElem?_eq_getElem this] at hx;cases hx;rfl
theorem Y5 (E:Nat->Option Value){a b:Nat}(ha:Sm (dg a))(hb:Sm (dg b)):DQz E 95 [natD a,natD b] (.data (intD (cmpI a b))):=by
 refine dcA Tryz.func95 Tryz.ntmps95 (rs:=[.tmp 4]) fun _ _ _ _ _=>?_
 obtain⟨la,hla⟩:∃la,dg a=la:=⟨_,rfl⟩;obtain⟨lb,hlb⟩:∃lb,dg b=lb:=⟨_,rfl⟩;have hda:=kZ a;have hdb:=kZ b;have hva:=q9 a;have hvb:=q9 b;have hlt:(dg a).length<(dg b).length->a<b:=zch;have hgt:(dg b).length<(dg a).length->b<a:=zch;unfold Sm at ha hb;rw[hla] at ha hda hva hlt hgt;rw[hlb] at hb hdb hvb hlt hgt;simp -implicitDefEqProofs only[go_sem,hla,hlb];refine wN (fun h=>?_) (fun h=>?_)
 ·simp -implicitDefEqProofs only[go_sem,hla,hlb];refine wN (fun h2=>?_) (fun h2=>?_)
  ·simp -implicitDefEqProofs only[go_sem,finK];have:=hlt (by have:=of_decide_eq_true h2;omega);unfold cmpI;rw[if_pos this]
  ·simp -implicitDefEqProofs only[go_sem,finK];have h3:=of_decide_eq_false h2;have:=hgt (by simp at h;omega);unfold cmpI;rw[if_neg (by omega),if_neg (by omega)]
 ·have hlen:la.length=lb.length:=by simp at h;omega
  simp -implicitDefEqProofs only[go_sem,hla,hlb];rw[wu];refine wm (α:={k:Nat // k<=la.length/\la.drop k=lb.drop k}) (fun k=>St.of [(0,.d (digD la)),(1,.d (digD lb)),(5,.d (intD ((k.1:Int)-1)))] []) (fun k=>k.1)
   ⟨la.length,Nat.le_refl _,by rw[List.drop_length,hlen,List.drop_length]⟩ (we ?_ ?_ rfl) (by kernel_rfl) (fun k=>?_)
  ·have e:IntKind.i64.wrap ((la.length:Int)-1)=(la.length:Int)-1:=w64 (by omega);simp -implicitDefEqProofs only[go_sem,hla,hlb,e]
  ·simp -implicitDefEqProofs only[go_sem]
  ·obtain⟨k,hk,he⟩:=k;by_cases h0:k=0
   ·have e0:decide ((k:Int)-1>=0)=false:=fD (by omega);have e00:decide (0<=(k:Int)-1)=false:=fD (by omega);simp -implicitDefEqProofs only[go_sem,e0,e00,finK];have:a=b:=by rw[h0,List.drop_zero,List.drop_zero] at he;rw[<-hva,<-hvb,he]
    unfold cmpI;rw[if_neg (by omega),if_pos this]
   ·obtain⟨m,rfl⟩:∃m,k=m+1:=⟨k-1,by omega⟩;obtain⟨x,hx⟩:=wJ (l:=la) (i:=m) (by omega);obtain⟨y,hy⟩:=wJ (l:=lb) (i:=m) (by omega);have hxl:=jI hx;have hyl:=jI hy;have ek:((m+1:Nat):Int)-1=(m:Int):=by omega
    have e0:decide ((m:Int)>=0)=true:=tD (by omega);simp -implicitDefEqProofs only[go_sem,ek,e0];refine drw ?_;simp -implicitDefEqProofs only[go_sem,ek,hxl,hyl,jd hx,jd hy,dD];refine wN (fun h=>?_) (fun h=>?_)
    ·have hne:x≠y:=by simp at h;omega
     simp -implicitDefEqProofs only[go_sem];refine drw ?_;simp -implicitDefEqProofs only[go_sem,ek,hxl,hyl,jd hx,jd hy,dD];refine wN (fun h=>?_) (fun h=>?_)
     ·have:=YU hda hdb hx hy he (by have:=of_decide_eq_true h;omega);rw[hva,hvb] at this;simp -implicitDefEqProofs only[go_sem,finK];unfold cmpI;rw[if_pos this]
     ·have:=YU hdb hda hy hx he.symm (by have:=of_decide_eq_false h;omega);rw[hva,hvb] at this;simp -implicitDefEqProofs only[go_sem,finK];unfold cmpI;rw[if_neg (by omega),if_neg (by omega)]
    ·have heq:x=y:=by simp at h;omega
     have e1:IntKind.i64.wrap ((m:Int)-1)=(m:Int)-1:=w64 (by omega);simp -implicitDefEqProofs only[go_sem,ek,e1];refine⟨⟨m,by omega,by rw[XW hx,XW hy,he,heq]⟩,we ?_ ?_ rfl,by simp only;omega⟩<;>simp -implicitDefEqProofs only[go_sem]
theorem HL {la lb l:List Nat}{i c x y:Nat}(hl:Dig l)(hi:l.length=i)(hv:vl l+vl (lb.take i)=vl (la.take i)+B^i*c)(hx:vl (la.take (i+1))=vl (la.take i)+B^i*x)(hy:vl (lb.take (i+1))=vl (lb.take i)+B^i*y){d c':Nat}(hd:d<B)(he:d+c+y=x+B*c') :
  Dig (l++[d])/\vl (l++[d])+vl (lb.take (i+1))=vl (la.take (i+1))+B^(i+1)*c':=by
 refine⟨hl.snoc hd,?_⟩;rw[WS,hi,hx,hy,Nat.pow_succ,Nat.mul_assoc];have:=congrArg (fun z=>B^i*z) he;simp only[Nat.mul_add] at this;omega
theorem VY (E:Nat->Option Value){a b:Nat}(ha:Sm (dg a))(hab:b<=a):DQz E 96 [natD a,natD b] (.data (natD (a-b))):=by
 refine dcA Tryz.func96 Tryz.ntmps96 (rs:=[.tmp 4]) fun _ _ _ _ _=>?_
 have hb:Sm (dg b):=Nat.le_trans (yC hab) ha;have hlen:(dg b).length<=(dg a).length:=yC hab;obtain⟨la,hla⟩:∃la,dg a=la:=⟨_,rfl⟩;obtain⟨lb,hlb⟩:∃lb,dg b=lb:=⟨_,rfl⟩;have hda:=kZ a;have hdb:=kZ b;have hva:=q9 a;have hvb:=q9 b;unfold Sm at ha hb;rw[hla] at ha hda hva hlen;rw[hlb] at hb hdb hvb hlen;simp -implicitDefEqProofs only[go_sem,hla,hlb];rw[wu];refine jF 5 38 3 1 rfl rfl ?_;refine wm (α:={p:Nat×Nat×List Nat // Dig p.2.2/\p.2.2.length=p.1/\p.2.1<=1/\vl p.2.2+vl (lb.take p.1)=vl (la.take p.1)+B^p.1*p.2.1/\p.1<=la.length})
  (fun p=>St.of [(0,.d (digD la)),(1,.d (digD lb)),(5,.gs 38),(6,.d (intD p.1.2.1)),(7,.d (intD p.1.1))] [(38,⟨some (3,1,true),digT p.1.2.2⟩)]) (fun p=>la.length-p.1.1)
  ⟨(0,0,[]),by intro d hd;simp at hd,rfl,by simp,by simp[vl],by simp⟩ (we ?_ ?_ rfl) (by kernel_rfl) (fun p=>?_)
 ·simp -implicitDefEqProofs only[go_sem,upd,hla,hlb]
 ·simp -implicitDefEqProofs only[go_sem,upd,digT]
 ·obtain⟨⟨i,c,l⟩,hl,hi,hc,hv,hm⟩:=p;simp only at hl hi hc hv hm;have hmax:=mxE;by_cases hA:i<la.length
  ·obtain⟨x,hx⟩:=wJ hA;have hx2:x<16777216:=hda.get hx;have eA:decide ((i:Int)<(la.length:Int))=true:=tD (by omega);have main:∀y,y<16777216->vl (lb.take (i+1))=vl (lb.take i)+B^i*y->∀d c',d<16777216->c'<=1->d+c+y=x+16777216*c' ->
    ∃p':{p:Nat×Nat×List Nat // Dig p.2.2/\p.2.2.length=p.1/\p.2.1<=1/\vl p.2.2+vl (lb.take p.1)=vl (la.take p.1)+B^p.1*p.2.1/\p.1<=la.length},p'.1=(i+1,c',l++[d]):=fun y hy hy2 d c' hd hc' he=>by
     obtain⟨g1,g2⟩:=HL hl hi hv (j9 hx) hy2 hd he;exact⟨⟨(i+1,c',l++[d]),g1,by simp[hi],hc',g2,hA⟩,rfl⟩
   by_cases hB:i<lb.length
   ·obtain⟨y,hy⟩:=wJ hB;have hy2:y<16777216:=hdb.get hy;have eB:decide ((i:Int)<(lb.length:Int))=true:=tD (by omega);have w1:IntKind.i64.wrap ((x:Int)-(c:Int))=(x:Int)-c:=w64 (by omega);have w2:IntKind.i64.wrap ((x:Int)-(c:Int)-(y:Int))=(x:Int)-c-y:=w64 (by omega);simp -implicitDefEqProofs only[go_sem,eA,hA,jd hx,dD,w1,eB,hB,jd hy,w2];refine wN (fun h=>?_) (fun h=>?_)
    ·have hn:=of_decide_eq_true h;have w3:IntKind.i64.wrap ((x:Int)-(c:Int)-(y:Int)+16777216)=((x+16777216-c-y:Nat):Int):=by rw[w64 (by omega)];omega
     simp  -implicitDefEqProofs (disch:=first|omega|decide) only[go_sem,w3,wL];refine⟨by omega,by omega,?_⟩;obtain⟨p',hp'⟩:=main y hy2 (j9 hy) (x+16777216-c-y) 1 (by omega) (by omega) (by omega);refine⟨p',we ?_ ?_ (by simp[wv,jc,wG,T.ref]),by rw[hp'];omega⟩
     ·simp -implicitDefEqProofs only[go_sem,hp'];exact .inl rfl
     ·simp -implicitDefEqProofs only[go_sem,hp']
    ·have hn:=of_decide_eq_false h;have w3:(x:Int)-(c:Int)-(y:Int)=((x-c-y:Nat):Int):=by omega
     simp  -implicitDefEqProofs (disch:=first|omega|decide) only[go_sem,w3,wL];refine⟨by omega,by omega,?_⟩;obtain⟨p',hp'⟩:=main y hy2 (j9 hy) (x-c-y) 0 (by omega) (by omega) (by omega);refine⟨p',we ?_ ?_ (by simp[wv,jc,wG,T.ref]),by rw[hp'];omega⟩<;>simp -implicitDefEqProofs only[go_sem,hp']
   ·have eB:decide ((i:Int)<(lb.length:Int))=false:=fD (by omega);have w1:IntKind.i64.wrap ((x:Int)-(c:Int))=(x:Int)-c:=w64 (by omega);simp -implicitDefEqProofs only[go_sem,eA,hA,jd hx,dD,w1,eB];refine wN (fun h=>?_) (fun h=>?_)
    ·have hn:=of_decide_eq_true h;have w3:IntKind.i64.wrap ((x:Int)-(c:Int)+16777216)=((x+16777216-c:Nat):Int):=by rw[w64 (by omega)];omega
     simp  -implicitDefEqProofs (disch:=first|omega|decide) only[go_sem,w3,wL];refine⟨by omega,by omega,?_⟩;obtain⟨p',hp'⟩:=main 0 (by omega) (yN (by omega)) (x+16777216-c) 1 (by omega) (by omega) (by omega);refine⟨p',we ?_ ?_ (by simp[wv,jc,wG,T.ref]),by rw[hp'];omega⟩
     ·simp -implicitDefEqProofs only[go_sem,hp'];exact .inl rfl
     ·simp -implicitDefEqProofs only[go_sem,hp']
    ·have hn:=of_decide_eq_false h;have w3:(x:Int)-(c:Int)=((x-c:Nat):Int):=by omega
     simp  -implicitDefEqProofs (disch:=first|omega|decide) only[go_sem,w3,wL];refine⟨by omega,by omega,?_⟩;obtain⟨p',hp'⟩:=main 0 (by omega) (yN (by omega)) (x-c) 0 (by omega) (by omega) (by omega);refine⟨p',we ?_ ?_ (by simp[wv,jc,wG,T.ref]),by rw[hp'];omega⟩<;>simp -implicitDefEqProofs only[go_sem,hp']
  ·have eA:decide ((i:Int)<(la.length:Int))=false:=fD (by omega);simp -implicitDefEqProofs only[go_sem,eA];have hll:vl l<B^i:=by rw[<-hi];exact zV hl
   rw[jp (by omega),jp (by omega),hva,hvb] at hv;have hc0:c=0:=by
    rcases Nat.eq_zero_or_pos c with h|h
    ·exact h
    ·have:c=1:=by omega
     rw[this] at hv;omega
   have hvl:vl l=a-b:=by rw[hc0] at hv;omega
   refine cI (Vr _ l hl (by omega)) ?_;simp -implicitDefEqProofs only[go_sem,finK,hvl]
end Go.Enc
end
section
namespace Go.Enc
open Go.Proofs Go.Enc.Dg
theorem WP (n:Nat):List.replicate n (T.d (D.v (Value.int IntKind.i64 0)))=digT (List.replicate n 0):=by
 simp[digT,dD]
theorem X1 (l:List Nat)(k x:Nat):(digT l).set k (T.d (D.v (Value.int IntKind.i64 (x:Int))))=digT (l.set k x):=zdf l k x
theorem KX {l:List Nat}{k z c m n:Nat}{V W:Nat}(hl:Dig l)(hz:l[k]?=some z)(hv:vl l+c*B^k=V)(hn:n=z+c+m)(hW:V+B^k*m=W) :
  Dig (l.set k (n % 16777216))/\vl (l.set k (n % 16777216))+(n/16777216)*B^(k+1)=W:=by
 refine⟨hl.set (Nat.mod_lt _ (by decide)),?_⟩;have h1:=zbD l k z (n % 16777216) hz;have h2:n % 16777216+B*(n/16777216)=n:=Nat.mod_add_div _ _;have h3:=congrArg (fun q=>B^k*q) h2;simp only[Nat.mul_add] at h3;rw[Nat.pow_succ,show n/16777216*(B^k*B)=B^k*(B*(n/16777216)) by rw[Nat.mul_comm,Nat.mul_assoc]];rw[Nat.mul_comm c] at hv;have h4:B^k*n=B^k*z+B^k*c+B^k*m:=by rw[hn,Nat.mul_add,Nat.mul_add]
 omega
theorem mulN {x y:Nat}(hx:x<16777216)(hy:y<16777216):IntKind.i64.wrap ((x:Int)*(y:Int))=((x*y:Nat):Int)/\x*y<=281474943156225:=by
 have h:x*y<=16777215*16777215:=Nat.mul_le_mul (by omega) (by omega);have e:((x:Int)*(y:Int))=((x*y:Nat):Int):=by rw[Int.natCast_mul]
 rw[e];exact⟨w64 (by omega),by omega⟩
@[go_sem] theorem ziY (E:Nat->Option Value)(σ0:Mem)(w0:World)(base nt kb:Nat)(df:List Deferred)(G0:Gh)(s:St)(d:Nat)(n:Int)(K:St->Prop):QC ⟨Tryz.prog,E,σ0,w0,base,nt,kb,df,G0⟩ s d 68 (.d (.v (.int .i64 n))) (.d (.v (.int .i64 n))) K =
  (0<=n/\n.toNat*8<=281474976710656/\n.toNat<=maxLen/\s.h (kb+d)=none/\K (s.row kb d ⟨some (3,1,false),List.replicate n.toNat (.d (.v (.int .i64 0)))⟩)):=by
 have h:slT Tryz.prog 68=some (3,1,8,[.int .i64 0]):=by kernel_rfl
 simp only[QC,h,Nat.mul_one,true_and];have:Vj (Value.int .i64 0) [Value.int .i64 0]=true:=by decide
 simp only[this,true_and]
theorem Ku (E:Nat->Option Value){a b:Nat}(ha:Sm (dg a))(hb:Sm (dg b)):DQz E 97 [natD a,natD b] (.data (natD (a*b))):=by
 refine dcA Tryz.func97 Tryz.ntmps97 (rs:=[.tmp 4]) fun _ _ _ _ _=>?_
 obtain⟨la,hla⟩:∃la,dg a=la:=⟨_,rfl⟩;obtain⟨lb,hlb⟩:∃lb,dg b=lb:=⟨_,rfl⟩;have hda:=kZ a;have hdb:=kZ b;have hva:=q9 a;have hvb:=q9 b;have hltb:=X3 b;unfold Sm at ha hb;rw[hla] at ha hda hva;rw[hlb] at hb hdb hvb hltb;have hmax:=mxE;simp  -implicitDefEqProofs (disch:=first|omega|decide) only[go_sem,hla,hlb,addN,WP];refine⟨by omega,by omega,?_⟩;rw[wu];refine wm (α:={p:Nat×List Nat // Dig p.2/\p.2.length=la.length+lb.length/\vl p.2=vl (la.take p.1)*b/\p.1<=la.length})
  (fun p=>St.of [(0,.d (digD la)),(1,.d (digD lb)),(5,.gs 15),(6,.d (intD p.1.1))] [(15,⟨some (3,1,false),digT p.1.2⟩)]) (fun p=>la.length-p.1.1)
  ⟨(0,List.replicate (la.length+lb.length) 0),XZ _,by simp,by simp[KQ,vl],by simp⟩ (we ?_ ?_ (by simp[wv,jc,wG,T.ref])) (by kernel_rfl) (fun p=>?_)
 ·simp -implicitDefEqProofs only[go_sem,hla,hlb]
 ·simp -implicitDefEqProofs only[go_sem,WP]
 ·obtain⟨⟨i,l⟩,hl,hlen,hv,hm⟩:=p;simp only at hl hlen hv hm;by_cases hA:i<la.length
  ·obtain⟨x,hx⟩:=wJ hA;have hx2:x<16777216:=hda.get hx;have eA:decide ((i:Int)<(la.length:Int))=true:=tD (by omega);simp -implicitDefEqProofs only[go_sem,eA];rw[wu];refine wm (α:={p:Nat×Nat×List Nat // Dig p.2.2/\p.2.2.length=la.length+lb.length/\p.2.1<16777216/\vl p.2.2+p.2.1*B^(i+p.1)=vl (la.take i)*b+B^i*x*vl (lb.take p.1)/\p.1<=lb.length+1})
    (fun p=>St.of [(0,.d (digD la)),(1,.d (digD lb)),(5,.gs 15),(6,.d (intD i)),(7,.d (intD p.1.2.1)),(8,.d (intD p.1.1))] [(15,⟨some (3,1,false),digT p.1.2.2⟩)]) (fun p=>lb.length+1-p.1.1)
    ⟨(0,0,l),hl,hlen,by simp,by simp[vl];omega,by simp⟩ (we ?_ ?_ (by simp[wv,jc,wG,T.ref])) (by kernel_rfl) (fun p=>?_)
   ·simp -implicitDefEqProofs only[go_sem]
   ·simp -implicitDefEqProofs only[go_sem]
   ·obtain⟨⟨j,c,l⟩,hl,hlen,hc,hv,hj⟩:=p;simp only at hl hlen hc hv hj;by_cases hB:j<lb.length
    ·obtain⟨y,hy⟩:=wJ hB;have hy2:y<16777216:=hdb.get hy;have eB:decide ((j:Int)<(lb.length:Int))=true:=tD (by omega);obtain⟨z,hz⟩:=wJ (l:=l) (i:=i+j) (by omega);have hz2:z<16777216:=hl.get hz;have hzl:i+j<l.length:=jI hz;obtain⟨m1,m2⟩:=mulN hx2 hy2;simp  -implicitDefEqProofs (disch:=first|omega|decide) only[go_sem,eB,addN,hzl,YW hz,dD];refine drw ?_;simp  -implicitDefEqProofs (disch:=first|omega|decide) only[go_sem,hA,hB,jd hx,jd hy,dD,m1,addN,wL,modB,divB,hzl];refine⟨by omega,?_⟩;obtain⟨g1,g2⟩:=KX (m:=x*y) hl hz hv rfl (W:=vl (la.take i)*b+B^i*x*vl (lb.take (j+1))) (by
      rw[j9 hy,Nat.mul_add,Nat.pow_add,Nat.add_assoc];congr 2;rw[Nat.mul_assoc,Nat.mul_assoc];congr 1;rw[<-Nat.mul_assoc,<-Nat.mul_assoc,Nat.mul_comm x])
     refine⟨⟨(j+1,(z+c+x*y)/16777216,l.set (i+j) ((z+c+x*y) % 16777216)),g1,by simp[hlen],?_,g2,by simp only;omega⟩,we ?_ ?_ (by simp[wv,jc,wG,T.ref]),by simp only;omega⟩
     ·simp only;omega
     ·simp -implicitDefEqProofs only[go_sem]
     ·simp -implicitDefEqProofs only[go_sem,X1]
    ·have eB:decide ((j:Int)<(lb.length:Int))=false:=fD (by omega);by_cases hC:c=0
     ·have eC:decide ((c:Int)>0)=false:=fD (by omega);simp  -implicitDefEqProofs (disch:=first|omega|decide) only[go_sem,eB,eC,wL];refine⟨⟨(i+1,l),hl,hlen,?_,by simp only;omega⟩,we ?_ ?_ (by simp[wv,jc,wG,T.ref]),by simp only;omega⟩
      ·simp only;rw[jp (l:=lb) (by omega),hvb,hC] at hv;rw[j9 hx,Nat.add_mul,<-hv];omega
      ·simp -implicitDefEqProofs only[go_sem]
      ·simp -implicitDefEqProofs only[go_sem]
     ·have eC:decide ((c:Int)>0)=true:=tD (by omega);have hjl:j=lb.length:=by
       rcases Nat.eq_or_lt_of_le (show lb.length<=j by omega) with h|h
       ·omega
       ·exfalso;have hj1:j=lb.length+1:=by omega
        have h1:vl (la.take (i+1))<B^(i+1):=by
         have:=zV (hda.take (i:=i+1))
         rwa [List.length_take,Nat.min_eq_left (by omega)] at this
        rw[jp (l:=lb) (by omega),hvb] at hv;have h2:vl l+c*B^(i+j)=vl (la.take (i+1))*b:=by rw[hv,j9 hx,Nat.add_mul]
        have h3:vl (la.take (i+1))*b<=vl (la.take (i+1))*B^lb.length:=Nat.mul_le_mul_left _ (Nat.le_of_lt hltb);have h4:vl (la.take (i+1))*B^lb.length<B^(i+1)*B^lb.length:=Nat.mul_lt_mul_of_pos_right h1 (Nat.pow_pos (by decide));rw[<-Nat.pow_add] at h4;have h5:B^(i+j)<=c*B^(i+j):=Nat.le_mul_of_pos_left _ (by omega);rw[show i+1+lb.length=i+j by omega] at h4;omega
      obtain⟨z,hz⟩:=wJ (l:=l) (i:=i+j) (by omega);have hz2:z<16777216:=hl.get hz;have hzl:i+j<l.length:=jI hz;simp  -implicitDefEqProofs (disch:=first|omega|decide) only[go_sem,eB,eC,addN,wL,hzl,YW hz,dD,modB,divB];refine⟨by omega,?_⟩;obtain⟨g1,g2⟩:=KX (m:=0) (n:=z+c) hl hz hv rfl (W:=vl (la.take i)*b+B^i*x*vl (lb.take (j+1))) (by
       rw[jp (l:=lb) (i:=j) (by omega),jp (l:=lb) (i:=j+1) (by omega)];omega)
      refine⟨⟨(j+1,(z+c)/16777216,l.set (i+j) ((z+c) % 16777216)),g1,by simp[hlen],?_,g2,by simp only;omega⟩,we ?_ ?_ (by simp[wv,jc,wG,T.ref]),by simp only;omega⟩
      ·simp only;omega
      ·simp -implicitDefEqProofs only[go_sem]
      ·simp -implicitDefEqProofs only[go_sem,X1]
  ·have eA:decide ((i:Int)<(la.length:Int))=false:=fD (by omega);simp -implicitDefEqProofs only[go_sem,eA];refine cI (Vr _ l hl (by omega)) ?_;rw[jp (by omega),hva] at hv;simp -implicitDefEqProofs only[go_sem,finK,hv]
end Go.Enc
end
end
section
namespace Go.Enc
open Go.Proofs Go.Enc.Dg
theorem Kp (n:Nat):B^n=2^(24*n):=by rw[Nat.pow_mul]
theorem div2 {n:Nat}(h:n<9223372036854775808):IntKind.i64.wrap ((n:Int).tdiv 2)=((n/2:Nat):Int):=by
 rw[Int.tdiv_eq_ediv_of_nonneg (by omega),w64 (by omega)];omega
theorem Rr {n:Nat}(h:n<9223372036854775808):IntKind.i64.wrap ((n:Int).tdiv 24)=((n/24:Nat):Int):=by
 rw[Int.tdiv_eq_ediv_of_nonneg (by omega),w64 (by omega)];omega
theorem zcY {n:Nat}:(n:Int).tmod 24=((n % 24:Nat):Int):=by rw[Int.tmod_eq_emod_of_nonneg (by omega)];omega
theorem zkt {n:Nat}(h:n<1099511627776):IntKind.i64.wrap (24*(n:Int))=((24*n:Nat):Int):=by rw[w64 (by omega)];omega
theorem Hh:vl []=0:=rfl
end Go.Enc
end
section
namespace Go.Enc
open Go.Proofs Go.Enc.Dg
theorem nlt0 (n:Nat):((n:Int)<0)=False:=by simp
theorem zgo {r:Nat}(h:r<24):IntKind.i64.wrap (1*2^(min r 64))=((2^r:Nat):Int):=by
 rw[Nat.min_eq_left (by omega),Int.one_mul];have h1:(2:Nat)^r<=2^23:=Nat.pow_le_pow_right (by decide) (by omega);have e:((2:Int)^r)=((2^r:Nat):Int):=by rw[Int.natCast_pow];rfl
 rw[e];generalize (2:Nat)^r=q at *;exact w64 (by omega)
theorem zdh (l m:List Nat):digT l++digT m=digT (l++m):=by simp[digT]
attribute [go_sem] nlt0
theorem zeg {a k:Nat}(h:a≠0):dg (a*2^k)=List.replicate (k/24) 0++dg (a*2^(k % 24)):=by
 have h0:a*2^(k % 24)≠0:=Nat.mul_ne_zero h (Nat.pos_iff_ne_zero.1 (Nat.pow_pos (by decide)));have e:vl (List.replicate (k/24) 0++dg (a*2^(k % 24)))=a*2^k:=by
  rw[zW,KQ,q9,List.length_replicate,Kp,Nat.zero_add,Nat.mul_left_comm,<-Nat.pow_add,Nat.div_add_mod]
 rw[<-e];refine YX ((XZ _).app (kZ _)) (.inr ?_);rw[zW,KQ,q9,List.length_append,List.length_replicate,Nat.zero_add];have hp:0<(dg (a*2^(k % 24))).length:=Nat.pos_of_ne_zero fun e=>h0 (y7.1 e)
 rw[show k/24+(dg (a*2^(k % 24))).length-1=k/24+((dg (a*2^(k % 24))).length-1) by omega,Nat.pow_add];exact Nat.mul_le_mul_left _ (Rs h0)
theorem zkT {n k:Nat}(h:n<2^k)(hk:k<=24000000):Sm (dg n):=by
 refine Nat.le_trans (X4 (i:=k/24+1) (Nat.lt_of_lt_of_le h ?_)) (by omega);rw[Kp];exact Nat.pow_le_pow_right (by decide) (by omega)
def Bd (n k:Nat):Prop:=n<2^k
theorem Bd.sm {n k:Nat}(h:Bd n k)(hk:k<=24000000):Sm (dg n):=zkT h hk
theorem Bd.up {n k j:Nat}(h:Bd n k):Bd (n*2^j) (k+j):=by
 unfold Bd at *;rw[Nat.pow_add];exact Nat.mul_lt_mul_of_pos_right h (Nat.pow_pos (by decide))
theorem Bd.mono {n k j:Nat}(h:Bd n k)(hj:k<=j):Bd n j:=Nat.lt_of_lt_of_le h (Nat.pow_le_pow_right (by decide) hj)
theorem Bd.mul {n m k j:Nat}(h:Bd n k)(g:Bd m j):Bd (n*m) (k+j):=by
 unfold Bd at *;rw[Nat.pow_add];rcases Nat.eq_zero_or_pos m with rfl|hm
 ·exact Nat.mul_pos (Nat.pow_pos (by decide)) (Nat.pow_pos (by decide))
 ·exact Nat.lt_of_lt_of_le (Nat.mul_lt_mul_of_pos_right h hm) (Nat.mul_le_mul_left _ (Nat.le_of_lt g))
theorem Bd.add {n m k:Nat}(h:Bd n k)(g:Bd m k):Bd (n+m) (k+1):=by
 unfold Bd at *;rw[Nat.pow_succ];omega
theorem Bd.le {n m k:Nat}(h:Bd n k)(g:m<=n):Bd m k:=Nat.lt_of_le_of_lt g h
theorem zha (E:Nat->Option Value){k:Nat}:DQz E 100 [natD 0,intD k] (.data (.v (.slice none 0 0))):=by
 refine dcA Tryz.func100 Tryz.ntmps100 (rs:=[.tmp 4]) fun _ _ _ _ _=>?_
 simp -implicitDefEqProofs only[go_sem,jU,beq_self_eq_true,finK]
theorem up_c (E:Nat->Option Value){a k n:Nat}(ha:Bd a n)(hn:n<=12000000)(hk:k<=12000000):DQz E 100 [natD a,intD k] (.data (natD (a*2^k))):=by
 by_cases h0:a=0
 ·subst h0;refine(zha E).weak fun σ u h=>?_
  rw[Nat.zero_mul,natD,jU];simp only[Rep] at h;simp only[digD,List.map_nil,Rep];exact .inl ⟨h,trivial⟩
 refine dcA Tryz.func100 Tryz.ntmps100 (rs:=[.tmp 4]) fun _ _ _ _ _=>?_
 have hmax:=mxE;have e0:(((dg a).length:Int)==0)=false:=by
  rw[beq_eq_false_iff_ne];have:(dg a).length≠0:=fun e=>h0 (y7.1 e)
  omega
 have hr:k % 24<24:=Nat.mod_lt _ (by decide);have w1:IntKind.i64.wrap ((k:Int).tdiv 24)=((k/24:Nat):Int):=Rr (by omega);have w2:(k:Int).tmod 24=((k % 24:Nat):Int):=zcY;have w3:=zgo hr;simp -implicitDefEqProofs only[go_sem,e0,w1,w2,w3];refine⟨by omega,by omega,?_⟩;have h2:(2:Nat)^(k % 24)<=2^23:=Nat.pow_le_pow_right (by decide) (by omega);refine cI (qI _ (2^(k % 24)) (Nat.lt_of_le_of_lt h2 (by decide))) ?_;simp -implicitDefEqProofs only[go_sem];refine cI (Ku _ (ha.sm (by omega)) (Bd.sm (k:=24) (Nat.lt_of_le_of_lt h2 (by decide)) (by omega))) ?_;have hl:=(Bd.up (j:=k % 24) ha).sm (by omega);unfold Sm at hl;simp -implicitDefEqProofs only[go_sem,WP,YV,zdh,X2];refine⟨?_,?_,?_⟩
 ·simp only[List.length_append,List.length_replicate];omega
 ·simp only[List.length_append,List.length_replicate];omega
 ·simp -implicitDefEqProofs only[go_sem,finK,zeg (k:=k) h0]
end Go.Enc
end
