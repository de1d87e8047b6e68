/-
  Natural numbers by their digits: divided by a power of two.
-/
import Derived.Test.YtjlibljfpkmpfaaGreatDoorSa13
import Derived.Test.YtjlibljfpkmpfaaGreatDoorSa12
set_option maxRecDepth 100000
set_option linter.unusedSimpArgs false
set_option linter.unusedVariables false
namespace Go.Enc
open Go.Proofs Go.Enc.Dg Go.Enc.Nu
theorem shrS {x s:Nat}(h:s<24):(x:Int).fdiv (2^min s 64)=((x/2^s:Nat):Int):=by
 rw[Nat.min_eq_left (by omega),Int.fdiv_eq_ediv_of_nonneg _ (Int.pow_nonneg (by decide))];rw[Int.natCast_ediv,Int.natCast_pow];rfl
theorem remN {n d:Nat}:(n:Int).tmod (d:Int)=((n % d:Nat):Int):=by rw[Int.tmod_eq_emod_of_nonneg (by omega),Int.natCast_emod]
theorem zfF (s:Nat):(((2^s:Nat):Int)=0)=False:=by
 have:0<2^s:=Nat.pow_pos (by decide);generalize 2^s=p at *;rw[eq_iff_iff];constructor
 ·intro h;omega
 ·exact False.elim
theorem shlN {n s:Nat}(h:s<=24)(hn:n<16777216):IntKind.i64.wrap ((n:Int)*2^min s 64)=((n*2^s:Nat):Int):=by
 rw[Nat.min_eq_left (by omega)];have h1:(2:Nat)^s<=2^24:=Nat.pow_le_pow_right (by decide) h;have e:((n:Int)*(2:Int)^s)=((n*2^s:Nat):Int):=by rw[Int.natCast_mul,Int.natCast_pow];rfl
 rw[e];have h2:n*2^s<=16777215*16777216:=Nat.mul_le_mul (by omega) h1;generalize n*2^s=q at *;exact w64 (by omega)
theorem zae {l c:List Nat}{u x y p r V:Nat}(hx:l[u]?=some x)(hc:Dig c)(hcl:c.length=u)(hp:p*r=16777216)(hx2:x<16777216)(hp0:0<p)(hv:vl c*p+V=vl (l.take u)+B^u*(x % p)) :
  Dig (c++[x/p+y % p*r])/\vl (c++[x/p+y % p*r])*p+V=vl (l.take (u+1))+B^(u+1)*(y % p)/\x/p+y % p*r<16777216:=by
 have h1:x/p<r:=(Nat.div_lt_iff_lt_mul hp0).2 (by rw[Nat.mul_comm,hp];exact hx2);have h2:y % p<p:=Nat.mod_lt _ hp0;have h3:(y % p+1)*r<=p*r:=Nat.mul_le_mul_right r h2;rw[Nat.add_mul,Nat.one_mul,hp] at h3;have h4:x/p+y % p*r<16777216:=by omega
 refine⟨hc.snoc h4,?_,h4⟩;rw[WS,hcl,j9 hx,Nat.pow_succ];have h5:x/p*p+x % p=x:=Nat.div_add_mod' x p;have e1:B^u*(x/p+y % p*r)*p=B^u*(x/p*p)+B^u*B*(y % p):=by
  rw[Nat.mul_assoc,Nat.add_mul,Nat.mul_add,Nat.mul_assoc (B^u) B];congr 2;rw[Nat.mul_assoc,Nat.mul_comm r p,hp,Nat.mul_comm]
 have e2:B^u*x=B^u*(x/p*p)+B^u*(x % p):=by rw[<-Nat.mul_add,h5]
 rw[Nat.add_mul,e1,e2];omega
theorem zfZ {a k m s:Nat}(hk:k=24*m+s):(a % 2^k=0)↔(a % B^m=0/\a/B^m % 2^s=0):=by
 rw[hk,Nat.pow_add,<-Kp,Nat.mod_mul];have h1:0<B^m:=Nat.pow_pos (by decide);constructor
 ·intro h;obtain⟨h0,h2⟩:=Nat.add_eq_zero_iff.1 h;rcases Nat.mul_eq_zero.1 h2 with h3|h3
  ·omega
  ·exact⟨h0,h3⟩
 ·rintro⟨h2,h3⟩;rw[h2,h3];simp
theorem zgC {l:List Nat}{x s:Nat}(h:l[0]?=some x)(hs:s<=24):vl l % 2^s=x % 2^s:=by
 cases l with
 |nil=>simp at h
 |cons d l=>
  simp only[List.getElem?_cons_zero,Option.some.injEq] at h;subst h
  show(d+B*vl l) % 2^s=d % 2^s
  have hB:B=2^s*2^(24-s):=by rw[<-Nat.pow_add,show s+(24-s)=24 by omega]
  rw[hB,Nat.mul_assoc,Nat.add_mul_mod_self_left]
theorem zdb (E:Nat->Option Value){a k:Nat}(ha:Sm (dg a))(hk:k<=24000000)(hm:(dg a).length<=k/24):DQz E 130 [natD a,intD k] (.data (.tup [.v (.slice none 0 0),bD (decide (a=0))])):=by
 refine dcA Tryz.func130 Tryz.ntmps130 (rs:=[.tmp 4,.tmp 5]) fun _ _ _ _ _=>?_
 obtain⟨la,hla⟩:∃la,dg a=la:=⟨_,rfl⟩;have hda:=kZ a;have hva:=q9 a;unfold Sm at ha;rw[hla] at ha hda hva hm;obtain⟨m,hmk⟩:∃m,k/24=m:=⟨_,rfl⟩;have hdiv:=Rr (n:=k) (by omega);rw[hmk] at hm hdiv;simp -implicitDefEqProofs only[go_sem,hla];rw[wu];refine wm (α:={i:Nat // i<=la.length}) (fun i=>St.of [(0,.d (digD la)),(1,.d (intD k)),(6,.d (bD (decide (vl (la.take i.1)=0)))),(7,.d (intD i.1))] []) (fun i=>la.length-i.1)
  ⟨0,Nat.zero_le _⟩ (we ?_ ?_ rfl) (by kernel_rfl) (fun i=>?_)
 ·simp -implicitDefEqProofs only[go_sem,hla,List.take_zero,Hh]
 ·simp -implicitDefEqProofs only[go_sem]
 ·obtain⟨i,hi⟩:=i;by_cases hA:i<la.length
  ·obtain⟨x,hx⟩:=wJ hA;have eM:decide ((i:Int)<(m:Int))=true:=tD (by omega);have eA:decide ((i:Int)<(la.length:Int))=true:=tD (by omega);have w1:=wL (c:=i) (by omega);have hB:0<B^i:=Nat.pow_pos (by decide);have hstep:(vl (la.take (i+1))=0)↔(vl (la.take i)=0/\x=0):=by
    rw[j9 hx];constructor
    ·intro h;have h2:B^i*x=0:=by omega
     rcases Nat.mul_eq_zero.1 h2 with h3|h3
     ·omega
     ·exact⟨by omega,h3⟩
    ·rintro⟨h2,h3⟩;rw[h2,h3,Nat.mul_zero]
   obtain⟨x',hx'⟩:∃x':{i:Nat // i<=la.length},x'.1=i+1:=⟨⟨i+1,hA⟩,rfl⟩;by_cases hz:vl (la.take i)=0
   ·have eZ:decide (vl (la.take i)=0)=true:=tD hz;have eX:(((x:Int)==0):Bool)=decide (vl (la.take (i+1))=0):=by
     rw[Bool.eq_iff_iff,beq_iff_eq,decide_eq_true_eq,hstep];omega
    simp -implicitDefEqProofs only[go_sem,hdiv,eM,eA,eZ,hA,jd hx,dD,eX,w1];refine⟨x',we ?_ ?_ rfl,by simp only[hx'];omega⟩<;>simp -implicitDefEqProofs only[go_sem,hx']
   ·have eZ:decide (vl (la.take i)=0)=false:=fD hz;have eZ':decide (vl (la.take (i+1))=0)=false:=fD (fun h=>hz (hstep.1 h).1);simp -implicitDefEqProofs only[go_sem,hdiv,eM,eA,eZ,w1];refine⟨x',we ?_ ?_ rfl,by simp only[hx'];omega⟩<;>simp -implicitDefEqProofs only[go_sem,hx',eZ']
  ·have eA:decide ((i:Int)<(la.length:Int))=false:=fD (by omega);have eG:decide ((m:Int)>=(la.length:Int))=true:=tD (by omega);have hall:vl (la.take i)=a:=by rw[jp (by omega),hva]
   by_cases hM:i<m
   ·have eM:decide ((i:Int)<(m:Int))=true:=tD (by omega);simp -implicitDefEqProofs only[go_sem,hdiv,eM,eA,eG];refine wc ?_;simp -implicitDefEqProofs only[go_sem,hall]
   ·have eM:decide ((i:Int)<(m:Int))=false:=fD (by omega);simp -implicitDefEqProofs only[go_sem,hdiv,eM,eG];refine wc ?_;simp -implicitDefEqProofs only[go_sem,hall]
theorem tB' {b c:Bool}(h:b=c):T.d (D.v (Value.bool b))=T.d (D.v (Value.bool c)):=by rw[h]
structure DInv (l:List Nat)(m p V u:Nat)(c:List Nat)(x:Nat):Prop where
 dig:Dig c
 len:c.length=u
 val:vl c*p+V=vl ((l.drop m).take u)+B^u*(x % p)
def dat (l:List Nat)(i:Nat):Nat:=(l[i]?).getD 0
theorem vj {l:List Nat}{i x:Nat}(h:l[i]?=some x):dat l i=x:=by simp[dat,h]
theorem Ud {l:List Nat}{i:Nat}(h:l.length<=i):dat l i=0:=by simp[dat,List.getElem?_eq_none h]
theorem zaf (E:Nat->Option Value){a k:Nat}(ha:Sm (dg a))(hk:k<=24000000)(hm:k/24<(dg a).length):DQz E 130 [natD a,intD k] (.data (.tup [natD (a/2^k),bD (decide (a % 2^k=0))])):=by
 refine dcA Tryz.func130 Tryz.ntmps130 (rs:=[.tmp 4,.tmp 5]) fun _ _ _ _ _=>?_
 obtain⟨la,hla⟩:∃la,dg a=la:=⟨_,rfl⟩;have hda:=kZ a;have hva:=q9 a;unfold Sm at ha;rw[hla] at ha hda hva hm;obtain⟨m,hmk⟩:∃m,k/24=m:=⟨_,rfl⟩;obtain⟨s,hsk⟩:∃s,k % 24=s:=⟨_,rfl⟩;have hs:s<24:=by rw[<-hsk];exact Nat.mod_lt _ (by decide)
 have hkms:k=24*m+s:=by omega
 have hdiv:=Rr (n:=k) (by omega);have hmod:=zcY (n:=k);rw[hmk] at hm hdiv;rw[hsk] at hmod;have hmax:=mxE;simp -implicitDefEqProofs only[go_sem,hla];rw[wu];refine wm (α:={i:Nat // i<=m}) (fun i=>St.of [(0,.d (digD la)),(1,.d (intD k)),(6,.d (bD (decide (vl (la.take i.1)=0)))),(7,.d (intD i.1))] []) (fun i=>m-i.1)
  ⟨0,Nat.zero_le _⟩ (we ?_ ?_ rfl) (by kernel_rfl) (fun i=>?_)
 ·simp -implicitDefEqProofs only[go_sem,hla,List.take_zero,Hh]
 ·simp -implicitDefEqProofs only[go_sem]
 ·obtain⟨i,hi⟩:=i;have eA:decide ((i:Int)<(la.length:Int))=true:=tD (by omega);by_cases hM:i<m
  ·obtain⟨x,hx⟩:=wJ (l:=la) (i:=i) (by omega);have hA:i<la.length:=jI hx;have eM:decide ((i:Int)<(m:Int))=true:=tD (by omega);have w1:=wL (c:=i) (by omega);have hB:0<B^i:=Nat.pow_pos (by decide);have hstep:(vl (la.take (i+1))=0)↔(vl (la.take i)=0/\x=0):=by
    rw[j9 hx];constructor
    ·intro h;have h2:B^i*x=0:=by omega
     rcases Nat.mul_eq_zero.1 h2 with h3|h3
     ·omega
     ·exact⟨by omega,h3⟩
    ·rintro⟨h2,h3⟩;rw[h2,h3,Nat.mul_zero]
   obtain⟨x',hx'⟩:∃x':{i:Nat // i<=m},x'.1=i+1:=⟨⟨i+1,hM⟩,rfl⟩;by_cases hz:vl (la.take i)=0
   ·have eZ:decide (vl (la.take i)=0)=true:=tD hz;have eX:(((x:Int)==0):Bool)=decide (vl (la.take (i+1))=0):=by
     rw[Bool.eq_iff_iff,beq_iff_eq,decide_eq_true_eq,hstep];omega
    simp -implicitDefEqProofs only[go_sem,hdiv,eM,eA,eZ,hA,jd hx,dD,eX,w1];refine⟨x',we ?_ ?_ rfl,by simp only[hx'];omega⟩<;>simp -implicitDefEqProofs only[go_sem,hx']
   ·have eZ:decide (vl (la.take i)=0)=false:=fD hz;have eZ':decide (vl (la.take (i+1))=0)=false:=fD (fun h=>hz (hstep.1 h).1);simp -implicitDefEqProofs only[go_sem,hdiv,eM,eA,eZ,w1];refine⟨x',we ?_ ?_ rfl,by simp only[hx'];omega⟩<;>simp -implicitDefEqProofs only[go_sem,hx',eZ']
  ·have him:i=m:=by omega
   subst him;have eM:decide ((i:Int)<(i:Int))=false:=fD (by omega);have eG:decide ((i:Int)>=(la.length:Int))=false:=fD (by omega);obtain⟨x,hx⟩:=wJ (l:=la) (i:=i) hm;have hx2:x<16777216:=hda.get hx;have hp0:0<2^s:=Nat.pow_pos (by decide);have hpr:2^s*2^(24-s)=16777216:=by rw[<-Nat.pow_add,show s+(24-s)=24 by omega]
   have w3:=zgo hs;have eX:(((x % 2^s:Nat):Int)==0)=decide (x % 2^s=0):=by rw[Bool.eq_iff_iff,beq_iff_eq,decide_eq_true_eq];omega
   have hW:∀b:Bool,(b=decide (vl (la.take i)=0))->(b&&decide (x % 2^s=0))=decide (a % 2^k=0):=by
    rintro b rfl;have h1:=zfZ (a:=a) (k:=k) (m:=i) (s:=s) hkms;have h2:vl (la.take i)=a % B^i:=by rw[zel hda,hva]
    have h3:a/B^i % 2^s=x % 2^s:=by
     rw[<-hva,<-Zl hda,zgC (l:=la.drop i) (x:=x) (by rw[List.getElem?_drop];simpa using hx) (by omega)]
    rw[Bool.eq_iff_iff,Bool.and_eq_true,decide_eq_true_eq,decide_eq_true_eq,decide_eq_true_eq,h1,h2,h3]
   have hoth:∀y,y<16777216->IntKind.i64.wrap (((y % 2^s:Nat):Int)*2^min (24-s) 64)=((y % 2^s*2^(24-s):Nat):Int):=fun y hy=>shlN (by omega) (Nat.lt_of_le_of_lt (Nat.mod_le _ _) hy)
   have w4:IntKind.i64.wrap (24-(s:Int))=((24-s:Nat):Int):=by rw[w64 (by omega)];omega
   have hw6:decide (vl (la.take i)=0)=true\/decide (vl (la.take i)=0)=false:=by cases decide (vl (la.take i)=0)<;>simp
   have second:∀(j:Nat) (c:List Nat),i<=j->j<=la.length->DInv la i (2^s) (x % 2^s) (j-i) c (dat la j)->j<la.length->∀y,dat la j=y->∀z,dat la (j+1)=z->y<16777216->z<16777216 ->
     DInv la i (2^s) (x % 2^s) (j+1-i) (c++[y/2^s+z % 2^s*2^(24-s)]) (dat la (j+1))/\y/2^s+z % 2^s*2^(24-s)<16777216:=fun j c h1 h2 D h3 y hy z hz hy2 hz2=>by
    obtain⟨y',hy'⟩:=wJ h3;have:y'=y:=by rw[<-hy,vj hy']
    subst this;have hd:(la.drop i)[j-i]?=some y':=by rw[List.getElem?_drop,show i+(j-i)=j by omega];exact hy'
    have hv:=D.val;rw[hy] at hv;obtain⟨g1,g2,g3⟩:=zae (l:=la.drop i) (y:=z) hd D.dig D.len hpr hy2 hp0 hv;exact⟨⟨g1,by rw[List.length_append,D.len,List.length_singleton];omega,by rw[show j+1-i=j-i+1 by omega,hz];exact g2⟩,g3⟩
   have last:∀c,DInv la i (2^s) (x % 2^s) (la.length-i) c (dat la la.length)->vl c=a/2^k:=fun c D=>by
    have hv:=D.val;rw[Ud (Nat.le_refl _),Nat.zero_mod,Nat.mul_zero,Nat.add_zero,jp (by rw[List.length_drop];omega),Zl hda,hva] at hv;rw[hkms,Nat.pow_add,<-Kp,<-Nat.div_div_eq_div_mul,<-hv];have hlt:x % 2^s<2^s:=Nat.mod_lt _ hp0;rw[Nat.mul_comm,Nat.mul_add_div hp0,Nat.div_eq_of_lt hlt,Nat.add_zero]
   have start:DInv la i (2^s) (x % 2^s) (i-i) [] (dat la i):=⟨by intro d hd;simp at hd,by simp,by rw[vj hx];simp[vl]⟩;obtain⟨wb,hwb⟩:∃wb,decide (a % 2^k=0)=wb:=⟨_,rfl⟩;rw[hwb] at hW;have e10:((x:Int).tmod ((2^s:Nat):Int))=((x % 2^s:Nat):Int):=remN;have hne:=zfF s;rcases hw6 with eZ|eZ
   ·have hb:=hW true eZ.symm;rw[Bool.true_and] at hb;have tZ:=tB' eZ;simp -implicitDefEqProofs only[go_sem,hdiv,hmod,eM,eG];refine drw ?_;simp -implicitDefEqProofs only[go_sem,tZ,hdiv,hm,jd hx,dD,w3,e10,hne,eX,hb];rw[wu];refine jF 8 87 3 1 rfl rfl ?_;refine wm (α:={p:Nat×List Nat // i<=p.1/\p.1<=la.length/\DInv la i (2^s) (x % 2^s) (p.1-i) p.2 (dat la p.1)})
     (fun p=>St.of [(0,.d (digD la)),(6,.d (bD wb)),(8,.gs 87),(9,.d (intD s)),(10,.d (intD p.1.1))] [(87,⟨some (3,1,true),digT p.1.2⟩)]) (fun p=>la.length-p.1.1)
     ⟨(i,[]),Nat.le_refl _,by omega,start⟩ (we ?_ ?_ rfl) (by kernel_rfl) (fun p=>?_)
    ·simp -implicitDefEqProofs only[go_sem,upd]
    ·simp -implicitDefEqProofs only[go_sem,upd,digT]
    ·obtain⟨⟨j,c⟩,h1,h2,D⟩:=p;simp only at h1 h2 D;have hcl:=D.len;by_cases hJ:j<la.length
     ·obtain⟨y,hy⟩:=wJ hJ;have hy2:y<16777216:=hda.get hy;have eJ:decide ((j:Int)<(la.length:Int))=true:=tD (by omega);have wj:=wL (c:=j) (by omega);have sh:=shrS (x:=y) hs;have stp:=second j c h1 h2 D hJ y (vj hy);have hyd:y/2^s<16777216:=Nat.lt_of_le_of_lt (Nat.div_le_self _ _) hy2;have mk:∀d,(∃z,dat la (j+1)=z/\z<16777216/\d=y/2^s+z % 2^s*2^(24-s))->∃p':{p:Nat×List Nat // i<=p.1/\p.1<=la.length/\DInv la i (2^s) (x % 2^s) (p.1-i) p.2 (dat la p.1)},p'.1=(j+1,c++[d]):=fun d ⟨z,hz,hz2,hd⟩=>by
       obtain⟨g1,g2⟩:=stp z hz hy2 hz2;rw[<-hd] at g1;exact⟨⟨(j+1,c++[d]),by omega,hJ,g1⟩,rfl⟩
      by_cases hN:j+1<la.length
      ·obtain⟨z,hz⟩:=wJ hN;have hz2:z<16777216:=hda.get hz;have eN:decide (((j+1:Nat):Int)<(la.length:Int))=true:=tD (by omega);have g2:=(stp z (vj hz) hy2 hz2).2;have wz:=hoth z hz2;have rz:((z:Int).tmod ((2^s:Nat):Int))=((z % 2^s:Nat):Int):=remN;have wr:IntKind.i64.wrap (((y/2^s:Nat):Int)+((z % 2^s*2^(24-s):Nat):Int))=((y/2^s+z % 2^s*2^(24-s):Nat):Int):=addN (Nat.lt_trans g2 (by decide));obtain⟨p',hp'⟩:=mk _ ⟨z,vj hz,hz2,rfl⟩;generalize y/2^s+z % 2^s*2^(24-s)=dd at *;simp -implicitDefEqProofs only[go_sem,eJ,hJ,jd hy,dD,sh,wj,eN];refine drw ?_;simp -implicitDefEqProofs only[go_sem,wj,hN,jd hz,dD,w3,rz,hne,w4,wz,wr];refine⟨by omega,by omega,?_⟩;refine⟨p',we ?_ ?_ (by simp[wv,jc,wG,T.ref]),by rw[hp'];omega⟩<;>simp -implicitDefEqProofs only[go_sem,hp']
      ·have eN:decide (((j+1:Nat):Int)<(la.length:Int))=false:=fD (by omega);obtain⟨p',hp'⟩:=mk (y/2^s) ⟨0,Ud (by omega),by omega,by simp⟩;simp -implicitDefEqProofs only[go_sem,eJ,hJ,jd hy,dD,sh,wj,eN];refine⟨by omega,by omega,?_⟩;refine⟨p',we ?_ ?_ (by simp[wv,jc,wG,T.ref]),by rw[hp'];omega⟩<;>simp -implicitDefEqProofs only[go_sem,hp']
     ·have hj:j=la.length:=by omega
      subst hj;have eJ:decide ((la.length:Int)<(la.length:Int))=false:=fD (by omega);have hl:=last c D;simp -implicitDefEqProofs only[go_sem,eJ];refine cI (Vr _ c D.dig (by omega)) ?_;simp -implicitDefEqProofs only[go_sem];refine wc ?_;simp -implicitDefEqProofs only[go_sem,hl,tB' hwb]
   ·have hb:=hW false eZ.symm;rw[Bool.false_and] at hb;subst hb;have tZ:=tB' eZ;simp -implicitDefEqProofs only[go_sem,hdiv,hmod,eM,eG];refine drw ?_;simp -implicitDefEqProofs only[go_sem,tZ,hdiv,hm,jd hx,dD,w3,e10,hne,eX];rw[wu];refine jF 8 87 3 1 rfl rfl ?_;refine wm (α:={p:Nat×List Nat // i<=p.1/\p.1<=la.length/\DInv la i (2^s) (x % 2^s) (p.1-i) p.2 (dat la p.1)})
     (fun p=>St.of [(0,.d (digD la)),(6,.d (bD false)),(8,.gs 87),(9,.d (intD s)),(10,.d (intD p.1.1))] [(87,⟨some (3,1,true),digT p.1.2⟩)]) (fun p=>la.length-p.1.1)
     ⟨(i,[]),Nat.le_refl _,by omega,start⟩ (we ?_ ?_ rfl) (by kernel_rfl) (fun p=>?_)
    ·simp -implicitDefEqProofs only[go_sem,upd]
    ·simp -implicitDefEqProofs only[go_sem,upd,digT]
    ·obtain⟨⟨j,c⟩,h1,h2,D⟩:=p;simp only at h1 h2 D;have hcl:=D.len;by_cases hJ:j<la.length
     ·obtain⟨y,hy⟩:=wJ hJ;have hy2:y<16777216:=hda.get hy;have eJ:decide ((j:Int)<(la.length:Int))=true:=tD (by omega);have wj:=wL (c:=j) (by omega);have sh:=shrS (x:=y) hs;have stp:=second j c h1 h2 D hJ y (vj hy);have hyd:y/2^s<16777216:=Nat.lt_of_le_of_lt (Nat.div_le_self _ _) hy2;have mk:∀d,(∃z,dat la (j+1)=z/\z<16777216/\d=y/2^s+z % 2^s*2^(24-s))->∃p':{p:Nat×List Nat // i<=p.1/\p.1<=la.length/\DInv la i (2^s) (x % 2^s) (p.1-i) p.2 (dat la p.1)},p'.1=(j+1,c++[d]):=fun d ⟨z,hz,hz2,hd⟩=>by
       obtain⟨g1,g2⟩:=stp z hz hy2 hz2;rw[<-hd] at g1;exact⟨⟨(j+1,c++[d]),by omega,hJ,g1⟩,rfl⟩
      by_cases hN:j+1<la.length
      ·obtain⟨z,hz⟩:=wJ hN;have hz2:z<16777216:=hda.get hz;have eN:decide (((j+1:Nat):Int)<(la.length:Int))=true:=tD (by omega);have g2:=(stp z (vj hz) hy2 hz2).2;have wz:=hoth z hz2;have rz:((z:Int).tmod ((2^s:Nat):Int))=((z % 2^s:Nat):Int):=remN;have wr:IntKind.i64.wrap (((y/2^s:Nat):Int)+((z % 2^s*2^(24-s):Nat):Int))=((y/2^s+z % 2^s*2^(24-s):Nat):Int):=addN (Nat.lt_trans g2 (by decide));obtain⟨p',hp'⟩:=mk _ ⟨z,vj hz,hz2,rfl⟩;generalize y/2^s+z % 2^s*2^(24-s)=dd at *;simp -implicitDefEqProofs only[go_sem,eJ,hJ,jd hy,dD,sh,wj,eN];refine drw ?_;simp -implicitDefEqProofs only[go_sem,wj,hN,jd hz,dD,w3,rz,hne,w4,wz,wr];refine⟨by omega,by omega,?_⟩;refine⟨p',we ?_ ?_ (by simp[wv,jc,wG,T.ref]),by rw[hp'];omega⟩<;>simp -implicitDefEqProofs only[go_sem,hp']
      ·have eN:decide (((j+1:Nat):Int)<(la.length:Int))=false:=fD (by omega);obtain⟨p',hp'⟩:=mk (y/2^s) ⟨0,Ud (by omega),by omega,by simp⟩;simp -implicitDefEqProofs only[go_sem,eJ,hJ,jd hy,dD,sh,wj,eN];refine⟨by omega,by omega,?_⟩;refine⟨p',we ?_ ?_ (by simp[wv,jc,wG,T.ref]),by rw[hp'];omega⟩<;>simp -implicitDefEqProofs only[go_sem,hp']
     ·have hj:j=la.length:=by omega
      subst hj;have eJ:decide ((la.length:Int)<(la.length:Int))=false:=fD (by omega);have hl:=last c D;simp -implicitDefEqProofs only[go_sem,eJ];refine cI (Vr _ c D.dig (by omega)) ?_;simp -implicitDefEqProofs only[go_sem];refine wc ?_;simp -implicitDefEqProofs only[go_sem,hl,tB' hwb]
theorem zgV {a low P x:Nat}(htop:P<=a)(hsp:a=low+P*x)(hlow:low<P):x≠0:=fun e=>by
 rw[e] at hsp;have:a=low:=hsp;exact absurd hlow (Nat.not_lt.2 (this▸htop))
theorem zgU {x k:Nat}(hx0:x≠0)(h1:x<2^k):k≠0:=fun e=>by
 rw[e] at h1;have:x<1:=h1;exact hx0 (Nat.lt_one_iff.1 this)
theorem zar {a:Nat}{la:List Nat}{x k:Nat}(hla:dg a=la)(h0:a≠0)(hx:la[la.length-1]?=some x)(h1:x<2^k)(h2:k=0\/2^(k-1)<=x):nbits a=24*(la.length-1)+k:=by
 have htop:B^(la.length-1)<=a:=by have:=Rs h0;rwa [hla] at this
 have hsp:=KR hx;have hda:=kZ a;have hva:=q9 a;rw[hla] at hda hva;have hpos:=jI hx;rw[hva,List.drop_of_length_le (by omega),Hh,Nat.mul_zero,Nat.add_zero] at hsp;have hlow:=zV (hda.take (i:=la.length-1));rw[List.length_take,Nat.min_eq_left (by omega)] at hlow;generalize vl (la.take (la.length-1))=low at *;generalize hn:la.length-1=n at *;have hP:B^n=2^(24*n):=Kp n;generalize B^n=P at *;clear hda hla hva hpos hn hx;have hx0:x≠0:=zgV htop hsp hlow;have hk1:k≠0:=zgU hx0 h1;obtain⟨m,rfl⟩:∃m,k=m+1:=⟨k-1,(Nat.succ_pred_eq_of_ne_zero hk1).symm⟩;have hlo:2^m<=x:=h2.resolve_left hk1;rw[<-Nat.add_assoc];refine Zv ?_ ?_
 ·rw[Nat.pow_add,<-hP,hsp];exact Nat.le_trans (Nat.mul_le_mul_left P hlo) (Nat.le_add_left _ _)
 ·rw[Nat.add_assoc,Nat.pow_add,<-hP,hsp];have h3:=Nat.mul_le_mul_left P (show x+1<=2^(m+1) from h1);rw[Nat.mul_add,Nat.mul_one] at h3;refine Nat.lt_of_lt_of_le ?_ h3;rw[Nat.add_comm];exact Nat.add_lt_add_left hlow _
theorem jZ (E:Nat->Option Value){a:Nat}(ha:Sm (dg a)):DQz E 129 [natD a] (.data (intD (nbits a))):=by
 refine dcA Tryz.func129 Tryz.ntmps129 (rs:=[.tmp 2]) fun _ _ _ _ _=>?_
 obtain⟨la,hla⟩:∃la,dg a=la:=⟨_,rfl⟩;have hda:=kZ a;have hva:=q9 a;unfold Sm at ha;rw[hla] at ha hda hva;by_cases h0:a=0
 ·have hl0:la=[]:=by rw[<-hla];exact zdi.2 h0
  subst hl0;simp -implicitDefEqProofs only[go_sem,hla,beq_self_eq_true,finK];rw[h0,Vh];rfl
 have hpos:0<la.length:=by
  rcases Nat.eq_zero_or_pos la.length with h|h
  ·exfalso;rw[<-hla] at h;exact h0 (y7.1 h)
  ·exact h
 obtain⟨x,hx⟩:=wJ (l:=la) (i:=la.length-1) (by omega);have hx2:x<16777216:=hda.get hx;have hxl:=jI hx;have e0:((la.length:Int)==0)=false:=by rw[beq_eq_false_iff_ne];omega
 have w1:IntKind.i64.wrap ((la.length:Int)-1)=((la.length-1:Nat):Int):=zbP (by omega);have w2:IntKind.i64.wrap (24*((la.length-1:Nat):Int))=((24*(la.length-1):Nat):Int):=zkt (by omega);simp -implicitDefEqProofs only[go_sem,hla,e0,w1,w2,hxl,jd hx,dD];rw[wu];refine wm (α:={k:Nat // k=0\/2^(k-1)<=x}) (fun k=>St.of [(3,.d (intD ((24*(la.length-1)+k.1:Nat)))),(4,.d (intD ((x/2^k.1:Nat))))] []) (fun k=>x/2^k.1)
   ⟨0,.inl rfl⟩ (we ?_ ?_ rfl) (by kernel_rfl) (fun k=>?_)
 ·simp -implicitDefEqProofs only[go_sem,Nat.pow_zero]
 ·simp -implicitDefEqProofs only[go_sem]
 ·obtain⟨k,hk⟩:=k;have hk24:k<=24:=by
   rcases hk with h|h
   ·omega
   ·rcases Nat.lt_or_ge 24 k with h2|h2
    ·have:=Nat.pow_le_pow_right (show 0<2 by decide) (show 24<=k-1 by omega);omega
    ·exact h2
  have hq:x/2^k<=x:=Nat.div_le_self _ _;have w3:IntKind.i64.wrap (((x/2^k:Nat):Int).tdiv 2)=((x/2^(k+1):Nat):Int):=by
   rw[div2 (Nat.lt_of_le_of_lt hq (by omega)),Nat.div_div_eq_div_mul,<-Nat.pow_succ]
  have w4:IntKind.i64.wrap (((24*(la.length-1)+k:Nat):Int)+1)=((24*(la.length-1)+(k+1):Nat):Int):=wL (by omega);by_cases hz:x/2^k=0
  ·have e1:decide (((x/2^k:Nat):Int)>0)=false:=fD (by rw[hz];decide);simp -implicitDefEqProofs only[go_sem,e1,finK];have hlt:x<2^k:=by
    rcases(Nat.div_eq_zero_iff).1 hz with h|h
    ·have:0<2^k:=Nat.pow_pos (by decide);omega
    ·exact h
   rw[zar hla h0 hx hlt hk]
  ·have hz1:1<=x/2^k:=Nat.pos_of_ne_zero hz;have e1:decide (((x/2^k:Nat):Int)>0)=true:=tD (Int.natCast_pos.2 hz1);simp -implicitDefEqProofs only[go_sem,e1,w3,w4];refine⟨⟨k+1,.inr ?_⟩,we ?_ ?_ rfl,?_⟩
   ·rw[Nat.add_sub_cancel];exact(Nat.le_div_iff_mul_le (Nat.pow_pos (by decide))).1 hz1 |> fun h=>by rwa [Nat.one_mul] at h
   ·simp -implicitDefEqProofs only[go_sem]
   ·simp -implicitDefEqProofs only[go_sem]
   ·simp only;rw[Nat.pow_succ,<-Nat.div_div_eq_div_mul];exact Nat.div_lt_self hz1 (by decide)
end Go.Enc
