/-
  A heavy diagonal is kept, and nothing fails. No program.
-/
import Derived.Test.YtjlibljfpkmpfaaGreatDoorSa40
set_option maxRecDepth 100000
set_option linter.unusedSimpArgs false
set_option linter.unusedVariables false
namespace Go.Enc
open Go.Enc.Fl
def offR (m:Nat->Nat->Rat)(k n i:Nat):Rat:=smR (fun j=>if k<=j/\j≠i then m i j else 0) n
theorem Wz {f:Nat->Rat}:∀ {n:Nat},(∀j,j<n->0<=f j)->0<=smR f n
 |0,_=>Rat.le_refl
 |n+1,h=>by
  simp only[smR];have h1:=Wz (f:=f) (n:=n) (fun j hj=>h j (by omega));have h2:=h n (by omega);grind
theorem zbW {f:Nat->Rat}:∀ {n:Nat},(∀j,j<n->0<=f j)->∀j,j<n->f j<=smR f n
 |n+1,h,j,hj=>by
  simp only[smR];have h2:=h n (by omega);have h1:=Wz (f:=f) (n:=n) (fun j hj=>h j (by omega));by_cases e:j=n
  ·subst e;grind
  ·have h3:=zbW (f:=f) (n:=n) (fun j hj=>h j (by omega)) j (by omega);grind
theorem zbV {f g:Nat->Rat}:∀ {n:Nat},(∀j,j<n->f j<=g j)->smR f n<=smR g n
 |0,_=>Rat.le_refl
 |n+1,h=>by
  simp only[smR];have h1:=zbV (f:=f) (g:=g) (n:=n) (fun j hj=>h j (by omega));have h2:=h n (by omega);grind
theorem z7 (f:Nat->Rat)(c:Rat):∀n,smR (fun j=>c*f j) n=c*smR f n
 |0=>by simp only[smR];grind
 |n+1=>by simp only[smR];rw[z7 f c n];grind
theorem z6 (f g:Nat->Rat):∀n,smR (fun j=>f j+g j) n=smR f n+smR g n
 |0=>by simp only[smR];grind
 |n+1=>by simp only[smR];rw[z6 f g n];grind
theorem Kw (f:Nat->Rat)(k:Nat):∀n,smR (fun j=>if j=k then f j else 0) n=if k<n then f k else 0
 |0=>by simp only[smR];rw[if_neg (by omega)]
 |n+1=>by
  simp only[smR];rw[Kw f k n];by_cases h:k<n
  ·rw[if_pos h,if_neg (by omega),if_pos (by omega)];grind
  ·by_cases h2:n=k
   ·subst h2;rw[if_neg h,if_pos rfl,if_pos (by omega)];grind
   ·rw[if_neg h,if_neg h2,if_neg (by omega)];grind
def fH (d:Nat->Rat)(m:Nat->Nat->Rat)(k i:Nat):Rat:=m i k*(d k)⁻¹*kap1
def mH (d:Nat->Rat)(m:Nat->Nat->Rat)(k:Nat):Nat->Nat->Rat:=fun i j=>(m i j+fH d m k i*m k j*kap1)*kap1
def dH (d:Nat->Rat)(m:Nat->Nat->Rat)(k:Nat):Nat->Rat:=fun i=>(d i-fH d m k i*m k i*kap1)*kap0
structure Hw (n k:Nat)(c r e:Rat)(d:Nat->Rat)(m:Nat->Nat->Rat):Prop where
 dp:∀i,k<=i->i<n->0<d i
 de:∀i,k<=i->i<n->e<=d i/\d i<=1073741824
 mp:∀i j,k<=i->i<n->k<=j->j<=n->0<=m i j
 dom:∀i,k<=i->i<n->c*offR m k n i<=d i
 rat:∀i,k<=i->i<n->m i i<=r*d i
section
variable {n k:Nat} {c r e:Rat} {d:Nat->Rat} {m:Nat->Nat->Rat}
theorem Hw.off (h:Hw n k c r e d m)(hc:0<=c){i j:Nat}(hi:k<=i)(hin:i<n)(hj:k<=j)(hjn:j<n)(hij:j≠i):c*m i j<=d i:=by
 have h1:=zbW (f:=fun j=>if k<=j/\j≠i then m i j else 0) (n:=n) (fun j hj=>by
  split
  ·rename_i q;exact h.mp i j hi hin q.1 (by omega)
  ·exact Rat.le_refl) j hjn
 rw[if_pos ⟨hj,hij⟩] at h1;have h2:=Rat.mul_le_mul_of_nonneg_left h1 hc;exact Rat.le_trans h2 (h.dom i hi hin)
theorem Hw.next (h:Hw n k c r e d m)(hk:k<n)(hc:15/4<=c){r':Rat}(hr:(r+1/13*kap1)*kap1<=r'*((1-1/13*kap1)*kap0))(hr0:0<=r'):Hw n (k+1) (c*(99/100)) r' (e*(9/10)) (dH d m k) (mH d m k):=by
 have hdk:=h.dp k (Nat.le_refl _) hk;have hinv:=Rat.mul_inv_cancel (d k) (by grind);have hip:=Rat.inv_pos.2 hdk;have k1:kap1=1025/1024:=rfl;have k0:kap0=1023/1024:=rfl;have f0:∀i,k<=i->i<n->0<=fH d m k i:=fun i hi hin=>by
  have h1:=h.mp i k hi hin (Nat.le_refl _) (by omega);have h2:=Rat.mul_nonneg h1 (Rat.le_of_lt hip);unfold fH;rw[k1];grind
 have fd:∀i,fH d m k i*d k=kap1*m i k:=fun i=>by
  unfold fH;have:m i k*(d k)⁻¹*kap1*d k=kap1*m i k*(d k*(d k)⁻¹):=by grind
  rw[this,hinv,Rat.mul_one]
 have tk:∀i,k<i->i<n->0<=fH d m k i*m k i/\fH d m k i*m k i<=1/13*d i:=fun i hi hin=>by
  have q1:=h.off (by grind) (i:=k) (j:=i) (Nat.le_refl _) hk (by omega) hin (by omega);have q2:=h.off (by grind) (i:=i) (j:=k) (by omega) hin (Nat.le_refl _) hk (by omega);have p1:=h.mp k i (Nat.le_refl _) hk (by omega) (by omega);have p2:=h.mp i k (by omega) hin (Nat.le_refl _) (by omega);have g0:=f0 i (by omega) hin;refine⟨Rat.mul_nonneg g0 p1,?_⟩;have q3:=Rat.mul_le_mul_of_nonneg_left q1 g0;rw[fd] at q3;have q4:15/4*(fH d m k i*m k i)<=kap1*m i k:=by
   have:=Rat.mul_le_mul_of_nonneg_right hc (Rat.mul_nonneg g0 p1);grind
  have q5:15/4*m i k<=d i:=by
   have:=Rat.mul_le_mul_of_nonneg_right hc p2;grind
  rw[k1] at q4;have:=h.dp i (by omega) hin;grind
 refine⟨fun i hi hin=>?_,fun i hi hin=>?_,fun i j hi hin hj hjn=>?_,fun i hi hin=>?_,fun i hi hin=>?_⟩
 ·obtain⟨t0,t1⟩:=tk i (by omega) hin;have:=h.dp i (by omega) hin;unfold dH;rw[k1,k0];grind
 ·obtain⟨t0,t1⟩:=tk i (by omega) hin;have:=h.dp i (by omega) hin;have:=h.de i (by omega) hin;unfold dH;rw[k1,k0];exact⟨by grind,by grind⟩
 ·have p1:=h.mp i j (by omega) hin (by omega) hjn;have p2:=Rat.mul_nonneg (f0 i (by omega) hin) (h.mp k j (Nat.le_refl _) hk (by omega) hjn);unfold mH;rw[k1];grind
 ·obtain⟨t0,t1⟩:=tk i (by omega) hin;have hd:=h.dp i (by omega) hin;obtain⟨Si,hSi⟩:∃s,smR (fun j=>if k+1<=j/\j≠i then m i j else 0) n=s:=⟨_,rfl⟩;obtain⟨Tk,hTk⟩:∃s,smR (fun j=>if k+1<=j/\j≠i then m k j else 0) n=s:=⟨_,rfl⟩;have e1:offR m k n i=m i k+Si:=by
   have h1:=z6 (fun j=>if j=k then m i j else 0) (fun j=>if k+1<=j/\j≠i then m i j else 0) n;rw[Kw (m i) k n,if_pos hk,hSi] at h1;rw[<-h1];unfold offR;refine j6 fun j _=>?_
   by_cases q1:j=k
   ·rw[if_pos (by omega),if_pos q1,if_neg (by omega)];grind
   ·by_cases q2:k+1<=j/\j≠i
    ·rw[if_pos (by omega),if_neg q1,if_pos q2];grind
    ·rw[if_neg (by omega),if_neg q1,if_neg q2];grind
  have e2:offR m k n k=m k i+Tk:=by
   have h1:=z6 (fun j=>if j=i then m k j else 0) (fun j=>if k+1<=j/\j≠i then m k j else 0) n;rw[Kw (m k) i n,if_pos hin,hTk] at h1;rw[<-h1];unfold offR;refine j6 fun j _=>?_
   by_cases q1:j=i
   ·rw[if_pos (by omega),if_pos q1,if_neg (by omega)];grind
   ·by_cases q2:k+1<=j/\j≠i
    ·rw[if_pos (by omega),if_neg q1,if_pos q2];grind
    ·rw[if_neg (by omega),if_neg q1,if_neg q2];grind
  have e3:offR (mH d m k) (k+1) n i=kap1*(Si+fH d m k i*kap1*Tk):=by
   have h1:=z6 (fun j=>kap1*(if k+1<=j/\j≠i then m i j else 0)) (fun j=>kap1*fH d m k i*kap1*(if k+1<=j/\j≠i then m k j else 0)) n;rw[z7,z7,hSi,hTk] at h1;have h2:kap1*(Si+fH d m k i*kap1*Tk)=kap1*Si+kap1*fH d m k i*kap1*Tk:=by grind
   rw[h2,<-h1];unfold offR;refine j6 fun j _=>?_
   split
   ·unfold mH;grind
   ·grind
  have g0:=f0 i (by omega) hin;have p2:=h.mp i k (by omega) hin (Nat.le_refl _) (by omega);have q1:=h.dom i (by omega) hin;have q2:=Rat.mul_le_mul_of_nonneg_left (h.dom k (Nat.le_refl _) hk) g0;rw[fd] at q2;rw[e1] at q1;rw[e2] at q2;rw[e3];have w1:=Rat.mul_le_mul_of_nonneg_right hc p2;have w2:=Rat.mul_le_mul_of_nonneg_right hc t0;have a1:c*Si<=d i-c*m i k:=by grind
  have a2:c*(fH d m k i*Tk)<=kap1*m i k-c*(fH d m k i*m k i):=by grind
  have a3:c*(99/100)*(kap1*(Si+fH d m k i*kap1*Tk))=99/100*kap1*(c*Si+kap1*(c*(fH d m k i*Tk))):=by grind
  rw[a3];unfold dH;obtain⟨X,hX⟩:∃X,c*Si=X:=⟨_,rfl⟩;obtain⟨Y,hY⟩:∃Y,c*(fH d m k i*Tk)=Y:=⟨_,rfl⟩;obtain⟨Z,hZ⟩:∃Z,fH d m k i*m k i=Z:=⟨_,rfl⟩;obtain⟨cm,hcm⟩:∃cm,c*m i k=cm:=⟨_,rfl⟩;obtain⟨cZ,hcZ⟩:∃cZ,c*(fH d m k i*m k i)=cZ:=⟨_,rfl⟩;rw[hX] at a1;rw[hY,hcZ] at a2;rw[hcm] at a1 w1;rw[hcZ] at w2;rw[hZ] at t0 t1 w2 ⊢;rw[hX,hY];rw[k1] at a2 ⊢;rw[k0];grind
 ·obtain⟨t0,t1⟩:=tk i (by omega) hin;have hd:=h.dp i (by omega) hin;have hm:=h.rat i (by omega) hin;have key:(m i i+fH d m k i*m k i*kap1)*kap1<=(r+1/13*kap1)*kap1*d i:=by
   rw[k1];grind
  have h2:=Rat.mul_le_mul_of_nonneg_right hr (Rat.le_of_lt hd);have key2:r'*((1-1/13*kap1)*kap0)*d i<=r'*((d i-fH d m k i*m k i*kap1)*kap0):=by
   have:=Rat.mul_le_mul_of_nonneg_left (show(1-1/13*kap1)*kap0*d i<=(d i-fH d m k i*m k i*kap1)*kap0 by rw[k1,k0];grind) hr0;grind
  unfold mH dH;grind
end
structure Hv (B:Nat->Nat->Nat×Nat)(n k:Nat)(c r e:Rat)(L:Int)(U:Rat)(d:Nat->Rat)(m:Nat->Nat->Rat):Prop where
 w:Hw n k c r e d m
 gd:∀i j,i<n->j<=n->Gd (B i j)
 dg:∀i,k<=i->i<n->LoA (d i) (B i i)
 am:∀i j,k<=i->i<n->k<=j->j<=n->Qi L (m i j) (B i j)
 rh:∀i,k<=i->i<n->m i n<=U
section
variable {E:Nat->Option Value} {M V S:Nat×Nat->Nat×Nat->AnsQ} (O:Ops3 E M V S) {B:Nat->Nat->Nat×Nat} {n k:Nat} {c r e:Rat} {L:Int} {U:Rat} {d:Nat->Rat} {m:Nat->Nat->Rat}
theorem Hv.pivot (h:Hv B n k c r e L U d m)(hk:k<n)(hc:2<=c)(hr:r<=2):(pvS B n k (n-k)).2=(k:Int):=by
 refine zkg h.gd hk (d:=d) (fun i hi hin=>⟨h.w.dp i hi hin,h.dg i hi hin⟩) (fun j hj hjn=>?_) (fun i hi hin=>?_)
 ·have q:=h.am k j (Nat.le_refl _) hk hj (by omega);have hd:=h.w.dp k (Nat.le_refl _) hk;have hmj:m k j<=2*d k:=by
   by_cases e:j=k
   ·subst e;have h1:=h.w.rat j (Nat.le_refl _) hk;have:=Rat.mul_le_mul_of_nonneg_right hr (Rat.le_of_lt hd);grind
   ·have h1:=h.w.off (by grind) (Nat.le_refl _) hk hj hjn e;have h2:=Rat.mul_le_mul_of_nonneg_right hc (h.w.mp k j (Nat.le_refl _) hk hj (by omega));grind
  have:=q.lo;have:=q.hi;exact⟨by grind,by grind⟩
 ·have q:=h.am i k (by omega) hin (Nat.le_refl _) (by omega);have h1:=h.w.off (by grind) (show k<=i by omega) hin (Nat.le_refl _) hk (by omega);have h2:=Rat.mul_le_mul_of_nonneg_right hc (h.w.mp i k (by omega) hin (Nat.le_refl _) (by omega));have:=q.lo;have:=q.hi;exact⟨by grind,by grind⟩
theorem Hv.sizes (h:Hv B n k c r e L U d m)(hk:k<n)(hc:15/4<=c)(hr2:r<=2)(he:1/2147483648<=e)(hU:2147483648<=U) :
  (∀i,k<=i->i<n->0<=m i k*(d k)⁻¹/\m i k*(d k)⁻¹<=4611686018427387904)/\(∀i,k<=i->i<n->0<=fH d m k i/\fH d m k i<=4616189618054758400)/\(∀i j,k<=i->i<n->k<=j->j<=n->0<=m i j/\m i j<=U) /\
  (∀i j,k<=i->i<n->k<=j->j<=n->0<=fH d m k i*m k j/\fH d m k i*m k j<=4616189618054758400*U)/\m k k<=2147483648:=by
 have hdk:=h.w.dp k (Nat.le_refl _) hk;have hip:=Rat.inv_pos.2 hdk;have k1:kap1=1025/1024:=rfl;have big:∀i j,k<=i->i<n->k<=j->j<n->m i j<=2147483648:=fun i j hi hin hj hjn=>by
  have hd:=h.w.dp i hi hin;have h2:=(h.w.de i hi hin).2;by_cases q:j=i
  ·subst q;have h1:=h.w.rat j hi hin;have:=Rat.mul_le_mul_of_nonneg_right hr2 (Rat.le_of_lt hd);grind
  ·have h1:=h.w.off (by grind) hi hin hj hjn q;have:=Rat.mul_le_mul_of_nonneg_right hc (h.w.mp i j hi hin hj (by omega));have:=h.w.mp i j hi hin hj (by omega);grind
 have inv:(d k)⁻¹<=2147483648:=by
  have h1:=(vu (l:=1/2147483648) (y:=d k) (by decide +kernel) (Rat.le_trans he (h.w.de k (Nat.le_refl _) hk).1)).2;have h2:((1:Rat)/2147483648)⁻¹=2147483648:=by decide +kernel
  rw[h2] at h1;exact h1
 have inv0:0<=(d k)⁻¹:=Rat.le_of_lt hip;have fq:∀i,k<=i->i<n->0<=m i k*(d k)⁻¹/\m i k*(d k)⁻¹<=4611686018427387904:=fun i hi hin=>by
  have p1:=h.w.mp i k hi hin (Nat.le_refl _) (by omega);have p2:=big i k hi hin (Nat.le_refl _) hk;refine⟨Rat.mul_nonneg p1 inv0,?_⟩;have h1:=Rat.mul_le_mul_of_nonneg_right p2 inv0;have h2:=Rat.mul_le_mul_of_nonneg_left inv (c:=2147483648) (by grind);grind
 have f0:∀i,k<=i->i<n->0<=fH d m k i/\fH d m k i<=4616189618054758400:=fun i hi hin=>by
  have:=fq i hi hin;unfold fH;rw[k1];exact⟨by grind,by grind⟩
 have mU:∀i j,k<=i->i<n->k<=j->j<=n->0<=m i j/\m i j<=U:=fun i j hi hin hj hjn=>by
  refine⟨h.w.mp i j hi hin hj hjn,?_⟩;rcases Nat.lt_or_ge j n with q|q
  ·exact Rat.le_trans (big i j hi hin hj q) hU
  ·obtain rfl:j=n:=by omega
   exact h.rh i hi hin
 refine⟨fq,f0,mU,fun i j hi hin hj hjn=>?_,big k k (Nat.le_refl _) hk (Nat.le_refl _) hk⟩;have a:=f0 i hi hin;have b:=mU k j (Nat.le_refl _) hk hj hjn;refine⟨Rat.mul_nonneg a.1 b.1,?_⟩;have h1:=Rat.mul_le_mul_of_nonneg_right a.2 b.1;have h2:=Rat.mul_le_mul_of_nonneg_left b.2 (c:=4616189618054758400) (by grind);grind
include O
theorem Hv.next (h:Hv B n k c r e L U d m)(hk:k<n)(hc:15/4<=c)(hr2:r<=2)(he:1/2147483648<=e){u:Int}(hu:m k k<=(2:Rat)^u)(hu0:24<=u)(hL:30<=L)(hL2:L+(L+u)<=900)(hU:2147483648<=U)(hU2:U*2^63<=(2:Rat)^(900:Int)){r':Rat}(hr:(r+1/13*kap1)*kap1<=r'*((1-1/13*kap1)*kap0))(hr0:0<=r') :
  OkS M V S B n k/\∀B':Nat->Nat->Nat×Nat,(∀i j,i<n->j<=n->B' i j=nxt M V S B n k i j)->Hv B' n (k+1) (c*(99/100)) r' (e*(9/10)) (L+(L+u)) (U*2^63) (dH d m k) (mH d m k):=by
 have hdk:=h.w.dp k (Nat.le_refl _) hk;have hip:=Rat.inv_pos.2 hdk;have k1:kap1=1025/1024:=rfl;have k0:kap0=1023/1024:=rfl;have big:∀i j,k<=i->i<n->k<=j->j<n->m i j<=2147483648:=fun i j hi hin hj hjn=>by
  have hd:=h.w.dp i hi hin;have h2:=(h.w.de i hi hin).2;by_cases q:j=i
  ·subst q;have h1:=h.w.rat j hi hin;have:=Rat.mul_le_mul_of_nonneg_right hr2 (Rat.le_of_lt hd);grind
  ·have h1:=h.w.off (by grind) hi hin hj hjn q;have:=Rat.mul_le_mul_of_nonneg_right hc (h.w.mp i j hi hin hj (by omega));have:=h.w.mp i j hi hin hj (by omega);grind
 have inv:(d k)⁻¹<=2147483648:=by
  have h1:=(vu (l:=1/2147483648) (y:=d k) (by decide +kernel) (Rat.le_trans he (h.w.de k (Nat.le_refl _) hk).1)).2;have h2:((1:Rat)/2147483648)⁻¹=2147483648:=by decide +kernel
  rw[h2] at h1;exact h1
 have e62:(4611686018427387904:Rat)<=U*2^63:=by
  have:(2:Rat)^63=9223372036854775808:=by decide +kernel
  rw[this];grind
 have e63:(2:Rat)^63=9223372036854775808:=by decide +kernel
 have inv0:0<=(d k)⁻¹:=Rat.le_of_lt hip;have fq:∀i,k<=i->i<n->0<=m i k*(d k)⁻¹/\m i k*(d k)⁻¹<=4611686018427387904:=fun i hi hin=>by
  have p1:=h.w.mp i k hi hin (Nat.le_refl _) (by omega);have p2:=big i k hi hin (Nat.le_refl _) hk;refine⟨Rat.mul_nonneg p1 inv0,?_⟩;have h1:=Rat.mul_le_mul_of_nonneg_right p2 inv0;have h2:=Rat.mul_le_mul_of_nonneg_left inv (c:=2147483648) (by grind);grind
 have f0:∀i,k<=i->i<n->0<=fH d m k i/\fH d m k i<=4616189618054758400:=fun i hi hin=>by
  have:=fq i hi hin;unfold fH;rw[k1];exact⟨by grind,by grind⟩
 have mU:∀i j,k<=i->i<n->k<=j->j<=n->0<=m i j/\m i j<=U:=fun i j hi hin hj hjn=>by
  refine⟨h.w.mp i j hi hin hj hjn,?_⟩;rcases Nat.lt_or_ge j n with q|q
  ·exact Rat.le_trans (big i j hi hin hj q) hU
  ·obtain rfl:j=n:=by omega
   exact h.rh i hi hin
 have fm:∀i j,k<=i->i<n->k<=j->j<=n->0<=fH d m k i*m k j/\fH d m k i*m k j<=4616189618054758400*U:=fun i j hi hin hj hjn=>by
  have a:=f0 i hi hin;have b:=mU k j (Nat.le_refl _) hk hj hjn;refine⟨Rat.mul_nonneg a.1 b.1,?_⟩;have h1:=Rat.mul_le_mul_of_nonneg_right a.2 b.1;have h2:=Rat.mul_le_mul_of_nonneg_left b.2 (c:=4616189618054758400) (by grind);grind
 have W:=h.w.next hk hc hr hr0;have qkk:=h.am k k (Nat.le_refl _) hk (Nat.le_refl _) (by omega);have bkk:=big k k (Nat.le_refl _) hk (Nat.le_refl _) hk;have gkk:=h.gd k k hk (by omega);have ops:∀i,k<i->i<n->(V (B i k) (B k k)).2=none/\∀j,k<j->j<=n->(M (V (B i k) (B k k)).1 (B k j)).2=none/\(S (B i j) (M (V (B i k) (B k k)).1 (B k j)).1).2=none /\
   Qi (L+(L+u)) (mH d m k i j) (S (B i j) (M (V (B i k) (B k k)).1 (B k j)).1).1/\(∀l,LoA l (B i j)->0<=l-fH d m k i*m k j*kap1->LoA ((l-fH d m k i*m k j*kap1)*kap0) (S (B i j) (M (V (B i k) (B k k)).1 (B k j)).1).1):=fun i hi hin=>by
  have gik:=h.gd i k hin (by omega);obtain⟨v1,v2⟩:=divQ O gik gkk (h.am i k (by omega) hin (Nat.le_refl _) (by omega)) hdk (h.dg k (Nat.le_refl _) hk) (u:=u) (by have:=qkk.lo;grind) (by have:=qkk.hi;grind) (by omega) (by omega) (by have:=(fq i (by omega) hin).2;grind);refine⟨v1,fun j hj hjn=>?_⟩;have gF:Gd (V (B i k) (B k k)).1:=O.gv gik gkk;have gkj:=h.gd k j hk hjn;have hfm:=fm i j (by omega) hin (by omega) hjn;obtain⟨m1,m2⟩:=mulQ O gF gkj v2 (h.am k j (Nat.le_refl _) hk (by omega) hjn) (by omega) (by omega) (by
   show fH d m k i*m k j<=_
   rw[e63] at hU2;grind)
  have gP:=O.gm gF gkj;have hmm:=mU i j (by omega) hin (by omega) hjn;obtain⟨s1,s2,s3⟩:=subQ O (h.gd i j hin hjn) gP (h.am i j (by omega) hin (by omega) hjn) m2 (c:=L+(L+u)) (.inl ⟨by omega,by omega⟩) (by omega) (by omega) (by
   show m i j+fH d m k i*m k j*kap1<=_
   rw[e63] at hU2;rw[k1];grind)
  exact⟨m1,s1,s2,s3⟩
 refine⟨fun i hi hin _=>⟨(ops i hi hin).1,fun j hj hjn=>⟨((ops i hi hin).2 j hj hjn).1,((ops i hi hin).2 j hj hjn).2.1⟩⟩,fun B' hB'=>⟨W,fun i j hi hj=>?_,fun i hi hin=>?_,fun i j hi hin hj hjn=>?_,fun i hi hin=>?_⟩⟩
 ·rw[hB' i j hi hj];unfold nxt;split
  ·rename_i q;split
   ·exact zo
   ·split
    ·rename_i q2;exact O.gs (h.gd i j hi hj) (O.gm (O.gv (h.gd i k hi (by omega)) gkk) (h.gd k j hk hj))
    ·exact h.gd i j hi hj
  ·exact h.gd i j hi hj
 ·rw[hB' i i hin (by omega)];have hpos:=W.dp i hi hin;have hfm:=(fm i i (by omega) hin (by omega) (by omega)).1;have hdi:=h.w.dp i (by omega) hin;unfold nxt;split
  ·rw[if_neg (by omega),if_pos ⟨by omega,by omega⟩];refine((ops i (by omega) hin).2 i (by omega) (by omega)).2.2.2 _ (h.dg i (by omega) hin) ?_;unfold dH at hpos;rw[k0] at hpos;grind
  ·have hle:dH d m k i<=d i:=by
    unfold dH at hpos ⊢;rw[k0] at hpos ⊢;rw[k1] at hpos ⊢;grind
   rcases h.dg i (by omega) hin with q|q
   ·exact .inl (by grind)
   ·exact .inr (by grind)
 ·rw[hB' i j hin hjn];have hfm:=(fm i j (by omega) hin (by omega) hjn).1;have hmm:=(mU i j (by omega) hin (by omega) hjn).1;unfold nxt;split
  ·rw[if_neg (by omega),if_pos ⟨by omega,by omega⟩];exact((ops i (by omega) hin).2 j (by omega) hjn).2.2.1
  ·refine(h.am i j (by omega) hin (by omega) hjn).mono (by omega) ?_;unfold mH;rw[k1];grind
 ·have hfm:=fm i n (by omega) hin (by omega) (Nat.le_refl _);have hmm:=mU i n (by omega) hin (by omega) (Nat.le_refl _);unfold mH;rw[k1,e63];grind
end
end Go.Enc
