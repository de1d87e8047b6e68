/-
  A system's solution lies within what is computed. No program.
-/
import Derived.Test.YtjlibljfpkmpfaaGreatDoorSa36
set_option maxRecDepth 100000
set_option linter.unusedSimpArgs false
set_option linter.unusedVariables false
namespace Go.Enc
open Go.Enc.Fl
def Wi (x:Rat)(X:Nat×Nat):Prop:=iL X<=x/\x<=iH X
theorem Zc:iL (0,0)=0:=by unfold iL;rw[num0.2];exact wC
theorem U9:iH (0,0)=0:=by unfold iH;rw[num0.2];exact wC
theorem zeb:Wi 0 (0,0):=⟨by rw[Zc];exact Rat.le_refl,by rw[U9];exact Rat.le_refl⟩
theorem Hg {x:Rat}(h:Wi x (0,0)):x=0:=by
 obtain⟨h1,h2⟩:=h;rw[Zc] at h1;rw[U9] at h2;exact Rat.le_antisymm h2 h1
theorem V3 {a0 a1 a c l:Rat}(h0:a0<=a)(h1:a<=a1)(p:l<=a0*c)(q:l<=a1*c):l<=a*c:=by
 rcases Rat.le_total (a:=0) (b:=c) with hc|hc
 ·have:=Rat.mul_le_mul_of_nonneg_right h0 hc;grind
 ·have:=Rat.mul_le_mul_of_nonneg_right h1 (show 0<=-c by grind);grind
theorem HO {a0 a1 a c l:Rat}(h0:a0<=a)(h1:a<=a1)(p:a0*c<=l)(q:a1*c<=l):a*c<=l:=by
 have:=V3 (c:=-c) (l:=-l) h0 h1 (by grind) (by grind);grind
theorem Ra {a0 a1 b0 b1 a b l:Rat}(h0:a0<=a)(h1:a<=a1)(k0:b0<=b)(k1:b<=b1)(p00:l<=a0*b0)(p01:l<=a0*b1)(p10:l<=a1*b0)(p11:l<=a1*b1):l<=a*b:=by
 have e0:l<=b*a0:=V3 k0 k1 (by grind) (by grind);have e1:l<=b*a1:=V3 k0 k1 (by grind) (by grind);exact V3 h0 h1 (by grind) (by grind)
theorem Rb {a0 a1 b0 b1 a b l:Rat}(h0:a0<=a)(h1:a<=a1)(k0:b0<=b)(k1:b<=b1)(p00:a0*b0<=l)(p01:a0*b1<=l)(p10:a1*b0<=l)(p11:a1*b1<=l):a*b<=l:=by
 have e0:b*a0<=l:=HO k0 k1 (by grind) (by grind);have e1:b*a1<=l:=HO k0 k1 (by grind) (by grind);exact HO h0 h1 (by grind) (by grind)
theorem QK {x y:Rat}(h:x<=y)(hp:0<x*y):y⁻¹<=x⁻¹:=by
 have hx:x≠0:=fun e=>by rw[e] at hp;grind
 have hy:y≠0:=fun e=>by rw[e] at hp;grind
 have e1:=Rat.mul_inv_cancel x hx;have e2:=Rat.mul_inv_cancel y hy;have hq:0<x⁻¹*y⁻¹:=by
  have:=Rat.inv_pos.2 hp;have e3:(x*y)⁻¹=x⁻¹*y⁻¹:=by
   have e4:=Rat.mul_inv_cancel (x*y) (by grind);grind
  grind
 have:=Rat.mul_le_mul_of_nonneg_right h (Rat.le_of_lt hq);rw[<-Rat.mul_assoc,e1,Rat.one_mul,Rat.mul_comm x⁻¹ y⁻¹,<-Rat.mul_assoc,e2,Rat.one_mul] at this;exact this
section
variable {E:Nat->Option Value} {M V S:Nat×Nat->Nat×Nat->AnsQ} (O:Ops3 E M V S) {a b:Nat×Nat} {x y:Rat}
include O
theorem zcX (g:Gd a)(g':Gd b)(h:Wi x a)(k:Wi y b)(e:(M a b).2=none):Wi (x*y) (M a b).1:=by
 have R:=((O.m a b g g').2.good e).all;have r00:=R 0 0 (by omega) (by omega);have r01:=R 0 1 (by omega) (by omega);have r10:=R 1 0 (by omega) (by omega);have r11:=R 1 1 (by omega) (by omega);simp only[mulX,iE,if_true,Nat.one_ne_zero,if_false] at r00 r01 r10 r11;exact⟨Ra h.1 h.2 k.1 k.2 r00.1 r01.1 r10.1 r11.1,Rb h.1 h.2 k.1 k.2 r00.2 r01.2 r10.2 r11.2⟩
theorem zbO (g:Gd a)(g':Gd b)(h:Wi x a)(k:Wi y b)(e:(S a b).2=none):Wi (x-y) (S a b).1:=by
 have R:=((O.s a b g g').2.good e).all;have r0:=R 0 0 (by omega) (by omega);have r1:=R 1 0 (by omega) (by omega);simp only[subX,if_true,Nat.one_ne_zero,if_false] at r0 r1;obtain⟨h1,h2⟩:=h;obtain⟨k1,k2⟩:=k;exact⟨by grind,by grind⟩
omit O in
theorem QN (h:has0 b=false)(g:Gd b):0<iL b*iH b:=by
 unfold has0 at h;have hle:=g.iLH;by_cases h1:idx b.1<=0
 ·have h2:¬0<=idx b.2:=by
   intro h2;simp[h1,h2] at h
  have:iH b<0:=by
   have:=v_lt (i:=idx b.2) (j:=0) (by omega);have z:v 0=0:=wC;unfold iH;grind
  have:=Rat.mul_pos (show 0 < -iL b by grind) (show 0 < -iH b by grind);grind
 ·have:0<iL b:=by
   have:=v_lt (i:=0) (j:=idx b.1) (by omega);have z:v 0=0:=wC;unfold iL;grind
  exact Rat.mul_pos this (by grind)
omit O in
theorem Jg (h:has0 b=false)(g:Gd b)(k:Wi y b):y≠0:=by
 have hp:=QN h g;obtain⟨k1,k2⟩:=k;intro e;subst e;rcases Rat.le_total (a:=0) (b:=(-iL b*iH b)) with h1|h1
 ·grind
 ·have:=Rat.mul_nonneg (show 0<=-iL b by grind) k2;grind
theorem zde (g:Gd a)(g':Gd b)(h:Wi x a)(k:Wi y b)(e:(V a b).2=none):has0 b=false/\Wi (x/y) (V a b).1:=by
 obtain⟨_,h1,h2⟩:=O.v a b g g';cases hb:has0 b with
 |true=>exact absurd e (h1 hb).1
 |false=>
  refine⟨rfl,?_⟩;have R:=((h2 hb).good e).all;have r00:=R 0 0 (by omega) (by omega);have r01:=R 0 1 (by omega) (by omega);have r10:=R 1 0 (by omega) (by omega);have r11:=R 1 1 (by omega) (by omega);simp only[divX,iE,if_true,Nat.one_ne_zero,if_false,Rat.div_def] at r00 r01 r10 r11;have hp:=QN hb g';have hLy:0<iL b*y:=by
   obtain⟨k1,k2⟩:=k;have hL:iL b≠0:=fun e=>by rw[e] at hp;grind
   rcases Rat.le_total (a:=0) (b:=(iL b)) with h3|h3
   ·exact Rat.mul_pos (by grind) (by grind)
   ·have hH:iH b<0:=by
     refine Rat.not_le.1 fun h4=>?_
     have:=Rat.mul_nonneg (show 0<=-iL b by grind) h4;grind
    have:=Rat.mul_pos (show 0 < -iL b by grind) (show 0 < -y by grind);grind
  have hyH:0<y*iH b:=by
   obtain⟨k1,k2⟩:=k;have hH:iH b≠0:=fun e=>by rw[e] at hp;grind
   rcases Rat.le_total (a:=0) (b:=(iH b)) with h3|h3
   ·have hL:0<iL b:=by
     refine Rat.not_le.1 fun h4=>?_
     have:=Rat.mul_nonneg (show 0<=-iL b by grind) h3;grind
    exact Rat.mul_pos (by grind) (by grind)
   ·have:=Rat.mul_pos (show 0 < -y by grind) (show 0 < -iH b by grind);grind
  have i1:=QK k.1 hLy;have i2:=QK k.2 hyH;rw[Rat.div_def];exact⟨Ra h.1 h.2 i2 i1 r01.1 r00.1 r11.1 r10.1,Rb h.1 h.2 i2 i1 r01.2 r00.2 r11.2 r10.2⟩
end
def smR (f:Nat->Rat):Nat->Rat
 |0=>0
 |m+1=>smR f m+f m
theorem j6 {f g:Nat->Rat}:∀ {m:Nat},(∀j,j<m->f j=g j)->smR f m=smR g m
 |0,_=>rfl
 |m+1,h=>by simp only[smR];rw[j6 (fun j hj=>h j (by omega)),h m (by omega)]
theorem Uz (f g:Nat->Rat)(c:Rat):∀m,smR (fun j=>f j-c*g j) m=smR f m-c*smR g m
 |0=>by simp only[smR];grind
 |m+1=>by simp only[smR];rw[Uz f g c m];grind
def SatR (b:Nat->Nat->Rat)(x:Nat->Rat)(n i:Nat):Prop:=smR (fun j=>b i j*x j) n=b i n
structure ElI (B:Nat->Nat->Nat×Nat)(b:Nat->Nat->Rat)(x:Nat->Rat)(n k:Nat):Prop where
 wi:∀i j,i<n->j<=n->Wi (b i j) (B i j)
 sat:∀i,i<n->SatR b x n i
 zero:∀i j,i<n->j<k->j<i->b i j=0
 pv:∀i,i<k->has0 (B i i)=false
theorem zhD {y r:Nat}(hy:Fl.Fin y)(hl:y<18446744073709551616)(h:FloatKind.f64.format.div 0 y=some r):Num r/\¬0<idx r:=by
 by_cases h0:idx y=0
 ·have hb:=xf.1 h0;have:y=0\/y=9223372036854775808:=by omega
  exfalso;rcases this with rfl|rfl
  ·rw[show FloatKind.f64.format.div 0 0=none by decide] at h;cases h
  ·rw[show FloatKind.f64.format.div 0 9223372036854775808=none by decide] at h;cases h
 ·obtain⟨r',e,hn⟩:=vO (x:=0) (y:=y) (by decide) hy h0;have e':FloatKind.f64.format.div 0 y=some r':=e;rw[e'] at h;cases h;refine⟨hn.num,fun h=>?_⟩;have z:v (idx 0)/v (idx y)=0:=by rw[num0.2,wC,Rat.div_def,Rat.zero_mul]
  rw[z] at hn;have mu:MU (0:Rat):=by rw[<-wC];exact mu_v 0
  have:=(hn.sign mu).2.1 h;grind
theorem Qs {A:Nat->Nat->Nat×Nat}{n k:Nat}(hG:∀i j,i<n->j<=n->Gd (A i j))(hk:k<n):∀m,k+m<=n->0<=idx (pvS A n k m).1/\Num (pvS A n k m).1/\(0<=(pvS A n k m).2->has0 (A (pvS A n k m).2.toNat k)=false)
 |0,_=>⟨by show 0<=idx 0;decide,num0.1,fun h=>by simp[pvS] at h⟩
 |m+1,hm=>by
  obtain⟨h1,h2,h3⟩:=Qs hG hk m (by omega);simp only[pvS];split
  ·rename_i ha;cases hv:valO A n k (k+m) with
   |none=>rw[hv] at ha;simp[abv] at ha
   |some z=>
    rw[hv] at ha;simp only[abv] at ha;have gi:=hG (k+m) k (by omega) (by omega);have hls:=yk gi;have hmf:=ze (f:=A (k+m)) (k:=k) (m:=n-k) (fun j hj=>hG _ _ (by omega) (by omega)) (n-k) (Nat.le_refl _);have hz:FloatKind.f64.format.div (kL (A (k+m) k)) (jA (A (k+m)) k (n-k))=some z:=hv;have nz:Num z:=by
     cases hb:has0 (A (k+m) k) with
     |true=>
      rw[hls.2.1 hb] at hz;exact(zhD hmf.1 hmf.2 hz).1
     |false=>
      have hge:=(QA (f:=A (k+m)) (k:=k) (m:=n-k) (fun j hj=>hG _ _ (by omega) (by omega)) (n-k) (Nat.le_refl _)).2 0 (by omega);rw[Nat.add_zero] at hge;have hne:idx (jA (A (k+m)) k (n-k))≠0:=by
       intro h0;unfold has0 at hb;have:=gi.le;by_cases q1:idx (A (k+m) k).1<=0
       ·by_cases q2:0<=idx (A (k+m) k).2
        ·simp[q1,q2] at hb
        ·omega
       ·omega
      obtain⟨r',e,hn⟩:=vO hls.1 hmf.1 hne;have e':FloatKind.f64.format.div (kL (A (k+m) k)) (jA (A (k+m)) k (n-k))=some r':=e;rw[e'] at hz;cases hz;exact hn.num
    have hgt:idx (pvS A n k m).1<idx z:=by
     have ho:FloatKind.f64.format.order z (pvS A n k m).1=_:=qe nz h2;rw[ho] at ha;by_cases q1:idx z<idx (pvS A n k m).1
     ·rw[if_pos q1] at ha;cases ha
     ·by_cases q2:idx z=idx (pvS A n k m).1
      ·rw[if_neg q1,if_pos q2] at ha;cases ha
      ·omega
    refine⟨by simp only[Option.getD_some];omega,nz,fun _=>?_⟩;rw[Int.toNat_natCast];cases hb:has0 (A (k+m) k) with
    |false=>rfl
    |true=>
     exfalso;rw[hls.2.1 hb] at hz;have:=zhD hmf.1 hmf.2 hz;omega
  ·exact⟨h1,h2,h3⟩
theorem JG {α:Type}{a b c:Option α}(h:ors (ors a b) c=none):a=none/\b=none/\c=none:=by
 obtain⟨h1,h2⟩:=Qt.1 h;obtain⟨h3,h4⟩:=Qt.1 h1;exact⟨h3,h4,h2⟩
section
variable {E:Nat->Option Value} {M V S:Nat×Nat->Nat×Nat->AnsQ} (O:Ops3 E M V S) {B:Nat->Nat->Nat×Nat} {b:Nat->Nat->Rat} {n k i:Nat} {F:AnsQ} {f:Rat}
omit O in
theorem Vb {m:Nat}(h:(colS M S B k i F (m+1)).2=none):(colS M S B k i F m).2=none/\(M F.1 (B k (k+1+m))).2=none/\(S ((colS M S B k i F m).1 (k+1+m)) (M F.1 (B k (k+1+m))).1).2=none /\
  (colS M S B k i F (m+1)).1=upd (colS M S B k i F m).1 (k+1+m) (S ((colS M S B k i F m).1 (k+1+m)) (M F.1 (B k (k+1+m))).1).1:=by
 simp only[colS] at h ⊢;split at h
 ·rename_i hc;exact absurd h hc.2
 ·rename_i hc;obtain⟨h1,h2,h3⟩:=JG h;exact⟨h1,h2,h3,by rw[if_neg hc]⟩
omit O in
theorem Jm {m:Nat}:∀ {d:Nat},(colS M S B k i F (m+d)).2=none->(colS M S B k i F m).2=none
 |0,h=>h
 |d+1,h=>Jm (d:=d) (Vb (m:=m+d) h).1
include O in
theorem Rt (hG:∀i j,i<n->j<=n->Gd (B i j))(hF:Gd F.1)(hi:i<n)(hk:k<n)(hb:∀i j,i<n->j<=n->Wi (b i j) (B i j))(hf:Wi f F.1):∀m,m<=n-k->(colS M S B k i F m).2=none ->
  ∀j,j<=n->Wi (if k<j/\j<k+1+m then b i j-f*b k j else b i j) ((colS M S B k i F m).1 j)
 |0,_,_,j,hj=>by
  rw[if_neg (by omega)];exact hb i j hi hj
 |m+1,hm,he,j,hj=>by
  obtain⟨e1,e2,e3,e4⟩:=Vb he;have ih:=Rt hG hF hi hk hb hf m (by omega) e1;have gc:=KJ (i:=i) O hG hF hi hk m (by omega);rw[e4];simp only[upd];by_cases h:j=k+1+m
  ·subst h;rw[if_pos rfl,if_pos (by omega)];have h1:=ih (k+1+m) (by omega);rw[if_neg (by omega)] at h1;have h2:=zcX O hF (hG k (k+1+m) hk (by omega)) hf (hb k (k+1+m) hk (by omega)) e2;exact zbO O (gc _ (by omega)) (O.gm hF (hG k _ hk (by omega))) h1 h2 e3
  ·rw[if_neg h];have h1:=ih j hj;have:(k<j/\j<k+1+m)↔(k<j/\j<k+1+(m+1)):=by omega
   simp only[this] at h1;exact h1
omit O in
def clR (b:Nat->Nat->Rat)(k m:Nat):Nat->Nat->Rat:=fun i j=>if k<i/\i<k+1+m then b i j-b i k/b k k*b k j else b i j
omit O in
theorem R2 {A:Nat->Nat->Nat×Nat}{m:Nat}(h:(rowS M V S A n k (m+1)).2=none):(rowS M V S A n k m).2=none:=by
 simp only[rowS] at h;split at h
 ·rename_i hc;exact absurd h hc
 ·rename_i hc;cases e:(rowS M V S A n k m).2 with
  |none=>rfl
  |some _=>rw[e] at hc;simp at hc
omit O in
theorem yT {A:Nat->Nat->Nat×Nat}:∀m i,(i<=k\/k+1+m<=i)->(rowS M V S A n k m).1 i=A i
 |0,_,_=>rfl
 |m+1,i,h=>by
  have ih:=yT (A:=A) m i (by omega);simp only[rowS]
  repeat' split
  all_goals first|exact ih|(simp only[wD _ _ (show i≠k+1+m by omega)];exact ih)
include O in
theorem VD {A:Nat->Nat->Nat×Nat}(hG:∀i j,i<n->j<=n->Gd (A i j))(hk:k<n)(hw:∀i j,i<n->j<=n->Wi (b i j) (A i j))(hp:has0 (A k k)=false)(hz:∀i j,i<n->j<k->j<i->b i j=0) :
  ∀m,m<=n-1-k->(rowS M V S A n k m).2=none->∀i j,i<n->j<=n->Wi (clR b k m i j) ((rowS M V S A n k m).1 i j)
 |0,_,_,i,j,hi,hj=>by
  unfold clR;rw[if_neg (by omega)];exact hw i j hi hj
 |m+1,hm,he,i,j,hi,hj=>by
  have e1:=R2 he;have ih:=VD hG hk hw hp hz m (by omega) e1;have gR:=Kx O hG hk m (by omega);have ki:=yT (M:=M) (V:=V) (S:=S) (A:=A) (n:=n) (k:=k) m k (.inl (Nat.le_refl _));have hkk:b k k≠0:=Jg hp (hG k k hk (by omega)) (hw k k hk (by omega));have same:∀i,i≠k+1+m->clR b k (m+1) i j=clR b k m i j:=fun i h=>by
   unfold clR;have:(k<i/\i<k+1+(m+1))↔(k<i/\i<k+1+m):=by omega
   simp only[this]
  have hbi:∀j,clR b k m (k+1+m) j=b (k+1+m) j:=fun j=>by unfold clR;rw[if_neg (by omega)]
  have hbk:∀j,clR b k m k j=b k j:=fun j=>by unfold clR;rw[if_neg (by omega)]
  have hnew:clR b k (m+1) (k+1+m) j=b (k+1+m) j-b (k+1+m) k/b k k*b k j:=by unfold clR;rw[if_pos (by omega)]
  have hik:=ih (k+1+m) k (by omega) (by omega);rw[hbi] at hik;simp only[rowS] at he ⊢;rw[if_neg (by rw[e1];simp)] at he ⊢;split
  ·rename_i hzz;by_cases h:i=k+1+m
   ·subst h;have hz0:b (k+1+m) k=0:=by
     rw[(zco (gR _ _ (by omega) (by omega))).1 hzz] at hik;exact Hg hik
    rw[hnew,hz0];have:=ih (k+1+m) j hi hj;rw[hbi] at this;have e0:b (k+1+m) j-0/b k k*b k j=b (k+1+m) j:=by rw[Rat.div_def,Rat.zero_mul,Rat.zero_mul];grind
    rw[e0];exact this
   ·rw[same i h];exact ih i j hi hj
  ·rename_i hzz;rw[if_neg hzz] at he;split
   ·rename_i hc;rw[if_pos hc] at he;exact absurd he hc
   ·rename_i hc;have hc':(colS M S (rowS M V S A n k m).1 k (k+1+m) (V ((rowS M V S A n k m).1 (k+1+m) k) ((rowS M V S A n k m).1 k k)) (n-k)).2=none:=by
     cases e:(colS M S (rowS M V S A n k m).1 k (k+1+m) (V ((rowS M V S A n k m).1 (k+1+m) k) ((rowS M V S A n k m).1 k k)) (n-k)).2 with
     |none=>rfl
     |some _=>rw[e] at hc;simp at hc
    have hV:(V ((rowS M V S A n k m).1 (k+1+m) k) ((rowS M V S A n k m).1 k k)).2=none:=by
     have:=Jm (M:=M) (S:=S) (B:=(rowS M V S A n k m).1) (k:=k) (i:=k+1+m) (F:=V ((rowS M V S A n k m).1 (k+1+m) k) ((rowS M V S A n k m).1 k k)) (m:=0) (d:=n-k) (by rw[Nat.zero_add];exact hc');exact this
    have hF:=(zde O (gR _ _ (by omega) (by omega)) (gR k k hk (by omega)) hik (by have:=ih k k hk (by omega);rw[hbk] at this;exact this) hV).2;have gF:Gd (V ((rowS M V S A n k m).1 (k+1+m) k) ((rowS M V S A n k m).1 k k)).1:=O.gv (gR _ _ (by omega) (by omega)) (gR _ _ hk (by omega));have hcol:=Rt (i:=k+1+m) O gR gF (by omega) hk ih hF (n-k) (Nat.le_refl _) hc' j hj;by_cases h:i=k+1+m
    ·subst h;rw[hnew];simp only[wq];by_cases hjk:j=k
     ·subst hjk;rw[wq];have e0:b (j+1+m) j-b (j+1+m) j/b j j*b j j=0:=by
       rw[Rat.div_def,Rat.mul_assoc,Rat.mul_comm (b j j)⁻¹,Rat.mul_inv_cancel _ hkk];grind
      rw[e0];exact zeb
     ·simp only[wD _ _ hjk];rw[hbi,hbk] at hcol;by_cases hjl:j<k
      ·rw[if_neg (by omega)] at hcol;have e0:b k j=0:=hz k j hk hjl hjl;rw[e0];have e1:b (k+1+m) j-b (k+1+m) k/b k k*0=b (k+1+m) j:=by grind
       rw[e1];exact hcol
      ·rw[if_pos (by omega)] at hcol;exact hcol
    ·rw[same i h];simp only[wD _ _ h];exact ih i j hi hj
end
section
variable {E:Nat->Option Value} {M V S:Nat×Nat->Nat×Nat->AnsQ} (O:Ops3 E M V S) {A:Nat->Nat->Nat×Nat} {a:Nat->Nat->Rat} {x:Nat->Rat} {n:Nat}
include O
theorem x4 (hG:∀i j,i<n->j<=n->Gd (A i j))(hw:∀i j,i<n->j<=n->Wi (a i j) (A i j))(hs:∀i,i<n->SatR a x n i):∀k,k<=n->∀B,je M V S A n k=some B->∃b,ElI B b x n k
 |0,_,B,h=>by
  simp only[je,Option.some.injEq] at h;subst h;exact⟨a,hw,hs,fun i j _ h=>by omega,fun i h=>by omega⟩
 |k+1,hk,B,h=>by
  simp only[je] at h;cases h0:je M V S A n k with
  |none=>rw[h0] at h;cases h
  |some B0=>
   rw[h0] at h;simp only at h;obtain⟨b,I⟩:=x4 hG hw hs k (by omega) B0 h0;have g0:=xg O hG k (by omega) B0 h0;split at h
   ·cases h
   ·rename_i hneg;rcases JF B0 n k (n-k) with hat|⟨z,z1,z2,z3⟩
    ·omega
    ·have hzn:z<n:=by omega
     rw[z3,Int.toNat_natCast] at h;have gs:=Hk g0 (k:=k) (x:=z) (by omega) hzn;have hp:has0 (swp B0 k z k k)=false:=by
      have:=(Qs (k:=k) g0 (by omega) (n-k) (by omega)).2.2 (by omega);rw[z3,Int.toNat_natCast] at this;have e:swp B0 k z k=B0 z:=by
       unfold swp;by_cases h1:k=z
       ·rw[if_pos h1,h1]
       ·rw[if_neg h1,if_pos rfl]
      rw[e];exact this
     have sw:∀i,i<n->∃i',i'<n/\swp b k z i=b i'/\swp B0 k z i=B0 i'/\(i<k->i'=i)/\(k<=i->k<=i'):=fun i hi=>by
      unfold swp;by_cases h1:i=z
      ·rw[if_pos h1,if_pos h1];exact⟨k,by omega,rfl,rfl,fun h=>by omega,fun _=>Nat.le_refl _⟩
      ·rw[if_neg h1,if_neg h1];by_cases h2:i=k
       ·rw[if_pos h2,if_pos h2];exact⟨z,by omega,rfl,rfl,fun h=>by omega,fun _=>z1⟩
       ·rw[if_neg h2,if_neg h2];exact⟨i,hi,rfl,rfl,fun _=>rfl,fun h=>h⟩
     have sWi:∀i j,i<n->j<=n->Wi (swp b k z i j) (swp B0 k z i j):=fun i j hi hj=>by
      obtain⟨i',h1,h2,h3,_⟩:=sw i hi;rw[h2,h3];exact I.wi i' j h1 hj
     have sSat:∀i,i<n->SatR (swp b k z) x n i:=fun i hi=>by
      obtain⟨i',h1,h2,_⟩:=sw i hi;have:=I.sat i' h1;unfold SatR at this ⊢;rw[h2];exact this
     have sZ:∀i j,i<n->j<k->j<i->swp b k z i j=0:=fun i j hi hj hji=>by
      obtain⟨i',h1,h2,_,h4,h5⟩:=sw i hi;rw[h2];exact I.zero i' j h1 hj (by
       rcases Nat.lt_or_ge i k with g|g
       ·rw[h4 g];exact hji
       ·have:=h5 g;omega)
     cases hR:(rowS M V S (swp B0 k z) n k (n-1-k)).2 with
     |some _=>rw[hR] at h;cases h
     |none=>
      rw[hR] at h;simp only[Option.some.injEq] at h;subst h;have hkk:swp b k z k k≠0:=Jg hp (gs k k (by omega) (by omega)) (sWi k k (by omega) (by omega));refine⟨clR (swp b k z) k (n-1-k),VD O gs (by omega) sWi hp sZ (n-1-k) (Nat.le_refl _) hR,fun i hi=>?_,fun i j hi hj hji=>?_,fun i hi=>?_⟩
      ·have h1:=sSat i hi;have h2:=sSat k (by omega);unfold SatR clR at *;by_cases g:k<i/\i<k+1+(n-1-k)
       ·simp only[if_pos g];have:=Uz (fun j=>swp b k z i j*x j) (fun j=>swp b k z k j*x j) (swp b k z i k/swp b k z k k) n;rw[h1,h2] at this;rw[<-this];exact j6 fun j _=>by grind
       ·simp only[if_neg g];exact h1
      ·unfold clR;by_cases g:k<i/\i<k+1+(n-1-k)
       ·rw[if_pos g];by_cases gj:j=k
        ·subst gj;rw[Rat.div_def,Rat.mul_assoc,Rat.mul_comm (swp b j z j j)⁻¹,Rat.mul_inv_cancel _ hkk];grind
        ·rw[sZ i j hi (by omega) hji,sZ k j (by omega) (by omega) (by omega)];grind
       ·rw[if_neg g];exact sZ i j hi (by omega) hji
      ·rw[yT (n-1-k) i (.inl (by omega))];rcases Nat.lt_or_ge i k with g|g
       ·obtain⟨i',h1,h2,h3,h4,_⟩:=sw i (by omega);rw[h3,h4 g];exact I.pv i g
       ·obtain rfl:i=k:=by omega
        exact hp
theorem zeA {B:Nat->Nat->Nat×Nat}{b:Nat->Nat->Rat}(hG:∀i j,i<n->j<=n->Gd (B i j))(hw:∀i j,i<n->j<=n->Wi (b i j) (B i j)){out:Nat->Nat×Nat}(go:∀j,Gd (out j)){i:Nat}(hi:i<n){e:Option (ByteArray×D)}(ho:∀j,i<j->j<n->Wi (x j) (out j)) :
  ∀m,i+m<n->(bkT M S B out n i e m).2=none->e=none/\Wi (b i n-smR (fun j=>b i (i+1+j)*x (i+1+j)) m) (bkT M S B out n i e m).1
 |0,_,h=>by
  refine⟨h,?_⟩;simp only[smR,bkT];have:=hw i n hi (Nat.le_refl _);have e0:b i n-0=b i n:=by grind
  rw[e0];exact this
 |m+1,hm,h=>by
  simp only[bkT] at h ⊢;obtain⟨h1,h2,h3⟩:=JG h;obtain⟨h4,h5⟩:=zeA hG hw go hi ho m (by omega) h1;refine⟨h4,?_⟩;have hm2:=zcX O (hG i (i+1+m) hi (by omega)) (go (i+1+m)) (hw i (i+1+m) hi (by omega)) (ho (i+1+m) (by omega) (by omega)) h2;have hs2:=zbO O (zA O hG go hi m (by omega)) (O.gm (hG i (i+1+m) hi (by omega)) (go (i+1+m))) h5 hm2 h3;have e0:b i n-smR (fun j=>b i (i+1+j)*x (i+1+j)) (m+1)=b i n-smR (fun j=>b i (i+1+j)*x (i+1+j)) m-b i (i+1+m)*x (i+1+m):=by simp only[smR];grind
  rw[e0];exact hs2
omit O in
theorem ZM {f:Nat->Rat}:∀ {m:Nat},(∀j,j<m->f j=0)->smR f m=0
 |0,_=>rfl
 |m+1,h=>by simp only[smR];rw[ZM (fun j hj=>h j (by omega)),h m (by omega)];grind
omit O in
theorem Vy (f:Nat->Rat)(p:Nat):∀m,smR f (p+m)=smR f p+smR (fun j=>f (p+j)) m
 |0=>by simp only[smR,Nat.add_zero];grind
 |m+1=>by
  show smR f (p+m+1)=_
  simp only[smR];rw[Vy f p m];grind
theorem Ui {B:Nat->Nat->Nat×Nat}{b:Nat->Nat->Rat}(hG:∀i j,i<n->j<=n->Gd (B i j))(I:ElI B b x n n) :
  ∀m,m<=n->(bkS M V S B n m).2=none->∀j,n-m<=j->j<n->Wi (x j) ((bkS M V S B n m).1 j)
 |0,_,_,j,h1,h2=>by omega
 |m+1,hm,h,j,h1,h2=>by
  simp only[bkS] at h ⊢;obtain⟨h3,h4⟩:=Qt.1 h;have gb:=JW O hG m (by omega);obtain⟨r,hr⟩:∃r,n-1-m=r:=⟨_,rfl⟩;rw[hr] at h3 h4 ⊢;have hrn:r<n:=by omega
  have h5:(bkS M V S B n m).2=none:=by
   cases e:(bkS M V S B n m).2 with
   |none=>rfl
   |some p=>
    exfalso;have:∀d,(bkT M S B (bkS M V S B n m).1 n r (bkS M V S B n m).2 d).2=none->(bkS M V S B n m).2=none:=fun d=>by
     induction d with
     |zero=>exact fun h=>h
     |succ d ih=>intro h;simp only[bkT] at h;exact ih (JG h).1
    rw[this m h3] at e;cases e
  have ih:=Ui hG I m (by omega) h5;have ht:=(zeA O hG I.wi gb hrn (e:=(bkS M V S B n m).2) (fun j g1 g2=>ih j (by omega) g2) m (by omega) h3).2;simp only[upd];by_cases hj:j=r
  ·subst hj;rw[if_pos rfl];have hd:=zde O (zA O hG gb hrn m (by omega)) (hG j j hrn (by omega)) ht (I.wi j j hrn (by omega)) h4;have hne:=Jg (I.pv j hrn) (hG j j hrn (by omega)) (I.wi j j hrn (by omega));have hx:(b j n-smR (fun k=>b j (j+1+k)*x (j+1+k)) m)/b j j=x j:=by
    have hsat:=I.sat j hrn;unfold SatR at hsat;have hn:n=j+(m+1):=by omega
    have e1:smR (fun k=>b j k*x k) n=smR (fun k=>b j k*x k) j+smR (fun k=>b j (j+k)*x (j+k)) (1+m):=by
     have:=Vy (fun k=>b j k*x k) j (1+m);rw[show j+(1+m)=n by omega] at this;exact this
    have e2:smR (fun k=>b j k*x k) j=0:=ZM fun k hk=>by rw[I.zero j k hrn (by omega) hk];grind
    have e3:=Vy (fun k=>b j (j+k)*x (j+k)) 1 m;have e4:smR (fun k=>b j (j+k)*x (j+k)) 1=b j j*x j:=by simp only[smR,Nat.add_zero];grind
    have e5:smR (fun k=>b j (j+(1+k))*x (j+(1+k))) m=smR (fun k=>b j (j+1+k)*x (j+1+k)) m:=j6 fun k _=>by rw[Nat.add_assoc]
    have e6:b j n-smR (fun k=>b j (j+1+k)*x (j+1+k)) m=x j*b j j:=by grind
    rw[e6,Rat.div_def,Rat.mul_assoc,Rat.mul_inv_cancel _ hne,Rat.mul_one]
   rw[hx] at hd;exact hd.2
  ·rw[if_neg hj];exact ih j (by omega) h2
theorem Kv (hG:∀i j,i<n->j<=n->Gd (A i j))(hw:∀i j,i<n->j<=n->Wi (a i j) (A i j))(hs:∀i,i<n->SatR a x n i){out:Nat->Nat×Nat}(h:solS M V S A n=some out):(∀j,j<n->Wi (x j) (out j))/\∀j,Gd (out j):=by
 unfold solS at h;cases he:je M V S A n n with
 |none=>rw[he] at h;cases h
 |some B=>
  rw[he] at h;simp only at h;cases hb:(bkS M V S B n n).2 with
  |some _=>rw[hb] at h;cases h
  |none=>
   rw[hb] at h;cases h;obtain⟨b,I⟩:=x4 O hG hw hs n (Nat.le_refl _) B he;have gB:=xg O hG n (Nat.le_refl _) B he;exact⟨fun j hj=>Ui O gB I n (Nat.le_refl _) hb j (by omega) hj,fun j=>JW O gB n (Nat.le_refl _) j⟩
end
end Go.Enc
