/-
  Determinants of up to four rows; what was solved has none that is nought. No program.
-/
import Derived.Test.YtjlibljfpkmpfaaGreatDoorSa37
import Derived.Test.YtjlibljfpkmpfaaGreatDoorSa13
import Derived.Test.YtjlibljfpkmpfaaGreatDoorSa28
import Derived.Test.YtjlibljfpkmpfaaGreatDoorSa19
import Derived.Test.YtjlibljfpkmpfaaGreatDoorSa32
set_option maxRecDepth 100000
set_option linter.unusedSimpArgs false
set_option linter.unusedVariables false
section
namespace Go.Enc
open Go.Enc.Fl
def mnr (a:Nat->Nat->Rat)(j:Nat):Nat->Nat->Rat:=fun i k=>a (i+1) (if k<j then k else k+1)
def detR:Nat->(Nat->Nat->Rat)->Rat
 |0,_=>1
 |n+1,a=>smR (fun j=>if j % 2=1 then -(a 0 j*detR n (mnr a j)) else a 0 j*detR n (mnr a j)) (n+1)
theorem det1 (a:Nat->Nat->Rat):detR 1 a=a 0 0:=by
 simp[detR,smR];grind
theorem det2 (a:Nat->Nat->Rat):detR 2 a=a 0 0*a 1 1-a 0 1*a 1 0:=by
 simp[detR,smR,mnr];grind
theorem det3 (a:Nat->Nat->Rat):detR 3 a=a 0 0*(a 1 1*a 2 2-a 1 2*a 2 1)-a 0 1*(a 1 0*a 2 2-a 1 2*a 2 0)+a 0 2*(a 1 0*a 2 1-a 1 1*a 2 0):=by
 show smR _ 3=_
 simp only[smR,det2,mnr];simp;grind
theorem det4 (a:Nat->Nat->Rat):detR 4 a=a 0 0*(a 1 1*(a 2 2*a 3 3-a 2 3*a 3 2)-a 1 2*(a 2 1*a 3 3-a 2 3*a 3 1)+a 1 3*(a 2 1*a 3 2-a 2 2*a 3 1))
  - a 0 1*(a 1 0*(a 2 2*a 3 3-a 2 3*a 3 2)-a 1 2*(a 2 0*a 3 3-a 2 3*a 3 0)+a 1 3*(a 2 0*a 3 2-a 2 2*a 3 0))
  + a 0 2*(a 1 0*(a 2 1*a 3 3-a 2 3*a 3 1)-a 1 1*(a 2 0*a 3 3-a 2 3*a 3 0)+a 1 3*(a 2 0*a 3 1-a 2 1*a 3 0))
  - a 0 3*(a 1 0*(a 2 1*a 3 2-a 2 2*a 3 1)-a 1 1*(a 2 0*a 3 2-a 2 2*a 3 0)+a 1 2*(a 2 0*a 3 1-a 2 1*a 3 0)):=by
 show smR _ 4=_
 simp only[smR,det3,mnr];simp;grind
def repC (a:Nat->Nat->Rat)(b:Nat->Rat)(c:Nat):Nat->Nat->Rat:=fun i j=>if j=c then b i else a i j
def addR (a:Nat->Nat->Rat)(c:Rat)(i k:Nat):Nat->Nat->Rat:=fun x j=>if x=i then a i j-c*a k j else a x j
theorem zhF {n:Nat}(h:n<=4)(a:Nat->Nat->Rat)(b:Nat->Rat){i:Nat}(hi:i<n):smR (fun j=>a i j*detR n (repC a b j)) n=detR n a*b i:=by
 rcases(show n=1\/n=2\/n=3\/n=4 by omega) with rfl|rfl|rfl|rfl
 ·obtain rfl:i=0:=by omega
  simp only[smR,det1,repC];simp;grind
 ·rcases(show i=0\/i=1 by omega) with rfl|rfl<;>(simp only[smR,det2,repC];simp;grind)
 ·rcases(show i=0\/i=1\/i=2 by omega) with rfl|rfl|rfl<;>(simp only[smR,det3,repC];simp;grind)
 ·rcases(show i=0\/i=1\/i=2\/i=3 by omega) with rfl|rfl|rfl|rfl<;>(simp only[smR,det4,repC];simp;grind)
theorem zgH {n:Nat}(h:n<=4)(a:Nat->Nat->Rat)(c:Rat){i k:Nat}(hi:i<n)(hk:k<n)(hik:i≠k):detR n (addR a c i k)=detR n a:=by
 rcases(show n=1\/n=2\/n=3\/n=4 by omega) with rfl|rfl|rfl|rfl
 ·omega
 ·rcases(show i=0\/i=1 by omega) with rfl|rfl<;>rcases(show k=0\/k=1 by omega) with rfl|rfl<;>first|(exfalso;omega)|(simp only[det2,addR];simp;grind)
 ·rcases(show i=0\/i=1\/i=2 by omega) with rfl|rfl|rfl<;>rcases(show k=0\/k=1\/k=2 by omega) with rfl|rfl|rfl<;>first|(exfalso;omega)|(simp only[det3,addR];simp;grind)
 ·rcases(show i=0\/i=1\/i=2\/i=3 by omega) with rfl|rfl|rfl|rfl<;>rcases(show k=0\/k=1\/k=2\/k=3 by omega) with rfl|rfl|rfl|rfl<;>first|(exfalso;omega)|(simp only[det4,addR];simp;grind)
theorem zgG {n:Nat}(h:n<=4)(a:Nat->Nat->Rat){i k:Nat}(hi:i<n)(hk:k<n):detR n (swp a i k)=detR n a\/detR n (swp a i k) = -detR n a:=by
 by_cases hik:i=k
 ·subst hik;left;have:swp a i i=a:=by funext x;unfold swp;by_cases h:x=i<;>simp[h]
  rw[this]
 right;rcases(show n=1\/n=2\/n=3\/n=4 by omega) with rfl|rfl|rfl|rfl
 ·omega
 ·rcases(show i=0\/i=1 by omega) with rfl|rfl<;>rcases(show k=0\/k=1 by omega) with rfl|rfl<;>first|(exfalso;omega)|(simp only[det2,swp];simp;grind)
 ·rcases(show i=0\/i=1\/i=2 by omega) with rfl|rfl|rfl<;>rcases(show k=0\/k=1\/k=2 by omega) with rfl|rfl|rfl<;>first|(exfalso;omega)|(simp only[det3,swp];simp;grind)
 ·rcases(show i=0\/i=1\/i=2\/i=3 by omega) with rfl|rfl|rfl|rfl<;>rcases(show k=0\/k=1\/k=2\/k=3 by omega) with rfl|rfl|rfl|rfl<;>first|(exfalso;omega)|(simp only[det4,swp];simp;grind)
theorem zgF {n:Nat}(h:n<=4)(a:Nat->Nat->Rat)(hz:∀i j,i<n->j<i->a i j=0)(hd:∀i,i<n->a i i≠0):detR n a≠0:=by
 have m:=@Rat.mul_eq_zero;rcases(show n=0\/n=1\/n=2\/n=3\/n=4 by omega) with rfl|rfl|rfl|rfl|rfl
 ·show(1:Rat)≠0;decide +kernel
 ·rw[det1];exact hd 0 (by omega)
 ·have e:detR 2 a=a 0 0*a 1 1:=by rw[det2,hz 1 0 (by omega) (by omega)];grind
  rw[e];intro h;rcases m.1 h with h|h
  ·exact hd 0 (by omega) h
  ·exact hd 1 (by omega) h
 ·have e:detR 3 a=a 0 0*a 1 1*a 2 2:=by rw[det3,hz 1 0 (by omega) (by omega),hz 2 0 (by omega) (by omega),hz 2 1 (by omega) (by omega)];grind
  rw[e];intro h;rcases m.1 h with h|h
  ·rcases m.1 h with h|h
   ·exact hd 0 (by omega) h
   ·exact hd 1 (by omega) h
  ·exact hd 2 (by omega) h
 ·have e:detR 4 a=a 0 0*a 1 1*a 2 2*a 3 3:=by rw[det4,hz 1 0 (by omega) (by omega),hz 2 0 (by omega) (by omega),hz 2 1 (by omega) (by omega),hz 3 0 (by omega) (by omega),hz 3 1 (by omega) (by omega),hz 3 2 (by omega) (by omega)];grind
  rw[e];intro h;rcases m.1 h with h|h
  ·rcases m.1 h with h|h
   ·rcases m.1 h with h|h
    ·exact hd 0 (by omega) h
    ·exact hd 1 (by omega) h
   ·exact hd 2 (by omega) h
  ·exact hd 3 (by omega) h
theorem Ru {n k:Nat}(h:n<=4)(b:Nat->Nat->Rat)(hk:k<n):∀m,m<=n-1-k->detR n (clR b k m)=detR n b
 |0,_=>by
  have:clR b k 0=b:=by
   funext i j
   unfold clR;rw[if_neg (by omega)]
  rw[this]
 |m+1,hm=>by
  have e:clR b k (m+1)=addR (clR b k m) (b (k+1+m) k/b k k) (k+1+m) k:=by
   funext i j
   simp only[clR,addR];by_cases h1:i=k+1+m
   ·subst h1;simp only;rw[if_pos ⟨by omega,by omega⟩,if_pos trivial,if_neg (by omega),if_neg (by omega)]
   ·rw[if_neg h1];by_cases h2:k<i/\i<k+1+m
    ·rw[if_pos ⟨h2.1,by omega⟩,if_pos h2]
    ·rw[if_neg (by omega),if_neg h2]
  rw[e,zgH h _ _ (by omega) hk (by omega),Ru h b hk m (by omega)]
structure ElQ (Q:(Nat->Nat->Rat)->Prop)(B:Nat->Nat->Nat×Nat)(b:Nat->Nat->Rat)(n k:Nat):Prop where
 wi:∀i j,i<n->j<=n->Wi (b i j) (B i j)
 q:Q b
 zero:∀i j,i<n->j<k->j<i->b i j=0
 pv:∀i,i<k->has0 (B i i)=false
section
variable {E:Nat->Option Value} {M V S:Nat×Nat->Nat×Nat->AnsQ} (O:Ops3 E M V S) {A:Nat->Nat->Nat×Nat} {a:Nat->Nat->Rat} {n:Nat}
include O
theorem Rp {Q:(Nat->Nat->Rat)->Prop}(qs:∀b k z,k<n->z<n->Q b->Q (swp b k z))(qc:∀b k,k<n->Q b->Q (clR b k (n-1-k)))(hG:∀i j,i<n->j<=n->Gd (A i j))(hw:∀i j,i<n->j<=n->Wi (a i j) (A i j))(ha:Q a):∀k,k<=n->∀B,je M V S A n k=some B->∃b,ElQ Q B b n k
 |0,_,B,h=>by
  simp only[je,Option.some.injEq] at h;subst h;exact⟨a,hw,ha,fun i j _ h=>by omega,fun i h=>by omega⟩
 |k+1,hk,B,h=>by
  simp only[je] at h;cases h0:je M V S A n k with
  |none=>rw[h0] at h;cases h
  |some B0=>
   rw[h0] at h;simp only at h;obtain⟨b,I⟩:=Rp qs qc hG hw ha k (by omega) B0 h0;have g0:=xg O hG k (by omega) B0 h0;split at h
   ·cases h
   ·rename_i hneg;rcases JF B0 n k (n-k) with hat|⟨z,z1,z2,z3⟩
    ·omega
    ·have hzn:z<n:=by omega
     rw[z3,Int.toNat_natCast] at h;have gs:=Hk g0 (k:=k) (x:=z) (by omega) hzn;have hp:has0 (swp B0 k z k k)=false:=by
      have:=(Qs (k:=k) g0 (by omega) (n-k) (by omega)).2.2 (by omega);rw[z3,Int.toNat_natCast] at this;have e:swp B0 k z k=B0 z:=by
       unfold swp;by_cases h1:k=z
       ·rw[if_pos h1,h1]
       ·rw[if_neg h1,if_pos rfl]
      rw[e];exact this
     have sw:∀i,i<n->∃i',i'<n/\swp b k z i=b i'/\swp B0 k z i=B0 i'/\(i<k->i'=i)/\(k<=i->k<=i'):=fun i hi=>by
      unfold swp;by_cases h1:i=z
      ·rw[if_pos h1,if_pos h1];exact⟨k,by omega,rfl,rfl,fun h=>by omega,fun _=>Nat.le_refl _⟩
      ·rw[if_neg h1,if_neg h1];by_cases h2:i=k
       ·rw[if_pos h2,if_pos h2];exact⟨z,by omega,rfl,rfl,fun h=>by omega,fun _=>z1⟩
       ·rw[if_neg h2,if_neg h2];exact⟨i,hi,rfl,rfl,fun _=>rfl,fun h=>h⟩
     have sWi:∀i j,i<n->j<=n->Wi (swp b k z i j) (swp B0 k z i j):=fun i j hi hj=>by
      obtain⟨i',h1,h2,h3,_⟩:=sw i hi;rw[h2,h3];exact I.wi i' j h1 hj
     have sZ:∀i j,i<n->j<k->j<i->swp b k z i j=0:=fun i j hi hj hji=>by
      obtain⟨i',h1,h2,_,h4,h5⟩:=sw i hi;rw[h2];exact I.zero i' j h1 hj (by
       rcases Nat.lt_or_ge i k with g|g
       ·rw[h4 g];exact hji
       ·have:=h5 g;omega)
     cases hR:(rowS M V S (swp B0 k z) n k (n-1-k)).2 with
     |some _=>rw[hR] at h;cases h
     |none=>
      rw[hR] at h;simp only[Option.some.injEq] at h;subst h;have hkk:swp b k z k k≠0:=Jg hp (gs k k (by omega) (by omega)) (sWi k k (by omega) (by omega));refine⟨clR (swp b k z) k (n-1-k),VD O gs (by omega) sWi hp sZ (n-1-k) (Nat.le_refl _) hR,qc _ _ (by omega) (qs _ _ _ (by omega) hzn I.q),fun i j hi hj hji=>?_,fun i hi=>?_⟩
      ·unfold clR;by_cases g:k<i/\i<k+1+(n-1-k)
       ·rw[if_pos g];by_cases gj:j=k
        ·subst gj;rw[Rat.div_def,Rat.mul_assoc,Rat.mul_comm (swp b j z j j)⁻¹,Rat.mul_inv_cancel _ hkk];grind
        ·rw[sZ i j hi (by omega) hji,sZ k j (by omega) (by omega) (by omega)];grind
       ·rw[if_neg g];exact sZ i j hi (by omega) hji
      ·rw[yT (n-1-k) i (.inl (by omega))];rcases Nat.lt_or_ge i k with g|g
       ·obtain⟨i',h1,h2,h3,h4,_⟩:=sw i (by omega);rw[h3,h4 g];exact I.pv i g
       ·obtain rfl:i=k:=by omega
        exact hp
theorem WX (h4:n<=4)(hG:∀i j,i<n->j<=n->Gd (A i j))(hw:∀i j,i<n->j<=n->Wi (a i j) (A i j)){out:Nat->Nat×Nat}(h:solS M V S A n=some out):detR n a≠0:=by
 unfold solS at h;cases he:je M V S A n n with
 |none=>rw[he] at h;cases h
 |some B=>
  obtain⟨b,I⟩:=Rp O (Q:=fun b=>detR n b=detR n a\/detR n b = -detR n a) (fun b k z hk hz q=>by
   rcases zgG h4 b hk hz with e|e<;>rw[e]<;>rcases q with q|q<;>rw[q]<;>first|exact .inl rfl|exact .inr rfl|(left;grind)) (fun b k hk q=>by rw[Ru h4 b hk _ (Nat.le_refl _)];exact q) hG hw (.inl rfl) n (Nat.le_refl _) B he
  have gB:=xg O hG n (Nat.le_refl _) B he;have ht:=zgF h4 b (fun i j hi hj=>I.zero i j hi (by omega) hj) (fun i hi=>Jg (I.pv i hi) (gB i i hi (by omega)) (I.wi i i hi (by omega)));rcases I.q with q|q
  ·rw[<-q];exact ht
  ·intro e;rw[e] at q;exact ht (by rw[q];grind)
theorem RW (h4:n<=4)(hG:∀i j,i<n->j<=n->Gd (A i j))(hw:∀i j,i<n->j<=n->Wi (a i j) (A i j)){out:Nat->Nat×Nat}(h:solS M V S A n=some out){j:Nat}(hj:j<n) :
  Wi (detR n (repC a (fun i=>a i n) j)/detR n a) (out j):=by
 have hd:=WX O h4 hG hw h;refine(Kv O hG hw (x:=fun j=>detR n (repC a (fun i=>a i n) j)/detR n a) (fun i hi=>?_) h).1 j hj;have c:=zhF h4 a (fun i=>a i n) hi;unfold SatR;have e:smR (fun j=>a i j*(detR n (repC a (fun i=>a i n) j)/detR n a)) n=(detR n a)⁻¹*smR (fun j=>a i j*detR n (repC a (fun i=>a i n) j)) n:=by
  have:∀(f:Nat->Rat) (c:Rat) m,smR (fun j=>c*f j) m=c*smR f m:=fun f c m=>by
   induction m with
   |zero=>simp only[smR];grind
   |succ m ih=>simp only[smR];rw[ih];grind
  rw[<-this];exact j6 fun j _=>by rw[Rat.div_def];grind
 rw[e,c];have:=Rat.mul_inv_cancel _ hd;grind
end
end Go.Enc
end
section
namespace Go.Enc
open Go.Enc.Nu Go.Enc.Fl
structure Nr (a:Nm)(k L:Nat):Prop where
 n:a.n<2^k
 lo : -(L:Int)<=a.e
 hi:a.e<=L
theorem Nr.mono {a:Nm}{k L k' L':Nat}(h:Nr a k L)(hk:k<=k')(hL:L<=L'):Nr a k' L':=
 ⟨Nat.lt_of_lt_of_le h.n (Nat.pow_le_pow_right (by decide) hk),by have:=h.lo;omega,by have:=h.hi;omega⟩
theorem Nr.ok {a:Nm}{k L:Nat}(h:Nr a k L)(hL:L<=1000000):NOk a k:=⟨h.n,by have:=h.lo;omega,by have:=h.hi;omega⟩
theorem Nr.neg {a:Nm}{k L:Nat}(h:Nr a k L):Nr (nneg a) k L:=⟨h.n,h.lo,h.hi⟩
theorem yW (k L:Nat):Nr nzero k L:=⟨Nat.pow_pos (by decide),by show -(L:Int)<=0;omega,by show(0:Int)<=L;omega⟩
theorem Nr.at {a:Nm}{k L:Nat}(h:Nr a k L){e:Int}(he : -(L:Int)<=e):at_ a e<2^(k+2*L):=by
 unfold at_;have h1:=h.hi;have h2:a.n*2^(a.e-e).toNat<2^k*2^(a.e-e).toNat:=Nat.mul_lt_mul_of_pos_right h.n (Nat.pow_pos (by decide));rw[<-Nat.pow_add] at h2;exact Nat.lt_of_lt_of_le h2 (Nat.pow_le_pow_right (by decide) (by omega))
theorem Nr.sum {a b:Nm}{k L:Nat}(ha:Nr a k L)(hb:Nr b k L):Nr (nsum a b) (k+(2*L+1)) L:=by
 have l1:=ha.lo;have l2:=hb.lo;have l3:=ha.hi;have l4:=hb.hi;have e : -(L:Int)<=lev a b/\lev a b<=L:=by unfold lev;omega
 have h1:=ha.at e.1;have h2:=hb.at e.1;have p:(2:Nat)^(k+(2*L+1))=2^(k+2*L)+2^(k+2*L):=by rw[show k+(2*L+1)=k+2*L+1 by omega,Nat.pow_succ];omega
 unfold nsum;simp only;split
 ·exact⟨by show _+_<_;omega,e.1,e.2⟩
 ·split
  ·exact yW _ _
  ·split
   ·exact⟨by show _-_<_;omega,e.1,e.2⟩
   ·exact⟨by show _-_<_;omega,e.1,e.2⟩
theorem Nr.prod {a b:Nm}{k L k' L':Nat}(ha:Nr a k L)(hb:Nr b k' L'):Nr (nprod a b) (k+k') (L+L'):=by
 have l1:=ha.lo;have l2:=hb.lo;have l3:=ha.hi;have l4:=hb.hi;refine⟨?_,by show _<=a.e+b.e;omega,by show a.e+b.e<=_;omega⟩
 show a.n*b.n<_
 rw[Nat.pow_add];exact Nat.mul_lt_mul'' ha.n hb.n
def smN (f:Nat->Nm):Nat->Nm
 |0=>nzero
 |m+1=>nsum (smN f m) (f m)
theorem Ut (f:Nat->Nm):∀m,val (smN f m)=smR (fun j=>val (f j)) m
 |0=>by simp only[smN,smR];exact jm rfl
 |m+1=>by simp only[smN,smR];rw[kj,Ut f m]
theorem Nr.sm {f:Nat->Nm}{k L:Nat}:∀ {m:Nat},(∀j,j<m->Nr (f j) k L)->Nr (smN f m) (k+m*(2*L+1)) L
 |0,_=>yW _ _
 |m+1,h=>by
  have h1:=Nr.sm (f:=f) (m:=m) (fun j hj=>h j (by omega));have h2:=(h m (by omega)).mono (k':=k+m*(2*L+1)) (Nat.le_add_right _ _) (Nat.le_refl L);have:=h1.sum h2;rw[show k+(m+1)*(2*L+1)=k+m*(2*L+1)+(2*L+1) by rw[Nat.add_mul,Nat.one_mul];omega];exact this
def mnrN (m:Nat->Nat->Nm)(j:Nat):Nat->Nat->Nm:=fun i k=>m (i+1) (if k<j then k else k+1)
def detT (x d:Nm)(j:Nat):Nm:=if j % 2=1 then nneg (nprod x d) else nprod x d
def detN:Nat->(Nat->Nat->Nm)->Nm
 |0,_=>⟨false,1,0⟩
 |n+1,m=>smN (fun j=>detT (m 0 j) (detN n (mnrN m j)) j) (n+1)
theorem Vo:∀(n:Nat) (m:Nat->Nat->Nm),val (detN n m)=detR n (fun i j=>val (m i j))
 |0,_=>by
  show val ⟨false,1,0⟩=(1:Rat)
  unfold val;decide +kernel
 |n+1,m=>by
  simp only[detN,detR];rw[Ut];refine j6 fun j _=>?_
  have ih:=Vo n (mnrN m j);have e:(fun i k=>val (mnrN m j i k))=mnr (fun i j=>val (m i j)) j:=rfl;unfold detT;split
  ·rw[xa,k8,ih,e]
  ·rw[k8,ih,e]
theorem Nr.detT {x d:Nm}{k L k' L' j:Nat}(hx:Nr x k L)(hd:Nr d k' L'):Nr (detT x d j) (k+k') (L+L'):=by
 unfold Go.Enc.detT;split
 ·exact(hx.prod hd).neg
 ·exact hx.prod hd
def dK:Nat->Nat
 |0=>1
 |n+1=>220+dK n+(n+1)*(2*((n+1)*100)+1)
theorem Nr.det:∀ {n:Nat} {m:Nat->Nat->Nm},(∀i j,i<n->j<n->Nr (m i j) 220 100)->Nr (detN n m) (dK n) (n*100)
 |0,_,_=>⟨by show 1<2^1;decide,by show(-((0*100:Nat):Int))<=0;omega,by show(0:Int)<=((0*100:Nat):Int);omega⟩
 |n+1,m,h=>by
  simp only[detN,dK];refine Nr.sm (L:=(n+1)*100) fun j hj=>?_
  have hd:=Nr.det (n:=n) (m:=mnrN m j) fun i k hi hk=>by
   unfold mnrN;exact h _ _ (by omega) (by split<;>omega)
  have:=(h 0 j (by omega) hj).detT hd (j:=j);rw[show 100+n*100=(n+1)*100 by omega] at this;exact this
theorem zhE {n:Nat}(h:n<=4):dK n<=10000:=by
 rcases(show n=0\/n=1\/n=2\/n=3\/n=4 by omega) with rfl|rfl|rfl|rfl|rfl<;>decide
end Go.Enc
end
section
namespace Go.Enc
open Go.RowKit
section
variable {C:Ctx} {σ:Mem} {G:Gh} {s:St} {a:Act} {w:World} {Q:Exit->St->Prop}
theorem RX {α:Type}{l:List α}{j:Nat}{u:α}(h:l[j]?=some u):l.set j u=l:=by
 apply List.ext_getElem?;intro i;rw[List.getElem?_set];by_cases e:j=i
 ·subst e;have hl:j<l.length:=by
   rcases Nat.lt_or_ge j l.length with g|g
   ·exact g
   ·rw[List.getElem?_eq_none g] at h;cases h
  rw[if_pos rfl,if_pos hl,h]
 ·rw[if_neg e]
theorem Stands.cell_as (S:Stands C σ G s a w){k:Nat}{o:Obj}{j:Nat}{x y:D}(h:s.h k=some o)(hx:o.cells[j]?=some (.d x))(hr:∀σ u,Rep σ x u->Rep σ y u):Stands C σ G { t:=s.t,h:=upd s.h k (some ⟨o.vec,o.cells.set j (.d y)⟩) } a w:=by
 have liv:∀k',s.h k'≠none->upd s.h k (some ⟨o.vec,o.cells.set j (.d y)⟩) k'≠none:=fun k' hk=>by
  simp only[upd];split
  ·simp
  ·exact hk
 have some':∀ {k' o'},upd s.h k (some ⟨o.vec,o.cells.set j (.d y)⟩) k'=some o'->∃o'',s.h k'=some o'':=fun {k' o'} hk=>by
  simp only[upd] at hk;split at hk
  ·rename_i e;subst e;exact⟨o,h⟩
  ·exact⟨o',hk⟩
 have cel:∀us:List Value,RepTU σ G o.cells us->RepTU σ G (o.cells.set j (.d y)) us:=fun us hu=>by
  obtain⟨u,h1,h2,h3⟩:=hu.get j _ hx;have:=hu.set j (.d y) u h2 (hr _ _ h3);rw[RX h1] at this;exact this
 exact { S with
  live:=fun i k' hk=>liv k' (S.live i k' hk)
  obj:=fun k' o' hk=>by
   simp only[upd] at hk;split at hk
   ·rename_i e;subst e;cases hk;have:=S.obj k' o h;unfold ObjIs at this ⊢;cases hv:o.vec with
    |none=>
     rw[hv] at this;obtain⟨b,us,ty,h1,h2,h3,h4,h5⟩:=this;exact⟨b,us,ty,h1,h2,h3,cel _ h4,h5⟩
    |some p=>
     obtain⟨e,size,nn⟩:=p;rw[hv] at this;obtain⟨n,us,h1,h2,h3,h4⟩:=this;refine⟨n,us,h1,cel _ h2,h3,fun hn hc=>h4 hn ?_⟩;have hc':o.cells.set j (.d y)=[]:=hc;have hl:(o.cells.set j (.d y)).length=0:=by rw[hc'];rfl
     rw[List.length_set] at hl;exact List.eq_nil_of_length_eq_zero hl
   ·exact S.obj k' o' hk
  deep:=fun k' o' hk c hc k'' hr'=>by
   simp only[upd] at hk;split at hk
   ·rename_i e;subst e;cases hk;rcases List.mem_or_eq_of_mem_set hc with hc|rfl
    ·exact liv _ (S.deep k' o h c hc k'' hr')
    ·simp[T.ref] at hr'
   ·exact liv _ (S.deep k' o' hk c hc k'' hr')
  sep:=fun k1 k2 o1 o2 b h1 h2=>by
   obtain⟨o1',e1⟩:=some' h1;obtain⟨o2',e2⟩:=some' h2;exact S.sep k1 k2 o1' o2' b e1 e2
  own:=fun k' o' b h1=>by
   obtain⟨o1',e1⟩:=some' h1;exact S.own k' o1' b e1
  fin:=by
   obtain⟨N,hN⟩:=S.fin;refine⟨max N (k+1),fun k' hk=>?_⟩;simp only[upd];rw[if_neg (by omega)];exact hN k' (by omega) }
theorem Jj {c:Code}(k j:Nat){o:Obj}{x:D}(y:D)(h:s.h k=some o)(hx:o.cells[j]?=some (.d x))(hr:∀σ u,Rep σ x u->Rep σ y u)(hd:DWp C c Q { t:=s.t,h:=upd s.h k (some ⟨o.vec,o.cells.set j (.d y)⟩) }):DWp C c Q s:=
 fun σ G a w S=>hd σ G a w (S.cell_as h hx hr)
theorem Ky (n:Nat):∀(σ:Mem) (u:Value),Rep σ (.v (.slice none 0 0)) u->Rep σ (.sl n []) u:=fun σ u h=>by
 simp only[Rep] at h ⊢;exact .inl ⟨h,trivial⟩
end
end Go.Enc
end
section
namespace Go.Enc
open Go.Proofs Go.Enc.Dg Go.Enc.Nu Go.RowKit
def rnT (f:Nat->Nm):Nat->List T
 |0=>[]
 |m+1=>rnT f m++[.d (bD (f m).neg),.d (natD (f m).n),.d (intD (f m).e)]
def rnC (f:Nat->Nm):Nat->List D
 |0=>[]
 |m+1=>rnC f m++[bD (f m).neg,natD (f m).n,intD (f m).e]
theorem XE (f:Nat->Nm):∀m,rnT f m=(rnC f m).map T.d
 |0=>rfl
 |m+1=>by simp only[rnT,rnC,XE f m,List.map_append,List.map_cons,List.map_nil]
theorem qu (f:Nat->Nm):∀m,(rnC f m).length=m*3
 |0=>rfl
 |m+1=>by simp only[rnC,List.length_append,qu f m,List.length_cons,List.length_nil];omega
theorem VI (f:Nat->Nm)(m:Nat):(rnT f m).length=m*3:=by rw[XE,List.length_map,qu]
theorem kO (k:Nat)(f:Nat->Nm)(m:Nat):(rnT f m).map (wU k)=rnT f m:=by rw[XE,List.map_map];rfl
theorem yb (k:Nat)(o:Obj)(ds:List D)(f:Nat->Nm)(m:Nat):(rnT f m).map (jM k o ds)=rnT f m:=by rw[XE,List.map_map];rfl
theorem Ql (f:Nat->Nm)(m:Nat):asDs (rnT f m)=some (rnC f m):=by rw[XE,jX]
theorem qt (f:Nat->Nm)(m:Nat)(ks:List Nat):(rnT f m).all (wG ks)=true:=by rw[XE];simp[wG,T.ref]
theorem Hi {α:Type}{l:List α}{i:Nat}{x y z:α}(h1:l[i]?=some x)(h2:l[i+1]?=some y)(h3:l[i+2]?=some z):(l.drop i).take 3=[x,y,z]:=by
 have hl:i+2<l.length:=by
  rcases Nat.lt_or_ge (i+2) l.length with h|h
  ·exact h
  ·rw[List.getElem?_eq_none h] at h3;cases h3
 rw[List.drop_eq_getElem_cons (by omega),List.drop_eq_getElem_cons (by omega),List.drop_eq_getElem_cons hl];rw[List.getElem?_eq_getElem (by omega)] at h1 h2;rw[List.getElem?_eq_getElem hl] at h3;cases h1;cases h2;cases h3;rfl
theorem UC (f:Nat->Nm):∀m j,j<m->(rnC f m)[j*3]?=some (bD (f j).neg)/\(rnC f m)[j*3+1]?=some (natD (f j).n)/\(rnC f m)[j*3+2]?=some (intD (f j).e)
 |m+1,j,h=>by
  simp only[rnC];rcases Nat.lt_or_ge j m with h1|h1
  ·rw[List.getElem?_append_left (by rw[qu];omega),List.getElem?_append_left (by rw[qu];omega),List.getElem?_append_left (by rw[qu];omega)];exact UC f m j h1
  ·have e:j=m:=by omega
   subst e;rw[List.getElem?_append_right (by rw[qu];omega),List.getElem?_append_right (by rw[qu];omega),List.getElem?_append_right (by rw[qu];omega),qu];simp
theorem yc (f:Nat->Nm){m j:Nat}(h:j<m):((rnC f m).drop (j*3)).take 3=[bD (f j).neg,natD (f j).n,intD (f j).e]:=by
 obtain⟨h1,h2,h3⟩:=UC f m j h;exact Hi h1 h2 h3
def matC (A:Nat->Nat->Nm)(n r:Nat):List D:=(List.range r).map fun i=>.sl 3 (rnC (A i) n)
theorem zcZ (A:Nat->Nat->Nm)(n r:Nat):(matC A n r).length=r:=by simp[matC]
theorem Yr (A:Nat->Nat->Nm){n r i:Nat}(h:i<r):(matC A n r)[i]?=some (.sl 3 (rnC (A i) n)):=by simp[matC,h]
def matT (A:Nat->Nat->Nm)(n r:Nat):List T:=(matC A n r).map T.d
theorem Yq (A:Nat->Nat->Nm)(n r:Nat):(matT A n r).length=r:=by simp[matT,matC]
theorem jH (k:Nat)(A:Nat->Nat->Nm)(n r:Nat):(matT A n r).map (wU k)=matT A n r:=by unfold matT;rw[List.map_map];rfl
theorem qh (k:Nat)(o:Obj)(ds:List D)(A:Nat->Nat->Nm)(n r:Nat):(matT A n r).map (jM k o ds)=matT A n r:=by unfold matT;rw[List.map_map];rfl
theorem XM (A:Nat->Nat->Nm)(n r:Nat):asDs (matT A n r)=some (matC A n r):=by unfold matT;rw[jX]
theorem j7 (A:Nat->Nat->Nm)(n r:Nat)(ks:List Nat):(matT A n r).all (wG ks)=true:=by unfold matT;simp[wG,T.ref]
theorem XL (A:Nat->Nat->Nm)(n r:Nat):matT A n r++[.d (.sl 3 (rnC (A r) n))]=matT A n (r+1):=by simp[matT,matC,List.range_succ]
abbrev UA (f:Nat->Nm)(m:Nat):Obj:=⟨some (70,3,true),rnT f m⟩
abbrev VC (A:Nat->Nat->Nm)(n r:Nat):Obj:=⟨some (86,1,true),matT A n r⟩
abbrev nmO (a:Nm):Obj:=⟨none,[.d (bD a.neg),.d (natD a.n),.d (intD a.e)]⟩
def rpN (A:Nat->Nat->Nm)(b:Nat->Nm)(col:Int):Nat->Nat->Nm:=fun i j=>if (j:Int)=col then b i else A i j
theorem W4 (A:Nat->Nat->Nm)(b:Nat->Nm):rpN A b (-1)=A:=by
 funext i j
 unfold rpN;rw[if_neg (by omega)]
def cntJ (j k:Nat):Nat:=if k<=j then k else k-1
theorem ZY (M:Nat->Nat->Nm){i j k:Nat}(h:k≠j):rnT (mnrN M j i) (cntJ j k)++[.d (bD (M (i+1) k).neg),.d (natD (M (i+1) k).n),.d (intD (M (i+1) k).e)]=rnT (mnrN M j i) (cntJ j (k+1)):=by
 have e:cntJ j (k+1)=cntJ j k+1:=by unfold cntJ;split<;>split<;>omega
 have g:mnrN M j i (cntJ j k)=M (i+1) k:=by
  unfold mnrN cntJ;split
  ·rw[if_pos (by omega)]
  ·rw[if_neg (by omega)];congr 1;omega
 rw[e];simp only[rnT,g]
theorem Vc (j:Nat):cntJ j (j+1)=cntJ j j:=by unfold cntJ;rw[if_neg (by omega),if_pos (by omega)];omega
set_option maxHeartbeats 8000000 in
theorem zdj (E:Nat->Option Value):∀(n:Nat),n<=4->∀(A:Nat->Nat->Nm) (b:Nat->Nm) (bd:D) (col:Int),(col = -1\/(bd = .sl 3 (rnC b n)/\0<=col/\col<n))->(∀i j,i<n->j<n->Nr (rpN A b col i j) 220 100) ->
  DQz E 141 [.sl 1 (matC A n n),bd,intD col] (.data (nmD (detN n (rpN A b col))))
 |0,_,A,b,bd,col,_,_=>by
  refine dcA Tryz.func141 Tryz.ntmps141 (rs:=[.cell 6 70]) fun σ0 w0 base df G0=>?_
  have ml:(matC A 0 0).length=0:=rfl;have hz:detN 0 (rpN A b col)=⟨false,1,0⟩:=rfl;have h00:=tB (show((0:Int)==0)=true from rfl);have c0:=c0E;rw[hz];simp -implicitDefEqProofs only[go_sem,ml,c0,h00,Nat.zero_div];refine cI (qI _ 1 (by decide)) ?_;simp -implicitDefEqProofs only[go_sem]
 |n+1,hn,A,b,bd,col,hb,hM=>by
  obtain⟨M,hMe⟩:∃M,rpN A b col=M:=⟨_,rfl⟩;rw[hMe] at hM ⊢;obtain⟨m,hm⟩:∃m,n+1=m:=⟨_,rfl⟩;have hn4:m<=4:=by omega
  rw[hm] at hb hM ⊢;have ml:(matC A m m).length=m:=zcZ A m m;have m0:(matC A m m)[0]?=some (.sl 3 (rnC (A 0) m)):=Yr A (by omega);have rl:∀f:Nat->Nm,(rnC f m).length=m*3:=fun f=>qu f m
  have hbd:∀j:Nat,(j:Int)=col->bd = .sl 3 (rnC b m):=fun j hj=>by
   rcases hb with h|h
   ·omega
   ·exact h.1
  have hMr:∀i j:Nat,(j:Int)=col->b i=M i j:=fun i j h=>by rw[<-hMe];unfold rpN;rw[if_pos h]
  have hMa:∀i j:Nat,(j:Int)≠col->A i j=M i j:=fun i j h=>by rw[<-hMe];unfold rpN;rw[if_neg h]
  obtain⟨f,hf⟩:∃f:Nat->Nm,(fun j=>detT (M 0 j) (detN n (mnrN M j)) j)=f:=⟨_,rfl⟩;have hdet:detN m M=smN f m:=by rw[<-hm,<-hf];rfl
  rw[hdet];have hmax:=mxE;have mm0:=tV (show((m:Int)==0)=false by simp;omega);refine dcA Tryz.func141 Tryz.ntmps141 (rs:=[.cell 6 70]) fun _ _ _ _ _=>?_
  simp -implicitDefEqProofs only[go_sem,ml,mm0,Nat.div_one];rw[wu];refine Jj 8 1 (natD 0) rfl rfl (fun σ u h=>?_) ?_
  ·have e:natD 0 = .sl 1 []:=by rw[show natD 0=digD (dg 0) from rfl,jU];rfl
   rw[e];exact Ky 1 σ u h
  refine wm (α:={j:Nat // j<=m}) (fun j=>St.of [(0,.d (.sl 1 (matC A m m))),(1,.d bd),(2,.d (intD col)),(6,.ptr 6 0),(7,.d (intD m)),(8,.ptr 8 0),(9,.d (intD j.1))] [(6,⟨none,[.d (bD false),.d (.v (.slice none 0 0)),.d (intD 0)]⟩),(8,nmO (smN f j.1))]) (fun j=>m-j.1)
   ⟨0,Nat.zero_le _⟩ (we ?_ ?_ (by simp[wv,wG,T.ref])) (by kernel_rfl) (fun j=>?_)
  ·have c0:=c0E;simp -implicitDefEqProofs only[go_sem,c0,upd]
  ·simp -implicitDefEqProofs only[go_sem,upd,smN,nzero]
  obtain⟨j,hj⟩:=j;by_cases hA:j<m
  ·have eA:decide ((j:Int)<(m:Int))=true:=tD (by omega);have w1:=wL (c:=j) (by omega);obtain⟨j',hj'⟩:∃j':{j:Nat // j<=m},j'.1=j+1:=⟨⟨j+1,hA⟩,rfl⟩;have q0:0<m:=by omega
   have q1:j*3<m*3:=by omega
   have q2:j*3+3<=m*3:=by omega
   have tk:=yc (A 0) hA;have d3:m*3/3=m:=by omega
   have hd1:=zdj E n (by omega) (mnrN M j) b (.v (.slice none 0 0)) (-1) (.inl rfl) (fun i k hi hk=>by
    rw[W4];unfold mnrN;exact hM _ _ (by omega) (by split<;>omega))
   rw[W4] at hd1;have tkb:=yc b (show 0<m by omega);have zz:(0:Nat)*3=0:=rfl;have col_c:((j:Int)=col/\bd = .sl 3 (rnC b m))\/((j:Int)≠col):=by
    by_cases h:(j:Int)=col
    ·exact .inl ⟨h,hbd j h⟩
    ·exact .inr h
   rcases col_c with⟨hcol,hbe⟩|hcol
   case' inl=>
    have ec:=tB (show((j:Int)==col)=true by simp[hcol]);have e10:=hMr 0 j hcol;have q3:0<m*3:=by omega
    have q4:0+3<=m*3:=by omega
    have tkb':(rnC b m).take 3=[bD (b 0).neg,natD (b 0).n,intD (b 0).e]:=by have:=tkb;rw[zz,List.drop_zero] at this;exact this
    rw[hbe];simp -implicitDefEqProofs only[go_sem,eA,ml,m0,rl,q0,q1,q2,q3,q4,tk,d3,Nat.div_one,ec,tkb',e10];rw[<-hbe,wu]
   case' inr=>
    have ec:=tV (show((j:Int)==col)=false by simp[hcol]);have e10:=hMa 0 j hcol;simp -implicitDefEqProofs only[go_sem,eA,ml,m0,rl,q0,q1,q2,tk,d3,Nat.div_one,ec,e10];rw[wu]
   all_goals
    refine jF 11 76 86 1 rfl rfl ?_;refine wm (α:={i:Nat // i<=n}) (fun i=>St.of [(0,.d (.sl 1 (matC A m m))),(1,.d bd),(2,.d (intD col)),(6,.ptr 6 0),(7,.d (intD m)),(8,.ptr 8 0),(9,.d (intD j)),(10,.ptr 10 0),(11,.gs 76),(12,.d (intD ((i.1+1:Nat):Int)))]
      [(6,⟨none,[.d (bD false),.d (.v (.slice none 0 0)),.d (intD 0)]⟩),(8,nmO (smN f j)),(10,nmO (M 0 j)),(76,VC (mnrN M j) n i.1)]) (fun i=>n-i.1)
     ⟨0,Nat.zero_le _⟩ (we ?_ ?_ (by simp[wv,j7,wG,T.ref])) (by kernel_rfl) (fun i=>?_)
    ·have c1:((0+1:Nat):Int)=1:=rfl;simp -implicitDefEqProofs only[go_sem,c1,upd]
    ·simp -implicitDefEqProofs only[go_sem,upd];rfl
    obtain⟨i,hi⟩:=i;by_cases hB:i<n
    ·have eB:decide (((i+1:Nat):Int)<(m:Int))=true:=tD (by omega);have w2:IntKind.i64.wrap (((i+1:Nat):Int)+1)=((i+1+1:Nat):Int):=wL (by omega);obtain⟨i',hi'⟩:∃i':{i:Nat // i<=n},i'.1=i+1:=⟨⟨i+1,hB⟩,rfl⟩;simp -implicitDefEqProofs only[go_sem,eB];rw[wu];refine jF 13 72 70 3 rfl rfl ?_;refine zt (α:={k:Nat // k<=m}) (fun k=>St.of [(0,.d (.sl 1 (matC A m m))),(1,.d bd),(2,.d (intD col)),(6,.ptr 6 0),(7,.d (intD m)),(8,.ptr 8 0),(9,.d (intD j)),(10,.ptr 10 0),(11,.gs 76),(12,.d (intD ((i+1:Nat):Int))),(13,.gs 72),(14,.d (intD k.1))]
       [(6,⟨none,[.d (bD false),.d (.v (.slice none 0 0)),.d (intD 0)]⟩),(8,nmO (smN f j)),(10,nmO (M 0 j)),(72,UA (mnrN M j i) (cntJ j k.1)),(76,VC (mnrN M j) n i)]) (fun k=>m-k.1)
      ⟨0,Nat.zero_le _⟩ (jb (we ?_ ?_ (by simp[wv,j7,qt,wG,T.ref]))) (fun k=>?_)
     ·have c0:=c0E;simp -implicitDefEqProofs only[go_sem,c0,upd]
     ·have cz:cntJ j 0=0:=by unfold cntJ;rw[if_pos (Nat.zero_le _)]
      simp -implicitDefEqProofs only[go_sem,upd,cz];rfl
     obtain⟨k,hk⟩:=k;by_cases hC:k<m
     ·refine kM (by kernel_rfl) ?_;have eC:decide ((k:Int)<(m:Int))=true:=tD (by omega);have w3:=wL (c:=k) (by omega);obtain⟨k',hk'⟩:∃k':{k:Nat // k<=m},k'.1=k+1:=⟨⟨k+1,hC⟩,rfl⟩;have m1:=Yr A (n:=m) (r:=m) (i:=i+1) (by omega);have q3:i+1<m:=by omega
      have q4:i+1+1<=m:=by omega
      have q5:k*3<m*3:=by omega
      have q6:k*3+3<=m*3:=by omega
      have q7:(i+1)*3<m*3:=by omega
      have q8:(i+1)*3+3<=m*3:=by omega
      have tk2:=yc (A (i+1)) hC;have tk3:=yc b q3;have tl:(rnT (mnrN M j i) (cntJ j k)).length=cntJ j k*3:=VI _ _;have a1:(cntJ j k*3+3)/3=cntJ j k+1:=by omega
      have cj:cntJ j k<=4:=by unfold cntJ;split<;>omega
      by_cases hkc:(k:Int)=col
      ·by_cases hkj:k=j
       ·have ek:=tB (show((k:Int)==col)=true by simp[hkc]);have e15:=hMr (i+1) k hkc;have hbe:=hbd k hkc;have ej:=tV (show((k:Int) != (j:Int))=false by simp[hkj]);have ct:cntJ j (k+1)=cntJ j k:=by rw[hkj];exact Vc j
        simp -implicitDefEqProofs only[go_sem,eC,ml,m1,rl,q3,q4,q5,q6,tk2,d3,w3,Nat.div_one,ek,hbe,q7,q8,tk3,e15,ej];refine⟨k',jb (we ?_ ?_ (by simp[wv,j7,qt,wG,T.ref])),by simp only[hk'];omega⟩<;>simp -implicitDefEqProofs only[go_sem,hk',ct,hbe]
       ·have ek:=tB (show((k:Int)==col)=true by simp[hkc]);have e15:=hMr (i+1) k hkc;have hbe:=hbd k hkc;have ej:=tB (show((k:Int) != (j:Int))=true by simp;omega);have st:=ZY M (i:=i) hkj;simp -implicitDefEqProofs only[go_sem,eC,ml,m1,rl,q3,q4,q5,q6,tk2,d3,w3,Nat.div_one,ek,hbe,q7,q8,tk3,e15,ej,tl,a1,st,kO,jH];refine⟨by omega,by omega,k',jb (we ?_ ?_ (by simp[wv,j7,qt,wG,T.ref])),by simp only[hk'];omega⟩<;>simp -implicitDefEqProofs only[go_sem,hk',st,kO,jH,hbe]
      ·by_cases hkj:k=j
       ·have ek:=tV (show((k:Int)==col)=false by simp[hkc]);have e15:=hMa (i+1) k hkc;have ej:=tV (show((k:Int) != (j:Int))=false by simp[hkj]);have ct:cntJ j (k+1)=cntJ j k:=by rw[hkj];exact Vc j
        simp -implicitDefEqProofs only[go_sem,eC,ml,m1,rl,q3,q4,q5,q6,tk2,d3,w3,Nat.div_one,ek,e15,ej];refine⟨k',jb (we ?_ ?_ (by simp[wv,j7,qt,wG,T.ref])),by simp only[hk'];omega⟩<;>simp -implicitDefEqProofs only[go_sem,hk',ct]
       ·have ek:=tV (show((k:Int)==col)=false by simp[hkc]);have e15:=hMa (i+1) k hkc;have ej:=tB (show((k:Int) != (j:Int))=true by simp;omega);have st:=ZY M (i:=i) hkj;simp -implicitDefEqProofs only[go_sem,eC,ml,m1,rl,q3,q4,q5,q6,tk2,d3,w3,Nat.div_one,ek,e15,ej,tl,a1,st,kO,jH];refine⟨by omega,by omega,k',jb (we ?_ ?_ (by simp[wv,j7,qt,wG,T.ref])),by simp only[hk'];omega⟩<;>simp -implicitDefEqProofs only[go_sem,hk',st,kO,jH]
     ·obtain rfl:k=m:=by omega
      have eC:decide ((k:Int)<(k:Int))=false:=fD (by omega);have cn:cntJ j k=n:=by unfold cntJ;rw[if_neg (by omega)];omega
      rw[cn];refine yZ (qS 72 rfl (Ql _ _)) ?_;refine kM (by kernel_rfl) ?_;have tl:(matT (mnrN M j) n i).length=i:=Yq _ _ _;have ms:=XL (mnrN M j) n i;simp -implicitDefEqProofs only[go_sem,eC,tl,ms,qh,jH,yb,kO,Nat.div_one,w2];refine⟨by omega,by omega,i',we ?_ ?_ (by simp[wv,j7,wG,T.ref]),by simp only[hi'];omega⟩<;>simp -implicitDefEqProofs only[go_sem,hi',ms,qh,jH]
    ·obtain rfl:i=n:=by omega
     have eB:decide (((i+1:Nat):Int)<(m:Int))=false:=fD (by omega);have o1:NOk (M 0 j) 20000:=((hM 0 j (by omega) hA).ok (by omega)).mono (by omega);have dd:=Nr.det (n:=i) (m:=mnrN M j) (fun i' k hi' hk'=>by
      unfold mnrN;exact hM _ _ (by omega) (by split<;>omega))
     have kk:=zhE (n:=i) (by omega);have o2:NOk (detN i (mnrN M j)) 20000:=(dd.ok (by omega)).mono (by omega);have o3:∀j,j<m->Nr (f j) 10220 500:=fun j hj=>by
      rw[<-hf];have dd:=Nr.det (n:=i) (m:=mnrN M j) (fun i' k hi' hk'=>by
       unfold mnrN;exact hM _ _ (by omega) (by split<;>omega))
      exact((hM 0 j (by omega) hj).detT dd (j:=j)).mono (by omega) (by omega)
     have o4:NOk (smN f j) 20000:=((Nr.sm (f:=f) (m:=j) (fun x hx=>o3 x (by omega))).ok (by omega)).mono (by omega);have o5:NOk (f j) 20000:=((o3 j hA).ok (by omega)).mono (by omega);have ef:f j=detT (M 0 j) (detN i (mnrN M j)) j:=by rw[<-hf]
     simp -implicitDefEqProofs only[go_sem,eB,XM];refine cI hd1 ?_;simp -implicitDefEqProofs only[go_sem];refine cI (qM _ o1 o2 (by omega)) ?_;have sm1:smN f (j+1)=nsum (smN f j) (f j):=rfl;have rm:((j:Int).tmod 2)=((j % 2:Nat):Int):=by rw[Int.tmod_eq_emod_of_nonneg (by omega)];omega
     by_cases hp:j % 2=1
     ·have er:=tB (show(((j % 2:Nat):Int)==1)=true by rw[hp];rfl);have ef':nneg (nprod (M 0 j) (detN i (mnrN M j)))=f j:=by rw[ef];unfold detT;rw[if_pos hp]
      simp -implicitDefEqProofs only[go_sem,rm,er];refine cI (wP _ _) ?_;rw[ef'];simp -implicitDefEqProofs only[go_sem];refine cI (zZ _ o4 o5 (by omega)) ?_;rw[<-sm1];simp -implicitDefEqProofs only[go_sem,w1];refine⟨j',we ?_ ?_ (by simp[wv,wG,T.ref]),by simp only[hj'];omega⟩<;>simp -implicitDefEqProofs only[go_sem,hj',qh,jH]
     ·have er:=tV (show(((j % 2:Nat):Int)==1)=false by simp;omega);have ef':nprod (M 0 j) (detN i (mnrN M j))=f j:=by rw[ef];unfold detT;rw[if_neg hp]
      rw[ef'];simp -implicitDefEqProofs only[go_sem,rm,er];refine cI (zZ _ o4 o5 (by omega)) ?_;rw[<-sm1];simp -implicitDefEqProofs only[go_sem,w1];refine⟨j',we ?_ ?_ (by simp[wv,wG,T.ref]),by simp only[hj'];omega⟩<;>simp -implicitDefEqProofs only[go_sem,hj',qh,jH]
  ·have eA:decide ((j:Int)<(m:Int))=false:=fD (by omega);obtain rfl:j=m:=by omega
   simp -implicitDefEqProofs only[go_sem,eA]
end Go.Enc
end
