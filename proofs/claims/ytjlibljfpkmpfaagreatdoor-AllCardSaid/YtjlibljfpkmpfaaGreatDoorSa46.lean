/-
  A heavy diagonal: the answer is narrow. No program.
-/
import Derived.Test.YtjlibljfpkmpfaaGreatDoorSa45
set_option maxRecDepth 100000
set_option linter.unusedSimpArgs false
set_option linter.unusedVariables false
namespace Go.Enc
open Go.Enc.Fl
structure RowN (B:Nat->Nat->Nat×Nat)(n i:Nat)(δ X u:Rat):Prop where
 dp:0<δ
 dl:1/2147483648<=δ
 lo:LoA δ (B i i)
 aj:∀j,i<j->j<n->Am (4/15*δ) (B i j)
 wd:∀j,i<=j->j<n->Wdt (u*δ) (B i j)
 wr:Wdt (u*δ*X) (B i n)
 ar:Am (5/2*δ*X) (B i n)
theorem RowN.congr {B B':Nat->Nat->Nat×Nat}{n i:Nat}{δ X u:Rat}(h:RowN B n i δ X u)(hi:i<n)(e:∀j,j<=n->B' i j=B i j):RowN B' n i δ X u:=
 ⟨h.dp,h.dl,by rw[e i (by omega)];exact h.lo,fun j h1 h2=>by rw[e j (by omega)];exact h.aj j h1 h2,fun j h1 h2=>by rw[e j (by omega)];exact h.wd j h1 h2,by rw[e n (Nat.le_refl _)];exact h.wr,by rw[e n (Nat.le_refl _)];exact h.ar⟩
theorem RowN.mono {B:Nat->Nat->Nat×Nat}{n i:Nat}{δ X u u':Rat}(h:RowN B n i δ X u)(hX:0<=X)(hu:u<=u'):RowN B n i δ X u':=
 ⟨h.dp,h.dl,h.lo,h.aj,fun j h1 h2=>(h.wd j h1 h2).mono (Rat.mul_le_mul_of_nonneg_right hu (Rat.le_of_lt h.dp)),h.wr.mono (Rat.mul_le_mul_of_nonneg_right (Rat.mul_le_mul_of_nonneg_right hu (Rat.le_of_lt h.dp)) hX),h.ar⟩
section
variable {B:Nat->Nat->Nat×Nat} {n k:Nat} {c r e:Rat} {L:Int} {U:Rat} {d:Nat->Rat} {m:Nat->Nat->Rat} {b:Nat->Nat->Rat} {x:Nat->Rat} {X:Rat}
theorem Hv.rowN (h:Hv B n k c r e L U d m)(hk:k<n)(hc:15/4<=c)(he:1/2147483648<=e){u:Rat}(W:Ww B n k d X u):RowN B n k (d k) X u:=
 ⟨h.w.dp k (Nat.le_refl _) hk,Rat.le_trans he (h.w.de k (Nat.le_refl _) hk).1,h.dg k (Nat.le_refl _) hk,fun j h1 h2=>(h.am k j (Nat.le_refl _) hk (by omega) (by omega)).am.mono (by
  have o1:=h.w.off (by grind) (Nat.le_refl k) hk (show k<=j by omega) h2 (by omega);have c1:=Rat.mul_le_mul_of_nonneg_right hc (h.w.mp k j (Nat.le_refl _) hk (by omega) (by omega));grind),fun j h1 h2=>W.wd k j (Nat.le_refl _) hk h1 h2,W.wr k (Nat.le_refl _) hk,W.ar k (Nat.le_refl _) hk⟩
theorem Hv.ww (h:Hv B n k c r e L U d m)(hc:15/4<=c)(hr2:r<=2)(I:ElI B b x n k)(hX:∀j,j<n->-X<=x j/\x j<=X)(hX0:0<=X){u:Rat}(hu:u<=1/10)
  (wd:∀i j,k<=i->i<n->k<=j->j<n->Wdt (u*d i) (B i j)) (wr:∀i,k<=i->i<n->Wdt (u*d i*X) (B i n)):Ww B n k d X u:=
 ⟨wd,wr,fun i hi hin=>by
  have hd:=h.w.dp i hi hin;obtain⟨h1,h2⟩:=h.right hc hr2 I hX hi hin;refine(Am.wi (I.wi i n hin (Nat.le_refl _)) (wr i hi hin) h1 h2).mono ?_;have p:=Rat.mul_nonneg (Rat.le_of_lt hd) hX0;have:=Rat.mul_le_mul_of_nonneg_right hu p;grind⟩
end
section
variable {E:Nat->Option Value} {M V S:Nat×Nat->Nat×Nat->AnsQ} (O:Ops3 E M V S) {A B:Nat->Nat->Nat×Nat} {a:Nat->Nat->Rat} {n k:Nat} {x:Nat->Rat} {X:Rat}
theorem Pts.wi (P:Pts A a n):∀i j,i<n->j<=n->Wi (a i j) (A i j):=fun i j hi hj=>by
 have:=P.eq i j hi hj;exact⟨by rw[this.1];exact Rat.le_refl,by rw[this.2];exact Rat.le_refl⟩
include O
theorem Re (P:Pts A a n)(H:Heavy a n)(hs:∀i,i<n->SatR a x n i)(hX:∀j,j<n->-X<=x j/\x j<=X)(hX0:0<=X):Ww A n 0 (fun i=>am (a i i)) X 0:=by
 obtain⟨b,I⟩:=x4 O P.gd P.wi hs 0 (by omega) A rfl;have z:∀i j,i<n->j<=n->Wdt 0 (A i j):=fun i j hi hj=>by
  have:=P.eq i j hi hj;unfold Wdt;rw[this.1,this.2];grind
 refine(QM P H).ww (by decide +kernel) (by decide +kernel) I hX hX0 (by decide +kernel) (fun i j _ hi _ hj=>(z i j hi (by omega)).mono (by grind)) (fun i _ hi=>(z i n hi (Nat.le_refl _)).mono (by grind))
theorem Rd (P:Pts A a n)(H:Heavy a n)(hn:1<n)(hs:∀i,i<n->SatR a x n i)(hX:∀j,j<n->-X<=x j/\x j<=X)(hX0:0<=X):∃B d m,je M V S A n 1=some B/\(∀i j,i<n->j<=n->B i j=nxt M V S A n 0 i j)/\Hv B n 1 (4*(99/100)) (6/5) (1/1073741824*(9/10)) 90 (2147483648*2^63) d m/\RowOk B n 0 30 /\
  Ww B n 1 d X (16*eps)/\∃δ,RowN B n 0 δ X (1168*eps):=by
 have h:=QM P H;have W0:=Re O P H hs hX hX0;have e900:(2147483648*2^63:Rat)<=(2:Rat)^(900:Int):=by decide +kernel
 have e300:(2147483648:Rat)<=(2:Rat)^(300:Int):=by decide +kernel
 have e30:(2:Rat)^(30:Int)=1073741824:=by decide +kernel
 have e1:(15:Rat)/4<=4:=by decide +kernel
 have e2:(1:Rat)<=2:=by decide +kernel
 have e3:(1:Rat)/2147483648<=1/1073741824:=by decide +kernel
 have e4:(1+1/13*kap1)*kap1<=6/5*((1-1/13*kap1)*kap0):=by decide +kernel
 have e5:(0:Rat)<=6/5:=by decide +kernel
 have e6:(2:Rat)<=4:=by decide +kernel
 have hu:am (a 0 0)<=(2:Rat)^(30:Int):=by rw[e30];exact P.le 0 0 (by omega) (by omega)
 obtain⟨ok,nx⟩:=h.next O (by omega) e1 e2 e3 (u:=30) hu (by omega) (by omega) (by omega) Rat.le_refl e900 e4 e5;obtain⟨B,b1,b2⟩:=qU (A:=A) (k:=0) rfl (h.pivot (by omega) e6 e2) ok (by omega);have keep:∀i,i<=0->∀j,j<=n->B i j=A i j:=fun i hi j hj=>by
  rw[b2 i j (by omega) hj];unfold nxt;rw[if_neg (by omega)]
 obtain⟨b,I⟩:=x4 O P.gd P.wi hs 1 (by omega) B b1;obtain⟨w1,w2⟩:=h.width O (by omega) e1 e2 e3 (u:=30) hu (by omega) (by omega) (by omega) Rat.le_refl e900 Rat.le_refl hX0 W0 b2;have h':=nx B b2;have ee:(8*0+16*eps:Rat)=16*eps:=by decide +kernel
 rw[ee] at w1 w2;exact⟨B,_,_,b1,b2,h',(h.row (by omega) e1 e2 e3 Rat.le_refl e300).congr (by omega) (keep 0 (by omega)),h'.ww (by decide +kernel) (by decide +kernel) I hX hX0 (by decide +kernel) w1 w2,_,((h.rowN (by omega) e1 e3 W0).mono hX0 (by decide +kernel)).congr (by omega) (keep 0 (by omega))⟩
theorem Rc (P:Pts A a n)(H:Heavy a n)(hn:2<n)(hs:∀i,i<n->SatR a x n i)(hX:∀j,j<n->-X<=x j/\x j<=X)(hX0:0<=X):∃B d m,je M V S A n 2=some B/\Hv B n 2 (4*(99/100)*(99/100)) (7/5) (1/1073741824*(9/10)*(9/10)) 206 (2147483648*2^63*2^63) d m/\RowOk B n 0 30/\RowOk B n 1 90 /\
  Ww B n 2 d X (144*eps)/\(∀i,i<2->∃δ,RowN B n i δ X (1168*eps)):=by
 obtain⟨B,d,m,b1,b2,h,r0,W1,δ0,N0⟩:=Rd O P H (by omega) hs hX hX0;have e900:(2147483648*2^63*2^63:Rat)<=(2:Rat)^(900:Int):=by decide +kernel
 have e300:(2147483648*2^63:Rat)<=(2:Rat)^(300:Int):=by decide +kernel
 have e31:(2:Rat)^(31:Int)=2147483648:=by decide +kernel
 have e1:(15:Rat)/4<=4*(99/100):=by decide +kernel
 have e2:(6:Rat)/5<=2:=by decide +kernel
 have e3:(1:Rat)/2147483648<=1/1073741824*(9/10):=by decide +kernel
 have e4:(6/5+1/13*kap1)*kap1<=7/5*((1-1/13*kap1)*kap0):=by decide +kernel
 have e5:(0:Rat)<=7/5:=by decide +kernel
 have e6:(2:Rat)<=4*(99/100):=by decide +kernel
 have eU:(2147483648:Rat)<=2147483648*2^63:=by decide +kernel
 have hu:m 1 1<=(2:Rat)^(31:Int):=by rw[e31];exact(h.sizes (by omega) e1 e2 e3 eU).2.2.2.2
 obtain⟨ok,nx⟩:=h.next O (by omega) e1 e2 e3 (u:=31) hu (by omega) (by omega) (by omega) eU e900 e4 e5;obtain⟨B',c1,c2⟩:=qU (A:=A) b1 (h.pivot (by omega) e6 e2) ok (by omega);have h':=nx B' c2;have keep:∀i,i<=1->∀j,j<=n->B' i j=B i j:=fun i hi j hj=>by
  rw[c2 i j (by omega) hj];unfold nxt;rw[if_neg (by omega)]
 obtain⟨b,I⟩:=x4 O P.gd P.wi hs 2 (by omega) B' c1;obtain⟨w1,w2⟩:=h.width O (by omega) e1 e2 e3 (u:=31) hu (by omega) (by omega) (by omega) eU e900 (w:=16*eps) (by decide +kernel) hX0 W1 c2;have ee:(8*(16*eps)+16*eps:Rat)=144*eps:=by decide +kernel
 rw[ee] at w1 w2;refine⟨B',_,_,c1,⟨h'.w,h'.gd,h'.dg,fun i j hi hin hj hjn=>?_,h'.rh⟩,r0.congr (by omega) (keep 0 (by omega)),(h.row (by omega) e1 e2 e3 eU e300).congr (by omega) (keep 1 (by omega)),h'.ww (by decide +kernel) (by decide +kernel) I hX hX0 (by decide +kernel) w1 w2,fun i hi=>?_⟩
 ·have q:=h'.am i j hi hin hj hjn;have s:=K5 O P (H 0 (by omega)).1 b2 h (by omega) e1 e2 e3 eU e900 (show 1<i by omega) hin (show 1<j by omega) hjn;rw[<-c2 i j hin hjn] at s;exact⟨s.1,s.2,q.lo,q.hi⟩
 ·rcases(show i=0\/i=1 by omega) with rfl|rfl
  ·exact⟨_,N0.congr (by omega) (keep 0 (by omega))⟩
  ·exact⟨_,((h.rowN (by omega) e1 e3 W1).mono hX0 (by decide +kernel)).congr (by omega) (keep 1 (by omega))⟩
theorem zfn (P:Pts A a n)(H:Heavy a n)(hn:3<n)(hs:∀i,i<n->SatR a x n i)(hX:∀j,j<n->-X<=x j/\x j<=X)(hX0:0<=X):∃B d m,je M V S A n 3=some B/\Hv B n 3 (4*(99/100)*(99/100)*(99/100)) (17/10) (1/1073741824*(9/10)*(9/10)*(9/10)) 443 (2147483648*2^63*2^63*2^63) d m/\RowOk B n 0 30/\RowOk B n 1 90/\RowOk B n 2 206 /\
  Ww B n 3 d X (1168*eps)/\(∀i,i<3->∃δ,RowN B n i δ X (1168*eps)):=by
 obtain⟨B,d,m,b1,h,r0,r1,W2,N⟩:=Rc O P H (by omega) hs hX hX0;have e900:(2147483648*2^63*2^63*2^63:Rat)<=(2:Rat)^(900:Int):=by decide +kernel
 have e300:(2147483648*2^63*2^63:Rat)<=(2:Rat)^(300:Int):=by decide +kernel
 have e31:(2:Rat)^(31:Int)=2147483648:=by decide +kernel
 have e1:(15:Rat)/4<=4*(99/100)*(99/100):=by decide +kernel
 have e2:(7:Rat)/5<=2:=by decide +kernel
 have e3:(1:Rat)/2147483648<=1/1073741824*(9/10)*(9/10):=by decide +kernel
 have e4:(7/5+1/13*kap1)*kap1<=17/10*((1-1/13*kap1)*kap0):=by decide +kernel
 have e5:(0:Rat)<=17/10:=by decide +kernel
 have e6:(2:Rat)<=4*(99/100)*(99/100):=by decide +kernel
 have eU:(2147483648:Rat)<=2147483648*2^63*2^63:=by decide +kernel
 have hu:m 2 2<=(2:Rat)^(31:Int):=by rw[e31];exact(h.sizes (by omega) e1 e2 e3 eU).2.2.2.2
 obtain⟨ok,nx⟩:=h.next O (by omega) e1 e2 e3 (u:=31) hu (by omega) (by omega) (by omega) eU e900 e4 e5;obtain⟨B',c1,c2⟩:=qU (A:=A) b1 (h.pivot (by omega) e6 e2) ok (by omega);have h':=nx B' c2;have keep:∀i,i<=2->∀j,j<=n->B' i j=B i j:=fun i hi j hj=>by
  rw[c2 i j (by omega) hj];unfold nxt;rw[if_neg (by omega)]
 obtain⟨b,I⟩:=x4 O P.gd P.wi hs 3 (by omega) B' c1;obtain⟨w1,w2⟩:=h.width O (by omega) e1 e2 e3 (u:=31) hu (by omega) (by omega) (by omega) eU e900 (w:=144*eps) (by decide +kernel) hX0 W2 c2;have ee:(8*(144*eps)+16*eps:Rat)=1168*eps:=by decide +kernel
 rw[ee] at w1 w2;refine⟨B',_,_,c1,h',r0.congr (by omega) (keep 0 (by omega)),r1.congr (by omega) (keep 1 (by omega)),(h.row (by omega) e1 e2 e3 eU e300).congr (by omega) (keep 2 (by omega)),h'.ww (by decide +kernel) (by decide +kernel) I hX hX0 (by decide +kernel) w1 w2,fun i hi=>?_⟩;rcases(show i<2\/i=2 by omega) with hi|rfl
 ·obtain⟨δ,q⟩:=N i hi;exact⟨δ,q.congr (by omega) (keep i (by omega))⟩
 ·exact⟨_,((h.rowN (by omega) e1 e3 W2).mono hX0 (by decide +kernel)).congr (by omega) (keep 2 (by omega))⟩
theorem YG (P:Pts A a n)(H:Heavy a n)(h1:1<=n)(h4:n<=4)(hs:∀i,i<n->SatR a x n i)(hX:∀j,j<n->-X<=x j/\x j<=X)(hX0:0<=X):∃B,je M V S A n n=some B/\∀i,i<n->RowOk B n i (lev i)/\∃δ,RowN B n i δ X (1168*eps):=by
 have go:∀k B c r e L U d m w,k+1=n->je M V S A n k=some B->Hv B n k c r e L U d m->15/4<=c->r<=2->1/2147483648<=e->2147483648<=U->U<=(2:Rat)^(300:Int)->L=lev k->(∀i,i<k->RowOk B n i (lev i))->Ww B n k d X w->w<=1168*eps->(∀i,i<k->∃δ,RowN B n i δ X (1168*eps)) ->
   ∃B,je M V S A n n=some B/\∀i,i<n->RowOk B n i (lev i)/\∃δ,RowN B n i δ X (1168*eps):=by
  intro k B c r e L U d m w hk he hv hc hr hee hU hU2 hL hrow hW hw hN;obtain⟨B',b1,b2⟩:=hv.last he hk (by grind) hr;refine⟨B',b1,fun i hi=>?_⟩;by_cases q:i=k
  ·subst q;refine⟨?_,_,((hv.rowN hi hc hee hW).mono hX0 hw).congr hi fun j hj=>b2 i j hi hj⟩;rw[<-hL];exact(hv.row (by omega) hc hr hee hU hU2).congr hi fun j hj=>b2 i j hi hj
  ·obtain⟨δ,q2⟩:=hN i (by omega);exact⟨(hrow i (by omega)).congr hi fun j hj=>b2 i j hi hj,δ,q2.congr hi fun j hj=>b2 i j hi hj⟩
 rcases(show n=1\/n=2\/n=3\/n=4 by omega) with q|q|q|q
 ·exact go 0 A _ _ _ _ _ _ _ _ (by omega) rfl (QM P H) (by decide +kernel) (by decide +kernel) (by decide +kernel) (by decide +kernel) (by decide +kernel) rfl (fun i hi=>by omega) (Re O P H hs hX hX0) (by decide +kernel) (fun i hi=>by omega)
 ·obtain⟨B,d,m,b1,_,h,r0,W,δ,N⟩:=Rd O P H (by omega) hs hX hX0;refine go 1 B _ _ _ _ _ _ _ _ (by omega) b1 h (by decide +kernel) (by decide +kernel) (by decide +kernel) (by decide +kernel) (by decide +kernel) rfl (fun i hi=>?_) W (by decide +kernel) (fun i hi=>?_)
  ·obtain rfl:i=0:=by omega
   exact r0
  ·obtain rfl:i=0:=by omega
   exact⟨δ,N⟩
 ·obtain⟨B,d,m,b1,h,r0,r1,W,N⟩:=Rc O P H (by omega) hs hX hX0;refine go 2 B _ _ _ _ _ _ _ _ (by omega) b1 h (by decide +kernel) (by decide +kernel) (by decide +kernel) (by decide +kernel) (by decide +kernel) rfl (fun i hi=>?_) W (by decide +kernel) N;rcases(show i=0\/i=1 by omega) with rfl|rfl
  ·exact r0
  ·exact r1
 ·obtain⟨B,d,m,b1,h,r0,r1,r2,W,N⟩:=zfn O P H (by omega) hs hX hX0;refine go 3 B _ _ _ _ _ _ _ _ (by omega) b1 h (by decide +kernel) (by decide +kernel) (by decide +kernel) (by decide +kernel) (by decide +kernel) rfl (fun i hi=>?_) W (by decide +kernel) N;rcases(show i=0\/i=1\/i=2 by omega) with rfl|rfl|rfl
  ·exact r0
  ·exact r1
  ·exact r2
end
section
variable {E:Nat->Option Value} {M V S:Nat×Nat->Nat×Nat->AnsQ} (O:Ops3 E M V S) {B:Nat->Nat->Nat×Nat} {n:Nat} {X u v:Rat}
theorem ar_t {δ X u v e t f:Rat}(hδ:0<=δ)(hX:0<=X)(hu:0<=u)(hv:0<=v)(he:0<=e){m:Nat}(hm:m<=2)(ht:t<=(u+m*(v+2*u+14*e))*δ*X)(hf:f<=4/15*δ*(v*X)+2*X*(u*δ)+2*e*(4/15*δ*(2*X))){g:Rat}(hg:g<=t+f+2*e*((5/2+m)*δ*X+4/15*δ*(2*X)*(1025/1024))) :
  g<=(u+((m+1:Nat):Rat)*(v+2*u+14*e))*δ*X:=by
 have p:=Rat.mul_nonneg hδ hX;have p1:=Rat.mul_nonneg hu p;have p2:=Rat.mul_nonneg hv p;have p3:=Rat.mul_nonneg he p;rcases(show m=0\/m=1\/m=2 by omega) with rfl|rfl|rfl
 ·simp only[Rat.natCast_ofNat] at *;grind
 ·simp only[Rat.natCast_ofNat] at *;grind
 ·simp only[Rat.natCast_ofNat] at *;grind
include O
theorem zhR (hG:∀i j,i<n->j<=n->Gd (B i j))(h4:n<=4){i:Nat}(hi:i<n)(R:RowOk B n i (lev i)){δ:Rat}(N:RowN B n i δ X u)(hu:0<=u)(hX0:0<=X)(hv:0<=v){out:Nat->Nat×Nat}(go:∀j,Gd (out j))(ho:∀j,i<j->j<n->Qi (oL j) (oM j) (out j))(hw:∀j,i<j->j<n->Wdt (v*X) (out j)/\Am (2*X) (out j)) :
  ∀m,i+m<n->Wdt ((u+m*(v+2*u+14*eps))*δ*X) (bkT M S B out n i none m).1/\Am ((5/2+m)*δ*X) (bkT M S B out n i none m).1
 |0,_=>⟨N.wr.mono (by simp only[Rat.natCast_ofNat];grind),N.ar.mono (by simp only[Rat.natCast_ofNat];grind)⟩
 |m+1,hm=>by
  obtain⟨t1,t2⟩:=zhR hG h4 hi R N hu hX0 hv go ho hw m (by omega);obtain⟨h1,h2⟩:=Zt O hG h4 hi R go ho m (by omega);have k1:kap1=1025/1024:=rfl;have gT:=zA (e:=none) O hG go hi m (by omega);have gB:=hG i (i+1+m) hi (by omega);have qB:=R.2.2.1 (i+1+m) (by omega) (by omega);have qo:=ho (i+1+m) (by omega) (by omega);have wo:=hw (i+1+m) (by omega) (by omega);have o1:=Wm (show i+1<=i+1+m by omega);have o0:=vt (i+1+m);have o2:oM (i+1)<=(2:Rat)^(480:Int):=by
   have:=Wm (show 1<=i+1 by omega);have e:oM 1=(2:Rat)^(480:Int):=rfl;rw[e] at this;exact this
  have o3:(2:Rat)^(340:Int)<=oM (i+1):=by
   have:=Wm (show i+1<=i+1+3 by omega);have e:oM (i+1+3)=(2:Rat)^(340:Int):=by unfold oM;rw[if_neg (by omega),if_neg (by omega),if_neg (by omega)]
   rw[e] at this;exact this
  have e480:(2:Rat)^(480:Int)*2^(100:Nat)<=(2:Rat)^(900:Int):=by decide +kernel
  have e300:(2:Rat)^(300:Int)<=(2:Rat)^(340:Int):=jl (by omega);have hlv:0<=lev i/\0<=oL (i+1+m):=by unfold lev oL;constructor<;>(repeat' split)<;>omega
  have hbd:lev i+oL (i+1+m)<=900:=by unfold lev oL;repeat' split<;>omega
  have hpm:2147483648*oM (i+1+m)<=(2:Rat)^(900:Int):=by grind
  obtain⟨m1,m2⟩:=mulQ O gB (go (i+1+m)) qB qo (by omega) (by omega) hpm;obtain⟨w1,w2⟩:=mulW O gB (go (i+1+m)) qB qo (by omega) hpm (N.aj (i+1+m) (by omega) (by omega)) wo.2 (N.wd (i+1+m) (by omega) (by omega)) wo.1;have gP:=O.gm gB (go (i+1+m));have p4:(1:Rat)<=4^m/\(4:Rat)^m<=64:=by
   rcases(show m=0\/m=1\/m=2 by omega) with rfl|rfl|rfl<;>constructor<;>decide +kernel
  obtain⟨p,hp⟩:∃p:Rat,(4:Rat)^m=p:=⟨_,rfl⟩;rw[hp] at p4;have pm:oM (i+1)<=oM (i+1)*p:=by
   have:=Rat.mul_le_mul_of_nonneg_left p4.1 (vt (i+1));grind
  have pm2:oM (i+1)*p<=oM (i+1)*64:=Rat.mul_le_mul_of_nonneg_left p4.2 (vt (i+1));have h2':Qi (if m=0 then lev i else oL i-31) (4294967296*oM (i+1)*p) (bkT M S B out n i none m).1:=by
   refine h2.mono (Int.le_refl _) ?_;split
   ·grind
   ·rw[hp];exact Rat.le_refl
  obtain⟨s1,s2⟩:=subW O gT gP h2' m2 (c:=oL i-31) (by
   by_cases q:m=0
   ·subst q;rw[if_pos rfl];left;unfold lev oL;constructor<;>(repeat' split)<;>omega
   ·rw[if_neg q];right;refine⟨Int.le_refl _,?_⟩;unfold lev oL
    repeat' split
    all_goals omega) (by unfold oL;repeat' split<;>omega) (by rw[k1];grind) t2 w2 t1 w1
  rw[k1] at s1 s2;have e0:(0:Rat)<=eps:=Rat.le_of_lt xK.1;have δ0:=Rat.le_of_lt N.dp;refine⟨ar_t δ0 hX0 hu hv e0 (show m<=2 by omega) Rat.le_refl Rat.le_refl s1,s2.mono ?_⟩;have p:=Rat.mul_nonneg δ0 hX0;rcases(show m=0\/m=1\/m=2 by omega) with rfl|rfl|rfl<;>simp only[Rat.natCast_ofNat]<;>grind
end
section
variable {E:Nat->Option Value} {M V S:Nat×Nat->Nat×Nat->AnsQ} (O:Ops3 E M V S) {A B:Nat->Nat->Nat×Nat} {a b:Nat->Nat->Rat} {n:Nat} {x:Nat->Rat} {X u:Rat}
theorem ar_d {δ iδ X u v e f:Rat}(hδ:0<=δ)(hi:δ*iδ=1)(hX:0<=X)(hu:0<=u)(hv:0<=v)(he:0<=e){t m:Rat}(hm:m<=3)(hm0:0<=m)(ht:t=(u+m*(v+2*u+14*e))*δ*X)(hf:f<=(5/2+m)*δ*X*(u*δ*(iδ*iδ))+iδ*t+2*e*((5/2+m)*δ*X*iδ)):f<=(3*v+13*u+53*e)*X:=by
 have p1:=Rat.mul_nonneg hu hX;have p2:=Rat.mul_nonneg hv hX;have p3:=Rat.mul_nonneg he hX;have q1:=Rat.mul_nonneg p1 (show 0<=3-m by grind);have q2:=Rat.mul_nonneg p2 (show 0<=3-m by grind);have q3:=Rat.mul_nonneg p3 (show 0<=3-m by grind);have e1:(5/2+m)*δ*X*(u*δ*(iδ*iδ))=(5/2+m)*X*u:=by grind
 have e2:iδ*t=(u+m*(v+2*u+14*e))*X:=by rw[ht];grind
 have e3:2*e*((5/2+m)*δ*X*iδ)=2*e*(5/2+m)*X:=by grind
 rw[e1,e2,e3] at hf;grind
def vvN:Nat->Rat
 |0=>0
 |m+1=>3*vvN m+13*(1168*eps)+53*eps
theorem zbC {m:Nat}(h:m<=4):0<=vvN m/\vvN m<=1/1073741824/\vvN m<=vvN (m+1):=by
 rcases(show m=0\/m=1\/m=2\/m=3\/m=4 by omega) with rfl|rfl|rfl|rfl|rfl<;>(unfold vvN;decide +kernel)
include O
theorem zhS (hG:∀i j,i<n->j<=n->Gd (B i j))(h4:n<=4)(R:∀i,i<n->RowOk B n i (lev i)/\∃δ,RowN B n i δ X (1168*eps))(I:ElI B b x n n)(hX:∀j,j<n->-X<=x j/\x j<=X)(hX0:0<=X) :
  ∀m,m<=n->∀j,n-m<=j->j<n->Wdt (vvN m*X) ((bkS M V S B n m).1 j)
 |0,_,j,h1,h2=>by omega
 |m+1,hm,j,q1,q2=>by
  obtain⟨h1,h2⟩:=Zu O hG h4 (fun i hi=>(R i hi).1) m (by omega);have ih:=zhS hG h4 R I hX hX0 m (by omega);have k1:kap1=1025/1024:=rfl;have gb:=JW O hG m (by omega);have hwi:=Ui O hG I m (by omega) h1;obtain⟨v0,v1,v2⟩:=zbC (m:=m) (by omega);obtain⟨i,hi⟩:∃i,n-1-m=i:=⟨_,rfl⟩;have hin:i<n:=by omega
  obtain⟨Ri,δ,N⟩:=R i hin;have hu:(0:Rat)<=1168*eps:=by decide +kernel
  have how:∀j,i<j->j<n->Wdt (vvN m*X) ((bkS M V S B n m).1 j)/\Am (2*X) ((bkS M V S B n m).1 j):=fun j g1 g2=>by
   have w:=ih j (by omega) g2;refine⟨w,(Am.wi (hwi j (by omega) g2) w (hX j g2).1 (hX j g2).2).mono ?_⟩;have:=Rat.mul_le_mul_of_nonneg_right v1 hX0;grind
  obtain⟨t1,t2⟩:=Zt O hG h4 hin Ri gb (fun j q1 q2=>h2 j (by omega) q2) m (by omega);obtain⟨w1,w2⟩:=zhR O hG h4 hin Ri N hu hX0 v0 gb (fun j q1 q2=>h2 j (by omega) q2) how m (by omega);have gT:=zA (e:=none) O hG gb hin m (by omega);have gK:=hG i i hin (by omega);have e31:(2:Rat)^(31:Int)=2147483648:=by decide +kernel
  have e340:(2:Rat)^(300:Int)*2147483648<=(2:Rat)^(340:Int):=by decide +kernel
  have e900:(2:Rat)^(550:Int)<=(2:Rat)^(900:Int):=jl (by omega);have e70:(2:Rat)^(70:Int)=1180591620717411303424:=by decide +kernel
  have o550:oM i<=(2:Rat)^(550:Int):=Wm (i:=0) (by omega);have o340:(2:Rat)^(340:Int)<=oM i:=by
   have:=Wm (show i<=i+3 by omega);have e:oM (i+3)=(2:Rat)^(340:Int):=by unfold oM;rw[if_neg (by omega),if_neg (by omega),if_neg (by omega)]
   rw[e] at this;exact this
  have p0:0<=(if m=0 then (2:Rat)^(300:Int) else 4294967296*oM (i+1)*4^m):=t2.am.nonneg gT;have key:(if m=0 then (2:Rat)^(300:Int) else 4294967296*oM (i+1)*4^m)*δ⁻¹<=(2:Rat)^(900:Int):=by
   have el:((1:Rat)/2147483648)⁻¹=2147483648:=by decide +kernel
   have il:=(vu (l:=1/2147483648) (y:=δ) (by decide +kernel) N.dl).2;rw[el] at il;have h3:=Rat.mul_le_mul_of_nonneg_left il p0;refine Rat.le_trans h3 ?_;by_cases q:m=0
   ·rw[if_pos q];grind
   ·rw[if_neg q];have st:=UX (show i<=2 by omega);rw[e70] at st;have p4:(4:Rat)^m<=64:=by
     rcases(show m=1\/m=2\/m=3 by omega) with rfl|rfl|rfl<;>decide +kernel
    have:=Rat.mul_le_mul_of_nonneg_left p4 (vt (i+1));have:=vt (i+1);grind
  obtain⟨n1,_⟩:=divW O gT gK t2 N.dp N.lo (u:=31) (by rw[e31];exact Ri.2.1.1) (by rw[e31];exact Ri.2.1.2) (by unfold lev oL;repeat' split<;>omega) key w2 w1 (N.wd i (Nat.le_refl _) hin);simp only[bkS];rw[hi,h1];simp only[upd];by_cases q:j=i
  ·subst q;rw[if_pos rfl];have n1':=n1;unfold Wdt at n1' ⊢;rw[show vvN (m+1)=3*vvN m+13*(1168*eps)+53*eps from rfl];refine ar_d (Rat.le_of_lt N.dp) (Rat.mul_inv_cancel _ (by have:=N.dp;grind)) hX0 hu v0 (Rat.le_of_lt xK.1) (m:=(m:Rat)) ?_ ?_ rfl n1'
   ·rcases(show m=0\/m=1\/m=2\/m=3 by omega) with rfl|rfl|rfl|rfl<;>decide +kernel
   ·rcases(show m=0\/m=1\/m=2\/m=3 by omega) with rfl|rfl|rfl|rfl<;>decide +kernel
  ·rw[if_neg q];exact(ih j (by omega) q2).mono (Rat.mul_le_mul_of_nonneg_right v2 hX0)
theorem Zf (P:Pts A a n)(H:Heavy a n)(h1:1<=n)(h4:n<=4)(hs:∀i,i<n->SatR a x n i){out:Nat->Nat×Nat}(h:solS M V S A n=some out){G:Rat}(hG:∀j,j<n->Am G (out j)):∀j,j<n->Wdt (1/1073741824*G) (out j):=by
 have w:=Kv O P.gd P.wi hs h;have hX:∀j,j<n->-G<=x j/\x j<=G:=fun j hj=>by
  have:=hG j hj;have:=w.1 j hj;unfold Am at *;unfold Wi at *;exact⟨by grind,by grind⟩
 have hX0:0<=G:=by have:=hX 0 (by omega);grind
 obtain⟨B,hB,R⟩:=YG O P H h1 h4 hs hX hX0;have gB:=xg O P.gd n (Nat.le_refl _) B hB;obtain⟨b,I⟩:=x4 O P.gd P.wi hs n (Nat.le_refl _) B hB;have hn:=(Zu O gB h4 (fun i hi=>(R i hi).1) n (Nat.le_refl _)).1;have he:out=(bkS M V S B n n).1:=by
  unfold solS at h;rw[hB] at h;simp only at h;rw[hn] at h;cases h;rfl
 intro j hj;rw[he];exact(zhS O gB h4 R I hX hX0 n (Nat.le_refl _) j (by omega) hj).mono (Rat.mul_le_mul_of_nonneg_right (zbC h4).2.1 hX0)
end
end Go.Enc
