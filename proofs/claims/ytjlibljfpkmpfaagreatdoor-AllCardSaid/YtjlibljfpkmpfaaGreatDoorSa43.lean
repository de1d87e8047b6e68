/-
  A heavy diagonal: the system is solved. No program.
-/
import Derived.Test.YtjlibljfpkmpfaaGreatDoorSa42
import Derived.Test.YtjlibljfpkmpfaaGreatDoorSa36
import Derived.Test.YtjlibljfpkmpfaaGreatDoorSa38
import Derived.Test.YtjlibljfpkmpfaaGreatDoorSa20
import Derived.Test.YtjlibljfpkmpfaaGreatDoorSa39
import Derived.Test.YtjlibljfpkmpfaaGreatDoorSa15
import Derived.Test.YtjlibljfpkmpfaaGreatDoorSa25
set_option maxRecDepth 100000
set_option linter.unusedSimpArgs false
set_option linter.unusedVariables false
section
namespace Go.Enc
open Go.Enc.Fl
def RowOk (B:Nat->Nat->Nat×Nat)(n i:Nat)(L:Int):Prop:=LoA (1/2147483648) (B i i)/\(-2147483648<=iL (B i i)/\iH (B i i)<=2147483648)/\(∀j,i<j->j<n->Qi L 2147483648 (B i j))/\Qi L ((2:Rat)^(300:Int)) (B i n)
def Heavy (a:Nat->Nat->Rat)(n:Nat):Prop:=∀i,i<n->a i i≠0/\4*offR (fun i j=>am (a i j)) 0 n i<=am (a i i)
theorem RowOk.congr {B B':Nat->Nat->Nat×Nat}{n i:Nat}{L:Int}(h:RowOk B n i L)(hi:i<n)(e:∀j,j<=n->B' i j=B i j):RowOk B' n i L:=by
 unfold RowOk;rw[e i (by omega)];exact⟨h.1,h.2.1,fun j h1 h2=>by rw[e j (by omega)];exact h.2.2.1 j h1 h2,by rw[e n (Nat.le_refl _)];exact h.2.2.2⟩
section
variable {E:Nat->Option Value} {M V S:Nat×Nat->Nat×Nat->AnsQ} (O:Ops3 E M V S) {A B:Nat->Nat->Nat×Nat} {a:Nat->Nat->Rat} {n k:Nat} {c r e U:Rat} {L:Int} {d:Nat->Rat} {m:Nat->Nat->Rat}
theorem Hv.row (h:Hv B n k c r e L U d m)(hk:k<n)(hc:15/4<=c)(hr2:r<=2)(he:1/2147483648<=e)(hU:2147483648<=U)(hU2:U<=(2:Rat)^(300:Int)):RowOk B n k L:=by
 obtain⟨_,_,mU,_,mkk⟩:=h.sizes hk hc hr2 he hU;have q:=h.am k k (Nat.le_refl _) hk (Nat.le_refl _) (by omega);refine⟨(h.dg k (Nat.le_refl _) hk).mono (Rat.le_trans he (h.w.de k (Nat.le_refl _) hk).1),⟨by have:=q.lo;grind,by have:=q.hi;grind⟩,fun j h1 h2=>(h.am k j (Nat.le_refl _) hk (by omega) (by omega)).mono (Int.le_refl _) ?_,(h.am k n (Nat.le_refl _) hk (by omega) (Nat.le_refl _)).mono (Int.le_refl _) (Rat.le_trans (mU k n (Nat.le_refl _) hk (by omega) (Nat.le_refl _)).2 hU2)⟩;have q1:=h.w.off (by grind) (Nat.le_refl _) hk (show k<=j by omega) h2 (by omega);have q2:=(h.w.de k (Nat.le_refl _) hk).2;have q3:=h.w.mp k j (Nat.le_refl _) hk (by omega) (by omega);have q4:=Rat.mul_le_mul_of_nonneg_right hc q3;grind
theorem Hv.last (h:Hv B n k c r e L U d m)(he:je M V S A n k=some B)(hk:k+1=n)(hc:2<=c)(hr:r<=2):∃B',je M V S A n n=some B'/\∀i j,i<n->j<=n->B' i j=B i j:=by
 obtain⟨B',h1,h2⟩:=qU he (h.pivot (by omega) hc hr) (fun i hi hin _=>by omega) (by omega);rw[hk] at h1;refine⟨B',h1,fun i j hi hj=>?_⟩;rw[h2 i j hi hj];unfold nxt;rw[if_neg (by omega)]
theorem QM (P:Pts A a n)(H:Heavy a n):Hv A n 0 4 1 (1/1073741824) 30 2147483648 (fun i=>am (a i i)) (fun i j=>am (a i j)):=by
 have e30:(2:Rat)^(-30:Int)=1/1073741824:=by decide +kernel
 refine⟨⟨fun i _ hi=>Zw (H i hi).1,fun i _ hi=>⟨?_,P.le i i hi (by omega)⟩,fun i j _ _ _ _=>(kg _).1,fun i _ hi=>(H i hi).2,fun i _ _=>by show am (a i i)<=1*am (a i i);grind⟩,P.gd,fun i _ hi=>?_,fun i j _ hi _ hj=>?_,fun i _ hi=>?_⟩
 ·rw[<-e30];exact Lw.am_ge (P.lw i i hi (by omega)) (H i hi).1
 ·have x:=P.eq i i hi (by omega);unfold LoA;rw[x.1,x.2];exact(kg _).2.1
 ·have x:=P.eq i j hi hj;have s:=kg (a i j);exact⟨by rw[x.1];exact P.lw i j hi hj,by rw[x.2];exact P.lw i j hi hj,by rw[x.1];exact s.2.2.1,by rw[x.2];exact s.2.2.2⟩
 ·have:=P.le i n hi (Nat.le_refl _)
  show am (a i n)<=2147483648
  grind
include O
theorem zdH (P:Pts A a n)(H:Heavy a n)(hn:1<n):∃B d m,je M V S A n 1=some B/\(∀i j,i<n->j<=n->B i j=nxt M V S A n 0 i j)/\Hv B n 1 (4*(99/100)) (6/5) (1/1073741824*(9/10)) 90 (2147483648*2^63) d m/\RowOk B n 0 30:=by
 have h:=QM P H;have e900:(2147483648*2^63:Rat)<=(2:Rat)^(900:Int):=by decide +kernel
 have e300:(2147483648:Rat)<=(2:Rat)^(300:Int):=by decide +kernel
 have e30:(2:Rat)^(30:Int)=1073741824:=by decide +kernel
 have e1:(15:Rat)/4<=4:=by decide +kernel
 have e2:(1:Rat)<=2:=by decide +kernel
 have e3:(1:Rat)/2147483648<=1/1073741824:=by decide +kernel
 have e4:(1+1/13*kap1)*kap1<=6/5*((1-1/13*kap1)*kap0):=by decide +kernel
 have e5:(0:Rat)<=6/5:=by decide +kernel
 have e6:(2:Rat)<=4:=by decide +kernel
 have hu:am (a 0 0)<=(2:Rat)^(30:Int):=by rw[e30];exact P.le 0 0 (by omega) (by omega)
 obtain⟨ok,nx⟩:=h.next O (by omega) e1 e2 e3 (u:=30) hu (by omega) (by omega) (by omega) Rat.le_refl e900 e4 e5;obtain⟨B,b1,b2⟩:=qU (A:=A) (k:=0) rfl (h.pivot (by omega) e6 e2) ok (by omega);refine⟨B,_,_,b1,b2,nx B b2,(h.row (by omega) e1 e2 e3 Rat.le_refl e300).congr (by omega) fun j hj=>?_⟩;rw[b2 0 j (by omega) hj];unfold nxt;rw[if_neg (by omega)]
theorem zdG (P:Pts A a n)(H:Heavy a n)(hn:2<n):∃B d m,je M V S A n 2=some B/\Hv B n 2 (4*(99/100)*(99/100)) (7/5) (1/1073741824*(9/10)*(9/10)) 206 (2147483648*2^63*2^63) d m/\RowOk B n 0 30/\RowOk B n 1 90:=by
 obtain⟨B,d,m,b1,b2,h,r0⟩:=zdH O P H (by omega);have e900:(2147483648*2^63*2^63:Rat)<=(2:Rat)^(900:Int):=by decide +kernel
 have e300:(2147483648*2^63:Rat)<=(2:Rat)^(300:Int):=by decide +kernel
 have e31:(2:Rat)^(31:Int)=2147483648:=by decide +kernel
 have e1:(15:Rat)/4<=4*(99/100):=by decide +kernel
 have e2:(6:Rat)/5<=2:=by decide +kernel
 have e3:(1:Rat)/2147483648<=1/1073741824*(9/10):=by decide +kernel
 have e4:(6/5+1/13*kap1)*kap1<=7/5*((1-1/13*kap1)*kap0):=by decide +kernel
 have e5:(0:Rat)<=7/5:=by decide +kernel
 have e6:(2:Rat)<=4*(99/100):=by decide +kernel
 have eU:(2147483648:Rat)<=2147483648*2^63:=by decide +kernel
 have hu:m 1 1<=(2:Rat)^(31:Int):=by rw[e31];exact(h.sizes (by omega) e1 e2 e3 eU).2.2.2.2
 obtain⟨ok,nx⟩:=h.next O (by omega) e1 e2 e3 (u:=31) hu (by omega) (by omega) (by omega) eU e900 e4 e5;obtain⟨B',c1,c2⟩:=qU (A:=A) b1 (h.pivot (by omega) e6 e2) ok (by omega);have h':=nx B' c2;have keep:∀i,i<=1->∀j,j<=n->B' i j=B i j:=fun i hi j hj=>by
  rw[c2 i j (by omega) hj];unfold nxt;rw[if_neg (by omega)]
 refine⟨B',_,_,c1,⟨h'.w,h'.gd,h'.dg,fun i j hi hin hj hjn=>?_,h'.rh⟩,r0.congr (by omega) (keep 0 (by omega)),(h.row (by omega) e1 e2 e3 eU e300).congr (by omega) (keep 1 (by omega))⟩;have q:=h'.am i j hi hin hj hjn;have s:=K5 O P (H 0 (by omega)).1 b2 h (by omega) e1 e2 e3 eU e900 (show 1<i by omega) hin (show 1<j by omega) hjn;rw[<-c2 i j hin hjn] at s;exact⟨s.1,s.2,q.lo,q.hi⟩
theorem zij (P:Pts A a n)(H:Heavy a n)(hn:3<n):∃B d m,je M V S A n 3=some B/\Hv B n 3 (4*(99/100)*(99/100)*(99/100)) (17/10) (1/1073741824*(9/10)*(9/10)*(9/10)) 443 (2147483648*2^63*2^63*2^63) d m/\RowOk B n 0 30/\RowOk B n 1 90/\RowOk B n 2 206:=by
 obtain⟨B,d,m,b1,h,r0,r1⟩:=zdG O P H (by omega);have e900:(2147483648*2^63*2^63*2^63:Rat)<=(2:Rat)^(900:Int):=by decide +kernel
 have e300:(2147483648*2^63*2^63:Rat)<=(2:Rat)^(300:Int):=by decide +kernel
 have e31:(2:Rat)^(31:Int)=2147483648:=by decide +kernel
 have e1:(15:Rat)/4<=4*(99/100)*(99/100):=by decide +kernel
 have e2:(7:Rat)/5<=2:=by decide +kernel
 have e3:(1:Rat)/2147483648<=1/1073741824*(9/10)*(9/10):=by decide +kernel
 have e4:(7/5+1/13*kap1)*kap1<=17/10*((1-1/13*kap1)*kap0):=by decide +kernel
 have e5:(0:Rat)<=17/10:=by decide +kernel
 have e6:(2:Rat)<=4*(99/100)*(99/100):=by decide +kernel
 have eU:(2147483648:Rat)<=2147483648*2^63*2^63:=by decide +kernel
 have hu:m 2 2<=(2:Rat)^(31:Int):=by rw[e31];exact(h.sizes (by omega) e1 e2 e3 eU).2.2.2.2
 obtain⟨ok,nx⟩:=h.next O (by omega) e1 e2 e3 (u:=31) hu (by omega) (by omega) (by omega) eU e900 e4 e5;obtain⟨B',c1,c2⟩:=qU (A:=A) b1 (h.pivot (by omega) e6 e2) ok (by omega);have keep:∀i,i<=2->∀j,j<=n->B' i j=B i j:=fun i hi j hj=>by
  rw[c2 i j (by omega) hj];unfold nxt;rw[if_neg (by omega)]
 exact⟨B',_,_,c1,nx B' c2,r0.congr (by omega) (keep 0 (by omega)),r1.congr (by omega) (keep 1 (by omega)),(h.row (by omega) e1 e2 e3 eU e300).congr (by omega) (keep 2 (by omega))⟩
omit O in
def lev (i:Nat):Int:=if i=0 then 30 else if i=1 then 90 else if i=2 then 206 else 443
theorem H0 (P:Pts A a n)(H:Heavy a n)(h1:1<=n)(h4:n<=4):∃B,je M V S A n n=some B/\∀i,i<n->RowOk B n i (lev i):=by
 have go:∀k B c r e L U d m,k+1=n->je M V S A n k=some B->Hv B n k c r e L U d m->15/4<=c->r<=2->1/2147483648<=e->2147483648<=U->U<=(2:Rat)^(300:Int)->L=lev k->(∀i,i<k->RowOk B n i (lev i))->∃B,je M V S A n n=some B/\∀i,i<n->RowOk B n i (lev i):=by
  intro k B c r e L U d m hk he hv hc hr hee hU hU2 hL hrow;obtain⟨B',b1,b2⟩:=hv.last he hk (by grind) hr;refine⟨B',b1,fun i hi=>?_⟩;by_cases q:i=k
  ·subst q;rw[<-hL];exact(hv.row (by omega) hc hr hee hU hU2).congr hi fun j hj=>b2 i j hi hj
  ·exact(hrow i (by omega)).congr hi fun j hj=>b2 i j hi hj
 rcases(show n=1\/n=2\/n=3\/n=4 by omega) with q|q|q|q
 ·exact go 0 A _ _ _ _ _ _ _ (by omega) rfl (QM P H) (by decide +kernel) (by decide +kernel) (by decide +kernel) (by decide +kernel) (by decide +kernel) rfl (fun i hi=>by omega)
 ·obtain⟨B,d,m,b1,_,h,r0⟩:=zdH O P H (by omega);refine go 1 B _ _ _ _ _ _ _ (by omega) b1 h (by decide +kernel) (by decide +kernel) (by decide +kernel) (by decide +kernel) (by decide +kernel) rfl (fun i hi=>?_);obtain rfl:i=0:=by omega
  exact r0
 ·obtain⟨B,d,m,b1,h,r0,r1⟩:=zdG O P H (by omega);refine go 2 B _ _ _ _ _ _ _ (by omega) b1 h (by decide +kernel) (by decide +kernel) (by decide +kernel) (by decide +kernel) (by decide +kernel) rfl (fun i hi=>?_);rcases(show i=0\/i=1 by omega) with rfl|rfl
  ·exact r0
  ·exact r1
 ·obtain⟨B,d,m,b1,h,r0,r1,r2⟩:=zij O P H (by omega);refine go 3 B _ _ _ _ _ _ _ (by omega) b1 h (by decide +kernel) (by decide +kernel) (by decide +kernel) (by decide +kernel) (by decide +kernel) rfl (fun i hi=>?_);rcases(show i=0\/i=1\/i=2 by omega) with rfl|rfl|rfl
  ·exact r0
  ·exact r1
  ·exact r2
end
def oL (i:Nat):Int:=if i=0 then 893 else if i=1 then 832 else if i=2 then 711 else 474
noncomputable def oM (i:Nat):Rat:=if i=0 then (2:Rat)^(550:Int) else if i=1 then 2^(480:Int) else if i=2 then 2^(410:Int) else 2^(340:Int)
theorem vt (i:Nat):0<=oM i:=by
 unfold oM
 repeat' split
 all_goals exact Rat.le_of_lt (wB _)
theorem Wm {i j:Nat}(h:i<=j):oM j<=oM i:=by
 unfold oM
 repeat' split
 all_goals first|(exfalso;omega)|exact jl (by omega)
section
variable {E:Nat->Option Value} {M V S:Nat×Nat->Nat×Nat->AnsQ} (O:Ops3 E M V S) {B:Nat->Nat->Nat×Nat} {n:Nat}
include O
theorem Zt (hG:∀i j,i<n->j<=n->Gd (B i j))(h4:n<=4){i:Nat}(hi:i<n)(R:RowOk B n i (lev i)){out:Nat->Nat×Nat}(go:∀j,Gd (out j))(ho:∀j,i<j->j<n->Qi (oL j) (oM j) (out j)) :
  ∀m,i+m<n->(bkT M S B out n i none m).2=none/\Qi (if m=0 then lev i else oL i-31) (if m=0 then (2:Rat)^(300:Int) else 4294967296*oM (i+1)*4^m) (bkT M S B out n i none m).1
 |0,_=>⟨rfl,by rw[if_pos rfl,if_pos rfl];exact R.2.2.2⟩
 |m+1,hm=>by
  obtain⟨h1,h2⟩:=Zt hG h4 hi R go ho m (by omega);have k1:kap1=1025/1024:=rfl;have gT:=zA (e:=none) O hG go hi m (by omega);have gB:=hG i (i+1+m) hi (by omega);have qB:=R.2.2.1 (i+1+m) (by omega) (by omega);have qo:=ho (i+1+m) (by omega) (by omega);have o1:=Wm (show i+1<=i+1+m by omega);have o0:=vt (i+1+m);have o2:oM (i+1)<=(2:Rat)^(480:Int):=by
   have:=Wm (show 1<=i+1 by omega);have e:oM 1=(2:Rat)^(480:Int):=rfl;rw[e] at this;exact this
  have o3:(2:Rat)^(340:Int)<=oM (i+1):=by
   have:=Wm (show i+1<=i+1+3 by omega);have e:oM (i+1+3)=(2:Rat)^(340:Int):=by unfold oM;rw[if_neg (by omega),if_neg (by omega),if_neg (by omega)]
   rw[e] at this;exact this
  have e480:(2:Rat)^(480:Int)*2^(100:Nat)<=(2:Rat)^(900:Int):=by decide +kernel
  have e300:(2:Rat)^(300:Int)<=(2:Rat)^(340:Int):=jl (by omega);have hlv:0<=lev i/\0<=oL (i+1+m):=by unfold lev oL;constructor<;>(repeat' split)<;>omega
  have hbd:lev i+oL (i+1+m)<=900:=by unfold lev oL;repeat' split<;>omega
  have hpm:2147483648*oM (i+1+m)<=(2:Rat)^(900:Int):=by grind
  obtain⟨m1,m2⟩:=mulQ O gB (go (i+1+m)) qB qo (by omega) (by omega) hpm;have gP:=O.gm gB (go (i+1+m));have p4:(1:Rat)<=4^m/\(4:Rat)^m<=64:=by
   rcases(show m=0\/m=1\/m=2 by omega) with rfl|rfl|rfl<;>constructor<;>decide +kernel
  obtain⟨p,hp⟩:∃p:Rat,(4:Rat)^m=p:=⟨_,rfl⟩;rw[hp] at p4;have pm:oM (i+1)<=oM (i+1)*p:=by
   have:=Rat.mul_le_mul_of_nonneg_left p4.1 (vt (i+1));grind
  have pm2:oM (i+1)*p<=oM (i+1)*64:=Rat.mul_le_mul_of_nonneg_left p4.2 (vt (i+1));have h2':Qi (if m=0 then lev i else oL i-31) (4294967296*oM (i+1)*p) (bkT M S B out n i none m).1:=by
   refine h2.mono (Int.le_refl _) ?_;split
   ·grind
   ·rw[hp];exact Rat.le_refl
  obtain⟨s1,s2,_⟩:=subQ O gT gP h2' m2 (c:=oL i-31) (by
   by_cases q:m=0
   ·subst q;rw[if_pos rfl];left;unfold lev oL;constructor<;>(repeat' split)<;>omega
   ·rw[if_neg q];right;refine⟨Int.le_refl _,?_⟩;unfold lev oL
    repeat' split
    all_goals omega) (by unfold oL;repeat' split<;>omega) (by unfold oL;repeat' split<;>omega) (by rw[k1];grind)
  simp only[bkT];refine⟨by rw[h1,m1,s1];rfl,?_⟩;rw[if_neg (by omega),if_neg (by omega)];refine s2.mono (Int.le_refl _) ?_;rw[Rat.pow_succ,hp,k1];grind
end
theorem UX {i:Nat}(h:i<=2):oM i=(2:Rat)^(70:Int)*oM (i+1):=by
 rcases(show i=0\/i=1\/i=2 by omega) with rfl|rfl|rfl
 ·show(2:Rat)^(550:Int)=2^(70:Int)*2^(480:Int)
  rw[<-wA];congr 1
 ·show(2:Rat)^(480:Int)=2^(70:Int)*2^(410:Int)
  rw[<-wA];congr 1
 ·show(2:Rat)^(410:Int)=2^(70:Int)*2^(340:Int)
  rw[<-wA];congr 1
section
variable {E:Nat->Option Value} {M V S:Nat×Nat->Nat×Nat->AnsQ} (O:Ops3 E M V S) {A B:Nat->Nat->Nat×Nat} {a:Nat->Nat->Rat} {n:Nat}
include O
theorem Zu (hG:∀i j,i<n->j<=n->Gd (B i j))(h4:n<=4)(R:∀i,i<n->RowOk B n i (lev i)):∀m,m<=n->(bkS M V S B n m).2=none/\∀j,n-m<=j->j<n->Qi (oL j) (oM j) ((bkS M V S B n m).1 j)
 |0,_=>⟨rfl,fun j h1 h2=>by omega⟩
 |m+1,hm=>by
  obtain⟨h1,h2⟩:=Zu hG h4 R m (by omega);have k1:kap1=1025/1024:=rfl;have gb:=JW O hG m (by omega);obtain⟨i,hi⟩:∃i,n-1-m=i:=⟨_,rfl⟩;have hin:i<n:=by omega
  obtain⟨t1,t2⟩:=Zt O hG h4 hin (R i hin) gb (fun j q1 q2=>h2 j (by omega) q2) m (by omega);have gT:=zA (e:=none) O hG gb hin m (by omega);have gK:=hG i i hin (by omega);have e31:(2:Rat)^(31:Int)=2147483648:=by decide +kernel
  have el:((1:Rat)/2147483648)⁻¹=2147483648:=by decide +kernel
  have e340:(2:Rat)^(300:Int)*2147483648*kap1<=(2:Rat)^(340:Int):=by decide +kernel
  have e900:(2:Rat)^(550:Int)<=(2:Rat)^(900:Int):=jl (by omega);have e70:(2:Rat)^(70:Int)=1180591620717411303424:=by decide +kernel
  have o550:oM i<=(2:Rat)^(550:Int):=Wm (i:=0) (by omega);have o340:(2:Rat)^(340:Int)<=oM i:=by
   have:=Wm (show i<=i+3 by omega);have e:oM (i+3)=(2:Rat)^(340:Int):=by unfold oM;rw[if_neg (by omega),if_neg (by omega),if_neg (by omega)]
   rw[e] at this;exact this
  have key:(if m=0 then (2:Rat)^(300:Int) else 4294967296*oM (i+1)*4^m)*((1:Rat)/2147483648)⁻¹*kap1<=oM i:=by
   rw[el];by_cases q:m=0
   ·rw[if_pos q];grind
   ·rw[if_neg q,UX (show i<=2 by omega),e70,k1];have p4:(4:Rat)^m<=64:=by
     rcases(show m=1\/m=2\/m=3 by omega) with rfl|rfl|rfl<;>decide +kernel
    have:=Rat.mul_le_mul_of_nonneg_left p4 (vt (i+1));have:=vt (i+1);grind
  have hma:(0:Rat)<=(if m=0 then (2:Rat)^(300:Int) else 4294967296*oM (i+1)*4^m)*((1:Rat)/2147483648)⁻¹:=by
   have:=t2.lo;have:=t2.hi;have:=gT.iLH;rw[el];grind
  obtain⟨v1,v2⟩:=divQ O gT gK t2 (l:=1/2147483648) (by decide +kernel) (R i hin).1 (u:=31) (by rw[e31];exact(R i hin).2.1.1) (by rw[e31];exact(R i hin).2.1.2) (by unfold lev oL;repeat' split<;>omega) (by unfold lev oL;repeat' split<;>omega) (by rw[k1] at key;grind);simp only[bkS];rw[hi,h1];refine⟨by rw[t1,v1];rfl,fun j q1 q2=>?_⟩;simp only[upd];by_cases q:j=i
  ·subst q;rw[if_pos rfl];refine v2.mono ?_ key;by_cases q:m=0
   ·rw[if_pos q];unfold lev oL;repeat' split<;>omega
   ·rw[if_neg q];omega
  ·rw[if_neg q];exact h2 j (by omega) q2
theorem HZ (P:Pts A a n)(H:Heavy a n)(h1:1<=n)(h4:n<=4):∃out,solS M V S A n=some out:=by
 obtain⟨B,hB,R⟩:=H0 O P H h1 h4;have gB:=xg O P.gd n (Nat.le_refl _) B hB;have:=(Zu O gB h4 R n (Nat.le_refl _)).1;exact⟨_,by unfold solS;rw[hB];simp only;rw[this]⟩
end
end Go.Enc
end
section
namespace Go.Enc
open Go.Proofs Go.Enc.Fl
theorem zeF (x:Rat):am (-x)=am x:=by unfold am;split<;>split<;>grind
theorem xF {x:Rat}(h:0<=x):am x=x:=by unfold am;rw[if_pos h]
theorem zjK (b:Nat):am (v (idx b))=v ((b % 2^63:Nat):Int):=by
 have h0:0<=v ((b % 2^63:Nat):Int):=by
  have:=v_le (i:=0) (j:=((b % 2^63:Nat):Int)) (by omega);rw[wC] at this;exact this
 unfold idx;split
 ·rw[wQ,zeF,xF h0]
 ·exact xF h0
theorem Rl (b:Nat):qm b=true↔v (idx b)=0\/((2:Rat)^(-30:Int)<=am (v (idx b))/\am (v (idx b))<=2^(30:Int)):=by
 have e1:v (pw 993)=2^(-30:Int):=v_pw 993 (by omega);have e2:v (pw 1053)=2^(30:Int):=v_pw 1053 (by omega);have p1:pw 993=4472074429978902528:=by decide
 have p2:pw 1053=4742290407621132288:=by decide
 have z:v (idx b)=0↔b % 2^63=0:=by
  rw[<-xf];exact⟨fun h=>Wh (by rw[h,wC]),fun h=>by rw[h,wC]⟩
 rw[zjK,<-e1,<-e2,kl,kl,z,p1,p2];unfold qm;simp only[Bool.or_eq_true,Bool.and_eq_true,decide_eq_true_eq];omega
theorem YL {b:Nat}(h:qm b=true):Lw 30 (v (idx b))/\am (v (idx b))<=1073741824:=by
 have e30:(2:Rat)^(30:Int)=1073741824:=by decide +kernel
 rcases(Rl b).1 h with h|⟨h1,h2⟩
 ·rw[h];exact⟨.inl rfl,by decide +kernel⟩
 ·rw[e30] at h2;exact⟨Lw.of_am h1,h2⟩
theorem XR {f:Nat->Nat×Nat}:∀ {m:Nat},fairs f m=true↔∀j,j<m->vL (f j)=true
 |0=>by simp[fairs]
 |m+1=>by
  simp only[fairs,Bool.and_eq_true,XR (m:=m)];exact⟨fun h j hj=>by
   rcases Nat.lt_or_ge j m with g|g
   ·exact h.1 j g
   ·rw[show j=m by omega];exact h.2,fun h=>⟨fun j hj=>h j (by omega),h m (by omega)⟩⟩
theorem JQ {A:Nat->Nat->Nat×Nat}{m:Nat}:∀ {i:Nat},kS A m i=true↔∀r j,r<i->j<m->vL (A r j)=true
 |0=>by simp[kS]
 |i+1=>by
  simp only[kS,Bool.and_eq_true,JQ (i:=i),XR];exact⟨fun h r j hr hj=>by
   rcases Nat.lt_or_ge r i with g|g
   ·exact h.1 r j g hj
   ·rw[show r=i by omega];exact h.2 j hj,fun h=>⟨fun r j hr hj=>h r j (by omega) hj,fun j hj=>h i j (by omega) hj⟩⟩
theorem Rn (x:Nat×Nat):vL x=true↔qm x.1=true/\qm x.2=true:=by unfold vL;rw[Bool.and_eq_true]
theorem ziE {A:Nat->Nat->Nat×Nat}{a:Nat->Nat->Rat}{n:Nat}(hG:∀i j,i<n->j<=n->Gd (A i j))(hf:kS A (n+1) n=true)(he:∀i j,i<n->j<=n->iL (A i j)=a i j/\iH (A i j)=a i j):Pts A a n:=by
 have h:=JQ.1 hf;refine⟨hG,he,fun i j hi hj=>?_,fun i j hi hj=>?_⟩
 ·have:=YL ((Rn _).1 (h i j hi (by omega))).1;have e:=(he i j hi hj).1;unfold iL at e;rw[e] at this;exact this.1
 ·have:=YL ((Rn _).1 (h i j hi (by omega))).1;have e:=(he i j hi hj).1;unfold iL at e;rw[e] at this;exact this.2
end Go.Enc
end
section
namespace Go.Enc
open Go.Proofs Go.Enc.Dg Go.Enc.Nu Go.Enc.Fl Go.RowKit
def nam (a:Nm):Nm:=⟨false,a.n,a.e⟩
theorem WT (a:Nm):val (nam a)=am (val a):=by
 have h0:(0:Rat)<=((a.n:Nat):Rat)*2^a.e:=Rat.mul_nonneg (by exact_mod_cast Nat.zero_le _) (Rat.le_of_lt (wB _));have e1:val (nam a)=((a.n:Nat):Rat)*2^a.e:=rfl;rw[e1];unfold val;split
 ·rw[Rat.neg_mul,zeF,xF h0]
 ·rw[xF h0]
theorem Xe (E:Nat->Option Value)(a:Nm):DQz E 139 [nmD a] (.data (nmD (nam a))):=by
 refine dcA Tryz.func139 Tryz.ntmps139 (rs:=[.cell 2 70]) fun _ _ _ _ _=>?_
 obtain⟨neg,n,e⟩:=a;simp -implicitDefEqProofs only[go_sem,nam]
def chN (a b:Nm)(p:Int):Nm:=if p % 4=0 then a else if p % 4=1 then b else ⟨(nsum a b).neg,(nsum a b).n,(nsum a b).e-1⟩
theorem zlP (n:Int):pint .and .i64 n 3=some (.int .i64 (n % 4)):=by
 have e:(BitVec.ofInt 64 3).toNat=2^2-1:=by decide
 have:((BitVec.ofInt 64 n &&& BitVec.ofInt 64 3).toNat:Int)=n % 4:=by
  rw[BitVec.toNat_and,e,Nat.and_two_pow_sub_one_eq_mod,BitVec.toNat_ofInt];omega
 show some (Value.int .i64 (IntKind.i64.wrap ((BitVec.ofInt 64 n &&& BitVec.ofInt 64 3).toNat:Int)))=_
 rw[this,w64 (by omega)]
theorem Y6 (E:Nat->Option Value){x:Nat×Nat}{a b:Nm}(hm:DQz E 46 [boxD x] (.data (nvD a b)))(ha:Nr a 60 100)(hb:Nr b 60 100)(p:Int):DQz E 140 [boxD x,intD p] (.data (nmD (chN a b p))):=by
 refine dcA Tryz.func140 Tryz.ntmps140 (rs:=[.cell 4 70]) fun _ _ _ _ _=>?_
 have q1:=zlP p;simp -implicitDefEqProofs only[go_sem,Option.some.injEq,Value.int.injEq,true_and] at q1;have s:=(ha.sum hb);have s1:=s.lo;have s2:=s.hi;have w1:IntKind.i64.wrap ((nsum a b).e-1)=(nsum a b).e-1:=w64 (by omega);simp -implicitDefEqProofs only[go_sem];refine cI hm ?_;by_cases h0:p % 4=0
 ·have e0:=tB (show((p % 4)==0)=true by rw[h0];rfl);have hc:chN a b p=a:=by unfold chN;rw[if_pos h0]
  rw[hc];simp -implicitDefEqProofs only[go_sem,q1,e0]
 ·have e0:=tV (show((p % 4)==0)=false by simp[h0]);by_cases h1:p % 4=1
  ·have e1:=tB (show((p % 4)==1)=true by rw[h1];rfl);have hc:chN a b p=b:=by unfold chN;rw[if_neg h0,if_pos h1]
   rw[hc];simp -implicitDefEqProofs only[go_sem,q1,e0,e1]
  ·have e1:=tV (show((p % 4)==1)=false by simp[h1]);have hc:chN a b p=⟨(nsum a b).neg,(nsum a b).n,(nsum a b).e-1⟩:=by unfold chN;rw[if_neg h0,if_neg h1]
   rw[hc];simp -implicitDefEqProofs only[go_sem,q1,e0,e1];refine cI (zZ _ ((ha.ok (by omega)).mono (j:=60) (by omega)) ((hb.ok (by omega)).mono (by omega)) (by omega)) ?_;simp -implicitDefEqProofs only[go_sem,w1]
def kw (a:Nat)(w:Int)(n:Nat):Bool:=decide (1<=n/\n<=4/\1<=w/\((n=1/\a=1)\/(n≠1/\w=n/\a=n*n)))
theorem WZ (E:Nat->Option Value){L L':List (Nat×Nat)}(hL:L.length<=1000000)(hL':L'.length*16<=140737488355328)(w:Int):DQz E 108 [.sl 2 (boxC L),intD w,.sl 2 (boxC L')] (.data (bD (kw L.length w L'.length))):=by
 refine dcA Tryz.func108 Tryz.ntmps108 (rs:=[.tmp 6]) fun _ _ _ _ _=>?_
 have cl:=jL;have d2:=ke;obtain⟨n,hn⟩:∃n,L'.length=n:=⟨_,rfl⟩;obtain⟨a,ha⟩:∃a,L.length=a:=⟨_,rfl⟩;rw[hn] at hL';rw[ha] at hL;rw[hn,ha];by_cases h1:n<1
 ·have e1:=tB (tD (show(n:Int)<1 by omega));have hs:kw a w n=false:=by unfold kw;exact decide_eq_false (by omega)
  rw[hs];simp -implicitDefEqProofs only[go_sem,cl,d2,hn,ha,e1,finK]
 have e1:=tV (fD (show ¬(n:Int)<1 by omega));by_cases h2:n>4
 ·have e2:=tB (tD (show(n:Int)>4 by omega));have hs:kw a w n=false:=by unfold kw;exact decide_eq_false (by omega)
  rw[hs];simp -implicitDefEqProofs only[go_sem,cl,d2,hn,ha,e1,e2,finK]
 have e2:=tV (fD (show ¬(n:Int)>4 by omega));by_cases h3:w<1
 ·have e3:=tB (tD h3);have hs:kw a w n=false:=by unfold kw;exact decide_eq_false (by omega)
  rw[hs];simp -implicitDefEqProofs only[go_sem,cl,d2,hn,ha,e1,e2,e3,finK]
 have e3:=tV (fD h3);by_cases h4:n=1
 ·have e4:=tB (show((n:Int)==1)=true by rw[h4];rfl);have hs:kw a w n=((a:Int)==1):=by
   unfold kw;rw[Bool.eq_iff_iff,decide_eq_true_eq,beq_iff_eq];omega
  rw[hs];simp -implicitDefEqProofs only[go_sem,cl,d2,hn,ha,e1,e2,e3,e4,finK]
 have e4:=tV (show((n:Int)==1)=false by simp;omega);by_cases h5:w=n
 ·have e5:=tB (show(w==(n:Int))=true by simp[h5]);have w1:IntKind.i64.wrap ((n:Int)*n)=((n*n:Nat):Int):=by
   have:n*n<=4*4:=Nat.mul_le_mul (by omega) (by omega);rw[Int.natCast_mul,w64];have e:((n*n:Nat):Int)=(n:Int)*n:=Int.natCast_mul n n;omega
  have hs:kw a w n=((a:Int)==((n*n:Nat):Int)):=by
   unfold kw;rw[Bool.eq_iff_iff,decide_eq_true_eq,beq_iff_eq];omega
  rw[hs];simp -implicitDefEqProofs only[go_sem,cl,d2,hn,ha,e1,e2,e3,e4,e5,w1,finK]
 ·have e5:=tV (show(w==(n:Int))=false by simp[h5]);have hs:kw a w n=false:=by unfold kw;exact decide_eq_false (by omega)
  rw[hs];simp -implicitDefEqProofs only[go_sem,cl,d2,hn,ha,e1,e2,e3,e4,e5,finK]
def nm30 (e:Int):Nm:=⟨false,1,e⟩
theorem ZF (e:Int):val (nm30 e)=2^e:=by
 unfold val nm30;have:((1:Nat):Rat)=1:=rfl;simp only[Bool.false_eq_true,if_false,this];exact Rat.one_mul _
theorem UY {e:Int}(h1 : -100<=e)(h2:e<=100):Nr (nm30 e) 60 100:=⟨by show 1<2^60;decide,by show -((100:Nat):Int)<=e;omega,by show e<=((100:Nat):Int);omega⟩
def vi (a:Nm):Bool:=(nsign a==0)||(!nless (if nsign a<0 then nneg a else a) (nm30 (-30)) && !nless (nm30 30) (if nsign a<0 then nneg a else a))
theorem Rm (a:Nm):vi a=true↔val a=0\/((2:Rat)^(-30:Int)<=am (val a)/\am (val a)<=2^(30:Int)):=by
 have hs:=vy a;have hv:val (if nsign a<0 then nneg a else a)=am (val a):=by
  unfold am;by_cases h:nsign a<0
  ·have:=hs.1.1 h;rw[if_pos h,xa,if_neg (by grind)]
  ·have:¬val a<0:=fun g=>h (hs.1.2 g)
   rw[if_neg h,if_pos (by grind)]
 unfold vi;rw[jP,jP,hv,ZF,ZF];simp only[Bool.or_eq_true,Bool.and_eq_true,beq_iff_eq,Bool.not_eq_true',decide_eq_false_iff_not,Rat.not_lt];rw[hs.2.1]
theorem UD (E:Nat->Option Value){a:Nm}(ha:Nr a 60 1000):DQz E 138 [nmD a] (.data (bD (vi a))):=by
 obtain⟨a',ha'⟩:∃a',(if nsign a<0 then nneg a else a)=a':=⟨_,rfl⟩;have hf:vi a=((nsign a==0)||(!nless a' (nm30 (-30)) && !nless (nm30 30) a')):=by unfold vi;rw[ha']
 have o1:NOk a' 60:=by
  rw[<-ha'];split
  ·exact ha.neg.ok (by omega)
  ·exact ha.ok (by omega)
 have o2:=(UY (e:=-30) (by omega) (by omega)).ok (by omega);have o3:=(UY (e:=30) (by omega) (by omega)).ok (by omega);have l1:=kE E o1 o2 (by omega);have l2:=kE E o3 o1 (by omega);have hn:=wP E a;have hs:=WA E a;have c1:=qI E 1 (by decide);have n1:nmD (nm30 (-30)) = .agg [bD false,natD 1,intD (-30)]:=rfl;have n2:nmD (nm30 30) = .agg [bD false,natD 1,intD 30]:=rfl;rw[n1] at l1;rw[n2] at l2;rw[hf];generalize nless a' (nm30 (-30))=b1 at *;generalize nless (nm30 30) a'=b2 at *;refine dcA Tryz.func138 Tryz.ntmps138 (rs:=[.tmp 2]) fun _ _ _ _ _=>?_
 simp -implicitDefEqProofs only[go_sem];refine cI hs ?_;have tail:∀b1 b2:Bool,∀s:Int,(s==0||(!b1 && !b2))=(if s=0 then true else if b1=true then false else !b2):=fun b1 b2 s=>by
  by_cases h:s=0
  ·rw[if_pos h,h];rfl
  ·have:(s==0)=false:=by simp[h]
   rw[if_neg h,this];cases b1<;>rfl
 rw[tail];by_cases h:nsign a<0
 ·have e1:=tB (tD h);rw[if_pos h] at ha';subst ha';have e0:=tV (show(nsign a==0)=false by simp;omega);rw[if_neg (by omega)];simp -implicitDefEqProofs only[go_sem,e1];refine cI hn ?_;simp -implicitDefEqProofs only[go_sem];refine drw ?_;simp -implicitDefEqProofs only[go_sem];refine cI c1 ?_;simp -implicitDefEqProofs only[go_sem];refine cI l1 ?_;simp -implicitDefEqProofs only[go_sem];refine drw ?_;simp -implicitDefEqProofs only[go_sem];refine cI c1 ?_;simp -implicitDefEqProofs only[go_sem];refine cI l2 ?_;cases b1<;>cases b2<;>simp -implicitDefEqProofs only[go_sem,e0,finK]
 ·have e1:=tV (fD h);rw[if_neg h] at ha';subst ha';simp -implicitDefEqProofs only[go_sem,e1];refine drw ?_;simp -implicitDefEqProofs only[go_sem];refine cI c1 ?_;simp -implicitDefEqProofs only[go_sem];refine cI l1 ?_;simp -implicitDefEqProofs only[go_sem];refine drw ?_;simp -implicitDefEqProofs only[go_sem];refine cI c1 ?_;simp -implicitDefEqProofs only[go_sem];refine cI l2 ?_;by_cases h0:nsign a=0
  ·have e0:=tB (show(nsign a==0)=true by simp[h0]);rw[if_pos h0];simp -implicitDefEqProofs only[go_sem,e0,finK]
  ·have e0:=tV (show(nsign a==0)=false by simp[h0]);rw[if_neg h0];cases b1<;>cases b2<;>simp -implicitDefEqProofs only[go_sem,e0,finK]
abbrev loN (X:Nat×Nat):Nm:=(nplain (mk2 X).1).1
abbrev hiN (X:Nat×Nat):Nm:=(nplain (mk2 X).2).1
theorem qN (b:Nat):Nr (nplain b).1 60 1000:=by
 by_cases h:(nplain b).1=nzero
 ·rw[h];exact yW _ _
 ·obtain⟨_,e,h1,h2,_⟩:=qf h;rw[e];exact⟨by show _+_<2^60;have:=Nat.mod_lt b (show 0<4503599627370496 by decide);omega,by show -((1000:Nat):Int)<=((b/4503599627370496 % 2048:Nat):Int)-1075;omega,by show((b/4503599627370496 % 2048:Nat):Int)-1075<=((1000:Nat):Int);omega⟩
def Bits (L:List (Nat×Nat)):Prop:=∀X∈L,X.1<18446744073709551616/\X.2<18446744073709551616
theorem JK (E:Nat->Option Value){X:Nat×Nat}(h:X.1<18446744073709551616/\X.2<18446744073709551616):DQz E 46 [boxD X] (.data (nvD (loN X) (hiN X))):=by
 have g:=jO h.1 h.2;exact WJ E h.1 h.2 g.l1 g.l2
def yz (X:Nat×Nat):Bool:=vi (loN X)&&vi (hiN X)
def kA (L:List (Nat×Nat)):Bool:=L.all yz
theorem vA (E:Nat->Option Value){L:List (Nat×Nat)}(hL:L.length*16<=140737488355328)(hb:Bits L):DQz E 109 [.sl 2 (boxC L)] (.data (bD (kA L))):=by
 refine dcA Tryz.func109 Tryz.ntmps109 (rs:=[.tmp 2]) fun _ _ _ _ _=>?_
 have cl:=jL L;have d2:=ke;simp -implicitDefEqProofs only[go_sem];rw[wu];refine wm (α:={i:Nat // i<=L.length/\∀j X,j<i->L[j]?=some X->yz X=true}) (fun i=>St.of [(0,.d (.sl 2 (boxC L))),(3,.d (intD i.1))] []) (fun i=>L.length-i.1)
  ⟨0,Nat.zero_le _,fun j X h=>by omega⟩ (we ?_ ?_ rfl) (by kernel_rfl) (fun i=>?_)
 ·have c0:=c0E;simp -implicitDefEqProofs only[go_sem,c0]
 ·simp -implicitDefEqProofs only[go_sem]
 obtain⟨i,hi,hf⟩:=i;by_cases hA:i<L.length
 ·have eA:decide ((i:Int)<(L.length:Int))=true:=tD (by omega);have w1:=wL (c:=i) (by omega);obtain⟨X,hX⟩:∃X,L[i]?=some X:=⟨_,List.getElem?_eq_getElem hA⟩;have hXm:=List.mem_of_getElem? hX;have tk:=kf hX;have q1:i*2<L.length*2:=by omega
  have q2:i*2+2<=L.length*2:=by omega
  have n1:=qN (mk2 X).1;have n2:=qN (mk2 X).2;simp -implicitDefEqProofs only[go_sem,eA,cl,d2,q1,q2,tk];refine cI (JK _ (hb X hXm)) ?_;simp -implicitDefEqProofs only[go_sem];refine cI (UD _ n1) ?_;simp -implicitDefEqProofs only[go_sem];refine cI (UD _ n2) ?_;by_cases hx:yz X=true
  ·have hx2:vi (loN X)=true/\vi (hiN X)=true:=by unfold yz at hx;rwa [Bool.and_eq_true] at hx
   have e1:=tV hx2.1;have e2:=tV hx2.2;obtain⟨i',hi'⟩:∃i':{i:Nat // i<=L.length/\∀j X,j<i->L[j]?=some X->yz X=true},i'.1=i+1:=⟨⟨i+1,hA,fun j Y hj hY=>by
    rcases Nat.lt_or_ge j i with g|g
    ·exact hf j Y g hY
    ·obtain rfl:j=i:=by omega
     rw[hX] at hY;cases hY;exact hx⟩,rfl⟩
   simp -implicitDefEqProofs only[go_sem,e1,e2,w1];refine⟨i',we ?_ ?_ rfl,by simp only[hi'];omega⟩<;>simp -implicitDefEqProofs only[go_sem,hi']
  ·have hr:kA L=false:=by
    unfold kA;rw[List.all_eq_false];exact⟨X,hXm,hx⟩
   have hx2:(vi (loN X)&&vi (hiN X))=false:=by
    have:yz X=false:=by cases h:yz X;rfl;exact absurd h hx
    exact this
   rw[hr];cases e1:vi (loN X)
   ·simp -implicitDefEqProofs only[go_sem,e1,finK]
   ·rw[e1,Bool.true_and] at hx2;simp -implicitDefEqProofs only[go_sem,e1,hx2,finK]
 ·have eA:decide ((i:Int)<(L.length:Int))=false:=fD (by omega);have hr:kA L=true:=by
   unfold kA;rw[List.all_eq_true];intro X hX;obtain⟨j,hj,e⟩:=List.mem_iff_getElem.1 hX;exact hf j X (by omega) (by rw[List.getElem?_eq_getElem hj,e])
  rw[hr];simp -implicitDefEqProofs only[go_sem,eA,cl,d2,finK]
end Go.Enc
end
