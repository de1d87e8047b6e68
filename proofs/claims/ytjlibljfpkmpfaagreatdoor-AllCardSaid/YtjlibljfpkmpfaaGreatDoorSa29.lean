/-
  The program's Roots, lent its list; the list of floats as a row of one's own. plain.Roots by contract.
-/
import Derived.Test.YtjlibljfpkmpfaaGreatDoorSa28
import Derived.Test.YtjlibljfpkmpfaaGreatDoorSa27
import Derived.Test.YtjlibljfpkmpfaaGreatDoorSa09
set_option maxRecDepth 100000
set_option linter.unusedSimpArgs false
set_option linter.unusedVariables false
section
namespace Go.Enc
open Go.Proofs Go.Enc.Dg Go.Enc.Nu Go.Enc.Fl Go.RowKit
theorem zdz (A B:List (Nat×Nat)):boxC (A++B)=boxC A++boxC B:=by
 unfold boxC;simp
theorem Q7 (L:List (Nat×Nat)):(boxC L).length=2*L.length:=by
 have:=qE L;rw[Q5,List.length_map] at this;exact this
def flT (l:List Nat):List T:=l.map fun n=>.d (flD n)
theorem Xc (l:List Nat):asDs (flT l)=some (l.map flD):=by
 have:flT l=(l.map flD).map T.d:=by simp[flT]
 rw[this,jX]
theorem KH (l:List Nat):(flT l).length=l.length:=by simp[flT]
theorem zdR (k:Nat)(l:List Nat):(flT l).map (wU k)=flT l:=by simp[flT,wU]
theorem zdQ (l:List Nat)(x:Nat):flT l++[.d (flD x)]=flT (l++[x]):=by simp[flT]
theorem Kg (k:Nat)(l:List Nat)(x:Nat):List.map (wU k) (flT l++[T.d (.v (.float .f64 x))])=flT (l++[x]):=by
 rw[<-zdR k (l++[x]),<-zdQ]
theorem yw (l:List Nat)(ks:List Nat):(flT l).all (wG ks)=true:=by simp[flT,wG,T.ref]
theorem Xv {l:List Nat}{i x:Nat}(h:l[i]?=some x):l.take i++[x]=l.take (i+1):=by
 rw[List.take_add_one,h];rfl
theorem Rj (E:Nat->Option Value)(n:Nat):DQz E 31 [.v (.int .u64 n)] (.data (.v (.float .f64 n))):=zp E n
def jJ (l:List Nat)(d:Int):Int:=if wI l=0 then (if 0<=d/\d<=8 then 0 else 8) else wI l
theorem yd (dr:Nat×Nat->Bool):∀(d:Nat) (X:Nat×Nat),(pcs dr d X).length<=2^d
 |0,X=>by unfold pcs;split<;>simp
 |d+1,X=>by
  unfold pcs;have h1:=yd dr d (X.1,posB (midB X));have h2:=yd dr d (posB (midB X),X.2);have h3:1<=2^d:=Nat.one_le_two_pow;rw[Nat.pow_succ];split
  ·simp
  ·split
   ·rw[List.length_append];omega
   ·simp only[List.length_cons,List.length_nil];omega
theorem H3 (E:Nat->Option Value){l:List Nat}(hlen:l.length*8<=140737488355328):DQz E 66 [usD l] (.own 57 1 true (l.map flD)):=by
 have hml:(l.map uD).length=l.length:=List.length_map _;refine dcA Tryz.func66 Tryz.ntmps66 (rs:=[.tmp 2]) fun _ _ _ _ _=>?_
 simp -implicitDefEqProofs only[go_sem,hml,div1];rw[wu];refine jF 3 16 57 1 rfl rfl ?_;refine wm (α:={i:Nat // i<=l.length}) (fun i=>St.of [(0,.d (usD l)),(3,.gs 16),(6,.d (usD l)),(7,.d (intD l.length)),(8,.d (intD i.1))] [(16,⟨some (57,1,true),flT (l.take i.1)⟩)]) (fun i=>l.length-i.1)
  ⟨0,Nat.zero_le _⟩ (we ?_ ?_ rfl) (by kernel_rfl) (fun i=>?_)
 ·have c0:=c0E;simp -implicitDefEqProofs only[go_sem,upd,c0,hml,div1]
 ·simp -implicitDefEqProofs only[go_sem,upd,flT,List.take_zero,List.map_nil]
 ·obtain⟨i,hi⟩:=i;have htl:(l.take i).length=i:=by rw[List.length_take];omega
  by_cases hA:i<l.length
  ·obtain⟨x,hx⟩:=wJ hA;have eA:decide ((i:Int)<(l.length:Int))=true:=tD (by omega);have w1:=wL (c:=i) (by omega);have hmax:=mxE;obtain⟨i',hi'⟩:∃i':{i:Nat // i<=l.length},i'.1=i+1:=⟨⟨i+1,hA⟩,rfl⟩;simp -implicitDefEqProofs only[go_sem,hml,div1,eA,hA,KV hx];refine cI (Rj _ x) ?_;simp -implicitDefEqProofs only[go_sem,KH,htl,w1,Kg,Xv hx];refine⟨by omega,by omega,i',we ?_ ?_ (by simp[wv,yw,wG,T.ref]),by simp only[hi'];omega⟩<;>simp -implicitDefEqProofs only[go_sem,hi']
  ·have eA:decide ((i:Int)<(l.length:Int))=false:=fD (by omega);have ht:l.take i=l:=List.take_of_length_le (by omega);have hf:flT l=(l.map flD).map T.d:=by simp[flT]
   simp -implicitDefEqProofs only[go_sem,hml,div1,eA,Xc,ht,finK];exact⟨16,rfl,by rw[if_pos rfl,hf]⟩
theorem tBd {b c:Bool}(h:b=c):T.d (D.v (Value.bool b))=T.d (D.v (Value.bool c)):=by rw[h]
section
variable {E:Nat->Option Value} {q:Nat->Addr} {l:List Nat} {X:Nat×Nat}
abbrev rS (l:List Nat)(X:Nat×Nat)(d:Int):St:=St.of [(4,.ptr 4 0),(5,.ptr 5 0),(9,.ptr 9 0)]
 [(4,⟨none,[.d (flD X.1),.d (flD X.2)]⟩),(5,⟨none,[.d (intD d)]⟩),(9,⟨none,[.gs 23]⟩),(23,⟨some (57,1,true),flT l⟩)]
theorem zcv (hq:Sent E q)(hl:∀x∈l,x<18446744073709551616)(hlen:l.length<=1152921504606846976)(hr:wI l=0){d:Int}(h0:0<=d)(h8:d<=8)
  {C:Ctx} (hP:C.P=Tryz.prog) (hE:C.E=E) (hn:C.n=25) (hk:C.kb=0) {c:Code} (hcode:Tryz.f69.body=some c) :
  DC C (cutC 4 c).1 (QW (rS l X d)) (St.init [fsD l,ivD X,intD d]):=by
 have c1:=QI hq hl hlen;have c2:errR q (wI l) = .v .nilIface:=by unfold errR;rw[if_pos hr]
 rw[c2] at c1;have hml:(l.map flD).length=l.length:=List.length_map _;have q1:=tV (fD (show ¬d<0 by omega));have q2:=tV (fD (show ¬d>8 by omega));have hmax:=mxE;have h9:=(qb hr).2.1;obtain⟨P,E',σ0,w0,base,n,kb,df,G0⟩:=C;simp only at hP hE hn hk;subst hP hE hn hk;simp only[Tryz.f69,Option.some.injEq] at hcode;subst hcode;simp only[cutC];simp -implicitDefEqProofs only[go_sem];refine cI c1 ?_;simp -implicitDefEqProofs only[go_sem,q1,q2,hml,div1,QW,rS];have hf:flT l=(l.map flD).map T.d:=by simp[flT]
 rw[List.length_map,hml];refine⟨by omega,by omega,we ?_ ?_ (by simp[wv,yw,wG,T.ref])⟩<;>simp -implicitDefEqProofs only[go_sem,hf]
theorem St.free_of {l:List (Nat×T)}{m:List (Nat×Obj)}(h:l.all (fun p=>Wp p.2)=true):(St.of l m).free=St.of l m:=by
 unfold St.free;congr 1
 funext i
 have:Wp ((St.of l m).t i)=true:=by
  simp only[of_t]
  induction l with
  |nil=>rfl
  |cons p r ih=>
   obtain⟨j,x⟩:=p;simp only[List.all_cons,Bool.and_eq_true] at h;simp only[lk];split
   ·exact h.1
   ·exact ih h.2
 rw[if_pos this];rfl
theorem zes {C:Ctx}{σ:Mem}{G:Gh}{s:St}{a:Act}{w:World}{ro:Option Nat}{n:Nat}{ops:Array Oper}{l:List Oper}{Q:Exit->Act->World->Prop}{d:Nat}{g:FuncId}{xs:Array Operand}{ty:TypeId}{pos:String}{after:Array Edge}{ds:List D}(S:Stands C σ G s a w)(hd:d<C.n)
  (hx:RepL σ ds (xs.map a.eval).toList) (h:∀a',Stands C σ G (s.put (some d) (.d (.fn g ds))) a' w->wpListIn (Wd ro) n C.P ops Q l a' w) :
  wpListIn (Wd ro) n C.P ops Q (⟨some d,.makeFunc (.func g) #[] xs,ty,pos,after,none⟩ :: l) a w:=by
 refine Jd (x9 rfl) ?_;refine⟨fun _ _=>trivial,?_⟩;rw[Oper.semAt_eq _ _ _ (by simp)];have hrun:(execOp a.eval (⟨some d,.makeFunc (.func g) #[] xs,ty,pos,after,none⟩:Oper)).run C.P w = .ok (.value (.func (.func g) #[] (xs.map a.eval))) w:=by
  simp[execOp,Instr.makeFunc]
 rw[hrun]
 show wpListIn (Wd ro) n C.P ops Q l (a.put (some d) _) w
 exact h _ (S.put (x:=.d (.fn g ds)) (u:=.func (.func g) #[] (xs.map a.eval)) (dst:=some d) (by simp only[RepT,Rep];exact⟨_,rfl,hx⟩) (by simp[T.ref]) (fun _ e=>by cases e;exact hd))
theorem YB (hq:Sent E q)(hl:∀x∈l,x<18446744073709551616)(hlen:l.length<=1152921504606846976)(hr:wI l=0){d:Int}(h0:0<=d)(h8:d<=8) :
  Hc Tryz.prog E 69 [fsD l,ivD X,intD d] (.tup [.fn 105 [.pd [fsD l] 0,.pd [flD X.1,flD X.2] 0,.pd [intD d] 0],.v .nilIface]):=by
 refine Kc Tryz.func69 rfl (by kernel_rfl) (fun σ σL w us hF hFL hle hargs=>?_);have S0:=j8 (P:=Tryz.prog) (nt:=Tryz.f69.ntmps) (n:=25) hFL hargs Tryz.ntmps69 (by simp);refine calls_of_wp Tryz.func69 rfl ?_;refine x5 4 _ (by kernel_rfl) S0 (zcv (X:=X) hq hl hlen hr h0 h8 rfl rfl rfl rfl rfl) (fun s' σ' G' a' w' hw S'=>?_) qv;have S1:=(S'.weak hw).forget (τ:=σ) hF hle rfl (fun k o ho=>by
  simp only[of_h,lkh] at ho
  repeat' split at ho
  all_goals first|(cases ho;done)|skip
  all_goals (simp only[Option.some.injEq] at ho;subst ho;simp[Wp,QQ,flT]))
 rw[St.free_of (by rfl)] at S1;have S1:Stands { P:=Tryz.prog,E:=E,σ0:=σ,w0:=w,base:=w.heap.size,n:=25,kb:=0,df:=[] } _ G' _ a' w':=S1;obtain⟨σ2,S2⟩:=S1.comm (k:=23) (o:=⟨some (57,1,true),flT l⟩) (ds:=l.map flD) rfl (Xc l);obtain⟨σ3,S3⟩:=S2.comm (k:=9) (o:=⟨none,[.d (fsD l)]⟩) (ds:=[fsD l]) rfl rfl;obtain⟨σ4,S4⟩:=S3.comm (k:=4) (o:=⟨none,[.d (flD X.1),.d (flD X.2)]⟩) (ds:=[flD X.1,flD X.2]) rfl rfl;obtain⟨σ5,S5⟩:=S4.comm (k:=5) (o:=⟨none,[.d (intD d)]⟩) (ds:=[intD d]) rfl rfl;have S6:=S5.weak (s':=St.of [(4,.d (.pd [flD X.1,flD X.2] 0)),(5,.d (.pd [intD d] 0)),(9,.d (.pd [fsD l] 0))] []) (we (by simp -implicitDefEqProofs only[go_sem]) (by simp -implicitDefEqProofs only[go_sem]) rfl);refine(wpIn_wide (n:=0)).1 ?_
 show Code.wpIn (Wd none) 0 _ _ _ _ _
 refine wpIn_seq (wpIn_region_list ?_);refine zes (C:={ P:=Tryz.prog,E:=E,σ0:=σ,w0:=w,base:=w.heap.size,n:=25,kb:=0,df:=[] }) (ds:=[.pd [fsD l] 0,.pd [flD X.1,flD X.2] 0,.pd [intD d] 0]) S6 (show 24<25 by decide) ?_ (fun a7 S7=>?_)
 ·have a9:=jY S6 (t:=9) (x:=.pd [fsD l] 0) (by simp -implicitDefEqProofs only[go_sem]);have a4:=jY S6 (t:=4) (x:=.pd [flD X.1,flD X.2] 0) (by simp -implicitDefEqProofs only[go_sem]);have a5:=jY S6 (t:=5) (x:=.pd [intD d] 0) (by simp -implicitDefEqProofs only[go_sem]);simp only[Array.toList_map,List.map_cons,List.map_nil,RepL];exact⟨_,_,rfl,a9,_,_,rfl,a4,_,_,rfl,a5,rfl⟩
 refine k9 (C:={ P:=Tryz.prog,E:=E,σ0:=σ,w0:=w,base:=w.heap.size,n:=25,kb:=0,df:=[] }) 2 (K:=fun s=>Weak s (St.of [(6,.d (.fn 105 [.pd [fsD l] 0,.pd [flD X.1,flD X.2] 0,.pd [intD d] 0])),(7,.d (.v .nilIface))] [])) (by kernel_rfl) (by kernel_rfl) S7 ?_ (fun s' σ' G' a' w' hw S'=>?_)
 ·simp only[List.take_succ_cons,List.take_zero];simp -implicitDefEqProofs only[go_sem];refine we ?_ ?_ rfl<;>simp -implicitDefEqProofs only[go_sem]
 have S8:=S'.weak hw
 show Code.wpIn _ _ _ _ _ _ _
 refine wpIn_ret ?_;have F:=Fin.sound (fn:=Tryz.f69) (r:=.data (.tup [.fn 105 [.pd [fsD l] 0,.pd [flD X.1,flD X.2] 0,.pd [intD d] 0],.v .nilIface])) S8 rfl ?_ rfl hF.inv (fun b u hE=>wT (hF.inv _ _ _ (hF.glob b u hE)))
 ·obtain⟨u,h2,h3⟩:=F;exact⟨S8.dfr,u,h2,u,rfl,h3⟩
 ·show Fin _ [.tmp 6,.tmp 7] _ _
  simp -implicitDefEqProofs only[go_sem];refine wc ?_;simp -implicitDefEqProofs only[go_sem]
theorem zcu (hq:Sent E q)(hl:∀x∈l,x<18446744073709551616)(hlen:l.length<=1152921504606846976){d:Int}(hb:jJ l d≠0)
  {C:Ctx} (hP:C.P=Tryz.prog) (hE:C.E=E) (hn:C.n=25) (hk:C.kb=0) {c:Code} (hcode:Tryz.f69.body=some c) :
  DC C (cutC 4 c).1 (fun e s=>e = .ret/\Weak s (St.of [(6,.d (.v .nilFunc)),(7,.d (errR q (jJ l d)))] [])) (St.init [fsD l,ivD X,intD d]):=by
 have c1:=QI hq hl hlen;have e7:E 7=some (errV (q 7)):=hq.var 7 (by decide);obtain⟨P,E',σ0,w0,base,n,kb,df,G0⟩:=C;simp only at hP hE hn hk;subst hP hE hn hk;simp only[Tryz.f69,Option.some.injEq] at hcode;subst hcode;simp only[cutC];unfold jJ at hb ⊢;by_cases hr:wI l=0
 ·have c2:errR q (wI l) = .v .nilIface:=by unfold errR;rw[if_pos hr]
  rw[c2] at c1;rw[if_pos hr] at hb ⊢;have c3:errR q (if 0<=d/\d<=8 then 0 else 8) = .v (errV (q 7)):=by
   have:¬(0<=d/\d<=8):=fun h=>hb (if_pos h)
   rw[if_neg this];rfl
  rw[c3];by_cases h0:d<0
  ·have q1:=tBd (tD h0);simp -implicitDefEqProofs only[go_sem];refine cI c1 ?_;simp -implicitDefEqProofs only[go_sem,q1];refine drw ?_;simp -implicitDefEqProofs only[go_sem,e7,errV];refine we ?_ ?_ rfl<;>simp -implicitDefEqProofs only[go_sem]
  ·have q1:=tV (fD h0);have h8:d>8:=by
    by_cases h:d>8
    ·exact h
    ·exact absurd (if_pos ⟨by omega,by omega⟩) hb
   have q2:=tBd (tD h8);simp -implicitDefEqProofs only[go_sem];refine cI c1 ?_;simp -implicitDefEqProofs only[go_sem,q1,q2];refine drw ?_;simp -implicitDefEqProofs only[go_sem,e7,errV];refine we ?_ ?_ rfl<;>simp -implicitDefEqProofs only[go_sem]
 ·rw[if_neg hr] at hb ⊢;have c2:errR q (wI l) = .v (errV (q (wI l-1).toNat)):=by unfold errR;rw[if_neg hr]
  rw[c2] at c1 ⊢;simp -implicitDefEqProofs only[go_sem];refine cI c1 ?_;simp -implicitDefEqProofs only[go_sem,errV];refine we ?_ ?_ rfl<;>simp -implicitDefEqProofs only[go_sem]
theorem HU (hq:Sent E q)(hl:∀x∈l,x<18446744073709551616)(hlen:l.length<=1152921504606846976){d:Int}(hb:jJ l d≠0) :
  Hc Tryz.prog E 69 [fsD l,ivD X,intD d] (.tup [.v .nilFunc,errR q (jJ l d)]):=by
 obtain⟨er,her⟩:∃er:Value,errR q (jJ l d) = .v er:=⟨_,by unfold errR;rw[if_neg hb]⟩;refine Kc Tryz.func69 rfl (by kernel_rfl) (fun σ σL w us hF hFL hle hargs=>?_);have S0:=j8 (P:=Tryz.prog) (nt:=Tryz.f69.ntmps) (n:=25) hFL hargs Tryz.ntmps69 (by simp);refine calls_of_wp Tryz.func69 rfl ?_;refine x5 4 _ (by kernel_rfl) S0 (zcu (X:=X) hq hl hlen hb rfl rfl rfl rfl rfl) (fun s' σ' G' a' w' h _=>by cases h.1) (fun e s' σ' G' a' w' _ _ _ h S'=>?_);obtain⟨rfl,hw⟩:=h;rw[her] at hw ⊢;have S1:=(S'.weak hw).forget (τ:=σ) hF hle rfl (fun k o ho=>by simp[of_h,lkh] at ho);rw[St.free_of (by rfl)] at S1;have S8:Stands { P:=Tryz.prog,E:=E,σ0:=σ,w0:=w,base:=w.heap.size,n:=25,kb:=0,df:=[] } _ G' _ a' w':=S1;have F:=Fin.sound (fn:=Tryz.f69) (r:=.data (.tup [.v .nilFunc,.v er])) S8 rfl ?_ rfl hF.inv (fun b u hE=>wT (hF.inv _ _ _ (hF.glob b u hE)))
 ·obtain⟨u,h2,h3⟩:=F;exact⟨S8.dfr,u,h2,u,rfl,h3⟩
 ·show Fin _ [.tmp 6,.tmp 7] _ _
  refine wc ?_;simp -implicitDefEqProofs only[go_sem]
end
end Go.Enc
end
section
namespace Go.Enc
open Go.Proofs Go.Enc.Dg Go.Enc.Nu Go.Enc.Fl Go.RowKit
abbrev sev:Nat:=4619567317775286272
def sevL (l:List Nat)(i:Nat):List Nat:=List.replicate i sev++l.drop i
theorem zba {l:List Nat}{i:Nat}(h:i<=l.length):(sevL l i).length=l.length:=by unfold sevL;simp;omega
theorem zbZ {l:List Nat}{i:Nat}(h:i<l.length):(sevL l i).set i sev=sevL l (i+1):=by
 unfold sevL;obtain⟨x,hx⟩:∃x,l.drop i=x :: l.drop (i+1):=⟨l[i],(List.getElem_cons_drop h).symm⟩;rw[hx,List.set_append_right _ _ (by simp),List.length_replicate,Nat.sub_self,List.set_cons_zero,List.replicate_succ',List.append_assoc];rfl
theorem zfu (l:List Nat)(i x:Nat):(flT l).set i (.d (flD x))=flT (l.set i x):=by simp[flT,List.map_set]
theorem VG (l:List Nat)(d:Int):jJ l d=0\/jJ l d=1\/jJ l d=8:=by
 unfold jJ wI
 repeat' split
 all_goals omega
section
variable {E:Nat->Option Value} {q:Nat->Addr} {l:List Nat} {x:Nat×Nat}
abbrev stL (fv:D)(nn stop:Int):St:=St.of [(7,.ptr 7 0),(8,.d (.v (.slice none 0 0))),(9,.d (.v (.slice none 0 0))),(12,.d fv),(14,.d (intD nn))] [(7,⟨none,[.d (intD stop)]⟩)]
theorem pr_a (hlen:l.length*8<=140737488355328){d stop nn:Int}{X:Nat×Nat}{fv er:D}(cm:DQz E 37 [boxD x] (.data (ivD X)))(cr:Hc Tryz.prog E 69 [fsD l,ivD X,intD d] (.tup [fv,er]))
  (cc:DQz E 32 [er] (.data (.tup [intD nn,.v (.string ⟨#[]⟩)]))) {C:Ctx} (hP:C.P=Tryz.prog) (hE:C.E=E) (hn:C.n=77) (hk:C.kb=0) {c:Code} (hcode:Tryz.f26.body=some c) :
  DC C (cutC 5 c).1 (QW (stL fv nn stop)) (St.init [usD l,boxD x,intD d,intD stop]):=by
 have cf:=H3 E hlen;have hml:(l.map flD).length=l.length:=List.length_map _;obtain⟨P,E',σ0,w0,base,n,kb,df,G0⟩:=C;simp only at hP hE hn hk;subst hP hE hn hk;simp only[Tryz.f26,Option.some.injEq] at hcode;subst hcode;simp only[cutC];simp -implicitDefEqProofs only[go_sem];refine cI cf ?_;simp -implicitDefEqProofs only[go_sem];refine cI cm ?_;simp -implicitDefEqProofs only[go_sem];refine CallP.intro (lend (k:=22) (d:=28) (e:=57) (nn:=true) (rest:=[ivD X,intD d]) (size:=1) (ds:=l.map flD) cr (by simp -implicitDefEqProofs only[go_sem])) ?_;simp -implicitDefEqProofs only[go_sem];refine cI cc ?_;simp -implicitDefEqProofs only[go_sem,List.length_map,div1];have hf:flT l=(l.map flD).map T.d:=by simp[flT]
 rw[wu];refine wm (α:={i:Nat // i<=l.length}) (fun i=>St.of [(7,.ptr 7 0),(8,.d (.v (.slice none 0 0))),(9,.d (.v (.slice none 0 0))),(11,.gs 22),(12,.d fv),(14,.d (intD nn)),(37,.d (intD l.length)),(38,.d (intD i.1))]
  [(7,⟨none,[.d (intD stop)]⟩),(22,⟨some (57,1,true),flT (sevL l i.1)⟩)]) (fun i=>l.length-i.1) ⟨0,Nat.zero_le _⟩ (we ?_ ?_ (by simp[wv,yw,wG,T.ref])) (by kernel_rfl) (fun i=>?_)
 ·have c0:=c0E;simp -implicitDefEqProofs only[go_sem,c0,List.length_map,div1]
 ·have h0:sevL l 0=l:=by simp[sevL]
  simp -implicitDefEqProofs only[go_sem,h0,hf]
 ·obtain⟨i,hi⟩:=i;have hsl:=zba hi;by_cases hA:i<l.length
  ·have eA:decide ((i:Int)<(l.length:Int))=true:=tD (by omega);have w1:=wL (c:=i) (by omega);obtain⟨i',hi'⟩:∃i':{i:Nat // i<=l.length},i'.1=i+1:=⟨⟨i+1,hA⟩,rfl⟩;have hA2:i<(flT (sevL l i)).length:=by rw[KH,hsl];exact hA
   have hset:(flT (sevL l i)).set i (T.d (.v (.float .f64 4619567317775286272)))=flT (sevL l (i+1)):=by rw[<-zbZ hA];exact zfu _ _ _
   simp -implicitDefEqProofs only[go_sem,eA,KH,hsl,div1,hA,hset,w1];refine⟨by omega,i',we ?_ ?_ (by simp[wv,yw,wG,T.ref]),by simp only[hi'];omega⟩<;>simp -implicitDefEqProofs only[go_sem,hi']
  ·have eA:decide ((i:Int)<(l.length:Int))=false:=fD (by omega);simp -implicitDefEqProofs only[go_sem,eA,QW,stL];refine we ?_ ?_ rfl<;>simp -implicitDefEqProofs only[go_sem]
theorem ziI {nn stop:Int}{C:Ctx}(hP:C.P=Tryz.prog)(hn:C.n=77)(hk:C.kb=0){c:Code}(hcode:Tryz.f26.body=some c) :
  DC C (cutC 5 c).2 (Post C [.tmp 8,.tmp 9,.tmp 10] (.data (.tup [.v (.slice none 0 0),.v (.slice none 0 0),intD nn]))) (stL (.v .nilFunc) nn stop):=by
 obtain⟨P,E',σ0,w0,base,n,kb,df,G0⟩:=C;simp only at hP hn hk;subst hP hn hk;simp only[Tryz.f26,Option.some.injEq] at hcode;subst hcode;simp only[cutC];simp only[stL];simp -implicitDefEqProofs only[go_sem];refine wc ?_;simp -implicitDefEqProofs only[go_sem]
theorem ZH {σ:Mem}{u:Value}{n m:Nat}{d:D}(h:Rep σ (.tup [.v (.slice none 0 0),.v (.slice none 0 0),d]) u):Rep σ (.tup [.sl n [],.sl m [],d]) u:=by
 simp only[Rep,RepL] at h ⊢;obtain⟨us,rfl,u1,r1,e1,h1,u2,r2,e2,h2,h3⟩:=h;exact⟨us,rfl,u1,r1,e1,.inl ⟨h1,trivial⟩,u2,r2,e2,.inl ⟨h2,trivial⟩,h3⟩
theorem Hx (hq:Sent E q)(hl:∀x∈l,x<18446744073709551616)(hlen:l.length*8<=140737488355328){X:Nat×Nat}(cm:DQz E 37 [boxD x] (.data (ivD X))){d stop:Int}(hb:jJ l d≠0) :
  DQz E 26 [usD l,boxD x,intD d,intD stop] (.data (.tup [.sl 2 [],.sl 2 [],intD (jJ l d)])):=by
 have cr:=HU (X:=X) hq hl (by omega) hb;have hc:=VG l d;obtain⟨i,hi9,hi⟩:∃i:Nat,i<9/\jJ l d=(i:Int)+1:=by
  rcases hc with h|h|h
  ·exact absurd h hb
  ·exact⟨0,by omega,by omega⟩
  ·exact⟨7,by omega,by omega⟩
 have cc:=qp hq hi9;have he:errR q (jJ l d) = .v (errV (q i)):=by
  unfold errR;rw[if_neg hb,show(jJ l d-1).toNat=i by omega]
 rw[he] at cr;rw[<-hi] at cc;refine DCall.weak (d:=.tup [.v (.slice none 0 0),.v (.slice none 0 0),intD (jJ l d)]) ?_ (fun σ u h=>ZH h);refine Jl Tryz.func26 rfl (by kernel_rfl) Tryz.ntmps26 (by simp) (rs:=[.tmp 8,.tmp 9,.tmp 10]) rfl (fun C hP hE hn hk=>?_);refine xD 5 (by rw[hn];kernel_rfl) (pr_a (stop:=stop) hlen cm cr cc hP hE hn hk rfl) (kM (by rw[hn];kernel_rfl) (ziI hP hn hk rfl))
abbrev stP (lp:List Nat)(X:Nat×Nat)(d:Nat)(stop nn:Int):St:=St.of [(7,.ptr 7 0),(12,.d (fnD lp X d)),(14,.d (intD nn)),(17,.ptr 17 0),(18,.ptr 18 0)] [(7,⟨none,[.d (intD stop)]⟩),(17,⟨none,[.d (.v (.slice none 0 0))]⟩),(18,⟨none,[.d (.v (.slice none 0 0))]⟩)]
theorem zfE {lp:List Nat}{X:Nat×Nat}{d:Nat}{nn stop:Int}{C:Ctx}(hP:C.P=Tryz.prog)(hn:C.n=77)(hk:C.kb=0){c:Code}(hcode:Tryz.f26.body=some c) :
  DC C (cutC 2 (cutC 5 c).2).1 (QW (stP lp X d stop nn)) (stL (fnD lp X d) nn stop):=by
 obtain⟨P,E',σ0,w0,base,n,kb,df,G0⟩:=C;simp only at hP hn hk;subst hP hn hk;simp only[Tryz.f26,Option.some.injEq] at hcode;subst hcode;simp only[cutC];simp only[stL];simp -implicitDefEqProofs only[go_sem];simp only[QW,stP];refine we ?_ ?_ rfl<;>simp -implicitDefEqProofs only[go_sem]
theorem Stands.back {C:Ctx}{σ:Mem}{G:Gh}{s:St}{a:Act}{w:World}(S:Stands C σ G s a w){σE:Mem}{wE:World}(F:Fits C.E σE wE)(hb:C.base=wE.heap.size)(hle:σE.le σ)(hold:∀b o,b<C.base->σ b o=σE b o)(hbel:Below C.base wE w) :
  Stands { C with σ0:=σE,w0:=wE } σ G s a w:=
 {S with
  bas:=Nat.le_of_eq hb
  glob:=F.glob
  tab:=F.tab
  le:=hle
  old:=hold
  gp:=fun g t x h=>⟨by show x.block<C.base;rw[hb];exact(F.gp g t x h).lt,F.gp g t x h⟩
  bel:=hbel
  oth:=⟨hbel.size,fun l o h _=>by
   have hl:l<wE.heap.size:=(Array.getElem?_eq_some_iff.1 h).1;exact(hbel.block l (by rw[hb];exact hl)).trans h⟩ }
section
variable {lp:List Nat} {X:Nat×Nat} {d:Nat} {stop nn:Int} {C:Ctx} {σ:Mem} {G:Gh} {a:Act} {w:World} {ro:Option Nat}
abbrev stQ1 (lp:List Nat)(X:Nat×Nat)(d:Nat)(stop nn:Int):St:=St.of [(7,.ptr 7 0),(12,.d (fnD lp X d)),(14,.d (intD nn)),(17,.ptr 17 0),(18,.ptr 18 0),(48,.d (fnD lp X d))] [(7,⟨none,[.d (intD stop)]⟩),(17,⟨none,[.d (.v (.slice none 0 0))]⟩),(18,⟨none,[.d (.v (.slice none 0 0))]⟩)]
abbrev stQ2 (lp:List Nat)(X:Nat×Nat)(d:Nat)(stop nn:Int)(A:List (Nat×Nat)):St:=St.of [(7,.ptr 7 0),(14,.d (intD nn)),(17,.ptr 17 0),(18,.ptr 18 0),(58,.d (fnD lp X d))]
 [(7,⟨none,[.d (intD stop)]⟩),(17,⟨none,[.gs 54]⟩),(18,⟨none,[.d (.v (.slice none 0 0))]⟩),(54,rowB A)]
abbrev stZ (nn:Int)(A L:List (Nat×Nat)):St:=St.of [(8,.gs 54),(9,.gs 64),(10,.d (intD nn))] [(54,rowB A),(64,rowB L)]
theorem zkj (hP:C.P=Tryz.prog)(hn:C.n=77)(hk:C.kb=0){c x1 y b1:Code}(hcode:Tryz.f26.body=some c)(hx:(cutC 7 c).2 = .seq (.seq x1 (.block 2 b1)) y)(S:Stands C σ G (stP lp X d stop nn) a w) :
  x1.wpIn (Wd ro) 0 C.P (fun e a' w'=>e = .normal/\∃σ' G',Stands C σ' G' (stQ1 lp X d stop nn) a' w') a w:=by
 simp only[Tryz.f26,Option.some.injEq] at hcode;subst hcode;simp only[cutC,Code.seq.injEq,Code.block.injEq,true_and,and_true] at hx;obtain⟨⟨rfl,rfl⟩,rfl⟩:=hx;obtain⟨P,E,σ0,w0,base,n,kb,df,G0⟩:=C;simp only at hP hn hk;subst hP hn hk;refine wpIn_mono (Kz (C:=⟨Tryz.prog,E,σ0,w0,base,77,0,df,G0⟩) (stQ1 lp X d stop nn) (by kernel_rfl) (by kernel_rfl) S ?_) (fun e a' w' ⟨he,σ',G',S',_⟩=>⟨he,σ',G',S'⟩);simp only[List.toList_toArray];simp -implicitDefEqProofs only[go_sem];refine we ?_ ?_ rfl<;>simp -implicitDefEqProofs only[go_sem]
theorem zki {A:List (Nat×Nat)}(hP:C.P=Tryz.prog)(hn:C.n=77)(hk:C.kb=0){c x y z b1:Code}(hcode:Tryz.f26.body=some c)(hx:(cutC 7 c).2 = .seq x (.seq (.seq y (.block 4 b1)) z))(S:Stands C σ G (st1 lp X d stop nn A) a w) :
  y.wpIn (Wd ro) 0 C.P (fun e a' w'=>e = .normal/\∃σ' G',Stands C σ' G' (stQ2 lp X d stop nn A) a' w') a w:=by
 simp only[Tryz.f26,Option.some.injEq] at hcode;subst hcode;simp only[cutC,Code.seq.injEq,Code.block.injEq,true_and,and_true] at hx;obtain⟨rfl,⟨rfl,rfl⟩,rfl⟩:=hx;obtain⟨P,E,σ0,w0,base,n,kb,df,G0⟩:=C;simp only at hP hn hk;subst hP hn hk;refine wpIn_mono (Kz (C:=⟨Tryz.prog,E,σ0,w0,base,77,0,df,G0⟩) (stQ2 lp X d stop nn A) (by kernel_rfl) (by kernel_rfl) S ?_) (fun e a' w' ⟨he,σ',G',S',_⟩=>⟨he,σ',G',S'⟩);simp only[List.toList_toArray];simp -implicitDefEqProofs only[go_sem];refine we ?_ ?_ (by simp[wv,wV,wG,T.ref])<;>simp -implicitDefEqProofs only[go_sem]
theorem pr_z {A L:List (Nat×Nat)}(hP:C.P=Tryz.prog)(hn:C.n=77)(hk:C.kb=0){c x y z:Code}(hcode:Tryz.f26.body=some c)(hx:(cutC 7 c).2 = .seq x (.seq y z))(S:Stands C σ G (st2 lp X d stop nn A L) a w) :
  z.wpIn (Wd ro) 0 C.P (fun e a' w'=>e = .ret/\∃σ' G',Stands C σ' G' (stZ nn A L) a' w') a w:=by
 simp only[Tryz.f26,Option.some.injEq] at hcode;subst hcode;simp only[cutC,Code.seq.injEq,true_and,and_true] at hx;obtain⟨rfl,rfl,rfl⟩:=hx;obtain⟨P,E,σ0,w0,base,n,kb,df,G0⟩:=C;simp only at hP hn hk;subst hP hn hk;refine Zk (C:=⟨Tryz.prog,E,σ0,w0,base,77,0,df,G0⟩) (stZ nn A L) (by kernel_rfl) (by kernel_rfl) (by kernel_rfl) (by kernel_rfl) S ?_ (fun σ1 G1 a1 w1 S1 h1=>wpIn_ret ⟨rfl,σ1,G1,S1⟩);simp only[List.toList_toArray];simp -implicitDefEqProofs only[go_sem];refine we ?_ ?_ (by simp[wv,wV,wG,T.ref])<;>simp -implicitDefEqProofs only[go_sem]
end
theorem zao (k:Nat)(o:Obj)(ds:List D)(L:List (Nat×Nat)):List.map (jM k o ds) (boxT L)=boxT L:=by
 rw[Q5,List.map_map];rfl
def cutS (stop:Int)(A:List (Nat×Nat)):List (Nat×Nat):=if 0<stop/\stop<A.length then A.take stop.toNat else A
theorem zgI {stop:Int}{A L:List (Nat×Nat)}(h:goS stop L/\L=A\/spS stop L/\L <+: A):L=cutS stop A:=by
 unfold cutS;rcases h with⟨hg,rfl⟩|⟨⟨h1,h2⟩,hp⟩
 ·rw[if_neg];rcases hg with h|h<;>omega
 ·have hl:=hp.length_le;have ht:=List.prefix_iff_eq_take.1 hp;have e:stop.toNat=L.length:=by omega
  split
  ·rw[e];exact ht
  ·rename_i hn;have:L.length=A.length:=by omega
   exact hp.eq_of_length this
set_option maxHeartbeats 1000000 in
theorem Z9 (hq:Sent E q)(hl:∀x∈l,x<18446744073709551616)(hlen:l.length*8<=140737488355328){X:Nat×Nat}(g:Gd X)(cm:DQz E 37 [boxD x] (.data (ivD X))){dr:Nat×Nat->Bool}(hD:DrOk E l dr)(hr:wI l=0){d:Nat}(hd:d<=8)(stop:Int) :
  DQz E 26 [usD l,boxD x,intD d,intD stop] (.data (.tup [.sl 2 (boxC (pcs dr d X)),.sl 2 (boxC (cutS stop (pcs dr d X))),intD 0])):=by
 have cr:=YB (X:=X) hq hl (by omega) hr (d:=(d:Int)) (by omega) (by omega);have cc:=jE E;obtain⟨c,hc⟩:∃c,Tryz.f26.body=some c:=⟨_,rfl⟩;have hfit:jG 77 c=true:=by
  have h:(Tryz.f26.body.map (jG 77))=some true:=by kernel_rfl
  rw[hc] at h;simpa using h
 obtain⟨r1,a1,b1,r2,a2,b2,z,hx,hcut⟩:∃r1 a1 b1 r2 a2 b2 z,(cutC 7 c).2 = .seq (.seq r1 (.block 2 (.rangeFunc (.tmp 48) #[49] a1 b1))) (.seq (.seq r2 (.block 4 (.rangeFunc (.tmp 58) #[59] a2 b2))) z)/\(cutC 2 (cutC 5 c).2).2=(cutC 7 c).2:=by
  have h:=hc;simp only[Tryz.f26,Option.some.injEq] at h;subst h;exact⟨_,_,_,_,_,_,_,rfl,rfl⟩
 refine yD Tryz.func26 hc (by kernel_rfl) (fun σ w us hF hargs=>?_);have S0:=j8 (P:=Tryz.prog) (nt:=Tryz.f26.ntmps) (n:=77) hF hargs Tryz.ntmps26 (by simp);obtain⟨C0,hC0⟩:∃C:Ctx,C={ P:=Tryz.prog,E:=E,σ0:=σ,w0:=w,base:=w.heap.size,n:=77,kb:=0,df:=[] }:=⟨_,rfl⟩;rw[<-hC0] at S0;have p1:C0.P=Tryz.prog:=by rw[hC0]
 have p2:C0.E=E:=by rw[hC0]
 have p3:C0.n=77:=by rw[hC0]
 have p4:C0.kb=0:=by rw[hC0]
 have p5:C0.df=[]:=by rw[hC0]
 have p6:C0.base=w.heap.size:=by rw[hC0]
 have p7:C0.σ0=σ:=by rw[hC0]
 have p8:C0.w0=w:=by rw[hC0]
 refine zdp (ro:=none) (n:=0) (callsIn_of_wp_marks (F:=Wd none) Tryz.func26 hc trivial ?_);refine(wpIn_wide (n:=0)).2 ?_;rw[<-p1];refine x5 (C:=C0) 5 c (by rw[p3];exact hfit) S0 (pr_a (stop:=stop) hlen cm cr cc p1 p2 p3 p4 hc) (fun s1 σ1 G1 w1a w1 hw1 S1=>?_) qv;refine x5 (C:=C0) 2 (cutC 5 c).2 (YK 5 c (by rw[p3];exact hfit)) (S1.weak hw1) (zfE (lp:=l) (X:=X) (d:=d) p1 p3 p4 hc) (fun s2 σ2 G2 ac2 w2 hw2 S2=>?_) qv;rw[hcut,hx];refine(wpIn_wide (n:=0)).1 ?_
 show Code.wpIn (Wd none) 0 _ _ _ _ _
 refine wpIn_seq (wpIn_seq ?_);refine wpIn_mono (zkj (ro:=none) p1 p3 p4 hc hx (S2.weak hw2)) ?_;rintro e ac3 w3 ⟨rfl,σ3,G3,S3⟩;obtain⟨G4,S4⟩:=S3.nilCell (k:=17) (i:=0) (k2:=54) (cells:=[.d (.v (.slice none 0 0))]) rfl rfl rfl 32 2 (hkb:=by show C0.kb<=_;rw[p4];exact Nat.zero_le _);have S5:=S4.weak (s':=st1 l X d stop 0 []) (by
  refine we ?_ ?_ rfl
  ·simp -implicitDefEqProofs only[go_sem,St.new,upd]
  ·simp -implicitDefEqProofs only[go_sem,St.new,upd,rowB,boxT,List.flatMap_nil])
 have S5:Stands { C0 with df:=ac3.defers } σ3 G4 (st1 l X d stop 0 []) ac3 w3:=by rw[S5.dfr];exact S5
 show(Code.block 2 _).wpIn (Wd none) 0 _ _ _ _
 refine U5 (C:=C0) (wE:=w) (σE:=σ) (Ds:=[]) (st:=st1 l X d stop 0) p1 (zcc p1 p3 p4 hc hx) (by rw[p2];exact hD) hd g S5.siz S5 trivial rfl (fun _ h=>by cases h) ?_ ?_ ?_ (fun L σ6 G6 w6 D1 hD1 hL S6 hK1 _ hB6 hO6 hle6=>?_)
 ·have:=S5.bel;rw[p8] at this;exact this
 ·have:=S5.old;rw[p7] at this;exact this
 ·have:=S5.le;rw[p7] at this;exact this
 have hA:L=pcs dr d X:=by
  rcases hL with⟨_,h⟩|⟨h,_⟩
  ·exact h
  ·exact h.elim
 show(Code.seq (.seq r2 (.block 4 (.rangeFunc (.tmp 58) #[59] a2 b2))) z).wpIn (Wd none) 0 _ _ _ _
 have hd0:ac3.defers=[]:=S5.dfr.trans (S3.dfr.trans p5);rw[hd0] at S6 ⊢;refine wpIn_seq (wpIn_seq ?_);refine wpIn_mono (zki (ro:=none) (C:={ C0 with σ0:=σ6,w0:=w6,df:=[{ target:=.collected D1,args:=#[] }] }) p1 p3 p4 hc hx S6) ?_;rintro e ac7 w7 ⟨rfl,σ7,G7,S7⟩;obtain⟨G8,S8⟩:=S7.nilCell (k:=18) (i:=0) (k2:=64) (cells:=[.d (.v (.slice none 0 0))]) rfl rfl rfl 32 2 (hkb:=by show C0.kb<=_;rw[p4];exact Nat.zero_le _);have S9:=S8.weak (s':=st2 l X d stop 0 L []) (by
  refine we ?_ ?_ (by simp[wv,wV,wG,T.ref])
  ·simp -implicitDefEqProofs only[go_sem,St.new,upd]
  ·simp -implicitDefEqProofs only[go_sem,St.new,upd,rowB];simp only[boxT,List.flatMap_nil])
 have hd7:ac7.defers=[{ target:=.collected D1,args:=#[] }]:=S7.dfr;have S9:Stands { C0 with σ0:=σ6,w0:=w6,df:=ac7.defers } σ7 G8 (st2 l X d stop 0 L []) ac7 w7:=by rw[hd7];exact S9
 show(Code.block 4 _).wpIn (Wd none) 0 _ _ _ _
 have hK7:w7.heap[D1]?=some (.deferred (some [])):=S7.oth.same D1 _ hK1 rfl;refine U5 (C:={ C0 with σ0:=σ6,w0:=w6,df:=[{ target:=.collected D1,args:=#[] }] }) (wE:=w) (σE:=σ) (Ds:=[D1]) (st:=st2 l X d stop 0 L) p1 (zcb (C:={ C0 with σ0:=σ6,w0:=w6,df:=[{ target:=.collected D1,args:=#[] }] }) p1 p3 p4 hc hx) (by show DrOk C0.E l _;rw[p2];exact hD) hd g S9.siz S9 ?_ rfl (fun D hD=>by simp only[List.mem_cons,List.not_mem_nil,or_false] at hD;subst hD;exact hK7) ?_ ?_ ?_ (fun L2 σ10 G10 w10 D2 hD2 hL2 S10 hK2 hKs hB10 hO10 hle10=>?_)
 ·by_cases h:stop<=0
  ·exact .inl h
  ·exact .inr (by simp only[List.length_nil];omega)
 ·exact hB6.trans S9.bel
 ·intro b o hb;exact(S9.old b o hb).trans (hO6 b o hb)
 ·exact Mem.le_trans hle6 S9.le
 have hS:=zgI hL2
 show z.wpIn (Wd none) 0 _ _ _ _
 rw[hd7] at S10 ⊢;refine wpIn_mono (pr_z (ro:=none) (C:={ C0 with σ0:=σ10,w0:=w10,df:=[{ target:=.collected D2,args:=#[] },{ target:=.collected D1,args:=#[] }] }) p1 p3 p4 hc hx S10) ?_;rintro e ac11 w11 ⟨rfl,σ11,G11,S11⟩;have hne:D1≠D2:=by
  have:=(Array.getElem?_eq_some_iff.1 hK7).1;omega
 have g2:w11.heap[D2]?=some (.deferred (some [])):=S11.oth.same D2 _ hK2 rfl;have g1:w11.heap[D1]?=some (.deferred (some [])):=S11.oth.same D1 _ (hKs D1 (by simp)) rfl;have g1':(w11.putObj D2 (.deferred none)).heap[D1]?=some (.deferred (some [])):=(World.putObj_heap_other hne).trans g1;have hb1:C0.base<=D1:=by rw[hD1];exact S3.size
 have hb2:C0.base<=D2:=by rw[hD2];exact S7.size
 have S12:=S11.putObj (o':=.deferred none) g2 rfl;have S13:=S12.putObj (o':=.deferred none) g1' rfl;have hB11:Below C0.base w w11:=hB10.trans S11.bel;have hB13:Below C0.base w ((w11.putObj D2 (.deferred none)).putObj D1 (.deferred none)):=(hB11.trans (qG hb2 S11.size)).trans (qG hb1 S12.size);have S14:=S13.back (σE:=σ) (wE:=w) (by show Fits C0.E σ w;rw[p2];exact hF) p6 (Mem.le_trans hle10 S11.le) (fun b o hb=>(S11.old b o hb).trans (hO10 b o hb)) hB13;have hdd:ac11.defers=[{ target:=.collected D2,args:=#[] },{ target:=.collected D1,args:=#[] }]:=S11.dfr
 show LeavesInM _ _ _ _ _ _ ac11.defers .returning w11
 rw[hdd];refine⟨by simp,.inl ⟨D2,_,rfl,run_takeDeferred g2,by simp,.inl ⟨D1,_,rfl,run_takeDeferred g1',?_⟩⟩⟩;have F:=Fin.sound (P:=C0.P) (fn:=Tryz.f26) (r:=.data (.tup [.sl 2 (boxC (pcs dr d X)),.sl 2 (boxC (cutS stop (pcs dr d X))),intD 0])) S14 rfl ?_ p6 hF.inv (fun b u hE=>by
  have hE:E b=some u:=by rw[<-p2];exact hE
  show b<C0.base
  rw[p6];exact wT (hF.inv _ _ _ (hF.glob b u hE)))
 ·obtain⟨u,h2,h3⟩:=F;exact⟨u,h2,u,rfl,h3⟩
 ·rw[<-hS,<-hA]
  show Fin _ [.tmp 8,.tmp 9,.tmp 10] _ _
  refine wc ?_;simp -implicitDefEqProofs only[go_sem,xL,zao]
end
end Go.Enc
end
