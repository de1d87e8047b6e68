/-
  Make: the program's by its contract; it answers as the document's.
-/
import Derived.Test.YtjlibljfpkmpfaaGreatDoorSa11
import Derived.Test.YtjlibljfpkmpfaaGreatDoorSa13
import Derived.Test.YtjlibljfpkmpfaaGreatDoorSa09
import Derived.Test.YtjlibljfpkmpfaaGreatDoorRows
import Derived.Stop.LaidErr
import Derived.LaidHandle
import Derived.ProofKit
set_option maxRecDepth 100000
set_option linter.unusedSimpArgs false
set_option linter.unusedVariables false
section
namespace Go.Enc
open Go.Proofs Go.Enc.Fl Go.Enc.Dg Go.Enc.Nu
theorem kB {b:Nat}(h:b<18446744073709551616):posB b<18446744073709551616:=by unfold posB;split<;>omega
theorem km (b:Nat):posB (posB b)=posB b:=by
 unfold posB;split
 ·simp
 ·rfl
theorem vB {b:Nat}(h:b<18446744073709551616):(nplain b).2=wg b:=by
 unfold nplain wg;simp only;have e:b % 2^63=b/4503599627370496 % 2048*4503599627370496+b % 4503599627370496:=by omega
 have h1:b/4503599627370496 % 2048<2048:=Nat.mod_lt _ (by decide);have h2:b % 4503599627370496<4503599627370496:=Nat.mod_lt _ (by decide);generalize b % 2^63=r at *;generalize b/4503599627370496 % 2048=x at *;generalize b % 4503599627370496=f at *;split
 ·symm;apply decide_eq_true;omega
 ·split
  ·symm;apply decide_eq_false;omega
  ·symm;apply decide_eq_true;omega
theorem kX {b:Nat}(h:b<18446744073709551616)(hp:wg b=true):val (nplain b).1=v (idx b):=by
 have hp':=vB h;rw[hp] at hp';by_cases hz:(nplain b).1=nzero
 ·have h0:b % 2^63=0:=by
   unfold nplain at hz hp';simp only at hz hp';have e:b % 2^63=b/4503599627370496 % 2048*4503599627370496+b % 4503599627370496:=by omega
   generalize b % 2^63=r at *;generalize b/4503599627370496 % 2048=x at *;generalize b % 4503599627370496=f at *;split at hz
   ·omega
   ·rename_i h1;rw[if_neg h1] at hp';split at hz
    ·rename_i h2;rw[if_pos h2] at hp';cases hp'
    ·exact absurd (congrArg Nm.n hz) (by show f+4503599627370496≠0;omega)
  rw[hz,jm (a:=nzero) rfl,(xf (b:=b)).2 h0,wC]
 ·obtain⟨p1,p2,p3,p4,p5⟩:=qf hz;have e:b % 2^63=(b/4503599627370496 % 2048-1)*2^52+(b % 4503599627370496+4503599627370496):=by omega
  have hs:(decide (b/9223372036854775808=1))=decide (b/2^63 % 2=1):=by congr 1;rw[eq_iff_iff];omega
  rw[p2];have h2:b % 4503599627370496<4503599627370496:=Nat.mod_lt _ (by decide);generalize b/4503599627370496 % 2048=x at *;generalize b % 4503599627370496=f at *;have hv:v ((b % 2^63:Nat):Int)=((f+4503599627370496:Nat):Rat)*2^((x:Int)-1075):=by
   rw[e,vc,V_of _ _ (by omega) (.inr (by omega))];unfold u;rw[jo];congr 2;omega
  unfold val idx;simp only[hs];by_cases hn:b/2^63 % 2=1
  ·rw[if_pos hn,wQ,hv];simp only[decide_eq_true hn,if_true];grind
  ·rw[if_neg hn,hv];simp only[decide_eq_false hn,Bool.false_eq_true,if_false]
theorem QD {a b:Nat}(ha:a<18446744073709551616)(hb:b<18446744073709551616)(pa:wg a=true)(pb:wg b=true):nless (nplain a).1 (nplain b).1=decide (idx a<idx b):=by
 rw[jP,kX ha pa,kX hb pb];congr 1;rw[eq_iff_iff,jf]
theorem jr {b:Nat}(h:wg b=true):Fl.Fin b:=by
 have:=of_decide_eq_true h;unfold Fl.Fin inf;omega
theorem add0:Ieee.double.add 0 0=some 0/\Ieee.double.add 9223372036854775808 0=some 0:=by decide +kernel
theorem zB {b:Nat}(h:b<18446744073709551616)(hp:wg b=true):FloatKind.f64.format.add b 0=some (posB b):=by
 show Ieee.double.add b 0=some (posB b)
 by_cases h0:b % 2^63=0
 ·have:b=0\/b=9223372036854775808:=by omega
  rcases this with rfl|rfl
  ·exact add0.1
  ·exact add0.2
 ·have hf:=jr hp;obtain⟨r,hr,hN⟩:=vS hf (show Fl.Fin 0 by decide);rw[hr];have hpos:posB b=b:=by unfold posB;rw[if_neg (by omega)]
  rw[hpos];congr 1;obtain⟨⟨i,hi,hc⟩,hlt,_⟩:=hN;have e0:v (idx b)+v (idx 0)=v (idx b):=by
   rw[show idx 0=0 by decide,wC];grind
  rw[e0] at hi;have hi':=hi.exact;have hff:=kd.1 hf;rw[hi',Jo (by omega) (by omega)] at hc;unfold idx at hc;split at hc<;>split at hc<;>omega
theorem qi {lo hi:Nat}(h1:lo<18446744073709551616)(h2:hi<18446744073709551616) :
  ((wg lo=false\/wg hi=false)->vG lo hi=((0,0),1))/\(¬(wg lo=false\/wg hi=false)->(idx hi<idx lo->vG lo hi=((0,0),2))/\(¬idx hi<idx lo->vG lo hi=((posB lo,posB hi),0))):=by
 have e1:=vB h1;have e2:=vB h2;unfold vG Yt;rw[e1,e2];refine⟨fun h=>if_pos h,fun h=>?_⟩;rw[if_neg h];have e3:=QD h2 h1 (by cases hx:wg hi;exact absurd (.inr hx) h;rfl) (by cases hx:wg lo;exact absurd (.inl hx) h;rfl);rw[e3];exact⟨fun h=>if_pos (decide_eq_true h),fun h=>if_neg (by simp[h])⟩
abbrev eD (q:Nat->Addr)(i:Nat):D:=.v (errV (q i))
abbrev ivD (x:Nat×Nat):D:=.agg [flD x.1,flD x.2]
attribute [go_sem] ivD flD u64D
def Ys (q:Nat->Addr)(lo hi:Nat):D:=
 if wg lo=false\/wg hi=false then .tup [ivD (0,0),eD q 0] else if idx hi<idx lo then .tup [ivD (0,0),eD q 1] else .tup [ivD (posB lo,posB hi),.v .nilIface]
theorem Zb {E:Nat->Option Value}{q:Nat->Addr}(hq:Sent E q){lo hi:Nat}(h1:lo<18446744073709551616)(h2:hi<18446744073709551616):DQz E 30 [flD lo,flD hi] (.data (Ys q lo hi)):=by
 unfold Ys;refine dcA Tryz.func30 Tryz.ntmps30 (rs:=[.cell 4 59,.tmp 5]) fun _ _ _ _ _=>?_
 have p1:=yU E h1;have p2:=yU E h2;have e0:E 0=some (errV (q 0)):=hq.var 0 (by decide);have e1:E 1=some (errV (q 1)):=hq.var 1 (by decide);simp -implicitDefEqProofs only[go_sem];refine cI p1 ?_;cases hx:wg lo
 ·simp -implicitDefEqProofs only[go_sem,wM];refine drw ?_;simp -implicitDefEqProofs only[go_sem,e0,errV,true_or];refine wc ?_;simp -implicitDefEqProofs only[go_sem,errV]
 ·simp -implicitDefEqProofs only[go_sem,wM];refine cI p2 ?_;cases hy:wg hi
  ·simp -implicitDefEqProofs only[go_sem,wM];refine drw ?_;simp -implicitDefEqProofs only[go_sem,e0,errV,or_true];refine wc ?_;simp -implicitDefEqProofs only[go_sem,errV]
  ·have hg:(FloatKind.f64.format.order lo hi==some Ordering.gt)=decide (idx hi<idx lo):=xQ (jr hx).num (jr hy).num;have a1:=zB h1 hx;have a2:=zB h2 hy;simp -implicitDefEqProofs only[go_sem,wM,hg,or_self,if_false];refine wN (fun h=>?_) (fun h=>?_)
   ·have h':=of_decide_eq_true h;simp -implicitDefEqProofs only[go_sem];refine drw ?_;simp -implicitDefEqProofs only[go_sem,e1,errV];rw[if_pos h'];refine wc ?_;simp -implicitDefEqProofs only[go_sem,errV]
   ·have h':=of_decide_eq_false h;simp -implicitDefEqProofs only[go_sem,a1,a2];rw[if_neg h'];refine wc ?_;simp -implicitDefEqProofs only[go_sem]
theorem lo_c (E:Nat->Option Value)(x:Nat×Nat):DQz E 82 [ivD x] (.data (flD x.1)):=by
 refine dcA Tryz.func82 Tryz.ntmps82 (rs:=[.tmp 2]) fun _ _ _ _ _=>?_
 simp -implicitDefEqProofs only[go_sem,finK]
theorem hi_c (E:Nat->Option Value)(x:Nat×Nat):DQz E 83 [ivD x] (.data (flD x.2)):=by
 refine dcA Tryz.func83 Tryz.ntmps83 (rs:=[.tmp 2]) fun _ _ _ _ _=>?_
 simp -implicitDefEqProofs only[go_sem,finK]
theorem jN (E:Nat->Option Value)(x:Nat×Nat):DQz E 33 [ivD x] (.data (boxD x)):=by
 refine dcA Tryz.func33 Tryz.ntmps33 (rs:=[.cell 2 32]) fun _ _ _ _ _=>?_
 simp -implicitDefEqProofs only[go_sem];refine drw ?_;simp -implicitDefEqProofs only[go_sem];refine cI (lo_c _ x) ?_;simp -implicitDefEqProofs only[go_sem];refine cI (x7 _ x.1) ?_;simp -implicitDefEqProofs only[go_sem];refine cI (hi_c _ x) ?_;simp -implicitDefEqProofs only[go_sem];refine cI (x7 _ x.2) ?_;simp -implicitDefEqProofs only[go_sem]
end Go.Enc
end
section
namespace Go.Enc
open Go.RowKit Go.ChangeShapes Go.WideShapes Go.Proofs
section
variable {P:Program} {W:World} {nm:String} {ti tp te ts:TypeId} {ms:Array (String×TypeId)} {f:Field}
theorem ZO (hi:P.underlying ti=some (.interface ms))(hrow:∀u,P.typeName? 3 u=some nm->u=tp)
  (hp:P.underlying tp=some (.pointer te)) (he:P.underlying te=some (.struct #[f])) (hft:f.type=ts) (hfo:f.offset=0) (hs:P.underlying ts=some .string) (hc:P.cellsOf te=1) (hcs:P.cellsOf ts=1)
  {ps0:List MemPlace} (hrows:∀b off,MemPlace.cell b off∈ps0->(∃c t,W.heap[b]?=some (.cells c t (0,0)))/\∀u v,W.cell? ⟨b,off,none⟩=some (.iface u v)->Value.okWide P W .any 0 u v) :
  ∀(l:List (Nat×String×List UInt8)) (ps:List MemPlace),(∀x∈l,P.globalNamed x.2.1=some x.1/\(P.globals[x.1]?).map (·.type)=some ti) ->
   DataW.LaidVars P W (l.map fun x=>(x.2.1,.iface nm (.ptr (.agg [.lit (.string x.2.2)])))) ps->ps.Sublist ps0 ->
   ∃ads:List Addr,ads.length=l.length/\(ads.map fun a=>MemPlace.cell a.block a.off).Sublist ps /\
    ∀(i:Nat) x a,l[i]?=some x->ads[i]?=some a->W.cell? ⟨x.1,0,none⟩=some (.iface tp (.pointer (some a)))/\∃c t,W.heap[a.block]?=some (.cells c t (0,0))
 |[],ps,_,h,_=>⟨[],rfl,List.nil_sublist _,fun i x a h1 h2=>by simp at h1⟩
 |x :: l,ps,hg,h,hsub=>by
  obtain⟨g0,t0,cs0,f0,p0,q0,hg0,ht0,hv0,hd0,hr,e0⟩:=h;obtain⟨h1,h2⟩:=hg x (by simp);obtain rfl:=Option.some.inj (h1.symm.trans hg0);obtain rfl:=Option.some.inj (h2.symm.trans ht0);obtain⟨l0⟩:=cs0;have hmem:∀z∈ps,z∈ps0:=fun z hz=>hsub.subset hz
  have ok0:∀u v,l0=[.iface u v]->Value.okWide P W .any 0 u v:=fun u v e=>by
   subst e;exact(hrows x.1 0 (hmem _ (by rw[e0];simp[MemPlace.row]))).2 u v (by simpa using World.var?_cell hg0 hv0 0)
  obtain⟨a0,s0,rfl,hc0,hs0,hz0,rfl⟩:=errorString_of_trod hi hrow hp he hft hfo hs hc hcs hd0 ok0;obtain⟨ads,k1,k2,k3⟩:=ZO hi hrow hp he hft hfo hs hc hcs hrows l q0 (fun y hy=>hg y (by simp[hy])) hr ((by rw[e0];exact List.sublist_append_right _ _:q0.Sublist ps).trans hsub);refine⟨a0 :: ads,by simp[k1],?_,fun i y a h3 h4=>?_⟩
  ·rw[e0];have:MemPlace.row a0 1=[MemPlace.cell a0.block a0.off]:=by simp[MemPlace.row]
   rw[this,List.append_assoc];refine List.Sublist.trans ?_ (List.sublist_append_right _ _);exact(k2.cons_cons _)
  ·cases i with
   |zero=>
    simp only[List.getElem?_cons_zero,Option.some.injEq] at h3 h4;subst h3 h4;exact⟨by simpa using World.var?_cell hg0 hv0 0,(hrows a0.block a0.off (hmem _ (by rw[e0];simp[MemPlace.row]))).1⟩
   |succ i=>exact k3 i y a (by simpa using h3) (by simpa using h4)
end
def glb (q:Nat->Addr)(more:Nat->Option Value)(g:Nat):Option Value:=if g<9 then some (errV (q g)) else if g=11 then some (.iface 199 (.agg #[.pointer (some ⟨12,61,none⟩)])) else more g
theorem star : "*" ++ "errors.errorString" = "*errors.errorString" := by decide
theorem zht (u:TypeId)(h:Tryz.prog.typeName? 3 u=some "*errors.errorString"):u=213:=
 typeName_ptr_named (nm := "errors.errorString") (by rw[star];kernel_rfl) (by kernel_rfl) (by decide) u (by rw[star];exact h)
theorem zfz:Tryz.prog.globalNamed "errors.errorType" = some 11:=by kernel_rfl
theorem rtRow:(Tryz.prog.cutTypes.find? (·.1 == "internal/reflectlite.rtype")).map (·.2)=some 199:=by kernel_rfl
theorem ziS:((List.range 247).filter fun t=>Tryz.prog.rowNamed t [101,114,114,111,114])=[61]:=by kernel_rfl
theorem RQ:Tryz.prog.types.size=247:=by kernel_rfl
theorem YH {W:World}{d:DataW Unit}(hd1:d.funcsIn?=none)(hd2:d.handleName?=some [101,114,114,111,114]){l:List (String×DataW Unit)}(h:handlesMet Tryz.prog l W)(hm:("errors.errorType",d)∈l) :
  W.cell? ⟨11,0,none⟩=some (.iface 199 (.agg #[.pointer (some ⟨12,61,none⟩)])):=by
 have h0:=h _ hm;simp only[hd1] at h0;obtain⟨name,u,ty,e1,e2,e3,e4,e5⟩:=h0;have en:name=[101,114,114,111,114]:=(Option.some.inj (hd2.symm.trans e1)).symm;subst en;obtain rfl:=Option.some.inj (rtRow.symm.trans e2);have hm:ty∈(List.range 247).filter fun t=>Tryz.prog.rowNamed t [101,114,114,111,114]:=List.mem_filter.2 ⟨List.mem_range.2 (by rw[<-RQ];exact e3),e4⟩
 rw[ziS] at hm;obtain rfl:=List.mem_singleton.1 hm;have hh:typeHandle Tryz.prog 61 = .pointer (some ⟨12,61,none⟩):=by kernel_rfl
 rw[hh] at e5
 simpa using World.var?_cell zfz e5 0
def nine:List (Nat×String×List UInt8):=[(0,"enclose/enclose.ErrFloat",[110,111,32,112,108,97,105,110,32,102,108,111,97,116]),(1,"enclose/enclose.ErrOrder",[101,110,100,115,32,105,110,32,116,104,101,32,119,114,111,110,103,32,111,114,100,101,114]),(2,"enclose/enclose.ErrRange",[111,117,116,32,111,102,32,114,97,110,103,101]),(3,"enclose/enclose.ErrZero",[100,105,118,105,115,105,111,110,32,98,121,32,119,104,97,116,32,104,111,108,100,115,32,48]),(4,"enclose/enclose.ErrNegative",[114,111,111,116,32,111,102,32,119,104,97,116,32,105,115,32,98,101,108,111,119,32,48]),(5,"enclose/enclose.ErrEmpty",[110,111,116,104,105,110,103,32,105,110,32,99,111,109,109,111,110]),(6,"enclose/enclose.ErrName",[110,111,32,115,117,99,104,32,111,112,101,114,97,116,105,111,110]),(7,"enclose/enclose.ErrShape",[119,114,111,110,103,32,115,104,97,112,101]),(8,"enclose/enclose.ErrSure",[110,111,116,32,115,117,114,101,32,111,102,32,97,110,32,97,110,115,119,101,114])]
theorem zfP:∀x∈nine,Tryz.prog.globalNamed x.2.1=some x.1/\(Tryz.prog.globals[x.1]?).map (·.type)=some 61:=by
 intro x hx;simp only[nine,List.mem_cons,List.not_mem_nil,or_false] at hx;rcases hx with rfl|rfl|rfl|rfl|rfl|rfl|rfl|rfl|rfl<;>exact⟨by kernel_rfl,by kernel_rfl⟩
def Ym:List (String×DataW Unit):=nine.map fun x=>(x.2.1,.iface "*errors.errorString" (.ptr (.agg [.lit (.string x.2.2)])))
theorem VB {W:World}(h:laidMet Tryz.prog Ym W) :
  ∃q:Nat->Addr,(∀g,g<9->W.cell? ⟨g,0,none⟩=some (errV (q g))/\Hard W (q g).block)/\∀i j,i<9->j<9->q i=q j->i=j:=by
 obtain⟨ps,hv,hnd,hrows⟩:=h;obtain⟨ads,k1,k2,k3⟩:=ZO Tryz.underlying61 zht Tryz.underlying213 Tryz.underlying235 rfl rfl Tryz.underlying9 (by kernel_rfl) (by kernel_rfl) hrows nine ps zfP hv (List.Sublist.refl _);have hn:=List.Nodup.sublist k2 hnd;have hl:ads.length=9:=k1;refine⟨fun i=>ads.getD i ⟨0,0,none⟩,fun g hg=>?_,fun i j hi hj e=>?_⟩
 ·have h1:ads[g]?=some (ads.getD g ⟨0,0,none⟩):=by rw[List.getD_eq_getElem?_getD,List.getElem?_eq_getElem (by omega)];rfl
  have h2:∃x,nine[g]?=some x/\x.1=g:=by
   have:g=0\/g=1\/g=2\/g=3\/g=4\/g=5\/g=6\/g=7\/g=8:=by omega
   rcases this with rfl|rfl|rfl|rfl|rfl|rfl|rfl|rfl|rfl<;>exact⟨_,rfl,rfl⟩
  obtain⟨x,h2,h3⟩:=h2;obtain⟨c1,c2⟩:=k3 g x _ h2 h1;rw[h3] at c1;exact⟨c1,c2⟩
 ·have h1:ads.getD i ⟨0,0,none⟩=ads[i]'(by omega):=by rw[List.getD_eq_getElem?_getD,List.getElem?_eq_getElem (by omega)];rfl
  have h2:ads.getD j ⟨0,0,none⟩=ads[j]'(by omega):=by rw[List.getD_eq_getElem?_getD,List.getElem?_eq_getElem (by omega)];rfl
  simp only[h1,h2] at e;have hp:=List.pairwise_iff_getElem.1 hn;rcases Nat.lt_trichotomy i j with hij|hij|hij
  ·exact(hp i j (by simp;omega) (by simp;omega) hij (by simp[e])).elim
  ·exact hij
  ·exact(hp j i (by simp;omega) (by simp;omega) hij (by simp[e])).elim
theorem zfv {W:World}{q:Nat->Addr}{more:Nat->Option Value}(hq:∀g,g<9->W.cell? ⟨g,0,none⟩=some (errV (q g))/\Hard W (q g).block)
  (hm:∀g u,more g=some u->W.cell? ⟨g,0,none⟩=some u/\∀t a,u≠.iface t (.pointer (some a)))
  (he:W.cell? ⟨11,0,none⟩=some (.iface 199 (.agg #[.pointer (some ⟨12,61,none⟩)])))
  (ht:∀u,more tabG=some u->Rep (fun b o=>W.cell? ⟨b,o,none⟩) tabD u) :
  Fits (glb q more) (fun b o=>W.cell? ⟨b,o,none⟩) W:=by
 have hg:∀g u,glb q more g=some u->W.cell? ⟨g,0,none⟩=some u:=fun g u h=>by
  unfold glb at h;split at h
  ·rename_i h9;cases h;exact(hq g h9).1
  ·split at h
   ·rename_i e;subst e;cases h;exact he
   ·exact(hm g u h).1
 have ht':∀u,glb q more tabG=some u->Rep (fun b o=>W.cell? ⟨b,o,none⟩) tabD u:=fun u h=>by
  unfold glb at h;rw[if_neg (by decide),if_neg (by decide)] at h;exact ht u h
 refine⟨fun _ _ _ h=>h,hg,ht',fun b o u h _=>?_,fun g t a h=>?_⟩
 ·unfold World.cell? at h;cases hb:W.heap[b]? with
  |none=>simp[hb] at h
  |some ob=>cases ob with
   |cells c t fr=>exact⟨c,t,fr,hb⟩
   |_=>simp[hb] at h
 ·unfold glb at h;split at h
  ·rename_i h9;simp only[errV,Option.some.injEq,Value.iface.injEq,Value.pointer.injEq] at h;rw[<-h.2];exact(hq g h9).2
  ·split at h
   ·simp at h
   ·exact absurd rfl ((hm g _ h).2 t a)
theorem zbb {q:Nat->Addr}{more:Nat->Option Value}(hinj:∀i j,i<9->j<9->q i=q j->i=j):Sent (glb q more) q:=
 ⟨fun g hg=>by simp[glb,hg],hinj,by simp[glb]⟩
theorem Q4 {P:Program}{E:Nat->Option Value}{f:FuncId}{fn:Func}{c:Code}{ds:List D}{r:Res}(hf:P.funcs[f]?=some fn)(hb:fn.body=some c)(hname:(fn.name == "runtime.NumGoroutine")=false)(h:DCall P E f ds r)
  {σ:Mem} {w:World} {us:List Value} (hF:Fits E σ w) (ha:RepL σ ds us):Calls P f us.toArray w fun e w'=>∃u,e = .returned u/\After σ w r u w':=by
 have:=h σ w us hF ha ⟨some 0,.call ⟨.value (.func f),#[],#[]⟩,0,"",#[],none⟩ { tmps:=#[undef],defers:=[] } (fun a w'=>∃u,a.tmps.getD 0 undef=u/\After σ w r u w') (fun _ _ _=>False) (fun u w' hA=>⟨u,by simp[Act.put],hA⟩);rw[JD hf hb hname,Oper.upon_enter] at this;refine this.mono fun e w' h'=>?_
 cases e with
 |returned u=>
  obtain⟨u',h1,h2⟩:=h';simp[Act.put] at h1;subst h1;exact⟨_,rfl,h2⟩
 |_=>first|exact h'.elim|(obtain⟨_,h'⟩:=h';exact h'.elim)|(obtain⟨_,_,h'⟩:=h';exact h'.elim)
section
variable {H:Type} {enc:TypeId×Value->H} {P:Program}
theorem Xk {f:Func}{s:ChangeSpec}{apart fresh handsOn again:Bool}{W W':World}{args:Array Value}{v:Value}{ds gs:List (DataW H)}{before pa pv:List MemPlace}
  (hW:DataW.Whole enc P f.params.toList s.vars apart W args.toList ds gs before)
  (hres:∀(b:Nat) (sp:Nat->Bool) (hd:Bool),DataW.TrodAll enc P W' b sp hd f.resultTypes.toList (v.resultList f.resultTypes.size) (s.fn H (ds++gs)).results [])
  (hargs:∀sp:Nat->Bool,(∀p∈before,sp p.block=true)->DataW.TrodAll enc P W' 0 sp true f.params.toList args.toList (s.fn H (ds++gs)).args pa)
  (hvars:∀sp:Nat->Bool,(∀p∈before,sp p.block=true)->DataW.TrodVars enc P W' sp s.vars (s.fn H (ds++gs)).vars pv)
  (hps:before=pa++pv) (hb:Below W.heap.size W W')
  (hok:∀(j:Nat) (t:TypeId) (r:Value),f.resultTypes[j]?=some t->(v.resultList f.resultTypes.size)[j]?=some r->Value.okWide P W' .any 0 t r) :
  s.post enc P f apart fresh handsOn again W args v W':=by
 have hlt:∀p∈before,p.block<W.heap.size:=fun p hp=>hW.lt p hp
 have hold:∀p∈before,(fun b=>decide (b<W.heap.size)) p.block=true:=fun p hp=>by simpa using hlt p hp
 refine⟨ds,gs,before,[],pa,pv,hW,hres _ _ _,hargs _ hold,hvars _ hold,World.keptBut_mono (fun p hp=>⟨hp,?_⟩) (hb.frame (·∈before)),fun _=>?_⟩
 ·rw[hps,List.mem_append] at hp;exact Or.inr hp
 ·obtain⟨_,_,_,_,_,hz,hn⟩:=hW;refine⟨hok,_,_,([]++pa)++pv,⟨[]++pa,pv,trodAll_append (hargs _ (fun _ _=>rfl)) (hres _ _ _),hvars _ (fun _ _=>rfl),rfl,?_,?_⟩,?_⟩
  ·intro b off hp;have hin:MemPlace.cell b off∈before:=by rw[hps];simpa using hp
   rw[hb.frozen (hlt _ hin)];exact hz b off hin
  ·intro ha;have:=hn ha;rw[hps] at this
   simpa using this
  ·intro p hp _;rw[hps]
   simpa using hp
end
/-! ### A world that meets the condition -/
def texts:List ByteArray:=[⟨#[110,111,32,112,108,97,105,110,32,102,108,111,97,116]⟩,⟨#[101,110,100,115,32,105,110,32,116,104,101,32,119,114,111,110,103,32,111,114,100,101,114]⟩,⟨#[111,117,116,32,111,102,32,114,97,110,103,101]⟩,⟨#[100,105,118,105,115,105,111,110,32,98,121,32,119,104,97,116,32,104,111,108,100,115,32,48]⟩,⟨#[114,111,111,116,32,111,102,32,119,104,97,116,32,105,115,32,98,101,108,111,119,32,48]⟩,⟨#[110,111,116,104,105,110,103,32,105,110,32,99,111,109,109,111,110]⟩,⟨#[110,111,32,115,117,99,104,32,111,112,101,114,97,116,105,111,110]⟩,⟨#[119,114,111,110,103,32,115,104,97,112,101]⟩,⟨#[110,111,116,32,115,117,114,101,32,111,102,32,97,110,32,97,110,115,119,101,114]⟩]
noncomputable def low:Nat:=(World.holding Tryz.prog default ⟨#[],#[],[]⟩).heap.size
def JB (h:Array Go.Obj)(g:Nat)(v:Value):Array Go.Obj:=h.modify g fun
 |.cells _ t frozen=>.cells #[v] t frozen
 |o=>o
end Go.Enc
end
