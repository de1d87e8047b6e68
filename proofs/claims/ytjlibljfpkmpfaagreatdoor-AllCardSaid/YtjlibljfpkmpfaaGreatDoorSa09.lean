/-
  The errors as data: contracts out of walks; errors.Is at sentinels. plain.code by its contract.
-/
import Derived.Test.YtjlibljfpkmpfaaGreatDoorSa07
import Derived.Test.YtjlibljfpkmpfaaGreatDoorSa08
import Derived.Test.YtjlibljfpkmpfaaGreatDoorSaFacts
set_option maxRecDepth 100000
set_option linter.unusedSimpArgs false
set_option linter.unusedVariables false
section
namespace Go.Enc
open Go.RowKit
theorem yD {P:Program}{E:Nat->Option Value}{f:FuncId}{fn:Func}{c:Code}{args:List D}{r:Res}(hf:P.funcs[f]?=some fn)(hb:fn.body=some c)(hname:(fn.name == "runtime.NumGoroutine")=false)
  (h:∀(σ:Mem) (w:World) (us:List Value),Fits E σ w->RepL σ args us->Calls P f us.toArray w fun e w'=>∃u,e = .returned u/\After σ w r u w'):DCall P E f args r:=by
 intro σ w us hF hargs o a next Q hnext
 have hcall:(callFunc f us.toArray).run P w = .ok (.enter f us.toArray) w:=by
  have hne:¬(fn.name = "runtime.NumGoroutine"):=by simpa using hname
  simp[callFunc,hf,hne,hb]
 rw[hcall,Oper.upon_enter];refine(h σ w us hF hargs).mono ?_;rintro e w' ⟨u,rfl,hA⟩;exact hnext u w' hA
theorem JD {P:Program}{f:FuncId}{fn:Func}{c:Code}(hf:P.funcs[f]?=some fn)(hb:fn.body=some c)(hname:(fn.name == "runtime.NumGoroutine")=false)(us:Array Value)(w:World):(callFunc f us).run P w = .ok (.enter f us) w:=by
 have hne:¬(fn.name = "runtime.NumGoroutine"):=by simpa using hname
 simp[callFunc,hf,hne,hb]
theorem After.same {E:Nat->Option Value}{σ:Mem}{w:World}{d:D}{u:Value}(hF:Fits E σ w)(h:Rep σ d u):After σ w (.data d) u w:=
 ⟨σ,Mem.le_refl _,fun _ _ _=>rfl,hF.inv,fun b o v h1 h2=>absurd (wT (hF.inv b o v h2)) (by omega),Below.refl _ _,h⟩
abbrev errV (a:Addr):Value:=.iface 213 (.pointer (some a))
structure Sent (E:Nat->Option Value)(q:Nat->Addr):Prop where
 var:∀g,g<9->E g=some (errV (q g))
 inj:∀i j,i<9->j<9->q i=q j->i=j
 typ:E 11=some (.iface 199 (.agg #[.pointer (some ⟨12,61,none⟩)]))
abbrev wM (b:Bool):D:=.v (.bool b)
open Go.Proofs Go.Proofs.YtjlibljfpkmpfaaGreatDoor in
theorem zfk {E:Nat->Option Value}{q:Nat->Addr}(hq:Sent E q){i j:Nat}(hi:i<9)(hj:j<9):DQz E 80 [.v (errV (q i)),.v (errV (q j))] (.data (wM (i==j))):=by
 refine yD Tryz.func80 rfl (by kernel_rfl) fun σ w us hF hargs=>?_
 simp only[RepL,Rep] at hargs;obtain⟨_,_,rfl,rfl,_,_,rfl,rfl,rfl⟩:=hargs;by_cases h:i=j
 ·subst h;refine(H6 (q i) w).mono ?_;rintro e w' ⟨rfl,rfl⟩;exact⟨_,rfl,After.same hF (by simp[wM,Rep])⟩
 ·obtain⟨ci,ti,h1⟩:=hF.gp i _ _ (hq.var i hi);obtain⟨cj,tj,h2⟩:=hF.gp j _ _ (hq.var j hj);refine(YO (q i) (q j) ci cj ti tj w (fun e=>h (hq.inj i j hi hj (by simpa using e))) h1 h2).mono ?_;rintro e w' ⟨rfl,rfl⟩;exact⟨_,rfl,After.same hF (by simp[wM,Rep,h])⟩
open Go.Proofs Go.Proofs.YtjlibljfpkmpfaaGreatDoor in
theorem zkx {E:Nat->Option Value}{q:Nat->Addr}(hq:Sent E q){i j:Nat}(hi:i<9)(hj:j<9)(nm:D):DQz E 80 [.ip 119 [nm,.v (errV (q i))],.v (errV (q j))] (.data (wM (i==j))):=by
 refine yD Tryz.func80 rfl (by kernel_rfl) fun σ w us hF hargs=>?_
 simp only[RepL,Rep,RepC] at hargs;obtain⟨_,_,rfl,⟨b,o,rfl,h1,⟨u,hu,hu1,rfl⟩,_⟩,_,_,rfl,rfl,rfl⟩:=hargs;have hc:=hF.inv _ _ _ hu;by_cases h:i=j
 ·subst h;refine(Kr b o (q i) w hc).mono ?_;rintro e w' ⟨rfl,rfl⟩;exact⟨_,rfl,After.same hF (by simp[wM,Rep])⟩
 ·obtain⟨ci,ti,h1⟩:=hF.gp i _ _ (hq.var i hi);obtain⟨cj,tj,h2⟩:=hF.gp j _ _ (hq.var j hj);refine(JR b o (q j) (q i) ci cj ti tj w hc (fun e=>h (hq.inj i j hi hj (by simpa using e))) h1 h2).mono ?_;rintro e w' ⟨rfl,rfl⟩;exact⟨_,rfl,After.same hF (by simp[wM,Rep,h])⟩
section
variable {C:Ctx} {σ:Mem} {G:Gh} {s:St} {a:Act} {w:World}
theorem Stands.grown0 (S:Stands C σ G s a w){w':World}(hb:Below w.heap.size w w'):Stands C σ G s a w':=
 S.after (Mem.le_refl _) (fun _ _ _=>rfl) (fun b o v h=>by
  have h1:=S.inv b o v h;have h2:=wT h1;rw[World.cell?_of_block (hb.block b h2)];exact h1) (fun b o v h1 h2=>absurd (wT (S.inv b o v h2)) (by omega)) hb
theorem Stands.alloc3 (S:Stands C σ G s a w)(x y z:Go.Obj):Stands C σ G s a (((w.alloc x).alloc y).alloc z):=
 S.grown0 ((((Below.refl w.heap.size w).alloc (Nat.le_refl _) x).alloc (by simp) y).alloc (by simp;omega) z)
theorem Stands.alloc4 (S:Stands C σ G s a w)(x y z u:Go.Obj):Stands C σ G s a ((((w.alloc x).alloc y).alloc z).alloc u):=
 S.grown0 (((((Below.refl w.heap.size w).alloc (Nat.le_refl _) x).alloc (by simp) y).alloc (by simp;omega) z).alloc (by simp;omega) u)
theorem Stands.typ (S:Stands C σ G s a w){q:Nat->Addr}(hq:Sent C.E q):w.cell? ⟨11,0,none⟩=some (.iface 199 (.agg #[.pointer (some ⟨12,61,none⟩)])):=
 S.inv _ _ _ (S.le _ _ _ (S.glob _ _ hq.typ))
open Go.Proofs Go.Proofs.YtjlibljfpkmpfaaGreatDoor in
theorem zlJ {q:Nat->Addr}(hP:C.P=Tryz.prog)(hq:Sent C.E q){k:Nat}{c0:T}{cells:List D}{dst:Option Nat}(hk:s.h k=some ⟨none,[c0]⟩) :
  xq C 78 [.d (.ip 119 cells),.ipr 121 k] dst s ((s.setH k ⟨none,[.d (.pd cells 0)]⟩).put dst (.d (wM true))):=by
 intro σ G a w us S hlen hrep hd o next Q ho hnext
 obtain⟨u1,u2,rfl⟩:∃u1 u2,us=[u1,u2]:=by
  match us,hlen with
  |[u1,u2],_=>exact⟨u1,u2,rfl⟩
 have r1:=hrep 0 _ u1 rfl rfl;have r2:=hrep 1 _ u2 rfl rfl;simp only[RepT,Rep] at r1 r2;obtain⟨b1,o1,rfl,hc1⟩:=r1;obtain⟨b,hb,rfl⟩:=r2;obtain⟨hbase,cur,ty,vs,hrow,hcells,sp,hcur⟩:=S.row hk hb;have hfz:=frozen_of_row w b 0 cur ty hrow;have hlt:0<cur.size:=by
  have h1:=hcells.length;have:cur.toList.length=vs.length+sp.length:=by rw[hcur];simp
  simp only[Array.length_toList,List.length_cons,List.length_nil] at this h1;omega
 have hcell:w.cell? ⟨b,0,none⟩=some cur[0]:=by rw[cell_of_row w b 0 cur ty (0,0) hrow,Array.getElem?_eq_getElem hlt]
 have hcall:(callFunc 78 [Value.iface 119 (.pointer (some ⟨b1,o1,none⟩)),.iface 121 (.pointer (some ⟨b,0,none⟩))].toArray).run Tryz.prog w = .ok (.enter 78 [Value.iface 119 (.pointer (some ⟨b1,o1,none⟩)),.iface 121 (.pointer (some ⟨b,0,none⟩))].toArray) w:=by
  exact JD Tryz.func78 rfl (by kernel_rfl) _ _
 rw[hP,hcall,Oper.upon_enter];refine(zaZ ⟨b1,o1,none⟩ ⟨b,0,none⟩ _ w (S.typ hq) hcell hfz).mono ?_;rintro e w' ⟨rfl,rfl⟩;subst ho;refine hnext σ G _ _ ?_;exact((S.alloc4 _ _ _ _).setCell hk hb (off:=0) (by simp) (c:=.d (.pd cells 0)) (u:=.pointer (some ⟨b1,o1,none⟩)) rfl (by simp only[RepT,Rep];exact⟨b1,o1,rfl,hc1⟩) (by simp[T.ref]) .plain).2.put (x:=.d (wM true)) (u:=.bool true) (by simp[RepT,Rep,wM]) (by simp[T.ref]) hd
open Go.Proofs Go.Proofs.YtjlibljfpkmpfaaGreatDoor in
theorem zgW {q:Nat->Addr}(hP:C.P=Tryz.prog)(hq:Sent C.E q){k:Nat}{i:Addr}{c0:T}{dst:Option Nat}(hk:s.h k=some ⟨none,[c0]⟩) :
  xq C 78 [.d (.v (errV i)),.ipr 121 k] dst s (s.put dst (.d (wM false))):=by
 intro σ G a w us S hlen hrep hd o next Q ho hnext
 obtain⟨u1,u2,rfl⟩:∃u1 u2,us=[u1,u2]:=by
  match us,hlen with
  |[u1,u2],_=>exact⟨u1,u2,rfl⟩
 have r1:=hrep 0 _ u1 rfl rfl;have r2:=hrep 1 _ u2 rfl rfl;simp only[RepT,Rep] at r1 r2;subst r1;obtain⟨b,hb,rfl⟩:=r2;obtain⟨hbase,cur,ty,vs,hrow,hcells,sp,hcur⟩:=S.row hk hb;have hfz:=frozen_of_row w b 0 cur ty hrow;have hlt:0<cur.size:=by
  have h1:=hcells.length;have:cur.toList.length=vs.length+sp.length:=by rw[hcur];simp
  simp only[Array.length_toList,List.length_cons,List.length_nil] at this h1;omega
 have hcell:w.cell? ⟨b,0,none⟩=some cur[0]:=by rw[cell_of_row w b 0 cur ty (0,0) hrow,Array.getElem?_eq_getElem hlt]
 have hcall:(callFunc 78 [errV i,.iface 121 (.pointer (some ⟨b,0,none⟩))].toArray).run Tryz.prog w = .ok (.enter 78 [errV i,.iface 121 (.pointer (some ⟨b,0,none⟩))].toArray) w:=by
  exact JD Tryz.func78 rfl (by kernel_rfl) _ _
 rw[hP,hcall,Oper.upon_enter];refine(H7 i ⟨b,0,none⟩ _ w (S.typ hq) hcell hfz).mono ?_;rintro e w' ⟨rfl,rfl⟩;subst ho;refine hnext σ G _ _ ?_;exact(S.alloc3 _ _ _).put (x:=.d (wM false)) (u:=.bool false) (by simp[RepT,Rep,wM]) (by simp[T.ref]) hd
end
end Go.Enc
end
section
namespace Go.Enc
open Go.Proofs
def JC (q:Nat->Addr):List T:=(List.range 9).map fun g=>.d (.v (errV (q g)))
theorem Wj (q:Nat->Addr):(JC q).length=9:=by simp[JC]
theorem Qc {q:Nat->Addr}{r:Nat}(h:r<9):(JC q)[r]?=some (.d (.v (.iface 213 (.pointer (some (q r)))))):=by simp[JC,h,errV]
theorem Xm:Ji Tryz.prog:=⟨⟨_,Tryz.underlying61⟩,Tryz.underlying213,by kernel_rfl,by kernel_rfl⟩
theorem zbI (E:Nat->Option Value)(nm e:D):DQz E 79 [.pd [nm,e] 0] (.data e):=by
 refine dcA Tryz.func79 Tryz.ntmps79 (rs:=[.tmp 2]) fun _ _ _ _ _=>?_
 simp -implicitDefEqProofs only[go_sem]
theorem jE (E:Nat->Option Value):DQz E 32 [.v .nilIface] (.data (.tup [intD 0,.v (.string ⟨#[]⟩)])):=by
 refine dcA Tryz.func32 Tryz.ntmps32 (rs:=[.tmp 2,.tmp 3]) fun _ _ _ _ _=>?_
 simp -implicitDefEqProofs only[go_sem,intD];refine wc ?_;simp -implicitDefEqProofs only[go_sem]
theorem qp {E:Nat->Option Value}{q:Nat->Addr}(hq:Sent E q){i:Nat}(hi:i<9):DQz E 32 [.v (errV (q i))] (.data (.tup [intD (i+1),.v (.string ⟨#[]⟩)])):=by
 refine dcA Tryz.func32 Tryz.ntmps32 (rs:=[.tmp 2,.tmp 3]) fun _ _ _ _ _=>?_
 have e0:E 0=some (errV (q 0)):=hq.var 0 (by decide);have e1:E 1=some (errV (q 1)):=hq.var 1 (by decide);have e2:E 2=some (errV (q 2)):=hq.var 2 (by decide);have e3:E 3=some (errV (q 3)):=hq.var 3 (by decide);have e4:E 4=some (errV (q 4)):=hq.var 4 (by decide);have e5:E 5=some (errV (q 5)):=hq.var 5 (by decide);have e6:E 6=some (errV (q 6)):=hq.var 6 (by decide);have e7:E 7=some (errV (q 7)):=hq.var 7 (by decide);have e8:E 8=some (errV (q 8)):=hq.var 8 (by decide);simp -implicitDefEqProofs only[go_sem,intD,errV];refine CallP.intro (zgW (c0:=.d (.v (.pointer none))) rfl hq (by simp -implicitDefEqProofs only[go_sem])) ?_;simp -implicitDefEqProofs only[go_sem,e0,e1,e2,e3,e4,e5,e6,e7,e8,errV,wM];rw[wu];refine wm (α:={r:Nat // r<=i}) (fun r=>St.of [(0,.d (.v (errV (q i)))),(4,.d (.v (.string ⟨#[]⟩))),(36,.gs 35),(37,.d (intD 9)),(38,.d (intD r.1))]
  [(35,⟨some (61,1,false),JC q⟩)]) (fun r=>9-r.1) ⟨0,Nat.zero_le _⟩ (we ?_ ?_ rfl) (by kernel_rfl) (fun r=>?_)
 ·simp -implicitDefEqProofs only[go_sem,errV,intD];exact⟨.inl rfl,.inl rfl⟩
 ·simp -implicitDefEqProofs only[go_sem,errV,intD];rfl
 ·obtain⟨r,hr⟩:=r;have hr9:r<9:=by omega
  simp -implicitDefEqProofs only[go_sem,errV,intD];refine wN (fun h=>?_) (fun h=>?_)
  ·simp -implicitDefEqProofs only[go_sem,Wj,Qc hr9,hr9,Int.natCast_nonneg,Int.toNat_natCast,Nat.mul_one,and_self];refine cI (zfk hq hi hr9) ?_;simp -implicitDefEqProofs only[go_sem,wM];refine wN (fun h2=>?_) (fun h2=>?_)
   ·simp -implicitDefEqProofs only[go_sem];refine wc ?_;simp only[beq_iff_eq] at h2;subst h2;simp  -implicitDefEqProofs (disch:=first|omega|decide) only[go_sem,w64]
   ·simp -implicitDefEqProofs only[go_sem];simp only[beq_eq_false_iff_ne] at h2;refine⟨⟨r+1,by omega⟩,we ?_ ?_ rfl,by simp only;omega⟩
    ·simp  -implicitDefEqProofs (disch:=first|omega|decide) only[go_sem,w64];exact .inl rfl
    ·simp -implicitDefEqProofs only[go_sem]
  ·simp at h;omega
theorem Jn {E:Nat->Option Value}{q:Nat->Addr}(hq:Sent E q){i:Nat}(hi:i<9)(nm:ByteArray):DQz E 32 [.ip 119 [.v (.string nm),.v (errV (q i))]] (.data (.tup [intD (i+1),.v (.string nm)])):=by
 refine dcA Tryz.func32 Tryz.ntmps32 (rs:=[.tmp 2,.tmp 3]) fun _ _ _ _ _=>?_
 have e0:E 0=some (errV (q 0)):=hq.var 0 (by decide);have e1:E 1=some (errV (q 1)):=hq.var 1 (by decide);have e2:E 2=some (errV (q 2)):=hq.var 2 (by decide);have e3:E 3=some (errV (q 3)):=hq.var 3 (by decide);have e4:E 4=some (errV (q 4)):=hq.var 4 (by decide);have e5:E 5=some (errV (q 5)):=hq.var 5 (by decide);have e6:E 6=some (errV (q 6)):=hq.var 6 (by decide);have e7:E 7=some (errV (q 7)):=hq.var 7 (by decide);have e8:E 8=some (errV (q 8)):=hq.var 8 (by decide);simp -implicitDefEqProofs only[go_sem,intD,errV];refine CallP.intro (zlJ (c0:=.d (.v (.pointer none))) rfl hq (by simp -implicitDefEqProofs only[go_sem])) ?_;simp -implicitDefEqProofs only[go_sem,wM];refine drw ?_;simp -implicitDefEqProofs only[go_sem];refine cI (zbI _ _ _) ?_;simp -implicitDefEqProofs only[go_sem];refine ErrCmp.intro Xm true ⟨_,_,rfl,rfl,.inl ⟨rfl,rfl⟩⟩ ?_;simp -implicitDefEqProofs only[go_sem,Bool.not_true,e0,e1,e2,e3,e4,e5,e6,e7,e8,errV];rw[wu];refine wm (α:={r:Nat // r<=i}) (fun r=>St.of [(0,.d (.ip 119 [.v (.string nm),.v (errV (q i))])),(4,.d (.v (.string nm))),(36,.gs 35),(37,.d (intD 9)),(38,.d (intD r.1))]
  [(35,⟨some (61,1,false),JC q⟩)]) (fun r=>9-r.1) ⟨0,Nat.zero_le _⟩ (we ?_ ?_ rfl) (by kernel_rfl) (fun r=>?_)
 ·simp -implicitDefEqProofs only[go_sem,errV,intD];exact⟨.inl rfl,.inl rfl⟩
 ·simp -implicitDefEqProofs only[go_sem,errV,intD];rfl
 ·obtain⟨r,hr⟩:=r;have hr9:r<9:=by omega
  simp -implicitDefEqProofs only[go_sem,errV,intD];refine wN (fun h=>?_) (fun h=>?_)
  ·simp -implicitDefEqProofs only[go_sem,Wj,Qc hr9,hr9,Int.natCast_nonneg,Int.toNat_natCast,Nat.mul_one,and_self];refine cI (zkx hq hi hr9 (.v (.string nm))) ?_;simp -implicitDefEqProofs only[go_sem,wM];refine wN (fun h2=>?_) (fun h2=>?_)
   ·simp -implicitDefEqProofs only[go_sem];refine wc ?_;simp only[beq_iff_eq] at h2;subst h2;simp  -implicitDefEqProofs (disch:=first|omega|decide) only[go_sem,w64]
   ·simp -implicitDefEqProofs only[go_sem];simp only[beq_eq_false_iff_ne] at h2;refine⟨⟨r+1,by omega⟩,we ?_ ?_ rfl,by simp only;omega⟩
    ·simp  -implicitDefEqProofs (disch:=first|omega|decide) only[go_sem,w64];exact .inl rfl
    ·simp -implicitDefEqProofs only[go_sem]
  ·simp at h;omega
end Go.Enc
end
