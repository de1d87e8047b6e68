/-
  A region that draws its order: gone through in the order of the text. What an operation does hangs on little; two that are apart may be exchanged. Whatever order a region draws: it comes to where the text's order comes. Whatever order a region draws: it comes to where the text's order comes: the law.
-/
import Derived.Test.YtjlibljfpkmpfaaGreatDoorSa06
set_option maxRecDepth 100000
set_option linter.unusedSimpArgs false
set_option linter.unusedVariables false
section
namespace Go.Enc
open Go.RowKit
inductive Kd where
 |pure|reads|makes|stores|errs|grows|apps|bar
 deriving DecidableEq
def nilC:Operand->Bool
 |.const (.slice none 0 0)=>true
 |_=>false
def wh:Op->Kd
 |.load _ (.global _)=>.pure
 |.load .. | .indexAddr .. | .slice ..=>.reads
 |.call { callee:=.builtin .len,.. }=>.reads
 |.call { callee:=.builtin .min,.. }=>.pure
 |.call { callee:=.builtin .max,.. }=>.pure
 |.call { callee:=.builtin .append,args,argTypes }=>match args.toList,argTypes.toList with
  |[x,_],[t,t']=>if t==t' then (if nilC x then .grows else if t==154 then .apps else .bar) else .bar
  |_,_=>.bar
 |.call { callee:=.value (.func g),.. }=>if isE g then .errs else if isP g then .bar else .makes
 |.binOp op t x y _=>if jD y t then .bar else if xd op x y then .bar else if jw y then .reads else .pure
 |.move _ | .assign _ | .pick .. | .fieldAddr .. | .index .. | .extract .. | .unOp .. | .convert .. | .makeInterface .. | .nilCheck _ | .build ..=>.pure
 |.alloc _ | .box .. | .buildSlice ..=>.makes
 |.store ..=>.stores
 |_=>.bar
theorem V8 {y:Operand}{t:TypeId}(h:jw y=true):jD y t=false:=by
 cases y<;>first|rfl|simp[jw] at h
theorem zaM {op:BinOp}{x y:Operand}(h:jw y=true):xd op x y=false:=by
 cases y<;>first|rfl|simp[jw] at h
def JN:Op->Bool
 |.binOp op _ x y _=>xd op x y
 |_=>false
inductive Ac where
 |put (d:Option Nat) (x:T)
 |mk (d k:Nat) (o:Obj) (x:T)
 |st (k:Nat) (o:Obj) (d:Option Nat)
 |er (k:Nat) (o:Obj) (d:Option Nat) (x:T)
 |ap (k d k2:Nat) (o:Obj)
def Ac.app (s:St):Ac->St
 |.put d x=>s.put d x
 |.mk d k o x=>(s.new k o).put (some d) x
 |.st k o d=>(s.setH k o).put d (.d .any)
 |.er k o d x=>(s.setH k o).put d x
 |.ap k d k2 o=>((s.kill k).new k2 o).put (some d) (.gs k2)
def qH (C:Ctx)(o:Oper)(s:St)(ac:Ac):Prop:=
 match o.op with
 |.alloc t=>∃d cs,o.dst=some d/\kN C.P t=some cs/\s.h (C.kb+d)=none/\ac = .mk d (C.kb+d) ⟨none,cs⟩ (.ptr (C.kb+d) 0)
 |.box _ x=>∃d cs,o.dst=some d/\k7 (s.ev x)=some cs/\s.h (C.kb+d)=none/\ac = .mk d (C.kb+d) ⟨none,cs⟩ (.ptr (C.kb+d) 0)
 |.buildSlice t len parts=>∃d e size bytes zs cells,o.dst=some d/\slT C.P t=some (e,size,bytes,zs)/\0<len/\len*size<=16777216 /\
   vK (fun i=>some (i*size,size)) (List.replicate (len*size) (.d .any)) (parts.toList.map fun p=>(p.1,s.ev p.2))=some cells/\s.h (C.kb+d)=none /\
   ((size≠3/\ac = .mk d (C.kb+d) ⟨some (e,size,false),cells⟩ (.gs (C.kb+d)))\/(size=3/\∃ds,asDs cells=some ds/\ac = .put (some d) (.d (.sl size ds))))
 |.store t p x=>∃k off ob cs,s.ev p = .ptr k off/\s.h k=some ob/\k7 (s.ev x)=some cs/\szT C.P t=some cs.length/\off+cs.length<=ob.cells.length/\ac = .st k { ob with cells:=jn ob.cells off cs } o.dst
 |.call { callee:=.builtin .append,args,argTypes }=>∃d x y t e size bytes zs cs,o.dst=some d/\args.toList=[x,y]/\argTypes.toList=[t,t]/\slT C.P t=some (e,size,bytes,zs)/\srcT s.h size (s.ev y)=some cs /\
   ((s.ev x = .d (.v (.slice none 0 0))/\cs.length/size*bytes<=140737488355328/\cs.length/size<=maxLen/\s.h (C.kb+d)=none/\ac = .mk d (C.kb+d) ⟨some (e,size,true),cs⟩ (.gs (C.kb+d))) \/
    (nilC x=false/\t=154/\SzOk C.P/\∃k nn cells,s.ev x = .gs k/\s.h k=some ⟨some (e,size,nn),cells⟩/\(cells.length+cs.length)/size*bytes<=140737488355328/\(cells.length+cs.length)/size<=maxLen /\
     (s.kill k).h (C.kb+d)=none/\ac = .ap k d (C.kb+d) ⟨some (e,size,nn),(cells++cs).map (wU k)⟩))
 |.call { callee:=.value f,args,.. }=>(∃k r e0 e a,f = .func 137/\args.toList.map s.ev=[.ptr k 0,.d (.agg a),.d e]/\s.h k=some ⟨none,[r,.hid e0]⟩/\DoOk C.P C.E/\a.length=2/\xZ e=true /\
   ac = .er k ⟨none,[r,.hid (doE e0 e)]⟩ o.dst (.d (.agg a)))\/∃g ds r,f = .func g/\isE g=false/\isP g=false/\asDs (args.toList.map s.ev)=some ds/\DCall C.P C.E g ds r /\
   ((∃x,r = .data x/\ac = .put o.dst (.d x))\/(∃d e size nn cells,r = .own e size nn cells/\o.dst=some d/\s.h (C.kb+d)=none/\ac = .mk d (C.kb+d) ⟨some (e,size,nn),cells.map .d⟩ (.gs (C.kb+d))) \/
    ∃d e size nn cells y,r = .ownP e size nn cells y/\o.dst=some d/\s.h (C.kb+d)=none/\ac = .mk d (C.kb+d) ⟨some (e,size,nn),cells.map .d⟩ (.tp (C.kb+d) y))
 |op=>∃r,yld C.P C.E s op=some r/\ac = .put o.dst r
def Does (C:Ctx)(ops:Array Oper)(o:Oper)(s:St)(ac:Ac):Prop:=
 match o.guard with
 |none=>qH C o s ac
 |some (j,b)=>∃d c,(ops[j]?).bind (·.dst)=some d/\gd (s.t d) b=some c/\if c=true then qH C o s ac else ac = .put o.dst (.d (.v undef))
structure WF (s:St):Prop where
 live:∀i k,(s.t i).ref=some k->s.h k≠none
 deep:∀k o,s.h k=some o->∀c∈o.cells,∀k',c.ref=some k'->s.h k'≠none
section
variable {C:Ctx} {s:St} {ops:Array Oper} {o:Oper} {K:St->Prop}
theorem YT (ho:wh o.op≠.bar)(h:run1 C o s K):∃ac,qH C o s ac/\K (ac.app s):=by
 obtain⟨dst,op,ty,pos,after,guard⟩:=o;have last:∀op',run1 C ⟨dst,op',ty,pos,after,guard⟩ s K=ws (yld C.P C.E s op') (fun r=>K (s.put dst r))->run1 C ⟨dst,op',ty,pos,after,guard⟩ s K ->
   ∃r,yld C.P C.E s op'=some r/\K (s.put dst r):=fun op' e h=>by rw[e] at h;exact wK h
 have mk:∀op',(∀ac,qH C ⟨dst,op',ty,pos,after,guard⟩ s ac=∃r,yld C.P C.E s op'=some r/\ac = .put dst r)->(∃r,yld C.P C.E s op'=some r/\K (s.put dst r)) ->
   ∃ac,qH C ⟨dst,op',ty,pos,after,guard⟩ s ac/\K (ac.app s):=fun op' e ⟨r,h1,h2⟩=>⟨.put dst r,by rw[e];exact⟨r,h1,rfl⟩,h2⟩
 cases op with
 |alloc t=>
  obtain⟨d,hd,h⟩:=wK h;obtain⟨cs,hcs,h1,h2⟩:=wK h;exact⟨_,⟨d,cs,hd,hcs,h1,rfl⟩,h2⟩
 |box t x=>
  obtain⟨d,hd,h⟩:=wK h;obtain⟨cs,hcs,h1,h2⟩:=wK h;exact⟨_,⟨d,cs,hd,hcs,h1,rfl⟩,h2⟩
 |buildSlice t len parts=>
  obtain⟨d,hd,h⟩:=wK h;obtain⟨⟨e,size,bytes,zs⟩,hsl,h⟩:=wK h;simp only at h;obtain⟨h0,h1,h⟩:=h;obtain⟨cells,hf,hk,h⟩:=wK h;by_cases h3:size=3
  ·rw[if_pos h3] at h;obtain⟨ds,hds,h⟩:=wK h;exact⟨_,⟨d,e,size,bytes,zs,cells,hd,hsl,h0,h1,hf,hk,.inr ⟨h3,ds,hds,rfl⟩⟩,h⟩
  ·rw[if_neg h3] at h;exact⟨_,⟨d,e,size,bytes,zs,cells,hd,hsl,h0,h1,hf,hk,.inl ⟨h3,rfl⟩⟩,h⟩
 |store t p x=>
  simp only[run1] at h;split at h
  ·rename_i k off hp;obtain⟨ob,hob,h⟩:=wK h;obtain⟨cs,hcs,h1,h2,h⟩:=wK h;exact⟨_,⟨k,off,ob,cs,hp,hob,hcs,h1,h2,rfl⟩,h⟩
  ·exact h.elim
 |call c=>
  obtain⟨callee,args,argTypes⟩:=c;cases callee with
  |value f=>
   simp only[run1] at h;have hP:∀g,s.ev f = .d (.v (.func (.func g) #[] #[]))->f = .func g/\(isE g=true\/(isE g=false/\isP g=false)):=fun g hg=>by
    cases f with
    |func g'=>
     simp only[St.ev,T.d.injEq,D.v.injEq,Value.func.injEq,Fn.func.injEq] at hg;obtain⟨rfl,_⟩:=hg;simp only[wh] at ho;cases hE:isE g' with
     |true=>exact⟨rfl,.inl rfl⟩
     |false=>
      cases hb:isP g' with
      |false=>exact⟨rfl,.inr ⟨rfl,rfl⟩⟩
      |true=>simp[hE,hb] at ho
    |_=>simp[wh] at ho
   split at h
   ·rename_i g fst cap hf;obtain⟨rfl,rfl,h⟩:=h;obtain⟨hfg,hg⟩:=hP g hf;rcases hg with hE|⟨hE,hg⟩
    ·rw[if_pos hE] at h;obtain⟨k,r,e0,e,a,h1,h2,h3,h4,h5,h6⟩:=QZ h;have hgd:g=137:=by simpa [isE] using hE
     subst hgd;exact⟨_,.inl ⟨k,r,e0,e,a,hfg,h1,h2,h3,h4,h5,rfl⟩,h6⟩
    rw[if_neg (by simp[hE]),if_neg (by simp[hg])] at h;obtain⟨ds,hds,r,hc,h⟩:=wK h;cases r with
    |data x=>exact⟨_,.inr ⟨g,ds,_,hfg,hE,hg,hds,hc,.inl ⟨x,rfl,rfl⟩⟩,h⟩
    |own e size nn cells=>
     simp only[resT] at h;obtain⟨d,hd,hk,h⟩:=wK h;exact⟨_,.inr ⟨g,ds,_,hfg,hE,hg,hds,hc,.inr (.inl ⟨d,e,size,nn,cells,rfl,hd,hk,rfl⟩)⟩,h⟩
    |ownP e size nn cells y=>
     simp only[resT] at h;obtain⟨d,hd,hk,h⟩:=wK h;exact⟨_,.inr ⟨g,ds,_,hfg,hE,hg,hds,hc,.inr (.inr ⟨d,e,size,nn,cells,y,rfl,hd,hk,rfl⟩)⟩,h⟩
   ·exact h.elim
  |invoke _ _=>simp[wh] at ho
  |builtin b=>
   cases b with
   |len=>exact mk _ (fun _=>rfl) (last _ rfl h)
   |min=>exact mk _ (fun _=>rfl) (last _ rfl h)
   |max=>exact mk _ (fun _=>rfl) (last _ rfl h)
   |append=>
    simp only[run1] at h;obtain⟨d,hd,h⟩:=wK h
    change dst=some d at hd
    subst hd;split at h
    ·rename_i x y t t' e1 e2;obtain⟨rfl,h⟩:=h;unfold appT at h;obtain⟨⟨e,size,bytes,zs⟩,g1,h⟩:=wK h;simp only at h;obtain⟨cs,g2,h⟩:=wK h;split at h
     ·rename_i hx;obtain⟨k1,k2,k3,k4⟩:=h;exact⟨_,⟨d,x,y,t,e,size,bytes,zs,cs,rfl,e1,e2,g1,g2,.inl ⟨hx,k1,k2,k3,rfl⟩⟩,k4⟩
     ·rename_i k hx;split at h
      ·rename_i e' size' nn cells hk;obtain⟨z,rfl,rfl,k3,k4,k5,k6⟩:=h;have hx0:nilC x=false:=by
        cases hn:nilC x with
        |false=>rfl
        |true=>
         cases x with
         |const v=>
          simp only[St.ev] at hx;cases hx
         |_=>cases hn
       have ht:t=154:=by
        simp only[wh,e1,e2,beq_self_eq_true,if_true,hx0,Bool.false_eq_true,if_false] at ho;split at ho
        ·rename_i h;simpa using h
        ·exact absurd rfl ho
       exact⟨_,⟨d,x,y,t,e',size',bytes,zs,cs,rfl,e1,e2,g1,g2,.inr ⟨hx0,ht,z ht,k,nn,cells,hx,hk,k3,k4,k5,rfl⟩⟩,k6⟩
      ·exact h.elim
     ·exact h.elim
    ·exact h.elim
   |_=>simp[wh] at ho
 |makeSlice t l c=>simp[wh] at ho
 |binOp op t x y t'=>
  have hb:jD y t=false:=by
   simp only[wh] at ho;cases hb:jD y t with
   |false=>rfl
   |true=>simp[hb] at ho
  have hno:xd op x y=false:=by
   simp only[wh,hb] at ho;cases hno:xd op x y with
   |false=>rfl
   |true=>simp[hno] at ho
  exact mk _ (fun _=>rfl) (last _ (by simp only[run1,hb,hno,Bool.false_eq_true,if_false]) h)
 |_=>exact mk _ (fun _=>rfl) (last _ rfl h)
theorem Yi (ho:wh o.op≠.bar){ac:Ac}(h:qH C o s ac)(hk:K (ac.app s)):run1 C o s K:=by
 obtain⟨dst,op,ty,pos,after,guard⟩:=o;have last:∀op',(qH C ⟨dst,op',ty,pos,after,guard⟩ s ac=∃r,yld C.P C.E s op'=some r/\ac = .put dst r)->qH C ⟨dst,op',ty,pos,after,guard⟩ s ac->ws (yld C.P C.E s op') (fun r=>K (s.put dst r)):=fun op' e h=>by
  rw[e] at h;obtain⟨r,h1,rfl⟩:=h;rw[h1];exact hk
 cases op with
 |alloc t=>
  obtain⟨d,cs,h1,h2,h3,rfl⟩:=h
  change dst=some d at h1
  subst h1;simp only[run1,h2,ws];exact⟨h3,hk⟩
 |box t x=>
  obtain⟨d,cs,h1,h2,h3,rfl⟩:=h
  change dst=some d at h1
  subst h1;simp only[run1,h2,ws];exact⟨h3,hk⟩
 |buildSlice t len parts=>
  obtain⟨d,e,size,bytes,zs,cells,h1,h2,h3,h4,h5,h6,h7⟩:=h
  change dst=some d at h1
  subst h1;simp only[run1,h2,ws,h5];refine⟨h3,h4,h6,?_⟩;rcases h7 with⟨h8,rfl⟩|⟨h8,ds,h9,rfl⟩
  ·rw[if_neg h8];exact hk
  ·rw[if_pos h8,h9];exact hk
 |store t p x=>
  obtain⟨k,off,ob,cs,h1,h2,h3,h4,h5,rfl⟩:=h;simp only[run1,h1,h2,ws,h3];exact⟨h4,h5,hk⟩
 |call c=>
  obtain⟨callee,args,argTypes⟩:=c;cases callee with
  |value f=>
   rcases h with⟨k,r,e0,e,a,rfl,h2,h3,h4,h5,h6,rfl⟩|⟨g,ds,r,h1,hE,hg,h2,h3,h4⟩
   ·simp only[run1,St.ev];refine⟨by trivial,by trivial,?_⟩;rw[if_pos (by rfl)];have h2':List.map s.ev args.toList=_:=h2;rw[h2'];exact XX h3 h4 h5 h6 hk
   subst h1;simp only[run1,St.ev,h2,ws,hE,hg,Bool.false_eq_true,if_false];refine⟨trivial,trivial,r,h3,?_⟩;rcases h4 with⟨x,rfl,rfl⟩|⟨d,e,size,nn,cells,rfl,h5,h6,rfl⟩|⟨d,e,size,nn,cells,y,rfl,h5,h6,rfl⟩
   ·exact hk
   ·change dst=some d at h5
    subst h5;simp only[resT,ws];exact⟨h6,hk⟩
   ·change dst=some d at h5
    subst h5;simp only[resT,ws];exact⟨h6,hk⟩
  |invoke _ _=>simp[wh] at ho
  |builtin b=>
   cases b with
   |len=>exact last _ rfl h
   |min=>exact last _ rfl h
   |max=>exact last _ rfl h
   |append=>
    obtain⟨d,x,y,t,e,size,bytes,zs,cs,h1,e1,e2,g1,g2,h⟩:=h
    change dst=some d at h1
    subst h1;simp only[run1,ws,e1,e2,appT,g1,g2];refine⟨by trivial,?_⟩;rcases h with⟨hx,k1,k2,k3,rfl⟩|⟨hx0,ht,hz,k,nn,cells,hx,hk',k3,k4,k5,rfl⟩
    ·simp only[hx];exact⟨k1,k2,k3,hk⟩
    ·simp only[hx,hk'];exact⟨fun _=>hz,by trivial,by trivial,k3,k4,k5,hk⟩
   |_=>simp[wh] at ho
 |makeSlice t l c=>simp[wh] at ho
 |binOp op t x y t'=>
  have hb:jD y t=false:=by
   simp only[wh] at ho;cases hb:jD y t with
   |false=>rfl
   |true=>simp[hb] at ho
  have hno:xd op x y=false:=by
   simp only[wh,hb] at ho;cases hno:xd op x y with
   |false=>rfl
   |true=>simp[hno] at ho
  simp only[run1,hb,hno,Bool.false_eq_true,if_false];exact last _ rfl h
 |_=>exact last _ rfl h
theorem zgB (ho:wh o.op≠.bar)(h:step C ops o s K):∃ac,Does C ops o s ac/\K (ac.app s):=by
 unfold step at h;unfold Does;split at h
 ·rename_i hg;simp only[hg];exact YT ho h
 ·rename_i j b hg;simp only[hg];split at h
  ·rename_i d hd;split at h
   ·rename_i e;obtain⟨ac,h1,h2⟩:=YT ho h;exact⟨ac,⟨d,true,hd,e,by rw[if_pos rfl];exact h1⟩,h2⟩
   ·rename_i e;exact⟨.put o.dst (.d (.v undef)),⟨d,false,hd,e,by rw[if_neg (by simp)]⟩,h⟩
   ·exact h.elim
  ·exact h.elim
theorem zfO (ho:wh o.op≠.bar){ac:Ac}(h:Does C ops o s ac)(hk:K (ac.app s)):step C ops o s K:=by
 unfold Does at h;unfold step;split at h
 ·rename_i hg;simp only[hg];exact Yi ho h hk
 ·rename_i j b hg;obtain⟨d,c,hd,hc,h⟩:=h;simp only[hg,hd,hc];cases c with
  |true=>rw[if_pos rfl] at h;exact Yi ho h hk
  |false=>rw[if_neg (by simp)] at h;subst h;exact hk
theorem yG {c:T}{cs:List T}(h:k7 c=some cs):∀c'∈cs,∀k,c'.ref=some k->c.ref=some k:=by
 unfold k7 at h;split at h
 ·cases h;intro c' hc' k hk;simp only[List.mem_map] at hc';obtain⟨d,_,rfl⟩:=hc';simp[T.ref] at hk
 ·split at h
  ·cases h;intro c' hc' k hk;simp at hc';subst hc';exact hk
  ·cases h
 ·cases h
 ·cases h
 ·cases h;intro c' hc' k hk;simp at hc';subst hc';exact hk
end
end Go.Enc
end
section
namespace Go.Enc
open Go.RowKit
section
variable {P:Program} {E:Nat->Option Value} {h h':Nat->Option Obj}
theorem Yu {t:TypeId}{x:T}(hk:∀k,x.ref=some k->h' k=h k):xe P E h' t x=xe P E h t x:=by
 cases x with
 |ptr k off=>simp only[xe,hk k rfl]
 |d x=>unfold xe;split<;>first|rfl|(simp_all;done)
 |_=>rfl
theorem xz {t:TypeId}{x y:T}(hk:∀k,x.ref=some k->h' k=h k):kF P h' t x y=kF P h t x y:=by
 cases x with
 |vw k off len=>
  have e:=hk k rfl;cases y with
  |d y=>cases y with
   |v u=>cases u<;>first|rfl|(simp only[kF,e];done)
   |_=>rfl
  |_=>rfl
 |gs k=>
  have e:=hk k rfl;cases y with
  |d y=>cases y with
   |v u=>cases u<;>first|rfl|(simp only[kF,e];done)
   |_=>rfl
  |_=>rfl
 |d x=>unfold kF;split<;>first|rfl|(simp_all;done)
 |_=>rfl
theorem vU {t:TypeId}{lo hi mx:Option T}{x:T}(hk:∀k,x.ref=some k->h' k=h k):qL P h' t lo hi mx x=qL P h t lo hi mx x:=by
 cases x with
 |gs k=>
  have e:=hk k rfl;simp only[qL,e]
 |d x=>unfold qL;split<;>first|rfl|(simp_all;done)
 |_=>rfl
theorem zg {t:TypeId}{x:T}(hk:∀k,x.ref=some k->h' k=h k):lenT P h' t x=lenT P h t x:=by
 cases x with
 |gs k=>
  have e:=hk k rfl;simp only[lenT,e]
 |vw k off len=>
  have e:=hk k rfl;simp only[lenT,e]
 |d x=>unfold lenT;split<;>first|rfl|(simp_all;done)
 |_=>rfl
theorem zh {t:TypeId}{x:T}(hk:∀k,x.ref=some k->h' k=h k):jy P h' t x=jy P h t x:=by
 unfold jy;split
 ·rfl
 ·cases x with
  |gs k=>simp only[hk k rfl]
  |d x=>split<;>first|rfl|(simp_all;done)
  |_=>rfl
 ·rfl
 ·rfl
end
section
variable {C:Ctx} {s s':St} {ops:Array Oper} {o:Oper}
theorem RO {P:Program}{E:Nat->Option Value}{op:Op}(he:∀x∈op.operands.toList,s'.ev x=s.ev x)
  (hh:wh op = .reads->∀k,(∃x∈op.operands.toList,(s.ev x).ref=some k)->s'.h k=s.h k):yld P E s' op=yld P E s op:=by
 cases op with
 |move x=>simp only[yld,he x (by simp[Op.operands])]
 |assign x=>simp only[yld,he x (by simp[Op.operands])]
 |pick c x y=>simp only[yld,he c (by simp[Op.operands]),he x (by simp[Op.operands]),he y (by simp[Op.operands])]
 |load t x=>
  simp only[yld,he x (by simp[Op.operands])];refine Yu fun k hk=>?_
  cases x with
  |tmp i=>exact hh rfl k ⟨.tmp i,by simp[Op.operands],hk⟩
  |_=>simp[St.ev,T.ref] at hk
 |fieldAddr t x f=>simp only[yld,he x (by simp[Op.operands])]
 |indexAddr t x i=>
  simp only[yld,he x (by simp[Op.operands]),he i (by simp[Op.operands])];exact xz fun k hk=>hh rfl k ⟨x,by simp[Op.operands],hk⟩
 |index t x i=>simp only[yld,he x (by simp[Op.operands]),he i (by simp[Op.operands])]
 |slice t x lo hi mx=>
  have hlo:lo.map s'.ev=lo.map s.ev:=by cases lo with|none=>rfl|some y=>simp only[Option.map_some,he y (by simp[Op.operands])]
  have hhi:hi.map s'.ev=hi.map s.ev:=by cases hi with|none=>rfl|some y=>simp only[Option.map_some,he y (by simp[Op.operands])]
  have hmx:mx.map s'.ev=mx.map s.ev:=by cases mx with|none=>rfl|some y=>simp only[Option.map_some,he y (by simp[Op.operands])]
  simp only[yld,he x (by simp[Op.operands]),hlo,hhi,hmx];exact vU fun k hk=>hh rfl k ⟨x,by simp[Op.operands],hk⟩
 |extract x i=>simp only[yld,he x (by simp[Op.operands])]
 |binOp op t x y t'=>
  simp only[yld,he x (by simp[Op.operands]),he y (by simp[Op.operands])];cases hy:jw y with
  |true=>
   simp only[Bool.true_and];rw[qq hy,qq hy,zh (h':=s'.h) (h:=s.h) fun k hk=>hh (by simp[wh,hy,V8 hy,zaM hy]) k ⟨x,by simp[Op.operands],hk⟩]
  |false=>simp only[Bool.false_and,Bool.false_eq_true,if_false];rw[ku hy,ku hy]
 |unOp op t x=>simp only[yld,he x (by simp[Op.operands])]
 |convert a b x=>simp only[yld,he x (by simp[Op.operands])]
 |makeInterface t x=>simp only[yld,he x (by simp[Op.operands])]
 |nilCheck x=>simp only[yld,he x (by simp[Op.operands])]
 |build t parts=>
  simp only[yld];congr 1;refine List.map_congr_left fun p hp=>?_
  rw[he p.2 (by simp only[Op.operands];simp;exact⟨p.1,by simpa using hp⟩)]
 |call c=>
  obtain⟨callee,args,ts⟩:=c;cases callee with
  |builtin b=>
   have hmap:args.toList.map s'.ev=args.toList.map s.ev:=List.map_congr_left fun x hx=>he x (by simp[Op.operands,Call.operands];simpa using hx)
   cases b with
   |len=>
    simp only[yld];split
    ·rename_i x t hx _;have hm:x∈args.toList:=by rw[hx];simp
     rw[he x (by simp[Op.operands,Call.operands];simpa using hm)];exact zg fun k hk=>hh rfl k ⟨x,by simp[Op.operands,Call.operands];simpa using hm,hk⟩
    ·rfl
   |min=>simp only[yld,hmap]
   |max=>simp only[yld,hmap]
   |_=>rfl
  |_=>rfl
 |_=>rfl
theorem jz {x:D}{k:Nat}(h:(T.d x).ref=some k):False:=by simp[T.ref] at h
theorem zax {P:Program}{E:Nat->Option Value}{op:Op}(W:WF s){r:T}(h:yld P E s op=some r):∀k,r.ref=some k->s.h k≠none:=by
 have ev:∀x k,(s.ev x).ref=some k->s.h k≠none:=fun x k hk=>by
  cases x with
  |tmp i=>exact W.live i k hk
  |_=>simp[St.ev,T.ref] at hk
 intro k hk;unfold yld at h;split at h
 ·cases h;exact ev _ k hk
 ·cases h;exact ev _ k hk
 ·split at h
  ·rename_i t _;cases h;cases t
   ·exact ev _ k hk
   ·exact ev _ k hk
  ·cases h
 ·unfold xe at h;split at h
  ·rename_i j off hx;split at h
   ·cases h
   ·rename_i o ho;split at h
    ·rcases Yh h with hc|⟨x,hc,rfl⟩
     ·exact W.deep j o ho r (List.mem_of_getElem? hc) k hk
     ·exact(jz hk).elim
    ·split at h
     ·split at h
      ·simp only[Option.map_eq_some_iff] at h;obtain⟨_,_,rfl⟩:=h;exact(jz hk).elim
      ·cases h
     ·cases h
    ·cases h
  ·split at h
   ·simp only[Option.map_eq_some_iff] at h;obtain⟨_,_,rfl⟩:=h;exact(jz hk).elim
   ·split at h
    ·split at h
     ·cases h;exact(jz hk).elim
     ·cases h
    ·cases h
   ·cases h
  ·split at h
   ·simp only[Option.map_eq_some_iff] at h;obtain⟨_,_,rfl⟩:=h;exact(jz hk).elim
   ·cases h
  ·cases h
 ·rename_i t x f;unfold JP at h;split at h
  ·rename_i j off hx;simp only[Option.map_eq_some_iff] at h;obtain⟨o,_,rfl⟩:=h;exact ev x k (by rw[hx];simpa [T.ref] using hk)
  ·simp only[Option.map_eq_some_iff] at h;obtain⟨o,_,rfl⟩:=h;exact(jz hk).elim
  ·cases h
 ·rename_i t x i;unfold kF at h;split at h
  ·split at h
   ·split at h
    ·cases h;exact(jz hk).elim
    ·cases h
   ·cases h
  ·rename_i j _ _ hx _;split at h
   ·split at h
    ·cases h;exact ev x k (by rw[hx];simpa [T.ref] using hk)
    ·cases h
   ·cases h
  ·rename_i j _ _ _ _ hx _;split at h
   ·split at h
    ·cases h;exact ev x k (by rw[hx];simpa [T.ref] using hk)
    ·cases h
   ·cases h
  ·cases h
 ·unfold xM at h;split at h
  ·split at h
   ·split at h
    ·simp only[Option.map_eq_some_iff] at h;obtain⟨_,_,rfl⟩:=h;exact(jz hk).elim
    ·cases h
   ·cases h
  ·cases h
 ·rename_i t x lo hi mx;unfold qL at h;split at h
  ·split at h
   ·split at h
    ·cases h;exact(jz hk).elim
    ·cases h
   ·cases h
  ·rename_i j hx;split at h
   ·split at h
    ·split at h
     ·cases h;exact ev x k (by rw[hx];simpa [T.ref] using hk)
     ·cases h
    ·cases h
   ·cases h
  ·cases h
 ·rename_i x i;unfold vM at h;split at h
  ·simp only[Option.map_eq_some_iff] at h;obtain⟨_,_,rfl⟩:=h;exact(jz hk).elim
  ·rename_i j y hx;split at h
   ·cases h;exact ev x k (by rw[hx];exact hk)
   ·cases h;exact(jz hk).elim
   ·cases h
  ·cases h
 ·split at h
  ·cases h
  ·rename_i y _ _;cases hy:jw y with
   |true=>
    rw[qq hy] at h;unfold nil2 at h;split at h
    ·split at h<;>first|(cases h;exact(jz hk).elim)|cases h
    ·cases h
   |false=>
    rw[ku hy] at h;unfold bin2 at h;split at h
    ·split at h
     ·simp only[Option.map_eq_some_iff] at h;obtain⟨_,_,rfl⟩:=h;exact(jz hk).elim
     ·split at h
      ·simp only[Option.map_eq_some_iff] at h;obtain⟨_,_,rfl⟩:=h;exact(jz hk).elim
      ·cases h
    ·split at h
     ·cases h
     ·split at h
      ·simp only[Option.map_eq_some_iff] at h;obtain⟨_,_,rfl⟩:=h;exact(jz hk).elim
      ·cases h
    ·unfold bin2.strT at h;split at h<;>first|(cases h;exact(jz hk).elim)|cases h
    ·unfold bin2.boolT at h;split at h<;>first|(cases h;exact(jz hk).elim)|cases h
    ·unfold bin2.aggT at h;split at h
     ·simp only[Option.map_eq_some_iff] at h;obtain⟨_,_,rfl⟩:=h;exact(jz hk).elim
     ·simp only[Option.map_eq_some_iff] at h;obtain⟨_,_,rfl⟩:=h;exact(jz hk).elim
     ·cases h
    ·cases h
 ·unfold unT at h;split at h<;>(try (cases h;done))<;>split at h<;>first|(cases h;exact(jz hk).elim)|cases h
 ·unfold X8 at h;split at h
  ·split at h<;>first|(cases h;exact(jz hk).elim)|cases h
  ·split at h
   ·simp only[Option.map_eq_some_iff] at h;obtain⟨_,_,rfl⟩:=h;exact(jz hk).elim
   ·split at h
    ·cases h;exact(jz hk).elim
    ·cases h
   ·cases h
  ·cases h
 ·rename_i t x;unfold vC at h;split at h
  ·split at h
   ·rename_i j hx;cases h;exact ev x k (by rw[hx];simpa [T.ref] using hk)
   ·cases h;exact(jz hk).elim
   ·cases h
  ·split at h
   ·cases h;exact(jz hk).elim
   ·cases h
  ·cases h
 ·rename_i x;unfold xH at h;split at h
  ·rename_i j off hx;cases h;exact ev x k (by rw[hx];exact hk)
  ·cases h;exact(jz hk).elim
  ·cases h;exact(jz hk).elim
  ·cases h
 ·unfold JT at h;split at h
  ·split at h
   ·simp only[Option.map_eq_some_iff] at h;obtain⟨_,_,rfl⟩:=h;exact(jz hk).elim
   ·cases h
  ·cases h
 ·split at h
  ·unfold lenT at h;split at h
   ·split at h
    ·split at h
     ·cases h;exact(jz hk).elim
     ·cases h
    ·cases h
   ·split at h
    ·cases h;exact(jz hk).elim
    ·cases h
   ·split at h
    ·split at h
     ·cases h;exact(jz hk).elim
     ·cases h
    ·cases h
   ·split at h
    ·split at h
     ·cases h;exact(jz hk).elim
     ·cases h
    ·cases h
   ·cases h
  ·cases h
 ·unfold xx at h;split at h
  ·simp only[Option.map_eq_some_iff] at h;obtain⟨_,_,rfl⟩:=h;exact(jz hk).elim
  ·cases h
 ·unfold xx at h;split at h
  ·simp only[Option.map_eq_some_iff] at h;obtain⟨_,_,rfl⟩:=h;exact(jz hk).elim
  ·cases h
 ·cases h
end
end Go.Enc
end
section
namespace Go.Enc
open Go.RowKit
section
variable {C:Ctx} {s s':St} {ops:Array Oper} {o:Oper}
theorem WF.ev (W:WF s)(x:Operand):∀k,(s.ev x).ref=some k->s.h k≠none:=fun k hk=>by
 cases x with
 |tmp i=>exact W.live i k hk
 |_=>simp[St.ev,T.ref] at hk
theorem WF.put (W:WF s){d:Option Nat}{x:T}(hx:∀k,x.ref=some k->s.h k≠none):WF (s.put d x):=by
 cases d with
 |none=>exact W
 |some d=>
  refine⟨fun i k hk=>?_,W.deep⟩;simp only[zbz] at hk;split at hk
  ·exact hx k hk
  ·exact W.live i k hk
theorem QR {place:Nat->Option (Nat×Nat)}{p:T->Prop}(hp:∀c cs,k7 c=some cs->p c->∀c'∈cs,p c'):∀ {parts:List (Nat×T)} {cells r:List T},vK place cells parts=some r->(∀c∈cells,p c)->(∀q∈parts,p q.2)->∀c∈r,p c
 |[],cells,r,h,hc,_=>by simp only[vK,Option.some.injEq] at h;subst h;exact hc
 |(i,c) :: rest,cells,r,h,hc,hq=>by
  simp only[vK] at h;split at h
  ·rename_i off size cs _ hcs;split at h
   ·exact QR hp h (qW hc (hp c cs hcs (hq (i,c) (by simp)))) (fun q hq'=>hq q (by simp[hq']))
   ·cases h
  ·cases h
theorem WF.fresh (W:WF s){d k:Nat}{ob:Obj}{x:T}(hk:s.h k=none)(hob:∀c∈ob.cells,∀j,c.ref=some j->s.h j≠none)(hx:∀j,x.ref=some j->j=k):WF ((s.new k ob).put (some d) x):=by
 have hl:∀j,s.h j≠none->(s.new k ob).h j≠none:=fun j hj=>by
  simp only[St.new,upd];split
  ·simp
  ·exact hj
 have W1:WF (s.new k ob):=by
  refine⟨fun i j hj=>hl j (W.live i j hj),fun j o' ho' c hc k' hk'=>?_⟩;simp only[St.new,upd] at ho';split at ho'
  ·cases ho';exact hl k' (hob c hc k' hk')
  ·exact hl k' (W.deep j o' ho' c hc k' hk')
 exact W1.put fun j hj=>by rw[hx j hj];simp[St.new,upd]
theorem WF.st (W:WF s){k:Nat}{ob ob':Obj}{d:Option Nat}(hk:s.h k=some ob)(hob:∀c∈ob'.cells,∀j,c.ref=some j->s.h j≠none):WF ((s.setH k ob').put d (.d .any)):=by
 have hl:∀j,s.h j≠none->(s.setH k ob').h j≠none:=fun j hj=>by
  simp only[St.setH,upd];split
  ·simp
  ·exact hj
 have W1:WF (s.setH k ob'):=by
  refine⟨fun i j hj=>hl j (W.live i j hj),fun j o' ho' c hc k' hk'=>?_⟩;simp only[St.setH,upd] at ho';split at ho'
  ·cases ho';exact hl k' (hob c hc k' hk')
  ·exact hl k' (W.deep j o' ho' c hc k' hk')
 exact W1.put (by simp[T.ref])
theorem WF.er (W:WF s){k:Nat}{ob ob':Obj}{d:Option Nat}{x:T}(hx:x.ref=none)(hk:s.h k=some ob)(hob:∀c∈ob'.cells,∀j,c.ref=some j->s.h j≠none):WF ((s.setH k ob').put d x):=by
 have hl:∀j,s.h j≠none->(s.setH k ob').h j≠none:=fun j hj=>by
  simp only[St.setH,upd];split
  ·simp
  ·exact hj
 have W1:WF (s.setH k ob'):=by
  refine⟨fun i j hj=>hl j (W.live i j hj),fun j o' ho' c hc k' hk'=>?_⟩;simp only[St.setH,upd] at ho';split at ho'
  ·cases ho';exact hl k' (hob c hc k' hk')
  ·exact hl k' (W.deep j o' ho' c hc k' hk')
 exact W1.put (fun k' hk'=>by rw[hx] at hk';cases hk')
theorem WF.kill (W:WF s)(k:Nat):WF (s.kill k):=by
 have hlive:∀j,s.h j≠none->j≠k->(s.kill k).h j≠none:=by
  intro j h1 h2;simp only[St.kill,h2,if_false];cases h:s.h j with
  |none=>exact absurd h h1
  |some o=>simp
 refine⟨fun i j hj=>?_,fun j o h c hc j' hj'=>?_⟩
 ·obtain⟨h1,h2⟩:=vH hj;exact hlive j (W.live i j h1) h2
 ·simp only[St.kill] at h;split at h
  ·cases h
  ·simp only[Option.map_eq_some_iff] at h;obtain⟨o',h1,rfl⟩:=h;simp only[Obj.kill,List.mem_map] at hc;obtain⟨c',hc',rfl⟩:=hc;obtain⟨h3,h4⟩:=vH hj';exact hlive j' (W.deep j o' h1 c' hc' j' h3) h4
theorem RV {h:Nat->Option Obj}{size:Nat}{y:T}{cs:List T}(W:∀k o,h k=some o->∀c∈o.cells,∀k',c.ref=some k'->h k'≠none)(hy:srcT h size y=some cs):∀c∈cs,∀j,c.ref=some j->h j≠none:=by
 unfold srcT at hy;split at hy
 ·split at hy
  ·cases hy;intro c hc j hj;simp only[List.mem_map] at hc;obtain⟨d,_,rfl⟩:=hc;simp[T.ref] at hj
  ·cases hy
 ·cases hy;simp
 ·split at hy
  ·rename_i ho;split at hy
   ·cases hy;exact W _ _ ho
   ·cases hy
  ·cases hy
 ·cases hy
inductive Shp (C:Ctx) (o:Oper) (s:St):Ac->Prop where
 |put (x:T):Shp C o s (.put o.dst x)
 |mk (d:Nat) (ob:Obj) (x:T) (hd:o.dst=some d) (hk:s.h (C.kb+d)=none) (hm:wh o.op = .makes\/wh o.op = .grows\/wh o.op = .apps):Shp C o s (.mk d (C.kb+d) ob x)
 |st (k:Nat) (ob ob':Obj) (hk:s.h k=some ob) (hm:wh o.op = .stores):Shp C o s (.st k ob' o.dst)
 |er (k:Nat) (r:T) (e0 e1:D) (x:T) (hk:s.h k=some ⟨none,[r,.hid e0]⟩) (hm:wh o.op = .errs):Shp C o s (.er k ⟨none,[r,.hid e1]⟩ o.dst x)
 |ap (k d:Nat) (ob:Obj) (hd:o.dst=some d) (hm:wh o.op = .apps):Shp C o s (.ap k d (C.kb+d) ob)
theorem Ki (W:WF s)(ho:wh o.op≠.bar){ac:Ac}(h:qH C o s ac):Shp C o s ac/\WF (ac.app s):=by
 have last:∀op',(∃r,yld C.P C.E s op'=some r/\ac = .put o.dst r)->Shp C o s ac/\WF (ac.app s):=fun op' ⟨r,h1,h2⟩=>by
  subst h2;exact⟨.put r,W.put (zax W h1)⟩
 unfold qH at h;split at h
 ·rename_i t hop;obtain⟨d,cs,h1,h2,h3,rfl⟩:=h;obtain⟨_,_,_,_,z4,_⟩:=Ws (σ:=fun _ _=>none) (G:=fun _=>(none,undef)) (w:=default) h2;exact⟨.mk d _ _ h1 h3 (.inl (by rw[hop];rfl)),W.fresh h3 (fun c hc j hj=>by rw[z4 c hc] at hj;cases hj) (fun j hj=>by simpa [T.ref] using hj.symm)⟩
 ·rename_i t x hop;obtain⟨d,cs,h1,h2,h3,rfl⟩:=h;exact⟨.mk d _ _ h1 h3 (.inl (by rw[hop];rfl)),W.fresh h3 (fun c hc j hj=>W.ev x j (yG h2 c hc j hj)) (fun j hj=>by simpa [T.ref] using hj.symm)⟩
 ·rename_i t len parts hop;obtain⟨d,e,size,bytes,zs,cells,h1,h2,h3,h4,h5,h6,h7⟩:=h;rcases h7 with⟨h8,rfl⟩|⟨h8,ds,h9,rfl⟩
  case inr=>rw[<-h1];exact⟨.put _,W.put (by simp[T.ref])⟩
  refine⟨.mk d _ _ h1 h6 (.inl (by rw[hop];rfl)),W.fresh h6 ?_ (fun j hj=>by simpa [T.ref] using hj.symm)⟩;refine QR (p:=fun c=>∀j,c.ref=some j->s.h j≠none) (fun c cs hc hp c' hc' j hj=>hp j (yG hc c' hc' j hj)) h5 (fun c hc j hj=>by rw[List.eq_of_mem_replicate hc] at hj;simp[T.ref] at hj) (fun q hq j hj=>?_);simp only[List.mem_map] at hq;obtain⟨p,_,rfl⟩:=hq;exact W.ev p.2 j hj
 ·rename_i t p x hop;obtain⟨k,off,ob,cs,h1,h2,h3,h4,h5,rfl⟩:=h;exact⟨.st k ob _ h2 (by rw[hop];rfl),W.st h2 (qW (p:=fun c=>∀j,c.ref=some j->s.h j≠none) (W.deep k ob h2) (fun c hc j hj=>W.ev x j (yG h3 c hc j hj)))⟩
 ·rename_i args ts hop;obtain⟨d,x,y,t,e,size,bytes,zs,cs,h1,e1,e2,g1,g2,h⟩:=h;have hsrc:=RV W.deep g2;have hkd:nilC x=false->t=154->wh o.op = .apps:=fun q1 q2=>by
   rw[hop];simp only[wh,e1,e2,beq_self_eq_true,if_true,q1,q2,Bool.false_eq_true,if_false]
  rcases h with⟨hx,k1,k2,k3,rfl⟩|⟨hx0,ht,hz,k,nn,cells,hx,hk',k3,k4,k5,rfl⟩
  ·refine⟨.mk d _ _ h1 k3 ?_,W.fresh k3 hsrc (fun j hj=>by simpa [T.ref] using hj.symm)⟩;right;rw[hop] at ho ⊢;simp only[wh,e1,e2,beq_self_eq_true,if_true] at ho ⊢;cases hn:nilC x with
   |true=>left;simp
   |false=>
    rw[hn] at ho;simp only[Bool.false_eq_true,if_false] at ho ⊢;split at ho
    ·rename_i q;rw[if_pos q];right;rfl
    ·exact absurd rfl ho
  ·refine⟨.ap k d _ h1 (hkd hx0 ht),(W.kill k).fresh k5 (zM fun c hc=>?_) (fun j hj=>by simpa [T.ref] using hj.symm)⟩;rcases List.mem_append.1 hc with hc|hc
   ·exact W.deep k _ hk' c hc
   ·exact hsrc c hc
 ·rename_i f args ts hop;rcases h with⟨k,r,e0,e,a,h1,h2,h3,h4,h5,h6,rfl⟩|⟨g,ds,r,h1,hE,hg,h2,h3,h4⟩
  ·subst h1;refine⟨.er k r e0 _ _ h3 (by rw[hop];rfl),W.er (by simp[T.ref]) h3 (fun c hc j hj=>?_)⟩;simp only[List.mem_cons,List.not_mem_nil,or_false] at hc;rcases hc with rfl|rfl
   ·exact W.deep k _ h3 _ (by simp) j hj
   ·simp[T.ref] at hj
  subst h1;rcases h4 with⟨x,_,rfl⟩|⟨d,e,size,nn,cells,_,h5,h6,rfl⟩|⟨d,e,size,nn,cells,y,_,h5,h6,rfl⟩
  ·exact⟨.put _,W.put (by simp[T.ref])⟩
  ·refine⟨.mk d _ _ h5 h6 (.inl (by rw[hop];simp[wh,hE,hg])),W.fresh h6 (fun c hc j hj=>?_) (fun j hj=>by simpa [T.ref] using hj.symm)⟩;simp only[List.mem_map] at hc;obtain⟨y,_,rfl⟩:=hc;simp[T.ref] at hj
  ·refine⟨.mk d _ _ h5 h6 (.inl (by rw[hop];simp[wh,hE,hg])),W.fresh h6 (fun c hc j hj=>?_) (fun j hj=>by simpa [T.ref] using hj.symm)⟩;simp only[List.mem_map] at hc;obtain⟨y,_,rfl⟩:=hc;simp[T.ref] at hj
 ·exact last _ h
theorem kY (W:WF s)(ho:wh o.op≠.bar){ac:Ac}(h:Does C ops o s ac):Shp C o s ac/\WF (ac.app s):=by
 unfold Does at h;split at h
 ·exact Ki W ho h
 ·obtain⟨d,c,_,_,h⟩:=h;split at h
  ·exact Ki W ho h
  ·subst h;exact⟨.put _,W.put (by simp[T.ref])⟩
theorem Kj {ac:Ac}(h:qH C o s ac)(he:∀x∈o.op.operands.toList,s'.ev x=s.ev x)
  (hh:wh o.op≠.pure->wh o.op≠.makes->∀k,(∃x∈o.op.operands.toList,(s.ev x).ref=some k)->s'.h k=s.h k)
  (hm:∀d,o.dst=some d->s.h (C.kb+d)=none->s'.h (C.kb+d)=none):qH C o s' ac:=by
 obtain⟨dst,op,ty,pos,after,guard⟩:=o;simp only at he hh hm;have last:(∃r,yld C.P C.E s op=some r/\ac = .put dst r)->∃r,yld C.P C.E s' op=some r/\ac = .put dst r:=fun ⟨r,h1,h2⟩=>
  ⟨r,by rw[RO he (fun e=>hh (by rw[e];simp) (by rw[e];simp))];exact h1,h2⟩
 cases op with
 |alloc t=>
  obtain⟨d,cs,h1,h2,h3,rfl⟩:=h;exact⟨d,cs,h1,h2,hm d h1 h3,rfl⟩
 |box t x=>
  obtain⟨d,cs,h1,h2,h3,rfl⟩:=h;exact⟨d,cs,h1,by rw[he x (by simp[Op.operands])];exact h2,hm d h1 h3,rfl⟩
 |buildSlice t len parts=>
  obtain⟨d,e,size,bytes,zs,cells,h1,h2,h3,h4,h5,h6,h7⟩:=h;refine⟨d,e,size,bytes,zs,cells,h1,h2,h3,h4,?_,hm d h1 h6,h7⟩;have:(parts.toList.map fun p=>(p.1,s'.ev p.2))=parts.toList.map fun p=>(p.1,s.ev p.2):=
   List.map_congr_left fun p hp=>by rw[he p.2 (by simp only[Op.operands];simp;exact⟨p.1,by simpa using hp⟩)]
  rw[this];exact h5
 |store t p x=>
  obtain⟨k,off,ob,cs,h1,h2,h3,h4,h5,rfl⟩:=h;have hk:s'.h k=s.h k:=hh (by simp[wh]) (by simp[wh]) k ⟨p,by simp[Op.operands],by rw[h1];rfl⟩;exact⟨k,off,ob,cs,by rw[he p (by simp[Op.operands])];exact h1,by rw[hk];exact h2,by rw[he x (by simp[Op.operands])];exact h3,h4,h5,rfl⟩
 |call c=>
  obtain⟨callee,args,ts⟩:=c;cases callee with
  |value f=>
   have hmap:args.toList.map s'.ev=args.toList.map s.ev:=List.map_congr_left fun x hx=>he x (by simp[Op.operands,Call.operands];exact .inr (by simpa using hx))
   rcases h with⟨k,r,e0,e,a,h1,h2,h3,h4,h5,h6,h7⟩|⟨g,ds,r,h1,hE,hg,h2,h3,h4⟩
   ·subst h1;have hk:s'.h k=s.h k:=by
     refine hh (by simp[wh,isE]) (by simp[wh,isE]) k ?_;cases hl:args.toList with
     |nil=>rw[hl] at h2;cases h2
     |cons x0 l=>
      rw[hl] at h2;simp only[List.map_cons,List.cons.injEq] at h2;refine⟨x0,?_,by rw[h2.1];rfl⟩;have:x0∈args.toList:=by rw[hl];simp
      simp[Op.operands,Call.operands];exact .inr (by simpa using this)
    exact .inl ⟨k,r,e0,e,a,rfl,by rw[hmap];exact h2,by rw[hk];exact h3,h4,h5,h6,h7⟩
   refine .inr ⟨g,ds,r,h1,hE,hg,by rw[hmap];exact h2,h3,?_⟩;rcases h4 with h4|⟨d,e,size,nn,cells,g1,g2,g3,g4⟩|⟨d,e,size,nn,cells,y,g1,g2,g3,g4⟩
   ·exact .inl h4
   ·exact .inr (.inl ⟨d,e,size,nn,cells,g1,g2,hm d g2 g3,g4⟩)
   ·exact .inr (.inr ⟨d,e,size,nn,cells,y,g1,g2,hm d g2 g3,g4⟩)
  |invoke _ _=>exact last h
  |builtin b=>
   cases b with
   |append=>
    obtain⟨d,x,y,t,e,size,bytes,zs,cs,h1,e1,e2,g1,g2,h⟩:=h;have mx:x∈args.toList:=by rw[e1];simp
    have my:y∈args.toList:=by rw[e1];simp
    have ex:=he x (by simp[Op.operands,Call.operands];simpa using mx);have ey:=he y (by simp[Op.operands,Call.operands];simpa using my);have hp:wh (.call ⟨.builtin .append,args,ts⟩)≠.pure/\wh (.call ⟨.builtin .append,args,ts⟩)≠.makes:=by
     simp only[wh,e1,e2];constructor<;>(split<;>(try split)<;>(try split)<;>simp)
    have hk:∀z∈args.toList,∀k,(s.ev z).ref=some k->s'.h k=s.h k:=fun z hz k hr=>hh hp.1 hp.2 k ⟨z,by simp[Op.operands,Call.operands];simpa using hz,hr⟩
    have hs:srcT s'.h size (s'.ev y)=some cs:=by
     rw[ey,<-g2];unfold srcT;split
     ·rfl
     ·rfl
     ·rename_i k hy;rw[hk y my k (by rw[hy];rfl)]
     ·rfl
    refine⟨d,x,y,t,e,size,bytes,zs,cs,h1,e1,e2,g1,hs,?_⟩;rcases h with⟨hx,k1,k2,k3,h7⟩|⟨hx0,ht,hz,k,nn,cells,hx,hk',k3,k4,k5,h7⟩
    ·exact .inl ⟨by rw[ex];exact hx,k1,k2,hm d h1 k3,h7⟩
    ·refine .inr ⟨hx0,ht,hz,k,nn,cells,by rw[ex];exact hx,by rw[hk x mx k (by rw[hx];rfl)];exact hk',k3,k4,?_,h7⟩;simp only[St.kill] at k5 ⊢;split
     ·rfl
     ·rename_i hne;rw[if_neg hne] at k5;have:s.h (C.kb+d)=none:=by
       cases h:s.h (C.kb+d) with
       |none=>rfl
       |some o=>rw[h] at k5;cases k5
      rw[hm d h1 this];rfl
   |_=>exact last h
 |_=>exact last h
theorem kH {ac:Ac}(h:Does C ops o s ac)(he:∀d∈o.looksAt ops,s'.t d=s.t d)
  (hh:wh o.op≠.pure->wh o.op≠.makes->∀k,(∃x∈o.op.operands.toList,(s.ev x).ref=some k)->s'.h k=s.h k)
  (hm:∀d,o.dst=some d->s.h (C.kb+d)=none->s'.h (C.kb+d)=none):Does C ops o s' ac:=by
 have he':∀x∈o.op.operands.toList,s'.ev x=s.ev x:=fun x hx=>by
  cases x with
  |tmp t=>exact he t (by
    simp only[Oper.looksAt,List.mem_append,List.mem_filterMap];exact .inl ⟨.tmp t,hx,rfl⟩)
  |_=>rfl
 unfold Does at h ⊢;split at h
 ·exact Kj h he' hh hm
 ·rename_i j b hg;obtain⟨d,c,h1,h2,h3⟩:=h;have hd:d∈o.looksAt ops:=by
   simp only[Oper.looksAt,hg,List.mem_append];right;have:(ops[j]?.bind fun x=>x.dst)=some d:=h1;simp[this]
  refine⟨d,c,h1,by rw[he d hd];exact h2,?_⟩;split
  ·rename_i e;rw[if_pos e] at h3;exact Kj h3 he' hh hm
  ·rename_i e;rw[if_neg e] at h3;exact h3
def zk:Op->Bool
 |.load t _=>!(t==61)
 |_=>true
def kn:Op->Bool
 |.move _=>true
 |.binOp op t x y _=>!jD y t && !jw y && !xd op x y
 |.call { callee:=.builtin .len,argTypes,.. }=>argTypes.toList==[153]
 |_=>false
def okK:Kd->Kd->Bool->Bool->Bool
 |.bar,_,_,_=>false
 |_,.bar,_,_=>false
 |.apps,_,_,_=>false
 |_,.apps,_,_=>false
 |.stores,.reads,_,_=>false
 |.stores,.stores,_,_=>false
 |.stores,.errs,_,_=>false
 |.stores,.grows,_,_=>false
 |.reads,.stores,_,_=>false
 |.errs,.stores,_,_=>false
 |.grows,.stores,_,_=>false
 |.errs,.errs,_,_=>false
 |.errs,.grows,_,_=>false
 |.grows,.errs,_,_=>false
 |.errs,.reads,_,hy=>hy
 |.reads,.errs,hx,_=>hx
 |_,_,_,_=>true
def K0 (ops:Array Oper)(x y:Oper):Bool:=
 x.apart ops y&&if wh y.op == .apps then kn x.op&&wh x.op != .bar&&x.guard==none&&y.guard==none else okK (wh x.op) (wh y.op) (zk x.op) (zk y.op)
theorem ju (s:St){d e:Option Nat}(x y:T)(h:∀i,d=some i->e≠some i):(s.put d x).put e y=(s.put e y).put d x:=by
 cases d with
 |none=>rfl
 |some i=>
  cases e with
  |none=>rfl
  |some j=>
   have hij:j≠i:=fun c=>h i rfl (by rw[c])
   simp only[St.put];congr 1
   funext k
   simp only[upd];split<;>split<;>first|rfl|(exfalso;omega)
def Ac.pm:Ac->Bool
 |.put .. | .mk ..=>true
 |_=>false
def Ac.one:Ac->Bool
 |.ap ..=>false
 |_=>true
theorem Xd {x y:Oper}{ax ay:Ac}(hx:Shp C x s ax)(hy:Shp C y s ay)(hd:∀i,x.dst=some i->y.dst≠some i)(ox:ax.one=true)(oy:ay.one=true)(hss:ax.pm=true\/ay.pm=true) :
  ay.app (ax.app s)=ax.app (ay.app s):=by
 have hn:∀(d:Option Nat) (v:T) (k:Nat) (ob:Obj) (s:St),(s.put d v).new k ob=(s.new k ob).put d v:=fun d v k ob s=>by cases d<;>rfl
 have hs:∀(d:Option Nat) (v:T) (k:Nat) (ob:Obj) (s:St),(s.put d v).setH k ob=(s.setH k ob).put d v:=fun d v k ob s=>by cases d<;>rfl
 have huu:∀(f:Nat->Option Obj) {k k':Nat} (a b:Option Obj),k≠k'->upd (upd f k a) k' b=upd (upd f k' b) k a:=fun f k k' a b h=>by
  funext i;simp only[upd];split<;>split<;>first|rfl|(exfalso;omega)
 have ms:∀ {d k:Nat} {ob1 ob2 ob:Obj} {v v':T} {o:Option Nat},s.h (C.kb+d)=none->s.h k=some ob1->(∀i,o=some i->i≠d)->St.put (St.new ((s.setH k ob2).put o v') (C.kb+d) ob) (some d) v=St.put (St.setH ((s.new (C.kb+d) ob).put (some d) v) k ob2) o v':=fun {d k ob1 ob2 ob v v' o} h2 g1 hne=>by
  have hk:C.kb+d≠k:=fun e=>by rw[e] at h2;rw[h2] at g1;cases g1
  rw[hn,hs];rw[ju _ v' v (fun i hi e=>hne i hi (by cases e;rfl))];congr 2;simp only[St.new,St.setH];rw[huu _ _ _ (fun e=>hk e.symm)]
 cases hx with
 |put v=>cases hy with
  |put v'=>exact ju s v v' hd
  |mk d ob v' h1 h2 h3=>simp only[Ac.app,hn];exact ju _ v v' (fun i hi=>by rw[<-h1];exact hd i hi)
  |st k ob ob' h1 h2=>simp only[Ac.app,hs];exact ju _ v _ hd
  |er k r e0 e1 v' h1 h2=>simp only[Ac.app,hs];exact ju _ v _ hd
  |ap=>cases oy
 |mk d ob v h1 h2 h3=>cases hy with
  |put v'=>simp only[Ac.app,hn];exact ju _ v v' (fun i hi=>hd i (by rw[h1];exact hi))
  |mk d' ob' v' g1 g2 g3=>
   have hne:d≠d':=fun e=>hd d h1 (by rw[e];exact g1)
   simp only[Ac.app,hn];rw[ju _ v v' (fun i hi e=>hne (by cases hi;cases e;rfl))];congr 2;simp only[St.new];rw[huu _ _ _ (by omega)]
  |st k ob1 ob2 g1 g2=>exact(ms h2 g1 (fun i hi e=>hd i (by rw[e];exact h1) hi)).symm
  |er k r e0 e1 v' g1 g2=>exact(ms h2 g1 (fun i hi e=>hd i (by rw[e];exact h1) hi)).symm
  |ap=>cases oy
 |st k ob1 ob2 h1 h2=>cases hy with
  |put v'=>simp only[Ac.app,hs];exact ju _ _ v' hd
  |mk d ob v g1 g2 g3=>exact ms g2 h1 (fun i hi e=>hd i hi (by rw[e];exact g1))
  |st=>rcases hss with h|h<;>cases h
  |er=>rcases hss with h|h<;>cases h
  |ap=>cases oy
 |er k r e0 e1 v' h1 h2=>cases hy with
  |put v'=>simp only[Ac.app,hs];exact ju _ _ v' hd
  |mk d ob v g1 g2 g3=>exact ms g2 h1 (fun i hi e=>hd i hi (by rw[e];exact g1))
  |st=>rcases hss with h|h<;>cases h
  |er=>rcases hss with h|h<;>cases h
  |ap=>cases oy
 |ap=>cases ox
theorem vm {x:Oper}{ax:Ac}(hx:Shp C x s ax)(ox:ax.one=true){i:Nat}(hi:x.dst≠some i):(ax.app s).t i=s.t i:=by
 have hp:∀(s:St) (d:Option Nat) (v:T),d≠some i->(s.put d v).t i=s.t i:=fun s d v h=>by
  cases d with
  |none=>rfl
  |some d=>simp only[zbz];rw[if_neg (fun e=>h (by rw[e]))]
 cases hx with
 |put v=>exact hp s _ v hi
 |mk d ob v h1 h2 h3=>simp only[Ac.app];rw[hp _ _ _ (by rw[<-h1];exact hi)];rfl
 |st k ob ob' h1 h2=>simp only[Ac.app];rw[hp _ _ _ hi];rfl
 |er k r e0 e1 v h1 h2=>simp only[Ac.app];rw[hp _ _ _ hi];rfl
 |ap=>cases ox
theorem Y9 {x:Oper}{ax:Ac}(hx:Shp C x s ax)(px:ax.pm=true){k:Nat}(hk:s.h k≠none):(ax.app s).h k=s.h k:=by
 cases hx with
 |put v=>simp only[Ac.app,xO]
 |mk d ob v h1 h2 h3=>simp only[Ac.app,xO,St.new,upd];rw[if_neg (fun e=>hk (by rw[e];exact h2))]
 |_=>cases px
theorem Ju {x:Oper}{ax:Ac}(hx:Shp C x s ax)(ox:ax.one=true){d:Nat}(hk:s.h (C.kb+d)=none)(hd:x.dst≠some d):(ax.app s).h (C.kb+d)=none:=by
 cases hx with
 |put v=>simp only[Ac.app,xO];exact hk
 |mk d' ob v h1 h2 h3=>simp only[Ac.app,xO,St.new,upd];rw[if_neg (fun e=>hd (by rw[h1];congr 1;omega))];exact hk
 |st k ob ob' h1 h2=>simp only[Ac.app,xO,St.setH,upd];rw[if_neg (fun e=>by rw[<-e] at h1;rw[hk] at h1;cases h1)];exact hk
 |er k r e0 e1 v h1 h2=>simp only[Ac.app,xO,St.setH,upd];rw[if_neg (fun e=>by rw[<-e] at h1;rw[hk] at h1;cases h1)];exact hk
 |ap=>cases ox
theorem Wa {x:Oper}{ax:Ac}(hx:Shp C x s ax)(ox:ax.one=true){k:Nat}(hk:(ax.app s).h k=none):s.h k=none:=by
 cases hx with
 |put v=>simpa only[Ac.app,xO] using hk
 |mk d' ob v h1 h2 h3=>simp only[Ac.app,xO,St.new,upd] at hk;split at hk<;>first|cases hk|exact hk
 |st k ob ob' h1 h2=>simp only[Ac.app,xO,St.setH,upd] at hk;split at hk<;>first|cases hk|exact hk
 |er k r e0 e1 v h1 h2=>simp only[Ac.app,xO,St.setH,upd] at hk;split at hk<;>first|cases hk|exact hk
 |ap=>cases ox
def HidEq (h h':Nat->Option Obj):Prop:=∀k,h' k=h k\/∃r e0 e1,h k=some ⟨none,[r,.hid e0]⟩/\h' k=some ⟨none,[r,.hid e1]⟩
theorem HidEq.symm {h h':Nat->Option Obj}(H:HidEq h h'):HidEq h' h:=fun k=>by
 rcases H k with e|⟨r,e0,e1,g1,g2⟩
 ·exact .inl e.symm
 ·exact .inr ⟨r,e1,e0,g2,g1⟩
theorem zeD (r:T)(e0 e1:D)(off n:Nat):asDs ((List.drop off [r,.hid e0]).take n)=asDs ((List.drop off [r,.hid e1]).take n):=by
 match off,n with
 |0,0=>rfl
 |0,1=>rfl
 |0,n+2=>cases r<;>simp[asDs]
 |1,0=>rfl
 |1,n+1=>simp[asDs]
 |off+2,n=>simp
theorem zcS {t:TypeId}(ht:(t==61)=false)(r:T)(e0 e1:D)(off:Nat):opn t ([r,.hid e0]:List T)[off]?=opn t ([r,.hid e1]:List T)[off]?:=by
 match off with
 |0=>rfl
 |1=>simp[opn,ht]
 |off+2=>simp
theorem zaO {P:Program}{E:Nat->Option Value}{h h':Nat->Option Obj}(H:HidEq h h'){t:TypeId}(ht:(t==61)=false){x:T}:xe P E h' t x=xe P E h t x:=by
 cases x with
 |ptr k off=>
  rcases H k with e|⟨r,e0,e1,g1,g2⟩
  ·simp only[xe,e]
  ·simp only[xe,g1,g2];rw[zcS ht r e0 e1];simp only[List.length_cons,List.length_nil,zeD r e1 e0]
 |d x=>unfold xe;split<;>first|rfl|(simp_all;done)
 |_=>rfl
theorem HV {P:Program}{h h':Nat->Option Obj}(H:HidEq h h'){t:TypeId}{x y:T}:kF P h' t x y=kF P h t x y:=by
 cases x with
 |gs k=>
  rcases H k with e|⟨r,e0,e1,g1,g2⟩
  ·exact xz fun k' hk=>by simp only[T.ref,Option.some.injEq] at hk;rw[<-hk];exact e
  ·cases y with
   |d y=>cases y with
    |v u=>cases u<;>first|rfl|(simp only[kF,g1,g2];done)|(simp only[kF,g1,g2];cases elT P t<;>rfl)
    |_=>rfl
   |_=>rfl
 |vw k o n=>
  rcases H k with e|⟨r,e0,e1,g1,g2⟩
  ·exact xz fun k' hk=>by simp only[T.ref,Option.some.injEq] at hk;rw[<-hk];exact e
  ·cases y with
   |d y=>cases y with
    |v u=>cases u<;>first|rfl|(simp only[kF,g1,g2];done)|(simp only[kF,g1,g2];cases elT P t<;>rfl)
    |_=>rfl
   |_=>rfl
 |d x=>exact xz fun k' hk=>by simp[T.ref] at hk
 |_=>rfl
theorem Ho {P:Program}{h h':Nat->Option Obj}(H:HidEq h h'){t:TypeId}{lo hi mx:Option T}{x:T}:qL P h' t lo hi mx x=qL P h t lo hi mx x:=by
 cases x with
 |gs k=>
  rcases H k with e|⟨r,e0,e1,g1,g2⟩
  ·exact vU fun k' hk=>by simp only[T.ref,Option.some.injEq] at hk;rw[<-hk];exact e
  ·simp only[qL,g1,g2]
 |d x=>exact vU fun k' hk=>by simp[T.ref] at hk
 |_=>rfl
theorem zci {P:Program}{h h':Nat->Option Obj}(H:HidEq h h'){t:TypeId}{x:T}:lenT P h' t x=lenT P h t x:=by
 cases x with
 |gs k=>
  rcases H k with e|⟨r,e0,e1,g1,g2⟩
  ·exact zg fun k' hk=>by simp only[T.ref,Option.some.injEq] at hk;rw[<-hk];exact e
  ·simp only[lenT,g1,g2];cases elT P t<;>rfl
 |vw k o n=>
  rcases H k with e|⟨r,e0,e1,g1,g2⟩
  ·exact zg fun k' hk=>by simp only[T.ref,Option.some.injEq] at hk;rw[<-hk];exact e
  ·simp only[lenT,g1,g2];cases elT P t<;>rfl
 |d x=>exact zg fun k' hk=>by simp[T.ref] at hk
 |_=>rfl
theorem HT {P:Program}{h h':Nat->Option Obj}(H:HidEq h h'){t:TypeId}{x:T}:jy P h' t x=jy P h t x:=by
 cases x with
 |gs k=>
  rcases H k with e|⟨r,e0,e1,g1,g2⟩
  ·exact zh fun k' hk=>by simp only[T.ref,Option.some.injEq] at hk;rw[<-hk];exact e
  ·unfold jy;simp only[g1,g2]
 |d x=>exact zh fun k' hk=>by simp[T.ref] at hk
 |_=>unfold jy;split<;>rfl
theorem zeZ {P:Program}{E:Nat->Option Value}{op:Op}{s s':St}(H:HidEq s.h s'.h)(hr:wh op = .reads)(hs:zk op=true)(he:∀x∈op.operands.toList,s'.ev x=s.ev x):yld P E s' op=yld P E s op:=by
 cases op with
 |load t x=>
  simp only[yld,he x (by simp[Op.operands])];exact zaO H (by simpa [zk] using hs)
 |indexAddr t x i=>
  simp only[yld,he x (by simp[Op.operands]),he i (by simp[Op.operands])];exact HV H
 |slice t x lo hi mx=>
  have hlo:lo.map s'.ev=lo.map s.ev:=by cases lo with|none=>rfl|some y=>simp only[Option.map_some,he y (by simp[Op.operands])]
  have hhi:hi.map s'.ev=hi.map s.ev:=by cases hi with|none=>rfl|some y=>simp only[Option.map_some,he y (by simp[Op.operands])]
  have hmx:mx.map s'.ev=mx.map s.ev:=by cases mx with|none=>rfl|some y=>simp only[Option.map_some,he y (by simp[Op.operands])]
  simp only[yld,he x (by simp[Op.operands]),hlo,hhi,hmx];exact Ho H
 |binOp op t x y t'=>
  simp only[yld,he x (by simp[Op.operands]),he y (by simp[Op.operands])];cases hy:jw y with
  |false=>
   simp only[Bool.false_and,Bool.false_eq_true,if_false];rw[ku hy,ku hy]
  |true=>
   simp only[Bool.true_and];rw[qq hy,qq hy,HT H]
 |call c=>
  obtain⟨callee,args,ts⟩:=c;cases callee with
  |builtin b=>
   cases b with
   |len=>
    simp only[yld];split
    ·rename_i x t hx ht;have hm:x∈args.toList:=by rw[hx];simp
     rw[he x (by simp[Op.operands,Call.operands];simpa using hm)];exact zci H
    ·rfl
   |append=>
    simp only[wh] at hr;split at hr
    ·split at hr
     ·split at hr
      ·cases hr
      ·split at hr<;>cases hr
     ·cases hr
    ·cases hr
   |_=>simp[wh] at hr
  |value f=>cases f<;>simp[wh] at hr<;>(split at hr<;>(try split at hr)<;>simp at hr)
  |invoke _ _=>simp[wh] at hr
 |_=>simp[wh] at hr
theorem YS {o:Oper}{s s':St}{ac:Ac}(H:HidEq s.h s'.h)(hr:wh o.op = .reads)(hs:zk o.op=true)(h:Does C ops o s ac)(he:∀d∈o.looksAt ops,s'.t d=s.t d):Does C ops o s' ac:=by
 have he':∀x∈o.op.operands.toList,s'.ev x=s.ev x:=fun x hx=>by
  cases x with
  |tmp t=>exact he t (by
    simp only[Oper.looksAt,List.mem_append,List.mem_filterMap];exact .inl ⟨.tmp t,hx,rfl⟩)
  |_=>rfl
 have loc:qH C o s ac->qH C o s' ac:=fun h=>by
  obtain⟨dst,op,ty,pos,after,guard⟩:=o;simp only at he' hr hs;have hy:=zeZ (P:=C.P) (E:=C.E) H hr hs he';have last:(∃r,yld C.P C.E s op=some r/\ac = .put dst r)->∃r,yld C.P C.E s' op=some r/\ac = .put dst r:=fun ⟨r,h1,h2⟩=>⟨r,by rw[hy];exact h1,h2⟩
  cases op with
  |alloc t=>simp[wh] at hr
  |box t x=>simp[wh] at hr
  |buildSlice t len parts=>simp[wh] at hr
  |store t p x=>simp[wh] at hr
  |call c=>
   obtain⟨callee,args,ts⟩:=c;cases callee with
   |value f=>cases f<;>simp[wh] at hr<;>(split at hr<;>(try split at hr)<;>simp at hr)
   |invoke _ _=>exact last h
   |builtin b=>
    cases b with
    |append=>
     simp only[wh] at hr;split at hr
     ·split at hr
      ·split at hr
       ·cases hr
       ·split at hr<;>cases hr
      ·cases hr
     ·cases hr
    |_=>exact last h
  |_=>exact last h
 unfold Does at h ⊢;split at h
 ·exact loc h
 ·rename_i j b hg;obtain⟨d,c,h1,h2,h3⟩:=h;have hd:d∈o.looksAt ops:=by
   simp only[Oper.looksAt,hg,List.mem_append];right;have:(ops[j]?.bind fun x=>x.dst)=some d:=h1;simp[this]
  refine⟨d,c,h1,by rw[he d hd];exact h2,?_⟩;split
  ·rename_i e;rw[if_pos e] at h3;exact loc h3
  ·rename_i e;rw[if_neg e] at h3;exact h3
theorem XH {o:Oper}{ac:Ac}(hx:Shp C o s ac)(h:wh o.op≠.stores)(h2:wh o.op≠.errs)(h3:wh o.op≠.apps):ac.pm=true:=by
 cases hx with
 |put v=>rfl
 |mk=>rfl
 |st k ob ob' h1 hm=>exact absurd hm h
 |er k r e0 e1 x h1 hm=>exact absurd hm h2
 |ap k d ob h1 hm=>exact absurd hm h3
theorem JI {o:Oper}{ac:Ac}(hx:Shp C o s ac)(h3:wh o.op≠.apps):ac.one=true:=by
 cases hx with
 |ap k d ob h1 hm=>exact absurd hm h3
 |_=>rfl
theorem zdD {o:Oper}{ac:Ac}(W:WF s)(hx:Shp C o s ac)(h:wh o.op = .errs):(∃x,ac = .put o.dst x)\/HidEq s.h (ac.app s).h:=by
 cases hx with
 |put v=>exact .inl ⟨v,rfl⟩
 |mk d ob x h1 h2 hm=>rw[h] at hm;simp at hm
 |st k ob ob' h1 hm=>rw[h] at hm;cases hm
 |er k r e0 e1 x h1 hm=>
  right;intro j;simp only[Ac.app,xO,St.setH,upd];split
  ·rename_i e;subst e;exact .inr ⟨r,e0,e1,h1,rfl⟩
  ·exact .inl rfl
 |ap k d ob h1 hm=>rw[h] at hm;cases hm
theorem zas {P:Program}{op:BinOp}{t:TypeId}{x y r:T}(h:bin2 P op t x y=some r):∃a b c,x = .d a/\y = .d b/\r = .d c:=by
 unfold bin2 at h;split at h
 ·split at h
  ·simp only[Option.map_eq_some_iff] at h;obtain⟨z,_,rfl⟩:=h;exact⟨_,_,_,rfl,rfl,rfl⟩
  ·split at h
   ·simp only[Option.map_eq_some_iff] at h;obtain⟨z,_,rfl⟩:=h;exact⟨_,_,_,rfl,rfl,rfl⟩
   ·cases h
 ·split at h
  ·cases h
  ·split at h
   ·simp only[Option.map_eq_some_iff] at h;obtain⟨z,_,rfl⟩:=h;exact⟨_,_,_,rfl,rfl,rfl⟩
   ·cases h
 ·unfold bin2.strT at h;split at h<;>first|(cases h;exact⟨_,_,_,rfl,rfl,rfl⟩)|cases h
 ·unfold bin2.boolT at h;split at h<;>first|(cases h;exact⟨_,_,_,rfl,rfl,rfl⟩)|cases h
 ·unfold bin2.aggT at h;split at h
  ·simp only[Option.map_eq_some_iff] at h;obtain⟨z,_,rfl⟩:=h;exact⟨_,_,_,rfl,rfl,rfl⟩
  ·simp only[Option.map_eq_some_iff] at h;obtain⟨z,_,rfl⟩:=h;exact⟨_,_,_,rfl,rfl,rfl⟩
  ·cases h
 ·cases h
theorem zfy (s:St)(k:Nat)(x:Operand):(s.kill k).ev x=wU k (s.ev x):=by cases x<;>rfl
theorem zaY {s:St}{d:Option Nat}{v:T}{x:Operand}(h:∀i,x = .tmp i->d≠some i):(s.put d v).ev x=s.ev x:=by
 cases x with
 |tmp i=>
  cases d with
  |none=>rfl
  |some j=>simp only[St.ev,zbz];rw[if_neg (fun e=>h i rfl (by rw[e]))]
 |_=>rfl
theorem zkI {x:Oper}{ax:Ac}{k d:Nat}{ob:Obj}{e:TypeId}{size:Nat}{nn:Bool}{cells:List T}(hks:kn x.op=true)(hgx:x.guard=none)(hsz:SzOk C.P)(hk:s.h k=some ⟨some (e,size,nn),cells⟩)(hslt:∃bytes zs,slT C.P 154=some (e,size,bytes,zs))
  (hd:∀i,x.dst=some i->i≠d) (hlook:∀z∈x.op.operands.toList,z≠.tmp d) (hk2:(s.kill k).h (C.kb+d)=none) (hx:Does C ops x s ax) :
  ∃ax',Does C ops x ((Ac.ap k d (C.kb+d) ob).app s) ax'/\ax'.app ((Ac.ap k d (C.kb+d) ob).app s)=(Ac.ap k d (C.kb+d) ob).app (ax.app s):=by
 obtain⟨dst,op,ty,pos,after,guard⟩:=x;simp only at hgx;subst hgx;have hx:qH C ⟨dst,op,ty,pos,after,none⟩ s ax:=hx;have hev:∀z∈op.operands.toList,((Ac.ap k d (C.kb+d) ob).app s).ev z=wU k (s.ev z):=fun z hz=>by
  show((((s.kill k).new (C.kb+d) ob).put (some d) (.gs (C.kb+d)))).ev z=_
  rw[zaY (fun i e h=>hlook z hz (by rw[e];cases h;rfl))];exact zfy s k z
 have hput:∀(o:Option Nat) (v:T),(∀i,o=some i->i≠d)->((Ac.ap k d (C.kb+d) ob).app s).put o (wU k v)=(Ac.ap k d (C.kb+d) ob).app (s.put o v):=fun o v h=>by
  show((((s.kill k).new (C.kb+d) ob).put (some d) (.gs (C.kb+d)))).put o (wU k v)=((((s.put o v).kill k).new (C.kb+d) ob).put (some d) (.gs (C.kb+d)))
  rw[ju _ _ _ (fun i hi e=>h i e (by cases hi;rfl))];congr 1;cases o with
  |none=>rfl
  |some i=>
   simp only[St.put,St.kill,St.new];congr 1
   funext j
   simp only[upd];split<;>rfl
 have done:(∃r,yld C.P C.E s op=some r/\ax = .put dst r)->(∀r,yld C.P C.E s op=some r->yld C.P C.E ((Ac.ap k d (C.kb+d) ob).app s) op=some (wU k r))->(∀s' ac,qH C ⟨dst,op,ty,pos,after,none⟩ s' ac↔∃r,yld C.P C.E s' op=some r/\ac = .put dst r) ->
   ∃ax',Does C ops ⟨dst,op,ty,pos,after,none⟩ ((Ac.ap k d (C.kb+d) ob).app s) ax'/\ax'.app ((Ac.ap k d (C.kb+d) ob).app s)=(Ac.ap k d (C.kb+d) ob).app (ax.app s):=fun ⟨r,h1,h2⟩ h3 h4=>by
  subst h2;exact⟨.put dst (wU k r),(h4 _ _).2 ⟨_,h3 r h1,rfl⟩,hput dst r hd⟩
 cases op with
 |move z=>
  refine done hx (fun r hr=>?_) (fun _ _=>Iff.rfl);simp only[yld,Option.some.injEq] at hr ⊢;subst hr;exact hev z (by simp[Op.operands])
 |binOp op t z y' t'=>
  refine done hx (fun r hr=>?_) (fun _ _=>Iff.rfl);simp only[kn,Bool.and_eq_true,Bool.not_eq_true'] at hks;simp only[yld,hks.1.2,Bool.false_and,Bool.false_eq_true,if_false] at hr ⊢;rw[ku hks.1.2] at hr ⊢;obtain⟨a,b,c,e1,e2,e3⟩:=zas hr;rw[hev z (by simp[Op.operands]),hev y' (by simp[Op.operands]),e1,e2,e3];rw[e1,e2,e3] at hr;exact hr
 |call c=>
  obtain⟨callee,args,ts⟩:=c;cases callee with
  |builtin b=>
   cases b with
   |len=>
    refine done hx (fun r hr=>?_) (fun _ _=>Iff.rfl);have hts:ts.toList=[153]:=by simpa [kn] using hks
    simp only[yld,hts] at hr ⊢;split at hr
    ·rename_i z t hz ht;cases ht;have hm:z∈args.toList:=by rw[hz];simp
     rw[hev z (by simp[Op.operands,Call.operands];simpa using hm)];have hs2:size=2:=by
      obtain⟨bytes,zs,h⟩:=hslt;have:=hsz.2;rw[h] at this
      simpa using this
     have hel:=hsz.1;have hother:∀j o,s.h j=some o->j≠k->((Ac.ap k d (C.kb+d) ob).app s).h j=some (o.kill k):=fun j o hj hne=>by
      show((s.kill k).new (C.kb+d) ob).h j=_
      simp only[St.new,upd];have hkj:(s.kill k).h j=some (o.kill k):=by simp only[St.kill,if_neg hne,hj,Option.map_some]
      rw[if_neg (fun e=>by rw[e,hk2] at hkj;cases hkj)];exact hkj
     have hk1:∀n,elT C.P 153=some n->n=1:=fun n h=>by rw[hel] at h;exact(Option.some.inj h).symm
     unfold lenT at hr;split at hr
     ·rename_i hv;rw[hv];split at hr
      ·rename_i n hn;split at hr
       ·rename_i hc;cases hr;simp only[wU,lenT,hn,if_pos hc]
       ·cases hr
      ·cases hr
     ·rename_i hv;rw[hv];split at hr
      ·rename_i n hn;cases hr;simp only[wU,lenT,hn]
      ·cases hr
     ·rename_i j hv;rw[hv];split at hr
      ·rename_i n e' esz nn' cells' hn ho;split at hr
       ·rename_i hc;cases hr;have hne:j≠k:=fun e=>by
         rw[e,hk] at ho;cases ho;have:=hk1 n hn;omega
        simp only[wU,if_neg hne,lenT,hn,hother j _ ho hne,Obj.kill,List.length_map,if_pos hc]
       ·cases hr
      ·cases hr
     ·rename_i j off len hv;rw[hv];split at hr
      ·rename_i n e' esz nn' cells' hn ho;split at hr
       ·rename_i hc;cases hr;have hne:j≠k:=fun e=>by
         rw[e,hk] at ho;cases ho;have:=hk1 n hn;omega
        simp only[wU,if_neg hne,lenT,hn,hother j _ ho hne,Obj.kill,if_pos hc]
       ·cases hr
      ·cases hr
     ·cases hr
    ·cases hr
   |_=>simp[kn] at hks
  |value f=>simp[kn] at hks
  |invoke _ _=>simp[kn] at hks
 |_=>simp[kn] at hks
theorem J5 {x y:Oper}(h:K0 ops x y=true):wh x.op≠.bar/\wh y.op≠.bar:=by
 simp only[K0,Bool.and_eq_true] at h;have h2:=h.2;split at h2
 ·rename_i hy;simp only[Bool.and_eq_true,bne_iff_ne] at h2;refine⟨h2.1.1.2,fun e=>?_⟩;rw[e] at hy;cases hy
 ·constructor
  ·intro e;rw[e] at h2;cases hk:wh y.op<;>rw[hk] at h2<;>simp[okK] at h2
  ·intro e;rw[e] at h2;cases hk:wh x.op<;>rw[hk] at h2<;>simp[okK] at h2
theorem swap {x y:Oper}{ax ay:Ac}(W:WF s)(hsw:K0 ops x y=true)(hx:Does C ops x s ax)(hy:Does C ops y (ax.app s) ay) :
  ∃ax',Does C ops y s ay/\Does C ops x (ay.app s) ax'/\ax'.app (ay.app s)=ay.app (ax.app s):=by
 obtain⟨bx,by'⟩:=J5 hsw;simp only[K0,Bool.and_eq_true] at hsw;obtain⟨hap,hok⟩:=hsw;obtain⟨a1,a2,a3⟩:=Oper.apart_spec hap;obtain⟨sx,Wx⟩:=kY W bx hx;have hev:ax.one=true->∀z∈y.op.operands.toList,(ax.app s).ev z=s.ev z:=fun ox z hz=>by
  cases z with
  |tmp t=>exact vm sx ox (fun e=>a1 t e (by simp only[Oper.looksAt,List.mem_append,List.mem_filterMap];exact .inl ⟨.tmp t,hz,rfl⟩))
  |_=>rfl
 by_cases hya:wh y.op = .apps
 ·
  rw[if_pos (by rw[hya];rfl)] at hok;simp only[Bool.and_eq_true,bne_iff_ne,beq_iff_eq] at hok;obtain⟨⟨⟨ks,_⟩,gx⟩,gy⟩:=hok;have kx:wh x.op = .pure\/wh x.op = .reads:=by
   obtain⟨dst,op,ty,pos,after,guard⟩:=x;cases op with
   |move z=>exact .inl rfl
   |binOp op t z y' t'=>
    simp only[kn,Bool.and_eq_true,Bool.not_eq_true'] at ks;left;simp[wh,ks.1.1,ks.1.2,ks.2]
   |call c=>
    obtain⟨callee,args,ts⟩:=c;cases callee with
    |builtin b=>cases b<;>first|exact .inr rfl|(simp[kn] at ks;done)
    |_=>simp[kn] at ks
   |_=>simp[kn] at ks
  have px:=XH sx (by rcases kx with e|e<;>rw[e]<;>simp) (by rcases kx with e|e<;>rw[e]<;>simp) (by rcases kx with e|e<;>rw[e]<;>simp);have ox:=JI sx (by rcases kx with e|e<;>rw[e]<;>simp);have hy':Does C ops y s ay:=by
   refine kH hy (fun d hd=>(vm sx ox (fun e=>a1 d e hd)).symm) (fun _ _ k hr=>?_) (fun d hd h=>Wa sx ox h);obtain⟨z,hz,hzr⟩:=hr;rw[hev ox z hz] at hzr;exact(Y9 sx px (W.ev z k hzr)).symm
  obtain⟨sy,Wy⟩:=kY W by' hy';by_cases oy:ay.one=true
  ·have py:ay.pm=true:=by
    cases sy with
    |put v=>rfl
    |mk=>rfl
    |st k ob ob' h1 hm=>rw[hya] at hm;cases hm
    |er k r e0 e1 v h1 hm=>rw[hya] at hm;cases hm
    |ap=>cases oy
   refine⟨ax,hy',?_,(Xd sx sy a2 ox oy (.inl px)).symm⟩;refine kH hx (fun d hd=>vm sy oy (fun e=>a3 d e hd)) (fun _ _ k hr=>?_) (fun d hd h=>Ju sy oy h (fun e=>a2 d hd e));obtain⟨z,hz,hzr⟩:=hr;exact Y9 sy py (W.ev z k hzr)
  ·have hd1:qH C y s ay:=by
    unfold Does at hy';rw[gy] at hy';exact hy'
   obtain⟨dst,op,ty,pos,after,guard⟩:=y;simp only at gy;subst gy;have hop:∃args ts,op = .call ⟨.builtin .append,args,ts⟩:=by
    cases op with
    |call c=>
     obtain⟨callee,args,ts⟩:=c;cases callee with
     |builtin b=>cases b<;>first|exact⟨_,_,rfl⟩|(simp[wh] at hya;done)
     |value f=>cases f<;>simp[wh] at hya<;>(split at hya<;>(try split at hya)<;>simp at hya)
     |invoke _ _=>simp[wh] at hya
    |binOp op t z y' t'=>simp only[wh] at hya;split at hya<;>(try split at hya)<;>(try split at hya)<;>cases hya
    |load t z=>cases z<;>simp[wh] at hya
    |_=>simp[wh] at hya
   obtain⟨args,ts,rfl⟩:=hop;obtain⟨d,z,y',t,e,size,bytes,zs,cs,h1,e1,e2,g1,g2,h⟩:=hd1;rcases h with⟨hz0,k1,k2,k3,rfl⟩|⟨hz0,ht,hz,k,nn,cells,hzx,hk',k3,k4,k5,rfl⟩
   ·exact absurd rfl oy
   ·change dst=some d at h1
    subst h1;subst ht;obtain⟨ax',q1,q2⟩:=zkI (ob:=⟨some (e,size,nn),(cells++cs).map (wU k)⟩) ks gx hz hk' ⟨_,_,g1⟩ (fun i hi e=>a2 i hi (by rw[e])) (fun w hw e=>a3 d rfl (by
     simp only[Oper.looksAt,List.mem_append,List.mem_filterMap];exact .inl ⟨.tmp d,by rw[<-e];exact hw,rfl⟩)) k5 hx
    exact⟨ax',hy',q1,q2⟩
 rw[if_neg (by simpa using hya)] at hok;have hxa:wh x.op≠.apps:=fun e=>by rw[e] at hok;cases hk:wh y.op<;>rw[hk] at hok<;>simp[okK] at hok
 have ox:=JI sx hxa;have hy':Does C ops y s ay:=by
  by_cases hsp:wh x.op = .errs/\wh y.op = .reads
  ·have hs:zk y.op=true:=by rw[hsp.1,hsp.2] at hok;simpa [okK] using hok
   rcases zdD W sx hsp.1 with⟨v,rfl⟩|H
   ·refine kH hy (fun d hd=>(vm sx ox (fun e=>a1 d e hd)).symm) (fun _ _ k hr=>by simp only[Ac.app,xO]) (fun d hd h=>Wa sx ox h)
   ·exact YS H.symm hsp.2 hs hy (fun d hd=>(vm sx ox (fun e=>a1 d e hd)).symm)
  refine kH hy (fun d hd=>(vm sx ox (fun e=>a1 d e hd)).symm) (fun q1 q2 k hr=>?_) (fun d hd h=>Wa sx ox h);obtain⟨z,hz,hzr⟩:=hr;rw[hev ox z hz] at hzr;refine(Y9 sx (XH sx ?_ ?_ hxa) (W.ev z k hzr)).symm
  ·intro e;rw[e] at hok;cases hk:wh y.op<;>rw[hk] at hok q1 q2<;>simp_all [okK]
  ·intro e;rw[e] at hok hsp;cases hk:wh y.op<;>rw[hk] at hok q1 q2 hsp<;>simp_all [okK]
 obtain⟨sy,_⟩:=kY W by' hy';have oy:=JI sy hya;refine⟨ax,hy',?_,(Xd sx sy a2 ox oy ?_).symm⟩
 ·by_cases hsp:wh y.op = .errs/\wh x.op = .reads
  ·have hs:zk x.op=true:=by rw[hsp.1,hsp.2] at hok;simpa [okK] using hok
   rcases zdD W sy hsp.1 with⟨v,rfl⟩|H
   ·exact kH hx (fun d hd=>vm sy oy (fun e=>a3 d e hd)) (fun _ _ k hr=>by simp only[Ac.app,xO]) (fun d hd h=>Ju sy oy h (fun e=>a2 d hd e))
   ·exact YS H hsp.2 hs hx (fun d hd=>vm sy oy (fun e=>a3 d e hd))
  refine kH hx (fun d hd=>vm sy oy (fun e=>a3 d e hd)) (fun q1 q2 k hr=>?_) (fun d hd h=>Ju sy oy h (fun e=>a2 d hd e));obtain⟨z,hz,hzr⟩:=hr;refine Y9 sy (XH sy ?_ ?_ hya) (W.ev z k hzr)
  ·intro e;rw[e] at hok;cases hk:wh x.op<;>rw[hk] at hok q1 q2<;>simp_all [okK]
  ·intro e;rw[e] at hok hsp;cases hk:wh x.op<;>rw[hk] at hok q1 q2 hsp<;>simp_all [okK]
 ·by_cases hpx:ax.pm=true
  ·exact .inl hpx
  ·right;by_cases hst:wh x.op = .stores\/wh x.op = .errs
   ·refine XH sy ?_ ?_ hya
    ·intro e;rw[e] at hok;rcases hst with g|g<;>rw[g] at hok<;>simp[okK] at hok
    ·intro e;rw[e] at hok;rcases hst with g|g<;>rw[g] at hok<;>simp[okK] at hok
   ·exact absurd (XH sx (fun e=>hst (.inl e)) (fun e=>hst (.inr e)) hxa) hpx
def ldst (D:List (Nat×Nat))(ops:Array Oper)(x y:Oper):Bool:=
 x.apart ops y&&x.guard==none&&y.guard==none&&match x.op,y.op with
  |.load _ (.tmp p),.store _ (.tmp q) _=>D.contains (p,q)
  |_,_=>false
def vd (D:List (Nat×Nat))(ops:Array Oper)(x y:Oper):Bool:=K0 ops x y||ldst D ops x y
def Ap (D:List (Nat×Nat))(s:St):Prop:=∀pq∈D,∃k j,(s.t pq.1).ref=some k/\(s.t pq.2).ref=some j/\k≠j
theorem zkG {D:List (Nat×Nat)}{x y:Oper}{ax ay:Ac}(W:WF s)(A:Ap D s)(hsw:ldst D ops x y=true)(hx:Does C ops x s ax)(hy:Does C ops y (ax.app s) ay) :
  ∃ax',Does C ops y s ay/\Does C ops x (ay.app s) ax'/\ax'.app (ay.app s)=ay.app (ax.app s):=by
 simp only[ldst,Bool.and_eq_true] at hsw;obtain⟨⟨⟨hap,hgx⟩,hgy⟩,hm⟩:=hsw;split at hm
 ·rename_i tx p ty q z hxo hyo;have hpq:(p,q)∈D:=by simpa using hm
  obtain⟨a1,a2,a3⟩:=Oper.apart_spec hap;have kx:wh x.op = .reads:=by rw[hxo];rfl
  have ky:wh y.op = .stores:=by rw[hyo];rfl
  obtain⟨sx,Wx⟩:=kY W (by rw[kx];simp) hx;have px:=XH sx (by rw[kx];simp) (by rw[kx];simp) (by rw[kx];simp);have ox:=JI sx (by rw[kx];simp);have hy':Does C ops y s ay:=by
   refine kH hy (fun d hd=>(vm sx ox (fun e=>a1 d e hd)).symm) (fun _ _ k hr=>?_) (fun d hd h=>Wa sx ox h);obtain⟨z,hz,hzr⟩:=hr;have hev:(ax.app s).ev z=s.ev z:=by
    cases z with
    |tmp t=>exact vm sx ox (fun e=>a1 t e (by simp only[Oper.looksAt,List.mem_append,List.mem_filterMap];exact .inl ⟨.tmp t,hz,rfl⟩))
    |_=>rfl
   rw[hev] at hzr;exact(Y9 sx px (W.ev z k hzr)).symm
  obtain⟨sy,_⟩:=kY W (by rw[ky];simp) hy';have oy:=JI sy (by rw[ky];simp);refine⟨ax,hy',?_,(Xd sx sy a2 ox oy (.inl px)).symm⟩;refine kH hx (fun d hd=>vm sy oy (fun e=>a3 d e hd)) (fun _ _ k hr=>?_) (fun d hd h=>Ju sy oy h (fun e=>a2 d hd e));obtain⟨w,hw,hwr⟩:=hr;rw[hxo] at hw;simp only[Op.operands] at hw;have hw':w = .tmp p:=by simpa using hw
  subst hw';obtain⟨kp,kq,b1,b2,b3⟩:=A (p,q) hpq;have e1:k=kp:=by simp only[St.ev] at hwr;rw[b1] at hwr;exact(Option.some.inj hwr).symm
  subst e1;have hd1:qH C y s ay:=by
   have:y.guard=none:=by simpa using hgy
   unfold Does at hy';rw[this] at hy';exact hy'
  unfold qH at hd1;rw[hyo] at hd1;obtain⟨kk,off,ob,cs,c1,c2,c3,c4,c5,rfl⟩:=hd1;have e2:kk=kq:=by simp only[St.ev] at c1;rw[c1] at b2;exact Option.some.inj b2
  subst e2;simp only[Ac.app,xO,zhq];rw[if_neg b3]
 ·cases hm
theorem zkH {D:List (Nat×Nat)}{x y:Oper}{ax ay:Ac}(W:WF s)(A:Ap D s)(hsw:vd D ops x y=true)(hx:Does C ops x s ax)(hy:Does C ops y (ax.app s) ay) :
  ∃ax',Does C ops y s ay/\Does C ops x (ay.app s) ax'/\ax'.app (ay.app s)=ay.app (ax.app s):=by
 simp only[vd,Bool.or_eq_true] at hsw;rcases hsw with h|h
 ·exact swap W h hx hy
 ·exact zkG W A h hx hy
end
end Go.Enc
end
section
namespace Go.Enc
open Go.RowKit
section
variable {C:Ctx} {σ:Mem} {G:Gh} {s:St} {a:Act} {w:World} {Q:Exit->St->Prop} {ops:Array Oper}
theorem Stands.wf (S:Stands C σ G s a w):WF s:=⟨S.live,S.deep⟩
inductive Path (ops:Array Oper):Nat->Nat->Prop where
 |one {i:Nat} {y:Oper} {e:Edge} (hi:ops[i]?=some y) (he:e∈y.after) (hb:Region.binds .any e=true):Path ops i e.on
 |more {i j:Nat} {y:Oper} {e:Edge} (hi:ops[i]?=some y) (he:e∈y.after) (hb:Region.binds .any e=true) (h:Path ops e.on j):Path ops i j
def waits (acc:List Nat):List Edge->Nat
 |[]=>0
 |e :: r=>(if Region.binds .any e then (1 <<< e.on) ||| acc.getD e.on 0 else 0) ||| waits acc r
def KP:List Oper->List Nat->List Nat
 |[],acc=>acc
 |o :: r,acc=>KP r (acc++[waits acc o.after.toList])
theorem KO {acc:List Nat}:∀ {es:List Edge} {j:Nat},(waits acc es).testBit j=true->∃e∈es,Region.binds .any e=true/\(j=e.on\/(acc.getD e.on 0).testBit j=true)
 |[],j,h=>by simp[waits] at h
 |e :: r,j,h=>by
  simp only[waits,Nat.testBit_or,Bool.or_eq_true] at h;rcases h with h|h
  ·split at h
   ·rename_i hb;simp only[Nat.testBit_or,Bool.or_eq_true,Nat.testBit_shiftLeft,Bool.and_eq_true,decide_eq_true_eq] at h;refine⟨e,by simp,hb,?_⟩;rcases h with⟨h1,h2⟩|h
    ·left;rcases Nat.lt_or_ge 0 (j-e.on) with h3|h3
     ·exfalso;rw[Nat.testBit_one_eq_true_iff_self_eq_zero] at h2;omega
     ·omega
    ·exact .inr h
   ·simp at h
  ·obtain⟨e',h1,h2⟩:=KO h;exact⟨e',by simp[h1],h2⟩
theorem Wg:∀(l:List Oper) (acc:List Nat),(∀j,l[j]?=ops[acc.length+j]?)->(∀i j,(acc.getD i 0).testBit j=true->Path ops i j)->∀i j,((KP l acc).getD i 0).testBit j=true->Path ops i j
 |[],acc,_,h,i,j,hij=>h i j hij
 |o :: r,acc,hl,h,i,j,hij=>by
  refine Wg r (acc++[waits acc o.after.toList]) (fun j=>?_) (fun i j hij=>?_) i j hij
  ·have:=hl (j+1)
   simpa [Nat.add_assoc,Nat.add_comm 1 j] using this
  ·rcases Nat.lt_trichotomy i acc.length with h1|h1|h1
   ·rw[List.getD_eq_getElem?_getD,List.getElem?_append_left h1,<-List.getD_eq_getElem?_getD] at hij;exact h i j hij
   ·subst h1;rw[List.getD_eq_getElem?_getD] at hij;simp at hij;obtain⟨e,h2,h3,h4⟩:=KO hij;have ho:ops[acc.length]?=some o:=by simpa using (hl 0).symm
    rcases h4 with rfl|h4
    ·exact .one ho (by simpa using h2) h3
    ·exact .more ho (by simpa using h2) h3 (h _ _ h4)
   ·rw[List.getD_eq_getElem?_getD,List.getElem?_eq_none (by simp;omega)] at hij;simp at hij
def qy (D:List (Nat×Nat))(ops:Array Oper):Bool:=
 let ww:=KP ops.toList []
 (ops.toList.all fun o=>!JN o.op)&&(List.range ops.size).all fun i=>match ops[i]? with
  |none=>true
  |some y=>y.after.all (fun e=>!Region.binds .any e||decide (e.on<i)) &&
   (List.range i).all fun j=>match ops[j]? with
    |none=>true
    |some x=>(ww.getD i 0).testBit j||vd D ops x y
def US (ops:Array Oper):Bool:=qy [] ops
theorem Ka {D:List (Nat×Nat)}(h:qy D ops=true):∀o∈ops.toList,JN o.op=false:=fun o ho=>by
 simp only[qy,Bool.and_eq_true] at h
 simpa using List.all_eq_true.1 h.1 o ho
theorem W9 {D:List (Nat×Nat)}(h:qy D ops=true){i:Nat}{y:Oper}(hi:ops[i]?=some y) :
  (∀e∈y.after,Region.binds .any e=true->e.on<i) /\
  ∀j x,j<i->ops[j]?=some x->Path ops i j\/vd D ops x y=true:=by
 have hlt:i<ops.size:=(Array.getElem?_eq_some_iff.1 hi).1;have:=List.all_eq_true.1 (Bool.and_eq_true_iff.1 h).2 i (by simpa using hlt);simp only[hi,Bool.and_eq_true,ne_eq,Array.all_eq_true_iff_forall_mem,Bool.or_eq_true,Bool.not_eq_true',decide_eq_true_eq,List.all_eq_true,List.mem_range] at this;obtain⟨h2,h3⟩:=this;refine⟨fun e he hb=>(h2 e he).resolve_left (by simp[hb]),fun j x hj hx=>?_⟩;have h4:=h3 j hj;simp only[hx,Bool.or_eq_true] at h4;rcases h4 with h4|h4
 ·exact .inl (Wg ops.toList [] (by simp) (by simp) i j h4)
 ·exact .inr h4
def Closed (ops:Array Oper)(listed:Array Bool):Prop:=
 ∀i y,ops[i]?=some y->listed.getD i false=true->∀e∈y.after,Region.binds .any e=true->listed.getD e.on false=true
theorem Closed.path {listed:Array Bool}(hc:Closed ops listed){i j:Nat}(h:Path ops i j):(∀y,ops[i]?=some y->∀e∈y.after,Region.binds .any e=true->listed.getD e.on false=true)->listed.getD j false=true:=by
 induction h with
 |one hi he hb=>intro h;exact h _ hi _ he hb
 |more hi he hb h ih=>intro h';exact ih (fun y hy e' he' hb'=>hc _ y hy (h' _ hi _ he hb) e' he' hb')
theorem ZQ {o:Oper}{K:St->Prop}(ho:wh o.op = .bar)(hno:JN o.op=false)(h:run1 C o s K):∃s',(∀K':St->Prop,K' s'->run1 C o s K')/\K s':=by
 obtain⟨dst,op,ty,pos,after,guard⟩:=o;have last:∀op',(∀K,run1 C ⟨dst,op',ty,pos,after,guard⟩ s K=ws (yld C.P C.E s op') (fun r=>K (s.put dst r)))->run1 C ⟨dst,op',ty,pos,after,guard⟩ s K ->
   ∃s',(∀K':St->Prop,K' s'->run1 C ⟨dst,op',ty,pos,after,guard⟩ s K')/\K s':=fun op' e h=>by
  rw[e] at h;obtain⟨r,h1,h2⟩:=wK h;exact⟨_,fun K' hK=>by rw[e];simp only[h1,ws];exact hK,h2⟩
 cases op with
 |makeSlice t l c=>
  simp only[run1] at h;obtain⟨d,hd,h⟩:=wK h
  change dst=some d at hd
  subst hd;split at h
  ·rename_i e1 e2 e3;obtain⟨g1,g2,g3,g4,g5,g6,g7⟩:=h;refine⟨_,fun K' hK=>?_,g7⟩;simp only[run1,ws,e1,e2,e3];exact⟨g1,g2,g3,g4,g5,g6,hK⟩
  ·exact h.elim
 |call c=>
  obtain⟨callee,args,argTypes⟩:=c;cases callee with
  |value f=>
   simp only[run1] at h;split at h
   ·rename_i g fst cap hf;obtain⟨rfl,rfl,h⟩:=h;split at h
    ·rename_i hE;obtain⟨k,r,e0,e,a,h1,h2,h3,h4,h5,h6⟩:=QZ h;exact⟨_,fun K' hK=>by simp only[run1,hf,hE,if_true,h1];exact⟨trivial,trivial,XX h2 h3 h4 h5 hK⟩,h6⟩
    rename_i hE;split at h
    ·rename_i hg;obtain⟨s',hp,h⟩:=h;exact⟨s',fun K' hK=>by simp only[run1,hf,hg,if_neg hE,if_true];exact⟨trivial,trivial,s',hp,hK⟩,h⟩
    ·rename_i hg;obtain⟨ds,hds,r,hc,h⟩:=wK h;cases r with
     |data x=>exact⟨_,fun K' hK=>by simp only[run1,hf,if_neg hE,if_neg hg,hds,ws];exact⟨trivial,trivial,_,hc,hK⟩,h⟩
     |own e size nn cells=>
      simp only[resT] at h;obtain⟨d,hd,hk,h9⟩:=wK h
      change dst=some d at hd
      subst hd;exact⟨_,fun K' hK=>by simp only[run1,hf,if_neg hE,if_neg hg,hds,ws];exact⟨trivial,trivial,_,hc,hk,hK⟩,h9⟩
     |ownP e size nn cells y=>
      simp only[resT] at h;obtain⟨d,hd,hk,h9⟩:=wK h
      change dst=some d at hd
      subst hd;exact⟨_,fun K' hK=>by simp only[run1,hf,if_neg hE,if_neg hg,hds,ws];exact⟨trivial,trivial,_,hc,hk,hK⟩,h9⟩
   ·exact h.elim
  |invoke _ _=>exact last _ (fun _=>rfl) h
  |builtin b=>
   cases b with
   |append=>
    simp only[run1] at h;obtain⟨d,hd,h⟩:=wK h
    change dst=some d at hd
    subst hd;split at h
    ·rename_i x y t t' e1 e2;obtain⟨rfl,h⟩:=h;unfold appT at h;obtain⟨⟨e,size,bytes,zs⟩,g1,h⟩:=wK h;simp only at h;obtain⟨cs,g2,h⟩:=wK h;split at h
     ·rename_i hx;obtain⟨k1,k2,k3,k4⟩:=h;refine⟨_,fun K' hK=>?_,k4⟩;simp only[run1,ws,e1,e2,appT,g1,g2,hx];exact⟨trivial,k1,k2,k3,hK⟩
     ·rename_i k hx;split at h
      ·rename_i e' size' nn cells hk;obtain⟨z,k1,k2,k3,k4,k5,k6⟩:=h;refine⟨_,fun K' hK=>?_,k6⟩;simp only[run1,ws,e1,e2,appT,g1,g2,hx,hk];exact⟨trivial,z,k1,k2,k3,k4,k5,hK⟩
      ·exact h.elim
     ·exact h.elim
    ·exact h.elim
   |len=>simp[wh] at ho
   |min=>simp[wh] at ho
   |max=>simp[wh] at ho
   |_=>exact last _ (fun _=>rfl) h
 |binOp op t x y t'=>
  by_cases hb:jD y t=true
  ·simp only[run1,hb,if_true] at h;obtain⟨hf,c,hc,h⟩:=h;rcases h with⟨e,h⟩|⟨e,h⟩
   ·exact⟨_,fun K' hK=>by simp only[run1,hb,if_true];exact⟨hf,c,hc,.inl ⟨e,hK⟩⟩,h⟩
   ·exact⟨_,fun K' hK=>by simp only[run1,hb,if_true];exact⟨hf,c,hc,.inr ⟨e,hK⟩⟩,h⟩
  ·exact last _ (fun _=>by simp only[run1,if_neg hb,show xd op x y=false from hno,Bool.false_eq_true,if_false]) h
 |alloc _=>simp[wh] at ho
 |box _ _=>simp[wh] at ho
 |buildSlice _ _ _=>simp[wh] at ho
 |store _ _ _=>simp[wh] at ho
 |_=>exact last _ (fun _=>rfl) h
theorem zbR {o:Oper}{K:St->Prop}(ho:wh o.op = .bar)(hno:JN o.op=false)(h:step C ops o s K):∃s',(∀K':St->Prop,K' s'->step C ops o s K')/\K s':=by
 unfold step at h;split at h
 ·rename_i hg;obtain⟨s',h1,h2⟩:=ZQ ho hno h;exact⟨s',fun K' hK=>by unfold step;simp only[hg];exact h1 K' hK,h2⟩
 ·rename_i j b hg;split at h
  ·rename_i d hd;split at h
   ·rename_i hc;obtain⟨s',h1,h2⟩:=ZQ ho hno h;exact⟨s',fun K' hK=>by unfold step;simp only[hg,hd,hc];exact h1 K' hK,h2⟩
   ·rename_i hc;exact⟨_,fun K' hK=>by unfold step;simp only[hg,hd,hc];exact hK,h⟩
   ·exact h.elim
  ·exact h.elim
inductive Acts (C:Ctx) (ops:Array Oper) (o:Oper) (s:St):St->Prop where
 |does {ac:Ac} (hk:wh o.op≠.bar) (h:Does C ops o s ac):Acts C ops o s (ac.app s)
 |bar {s':St} (hk:wh o.op = .bar) (h:step C ops o s (fun t=>t=s')):Acts C ops o s s'
theorem zgY {o:Oper}{K:St->Prop}(hno:JN o.op=false)(h:step C ops o s K):∃s',Acts C ops o s s'/\K s':=by
 by_cases hk:wh o.op = .bar
 ·obtain⟨s',h1,h2⟩:=zbR hk hno h;exact⟨s',.bar hk (h1 _ rfl),h2⟩
 ·obtain⟨ac,h1,h2⟩:=zgB hk h;exact⟨_,.does hk h1,h2⟩
theorem Acts.step {o:Oper}{s':St}(h:Acts C ops o s s'):step C ops o s (fun t=>t=s'):=by
 cases h with
 |does hk h=>exact zfO hk h rfl
 |bar hk h=>exact h
inductive Runs (C:Ctx) (ops:Array Oper):List Nat->St->St->Prop where
 |nil (s:St):Runs C ops [] s s
 |cons {i:Nat} {o:Oper} {l:List Nat} {s s' t:St} (hi:ops[i]?=some o) (hd:Acts C ops o s s') (hr:Runs C ops l s' t):Runs C ops (i :: l) s t
theorem vo {K:St->Prop}:∀(l:List Oper) (k:Nat) {s:St},(∀j,l[j]?=ops[k+j]?)->(∀o∈l,JN o.op=false)->steps C ops l s K->∃t,Runs C ops (List.range' k l.length) s t/\K t
 |[],k,s,_,_,h=>⟨s,.nil s,h⟩
 |o :: l,k,s,hl,hno,h=>by
  obtain⟨s',h1,h2⟩:=zgY (hno o (by simp)) h;obtain⟨t,h3,h4⟩:=vo l (k+1) (fun j=>by have:=hl (j+1);simpa [Nat.add_assoc,Nat.add_comm 1 j] using this) (fun o ho=>hno o (by simp[ho])) h2;refine⟨t,?_,h4⟩;rw[List.length_cons,List.range'_succ];exact .cons (by simpa using (hl 0).symm) h1 h3
theorem Wv {D:List (Nat×Nat)}{x y:Oper}(h:vd D ops x y=true):wh x.op≠.bar/\wh y.op≠.bar:=by
 simp only[vd,Bool.or_eq_true] at h;rcases h with h|h
 ·exact J5 h
 ·simp only[ldst,Bool.and_eq_true] at h;have hm:=h.2;split at hm
  ·rename_i h1 h2;rw[h1,h2];simp[wh]
  ·cases hm
def Zj (D:List (Nat×Nat))(o:Oper):Bool:=D.all fun pq=>o.dst != some pq.1&&o.dst != some pq.2
def Dok (D:List (Nat×Nat))(ops:Array Oper):Bool:=D.isEmpty||ops.toList.all fun o=>Zj D o&&wh o.op != .bar&&wh o.op != .apps
theorem Dok.spec {D:List (Nat×Nat)}(h:Dok D ops=true){i:Nat}{o:Oper}(hi:ops[i]?=some o):D=[]\/(Zj D o=true/\wh o.op≠.bar/\wh o.op≠.apps):=by
 simp only[Dok,Bool.or_eq_true,List.isEmpty_iff,List.all_eq_true,Bool.and_eq_true,bne_iff_ne] at h;rcases h with h|h
 ·exact .inl h
 ·have:=h o (List.mem_of_getElem? (by rw[Array.getElem?_toList];exact hi));exact .inr ⟨this.1.1,this.1.2,this.2⟩
theorem Ap.acts {D:List (Nat×Nat)}{o:Oper}{s s':St}(A:Ap D s)(W:WF s)(h:D=[]\/(Zj D o=true/\wh o.op≠.bar/\wh o.op≠.apps))(hA:Acts C ops o s s'):Ap D s':=by
 rcases h with rfl|⟨h1,h2,h3⟩
 ·intro pq hpq;cases hpq
 ·cases hA with
  |bar hk _=>exact absurd hk h2
  |does _ hd=>
   obtain⟨sx,_⟩:=kY W h2 hd;have ox:=JI sx h3;intro pq hpq;obtain⟨k,j,b1,b2,b3⟩:=A pq hpq;simp only[Zj,List.all_eq_true,Bool.and_eq_true,bne_iff_ne] at h1;obtain⟨g1,g2⟩:=h1 pq hpq;exact⟨k,j,by rw[vm sx ox g1];exact b1,by rw[vm sx ox g2];exact b2,b3⟩
theorem Runs.front {D:List (Nat×Nat)}(hD:Dok D ops=true){i:Nat}{y:Oper}(hi:ops[i]?=some y):∀ {l1 l2:List Nat} {s t:St},WF s->Ap D s->(∀j∈l1,∃x,ops[j]?=some x/\vd D ops x y=true)->Runs C ops (l1++i :: l2) s t ->
  ∃s',Acts C ops y s s'/\Runs C ops (l1++l2) s' t
 |[],l2,s,t,_,_,_,h=>by
  cases h with
  |cons h1 h2 h3=>rw[hi] at h1;cases h1;exact⟨_,h2,h3⟩
 |j :: l1,l2,s,t,W,A,hj,h=>by
  cases h with
  |cons h1 h2 h3=>
   obtain⟨x,hx,hsw⟩:=hj j (by simp);rw[hx] at h1;cases h1;cases h2 with
   |bar hk _=>exact absurd hk (Wv hsw).1
   |does hb h2=>
    obtain⟨_,W'⟩:=kY W hb h2;obtain⟨s',g1,g2⟩:=Runs.front hD hi W' (A.acts W (Dok.spec hD hx) (.does hb h2)) (fun j' hj'=>hj j' (by simp[hj'])) h3;cases g1 with
    |bar hk _=>exact absurd hk (Wv hsw).2
    |does hk g1=>
     obtain⟨ax',k1,k2,k3⟩:=zkH W A hsw h2 g1;refine⟨_,.does hk k1,?_⟩;exact .cons hx (.does (Wv hsw).1 k2) (by rw[k3];exact g2)
theorem zdN (l:Array Bool)(i j:Nat)(hi:i<l.size):(l.setIfInBounds i true).getD j true=if j=i then true else l.getD j true:=by
 simp only[Array.getD_eq_getD_getElem?,Array.getElem?_setIfInBounds];by_cases h:i=j
 ·subst h;simp[hi]
 ·have h':¬j=i:=fun e=>h e.symm
  simp[h,h']
theorem zaS (l:Array Bool)(i j:Nat)(hi:i<l.size):(l.setIfInBounds i true).getD j false=if j=i then true else l.getD j false:=by
 simp only[Array.getD_eq_getD_getElem?,Array.getElem?_setIfInBounds];by_cases h:i=j
 ·subst h;simp[hi]
 ·have h':¬j=i:=fun e=>h e.symm
  simp[h,h']
theorem Ko {D:List (Nat×Nat)}(hD:Dok D ops=true)(hok:qy D ops=true)(hd:kG C.n ops.toList=true):∀(fuel:Nat) (listed:Array Bool) (l:List Nat) (s:St) (t:St) (σ:Mem) (G:Gh) (a:Act) (w:World),
  listed.size=ops.size->l.length<=fuel->l.Pairwise (· < ·)->(∀j,j∈l↔j<ops.size/\listed.getD j true=false)->Closed ops listed->Stands C σ G s a w->Ap D s->Runs C ops l s t->Q .normal t ->
  wpAny C.P .any ops (Lift C Q) fuel listed a w:=by
 intro fuel
 induction fuel with
 |zero=>
  intro listed l s t σ G a w hsz hf _ hl hcl S A hr hq;have:l=[]:=List.eq_nil_of_length_eq_zero (by omega);subst this;cases hr;refine⟨?_,σ,G,s,hq,S⟩;cases h:Region.ready .any ops listed with
  |nil=>rfl
  |cons j r=>
   have hj:j∈Region.ready .any ops listed:=by rw[h];simp
   obtain⟨h1,o,h2,_⟩:=mem_ready.1 hj;exact absurd ((hl j).2 ⟨(Array.getElem?_eq_some_iff.1 h2).1,h1⟩) (by simp)
 |succ fuel ih=>
  intro listed l s t σ G a w hsz hf hp hl hcl S A hr hq;refine⟨fun hready=>?_,fun i hi=>?_⟩
  ·cases l with
   |nil=>cases hr;exact⟨σ,G,s,hq,S⟩
   |cons j l=>
    exfalso;obtain⟨hjlt,hjun⟩:=(hl j).1 (by simp);have hoj:ops[j]?=some ops[j]:=Array.getElem?_eq_getElem hjlt;obtain⟨h2,_⟩:=W9 hok hoj;have:j∈Region.ready .any ops listed:=mem_ready.2 ⟨hjun,_,hoj,fun e he hb=>by
     have hlt:=h2 e he hb;have hnl:e.on ∉ j :: l:=fun hm=>by
      rcases List.mem_cons.1 hm with h|h
      ·omega
      ·have:=(List.pairwise_cons.1 hp).1 _ h;omega
     have hn:=mt (hl e.on).2 hnl;have hlt':e.on<listed.size:=by rw[hsz];omega
     cases hv:listed[e.on]? with
     |none=>simp at hv;omega
     |some b=>
      cases b with
      |true=>simp[Array.getD_eq_getD_getElem?,hv]
      |false=>exact absurd ⟨by omega,by simp[Array.getD_eq_getD_getElem?,hv]⟩ hn⟩
    rw[hready] at this;simp at this
  ·obtain⟨hiun,y,hy,hdeps⟩:=mem_ready.1 hi;have hilt:i<ops.size:=(Array.getElem?_eq_some_iff.1 hy).1;have hil:i∈l:=(hl i).2 ⟨hilt,hiun⟩;obtain⟨l1,l2,rfl⟩:=List.append_of_mem hil;obtain⟨hback,hsw⟩:=W9 hok hy;have hp':=List.pairwise_append.1 hp;have hl1:∀j∈l1,∃x,ops[j]?=some x/\vd D ops x y=true:=fun j hj=>by
    obtain⟨hjlt,hjun⟩:=(hl j).1 (by simp[hj]);have hoj:ops[j]?=some ops[j]:=Array.getElem?_eq_getElem hjlt;have hji:j<i:=hp'.2.2 j hj i (by simp);rcases hsw j _ hji hoj with hpath|h
    ·have hnow:∀e∈y.after,Region.binds .any e=true->listed.getD e.on false=true:=fun e he hb=>hdeps e he hb
     have h1:=hcl.path hpath (fun y' hy'=>by rw[hy] at hy';cases hy';exact hnow);have hjs:j<listed.size:=by rw[hsz];exact hjlt
     simp only[Array.getD_eq_getD_getElem?,Array.getElem?_eq_getElem hjs,Option.getD_some] at h1 hjun;rw[h1] at hjun;cases hjun
    ·exact⟨_,hoj,h⟩
   obtain⟨s1,hdo,hruns⟩:=Runs.front hD hy S.wf A hl1 hr;have A1:Ap D s1:=A.acts S.wf (Dok.spec hD hy) hdo;have hstep:=hdo.step;have hdst:∀d,y.dst=some d->d<C.n:=fun d hd'=>by
    have:=List.all_eq_true.1 hd y (by rw[<-Array.getElem?_toList] at hy;exact List.mem_of_getElem? hy);rw[hd'] at this;simpa using this
   have hnd:(l1++i :: l2).Nodup:=hp.imp (fun h=>Nat.ne_of_lt h);have hnext:=Vw S hstep hdst (next:=wpAny C.P .any ops (Lift C Q) fuel (listed.setIfInBounds i true)) (Lift C Q) (fun s' σ' G' a' w' h' S'=>by
    subst h';refine ih _ (l1++l2) _ t σ' G' a' w' (by simpa using hsz) (by simp at hf ⊢;omega) ?_ (fun j=>?_) ?_ S' A1 hruns hq
    ·exact hp.sublist (by simp)
    ·rw[zdN _ _ _ (by rw[hsz];exact hilt)];have hlj:=hl j;simp only[List.mem_append,List.mem_cons] at hlj ⊢;have hni:i ∉ l1/\i ∉ l2:=by
      rw[List.nodup_append] at hnd;refine⟨fun h=>hnd.2.2 i h i (by simp) rfl,(List.nodup_cons.1 hnd.2.1).1⟩
     constructor
     ·intro h;have hne:j≠i:=fun e=>by subst e;rcases h with h|h;exact hni.1 h;exact hni.2 h
      rw[if_neg hne];exact hlj.1 (by rcases h with h|h;exact .inl h;exact .inr (.inr h))
     ·rintro⟨h1,h2⟩;split at h2
      ·cases h2
      ·rename_i hne;rcases hlj.2 ⟨h1,h2⟩ with h|h|h
       ·exact .inl h
       ·exact absurd h hne
       ·exact .inr h
    ·intro i' y' hy' hl' e he hb;rw[zaS _ _ _ (by rw[hsz];exact hilt)] at hl' ⊢;split at hl'
     ·rename_i hii;subst hii;rw[hy] at hy';cases hy';split
      ·rfl
      ·exact hdeps e he hb
     ·split
      ·rfl
      ·exact hcl i' y' hy' hl' e he hb)
   unfold wpOp;simp only[hy];split
   ·rename_i hw;rw[if_pos hw] at hnext;exact .inl hnext
   ·rename_i hw;rw[if_neg hw] at hnext;exact hnext
theorem XV {D:List (Nat×Nat)}(hD:Dok D ops=true){id:Nat}(hm:C.P.follows .mixedOrders=true)(hok:qy D ops=true)(hd:kG C.n ops.toList=true)(A:Ap D s)(h:steps C ops ops.toList s (Q .normal)):DWp C (.region id ops true) Q s:=fun σ G a w S=>by
 obtain⟨t,h1,h2⟩:=vo (C:=C) (ops:=ops) ops.toList 0 (by simp) (Ka hok) h;rw[Array.length_toList,<-List.range_eq_range'] at h1;refine wp_region_any hm ?_;refine Ko hD hok hd ops.size _ (List.range ops.size) s t σ G a _ (by simp) (by simp) List.pairwise_lt_range (fun j=>?_) (fun i y _ hl=>?_) S.drew A h1 h2
 ·simp only[List.mem_range,Array.getD_eq_getD_getElem?];constructor
  ·intro h;exact⟨h,by simp[h]⟩
  ·intro h;exact h.1
 ·exfalso;simp only[Array.getD_eq_getD_getElem?,Array.getElem?_replicate] at hl;split at hl<;>simp at hl
theorem YQ {id:Nat}{l:List Oper}{x:Hd (DWp C (.region id l.toArray true) Q s)}(hm:C.P.follows .mixedOrders=true)(hok:US l.toArray=true)(hd:kG C.n l=true)(h:vP s (wt [] l) fun s=>ST C l.toArray l s (Q .normal)):Stop (DWp C (.region id l.toArray true) Q s) x:=fun σ G a w S=>by
 obtain⟨σ',s',S',h'⟩:=yF _ S h;exact XV (D:=[]) rfl hm hok (by simpa using hd) (fun _ hp=>by cases hp) (by simpa using h'.ok) σ' G a w S'
theorem drw {id:Nat}{l:List Oper}{x:Hd (DWp C (.region id l.toArray true) Q s)}(h:vP s (wt [] l) fun s=>ST C l.toArray l s (Q .normal))(hm:C.P.follows .mixedOrders=true:=by kernel_rfl)(hok:US l.toArray=true:=by kernel_rfl)(hd:kG C.n l=true:=by kernel_rfl):Stop (DWp C (.region id l.toArray true) Q s) x:=YQ hm hok hd h
theorem Jk (D:List (Nat×Nat)){id:Nat}{l:List Oper}{x:Hd (DWp C (.region id l.toArray true) Q s)}(hD:Dok D l.toArray=true)(hm:C.P.follows .mixedOrders=true)(hok:qy D l.toArray=true)(hd:kG C.n l=true)(A:Ap D s)(h:ST C l.toArray l s (Q .normal)):Stop (DWp C (.region id l.toArray true) Q s) x:=fun σ G a w S=>
 XV hD hm hok (by simpa using hd) A (by simpa using h.ok) σ G a w S
end
end Go.Enc
end
