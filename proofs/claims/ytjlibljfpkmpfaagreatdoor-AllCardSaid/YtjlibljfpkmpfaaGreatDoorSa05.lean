/-
  A row that stays from now on; before a call the rows that it is handed are made so. Code as a transformer of states; loops; the contract of a function out of its body. Ghost moves (a nil slice as a row of one's own; a row that stays from now on), returns, the contract out of the body.
-/
import Derived.Test.YtjlibljfpkmpfaaGreatDoorSa04
import Derived.Deep.LoopGhost
set_option maxRecDepth 100000
set_option linter.unusedSimpArgs false
set_option linter.unusedVariables false
section
namespace Go.Enc
open Go.RowKit
section
variable {C:Ctx} {σ:Mem} {G:Gh} {s:St} {a:Act} {w:World} {Q:Exit->St->Prop}
@[simp] theorem jX:∀cells:List D,asDs (cells.map T.d)=some cells
 |[]=>rfl
 |c :: cs=>by simp[asDs,jX cs]
end
def Kl (s:St)(k:Nat)(o:Obj)(ds:Option (List D))(K:St->Prop):Prop:=match ds with
 |some ds=>K (s.comm k o ds)
 |none=>K s
def zP (s:St)(k:Nat)(ob:Option Obj)(K:St->Prop):Prop:=match ob with
 |some o=>Kl s k o (asDs o.cells) K
 |none=>K s
def jW (s:St)(x:T)(K:St->Prop):Prop:=match x with
 |.gs k=>zP s k (s.h k) K
 |.d _=>K s
 |.ptr _ _=>K s
 |.ipr _ k=>zP s k (s.h k) K
 |.vw _ _ _=>K s
 |.hid _=>K s
 |.tp _ _=>K s
theorem Kk {C:Ctx}{σ:Mem}{G:Gh}{s:St}{a:Act}{w:World}(S:Stands C σ G s a w){k:Nat}{K:St->Prop}(h:zP s k (s.h k) K):∃σ' s',Stands C σ' G s' a w/\K s':=by
 simp only[zP] at h;cases hk:s.h k with
 |none=>rw[hk] at h;exact⟨σ,s,S,h⟩
 |some o=>
  rw[hk] at h;simp only[Kl] at h;cases hd:asDs o.cells with
  |none=>rw[hd] at h;exact⟨σ,s,S,h⟩
  |some ds=>
   rw[hd] at h;obtain⟨σ',S'⟩:=S.comm hk hd;exact⟨σ',_,S',h⟩
def vP (s:St):List Operand->(St->Prop)->Prop
 |[],K=>K s
 |x :: r,K=>jW s (s.ev x) fun s'=>vP s' r K
theorem Wq {C:Ctx}{σ:Mem}{G:Gh}{s:St}{a:Act}{w:World}(S:Stands C σ G s a w){x:T}{K:St->Prop}(h:jW s x K):∃σ' s',Stands C σ' G s' a w/\K s':=by
 cases x with
 |gs k=>exact Kk S h
 |d _=>exact⟨σ,s,S,h⟩
 |ptr _ _=>exact⟨σ,s,S,h⟩
 |ipr _ _=>exact Kk S h
 |vw _ _ _=>exact⟨σ,s,S,h⟩
 |hid _=>exact⟨σ,s,S,h⟩
 |tp _ _=>exact⟨σ,s,S,h⟩
theorem yF {C:Ctx}{G:Gh}{a:Act}{w:World}:∀(l:List Operand) {σ:Mem} {s:St} {K:St->Prop},Stands C σ G s a w->vP s l K->∃σ' s',Stands C σ' G s' a w/\K s'
 |[],σ,s,_,S,h=>⟨σ,s,S,h⟩
 |_ :: r,_,_,_,S,h=>by
  simp only[vP] at h;obtain⟨σ1,s1,S1,h1⟩:=Wq S h;exact yF r S1 h1
def XN:List (Nat×Operand)->Operand->Operand
 |[],x=>x
 |(d,y) :: r,.tmp t=>if t=d then y else XN r (.tmp t)
 |_ :: _,x=>x
def ZI (env:List (Nat×Operand)):List Operand->List Operand
 |[]=>[]
 |.tmp t :: r=>XN env (.tmp t) :: ZI env r
 |_ :: r=>ZI env r
def wt (env:List (Nat×Operand)):List Oper->List Operand
 |[]=>[]
 |⟨d,op,_,_,_,_⟩ :: r=>match op with
  |.move x=>match d with
   |some d=>wt ((d,x) :: env) r
   |none=>wt env r
  |.call { callee:=.value (.func g),args,.. }=>if isP g then wt env r else ZI env args.toList++wt env r
  |.call { callee:=.value _,args,.. }=>ZI env args.toList++wt env r
  |_=>wt env r
end Go.Enc
end
section
namespace Go.Enc
open Go.RowKit
def Lift (C:Ctx)(Q:Exit->St->Prop):Exit->Act->World->Prop
 |.panic _,_,_=>False
 |.outgrown,_,_=>False
 |e,a,w=>∃σ G s,Q e s/\Stands C σ G s a w
def DWp (C:Ctx)(c:Code)(Q:Exit->St->Prop)(s:St):Prop:=∀σ G a w,Stands C σ G s a w->c.wp C.P (Lift C Q) a w
def Thn (next:St->Prop)(Q:Exit->St->Prop):Exit->St->Prop
 |.normal,s=>next s
 |e,s=>Q e s
def InB (id:Nat)(Q:Exit->St->Prop):Exit->St->Prop
 |.exit id',s=>if id'=id then Q .normal s else Q (.exit id') s
 |e,s=>Q e s
def Q1 (t:T)(p q:Prop):Prop:=
 match t with
 |.d (.v (.bool b))=>(b=true->p)/\(b=false->q)
 |_=>False
def kG (n:Nat)(ops:List Oper):Bool:=ops.all fun o=>match o.dst with|some d=>d<n|none=>true
def jG (n:Nat):Code->Bool
 |.region _ ops _=>kG n ops.toList
 |.seq a b=>jG n a&&jG n b
 |.cond _ a b=>jG n a&&jG n b
 |.block _ a=>jG n a
 |.loop a=>jG n a
 |.scope a=>jG n a
 |_=>true
def Drawn (C:Ctx)(id:Nat)(ops:Array Oper)(Q:Exit->St->Prop)(s:St):Prop:=DWp C (.region id ops true) Q s
def dcode (C:Ctx):Code->(Exit->St->Prop)->St->Prop
 |.skip,Q,s=>Q .normal s
 |.seq x y,Q,s=>dcode C x (Thn (dcode C y Q) Q) s
 |.cond c x y,Q,s=>Q1 (s.ev c) (dcode C x Q s) (dcode C y Q s)
 |.block id c,Q,s=>dcode C c (InB id Q) s
 |.region id ops false,Q,s=>vP s (wt [] ops.toList) fun s=>steps C ops ops.toList s (Q .normal)
 |.region id ops true,Q,s=>Drawn C id ops Q s
 |.ret,Q,s=>Q .ret s
 |.exit id,Q,s=>Q (.exit id) s
 |.label _,Q,s=>Q .normal s
 |c,Q,s=>DWp C c Q s
section
variable {C:Ctx} {σ:Mem} {G:Gh} {s:St} {a:Act} {w:World} {Q:Exit->St->Prop}
theorem Lift.mono {Q':Exit->St->Prop}(h:∀e s,Q e s->Q' e s)(e:Exit)(a:Act)(w:World):Lift C Q e a w->Lift C Q' e a w:=by
 cases e<;>first|exact id|(rintro⟨σ,G,s,h1,h2⟩;exact⟨σ,G,s,h _ _ h1,h2⟩)
theorem Vw {ops:Array Oper}{o:Oper}{K:St->Prop}(S:Stands C σ G s a w)(h:step C ops o s K)(hd:∀d,o.dst=some d->d<C.n){next:Act->World->Prop}(Q:Exit->Act->World->Prop)
  (hk:∀s' σ' G' a' w',K s'->Stands C σ' G' s' a' w'->next a' w') :
  if Region.wanted o (yielded ops a.tmps) then o.wp C.P a w next Q else next (a.put o.dst undef) w:=by
 unfold step at h;split at h
 ·rename_i hg;rw[if_pos (by simp[Region.wanted,hg])];exact Qe S h hd Q hk
 ·rename_i j b hg;split at h
  ·rename_i d hj;have hs:=S.slot d;have hj':((ops[j]?).bind fun x=>x.dst)=some d:=hj;have hget:∀v,a.tmps.getD d undef=v->v≠undef->a.tmps[d]?=some v:=fun v h1 h2=>by
    rw[Array.getD_eq_getD_getElem?] at h1;cases h3:a.tmps[d]? with
    |none=>rw[h3] at h1;exact absurd h1.symm h2
    |some u=>rw[h3] at h1;simpa using h1
   split at h
   ·rename_i hg2;unfold gd at hg2;split at hg2
    ·rename_i c b' hc;rw[hc] at hs;simp only[RepT,Rep] at hs;have h2:=hget _ hs (by simp[undef]);simp only[Option.some.injEq,beq_iff_eq] at hg2;subst hg2;rw[if_pos (by simp[Region.wanted,hg,yielded,hj',h2])];exact Qe S h hd Q hk
    ·simp at hg2
    ·cases hg2
   ·rename_i hg2;have hnot:Region.wanted o (yielded ops a.tmps)=false:=by
     unfold gd at hg2;split at hg2
     ·rename_i c b' hc;rw[hc] at hs;simp only[RepT,Rep] at hs;have h2:=hget _ hs (by simp[undef]);simp only[Option.some.injEq,beq_eq_false_iff_ne] at hg2;simp[Region.wanted,hg,yielded,hj',h2,hg2]
     ·rename_i vs b' hc;rw[hc] at hs;simp only[RepT,Rep] at hs;rw[Array.getD_eq_getD_getElem?] at hs;cases h3:a.tmps[d]? with
      |none=>simp[Region.wanted,hg,yielded,hj',h3]
      |some u=>
       rw[h3] at hs;simp only[Option.getD_some] at hs;subst hs;simp[Region.wanted,hg,yielded,hj',h3]
     ·cases hg2
    rw[hnot,if_neg (by simp)];exact hk _ σ G _ _ h (S.put (by simp[RepT,Rep]) (by simp[T.ref]) hd)
   ·exact h.elim
  ·exact h.elim
theorem ZL {ops:Array Oper}:∀(l:List Oper) {s:St} {a:Act} {w:World} {σ:Mem} {G:Gh} {K:St->Prop},kG C.n l=true->Stands C σ G s a w->steps C ops l s K->(∀s,K s->Q .normal s)->wpList C.P ops (Lift C Q) l a w
 |[],s,a,w,σ,G,K,_,S,h,hq=>⟨σ,G,s,hq s h,S⟩
 |o :: l,s,a,w,σ,G,K,hd,S,h,hq=>by
  simp only[kG,List.all_cons,Bool.and_eq_true] at hd;have hd':∀d,o.dst=some d->d<C.n:=fun d e=>by have:=hd.1;rw[e] at this;simpa using this
  have:=Vw S h hd' (next:=wpList C.P ops (Lift C Q) l) (Lift C Q) (fun s' σ' G' a' w' h' S'=>ZL l hd.2 S' h' hq);unfold wpList;split
  ·rename_i hw;rw[if_pos hw] at this;exact .inl this
  ·rename_i hw;rw[if_neg hw] at this;exact this
theorem Ub {id:Nat}{ops:Array Oper}(hd:kG C.n ops.toList=true)(h:steps C ops ops.toList s (Q .normal)):DWp C (.region id ops false) Q s:=
 fun _ _ _ _ S=>wp_region_list (ZL ops.toList hd S h fun _ h=>h)
theorem zgA {x y:Code}(h:DWp C x (Thn (DWp C y Q) Q) s):DWp C (.seq x y) Q s:=fun σ G a w S=>by
 refine wp_seq (wp_mono (h σ G a w S) fun e a' w' h'=>?_);cases e with
 |normal=>obtain⟨σ',G',s',h1,S'⟩:=h';exact h1 σ' G' a' w' S'
 |_=>exact h'
theorem zdY {c:Code}{Q':Exit->St->Prop}(h:DWp C c Q s)(hq:∀e s,Q e s->Q' e s):DWp C c Q' s:=fun σ G a w S=>wp_mono (h σ G a w S) (Lift.mono hq)
theorem jV:∀(c:Code) {Q:Exit->St->Prop} {s:St},jG C.n c=true->dcode C c Q s->DWp C c Q s
 |.skip,Q,s,_,h=>fun σ G a w S=>wp_skip ⟨σ,G,s,h,S⟩
 |.ret,Q,s,_,h=>fun σ G a w S=>wp_ret ⟨σ,G,s,h,S⟩
 |.exit id,Q,s,_,h=>fun σ G a w S=>wp_exit ⟨σ,G,s,h,S⟩
 |.label l,Q,s,_,h=>fun σ G a w S=>wp_label ⟨σ,G,s,h,S⟩
 |.seq x y,Q,s,hf,h=>by
  simp only[jG,Bool.and_eq_true] at hf;refine zgA (zdY (jV x hf.1 h) fun e s' h'=>?_);cases e with
  |normal=>exact jV y hf.2 h'
  |_=>exact h'
 |.cond c x y,Q,s,hf,h=>fun σ G a w S=>by
  simp only[jG,Bool.and_eq_true] at hf;simp only[dcode,Q1] at h;split at h
  ·rename_i b hb;have hc:=S.ev c;rw[hb] at hc;simp only[RepT,Rep] at hc;exact wp_cond_split hc (fun ht=>jV x hf.1 (h.1 ht) σ G a w S) (fun ht=>jV y hf.2 (h.2 ht) σ G a w S)
  ·exact h.elim
 |.block id c,Q,s,hf,h=>fun σ G a w S=>by
  refine wp_block (wp_mono (jV c hf h σ G a w S) fun e a' w' h'=>?_);cases e with
  |exit id'=>
   obtain⟨σ',G',s',h1,S'⟩:=h';simp only[InB] at h1;simp only[Exit.inBlock];split
   ·rename_i e;rw[if_pos e] at h1;exact⟨σ',G',s',h1,S'⟩
   ·rename_i e;rw[if_neg e] at h1;exact⟨σ',G',s',h1,S'⟩
  |_=>exact h'
 |.region id ops false,Q,s,hf,h=>fun σ G a w S=>by
  obtain⟨σ',s',S',h'⟩:=yF _ S (by simpa only[dcode] using h);exact Ub hf h' σ' G a w S'
 |.region id ops true,Q,s,_,h=>h
 |.loop _,_,_,_,h=>h
 |.rangeFunc ..,_,_,_,h=>h
 |.scope _,_,_,_,h=>h
 |.goto _,_,_,_,h=>h
 |.refuse _,_,_,_,h=>h
def TW (x y:T):Prop:=y=x\/y = .d .any\/(x = .d (.v (.slice none 0 0))/\∃n,y = .d (.sl n []))
structure Weak (s s':St):Prop where
 t:∀i,TW (s.t i) (s'.t i)
 h:∀k o,s'.h k=some o->s.h k=some o
 live:∀i k,(s'.t i).ref=some k->s'.h k≠none
 deep:∀k o,s'.h k=some o->∀c∈o.cells,∀k',c.ref=some k'->s'.h k'≠none
theorem TW.rep {x y:T}(h:TW x y){u:Value}(hr:RepT σ G x u):RepT σ G y u:=by
 rcases h with rfl|rfl|⟨rfl,n,rfl⟩
 ·exact hr
 ·simp[RepT,Rep]
 ·simp only[RepT,Rep] at hr ⊢;exact .inl ⟨hr,trivial⟩
theorem Stands.weak (S:Stands C σ G s a w){s':St}(h:Weak s s'):Stands C σ G s' a w:=
 {S with
  fin:=by
   obtain⟨N,hN⟩:=S.fin;exact⟨N,fun k hk=>by
    cases hs:s'.h k with
    |none=>rfl
    |some o=>have:=hN k hk;rw[h.h k o hs] at this;cases this⟩
  slot:=fun i=>(h.t i).rep (S.slot i)
  live:=h.live
  obj:=fun k o ho=>S.obj k o (h.h k o ho)
  deep:=h.deep
  sep:=fun k k' o o' b h1 h2=>S.sep k k' o o' b (h.h k o h1) (h.h k' o' h2)
  own:=fun k o b h1=>S.own k o b (h.h k o h1) }
theorem zac {α:Type}{c:Code}(Sx:α->St)(μ:α->Nat)(x0:α)(h0:Weak s (Sx x0))(hf:jG C.n c=true)
  (round:∀x,dcode C c (Thn (fun s'=>∃x',Weak s' (Sx x')/\μ x'<μ x) Q) (Sx x)):DWp C (.loop c) Q s:=fun σ G a w S=>by
 refine wp_loop_ghost (fun n a w=>∃x σ G,μ x=n/\Stands C σ G (Sx x) a w) (μ x0) ⟨x0,σ,G,rfl,S.weak h0⟩ ?_;rintro n a w ⟨x,σ,G,rfl,S⟩;refine wp_mono (jV c hf (round x) σ G a w S) fun e a' w' h'=>?_
 cases e with
 |normal=>
  obtain⟨σ',G',s',⟨x',h1,h2⟩,S'⟩:=h';exact⟨μ x',h2,x',σ',G',rfl,S'.weak h1⟩
 |_=>exact h'
end
end Go.Enc
end
section
namespace Go.Enc
open Go.RowKit
section
variable {C:Ctx} {σ:Mem} {G:Gh} {s:St} {a:Act} {w:World} {Q:Exit->St->Prop}
theorem jF {c:Code}(x k:Nat)(e:TypeId)(size:Nat)(hx:s.t x = .d (.v (.slice none 0 0)))(hk:s.h k=none)
  (h:DWp C c Q { t:=upd s.t x (.gs k),h:=upd s.h k (some ⟨some (e,size,true),[]⟩) }) (hkb:C.kb<=k:=by exact Nat.zero_le _):DWp C c Q s:=fun σ G a w S=>by
 have hrow:w.grownBy w none:=⟨rfl,rfl,rfl,Nat.le_refl _,fun _ _ _=>rfl⟩;have S1:=S.fresh (g:=(none,.slice none 0 0)) (o:=⟨some (e,size,true),[]⟩) hkb hk hrow (by simp) (by simp) (by
  simp only[ObjIs,wq];exact⟨0,[],World.ownsRow_nil w C.base e size,rfl,rfl,fun _ _=>trivial⟩) (by simp) (by simp)
 refine h σ _ a w { S1 with slot:=fun i=>?_,live:=fun i j hj=>?_ }
 ·simp only[upd];split
  ·rename_i e;subst e;have:=S.slot i;rw[hx] at this;simp only[RepT,Rep] at this;simp[RepT,this,wq]
  ·exact S1.slot i
 ·simp only[upd] at hj;split at hj
  ·simp only[T.ref,Option.some.injEq] at hj;subst hj;simp[wq]
  ·exact S1.live i j hj
def resD (C:Ctx)(s:St):List ResultVar->Option (List D)
 |[]=>some []
 |.tmp t :: r=>match s.t t with
  |.d x=>(resD C s r).map (x :: ·)
  |_=>none
 |.cell p t :: r=>match s.t p with
  |.ptr k off=>match xe C.P C.E s.h t (.ptr k off) with
   |some (.d x)=>(resD C s r).map (x :: ·)
   |_=>none
  |_=>none
def xS:List D->D
 |[x]=>x
 |xs=>.tup xs
def qn (s:St):List ResultVar->(St->Prop)->Prop
 |[],K=>K s
 |.tmp t :: r,K=>jW s (s.t t) fun s'=>qn s' r K
 |.cell _ _ :: r,K=>qn s r K
theorem yE {C:Ctx}{G:Gh}{a:Act}{w:World}:∀(l:List ResultVar) {σ:Mem} {s:St} {K:St->Prop},Stands C σ G s a w->qn s l K->∃σ' s',Stands C σ' G s' a w/\K s'
 |[],σ,s,_,S,h=>⟨σ,s,S,h⟩
 |.tmp _ :: r,_,_,_,S,h=>by
  simp only[qn] at h;obtain⟨σ1,s1,S1,h1⟩:=Wq S h;exact yE r S1 h1
 |.cell _ _ :: r,_,_,_,S,h=>yE r S (by simpa only[qn] using h)
def Fin (C:Ctx)(rs:List ResultVar)(s:St):Res->Prop
 |.data d=>qn s rs fun s=>∃ds,resD C s rs=some ds/\xS ds=d
 |.own e size nn cells=>∃t k,rs=[.tmp t]/\s.t t = .gs k/\s.h k=some ⟨some (e,size,nn),cells.map .d⟩
 |.ownP e size nn cells y=>∃t t' k,rs=[.tmp t,.tmp t']/\s.t t = .gs k/\s.h k=some ⟨some (e,size,nn),cells.map .d⟩/\s.t t' = .d y
def Post (C:Ctx)(rs:List ResultVar)(r:Res):Exit->St->Prop
 |.normal,s=>Fin C rs s r
 |.ret,s=>Fin C rs s r
 |_,_=>False
def WC (tmps:Array Value):ResultVar->Sem Value
 |.tmp t=>pure (tmps.getD t undef)
 |.cell p t=>do loadVar t (<-asAddr (tmps.getD p undef))
theorem Qm (fn:Func)(tmps:Array Value):results fn tmps=(do let vs <-fn.results.mapM (WC tmps);pure (if h:vs.size=1 then vs[0] else .tuple vs)):=rfl
theorem vZ (S:Stands C σ G s a w):∀(rs:List ResultVar) (ds:List D),resD C s rs=some ds ->
  ∃us,(rs.mapM (WC a.tmps)).run C.P w = .ok us w/\RepL σ ds us
 |[],ds,h=>by simp only[resD,Option.some.injEq] at h;subst h;exact⟨[],by simp,by simp[RepL]⟩
 |.tmp t :: r,ds,h=>by
  simp only[resD] at h;have hs:=S.slot t;split at h
  ·rename_i x hx;rw[hx] at hs;simp only[Option.map_eq_some_iff] at h;obtain⟨ds',h',rfl⟩:=h;obtain⟨us,h1,h2⟩:=vZ S r ds' h';refine⟨a.tmps.getD t undef :: us,?_,by simp only[RepL];exact⟨_,_,rfl,hs,h2⟩⟩;simp only[List.mapM_cons,Sem.run_bind,WC,Sem.run_pure,Result.andThen_ok,h1]
  ·cases h
 |.cell p t :: r,ds,h=>by
  simp only[resD] at h;have hs:=S.slot p;split at h
  ·rename_i k off hx;rw[hx] at hs;split at h
   ·rename_i x hl;simp only[Option.map_eq_some_iff] at h;obtain⟨ds',h',rfl⟩:=h;obtain⟨us,h1,h2⟩:=vZ S r ds' h';obtain⟨u,g1,g2,_⟩:=Kb S hl hs;simp only[RepT] at hs;obtain⟨b,_,hp⟩:=hs;refine⟨u :: us,?_,by simp only[RepL];exact⟨_,_,rfl,g2,h2⟩⟩;rw[hp] at g1;simp only[Instr.loadAt,Instr.sureAddr,Sem.run_bind,Sem.run_pure,Result.andThen_ok] at g1;have hone:(WC a.tmps (.cell p t)).run C.P w = .ok u w:=by
     simp only[WC,Sem.run_bind,hp,asAddr,Sem.run_pure,Result.andThen_ok,g1]
    simp only[List.mapM_cons,Sem.run_bind,hone,Sem.run_pure,Result.andThen_ok,h1]
   ·cases h
  ·cases h
theorem Fin.sound {P:Program}(S:Stands C σ G s a w)(hP:C.P=P){fn:Func}{r:Res}(h:Fin C fn.results.toList s r)(hb:C.base=C.w0.heap.size)(hinv:∀b o u,C.σ0 b o=some u->C.w0.cell? ⟨b,o,none⟩=some u)(hlow:∀b u,C.E b=some u->b<C.base) :
  ∃u,(results fn a.tmps).run P w = .ok u w/\After C.σ0 C.w0 r u w:=by
 subst hP;have⟨σ,s,S,h⟩:∃σ s,Stands C σ G s a w/\(match r with | .data d=>∃ds,resD C s fn.results.toList=some ds/\xS ds=d|r=>Fin C fn.results.toList s r):=by
  cases r with
  |data d=>exact yE _ S h
  |own e size nn cells=>exact⟨σ,s,S,h⟩
  |ownP e size nn cells y=>exact⟨σ,s,S,h⟩
 have after:∀u,zF σ C.w0.heap.size w r u->After C.σ0 C.w0 r u w:=fun u hu=>
  ⟨σ,S.le,fun b o hb'=>S.old b o (by rw[hb];exact hb'),S.inv,fun b o v h1 h2=>S.hard b o v h2 (by
   rw[<-hb] at h1;cases he:C.E b with
   |none=>rfl
   |some u=>exact absurd (hlow b u he) (by omega)),by rw[<-hb];exact S.bel,hu⟩
 have hmap:∀us,(fn.results.toList.mapM (WC a.tmps)).run C.P w = .ok us w ->
   (results fn a.tmps).run C.P w = .ok (if h:us.toArray.size=1 then us.toArray[0] else .tuple us.toArray) w:=fun us h=>by
  rw[Qm,Array.mapM_eq_mapM_toList];simp only[Sem.run_bind,Sem.run_map,h,Result.andThen_ok,Sem.run_pure]
 cases r with
 |data d=>
  simp only at h;obtain⟨ds,h1,rfl⟩:=h;obtain⟨us,h2,h3⟩:=vZ S _ ds h1;refine⟨_,hmap us h2,after _ ?_⟩;simp only[zF];cases ds with
  |nil=>simp only[RepL] at h3;subst h3;simp[xS,Rep,RepL]
  |cons x ds=>
   simp only[RepL] at h3;obtain⟨u,r,rfl,h4,h5⟩:=h3;cases ds with
   |nil=>simp only[RepL] at h5;subst h5;simpa [xS] using h4
   |cons y ds=>
    simp only[RepL] at h5;obtain⟨u',r',rfl,h6,h7⟩:=h5;simp only[xS,List.size_toArray,List.length_cons];rw[dif_neg (by omega)];simp only[Rep];exact⟨_,rfl,by simp only[RepL];exact⟨u,_,rfl,h4,u',r',rfl,h6,h7⟩⟩
 |own e size nn cells=>
  simp only[Fin] at h;obtain⟨t,k,hr,ht,hk⟩:=h;have hs:=S.slot t;rw[ht] at hs;simp only[RepT] at hs;have hres:fn.results = #[.tmp t]:=by rw[<-Array.toArray_toList (xs:=fn.results),hr]
  refine⟨a.tmps.getD t undef,results_tmp hres _ _ _,after _ ?_⟩;have H:=S.obj k _ hk;simp only[ObjIs] at H;obtain⟨n,us,g1,g2,g3,g4⟩:=H;simp only[zF];rw[hs];refine⟨n,us,by rw[<-hb];exact g1,g2.data ?_,fun b hb'=>S.own k _ b hk (by rw[g3];exact hb'),fun h1 h2=>g4 h1 (by simp[h2])⟩;exact jX cells
 |ownP e size nn cells y=>
  simp only[Fin] at h;obtain⟨t,t',k,hr,ht,hk,hy⟩:=h;have hs:=S.slot t;rw[ht] at hs;simp only[RepT] at hs;have hs':=S.slot t';rw[hy] at hs';have hmap2:=hmap [a.tmps.getD t undef,a.tmps.getD t' undef] (by rw[hr];simp[WC]);refine⟨_,hmap2,after _ ?_⟩;have H:=S.obj k _ hk;simp only[ObjIs] at H;obtain⟨n,us,g1,g2,g3,g4⟩:=H;simp only[zF];rw[hs];refine⟨_,_,by simp,hs',n,us,by rw[<-hb];exact g1,g2.data ?_,fun b hb'=>S.own k _ b hk (by rw[g3];exact hb'),fun h1 h2=>g4 h1 (by simp[h2])⟩;exact jX cells
def St.init (args:List D):St:={ t:=fun i=>match args[i]? with|some x=>.d x|none=>.d .any,h:=fun _=>none }
theorem zaj {P:Program}{E:Nat->Option Value}{f:FuncId}{fn:Func}{c:Code}{args:List D}{r:Res}(hf:P.funcs[f]?=some fn)(hb:fn.body=some c)(hname:(fn.name == "runtime.NumGoroutine")=false)
  {n:Nat} (hn:fn.ntmps=n) (hfit:jG n c=true) (ha:args.length<=n) {rs:List ResultVar} (hrs:fn.results.toList=rs)
  (h:∀C:Ctx,C.P=P->C.E=E->C.n=n->C.kb=0->dcode C c (Post C rs r) (St.init args)):DCall P E f args r:=by
 subst hrs;intro σ w us hF hargs o a next Q hnext
 have hul:=hargs.length;have hcall:(callFunc f us.toArray).run P w = .ok (.enter f us.toArray) w:=by
  have hne:¬(fn.name = "runtime.NumGoroutine"):=by simpa using hname
  simp[callFunc,hf,hne,hb]
 rw[hcall];rw[Oper.upon_enter]
 let C:Ctx:={ P:=P,E:=E,σ0:=σ,w0:=w,base:=w.heap.size,n:=n,kb:=0,df:=[] }
 have S:Stands C σ (fun _=>(none,undef)) (St.init args) { tmps:=us.toArray++Array.replicate (fn.ntmps-us.toArray.size) undef,defers:=[] } w:=by
  refine { bas:=Nat.le_refl _,glob:=hF.glob,tab:=hF.tab,le:=Mem.le_refl _,old:=fun _ _ _=>rfl,inv:=hF.inv,hard:=hF.hard,gp:=fun g t x h=>⟨(hF.gp g t x h).lt,hF.gp g t x h⟩,bel:=Below.refl _ _,oth:=KeepsOthers.refl _,dfr:=rfl,siz:=by simp[C,hn];omega,slot:=fun i=>?_,live:=fun i k hk=>?_,obj:=fun k o ho=>by simp[St.init] at ho,deep:=fun k o ho=>by simp[St.init] at ho,sep:=fun k k' o o' b ho=>by simp[St.init] at ho,own:=fun k o b ho=>by simp[St.init] at ho,keep:=fun k h=>absurd h (Nat.not_lt_zero k),fin:=⟨0,fun _ _=>rfl⟩ }
  ·simp only[St.init];cases hi:args[i]? with
   |none=>simp[RepT,Rep]
   |some x=>
    obtain⟨u,h1,h2⟩:=hargs.get i x hi;have hlt:i<us.length:=by
     rcases Nat.lt_or_ge i us.length with h|h
     ·exact h
     ·rw[List.getElem?_eq_none h] at h1;cases h1
    simp only[RepT];rw[Array.getD_eq_getD_getElem?,Array.getElem?_append_left (by simpa using hlt)]
    simpa [h1] using h2
  ·simp only[St.init] at hk;split at hk<;>simp[T.ref] at hk
 have hwp:=jV (C:=C) c hfit (h C rfl rfl rfl rfl) σ _ _ w S;refine calls_of_wp hf hb (wp_mono hwp fun e a' w' h'=>?_);have fin:(∃σ' G' s',Fin C fn.results.toList s' r/\Stands C σ' G' s' a' w')->a'.defers=[]/\∃v,(results fn a'.tmps).run P w' = .ok v w'/\next (a.put o.dst v) w':=fun ⟨σ',G',s',h1,S'⟩=>by
  obtain⟨u,h2,h3⟩:=Fin.sound S' rfl h1 rfl hF.inv (fun b u hE=>wT (hF.inv _ _ _ (hF.glob b u hE)));exact⟨S'.dfr,u,h2,hnext u w' h3⟩
 cases e with
 |normal=>exact fin h'
 |ret=>exact fin h'
 |exit id=>obtain⟨_,_,_,h1,_⟩:=h';exact h1.elim
 |goto l=>obtain⟨_,_,_,h1,_⟩:=h';exact h1.elim
 |panic ch=>exact h'.elim
 |outgrown=>exact h'.elim
end
end Go.Enc
end
