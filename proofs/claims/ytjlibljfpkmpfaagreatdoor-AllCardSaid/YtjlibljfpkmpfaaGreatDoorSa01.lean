/-
  A logic of data over the walk's own rules: values read as data (D), local blocks are told by keys, calls by contracts on data.
-/
import Derived.WalkKit
import Derived.Orders
import Derived.RangeFuncOwn
set_option maxRecDepth 100000
set_option linter.unusedSimpArgs false
set_option linter.unusedVariables false
section
namespace Go.Enc
open Go.RowKit
abbrev Mem:=Nat->Nat->Option Value
inductive D where
 |v (x:Value)
 |sl (esz:Nat) (cells:List D)
 |agg (cells:List D)
 |tup (vs:List D)
 |ip (t:TypeId) (cells:List D)
 |pd (cells:List D) (off:Nat)
 |fn (g:FuncId) (caps:List D)
 |any
mutual
def Rep (σ:Mem):D->Value->Prop
 |.v x,u=>u=x
 |.sl esz cells,u=>(u = .slice none 0 0/\cells=[]) \/
   (∃b o len cap,u = .slice (some ⟨b,o,none⟩) len cap/\cells.length=len*esz/\len<=cap/\cap<=maxLen/\RepC σ cells b o) \/
   ∃a cap,u = .slice (some a) 0 cap/\cells=[]/\cap<=maxLen
 |.agg cells,u=>∃us,u = .agg us/\RepU σ cells us.toList
 |.tup vs,u=>∃us,u = .tuple us/\RepL σ vs us.toList
 |.ip t cells,u=>∃b o,u = .iface t (.pointer (some ⟨b,o,none⟩))/\RepC σ cells b o
 |.pd cells off,u=>∃b o,u = .pointer (some ⟨b,o+off,none⟩)/\RepC σ cells b o
 |.fn g caps,u=>∃us,u = .func (.func g) #[] us/\RepL σ caps us.toList
 |.any,_=>True
def RepL (σ:Mem):List D->List Value->Prop
 |[],us=>us=[]
 |d :: ds,us=>∃u r,us=u :: r/\Rep σ d u/\RepL σ ds r
def RepU (σ:Mem):List D->List Value->Prop
 |[],us=>us=[]
 |d :: ds,us=>∃u r,us=u :: r/\u.oneCell'=true/\Rep σ d u/\RepU σ ds r
def RepC (σ:Mem):List D->Nat->Nat->Prop
 |[],_,_=>True
 |d :: ds,b,o=>(∃u,σ b o=some u/\u.oneCell'=true/\Rep σ d u)/\RepC σ ds b (o+1)
end
def Mem.le (σ σ':Mem):Prop:=∀b o u,σ b o=some u->σ' b o=some u
theorem Mem.le_refl (σ:Mem):σ.le σ:=fun _ _ _ h=>h
theorem Mem.le_trans {a b c:Mem}(h:a.le b)(k:b.le c):a.le c:=fun _ _ _ x=>k _ _ _ (h _ _ _ x)
mutual
theorem Rep.mono {σ σ':Mem}(h:σ.le σ'):∀(d:D) (u:Value),Rep σ d u->Rep σ' d u
 |.v _,_,hr=>by simpa [Rep] using hr
 |.sl _ cells,_,hr=>by
  simp only[Rep] at hr ⊢;rcases hr with hr|⟨b,o,len,cap,h1,h2,h3,h4,h5⟩|hr
  ·exact .inl hr
  ·exact .inr (.inl ⟨b,o,len,cap,h1,h2,h3,h4,RepC.mono h cells b o h5⟩)
  ·exact .inr (.inr hr)
 |.agg cells,_,hr=>by
  simp only[Rep] at hr ⊢;obtain⟨us,h1,h2⟩:=hr;exact⟨us,h1,RepU.mono h cells _ h2⟩
 |.tup vs,_,hr=>by
  simp only[Rep] at hr ⊢;obtain⟨us,h1,h2⟩:=hr;exact⟨us,h1,RepL.mono h vs _ h2⟩
 |.ip _ cells,_,hr=>by
  simp only[Rep] at hr ⊢;obtain⟨b,o,h1,h2⟩:=hr;exact⟨b,o,h1,RepC.mono h cells b o h2⟩
 |.pd cells _,_,hr=>by
  simp only[Rep] at hr ⊢;obtain⟨b,o,h1,h2⟩:=hr;exact⟨b,o,h1,RepC.mono h cells b o h2⟩
 |.fn g caps,_,hr=>by
  simp only[Rep] at hr ⊢;obtain⟨us,h1,h2⟩:=hr;exact⟨us,h1,RepL.mono h caps _ h2⟩
 |.any,_,_=>by simp[Rep]
theorem RepL.mono {σ σ':Mem}(h:σ.le σ'):∀(ds:List D) (us:List Value),RepL σ ds us->RepL σ' ds us
 |[],_,hr=>by simpa [RepL] using hr
 |d :: ds,_,hr=>by
  simp only[RepL] at hr ⊢;obtain⟨u,r,h1,h2,h3⟩:=hr;exact⟨u,r,h1,Rep.mono h d u h2,RepL.mono h ds r h3⟩
theorem RepU.mono {σ σ':Mem}(h:σ.le σ'):∀(ds:List D) (us:List Value),RepU σ ds us->RepU σ' ds us
 |[],_,hr=>by simpa [RepU] using hr
 |d :: ds,_,hr=>by
  simp only[RepU] at hr ⊢;obtain⟨u,r,h1,h0,h2,h3⟩:=hr;exact⟨u,r,h1,h0,Rep.mono h d u h2,RepU.mono h ds r h3⟩
theorem RepC.mono {σ σ':Mem}(h:σ.le σ'):∀(ds:List D) (b o:Nat),RepC σ ds b o->RepC σ' ds b o
 |[],_,_,_=>by simp[RepC]
 |d :: ds,b,o,hr=>by
  simp only[RepC] at hr ⊢;obtain⟨⟨u,h1,h0,h2⟩,h3⟩:=hr;exact⟨⟨u,h _ _ _ h1,h0,Rep.mono h d u h2⟩,RepC.mono h ds b (o+1) h3⟩
end
theorem RepU.length {σ:Mem}:∀ {ds:List D} {us:List Value},RepU σ ds us->us.length=ds.length
 |[],_,h=>by simp only[RepU] at h;simp[h]
 |_ :: ds,_,h=>by
  simp only[RepU] at h;obtain⟨u,r,rfl,_,_,h3⟩:=h;simp[RepU.length h3]
theorem RepU.get {σ:Mem}:∀ {ds:List D} {us:List Value},RepU σ ds us->∀(i:Nat) (d:D),ds[i]?=some d->∃u,us[i]?=some u/\u.oneCell'=true/\Rep σ d u
 |[],_,_,i,d,hd=>by simp at hd
 |_ :: ds,_,h,i,d,hd=>by
  simp only[RepU] at h;obtain⟨u,r,rfl,h1,h2,h3⟩:=h;cases i with
  |zero=>simp only[List.getElem?_cons_zero,Option.some.injEq] at hd;subst hd;exact⟨u,by simp,h1,h2⟩
  |succ i=>simp only[List.getElem?_cons_succ] at hd ⊢;exact RepU.get h3 i d hd
theorem RepC.get {σ:Mem}:∀ {ds:List D} {b o:Nat},RepC σ ds b o->∀(i:Nat) (d:D),ds[i]?=some d->∃u,σ b (o+i)=some u/\u.oneCell'=true/\Rep σ d u
 |[],_,_,_,i,d,hd=>by simp at hd
 |_ :: ds,b,o,h,i,d,hd=>by
  simp only[RepC] at h;cases i with
  |zero=>simp only[List.getElem?_cons_zero,Option.some.injEq] at hd;subst hd;exact h.1
  |succ i=>
   simp only[List.getElem?_cons_succ] at hd;have:=RepC.get h.2 i d hd
   rwa [show o+1+i=o+(i+1) by omega] at this
theorem RepC.drop {σ:Mem}:∀ {ds:List D} {b o:Nat},RepC σ ds b o->∀(i:Nat),RepC σ (ds.drop i) b (o+i)
 |[],_,_,_,i=>by simp[RepC]
 |_ :: ds,b,o,h,i=>by
  simp only[RepC] at h;cases i with
  |zero=>simp only[List.drop_zero,Nat.add_zero,RepC];exact h
  |succ i=>
   have:=RepC.drop h.2 i;rw[show o+1+i=o+(i+1) by omega] at this
   simpa using this
theorem RepC.take {σ:Mem}:∀ {ds:List D} {b o:Nat},RepC σ ds b o->∀(i:Nat),RepC σ (ds.take i) b o
 |[],_,_,_,i=>by simp[RepC]
 |_ :: ds,b,o,h,i=>by
  simp only[RepC] at h;cases i with
  |zero=>simp[RepC]
  |succ i=>simp only[List.take_succ_cons,RepC];exact⟨h.1,RepC.take h.2 i⟩
theorem RepC.values {σ:Mem}:∀ {ds:List D} {b o:Nat},RepC σ ds b o->∃us,RepU σ ds us/\∀i u,us[i]?=some u->σ b (o+i)=some u
 |[],_,_,_=>⟨[],by simp[RepU],by simp⟩
 |_ :: ds,b,o,h=>by
  simp only[RepC] at h;obtain⟨⟨u,h1,h0,h2⟩,h3⟩:=h;obtain⟨r,hr,hc⟩:=RepC.values h3;refine⟨u :: r,by simp only[RepU];exact⟨u,r,rfl,h0,h2,hr⟩,fun i v hv=>?_⟩;cases i with
  |zero=>simp only[List.getElem?_cons_zero,Option.some.injEq] at hv;subst hv;exact h1
  |succ i=>
   simp only[List.getElem?_cons_succ] at hv;have:=hc i v hv
   rwa [show o+1+i=o+(i+1) by omega] at this
theorem RepC.of_values {σ:Mem}:∀ {ds:List D} {us:List Value} {b o:Nat},RepU σ ds us->(∀i u,us[i]?=some u->σ b (o+i)=some u)->RepC σ ds b o
 |[],_,_,_,_,_=>by simp[RepC]
 |_ :: ds,_,b,o,h,hc=>by
  simp only[RepU] at h;obtain⟨u,r,rfl,h0,h1,h2⟩:=h;simp only[RepC];refine⟨⟨u,by simpa using hc 0 u (by simp),h0,h1⟩,RepC.of_values h2 fun i v hv=>?_⟩;have:=hc (i+1) v (by simpa using hv)
  rwa [show o+(i+1)=o+1+i by omega] at this
theorem RepL.length {σ:Mem}:∀ {ds:List D} {us:List Value},RepL σ ds us->us.length=ds.length
 |[],_,h=>by simp only[RepL] at h;simp[h]
 |_ :: ds,_,h=>by
  simp only[RepL] at h;obtain⟨u,r,rfl,_,h3⟩:=h;simp[RepL.length h3]
theorem RepL.get {σ:Mem}:∀ {ds:List D} {us:List Value},RepL σ ds us->∀(i:Nat) (d:D),ds[i]?=some d->∃u,us[i]?=some u/\Rep σ d u
 |[],_,_,i,d,hd=>by simp at hd
 |_ :: ds,_,h,i,d,hd=>by
  simp only[RepL] at h;obtain⟨u,r,rfl,h1,h2⟩:=h;cases i with
  |zero=>simp only[List.getElem?_cons_zero,Option.some.injEq] at hd;subst hd;exact⟨u,by simp,h1⟩
  |succ i=>simp only[List.getElem?_cons_succ] at hd ⊢;exact RepL.get h2 i d hd
end Go.Enc
end
section
namespace Go.Enc
open Go.RowKit
def tabG:Nat:=9
def tabD:D:=.sl 2 [.v (.string ⟨#[43]⟩),.v (.func (.func 41) #[] #[]),.v (.string ⟨#[45]⟩),.v (.func (.func 42) #[] #[]),.v (.string ⟨#[42]⟩),.v (.func (.func 43) #[] #[]),.v (.string ⟨#[47]⟩),.v (.func (.func 44) #[] #[]),.v (.string ⟨#[109,101,101,116]⟩),.v (.func (.func 40) #[] #[]),.v (.string ⟨#[104,117,108,108]⟩),.v (.func (.func 183) #[] #[])]
def glbD (g:Nat)(u:Value):D:=if g=tabG then tabD else .v u
inductive T where
 |d (x:D)
 |ptr (k off:Nat)
 |gs (k:Nat)
 |ipr (t:TypeId) (k:Nat)
 |vw (k off len:Nat)
 |hid (x:D)
 |tp (k:Nat) (x:D)
def T.ref:T->Option Nat
 |.d _=>none
 |.ptr k _=>some k
 |.gs k=>some k
 |.ipr _ k=>some k
 |.vw k _ _=>some k
 |.hid _=>none
 |.tp k _=>some k
abbrev Gh:=Nat->Option Nat×Value
def RepT (σ:Mem)(G:Gh):T->Value->Prop
 |.d x,u=>Rep σ x u
 |.ptr k off,u=>∃b,(G k).1=some b/\u = .pointer (some ⟨b,off,none⟩)
 |.gs k,u=>u=(G k).2
 |.ipr t k,u=>∃b,(G k).1=some b/\u = .iface t (.pointer (some ⟨b,0,none⟩))
 |.vw k off len,u=>∃b cap,(G k).1=some b/\u = .slice (some ⟨b,off,none⟩) len cap
 |.hid x,u=>Rep σ x u
 |.tp k x,u=>∃v,u = .tuple #[(G k).2,v]/\Rep σ x v
def RepTU (σ:Mem)(G:Gh):List T->List Value->Prop
 |[],us=>us=[]
 |c :: cs,us=>∃u r,us=u :: r/\u.oneCell'=true/\RepT σ G c u/\RepTU σ G cs r
theorem RepT.mono {σ σ':Mem}{G:Gh}(h:σ.le σ'):∀ {c:T} {u:Value},RepT σ G c u->RepT σ' G c u
 |.d _,_,hr=>Rep.mono h _ _ hr
 |.ptr ..,_,hr=>hr
 |.gs _,_,hr=>hr
 |.ipr ..,_,hr=>hr
 |.vw ..,_,hr=>hr
 |.hid _,_,hr=>Rep.mono h _ _ hr
 |.tp ..,_,⟨v,h1,h2⟩=>⟨v,h1,Rep.mono h _ _ h2⟩
theorem RepT.regh {σ:Mem}{G G':Gh}:∀ {c:T} {u:Value},(∀k,c.ref=some k->G' k=G k)->RepT σ G c u->RepT σ G' c u
 |.d _,_,_,hr=>hr
 |.ptr k _,_,h,hr=>by simp only[RepT] at hr ⊢;rw[h k rfl];exact hr
 |.gs k,_,h,hr=>by simp only[RepT] at hr ⊢;rw[h k rfl];exact hr
 |.ipr _ k,_,h,hr=>by simp only[RepT] at hr ⊢;rw[h k rfl];exact hr
 |.vw k _ _,_,h,hr=>by simp only[RepT] at hr ⊢;rw[h k rfl];exact hr
 |.hid _,_,_,hr=>hr
 |.tp k _,_,h,hr=>by simp only[RepT] at hr ⊢;rw[h k rfl];exact hr
section
variable {σ σ':Mem} {G G':Gh}
theorem RepTU.mono (h:σ.le σ'):∀ {cs:List T} {us:List Value},RepTU σ G cs us->RepTU σ' G cs us
 |[],_,hr=>hr
 |_ :: _,_,⟨u,r,h1,h0,h2,h3⟩=>⟨u,r,h1,h0,h2.mono h,RepTU.mono h h3⟩
theorem RepTU.regh:∀ {cs:List T} {us:List Value},(∀c∈cs,∀k,c.ref=some k->G' k=G k)->RepTU σ G cs us->RepTU σ G' cs us
 |[],_,_,hr=>hr
 |c :: _,_,h,⟨u,r,h1,h0,h2,h3⟩=>⟨u,r,h1,h0,h2.regh (h c (by simp)),RepTU.regh (fun c hc=>h c (by simp[hc])) h3⟩
theorem RepTU.length:∀ {cs:List T} {us:List Value},RepTU σ G cs us->us.length=cs.length
 |[],_,h=>by simp only[RepTU] at h;simp[h]
 |_ :: _,_,⟨_,_,h1,_,_,h3⟩=>by subst h1;simp[RepTU.length h3]
theorem RepTU.one:∀ {cs:List T} {us:List Value},RepTU σ G cs us->∀u∈us,u.oneCell'=true
 |[],_,h=>by simp only[RepTU] at h;simp[h]
 |_ :: _,_,⟨u,r,h1,h0,_,h3⟩=>by
  subst h1;intro x hx;rcases List.mem_cons.1 hx with rfl|hx
  ·exact h0
  ·exact RepTU.one h3 x hx
theorem RepTU.get:∀ {cs:List T} {us:List Value},RepTU σ G cs us->∀(i:Nat) (c:T),cs[i]?=some c->∃u,us[i]?=some u/\u.oneCell'=true/\RepT σ G c u
 |[],_,_,i,c,hd=>by simp at hd
 |_ :: _,_,⟨u,r,h1,h0,h2,h3⟩,i,c,hd=>by
  subst h1;cases i with
  |zero=>simp only[List.getElem?_cons_zero,Option.some.injEq] at hd;subst hd;exact⟨u,by simp,h0,h2⟩
  |succ i=>simp only[List.getElem?_cons_succ] at hd ⊢;exact RepTU.get h3 i c hd
theorem RepTU.append:∀ {cs es:List T} {us vs:List Value},RepTU σ G cs us->RepTU σ G es vs->RepTU σ G (cs++es) (us++vs)
 |[],_,_,_,h,k=>by simp only[RepTU] at h;simpa [h] using k
 |_ :: _,_,_,vs,⟨u,r,h1,h0,h2,h3⟩,k=>by subst h1;exact⟨u,r++vs,rfl,h0,h2,RepTU.append h3 k⟩
theorem RepTU.set:∀ {cs:List T} {us:List Value},RepTU σ G cs us->∀(i:Nat) (c:T) (u:Value),u.oneCell'=true->RepT σ G c u->RepTU σ G (cs.set i c) (us.set i u)
 |[],_,h,i,_,_,_,_=>by simp only[RepTU] at h;simp[h,RepTU]
 |_ :: _,_,⟨u',r,h1,h0',h2,h3⟩,i,c,u,h0,hr=>by
  subst h1;cases i with
  |zero=>simp only[List.set_cons_zero,RepTU];exact⟨u,r,rfl,h0,hr,h3⟩
  |succ i=>simp only[List.set_cons_succ,RepTU];exact⟨u',_,rfl,h0',h2,RepTU.set h3 i c u h0 hr⟩
theorem RepTU.drop:∀ {cs:List T} {us:List Value},RepTU σ G cs us->∀(i:Nat),RepTU σ G (cs.drop i) (us.drop i)
 |[],_,h,i=>by simp only[RepTU] at h;simp[h,RepTU]
 |_ :: _,_,h,0=>by simpa using h
 |_ :: _,_,⟨u,r,h1,h0,h2,h3⟩,i+1=>by subst h1;simpa using RepTU.drop h3 i
theorem RepTU.take:∀ {cs:List T} {us:List Value},RepTU σ G cs us->∀(i:Nat),RepTU σ G (cs.take i) (us.take i)
 |[],_,h,i=>by simp only[RepTU] at h;simp[h,RepTU]
 |_ :: _,_,_,0=>by simp[RepTU]
 |_ :: _,_,⟨u,r,h1,h0,h2,h3⟩,i+1=>by subst h1;simp only[List.take_succ_cons,RepTU];exact⟨u,_,rfl,h0,h2,RepTU.take h3 i⟩
end
def asDs:List T->Option (List D)
 |[]=>some []
 |.d x :: cs=>(asDs cs).map (x :: ·)
 |_ :: _=>none
theorem RepTU.data {σ:Mem}{G:Gh}:∀ {cs:List T} {us:List Value} {ds:List D},RepTU σ G cs us->asDs cs=some ds->RepU σ ds us
 |[],_,_,h,hd=>by simp only[asDs,Option.some.injEq] at hd;subst hd;simpa [RepU,RepTU] using h
 |.d x :: cs,_,_,⟨u,r,h1,h0,h2,h3⟩,hd=>by
  simp only[asDs,Option.map_eq_some_iff] at hd;obtain⟨ds,hd,rfl⟩:=hd;simp only[RepU];exact⟨u,r,h1,h0,h2,RepTU.data h3 hd⟩
 |.ptr .. :: _,_,_,_,hd=>by simp[asDs] at hd
 |.gs _ :: _,_,_,_,hd=>by simp[asDs] at hd
 |.ipr .. :: _,_,_,_,hd=>by simp[asDs] at hd
 |.vw .. :: _,_,_,_,hd=>by simp[asDs] at hd
 |.hid _ :: _,_,_,_,hd=>by simp[asDs] at hd
 |.tp .. :: _,_,_,_,hd=>by simp[asDs] at hd
theorem RepU.asT {σ:Mem}{G:Gh}:∀ {ds:List D} {us:List Value},RepU σ ds us->RepTU σ G (ds.map .d) us
 |[],_,h=>by simpa [RepU,RepTU] using h
 |_ :: _,_,h=>by
  simp only[RepU] at h;obtain⟨u,r,h1,h0,h2,h3⟩:=h;exact⟨u,r,h1,h0,h2,RepU.asT h3⟩
structure Obj where
 vec:Option (TypeId×Nat×Bool)
 cells:List T
structure St where
 t:Nat->T
 h:Nat->Option Obj
structure Ctx where
 P:Program
 E:Nat->Option Value
 σ0:Mem
 w0:World
 base:Nat
 n:Nat
 kb:Nat
 df:List Deferred
 G0:Gh:=fun _=>(none,undef)
def ObjIs (σ:Mem)(G:Gh)(w:World)(base k:Nat)(o:Obj):Prop:=
 match o.vec with
 |none=>∃b us ty,(G k).1=some b/\base<=b/\w.heap[b]?=some (.cells us ty (0,0))/\RepTU σ G o.cells us.toList/\(G k).2.oneCell'=true
 |some (e,size,nn)=>∃n us,w.ownsRow base e size (G k).2 n us/\RepTU σ G o.cells us/\(G k).1=(G k).2.ownBlock/\(nn=true->o.cells=[]->(G k).2 = .slice none 0 0)
def Hard (w:World)(b:Nat):Prop:=∃cs ty,w.heap[b]?=some (.cells cs ty (0,0))
theorem Hard.of_eq {w w':World}{b:Nat}(h:Hard w b)(e:w'.heap[b]?=w.heap[b]?):Hard w' b:=by
 obtain⟨cs,ty,h⟩:=h;exact⟨cs,ty,by rw[e];exact h⟩
def Soft (w:World)(b:Nat):Prop:=∃cs ty fr,w.heap[b]?=some (.cells cs ty fr)
theorem Soft.of_eq {w w':World}{b:Nat}(h:Soft w b)(e:w'.heap[b]?=w.heap[b]?):Soft w' b:=by
 obtain⟨cs,ty,fr,h⟩:=h;exact⟨cs,ty,fr,by rw[e];exact h⟩
theorem wT {w:World}{b i:Nat}{u:Value}(h:w.cell? ⟨b,i,none⟩=some u):b<w.heap.size:=by
 rcases Nat.lt_or_ge b w.heap.size with h1|h1
 ·exact h1
 ·simp[World.cell?,Array.getElem?_eq_none h1] at h
theorem Hard.lt {w:World}{b:Nat}(h:Hard w b):b<w.heap.size:=by
 obtain⟨cs,ty,h⟩:=h;rcases Nat.lt_or_ge b w.heap.size with h1|h1
 ·exact h1
 ·rw[Array.getElem?_eq_none h1] at h;cases h
structure Stands (C:Ctx)(σ:Mem)(G:Gh)(s:St)(a:Act)(w:World):Prop where
 bas:C.base<=C.w0.heap.size
 glob:∀g u,C.E g=some u->C.σ0 g 0=some u
 tab:∀u,C.E tabG=some u->Rep C.σ0 tabD u
 le:C.σ0.le σ
 old:∀b o,b<C.base->σ b o=C.σ0 b o
 inv:∀b o u,σ b o=some u->w.cell? ⟨b,o,none⟩=some u
 hard:∀b o u,σ b o=some u->C.E b=none->Soft w b
 gp:∀g t a,C.E g=some (.iface t (.pointer (some a)))->a.block<C.base/\Hard C.w0 a.block
 bel:Below C.base C.w0 w
 oth:KeepsOthers C.w0 w
 dfr:a.defers=C.df
 siz:a.tmps.size=C.n
 slot:∀i,RepT σ G (s.t i) (a.tmps.getD i undef)
 live:∀i k,(s.t i).ref=some k->s.h k≠none
 obj:∀k o,s.h k=some o->ObjIs σ G w C.base k o
 deep:∀k o,s.h k=some o->∀c∈o.cells,∀k',c.ref=some k'->s.h k'≠none
 sep:∀k k' o o' b,s.h k=some o->s.h k'=some o'->(G k).1=some b->(G k').1=some b->k=k'
 own:∀k o b,s.h k=some o->(G k).1=some b->∀i,σ b i=none
 keep:∀k,k<C.kb->G k=C.G0 k
 fin:∃N,∀k,N<=k->s.h k=none
theorem Stands.glbD {C:Ctx}{σ:Mem}{G:Gh}{s:St}{a:Act}{w:World}(S:Stands C σ G s a w){g:Nat}{u:Value}(h:C.E g=some u):RepT σ G (.d (Go.Enc.glbD g u)) u:=by
 unfold Go.Enc.glbD;split
 ·rename_i e;subst e;exact Rep.mono S.le _ _ (S.tab u h)
 ·simp[RepT,Rep]
theorem Stands.size {C:Ctx}{σ:Mem}{G:Gh}{s:St}{a:Act}{w:World}(S:Stands C σ G s a w):C.base<=w.heap.size:=Nat.le_trans S.bas S.bel.size
def upd {α:Type}(f:Nat->α)(k:Nat)(x:α):Nat->α:=fun i=>if i=k then x else f i
theorem wq {α:Type}(f:Nat->α)(k:Nat)(x:α):upd f k x k=x:=by simp[upd]
theorem wD {α:Type}(f:Nat->α){k i:Nat}(x:α)(h:i≠k):upd f k x i=f i:=by simp[upd,h]
def St.put (s:St)(dst:Option Nat)(x:T):St:=
 match dst with
 |some d=>{ s with t:=upd s.t d x }
 |none=>s
def St.ev (s:St):Operand->T
 |.tmp t=>s.t t
 |.const v=>.d (.v v)
 |.global g=>.d (.v (.pointer (some ⟨g,0,none⟩)))
 |.func f=>.d (.v (.func (.func f) #[] #[]))
section
variable {C:Ctx} {σ:Mem} {G:Gh} {s:St} {a:Act} {w:World}
theorem Stands.ev (S:Stands C σ G s a w)(x:Operand):RepT σ G (s.ev x) (a.eval x):=by
 cases x with
 |tmp t=>exact S.slot t
 |const v=>simp[St.ev,RepT,Rep,Act.eval]
 |global g=>simp[St.ev,RepT,Rep,Act.eval]
 |func f=>simp[St.ev,RepT,Rep,Act.eval]
theorem Stands.evLive (S:Stands C σ G s a w)(x:Operand):∀k,(s.ev x).ref=some k->s.h k≠none:=by
 cases x with
 |tmp t=>exact S.live t
 |_=>intro k h;simp[St.ev,T.ref] at h
theorem Stands.put (S:Stands C σ G s a w){x:T}{u:Value}(hr:RepT σ G x u)(hl:∀k,x.ref=some k->s.h k≠none){dst:Option Nat}(hd:∀d,dst=some d->d<C.n) :
  Stands C σ G (s.put dst x) (a.put dst u) w:=by
 cases dst with
 |none=>exact S
 |some d=>
  have hd':d<a.tmps.size:=by rw[S.siz];exact hd d rfl
  refine { S with siz:=by simp[Act.put,S.siz],slot:=fun i=>?_,live:=fun i k=>?_,dfr:=S.dfr,obj:=S.obj,deep:=S.deep,sep:=S.sep,own:=S.own }
  ·simp only[St.put,upd,Act.put];by_cases h:i=d
   ·subst h;simp[hd',hr]
   ·have h2:d≠i:=fun e=>h e.symm
    simp only[h,if_false];have:=S.slot i
    simpa [Array.getD_eq_getD_getElem?,Array.getElem?_setIfInBounds_ne h2] using this
  ·simp only[St.put,upd];by_cases h:i=d
   ·subst h;simpa using hl k
   ·simp only[h,if_false];exact S.live i k
end
end Go.Enc
end
