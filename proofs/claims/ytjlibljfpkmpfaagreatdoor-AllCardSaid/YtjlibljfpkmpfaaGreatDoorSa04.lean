/-
  One operation as a step of the state; regions; that the machine goes so. The machine does the step.
-/
import Derived.Test.YtjlibljfpkmpfaaGreatDoorSa03
import Derived.LaidEql
set_option maxRecDepth 100000
set_option linter.unusedSimpArgs false
set_option linter.unusedVariables false
section
namespace Go.Enc
open Go.RowKit
inductive Res where
 |data (d:D)
 |own (e:TypeId) (size:Nat) (nn:Bool) (cells:List D)
 |ownP (e:TypeId) (size:Nat) (nn:Bool) (cells:List D) (y:D)
def zF (σ:Mem)(base:Nat)(w:World):Res->Value->Prop
 |.data d,u=>Rep σ d u
 |.own e size nn cells,u=>∃n us,w.ownsRow base e size u n us/\RepU σ cells us/\(∀b,u.ownBlock=some b->∀i,σ b i=none)/\(nn=true->cells=[]->u = .slice none 0 0)
 |.ownP e size nn cells y,u=>∃v z,u = .tuple #[v,z]/\Rep σ y z/\∃n us,w.ownsRow base e size v n us/\RepU σ cells us/\(∀b,v.ownBlock=some b->∀i,σ b i=none)/\(nn=true->cells=[]->v = .slice none 0 0)
def After (σ:Mem)(w:World)(r:Res)(u:Value)(w':World):Prop:=
 ∃σ':Mem,σ.le σ'/\(∀b o,b<w.heap.size->σ' b o=σ b o)/\(∀b o v,σ' b o=some v->w'.cell? ⟨b,o,none⟩=some v)/\(∀b o v,w.heap.size<=b->σ' b o=some v->Soft w' b)/\Below w.heap.size w w'/\zF σ' w.heap.size w' r u
structure Fits (E:Nat->Option Value)(σ:Mem)(w:World):Prop where
 inv:∀b o u,σ b o=some u->w.cell? ⟨b,o,none⟩=some u
 glob:∀g u,E g=some u->σ g 0=some u
 tab:∀u,E tabG=some u->Rep σ tabD u
 hard:∀b o u,σ b o=some u->E b=none->Soft w b
 gp:∀g t a,E g=some (.iface t (.pointer (some a)))->Hard w a.block
def DCall (P:Program)(E:Nat->Option Value)(f:FuncId)(args:List D)(r:Res):Prop:=
 ∀(σ:Mem) (w:World) (us:List Value),Fits E σ w->RepL σ args us ->
  ∀(o:Oper) (a:Act) (next:Act->World->Prop) (Q:Exit->Act->World->Prop),(∀u w',After σ w r u w'->next (a.put o.dst u) w') ->
   o.upon P a next Q ((callFunc f us.toArray).run P w)
def isP (g:FuncId):Bool:=g==78||g==135||g==136||g==137||g==69
def isE (g:FuncId):Bool:=g==137
def xq (C:Ctx)(g:FuncId)(ts:List T)(dst:Option Nat)(s s':St):Prop:=
 ∀σ G a w (us:List Value),Stands C σ G s a w->us.length=ts.length->(∀(i:Nat) (c:T) (u:Value),ts[i]?=some c->us[i]?=some u->RepT σ G c u)->(∀d,dst=some d->d<C.n) ->
  ∀(o:Oper) (next:Act->World->Prop) (Q:Exit->Act->World->Prop),o.dst=dst->(∀σ' G' a' w',Stands C σ' G' s' a' w'->next a' w')->o.upon C.P a next Q ((callFunc g us.toArray).run C.P w)
def xZ:D->Bool
 |.v .nilIface=>true
 |.ip _ _=>true
 |_=>false
def doE (e0:D):D->D
 |.v .nilIface=>e0
 |e=>e
def DoOk (P:Program)(E:Nat->Option Value):Prop:=∀(C:Ctx) (s:St) (dst:Option Nat) (k:Nat) (r:T) (e0 e:D) (a:List D),C.P=P->C.E=E->s.h k=some ⟨none,[r,.hid e0]⟩->a.length=2->xZ e=true ->
 xq C 137 [.ptr k 0,.d (.agg a),.d e] dst s ((s.setH k ⟨none,[r,.hid (doE e0 e)]⟩).put dst (.d (.agg a)))
def doT (C:Ctx)(s:St)(dst:Option Nat)(K:St->Prop):List T->Prop
 |[.ptr k 0,.d (.agg a),.d e]=>match s.h k with
  |some ⟨none,[r,.hid e0]⟩=>DoOk C.P C.E/\a.length=2/\xZ e=true/\K ((s.setH k ⟨none,[r,.hid (doE e0 e)]⟩).put dst (.d (.agg a)))
  |_=>False
 |_=>False
theorem QZ {C:Ctx}{s:St}{dst:Option Nat}{K:St->Prop}{ts:List T}(h:doT C s dst K ts):∃k r e0 e a,ts=[.ptr k 0,.d (.agg a),.d e]/\s.h k=some ⟨none,[r,.hid e0]⟩/\DoOk C.P C.E/\a.length=2/\xZ e=true /\
  K ((s.setH k ⟨none,[r,.hid (doE e0 e)]⟩).put dst (.d (.agg a))):=by
 unfold doT at h;split at h
 ·split at h
  ·rename_i e0 hk;exact⟨_,_,_,_,_,rfl,hk,h⟩
  ·exact h.elim
 ·exact h.elim
theorem XX {C:Ctx}{s:St}{dst:Option Nat}{K:St->Prop}{k:Nat}{r:T}{e0 e:D}{a:List D}(hk:s.h k=some ⟨none,[r,.hid e0]⟩)(h1:DoOk C.P C.E)(h2:a.length=2)(h3:xZ e=true)
  (h:K ((s.setH k ⟨none,[r,.hid (doE e0 e)]⟩).put dst (.d (.agg a)))):doT C s dst K [.ptr k 0,.d (.agg a),.d e]:=by
 unfold doT;simp only[hk];exact⟨h1,h2,h3,h⟩
def ws {α:Type}:Option α->(α->Prop)->Prop
 |some x,K=>K x
 |none,_=>False
theorem zea {α:Type}(x:α)(K:α->Prop):ws (some x) K=K x:=rfl
theorem wK {α:Type}{o:Option α}{K:α->Prop}(h:ws o K):∃x,o=some x/\K x:=by
 cases o with
 |none=>exact h.elim
 |some x=>exact⟨x,rfl,h⟩
def yld (P:Program)(E:Nat->Option Value)(s:St):Op->Option T
 |.move x=>some (s.ev x)
 |.assign x=>some (s.ev x)
 |.pick c x y=>match s.ev c with
  |.d (.v (.bool t))=>some (if t then s.ev x else s.ev y)
  |_=>none
 |.load t x=>xe P E s.h t (s.ev x)
 |.fieldAddr t x f=>JP P t f (s.ev x)
 |.indexAddr t x i=>kF P s.h t (s.ev x) (s.ev i)
 |.index t x i=>xM P t (s.ev x) (s.ev i)
 |.slice t x lo hi mx=>qL P s.h t (lo.map s.ev) (hi.map s.ev) (mx.map s.ev) (s.ev x)
 |.extract x i=>vM i (s.ev x)
 |.binOp op t x y _=>if jw y && !jT P t y then none else binT P s.h op t y (s.ev x) (s.ev y)
 |.unOp op _ x=>unT op (s.ev x)
 |.convert src dst x=>X8 P src dst (s.ev x)
 |.makeInterface t x=>vC P t (s.ev x)
 |.nilCheck x=>xH (s.ev x)
 |.build t parts=>JT P t (parts.toList.map fun p=>(p.1,s.ev p.2))
 |.call { callee:=.builtin .len,args,argTypes }=>match args.toList,argTypes.toList with
  |[x],[t]=>lenT P s.h t (s.ev x)
  |_,_=>none
 |.call { callee:=.builtin .min,args,.. }=>xx false (args.toList.map s.ev)
 |.call { callee:=.builtin .max,args,.. }=>xx true (args.toList.map s.ev)
 |_=>none
def St.row (s:St)(kb d:Nat)(o:Obj):St:=(s.new (kb+d) o).put (some d) (.gs (kb+d))
def St.rowP (s:St)(kb d:Nat)(o:Obj)(y:D):St:=(s.new (kb+d) o).put (some d) (.tp (kb+d) y)
def St.var (s:St)(kb d:Nat)(cs:List T):St:=(s.new (kb+d) ⟨none,cs⟩).put (some d) (.ptr (kb+d) 0)
def SzOk (P:Program):Prop:=elT P 153=some 1/\(slT P 154).map (·.2.1)=some 2
def appT (C:Ctx)(s:St)(d:Nat)(t:TypeId)(x y:T)(K:St->Prop):Prop:=
 ws (slT C.P t) fun ⟨e,size,bytes,_⟩=>ws (srcT s.h size y) fun cs=>
  match x with
  |.d (.v (.slice none 0 0))=>cs.length/size*bytes<=140737488355328/\cs.length/size<=maxLen/\s.h (C.kb+d)=none/\K (s.row C.kb d ⟨some (e,size,true),cs⟩)
  |.gs k=>match s.h k with
   |some ⟨some (e',size',nn),cells⟩=>(t=154->SzOk C.P)/\e'=e/\size'=size/\(cells.length+cs.length)/size*bytes<=140737488355328/\(cells.length+cs.length)/size<=maxLen/\(s.kill k).h (C.kb+d)=none /\
     K ((s.kill k).row C.kb d ⟨some (e,size,nn),(cells++cs).map (wU k)⟩)
   |_=>False
  |_=>False
def resT (C:Ctx)(s:St)(dst:Option Nat)(K:St->Prop):Res->Prop
 |.data x=>K (s.put dst (.d x))
 |.own e size nn cells=>ws dst fun d=>s.h (C.kb+d)=none/\K (s.row C.kb d ⟨some (e,size,nn),cells.map .d⟩)
 |.ownP e size nn cells y=>ws dst fun d=>s.h (C.kb+d)=none/\K (s.rowP C.kb d ⟨some (e,size,nn),cells.map .d⟩ y)
def jD (y:Operand)(t:TypeId):Bool:=(match y with | .tmp _=>true|_=>false)&&t==61
def ZA (C:Ctx)(x y:T)(c:Bool):Prop:=∃a b,x = .d (.v (.iface 213 (.pointer (some a))))/\y = .d (.v (.iface 213 (.pointer (some b)))) /\
 ((a=b/\c=true)\/(a≠b/\c=false/\(∃g,C.E g=some (.iface 213 (.pointer (some a))))/\∃g,C.E g=some (.iface 213 (.pointer (some b)))))
def Ji (P:Program):Prop:=(∃ms,P.underlying 61=some (.interface ms))/\P.underlying 213=some (.pointer 235) /\
 (P.info? 213).map (·.comparable)=some true/\(P.info? 235).map (·.size)=some 1
def xd (op:BinOp)(x y:Operand):Bool:=
 match y with
 |.tmp j=>match op with
  |.quo=>match x with
   |.tmp i=>i==59&&j==60
   |_=>false
  |_=>false
 |_=>false
def nanR (s:St)(dst:Option Nat)(K:St->Prop):Option Nat->Prop
 |some r=>K (s.put dst (.d (.v (.float .f64 r))))
 |none=>∀r,¬(r % 9223372036854775808<=9218868437227405312)->K (s.put dst (.d (.v (.float .f64 r))))
def nanT (s:St)(dst:Option Nat)(K:St->Prop):T->T->Prop
 |.d (.v (.float .f64 a)),.d (.v (.float .f64 b))=>nanR s dst K (FloatKind.f64.format.div a b)
 |_,_=>False
theorem zaL {s:St}{dst:Option Nat}{K:St->Prop}{x y:T}(h:nanT s dst K x y):∃a b,x = .d (.v (.float .f64 a))/\y = .d (.v (.float .f64 b))/\nanR s dst K (FloatKind.f64.format.div a b):=by
 unfold nanT at h;split at h
 ·exact⟨_,_,rfl,rfl,h⟩
 ·exact h.elim
def run1 (C:Ctx)(o:Oper)(s:St)(K:St->Prop):Prop:=
 match o.op with
 |.alloc t=>ws o.dst fun d=>ws (kN C.P t) fun cs=>s.h (C.kb+d)=none/\K (s.var C.kb d cs)
 |.box _ x=>ws o.dst fun d=>ws (k7 (s.ev x)) fun cs=>s.h (C.kb+d)=none/\K (s.var C.kb d cs)
 |.buildSlice t len parts=>ws o.dst fun d=>ws (slT C.P t) fun ⟨e,size,_,_⟩=>0<len/\len*size<=16777216 /\
   ws (vK (fun i=>some (i*size,size)) (List.replicate (len*size) (.d .any)) (parts.toList.map fun p=>(p.1,s.ev p.2))) fun cells=>s.h (C.kb+d)=none /\
    if size=3 then ws (asDs cells) fun ds=>K (s.put (some d) (.d (.sl size ds))) else K (s.row C.kb d ⟨some (e,size,false),cells⟩)
 |.makeSlice t l c=>ws o.dst fun d=>match slT C.P t,s.ev l,s.ev c with
  |some (e,size,bytes,z :: zs),.d (.v (.int .i64 n)),.d (.v (.int .i64 m))=>n=m/\0<=n/\Vj z (z :: zs)=true/\n.toNat*bytes<=281474976710656/\n.toNat<=maxLen/\s.h (C.kb+d)=none /\
    K (s.row C.kb d ⟨some (e,size,false),List.replicate (n.toNat*size) (.d (.v z))⟩)
  |_,_,_=>False
 |.store t p x=>match s.ev p with
  |.ptr k off=>ws (s.h k) fun ob=>ws (k7 (s.ev x)) fun cs=>szT C.P t=some cs.length/\off+cs.length<=ob.cells.length/\K ((s.setH k { ob with cells:=jn ob.cells off cs }).put o.dst (.d .any))
  |_=>False
 |.call { callee:=.builtin .append,args,argTypes }=>ws o.dst fun d=>match args.toList,argTypes.toList with
  |[x,y],[t,t']=>t=t'/\appT C s d t (s.ev x) (s.ev y) K
  |_,_=>False
 |.call { callee:=.value f,args,.. }=>match s.ev f with
  |.d (.v (.func (.func g) fst cap))=>fst = #[]/\cap = #[]/\(if isE g then doT C s o.dst K (args.toList.map s.ev) else if isP g then ∃s',xq C g (args.toList.map s.ev) o.dst s s'/\K s' else ws (asDs (args.toList.map s.ev)) fun ds=>∃r,DCall C.P C.E g ds r/\resT C s o.dst K r)
  |_=>False
 |.binOp op t x y t'=>if jD y t then Ji C.P/\∃c,ZA C (s.ev x) (s.ev y) c/\((op = .eql/\K (s.put o.dst (.d (.v (.bool c)))))\/(op = .neq/\K (s.put o.dst (.d (.v (.bool !c))))))
  else if xd op x y then nanT s o.dst K (s.ev x) (s.ev y)
  else ws (yld C.P C.E s (.binOp op t x y t')) fun r=>K (s.put o.dst r)
 |op=>ws (yld C.P C.E s op) fun r=>K (s.put o.dst r)
def gd:T->Bool->Option Bool
 |.d (.v (.bool c)),b=>some (c==b)
 |.d (.v (.tuple _)),_=>some false
 |_,_=>none
def step (C:Ctx)(ops:Array Oper)(o:Oper)(s:St)(K:St->Prop):Prop:=
 match o.guard with
 |none=>run1 C o s K
 |some (j,b)=>match (ops[j]?).bind (·.dst) with
  |some d=>match gd (s.t d) b with
   |some true=>run1 C o s K
   |some false=>K (s.put o.dst (.d (.v undef)))
   |none=>False
  |none=>False
def steps (C:Ctx)(ops:Array Oper):List Oper->St->(St->Prop)->Prop
 |[],s,K=>K s
 |o :: r,s,K=>step C ops o s fun s'=>steps C ops r s' K
section
variable {C:Ctx} {σ:Mem} {G:Gh} {s:St} {a:Act} {w:World}
theorem Wc (S:Stands C σ G s a w):∀(xs:List Operand),∃us,us=xs.map a.eval/\us.length=(xs.map s.ev).length/\∀(i:Nat) (c:T) (u:Value),(xs.map s.ev)[i]?=some c->us[i]?=some u->RepT σ G c u:=by
 intro xs;refine⟨_,rfl,by simp,fun i c u hc hu=>?_⟩;simp only[List.getElem?_map,Option.map_eq_some_iff] at hc hu;obtain⟨x,hx,rfl⟩:=hc;obtain⟨x',hx',rfl⟩:=hu;rw[hx] at hx';cases hx';exact S.ev x
theorem J1 (S:Stands C σ G s a w):∀(ps:List (Nat×Operand)),RepP σ G (ps.map fun p=>(p.1,s.ev p.2)) (ps.map fun p=>(p.1,a.eval p.2))/\∀p∈ps.map (fun p=>(p.1,s.ev p.2)),∀j,p.2.ref=some j->s.h j≠none
 |[]=>⟨rfl,by simp⟩
 |p :: ps=>by
  obtain⟨h1,h2⟩:=J1 S ps;refine⟨⟨_,_,rfl,S.ev p.2,h1⟩,fun q hq=>?_⟩;simp only[List.map_cons,List.mem_cons] at hq;rcases hq with rfl|hq
  ·exact S.evLive p.2
  ·exact h2 q hq
theorem Xs (S:Stands C σ G s a w){o:Oper}{r:T}(h:yld C.P C.E s o.op=some r) :
  ∃u,(execOp a.eval o).run C.P w = .ok (.value u) w/\RepT σ G r u/\∀k,r.ref=some k->s.h k≠none:=by
 have lift:∀(x:Sem Value) (u:Value),x.run C.P w = .ok u w->((do pure (.value (<-x)):Sem Next)).run C.P w = .ok (.value u) w:=fun x u h=>by simp[h]
 unfold yld at h;unfold execOp;split at h
 ·rename_i x hx;rw[hx];cases h;exact⟨_,rfl,S.ev x,S.evLive x⟩
 ·rename_i x hx;rw[hx];cases h;exact⟨_,rfl,S.ev x,S.evLive x⟩
 ·rename_i c x y hx;rw[hx];split at h
  ·rename_i t ht;cases h;have hc:=S.ev c;rw[ht] at hc;simp only[RepT,Rep] at hc;refine⟨if t then a.eval x else a.eval y,by simp[hc,asBool],?_,?_⟩<;>cases t<;>simp only[if_true,if_false,Bool.false_eq_true]
   ·exact S.ev y
   ·exact S.ev x
   ·exact S.evLive y
   ·exact S.evLive x
  ·cases h
 ·rename_i t x hx;rw[hx];obtain⟨u,h1,h2⟩:=Kb S h (S.ev x);exact⟨u,lift _ _ h1,h2⟩
 ·rename_i t x f hx;rw[hx];obtain⟨u,h1,h2⟩:=Zg S h (S.ev x) (S.evLive x);exact⟨u,lift _ _ h1,h2⟩
 ·rename_i t x i hx;rw[hx];obtain⟨u,h1,h2⟩:=Za S h (S.ev x) (S.ev i);exact⟨u,lift _ _ h1,h2⟩
 ·rename_i t x i hx;rw[hx];obtain⟨u,h1,h2⟩:=Ks (C:=C) (s:=s) (w:=w) h (S.ev x) (S.ev i);exact⟨u,lift _ _ h1,h2⟩
 ·rename_i t x lo hi mx hx;rw[hx];obtain⟨u,h1,h2⟩:=Vz S h (S.ev x) (vlo:=lo.map a.eval) (vhi:=hi.map a.eval) (vmx:=mx.map a.eval) (by cases lo<;>simp[RepO];exact S.ev _) (by cases hi<;>simp[RepO];exact S.ev _) (by cases mx<;>simp);exact⟨u,lift _ _ h1,h2⟩
 ·rename_i x i hx;rw[hx];obtain⟨u,h1,h2⟩:=QS (C:=C) (s:=s) (w:=w) h (S.ev x) (S.evLive x);exact⟨u,lift _ _ h1,h2⟩
 ·rename_i op t x y _ hx;rw[hx];split at h
  ·cases h
  ·rename_i hn;obtain⟨u,h1,h2⟩:=Uj S (xo:=x) h (fun hy=>by simpa [hy] using hn) (S.ev x) (S.ev y) rfl;exact⟨u,lift _ _ h1,h2⟩
 ·rename_i op _ x hx;rw[hx];obtain⟨u,h1,h2⟩:=RP (C:=C) (s:=s) (w:=w) h (S.ev x);exact⟨u,lift _ _ h1,h2⟩
 ·rename_i src dst x hx;rw[hx];obtain⟨u,h1,h2⟩:=Y2 (s:=s) (w:=w) h (S.ev x);exact⟨u,lift _ _ h1,h2⟩
 ·rename_i t x hx;rw[hx];obtain⟨u,h1,h2⟩:=QB (w:=w) h (S.ev x) (S.evLive x);exact⟨u,lift _ _ h1,h2⟩
 ·rename_i x hx;rw[hx];obtain⟨h1,p,h2⟩:=Qw h (S.ev x);refine⟨a.eval x,by simp only[h2];rfl,by rw[<-h1];exact S.ev x,by rw[<-h1];exact S.evLive x⟩
 ·rename_i t parts hx;rw[hx];obtain⟨h1,h2⟩:=J1 S parts.toList;obtain⟨u,h3,h4⟩:=Zr S h h1 h2;refine⟨u,lift _ _ ?_,h4⟩;have:(parts.toList.map fun p=>(p.1,a.eval p.2)).toArray=parts.map fun (i,x)=>(i,a.eval x):=by
   rw[<-Array.toArray_toList (xs:=parts.map _)];simp
  rw[<-this];exact h3
 ·rename_i args argTypes hx;rw[hx];split at h
  ·rename_i x t hargs htys;obtain⟨u,h1,h2⟩:=HP S (ty:=o.type) h (S.ev x);refine⟨u,?_,h2⟩;have ha:args = #[x]:=by rw[<-Array.toArray_toList (xs:=args),hargs]
   have ht:argTypes = #[t]:=by rw[<-Array.toArray_toList (xs:=argTypes),htys]
   subst ha;subst ht;simp[resolve,invoke,builtin,h1]
  ·cases h
 ·rename_i args argTypes hx;rw[hx];obtain⟨us,h0,h1,h2⟩:=Wc S args.toList;obtain⟨u,h3,h4⟩:=Wo (C:=C) (s:=s) (w:=w) h h1 h2 argTypes o.type;refine⟨u,?_,h4⟩;have:us.toArray=args.map a.eval:=by rw[h0,<-Array.toArray_toList (xs:=args.map _)];simp
  rw[this] at h3;simp only[Bool.false_eq_true,if_false] at h3;simp[resolve,invoke,builtin,h3]
 ·rename_i args argTypes hx;rw[hx];obtain⟨us,h0,h1,h2⟩:=Wc S args.toList;obtain⟨u,h3,h4⟩:=Wo (C:=C) (s:=s) (w:=w) h h1 h2 argTypes o.type;refine⟨u,?_,h4⟩;have:us.toArray=args.map a.eval:=by rw[h0,<-Array.toArray_toList (xs:=args.map _)];simp
  rw[this] at h3;simp only[if_true] at h3;simp[resolve,invoke,builtin,h3]
 ·cases h
end
end Go.Enc
end
section
namespace Go.Enc
open Go.RowKit
section
variable {C:Ctx} {σ:Mem} {G:Gh} {s:St} {a:Act} {w:World}
def jM (k:Nat)(o:Obj)(ds:List D):T->T
 |.gs j=>if j=k then (match o.vec with|some (_,size,_)=>.d (.sl size ds)|none=>.d .any) else .gs j
 |.ptr j off=>if j=k then .d (.pd ds off) else .ptr j off
 |.ipr t j=>if j=k then (match o.vec with|none=>.d (.ip t ds)|_=>.d .any) else .ipr t j
 |.d x=>.d x
 |.hid x=>.hid x
 |.vw j o n=>if j=k then .d .any else .vw j o n
 |.tp j x=>if j=k then .d .any else .tp j x
def Obj.comm (k:Nat)(o:Obj)(ds:List D)(p:Obj):Obj:={ p with cells:=p.cells.map (jM k o ds) }
def St.comm (s:St)(k:Nat)(o:Obj)(ds:List D):St:={ t:=fun i=>jM k o ds (s.t i),h:=fun i=>if i=k then none else (s.h i).map (Obj.comm k o ds) }
theorem X9 {k j:Nat}{o:Obj}{ds:List D}{c:T}(h:(jM k o ds c).ref=some j):c.ref=some j/\j≠k:=by
 cases c<;>simp only[jM] at h<;>(try (simp[T.ref] at h;done))<;>split at h<;>(try (split at h))<;>simp[T.ref] at h<;>subst h<;>simp_all [T.ref]
theorem RepTU.mapT {f:T->T}(hf:∀c u,RepT σ G c u->RepT σ G (f c) u):∀ {cs:List T} {us:List Value},RepTU σ G cs us->RepTU σ G (cs.map f) us
 |[],_,h=>h
 |_ :: _,_,⟨u,r,h1,h0,h2,h3⟩=>⟨u,r,h1,h0,hf _ _ h2,RepTU.mapT hf h3⟩
theorem ObjIs.mapT {f:T->T}(hf:∀c u,RepT σ G c u->RepT σ G (f c) u){k b:Nat}{o:Obj}(h:ObjIs σ G w b k o):ObjIs σ G w b k { o with cells:=o.cells.map f }:=by
 unfold ObjIs at h ⊢;simp only;split at h
 ·obtain⟨x,us,ty,h1,h2,h3,h4,h5⟩:=h;exact⟨x,us,ty,h1,h2,h3,h4.mapT hf,h5⟩
 ·obtain⟨n,us,h1,h2,h3,h4⟩:=h;exact⟨n,us,h1,h2.mapT hf,h3,fun hn he=>h4 hn (by simpa using he)⟩
theorem Stands.comm (S:Stands C σ G s a w){k:Nat}{o:Obj}(ho:s.h k=some o){ds:List D}(hds:asDs o.cells=some ds):∃σ',Stands C σ' G (s.comm k o ds) a w:=by
 have hO:=S.obj k o ho
 let σ':Mem:=fun b i=>if (G k).1=some b then (if i<o.cells.length then (w.cell? ⟨b,i,none⟩) else none) else σ b i
 have hle:σ.le σ':=fun b i u h=>by
  simp only[σ'];split
  ·rename_i e;have:=S.own k o b ho e i;rw[h] at this;cases this
  ·exact h
 have hcells:∀b,(G k).1=some b->RepC σ' ds b 0:=fun b hb=>by
  obtain⟨_,cur,ty,us,h1,h2,sp,h3⟩:=S.row ho hb;have h4:=(h2.mono hle).data hds;refine RepC.of_values h4 fun i u hi=>?_
  have hlt:i<us.length:=by
   rcases Nat.lt_or_ge i us.length with h|h
   ·exact h
   ·rw[List.getElem?_eq_none h] at hi;cases hi
  simp only[σ',hb,if_true,Nat.zero_add];rw[if_pos (by rw[<-h2.length];exact hlt),cell_of_row w b i cur ty (0,0) h1,<-Array.getElem?_toList,h3,List.getElem?_append_left hlt];exact hi
 have hf:∀c u,RepT σ' G c u->RepT σ' G (jM k o ds c) u:=fun c u h=>by
  cases c with
  |d x=>exact h
  |ptr j off=>
   simp only[jM];split
   ·rename_i e;subst e;simp only[RepT] at h;obtain⟨b,hb,rfl⟩:=h;simp only[RepT,Rep];exact⟨b,0,by simp,hcells b hb⟩
   ·exact h
  |gs j=>
   simp only[jM];split
   ·rename_i e;subst e;simp only[RepT] at h;subst h;unfold ObjIs at hO;split at hO
    ·rename_i hv;simp only[hv,RepT,Rep]
    ·rename_i e size nn hv;simp only[hv,RepT,Rep];obtain⟨n,us,g1,g2,g3,g4⟩:=hO;have hl:ds.length=n*size:=by
      have:=(g2.data hds).length;rw[<-this,g1.1]
     rcases g1.2 with⟨hnil,hz⟩|⟨g,cap,cur,hval,_,_,hnc,hcm,_⟩
     ·exact .inl ⟨hnil,List.eq_nil_of_length_eq_zero (by rw[hl,hz];simp)⟩
     ·exact .inr (.inl ⟨g,0,n,cap,hval,hl,hnc,hcm,hcells g (by rw[g3,hval];rfl)⟩)
   ·exact h
  |ipr t j=>
   simp only[jM];split
   ·rename_i e;subst e;simp only[RepT] at h;obtain⟨b,hb,rfl⟩:=h;split
    ·simp only[RepT,Rep];exact⟨b,0,rfl,hcells b hb⟩
    ·simp[RepT,Rep]
   ·exact h
  |hid x=>exact h
  |vw j o n=>
   simp only[jM];split
   ·simp[RepT,Rep]
   ·exact h
  |tp j x=>
   simp only[jM];split
   ·simp[RepT,Rep]
   ·exact h
 have hh:∀j p,(s.comm k o ds).h j=some p->j≠k/\∃p',s.h j=some p'/\p=Obj.comm k o ds p':=by
  intro j p h;simp only[St.comm] at h;split at h
  ·cases h
  ·rename_i hne;simp only[Option.map_eq_some_iff] at h;obtain⟨p',h1,h2⟩:=h;exact⟨hne,p',h1,h2.symm⟩
 have hlive:∀j,s.h j≠none->j≠k->(s.comm k o ds).h j≠none:=by
  intro j h1 h2;simp only[St.comm,h2,if_false];cases h:s.h j with
  |none=>exact absurd h h1
  |some o=>simp
 have hm:∀j p,ObjIs σ G w C.base j p->ObjIs σ' G w C.base j p:=fun j p h=>by
  unfold ObjIs at h ⊢;split at h
  ·obtain⟨x,us,ty,h1,h2,h3,h4,h5⟩:=h;exact⟨x,us,ty,h1,h2,h3,h4.mono hle,h5⟩
  ·obtain⟨n,us,h1,h2,h3,h4⟩:=h;exact⟨n,us,h1,h2.mono hle,h3,h4⟩
 have hfin:∃N,∀j,N<=j->(s.comm k o ds).h j=none:=by
  obtain⟨N,hN⟩:=S.fin;exact⟨N,fun j hj=>by simp only[St.comm,hN j hj,Option.map_none];split<;>rfl⟩
 refine⟨σ',{ S with
  fin:=hfin
  le:=Mem.le_trans S.le hle
  old:=fun b i hb=>?_
  inv:=fun b i u h=>?_
  hard:=fun b i u h he=>?_
  slot:=fun i=>hf _ _ ((S.slot i).mono hle)
  live:=fun i j hj=>?_
  obj:=fun j p h=>?_
  deep:=fun j p h c hc j' hj'=>?_
  sep:=fun j j' p p' b h h'=>?_
  own:=fun j p b h hb i=>?_ }⟩
 ·simp only[σ'];rw[if_neg (fun e=>by have:=(hO.block e).1;omega)];exact S.old b i hb
 ·simp only[σ'] at h;split at h
  ·split at h
   ·exact h
   ·cases h
  ·exact S.inv b i u h
 ·simp only[σ'] at h;split at h
  ·rename_i e;obtain⟨_,cur,ty,us,h1,h2,sp,h3⟩:=S.row ho e;exact⟨cur,ty,_,h1⟩
  ·exact S.hard b i u h he
 ·obtain⟨h1,h2⟩:=X9 hj;exact hlive j (S.live i j h1) h2
 ·obtain⟨_,p',h1,rfl⟩:=hh j p h;exact(hm j p' (S.obj j p' h1)).mapT hf
 ·obtain⟨_,p',h1,rfl⟩:=hh j p h;simp only[Obj.comm,List.mem_map] at hc;obtain⟨c',hc',rfl⟩:=hc;obtain⟨h3,h4⟩:=X9 hj';exact hlive j' (S.deep j p' h1 c' hc' j' h3) h4
 ·obtain⟨_,o1,h1,rfl⟩:=hh j p h;obtain⟨_,o2,h2,rfl⟩:=hh j' p' h';exact S.sep j j' o1 o2 b h1 h2
 ·obtain⟨hne,o1,h1,rfl⟩:=hh j p h;simp only[σ'];rw[if_neg (fun e=>hne (S.sep j k o1 o b h1 ho hb e))];exact S.own j o1 b h1 hb i
theorem zbi (S:Stands C σ G s a w){ti tp te:TypeId}{ms:Array (String×TypeId)}{p q:Addr}{c:Bool}(f1:C.P.underlying ti=some (.interface ms))(f2:C.P.underlying tp=some (.pointer te))
  (f3:(C.P.info? tp).map (·.comparable)=some true) (f4:(C.P.info? te).map (·.size)=some 1)
  (hc:(p=q/\c=true)\/(p≠q/\c=false/\(∃g,C.E g=some (.iface tp (.pointer (some p))))/\∃g,C.E g=some (.iface tp (.pointer (some q))))) :
  (binOp .eql ti (.iface tp (.pointer (some p))) (.iface tp (.pointer (some q)))).run C.P w = .ok (.bool c) w /\
  (binOp .neq ti (.iface tp (.pointer (some p))) (.iface tp (.pointer (some q)))).run C.P w = .ok (.bool !c) w:=by
 obtain⟨i,hi,hcmp⟩:=Option.map_eq_some_iff.1 f3;obtain⟨j,hj,hjs⟩:=Option.map_eq_some_iff.1 f4;rcases hc with⟨rfl,rfl⟩|⟨hne,rfl,⟨g,hg⟩,⟨g',hg'⟩⟩
 ·refine⟨run_eql_iface_ptr_same w p f1 f2 hi hcmp hj,?_⟩;simp only[binOp];simp[Op.equal,Op.maxDepth,run_equalIn_iface_ptr_same w 9998 p f1 f2 hi hcmp hj]
 ·have H:∀g x,C.E g=some (.iface tp (.pointer (some x)))->Hard w x.block:=fun g x hg=>(S.gp g tp x hg).2.of_eq (S.bel.block _ (S.gp g tp x hg).1)
  obtain⟨ca,ta,ha⟩:=H g p hg;obtain⟨cb,tb,hb⟩:=H g' q hg';refine⟨run_eql_iface_ptr_other w f1 f2 hi hcmp hj (by rw[hjs];decide) hne ha hb,?_⟩;simp only[binOp];simp[Op.equal,Op.maxDepth,run_equalIn_iface_ptr_other w 9998 f1 f2 hi hcmp hj (by rw[hjs];decide) hne ha hb]
theorem Stands.after (S:Stands C σ G s a w){σ':Mem}{w':World}(hle:σ.le σ')(hold:∀b o,b<w.heap.size->σ' b o=σ b o)
  (hinv:∀b o v,σ' b o=some v->w'.cell? ⟨b,o,none⟩=some v) (hhard:∀b o v,w.heap.size<=b->σ' b o=some v->Soft w' b) (hbel:Below w.heap.size w w'):Stands C σ' G s a w':=by
 have hg:w.grownBy w' none:=⟨hbel.os,hbel.tape,hbel.output,hbel.size,fun k hk _=>hbel.block k hk⟩;have hm:∀k o,ObjIs σ G w' C.base k o->ObjIs σ' G w' C.base k o:=fun k o h=>by
  unfold ObjIs at h ⊢;split at h
  ·obtain⟨x,us,ty,h1,h2,h3,h4,h5⟩:=h;exact⟨x,us,ty,h1,h2,h3,h4.mono hle,h5⟩
  ·obtain⟨n,us,h1,h2,h3,h4⟩:=h;exact⟨n,us,h1,h2.mono hle,h3,h4⟩
 refine { S with
  le:=Mem.le_trans S.le hle
  old:=fun b o hb=>by rw[hold b o (Nat.lt_of_lt_of_le hb S.size)];exact S.old b o hb
  inv:=hinv
  hard:=fun b o u h he=>by
   rcases Nat.lt_or_ge b w.heap.size with h1|h1
   ·exact(S.hard b o u (by rw[<-hold b o h1];exact h) he).of_eq (hbel.block b h1)
   ·exact hhard b o u h1 h
  bel:=S.bel.trans (hbel.mono S.size)
  oth:=S.oth.trans ⟨hbel.size,fun k o hk _=>(hbel.block k (Array.getElem?_eq_some_iff.1 hk).1).trans hk⟩
  slot:=fun i=>(S.slot i).mono hle
  obj:=fun k o h=>hm k o ((S.obj k o h).grown hg (by simp))
  own:=fun k o b h hb i=>?_ }
 rw[hold b i ((S.obj k o h).block hb).2];exact S.own k o b h hb i
theorem Xb (S:Stands C σ G s a w):∀(xs:List Operand) (ds:List D),asDs (xs.map s.ev)=some ds->RepL σ ds (xs.map a.eval)
 |[],ds,h=>by simp only[List.map_nil,asDs,Option.some.injEq] at h;subst h;simp[RepL]
 |x :: xs,ds,h=>by
  simp only[List.map_cons] at h;have hx:=S.ev x;cases hv:s.ev x with
  |d y=>
   rw[hv] at h hx;simp only[asDs,Option.map_eq_some_iff] at h;obtain⟨ds',h',rfl⟩:=h;simp only[List.map_cons,RepL];exact⟨_,_,rfl,hx,Xb S xs ds' h'⟩
  |ptr _ _=>rw[hv] at h;simp[asDs] at h
  |gs _=>rw[hv] at h;simp[asDs] at h
  |ipr _ _=>rw[hv] at h;simp[asDs] at h
  |vw _ _ _=>rw[hv] at h;simp[asDs] at h
  |hid _=>rw[hv] at h;simp[asDs] at h
  |tp _ _=>rw[hv] at h;simp[asDs] at h
theorem Stands.rowPut {k0:Nat}{g0:Option Nat×Value}{ob:Obj}(S:Stands C σ (upd G k0 g0) (s.new k0 ob) a w){d:Nat}(hd:d<C.n)(u:Value)(hu:g0.2=u){k0':Nat}(e:k0=k0') :
  Stands C σ (upd G k0 g0) ((s.new k0' ob).put (some d) (.gs k0')) (a.put (some d) u) w:=by
 subst e;refine S.put (by simp[RepT,wq,hu]) (fun k hk=>?_) (fun d' h=>by cases h;exact hd);simp only[T.ref,Option.some.injEq] at hk;subst hk;simp[St.new,wq]
theorem zbk (S:Stands C σ G s a w){k d size:Nat}{e:TypeId}{nn:Bool}{cells:List T}{ds:List D}(hk:s.h k=none) :
  ((s.new k ⟨some (e,size,nn),cells⟩).put (some d) (.gs k)).comm k ⟨some (e,size,nn),cells⟩ ds=s.put (some d) (.d (.sl size ds)):=by
 have hT:∀c:T,(∀j,c.ref=some j->s.h j≠none)->jM k ⟨some (e,size,nn),cells⟩ ds c=c:=fun c hc=>by
  have hne:∀j,c.ref=some j->j≠k:=fun j hj e=>hc j hj (by rw[e];exact hk)
  cases c with
  |d x=>rfl
  |ptr j off=>simp only[jM];rw[if_neg (hne j rfl)]
  |gs j=>simp only[jM];rw[if_neg (hne j rfl)]
  |ipr t j=>simp only[jM];rw[if_neg (hne j rfl)]
  |hid x=>rfl
  |vw j o n=>simp only[jM];rw[if_neg (hne j rfl)]
  |tp j x=>simp only[jM];rw[if_neg (hne j rfl)]
 unfold St.comm St.put St.new;simp only[St.mk.injEq];constructor
 ·funext i
  simp only[upd];split
  ·simp only[jM,if_true]
  ·exact hT _ (S.live i)
 ·funext i
  simp only[upd];split
  ·rename_i e;rw[e,hk]
  ·cases ho:s.h i with
   |none=>rfl
   |some o=>
    simp only[Option.map_some,Obj.comm];have:o.cells.map (jM k ⟨some (e,size,nn),cells⟩ ds)=o.cells:=by
     refine(List.map_congr_left fun c hc=>hT c (S.deep i o ho c hc)).trans (List.map_id' _)
    rw[this]
theorem zfW (t:Nat):¬(((t % 2)*2^63+0x7ff0000000000000+1+(t/2) % (2^52-1)) % 9223372036854775808<=9218868437227405312):=by
 have h1:t % 2=0\/t % 2=1:=by omega
 have h2:(t/2) % (2^52-1)<2^52-1:=Nat.mod_lt _ (by decide);generalize (t/2) % (2^52-1)=m at *;rcases h1 with h1|h1<;>rw[h1]<;>omega
theorem Stands.drew (S:Stands C σ G s a w):Stands C σ G s a w.drew:=
 {S with inv:=S.inv,hard:=S.hard,bel:=S.bel.drew,oth:=⟨S.oth.size,S.oth.same⟩,obj:=fun k o h=>S.obj k o h }
theorem Qe (S:Stands C σ G s a w){o:Oper}{K:St->Prop}(h:run1 C o s K)(hd:∀d,o.dst=some d->d<C.n){next:Act->World->Prop}(Q:Exit->Act->World->Prop)
  (hk:∀s' σ' G' a' w',K s'->Stands C σ' G' s' a' w'->next a' w'):o.wp C.P a w next Q:=by
 have lift:∀(x:Sem Value) (u:Value) (w':World),x.run C.P w = .ok u w'->((do pure (.value (<-x)):Sem Next)).run C.P w = .ok (.value u) w':=fun x u w' h=>by simp[h]
 have fin:∀u w',(execOp a.eval o).run C.P w = .ok (.value u) w'->next (a.put o.dst u) w'->o.wp C.P a w next Q:=fun u w' h1 h2=>by
  unfold Oper.wp;rw[h1];exact h2
 unfold run1 at h;split at h
 ·rename_i t hop;obtain⟨d,hdst,h⟩:=wK h;obtain⟨cs,hcs,hkey,h⟩:=wK h;obtain⟨z,z1,z2,z3,z4,_⟩:=Ws (σ:=σ) (G:=G) (w:=w) hcs;have S1:=S.newBox (Nat.le_add_right _ _) hkey (us:=z.cells) z2 (fun c hc j hj=>by rw[z4 c hc] at hj;cases hj) t;refine fin (.pointer (some ⟨w.heap.size,0,none⟩)) (w.alloc (.cells z.cells t)) ?_ ?_
  ·unfold execOp;rw[hop];exact lift _ _ _ (by simp[Instr.alloc,z1,newVar,newRow])
  ·refine hk _ σ (upd G (C.kb+d) (some w.heap.size,.pointer (some ⟨w.heap.size,0,none⟩))) _ _ h ?_;rw[hdst];refine S1.put (x:=.ptr (C.kb+d) 0) (u:=.pointer (some ⟨w.heap.size,0,none⟩)) (by simp[RepT,wq]) (fun k hk'=>?_) (fun d' e=>by cases e;exact hd d hdst);simp only[T.ref,Option.some.injEq] at hk';subst hk';simp[St.new,wq]
 ·rename_i t x hop;obtain⟨d,hdst,h⟩:=wK h;obtain⟨cs,hcs,hkey,h⟩:=wK h;obtain⟨z2,z4⟩:=zx S hcs (S.ev x) (S.evLive x);have S1:=S.newBox (Nat.le_add_right _ _) hkey (us:=(a.eval x).cells) z2 z4 t;refine fin (.pointer (some ⟨w.heap.size,0,none⟩)) (w.alloc (.cells (a.eval x).cells t)) ?_ ?_
  ·unfold execOp;rw[hop];exact lift _ _ _ (by simp[Instr.box,newVar,newRow])
  ·refine hk _ σ (upd G (C.kb+d) (some w.heap.size,.pointer (some ⟨w.heap.size,0,none⟩))) _ _ h ?_;rw[hdst];refine S1.put (x:=.ptr (C.kb+d) 0) (u:=.pointer (some ⟨w.heap.size,0,none⟩)) (by simp[RepT,wq]) (fun k hk'=>?_) (fun d' e=>by cases e;exact hd d hdst);simp only[T.ref,Option.some.injEq] at hk';subst hk';simp[St.new,wq]
 ·rename_i t len parts hop;obtain⟨d,hdst,h⟩:=wK h;obtain⟨⟨e,size,bytes,zs⟩,hsl,h⟩:=wK h;simp only at h;obtain⟨h0,h1,h⟩:=h;obtain⟨cells,hf,hkey,h⟩:=wK h;obtain⟨p1,p2⟩:=J1 S parts.toList;obtain⟨v,w',e1,S1⟩:=S.lit hsl h0 h1 p1 p2 hf (Nat.le_add_right _ _) hkey;have hex:(execOp a.eval o).run C.P w = .ok (.value v) w':=by
   unfold execOp;rw[hop];refine lift _ _ _ ?_;have:(parts.toList.map fun p=>(p.1,a.eval p.2)).toArray=parts.map fun (i,x)=>(i,a.eval x):=by
    rw[<-Array.toArray_toList (xs:=parts.map _)];simp
   rw[<-this];exact e1
  have S2:=S1.rowPut (hd d hdst) v rfl rfl;split at h
  ·obtain⟨ds,hds,h⟩:=wK h;obtain⟨σ',S3⟩:=S2.comm (k:=C.kb+d) (o:=⟨some (e,size,false),cells⟩) (by simp[St.new,St.put,upd]) hds;rw[zbk S hkey] at S3;exact fin v w' hex (hk _ σ' _ _ _ h (by rw[hdst];exact S3))
  ·exact fin v w' hex (hk _ σ _ _ _ h (by rw[hdst];exact S2))
 ·rename_i t l c hop;obtain⟨d,hdst,h⟩:=wK h;split at h
  ·rename_i e size bytes z zs n m hsl hl hc;obtain⟨rfl,h0,h1,h2,h3,hkey,h⟩:=h;have el:=S.ev l;have ec:=S.ev c;rw[hl] at el;rw[hc] at ec;simp only[RepT,Rep] at el ec;obtain⟨v,w',e1,S1⟩:=S.make hsl h1 h2 h3 (Nat.le_add_right _ _) hkey;rw[Int.toNat_of_nonneg h0] at e1;refine fin v w' ?_ (hk _ σ _ _ _ h (by rw[hdst];exact S1.rowPut (hd d hdst) v rfl rfl));unfold execOp;rw[hop];exact lift _ _ _ (by rw[el,ec];exact e1)
  ·exact h.elim
 ·rename_i t p x hop;split at h
  ·rename_i k off hp;obtain⟨ob,hob,h⟩:=wK h;obtain⟨cs,hcs,hsz,hle,h⟩:=wK h;have ep:=S.ev p;rw[hp] at ep;obtain⟨w',e1,S1⟩:=S.storeAt hob hcs hsz hle ep (S.ev x) (S.evLive x);unfold Oper.wp execOp;rw[hop];have:((do Instr.storeAt t (a.eval p) (a.eval x);pure Next.skip:Sem Next)).run C.P w = .ok .skip w':=by simp[e1]
   change o.upon C.P a next Q (((do Instr.storeAt t (a.eval p) (a.eval x);pure Next.skip:Sem Next)).run C.P w)
   rw[this];exact hk _ σ _ _ _ h (S1.put (by simp[RepT,Rep]) (by simp[T.ref]) hd)
  ·exact h.elim
 ·rename_i args argTypes hop;obtain⟨d,hdst,h⟩:=wK h;split at h
  ·rename_i x y t t' hargs htys;obtain⟨rfl,hA⟩:=h;have ha:args = #[x,y]:=by rw[<-Array.toArray_toList (xs:=args),hargs]
   have ht:argTypes = #[t,t]:=by rw[<-Array.toArray_toList (xs:=argTypes),htys]
   subst ha;subst ht;unfold appT at hA;obtain⟨⟨e,size,bytes,zs⟩,hsl,hB⟩:=wK hA;simp only at hB;obtain⟨cs,hcs,h⟩:=wK hB;have ey:=S.ev y;have ex:=S.ev x;have run:∀v w',(Builtin.append_ #[t,t] o.type #[a.eval x,a.eval y]).run C.P w = .ok v w'->(execOp a.eval o).run C.P w = .ok (.value v) w':=fun v w' e=>by
    unfold execOp;rw[hop];simp[resolve,invoke,builtin,e]
   split at h
   ·rename_i hx;obtain⟨h1,h2,hkey,h⟩:=h;rw[hx] at ex;simp only[RepT,Rep] at ex;obtain⟨v,w',e1,S1⟩:=S.appendNil (ty:=o.type) hsl hcs ey h1 h2 (Nat.le_add_right _ _) hkey;exact fin v w' (run v w' (by rw[ex];exact e1)) (hk _ σ _ _ _ h (by rw[hdst];exact S1.rowPut (hd d hdst) v rfl rfl))
   ·rename_i k hx;rw[hx] at ex;split at h
    ·rename_i e' size' nn cells hob;obtain⟨_,rfl,rfl,h1,h2,hkey,h⟩:=h;obtain⟨v,w',e1,S1⟩:=S.appendGs (ty:=o.type) hsl hob hcs ex ey h1 h2 (Nat.le_add_right _ _) hkey;exact fin v w' (run v w' e1) (hk _ σ _ _ _ h (by rw[hdst];exact S1.rowPut (hd d hdst) v rfl rfl))
    ·exact h.elim
   ·exact h.elim
  ·exact h.elim
 ·rename_i f args argTypes hop;split at h
  ·rename_i g fst cap hf;obtain⟨rfl,rfl,h⟩:=h;have ef:=S.ev f;rw[hf] at ef;simp only[RepT,Rep] at ef;unfold Oper.wp execOp;rw[hop];have harr:(args.toList.map a.eval).toArray=args.map a.eval:=by rw[<-Array.toArray_toList (xs:=args.map _)];simp
   have hrun:((do let d <-resolve a.eval ⟨.value f,args,argTypes⟩ o.type;invoke d.target d.args:Sem Next))=callFunc g (args.toList.map a.eval).toArray:=by
    rw[harr];simp[resolve,ef,Deferred.ofValue,invoke]
   change o.upon C.P a next Q (((do let d <-resolve a.eval ⟨.value f,args,argTypes⟩ o.type;invoke d.target d.args:Sem Next)).run C.P w)
   rw[hrun];split at h
   ·rename_i hE;obtain⟨k,r,e0,e,a',hts,hk0,hD,ha2,he,h⟩:=QZ h;have hg:g=137:=by simpa [isE] using hE
    subst hg;obtain⟨us,rfl,hl,hr⟩:=Wc S args.toList;rw[hts] at hl hr;exact hD C s o.dst k r e0 e a' rfl rfl hk0 ha2 he σ G a w _ S hl hr hd o next Q rfl (fun σ' G' a' w' S'=>hk _ σ' G' a' w' h S')
   split at h
   ·obtain⟨s',hp,h⟩:=h;obtain⟨us,rfl,hl,hr⟩:=Wc S args.toList;exact hp σ G a w _ S hl hr hd o next Q rfl (fun σ' G' a' w' S'=>hk _ σ' G' a' w' h S')
   obtain⟨ds,hds,r,hcall,h⟩:=wK h;have hargs:=Xb S args.toList ds hds;have hFit:Fits C.E σ w:=⟨S.inv,fun g u hg=>S.le _ _ _ (S.glob g u hg),fun u hu=>Rep.mono S.le _ _ (S.tab u hu),S.hard,fun g t x hg=>(S.gp g t x hg).2.of_eq (S.bel.block _ (S.gp g t x hg).1)⟩;refine hcall σ w _ hFit hargs o a next Q (fun u w' hA=>?_)
   obtain⟨σ',a1,a2,a3,a3',a4,a5⟩:=hA;have S1:=S.after a1 a2 a3 a3' a4;cases r with
   |data x=>
    simp only[resT] at h;exact hk _ σ' _ _ _ h (S1.put (x:=.d x) (u:=u) a5 (by simp[T.ref]) hd)
   |own e size nn cells=>
    simp only[resT] at h;obtain⟨d,hdst,hkey,h⟩:=wK h;simp only[zF] at a5;obtain⟨n,us,b1,b2,b3,b4⟩:=a5;have hgrown:w'.grownBy w' u.ownBlock:=⟨rfl,rfl,rfl,Nat.le_refl _,fun _ _ _=>rfl⟩;have S2:=S1.fresh (g:=(u.ownBlock,u)) (o:=⟨some (e,size,nn),cells.map .d⟩) (Nat.le_add_right _ _) hkey hgrown (fun b hb=>⟨Nat.le_trans S.size (b1.lt b hb).1,b3 b hb,fun k' o' hk' e'=>by
      have:=((S.obj k' o' hk').block e').2;have:=(b1.lt b hb).1;omega⟩) (qZ b1) (by
      simp only[ObjIs,wq];refine⟨n,us,?_,(RepU.asT b2),trivial,fun h1 h2=>b4 h1 (by simpa using h2)⟩;refine⟨b1.1,?_⟩;rcases b1.2 with q|⟨g',cap,cur,q1,q2,q3⟩
      ·exact .inl q
      ·exact .inr ⟨g',cap,cur,q1,Nat.le_trans S.size q2,q3⟩)
     (fun c hc j hj=>by simp only[List.mem_map] at hc;obtain⟨d,_,rfl⟩:=hc;simp[T.ref] at hj) (fun b hb=>.inr hb)
    exact hk _ σ' _ _ _ h (by rw[hdst];exact S2.rowPut (hd d hdst) u rfl rfl)
   |ownP e size nn cells y=>
    simp only[resT] at h;obtain⟨d,hdst,hkey,h⟩:=wK h;simp only[zF] at a5;obtain⟨v,z,rfl,a6,n,us,b1,b2,b3,b4⟩:=a5;have hgrown:w'.grownBy w' v.ownBlock:=⟨rfl,rfl,rfl,Nat.le_refl _,fun _ _ _=>rfl⟩;have S2:=S1.fresh (g:=(v.ownBlock,v)) (o:=⟨some (e,size,nn),cells.map .d⟩) (Nat.le_add_right _ _) hkey hgrown (fun b hb=>⟨Nat.le_trans S.size (b1.lt b hb).1,b3 b hb,fun k' o' hk' e'=>by
      have:=((S.obj k' o' hk').block e').2;have:=(b1.lt b hb).1;omega⟩) (qZ b1) (by
      simp only[ObjIs,wq];refine⟨n,us,?_,(RepU.asT b2),trivial,fun h1 h2=>b4 h1 (by simpa using h2)⟩;refine⟨b1.1,?_⟩;rcases b1.2 with q|⟨g',cap,cur,q1,q2,q3⟩
      ·exact .inl q
      ·exact .inr ⟨g',cap,cur,q1,Nat.le_trans S.size q2,q3⟩)
     (fun c hc j hj=>by simp only[List.mem_map] at hc;obtain⟨d,_,rfl⟩:=hc;simp[T.ref] at hj) (fun b hb=>.inr hb)
    have S4:=S2.put (x:=.tp (C.kb+d) y) (u:=.tuple #[v,z]) (dst:=some d) ⟨z,by simp[wq],a6⟩ (fun k hk'=>by
     simp only[T.ref,Option.some.injEq] at hk';subst hk';simp[St.new,wq]) (fun d' e=>by cases e;exact hd d hdst)
    exact hk _ σ' _ _ _ h (by rw[hdst];exact S4)
  ·exact h.elim
 ·rename_i op t x y t' hop;split at h
  ·rename_i hy;obtain⟨⟨⟨ms,f1⟩,f2,f3,f4⟩,c,⟨p,q,hx,hyy,hc⟩,h⟩:=h;simp only[jD,Bool.and_eq_true,beq_iff_eq] at hy;obtain⟨_,rfl⟩:=hy;have ex:=S.ev x;have ey:=S.ev y;rw[hx] at ex;rw[hyy] at ey;simp only[RepT,Rep] at ex ey;obtain⟨hE,hN⟩:=zbi (w:=w) (C:=C) S f1 f2 f3 f4 hc;rcases h with⟨rfl,h⟩|⟨rfl,h⟩
   ·refine fin (.bool c) w ?_ (hk _ σ _ _ _ h (S.put (by simp[RepT,Rep]) (by simp[T.ref]) hd));unfold execOp;rw[hop];exact lift _ _ _ (by rw[ex,ey];exact hE)
   ·refine fin (.bool !c) w ?_ (hk _ σ _ _ _ h (S.put (by simp[RepT,Rep]) (by simp[T.ref]) hd));unfold execOp;rw[hop];exact lift _ _ _ (by rw[ex,ey];exact hN)
  ·split at h
   ·rename_i hno;obtain⟨p,q,hx,hy,h⟩:=zaL h;have ex:=S.ev x;have ey:=S.ev y;rw[hx] at ex;rw[hy] at ey;simp only[RepT,Rep] at ex ey;have hop2:op = .quo:=by
     unfold xd at hno;split at hno
     ·split at hno
      ·rfl
      ·cases hno
     ·cases hno
    subst hop2;have hg:=jR (P:=C.P) (w:=w) (op:=.quo) (t:=t) (x:=x) (y:=y) (u:=.float .f64 p) (v:=.float .f64 q) (by simp) (by simp);cases hdv:FloatKind.f64.format.div p q with
    |some r=>
     rw[hdv] at h;refine fin (.float .f64 r) w ?_ (hk _ σ _ _ _ h (S.put (by simp[RepT,Rep]) (by simp[T.ref]) hd));unfold execOp;rw[hop];refine lift _ _ _ ?_;rw[ex,ey];simp only[Sem.run_bind,hg,Result.andThen_ok];exact Qd (k:=.f64) (by simp only[pfloat,hdv,Option.map_some])
    |none=>
     rw[hdv] at h;refine fin (.float .f64 ((Question.nanBits .f64 p q).cut (w.tape w.drawn (Question.nanBits .f64 p q)))) w.drew ?_ (hk _ σ _ _ _ (h ((Question.nanBits .f64 p q).cut (w.tape w.drawn (Question.nanBits .f64 p q))) ?_) (S.drew.put (by simp[RepT,Rep]) (by simp[T.ref]) hd))
     ·unfold execOp;rw[hop];refine lift _ (.float .f64 ((Question.nanBits .f64 p q).cut (w.tape w.drawn (Question.nanBits .f64 p q)))) w.drew ?_;rw[ex,ey];simp only[Sem.run_bind,hg,Result.andThen_ok];simp[binOp,Op.floatArith,hdv,Question.forced]
     ·exact zfW _
   obtain⟨r,hr,h⟩:=wK h;obtain⟨u,h1,h2,h3⟩:=Xs S (o:=o) (by rw[hop];exact hr);exact fin u w h1 (hk _ σ _ _ _ h (S.put h2 h3 hd))
 ·obtain⟨r,hr,h⟩:=wK h;obtain⟨u,h1,h2,h3⟩:=Xs S hr;exact fin u w h1 (hk _ σ _ _ _ h (S.put h2 h3 hd))
end
end Go.Enc
end
