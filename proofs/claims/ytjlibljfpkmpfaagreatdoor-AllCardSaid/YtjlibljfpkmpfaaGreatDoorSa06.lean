/-
  The equations by which a body is gone through.
-/
import Derived.Test.YtjlibljfpkmpfaaGreatDoorSa05
set_option maxRecDepth 100000
set_option linter.unusedSimpArgs false
set_option linter.unusedVariables false
namespace Go.Enc
open Go.RowKit
structure DC (C:Ctx)(c:Code)(Q:Exit->St->Prop)(s:St):Prop where
 ok:dcode C c Q s
structure ST (C:Ctx)(ops:Array Oper)(l:List Oper)(s:St)(K:St->Prop):Prop where
 ok:steps C ops l s K
theorem Wr:DC=dcode:=by funext C c Q s;exact propext ⟨fun h=>h.ok,fun h=>⟨h⟩⟩
theorem jg:ST=steps:=by funext C c Q s K;exact propext ⟨fun h=>h.ok,fun h=>⟨h⟩⟩
theorem wm {C:Ctx}{Q:Exit->St->Prop}{s:St}{α:Type}{c:Code}(Sx:α->St)(μ:α->Nat)(x0:α)(h0:Weak s (Sx x0))(hf:jG C.n c=true)
  (round:∀x,DC C c (Thn (fun s'=>∃x',Weak s' (Sx x')/\μ x'<μ x) Q) (Sx x)):DWp C (.loop c) Q s:=zac Sx μ x0 h0 hf fun x=>(round x).ok
theorem zdk {P:Program}{E:Nat->Option Value}{f:FuncId}{fn:Func}{c:Code}{args:List D}{r:Res}(hf:P.funcs[f]?=some fn)(hb:fn.body=some c)(hname:(fn.name == "runtime.NumGoroutine")=false)
  {n:Nat} (hn:fn.ntmps=n) (hfit:jG n c=true) (ha:args.length<=n) {rs:List ResultVar} (hrs:fn.results.toList=rs)
  (h:∀C:Ctx,C.P=P->C.E=E->C.n=n->C.kb=0->DC C c (Post C rs r) (St.init args)):DCall P E f args r:=zaj hf hb hname hn hfit ha hrs fun C h1 h2 h3 h4=>(h C h1 h2 h3 h4).ok
theorem dcA {P:Program}{E:Nat->Option Value}{f:FuncId}{fn:Func}{c:Code}{args:List D}{r:Res}{n:Nat}{rs:List ResultVar}(hf:P.funcs[f]?=some fn)(hn:fn.ntmps=n)
  (h:∀σ0 w0 base df G0,DC ⟨P,E,σ0,w0,base,n,0,df,G0⟩ c (Post ⟨P,E,σ0,w0,base,n,0,df,G0⟩ rs r) (St.init args)) (hb:fn.body=some c:=by exact rfl) (hname:(fn.name == "runtime.NumGoroutine")=false:=by kernel_rfl) (hfit:jG n c=true:=by kernel_rfl) (ha:args.length<=n:=by simp) (hrs:fn.results.toList=rs:=by exact rfl):DCall P E f args r:=
 zdk hf hb hname hn hfit ha hrs fun C h1 h2 h3 h4=>by
  obtain⟨P',E',σ0,w0,base,n',kb,df,G0⟩:=C;simp only at h1 h2 h3 h4;subst h1 h2 h3 h4;exact h _ _ _ _ _
theorem mxE:maxLen=9223372036854775807:=by decide
theorem c0E:((0:Nat):Int)=0:=rfl
def Jq (C:Ctx)(g:FuncId)(xs:Option (List D))(k:Res->Prop):Prop:=ws xs fun ds=>∃r,DCall C.P C.E g ds r/\k r
structure Hd (p:Prop):Type where
def Stop (p:Prop)(_:Hd p):Prop:=p
@[congr] theorem zjz {α:Type}{o o':Option α}(K:α->Prop)(h:o=o'):ws o K=ws o' K:=by rw[h]
def zO (t:T)(p q:Prop)(_:Hd p)(_:Hd q):Prop:=Q1 t p q
@[congr] theorem zhQ {C:Ctx}{g:FuncId}{xs ys:Option (List D)}(k:Res->Prop)(h:xs=ys):Jq C g xs k=Jq C g ys k:=by rw[h]
def ErrCmp (C:Ctx)(x y:T)(k:Bool->Prop)(_:Hd (∃c,k c)):Prop:=Ji C.P/\∃c,ZA C x y c/\k c
theorem ErrCmp.intro {C:Ctx}{x y:T}{k:Bool->Prop}{z:Hd (∃c,k c)}(hf:Ji C.P)(c:Bool)(h:ZA C x y c)(hk:k c):ErrCmp C x y k z:=⟨hf,c,h,hk⟩
def CallP (C:Ctx)(g:FuncId)(ts:List T)(d:Option Nat)(s:St)(k:St->Prop)(_:Hd (∃s',k s')):Prop:=∃s',xq C g ts d s s'/\k s'
theorem CallP.intro {C:Ctx}{g:FuncId}{ts:List T}{d:Option Nat}{s s':St}{k:St->Prop}{x:Hd (∃s',k s')}(h:xq C g ts d s s')(hk:k s'):CallP C g ts d s k x:=⟨s',h,hk⟩
def Call (C:Ctx)(g:FuncId)(ds:List D)(k:Res->Prop)(_:Hd (∃r,k r)):Prop:=∃r,DCall C.P C.E g ds r/\k r
@[congr] theorem zjP {C:Ctx}{g:FuncId}{ds ds':List D}(k:Res->Prop)(x:Hd (∃r,k r))(h:ds=ds'):Call C g ds k x=Call C g ds' k x:=by rw[h]
@[congr] theorem zhX {C:Ctx}{g:FuncId}{ts ts':List T}(d:Option Nat)(s:St)(k:St->Prop)(x:Hd (∃s',k s'))(h:ts=ts'):CallP C g ts d s k x=CallP C g ts' d s k x:=by rw[h]
@[congr] theorem zgd {C:Ctx}{a a' b b':T}(k:Bool->Prop)(x:Hd (∃c,k c))(h:a=a')(h':b=b'):ErrCmp C a b k x=ErrCmp C a' b' k x:=by rw[h,h']
@[congr] theorem zhH {t t':T}(p q:Prop)(x:Hd p)(y:Hd q)(h:t=t'):zO t p q x y=zO t' p q x y:=by rw[h]
@[congr] theorem zjL (p:Prop)(x:Hd p):Stop p x=Stop p x:=rfl
theorem cI {C:Ctx}{g:FuncId}{ds:List D}{k:Res->Prop}{x:Hd (∃r,k r)}{r:Res}(h:DCall C.P C.E g ds r)(hk:k r):Call C g ds k x:=⟨r,h,hk⟩
section
variable {C:Ctx} {ops:Array Oper} {r:List Oper} {s:St} {K:St->Prop} {d:Option Tmp} {ty:TypeId} {pos:String} {after:Array Edge}
@[go_sem ↓] theorem zlp:ST C ops [] s K=K s:=by rw[jg];rfl
@[go_sem ↓] theorem zlV (x:Operand):ST C ops (⟨d,.move x,ty,pos,after,none⟩ :: r) s K=ST C ops r (s.put d (s.ev x)) K:=by rw[jg];rfl
@[go_sem ↓] theorem zjQ (x:Operand):ST C ops (⟨d,.assign x,ty,pos,after,none⟩ :: r) s K=ST C ops r (s.put d (s.ev x)) K:=by rw[jg];rfl
def zgs (c x y:T):Option T:=match c with
 |.d (.v (.bool t))=>some (if t then x else y)
 |_=>none
@[go_sem ↓] theorem zlU (c x y:Operand):ST C ops (⟨d,.pick c x y,ty,pos,after,none⟩ :: r) s K=ws (zgs (s.ev c) (s.ev x) (s.ev y)) fun v=>ST C ops r (s.put d v) K:=by rw[jg];rfl
@[go_sem ↓] theorem zlW (t:TypeId)(x:Operand):ST C ops (⟨d,.load t x,ty,pos,after,none⟩ :: r) s K=ws (xe C.P C.E s.h t (s.ev x)) fun v=>ST C ops r (s.put d v) K:=by rw[jg];rfl
@[go_sem ↓] theorem zev (t:TypeId)(x:Operand)(f:Nat):ST C ops (⟨d,.fieldAddr t x f,ty,pos,after,none⟩ :: r) s K=ws (JP C.P t f (s.ev x)) fun v=>ST C ops r (s.put d v) K:=by rw[jg];rfl
@[go_sem ↓] theorem zeu (t:TypeId)(x i:Operand):ST C ops (⟨d,.indexAddr t x i,ty,pos,after,none⟩ :: r) s K=ws (kF C.P s.h t (s.ev x) (s.ev i)) fun v=>ST C ops r (s.put d v) K:=by rw[jg];rfl
@[go_sem ↓] theorem zkM (t:TypeId)(x i:Operand):ST C ops (⟨d,.index t x i,ty,pos,after,none⟩ :: r) s K=ws (xM C.P t (s.ev x) (s.ev i)) fun v=>ST C ops r (s.put d v) K:=by rw[jg];rfl
@[go_sem ↓] theorem zkL (t:TypeId)(x:Operand)(lo hi mx:Option Operand):ST C ops (⟨d,.slice t x lo hi mx,ty,pos,after,none⟩ :: r) s K=ws (qL C.P s.h t (lo.map s.ev) (hi.map s.ev) (mx.map s.ev) (s.ev x)) fun v=>ST C ops r (s.put d v) K:=by rw[jg];rfl
@[go_sem ↓] theorem zhh (x:Operand)(i:Nat):ST C ops (⟨d,.extract x i,ty,pos,after,none⟩ :: r) s K=ws (vM i (s.ev x)) fun v=>ST C ops r (s.put d v) K:=by rw[jg];rfl
def bin2 (P:Program)(op:BinOp)(t:TypeId):T->T->Option T
 |.d (.v (.int k a)),.d (.v (.int k' b))=>if xy op then (pshift op k a b).map fun v=>.d (.v v) else if k=k' then (pint op k a b).map fun v=>.d (.v v) else none
 |.d (.v (.float k a)),.d (.v (.float k' b))=>if xy op then none else if k=k' then (pfloat op k a b).map fun v=>.d (.v v) else none
 |.d (.v (.string a)),.d (.v (.string b))=>strT op a b
 |.d (.v (.bool a)),.d (.v (.bool b))=>boolT P op t a b
 |.d (.agg as),.d (.agg bs)=>aggT P op t as bs
 |_,_=>none
where
 strT (op:BinOp) (a b:ByteArray):Option T:=match op with
  |.eql=>some (.d (.v (.bool (a.toList==b.toList))))
  |.neq=>some (.d (.v (.bool (!(a.toList==b.toList)))))
  |_=>none
 boolT (P:Program) (op:BinOp) (t:TypeId) (a b:Bool):Option T:=match P.underlying t,op with
  |some .bool,.eql=>some (.d (.v (.bool (a==b))))
  |some .bool,.neq=>some (.d (.v (.bool (!(a==b)))))
  |_,_=>none
 aggT (P:Program) (op:BinOp) (t:TypeId) (as bs:List D):Option T:=match op with
  |.eql=>(QV P t as bs).map fun b=>.d (.v (.bool b))
  |.neq=>(QV P t as bs).map fun b=>.d (.v (.bool (!b)))
  |_=>none
def nil2 (op:BinOp):Option Bool->Option T
 |some b=>match op with
  |.eql=>some (.d (.v (.bool b)))
  |.neq=>some (.d (.v (.bool (!b))))
  |_=>none
 |none=>none
theorem ku {P:Program}{h:Nat->Option Obj}{op:BinOp}{t:TypeId}{yo:Operand}{x y:T}(hy:jw yo=false):binT P h op t yo x y=bin2 P op t x y:=by
 unfold binT bin2;rw[hy];simp only[Bool.false_eq_true,if_false];split<;>first|rfl|(split<;>rfl)|skip
 all_goals (try (cases op<;>rfl))
 all_goals (first|rfl|(unfold bin2.boolT;rfl)|(split<;>first|rfl|(exfalso;simp_all;done)|(exfalso;simp_all;rename_i hh;exact hh _ _ _ _ rfl rfl rfl rfl)))
theorem qq {P:Program}{h:Nat->Option Obj}{op:BinOp}{t:TypeId}{yo:Operand}{x y:T}(hy:jw yo=true):binT P h op t yo x y=nil2 op (jy P h t x):=by
 unfold binT;rw[hy];simp only[if_true];cases jy P h t x<;>cases op<;>rfl
def qJ (op:BinOp)(i j:Nat):Bool:=match op with
 |.quo=>i==59&&j==60
 |_=>false
@[go_sem] theorem zlc (i j:Nat):qJ .quo i j=(i==59&&j==60):=(rfl)
@[go_sem] theorem zji (i j:Nat):qJ .add i j=false:=(rfl)
@[go_sem] theorem zjW (i j:Nat):qJ .sub i j=false:=(rfl)
@[go_sem] theorem zjb (i j:Nat):qJ .mul i j=false:=(rfl)
@[go_sem] theorem zjZ (i j:Nat):qJ .rem i j=false:=(rfl)
@[go_sem] theorem zjh (i j:Nat):qJ .and i j=false:=(rfl)
@[go_sem] theorem zkr (i j:Nat):qJ .or i j=false:=(rfl)
@[go_sem] theorem zjV (i j:Nat):qJ .xor i j=false:=(rfl)
@[go_sem] theorem zjY (i j:Nat):qJ .shl i j=false:=(rfl)
@[go_sem] theorem zjX (i j:Nat):qJ .shr i j=false:=(rfl)
@[go_sem] theorem zfX (i j:Nat):qJ .andNot i j=false:=(rfl)
@[go_sem] theorem zjg (i j:Nat):qJ .eql i j=false:=(rfl)
@[go_sem] theorem zja (i j:Nat):qJ .neq i j=false:=(rfl)
@[go_sem] theorem zjc (i j:Nat):qJ .lss i j=false:=(rfl)
@[go_sem] theorem zjd (i j:Nat):qJ .leq i j=false:=(rfl)
@[go_sem] theorem zje (i j:Nat):qJ .gtr i j=false:=(rfl)
@[go_sem] theorem zjf (i j:Nat):qJ .geq i j=false:=(rfl)
@[go_sem] theorem zmN (b:Bool):(false&&b)=false:=(rfl)
@[go_sem] theorem zmM (b:Bool):(true&&b)=b:=(rfl)
@[go_sem] theorem zkn (op:BinOp)(i j:Nat):xd op (.tmp i) (.tmp j)=qJ op i j:=(rfl)
@[go_sem] theorem zkq (op:BinOp)(v:Value)(j:Nat):xd op (.const v) (.tmp j)=false:=by cases op<;>rfl
@[go_sem] theorem zko (op:BinOp)(v:Nat)(j:Nat):xd op (.global v) (.tmp j)=false:=by cases op<;>rfl
@[go_sem] theorem zkp (op:BinOp)(v:Nat)(j:Nat):xd op (.func v) (.tmp j)=false:=by cases op<;>rfl
@[go_sem ↓] theorem zey (op:BinOp)(t t':TypeId)(ht:(t==61)=false)(x:Operand)(y:Tmp)(hno:xd op x (.tmp y)=false):ST C ops (⟨d,.binOp op t x (.tmp y) t',ty,pos,after,none⟩ :: r) s K=ws (bin2 C.P op t (s.ev x) (s.t y)) fun v=>ST C ops r (s.put d v) K:=by
 rw[jg];have:jD (.tmp y) t=false:=by simp only[jD,ht];rfl
 rw[<-ku (h:=s.h) (yo:=.tmp y) rfl];simp only[steps,step,run1,this,hno,Bool.false_eq_true,if_false];rfl
@[congr] theorem ziU {s:St}{d:Option Nat}(K:St->Prop){x x' y y':T}(h:x=x')(h':y=y'):nanT s d K x y=nanT s d K x' y':=by rw[h,h']
@[congr] theorem ziV {s:St}{d:Option Nat}(K:St->Prop){x x':Option Nat}(h:x=x'):nanR s d K x=nanR s d K x':=by rw[h]
@[go_sem ↓] theorem zlq (t t':TypeId)(ht:(t==61)=false):ST C ops (⟨d,.binOp .quo t (.tmp 59) (.tmp 60) t',ty,pos,after,none⟩ :: r) s K=nanT s d (fun s'=>ST C ops r s' K) (s.t 59) (s.t 60):=by
 rw[jg];have:jD (.tmp 60) t=false:=by simp only[jD,ht];rfl
 simp only[steps,step,run1,this,show xd .quo (.tmp 59) (.tmp 60)=true from rfl,Bool.false_eq_true,if_false,if_true];rfl
@[go_sem] theorem zlb {a b:Nat}:nanT s d K (.d (.v (.float .f64 a))) (.d (.v (.float .f64 b)))=nanR s d K (FloatKind.f64.format.div a b):=(rfl)
@[go_sem] theorem zjT {a:Nat}:nanR s d K (some a)=K (s.put d (.d (.v (.float .f64 a)))):=(rfl)
@[go_sem] theorem zjU:nanR s d K none=∀r,¬(r % 9223372036854775808<=9218868437227405312)->Stop (K (s.put d (.d (.v (.float .f64 r))))) ⟨⟩:=(rfl)
@[go_sem ↓] theorem zex (t':TypeId)(x:Operand)(y:Tmp):ST C ops (⟨d,.binOp .eql 61 x (.tmp y) t',ty,pos,after,none⟩ :: r) s K=ErrCmp C (s.ev x) (s.t y) (fun c=>ST C ops r (s.put d (.d (.v (.bool c)))) K) ⟨⟩:=by
 rw[jg];apply propext;simp only[steps,step,run1,jD,ErrCmp,St.ev];simp
@[go_sem ↓] theorem zew (t':TypeId)(x:Operand)(y:Tmp):ST C ops (⟨d,.binOp .neq 61 x (.tmp y) t',ty,pos,after,none⟩ :: r) s K=ErrCmp C (s.ev x) (s.t y) (fun c=>ST C ops r (s.put d (.d (.v (.bool !c)))) K) ⟨⟩:=by
 rw[jg];apply propext;simp only[steps,step,run1,jD,ErrCmp,St.ev];simp
@[go_sem ↓] theorem zez (op:BinOp)(t t':TypeId)(x:Operand)(k:IntKind)(n:Int):ST C ops (⟨d,.binOp op t x (.const (.int k n)) t',ty,pos,after,none⟩ :: r) s K=ws (bin2 C.P op t (s.ev x) (.d (.v (.int k n)))) fun v=>ST C ops r (s.put d v) K:=by
 rw[jg];rw[<-ku (h:=s.h) (yo:=.const (.int k n)) rfl];rfl
@[go_sem ↓] theorem zbS (op:BinOp)(t t':TypeId)(x:Operand)(k:FloatKind)(n:Nat):ST C ops (⟨d,.binOp op t x (.const (.float k n)) t',ty,pos,after,none⟩ :: r) s K=ws (bin2 C.P op t (s.ev x) (.d (.v (.float k n)))) fun v=>ST C ops r (s.put d v) K:=by
 rw[jg];rw[<-ku (h:=s.h) (yo:=.const (.float k n)) rfl];rfl
@[go_sem ↓] theorem zav (op:BinOp)(t t':TypeId)(x:Operand)(n:ByteArray):ST C ops (⟨d,.binOp op t x (.const (.string n)) t',ty,pos,after,none⟩ :: r) s K=ws (bin2 C.P op t (s.ev x) (.d (.v (.string n)))) fun v=>ST C ops r (s.put d v) K:=by
 rw[jg];rw[<-ku (h:=s.h) (yo:=.const (.string n)) rfl];rfl
@[go_sem ↓] theorem zeP (op:BinOp)(t t':TypeId)(x:Operand):ST C ops (⟨d,.binOp op t x (.const .nilIface) t',ty,pos,after,none⟩ :: r) s K =
  ws (if jT C.P t (.const .nilIface) then nil2 op (jy C.P s.h t (s.ev x)) else none) fun v=>ST C ops r (s.put d v) K:=by
 rw[jg];rw[<-qq (yo:=.const .nilIface) (y:=s.ev (.const .nilIface)) rfl]
 show ws (if jw (.const .nilIface) && !jT C.P t (.const .nilIface) then none else _) _=_
 cases jT C.P t (.const .nilIface)<;>rfl
@[go_sem ↓] theorem zeO (op:BinOp)(t t':TypeId)(x:Operand):ST C ops (⟨d,.binOp op t x (.const (.slice none 0 0)) t',ty,pos,after,none⟩ :: r) s K =
  ws (if jT C.P t (.const (.slice none 0 0)) then nil2 op (jy C.P s.h t (s.ev x)) else none) fun v=>ST C ops r (s.put d v) K:=by
 rw[jg];rw[<-qq (yo:=.const (.slice none 0 0)) (y:=s.ev (.const (.slice none 0 0))) rfl]
 show ws (if jw (.const (.slice none 0 0)) && !jT C.P t (.const (.slice none 0 0)) then none else _) _=_
 cases jT C.P t (.const (.slice none 0 0))<;>rfl
@[go_sem ↓] theorem zeQ (op:BinOp)(t t':TypeId)(x:Operand):ST C ops (⟨d,.binOp op t x (.const .nilFunc) t',ty,pos,after,none⟩ :: r) s K =
  ws (if jT C.P t (.const .nilFunc) then nil2 op (jy C.P s.h t (s.ev x)) else none) fun v=>ST C ops r (s.put d v) K:=by
 rw[jg];rw[<-qq (yo:=.const .nilFunc) (y:=s.ev (.const .nilFunc)) rfl]
 show ws (if jw (.const .nilFunc) && !jT C.P t (.const .nilFunc) then none else _) _=_
 cases jT C.P t (.const .nilFunc)<;>rfl
@[go_sem ↓] theorem zlT (op:UnOp)(t:TypeId)(x:Operand):ST C ops (⟨d,.unOp op t x,ty,pos,after,none⟩ :: r) s K=ws (unT op (s.ev x)) fun v=>ST C ops r (s.put d v) K:=by rw[jg];rfl
@[go_sem ↓] theorem zhi (t t':TypeId)(x:Operand):ST C ops (⟨d,.convert t t' x,ty,pos,after,none⟩ :: r) s K=ws (X8 C.P t t' (s.ev x)) fun v=>ST C ops r (s.put d v) K:=by rw[jg];rfl
@[go_sem ↓] theorem RU (t:TypeId)(x:Operand):ST C ops (⟨d,.makeInterface t x,ty,pos,after,none⟩ :: r) s K=ws (vC C.P t (s.ev x)) fun v=>ST C ops r (s.put d v) K:=by rw[jg];rfl
@[go_sem ↓] theorem zgl (x:Operand):ST C ops (⟨d,.nilCheck x,ty,pos,after,none⟩ :: r) s K=ws (xH (s.ev x)) fun v=>ST C ops r (s.put d v) K:=by rw[jg];rfl
@[go_sem ↓] theorem zkR (t:TypeId)(parts:List (Nat×Operand)):ST C ops (⟨d,.build t parts.toArray,ty,pos,after,none⟩ :: r) s K=ws (JT C.P t (parts.map fun p=>(p.1,s.ev p.2))) fun v=>ST C ops r (s.put d v) K:=by
 rw[jg];simp only[steps,step,run1,yld,List.toList_toArray]
@[go_sem ↓] theorem zlt (x:Operand)(t:TypeId):ST C ops (⟨d,.call ⟨.builtin .len,#[x],#[t]⟩,ty,pos,after,none⟩ :: r) s K=ws (lenT C.P s.h t (s.ev x)) fun v=>ST C ops r (s.put d v) K:=by rw[jg];rfl
@[go_sem ↓] theorem zlr (xs:List Operand)(ts:Array TypeId):ST C ops (⟨d,.call ⟨.builtin .min,xs.toArray,ts⟩,ty,pos,after,none⟩ :: r) s K=ws (xx false (xs.map s.ev)) fun v=>ST C ops r (s.put d v) K:=by
 rw[jg];simp only[steps,step,run1,yld,List.toList_toArray]
@[go_sem ↓] theorem zls (xs:List Operand)(ts:Array TypeId):ST C ops (⟨d,.call ⟨.builtin .max,xs.toArray,ts⟩,ty,pos,after,none⟩ :: r) s K=ws (xx true (xs.map s.ev)) fun v=>ST C ops r (s.put d v) K:=by
 rw[jg];simp only[steps,step,run1,yld,List.toList_toArray]
@[go_sem ↓] theorem zkS (d:Tmp)(t:TypeId):ST C ops (⟨some d,.alloc t,ty,pos,after,none⟩ :: r) s K=ws (kN C.P t) fun cs=>s.h (C.kb+d)=none/\ST C ops r (s.var C.kb d cs) K:=by rw[jg];rfl
@[go_sem ↓] theorem zlu (d:Tmp)(t:TypeId)(x:Operand):ST C ops (⟨some d,.box t x,ty,pos,after,none⟩ :: r) s K=ws (k7 (s.ev x)) fun cs=>s.h (C.kb+d)=none/\ST C ops r (s.var C.kb d cs) K:=by rw[jg];rfl
@[go_sem ↓] theorem zeN (d:Tmp)(t:TypeId)(len:Nat)(parts:List (Nat×Operand)):ST C ops (⟨some d,.buildSlice t len parts.toArray,ty,pos,after,none⟩ :: r) s K =
  ws (slT C.P t) fun q=>0<len/\len*q.2.1<=16777216/\ws (vK (fun i=>some (i*q.2.1,q.2.1)) (List.replicate (len*q.2.1) (.d .any)) (parts.map fun p=>(p.1,s.ev p.2))) fun cells=>s.h (C.kb+d)=none/\if q.2.1=3 then ws (asDs cells) fun ds=>ST C ops r (s.put (some d) (.d (.sl q.2.1 ds))) K else ST C ops r (s.row C.kb d ⟨some (q.1,q.2.1,false),cells⟩) K:=by
 rw[jg];simp only[steps,step,run1,List.toList_toArray,jg];rfl
def QC (C:Ctx)(s:St)(d:Nat)(t:TypeId)(l c:T)(K:St->Prop):Prop:=match slT C.P t,l,c with
  |some (e,size,bytes,z :: zs),.d (.v (.int .i64 n)),.d (.v (.int .i64 m))=>n=m/\0<=n/\Vj z (z :: zs)=true/\n.toNat*bytes<=281474976710656/\n.toNat<=maxLen/\s.h (C.kb+d)=none /\
    K (s.row C.kb d ⟨some (e,size,false),List.replicate (n.toNat*size) (.d (.v z))⟩)
  |_,_,_=>False
@[congr] theorem zgw {C:Ctx}{s:St}{d:Nat}{t:TypeId}{l l' c c':T}(K:St->Prop)(h:l=l')(h':c=c'):QC C s d t l c K=QC C s d t l' c' K:=by rw[h,h']
@[go_sem ↓] theorem zet (d:Tmp)(t:TypeId)(l c:Operand):ST C ops (⟨some d,.makeSlice t l c,ty,pos,after,none⟩ :: r) s K=QC C s d t (s.ev l) (s.ev c) fun s'=>ST C ops r s' K:=by rw[jg];rfl
def Vv (C:Ctx)(s:St)(d:Option Nat)(t:TypeId)(p x:T)(K:St->Prop):Prop:=match p with
  |.ptr k off=>ws (s.h k) fun ob=>ws (k7 x) fun cs=>szT C.P t=some cs.length/\off+cs.length<=ob.cells.length/\K ((s.setH k { ob with cells:=jn ob.cells off cs }).put d (.d .any))
  |_=>False
@[congr] theorem zer {C:Ctx}{s:St}{d:Option Nat}{t:TypeId}{p p' x x':T}(K:St->Prop)(h:p=p')(h':x=x'):Vv C s d t p x K=Vv C s d t p' x' K:=by rw[h,h']
@[go_sem ↓] theorem zkK (t:TypeId)(p x:Operand):ST C ops (⟨d,.store t p x,ty,pos,after,none⟩ :: r) s K=Vv C s d t (s.ev p) (s.ev x) fun s'=>ST C ops r s' K:=by rw[jg];rfl
@[go_sem] theorem zhf {t:TypeId}{k off:Nat}{x:T}:Vv C s d t (.ptr k off) x K=ws (s.h k) fun ob=>ws (k7 x) fun cs=>szT C.P t=some cs.length/\off+cs.length<=ob.cells.length/\K ((s.setH k { ob with cells:=jn ob.cells off cs }).put d (.d .any)):=(rfl)
@[congr] theorem zjH {C:Ctx}{s:St}{d:Nat}{t:TypeId}{x x' y y':T}(K:St->Prop)(h:x=x')(h':y=y'):appT C s d t x y K=appT C s d t x' y' K:=by rw[h,h']
@[go_sem ↓] theorem zjR (d:Tmp)(x y:Operand)(t:TypeId):ST C ops (⟨some d,.call ⟨.builtin .append,#[x,y],#[t,t]⟩,ty,pos,after,none⟩ :: r) s K=appT C s d t (s.ev x) (s.ev y) fun s'=>ST C ops r s' K:=by
 rw[jg];simp[steps,step,run1,ws]
@[go_sem] theorem zlM {t:TypeId}{y:T}{d:Nat}:appT C s d t (.d (.v (.slice none 0 0))) y K=ws (slT C.P t) fun q=>ws (srcT s.h q.2.1 y) fun cs=>
  cs.length/q.2.1*q.2.2.1<=140737488355328/\cs.length/q.2.1<=maxLen/\s.h (C.kb+d)=none/\K (s.row C.kb d ⟨some (q.1,q.2.1,true),cs⟩):=rfl
@[go_sem] theorem zlo {t:TypeId}{y:T}{d k:Nat}:appT C s d t (.gs k) y K=ws (slT C.P t) fun q=>ws (srcT s.h q.2.1 y) fun cs=>ws (s.h k) fun ob=>
  (if t=154 then SzOk C.P else True)/\ob.vec.map (fun v=>(v.1,v.2.1))=some (q.1,q.2.1)/\(ob.cells.length+cs.length)/q.2.1*q.2.2.1<=140737488355328/\(ob.cells.length+cs.length)/q.2.1<=maxLen/\(s.kill k).h (C.kb+d)=none /\
     K ((s.kill k).row C.kb d ⟨ob.vec,(ob.cells++cs).map (wU k)⟩):=by
 unfold appT;cases slT C.P t with
 |none=>rfl
 |some q=>
  obtain⟨e,size,bytes,zs⟩:=q;simp only[ws];cases srcT s.h size y with
  |none=>rfl
  |some cs=>
   simp only[ws];cases s.h k with
   |none=>rfl
   |some ob=>
    obtain⟨v,cells⟩:=ob;cases v with
    |none=>simp[ws]
    |some v=>
     obtain⟨e',size',nn⟩:=v;simp only[ws,Option.map_some,Option.some.injEq,Prod.mk.injEq];apply propext;constructor
     ·rintro⟨z,rfl,rfl,h⟩;exact⟨by split<;>first|exact z (by assumption)|trivial,⟨rfl,rfl⟩,h⟩
     ·rintro⟨z,⟨rfl,rfl⟩,h⟩;exact⟨fun e=>by rw[if_pos e] at z;exact z,rfl,rfl,h⟩
theorem zct {g:FuncId}(h:isP g=false):isE g=false:=by
 simp only[isP,Bool.or_eq_false_iff] at h;exact h.1.2
def Jp (C:Ctx)(f:T)(xs:Option (List D))(k:Res->Prop)(pp:FuncId->Prop)(dd:Prop):Prop:=match f with
  |.d (.v (.func (.func g) fst cap))=>fst = #[]/\cap = #[]/\(if isE g then dd else if isP g then pp g else Jq C g xs k)
  |_=>False
@[congr] theorem zeT {C:Ctx}{f f':T}{xs ys:Option (List D)}(k:Res->Prop)(pp:FuncId->Prop)(dd:Prop)(h':f=f')(h:xs=ys):Jp C f xs k pp dd=Jp C f' ys k pp dd:=by rw[h,h']
@[go_sem ↓] theorem zlX (g:FuncId)(hg:isP g=false)(args:List Operand)(ts:Array TypeId):ST C ops (⟨d,.call ⟨.value (.func g),args.toArray,ts⟩,ty,pos,after,none⟩ :: r) s K=Jq C g (asDs (args.map s.ev)) (resT C s d fun s'=>ST C ops r s' K):=by
 rw[jg];simp[steps,step,run1,St.ev,Jq,hg,zct hg]
@[go_sem ↓] theorem zkP (g:FuncId)(hE:isE g=false)(hg:isP g=true)(args:List Operand)(ts:Array TypeId):ST C ops (⟨d,.call ⟨.value (.func g),args.toArray,ts⟩,ty,pos,after,none⟩ :: r) s K=CallP C g (args.map s.ev) d s (fun s'=>ST C ops r s' K) ⟨⟩:=by
 rw[jg];simp[steps,step,run1,St.ev,CallP,hg,hE]
def doH (C:Ctx)(s:St)(dst:Option Nat)(K:St->Prop)(k:Nat)(a:List D)(e:D):Option Obj->Prop
 |some ⟨none,[r,.hid e0]⟩=>DoOk C.P C.E/\a.length=2/\xZ e=true/\K ((s.setH k ⟨none,[r,.hid (doE e0 e)]⟩).put dst (.d (.agg a)))
 |_=>False
@[congr] theorem zjq {C:Ctx}{s:St}{dst:Option Nat}(K:St->Prop){ts ts':List T}(h:ts=ts'):doT C s dst K ts=doT C s dst K ts':=by rw[h]
@[congr] theorem zjr {C:Ctx}{s:St}{dst:Option Nat}(K:St->Prop){k:Nat}{a:List D}{e:D}{o o':Option Obj}(h:o=o'):doH C s dst K k a e o=doH C s dst K k a e o':=by rw[h]
@[go_sem ↓] theorem zkQ (g:FuncId)(hE:isE g=true)(args:List Operand)(ts:Array TypeId):ST C ops (⟨d,.call ⟨.value (.func g),args.toArray,ts⟩,ty,pos,after,none⟩ :: r) s K=doT C s d (fun s'=>ST C ops r s' K) (args.map s.ev):=by
 rw[jg];simp[steps,step,run1,St.ev,hE]
@[go_sem] theorem zmG {dst:Option Nat}{k:Nat}{a:List D}{e:D}:doT C s dst K [.ptr k 0,.d (.agg a),.d e]=doH C s dst K k a e (s.h k):=(rfl)
@[go_sem] theorem zmH {dst:Option Nat}{k:Nat}{a:List D}{e e0:D}{x:T}:doH C s dst K k a e (some ⟨none,[x,.hid e0]⟩)=(DoOk C.P C.E/\a.length=2/\xZ e=true/\K ((s.setH k ⟨none,[x,.hid (doE e0 e)]⟩).put dst (.d (.agg a)))):=(rfl)
@[go_sem] theorem zmC (g:FuncId):isE g=(g==137):=(rfl)
@[go_sem] theorem zmV (b:Bool):(true||b)=true:=(rfl)
@[go_sem] theorem zmW (b:Bool):(false||b)=b:=(rfl)
@[go_sem] theorem zmB (g:FuncId):isP g=(g==78||g==135||g==136||g==137||g==69):=(rfl)
@[go_sem ↓] theorem zkO (t:Tmp)(args:List Operand)(ts:Array TypeId):ST C ops (⟨d,.call ⟨.value (.tmp t),args.toArray,ts⟩,ty,pos,after,none⟩ :: r) s K=Jp C (s.t t) (asDs (args.map s.ev)) (resT C s d fun s'=>ST C ops r s' K) (fun g=>∃s',xq C g (args.map s.ev) d s s'/\ST C ops r s' K) (doT C s d (fun s'=>ST C ops r s' K) (args.map s.ev)):=by
 rw[jg];simp only[steps,step,run1,St.ev,Jq,List.toList_toArray];rfl
@[go_sem] theorem zgO {g:FuncId}(hg:isP g=false){xs:Option (List D)}{k:Res->Prop}{pp:FuncId->Prop}{dd:Prop}:Jp C (.d (.v (.func (.func g) #[] #[]))) xs k pp dd=Jq C g xs k:=by simp[Jp,hg,zct hg]
def H1 (t:T)(b:Bool)(p q:Prop):Prop:=match gd t b with
 |some true=>p
 |some false=>q
 |none=>False
def qT (t:T)(b:Bool)(p q:Prop)(_:Hd p)(_:Hd q):Prop:=H1 t b p q
@[congr] theorem zfq {t t':T}(b:Bool)(p q:Prop)(x:Hd p)(y:Hd q)(h:t=t'):qT t b p q x y=qT t' b p q x y:=by rw[h]
@[go_sem ↓] theorem zfp {b:Bool}{p q:Prop}{x:Hd p}{y:Hd q}:qT (.d (.v (.bool b))) b p q x y=p:=by simp[qT,H1,gd]
@[go_sem] theorem zgy {b:Bool}{p q:Prop}{x:Hd p}{y:Hd q}:qT (.d (.v (.bool b))) b p q x y=p:=by simp[qT,H1,gd]
@[go_sem ↓] theorem zeR {vs:Array Value}{b:Bool}{p q:Prop}{x:Hd p}{y:Hd q}:qT (.d (.v (.tuple vs))) b p q x y=q:=(rfl)
@[go_sem] theorem zfo {vs:Array Value}{b:Bool}{p q:Prop}{x:Hd p}{y:Hd q}:qT (.d (.v (.tuple vs))) b p q x y=q:=(rfl)
@[go_sem ↓] theorem zik {p q:Prop}{x:Hd p}{y:Hd q}:qT (.d (.v (.bool true))) false p q x y=q:=(rfl)
@[go_sem ↓] theorem zil {p q:Prop}{x:Hd p}{y:Hd q}:qT (.d (.v (.bool false))) true p q x y=q:=(rfl)
@[go_sem] theorem zjn {p q:Prop}{x:Hd p}{y:Hd q}:qT (.d (.v (.bool true))) false p q x y=q:=(rfl)
@[go_sem] theorem zjo {p q:Prop}{x:Hd p}{y:Hd q}:qT (.d (.v (.bool false))) true p q x y=q:=(rfl)
def KF (ops:Array Oper)(j:Nat):Option Tmp:=(ops[j]?).bind (·.dst)
@[go_sem] theorem zgz (l:List Oper)(j:Nat):KF l.toArray j=(l[j]?).bind (fun x=>x.dst):=by simp[KF]
@[go_sem ↓] theorem zkN (op:Op)(j:Nat)(b:Bool):ST C ops (⟨d,op,ty,pos,after,some (j,b)⟩ :: r) s K =
  ws (KF ops j) fun g=>qT (s.t g) b (ST C ops (⟨d,op,ty,pos,after,none⟩ :: r) s K) (ST C ops r (s.put d (.d (.v (.tuple #[])))) K) ⟨⟩ ⟨⟩:=by
 rw[jg];simp only[steps,step,KF];cases (ops[j]?).bind fun x=>x.dst with
 |none=>rfl
 |some g=>rfl
end
attribute [go_sem] zea Option.bind_some
@[go_sem ↓] theorem zjy {α:Type}(x:α)(K:α->Prop):ws (some x) K=K x:=(rfl)
@[go_sem ↓] theorem zlk (C:Ctx)(Q:Exit->St->Prop)(s:St):DC C .skip Q s=Q .normal s:=by rw[Wr];rfl
@[go_sem ↓] theorem zmJ (C:Ctx)(Q:Exit->St->Prop)(s:St):DC C .ret Q s=Q .ret s:=by rw[Wr];rfl
@[go_sem ↓] theorem zlm (C:Ctx)(Q:Exit->St->Prop)(s:St)(i:Nat):DC C (.exit i) Q s=Q (.exit i) s:=by rw[Wr];rfl
@[go_sem ↓] theorem zlE (C:Ctx)(Q:Exit->St->Prop)(s:St)(i:Nat):DC C (.label i) Q s=Q .normal s:=by rw[Wr];rfl
@[go_sem ↓] theorem zmI (C:Ctx)(Q:Exit->St->Prop)(s:St)(x y:Code):DC C (.seq x y) Q s=DC C x (Thn (DC C y Q) Q) s:=by rw[Wr];rfl
@[go_sem ↓] theorem zln (C:Ctx)(Q:Exit->St->Prop)(s:St)(c:Operand)(x y:Code):DC C (.cond c x y) Q s=zO (s.ev c) (DC C x Q s) (DC C y Q s) ⟨⟩ ⟨⟩:=by rw[Wr];rfl
@[go_sem ↓] theorem zlG (C:Ctx)(Q:Exit->St->Prop)(s:St)(i:Nat)(c:Code):DC C (.block i c) Q s=DC C c (InB i Q) s:=by rw[Wr];rfl
@[go_sem ↓] theorem zjs (C:Ctx)(Q:Exit->St->Prop)(s:St)(i:Nat)(ops:List Oper):DC C (.region i ops.toArray false) Q s=vP s (wt [] ops) fun s=>ST C ops.toArray ops s (Q .normal):=by
 rw[Wr,jg];simp only[dcode,List.toList_toArray]
@[congr] theorem zhM {s:St}{l l':List Operand}(K:St->Prop)(h:l=l'):vP s l K=vP s l' K:=by rw[h]
@[congr] theorem zeS {s:St}{x x':T}(K:St->Prop)(h:x=x'):jW s x K=jW s x' K:=by rw[h]
@[congr] theorem zhN {s:St}{k:Nat}{x x':Option Obj}(K:St->Prop)(h:x=x'):zP s k x K=zP s k x' K:=by rw[h]
@[congr] theorem zhO {s:St}{k:Nat}{o:Obj}{x x':Option (List D)}(K:St->Prop)(h:x=x'):Kl s k o x K=Kl s k o x' K:=by rw[h]
@[congr] theorem zhI {s:St}{l l':List ResultVar}(K:St->Prop)(h:l=l'):qn s l K=qn s l' K:=by rw[h]
@[go_sem ↓] theorem ziz {s:St}{K:St->Prop}:vP s [] K=K s:=(rfl)
@[go_sem] theorem zjw {s:St}{K:St->Prop}:vP s [] K=K s:=(rfl)
@[go_sem] theorem zjA {s:St}{x:Operand}{r:List Operand}{K:St->Prop}:vP s (x :: r) K=jW s (s.ev x) fun s'=>vP s' r K:=(rfl)
@[go_sem] theorem zjv {s:St}{x:D}{K:St->Prop}:jW s (.d x) K=K s:=(rfl)
@[go_sem] theorem zhJ {s:St}{k i:Nat}{K:St->Prop}:jW s (.ptr k i) K=K s:=(rfl)
@[go_sem] theorem ziw {s:St}{k i n:Nat}{K:St->Prop}:jW s (.vw k i n) K=K s:=(rfl)
@[go_sem] theorem zix {s:St}{k:Nat}{x:D}{K:St->Prop}:jW s (.tp k x) K=K s:=(rfl)
@[go_sem] theorem zhL {s:St}{x:D}{K:St->Prop}:jW s (.hid x) K=K s:=(rfl)
@[go_sem] theorem zhK {s:St}{t:TypeId}{k:Nat}{K:St->Prop}:jW s (.ipr t k) K=zP s k (s.h k) K:=(rfl)
@[go_sem] theorem ziy {s:St}{k:Nat}{K:St->Prop}:jW s (.gs k) K=zP s k (s.h k) K:=(rfl)
@[go_sem] theorem zjB {s:St}{k:Nat}{o:Obj}{K:St->Prop}:zP s k (some o) K=Kl s k o (asDs o.cells) K:=(rfl)
@[go_sem] theorem zjC {s:St}{k:Nat}{o:Obj}{ds:List D}{K:St->Prop}:Kl s k o (some ds) K=K (s.comm k o ds):=(rfl)
@[go_sem] theorem zjD {s:St}{k:Nat}{o:Obj}{K:St->Prop}:Kl s k o none K=K s:=(rfl)
@[go_sem] theorem zju {s:St}{K:St->Prop}:qn s [] K=K s:=(rfl)
@[go_sem] theorem zjt {s:St}{t:Tmp}{r:List ResultVar}{K:St->Prop}:qn s (.tmp t :: r) K=jW s (s.t t) fun s'=>qn s' r K:=(rfl)
@[go_sem] theorem ziv {s:St}{t:Tmp}{ty:TypeId}{r:List ResultVar}{K:St->Prop}:qn s (.cell t ty :: r) K=qn s r K:=(rfl)
def appL (env:List (Nat×Operand))(a b:List Operand):List Operand:=ZI env a++b
section
variable {d:Option Tmp} {ty:TypeId} {pos:String} {after:Array Edge} {g:Option (Nat×Bool)} {r:List Oper} {env:List (Nat×Operand)}
@[go_sem ↓] theorem zgP:wt env []=[]:=(rfl)
@[go_sem ↓] theorem zeW (d:Nat)(x:Operand):wt env (⟨some d,.move x,ty,pos,after,g⟩ :: r)=wt ((d,x) :: env) r:=(rfl)
@[go_sem ↓] theorem zaw (x:Operand):wt env (⟨d,.assign x,ty,pos,after,g⟩ :: r)=wt env r:=(rfl)
@[go_sem ↓] theorem zeV (x y z:Operand):wt env (⟨d,.pick x y z,ty,pos,after,g⟩ :: r)=wt env r:=(rfl)
@[go_sem ↓] theorem zeX (t:TypeId)(x:Operand):wt env (⟨d,.load t x,ty,pos,after,g⟩ :: r)=wt env r:=(rfl)
@[go_sem ↓] theorem Uh (t:TypeId)(x:Operand)(i:Nat):wt env (⟨d,.fieldAddr t x i,ty,pos,after,g⟩ :: r)=wt env r:=(rfl)
@[go_sem ↓] theorem Ug (t:TypeId)(x i:Operand):wt env (⟨d,.indexAddr t x i,ty,pos,after,g⟩ :: r)=wt env r:=(rfl)
@[go_sem ↓] theorem zds (t:TypeId)(x i:Operand):wt env (⟨d,.index t x i,ty,pos,after,g⟩ :: r)=wt env r:=(rfl)
@[go_sem ↓] theorem zdr (t:TypeId)(x:Operand)(lo hi mx:Option Operand):wt env (⟨d,.slice t x lo hi mx,ty,pos,after,g⟩ :: r)=wt env r:=(rfl)
@[go_sem ↓] theorem zak (x:Operand)(i:Nat):wt env (⟨d,.extract x i,ty,pos,after,g⟩ :: r)=wt env r:=(rfl)
@[go_sem ↓] theorem zdw (op:BinOp)(t t2:TypeId)(x y:Operand):wt env (⟨d,.binOp op t x y t2,ty,pos,after,g⟩ :: r)=wt env r:=(rfl)
@[go_sem ↓] theorem zeU (op:UnOp)(t:TypeId)(x:Operand):wt env (⟨d,.unOp op t x,ty,pos,after,g⟩ :: r)=wt env r:=(rfl)
@[go_sem ↓] theorem zal (t t2:TypeId)(x:Operand):wt env (⟨d,.convert t t2 x,ty,pos,after,g⟩ :: r)=wt env r:=(rfl)
@[go_sem ↓] theorem Zq (t:TypeId)(x:Operand):wt env (⟨d,.makeInterface t x,ty,pos,after,g⟩ :: r)=wt env r:=(rfl)
@[go_sem ↓] theorem Rz (x:Operand):wt env (⟨d,.nilCheck x,ty,pos,after,g⟩ :: r)=wt env r:=(rfl)
@[go_sem ↓] theorem zdv (t:TypeId)(parts:Array (Nat×Operand)):wt env (⟨d,.build t parts,ty,pos,after,g⟩ :: r)=wt env r:=(rfl)
@[go_sem ↓] theorem zdx (t:TypeId):wt env (⟨d,.alloc t,ty,pos,after,g⟩ :: r)=wt env r:=(rfl)
@[go_sem ↓] theorem zgQ (t:TypeId)(x:Operand):wt env (⟨d,.box t x,ty,pos,after,g⟩ :: r)=wt env r:=(rfl)
@[go_sem ↓] theorem Hf (t:TypeId)(n:Nat)(parts:Array (Nat×Operand)):wt env (⟨d,.buildSlice t n parts,ty,pos,after,g⟩ :: r)=wt env r:=(rfl)
@[go_sem ↓] theorem Uf (t:TypeId)(l c:Operand):wt env (⟨d,.makeSlice t l c,ty,pos,after,g⟩ :: r)=wt env r:=(rfl)
@[go_sem ↓] theorem zdq (t:TypeId)(p x:Operand):wt env (⟨d,.store t p x,ty,pos,after,g⟩ :: r)=wt env r:=(rfl)
@[go_sem ↓] theorem zam (b:Builtin)(args:Array Operand)(ts:Array TypeId):wt env (⟨d,.call ⟨.builtin b,args,ts⟩,ty,pos,after,g⟩ :: r)=wt env r:=(rfl)
@[go_sem ↓] theorem zeY (f:FuncId)(hf:isP f=false)(args:List Operand)(ts:Array TypeId):wt env (⟨d,.call ⟨.value (.func f),args.toArray,ts⟩,ty,pos,after,g⟩ :: r)=appL env args (wt env r):=by
 simp[wt,hf,appL]
@[go_sem ↓] theorem zdu (f:FuncId)(hf:isP f=true)(args:List Operand)(ts:Array TypeId):wt env (⟨d,.call ⟨.value (.func f),args.toArray,ts⟩,ty,pos,after,g⟩ :: r)=wt env r:=by
 simp[wt,hf]
@[go_sem ↓] theorem zdt (t:Tmp)(args:List Operand)(ts:Array TypeId):wt env (⟨d,.call ⟨.value (.tmp t),args.toArray,ts⟩,ty,pos,after,g⟩ :: r)=appL env args (wt env r):=by
 simp[wt,appL]
@[go_sem ↓] theorem zlO (b:List Operand):appL env [] b=b:=(rfl)
@[go_sem ↓] theorem zlN (t:Tmp)(a b:List Operand):appL env (.tmp t :: a) b=XN env (.tmp t) :: appL env a b:=(rfl)
@[go_sem ↓] theorem zjI (x:Value)(a b:List Operand):appL env (.const x :: a) b=appL env a b:=(rfl)
@[go_sem ↓] theorem zjx (x:FuncId)(a b:List Operand):appL env (.func x :: a) b=appL env a b:=(rfl)
@[go_sem ↓] theorem zhT (x:Nat)(a b:List Operand):appL env (.global x :: a) b=appL env a b:=(rfl)
@[go_sem ↓] theorem zjk (x:Operand):XN [] x=x:=(rfl)
@[go_sem ↓] theorem zia (i:Nat)(y:Operand)(t:Nat):XN ((i,y) :: env) (.tmp t)=if t=i then y else XN env (.tmp t):=(rfl)
end
@[go_sem ↓] theorem zlF (C:Ctx)(Q:Exit->St->Prop)(s:St)(i:Nat)(ops:Array Oper):DC C (.region i ops true) Q s=Stop (DWp C (.region i ops true) Q s) ⟨⟩:=by rw[Wr];rfl
@[go_sem ↓] theorem zll (C:Ctx)(Q:Exit->St->Prop)(s:St)(c:Code):DC C (.loop c) Q s=Stop (DWp C (.loop c) Q s) ⟨⟩:=by rw[Wr];rfl
@[go_sem ↓] theorem zhe (next:St->Prop)(Q:Exit->St->Prop)(s:St):Thn next Q .normal s=next s:=(rfl)
@[go_sem ↓] theorem zlS (next:St->Prop)(Q:Exit->St->Prop)(s:St):Thn next Q .ret s=Q .ret s:=(rfl)
@[go_sem ↓] theorem zkF (next:St->Prop)(Q:Exit->St->Prop)(i:Nat)(s:St):Thn next Q (.exit i) s=Q (.exit i) s:=(rfl)
@[go_sem ↓] theorem zie (i:Nat)(Q:Exit->St->Prop)(s:St):InB i Q .normal s=Q .normal s:=(rfl)
@[go_sem ↓] theorem zlf (i:Nat)(Q:Exit->St->Prop)(s:St):InB i Q .ret s=Q .ret s:=(rfl)
@[go_sem ↓] theorem zky (i:Nat)(Q:Exit->St->Prop)(s:St):InB i Q (.exit i) s=Q .normal s:=by simp[InB]
@[go_sem ↓] theorem zjm (i j:Nat)(Q:Exit->St->Prop)(s:St)(h:(j==i)=false):InB i Q (.exit j) s=Q (.exit j) s:=by
 have:j≠i:=by simpa using h
 simp[InB,this]
@[go_sem ↓] theorem zgr (C:Ctx)(rs:List ResultVar)(r:Res)(s:St):Post C rs r .normal s=Fin C rs s r:=(rfl)
@[go_sem ↓] theorem zkk (C:Ctx)(rs:List ResultVar)(r:Res)(s:St):Post C rs r .ret s=Fin C rs s r:=(rfl)
def Q3 (C:Ctx)(s:St)(ty:TypeId):T->Option T
 |.ptr k off=>xe C.P C.E s.h ty (.ptr k off)
 |_=>none
def finK (t:Tmp)(d:D)(s:St):Prop:=s.t t = .d d
@[go_sem] theorem zli (t:Tmp)(d:D)(s:St):finK t d s=(s.t t = .d d):=(rfl)
@[go_sem ↓] theorem zlg (C:Ctx)(s:St)(t:Tmp)(d:D):Fin C [.tmp t] s (.data d)=jW s (s.t t) (finK t d):=by
 have h0:∀s,(∃ds,resD C s [.tmp t]=some ds/\xS ds=d)↔finK t d s:=fun s=>by
  simp only[resD,finK];constructor
  ·rintro⟨ds,h1,h2⟩;split at h1
   ·rename_i x hx;simp only[Option.map_some,Option.some.injEq] at h1;subst h1;simp only[xS] at h2;rw[hx,h2]
   ·cases h1
  ·intro h;rw[h];exact⟨[d],rfl,rfl⟩
 simp only[Fin,qn];congr 1
 funext s'
 exact propext (h0 s')
@[go_sem ↓] theorem zlB (C:Ctx)(s:St)(p:Tmp)(ty:TypeId)(d:D):Fin C [.cell p ty] s (.data d)=(Q3 C s ty (s.t p)=some (.d d)):=by
 apply propext;simp only[Fin,resD,Q3,qn];constructor
 ·rintro⟨ds,h1,h2⟩;split at h1
  ·rename_i k off hk;rw[hk];split at h1
   ·rename_i x hx;simp only[Option.map_some,Option.some.injEq] at h1;subst h1;simp only[xS] at h2;rw[<-h2];exact hx
   ·cases h1
  ·cases h1
 ·intro h;split at h
  ·rename_i k off hk;rw[hk];simp only[h];exact⟨[d],rfl,rfl⟩
  ·cases h
def resL (C:Ctx)(s:St):List ResultVar->List D->Prop
 |[],ds=>ds=[]
 |.tmp t :: r,ds=>match ds with
  |d :: q=>s.t t = .d d/\resL C s r q
  |[]=>False
 |.cell p ty :: r,ds=>match ds with
  |d :: q=>Q3 C s ty (s.t p)=some (.d d)/\resL C s r q
  |[]=>False
theorem WD (C:Ctx)(s:St):∀(rs:List ResultVar) (ds:List D),resL C s rs ds->resD C s rs=some ds
 |[],ds,h=>by simp only[resL] at h;subst h;rfl
 |.tmp t :: r,[],h=>h.elim
 |.tmp t :: r,d :: q,h=>by simp only[resL] at h;simp only[resD,h.1,WD C s r q h.2,Option.map_some]
 |.cell p ty :: r,[],h=>h.elim
 |.cell p ty :: r,d :: q,h=>by
  simp only[resL] at h;have h1:=h.1;simp only[Q3] at h1;split at h1
  ·rename_i k off hk;simp only[resD,hk,h1,WD C s r q h.2,Option.map_some]
  ·cases h1
theorem Zm {s:St}{x:T}{K K':St->Prop}(h:∀s,K s->K' s):jW s x K->jW s x K':=by
 have hG:∀k,zP s k (s.h k) K->zP s k (s.h k) K':=fun k=>by
  simp only[zP,Kl];split
  ·split<;>exact h _
  ·exact h _
 cases x with
 |gs k=>exact hG k
 |ipr _ k=>exact hG k
 |_=>exact h _
theorem WR {K K':St->Prop}(h:∀s,K s->K' s):∀ {l:List ResultVar} {s:St},qn s l K->qn s l K'
 |[],s=>h s
 |.tmp t :: r,s=>by simp only[qn];exact Zm fun s'=>WR h
 |.cell _ _ :: r,s=>by simp only[qn];exact WR h
theorem wc {C:Ctx}{s:St}{a b:ResultVar}{r:List ResultVar}{ds:List D}(h:qn s (a :: b :: r) fun s=>resL C s (a :: b :: r) ds):Fin C (a :: b :: r) s (.data (.tup ds)):=by
 simp only[Fin];refine WR (fun s h=>?_) h;refine⟨ds,WD C s _ ds h,?_⟩;cases ds with
 |nil=>cases a<;>exact h.elim
 |cons x ds=>cases ds with
  |nil=>cases a<;>cases b<;>exact h.2.elim
  |cons y ds=>rfl
@[go_sem ↓] theorem zlh (C:Ctx)(s:St)(t:Tmp)(e:TypeId)(size:Nat)(nn:Bool)(cells:List D):Fin C [.tmp t] s (.own e size nn cells)=∃k,s.t t = .gs k/\s.h k=some ⟨some (e,size,nn),cells.map .d⟩:=by
 apply propext;simp only[Fin];constructor
 ·rintro⟨t',k,h1,h2,h3⟩;cases h1;exact⟨k,h2,h3⟩
 ·rintro⟨k,h2,h3⟩;exact⟨t,k,rfl,h2,h3⟩
@[go_sem ↓] theorem zlA (C:Ctx)(s:St)(t t':Tmp)(e:TypeId)(size:Nat)(nn:Bool)(cells:List D)(y:D):Fin C [.tmp t,.tmp t'] s (.ownP e size nn cells y)=(s.t t' = .d y/\∃k,s.t t = .gs k/\s.h k=some ⟨some (e,size,nn),cells.map .d⟩):=by
 apply propext;simp only[Fin];constructor
 ·rintro⟨t1,t2,k,h1,h2,h3,h4⟩;cases h1;exact⟨h4,k,h2,h3⟩
 ·rintro⟨h4,k,h2,h3⟩;exact⟨t,t',k,rfl,h2,h3,h4⟩
theorem wN {b:Bool}{p q:Prop}{x:Hd p}{y:Hd q}(h1:b=true->p)(h2:b=false->q):(b=true->Stop p x)/\(b=false->Stop q y):=⟨h1,h2⟩
@[go_sem high] theorem zlH (p q:Prop)(x:Hd p)(y:Hd q):zO (.d (.v (.bool true))) p q x y=p:=by simp[zO,Q1]
@[go_sem high] theorem zlI (p q:Prop)(x:Hd p)(y:Hd q):zO (.d (.v (.bool false))) p q x y=q:=by simp[zO,Q1]
theorem wu (p:Prop)(x:Hd p):Stop p x=p:=(rfl)
@[go_sem] theorem ziu (b:Bool)(p q:Prop)(x:Hd p)(y:Hd q):zO (.d (.v (.bool b))) p q x y=((b=true->Stop p ⟨⟩)/\(b=false->Stop q ⟨⟩)):=(rfl)
@[go_sem] theorem zit (p q:Prop)(x:Hd p)(y:Hd q):zO (.d (.v (.bool true))) p q x y=p:=by simp[zO,Q1]
@[go_sem] theorem zhG (p q:Prop)(x:Hd p)(y:Hd q):zO (.d (.v (.bool false))) p q x y=q:=by simp[zO,Q1]
@[go_sem ↓] theorem zhP (C:Ctx)(g:FuncId)(ds:List D)(k:Res->Prop):Jq C g (some ds) k=Call C g ds k ⟨⟩:=(rfl)
@[go_sem] theorem zjG (C:Ctx)(g:FuncId)(ds:List D)(k:Res->Prop):Jq C g (some ds) k=Call C g ds k ⟨⟩:=(rfl)
@[go_sem] theorem zmF (s:St)(t:Nat):s.ev (.tmp t)=s.t t:=(rfl)
@[go_sem] theorem zlC (s:St)(v:Value):s.ev (.const v) = .d (.v v):=(rfl)
@[go_sem] theorem zjp (s:St)(g:Nat):s.ev (.global g) = .d (.v (.pointer (some ⟨g,0,none⟩))):=(rfl)
@[go_sem] theorem zlj (s:St)(f:FuncId):s.ev (.func f) = .d (.v (.func (.func f) #[] #[])):=(rfl)
def QL:List D->Nat->T
 |[],_=>.d .any
 |x :: _,0=>.d x
 |_ :: r,i+1=>QL r i
theorem YC:∀(args:List D) (i:Nat),(match args[i]? with|some x=>T.d x|none=>.d .any)=QL args i
 |[],i=>by simp[QL]
 |_ :: _,0=>by simp[QL]
 |_ :: r,i+1=>by simpa [QL] using YC r i
@[go_sem] theorem zmD (args:List D)(i:Nat):(St.init args).t i=QL args i:=YC args i
@[go_sem] theorem zmE (args:List D)(k:Nat):(St.init args).h k=none:=(rfl)
@[go_sem] theorem zbz (s:St)(d i:Nat)(x:T):(s.put (some d) x).t i=if i=d then x else s.t i:=(rfl)
@[go_sem] theorem zkh (s:St)(x:T):s.put none x=s:=(rfl)
@[go_sem] theorem xO (s:St)(d:Option Nat)(x:T):(s.put d x).h=s.h:=by cases d<;>rfl
@[go_sem] theorem zmQ (s:St)(kb d i:Nat)(cs:List T):(s.var kb d cs).t i=if i=d then .ptr (kb+d) 0 else s.t i:=(rfl)
@[go_sem] theorem zmR (s:St)(kb d k:Nat)(cs:List T):(s.var kb d cs).h k=if k=kb+d then some ⟨none,cs⟩ else s.h k:=(rfl)
@[go_sem] theorem zmS (s:St)(kb d i:Nat)(o:Obj):(s.row kb d o).t i=if i=d then .gs (kb+d) else s.t i:=(rfl)
@[go_sem] theorem zmT (s:St)(kb d k:Nat)(o:Obj):(s.row kb d o).h k=if k=kb+d then some o else s.h k:=(rfl)
@[go_sem] theorem zlw (s:St)(kb d i:Nat)(o:Obj)(y:D):(s.rowP kb d o y).t i=if i=d then .tp (kb+d) y else s.t i:=(rfl)
@[go_sem] theorem zlx (s:St)(kb d k:Nat)(o:Obj)(y:D):(s.rowP kb d o y).h k=if k=kb+d then some o else s.h k:=(rfl)
@[go_sem] theorem zlv (s:St)(k i:Nat)(o:Obj):(s.setH k o).t i=s.t i:=(rfl)
@[go_sem] theorem zhq (s:St)(k j:Nat)(o:Obj):(s.setH k o).h j=if j=k then some o else s.h j:=(rfl)
@[go_sem] theorem zlz (s:St)(k i:Nat):(s.kill k).t i=wU k (s.t i):=(rfl)
@[go_sem] theorem zmA (s:St)(k i:Nat):(s.kill k).h i=if i=k then none else (s.h i).map (Obj.kill k):=(rfl)
@[go_sem] theorem zmK (s:St)(k i:Nat)(o:Obj)(ds:List D):(s.comm k o ds).t i=jM k o ds (s.t i):=(rfl)
@[go_sem] theorem zmL (s:St)(k i:Nat)(o:Obj)(ds:List D):(s.comm k o ds).h i=if i=k then none else (s.h i).map (Obj.comm k o ds):=(rfl)
@[go_sem] theorem zmX {t:TypeId}{x:D}:opn t (some (.d x))=some (.d x):=(rfl)
@[go_sem] theorem zlY {t:TypeId}{k o:Nat}:opn t (some (.ptr k o))=some (.ptr k o):=(rfl)
@[go_sem] theorem zly {t:TypeId}{k:Nat}:opn t (some (.gs k))=some (.gs k):=(rfl)
@[go_sem] theorem zlZ {t t':TypeId}{k:Nat}:opn t (some (.ipr t' k))=some (.ipr t' k):=(rfl)
@[go_sem] theorem zkl {t:TypeId}:opn t none=none:=(rfl)
@[go_sem] theorem zla {t:TypeId}{x:D}:opn t (some (.hid x))=if t==61 then some (.d x) else none:=(rfl)
def lk:List (Nat×T)->Nat->T
 |[],_=>.d .any
 |(j,x) :: r,i=>if i=j then x else lk r i
def lkh:List (Nat×Obj)->Nat->Option Obj
 |[],_=>none
 |(j,x) :: r,i=>if i=j then some x else lkh r i
def St.of (l:List (Nat×T))(m:List (Nat×Obj)):St:={ t:=lk l,h:=lkh m }
@[go_sem] theorem of_t (l:List (Nat×T))(m:List (Nat×Obj))(i:Nat):(St.of l m).t i=lk l i:=(rfl)
@[go_sem] theorem of_h (l:List (Nat×T))(m:List (Nat×Obj))(k:Nat):(St.of l m).h k=lkh m k:=(rfl)
attribute [go_sem] lk lkh
def zQ (s:St):List (Nat×T)->Prop
 |[]=>True
 |(i,x) :: r=>TW (s.t i) x/\zQ s r
def allH (s:St):List (Nat×Obj)->Prop
 |[]=>True
 |(k,o) :: r=>s.h k=some o/\allH s r
def wG (ks:List Nat)(x:T):Bool:=match x.ref with
 |none=>true
 |some k=>ks.contains k
def wv (l:List (Nat×T))(m:List (Nat×Obj)):Bool:=
 l.all (fun p=>wG (m.map (·.1)) p.2)&&m.all fun p=>p.2.cells.all (wG (m.map (·.1)))
theorem zcd {m:List (Nat×Obj)}{k:Nat}(h:k∈m.map (·.1)):lkh m k≠none:=by
 induction m with
 |nil=>simp at h
 |cons p m ih=>
  obtain⟨j,o⟩:=p;simp only[lkh];split
  ·simp
  ·rename_i hne;simp only[List.map_cons,List.mem_cons] at h;rcases h with h|h
   ·exact absurd h hne
   ·exact ih h
theorem Qn {ks:List Nat}{x:T}(h:wG ks x=true){k:Nat}(hk:x.ref=some k):k∈ks:=by
 simp only[wG,hk] at h
 simpa using h
theorem we {s:St}{l:List (Nat×T)}{m:List (Nat×Obj)}(ht:zQ s l)(hh:allH s m)(hr:wv l m=true):Weak s (St.of l m):=by
 simp only[wv,Bool.and_eq_true,List.all_eq_true] at hr;refine⟨fun i=>?_,fun k o h=>?_,fun i k hk=>?_,fun k o ho c hc k' hk'=>?_⟩
 ·clear hr;simp only[St.of]
  induction l with
  |nil=>exact .inr (.inl rfl)
  |cons p l ih=>
   obtain⟨j,x⟩:=p;simp only[lk];simp only[zQ] at ht;split
   ·rename_i e;rw[e];exact ht.1
   ·exact ih ht.2
 ·clear hr;simp only[St.of] at h
  induction m with
  |nil=>simp[lkh] at h
  |cons p m ih=>
   obtain⟨j,x⟩:=p;simp only[lkh] at h;simp only[allH] at hh;split at h
   ·rename_i e;cases h;rw[e];exact hh.1
   ·exact ih hh.2 h
 ·refine zcd ?_;simp only[St.of] at hk;have:∀l',(∀p∈l',wG (m.map (·.1)) p.2=true)->(lk l' i).ref=some k->k∈m.map (·.1):=by
   intro l'
   induction l' with
   |nil=>intro _ h;simp[lk,T.ref] at h
   |cons p l' ih=>
    obtain⟨j,x⟩:=p;intro hp h;simp only[lk] at h;split at h
    ·exact Qn (hp (j,x) (by simp)) h
    ·exact ih (fun q hq=>hp q (by simp[hq])) h
  exact this l (fun p hp=>hr.1 p hp) hk
 ·refine zcd ?_;simp only[St.of] at ho;have hm:∃j,(j,o)∈m:=by
   clear hr hh hc hk'
   induction m with
   |nil=>simp[lkh] at ho
   |cons p m ih=>
    obtain⟨j,x⟩:=p;simp only[lkh] at ho;split at ho
    ·cases ho;exact⟨j,by simp⟩
    ·obtain⟨j',h'⟩:=ih ho;exact⟨j',by simp[h']⟩
  obtain⟨j,hm⟩:=hm;exact Qn (hr.2 (j,o) hm c hc) hk'
@[go_sem] theorem Jv (x:T):TW x x=True:=by simp[TW]
@[go_sem] theorem zmP (x:T):TW x (.d .any)=True:=by simp[TW]
@[go_sem] theorem zmO (n:Nat):TW (.d (.v (.slice none 0 0))) (.d (.sl n []))=True:=by simp[TW]
def QH:T->Option Bool
 |.d (.v .nilIface)=>some true
 |.d (.v (.iface _ _))=>some false
 |.d (.ip _ _)=>some false
 |.ipr _ _=>some false
 |_=>none
def V7:T->Option Bool
 |.d (.v .nilFunc)=>some true
 |.d (.v (.func _ _ _))=>some false
 |.d (.fn _ _)=>some false
 |_=>none
def V6 (h:Nat->Option Obj):T->Option Bool
 |.d (.v (.slice none 0 0))=>some true
 |.d (.sl _ (_ :: _))=>some false
 |.gs k=>match h k with
  |some ⟨some (_,_,nn),cells⟩=>match cells,nn with
   |[],true=>some true
   |_ :: _,_=>some false
   |_,_=>none
  |_=>none
 |_=>none
theorem Yz {P:Program}{h:Nat->Option Obj}{t:TypeId}{x:T}(hu:(match P.underlying t with|some (.interface _)=>true|_=>false)=true):jy P h t x=QH x:=by
 unfold jy QH;split at hu
 ·rename_i e;rw[e];rfl
 ·cases hu
theorem zcs {P:Program}{h:Nat->Option Obj}{t:TypeId}{x:T}(hu:(match P.underlying t with|some (.func _ _ _)=>true|_=>false)=true):jy P h t x=V7 x:=by
 unfold jy V7;split at hu
 ·rename_i e;rw[e];rfl
 ·cases hu
theorem zcr {P:Program}{h:Nat->Option Obj}{t:TypeId}{x:T}{e:TypeId}(hu:P.underlying t=some (.slice e)):jy P h t x=V6 h x:=by
 unfold jy V6;rw[hu];rfl
abbrev intD (n:Int):D:=.v (.int .i64 n)
theorem w64 {n:Int}(h : -9223372036854775808<=n/\n<=9223372036854775807):IntKind.i64.wrap n=n:=IntWalk.i64_in n h
attribute [go_sem] QL List.map_cons List.map_nil List.getElem?_cons_zero List.getElem?_cons_succ List.getElem?_nil List.length_cons List.length_nil List.drop_succ_cons List.drop_zero List.take_succ_cons List.take_zero List.take_nil List.drop_nil List.set_cons_zero List.set_cons_succ
 Option.map_some Option.map_none and_true true_and if_true Bool.false_eq_true List.replicate_succ List.replicate_zero List.nil_append List.cons_append jX Bool.not_true Bool.not_false forall_const not_true_eq_false not_false_eq_true Nat.zero_add Nat.add_zero
attribute [go_sem] glbD tabG
attribute [go_sem] Q3 resL zQ allH xe JP kF lenT x6 qL vM xM bin2 bin2.strT bin2.boolT bin2.aggT nil2 unT X8 vC xH JT zgs QH V6 V7 pint pshift xy pfloat ceq QV
 k7 oneD Value.oneCell' jn vK asDs srcT wU Obj.kill jM Obj.comm resT resD xS xx XP
section
attribute [go_sem_proc] Int.reduceEq Nat.reduceEqDiff Nat.reduceAdd Nat.reduceMul Nat.reduceSub Nat.reduceDiv Nat.reduceLeDiff Nat.reduceLT Nat.reduceBEq Nat.reduceBNe reduceCtorEq Int.reduceLE Int.reduceLT Int.reduceToNat
attribute [go_sem_proc ↓] reduceIte
attribute [go_sem] decide_true decide_false
end
end Go.Enc
