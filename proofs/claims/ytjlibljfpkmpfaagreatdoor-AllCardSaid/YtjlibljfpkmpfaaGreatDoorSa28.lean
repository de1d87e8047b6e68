/-
  Rounds of a range over a function: what is shown of regions goes in a round's frame, too; code is cut; a call of yield. The middle of an interval of plain floats; the pieces of an interval. The pieces of an interval, told to a loop's body. The function that Roots hands back, ranged over. Rounds of a range over a function: the slots that a stretch does not write; the loop's record beside what stands. A range over the function that Roots hands back: the caller's side, once for both loops. plain.Roots' two loops over what Roots hands back. A call that is lent a row of the caller's own: the caller may write to it again.
-/
import Derived.Test.YtjlibljfpkmpfaaGreatDoorSa07
import Derived.RangeFuncLeaves
import Derived.RangeFuncRecord
import Derived.RangeFuncSeq
import Derived.OrdersIn
import Derived.TacticsIn
import Derived.Test.YtjlibljfpkmpfaaGreatDoorSa27
import Derived.Test.YtjlibljfpkmpfaaGreatDoorSa16
import Derived.Test.YtjlibljfpkmpfaaGreatDoorSa22
set_option maxRecDepth 100000
set_option linter.unusedSimpArgs false
set_option linter.unusedVariables false
section
namespace Go.Enc
open Go.RowKit
def Wd (ro:Option Nat):Fence:={ Fence.wide with round:=ro }
section
variable {ro:Option Nat} {n:Nat} {P:Program}
theorem Zo {f:FuncId}{args:Array Value}{w:World}{R:Ending->World->Prop}(h:Calls P f args w R):CallsIn (Wd ro) n P f args w R:=(callsIn_wide (n:=n)).2 h
theorem zdp {f:FuncId}{args:Array Value}{w:World}{R:Ending->World->Prop}(h:CallsIn (Wd ro) n P f args w R):Calls P f args w R:=(callsIn_wide (n:=n)).1 h
theorem zhs {row:String}{args:Array Value}{w:World}{R:Value->World->Prop}(h:Rows P row args w R):RowsIn (Wd ro) n P row args w R:=fun c cs _=>by
 obtain⟨v,w',r,s⟩:=h c cs;exact⟨v,w',r,stepsIn_wide.2 s⟩
theorem zef {o:Oper}{a:Act}{next:Act->World->Prop}{Q:Exit->Act->World->Prop}{r:Result Next}(h:o.upon P a next Q r):o.uponIn (Wd ro) n P a next Q r:=by
 cases r with
 |ok x w'=>
  cases x<;>simp only[Oper.upon,Oper.uponIn] at h ⊢ <;>
   first
    |exact h
    |exact⟨fun hh=>by simp[Wd,Fence.wide] at hh,Zo h⟩
    |exact⟨fun hh=>by simp[Wd,Fence.wide] at hh,zhs h⟩
 |halt x w'=>cases x<;>simp only[Oper.upon,Oper.uponIn] at h ⊢<;>exact h
def ye (l:List Oper):Bool:=l.all fun o=>match o.op with | .defer _=>false|_=>true
theorem Yl {l:List Oper}(h:ye l=true){o:Oper}(ho:o∈l)(c:Go.Call):o.op≠.defer c:=fun e=>by
 have:=List.all_eq_true.1 h o ho;rw[e] at this;cases this
theorem UT {o:Oper}{a:Act}{w:World}{next:Act->World->Prop}{Q:Exit->Act->World->Prop}(hd:∀c,o.op≠.defer c)(h:o.wp P a w next Q):o.wpIn (Wd ro) n P a w next Q:=by
 refine⟨fun _ _=>trivial,?_⟩;rw[Oper.semAt_eq _ _ _ hd];exact zef h
theorem K4 {C:Ctx}{ops:Array Oper}{Q:Exit->Act->World->Prop}{l2:List Oper}:∀(l:List Oper) {s:St} {a:Act} {w:World} {σ:Mem} {G:Gh} {K:St->Prop},kG C.n l=true->ye l=true->Stands C σ G s a w->steps C ops l s K ->
  (∀s' σ' G' a' w',K s'->Stands C σ' G' s' a' w'->wpListIn (Wd ro) n C.P ops Q l2 a' w')->wpListIn (Wd ro) n C.P ops Q (l++l2) a w
 |[],s,a,w,σ,G,K,_,_,S,h,hq=>hq s σ G a w h S
 |o :: l,s,a,w,σ,G,K,hd,hn,S,h,hq=>by
  have hno:=Yl hn (o:=o) (by simp);simp only[kG,ye,List.all_cons,Bool.and_eq_true] at hd hn;have hd':∀d,o.dst=some d->d<C.n:=fun d e=>by have:=hd.1;rw[e] at this;simpa using this
  have:=Vw S h hd' (next:=wpListIn (Wd ro) n C.P ops Q (l++l2)) Q (fun s' σ' G' a' w' h' S'=>K4 l hd.2 hn.2 S' h' hq)
  show wpListIn (Wd ro) n C.P ops Q (o :: (l++l2)) a w
  unfold wpListIn;split
  ·rename_i hw;rw[if_pos hw] at this;exact UT hno this
  ·rename_i hw;rw[if_neg hw] at this;exact⟨fun _ _=>trivial,this⟩
theorem zkm {ops:Array Oper}{Q:Exit->Act->World->Prop}{i:Nat}{K:Act->World->Prop}{a:Act}{w:World}(hq:∀a w,¬Q .outgrown a w)(hn:ye ops.toList=true)(h:wpOp P ops Q i K a w):wpOpIn (Wd ro) n P ops Q i K a w:=by
 unfold wpOp at h;unfold wpOpIn;split
 ·simpa [*] using h
 ·rename_i o ho;simp only[ho] at h;split
  ·rename_i hw;rw[if_pos hw] at h;rcases h with h|⟨_,h⟩
   ·exact UT (Yl hn (List.mem_of_getElem? (by rw[Array.getElem?_toList];exact ho))) h
   ·obtain⟨a0,w0,h⟩:=h;exact absurd h (hq _ _)
  ·rename_i hw;rw[if_neg hw] at h;exact⟨fun _ _=>trivial,h⟩
theorem zeE {ops:Array Oper}{Q:Exit->Act->World->Prop}(hq:∀a w,¬Q .outgrown a w)(hn:ye ops.toList=true):∀(fuel:Nat) (listed:Array Bool) (a:Act) (w:World),wpAny P .any ops Q fuel listed a w->wpAnyIn (Wd ro) n P .any ops Q fuel listed a w
 |0,_,_,_,h=>h
 |fuel+1,listed,a,w,h=>⟨h.1,fun i hi=>zkm hq hn (wpOp_mono (fun a' w' h'=>zeE hq hn fuel _ a' w' h') (h.2 i hi))⟩
end
section
variable {C:Ctx} {σ:Mem} {G:Gh} {s:St} {a:Act} {w:World} {ro:Option Nat} {n:Nat} {ops:Array Oper}
def cutC:Nat->Code->Code×Code
 |k+1,.seq x y=>(.seq x (cutC k y).1,(cutC k y).2)
 |_,c=>(.skip,c)
theorem X5 {Qx:Exit->St->Prop}{Q:Exit->Act->World->Prop}:∀(k:Nat) (c:Code) {s:St} {a:Act} {w:World} {σ:Mem} {G:Gh},jG C.n c=true->Stands C σ G s a w->dcode C (cutC k c).1 Qx s ->
  (∀s' σ' G' a' w',Qx .normal s'->Stands C σ' G' s' a' w'->(cutC k c).2.wp C.P Q a' w') ->
  (∀e s' σ' G' a' w',e≠.normal->(∀x,e≠.panic x)->e≠.outgrown->Qx e s'->Stands C σ' G' s' a' w'->Q e a' w')->c.wp C.P Q a w
 |0,c,s,a,w,σ,G,_,S,h,h1,_=>by
  have e1:cutC 0 c=(.skip,c):=by cases c<;>rfl
  rw[e1] at h h1;exact h1 s σ G a w h S
 |k+1,c,s,a,w,σ,G,hf,S,h,h1,h2=>by
  by_cases hc:∃x y,c = .seq x y
  ·obtain⟨x,y,rfl⟩:=hc;simp only[jG,Bool.and_eq_true] at hf;have hx:dcode C x (Thn (dcode C (cutC k y).1 Qx) Qx) s:=h;refine wp_seq (wp_mono (jV (C:=C) x hf.1 hx σ G a w S) fun e a' w' h'=>?_);cases e with
   |normal=>
    obtain⟨σ',G',s',h3,S'⟩:=h';exact X5 k y hf.2 S' h3 h1 h2
   |ret=>obtain⟨σ',G',s',h3,S'⟩:=h';exact h2 .ret s' σ' G' a' w' (by simp) (by simp) (by simp) h3 S'
   |exit id=>obtain⟨σ',G',s',h3,S'⟩:=h';exact h2 (.exit id) s' σ' G' a' w' (by simp) (by simp) (by simp) h3 S'
   |goto id=>obtain⟨σ',G',s',h3,S'⟩:=h';exact h2 (.goto id) s' σ' G' a' w' (by simp) (by simp) (by simp) h3 S'
   |panic x=>exact h'.elim
   |outgrown=>exact h'.elim
  ·have e1:cutC (k+1) c=(.skip,c):=by
    cases c<;>first|rfl|exact absurd ⟨_,_,rfl⟩ hc
   rw[e1] at h h1;exact h1 s σ G a w h S
theorem x5 {Qx:Exit->St->Prop}{Q:Exit->Act->World->Prop}(k:Nat)(c:Code)(hf:jG C.n c=true)(S:Stands C σ G s a w)(h:DC C (cutC k c).1 Qx s)
  (h1:∀s' σ' G' a' w',Qx .normal s'->Stands C σ' G' s' a' w'->(cutC k c).2.wp C.P Q a' w')
  (h2:∀e s' σ' G' a' w',e≠.normal->(∀x,e≠.panic x)->e≠.outgrown->Qx e s'->Stands C σ' G' s' a' w'->Q e a' w'):c.wp C.P Q a w:=X5 k c hf S h.ok h1 h2
def St.only (s:St):St:={ t:=fun i=>match s.t i with | .d x=>.d x|_=>.d .any,h:=fun _=>none }
theorem Stands.restart (S:Stands C σ G s a w){σ':Mem}{w':World}(hle:σ.le σ')(F:Fits C.E σ' w'):Stands { C with σ0:=σ',w0:=w',base:=w'.heap.size,G0:=fun _=>(none,undef) } σ' (fun _=>(none,undef)) s.only a w' where
 bas:=Nat.le_refl _
 glob:=F.glob
 tab:=F.tab
 le:=Mem.le_refl _
 old:=fun _ _ _=>rfl
 inv:=F.inv
 hard:=F.hard
 gp:=fun g t x h=>⟨(F.gp g t x h).lt,F.gp g t x h⟩
 bel:=Below.refl _ _
 oth:=KeepsOthers.refl _
 dfr:=S.dfr
 siz:=S.siz
 slot:=fun i=>by
  have:=S.slot i;simp only[St.only];cases h:s.t i with
  |d x=>rw[h] at this;exact Rep.mono hle _ _ this
  |_=>simp[RepT,Rep]
 live:=fun i k hk=>by
  simp only[St.only] at hk;cases h:s.t i<;>rw[h] at hk<;>simp[T.ref] at hk
 obj:=fun k o h=>by simp[St.only] at h
 deep:=fun k o h=>by simp[St.only] at h
 sep:=fun k k' o o' b h=>by simp[St.only] at h
 own:=fun k o b h=>by simp[St.only] at h
 keep:=fun _ _=>rfl
 fin:=⟨0,fun _ _=>rfl⟩
theorem k9 {l:List Oper}(k:Nat){K:St->Prop}{Q:Exit->Act->World->Prop}(hd:kG C.n (l.take k)=true)(hn:ye (l.take k)=true)(S:Stands C σ G s a w)(h:ST C ops (l.take k) s K)
  (hq:∀s' σ' G' a' w',K s'->Stands C σ' G' s' a' w'->wpListIn (Wd ro) n C.P ops Q (l.drop k) a' w'):wpListIn (Wd ro) n C.P ops Q l a w:=by
 have:=K4 (ro:=ro) (n:=n) (l2:=l.drop k) (Q:=Q) (l.take k) hd hn S h.ok hq
 rwa [List.take_append_drop] at this
theorem x9 {o:Oper}{ys:Nat->Option Bool}(h:o.guard=none):Region.wanted o ys=true:=by simp[Region.wanted,h]
theorem ZE (S:Stands C σ G s a w){o:Oper}{j d:Nat}{b:Bool}(hg:o.guard=some (j,b))(hj:(ops[j]?).bind (·.dst)=some d)(hv:s.t d = .d (.v (.bool b))):Region.wanted o (yielded ops a.tmps)=true:=by
 have hs:=S.slot d;rw[hv] at hs;simp only[RepT,Rep] at hs;have h2:a.tmps[d]?=some (.bool b):=by
  rw[Array.getD_eq_getD_getElem?] at hs;cases h3:a.tmps[d]? with
  |none=>rw[h3] at hs;simp[undef] at hs
  |some u=>rw[h3] at hs;simpa using hs
 have hj':((ops[j]?).bind fun x=>x.dst)=some d:=hj;simp[Region.wanted,hg,yielded,hj',h2]
theorem Jd {o:Oper}{l:List Oper}{Q:Exit->Act->World->Prop}(hw:Region.wanted o (yielded ops a.tmps)=true)(h:o.wpIn (Wd ro) n C.P a w (wpListIn (Wd ro) n C.P ops Q l) Q):wpListIn (Wd ro) n C.P ops Q (o :: l) a w:=by
 unfold wpListIn;rw[if_pos hw];exact h
theorem Zp {o:Oper}{g:FuncId}{args:Array Operand}{ts:Array TypeId}{fn:Func}{c:Code}{P:Program}(ho:o.op = .call ⟨.value (.func g),args,ts⟩)(hf:P.funcs[g]?=some fn)(hb:fn.body=some c)(hname:(fn.name == "runtime.NumGoroutine")=false)
  {R:Ending->World->Prop} {next:Act->World->Prop} {Q:Exit->Act->World->Prop} (h:Calls P g (args.toList.map a.eval).toArray w R) (hR:∀e w',R e w'->∃v,e = .returned v/\next (a.put o.dst v) w'):o.wpIn (Wd ro) n P a w next Q:=by
 refine⟨fun _ _=>trivial,?_⟩;rw[Oper.semAt_eq _ _ _ (by rw[ho];simp)];unfold execOp;rw[ho];have harr:(args.toList.map a.eval).toArray=args.map a.eval:=by rw[<-Array.toArray_toList (xs:=args.map _)];simp
 have hrun:((do let d <-resolve a.eval ⟨.value (.func g),args,ts⟩ o.type;invoke d.target d.args:Sem Next))=callFunc g (args.toList.map a.eval).toArray:=by
  rw[harr];simp[resolve,Act.eval,Deferred.ofValue,invoke]
 change o.uponIn (Wd ro) n P a next Q (((do let d <-resolve a.eval ⟨.value (.func g),args,ts⟩ o.type;invoke d.target d.args:Sem Next)).run P w)
 have hne:¬(fn.name = "runtime.NumGoroutine"):=by simpa using hname
 have hcall:(callFunc g (args.toList.map a.eval).toArray).run P w = .ok (.enter g (args.toList.map a.eval).toArray) w:=by simp[callFunc,hf,hne,hb]
 rw[hrun,hcall,Oper.uponIn_enter];refine⟨fun hh=>by simp[Wd,Fence.wide] at hh,(Zo h).mono fun e w' he=>?_⟩;obtain⟨v,rfl,hv⟩:=hR e w' he;exact hv
def Zy (P:Program)(l:Nat)(args:Array Value)(W:World)(R:Ending->World->Prop):Prop:=YieldAt Fence.wide 0 P l args W R
theorem zay {o:Oper}{t:Tmp}{args:Array Operand}{ts:Array TypeId}{P:Program}{l:Nat}(ho:o.op = .call ⟨.value (.tmp t),args,ts⟩)(hf:a.eval (.tmp t) = .func (.yield l) #[] #[])
  {R:Ending->World->Prop} {next:Act->World->Prop} {Q:Exit->Act->World->Prop} (h:Zy P l (args.toList.map a.eval).toArray w R) (hR:∀e w',R e w'->∃v,e = .returned v/\next (a.put o.dst v) w'):o.wpIn (Wd ro) n P a w next Q:=by
 refine⟨fun _ _=>trivial,?_⟩;rw[Oper.semAt_eq _ _ _ (by rw[ho];simp)];unfold execOp;rw[ho];have harr:(args.toList.map a.eval).toArray=args.map a.eval:=by rw[<-Array.toArray_toList (xs:=args.map _)];simp
 have hrun:((do let d <-resolve a.eval ⟨.value (.tmp t),args,ts⟩ o.type;invoke d.target d.args:Sem Next))=Instr.yield l (args.toList.map a.eval).toArray:=by
  rw[harr];simp[resolve,hf,Deferred.ofValue,invoke,callFunc]
 change o.uponIn (Wd ro) n P a next Q (((do let d <-resolve a.eval ⟨.value (.tmp t),args,ts⟩ o.type;invoke d.target d.args:Sem Next)).run P w)
 obtain⟨fn,tmps,assign,body,h1,h2⟩:=h;rw[hrun,h1,Oper.uponIn_round];refine⟨fun hh=>by simp[Wd,Fence.wide] at hh,⟨trivial,fun c cs _=>?_⟩⟩;obtain⟨e,w',hr,hs⟩:=h2.2 c cs (room_wide _);obtain⟨v,rfl,hv⟩:=hR e w' hr;exact⟨.returned v,w',hv,hs⟩
theorem j8 {P:Program}{E:Nat->Option Value}{σ:Mem}{w:World}{us:List Value}{args:List D}{nt n:Nat}(hF:Fits E σ w)(hargs:RepL σ args us)(hn:nt=n)(ha:args.length<=n) :
  Stands { P:=P,E:=E,σ0:=σ,w0:=w,base:=w.heap.size,n:=n,kb:=0,df:=[] } σ (fun _=>(none,undef)) (St.init args) { tmps:=us.toArray++Array.replicate (nt-us.toArray.size) undef,defers:=[] } w:=by
 have hul:=hargs.length;refine { bas:=Nat.le_refl _,glob:=hF.glob,tab:=hF.tab,le:=Mem.le_refl _,old:=fun _ _ _=>rfl,inv:=hF.inv,hard:=hF.hard,gp:=fun g t x h=>⟨(hF.gp g t x h).lt,hF.gp g t x h⟩,bel:=Below.refl _ _,oth:=KeepsOthers.refl _,dfr:=rfl,siz:=by simp[hn];omega,slot:=fun i=>?_,live:=fun i k hk=>?_,obj:=fun k o ho=>by simp[St.init] at ho,deep:=fun k o ho=>by simp[St.init] at ho,sep:=fun k k' o o' b ho=>by simp[St.init] at ho,own:=fun k o b ho=>by simp[St.init] at ho,keep:=fun k h=>absurd h (Nat.not_lt_zero k),fin:=⟨0,fun _ _=>rfl⟩ }
 ·simp only[St.init];cases hi:args[i]? with
  |none=>simp[RepT,Rep]
  |some x=>
   obtain⟨u,h1,h2⟩:=hargs.get i x hi;have hlt:i<us.length:=by
    rcases Nat.lt_or_ge i us.length with h|h
    ·exact h
    ·rw[List.getElem?_eq_none h] at h1;cases h1
   simp only[RepT];rw[Array.getD_eq_getD_getElem?,Array.getElem?_append_left (by simpa using hlt)]
   simpa [h1] using h2
 ·simp only[St.init] at hk;split at hk<;>simp[T.ref] at hk
theorem Jr {P:Program}{fn:Func}{t:Tmp}{v:Value}{R:Ending->World->Prop}(hr:fn.results = #[.tmp t])(S:Stands C σ G s a w)(hdf:C.df=[])(ht:s.t t = .d (.v v))(h:R (.returned v) w):bodyPost P fn R .ret a w:=by
 have hs:=S.slot t;rw[ht] at hs;simp only[RepT,Rep] at hs;exact⟨by rw[S.dfr,hdf],v,by rw[<-hs];exact results_tmp hr _ _ _,h⟩
end
end Go.Enc
end
section
namespace Go.Enc
open Go.Proofs Go.Enc.Dg Go.Enc.Nu Go.Enc.Fl Ieee
theorem zdI {i k q m:Nat}(hi:(q+1)*4503599627370496+m=i)(hk:q*4503599627370496+m=k)(h:4503599627370496<=m)(h2:m<=9007199254740992):v (k:Int)=v (i:Int)/2:=by
 have e1:=xr hi h h2;have e2:=xr hk h h2;rw[e1,e2];have e3:(((q+1:Nat):Int)-1074)=((q:Int)-1074)+1:=by omega
 rw[e3,wA];have e4:(2:Rat)^(1:Int)=2:=rfl;rw[e4];generalize (2:Rat)^((q:Int)-1074)=z;grind
theorem zdK {i:Nat}(h:9007199254740992<=i):v ((i-4503599627370496:Nat):Int)=v (i:Int)/2:=by
 obtain⟨q,hq⟩:∃q,i/4503599627370496-2=q:=⟨_,rfl⟩;exact zdI (q:=q) (m:=i % 4503599627370496+4503599627370496) (by omega) (by omega) (by omega) (by omega)
abbrev twoB:Nat:=4611686018427387904
theorem Uv:idx twoB=pw 1024:=by decide
theorem zkE:v (idx twoB)=2:=by rw[Uv,v_pw 1024 (by decide)];rfl
theorem zdJ {b:Nat}(hb:b % 9223372036854775808=0\/9007199254740992<=b % 9223372036854775808):∃j,v j=v (idx b)/2/\j.natAbs<=b % 9223372036854775808:=by
 obtain⟨n,hn⟩:∃n,b % 9223372036854775808=n:=⟨_,rfl⟩;have hi:idx b=(n:Int)\/idx b = -(n:Int):=by
  unfold idx;rw[<-hn];split
  ·exact .inr rfl
  ·exact .inl rfl
 rw[hn] at hb ⊢;have hj:∃j:Nat,v (j:Int)=v (n:Int)/2/\j<=n:=by
  rcases hb with rfl|hb
  ·refine⟨0,?_,Nat.le_refl _⟩;have:v ((0:Nat):Int)=0:=wC;rw[this];grind
  ·exact⟨_,zdK hb,by omega⟩
 obtain⟨j,h1,h2⟩:=hj;rcases hi with hi|hi
 ·exact⟨j,by rw[hi,h1],by omega⟩
 ·refine⟨-(j:Int),?_,by omega⟩;rw[hi,wQ,wQ,h1];grind
theorem halved {b:Nat}(hp:wg b=true):∃h,double.div b twoB=some h/\h<2^64/\Fl.Fin h/\v (idx h)=v (idx b)/2:=by
 have hf:=jr hp;obtain⟨r,h1,h2⟩:=vO (x:=b) (y:=twoB) hf (by decide) (by rw[Uv];decide);rw[zkE] at h2;have hq:b % 2^63=0\/(123*2^52<=b % 2^63/\b % 2^63<=1923*2^52):=by
  unfold wg at hp;exact of_decide_eq_true hp
 have hq':b % 9223372036854775808=0\/9007199254740992<=b % 9223372036854775808:=by omega
 have hq2:b % 9223372036854775808<=1923*2^52:=by omega
 obtain⟨j,j1,j2⟩:=zdJ hq';obtain⟨⟨i,hi,hc⟩,hlt,hnum⟩:=h2;rw[<-j1] at hi;have:=hi.exact;subst this;have hin:(inf:Int)=2047*2^52:=by decide
 have hi':clamp i=i:=Jo (by omega) (by omega);rw[hi'] at hc;refine⟨r,h1,hlt,?_,by rw[hc,j1]⟩;exact kd.2 (by rw[hc];omega)
def midB (X:Nat×Nat):Nat:=(double.add ((double.div X.1 twoB).getD 0) ((double.div X.2 twoB).getD 0)).getD 0
def goB (X:Nat×Nat):Bool:=wg (midB X)&&(decide (idx X.1<idx (midB X))&&decide (idx (midB X)<idx X.2))
structure MidO (X:Nat×Nat)(a b:Nat):Prop where
 e1:double.div X.1 twoB=some a
 e2:double.div X.2 twoB=some b
 e3:double.add a b=some (midB X)
 lt:midB X<2^64
 fin:Fl.Fin (midB X)
 is:IsR ((v (idx X.1)+v (idx X.2))/2) (idx (midB X))
theorem UK {b:Nat}(hp:wg b=true) : -(2:Rat)^(((1923:Nat):Int)-1023)<=v (idx b)/\v (idx b)<=2^(((1923:Nat):Int)-1023):=by
 have hq:b % 2^63=0\/(123*2^52<=b % 2^63/\b % 2^63<=1923*2^52):=by
  unfold wg at hp;exact of_decide_eq_true hp
 rw[<-v_pw 1923 (by decide),<-wQ];have : -(pw 1923)<=idx b/\idx b<=pw 1923:=by
  unfold idx pw;split<;>omega
 exact⟨v_le this.1,v_le this.2⟩
theorem WI {X:Nat×Nat}(g:Gd X):∃a b,MidO X a b:=by
 obtain⟨a,a1,a2,a3,a4⟩:=halved g.p1;obtain⟨b,b1,b2,b3,b4⟩:=halved g.p2;obtain⟨r,r1,r2⟩:=vS a3 b3;have hm:midB X=r:=by unfold midB;rw[a1,b1];show(double.add a b).getD 0=r;rw[r1];rfl
 have p:=UK g.p1;have q:=UK g.p2;rw[a4,b4] at r2;have hy:v (idx X.1)/2+v (idx X.2)/2=(v (idx X.1)+v (idx X.2))/2:=by grind
 rw[hy] at r2;have:=r2.fin (n:=1923) (by decide) (by decide) (by grind) (by grind);exact⟨a,b,a1,b1,by rw[hm];exact r1,by rw[hm];exact r2.lt,by rw[hm];exact this.1,by rw[hm];exact this.2.1⟩
theorem Rg {X:Nat×Nat}(g:Gd X)(h:goB X=true)(hl:midB X<2^64):Gd (X.1,posB (midB X)):=by
 unfold goB at h;simp only[Bool.and_eq_true,decide_eq_true_eq] at h;exact⟨g.l1,kB (by omega),g.p1,jq h.1,by show idx X.1<=idx (posB (midB X));rw[jS];omega,g.q1,km _⟩
theorem YJ {X:Nat×Nat}(g:Gd X)(h:goB X=true)(hl:midB X<2^64):Gd (posB (midB X),X.2):=by
 unfold goB at h;simp only[Bool.and_eq_true,decide_eq_true_eq] at h;exact⟨kB (by omega),g.l2,jq h.1,g.p2,by show idx (posB (midB X))<=idx X.2;rw[jS];omega,km _,g.q2⟩
def pcs (dr:Nat×Nat->Bool):Nat->Nat×Nat->List (Nat×Nat)
 |0,X=>if dr X=true then [] else [X]
 |d+1,X=>if dr X=true then [] else if goB X=true then pcs dr d (X.1,posB (midB X))++pcs dr d (posB (midB X),X.2) else [X]
end Go.Enc
end
section
namespace Go.Enc
open Go.Proofs Go.Enc.Dg Go.Enc.Nu Go.Enc.Fl Go.RowKit
structure YR (P:Program)(E:Nat->Option Value)(l:Nat)(R Rx:List (Nat×Nat)->Mem->World->Prop):Prop where
 fits:∀ {pre σ w},R pre σ w->Fits E σ w
 after:∀ {pre σ w σ' w'},R pre σ w->σ.le σ'->(∀b o,b<w.heap.size->σ' b o=σ b o)->(∀b o v,σ' b o=some v->w'.cell? ⟨b,o,none⟩=some v)->(∀b o v,w.heap.size<=b->σ' b o=some v->Soft w' b)->Below w.heap.size w w'->R pre σ' w'
 afterx:∀ {pre σ w σ' w'},Rx pre σ w->σ.le σ'->(∀b o,b<w.heap.size->σ' b o=σ b o)->(∀b o v,σ' b o=some v->w'.cell? ⟨b,o,none⟩=some v)->(∀b o v,w.heap.size<=b->σ' b o=some v->Soft w' b)->Below w.heap.size w w'->Rx pre σ' w'
 fitsx:∀ {pre σ w},Rx pre σ w->Fits E σ w
 round:∀ {pre X σ w},R pre σ w->pre.length<256->Zy P l #[.agg #[.float .f64 X.1,.float .f64 X.2]] w fun e w'=>∃σ',σ.le σ'/\((e = .returned (.bool true)/\R (pre++[X]) σ' w')\/(e = .returned (.bool false)/\Rx (pre++[X]) σ' w'))
theorem Rf {C:Ctx}{σ:Mem}{G:Gh}{s:St}{a:Act}{w:World}(S:Stands C σ G s a w)(F:Fits C.E C.σ0 C.w0)(b o:Nat)(v:Value)(hb:C.w0.heap.size<=b)(h:σ b o=some v):Soft w b:=by
 refine S.hard b o v h ?_;cases he:C.E b with
 |none=>rfl
 |some u=>
  have:=wT (F.inv _ _ _ (F.glob b u he));omega
theorem YR.stands {P:Program}{C:Ctx}{l:Nat}{R Rx:List (Nat×Nat)->Mem->World->Prop}(hY:YR P C.E l R Rx){pre:List (Nat×Nat)}(hR:R pre C.σ0 C.w0)(hb:C.base=C.w0.heap.size){σ:Mem}{G:Gh}{s:St}{a:Act}{w:World}(S:Stands C σ G s a w):R pre σ w:=
 hY.after hR S.le (fun b o h=>S.old b o (by rw[hb];exact h)) S.inv (fun b o v h1 h2=>Rf S (hY.fits hR) b o v h1 h2) (by rw[<-hb];exact S.bel)
theorem YR.standsx {P:Program}{C:Ctx}{l:Nat}{R Rx:List (Nat×Nat)->Mem->World->Prop}(hY:YR P C.E l R Rx){pre:List (Nat×Nat)}(hR:Rx pre C.σ0 C.w0)(hb:C.base=C.w0.heap.size){σ:Mem}{G:Gh}{s:St}{a:Act}{w:World}(S:Stands C σ G s a w):Rx pre σ w:=
 hY.afterx hR S.le (fun b o h=>S.old b o (by rw[hb];exact h)) S.inv (fun b o v h1 h2=>Rf S (hY.fitsx hR) b o v h1 h2) (by rw[<-hb];exact S.bel)
def DrOk (E:Nat->Option Value)(lp:List Nat)(dr:Nat×Nat->Bool):Prop:=
 ∀X,Gd X->∃(V:Nat×Nat) (e:D),DQz E 65 [fsD lp,ivD X] (.data (.tup [ivD V,e])) /\
  ((e = .v .nilIface/\Num V.1/\Num V.2/\dr X = !(decide (idx V.1<=0)&&decide (0<=idx V.2)))\/(((∃p,e = .v (errV p))\/∃s d,e=opE s d)/\dr X=false))
def QW (S:St):Exit->St->Prop
 |.normal,s=>Weak s S
 |_,_=>False
def J2 (dr:Nat×Nat->Bool)(R Rx:List (Nat×Nat)->Mem->World->Prop)(pre:List (Nat×Nat))(d:Nat)(X:Nat×Nat)(σ:Mem)(e:Ending)(w:World):Prop:=
 ∃σ',σ.le σ'/\((e = .returned (.bool true)/\R (pre++pcs dr d X) σ' w)\/(e = .returned (.bool false)/\∃t,t <+: pcs dr d X/\Rx (pre++t) σ' w))
section
variable {E:Nat->Option Value} {l:Nat} {R Rx:List (Nat×Nat)->Mem->World->Prop} {lp:List Nat} {dr:Nat×Nat->Bool}
abbrev yvD (l:Nat):D:=.v (.func (.yield l) #[] #[])
theorem UO (hY:YR Tryz.prog E l R Rx)(hD:DrOk E lp dr){d:Nat}{X:Nat×Nat}(g:Gd X)(hdr:dr X=true){pre:List (Nat×Nat)}{σ:Mem}{w:World}{us:List Value}(hR:R pre σ w)(hus:RepL σ [fsD lp,ivD X,intD d,yvD l] us) :
  Calls Tryz.prog 106 us.toArray w fun e w'=>∃σ',σ.le σ'/\e = .returned (.bool true)/\R pre σ' w':=by
 obtain⟨V,e,hE,hc⟩:=hD X g;rcases hc with⟨rfl,hV1,hV2,hd'⟩|⟨_,hd'⟩
 ·rw[hdr] at hd';have hh:=yp E (b:=V) (x:=0) hV1 hV2 (by decide);have e0:(decide (idx V.1<=idx 0)&&decide (idx 0<=idx V.2))=false:=by
   have:idx 0=0:=by decide
   rw[this];cases hb:(decide (idx V.1<=0)&&decide (0<=idx V.2))
   ·rfl
   ·rw[hb] at hd';cases hd'
  rw[e0] at hh;have S0:=j8 (P:=Tryz.prog) (nt:=Tryz.f106.ntmps) (n:=76) (hY.fits hR) hus Tryz.ntmps106 (by simp);refine calls_of_wp Tryz.func106 rfl ?_;refine x5 (Qx:=fun e s=>e = .ret/\s.t 8 = .d (bD true)) 4 _ (by kernel_rfl) S0 ?_ ?_ ?_
  ·simp only[cutC];simp -implicitDefEqProofs only[go_sem];refine cI hE ?_;simp -implicitDefEqProofs only[go_sem];refine cI hh ?_;simp -implicitDefEqProofs only[go_sem]
  ·intro s' σ' G' a' w' h _;cases h.1
  ·intro e s' σ' G' a' w' _ _ _ h S';obtain⟨rfl,h⟩:=h;exact Jr (t:=8) rfl S' rfl h ⟨σ',S'.le,rfl,hY.stands (C:={ P:=Tryz.prog,E:=E,σ0:=σ,w0:=w,base:=w.heap.size,n:=76,kb:=0,df:=[] }) hR rfl S'⟩
 ·rw[hdr] at hd';cases hd'
abbrev S5 (lp:List Nat)(X:Nat×Nat)(d l:Nat):St:=St.of [(0,.d (fsD lp)),(2,.d (.v (.int .i64 (d:Int)))),(3,.d (yvD l)),(5,.ptr 5 0),(11,.d (flD (midB X)))] [(5,⟨none,[.d (flD X.1),.d (flD X.2)]⟩)]
abbrev S6 (lp:List Nat)(X:Nat×Nat)(d l:Nat)(b:Bool):St:=St.of [(0,.d (fsD lp)),(2,.d (.v (.int .i64 (d:Int)))),(3,.d (yvD l)),(5,.ptr 5 0),(11,.d (flD (midB X))),(50,.d (bD b))] [(5,⟨none,[.d (flD X.1),.d (flD X.2)]⟩)]
theorem UM (hD:DrOk E lp dr){d:Nat}{X:Nat×Nat}(g:Gd X)(hdr:dr X=false){C:Ctx}(hP:C.P=Tryz.prog)(hE:C.E=E)(hn:C.n=76)(hk:C.kb=0){c:Code}(hcode:Tryz.f106.body=some c) :
  DC C (cutC 4 c).1 (QW (S5 lp X d l)) (St.init [fsD lp,ivD X,intD d,yvD l]):=by
 obtain⟨V,e,hEv,hc⟩:=hD X g;obtain⟨a,b,M⟩:=WI g;have e1:FloatKind.f64.format.div X.fst 4611686018427387904=some a:=M.e1;have e2:FloatKind.f64.format.div X.snd 4611686018427387904=some b:=M.e2;have e3:FloatKind.f64.format.add a b=some (midB X):=M.e3;obtain⟨P,E',σ0,w0,base,n,kb,df,G0⟩:=C;simp only at hP hE hn hk;subst hP hE hn hk;simp only[Tryz.f106,Option.some.injEq] at hcode;subst hcode;simp only[cutC];simp -implicitDefEqProofs only[go_sem];refine cI hEv ?_;rcases hc with⟨rfl,hV1,hV2,hd'⟩|⟨⟨p,rfl⟩|⟨s,d,rfl⟩,hd'⟩
 ·have hh:=yp E' (b:=V) (x:=0) hV1 hV2 (by decide);have e0:(decide (idx V.1<=idx 0)&&decide (idx 0<=idx V.2))=true:=by
   have:idx 0=0:=by decide
   rw[this];rw[hdr] at hd';cases hb:(decide (idx V.1<=0)&&decide (0<=idx V.2))
   ·rw[hb] at hd';cases hd'
   ·rfl
  rw[e0] at hh;simp -implicitDefEqProofs only[go_sem];refine cI hh ?_;simp -implicitDefEqProofs only[go_sem,e1,e2,e3,QW,S5];refine we ?_ ?_ rfl<;>simp -implicitDefEqProofs only[go_sem]
 ·simp -implicitDefEqProofs only[go_sem,errV,e1,e2,e3,QW,S5];refine we ?_ ?_ rfl<;>simp -implicitDefEqProofs only[go_sem]
 ·simp -implicitDefEqProofs only[go_sem,e1,e2,e3,QW,S5];refine we ?_ ?_ rfl<;>simp -implicitDefEqProofs only[go_sem]
theorem UN {d:Nat}{X:Nat×Nat}(g:Gd X){C:Ctx}(hP:C.P=Tryz.prog)(hE:C.E=E)(hn:C.n=76)(hk:C.kb=0){c x y:Code}(hcode:Tryz.f106.body=some c)(hx:(cutC 4 c).2 = .seq x y) :
  DC C (cutC 1 x).1 (QW (S6 lp X d l (decide (d=0) || !goB X))) (S5 lp X d l):=by
 obtain⟨a,b,M⟩:=WI g;have pc:=yU E M.lt;have nm:=M.fin.num;have n1:=(jr g.p1).num;have n2:=(jr g.p2).num;have oL:=VS nm n1;have oG:=zcR nm n2;obtain⟨P,E',σ0,w0,base,n,kb,df,G0⟩:=C;simp only at hP hE hn hk;subst hP hE hn hk;simp only[Tryz.f106,Option.some.injEq] at hcode;subst hcode;simp only[cutC,Code.seq.injEq] at hx;obtain⟨rfl,rfl⟩:=hx;simp only[cutC];simp only[S5];by_cases h0:d=0
 ·have q1:=tB (beqT (show(d:Int)=0 by omega));have hb:(decide (d=0) || !goB X)=true:=by simp[h0]
  rw[hb];simp -implicitDefEqProofs only[go_sem,q1,QW,S6];refine we ?_ ?_ rfl<;>simp -implicitDefEqProofs only[go_sem]
 have q1:=tV (beqF (show ¬(d:Int)=0 by omega));by_cases hp:wg (midB X)=false
 ·have hb:(decide (d=0) || !goB X)=true:=by unfold goB;rw[hp];simp
  rw[hb];rw[hp] at pc;simp -implicitDefEqProofs only[go_sem,q1];refine cI pc ?_;simp -implicitDefEqProofs only[go_sem,wM,QW,S6];refine we ?_ ?_ rfl<;>simp -implicitDefEqProofs only[go_sem]
 have hp:wg (midB X)=true:=by simpa using hp
 rw[hp] at pc;by_cases hl:¬idx X.1<idx (midB X)
 ·have hb:(decide (d=0) || !goB X)=true:=by unfold goB;rw[fD hl];simp
  rw[hb];rw[tD (show idx (midB X)<=idx X.1 by omega)] at oL;have oL:=tV oL;simp -implicitDefEqProofs only[go_sem,q1];refine cI pc ?_;simp -implicitDefEqProofs only[go_sem,wM,oL,QW,S6];refine we ?_ ?_ rfl<;>simp -implicitDefEqProofs only[go_sem]
 have hl:idx X.1<idx (midB X):=by omega
 rw[fD (show ¬idx (midB X)<=idx X.1 by omega)] at oL;have oL:=tV oL;by_cases hh:¬idx (midB X)<idx X.2
 ·have hb:(decide (d=0) || !goB X)=true:=by unfold goB;rw[fD hh];simp
  rw[hb];rw[tD (show idx X.2<=idx (midB X) by omega)] at oG;have oG:=tV oG;simp -implicitDefEqProofs only[go_sem,q1];refine cI pc ?_;simp -implicitDefEqProofs only[go_sem,wM,oL,oG,QW,S6];refine we ?_ ?_ rfl<;>simp -implicitDefEqProofs only[go_sem]
 have hh:idx (midB X)<idx X.2:=by omega
 rw[fD (show ¬idx X.2<=idx (midB X) by omega)] at oG;have oG:=tV oG;have hb:(decide (d=0) || !goB X)=false:=by unfold goB;rw[hp,tD hl,tD hh,fD h0];rfl
 rw[hb];simp -implicitDefEqProofs only[go_sem,q1];refine cI pc ?_;simp -implicitDefEqProofs only[go_sem,wM,oL,oG,QW,S6];refine we ?_ ?_ rfl<;>simp -implicitDefEqProofs only[go_sem]
theorem ziD {σ:Mem}{X:Nat×Nat}{u:Value}(h:Rep σ (ivD X) u):u = .agg #[.float .f64 X.1,.float .f64 X.2]:=by
 simp only[Rep,RepU] at h;obtain⟨us,rfl,u1,r1,h1,_,rfl,u2,r2,rfl,_,rfl,rfl⟩:=h;congr 1;exact Array.toList_inj.mp (by simpa using h1)
theorem jY {C:Ctx}{σ:Mem}{G:Gh}{s:St}{a:Act}{w:World}(S:Stands C σ G s a w){t:Tmp}{x:D}(h:s.t t = .d x):Rep σ x (a.eval (.tmp t)):=by
 have:=S.slot t;rw[h] at this
 simpa [Act.eval,RepT] using this
theorem zkf {S:St}{e:Exit}{s:St}(h:e≠.normal)(hq:QW S e s):False:=by
 cases e<;>first|exact h rfl|exact hq
theorem zfK (hY:YR Tryz.prog E l R Rx){d:Nat}{X:Nat×Nat}{pre:List (Nat×Nat)}(hlen:pre.length<256){C:Ctx}(hP:C.P=Tryz.prog)(hE:C.E=E)(hn:C.n=76)(hk:C.kb=0)(hdf:C.df=[]){c x y z:Code}(hcode:Tryz.f106.body=some c)
  (hx:(cutC 4 c).2 = .seq x y) (hz:(cutC 1 x).2=z) {σ:Mem} {G:Gh} {a:Act} {w:World} (S:Stands C σ G (S6 lp X d l true) a w) (hR:R pre C.σ0 C.w0) (hb:C.base=C.w0.heap.size) {Z:Ending->World->Prop}
  (hT:∀e w',(∃σ',C.σ0.le σ'/\((e = .returned (.bool true)/\R (pre++[X]) σ' w')\/(e = .returned (.bool false)/\Rx (pre++[X]) σ' w')))->Z e w') {K:Act->World->Prop} :
  z.wp Tryz.prog (Exit.then K (bodyPost Tryz.prog Tryz.f106 Z)) a w:=by
 simp only[Tryz.f106,Option.some.injEq] at hcode;subst hcode;simp only[cutC,Code.seq.injEq] at hx;obtain⟨rfl,rfl⟩:=hx;simp only[cutC] at hz;subst hz;have h50:a.eval (.tmp 50) = .bool true:=by
  have:=jY S (t:=50) (x:=.v (.bool true)) (by simp -implicitDefEqProofs only[go_sem])
  simpa [Rep] using this
 obtain⟨P,E',σ0,w0,base,n,kb,df,G0⟩:=C;simp only at hP hE hn hk hdf;subst hP hE hn hk hdf;refine wp_cond_true h50 (wp_seq ?_);refine(wpIn_wide (n:=0)).1 ?_
 show Code.wpIn (Wd none) 0 _ _ _ _ _
 refine wpIn_region_list ?_;refine k9 2 (K:=fun s=>Weak s (St.of [(51,.d (yvD l)),(52,.d (ivD X))] [])) (by kernel_rfl) (by kernel_rfl) S ?_ (fun s' σ' G' a' w' hw S'=>?_)
 ·simp only[S6];simp -implicitDefEqProofs only[go_sem];refine we ?_ ?_ rfl<;>simp -implicitDefEqProofs only[go_sem]
 have S3:=S'.weak hw;have hR3:R pre σ' w':=hY.stands (C:=⟨Tryz.prog,E',σ0,w0,base,76,0,[],G0⟩) hR hb S';have h51:=jY S3 (t:=51) (x:=yvD l) (by simp -implicitDefEqProofs only[go_sem]);have h52:=ziD (jY S3 (t:=52) (x:=ivD X) (by simp -implicitDefEqProofs only[go_sem]));simp only[Rep] at h51;refine Jd (x9 rfl) (zay rfl h51 (R:=fun e w'=>∃σ'',σ'.le σ''/\((e = .returned (.bool true)/\R (pre++[X]) σ'' w')\/(e = .returned (.bool false)/\Rx (pre++[X]) σ'' w'))) ?_ ?_)
 ·show Zy _ l #[a'.eval (.tmp 52)] w' _
  rw[h52];exact hY.round hR3 hlen
 ·rintro e w3 ⟨σ3,hle,ho⟩;obtain⟨b,rfl,hF,hq⟩:∃b,e = .returned (.bool b)/\Fits E' σ3 w3/\((b=true/\R (pre++[X]) σ3 w3)\/(b=false/\Rx (pre++[X]) σ3 w3)):=by
   rcases ho with⟨rfl,ho⟩|⟨rfl,ho⟩
   ·exact⟨true,rfl,hY.fits ho,.inl ⟨rfl,ho⟩⟩
   ·exact⟨false,rfl,hY.fitsx ho,.inr ⟨rfl,ho⟩⟩
  refine⟨_,rfl,?_⟩;have S4:=(S3.restart hle hF).put (x:=.d (bD b)) (u:=.bool b) (dst:=some 53) (by simp[RepT,Rep]) (by simp[T.ref]) (by simp);refine k9 (C:={ P:=Tryz.prog,E:=E',σ0:=σ3,w0:=w3,base:=w3.heap.size,n:=76,kb:=0,df:=[] }) 1 (K:=fun s=>s.t 8 = .d (bD b)) (by kernel_rfl) (by kernel_rfl) S4 ?_ (fun s5 σ5 G5 a5 w5 hw5 S5=>?_)
  ·simp -implicitDefEqProofs only[go_sem,St.only]
  ·refine wp_ret ?_;refine Jr (t:=8) rfl S5 rfl hw5 (hT _ _ ⟨σ5,Mem.le_trans (Mem.le_trans S'.le hle) S5.le,?_⟩);clear ho;rcases hq with⟨rfl,hz⟩|⟨rfl,hz⟩
   ·exact .inl ⟨rfl,hY.stands (C:={ P:=Tryz.prog,E:=E',σ0:=σ3,w0:=w3,base:=w3.heap.size,n:=76,kb:=0,df:=[] }) hz rfl S5⟩
   ·exact .inr ⟨rfl,hY.standsx (C:={ P:=Tryz.prog,E:=E',σ0:=σ3,w0:=w3,base:=w3.heap.size,n:=76,kb:=0,df:=[] }) hz rfl S5⟩
theorem qv {S:St}{C:Ctx}{Q:Exit->Act->World->Prop}:∀e s' σ' G' a' w',e≠.normal->(∀x,e≠.panic x)->e≠.outgrown->QW S e s'->Stands C σ' G' s' a' w'->Q e a' w':=fun e s' _ _ _ _ h _ _ hq _=>(zkf h hq).elim
theorem UL (hY:YR Tryz.prog E l R Rx)(hD:DrOk E lp dr){d:Nat}{X:Nat×Nat}(g:Gd X)(hdr:dr X=false)(hl:(decide (d=0) || !goB X)=true){pre:List (Nat×Nat)}(hlen:pre.length<256){σ:Mem}{w:World}{us:List Value}(hR:R pre σ w)(hus:RepL σ [fsD lp,ivD X,intD d,yvD l] us) :
  Calls Tryz.prog 106 us.toArray w fun e w'=>∃σ',σ.le σ'/\((e = .returned (.bool true)/\R (pre++[X]) σ' w')\/(e = .returned (.bool false)/\Rx (pre++[X]) σ' w')):=by
 obtain⟨c,hc⟩:∃c,Tryz.f106.body=some c:=⟨_,rfl⟩;have hfit:jG 76 c=true:=by
  have h:(Tryz.f106.body.map (jG 76))=some true:=by kernel_rfl
  rw[hc] at h;simpa using h
 obtain⟨x,y,hx⟩:∃x y,(cutC 4 c).2 = .seq x y:=by
  have h:=hc;simp only[Tryz.f106,Option.some.injEq] at h;subst h;exact⟨_,_,rfl⟩
 have hfx:jG 76 x=true:=by
  have h:=hc;simp only[Tryz.f106,Option.some.injEq] at h;subst h;simp only[cutC,Code.seq.injEq] at hx;obtain⟨rfl,rfl⟩:=hx;rfl
 have S0:=j8 (P:=Tryz.prog) (nt:=Tryz.f106.ntmps) (n:=76) (hY.fits hR) hus Tryz.ntmps106 (by simp);refine calls_of_wp Tryz.func106 hc ?_;refine x5 (C:={ P:=Tryz.prog,E:=E,σ0:=σ,w0:=w,base:=w.heap.size,n:=76,kb:=0,df:=[] }) 4 c hfit S0 (UM hD g hdr rfl rfl rfl rfl hc) (fun s1 σ1 G1 a1 w1 hw1 S1=>?_) qv;rw[hx];refine wp_seq ?_;refine x5 (C:={ P:=Tryz.prog,E:=E,σ0:=σ,w0:=w,base:=w.heap.size,n:=76,kb:=0,df:=[] }) 1 x hfx (S1.weak hw1) (UN g rfl rfl rfl rfl hc hx) (fun s2 σ2 G2 a2 w2 hw2 S2=>?_) qv;rw[hl] at hw2;exact zfK hY hlen (C:={ P:=Tryz.prog,E:=E,σ0:=σ,w0:=w,base:=w.heap.size,n:=76,kb:=0,df:=[] }) rfl rfl rfl rfl rfl hc hx rfl (S2.weak hw2) hR rfl (fun e w' h=>h)
theorem VQ (dr:Nat×Nat->Bool):∀(d:Nat) (X:Nat×Nat),(pcs dr d X).length<=2^d
 |0,X=>by unfold pcs;split<;>simp
 |d+1,X=>by
  unfold pcs;have h1:=VQ dr d (X.1,posB (midB X));have h2:=VQ dr d (posB (midB X),X.2);have h3:0<2^d:=Nat.pow_pos (by decide);rw[Nat.pow_succ];split
  ·simp
  ·split
   ·rw[List.length_append];omega
   ·simp;omega
theorem zaG (hY:YR Tryz.prog E l R Rx){d:Nat}{X:Nat×Nat}(g1:Gd (X.1,posB (midB X)))(g2:Gd (posB (midB X),X.2))(hd:d<8)
  (ih:∀ {X:Nat×Nat} (_:Gd X) {pre:List (Nat×Nat)} {σ:Mem} {w:World} {us:List Value},R pre σ w->RepL σ [fsD lp,ivD X,intD d,yvD l] us->pre.length+2^d<=256->Calls Tryz.prog 106 us.toArray w (J2 dr R Rx pre d X σ))
  {pre:List (Nat×Nat)} (hlen:pre.length+2^(d+1)<=256) {C:Ctx} (hP:C.P=Tryz.prog) (hE:C.E=E) (hn:C.n=76) (hk:C.kb=0) (hdf:C.df=[]) {c x y z:Code} (hcode:Tryz.f106.body=some c)
  (hx:(cutC 4 c).2 = .seq x y) (hz:(cutC 1 y).2=z) {σ:Mem} {G:Gh} {a:Act} {w:World} (S:Stands C σ G (St.of [(0,.d (fsD lp)),(2,.d (.v (.int .i64 ((d+1:Nat):Int)))),(3,.d (yvD l)),(5,.d (.pd [flD X.1,flD X.2] 0)),(11,.d (flD (posB (midB X))))] []) a w) (hR:R pre C.σ0 C.w0) (hb:C.base=C.w0.heap.size) {Z:Ending->World->Prop}
  (hZ:∀e w',(∃σ',C.σ0.le σ'/\((e = .returned (.bool true)/\R (pre++(pcs dr d (X.1,posB (midB X))++pcs dr d (posB (midB X),X.2))) σ' w')\/(e = .returned (.bool false)/\∃t,t <+: (pcs dr d (X.1,posB (midB X))++pcs dr d (posB (midB X),X.2))/\Rx (pre++t) σ' w')))->Z e w') :
  z.wp Tryz.prog (bodyPost Tryz.prog Tryz.f106 Z) a w:=by
 simp only[Tryz.f106,Option.some.injEq] at hcode;subst hcode;simp only[cutC,Code.seq.injEq] at hx;obtain⟨rfl,rfl⟩:=hx;simp only[cutC] at hz;subst hz;obtain⟨P,E',σ0,w0,base,n,kb,df,G0⟩:=C;simp only at hP hE hn hk hdf;subst hP hE hn hk hdf;have w1:IntKind.i64.wrap (((d+1:Nat):Int)-1)=(d:Int):=by rw[w64 (by omega)];omega
 refine wp_seq ?_;refine(wpIn_wide (n:=0)).1 ?_
 show Code.wpIn (Wd none) 0 _ _ _ _ _
 refine wpIn_region_list ?_;refine k9 8 (K:=fun s=>Weak s (St.of [(0,.d (fsD lp)),(2,.d (.v (.int .i64 ((d+1:Nat):Int)))),(3,.d (yvD l)),(5,.d (.pd [flD X.1,flD X.2] 0)),(11,.d (flD (posB (midB X)))),(56,.d (fsD lp)),(60,.d (ivD (X.1,posB (midB X)))),(62,.d (intD d)),(63,.d (yvD l))] [])) (by kernel_rfl) (by kernel_rfl) S ?_ (fun s' σ' G' a' w' hw S'=>?_)
 ·simp -implicitDefEqProofs only[go_sem,w1];refine we ?_ ?_ rfl<;>simp -implicitDefEqProofs only[go_sem,w1]
 have S3:=S'.weak hw;have hR3:R pre σ' w':=hY.stands (C:=⟨Tryz.prog,E',σ0,w0,base,76,0,[],G0⟩) hR hb S';have a56:=jY S3 (t:=56) (x:=fsD lp) (by simp -implicitDefEqProofs only[go_sem]);have a60:=jY S3 (t:=60) (x:=ivD (X.1,posB (midB X))) (by simp -implicitDefEqProofs only[go_sem]);have a62:=jY S3 (t:=62) (x:=intD d) (by simp -implicitDefEqProofs only[go_sem]);have a63:=jY S3 (t:=63) (x:=yvD l) (by simp -implicitDefEqProofs only[go_sem]);have hp:2^(d+1)=2^d+2^d:=by rw[Nat.pow_succ];omega
 have hpp:0<2^d:=Nat.pow_pos (by decide);refine Jd (x9 rfl) (Zp rfl Tryz.func106 rfl (by kernel_rfl) (R:=J2 dr R Rx pre d (X.1,posB (midB X)) σ') ?_ ?_)
 ·refine ih g1 hR3 ?_ (by omega)
  show RepL σ' _ [a'.eval (.tmp 56),a'.eval (.tmp 60),a'.eval (.tmp 62),a'.eval (.tmp 63)]
  simp only[RepL];exact⟨_,_,rfl,a56,_,_,rfl,a60,_,_,rfl,a62,_,_,rfl,a63,rfl⟩
 rintro e w3 ⟨σ3,hle,ho⟩;rcases ho with⟨rfl,hR4⟩|⟨rfl,t,ht,hR4⟩
 ·refine⟨_,rfl,?_⟩;have S4:=(S3.restart hle (hY.fits hR4)).put (x:=.d (bD true)) (u:=.bool true) (dst:=some 64) (by simp[RepT,Rep]) (by simp[T.ref]) (by simp);refine k9 (C:={ P:=Tryz.prog,E:=E',σ0:=σ3,w0:=w3,base:=w3.heap.size,n:=76,kb:=0,df:=[] }) 9 (K:=fun s=>Weak s (St.of [(65,.d (bD true)),(66,.d (fsD lp)),(70,.d (ivD (posB (midB X),X.2))),(72,.d (intD d)),(73,.d (yvD l))] [])) (by kernel_rfl) (by kernel_rfl) S4 ?_ (fun s5 σ5 G5 a5 w5 hw5 S5=>?_)
  ·simp -implicitDefEqProofs only[go_sem,St.only,w1];refine we ?_ ?_ rfl<;>simp -implicitDefEqProofs only[go_sem,St.only,w1]
  have S6:=S5.weak hw5;have hR5:=hY.stands (C:={ P:=Tryz.prog,E:=E',σ0:=σ3,w0:=w3,base:=w3.heap.size,n:=76,kb:=0,df:=[] }) hR4 rfl S5;have b66:=jY S6 (t:=66) (x:=fsD lp) (by simp -implicitDefEqProofs only[go_sem]);have b70:=jY S6 (t:=70) (x:=ivD (posB (midB X),X.2)) (by simp -implicitDefEqProofs only[go_sem]);have b72:=jY S6 (t:=72) (x:=intD d) (by simp -implicitDefEqProofs only[go_sem]);have b73:=jY S6 (t:=73) (x:=yvD l) (by simp -implicitDefEqProofs only[go_sem]);have hlen2:=VQ dr d (X.1,posB (midB X));refine Jd (ZE S6 (j:=9) (d:=65) (b:=true) rfl rfl (by simp -implicitDefEqProofs only[go_sem])) (Zp rfl Tryz.func106 rfl (by kernel_rfl) (R:=J2 dr R Rx (pre++pcs dr d (X.1,posB (midB X))) d (posB (midB X),X.2) σ5) ?_ ?_)
  ·refine ih g2 hR5 ?_ (by rw[List.length_append];omega)
   show RepL σ5 _ [a5.eval (.tmp 66),a5.eval (.tmp 70),a5.eval (.tmp 72),a5.eval (.tmp 73)]
   simp only[RepL];exact⟨_,_,rfl,b66,_,_,rfl,b70,_,_,rfl,b72,_,_,rfl,b73,rfl⟩
  rintro e w6 ⟨σ6,hle6,ho6⟩;obtain⟨b,rfl,hF,hq⟩:∃b,e = .returned (.bool b)/\Fits E' σ6 w6/\((b=true/\R (pre++pcs dr d (X.1,posB (midB X))++pcs dr d (posB (midB X),X.2)) σ6 w6)\/(b=false/\∃t,t <+: pcs dr d (posB (midB X),X.2)/\Rx (pre++pcs dr d (X.1,posB (midB X))++t) σ6 w6)):=by
   rcases ho6 with⟨rfl,ho⟩|⟨rfl,t,ht,ho⟩
   ·exact⟨true,rfl,hY.fits ho,.inl ⟨rfl,ho⟩⟩
   ·exact⟨false,rfl,hY.fitsx ho,.inr ⟨rfl,t,ht,ho⟩⟩
  refine⟨_,rfl,?_⟩;have S7:=(S6.restart hle6 hF).put (x:=.d (bD b)) (u:=.bool b) (dst:=some 74) (by simp[RepT,Rep]) (by simp[T.ref]) (by simp);refine k9 (C:={ P:=Tryz.prog,E:=E',σ0:=σ6,w0:=w6,base:=w6.heap.size,n:=76,kb:=0,df:=[] }) 2 (K:=fun s=>s.t 8 = .d (bD b)) (by kernel_rfl) (by kernel_rfl) S7 ?_ (fun s8 σ8 G8 a8 w8 hw8 S8=>?_)
  ·simp -implicitDefEqProofs only[go_sem,St.only]
  refine wp_ret ?_;refine Jr (t:=8) rfl S8 rfl hw8 (hZ _ _ ⟨σ8,Mem.le_trans (Mem.le_trans (Mem.le_trans (Mem.le_trans S'.le hle) S5.le) hle6) S8.le,?_⟩);clear ho6;rcases hq with⟨rfl,hz⟩|⟨rfl,t,ht,hz⟩
  ·rw[List.append_assoc] at hz;exact .inl ⟨rfl,hY.stands (C:={ P:=Tryz.prog,E:=E',σ0:=σ6,w0:=w6,base:=w6.heap.size,n:=76,kb:=0,df:=[] }) hz rfl S8⟩
  ·rw[List.append_assoc] at hz;exact .inr ⟨rfl,_,(List.prefix_append_right_inj _).2 ht,hY.standsx (C:={ P:=Tryz.prog,E:=E',σ0:=σ6,w0:=w6,base:=w6.heap.size,n:=76,kb:=0,df:=[] }) hz rfl S8⟩
 ·refine⟨_,rfl,?_⟩;have S4:=(S3.restart hle (hY.fitsx hR4)).put (x:=.d (bD false)) (u:=.bool false) (dst:=some 64) (by simp[RepT,Rep]) (by simp[T.ref]) (by simp);refine k9 (C:={ P:=Tryz.prog,E:=E',σ0:=σ3,w0:=w3,base:=w3.heap.size,n:=76,kb:=0,df:=[] }) 12 (K:=fun s=>s.t 8 = .d (bD false)) (by kernel_rfl) (by kernel_rfl) S4 ?_ (fun s5 σ5 G5 a5 w5 hw5 S5=>?_)
  ·simp -implicitDefEqProofs only[go_sem,St.only]
  refine wp_ret ?_;refine Jr (t:=8) rfl S5 rfl hw5 (hZ _ _ ⟨σ5,Mem.le_trans (Mem.le_trans S'.le hle) S5.le,.inr ⟨rfl,t,ht.trans (List.prefix_append _ _),hY.standsx (C:={ P:=Tryz.prog,E:=E',σ0:=σ3,w0:=w3,base:=w3.heap.size,n:=76,kb:=0,df:=[] }) hR4 rfl S5⟩⟩)
theorem zcK (hY:YR Tryz.prog E l R Rx)(hD:DrOk E lp dr){d:Nat}{X:Nat×Nat}(g:Gd X)(hdr:dr X=false)(hgo:goB X=true)(hd:d<8)
  (ih:∀ {X:Nat×Nat} (_:Gd X) {pre:List (Nat×Nat)} {σ:Mem} {w:World} {us:List Value},R pre σ w->RepL σ [fsD lp,ivD X,intD d,yvD l] us->pre.length+2^d<=256->Calls Tryz.prog 106 us.toArray w (J2 dr R Rx pre d X σ))
  {pre:List (Nat×Nat)} (hlen:pre.length+2^(d+1)<=256) {σ:Mem} {w:World} {us:List Value} (hR:R pre σ w) (hus:RepL σ [fsD lp,ivD X,intD (d+1:Nat),yvD l] us) :
  Calls Tryz.prog 106 us.toArray w fun e w'=>∃σ',σ.le σ'/\((e = .returned (.bool true)/\R (pre++(pcs dr d (X.1,posB (midB X))++pcs dr d (posB (midB X),X.2))) σ' w')\/(e = .returned (.bool false)/\∃t,t <+: (pcs dr d (X.1,posB (midB X))++pcs dr d (posB (midB X),X.2))/\Rx (pre++t) σ' w')):=by
 obtain⟨_,_,M⟩:=WI g;have hpm:wg (midB X)=true:=by
  unfold goB at hgo;simp only[Bool.and_eq_true] at hgo;exact hgo.1
 have ap:=zB M.lt hpm;have hl:(decide (d+1=0) || !goB X)=false:=by rw[hgo];simp
 obtain⟨c,hc⟩:∃c,Tryz.f106.body=some c:=⟨_,rfl⟩;have hfit:jG 76 c=true:=by
  have h:(Tryz.f106.body.map (jG 76))=some true:=by kernel_rfl
  rw[hc] at h;simpa using h
 obtain⟨x,y,hx,hfx,hfy,hxx,hyy⟩:∃x y,(cutC 4 c).2 = .seq x y/\jG 76 x=true/\jG 76 y=true/\(∃u,(cutC 1 x).2 = .cond (.tmp 50) u .skip)/\∃σ:Unit,∀ {C:Ctx} (_:C.P=Tryz.prog) (_:C.n=76) (_:C.kb=0),DC C (cutC 1 y).1 (QW (St.of [(0,.d (fsD lp)),(2,.d (.v (.int .i64 ((d+1:Nat):Int)))),(3,.d (yvD l)),(5,.ptr 5 0),(11,.d (flD (posB (midB X))))] [(5,⟨none,[.d (flD X.1),.d (flD X.2)]⟩)])) (S6 lp X (d+1) l false):=by
  have h:=hc;simp only[Tryz.f106,Option.some.injEq] at h;subst h;refine⟨_,_,rfl,rfl,rfl,⟨_,rfl⟩,(),fun {C} hP hn hk=>?_⟩;obtain⟨P,E',σ0,w0,base,n,kb,df,G0⟩:=C;simp only at hP hn hk;subst hP hn hk;simp only[cutC,S6];simp -implicitDefEqProofs only[go_sem,ap,QW];refine we ?_ ?_ rfl<;>simp -implicitDefEqProofs only[go_sem]
 have S0:=j8 (P:=Tryz.prog) (nt:=Tryz.f106.ntmps) (n:=76) (hY.fits hR) hus Tryz.ntmps106 (by simp);refine calls_of_wp Tryz.func106 hc ?_;refine x5 (C:={ P:=Tryz.prog,E:=E,σ0:=σ,w0:=w,base:=w.heap.size,n:=76,kb:=0,df:=[] }) 4 c hfit S0 (UM hD g hdr rfl rfl rfl rfl hc) (fun s1 σ1 G1 a1 w1 hw1 S1=>?_) qv;rw[hx];refine wp_seq ?_;refine x5 (C:={ P:=Tryz.prog,E:=E,σ0:=σ,w0:=w,base:=w.heap.size,n:=76,kb:=0,df:=[] }) 1 x hfx (S1.weak hw1) (UN g rfl rfl rfl rfl hc hx) (fun s2 σ2 G2 a2 w2 hw2 S2=>?_) qv;rw[hl] at hw2;have S3:=S2.weak hw2;obtain⟨u,hu⟩:=hxx;have h50:a2.eval (.tmp 50) = .bool false:=by
  have:=jY S3 (t:=50) (x:=.v (.bool false)) (by simp -implicitDefEqProofs only[go_sem])
  simpa [Rep] using this
 rw[hu];refine wp_cond_false h50 (wp_skip ?_);obtain⟨_,hyw⟩:=hyy;refine x5 (C:={ P:=Tryz.prog,E:=E,σ0:=σ,w0:=w,base:=w.heap.size,n:=76,kb:=0,df:=[] }) 1 y hfy S3 (hyw rfl rfl rfl) (fun s4 σ4 G4 a4 w4 hw4 S4=>?_) qv;have S5:=S4.weak hw4;obtain⟨σ5,S6⟩:=S5.comm (k:=5) (o:=⟨none,[.d (flD X.1),.d (flD X.2)]⟩) (ds:=[flD X.1,flD X.2]) (by simp -implicitDefEqProofs only[go_sem]) rfl;refine zaG hY (Rg g hgo M.lt) (YJ g hgo M.lt) hd ih hlen (C:={ P:=Tryz.prog,E:=E,σ0:=σ,w0:=w,base:=w.heap.size,n:=76,kb:=0,df:=[] }) rfl rfl rfl rfl rfl hc hx rfl (S6.weak (we ?_ ?_ rfl)) hR rfl (fun e w' h=>h)
 ·simp -implicitDefEqProofs only[go_sem,St.comm,jM]
 ·simp -implicitDefEqProofs only[go_sem]
theorem zcI (hY:YR Tryz.prog E l R Rx)(hD:DrOk E lp dr):∀(d:Nat) (_:d<=8) {X:Nat×Nat} (_:Gd X) {pre:List (Nat×Nat)} {σ:Mem} {w:World} {us:List Value},R pre σ w->RepL σ [fsD lp,ivD X,intD d,yvD l] us->pre.length+2^d<=256->Calls Tryz.prog 106 us.toArray w (J2 dr R Rx pre d X σ):=fun d=>by
 induction d with
 |zero=>
  intro _ X g pre σ w us hR hus hlen;cases hdr:dr X
  ·refine(UL hY hD g hdr rfl (by simp at hlen;omega) hR hus).mono fun e w' ⟨σ',h1,h2⟩=>⟨σ',h1,?_⟩
   have hp:pcs dr 0 X=[X]:=by unfold pcs;rw[hdr];rfl
   rw[hp];rcases h2 with⟨rfl,h⟩|⟨rfl,h⟩
   ·exact .inl ⟨rfl,h⟩
   ·exact .inr ⟨rfl,_,List.prefix_rfl,h⟩
  ·refine(UO hY hD g hdr hR hus).mono fun e w' ⟨σ',h1,h2,h3⟩=>⟨σ',h1,.inl ⟨h2,?_⟩⟩
   have hp:pcs dr 0 X=[]:=by unfold pcs;rw[hdr];rfl
   rw[hp,List.append_nil];exact h3
 |succ d ih=>
  intro hd X g pre σ w us hR hus hlen;cases hdr:dr X
  ·cases hgo:goB X
   ·have h2:0<2^(d+1):=Nat.pow_pos (by decide);refine(UL hY hD g hdr (by rw[hgo];simp) (by omega) hR hus).mono fun e w' ⟨σ',h1,h2⟩=>⟨σ',h1,?_⟩
    have hp:pcs dr (d+1) X=[X]:=by unfold pcs;rw[hdr,hgo];rfl
    rw[hp];rcases h2 with⟨rfl,h⟩|⟨rfl,h⟩
    ·exact .inl ⟨rfl,h⟩
    ·exact .inr ⟨rfl,_,List.prefix_rfl,h⟩
   ·have hp:pcs dr (d+1) X=pcs dr d (X.1,posB (midB X))++pcs dr d (posB (midB X),X.2):=by
     rw[pcs,hdr,hgo];rfl
    have:=zcK hY hD g hdr hgo (by omega) (ih (by omega)) hlen hR hus;refine this.mono fun e w' ⟨σ',h1,h2⟩=>⟨σ',h1,?_⟩
    rw[hp];exact h2
  ·refine(UO hY hD g hdr hR hus).mono fun e w' ⟨σ',h1,h2,h3⟩=>⟨σ',h1,.inl ⟨h2,?_⟩⟩
   have hp:pcs dr (d+1) X=[]:=by rw[pcs,hdr];rfl
   rw[hp,List.append_nil];exact h3
end
end Go.Enc
end
section
namespace Go.Enc
open Go.Proofs Go.Enc.Dg Go.Enc.Nu Go.Enc.Fl Go.RowKit
section
variable {E:Nat->Option Value} {l:Nat} {R Rx:List (Nat×Nat)->Mem->World->Prop} {lp:List Nat} {dr:Nat×Nat->Bool}
abbrev capD (lp:List Nat)(X:Nat×Nat)(d:Nat):List D:=[.pd [fsD lp] 0,.pd [flD X.1,flD X.2] 0,.pd [intD d] 0]
theorem zbn (hY:YR Tryz.prog E l R Rx)(hD:DrOk E lp dr){d:Nat}(hd:d<=8){X:Nat×Nat}(g:Gd X){σ:Mem}{w:World}{us:List Value}(hR:R [] σ w)(hus:RepL σ (yvD l :: capD lp X d) us) :
  Calls Tryz.prog 105 us.toArray w fun e w'=>(∃v,e = .returned v)/\∃σ',σ.le σ'/\(R (pcs dr d X) σ' w'\/∃t,t <+: pcs dr d X/\Rx t σ' w'):=by
 have S0:=j8 (P:=Tryz.prog) (nt:=Tryz.f105.ntmps) (n:=10) (hY.fits hR) hus Tryz.ntmps105 (by simp);refine calls_of_wp Tryz.func105 rfl ?_;refine(wpIn_wide (n:=0)).1 ?_
 show Code.wpIn (Wd none) 0 _ _ _ _ _
 refine wpIn_region_list ?_;refine k9 (C:={ P:=Tryz.prog,E:=E,σ0:=σ,w0:=w,base:=w.heap.size,n:=10,kb:=0,df:=[] }) 4 (K:=fun s=>Weak s (St.of [(5,.d (fsD lp)),(6,.d (ivD X)),(7,.d (intD d)),(8,.d (yvD l))] [])) (by kernel_rfl) (by kernel_rfl) S0 ?_ (fun s' σ' G' a' w' hw S'=>?_)
 ·simp -implicitDefEqProofs only[go_sem];refine we ?_ ?_ rfl<;>simp -implicitDefEqProofs only[go_sem]
 have S3:=S'.weak hw;have hR3:R [] σ' w':=hY.stands (C:={ P:=Tryz.prog,E:=E,σ0:=σ,w0:=w,base:=w.heap.size,n:=10,kb:=0,df:=[] }) hR rfl S';have a5:=jY S3 (t:=5) (x:=fsD lp) (by simp -implicitDefEqProofs only[go_sem]);have a6:=jY S3 (t:=6) (x:=ivD X) (by simp -implicitDefEqProofs only[go_sem]);have a7:=jY S3 (t:=7) (x:=intD d) (by simp -implicitDefEqProofs only[go_sem]);have a8:=jY S3 (t:=8) (x:=yvD l) (by simp -implicitDefEqProofs only[go_sem]);have h2:2^d<=256:=Nat.pow_le_pow_right (n:=2) (by decide) hd;refine Jd (x9 rfl) (Zp rfl Tryz.func106 rfl (by kernel_rfl) (R:=J2 dr R Rx [] d X σ') ?_ ?_)
 ·refine zcI hY hD d hd g hR3 ?_ (by simpa using h2)
  show RepL σ' _ [a'.eval (.tmp 5),a'.eval (.tmp 6),a'.eval (.tmp 7),a'.eval (.tmp 8)]
  simp only[RepL];exact⟨_,_,rfl,a5,_,_,rfl,a6,_,_,rfl,a7,_,_,rfl,a8,rfl⟩
 rintro e w3 ⟨σ3,hle,ho⟩;have hv:∃v,e = .returned v:=by rcases ho with⟨rfl,_⟩|⟨rfl,_⟩<;>exact⟨_,rfl⟩
 obtain⟨v,rfl⟩:=hv;refine⟨v,rfl,?_⟩
 show(a'.put _ v).defers=[]/\_
 refine⟨S'.dfr,_,results_none rfl _ _ _,⟨_,rfl⟩,σ3,Mem.le_trans S'.le hle,?_⟩;rcases ho with⟨_,h⟩|⟨_,t,ht,h⟩
 ·exact .inl h
 ·exact .inr ⟨t,ht,h⟩
end
end Go.Enc
end
section
namespace Go.Enc
open Go.RowKit
def Kept (ds:List Nat)(a a':Act):Prop:=∀i,i ∉ ds->a'.tmps.getD i undef=a.tmps.getD i undef
theorem Kept.refl (ds:List Nat)(a:Act):Kept ds a a:=fun _ _=>rfl
theorem Kept.trans {ds es:List Nat}{a b c:Act}(h:Kept ds a b)(k:Kept es b c):Kept (ds++es) a c:=fun i hi=>by
 rw[List.mem_append,not_or] at hi;rw[k i hi.2,h i hi.1]
theorem Kept.more {ds es:List Nat}{a b:Act}(h:Kept ds a b)(k:∀i∈ds,i∈es):Kept es a b:=fun i hi=>h i fun h'=>hi (k i h')
theorem Kept.put (a:Act)(d:Option Nat)(v:Value):Kept d.toList a (a.put d v):=fun i hi=>by
 cases d with
 |none=>rfl
 |some d=>
  simp only[Option.toList_some,List.mem_singleton] at hi;simp only[Act.put,Array.getD_eq_getD_getElem?];rw[Array.getElem?_setIfInBounds_ne (by omega)]
def dstL (l:List Oper):List Nat:=l.filterMap (·.dst)
theorem zad (o:Oper)(l:List Oper):dstL (o :: l)=o.dst.toList++dstL l:=by
 unfold dstL;cases h:o.dst<;>simp[h]
theorem Hu (a:Act)(ds:List Deferred)(o:Option Nat)(v:Value):(({ a with defers:=ds }:Act).put o v).tmps=(a.put o v).tmps:=by cases o<;>rfl
section
variable {F:Fence} {n:Nat} {P:Program}
theorem JH {o:Oper}{a:Act}{w:World}{K K':Act->World->Prop}{Q Q':Exit->Act->World->Prop}(hK:∀a' w',(∃v,a'.tmps=(a.put o.dst v).tmps)->K a' w'->K' a' w')(hQ:∀c a w,Q (.panic c) a w->Q' (.panic c) a w)(hO:LetsOut Q->LetsOut Q')
  (h:o.wpIn F n P a w K Q):o.wpIn F n P a w K' Q':=by
 unfold Oper.wpIn at *;refine⟨h.1,?_⟩;have h:=h.2;generalize (o.semAt F.round a.eval).run P w=r at *;cases r with
 |ok x w'=>
  cases x<;>simp only[Oper.uponIn] at h ⊢ <;>
   first
    |exact hK _ _ ⟨_,rfl⟩ h
    |exact⟨h.1,CallsIn.mono h.2 (fun e w'' he=>by cases e<;>first|exact hK _ _ ⟨_,rfl⟩ he|exact hQ _ _ _ he|exact hO he)⟩
    |exact⟨h.1,RowsIn.mono h.2 (fun _ _ he=>hK _ _ ⟨_,rfl⟩ he)⟩
    |exact⟨h.1,RoundIn.mono h.2 (fun e w'' he=>by cases e<;>first|exact hK _ _ ⟨_,rfl⟩ he|exact hQ _ _ _ he|exact hO he)⟩
    |exact hK _ _ ⟨undef,Hu _ _ _ _⟩ h
 |halt x w'=>cases x<;>simp only[Oper.uponIn] at h ⊢<;>first|exact hQ _ _ _ h|exact h
def Fr (ds:List Nat)(a:Act)(Q:Exit->Act->World->Prop):Exit->Act->World->Prop:=fun e a' w'=>Q e a' w'/\(e = .normal->Kept ds a a')
theorem XA {ds:List Nat}{a b c:Act}(h:b.tmps=c.tmps)(k:Kept ds a c):Kept ds a b:=fun i hi=>by rw[h];exact k i hi
theorem JL {ops:Array Oper}{Q Q':Exit->Act->World->Prop}(hq:∀e a w,Q e a w->Q' e a w):∀(l:List Oper) {a:Act} {w:World},wpListIn F n P ops Q l a w->wpListIn F n P ops Q' l a w
 |[],a,w,h=>hq _ _ _ h
 |o :: l,a,w,h=>by
  unfold wpListIn at h ⊢;split
  ·rename_i hw;rw[if_pos hw] at h;exact JH (fun a' w' _ hk=>JL hq l hk) (fun c a w h=>hq _ _ _ h) (fun ⟨a0,w0,h⟩=>⟨a0,w0,hq _ _ _ h⟩) h
  ·rename_i hw;rw[if_neg hw] at h;exact⟨h.1,JL hq l h.2⟩
theorem WL {ops:Array Oper}{Q:Exit->Act->World->Prop}:∀(l:List Oper) {a:Act} {w:World},wpListIn F n P ops Q l a w->wpListIn F n P ops (Fr (dstL l) a Q) l a w
 |[],a,w,h=>⟨h,fun _=>Kept.refl _ _⟩
 |o :: l,a,w,h=>by
  have up:∀ {b:Act} {w':World} {v:Value},b.tmps=(a.put o.dst v).tmps->wpListIn F n P ops (Fr (dstL l) b Q) l b w'->wpListIn F n P ops (Fr (dstL (o :: l)) a Q) l b w':=fun {b w' v} hb hl=>by
   refine JL (fun e a' w'' ⟨h1,h2⟩=>⟨h1,fun he=>?_⟩) l hl;rw[zad];exact(XA hb (Kept.put a o.dst v)).trans (h2 he)
  unfold wpListIn at h ⊢;split
  ·rename_i hw;rw[if_pos hw] at h;refine JH (fun a' w' ⟨v,hv⟩ hk=>up hv (WL l hk)) (fun c a w hq=>⟨hq,fun he=>by cases he⟩) (fun ⟨a0,w0,hq⟩=>⟨a0,w0,hq,fun he=>by cases he⟩) h
  ·rename_i hw;rw[if_neg hw] at h;exact⟨h.1,up rfl (WL l h.2)⟩
theorem zcT {ops:Array Oper}{i:Nat}{a:Act}{w:World}{K K':Act->World->Prop}{Q Q':Exit->Act->World->Prop}(hK:∀a' w',Kept (dstL ops.toList) a a'->K a' w'->K' a' w')(hQ:∀c a w,Q (.panic c) a w->Q' (.panic c) a w)(hO:LetsOut Q->LetsOut Q')(h:wpOpIn F n P ops Q i K a w):wpOpIn F n P ops Q' i K' a w:=by
 unfold wpOpIn at *;split
 ·exact hK _ _ (Kept.refl _ _) (by simpa [*] using h)
 ·rename_i o ho;simp only[ho] at h;have hm:∀j∈o.dst.toList,j∈dstL ops.toList:=fun j hj=>by
   have h1:o∈ops.toList:=List.mem_of_getElem? (by rw[Array.getElem?_toList];exact ho);cases hd:o.dst with
   |none=>rw[hd] at hj;simp at hj
   |some d=>
    rw[hd] at hj;simp only[Option.toList_some,List.mem_singleton] at hj;subst hj;exact List.mem_filterMap.2 ⟨o,h1,hd⟩
  split
  ·rename_i hw;simp only[hw,if_true] at h;exact JH (fun a' w' ⟨v,hv⟩ hk=>hK _ _ ((XA hv (Kept.put a o.dst v)).more hm) hk) hQ hO h
  ·rename_i hw;simp only[hw] at h;exact⟨h.1,hK _ _ ((Kept.put a o.dst undef).more hm) h.2⟩
theorem Vi {ops:Array Oper}{Q:Exit->Act->World->Prop}(a0:Act):∀(fuel:Nat) (listed:Array Bool) {a:Act} {w:World},Kept (dstL ops.toList) a0 a->wpAnyIn F n P .any ops Q fuel listed a w->wpAnyIn F n P .any ops (Fr (dstL ops.toList) a0 Q) fuel listed a w
 |0,_,a,w,hs,h=>⟨h.1,h.2,fun _=>hs⟩
 |fuel+1,listed,a,w,hs,h=>⟨fun hr=>⟨h.1 hr,fun _=>hs⟩,fun i hi=>by
  refine zcT (fun a' w' hd hk=>Vi a0 fuel _ (fun j hj=>?_) hk) (fun c a w hq=>⟨hq,fun he=>by cases he⟩) (fun ⟨a0,w0,hq⟩=>⟨a0,w0,hq,fun he=>by cases he⟩) (h.2 i hi);rw[hd j hj,hs j hj]⟩
end
section
variable {C:Ctx} {σ:Mem} {G:Gh} {s:St} {a:Act} {w:World} {ro:Option Nat} {n:Nat} {ops:Array Oper}
theorem XG {id:Nat}{Q:Exit->St->Prop}(hd:kG C.n ops.toList=true)(hn:ye ops.toList=true)(S:Stands C σ G s a w)(h:steps C ops ops.toList s (Q .normal)):(Code.region id ops false).wpIn (Wd ro) n C.P (Fr (dstL ops.toList) a (Lift C Q)) a w:=by
 refine wpIn_region_list (WL _ ?_);have:=K4 (ro:=ro) (n:=n) (l2:=[]) (Q:=Lift C Q) ops.toList hd hn S h (fun s' σ' G' a' w' hk S'=>⟨σ',G',s',hk,S'⟩)
 simpa using this
theorem zda {id:Nat}{Q:Exit->St->Prop}{D:List (Nat×Nat)}(hD:Dok D ops=true)(hm:C.P.follows .mixedOrders=true)(hok:qy D ops=true)(hd:kG C.n ops.toList=true)(hn:ye ops.toList=true)(A:Ap D s)(S:Stands C σ G s a w)(h:steps C ops ops.toList s (Q .normal)):(Code.region id ops true).wpIn (Wd ro) n C.P (Fr (dstL ops.toList) a (Lift C Q)) a w:=by
 obtain⟨t,h1,h2⟩:=vo (C:=C) (ops:=ops) ops.toList 0 (by simp) (Ka hok) h;rw[Array.length_toList,<-List.range_eq_range'] at h1;refine wpIn_region_any hm (Vi a _ _ (Kept.refl _ _) (zeE (fun _ _ h=>h) hn _ _ _ _ ?_));refine Ko hD hok hd ops.size _ (List.range ops.size) s t σ G a _ (by simp) (by simp) List.pairwise_lt_range (fun j=>?_) (fun i y _ hl=>?_) S.drew A h1 h2
 ·simp only[List.mem_range,Array.getD_eq_getD_getElem?];constructor
  ·intro h;exact⟨h,by simp[h]⟩
  ·intro h;exact h.1
 ·exfalso;simp only[Array.getD_eq_getD_getElem?,Array.getElem?_replicate] at hl;split at hl<;>simp at hl
theorem Stands.now (S:Stands C σ G s a w):Stands { C with σ0:=σ,w0:=w } σ G s a w:=
 {S with
  bas:=S.size
  glob:=fun g u h=>S.le _ _ _ (S.glob g u h)
  tab:=fun u h=>Rep.mono S.le _ _ (S.tab u h)
  le:=Mem.le_refl _
  old:=fun _ _ _=>rfl
  gp:=fun g t x h=>⟨(S.gp g t x h).1,(S.gp g t x h).2.of_eq (S.bel.block _ (S.gp g t x h).1)⟩
  bel:=Below.refl _ _
  oth:=KeepsOthers.refl _ }
theorem Kn {w:World}{l:Nat}{o:Go.Obj}(hl:w.heap[l]?=some o)(ho:o.isCells=false){b i:Nat}{u:Value}(h:w.cell? ⟨b,i,none⟩=some u):b≠l:=fun e=>by
 subst e;unfold World.cell? at h;rw[hl] at h;cases o<;>simp_all [Obj.isCells]
theorem zaI {k base b:Nat}{ob:Obj}(h:ObjIs σ G w base k ob)(hb:(G k).1=some b){o:Go.Obj}(ho:w.heap[b]?=some o):o.isCells=true:=by
 unfold ObjIs at h;split at h
 ·obtain⟨x,us,ty,h1,h2,h3,_⟩:=h;rw[h1] at hb;cases hb;rw[h3] at ho;cases ho;rfl
 ·obtain⟨n,us,h1,h2,h3,h4⟩:=h;exact qZ h1 b o (by rw[<-h3];exact hb) ho
theorem Stands.putObj (S:Stands C σ G s a w){l:Nat}{o o':Go.Obj}(hl:w.heap[l]?=some o)(ho:o.isCells=false):Stands { C with σ0:=σ,w0:=w.putObj l o' } σ G s a (w.putObj l o'):=by
 have S:=S.now;have hg:w.grownBy (w.putObj l o') (some l):=grownBy_putObj' w l o';have hlt:l<w.heap.size:=(Array.getElem?_eq_some_iff.1 hl).1;have hblk:∀ {b:Nat},b<w.heap.size->b≠l->(w.putObj l o').heap[b]?=w.heap[b]?:=fun h1 h2=>hg.block _ h1 (fun e=>h2 (by simpa using e))
 have hcl:∀ {b:Nat} {cs:Array Value} {ty:TypeId} {f:Nat×Nat},w.heap[b]?=some (.cells cs ty f)->b≠l:=fun h e=>by
  subst e;rw[hl] at h;cases h;cases ho
 exact { S with
  bas:=Nat.le_trans S.size hg.size
  inv:=fun b i u h=>(World.cell?_of_block (hblk (wT (S.inv b i u h)) (Kn hl ho (S.inv b i u h)))).trans (S.inv b i u h)
  hard:=fun b i u h he=>(S.hard b i u h he).of_eq (hblk (wT (S.inv b i u h)) (Kn hl ho (S.inv b i u h)))
  gp:=fun g t x h=>by
   obtain⟨h1,cs,ty,h2⟩:=S.gp g t x h;exact⟨h1,cs,ty,(hblk (Array.getElem?_eq_some_iff.1 h2).1 (hcl h2)).trans h2⟩
  bel:=Below.refl _ _
  oth:=KeepsOthers.refl _
  obj:=fun k ob h=>by
   refine(S.obj k ob h).grown hg (fun x e e'=>?_);simp only[Option.some.injEq] at e;subst e;have:=zaI (S.obj k ob h) e' hl;rw[ho] at this;cases this }
theorem Stands.act (S:Stands C σ G s a w){b:Act}{df:List Deferred}(hs:∀i,s.t i≠.d .any->b.tmps.getD i undef=a.tmps.getD i undef)(hz:b.tmps.size=C.n)(hd:b.defers=df):Stands { C with df:=df } σ G s b w:=
 {S with
  dfr:=hd
  siz:=hz
  slot:=fun i=>by
   by_cases h:s.t i = .d .any
   ·rw[h];simp[RepT,Rep]
   ·rw[hs i h];exact S.slot i }
theorem Stands.nilCell (S:Stands C σ G s a w){k i k2:Nat}{cells:List T}(ho:s.h k=some ⟨none,cells⟩)(hi:cells[i]?=some (.d (.v (.slice none 0 0))))(hk:s.h k2=none)(e:TypeId)(size:Nat)(hkb:C.kb<=k2:=by exact Nat.zero_le _) :
  ∃G',Stands C σ G' ((s.new k2 ⟨some (e,size,true),[]⟩).setH k ⟨none,cells.set i (.gs k2)⟩) a w:=by
 have hrow:w.grownBy w none:=⟨rfl,rfl,rfl,Nat.le_refl _,fun _ _ _=>rfl⟩;have S1:=S.fresh (g:=(none,.slice none 0 0)) (o:=⟨some (e,size,true),[]⟩) hkb hk hrow (by simp) (by simp) (by
  simp only[ObjIs,wq];exact⟨0,[],World.ownsRow_nil w C.base e size,rfl,rfl,fun _ _=>trivial⟩) (by simp) (by simp)
 have hne:k≠k2:=fun e=>by subst e;rw[hk] at ho;cases ho
 have ho1:(s.new k2 ⟨some (e,size,true),[]⟩).h k=some ⟨none,cells⟩:=by simp only[St.new];rw[wD _ _ hne];exact ho
 have hfin:∃N,∀j,N<=j->((s.new k2 ⟨some (e,size,true),[]⟩).setH k ⟨none,cells.set i (.gs k2)⟩).h j=none:=by
  obtain⟨N,hN⟩:=S1.fin;exact⟨N,fun j hj=>by
   simp only[St.setH];rw[wD _ _ (fun e=>by have:=hN j hj;rw[e,ho1] at this;cases this)];exact hN j hj⟩
 refine⟨_,{ S1 with fin:=hfin,live:=fun j k' hj=>?_,obj:=fun j o h=>?_,deep:=fun j o h c hc k' hk'=>?_,sep:=fun j j' o o' b h1 h2=>?_,own:=fun j o b h=>?_ }⟩
 ·simp only[St.setH];have:=S1.live j k' hj;by_cases hk':k'=k
  ·subst hk';rw[wq];simp
  ·rw[wD _ _ hk'];exact this
 ·simp only[St.setH] at h;by_cases hj:j=k
  ·subst hj;rw[wq] at h;cases h;have H:=S1.obj j _ ho1;simp only[ObjIs] at H ⊢;obtain⟨b,us,ty,h1,h2,h3,h4,h5⟩:=H;refine⟨b,us,ty,h1,h2,h3,?_,h5⟩;obtain⟨u,u1,u2,u3⟩:=h4.get i _ hi;simp only[RepT,Rep] at u3;have hu:us.toList.set i u=us.toList:=by
    refine List.ext_getElem? fun j=>?_
    rw[List.getElem?_set];split
    ·rename_i e;subst e;split
     ·exact u1.symm
     ·rename_i h;rw[List.getElem?_eq_none (by omega)]
    ·rfl
   rw[<-hu];refine h4.set i _ u u2 ?_;simp only[RepT,wq];exact u3
  ·rw[wD _ _ hj] at h;exact S1.obj j o h
 ·simp only[St.setH] at h ⊢;have key:∀ {k'},(s.new k2 ⟨some (e,size,true),[]⟩).h k'≠none->upd (s.new k2 ⟨some (e,size,true),[]⟩).h k (some ⟨none,cells.set i (.gs k2)⟩) k'≠none:=fun {k'} h=>by
   by_cases hk':k'=k
   ·subst hk';rw[wq];simp
   ·rw[wD _ _ hk'];exact h
  by_cases hj:j=k
  ·subst hj;rw[wq] at h;cases h;rcases List.mem_or_eq_of_mem_set hc with hc|hc
   ·exact key (S1.deep j _ ho1 c hc k' hk')
   ·subst hc;simp only[T.ref,Option.some.injEq] at hk';subst hk';exact key (by simp[St.new,wq])
  ·rw[wD _ _ hj] at h;exact key (S1.deep j o h c hc k' hk')
 ·have conv:∀ {j o},((s.new k2 ⟨some (e,size,true),[]⟩).setH k ⟨none,cells.set i (.gs k2)⟩).h j=some o->∃o1,(s.new k2 ⟨some (e,size,true),[]⟩).h j=some o1:=fun {j o} h=>by
   simp only[St.setH] at h;by_cases hj:j=k
   ·subst hj;exact⟨_,ho1⟩
   ·rw[wD _ _ hj] at h;exact⟨_,h⟩
  obtain⟨o1,h1⟩:=conv h1
  obtain⟨o2,h2⟩:=conv h2
  exact S1.sep j j' o1 o2 b h1 h2
 ·simp only[St.setH] at h;by_cases hj:j=k
  ·subst hj;exact S1.own j _ b ho1
  ·rw[wD _ _ hj] at h;exact S1.own j o b h
end
end Go.Enc
end
section
namespace Go.Enc
open Go.Proofs Go.Enc.Dg Go.Enc.Nu Go.Enc.Fl Go.RowKit
def At (C:Ctx)(σ:Mem)(w:World):Ctx:={ C with σ0:=σ,w0:=w,df:=[] }
structure LoopOk (C:Ctx)(p:Tmp)(assign body:Code)(id:Nat)(st:List (Nat×Nat)->St)(stA:List (Nat×Nat)->Nat×Nat->St)(go sp:List (Nat×Nat)->Prop)(Da Db:List Nat):Prop where
 asg:∀ {l pre X σ G a w},Stands (At C σ w) σ G ((st pre).put (some p) (.d (ivD X))) a w->assign.wpIn (Wd (some l)) 0 C.P (fun e a' w'=>e = .normal/\∃σ' G',Stands (At C σ w) σ' G' (stA pre X) a' w'/\Kept Da a a') a w
 bod:∀ {l pre X σ G a w},pre.length<256->go pre->Stands (At C σ w) σ G (stA pre X) a w->body.wpIn (Wd (some l)) 0 C.P (fun e a' w'=>((e = .normal/\go (pre++[X]))\/(e = .exit id/\sp (pre++[X])))/\∃σ' G',Stands (At C σ w) σ' G' (st (pre++[X])) a' w'/\Kept Db a a') a w
 slots:∀pre i,i=p\/i∈Da\/i∈Db->(st pre).t i = .d .any
 hp:p<C.n
theorem callfn {P:Program}{g:FuncId}{fn:Func}{c:Code}(hf:P.funcs[g]?=some fn)(hb:fn.body=some c)(hname:(fn.name == "runtime.NumGoroutine")=false)(args:Array Value)(w:World):(callFunc g args).run P w = .ok (.enter g args) w:=by
 have hne:¬(fn.name = "runtime.NumGoroutine"):=by simpa using hname
 simp[callFunc,hf,hne,hb]
def RR (C:Ctx)(wE:World)(σE:Mem)(st:List (Nat×Nat)->St)(go:List (Nat×Nat)->Prop)(l:Nat)(Ds:List Nat)(rec:Loop)(T0:Array Value):List (Nat×Nat)->Mem->World->Prop:=fun pre σ w=>
 go pre/\(∀g u,C.E g=some u->σ g 0=some u)/\(∀u,C.E tabG=some u->Rep σ tabD u)/\∃σ1 G,σ.le σ1/\σE.le σ1/\(∀b o,b<C.base->σ1 b o=σE b o)/\Stands (At C σ1 w) σ1 G (st pre) ⟨T0,[]⟩ w/\w.heap[l]?=some (.loop rec) /\
  (∀D∈Ds,w.heap[D]?=some (.deferred (some [])))/\Below C.base wE w
section
variable {C:Ctx} {wE:World} {σE:Mem} {st:List (Nat×Nat)->St} {go:List (Nat×Nat)->Prop} {l:Nat} {Ds:List Nat} {rec:Loop} {T0:Array Value} {pre:List (Nat×Nat)} {σ σ':Mem} {w w':World}
theorem RR.fits (h:RR C wE σE st go l Ds rec T0 pre σ w):Fits C.E σ w:=by
 obtain⟨_,h1,h2,σ1,G,h3,_,_,S,_⟩:=h;exact⟨fun b o u h=>S.inv b o u (h3 _ _ _ h),h1,h2,fun b o u h he=>S.hard b o u (h3 _ _ _ h) he,fun g t x h=>(S.gp g t x h).2⟩
theorem RR.after (h:RR C wE σE st go l Ds rec T0 pre σ w)(hle:σ.le σ')(hold:∀b o,b<w.heap.size->σ' b o=σ b o)(hinv:∀b o v,σ' b o=some v->w'.cell? ⟨b,o,none⟩=some v)
  (hhard:∀b o v,w.heap.size<=b->σ' b o=some v->Soft w' b) (hbel:Below w.heap.size w w'):RR C wE σE st go l Ds rec T0 pre σ' w':=by
 obtain⟨hg,h1,h2,σ1,G,h3,h4,h5,S,h6,h7,h8⟩:=h;refine⟨hg,fun g u h=>hle _ _ _ (h1 g u h),fun u h=>Rep.mono hle _ _ (h2 u h),fun b o=>if b<w.heap.size then σ1 b o else σ' b o,G,?_,?_,?_,?_,?_,?_,?_⟩
 ·intro b o u h
  show(if b<w.heap.size then σ1 b o else σ' b o)=some u
  split
  ·rename_i hb;exact h3 _ _ _ (by rw[<-hold b o hb];exact h)
  ·exact h
 ·intro b o u h
  show(if b<w.heap.size then σ1 b o else σ' b o)=some u
  rw[if_pos (wT (S.inv b o u (h4 _ _ _ h)))];exact h4 _ _ _ h
 ·intro b o hb
  show(if b<w.heap.size then σ1 b o else σ' b o)=_
  rw[if_pos (Nat.lt_of_lt_of_le hb S.size)];exact h5 b o hb
 ·have S1:=S.after (σ':=fun b o=>if b<w.heap.size then σ1 b o else σ' b o) (w':=w') (fun b o u h=>by
    show(if b<w.heap.size then σ1 b o else σ' b o)=some u
    rw[if_pos (wT (S.inv b o u h))];exact h) (fun b o hb=>by
    show(if b<w.heap.size then σ1 b o else σ' b o)=_
    rw[if_pos hb]) (fun b o v h=>by
    have h:(if b<w.heap.size then σ1 b o else σ' b o)=some v:=h;split at h
    ·rename_i hb;exact(hbel.cell (p:=⟨b,o,none⟩) hb).trans (S.inv b o v h)
    ·exact hinv b o v h) (fun b o v hb h=>by
    have h:(if b<w.heap.size then σ1 b o else σ' b o)=some v:=h;rw[if_neg (by omega)] at h;exact hhard b o v hb h) hbel
  exact S1.now
 ·exact(hbel.block _ (Array.getElem?_eq_some_iff.1 h6).1).trans h6
 ·exact fun D hD=>(hbel.block _ (Array.getElem?_eq_some_iff.1 (h7 D hD)).1).trans (h7 D hD)
 ·exact h8.trans (hbel.mono S.size)
theorem qG {n:Nat}{w:World}{l:Nat}{o':Go.Obj}(h:n<=l)(hs:n<=w.heap.size):Below n w (w.putObj l o'):=
 (Below.refl n w).grown (grownBy_putObj' w l o') hs (fun k e=>by cases e;exact h)
abbrev ivV (X:Nat×Nat):Value:=.agg #[.float .f64 X.1,.float .f64 X.2]
theorem zfB (σ:Mem)(X:Nat×Nat):Rep σ (ivD X) (ivV X):=by
 simp only[Rep];refine⟨_,rfl,?_⟩;simp only[RepU];exact⟨_,_,rfl,rfl,by simp[Rep],_,_,rfl,rfl,by simp[Rep],rfl⟩
theorem RR.round {p:Tmp}{assign body:Code}{id:Nat}{stA:List (Nat×Nat)->Nat×Nat->St}{sp:List (Nat×Nat)->Prop}{Da Db:List Nat}(hL:LoopOk C p assign body id st stA go sp Da Db)(hT:T0.size=C.n)(hlb:C.base<=l){fn D0:Nat}{X:Nat×Nat}
  (h:RR C wE σE st go l Ds { state:=.ready,pending:=none,fn:=fn,tmps:=T0,params:=#[p],assign:=assign,body:=body,defers:=D0 } T0 pre σ w) (hlen:pre.length<256) :
  Zy C.P l #[ivV X] w fun e w'=>∃σ',σ.le σ'/\((e = .returned (.bool true)/\RR C wE σE st go l Ds { state:=.ready,pending:=none,fn:=fn,tmps:=T0,params:=#[p],assign:=assign,body:=body,defers:=D0 } T0 (pre++[X]) σ' w') \/
   (e = .returned (.bool false)/\RR C wE σE st sp l Ds { state:=.done,pending:=some (.exit id),fn:=fn,tmps:=T0,params:=#[p],assign:=assign,body:=body,defers:=D0 } T0 (pre++[X]) σ' w')):=by
 obtain⟨hg,h1,h2,σ1,G,h3,h4,h5,S,h6,h7,h8⟩:=h;refine⟨fn,_,assign,body,run_yield h6 rfl,roundIn_of_wpIn trivial ?_⟩;have S1:=S.put (x:=.d (ivD X)) (u:=ivV X) (dst:=some p) (zfB _ _) (by simp[T.ref]) (fun d e=>by cases e;exact hL.hp);have hact0:({ tmps:=Array.foldl (fun tmps (x:Tmp×Value)=>match x with|(t,a)=>tmps.setIfInBounds t a) T0 (#[p].zip #[ivV X]),defers:=[] }:Act)=(⟨T0,[]⟩:Act).put (some p) (ivV X):=by
  simp[Act.put,Array.zip_eq_zipWith]
 show Code.wpIn _ _ _ _ _ ({ tmps:=Array.foldl (fun tmps (x:Tmp×Value)=>match x with|(t,a)=>tmps.setIfInBounds t a) T0 (#[p].zip #[ivV X]),defers:=[] }:Act) w
 rw[hact0];refine wpIn_mono (hL.asg (l:=l) S1) ?_;rintro e a1 w1 ⟨rfl,σ2,G2,S2,hs1⟩;have l1:=S2.oth.same l _ h6 rfl;refine⟨_,run_beginRound l1 rfl,?_⟩;have S3:=S2.putObj (o':=.loop { state:=.busy,pending:=none,fn:=fn,tmps:=T0,params:=#[p],assign:=assign,body:=body,defers:=D0 }) l1 rfl;refine wpIn_mono (hL.bod (l:=l) hlen hg S3) ?_;rintro e a3 w3 ⟨hcase,σ4,G4,S4,hs2⟩;have hlt1:l<w1.heap.size:=(Array.getElem?_eq_some_iff.1 l1).1;have l2:(w1.putObj l (.loop { state:=.busy,pending:=none,fn:=fn,tmps:=T0,params:=#[p],assign:=assign,body:=body,defers:=D0 })).heap[l]?=some (.loop { state:=.busy,pending:=none,fn:=fn,tmps:=T0,params:=#[p],assign:=assign,body:=body,defers:=D0 }):=World.putObj_heap_same hlt1;have l3:=S4.oth.same l _ l2 rfl;have hD3:∀D∈Ds,D≠l/\w3.heap[D]?=some (.deferred (some [])):=fun D hD=>by
  have e1:=S2.oth.same D _ (h7 D hD) rfl;have hne:D≠l:=fun e=>by subst e;rw[l1] at e1;cases e1
  exact⟨hne,S4.oth.same D _ ((World.putObj_heap_other hne).trans e1) rfl⟩
 have hact:∀(o':Go.Obj),Stands (At C σ4 (w3.putObj l o')) σ4 G4 (st (pre++[X])) ⟨T0,[]⟩ (w3.putObj l o'):=fun o'=>by
  refine(S4.putObj (o':=o') l3 rfl).act (b:=⟨T0,[]⟩) (fun i hi=>?_) hT rfl;have hn:¬(i=p\/i∈Da\/i∈Db):=fun hh=>hi (hL.slots _ _ hh)
  simp only[not_or] at hn;rw[hs2 i hn.2.2,hs1 i hn.2.1];have:=Kept.put (⟨T0,[]⟩:Act) (some p) (ivV X) i (by simp;exact hn.1);exact this.symm
 have hbel:∀(o':Go.Obj),Below C.base wE (w3.putObj l o'):=fun o'=>by
  have b1:=h8.trans S2.bel;have b2:=b1.trans (qG (o':=.loop { state:=.busy,pending:=none,fn:=fn,tmps:=T0,params:=#[p],assign:=assign,body:=body,defers:=D0 }) hlb S2.size);exact(b2.trans S4.bel).trans (qG hlb S4.size)
 have hold:∀b o,b<C.base->σ4 b o=σE b o:=fun b o hb=>by
  exact((S4.old b o hb).trans (S2.old b o hb)).trans (h5 b o hb)
 have hle:∀ {τ:Mem},τ.le σ1->τ.le σ4:=fun h=>Mem.le_trans (Mem.le_trans h S2.le) S4.le
 rcases hcase with⟨rfl,hgo⟩|⟨rfl,hsp⟩
 ·refine⟨_,_,run_endRound none l3,σ,Mem.le_refl _,.inl ⟨rfl,hgo,h1,h2,σ4,G4,hle h3,hle h4,hold,hact _,?_,fun D hD=>?_,hbel _⟩⟩
  ·exact World.putObj_heap_same (Array.getElem?_eq_some_iff.1 l3).1
  ·exact(World.putObj_heap_other (hD3 D hD).1).trans (hD3 D hD).2
 ·refine⟨_,_,run_endRound (some (.exit id)) l3,σ,Mem.le_refl _,.inr ⟨rfl,hsp,h1,h2,σ4,G4,hle h3,hle h4,hold,hact _,?_,fun D hD=>?_,hbel _⟩⟩
  ·exact World.putObj_heap_same (Array.getElem?_eq_some_iff.1 l3).1
  ·exact(World.putObj_heap_other (hD3 D hD).1).trans (hD3 D hD).2
theorem U5 {p tf:Tmp}{assign body:Code}{id:Nat}{stA:List (Nat×Nat)->Nat×Nat->St}{go sp:List (Nat×Nat)->Prop}{Da Db:List Nat}(hP:C.P=Tryz.prog)(hL:LoopOk C p assign body id st stA go sp Da Db){lp:List Nat}{dr:Nat×Nat->Bool}(hD:DrOk C.E lp dr){d:Nat}(hd:d<=8){X:Nat×Nat}(g:Gd X)
  {G:Gh} {a:Act} (hz:a.tmps.size=C.n) (S:Stands { C with df:=a.defers } σ G (st []) a w) (hg0:go []) (htf:(st []).t tf = .d (.fn 105 (capD lp X d))) (hDs:∀D∈Ds,w.heap[D]?=some (.deferred (some []))) (hbel:Below C.base wE w) (hold:∀b o,b<C.base->σ b o=σE b o) (hle:σE.le σ)
  {Q:Exit->Act->World->Prop}
  (hQ:∀(L:List (Nat×Nat)) (σ':Mem) (G':Gh) (w':World) (D:Nat),D=w.heap.size->(go L/\L=pcs dr d X\/sp L/\L <+: pcs dr d X)->Stands { C with σ0:=σ',w0:=w',df:={ target:=.collected D,args:=#[] } :: a.defers } σ' G' (st L) { a with defers:={ target:=.collected D,args:=#[] } :: a.defers } w'->w'.heap[D]?=some (.deferred (some [])) ->
   (∀D∈Ds,w'.heap[D]?=some (.deferred (some [])))->Below C.base wE w'->(∀b o,b<C.base->σ' b o=σE b o)->σE.le σ'->Q .normal { a with defers:={ target:=.collected D,args:=#[] } :: a.defers } w') :
  (Code.block id (.rangeFunc (.tmp tf) #[p] assign body)).wpIn (Wd none) 0 C.P Q a w:=by
 refine wpIn_block (wpIn_rangeFunc ?_);intro fn hfn;obtain⟨T0,ds⟩:=a;simp only at hz S hQ;obtain⟨rec,hrec⟩:∃rec:LoopState->Option Code->Loop,rec=fun st pe=>{ state:=st,pending:=pe,fn:=fn,tmps:=T0,params:=#[p],assign:=assign,body:=body,defers:=w.heap.size }:=⟨_,rfl⟩
 obtain⟨W1,hW1⟩:∃W1,(w.alloc (.deferred (some []))).alloc (.loop (rec .ready none))=W1:=⟨_,rfl⟩;have hL1:W1.heap[w.heap.size+1]?=some (.loop (rec .ready none)):=by
  rw[<-hW1];have:=World.alloc_heap_new (w.alloc (.deferred (some []))) (.loop (rec .ready none));rwa [World.size_alloc] at this
 have hK1:W1.heap[w.heap.size]?=some (.deferred (some [])):=by
  rw[<-hW1];exact(Below.heap_alloc _ _ _ (by simp)).trans (World.alloc_heap_new w _)
 have hb1:Below w.heap.size w W1:=by
  rw[<-hW1];exact((Below.refl _ w).alloc (Nat.le_refl _) _).alloc (by simp) _
 have hlb:C.base<=w.heap.size+1:=Nat.le_trans S.size (Nat.le_succ _);have hinv1:∀b o v,σ b o=some v->W1.cell? ⟨b,o,none⟩=some v:=fun b o v h=>(hb1.cell (p:=⟨b,o,none⟩) (wT (S.inv b o v h))).trans (S.inv b o v h)
 have S1:=(S.after (Mem.le_refl σ) (fun _ _ _=>rfl) hinv1 (fun b o v h1 h2=>absurd (wT (S.inv b o v h2)) (by omega)) hb1).now;have S2:Stands (At C σ W1) σ G (st []) ⟨T0,[]⟩ W1:=S1.act (fun _ _=>rfl) hz rfl;have hR0:RR C wE σE st go (w.heap.size+1) (w.heap.size :: Ds) (rec .ready none) T0 [] σ W1:=by
  refine⟨hg0,fun g u h=>S.le _ _ _ (S.glob g u h),fun u h=>Rep.mono S.le _ _ (S.tab u h),σ,G,Mem.le_refl _,hle,hold,S2,hL1,fun D hD=>?_,hbel.trans (hb1.mono S.size)⟩;rcases List.mem_cons.1 hD with rfl|hD
  ·exact hK1
  ·exact(hb1.block _ (Array.getElem?_eq_some_iff.1 (hDs D hD)).1).trans (hDs D hD)
 have hY:YR Tryz.prog C.E (w.heap.size+1) (RR C wE σE st go (w.heap.size+1) (w.heap.size :: Ds) (rec .ready none) T0) (RR C wE σE st sp (w.heap.size+1) (w.heap.size :: Ds) (rec .done (some (.exit id))) T0):=
  {fits:=fun h=>h.fits,after:=fun h=>h.after,afterx:=fun h=>h.after,fitsx:=fun h=>h.fits,round:=fun {pre X σ w} h hl=>by
    rw[hrec] at h ⊢;rw[<-hP];exact RR.round hL hz hlb h hl }
 obtain⟨us,hu,hcaps⟩:∃us:Array Value,(⟨T0,ds⟩:Act).eval (.tmp tf) = .func (.func 105) #[] us/\RepL σ (capD lp X d) us.toList:=by
  have:=jY S htf
  simpa [Rep] using this
 have fin:∀(st':LoopState) (pe:Option Code) (go':List (Nat×Nat)->Prop) (L:List (Nat×Nat)) (σ':Mem) (w3:World),RR C wE σE st go' (w.heap.size+1) (w.heap.size :: Ds) (rec st' pe) T0 L σ' w3->st'≠.busy->(go' L->(go L/\L=pcs dr d X\/sp L/\L <+: pcs dr d X)) ->
   ∃w4,(Instr.endLoop (w.heap.size+1)).run C.P w3 = .ok pe w4/\Q .normal { tmps:=T0,defers:={ target:=.collected w.heap.size,args:=#[] } :: ds } w4:=fun st' pe go' L σ' w3 h hst hL=>by
  obtain⟨q0,q1,q2,σ1,G3,q3,q4,q5,S3,q6,q7,q8⟩:=h;have he:=run_endLoop (P:=C.P) q6 (by rw[hrec];exact hst);have hpe:(rec st' pe).pending=pe:=by rw[hrec]
  rw[hpe] at he;obtain⟨o',he⟩:∃o',(Instr.endLoop (w.heap.size+1)).run C.P w3 = .ok pe (w3.putObj (w.heap.size+1) o'):=⟨_,he⟩;refine⟨_,he,?_⟩;have hD3:∀D∈w.heap.size :: Ds,(w3.putObj (w.heap.size+1) o').heap[D]?=some (.deferred (some [])):=fun D hD=>by
   refine(World.putObj_heap_other (fun e=>?_)).trans (q7 D hD);have:=q7 D hD;rw[e,q6] at this;cases this
  refine hQ L σ1 G3 _ w.heap.size rfl (hL q0) ((S3.putObj q6 rfl).act (fun _ _=>rfl) hz rfl) (hD3 _ (by simp)) (fun D hD=>hD3 D (by simp[hD])) (q8.trans (qG hlb S3.size)) q5 q4
 refine⟨w.heap.size+1,[{ target:=.collected w.heap.size,args:=#[] }],W1,{ target:=.fn (.func 105) us,args:=#[.func (.yield (w.heap.size+1)) #[] #[]] },W1,105,#[.func (.yield (w.heap.size+1)) #[] #[]]++us,W1,?_,?_,fun _ _=>trivial,?_,fun hh=>by simp[Wd,Fence.wide] at hh,?_⟩
 ·rw[<-hW1,hrec];exact run_enterLoop_outer _ _ _ _ _
 ·simp only[resolve,hu];simp[go_sem]
 ·have eg:=callfn (g:=105) Tryz.func105 rfl (by kernel_rfl);rw[hP];simp[invoke,go_sem,eg]
 ·refine Zo ?_;rw[hP];have hcall:=zbn hY hD hd g hR0 (us:=.func (.yield (w.heap.size+1)) #[] #[] :: us.toList) (by
   simp only[RepL];exact⟨_,_,rfl,by simp[Rep],hcaps⟩)
  have hus:(Value.func (.yield (w.heap.size+1)) #[] #[] :: us.toList).toArray = #[.func (.yield (w.heap.size+1)) #[] #[]]++us:=by
   apply Array.toList_inj.mp;simp
  rw[hus] at hcall;refine hcall.mono ?_;rintro e w3 ⟨⟨v,rfl⟩,σ',_,ho⟩;rcases ho with h|⟨t,ht,h⟩
  ·obtain⟨w4,h4,hq⟩:=fin .ready none go _ σ' w3 h (by simp) (fun hg=>.inl ⟨hg,rfl⟩);exact⟨none,w4,by rw[<-hP];exact h4,hq⟩
  ·obtain⟨w4,h4,hq⟩:=fin .done (some (.exit id)) sp _ σ' w3 h (by simp) (fun hg=>.inr ⟨hg,ht⟩);refine⟨some (.exit id),w4,by rw[<-hP];exact h4,wpIn_exit ?_⟩
   show(if id=id then _ else _)
   rw[if_pos rfl];exact hq
end
end Go.Enc
end
section
namespace Go.Enc
open Go.Proofs Go.Enc.Dg Go.Enc.Nu Go.Enc.Fl Go.RowKit
def boxT (L:List (Nat×Nat)):List T:=L.flatMap fun X=>[.d (.v (.int .u64 X.1)),.d (.v (.int .u64 X.2))]
def boxC (L:List (Nat×Nat)):List D:=L.flatMap fun X=>[.v (.int .u64 X.1),.v (.int .u64 X.2)]
theorem Q5 (L:List (Nat×Nat)):boxT L=(boxC L).map T.d:=by
 unfold boxT boxC
 induction L with
 |nil=>rfl
 |cons X L ih=>simp only[List.flatMap_cons,List.map_append,<-ih];rfl
theorem xL (L:List (Nat×Nat)):asDs (boxT L)=some (boxC L):=by rw[Q5,jX]
theorem qE (L:List (Nat×Nat)):(boxT L).length=2*L.length:=by
 unfold boxT
 induction L with
 |nil=>rfl
 |cons X L ih=>simp only[List.flatMap_cons,List.length_append,ih,List.length_cons,List.length_nil];omega
theorem kr (k:Nat)(L:List (Nat×Nat)):(boxT L).map (wU k)=boxT L:=by
 unfold boxT
 induction L with
 |nil=>rfl
 |cons X L ih=>simp only[List.flatMap_cons,List.map_append,ih];rfl
theorem zan (L:List (Nat×Nat))(X:Nat×Nat):boxT L++[.d (.v (.int .u64 X.1)),.d (.v (.int .u64 X.2))]=boxT (L++[X]):=by
 unfold boxT;simp
theorem wZ (k:Nat)(L:List (Nat×Nat))(X:Nat×Nat):List.map (wU k) (boxT L++[.d (.v (.int .u64 X.1)),.d (.v (.int .u64 X.2))])=boxT (L++[X]):=by
 rw[zan,kr]
theorem wV (L:List (Nat×Nat))(ks:List Nat):(boxT L).all (wG ks)=true:=by
 rw[Q5];simp[wG,T.ref]
section
variable {C:Ctx} {σ:Mem} {G:Gh} {s:St} {a:Act} {w:World} {ro:Option Nat} {n:Nat} {ops:Array Oper} {Q:Exit->Act->World->Prop} {c:Code}
theorem VK {id:Nat}(S1:St)(hd:kG C.n ops.toList=true)(hn:ye ops.toList=true)(S:Stands C σ G s a w)(h:ST C ops ops.toList s (fun s'=>Weak s' S1))
  (hk:∀σ' G' a' w',Stands C σ' G' S1 a' w'->Kept (dstL ops.toList) a a'->c.wpIn (Wd ro) n C.P Q a' w'):(Code.seq (.region id ops false) c).wpIn (Wd ro) n C.P Q a w:=by
 refine wpIn_seq (wpIn_mono (XG (Q:=QW S1) hd hn S h.ok) ?_);rintro e a' w' ⟨hq,hs⟩;cases e with
 |normal=>obtain⟨σ',G',s',hw,S'⟩:=hq;exact hk σ' G' a' w' (S'.weak hw) (hs rfl)
 |ret=>obtain⟨_,_,_,h,_⟩:=hq;exact h.elim
 |exit=>obtain⟨_,_,_,h,_⟩:=hq;exact h.elim
 |goto=>obtain⟨_,_,_,h,_⟩:=hq;exact h.elim
 |panic=>exact hq.elim
 |outgrown=>exact hq.elim
theorem Zk {id:Nat}(S1:St)(hm:C.P.follows .mixedOrders=true)(hok:qy [] ops=true)(hd:kG C.n ops.toList=true)(hn:ye ops.toList=true)(S:Stands C σ G s a w)(h:ST C ops ops.toList s (fun s'=>Weak s' S1))
  (hk:∀σ' G' a' w',Stands C σ' G' S1 a' w'->Kept (dstL ops.toList) a a'->c.wpIn (Wd ro) n C.P Q a' w'):(Code.seq (.region id ops true) c).wpIn (Wd ro) n C.P Q a w:=by
 refine wpIn_seq (wpIn_mono (zda (D:=[]) (Q:=QW S1) rfl hm hok hd hn (fun _ h=>by cases h) S h.ok) ?_);rintro e a' w' ⟨hq,hs⟩;cases e with
 |normal=>obtain⟨σ',G',s',hw,S'⟩:=hq;exact hk σ' G' a' w' (S'.weak hw) (hs rfl)
 |ret=>obtain⟨_,_,_,h,_⟩:=hq;exact h.elim
 |exit=>obtain⟨_,_,_,h,_⟩:=hq;exact h.elim
 |goto=>obtain⟨_,_,_,h,_⟩:=hq;exact h.elim
 |panic=>exact hq.elim
 |outgrown=>exact hq.elim
theorem Kz {id:Nat}(S1:St)(hd:kG C.n ops.toList=true)(hn:ye ops.toList=true)(S:Stands C σ G s a w)(h:ST C ops ops.toList s (fun s'=>Weak s' S1)) :
  (Code.region id ops false).wpIn (Wd ro) n C.P (fun e a' w'=>e = .normal/\∃σ' G',Stands C σ' G' S1 a' w'/\Kept (dstL ops.toList) a a') a w:=by
 refine wpIn_mono (XG (Q:=QW S1) hd hn S h.ok) ?_;rintro e a' w' ⟨hq,hs⟩;cases e with
 |normal=>obtain⟨σ',G',s',hw,S'⟩:=hq;exact⟨rfl,σ',G',S'.weak hw,hs rfl⟩
 |ret=>obtain⟨_,_,_,h,_⟩:=hq;exact h.elim
 |exit=>obtain⟨_,_,_,h,_⟩:=hq;exact h.elim
 |goto=>obtain⟨_,_,_,h,_⟩:=hq;exact h.elim
 |panic=>exact hq.elim
 |outgrown=>exact hq.elim
theorem Zs (S:Stands C σ G s a w){t:Nat}{b:Bool}(h:s.t t = .d (.v (.bool b))):a.eval (.tmp t) = .bool b:=by
 have:=jY S (t:=t) (x:=.v (.bool b)) h
 simpa [Rep] using this
end
section
variable {lp:List Nat} {X0:Nat×Nat} {d:Nat} {stop nn:Int}
abbrev fnD (lp:List Nat)(X:Nat×Nat)(d:Nat):D:=.fn 105 (capD lp X d)
abbrev rowB (L:List (Nat×Nat)):Obj:=⟨some (32,2,true),boxT L⟩
abbrev st1 (lp:List Nat)(X0:Nat×Nat)(d:Nat)(stop nn:Int)(L:List (Nat×Nat)):St:=St.of [(7,.ptr 7 0),(12,.d (fnD lp X0 d)),(14,.d (intD nn)),(17,.ptr 17 0),(18,.ptr 18 0),(48,.d (fnD lp X0 d))]
 [(7,⟨none,[.d (intD stop)]⟩),(17,⟨none,[.gs 54]⟩),(18,⟨none,[.d (.v (.slice none 0 0))]⟩),(54,rowB L)]
abbrev sa1 (lp:List Nat)(X0:Nat×Nat)(d:Nat)(stop nn:Int)(L:List (Nat×Nat))(X:Nat×Nat):St:=St.of [(7,.ptr 7 0),(12,.d (fnD lp X0 d)),(14,.d (intD nn)),(17,.ptr 17 0),(18,.ptr 18 0),(19,.ptr 19 0),(48,.d (fnD lp X0 d))]
 [(7,⟨none,[.d (intD stop)]⟩),(17,⟨none,[.gs 54]⟩),(18,⟨none,[.d (.v (.slice none 0 0))]⟩),(19,⟨none,[.d (flD X.1),.d (flD X.2)]⟩),(54,rowB L)]
abbrev sb1 (lp:List Nat)(X0:Nat×Nat)(d:Nat)(stop nn:Int)(L:List (Nat×Nat)):St:=St.of [(7,.ptr 7 0),(12,.d (fnD lp X0 d)),(14,.d (intD nn)),(17,.ptr 17 0),(18,.ptr 18 0),(48,.d (fnD lp X0 d)),(57,.d (.v (.bool false)))]
 [(7,⟨none,[.d (intD stop)]⟩),(17,⟨none,[.gs 54]⟩),(18,⟨none,[.d (.v (.slice none 0 0))]⟩),(54,rowB L)]
theorem zcc {C:Ctx}(hP:C.P=Tryz.prog)(hn:C.n=77)(hk:C.kb=0){c x y ac bd:Code}(hcode:Tryz.f26.body=some c)(hx:(cutC 7 c).2 = .seq (.seq x (.block 2 (.rangeFunc (.tmp 48) #[49] ac bd))) y) :
  LoopOk C 49 ac bd 2 (st1 lp X0 d stop nn) (sa1 lp X0 d stop nn) (fun _=>True) (fun _=>False) [19] [50,51,52,53,54,55,56,57]:=by
 simp only[Tryz.f26,Option.some.injEq] at hcode;subst hcode;simp only[cutC,Code.seq.injEq,Code.block.injEq,Code.rangeFunc.injEq,true_and,and_true] at hx;obtain⟨⟨rfl,rfl,rfl⟩,rfl⟩:=hx;obtain⟨P,E,σ0,w0,base,n,kb,df,G0⟩:=C;simp only at hP hn hk;subst hP hn hk;refine⟨fun {l pre X σ G a w} S=>?_,fun {l pre X σ G a w} hlen _ S=>?_,fun pre i h=>?_,by show 49<77;decide⟩
 ·have S:Stands ⟨Tryz.prog,E,σ,w,base,77,0,[],G0⟩ σ G _ a w:=S;refine wpIn_mono (Kz (C:=⟨Tryz.prog,E,σ,w,base,77,0,[],G0⟩) (sa1 lp X0 d stop nn pre X) (by kernel_rfl) (by kernel_rfl) S ?_) (fun e a' w' ⟨he,σ',G',S',hs⟩=>⟨he,σ',G',S',hs⟩);simp only[List.toList_toArray];simp -implicitDefEqProofs only[go_sem];refine we ?_ ?_ (by simp[wv,wV,wG,T.ref])<;>simp -implicitDefEqProofs only[go_sem]
 ·have S:Stands ⟨Tryz.prog,E,σ,w,base,77,0,[],G0⟩ σ G _ a w:=S;have hmax:=mxE;refine wpIn_block ?_;refine Zk (C:=⟨Tryz.prog,E,σ,w,base,77,0,[],G0⟩) (sa1 lp X0 d stop nn (pre++[X]) X) (by kernel_rfl) (by kernel_rfl) (by kernel_rfl) (by kernel_rfl) S ?_ (fun σ1 G1 a1 w1 S1 h1=>?_)
  ·simp only[List.toList_toArray];simp -implicitDefEqProofs only[go_sem];refine cI (jN _ X) ?_;simp -implicitDefEqProofs only[go_sem,qE,wZ];refine⟨by omega,by omega,we ?_ ?_ (by simp[wv,wV,wG,T.ref])⟩<;>simp -implicitDefEqProofs only[go_sem,wZ]
  ·have hl2:(pre++[X]).length=pre.length+1:=by simp
   have e1:((((pre++[X]).length:Nat):Int)==1000)=false:=beqF (by omega);refine VK (C:=⟨Tryz.prog,E,σ,w,base,77,0,[],G0⟩) (sb1 lp X0 d stop nn (pre++[X])) (by kernel_rfl) (by kernel_rfl) S1 ?_ (fun σ2 G2 a2 w2 S2 h2=>?_)
   ·simp only[List.toList_toArray];simp -implicitDefEqProofs only[go_sem,qE,Nat.mul_div_cancel_left,e1];refine we ?_ ?_ (by simp[wv,wV,wG,T.ref])<;>simp -implicitDefEqProofs only[go_sem]
   ·refine wpIn_cond_false (Zs S2 (by simp -implicitDefEqProofs only[go_sem])) (wpIn_skip ?_);refine⟨.inl ⟨rfl,trivial⟩,σ2,G2,S2.weak (we ?_ ?_ (by simp[wv,wV,wG,T.ref])),(h1.trans h2).more (by decide)⟩<;>simp -implicitDefEqProofs only[go_sem]
 ·simp only[List.mem_cons,List.not_mem_nil,or_false] at h;rcases h with rfl|rfl|rfl|rfl|rfl|rfl|rfl|rfl|rfl|rfl<;>simp -implicitDefEqProofs only[go_sem]
abbrev st2 (lp:List Nat)(X0:Nat×Nat)(d:Nat)(stop nn:Int)(A L:List (Nat×Nat)):St:=St.of [(7,.ptr 7 0),(14,.d (intD nn)),(17,.ptr 17 0),(18,.ptr 18 0),(58,.d (fnD lp X0 d))]
 [(7,⟨none,[.d (intD stop)]⟩),(17,⟨none,[.gs 54]⟩),(18,⟨none,[.gs 64]⟩),(54,rowB A),(64,rowB L)]
abbrev sa2 (lp:List Nat)(X0:Nat×Nat)(d:Nat)(stop nn:Int)(A L:List (Nat×Nat))(X:Nat×Nat):St:=St.of [(7,.ptr 7 0),(14,.d (intD nn)),(17,.ptr 17 0),(18,.ptr 18 0),(20,.ptr 20 0),(58,.d (fnD lp X0 d))]
 [(7,⟨none,[.d (intD stop)]⟩),(17,⟨none,[.gs 54]⟩),(18,⟨none,[.gs 64]⟩),(20,⟨none,[.d (flD X.1),.d (flD X.2)]⟩),(54,rowB A),(64,rowB L)]
abbrev sb2 (lp:List Nat)(X0:Nat×Nat)(d:Nat)(stop nn:Int)(A L:List (Nat×Nat))(b:Bool):St:=St.of [(7,.ptr 7 0),(14,.d (intD nn)),(17,.ptr 17 0),(18,.ptr 18 0),(58,.d (fnD lp X0 d)),(73,.d (.v (.bool b)))]
 [(7,⟨none,[.d (intD stop)]⟩),(17,⟨none,[.gs 54]⟩),(18,⟨none,[.gs 64]⟩),(54,rowB A),(64,rowB L)]
def goS (stop:Int)(L:List (Nat×Nat)):Prop:=stop<=0\/(L.length:Int)<stop
def spS (stop:Int)(L:List (Nat×Nat)):Prop:=1<=stop/\(L.length:Int)=stop
theorem zcb {C:Ctx}{A:List (Nat×Nat)}(hP:C.P=Tryz.prog)(hn:C.n=77)(hk:C.kb=0){c x y z ac bd:Code}(hcode:Tryz.f26.body=some c)(hx:(cutC 7 c).2 = .seq x (.seq (.seq y (.block 4 (.rangeFunc (.tmp 58) #[59] ac bd))) z)) :
  LoopOk C 59 ac bd 4 (st2 lp X0 d stop nn A) (sa2 lp X0 d stop nn A) (goS stop) (spS stop) [20] [60,61,62,63,64,65,66,67,68,69,70,71,72,73]:=by
 simp only[Tryz.f26,Option.some.injEq] at hcode;subst hcode;simp only[cutC,Code.seq.injEq,Code.block.injEq,Code.rangeFunc.injEq,true_and,and_true] at hx;obtain⟨rfl,⟨rfl,rfl,rfl⟩,rfl⟩:=hx;obtain⟨P,E,σ0,w0,base,n,kb,df,G0⟩:=C;simp only at hP hn hk;subst hP hn hk;refine⟨fun {l pre X σ G a w} S=>?_,fun {l pre X σ G a w} hlen hgo S=>?_,fun pre i h=>?_,by show 59<77;decide⟩
 ·have S:Stands ⟨Tryz.prog,E,σ,w,base,77,0,[],G0⟩ σ G _ a w:=S;refine wpIn_mono (Kz (C:=⟨Tryz.prog,E,σ,w,base,77,0,[],G0⟩) (sa2 lp X0 d stop nn A pre X) (by kernel_rfl) (by kernel_rfl) S ?_) (fun e a' w' ⟨he,σ',G',S',hs⟩=>⟨he,σ',G',S',hs⟩);simp only[List.toList_toArray];simp -implicitDefEqProofs only[go_sem];refine we ?_ ?_ (by simp[wv,wV,wG,T.ref])<;>simp -implicitDefEqProofs only[go_sem]
 ·have S:Stands ⟨Tryz.prog,E,σ,w,base,77,0,[],G0⟩ σ G _ a w:=S;have hmax:=mxE;refine wpIn_block ?_;refine Zk (C:=⟨Tryz.prog,E,σ,w,base,77,0,[],G0⟩) (sa2 lp X0 d stop nn A (pre++[X]) X) (by kernel_rfl) (by kernel_rfl) (by kernel_rfl) (by kernel_rfl) S ?_ (fun σ1 G1 a1 w1 S1 h1=>?_)
  ·simp only[List.toList_toArray];simp -implicitDefEqProofs only[go_sem];refine cI (jN _ X) ?_;simp -implicitDefEqProofs only[go_sem,qE,wZ,kr];refine⟨by omega,by omega,we ?_ ?_ (by simp[wv,wV,wG,T.ref])⟩<;>simp -implicitDefEqProofs only[go_sem,wZ,kr]
  ·have hl2:(pre++[X]).length=pre.length+1:=by simp
   have e1:=tV (beqF (show ¬((((pre++[X]).length:Nat):Int)=1000) by omega));by_cases hs:(((pre++[X]).length:Nat):Int)=stop
   ·have e2:=tB (beqT hs);refine VK (C:=⟨Tryz.prog,E,σ,w,base,77,0,[],G0⟩) (sb2 lp X0 d stop nn A (pre++[X]) true) (by kernel_rfl) (by kernel_rfl) S1 ?_ (fun σ2 G2 a2 w2 S2 h2=>?_)
    ·simp only[List.toList_toArray];simp -implicitDefEqProofs only[go_sem,qE,Nat.mul_div_cancel_left,e1,e2];refine we ?_ ?_ (by simp[wv,wV,wG,T.ref])<;>simp -implicitDefEqProofs only[go_sem]
    ·refine wpIn_cond_true (Zs S2 (by simp -implicitDefEqProofs only[go_sem])) (wpIn_exit ?_)
     show Exit.inBlock 5 _ (.exit 4) a2 w2
     refine⟨.inr ⟨rfl,by omega,hs⟩,σ2,G2,S2.weak (we ?_ ?_ (by simp[wv,wV,wG,T.ref])),(h1.trans h2).more (by decide)⟩<;>simp -implicitDefEqProofs only[go_sem]
   ·have e2:=tV (beqF hs);have hg:goS stop (pre++[X]):=by
     rcases hgo with h|h
     ·exact .inl h
     ·exact .inr (by omega)
    refine VK (C:=⟨Tryz.prog,E,σ,w,base,77,0,[],G0⟩) (sb2 lp X0 d stop nn A (pre++[X]) false) (by kernel_rfl) (by kernel_rfl) S1 ?_ (fun σ2 G2 a2 w2 S2 h2=>?_)
    ·simp only[List.toList_toArray];simp -implicitDefEqProofs only[go_sem,qE,Nat.mul_div_cancel_left,e1,e2];refine we ?_ ?_ (by simp[wv,wV,wG,T.ref])<;>simp -implicitDefEqProofs only[go_sem]
    ·refine wpIn_cond_false (Zs S2 (by simp -implicitDefEqProofs only[go_sem])) (wpIn_skip ?_);refine⟨.inl ⟨rfl,hg⟩,σ2,G2,S2.weak (we ?_ ?_ (by simp[wv,wV,wG,T.ref])),(h1.trans h2).more (by decide)⟩<;>simp -implicitDefEqProofs only[go_sem]
 ·simp only[List.mem_cons,List.not_mem_nil,or_false] at h;rcases h with rfl|rfl|rfl|rfl|rfl|rfl|rfl|rfl|rfl|rfl|rfl|rfl|rfl|rfl|rfl|rfl<;>simp -implicitDefEqProofs only[go_sem]
end
end Go.Enc
end
section
namespace Go.Enc
open Go.RowKit
theorem Stands.fits {C:Ctx}{σ:Mem}{G:Gh}{s:St}{a:Act}{w:World}(S:Stands C σ G s a w):Fits C.E σ w:=
 ⟨S.inv,fun g u hg=>S.le _ _ _ (S.glob g u hg),fun u hu=>Rep.mono S.le _ _ (S.tab u hu),S.hard,fun g t x hg=>(S.gp g t x hg).2.of_eq (S.bel.block _ (S.gp g t x hg).1)⟩
def Hc (P:Program)(E:Nat->Option Value)(f:FuncId)(args:List D)(r:D):Prop:=
 ∀(σ σL:Mem) (w:World) (us:List Value),Fits E σ w->Fits E σL w->σ.le σL->RepL σL args us ->
  ∀(o:Oper) (a:Act) (next:Act->World->Prop) (Q:Exit->Act->World->Prop),(∀u w',After σ w (.data r) u w'->next (a.put o.dst u) w') ->
   o.upon P a next Q ((callFunc f us.toArray).run P w)
theorem Kc {P:Program}{E:Nat->Option Value}{f:FuncId}{fn:Func}{c:Code}{args:List D}{r:D}(hf:P.funcs[f]?=some fn)(hb:fn.body=some c)(hname:(fn.name == "runtime.NumGoroutine")=false)
  (h:∀(σ σL:Mem) (w:World) (us:List Value),Fits E σ w->Fits E σL w->σ.le σL->RepL σL args us->Calls P f us.toArray w fun e w'=>∃u,e = .returned u/\After σ w (.data r) u w'):Hc P E f args r:=by
 intro σ σL w us hF hL hle hargs o a next Q hnext
 have hcall:(callFunc f us.toArray).run P w = .ok (.enter f us.toArray) w:=by
  have hne:¬(fn.name = "runtime.NumGoroutine"):=by simpa using hname
  simp[callFunc,hf,hne,hb]
 rw[hcall,Oper.upon_enter];refine(h σ σL w us hF hL hle hargs).mono ?_;rintro e w' ⟨u,rfl,hA⟩;exact hnext u w' hA
theorem UF {σ:Mem}{G:Gh}:∀ {ds:List D} {us:List Value},us.length=ds.length->(∀(i:Nat) (c:T) (u:Value),(ds.map T.d)[i]?=some c->us[i]?=some u->RepT σ G c u)->RepL σ ds us
 |[],[],_,_=>rfl
 |d :: ds,u :: us,hl,h=>by
  simp only[RepL];exact⟨u,us,rfl,h 0 (.d d) u rfl rfl,UF (by simpa using hl) (fun i c v hc hv=>h (i+1) c v (by simpa using hc) (by simpa using hv))⟩
 |[],_ :: _,hl,_=>by simp at hl
 |_ :: _,[],hl,_=>by simp at hl
section
variable {C:Ctx} {s:St} {σ:Mem} {G:Gh} {a:Act} {w:World}
theorem lend {g:FuncId}{k d size:Nat}{e:TypeId}{nn:Bool}{ds rest:List D}{r:D}(hL:Hc C.P C.E g (.sl size ds :: rest) r)(hk:s.h k=some ⟨some (e,size,nn),ds.map T.d⟩) :
  xq C g (.gs k :: rest.map T.d) (some d) s (s.put (some d) (.d r)):=by
 intro σ G a w us S hl hr hd o next Q ho hnext
 obtain⟨u0,ur,rfl⟩:∃u0 ur,us=u0 :: ur:=by
  cases us with
  |nil=>simp at hl
  |cons u0 ur=>exact⟨_,_,rfl⟩
 have r0:=hr 0 _ u0 rfl rfl;have hlk:∀k',(T.gs k).ref=some k'->s.h k'≠none:=fun k' e=>by
  simp only[T.ref,Option.some.injEq] at e;subst e;rw[hk];simp
 have S1:=S.now.put (x:=.gs k) (u:=u0) (dst:=some d) r0 hlk hd;obtain⟨σL,SL⟩:=S1.comm (k:=k) (ds:=ds) (o:=⟨some (e,size,nn),ds.map T.d⟩) hk (jX ds);have hlt:d<a.tmps.size:=by rw[S.siz];exact hd d rfl
 have h0:Rep σL (.sl size ds) u0:=by
  have h1:=SL.slot d;have h2:(a.put (some d) u0).tmps.getD d undef=u0:=by simp[Act.put,hlt]
  rw[h2] at h1
  simpa [St.comm,St.put,wq,jM,RepT] using h1
 have hrest:RepL σL rest ur:=RepL.mono SL.le _ _ (UF (G:=G) (by simpa using hl) (fun i c v hc hv=>hr (i+1) c v (by simpa using hc) (by simpa using hv)));refine hL σ σL w (u0 :: ur) S.fits SL.fits SL.le (by simp only[RepL];exact⟨_,_,rfl,h0,hrest⟩) o a next Q (fun u w' hA=>?_)
 obtain⟨σ',a1,a2,a3,a3',a4,a5⟩:=hA;rw[ho];exact hnext σ' _ _ _ ((S.after a1 a2 a3 a3' a4).put (x:=.d r) (u:=u) a5 (by simp[T.ref]) hd)
def QQ:D->Bool
 |.v _=>true
 |.any=>true
 |_=>false
def Wp:T->Bool
 |.d x=>QQ x
 |.hid x=>QQ x
 |.tp _ x=>QQ x
 |_=>true
theorem RepT.free {σ σ':Mem}{G:Gh}{c:T}{u:Value}(h:Wp c=true)(hr:RepT σ G c u):RepT σ' G c u:=by
 cases c with
 |d x=>
  cases x<;>simp only[Wp,QQ,Bool.false_eq_true] at h<;>exact hr
 |hid x=>
  cases x<;>simp only[Wp,QQ,Bool.false_eq_true] at h<;>exact hr
 |tp k x=>
  cases x<;>simp only[Wp,QQ,Bool.false_eq_true] at h<;>exact hr
 |_=>exact hr
theorem RepTU.free {σ σ':Mem}{G:Gh}:∀ {cs:List T} {us:List Value},cs.all Wp=true->RepTU σ G cs us->RepTU σ' G cs us
 |[],_,_,h=>h
 |c :: cs,_,ha,⟨u,r,h1,h0,h2,h3⟩=>by
  simp only[List.all_cons,Bool.and_eq_true] at ha;exact⟨u,r,h1,h0,h2.free ha.1,h3.free ha.2⟩
def St.free (s:St):St:={ s with t:=fun i=>if Wp (s.t i) then s.t i else .d .any }
theorem Stands.forget (S:Stands C σ G s a w){τ:Mem}(F:Fits C.E τ C.w0)(hle:τ.le C.σ0)(hb:C.base=C.w0.heap.size)(hfr:∀k o,s.h k=some o->o.cells.all Wp=true) :
  Stands { C with σ0:=τ } (fun b o=>if b<C.base then τ b o else σ b o) G s.free a w:=by
 have hsub:∀b o u,(if b<C.base then τ b o else σ b o)=some u->σ b o=some u:=fun b o u h=>by
  split at h
  ·exact S.le _ _ _ (hle _ _ _ h)
  ·exact h
 exact { S with
  glob:=F.glob
  tab:=F.tab
  le:=fun b o u h=>by
   show(if b<C.base then τ b o else σ b o)=some u
   rw[if_pos (by rw[hb];exact wT (F.inv _ _ _ h))];exact h
  old:=fun b o h=>if_pos h
  inv:=fun b o u h=>S.inv b o u (hsub b o u h)
  hard:=fun b o u h he=>S.hard b o u (hsub b o u h) he
  slot:=fun i=>by
   simp only[St.free];split
   ·rename_i h;exact(S.slot i).free h
   ·simp[RepT,Rep]
  live:=fun i k hk=>by
   simp only[St.free] at hk;split at hk
   ·exact S.live i k hk
   ·simp[T.ref] at hk
  obj:=fun k o h=>by
   have hO:=S.obj k o h;have hf:=hfr k o h;unfold ObjIs at hO ⊢;split at hO
   ·obtain⟨b,us,ty,h1,h2,h3,h4,h5⟩:=hO;exact⟨b,us,ty,h1,h2,h3,h4.free hf,h5⟩
   ·obtain⟨n,us,h1,h2,h3,h4⟩:=hO;exact⟨n,us,h1,h2.free hf,h3,h4⟩
  own:=fun k o b h e i=>by
   show(if b<C.base then τ b i else σ b i)=none
   cases hx:(if b<C.base then τ b i else σ b i) with
   |none=>rfl
   |some u=>
    have:=S.own k o b h e i;rw[hsub b i u hx] at this;cases this }
end
theorem YK {n:Nat}:∀(k:Nat) (c:Code),jG n c=true->jG n (cutC k c).2=true
 |0,c,h=>by cases c<;>exact h
 |k+1,c,h=>by
  cases c with
  |seq x y=>
   simp only[jG,Bool.and_eq_true] at h;exact YK k y h.2
  |_=>exact h
theorem zfM {P:Program}{E:Nat->Option Value}{f:FuncId}{args:List D}{e:TypeId}{size:Nat}{nn:Bool}(h:DCall P E f args (.data (.v (.slice none 0 0)))):DCall P E f args (.own e size nn []):=
 fun σ w us hF ha o a next Q hn=>h σ w us hF ha o a next Q fun u w' ⟨σ',a1,a2,a3,a4,a5,a6⟩=>hn u w' ⟨σ',a1,a2,a3,a4,a5,by
  simp only[zF,Rep] at a6;subst a6;exact⟨0,[],World.ownsRow_nil w' _ e size,rfl,fun b hb=>by simp[Value.ownBlock] at hb,fun _ _=>rfl⟩⟩
theorem zcQ {P:Program}{E:Nat->Option Value}{f:FuncId}{args:List D}{e:TypeId}{size:Nat}{cells:List D}(hc:cells≠[])(h:DCall P E f args (.own e size false cells)):DCall P E f args (.own e size true cells):=
 fun σ w us hF ha o a next Q hn=>h σ w us hF ha o a next Q fun u w' ⟨σ',a1,a2,a3,a4,a5,n,us',b1,b2,b3,_⟩=>hn u w' ⟨σ',a1,a2,a3,a4,a5,n,us',b1,b2,b3,fun _ h=>absurd h hc⟩
theorem Jl {P:Program}{E:Nat->Option Value}{f:FuncId}{fn:Func}{c:Code}{args:List D}{r:Res}(hf:P.funcs[f]?=some fn)(hb:fn.body=some c)(hname:(fn.name == "runtime.NumGoroutine")=false)
  {n:Nat} (hn:fn.ntmps=n) (ha:args.length<=n) {rs:List ResultVar} (hrs:fn.results.toList=rs)
  (h:∀C:Ctx,C.P=P->C.E=E->C.n=n->C.kb=0->DWp C c (Post C rs r) (St.init args)):DCall P E f args r:=by
 subst hrs;intro σ w us hF hargs o a next Q hnext
 have hcall:(callFunc f us.toArray).run P w = .ok (.enter f us.toArray) w:=by
  have hne:¬(fn.name = "runtime.NumGoroutine"):=by simpa using hname
  simp[callFunc,hf,hne,hb]
 rw[hcall,Oper.upon_enter];have S0:=j8 (P:=P) (nt:=fn.ntmps) (n:=n) hF hargs hn ha;obtain⟨C,hC⟩:∃C:Ctx,C={ P:=P,E:=E,σ0:=σ,w0:=w,base:=w.heap.size,n:=n,kb:=0,df:=[] }:=⟨_,rfl⟩;rw[<-hC] at S0;have c1:C.P=P:=by rw[hC]
 have c2:C.E=E:=by rw[hC]
 have c3:C.n=n:=by rw[hC]
 have c4:C.kb=0:=by rw[hC]
 refine calls_of_wp hf hb ?_;have hw:=h C c1 c2 c3 c4 _ _ _ _ S0;rw[c1] at hw;refine wp_mono hw fun e a2 w2 h'=>?_
 have fin:(∃σ' G' s',Fin C fn.results.toList s' r/\Stands C σ' G' s' a2 w2)->a2.defers=[]/\∃v,(results fn a2.tmps).run C.P w2 = .ok v w2/\next (a.put o.dst v) w2:=fun ⟨σ',G',s',h1,S'⟩=>by
  obtain⟨u,h2,h3⟩:=Fin.sound S' rfl h1 (by rw[hC]) (by rw[hC];exact hF.inv) (fun b u hE=>by rw[hC];exact wT (hF.inv _ _ _ (hF.glob b u (by rw[<-c2];exact hE))));have h4:=S'.dfr;rw[hC] at h4 h3;exact⟨h4,u,by rw[hC] at h2 ⊢;exact h2,hnext u w2 h3⟩
 cases e with
 |normal=>rw[<-c1];exact fin h'
 |ret=>rw[<-c1];exact fin h'
 |exit id=>obtain⟨_,_,_,h1,_⟩:=h';exact h1.elim
 |goto l=>obtain⟨_,_,_,h1,_⟩:=h';exact h1.elim
 |panic ch=>exact h'.elim
 |outgrown=>exact h'.elim
theorem xD {C:Ctx}{c:Code}{s S1:St}{Q:Exit->St->Prop}(k:Nat)(hf:jG C.n c=true)(h1:DC C (cutC k c).1 (QW S1) s)(h2:DWp C (cutC k c).2 Q S1):DWp C c Q s:=
 fun σ G a w S=>x5 k c hf S h1 (fun _ σ' G' a' w' hw S'=>h2 σ' G' a' w' (S'.weak hw)) qv
theorem kM {C:Ctx}{c:Code}{s:St}{Q:Exit->St->Prop}(hf:jG C.n c=true)(h:DC C c Q s):DWp C c Q s:=jV c hf h.ok
end Go.Enc
end
