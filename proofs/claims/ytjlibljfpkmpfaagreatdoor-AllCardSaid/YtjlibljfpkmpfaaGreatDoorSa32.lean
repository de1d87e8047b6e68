/-
  Keys renamed; states that lead to others; loops over such states; calls of functions that are handed pointers to local blocks, by their bodies.
-/
import Derived.Test.YtjlibljfpkmpfaaGreatDoorSa28
set_option maxRecDepth 100000
set_option linter.unusedSimpArgs false
set_option linter.unusedVariables false
section
namespace Go.Enc
open Go.RowKit
def renT (k k':Nat)(c:T):T:=match c with
 |.d x=>.d x
 |.ptr j o=>.ptr (if j=k then k' else j) o
 |.gs j=>.gs (if j=k then k' else j)
 |.ipr t j=>.ipr t (if j=k then k' else j)
 |.vw j o n=>.vw (if j=k then k' else j) o n
 |.hid x=>.hid x
 |.tp j x=>.tp (if j=k then k' else j) x
def Obj.ren (k k':Nat)(o:Obj):Obj:={ o with cells:=o.cells.map (renT k k') }
def St.ren (s:St)(k k':Nat):St:={ t:=fun i=>renT k k' (s.t i),h:=fun i=>if i=k' then (s.h k).map (Obj.ren k k') else if i=k then none else (s.h i).map (Obj.ren k k') }
section
variable {C:Ctx} {σ:Mem} {G:Gh} {s:St} {a:Act} {w:World}
theorem Z4 {k k' j:Nat}{c:T}(h:(renT k k' c).ref=some j):∃i,c.ref=some i/\j=if i=k then k' else i:=by
 cases c<;>simp only[renT,T.ref,Option.some.injEq,reduceCtorEq] at h
 all_goals exact⟨_,rfl,h.symm⟩
theorem RepT.ren {k k':Nat}{c:T}{u:Value}(hk:∀j,c.ref=some j->j≠k')(h:RepT σ G c u):RepT σ (upd G k' (G k)) (renT k k' c) u:=by
 have key:∀j,j≠k'->upd G k' (G k) (if j=k then k' else j)=G j:=fun j hj=>by
  by_cases e:j=k
  ·rw[if_pos e,wq,e]
  ·rw[if_neg e,wD _ _ hj]
 cases c with
 |d x=>exact h
 |ptr j o=>simp only[renT,RepT] at h ⊢;rw[key j (hk j rfl)];exact h
 |gs j=>simp only[renT,RepT] at h ⊢;rw[key j (hk j rfl)];exact h
 |ipr t j=>simp only[renT,RepT] at h ⊢;rw[key j (hk j rfl)];exact h
 |vw j o n=>simp only[renT,RepT] at h ⊢;rw[key j (hk j rfl)];exact h
 |hid x=>exact h
 |tp j x=>simp only[renT,RepT] at h ⊢;rw[key j (hk j rfl)];exact h
theorem RepTU.ren {k k':Nat}:∀ {cs:List T} {us:List Value},(∀c∈cs,∀j,c.ref=some j->j≠k')->RepTU σ G cs us->RepTU σ (upd G k' (G k)) (cs.map (renT k k')) us
 |[],_,_,h=>h
 |c :: _,_,hk,⟨u,r,h1,h0,h2,h3⟩=>⟨u,r,h1,h0,h2.ren (hk c (by simp)),RepTU.ren (fun c hc=>hk c (by simp[hc])) h3⟩
theorem Stands.ren (S:Stands C σ G s a w){k k':Nat}(hb:C.kb<=k')(hf:s.h k'=none):Stands C σ (upd G k' (G k)) (s.ren k k') a w:=by
 have hlive:∀j,s.h j≠none->j≠k':=fun j hj e=>hj (by rw[e];exact hf)
 have inv:∀j o,(s.ren k k').h j=some o->∃i o',s.h i=some o'/\o=o'.ren k k'/\i≠k'/\(upd G k' (G k)) j=G i/\((j=k'/\i=k)\/(j=i/\j≠k'/\j≠k)):=by
  intro j o h;simp only[St.ren] at h;split at h
  ·rename_i e;obtain⟨o',h1,h2⟩:=Option.map_eq_some_iff.1 h;exact⟨k,o',h1,h2.symm,hlive k (by rw[h1];simp),by rw[e,wq],.inl ⟨e,rfl⟩⟩
  ·rename_i e;split at h
   ·cases h
   ·rename_i e2;obtain⟨o',h1,h2⟩:=Option.map_eq_some_iff.1 h;exact⟨j,o',h1,h2.symm,e,wD _ _ e,.inr ⟨rfl,e,e2⟩⟩
 have fwd:∀j,s.h j≠none->(s.ren k k').h (if j=k then k' else j)≠none:=by
  intro j hj;simp only[St.ren];by_cases e:j=k
  ·rw[if_pos e,if_pos rfl,<-e];cases h:s.h j with
   |none=>exact absurd h hj
   |some o=>simp
  ·rw[if_neg e,if_neg (hlive j hj),if_neg e];cases h:s.h j with
   |none=>exact absurd h hj
   |some o=>simp
 have hfin:∃N,∀j,N<=j->(s.ren k k').h j=none:=by
  obtain⟨N,hN⟩:=S.fin;exact⟨max N (k'+1),fun j hj=>by
   simp only[St.ren];rw[if_neg (by omega),hN j (by omega)];split<;>rfl⟩
 refine { S with fin:=hfin,slot:=fun i=>(S.slot i).ren (fun j hj=>hlive j (S.live i j hj)),live:=fun i j hj=>?_,obj:=fun j o h=>?_,deep:=fun j o h c hc j' hj'=>?_,sep:=fun j j' o o' b h h' g g'=>?_,own:=fun j o b h g=>?_,keep:=fun j hj=>?_ }
 ·obtain⟨i',h1,rfl⟩:=Z4 hj;exact fwd i' (S.live i i' h1)
 ·obtain⟨i,o',h1,rfl,h3,h4,_⟩:=inv j o h;have H:=S.obj i o' h1;unfold ObjIs at H ⊢;simp only[Obj.ren];rw[h4];have hd:∀c∈o'.cells,∀j,c.ref=some j->j≠k':=fun c hc j hj=>hlive j (S.deep i o' h1 c hc j hj)
  split at H
  ·obtain⟨b,us,ty,g1,g2,g3,g4,g5⟩:=H;exact⟨b,us,ty,g1,g2,g3,g4.ren hd,g5⟩
  ·obtain⟨n,us,g1,g2,g3,g4⟩:=H;exact⟨n,us,g1,g2.ren hd,g3,fun q1 q2=>g4 q1 (by simpa using q2)⟩
 ·obtain⟨i,o',h1,rfl,h3,h4,_⟩:=inv j o h;simp only[Obj.ren,List.mem_map] at hc;obtain⟨c',hc',rfl⟩:=hc;obtain⟨i',g1,rfl⟩:=Z4 hj';exact fwd i' (S.deep i o' h1 c' hc' i' g1)
 ·obtain⟨i,o1,h1,_,h3,h4,e1⟩:=inv j o h;obtain⟨i',o2,h1',_,h3',h4',e2⟩:=inv j' o' h';rw[h4] at g;rw[h4'] at g';have e:=S.sep i i' o1 o2 b h1 h1' g g';omega
 ·obtain⟨i,o1,h1,_,h3,h4,e1⟩:=inv j o h;rw[h4] at g;exact S.own i o1 b h1 g
 ·rw[wD _ _ (by omega)];exact S.keep j hj
def Leads (C:Ctx)(s s':St):Prop:=∀σ G a w,Stands C σ G s a w->∃σ' G',Stands C σ' G' s' a w
theorem jb {s s':St}(h:Weak s s'):Leads C s s':=fun σ G _ _ S=>⟨σ,G,S.weak h⟩
theorem Leads.trans {s s' s'':St}(h:Leads C s s')(k:Leads C s' s''):Leads C s s'':=fun σ G a w S=>by
 obtain⟨σ',G',S'⟩:=h σ G a w S;exact k σ' G' a w S'
theorem zaP {s:St}(k k':Nat)(hf:s.h k'=none)(hb:C.kb<=k':=by exact Nat.zero_le _):Leads C s (s.ren k k'):=fun σ _ _ _ S=>⟨σ,_,S.ren hb hf⟩
theorem qS {s:St}(k:Nat){o:Obj}(ho:s.h k=some o){ds:List D}(hds:asDs o.cells=some ds):Leads C s (s.comm k o ds):=fun _ G _ _ S=>by
 obtain⟨σ',S'⟩:=S.comm ho hds;exact⟨σ',G,S'⟩
theorem Xl {s:St}{k i k2:Nat}{cells:List T}(ho:s.h k=some ⟨none,cells⟩)(hi:cells[i]?=some (.d (.v (.slice none 0 0))))(hk:s.h k2=none)(e:TypeId)(size:Nat)(hkb:C.kb<=k2:=by exact Nat.zero_le _) :
  Leads C s ((s.new k2 ⟨some (e,size,true),[]⟩).setH k ⟨none,cells.set i (.gs k2)⟩):=fun σ _ _ _ S=>by
 obtain⟨G',S'⟩:=S.nilCell ho hi hk e size hkb;exact⟨σ,G',S'⟩
theorem yZ {c:Code}{Q:Exit->St->Prop}{s s':St}(h:Leads C s s')(hd:DWp C c Q s'):DWp C c Q s:=fun σ G a w S=>by
 obtain⟨σ',G',S'⟩:=h σ G a w S;exact hd σ' G' a w S'
theorem zt {α:Type}{c:Code}{Q:Exit->St->Prop}{s:St}(Sx:α->St)(μ:α->Nat)(x0:α)(h0:Leads C s (Sx x0))
  (round:∀x,DWp C c (Thn (fun s'=>∃x',Leads C s' (Sx x')/\μ x'<μ x) Q) (Sx x)):DWp C (.loop c) Q s:=fun σ G a w S=>by
 obtain⟨σ0,G0,S0⟩:=h0 σ G a w S;refine wp_loop_ghost (fun n a w=>∃x σ G,μ x=n/\Stands C σ G (Sx x) a w) (μ x0) ⟨x0,σ0,G0,rfl,S0⟩ ?_;rintro n a w ⟨x,σ,G,rfl,S⟩;refine wp_mono (round x σ G a w S) fun e a' w' h'=>?_
 cases e with
 |normal=>
  obtain⟨σ',G',s',⟨x',h1,h2⟩,S'⟩:=h';obtain⟨σ2,G2,S2⟩:=h1 σ' G' a' w' S';exact⟨μ x',h2,x',σ2,G2,rfl,S2⟩
 |_=>exact h'
def St.fn (l:List (Nat×T))(H:Nat->Option Obj):St:=⟨lk l,H⟩
theorem j4 {s:St}{l:List (Nat×T)}{H:Nat->Option Obj}(ht:zQ s l)(hh:∀k o,H k=some o->s.h k=some o)(hl:∀p∈l,∀k,p.2.ref=some k->H k≠none)
  (hd:∀k o,H k=some o->∀c∈o.cells,∀k',c.ref=some k'->H k'≠none):Weak s (St.fn l H):=by
 refine⟨fun i=>?_,hh,fun i k hk=>?_,hd⟩
 ·clear hl;simp only[St.fn]
  induction l with
  |nil=>exact .inr (.inl rfl)
  |cons p l ih=>
   obtain⟨j,x⟩:=p;simp only[lk];simp only[zQ] at ht;split
   ·rename_i e;rw[e];exact ht.1
   ·exact ih ht.2
 ·simp only[St.fn] at hk;have:∀l',(∀p∈l',∀k,p.2.ref=some k->H k≠none)->(lk l' i).ref=some k->H k≠none:=by
   intro l'
   induction l' with
   |nil=>intro _ h;simp[lk,T.ref] at h
   |cons p l' ih=>
    obtain⟨j,x⟩:=p;intro hp h;simp only[lk] at h;split at h
    ·exact hp (j,x) (by simp) k h
    ·exact ih (fun q hq=>hp q (by simp[hq])) h
  exact this l hl hk
def vJ:List T->Nat->T
 |[],_=>.d .any
 |x :: _,0=>x
 |_ :: r,i+1=>vJ r i
theorem WM:∀ {ts:List T} {i:Nat} {c:T},ts[i]?=some c->vJ ts i=c
 |[],_,_,h=>by simp at h
 |x :: _,0,c,h=>by simpa [vJ] using h
 |_ :: r,i+1,c,h=>by simp only[vJ];exact WM (by simpa using h)
theorem WN:∀ {ts:List T} {i:Nat},ts[i]?=none->vJ ts i = .d .any
 |[],_,_=>rfl
 |x :: _,0,h=>by simp at h
 |_ :: r,i+1,h=>by simp only[vJ];exact WN (by simpa using h)
def FinP (C:Ctx)(rs:List ResultVar)(r:D)(H:Nat->Option Obj)(s:St):Prop:=resL1 C s rs r/\∀k o,H k=some o->s.h k=some o
where
 resL1 (C:Ctx) (s:St):List ResultVar->D->Prop
  |[],r=>r = .tup []
  |[.tmp t],r=>s.t t = .d r
  |[.cell p ty],r=>Q3 C s ty (s.t p)=some (.d r)
  |_,_=>False
def RF (C:Ctx)(rs:List ResultVar)(r:D)(H:Nat->Option Obj):Exit->St->Prop
 |.normal,s=>FinP C rs r H s
 |.ret,s=>FinP C rs r H s
 |_,_=>False
theorem Z2 {rs:List ResultVar}{r:D}(h:FinP.resL1 C s rs r):∃ds,resD C s rs=some ds/\xS ds=r:=by
 unfold FinP.resL1 at h;split at h
 ·subst h;exact⟨[],rfl,rfl⟩
 ·exact⟨[r],by simp only[resD,h,Option.map_some],rfl⟩
 ·refine⟨[r],?_,rfl⟩;simp only[Q3] at h;split at h
  ·rename_i k off hk;simp only[resD,hk,h,Option.map_some]
  ·cases h
 ·exact h.elim
theorem Ht {P:Program}(S:Stands C σ G s a w)(hP:C.P=P){fn:Func}{ds:List D}(h1:resD C s fn.results.toList=some ds):∃u,(results fn a.tmps).run P w = .ok u w/\Rep σ (xS ds) u:=by
 subst hP;obtain⟨us,h2,h3⟩:=vZ S _ ds h1;have hmap:(results fn a.tmps).run C.P w = .ok (if h:us.toArray.size=1 then us.toArray[0] else .tuple us.toArray) w:=by
  rw[Qm,Array.mapM_eq_mapM_toList];simp only[Sem.run_bind,Sem.run_map,h2,Result.andThen_ok,Sem.run_pure]
 refine⟨_,hmap,?_⟩;cases ds with
 |nil=>simp only[RepL] at h3;subst h3;simp[xS,Rep,RepL]
 |cons x ds=>
  simp only[RepL] at h3;obtain⟨u,r,rfl,h4,h5⟩:=h3;cases ds with
  |nil=>simp only[RepL] at h5;subst h5;simpa [xS] using h4
  |cons y ds=>
   simp only[RepL] at h5;obtain⟨u',r',rfl,h6,h7⟩:=h5;simp only[xS,List.size_toArray,List.length_cons];rw[dif_neg (by omega)];simp only[Rep];exact⟨_,rfl,by simp only[RepL];exact⟨u,_,rfl,h4,u',r',rfl,h6,h7⟩⟩
theorem zcJ {g:FuncId}{fn:Func}{c:Code}{n:Nat}(hf:C.P.funcs[g]?=some fn)(hb:fn.body=some c)(hname:(fn.name == "runtime.NumGoroutine")=false)(hn:fn.ntmps=n){ts:List T}(hl:ts.length<=n)
  {rs:List ResultVar} (hrs:fn.results.toList=rs) {H:Nat->Option Obj} {r:D} {dst:Option Nat} (kb:Nat) (hkb:C.kb<=kb) (hK:∀k,s.h k≠none->k<kb) (hts:∀c∈ts,∀k,c.ref=some k->s.h k≠none)
  (hH:∀k,s.h k≠none->H k≠none) (hd:(∀k o,s.h k=some o->∀c∈o.cells,∀k',c.ref=some k'->s.h k'≠none)->∀k o,H k=some o->∀c∈o.cells,∀k',c.ref=some k'->H k'≠none)
  (h:∀C':Ctx,C'.P=C.P->C'.E=C.E->C'.n=n->C'.kb=kb->DWp C' c (RF C' rs r H) ⟨vJ ts,s.h⟩):xq C g ts dst s ((⟨s.t,H⟩:St).put dst (.d r)):=by
 subst hrs;intro σ G a w us S hus hr hdst o next Q ho hnext
 have hcall:(callFunc g us.toArray).run C.P w = .ok (.enter g us.toArray) w:=by
  have hne:¬(fn.name = "runtime.NumGoroutine"):=by simpa using hname
  simp[callFunc,hf,hne,hb]
 rw[hcall,Oper.upon_enter];obtain⟨C',hC⟩:∃C':Ctx,C'={ P:=C.P,E:=C.E,σ0:=σ,w0:=w,base:=C.base,n:=n,kb:=kb,df:=[],G0:=G }:=⟨_,rfl⟩;have S0:Stands C' σ G ⟨vJ ts,s.h⟩ { tmps:=us.toArray++Array.replicate (fn.ntmps-us.toArray.size) undef,defers:=[] } w:=by
  subst hC;refine { S.now with dfr:=rfl,siz:=by simp[hn];omega,slot:=fun i=>?_,live:=fun i k hk=>?_,obj:=S.obj,deep:=S.deep,sep:=S.sep,own:=S.own,keep:=fun _ _=>rfl }
  ·simp only;cases hi:ts[i]? with
   |none=>rw[WN hi];simp[RepT,Rep]
   |some x=>
    rw[WM hi];have hlt:i<us.length:=by
     rw[hus];rcases Nat.lt_or_ge i ts.length with h|h
     ·exact h
     ·rw[List.getElem?_eq_none h] at hi;cases hi
    have hu:us[i]?=some us[i]:=List.getElem?_eq_getElem hlt;rw[Array.getD_eq_getD_getElem?,Array.getElem?_append_left (by simpa using hlt)];simp only[List.getElem?_toArray,hu,Option.getD_some];exact hr i x _ hi hu
  ·simp only at hk;cases hi:ts[i]? with
   |none=>rw[WN hi] at hk;simp[T.ref] at hk
   |some x=>
    rw[WM hi] at hk;exact hts x (List.mem_of_getElem? hi) k hk
 have c1:C'.P=C.P:=by rw[hC]
 refine calls_of_wp hf hb ?_;have hw:=h C' c1 (by rw[hC]) (by rw[hC]) (by rw[hC]) _ _ _ _ S0;rw[c1] at hw;refine wp_mono hw fun e a2 w2 h'=>?_
 have fin:(∃σ' G' s',FinP C' fn.results.toList r H s'/\Stands C' σ' G' s' a2 w2)->a2.defers=[]/\∃v,(results fn a2.tmps).run C.P w2 = .ok v w2/\next (a.put o.dst v) w2:=fun ⟨σ',G',s',⟨h1,h2⟩,S'⟩=>by
  obtain⟨ds,h3,rfl⟩:=Z2 h1;obtain⟨u,h4,h5⟩:=Ht S' c1 h3;have hdf:=S'.dfr;rw[hC] at hdf;refine⟨hdf,u,h4,?_⟩;have hle:σ.le σ':=by have:=S'.le;rw[hC] at this;exact this
  have hG:∀k,s.h k≠none->G' k=G k:=fun k hk=>by
   have:=S'.keep k (by rw[hC];exact hK k hk);rw[hC] at this;exact this
  have hbel:Below C.base w w2:=by have:=S'.bel;rw[hC] at this;exact this
  have hoth:KeepsOthers w w2:=by have:=S'.oth;rw[hC] at this;exact this
  have hold:∀b o,b<C.base->σ' b o=σ b o:=by have:=S'.old;rw[hC] at this;exact this
  have S2:Stands C σ' G' ⟨s.t,H⟩ a w2:={
   bas:=S.bas,glob:=S.glob,tab:=S.tab,le:=Mem.le_trans S.le hle,old:=fun b o hb=>(hold b o hb).trans (S.old b o hb),inv:=S'.inv
   hard:=fun b o u hu he=>S'.hard b o u hu (by rw[hC];exact he),gp:=S.gp,bel:=S.bel.trans hbel,oth:=S.oth.trans hoth,dfr:=S.dfr,siz:=S.siz
   slot:=fun i=>((S.slot i).mono hle).regh fun k hk=>hG k (S.live i k hk)
   live:=fun i k hk=>hH k (S.live i k hk)
   obj:=fun k o ho=>by have:=S'.obj k o (h2 k o ho);rw[hC] at this;exact this
   deep:=hd S.deep
   fin:=by
    obtain⟨N,hN⟩:=S'.fin;exact⟨N,fun k hk=>by
     show H k=none
     cases hs:H k with
     |none=>rfl
     |some o=>have:=hN k hk;rw[h2 k o hs] at this;cases this⟩
   sep:=fun k k' o o' b g1 g2=>S'.sep k k' o o' b (h2 k o g1) (h2 k' o' g2)
   own:=fun k o b g1=>S'.own k o b (h2 k o g1)
   keep:=fun k hk=>by
    have:=S'.keep k (by rw[hC];show k<kb;omega);rw[hC] at this;exact this.trans (S.keep k hk) }
  rw[ho];exact hnext σ' G' _ _ (S2.put (x:=.d (xS ds)) (u:=u) h5 (by simp[T.ref]) hdst)
 cases e with
 |normal=>exact fin h'
 |ret=>exact fin h'
 |exit id=>obtain⟨_,_,_,h1,_⟩:=h';exact h1.elim
 |goto l=>obtain⟨_,_,_,h1,_⟩:=h';exact h1.elim
 |panic ch=>exact h'.elim
 |outgrown=>exact h'.elim
theorem W8 {g:FuncId}{fn:Func}{c:Code}{n:Nat}(hf:C.P.funcs[g]?=some fn)(hb:fn.body=some c)(hname:(fn.name == "runtime.NumGoroutine")=false)(hn:fn.ntmps=n){ts:List T}(hl:ts.length<=n)
  {rs:List ResultVar} (hrs:fn.results.toList=rs) {H:Nat->Option Obj} {r:D} {dst:Option Nat} (hts:∀c∈ts,∀k,c.ref=some k->s.h k≠none)
  (hH:∀k,s.h k≠none->H k≠none) (hd:(∀k o,s.h k=some o->∀c∈o.cells,∀k',c.ref=some k'->s.h k'≠none)->∀k o,H k=some o->∀c∈o.cells,∀k',c.ref=some k'->H k'≠none)
  (h:∀kb,(∀k,s.h k≠none->k<kb)->∀C':Ctx,C'.P=C.P->C'.E=C.E->C'.n=n->C'.kb=kb->DWp C' c (RF C' rs r H) ⟨vJ ts,s.h⟩):xq C g ts dst s ((⟨s.t,H⟩:St).put dst (.d r)):=by
 intro σ G a w us S;obtain⟨N,hN⟩:=S.fin;have hK:∀k,s.h k≠none->k<max N C.kb:=fun k hk=>by
  rcases Nat.lt_or_ge k N with h1|h1
  ·omega
  ·exact absurd (hN k h1) hk
 exact zcJ hf hb hname hn hl hrs (max N C.kb) (by omega) hK hts hH hd (h _ hK) σ G a w us S
theorem HA {g:FuncId}{ts:List T}{dst:Option Nat}{s s1 s2:St}(h:xq C g ts dst s s1)(hL:Leads C s1 s2):xq C g ts dst s s2:=by
 intro σ G a w us S hus hr hd o next Q ho hnext
 refine h σ G a w us S hus hr hd o next Q ho fun σ' G' a' w' S'=>?_
 obtain⟨σ2,G2,S2⟩:=hL σ' G' a' w' S';exact hnext σ2 G2 a' w' S2
end
@[go_sem] theorem fn_t (l:List (Nat×T))(H:Nat->Option Obj)(i:Nat):(St.fn l H).t i=lk l i:=(rfl)
@[go_sem] theorem fn_h (l:List (Nat×T))(H:Nat->Option Obj)(k:Nat):(St.fn l H).h k=H k:=(rfl)
@[go_sem] theorem zle (x:T)(r:List T):vJ (x :: r) 0=x:=rfl
@[go_sem] theorem zld (x:T)(r:List T)(i:Nat):vJ (x :: r) (i+1)=vJ r i:=rfl
@[go_sem] theorem zjl (i:Nat):vJ [] i = .d .any:=rfl
@[go_sem ↓] theorem zfG (C:Ctx)(rs:List ResultVar)(r:D)(H:Nat->Option Obj)(s:St):RF C rs r H .normal s=FinP C rs r H s:=(rfl)
@[go_sem ↓] theorem zjS (C:Ctx)(rs:List ResultVar)(r:D)(H:Nat->Option Obj)(s:St):RF C rs r H .ret s=FinP C rs r H s:=(rfl)
end Go.Enc
end
