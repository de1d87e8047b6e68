/-
  New blocks, stores, growing slices. Stores into local blocks; new variables; literals of slices and structs. New variables, literals of slices and structs, make. make, literals of slices, append. make, literals of slices.
-/
import Derived.Test.YtjlibljfpkmpfaaGreatDoorSa02
import Derived.Laws.MakeOwn
set_option maxRecDepth 100000
set_option linter.unusedSimpArgs false
set_option linter.unusedVariables false
section
namespace Go.Enc
open Go.RowKit
def wU (k:Nat)(c:T):T:=
 match c with
 |.d x=>.d x
 |.ptr j o=>if j=k then .d .any else .ptr j o
 |.gs j=>if j=k then .d .any else .gs j
 |.ipr t j=>if j=k then .d .any else .ipr t j
 |.vw j o n=>if j=k then .d .any else .vw j o n
 |.hid x=>.hid x
 |.tp j x=>if j=k then .d .any else .tp j x
def Obj.kill (k:Nat)(o:Obj):Obj:={ o with cells:=o.cells.map (wU k) }
def St.kill (s:St)(k:Nat):St:={ t:=fun i=>wU k (s.t i),h:=fun i=>if i=k then none else (s.h i).map (Obj.kill k) }
def St.new (s:St)(k:Nat)(o:Obj):St:={ s with h:=upd s.h k (some o) }
section
variable {C:Ctx} {σ:Mem} {G:Gh} {s:St} {a:Act} {w:World}
theorem vH {k j:Nat}{c:T}(h:(wU k c).ref=some j):c.ref=some j/\j≠k:=by
 cases c<;>simp only[wU] at h<;>(try (simp[T.ref] at h;done))<;>(split at h<;>simp[T.ref] at h<;>subst h<;>simp_all [T.ref])
theorem RepT.kill {k:Nat}{c:T}{u:Value}(h:RepT σ G c u):RepT σ G (wU k c) u:=by
 cases c<;>simp only[wU]<;>(try exact h)<;>split<;>first|(simp[RepT,Rep];done)|exact h
theorem RepTU.kill {k:Nat}:∀ {cs:List T} {us:List Value},RepTU σ G cs us->RepTU σ G (cs.map (wU k)) us
 |[],_,h=>h
 |_ :: _,_,⟨u,r,h1,h0,h2,h3⟩=>⟨u,r,h1,h0,h2.kill,RepTU.kill h3⟩
theorem ObjIs.kill {k j b:Nat}{o:Obj}(h:ObjIs σ G w b j o):ObjIs σ G w b j (o.kill k):=by
 unfold ObjIs at h ⊢;simp only[Obj.kill];split at h
 ·obtain⟨b,us,ty,h1,h2,h3,h4,h5⟩:=h;exact⟨b,us,ty,h1,h2,h3,h4.kill,h5⟩
 ·obtain⟨n,us,h1,h2,h3,h4⟩:=h;exact⟨n,us,h1,h2.kill,h3,fun hn he=>h4 hn (by simpa using he)⟩
theorem Stands.kill (S:Stands C σ G s a w)(k:Nat):Stands C σ G (s.kill k) a w:=by
 have hh:∀j o,(s.kill k).h j=some o->j≠k/\∃o',s.h j=some o'/\o=o'.kill k:=by
  intro j o h;simp only[St.kill] at h;split at h
  ·cases h
  ·rename_i hne;simp only[Option.map_eq_some_iff] at h;obtain⟨o',h1,h2⟩:=h;exact⟨hne,o',h1,h2.symm⟩
 have hlive:∀j,s.h j≠none->j≠k->(s.kill k).h j≠none:=by
  intro j h1 h2;simp only[St.kill,h2,if_false];cases h:s.h j with
  |none=>exact absurd h h1
  |some o=>simp
 have hfin:∃N,∀j,N<=j->(s.kill k).h j=none:=by
  obtain⟨N,hN⟩:=S.fin;exact⟨N,fun j hj=>by simp only[St.kill,hN j hj,Option.map_none];split<;>rfl⟩
 refine { S with fin:=hfin,slot:=fun i=>(S.slot i).kill,live:=fun i j hj=>?_,obj:=fun j o h=>?_,deep:=fun j o h c hc j' hj'=>?_,sep:=fun j j' o o' b h h'=>?_,own:=fun j o b h=>?_ }
 ·obtain⟨h1,h2⟩:=vH hj;exact hlive j (S.live i j h1) h2
 ·obtain⟨_,o',h1,rfl⟩:=hh j o h;exact(S.obj j o' h1).kill
 ·obtain⟨_,o',h1,rfl⟩:=hh j o h;simp only[Obj.kill,List.mem_map] at hc;obtain⟨c',hc',rfl⟩:=hc;obtain⟨h3,h4⟩:=vH hj';exact hlive j' (S.deep j o' h1 c' hc' j' h3) h4
 ·obtain⟨_,o1,h1,rfl⟩:=hh j o h;obtain⟨_,o2,h2,rfl⟩:=hh j' o' h';exact S.sep j j' o1 o2 b h1 h2
 ·obtain⟨_,o1,h1,rfl⟩:=hh j o h;exact S.own j o1 b h1
theorem ObjIs.grown {k b:Nat}{o:Obj}{w':World}{row:Option Nat}(h:ObjIs σ G w b k o)(hg:w.grownBy w' row)(hr:∀x,row=some x->(G k).1≠some x):ObjIs σ G w' b k o:=by
 unfold ObjIs at h ⊢;split at h
 ·obtain⟨x,us,ty,h1,h2,h3,h4,h5⟩:=h;refine⟨x,us,ty,h1,h2,?_,h4,h5⟩;rw[hg.block x (Array.getElem?_eq_some_iff.1 h3).1 (fun e=>hr x e.symm h1)];exact h3
 ·obtain⟨n,us,h1,h2,h3,h4⟩:=h;refine⟨n,us,h1.kept hg ?_,h2,h3,h4⟩;cases hb:(G k).2.ownBlock with
  |none=>exact .inl rfl
  |some x=>
   refine .inr fun e=>?_
   exact hr x e.symm (by rw[h3,hb])
theorem ObjIs.regh {k b:Nat}{o:Obj}{G':Gh}(h:ObjIs σ G w b k o)(hk:G' k=G k)(hd:∀c∈o.cells,∀j,c.ref=some j->G' j=G j):ObjIs σ G' w b k o:=by
 unfold ObjIs at h ⊢;split at h
 ·obtain⟨x,us,ty,h1,h2,h3,h4,h5⟩:=h;exact⟨x,us,ty,by rw[hk];exact h1,h2,h3,h4.regh hd,by rw[hk];exact h5⟩
 ·obtain⟨n,us,h1,h2,h3,h4⟩:=h;exact⟨n,us,by rw[hk];exact h1,h2.regh hd,by rw[hk];exact h3,by rw[hk];exact h4⟩
theorem ObjIs.block {k b:Nat}{o:Obj}(h:ObjIs σ G w b k o){x:Nat}(hx:(G k).1=some x):b<=x/\x<w.heap.size:=by
 unfold ObjIs at h;split at h
 ·obtain⟨y,us,ty,h1,h2,h3,h4,_⟩:=h;rw[h1] at hx;cases hx;exact⟨h2,(Array.getElem?_eq_some_iff.1 h3).1⟩
 ·obtain⟨n,us,h1,h2,h3,h4⟩:=h;rw[h3] at hx;exact h1.lt x hx
theorem qZ {w:World}{base e size n:Nat}{v:Value}{xs:List Value}(h:w.ownsRow base e size v n xs):∀(b:Nat) (o:Go.Obj),v.ownBlock=some b->w.heap[b]?=some o->o.isCells=true:=fun b o hb ho=>by
 rcases h.2 with⟨hnil,_⟩|⟨g,cap,cur,hval,_,h2,_⟩
 ·rw[hnil] at hb;simp[Value.ownBlock] at hb
 ·rw[hval] at hb;simp only[Value.ownBlock,Option.some.injEq] at hb;subst hb;rw[h2] at ho;cases ho;rfl
theorem Stands.fresh (S:Stands C σ G s a w){k:Nat}(hkb:C.kb<=k)(hk:s.h k=none){o:Obj}{g:Option Nat×Value}{w':World}{row:Option Nat}
  (hg:w.grownBy w' row) (hrow:∀b,row=some b->C.base<=b/\(∀i,σ b i=none)/\∀k' o',s.h k'=some o'->(G k').1≠some b) (hcel:∀(b:Nat) (o:Go.Obj),row=some b->w.heap[b]?=some o->o.isCells=true)
  (hnew:ObjIs σ (upd G k g) w' C.base k o) (hdeep:∀c∈o.cells,∀k',c.ref=some k'->s.h k'≠none)
  (hblk:∀b,g.1=some b->w.heap.size<=b\/row=some b):Stands C σ (upd G k g) (s.new k o) a w':=by
 have hne:∀j,s.h j≠none->j≠k:=fun j hj e=>hj (e▸hk)
 have hG:∀j,s.h j≠none->upd G k g j=G j:=fun j hj=>wD G g (hne j hj)
 have hh:∀j o',(s.new k o).h j=some o'->(j=k/\o'=o)\/(j≠k/\s.h j=some o'):=by
  intro j o' h;simp only[St.new,upd] at h;split at h
  ·rename_i e;exact .inl ⟨e,by simpa using h.symm⟩
  ·rename_i e;exact .inr ⟨e,h⟩
 have hlive:∀j,s.h j≠none->(s.new k o).h j≠none:=fun j hj=>by
  simp only[St.new];rw[wD _ _ (hne j hj)];exact hj
 have hcell:∀b i u,σ b i=some u->w'.cell? ⟨b,i,none⟩=some u:=fun b i u h=>
  hg.cell (S.inv b i u h) (fun e=>by have:=(hrow b e.symm).2.1 i;rw[h] at this;cases this)
 have hbel:Below C.base C.w0 w':=S.bel.grown hg S.size (fun b e=>(hrow b e).1);have hblkσ:∀b,g.1=some b->∀i,σ b i=none:=fun b hb i=>by
  rcases hblk b hb with h|h
  ·cases hs:σ b i with
   |none=>rfl
   |some u=>
    have:=block_lt_of_cell (S.inv b i u hs);simp only at this;omega
  ·exact(hrow b h).2.1 i
 have hsep:∀j o' b,s.h j=some o'->(G j).1=some b->g.1≠some b:=fun j o' b h h1 h2=>by
  rcases hblk b h2 with h3|h3
  ·have:=((S.obj j o' h).block h1).2;omega
  ·exact(hrow b h3).2.2 j o' h h1
 have hfin:∃N,∀j,N<=j->(s.new k o).h j=none:=by
  obtain⟨N,hN⟩:=S.fin;exact⟨max N (k+1),fun j hj=>by simp only[St.new];rw[wD _ _ (by omega)];exact hN j (by omega)⟩
 refine { S with fin:=hfin,keep:=fun j hj=>by { rw[wD _ _ (show j≠k by omega)];exact S.keep j hj },inv:=hcell,hard:=fun b i u h he=>(S.hard b i u h he).of_eq (hg.block b (wT (S.inv b i u h)) (fun e=>by have:=(hrow b e.symm).2.1 i;rw[h] at this;cases this)),bel:=hbel,oth:=S.oth.trans (KeepsOthers.of_grownBy hg hcel),slot:=fun i=>(S.slot i).regh fun j hj=>hG j (S.live i j hj),live:=fun i j hj=>hlive j (S.live i j hj),obj:=fun j o' h=>?_,deep:=fun j o' h c hc j' hj'=>?_,sep:=fun j j' o1 o2 b h1 h2 g1 g2=>?_,own:=fun j o' b h hb=>?_ }
 ·rcases hh j o' h with⟨rfl,rfl⟩|⟨hj,h⟩
  ·exact hnew
  ·exact((S.obj j o' h).grown hg (fun x e=>(hrow x e).2.2 j o' h)).regh (wD G g hj) (fun c hc j' hj'=>hG j' (S.deep j o' h c hc j' hj'))
 ·rcases hh j o' h with⟨rfl,rfl⟩|⟨hj,h⟩
  ·exact hlive j' (hdeep c hc j' hj')
  ·exact hlive j' (S.deep j o' h c hc j' hj')
 ·rcases hh j o1 h1 with⟨e1,_⟩|⟨hj,k1⟩<;>rcases hh j' o2 h2 with⟨e2,_⟩|⟨hj',k2⟩
  ·rw[e1,e2]
  ·rw[e1,wq] at g1;rw[wD _ _ hj'] at g2;exact absurd g1 (hsep j' o2 b k2 g2)
  ·rw[e2,wq] at g2;rw[wD _ _ hj] at g1;exact absurd g2 (hsep j o1 b k1 g1)
  ·rw[wD _ _ hj] at g1;rw[wD _ _ hj'] at g2;exact S.sep j j' o1 o2 b k1 k2 g1 g2
 ·rcases hh j o' h with⟨rfl,rfl⟩|⟨hj,h⟩
  ·rw[wq] at hb;exact hblkσ b hb
  ·rw[wD _ _ hj] at hb;exact S.own j o' b h hb
end
end Go.Enc
end
section
namespace Go.Enc
open Go.RowKit
def St.setH (s:St)(k:Nat)(o:Obj):St:={ s with h:=upd s.h k (some o) }
def oneD:D->Bool
 |.v x=>x.oneCell'
 |.sl _ _ | .ip _ _ | .pd _ _=>true
 |_=>false
def k7:T->Option (List T)
 |.d (.agg ds)=>some (ds.map .d)
 |.d x=>if oneD x then some [.d x] else none
 |.hid _=>none
 |.tp _ _=>none
 |c=>some [c]
def jn:List T->Nat->List T->List T
 |cells,_,[]=>cells
 |cells,off,c :: cs=>jn (cells.set off c) (off+1) cs
theorem zJ:∀(cs cells:List T) (off:Nat),(jn cells off cs).length=cells.length
 |[],_,_=>rfl
 |_ :: cs,cells,off=>by simp[jn,zJ cs]
section
variable {C:Ctx} {σ:Mem} {G:Gh} {s:St} {a:Act} {w:World}
theorem Stands.handle (S:Stands C σ G s a w){k:Nat}(h:s.h k≠none):(G k).2.oneCell'=true:=by
 cases ho:s.h k with
 |none=>exact absurd ho h
 |some o=>
  have H:=S.obj k o ho;unfold ObjIs at H;split at H
  ·obtain⟨_,_,_,_,_,_,_,h5⟩:=H;exact h5
  ·obtain⟨n,us,h1,_⟩:=H;rcases h1.2 with⟨e,_⟩|⟨g,cap,cur,e,_⟩<;>rw[e]<;>rfl
theorem zcU {x:D}(h:oneD x=true){u:Value}(hu:Rep σ x u):u.oneCell'=true:=by
 cases x<;>simp only[oneD,Bool.false_eq_true] at h<;>simp only[Rep] at hu
 ·subst hu;exact h
 ·rcases hu with⟨rfl,_⟩|⟨_,_,_,_,rfl,_⟩|⟨_,_,rfl,_⟩<;>rfl
 ·obtain⟨_,_,rfl,_⟩:=hu;rfl
 ·obtain⟨_,_,rfl,_⟩:=hu;rfl
theorem Vd {u:Value}(h:u.oneCell'=true):u.cells = #[u]:=by
 cases u<;>first|rfl|(simp[Value.oneCell'] at h)
theorem zx (S:Stands C σ G s a w){c:T}{cs:List T}(h:k7 c=some cs){u:Value}(hu:RepT σ G c u)(hl:∀k,c.ref=some k->s.h k≠none) :
  RepTU σ G cs u.cells.toList/\∀c'∈cs,∀k,c'.ref=some k->s.h k≠none:=by
 unfold k7 at h;split at h
 ·cases h;simp only[RepT,Rep] at hu;obtain⟨us,rfl,hr⟩:=hu;refine⟨by simpa [Value.cells] using RepU.asT hr,fun c' hc' k hk=>?_⟩;simp only[List.mem_map] at hc';obtain⟨d,_,rfl⟩:=hc';simp[T.ref] at hk
 ·rename_i x _;split at h
  ·rename_i ho;cases h;have h1:=zcU ho hu;rw[Vd h1];exact⟨⟨u,[],rfl,h1,hu,rfl⟩,fun c' hc' k hk=>by simp at hc';subst hc';simp[T.ref] at hk⟩
  ·cases h
 ·cases h
 ·cases h
 ·rename_i h2 h3 h4;cases h;have h1:u.oneCell'=true:=by
   cases c with
   |d x=>exact absurd rfl (h2 x)
   |hid x=>exact absurd rfl (h3 x)
   |tp k x=>exact absurd rfl (h4 k x)
   |ptr k o=>simp only[RepT] at hu;obtain⟨_,_,rfl⟩:=hu;rfl
   |gs k=>simp only[RepT] at hu;rw[hu];exact S.handle (hl k rfl)
   |ipr t k=>simp only[RepT] at hu;obtain⟨_,_,rfl⟩:=hu;rfl
   |vw k o n=>simp only[RepT] at hu;obtain⟨_,_,_,rfl⟩:=hu;rfl
  rw[Vd h1];exact⟨⟨u,[],rfl,h1,hu,rfl⟩,fun c' hc' k hk=>by simp at hc';subst hc';exact hl k hk⟩
theorem zbM {α:Type}(l:List α)(n i:Nat)(x:α):(l.set i x).take n=(l.take n).set i x:=by
 apply List.ext_getElem?;intro j;simp only[List.getElem?_take,List.getElem?_set,List.length_take];by_cases h1:j<n<;>by_cases h2:i=j<;>simp[h1,h2]
 all_goals (try (subst h2))
 all_goals (try omega)
 all_goals (split<;>split<;>first|rfl|omega)
theorem Stands.setCell (S:Stands C σ G s a w){k:Nat}{o:Obj}(ho:s.h k=some o){b off:Nat}(hb:(G k).1=some b)(hoff:off<o.cells.length)
  {c:T} {u:Value} (h1:u.oneCell'=true) (hr:RepT σ G c u) (hl:∀j,c.ref=some j->s.h j≠none) (m:Mode) :
  (store ⟨b,off,none⟩ u m).run C.P w = .ok () (w.setCell ⟨b,off,none⟩ u) /\
   Stands C σ G (s.setH k { o with cells:=o.cells.set off c }) a (w.setCell ⟨b,off,none⟩ u):=by
 obtain⟨hbase,cur,ty,us,hrow,hcells,sp,hcur⟩:=S.row ho hb;have hlen:=hcells.length;have hcurlen:off<cur.size:=by
  have:cur.toList.length=us.length+sp.length:=by rw[hcur];simp
  simp only[Array.length_toList] at this;omega
 have hcell:w.cell? ⟨b,off,none⟩=some cur[off]:=by rw[cell_of_row w b off cur ty (0,0) hrow,Array.getElem?_eq_getElem hcurlen]
 have hfz:=frozen_of_row w b off cur ty hrow;refine⟨by rw[run_store C.P w _ _ _ h1,hcell];simp[hfz],?_⟩;have hother:∀x,x≠b->(w.setCell ⟨b,off,none⟩ u).heap[x]?=w.heap[x]?:=fun x hx=>heap_setCell_other w _ x u hx
 have hsame:=heap_setCell_same w b off cur ty u hrow;have hg:w.grownBy (w.setCell ⟨b,off,none⟩ u) (some b):=⟨rfl,rfl,rfl,by simp,fun x _ hx=>hother x (fun e=>hx (by rw[e]))⟩;have hσ:=S.own k o b ho hb;have hh:∀j o',(s.setH k { o with cells:=o.cells.set off c }).h j=some o'->(j=k/\o'={ o with cells:=o.cells.set off c })\/(j≠k/\s.h j=some o'):=by
  intro j o' h;simp only[St.setH,upd] at h;split at h
  ·rename_i e;exact .inl ⟨e,by simpa using h.symm⟩
  ·rename_i e;exact .inr ⟨e,h⟩
 have hlive:∀j,s.h j≠none->(s.setH k { o with cells:=o.cells.set off c }).h j≠none:=fun j hj=>by
  simp only[St.setH,upd];split
  ·simp
  ·exact hj
 have hfin:∃N,∀j,N<=j->(s.setH k { o with cells:=o.cells.set off c }).h j=none:=by
  obtain⟨N,hN⟩:=S.fin;exact⟨N,fun j hj=>by
   simp only[St.setH];rw[wD _ _ (fun e=>by have:=hN j hj;rw[e,ho] at this;cases this)];exact hN j hj⟩
 refine { S with
  fin:=hfin
  inv:=fun b' i v h=>hg.cell (S.inv b' i v h) (fun e=>by simp only[Option.some.injEq] at e;rw[e,hσ i] at h;cases h)
  hard:=fun b' i v h he=>(S.hard b' i v h he).of_eq (hother b' (fun e=>by rw[e,hσ i] at h;cases h))
  bel:=S.bel.grown hg S.size (fun x e=>by cases e;exact hbase)
  oth:=S.oth.trans (KeepsOthers.setCell _ _ _)
  live:=fun i j hj=>hlive j (S.live i j hj)
  obj:=fun j o' h=>?_
  deep:=fun j o' h c' hc' j' hj'=>?_
  sep:=fun j j' o1 o2 x x1 x2 y1 y2=>?_
  own:=fun j o' x h hx=>?_ }
 ·rcases hh j o' h with⟨rfl,rfl⟩|⟨hj,h⟩
  ·have H:=S.obj j o ho;unfold ObjIs at H ⊢;simp only;split at H
   ·obtain⟨b',us',ty',g1,g2,g3,g4,g5⟩:=H;rw[g1] at hb;cases hb;rw[hrow] at g3;cases g3;refine⟨b,_,ty,g1,g2,hsame,?_,g5⟩;rw[Array.toList_setIfInBounds];exact g4.set off c u h1 hr
   ·rename_i e size nn hv;obtain⟨n,us',g1,g2,g3,g4⟩:=H;refine⟨n,us'.set off u,⟨by simpa using g1.1,?_⟩,g2.set off c u h1 hr,g3,fun hn he=>g4 hn (List.eq_nil_of_length_eq_zero (by have:=congrArg List.length he;simpa using this))⟩;rcases g1.2 with⟨hnil,hz⟩|⟨g,cap,cur',hval,hg1,hg2,hg3,hg4,hg5,hg6⟩
    ·exact .inl ⟨hnil,hz⟩
    ·right;rw[g3,hval] at hb;simp only[Value.ownBlock,Option.some.injEq] at hb;subst hb;rw[hrow] at hg2;cases hg2;refine⟨g,cap,_,hval,hg1,hsame,hg3,hg4,by simpa using hg5,?_⟩;rw[Array.toList_setIfInBounds,zbM,hg6]
  ·exact(S.obj j o' h).grown hg (fun x e=>by cases e;exact fun e2=>hj (S.sep j k o' o b h ho e2 hb))
 ·rcases hh j o' h with⟨rfl,rfl⟩|⟨hj,h⟩
  ·rcases List.mem_or_eq_of_mem_set hc' with hm|rfl
   ·exact hlive j' (S.deep j o ho c' hm j' hj')
   ·exact hlive j' (hl j' hj')
  ·exact hlive j' (S.deep j o' h c' hc' j' hj')
 ·have f1:∃o1',s.h j=some o1':=by rcases hh j o1 x1 with⟨rfl,_⟩|⟨_,h⟩;exact⟨o,ho⟩;exact⟨o1,h⟩
  have f2:∃o2',s.h j'=some o2':=by rcases hh j' o2 x2 with⟨rfl,_⟩|⟨_,h⟩;exact⟨o,ho⟩;exact⟨o2,h⟩
  obtain⟨o1',f1⟩:=f1;obtain⟨o2',f2⟩:=f2;exact S.sep j j' o1' o2' x f1 f2 y1 y2
 ·have f1:∃o1',s.h j=some o1':=by rcases hh j o' h with⟨rfl,_⟩|⟨_,h⟩;exact⟨o,ho⟩;exact⟨o',h⟩
  obtain⟨o1',f1⟩:=f1;exact S.own j o1' x f1 hx
theorem R0 (s:St)(k:Nat)(o:Obj)(h:s.h k=some o):s.setH k o=s:=by
 cases s;simp only[St.setH];congr 1
 funext i
 simp only[upd];split
 ·rename_i e;rw[e];exact h.symm
 ·rfl
theorem RY (s:St)(k:Nat)(o o':Obj):(s.setH k o).setH k o'=s.setH k o':=by
 simp only[St.setH];congr 1
 funext i
 simp only[upd];split<;>rfl
theorem Stands.storeCells:∀ {cs:List T} {us:List Value} {s:St} {w:World} {k:Nat} {o:Obj} {b off:Nat} (i:Nat),Stands C σ G s a w->s.h k=some o->(G k).1=some b->off+i+cs.length<=o.cells.length ->
  RepTU σ G cs us->(∀c∈cs,∀j,c.ref=some j->s.h j≠none) ->
  ∃w',(storeCells ⟨b,off,none⟩ us i).run C.P w = .ok () w'/\Stands C σ G (s.setH k { o with cells:=jn o.cells (off+i) cs }) a w'
 |[],us,s,w,k,o,b,off,i,S,ho,hb,_,hr,_=>by
  simp only[RepTU] at hr;subst hr;refine⟨w,by simp[Go.storeCells],?_⟩;simp only[jn];rw[R0 s k _ ho];exact S
 |c :: cs,_,s,w,k,o,b,off,i,S,ho,hb,hle,⟨u,r,rfl,h0,h2,h3⟩,hl=>by
  simp only[List.length_cons] at hle;obtain⟨e1,S1⟩:=S.setCell (off:=off+i) ho hb (by omega) h0 h2 (hl c (by simp)) .plain;have ho1:(s.setH k { o with cells:=o.cells.set (off+i) c }).h k=some { o with cells:=o.cells.set (off+i) c }:=by simp[St.setH,upd]
  obtain⟨w',e2,S2⟩:=Stands.storeCells (cs:=cs) (us:=r) (off:=off) (i+1) S1 ho1 hb (by simp;omega) h3 (fun c' hc' j hj=>by
   have:=hl c' (by simp[hc']) j hj;simp only[St.setH,upd];split<;>simp_all)
  refine⟨w',?_,?_⟩
  ·simp only[Go.storeCells,Sem.run_bind,x8,e1,Result.andThen_ok];exact e2
  ·rw[RY] at S2;simp only[jn];exact S2
theorem Stands.storeAt (S:Stands C σ G s a w){t:TypeId}{k off:Nat}{o:Obj}{c:T}{cs:List T}(ho:s.h k=some o)(hc:k7 c=some cs)(hsz:szT C.P t=some cs.length)(hle:off+cs.length<=o.cells.length)
  {p u:Value} (hp:RepT σ G (.ptr k off) p) (hu:RepT σ G c u) (hl:∀j,c.ref=some j->s.h j≠none) :
  ∃w',(Instr.storeAt t p u).run C.P w = .ok () w'/\Stands C σ G (s.setH k { o with cells:=jn o.cells off cs }) a w':=by
 simp only[RepT] at hp;obtain⟨b,hb,rfl⟩:=hp;obtain⟨h1,h2⟩:=zx S hc hu hl;obtain⟨w',e,S'⟩:=S.storeCells (off:=off) 0 ho hb (by omega) h1 h2;refine⟨w',?_,S'⟩;have hn:u.cells.size=cs.length:=by rw[<-Array.length_toList];exact h1.length
 simp[Instr.storeAt,Instr.sureAddr,storeVar,xu hsz,hn,e]
end
end Go.Enc
end
section
namespace Go.Enc
open Go.RowKit
def kN (P:Program)(t:TypeId):Option (List T):=
 match P.info? t with
 |some i=>match i.zero with
  |some z=>if z.cells.toList.all Value.oneCell'&&z.cells.size==i.size then some (z.cells.toList.map fun u=>.d (.v u)) else none
  |none=>none
 |none=>none
def yQ:List Value->Nat->List Value->List Value
 |cells,_,[]=>cells
 |cells,off,c :: cs=>yQ (cells.set off c) (off+1) cs
def vK (place:Nat->Option (Nat×Nat)):List T->List (Nat×T)->Option (List T)
 |cells,[]=>some cells
 |cells,(i,c) :: rest=>match place i,k7 c with
  |some (off,size),some cs=>if cs.length=size/\off+cs.length<=cells.length then vK place (jn cells off cs) rest else none
  |_,_=>none
def kV (P:Program)(t:TypeId):Option (List (Nat×Nat)):=
 match P.underlying t with
 |some (.struct fs)=>fs.toList.mapM fun f=>(szT P f.type).map fun n=>(f.offset,n)
 |some (.array n e)=>match szT P e with
  |some k=>some ((List.range n).map fun i=>(i*k,k))
  |none=>none
 |_=>none
def JT (P:Program)(t:TypeId)(parts:List (Nat×T)):Option T:=
 match kN P t,kV P t with
 |some z,some pl=>match vK (pl[·]?) z parts with
  |some cells=>(asDs cells).map fun ds=>.d (.agg ds)
  |none=>none
 |_,_=>none
section
variable {C:Ctx} {σ:Mem} {G:Gh} {s:St} {a:Act} {w:World}
theorem Ws {P:Program}{t:TypeId}{cs:List T}(h:kN P t=some cs) :
  ∃z,(zeroValue t).run P w = .ok z w/\RepTU σ G cs z.cells.toList/\szT P t=some cs.length/\(∀c∈cs,c.ref=none)/\(∃i,P.info? t=some i/\i.zero=some z):=by
 unfold kN at h;split at h
 ·rename_i i hi;split at h
  ·rename_i z hz;split at h
   ·rename_i hc;cases h;simp only[Bool.and_eq_true,beq_iff_eq] at hc;refine⟨z,by simp[zeroValue,typeInfo,hi,hz],?_,by simp[szT,hi,hc.2],?_,i,hi,hz⟩
    ·have h1:=hc.1;generalize z.cells.toList=l at h1
     induction l with
     |nil=>simp[RepTU]
     |cons u l ih=>
      simp only[List.all_cons,Bool.and_eq_true] at h1;simp only[List.map_cons,RepTU];exact⟨u,l,rfl,h1.1,by simp[RepT,Rep],ih h1.2⟩
    ·intro c hc';simp only[List.mem_map] at hc';obtain⟨u,_,rfl⟩:=hc';rfl
   ·cases h
  ·cases h
 ·cases h
theorem Stands.newBox (S:Stands C σ G s a w){k:Nat}(hkb:C.kb<=k)(hk:s.h k=none){cs:List T}{us:Array Value}(hr:RepTU σ G cs us.toList)(hl:∀c∈cs,∀j,c.ref=some j->s.h j≠none)(t:TypeId) :
  Stands C σ (upd G k (some w.heap.size,.pointer (some ⟨w.heap.size,0,none⟩))) (s.new k ⟨none,cs⟩) a (w.alloc (.cells us t)):=by
 have hne:∀j,s.h j≠none->j≠k:=fun j hj e=>hj (e▸hk)
 refine S.fresh hkb hk (row:=none) (World.grownBy_alloc w _ none) (by simp) (by simp) ?_ hl (fun b hb=>?_)
 ·simp only[ObjIs];refine⟨w.heap.size,us,t,by simp[wq],S.size,heap_alloc_new w _,?_,by simp[wq,Value.oneCell']⟩;exact hr.regh fun c hc j hj=>wD G _ (hne j (hl c hc j hj))
 ·simp only[Option.some.injEq] at hb;exact .inl (by omega)
theorem J7:∀ {cs cells:List T} {us vs:List Value} {off:Nat},RepTU σ G cells vs->RepTU σ G cs us->RepTU σ G (jn cells off cs) (yQ vs off us)
 |[],_,us,_,_,h,h'=>by simp only[RepTU] at h';subst h';exact h
 |c :: cs,cells,_,vs,off,h,⟨u,r,h1,h0,h2,h3⟩=>by
  subst h1
  show RepTU σ G (jn (cells.set off c) (off+1) cs) (yQ (vs.set off u) (off+1) r)
  exact J7 (h.set off c u h0 h2) h3
theorem qW {p:T->Prop}:∀ {cs cells:List T} {off:Nat},(∀c∈cells,p c)->(∀c∈cs,p c)->∀c∈jn cells off cs,p c
 |[],_,_,h,_=>h
 |c0 :: cs,cells,off,h,h'=>by
  simp only[jn];refine qW (fun c hc=>?_) (fun c hc=>h' c (by simp[hc]));rcases List.mem_or_eq_of_mem_set hc with h1|rfl
  ·exact h c h1
  ·exact h' c (by simp)
theorem XQ {p q:Nat->Option (Nat×Nat)}(h:∀i x,p i=some x->q i=some x):∀ {vs:List (Nat×Value)} {arr r:Array Value},Instr.fill p arr vs=some r->Instr.fill q arr vs=some r
 |[],_,_,e=>e
 |(i,v) :: vs,arr,r,e=>by
  simp only[Instr.fill] at e ⊢;cases hp:p i with
  |none=>simp[hp] at e
  |some x=>
   obtain⟨off,size⟩:=x;simp only[hp,h i _ hp] at e ⊢;split at e
   ·cases e
   ·rename_i hc;rw[if_neg hc];exact XQ h e
theorem zaV (arr:Array Value)(off:Nat)(vs:Array Value) :
  (vs.zipIdx.foldl (fun cs (c,j)=>cs.setIfInBounds (off+j) c) arr).toList=yQ arr.toList off vs.toList:=by
 rw[<-Array.foldl_toList,Array.toList_zipIdx];generalize vs.toList=l;have:∀(l:List Value) (n:Nat) (arr:Array Value),(List.foldl (fun cs (x:Value×Nat)=>cs.setIfInBounds (off+x.2) x.1) arr (l.zipIdx n)).toList=yQ arr.toList (off+n) l:=by
  intro l
  induction l with
  |nil=>intro n arr;rfl
  |cons u l ih=>
   intro n arr;simp only[List.zipIdx_cons,List.foldl_cons,yQ];rw[ih (n+1)];simp[Nat.add_assoc]
 exact this l 0 arr
def RepP (σ:Mem)(G:Gh):List (Nat×T)->List (Nat×Value)->Prop
 |[],vs=>vs=[]
 |(i,c) :: r,vs=>∃u q,vs=(i,u) :: q/\RepT σ G c u/\RepP σ G r q
theorem yy (S:Stands C σ G s a w){place:Nat->Option (Nat×Nat)}:∀ {parts:List (Nat×T)} {cells r:List T} {vs:List (Nat×Value)} {arr:Array Value},vK place cells parts=some r->RepTU σ G cells arr.toList ->
  (∀c∈cells,∀j,c.ref=some j->s.h j≠none)->RepP σ G parts vs->(∀p∈parts,∀j,p.2.ref=some j->s.h j≠none) ->
  ∃arr',Instr.fill place arr vs=some arr'/\RepTU σ G r arr'.toList/\r.length=cells.length/\∀c∈r,∀j,c.ref=some j->s.h j≠none
 |[],cells,r,vs,arr,h,hr,hl,hp,_=>by
  simp only[vK,Option.some.injEq] at h;subst h;simp only[RepP] at hp;subst hp;exact⟨arr,by simp[Instr.fill],hr,rfl,hl⟩
 |(i,c) :: rest,cells,r,vs,arr,h,hr,hl,⟨u,q,e,h1,h2⟩,hpl=>by
  subst e;simp only[vK] at h;split at h
  ·rename_i off size cs hplace hcs;split at h
   ·rename_i hc;obtain⟨hlen,hle⟩:=hc;obtain⟨g1,g2⟩:=zx S hcs h1 (hpl (i,c) (by simp));have hu:u.cells.size=cs.length:=by rw[<-Array.length_toList];exact g1.length
    have harr:arr.size=cells.length:=by rw[<-Array.length_toList];exact hr.length
    have hr':=J7 (off:=off) hr g1;rw[<-zaV] at hr';have hl':∀c'∈jn cells off cs,∀j,c'.ref=some j->s.h j≠none:=qW (p:=fun c'=>∀j,c'.ref=some j->s.h j≠none) hl g2;obtain⟨arr',e1,e2,e3,e4⟩:=yy S h hr' hl' h2 (fun p hp=>hpl p (by simp[hp]));refine⟨arr',?_,e2,by rw[e3,zJ],e4⟩;simp only[Instr.fill,hplace];rw[if_neg (by simp[hu,hlen,harr];omega)];exact e1
   ·cases h
  ·cases h
theorem Zr (S:Stands C σ G s a w){t:TypeId}{parts:List (Nat×T)}{r:T}(h:JT C.P t parts=some r){vs:List (Nat×Value)}(hp:RepP σ G parts vs)(hpl:∀p∈parts,∀j,p.2.ref=some j->s.h j≠none) :
  ∃z,(Instr.build t vs.toArray).run C.P w = .ok z w/\RepT σ G r z/\∀k,r.ref=some k->s.h k≠none:=by
 unfold JT at h;split at h
 ·rename_i z pl hz hpl';split at h
  ·rename_i cells hcells;simp only[Option.map_eq_some_iff] at h;obtain⟨ds,hds,rfl⟩:=h;obtain⟨zv,z1,z2,z3,z4,_⟩:=Ws (σ:=σ) (G:=G) (w:=w) hz;obtain⟨arr,f1,f2,f3,f4⟩:=yy S hcells z2 (fun c hc j hj=>by rw[z4 c hc] at hj;cases hj) hp hpl;refine⟨.agg arr,?_,by simp only[RepT,Rep];exact⟨arr,rfl,f2.data hds⟩,by simp[T.ref]⟩;unfold kV at hpl';split at hpl'
   ·rename_i fs hfs;have hmap:(fs.mapM (m:=Sem) fun f=>do pure (f.offset,<-sizeOf f.type)).run C.P w = .ok pl.toArray w:=by
     rw[Array.mapM_eq_mapM_toList];simp only[Sem.run_map];have:∀(l:List Field) (pl:List (Nat×Nat)),(l.mapM fun f=>(szT C.P f.type).map fun n=>(f.offset,n))=some pl->(l.mapM (m:=Sem) fun f=>do pure (f.offset,<-sizeOf f.type)).run C.P w = .ok pl w:=by
      intro l
      induction l with
      |nil=>intro pl h;simp at h;subst h;simp
      |cons f l ih=>
       intro pl h;simp only[List.mapM_cons,Option.bind_eq_bind,Option.bind_eq_some_iff,Option.map_eq_some_iff,Option.pure_def,Option.some.injEq] at h;obtain⟨x,⟨n,hn,rfl⟩,q,hq,rfl⟩:=h;simp only[List.mapM_cons,Sem.run_bind,xu hn,Result.andThen_ok,Sem.run_pure,ih q hq]
     rw[this _ _ hpl'];rfl
    simp only[Instr.build,Sem.run_bind,z1,Result.andThen_ok,run_underlying hfs,hmap];simp only[List.getElem?_toArray,f1,Sem.run_pure]
   ·rename_i n e he;split at hpl'
    ·rename_i k hk;cases hpl';have f1':Instr.fill (fun i=>some (i*k,k)) zv.cells vs=some arr:=XQ (fun i x hx=>by
      rw[List.getElem?_map] at hx;simp only[Option.map_eq_some_iff] at hx;obtain⟨y,hy,rfl⟩:=hx;rw[List.getElem?_range (by
       rcases Nat.lt_or_ge i n with h|h
       ·exact h
       ·rw[List.getElem?_eq_none (by simpa using h)] at hy;cases hy)] at hy
      cases hy;rfl) f1
     simp only[Instr.build,Sem.run_bind,z1,Result.andThen_ok,run_underlying he,xu hk];simp only[f1',Sem.run_pure]
    ·cases hpl'
   ·cases hpl'
  ·cases h
 ·cases h
end
end Go.Enc
end
section
namespace Go.Enc
open Go.RowKit
def slT (P:Program)(t:TypeId):Option (TypeId×Nat×Nat×List Value):=
 match P.underlying t with
 |some (.slice e)=>match P.info? e with
  |some i=>match i.zero with
   |some z=>if z.cells.toList.all Value.oneCell'&&z.cells.size==i.size&&i.size != 0 then some (e,i.size,i.bytes,z.cells.toList) else none
   |none=>none
  |none=>none
 |_=>none
section
variable {C:Ctx} {σ:Mem} {G:Gh} {s:St} {a:Act} {w:World}
theorem WY {P:Program}{t e:TypeId}{size bytes:Nat}{zs:List Value}(h:slT P t=some (e,size,bytes,zs)) :
  ∃i z,P.underlying t=some (.slice e)/\P.info? e=some i/\i.zero=some z/\i.size=size/\i.bytes=bytes/\z.cells.toList=zs/\z.cells.size=size/\0<size/\∀u∈zs,u.oneCell'=true:=by
 unfold slT at h;split at h
 ·rename_i e' he;split at h
  ·rename_i i hi;split at h
   ·rename_i z hz;split at h
    ·rename_i hc;simp only[Option.some.injEq,Prod.mk.injEq] at h;obtain⟨rfl,rfl,rfl,rfl⟩:=h;simp only[Bool.and_eq_true,beq_iff_eq,bne_iff_ne] at hc;exact⟨i,z,he,hi,hz,rfl,rfl,rfl,hc.1.2,by omega,fun u hu=>(List.all_eq_true.1 hc.1.1) u hu⟩
    ·cases h
   ·cases h
  ·cases h
 ·cases h
theorem z9 {P:Program}(base:Nat)(t ty e:TypeId)(i:TypeInfo)(z:Value)(size bytes:Nat)(ht:P.underlying t=some (.slice e))(hi:P.info? e=some i)(hz:i.zero=some z)
  (hsize:i.size=size) (hby:i.bytes=bytes) (hzs:z.cells.size=size)
  (v:Value) (n:Nat) (xs:List Value) (hown:w.ownsRow base e size v n xs)
  (a:Addr) (m c:Nat) (news:List Value) (hl:news.length=m*size) (hnews:∀j u,news[j]?=some u->w.cell? (a.add j)=some u) (h1:∀u∈news,u.oneCell'=true)
  (h63:n+m<=maxLen) (hbytes:(n+m)*bytes<=140737488355328) (hbase:base<=w.heap.size) :
  ∃v' w',(Builtin.append_ #[t,t] ty #[v,.slice (some a) m c]).run P w = .ok v' w'/\w'.ownsRow base e size v' (n+m) (xs++news)/\w.grownBy w' v.ownBlock /\
   (v' = .slice none 0 0↔v = .slice none 0 0/\m=0)/\∀b,v'.ownBlock=some b->w.heap.size<=b\/v.ownBlock=some b:=by
 subst hsize;subst hby;have hsmall:n+m<=9223372036854775807:=by simp only[maxLen] at h63;omega
 have hlen:(xs++news).length=(n+m)*i.size:=by rw[List.length_append,hown.1,hl,Nat.add_mul]
 have grown:∀(old:Nat),old<n+m->∀(row:Option Nat),
   (w.drew.alloc (.cells (xs.toArray++news.toArray++Builtin.zeroCells z.cells (grownCap w (n+m) old e-(n+m))) e)).ownsRow base e i.size
    (.slice (some ⟨w.heap.size,0,none⟩) (n+m) (grownCap w (n+m) old e)) (n+m) (xs++news) /\
   w.grownBy (w.drew.alloc (.cells (xs.toArray++news.toArray++Builtin.zeroCells z.cells (grownCap w (n+m) old e-(n+m))) e)) row:=by
  intro old ho row;have hge:=grownCap_ge w (n+m) old e;have hcm:grownCap w (n+m) old e<=maxLen:=grownCap_le_maxLen w (n+m) old e h63;refine⟨⟨hlen,.inr ⟨w.heap.size,_,_,rfl,hbase,heap_alloc_new w.drew _,hge,hcm,?_,?_⟩⟩,⟨rfl,rfl,rfl,by simp,fun k hk _=>Below.heap_alloc w.drew _ k hk⟩⟩
  ·simp only[Array.size_append,List.size_toArray,size_zeroCells,hzs,hown.1,hl,<-Nat.add_mul];congr 1;omega
  ·simp only[Array.toList_append,List.append_assoc];rw[<-List.append_assoc,<-hlen];exact List.take_left
 rcases hown.2 with⟨rfl,rfl⟩|⟨g,cap,cur,rfl,hbg,hg,hnc,hcm,hcs,htake⟩
 ·have hx:xs=[]:=List.eq_nil_of_length_eq_zero (by simpa using hown.1);subst hx;by_cases hm:m=0
  ·subst hm;have hn:news=[]:=List.eq_nil_of_length_eq_zero (by simpa using hl);subst hn;refine⟨.slice none 0 0,w,?_,World.ownsRow_nil w base e i.size,⟨rfl,rfl,rfl,Nat.le_refl _,fun _ _ _=>rfl⟩,by simp,by simp[Value.ownBlock]⟩;simp[Builtin.append_,run_underlying ht,sizeOf,typeInfo,hi,Builtin.lenOf,Builtin.firstCells,loadCells,loadCellsFrom]
  ·have hr:=run_append_nil (P:=P) w t ty e i z ht hi hz a m c news hl hnews (by omega) (by omega) (by have hb:=hbytes;simp only[Nat.zero_add] at hb;omega);have hgr:=grown 0 (by omega) (Value.ownBlock (.slice none 0 0));simp only[Nat.zero_add,List.nil_append,Array.empty_append] at hgr ⊢;exact⟨_,_,hr,hgr.1,hgr.2,by simp[hm],fun b hb=>.inl (by simp only[Value.ownBlock,Option.some.injEq] at hb;omega)⟩
 ·by_cases hroom:n+m<=cap
  ·have hfit:n*i.size+news.length<=cur.size:=by rw[hl,hcs,<-Nat.add_mul];exact Nat.mul_le_mul_right _ hroom
   have hr:=run_append_room (P:=P) w t ty e i ht hi g n cap cur hg a m c news hl hnews h1 hroom hfit;refine⟨_,_,hr,⟨hlen,.inr ⟨g,cap,_,rfl,hbg,setRow_heap w g cur _ e _ hg,hroom,hcm,?_,?_⟩⟩,⟨rfl,rfl,rfl,by simp,fun k _ hk=>setRow_other w g k _ (fun e=>hk (by simp[Value.ownBlock,e]))⟩,by simp,fun b hb=>.inr hb⟩
   ·simp only[List.size_toArray,List.length_append,List.length_take,List.length_drop,Array.length_toList];omega
   ·rw[htake,<-hlen];exact List.take_left
  ·have holds:∀j u,xs[j]?=some u->w.cell? ((⟨g,0,none⟩:Addr).add j)=some u:=hown.cells (g:=g) rfl;have hr:=run_append_grow (P:=P) w t ty e i z ht hi hz ⟨g,0,none⟩ n cap xs hown.1 holds a m c news hl hnews (by omega) (by omega) (growslice_fits (by omega) hbytes);have hgr:=grown cap (by omega) (Value.ownBlock (.slice (some ⟨g,0,none⟩) n cap));exact⟨_,_,hr,hgr.1,hgr.2,by simp,fun b hb=>.inl (by simp only[Value.ownBlock,Option.some.injEq] at hb;omega)⟩
theorem zK {P:Program}(base:Nat)(t ty e:TypeId)(i:TypeInfo)(size:Nat)(ht:P.underlying t=some (.slice e))(hi:P.info? e=some i)
  (v:Value) (n:Nat) (xs:List Value) (hown:w.ownsRow base e size v n xs):(Builtin.append_ #[t,t] ty #[v,.slice none 0 0]).run P w = .ok v w:=by
 rcases hown.2 with⟨rfl,rfl⟩|⟨g,cap,cur,rfl,hbg,hg,hnc,hcm,hcs,htake⟩
 ·simp[Builtin.append_,run_underlying ht,sizeOf,typeInfo,hi,Builtin.lenOf,Builtin.firstCells]
 ·simp[Builtin.append_,run_underlying ht,sizeOf,typeInfo,hi,Builtin.lenOf,Builtin.firstCells,hnc,Go.storeCells]
def srcT (h:Nat->Option Obj)(size:Nat):T->Option (List T)
 |.d (.sl esz cells)=>if esz=size then some (cells.map .d) else none
 |.d (.v (.slice none 0 0))=>some []
 |.gs k=>match h k with
  |some ⟨some (_,esz,_),cells⟩=>if esz=size then some cells else none
  |_=>none
 |_=>none
theorem K6 (S:Stands C σ G s a w){size:Nat}{y:T}{cs:List T}(h:srcT s.h size y=some cs){u:Value}(hu:RepT σ G y u) :
  ((u = .slice none 0 0/\cs=[])\/∃p m c us,u = .slice (some p) m c/\us.length=m*size/\(∀j v,us[j]?=some v->w.cell? (p.add j)=some v)/\RepTU σ G cs us)/\∀c∈cs,∀k,c.ref=some k->s.h k≠none:=by
 unfold srcT at h;split at h
 ·rename_i esz cells;split at h
  ·rename_i he;subst he;cases h;refine⟨?_,fun c hc k hk=>by simp only[List.mem_map] at hc;obtain⟨d,_,rfl⟩:=hc;simp[T.ref] at hk⟩;simp only[RepT,Rep] at hu;rcases hu with⟨rfl,rfl⟩|⟨b,o,len,cap,rfl,hlen,_,_,hcells⟩|⟨q,cap,rfl,rfl,_⟩
   ·exact .inl ⟨rfl,rfl⟩
   ·obtain⟨us,h1,h2⟩:=hcells.values;exact .inr ⟨_,len,cap,us,rfl,by rw[h1.length,hlen],fun j v hj=>by rw[x8];exact S.inv _ _ _ (h2 j v hj),RepU.asT h1⟩
   ·exact .inr ⟨q,0,cap,[],rfl,by simp,fun j v hj=>by simp at hj,rfl⟩
  ·cases h
 ·cases h;simp only[RepT,Rep] at hu;exact⟨.inl ⟨hu,rfl⟩,by simp⟩
 ·rename_i k;split at h
  ·rename_i e esz nn cells ho;split at h
   ·rename_i he;subst he;cases h;refine⟨?_,S.deep k _ ho⟩;have H:=S.obj k _ ho;simp only[ObjIs] at H;obtain⟨n,us,g1,g2,g3,g4⟩:=H;simp only[RepT] at hu;rcases g1.2 with⟨hnil,hz⟩|⟨g,cap,cur,hval,_⟩
    ·refine .inl ⟨by rw[hu,hnil],?_⟩;have:=g2.length;rw[g1.1,hz] at this;exact List.eq_nil_of_length_eq_zero (by simpa using this.symm)
    ·refine .inr ⟨⟨g,0,none⟩,n,cap,us,by rw[hu,hval],g1.1,g1.cells (by rw[hval];rfl),g2⟩
   ·cases h
  ·cases h
 ·cases h
theorem zM {k:Nat}{cs:List T}(h:∀c∈cs,∀j,c.ref=some j->s.h j≠none):∀c∈cs.map (wU k),∀j,c.ref=some j->(s.kill k).h j≠none:=by
 intro c hc j hj;simp only[List.mem_map] at hc;obtain⟨c',hc',rfl⟩:=hc;obtain⟨h1,h2⟩:=vH hj;have h3:=h c' hc' j h1;simp only[St.kill,h2,if_false];cases h4:s.h j with
 |none=>exact absurd h4 h3
 |some o=>simp
theorem xt {G':Gh}{k:Nat}{g:Option Nat×Value}{cs:List T}(hk:s.h k=none)(h:∀c∈cs,∀j,c.ref=some j->s.h j≠none):∀c∈cs,∀j,c.ref=some j->upd G' k g j=G' j:=
 fun c hc j hj=>wD G' g (fun e=>h c hc j hj (e▸hk))
theorem Stands.appendGs (S:Stands C σ G s a w){t ty:TypeId}{e:TypeId}{size bytes:Nat}{zs:List Value}(ht:slT C.P t=some (e,size,bytes,zs))
  {k:Nat} {nn:Bool} {cells:List T} (ho:s.h k=some ⟨some (e,size,nn),cells⟩) {y:T} {cs:List T} (hy:srcT s.h size y=some cs) {v u:Value} (hv:RepT σ G (.gs k) v) (hu:RepT σ G y u)
  (hfit:(cells.length+cs.length)/size*bytes<=140737488355328) (hmax:(cells.length+cs.length)/size<=maxLen) {k2:Nat} (hkb:C.kb<=k2) (hk2:(s.kill k).h k2=none) :
  ∃v' w',(Builtin.append_ #[t,t] ty #[v,u]).run C.P w = .ok v' w' /\
   Stands C σ (upd G k2 (v'.ownBlock,v')) ((s.kill k).new k2 ⟨some (e,size,nn),(cells++cs).map (wU k)⟩) a w':=by
 obtain⟨i,z,t1,t2,t3,t4,t5,t6,t7,t8,t9⟩:=WY ht;have H:=S.obj k _ ho;simp only[ObjIs] at H;obtain⟨n,us,g1,g2,g3,g4⟩:=H;simp only[RepT] at hv;subst hv;obtain⟨hsrc,hsl⟩:=K6 S hy hu;have hcl:us.length=cells.length:=g2.length;have hlivek:∀c∈(cells++cs).map (wU k),∀j,c.ref=some j->(s.kill k).h j≠none:=zM fun c hc=>by
  rcases List.mem_append.1 hc with h|h
  ·exact S.deep k _ ho c h
  ·exact hsl c h
 have hrow:∀b,(G k).2.ownBlock=some b->C.base<=b/\(∀i,σ b i=none)/\∀k' o',(s.kill k).h k'=some o'->(G k').1≠some b:=fun b hb=>by
  refine⟨(g1.lt b hb).1,S.own k _ b ho (by rw[g3];exact hb),fun k' o' h' e'=>?_⟩;simp only[St.kill] at h';split at h'
  ·cases h'
  ·rename_i hne;simp only[Option.map_eq_some_iff] at h';obtain⟨o'',h'',_⟩:=h';exact hne (S.sep k' k o'' _ b h'' ho e' (by rw[g3];exact hb))
 have hcel:=qZ g1;rcases hsrc with⟨rfl,rfl⟩|⟨p,m,c,us',rfl,hlen,hcell,hrep⟩
 ·refine⟨(G k).2,w,zK (P:=C.P) C.base t ty e i size t1 t2 _ n us g1,?_⟩;have hG:w.grownBy w (G k).2.ownBlock:=⟨rfl,rfl,rfl,Nat.le_refl _,fun _ _ _=>rfl⟩;refine(S.kill k).fresh hkb hk2 hG hrow hcel ?_ hlivek (fun b hb=>.inr hb);simp only[ObjIs,wq,List.append_nil];simp only[List.append_nil] at hlivek;refine⟨n,us,g1,g2.kill.regh (xt hk2 hlivek),trivial,fun h1 h2=>g4 h1 (by simpa using h2)⟩
 ·have hn:(cells.length+cs.length)/size=n+m:=by
   rw[<-hcl,g1.1,<-hrep.length,hlen,<-Nat.add_mul,Nat.mul_div_cancel _ t8]
  obtain⟨v',w',r1,r2,r3,r4,r5⟩:=z9 (P:=C.P) (w:=w) C.base t ty e i z size bytes t1 t2 t3 t4 t5 t7 _ n us g1 p m c us' hlen hcell hrep.one (by rw[<-hn];exact hmax) (by rw[<-hn];exact hfit) S.size;refine⟨v',w',r1,?_⟩;refine(S.kill k).fresh hkb hk2 r3 hrow hcel ?_ hlivek r5;simp only[ObjIs,wq];refine⟨n+m,us++us',r2,(g2.append hrep).kill.regh (xt hk2 hlivek),trivial,fun h1 h2=>?_⟩;simp only[List.map_eq_nil_iff,List.append_eq_nil_iff] at h2;refine r4.2 ⟨g4 h1 h2.1,?_⟩;have hz:=hrep.length;rw[hlen,h2.2] at hz;have:m=0\/size=0:=Nat.mul_eq_zero.1 (by simpa using hz);omega
theorem Stands.appendNil (S:Stands C σ G s a w){t ty:TypeId}{e:TypeId}{size bytes:Nat}{zs:List Value}(ht:slT C.P t=some (e,size,bytes,zs))
  {y:T} {cs:List T} (hy:srcT s.h size y=some cs) {u:Value} (hu:RepT σ G y u)
  (hfit:cs.length/size*bytes<=140737488355328) (hmax:cs.length/size<=maxLen) {k2:Nat} (hkb:C.kb<=k2) (hk2:s.h k2=none) :
  ∃v' w',(Builtin.append_ #[t,t] ty #[.slice none 0 0,u]).run C.P w = .ok v' w' /\
   Stands C σ (upd G k2 (v'.ownBlock,v')) (s.new k2 ⟨some (e,size,true),cs⟩) a w':=by
 obtain⟨i,z,t1,t2,t3,t4,t5,t6,t7,t8,t9⟩:=WY ht;obtain⟨hsrc,hsl⟩:=K6 S hy hu;have g1:=World.ownsRow_nil w C.base e size;rcases hsrc with⟨rfl,rfl⟩|⟨p,m,c,us',rfl,hlen,hcell,hrep⟩
 ·refine⟨.slice none 0 0,w,zK (P:=C.P) C.base t ty e i size t1 t2 _ 0 [] g1,?_⟩;have hG:w.grownBy w (Option.none):=⟨rfl,rfl,rfl,Nat.le_refl _,fun _ _ _=>rfl⟩;refine S.fresh hkb hk2 hG (by simp) (by simp) ?_ hsl (fun b hb=>by simp[Value.ownBlock] at hb);simp only[ObjIs,wq];exact⟨0,[],g1,rfl,trivial,fun _ _=>trivial⟩
 ·have hn:cs.length/size=m:=by rw[<-hrep.length,hlen,Nat.mul_div_cancel _ t8]
  obtain⟨v',w',r1,r2,r3,r4,r5⟩:=z9 (P:=C.P) (w:=w) C.base t ty e i z size bytes t1 t2 t3 t4 t5 t7 _ 0 [] g1 p m c us' hlen hcell hrep.one (by rw[Nat.zero_add,<-hn];exact hmax) (by rw[Nat.zero_add,<-hn];exact hfit) S.size;refine⟨v',w',r1,?_⟩;refine S.fresh hkb hk2 r3 (by simp[Value.ownBlock]) (by simp[Value.ownBlock]) ?_ hsl (fun b hb=>by simpa [Value.ownBlock] using r5 b hb);simp only[ObjIs,wq];simp only[Nat.zero_add,List.nil_append] at r2;refine⟨m,us',r2,hrep.regh (xt hk2 hsl),trivial,fun h1 h2=>r4.2 ⟨rfl,?_⟩⟩;have hz:=hrep.length;rw[hlen,h2] at hz;have:m=0\/size=0:=Nat.mul_eq_zero.1 (by simpa using hz);omega
end
end Go.Enc
end
section
namespace Go.Enc
open Go.RowKit
def Vj (z:Value):List Value->Bool:=fun l=>l.all fun u=>match u,z with
 |.int k a,.int k' b=>k==k'&&a==b
 |.float k a,.float k' b=>k==k'&&a==b
 |_,_=>false
theorem Um {z:Value}{l:List Value}(h:Vj z l=true):∀u∈l,u=z:=by
 intro u hu;have:=List.all_eq_true.1 h u hu;split at this<;>simp_all
section
variable {C:Ctx} {σ:Mem} {G:Gh} {s:St} {a:Act} {w:World}
theorem zE {c:T}:∀ {n:Nat} {us:List Value},us.length=n->(∀u∈us,u.oneCell'=true/\RepT σ G c u)->RepTU σ G (List.replicate n c) us
 |0,us,h,_=>by have:us=[]:=List.eq_nil_of_length_eq_zero h;subst this;simp[RepTU]
 |n+1,[],h,_=>by simp at h
 |n+1,u :: us,h,hu=>by
  rw[List.replicate_succ];exact⟨u,us,rfl,(hu u (by simp)).1,(hu u (by simp)).2,zE (by simpa using h) (fun v hv=>hu v (by simp[hv]))⟩
theorem Xr {zs:Array Value}(h0:0<zs.size){n:Nat}:∀u∈((Array.range n).map (fun i=>zs[i % zs.size]!)).toList,u∈zs.toList:=by
 intro u hu;simp only[Array.toList_map,List.mem_map] at hu;obtain⟨i,_,rfl⟩:=hu;have:i % zs.size<zs.size:=Nat.mod_lt _ h0;rw[getElem!_pos zs (i % zs.size) this];exact Array.getElem_mem_toList this
theorem Stands.make (S:Stands C σ G s a w){t:TypeId}{e:TypeId}{size bytes:Nat}{zs:List Value}{z:Value}(ht:slT C.P t=some (e,size,bytes,zs))(hz:Vj z zs=true)
  {n:Nat} (hn:n*bytes<=281474976710656) (hm:n<=maxLen) {k:Nat} (hkb:C.kb<=k) (hk:s.h k=none) :
  ∃v w',(Instr.makeSlice t (.int .i64 n) (.int .i64 n)).run C.P w = .ok v w' /\
   Stands C σ (upd G k (v.ownBlock,v)) (s.new k ⟨some (e,size,false),List.replicate (n*size) (.d (.v z))⟩) a w':=by
 obtain⟨i,zv,t1,t2,t3,t4,t5,t6,t7,t8,t9⟩:=WY ht;have hfz:0<zv.cells.size:=by rw[t7];exact t8
 have hr:=run_make (P:=C.P) w t e i zv t1 t2 t3 .i64 .i64 n n (by omega) (Int.le_refl _) (by
  rw[t5];have h:((n*bytes:Nat):Int)<=281474976710656:=by omega
  rw[Int.natCast_mul,Int.mul_comm] at h;exact h) (by simp only[maxLen] at hm;omega)
 simp only[Int.toNat_natCast,t4,madeCells] at hr;refine⟨_,_,hr,?_⟩;refine S.fresh hkb hk (row:=none) (World.grownBy_alloc w _ none) (by simp) (by simp) ?_ (fun c hc j hj=>by rw[List.eq_of_mem_replicate hc] at hj;simp[T.ref] at hj) (fun b hb=>.inl (by simp only[Value.ownBlock,Option.some.injEq] at hb;omega));simp only[ObjIs,wq];have hlen:((Array.range (n*size)).map (zv.cells[· % zv.cells.size]!)).toList.length=n*size:=by simp
 refine⟨n,((Array.range (n*size)).map (zv.cells[· % zv.cells.size]!)).toList,⟨hlen,.inr ⟨w.heap.size,n,_,rfl,S.size,heap_alloc_new w _,Nat.le_refl _,hm,by simp,?_⟩⟩,zE hlen ?_,trivial,by simp⟩
 ·rw[List.take_of_length_le (by simp)]
 ·intro u hu;have h1:=Xr hfz u hu;rw[t6] at h1;exact⟨t9 u h1,by simp only[RepT,Rep];exact Um hz u h1⟩
theorem Stands.lit (S:Stands C σ G s a w){t:TypeId}{e:TypeId}{size bytes:Nat}{zs:List Value}(ht:slT C.P t=some (e,size,bytes,zs))
  {len:Nat} (hpos:0<len) (hlen:len*size<=16777216) {parts:List (Nat×T)} {vs:List (Nat×Value)} (hp:RepP σ G parts vs) (hpl:∀p∈parts,∀j,p.2.ref=some j->s.h j≠none)
  {cells:List T} (hf:vK (fun i=>some (i*size,size)) (List.replicate (len*size) (.d .any)) parts=some cells) {k:Nat} (hkb:C.kb<=k) (hk:s.h k=none) :
  ∃v w',(Instr.buildSlice t len vs.toArray).run C.P w = .ok v w' /\
   Stands C σ (upd G k (v.ownBlock,v)) (s.new k ⟨some (e,size,false),cells⟩) a w':=by
 obtain⟨i,zv,t1,t2,t3,t4,t5,t6,t7,t8,t9⟩:=WY ht;have hfz:0<zv.cells.size:=by rw[t7];exact t8
 have hmany:¬(16777216<len*size):=by omega
 have init:∀(arr:Array Value),arr=(Array.range (len*size)).map (zv.cells[· % zv.cells.size]!)->RepTU σ G (List.replicate (len*size) (.d .any)) arr.toList:=fun arr e=>by
  subst e;exact zE (by simp) (fun u hu=>⟨t9 u (by rw[<-t6];exact Xr hfz u hu),by simp[RepT,Rep]⟩)
 obtain⟨arr,f1,f2,f3,f4⟩:=yy S hf (init _ rfl) (fun c hc j hj=>by rw[List.eq_of_mem_replicate hc] at hj;simp[T.ref] at hj) hp hpl;have hal:arr.size=len*size:=by
  have:=f2.length;rw[f3] at this
  simpa using this
 refine⟨.slice (some ⟨w.heap.size,0,none⟩) len len,w.alloc (.cells arr e),?_,?_⟩
 ·have hz0:¬(len*size=0):=fun h=>by rcases Nat.mul_eq_zero.1 h with h|h<;>omega
  have hsz:=xu (w:=w) (show szT C.P e=some size by simp[szT,t2,t4]);have hzv:(zeroValue e).run C.P w = .ok zv w:=by simp[zeroValue,typeInfo,t2,t3]
  simp only[Instr.buildSlice,Sem.run_bind,run_underlying t1,Result.andThen_ok,hsz];rw[if_neg (by simpa using hmany)];simp only[hz0,if_false,Sem.run_bind,Sem.run_pure,Result.andThen_ok,hzv,f1];simp[newRow]
 ·refine S.fresh hkb hk (row:=none) (World.grownBy_alloc w _ none) (by simp) (by simp) ?_ f4 (fun b hb=>.inl (by simp only[Value.ownBlock,Option.some.injEq] at hb;omega));simp only[ObjIs,wq];refine⟨len,arr.toList,⟨by simpa using hal,.inr ⟨w.heap.size,len,arr,rfl,S.size,heap_alloc_new w _,Nat.le_refl _,?_,hal,?_⟩⟩,f2.regh (xt hk f4),trivial,by simp⟩
  ·have:len<=len*size:=Nat.le_mul_of_pos_right _ t8;simp only[maxLen];omega
  ·rw[List.take_of_length_le (by simp[hal])]
end
end Go.Enc
end
