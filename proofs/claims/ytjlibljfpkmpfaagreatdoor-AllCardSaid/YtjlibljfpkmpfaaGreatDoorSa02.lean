/-
  What the operations that only read yield, as data; that the machine yields just that. Addresses, slices, lengths, parts: what they yield, as data. Arithmetic, comparisons, conversions: what they yield, as data. Arithmetic, comparisons, conversions: the machine yields what is told.
-/
import Derived.Test.YtjlibljfpkmpfaaGreatDoorSa01
import Derived.Laws.FloatArith
set_option maxRecDepth 100000
set_option linter.unusedSimpArgs false
set_option linter.unusedVariables false
section
namespace Go.Enc
open Go.RowKit
def szT (P:Program)(t:TypeId):Option Nat:=(P.info? t).map (·.size)
def agT (P:Program)(t:TypeId):Option Bool:=(P.underlying t).map fun | .struct _=>true | .array _ _=>true|_=>false
def fldT (P:Program)(t:TypeId)(f:Nat):Option Nat:=
 match P.underlying t with
 |some (.struct fs)=>match fs[f]? with
  |some fl=>match szT P fl.type with
   |some (_+1)=>some fl.offset
   |_=>none
  |none=>none
 |_=>none
def elT (P:Program)(t:TypeId):Option Nat:=
 match P.underlying t with
 |some (.slice e)=>match szT P e with
  |some (n+1)=>some (n+1)
  |_=>none
 |_=>none
def arT (P:Program)(t:TypeId):Option Nat:=
 match P.underlying t with
 |some (.array n e)=>match szT P e,agT P e with
  |some 1,some false=>some n
  |_,_=>none
 |_=>none
section
variable {P:Program} {w:World}
theorem xu {t:TypeId}{n:Nat}(h:szT P t=some n):(sizeOf t).run P w = .ok n w:=by
 simp only[szT,Option.map_eq_some_iff] at h;obtain⟨i,h1,rfl⟩:=h;simp[sizeOf,typeInfo,h1]
theorem W3 {t:TypeId}{b:Bool}(h:agT P t=some b):(isAgg t).run P w = .ok b w:=by
 simp only[agT,Option.map_eq_some_iff] at h;obtain⟨i,h1,rfl⟩:=h;cases i<;>simp[isAgg,run_underlying h1]
end
def opn (t:TypeId):Option T->Option T
 |some (.hid x)=>if t==61 then some (.d x) else none
 |r=>r
def xe (P:Program)(E:Nat->Option Value)(h:Nat->Option Obj)(t:TypeId):T->Option T
 |.ptr k off=>match h k with
  |none=>none
  |some o=>match agT P t with
   |some false=>opn t o.cells[off]?
   |some true=>match szT P t with
    |some n=>if off+n<=o.cells.length then (asDs ((o.cells.drop off).take n)).map fun ds=>.d (.agg ds) else none
    |none=>none
   |none=>none
 |.d (.pd cells off)=>match agT P t with
   |some false=>cells[off]?.map .d
   |some true=>match szT P t with
    |some n=>if off+n<=cells.length then some (.d (.agg ((cells.drop off).take n))) else none
    |none=>none
   |none=>none
 |.d (.v (.pointer (some ⟨g,0,none⟩)))=>match agT P t with
   |some false=>(E g).map fun u=>.d (glbD g u)
   |_=>none
 |_=>none
section
variable {C:Ctx} {σ:Mem} {G:Gh} {s:St} {a:Act} {w:World}
theorem Stands.row (S:Stands C σ G s a w){k:Nat}{o:Obj}(ho:s.h k=some o){b:Nat}(hb:(G k).1=some b) :
  C.base<=b/\∃cur ty us,w.heap[b]?=some (.cells cur ty (0,0))/\RepTU σ G o.cells us/\∃sp,cur.toList=us++sp:=by
 have H:=S.obj k o ho;unfold ObjIs at H;split at H
 ·obtain⟨b',us,ty,h1,h2,h3,h4,_⟩:=H;rw[h1] at hb;cases hb;exact⟨h2,us,ty,us.toList,h3,h4,[],by simp⟩
 ·rename_i e size nn _;obtain⟨n,us,h1,h2,h3,_⟩:=H;rw[h3] at hb;obtain⟨hx,hor⟩:=h1;rcases hor with⟨hn,_⟩|⟨g,cap,cur,hv,hg,hh,hnc,hcm,hcs,htk⟩
  ·rw[hn] at hb;simp[Value.ownBlock] at hb
  ·rw[hv] at hb;simp only[Value.ownBlock,Option.some.injEq] at hb;subst hb;refine⟨hg,cur,_,us,hh,h2,cur.toList.drop (n*size),?_⟩;rw[<-htk,List.take_append_drop]
theorem Stands.cellPtr (S:Stands C σ G s a w){k:Nat}{o:Obj}(ho:s.h k=some o){b:Nat}(hb:(G k).1=some b){i:Nat}{c:T}(hc:o.cells[i]?=some c) :
  ∃u,w.cell? ⟨b,i,none⟩=some u/\u.oneCell'=true/\RepT σ G c u:=by
 obtain⟨_,cur,ty,us,h1,h2,sp,h3⟩:=S.row ho hb;obtain⟨u,h4,h5,h6⟩:=h2.get i c hc;refine⟨u,?_,h5,h6⟩;rw[cell_of_row w b i cur ty (0,0) h1,<-Array.getElem?_toList,h3,List.getElem?_append_left (by
  rcases Nat.lt_or_ge i us.length with h|h
  ·exact h
  ·simp[List.getElem?_eq_none h] at h4)]
 exact h4
theorem x8 (b o i:Nat):(⟨b,o,none⟩:Addr).add i=⟨b,o+i,none⟩:=by
 unfold Addr.add;split<;>simp_all
theorem xv {P:Program}{w:World}{t:TypeId}{b o:Nat}{u:Value}(ht:agT P t=some false)(hc:w.cell? ⟨b,o,none⟩=some u) :
  (Instr.loadAt t (.pointer (some ⟨b,o,none⟩))).run P w = .ok u w:=by
 simp[Instr.loadAt,Instr.sureAddr,loadVar,W3 ht,hc]
theorem Wk {P:Program}{w:World}{t:TypeId}{b o:Nat}{us:List Value}(ht:agT P t=some true)(hn:szT P t=some us.length)
  (hc:∀i u,us[i]?=some u->w.cell? ⟨b,o+i,none⟩=some u) :
  (Instr.loadAt t (.pointer (some ⟨b,o,none⟩))).run P w = .ok (.agg us.toArray) w:=by
 have:=run_loadCells_list (P:=P) w ⟨b,o,none⟩ us (fun j v hj=>by rw[x8];exact hc j v hj);simp[Instr.loadAt,Instr.sureAddr,loadVar,W3 ht,xu hn,this]
theorem Yh {t:TypeId}{c:Option T}{r:T}(h:opn t c=some r):c=some r\/∃x,c=some (.hid x)/\r = .d x:=by
 unfold opn at h;split at h
 ·split at h
  ·cases h;exact .inr ⟨_,rfl,rfl⟩
  ·cases h
 ·exact .inl h
theorem Kb (S:Stands C σ G s a w){t:TypeId}{x r:T}(h:xe C.P C.E s.h t x=some r){u:Value}(hu:RepT σ G x u) :
  ∃v,(Instr.loadAt t u).run C.P w = .ok v w/\RepT σ G r v/\∀k,r.ref=some k->s.h k≠none:=by
 unfold xe at h;split at h
 ·rename_i k off;obtain⟨b,hb,rfl⟩:=hu;split at h
  ·cases h
  ·rename_i o ho;split at h
   ·rename_i ht;rcases Yh h with hc|⟨x,hc,rfl⟩
    ·obtain⟨v,h1,h2,h3⟩:=S.cellPtr ho hb hc;exact⟨v,xv ht h1,h3,S.deep k o ho r (List.mem_of_getElem? hc)⟩
    ·obtain⟨v,h1,h2,h3⟩:=S.cellPtr ho hb hc;exact⟨v,xv ht h1,h3,by simp[T.ref]⟩
   ·rename_i ht;split at h
    ·rename_i n hn;split at h
     ·rename_i hle;simp only[Option.map_eq_some_iff] at h;obtain⟨ds,hds,rfl⟩:=h;obtain⟨_,cur,ty,us,h1,h2,sp,h3⟩:=S.row ho hb;have hl:=h2.length;have h4:=((h2.drop off).take n).data hds;have h5:((us.drop off).take n).length=n:=by simp[hl];omega
      refine⟨_,Wk (us:=(us.drop off).take n) ht (by rw[h5];exact hn) (fun i u hi=>?_),?_,?_⟩
      ·rw[cell_of_row w b (off+i) cur ty (0,0) h1,<-Array.getElem?_toList,h3];rw[List.getElem?_take] at hi;split at hi
       ·rw[List.getElem?_drop] at hi;rw[List.getElem?_append_left (by
         rcases Nat.lt_or_ge (off+i) us.length with h|h
         ·exact h
         ·simp[List.getElem?_eq_none h] at hi)]
        exact hi
       ·cases hi
      ·simp only[RepT,Rep];exact⟨_,rfl,by simpa using h4⟩
      ·simp[T.ref]
     ·cases h
    ·cases h
   ·cases h
 ·rename_i cells off;simp only[RepT,Rep] at hu;obtain⟨b,o,rfl,hc⟩:=hu;split at h
  ·rename_i ht;simp only[Option.map_eq_some_iff] at h;obtain⟨d,hd,rfl⟩:=h;obtain⟨v,h1,h2,h3⟩:=hc.get off d hd;exact⟨v,xv ht (S.inv _ _ _ h1),h3,by simp[T.ref]⟩
  ·rename_i ht;split at h
   ·rename_i n hn;split at h
    ·rename_i hle;cases h;obtain⟨us,h1,h2⟩:=((hc.drop off).take n).values;have hl:=h1.length;have hlen:us.length=n:=by rw[hl];simp;omega
     refine⟨_,Wk (us:=us) ht (by rw[hlen];exact hn) (fun i u hi=>S.inv _ _ _ (h2 i u hi)),?_,?_⟩
     ·simp only[RepT,Rep];exact⟨_,rfl,by simpa using h1⟩
     ·simp[T.ref]
    ·cases h
   ·cases h
  ·cases h
 ·rename_i g;simp only[RepT,Rep] at hu;subst hu;split at h
  ·rename_i ht;simp only[Option.map_eq_some_iff] at h;obtain⟨v,hv,rfl⟩:=h;exact⟨v,xv ht (S.inv _ _ _ (S.le _ _ _ (S.glob _ _ hv))),S.glbD hv,by simp[T.ref]⟩
  ·cases h
 ·cases h
end
end Go.Enc
end
section
namespace Go.Enc
open Go.RowKit
def JP (P:Program)(t:TypeId)(f:Nat):T->Option T
 |.ptr k off=>(fldT P t f).map fun o=>.ptr k (off+o)
 |.d (.pd cells off)=>(fldT P t f).map fun o=>.d (.pd cells (off+o))
 |_=>none
def kF (P:Program)(h:Nat->Option Obj)(t:TypeId):T->T->Option T
 |.d (.sl esz cells),.d (.v (.int _ i))=>match elT P t with
  |some n=>if n=esz/\0<=i/\i.toNat*esz<cells.length then some (.d (.pd cells (i.toNat*esz))) else none
  |none=>none
 |.gs k,.d (.v (.int _ i))=>match elT P t,h k with
  |some n,some ⟨some (_,esz,_),cells⟩=>if n=esz/\0<=i/\i.toNat*esz<cells.length then some (.ptr k (i.toNat*esz)) else none
  |_,_=>none
 |.vw k off len,.d (.v (.int _ i))=>match elT P t,h k with
  |some n,some ⟨some (_,esz,_),cells⟩=>if n=esz/\0<=i/\i.toNat<len/\off+i.toNat*esz<cells.length then some (.ptr k (off+i.toNat*esz)) else none
  |_,_=>none
 |_,_=>none
def lenT (P:Program)(h:Nat->Option Obj)(t:TypeId):T->Option T
 |.d (.sl esz cells)=>match elT P t with
  |some n=>if n=esz then some (.d (.v (.int .i64 (cells.length/esz:Nat)))) else none
  |none=>none
 |.d (.v (.slice none 0 0))=>match elT P t with
  |some _=>some (.d (.v (.int .i64 0)))
  |none=>none
 |.gs k=>match elT P t,h k with
  |some n,some ⟨some (_,esz,_),cells⟩=>if n=esz then some (.d (.v (.int .i64 (cells.length/esz:Nat)))) else none
  |_,_=>none
 |.vw k _ len=>match elT P t,h k with
  |some n,some ⟨some (_,esz,_),_⟩=>if n=esz then some (.d (.v (.int .i64 len))) else none
  |_,_=>none
 |_=>none
def x6 (dflt:Int):Option T->Option Int
 |none=>some dflt
 |some (.d (.v (.int _ i)))=>some i
 |_=>none
def qL (P:Program)(hp:Nat->Option Obj)(t:TypeId)(lo hi mx:Option T):T->Option T
 |.d (.sl esz cells)=>match elT P t,x6 0 lo,x6 (cells.length/esz:Nat) hi,mx with
  |some n,some l,some h,none=>if n=esz/\0<=l/\l<=h/\h.toNat*esz<=cells.length then some (.d (.sl esz ((cells.drop (l.toNat*esz)).take ((h.toNat-l.toNat)*esz)))) else none
  |_,_,_,_=>none
 |.gs k=>match hp k with
  |some ⟨some (_,esz,_),cells⟩=>match elT P t,x6 0 lo,x6 (cells.length/esz:Nat) hi,mx with
   |some n,some l,some h,none=>if n=esz/\0<=l/\l<h/\h.toNat*esz<=cells.length then some (.vw k (l.toNat*esz) (h.toNat-l.toNat)) else none
   |_,_,_,_=>none
  |_=>none
 |_=>none
def vM (i:Nat):T->Option T
 |.d (.tup ds)=>ds[i]?.map .d
 |.tp k x=>match i with
  |0=>some (.gs k)
  |1=>some (.d x)
  |_=>none
 |_=>none
def xM (P:Program)(t:TypeId):T->T->Option T
 |.d (.agg cells),.d (.v (.int _ i))=>match arT P t with
  |some n=>if 0<=i/\i<n/\cells.length=n then cells[i.toNat]?.map .d else none
  |none=>none
 |_,_=>none
section
variable {C:Ctx} {σ:Mem} {G:Gh} {s:St} {a:Act} {w:World}
theorem Zg (S:Stands C σ G s a w){t:TypeId}{f:Nat}{x r:T}(h:JP C.P t f x=some r){u:Value}(hu:RepT σ G x u)(hl:∀k,x.ref=some k->s.h k≠none) :
  ∃v,(Instr.fieldAt t u f).run C.P w = .ok v w/\RepT σ G r v/\∀k,r.ref=some k->s.h k≠none:=by
 have key:∀o,fldT C.P t f=some o->∀b off,(Instr.fieldAt t (.pointer (some ⟨b,off,none⟩)) f).run C.P w = .ok (.pointer (some ⟨b,off+o,none⟩)) w:=by
  intro o ho b off;unfold fldT at ho;split at ho
  ·rename_i fs hfs;split at ho
   ·rename_i fl hfl;split at ho
    ·rename_i m hm;cases ho;simp[Instr.fieldAt,run_underlying hfs,hfl,Instr.sureAddr,fieldPlace,xu hm,x8]
    ·cases ho
   ·cases ho
  ·cases ho
 unfold JP at h;split at h
 ·rename_i k off;simp only[Option.map_eq_some_iff] at h;obtain⟨o,ho,rfl⟩:=h;obtain⟨b,hb,rfl⟩:=hu;exact⟨_,key o ho b off,⟨b,hb,rfl⟩,fun k' hk=>hl k' (by simpa [T.ref] using hk)⟩
 ·rename_i cells off;simp only[Option.map_eq_some_iff] at h;obtain⟨o,ho,rfl⟩:=h;simp only[RepT,Rep] at hu;obtain⟨b,o',rfl,hc⟩:=hu;exact⟨_,key o ho b _,by simp only[RepT,Rep];exact⟨b,o',by simp[Nat.add_assoc],hc⟩,by simp[T.ref]⟩
 ·cases h
theorem qD {P:Program}{t:TypeId}{n:Nat}(h:elT P t=some n):∃e,P.underlying t=some (.slice e)/\szT P e=some n/\0<n:=by
 unfold elT at h;split at h
 ·rename_i e he;split at h
  ·rename_i m hm;cases h;exact⟨e,he,hm,by omega⟩
  ·cases h
 ·cases h
theorem z8 {P:Program}{w:World}{t:TypeId}{n:Nat}(h:elT P t=some n)(k:IntKind)(b o len cap:Nat)(i:Int)(h0:0<=i)(h1:i<len) :
  (Instr.indexAt t (.slice (some ⟨b,o,none⟩) len cap) (.int k i)).run P w = .ok (.pointer (some ⟨b,o+i.toNat*n,none⟩)) w:=by
 obtain⟨e,he,hn,_⟩:=qD h;simp[Instr.indexAt,asIntOf,run_underlying he,h0,h1,xu hn,x8]
theorem Za (S:Stands C σ G s a w){t:TypeId}{x y r:T}(h:kF C.P s.h t x y=some r){u v:Value}(hu:RepT σ G x u)(hv:RepT σ G y v) :
  ∃z,(Instr.indexAt t u v).run C.P w = .ok z w/\RepT σ G r z/\∀k,r.ref=some k->s.h k≠none:=by
 unfold kF at h;split at h
 ·rename_i esz cells k i;simp only[RepT,Rep] at hv;subst hv;split at h
  ·rename_i n hn;split at h
   ·rename_i hc;obtain⟨rfl,h0,h1⟩:=hc;cases h;simp only[RepT,Rep] at hu;rcases hu with⟨_,rfl⟩|⟨b,o,len,cap,rfl,hlen,_,_,hcells⟩|⟨_,_,_,rfl,_⟩
    rotate_right
    ·simp at h1
    ·simp at h1
    ·obtain⟨_,_,_,hp⟩:=qD hn;have hi:i<(len:Int):=by
      rw[hlen] at h1;have:=Nat.lt_of_mul_lt_mul_right h1;omega
     exact⟨_,z8 hn k b o len cap i h0 hi,by simp only[RepT,Rep];exact⟨b,o,rfl,hcells⟩,by simp[T.ref]⟩
   ·cases h
  ·cases h
 ·rename_i k ki i;simp only[RepT,Rep] at hv;subst hv;split at h
  ·rename_i n e esz nn cells hn ho;split at h
   ·rename_i hc;obtain⟨rfl,h0,h1⟩:=hc;cases h;have H:=S.obj _ _ ho;simp only[ObjIs] at H;obtain⟨m,us,⟨hx,hor⟩,h2,h3,_⟩:=H;have hl:=h2.length;simp only[RepT] at hu;rcases hor with⟨hnil,rfl⟩|⟨g,cap,cur,hval,hg,hh,hnc,hcm,hcs,htk⟩
    ·rw[hx] at hl;simp only[Nat.zero_mul] at hl;omega
    ·obtain⟨_,_,_,hp⟩:=qD hn;have hi:i<(m:Int):=by
      have h1':i.toNat*n<m*n:=by rw[<-hx,hl];exact h1
      have:=Nat.lt_of_mul_lt_mul_right h1';omega
     rw[hu,hval];refine⟨_,z8 hn ki g 0 m cap i h0 hi,⟨g,by rw[h3,hval];rfl,by simp⟩,fun k' hk=>?_⟩;simp only[T.ref,Option.some.injEq] at hk;subst hk;rw[ho];simp
   ·cases h
  ·cases h
 ·rename_i k off len ki i;simp only[RepT,Rep] at hv;subst hv;split at h
  ·rename_i n e esz nn cells hn ho;split at h
   ·rename_i hc;obtain⟨rfl,h0,h1,h2⟩:=hc;cases h;simp only[RepT] at hu;obtain⟨b,cap,hb,rfl⟩:=hu;refine⟨_,z8 hn ki b off len cap i h0 (by omega),⟨b,hb,rfl⟩,fun k' hk=>?_⟩;simp only[T.ref,Option.some.injEq] at hk;subst hk;rw[ho];simp
   ·cases h
  ·cases h
 ·cases h
theorem vY {P:Program}{w:World}{t ty:TypeId}{n:Nat}(h:elT P t=some n)(x:Option Addr)(len cap:Nat) :
  (Builtin.len_ #[t] ty #[.slice x len cap]).run P w = .ok (.int .i64 len) w:=by
 obtain⟨e,he,hn,_⟩:=qD h;simp[Builtin.len_,run_underlying he,goInt]
theorem HP (S:Stands C σ G s a w){t ty:TypeId}{x r:T}(h:lenT C.P s.h t x=some r){u:Value}(hu:RepT σ G x u) :
  ∃z,(Builtin.len_ #[t] ty #[u]).run C.P w = .ok z w/\RepT σ G r z/\∀k,r.ref=some k->s.h k≠none:=by
 unfold lenT at h;split at h
 ·rename_i esz cells;split at h
  ·rename_i n hn;split at h
   ·rename_i hc;subst hc;cases h;obtain⟨_,_,_,hp⟩:=qD hn;simp only[RepT,Rep] at hu;rcases hu with⟨rfl,rfl⟩|⟨b,o,len,cap,rfl,hlen,_,_,hcells⟩|⟨_,_,rfl,rfl,_⟩
    ·exact⟨_,vY hn _ _ _,by simp[RepT,Rep],by simp[T.ref]⟩
    ·exact⟨_,vY hn _ _ _,by simp[RepT,Rep,hlen,Nat.mul_div_cancel _ hp],by simp[T.ref]⟩
    ·exact⟨_,vY hn _ _ _,by simp[RepT,Rep],by simp[T.ref]⟩
   ·cases h
  ·cases h
 ·split at h
  ·rename_i n hn;cases h;simp only[RepT,Rep] at hu;subst hu;exact⟨_,vY hn _ _ _,by simp[RepT,Rep],by simp[T.ref]⟩
  ·cases h
 ·rename_i k;split at h
  ·rename_i n e esz nn cells hn ho;split at h
   ·rename_i hc;subst hc;cases h;obtain⟨_,_,_,hp⟩:=qD hn;have H:=S.obj _ _ ho;simp only[ObjIs] at H;obtain⟨m,us,⟨hx,hor⟩,h2,h3,_⟩:=H;have hl:=h2.length;simp only[RepT] at hu;have hm:cells.length/n=m:=by rw[<-hl,hx,Nat.mul_div_cancel _ hp]
    rcases hor with⟨hnil,rfl⟩|⟨g,cap,cur,hval,hg,hh,hnc,hcm,hcs,htk⟩
    ·rw[hu,hnil];exact⟨_,vY hn _ _ _,by simp[RepT,Rep,hm],by simp[T.ref]⟩
    ·rw[hu,hval];exact⟨_,vY hn _ _ _,by simp[RepT,Rep,hm],by simp[T.ref]⟩
   ·cases h
  ·cases h
 ·rename_i k off len;split at h
  ·rename_i n e esz nn cells hn ho;split at h
   ·cases h;simp only[RepT] at hu;obtain⟨b,cap,hb,rfl⟩:=hu;exact⟨_,vY hn _ _ _,by simp[RepT,Rep],by simp[T.ref]⟩
   ·cases h
  ·cases h
 ·cases h
def RepO (σ:Mem)(G:Gh):Option T->Option Value->Prop
 |some c,some u=>RepT σ G c u
 |none,none=>True
 |_,_=>False
theorem vk {σ:Mem}{G:Gh}{d i:Int}{x:Option T}(h:x6 d x=some i){v:Option Value}(hv:RepO σ G x v) :
  (v=none/\i=d)\/∃k,v=some (.int k i):=by
 unfold x6 at h;split at h
 ·cases h;cases v with
  |none=>exact .inl ⟨rfl,rfl⟩
  |some u=>exact hv.elim
 ·cases h;cases v with
  |none=>exact hv.elim
  |some u=>simp only[RepO,RepT,Rep] at hv;exact .inr ⟨_,by rw[hv]⟩
 ·cases h
theorem yS {P:Program}{w:World}(k:IntKind)(i:Int)(y:Nat)(c:BoundsCode)(h0:0<=i)(h1:i<=y):(Instr.sliceBound (.int k i) y c).run P w = .ok i.toNat w:=by
 simp[Instr.sliceBound,asIntOf,h0,h1]
theorem yR {P:Program}{w:World}{t:TypeId}{n:Nat}(h:elT P t=some n)(x:Option Addr)(len cap:Nat)(lo hi:Option Value)(l hh:Int)
  (hlo:(lo=none/\l=0)\/∃k,lo=some (.int k l)) (hhi:(hi=none/\hh=len)\/∃k,hi=some (.int k hh)) (h0:0<=l) (h1:l<=hh) (h2:hh<=cap) :
  (Instr.sliceAt t (.slice x len cap) lo hi none).run P w = .ok (.slice (if cap=l.toNat then x else x.map (·.add (l.toNat*n))) (hh.toNat-l.toNat) (cap-l.toNat)) w:=by
 obtain⟨e,he,hn,_⟩:=qD h;have hb:(Instr.sliceBounds true len cap lo hi none).run P w = .ok (l.toNat,hh.toNat,cap) w:=by
  rcases hlo with⟨rfl,rfl⟩|⟨k,rfl⟩<;>rcases hhi with⟨rfl,rfl⟩|⟨k',rfl⟩
  ·simp[Instr.sliceBounds]
  ·simp[Instr.sliceBounds,yS k' hh cap _ (by omega) h2]
  ·simp[Instr.sliceBounds,yS k l len _ h0 (by omega)]
  ·simp[Instr.sliceBounds,yS k' hh cap _ (by omega) h2,yS k l hh.toNat _ h0 (by omega)]
 simp only[Instr.sliceAt,Instr.slice,Sem.run_bind,run_underlying he,Result.andThen_ok,hb,xu hn,Sem.run_pure]
theorem Vz (S:Stands C σ G s a w){t:TypeId}{lo hi mx:Option T}{x r:T}(h:qL C.P s.h t lo hi mx x=some r){u:Value}(hu:RepT σ G x u)
  {vlo vhi vmx:Option Value} (hlo:RepO σ G lo vlo)
  (hhi:RepO σ G hi vhi) (hmx:mx=none->vmx=none) :
  ∃z,(Instr.sliceAt t u vlo vhi vmx).run C.P w = .ok z w/\RepT σ G r z/\∀k,r.ref=some k->s.h k≠none:=by
 unfold qL at h;split at h
 ·rename_i esz cells;cases hn:elT C.P t with
  |none=>simp[hn] at h
  |some n=>cases hl:x6 0 lo with
  |none=>simp[hn,hl] at h
  |some l=>cases hh':x6 (cells.length/esz:Nat) hi with
  |none=>simp only[hn,hl,hh'] at h;cases h
  |some hh=>cases mx with
  |some _=>simp only[hn,hl,hh'] at h;cases h
  |none=>
   simp only[hn,hl,hh'] at h;split at h
   ·rename_i hc;obtain⟨rfl,h0,h1,h2⟩:=hc;cases h;have hmx':=hmx rfl;subst hmx';obtain⟨_,_,_,hp⟩:=qD hn;have b1:=vk hl hlo;have b2:=vk hh' hhi;simp only[RepT,Rep] at hu;rcases hu with⟨rfl,rfl⟩|⟨b,o,len,cap,rfl,hlen,hcap,hcm,hcells⟩|⟨q,cap,rfl,rfl,hcm⟩
    rotate_right
    ·have hz:hh.toNat=0:=by
      simp only[List.length_nil,Nat.le_zero,Nat.mul_eq_zero] at h2;rcases h2 with h2|h2<;>omega
     have hz2:l.toNat=0:=by omega
     refine⟨_,yR hn (some q) 0 cap vlo vhi l hh b1 (by simpa using b2) h0 h1 (by omega),?_,by simp[T.ref]⟩;simp only[RepT,Rep];refine .inr (.inr ⟨q,cap,?_,by simp,hcm⟩);simp[hz,hz2,Addr.add]
    ·have hz:hh.toNat=0:=by
      simp only[List.length_nil,Nat.le_zero,Nat.mul_eq_zero] at h2;rcases h2 with h2|h2<;>omega
     have hz2:l.toNat=0:=by omega
     refine⟨_,yR hn none 0 0 vlo vhi l hh b1 (by simpa using b2) h0 h1 (by omega),?_,by simp[T.ref]⟩;simp[RepT,Rep,hz,hz2]
    ·have hq:cells.length/n=len:=by rw[hlen,Nat.mul_div_cancel _ hp]
     rw[hq] at b2;have hle:hh.toNat<=len:=by rw[hlen] at h2;exact Nat.le_of_mul_le_mul_right h2 hp
     refine⟨_,yR hn _ len cap vlo vhi l hh b1 b2 h0 h1 (by omega),?_,by simp[T.ref]⟩;simp only[RepT,Rep];right;left;have hlt:(l.toNat*n)+(hh.toNat-l.toNat)*n<=cells.length:=by
      rw[<-Nat.add_mul,show l.toNat+(hh.toNat-l.toNat)=hh.toNat by omega];exact h2
     have hll:(List.take ((hh.toNat-l.toNat)*n) (List.drop (l.toNat*n) cells)).length=(hh.toNat-l.toNat)*n:=by
      simp;omega
     by_cases hcl:cap=l.toNat
     ·have hz:hh.toNat-l.toNat=0:=by omega
      refine⟨b,o,hh.toNat-l.toNat,cap-l.toNat,by simp[hcl],hll,by omega,by omega,?_⟩;rw[hz];simp[RepC]
     ·refine⟨b,o+l.toNat*n,hh.toNat-l.toNat,cap-l.toNat,by simp[hcl,x8],hll,by omega,by omega,?_⟩;exact(hcells.drop _).take _
   ·cases h
 ·rename_i k;split at h
  ·rename_i e esz nn cells ho;cases hn:elT C.P t with
   |none=>simp[hn] at h
   |some n=>cases hl:x6 0 lo with
   |none=>simp[hn,hl] at h
   |some l=>cases hh':x6 (cells.length/esz:Nat) hi with
   |none=>simp only[hn,hl,hh'] at h;cases h
   |some hh=>cases mx with
   |some _=>simp only[hn,hl,hh'] at h;cases h
   |none=>
    simp only[hn,hl,hh'] at h;split at h
    ·rename_i hc;obtain⟨rfl,h0,h1,h2⟩:=hc;cases h;have hmx':=hmx rfl;subst hmx';obtain⟨_,_,_,hp⟩:=qD hn;have b1:=vk hl hlo;have b2:=vk hh' hhi;simp only[RepT] at hu;have H:=S.obj _ _ ho;simp only[ObjIs] at H;obtain⟨m,us,⟨hx,hor⟩,g2,g3,_⟩:=H;have hlen:=g2.length;have hm:cells.length/n=m:=by rw[<-hlen,hx,Nat.mul_div_cancel _ hp]
     rw[hm] at b2;have hle:hh.toNat<=m:=by rw[<-hlen,hx] at h2;exact Nat.le_of_mul_le_mul_right h2 hp
     rcases hor with⟨hnil,rfl⟩|⟨g,cap,cur,hval,hg,hh2,hnc,hcm,hcs,htk⟩
     ·omega
     ·rw[hu,hval];have hcl:¬cap=l.toNat:=by omega
      refine⟨_,yR hn _ m cap vlo vhi l hh b1 b2 h0 (by omega) (by omega),⟨g,cap-l.toNat,by rw[g3,hval];rfl,by simp[hcl,x8]⟩,fun k' hk=>?_⟩;simp only[T.ref,Option.some.injEq] at hk;subst hk;rw[ho];simp
    ·cases h
  ·cases h
 ·cases h
theorem QS {i:Nat}{x r:T}(h:vM i x=some r){u:Value}(hu:RepT σ G x u)(hl:∀k,x.ref=some k->s.h k≠none) :
  ∃z,(Instr.extract u i).run C.P w = .ok z w/\RepT σ G r z/\∀k,r.ref=some k->s.h k≠none:=by
 unfold vM at h;split at h
 ·rename_i ds;simp only[Option.map_eq_some_iff] at h;obtain⟨d,hd,rfl⟩:=h;simp only[RepT,Rep] at hu;obtain⟨us,rfl,hl⟩:=hu;obtain⟨z,h1,h2⟩:=hl.get i d hd;refine⟨z,?_,h2,by simp[T.ref]⟩;rw[Array.getElem?_toList] at h1;simp[Instr.extract,h1]
 ·rename_i k y;simp only[RepT] at hu;obtain⟨v,rfl,hv⟩:=hu;split at h
  ·cases h;exact⟨(G k).2,by simp[Instr.extract],rfl,fun k' hk=>hl k' hk⟩
  ·cases h;exact⟨v,by simp[Instr.extract],hv,by simp[T.ref]⟩
  ·cases h
 ·cases h
theorem Ks {t:TypeId}{x y r:T}(h:xM C.P t x y=some r){u v:Value}(hu:RepT σ G x u)(hv:RepT σ G y v) :
  ∃z,(Instr.index t u v).run C.P w = .ok z w/\RepT σ G r z/\∀k,r.ref=some k->s.h k≠none:=by
 unfold xM at h;split at h
 ·rename_i cells k i;simp only[RepT,Rep] at hv hu;subst hv;obtain⟨us,rfl,hl⟩:=hu;split at h
  ·rename_i n hn;split at h
   ·rename_i hc;obtain⟨h0,h1,h2⟩:=hc;simp only[Option.map_eq_some_iff] at h;obtain⟨d,hd,rfl⟩:=h;obtain⟨z,h3,_,h4⟩:=hl.get _ d hd;refine⟨z,?_,h4,by simp[T.ref]⟩;unfold arT at hn;split at hn
    ·rename_i m e he;split at hn
     ·rename_i hs hag;cases hn;rw[Array.getElem?_toList] at h3;simp[Instr.index,asIntOf,run_underlying he,h0,h1,part,xu hs,W3 hag,h3]
     ·cases hn
    ·cases hn
   ·cases h
  ·cases h
 ·cases h
end
end Go.Enc
end
section
namespace Go.Enc
open Go.RowKit
def pint (op:BinOp)(k:IntKind)(a b:Int):Option Value:=
 match op with
 |.add=>some (.int k (k.wrap (a+b)))
 |.sub=>some (.int k (k.wrap (a-b)))
 |.mul=>some (.int k (k.wrap (a*b)))
 |.quo=>if b=0 then none else some (.int k (k.wrap (a.tdiv b)))
 |.rem=>if b=0 then none else some (.int k (a.tmod b))
 |.and=>some (.int k (k.wrap (BitVec.ofInt k.bits a &&& BitVec.ofInt k.bits b).toNat))
 |.or=>some (.int k (k.wrap (BitVec.ofInt k.bits a ||| BitVec.ofInt k.bits b).toNat))
 |.andNot=>some (.int k (k.wrap (BitVec.ofInt k.bits a &&& ~~~ BitVec.ofInt k.bits b).toNat))
 |.eql=>some (.bool (a==b))
 |.neq=>some (.bool (a != b))
 |.lss=>some (.bool (decide (a<b)))
 |.leq=>some (.bool (decide (a<=b)))
 |.gtr=>some (.bool (decide (a>b)))
 |.geq=>some (.bool (decide (a>=b)))
 |_=>none
def pshift (op:BinOp)(k:IntKind)(a b:Int):Option Value:=
 if b<0 then none else
 match op with
 |.shl=>some (.int k (k.wrap (a*2^(min b.toNat k.bits))))
 |.shr=>some (.int k (a.fdiv (2^(min b.toNat k.bits))))
 |_=>none
def xy:BinOp->Bool
 |.shl | .shr=>true
 |_=>false
def pfloat (op:BinOp)(k:FloatKind)(a b:Nat):Option Value:=
 match op with
 |.add=>(k.format.add a b).map (.float k)
 |.sub=>(k.format.sub a b).map (.float k)
 |.mul=>(k.format.mul a b).map (.float k)
 |.quo=>(k.format.div a b).map (.float k)
 |.eql=>some (.bool (k.format.order a b==some .eq))
 |.neq=>some (.bool (k.format.order a b != some .eq))
 |.lss=>some (.bool (k.format.order a b==some .lt))
 |.leq=>some (.bool (k.format.order a b==some .lt||k.format.order a b==some .eq))
 |.gtr=>some (.bool (k.format.order a b==some .gt))
 |.geq=>some (.bool (k.format.order a b==some .gt||k.format.order a b==some .eq))
 |_=>none
def one2 (P:Program)(t:TypeId):Option Bool:=
 match P.underlying t with
 |some (.int _)=>some true
 |some (.float _)=>some false
 |_=>none
def eq2T (P:Program)(t:TypeId):Option (Bool×Bool):=
 match P.underlying t with
 |some (.struct fs)=>match fs.toList with
  |[f,g]=>if f.offset=0/\g.offset=1/\f.name ≠ "_"/\g.name ≠ "_"/\P.stoodInHeld t=false/\P.eqGuardType P.depth t=false then
    match one2 P f.type,one2 P g.type with
    |some p,some q=>some (p,q)
    |_,_=>none
   else none
  |_=>none
 |_=>none
def ceq:Bool->D->D->Option Bool
 |true,.v (.int k a),.v (.int k' b)=>if k=k' then some (a==b) else none
 |false,.v (.float k a),.v (.float k' b)=>if k=k' then some (k.format.order a b==some .eq) else none
 |_,_,_=>none
def QV (P:Program)(t:TypeId):List D->List D->Option Bool
 |[a,b],[a',b']=>match eq2T P t with
  |some (p,q)=>match ceq p a a',ceq q b b' with
   |some x,some y=>some (x&&y)
   |_,_=>none
  |none=>none
 |_,_=>none
def jy (P:Program)(h:Nat->Option Obj)(t:TypeId)(x:T):Option Bool:=
 match P.underlying t with
 |some (.interface _)=>match x with
  |.d (.v .nilIface)=>some true
  |.d (.v (.iface _ _))=>some false
  |.d (.ip _ _)=>some false
  |.ipr _ _=>some false
  |_=>none
 |some (.slice _)=>match x with
  |.d (.v (.slice none 0 0))=>some true
  |.d (.sl _ (_ :: _))=>some false
  |.gs k=>match h k with
   |some ⟨some (_,_,nn),cells⟩=>match cells,nn with
    |[],true=>some true
    |_ :: _,_=>some false
    |_,_=>none
   |_=>none
  |_=>none
 |some (.func _ _ _)=>match x with
  |.d (.v .nilFunc)=>some true
  |.d (.v (.func _ _ _))=>some false
  |.d (.fn _ _)=>some false
  |_=>none
 |_=>none
def jw:Operand->Bool
 |.const .nilIface | .const (.slice none 0 0) | .const .nilFunc=>true
 |_=>false
def binT (P:Program)(h:Nat->Option Obj)(op:BinOp)(t:TypeId)(yo:Operand)(x y:T):Option T:=
 if jw yo then match op with
  |.eql=>(jy P h t x).map fun b=>.d (.v (.bool b))
  |.neq=>(jy P h t x).map fun b=>.d (.v (.bool (!b)))
  |_=>none
 else match x,y with
 |.d (.v (.int k a)),.d (.v (.int k' b))=>if xy op then (pshift op k a b).map fun v=>.d (.v v) else if k=k' then (pint op k a b).map fun v=>.d (.v v) else none
 |.d (.v (.float k a)),.d (.v (.float k' b))=>if xy op then none else if k=k' then (pfloat op k a b).map fun v=>.d (.v v) else none
 |.d (.v (.string a)),.d (.v (.string b))=>match op with
  |.eql=>some (.d (.v (.bool (a.toList==b.toList))))
  |.neq=>some (.d (.v (.bool (!(a.toList==b.toList)))))
  |_=>none
 |.d (.v (.bool a)),.d (.v (.bool b))=>match P.underlying t,op with
  |some .bool,.eql=>some (.d (.v (.bool (a==b))))
  |some .bool,.neq=>some (.d (.v (.bool (!(a==b)))))
  |_,_=>none
 |.d (.agg as),.d (.agg bs)=>match op with
  |.eql=>(QV P t as bs).map fun b=>.d (.v (.bool b))
  |.neq=>(QV P t as bs).map fun b=>.d (.v (.bool (!b)))
  |_=>none
 |_,_=>none
def unT (op:UnOp):T->Option T
 |.d (.v (.int k n))=>match op with
  |.neg=>some (.d (.v (.int k (k.wrap (0-n)))))
  |_=>none
 |.d (.v (.float k b))=>match op with
  |.neg=>some (.d (.v (.float k (Op.negFloat k b))))
  |_=>none
 |.d (.v (.bool b))=>match op with
  |.not=>some (.d (.v (.bool !b)))
  |_=>none
 |_=>none
def X8 (P:Program)(src dst:TypeId):T->Option T
 |.d (.v (.int _ n))=>match P.underlying src,P.underlying dst with
  |some _,some (.int k)=>some (.d (.v (.int k (k.wrap n))))
  |some _,some (.float k)=>some (.d (.v (.float k (k.nearest n))))
  |_,_=>none
 |.d (.v (.float f b))=>match P.underlying src,P.underlying dst with
  |some _,some (.int k)=>(floatToIntVal f b k).map fun n=>.d (.v (.int k n))
  |some _,some (.float k)=>if f=k then some (.d (.v (.float f b))) else none
  |_,_=>none
 |_=>none
def qx (mx:Bool)(x y:Nat):Option Nat:=
 match FloatKind.f64.format.order x y with
 |none=>none
 |some .lt=>some (if mx then y else x)
 |some .gt=>some (if mx then x else y)
 |some .eq=>some (if (FloatKind.f64.decode x).neg then (if mx then y else x) else (if mx then x else y))
def XP (mx:Bool):Nat->List T->Option Nat
 |x,[]=>some x
 |x,.d (.v (.float .f64 y)) :: r=>(qx mx x y).bind fun z=>XP mx z r
 |_,_=>none
def xx (mx:Bool):List T->Option T
 |.d (.v (.float .f64 x)) :: r=>(XP mx x r).map fun z=>.d (.v (.float .f64 z))
 |_=>none
def vC (P:Program)(t:TypeId)(x:T):Option T:=
 match P.underlying t with
 |some (.pointer _)=>match x with
  |.ptr k 0=>some (.ipr t k)
  |.d (.v v)=>some (.d (.v (.iface t v)))
  |_=>none
 |some (.int _)=>match x with
  |.d (.v v)=>some (.d (.v (.iface t v)))
  |_=>none
 |_=>none
def xH:T->Option T
 |.ptr k o=>some (.ptr k o)
 |.d (.pd cells o)=>some (.d (.pd cells o))
 |.d (.v (.pointer (some p)))=>some (.d (.v (.pointer (some p))))
 |_=>none
section
variable {C:Ctx} {σ:Mem} {G:Gh} {s:St} {a:Act} {w:World}
theorem zbh {P:Program}{op:BinOp}{t:TypeId}{k:IntKind}{x y:Int}{v:Value}(hs:xy op=false)(h:pint op k x y=some v) :
  (binOp op t (.int k x) (.int k y)).run P w = .ok v w:=by
 cases op<;>simp[pint,xy] at h hs<;>(try subst h) <;>
  first
   |(simp[binOp,Op.intArith];done)
   |(simp[binOp,Op.intCmp];done)
   |(simp[binOp,Op.intBits];done)
   |(obtain⟨h0,h⟩:=h;subst h;simp[binOp,Op.intDiv,h0];done)
theorem Hp {P:Program}{op:BinOp}{t:TypeId}{k k':IntKind}{x y:Int}{v:Value}(hs:xy op=true)(h:pshift op k x y=some v) :
  (binOp op t (.int k x) (.int k' y)).run P w = .ok v w:=by
 unfold pshift at h;split at h
 ·cases h
 ·rename_i h0;cases op<;>simp[xy] at hs<;>simp at h<;>subst h<;>simp[binOp,Op.shift,h0]
theorem Qd {P:Program}{op:BinOp}{t:TypeId}{k:FloatKind}{x y:Nat}{v:Value}(h:pfloat op k x y=some v) :
  (binOp op t (.float k x) (.float k y)).run P w = .ok v w:=by
 cases op<;>simp only[pfloat,Option.map_eq_some_iff,Option.some.injEq] at h <;>
  first
   |(cases h;done)
   |(obtain⟨r,h,rfl⟩:=h;simp[binOp,Op.floatArith,h];done)
   |(subst h;simp[binOp,Op.floatCmp];done)
theorem jR {P:Program}{op:BinOp}{t:TypeId}{x y:Operand}{u v:Value}(h1:u≠.nilIface\/v≠.nilIface)(h2:(∀c,u≠.agg c)\/∀c,v≠.agg c) :
  (eqGuard op t x y u v).run P w = .ok () w:=by
 by_cases hop:op = .eql\/op = .neq
 ·rcases hop with rfl|rfl<;>unfold eqGuard<;>simp only[Bool.not_true,Bool.false_eq_true,if_false]<;>split<;>first|rfl|(exfalso;simp_all;done)
 ·cases op<;>simp at hop<;>rfl
theorem Kq {P:Program}{op:BinOp}{t:TypeId}{x y:Operand}{u v:Value}(hy:jw y=true)(hv:∀c,v≠.agg c) :
  (eqGuard op t x y u v).run P w = .ok () w:=by
 have:∃z,y = .const z:=by unfold jw at hy;split at hy<;>simp_all
 obtain⟨z,rfl⟩:=this;by_cases hop:op = .eql\/op = .neq
 ·rcases hop with rfl|rfl<;>unfold eqGuard<;>simp only[Bool.not_true,Bool.false_eq_true,if_false]<;>split<;>first|rfl|(exfalso;simp_all;done)|(simp;done)
 ·cases op<;>simp at hop<;>rfl
section
variable {P:Program} {t:TypeId}
theorem H9 {ms:Array (String×TypeId)}(h:P.underlying t=some (.interface ms))(d:Nat) :
  (Op.equalIn (d+1) t .nilIface .nilIface).run P w = .ok true w/\∀t' v,(Op.equalIn (d+1) t (.iface t' v) .nilIface).run P w = .ok false w:=
 ⟨by simp[Op.equalIn,run_underlying h],fun t' v=>by simp[Op.equalIn,run_underlying h]⟩
theorem H8 {e:TypeId}(h:P.underlying t=some (.slice e))(d:Nat) :
  (Op.equalIn (d+1) t (.slice none 0 0) (.slice none 0 0)).run P w = .ok true w/\∀x n c,(Op.equalIn (d+1) t (.slice (some x) n c) (.slice none 0 0)).run P w = .ok false w:=
 ⟨by simp[Op.equalIn,run_underlying h],fun x n c=>by simp[Op.equalIn,run_underlying h]⟩
theorem zaa {ps rs:Array TypeId}{v:Bool}(h:P.underlying t=some (.func ps rs v))(d:Nat) :
  (Op.equalIn (d+1) t .nilFunc .nilFunc).run P w = .ok true w/\∀f x c,(Op.equalIn (d+1) t (.func f x c) .nilFunc).run P w = .ok false w:=
 ⟨by simp[Op.equalIn,run_underlying h],fun f x c=>by simp[Op.equalIn,run_underlying h]⟩
theorem XU (h:P.underlying t=some .bool)(d:Nat)(a b:Bool):(Op.equalIn (d+1) t (.bool a) (.bool b)).run P w = .ok (a==b) w:=by
 simp[Op.equalIn,run_underlying h]
theorem zdX {k:IntKind}(h:P.underlying t=some (.int k))(d:Nat)(k':IntKind)(a b:Int):(Op.equalIn (d+1) t (.int k' a) (.int k' b)).run P w = .ok (a==b) w:=by
 simp[Op.equalIn,run_underlying h]
theorem Ua {k:FloatKind}(h:P.underlying t=some (.float k))(d:Nat)(k':FloatKind)(a b:Nat):(Op.equalIn (d+1) t (.float k' a) (.float k' b)).run P w = .ok (k'.format.order a b==some .eq) w:=by
 simp[Op.equalIn,run_underlying h,Op.floatEq]
end
theorem Wl {t:TypeId}(S:Stands C σ G s a w){x:T}{b:Bool}(hb:jy C.P s.h t x=some b){u v:Value}(hu:RepT σ G x u)
  (hok:match C.P.underlying t with|some (.interface _)=>v = .nilIface|some (.slice _)=>v = .slice none 0 0|some (.func _ _ _)=>v = .nilFunc|_=>False) :
  (Op.equal t u v).run C.P w = .ok b w:=by
 change (Op.equalIn (9999+1) t u v).run C.P w = .ok b w
 unfold jy at hb;split at hb
 ·rename_i ms hms;rw[hms] at hok;simp only at hok;subst hok;have e:=H9 (w:=w) hms 9999;split at hb<;>simp only[Option.some.injEq,reduceCtorEq] at hb<;>subst hb
  ·simp only[RepT,Rep] at hu;subst hu;exact e.1
  ·simp only[RepT,Rep] at hu;subst hu;exact e.2 _ _
  ·simp only[RepT,Rep] at hu;obtain⟨b,o,rfl,_⟩:=hu;exact e.2 _ _
  ·simp only[RepT] at hu;obtain⟨b,_,rfl⟩:=hu;exact e.2 _ _
 ·rename_i e he;rw[he] at hok;simp only at hok;subst hok;have e:=H8 (w:=w) he 9999;split at hb
  ·simp only[Option.some.injEq] at hb;subst hb;simp only[RepT,Rep] at hu;subst hu;exact e.1
  ·simp only[Option.some.injEq] at hb;subst hb;simp only[RepT,Rep] at hu;rcases hu with⟨_,hu⟩|⟨b,o,len,cap,rfl,_⟩|⟨_,_,_,hu,_⟩
   ·cases hu
   ·exact e.2 _ _ _
   ·cases hu
  ·rename_i k;split at hb
   ·rename_i e' sz nn cells ho;have H:=S.obj _ _ ho;simp only[ObjIs] at H;obtain⟨m,us,⟨hx,hor⟩,h2,h3,h4⟩:=H;simp only[RepT] at hu;split at hb
    ·simp only[Option.some.injEq] at hb;subst hb;rw[hu,h4 rfl rfl];exact e.1
    ·simp only[Option.some.injEq] at hb;subst hb;rcases hor with⟨hnil,rfl⟩|⟨g,cap,cur,hval,_⟩
     ·have:=h2.length;simp[hx] at this
     ·rw[hu,hval];exact e.2 _ _ _
    ·cases hb
   ·cases hb
  ·cases hb
 ·rename_i ps rs vr he;rw[he] at hok;simp only at hok;subst hok;have e:=zaa (w:=w) he 9999;split at hb<;>simp only[Option.some.injEq,reduceCtorEq] at hb<;>subst hb
  ·simp only[RepT,Rep] at hu;subst hu;exact e.1
  ·simp only[RepT,Rep] at hu;subst hu;exact e.2 _ _ _
  ·simp only[RepT,Rep] at hu;obtain⟨us,rfl,_⟩:=hu;exact e.2 _ _ _
 ·cases hb
theorem y8 {P:Program}{t:TypeId}{p q:Bool}(ht:one2 P t=some p){x y:D}(h:ceq p x y=some q){u v:Value}(hu:Rep σ x u)(hv:Rep σ y v)(d:Nat) :
  (Op.equalIn (d+1) t u v).run P w = .ok q w/\agT P t=some false:=by
 unfold one2 at ht;split at ht
 ·rename_i k hk;cases ht;unfold ceq at h;split at h
  ·split at h
   ·rename_i hkk;subst hkk;cases h;simp only[Rep] at hu hv;subst hu;subst hv;exact⟨zdX hk d _ _ _,by simp[agT,hk]⟩
   ·cases h
  ·contradiction
  ·cases h
 ·rename_i k hk;cases ht;unfold ceq at h;split at h
  ·contradiction
  ·split at h
   ·rename_i hkk;subst hkk;cases h;simp only[Rep] at hu hv;subst hu;subst hv;exact⟨Ua hk d _ _ _,by simp[agT,hk]⟩
   ·cases h
  ·cases h
 ·cases ht
theorem YA {y:Operand}(h:jw y=true)(s:St)(a:Act):(a.eval y = .nilIface\/a.eval y = .slice none 0 0\/a.eval y = .nilFunc)/\∃v,y = .const v/\a.eval y=v:=by
 unfold jw at h;split at h<;>simp_all [Act.eval]
def jT (P:Program)(t:TypeId)(y:Operand):Bool:=
 match P.underlying t,y with
 |some (.interface _),.const .nilIface=>true
 |some (.slice _),.const (.slice none 0 0)=>true
 |some (.func _ _ _),.const .nilFunc=>true
 |_,_=>false
theorem VV {P:Program}{t:TypeId}{y:Operand}(h:jT P t y=true)(a:Act) :
  match P.underlying t with|some (.interface _)=>a.eval y = .nilIface|some (.slice _)=>a.eval y = .slice none 0 0|some (.func _ _ _)=>a.eval y = .nilFunc|_=>False:=by
 unfold jT at h;split at h<;>simp_all [Act.eval]
theorem XB {P:Program}{t:TypeId}{as bs:List D}{q:Bool}(h:QV P t as bs=some q){us vs:Array Value}(hu:RepU σ as us.toList)(hv:RepU σ bs vs.toList) :
  (Op.equal t (.agg us) (.agg vs)).run P w = .ok q w/\P.eqGuardType P.depth t=false:=by
 unfold QV at h;split at h
 ·rename_i a0 b0 a1 b1;split at h
  ·rename_i p q' ht;split at h
   ·rename_i x y hx hy;cases h;unfold eq2T at ht;split at ht
    ·rename_i fs hfs;split at ht
     ·rename_i f g hfg;split at ht
      ·rename_i hc;obtain⟨h1,h2,h3,h4,h5,h6⟩:=hc;split at ht
       ·rename_i p' q'' hp hq;cases ht;simp only[RepU] at hu hv;obtain⟨u0,_,hu0,_,ru0,u1,_,rfl,_,ru1,rfl⟩:=hu;obtain⟨v0,_,hv0,_,rv0,v1,_,rfl,_,rv1,rfl⟩:=hv;have e0:=y8 (w:=w) hp hx ru0 rv0 9998;have e1:=y8 (w:=w) hq hy ru1 rv1 9998;have hus:us = #[u0,u1]:=by rw[<-Array.toArray_toList (xs:=us),hu0]
        have hvs:vs = #[v0,v1]:=by rw[<-Array.toArray_toList (xs:=vs),hv0]
        have hfs':fs = #[f,g]:=by rw[<-Array.toArray_toList (xs:=fs),hfg]
        subst hus;subst hvs;subst hfs';have p0:∀(z0 z1:Value),(part f.type #[z0,z1] f.offset).run P w = .ok z0 w:=fun z0 z1=>by simp[part,W3 e0.2,h1]
        have p1:∀(z0 z1:Value),(part g.type #[z0,z1] g.offset).run P w = .ok z1 w:=fun z0 z1=>by simp[part,W3 e1.2,h2]
        refine⟨?_,h6⟩;have key:∀d,(Op.equalIn (d+1+1) t (.agg #[u0,u1]) (.agg #[v0,v1])).run P w = .ok (x&&y) w:=fun d=>by
         have e0':=(y8 (w:=w) hp hx ru0 rv0 d).1;have e1':=(y8 (w:=w) hq hy ru1 rv1 d).1;rw[Op.equalIn];cases x<;>cases y<;>simp[run_underlying hfs,h5,h3,h4,p0,p1,e0',e1']
        exact key 9998
       ·cases ht
      ·cases ht
     ·cases ht
    ·cases ht
   ·cases h
  ·cases h
 ·cases h
end
end Go.Enc
end
section
namespace Go.Enc
open Go.RowKit
section
variable {C:Ctx} {σ:Mem} {G:Gh} {s:St} {a:Act} {w:World}
theorem Xq {t:TypeId}{u v:Value}(hv:v = .nilIface\/v = .slice none 0 0\/v = .nilFunc):binOp .eql t u v=(do pure (.bool (<-Op.equal t u v))):=by
 rcases hv with rfl|rfl|rfl<;>cases u<;>rfl
theorem Xp {t:TypeId}{u v:Value}(hv:v = .nilIface\/v = .slice none 0 0\/v = .nilFunc):binOp .neq t u v=(do pure (.bool (!(<-Op.equal t u v)))):=by
 rcases hv with rfl|rfl|rfl<;>cases u<;>rfl
theorem Uj (S:Stands C σ G s a w){op:BinOp}{t:TypeId}{xo yo:Operand}{x y r:T}(h:binT C.P s.h op t yo x y=some r)(hf:jw yo=true->jT C.P t yo=true)
  {u v:Value} (hu:RepT σ G x u) (hv:RepT σ G y v) (hyv:v=a.eval yo) :
  ∃z,((do eqGuard op t xo yo u v;binOp op t u v:Sem Value)).run C.P w = .ok z w/\RepT σ G r z/\∀k,r.ref=some k->s.h k≠none:=by
 have fin:∀z,((do eqGuard op t xo yo u v;binOp op t u v:Sem Value)).run C.P w = .ok z w->r = .d (.v z) ->
   ∃z,((do eqGuard op t xo yo u v;binOp op t u v:Sem Value)).run C.P w = .ok z w/\RepT σ G r z/\∀k,r.ref=some k->s.h k≠none:=
  fun z hz e=>⟨z,hz,by rw[e];simp[RepT,Rep],by rw[e];simp[T.ref]⟩
 unfold binT at h;split at h
 ·rename_i hn;have hfit:=VV (hf hn) a;rw[<-hyv] at hfit;have hor:=(YA hn s a).1;rw[<-hyv] at hor;have hna:∀c,v≠.agg c:=by rcases hor with e|e|e<;>rw[e]<;>simp
  have hg:=Kq (P:=C.P) (w:=w) (op:=op) (t:=t) (x:=xo) (u:=u) hn hna;split at h
  ·simp only[Option.map_eq_some_iff] at h;obtain⟨b,hb,rfl⟩:=h;have he:=Wl S hb hu hfit;refine fin (.bool b) ?_ rfl;simp only[Sem.run_bind,hg,Result.andThen_ok,Xq hor,he,Sem.run_pure]
  ·simp only[Option.map_eq_some_iff] at h;obtain⟨b,hb,rfl⟩:=h;have he:=Wl S hb hu hfit;refine fin (.bool (!b)) ?_ rfl;simp only[Sem.run_bind,hg,Result.andThen_ok,Xp hor,he,Sem.run_pure]
  ·cases h
 ·split at h
  ·rename_i k p k' q;simp only[RepT,Rep] at hu hv;rw[hu] at fin ⊢;rw[hv] at fin ⊢;have hg:=jR (P:=C.P) (w:=w) (op:=op) (t:=t) (x:=xo) (y:=yo) (u:=.int k p) (v:=.int k' q) (by simp) (by simp);split at h
   ·rename_i hs;simp only[Option.map_eq_some_iff] at h;obtain⟨z,hz,rfl⟩:=h;exact fin z (by simp only[Sem.run_bind,hg,Result.andThen_ok,Hp hs hz]) rfl
   ·rename_i hs;split at h
    ·rename_i hk;subst hk;simp only[Option.map_eq_some_iff] at h;obtain⟨z,hz,rfl⟩:=h;exact fin z (by simp only[Sem.run_bind,hg,Result.andThen_ok,zbh (by simpa using hs) hz]) rfl
    ·cases h
  ·rename_i k p k' q;simp only[RepT,Rep] at hu hv;rw[hu] at fin ⊢;rw[hv] at fin ⊢;have hg:=jR (P:=C.P) (w:=w) (op:=op) (t:=t) (x:=xo) (y:=yo) (u:=.float k p) (v:=.float k' q) (by simp) (by simp);split at h
   ·cases h
   ·split at h
    ·rename_i hk;subst hk;simp only[Option.map_eq_some_iff] at h;obtain⟨z,hz,rfl⟩:=h;exact fin z (by simp only[Sem.run_bind,hg,Result.andThen_ok,Qd hz]) rfl
    ·cases h
  ·rename_i p q;simp only[RepT,Rep] at hu hv;rw[hu] at fin ⊢;rw[hv] at fin ⊢;have hg:=jR (P:=C.P) (w:=w) (op:=op) (t:=t) (x:=xo) (y:=yo) (u:=.string p) (v:=.string q) (by simp) (by simp);split at h
   ·cases h;exact fin _ (by simp only[Sem.run_bind,hg,Result.andThen_ok];rfl) rfl
   ·cases h;exact fin _ (by simp only[Sem.run_bind,hg,Result.andThen_ok];rfl) rfl
   ·cases h
  ·rename_i p q;simp only[RepT,Rep] at hu hv;rw[hu] at fin ⊢;rw[hv] at fin ⊢;have hg:=jR (P:=C.P) (w:=w) (op:=op) (t:=t) (x:=xo) (y:=yo) (u:=.bool p) (v:=.bool q) (by simp) (by simp);split at h
   ·rename_i ht;cases h;have he:(Op.equal t (.bool p) (.bool q)).run C.P w = .ok (p==q) w:=XU ht 9999 p q;exact fin _ (by simp only[Sem.run_bind,hg,Result.andThen_ok];change ((do pure (Value.bool (<-Op.equal t (.bool p) (.bool q))):Sem Value)).run C.P w=_;simp only[Sem.run_bind,he,Result.andThen_ok,Sem.run_pure]) rfl
   ·rename_i ht;cases h;have he:(Op.equal t (.bool p) (.bool q)).run C.P w = .ok (p==q) w:=XU ht 9999 p q;exact fin _ (by simp only[Sem.run_bind,hg,Result.andThen_ok];change ((do pure (Value.bool (!(<-Op.equal t (.bool p) (.bool q)))):Sem Value)).run C.P w=_;simp only[Sem.run_bind,he,Result.andThen_ok,Sem.run_pure]) rfl
   ·cases h
  ·rename_i as bs;simp only[RepT,Rep] at hu hv;obtain⟨us,rfl,hus⟩:=hu;obtain⟨vs,rfl,hvs⟩:=hv;split at h
   ·simp only[Option.map_eq_some_iff] at h;obtain⟨b,hb,rfl⟩:=h;have he:=XB (P:=C.P) (w:=w) hb hus hvs;refine fin _ ?_ rfl;have hg:(eqGuard .eql t xo yo (.agg us) (.agg vs)).run C.P w = .ok () w:=by simp[eqGuard,he.2]
    simp only[Sem.run_bind,hg,Result.andThen_ok]
    change ((do pure (Value.bool (<-Op.equal t (.agg us) (.agg vs))):Sem Value)).run C.P w=_
    simp only[Sem.run_bind,he.1,Result.andThen_ok,Sem.run_pure]
   ·simp only[Option.map_eq_some_iff] at h;obtain⟨b,hb,rfl⟩:=h;have he:=XB (P:=C.P) (w:=w) hb hus hvs;refine fin _ ?_ rfl;have hg:(eqGuard .neq t xo yo (.agg us) (.agg vs)).run C.P w = .ok () w:=by simp[eqGuard,he.2]
    simp only[Sem.run_bind,hg,Result.andThen_ok]
    change ((do pure (Value.bool (!(<-Op.equal t (.agg us) (.agg vs)))):Sem Value)).run C.P w=_
    simp only[Sem.run_bind,he.1,Result.andThen_ok,Sem.run_pure]
   ·cases h
  ·cases h
theorem RP {op:UnOp}{x r:T}(h:unT op x=some r){u:Value}(hu:RepT σ G x u) :
  ∃z,(Op.unary op u).run C.P w = .ok z w/\RepT σ G r z/\∀k,r.ref=some k->s.h k≠none:=by
 unfold unT at h;split at h
 ·simp only[RepT,Rep] at hu;subst hu;split at h
  ·cases h;exact⟨_,by simp[Op.unary,Op.intArith];rfl,by simp[RepT,Rep],by simp[T.ref]⟩
  ·cases h
 ·simp only[RepT,Rep] at hu;subst hu;split at h
  ·cases h;exact⟨.float _ _,by simp[Op.unary];exact⟨rfl,rfl⟩,by simp[RepT,Rep],by simp[T.ref]⟩
  ·cases h
 ·simp only[RepT,Rep] at hu;subst hu;split at h
  ·rename_i b _;cases h;exact⟨.bool (!b),by simp[Op.unary],by simp[RepT,Rep],by simp[T.ref]⟩
  ·cases h
 ·cases h
theorem Y2 {src dst:TypeId}{x r:T}(h:X8 C.P src dst x=some r){u:Value}(hu:RepT σ G x u) :
  ∃z,(convert src dst u).run C.P w = .ok z w/\RepT σ G r z/\∀k,r.ref=some k->s.h k≠none:=by
 unfold X8 at h;split at h
 ·rename_i ki n;simp only[RepT,Rep] at hu;subst hu;split at h
  ·rename_i d k hs hd;cases h;exact⟨.int k (k.wrap n),by cases d<;>simp[convert,run_underlying hs,run_underlying hd,Conv.intToInt],by simp[RepT,Rep],by simp[T.ref]⟩
  ·rename_i d k hs hd;cases h;exact⟨.float k (k.nearest n),by cases d<;>simp[convert,run_underlying hs,run_underlying hd,Conv.intToFloat],by simp[RepT,Rep],by simp[T.ref]⟩
  ·cases h
 ·rename_i f b;simp only[RepT,Rep] at hu;subst hu;split at h
  ·rename_i d k hs hd;simp only[Option.map_eq_some_iff] at h;obtain⟨n,hn,rfl⟩:=h;exact⟨.int k n,run_convert_float_int w src dst f k b n (by simp[hs]) hd hn,by simp[RepT,Rep],by simp[T.ref]⟩
  ·rename_i d k hs hd;split at h
   ·rename_i hk;subst hk;cases h;exact⟨.float f b,run_convert_float_float w src dst f f b b (by simp[hs]) hd (by simp[floatToFloatBits]),by simp[RepT,Rep],by simp[T.ref]⟩
   ·cases h
  ·cases h
 ·cases h
theorem Kf {mx:Bool}:∀ {l:List T} {us:List Value} {x z:Nat},XP mx x l=some z->us.length=l.length->(∀(i:Nat) (c:T) (u:Value),l[i]?=some c->us[i]?=some u->RepT σ G c u) ->
  ((us.foldlM (if mx then Builtin.max2 else Builtin.min2) (.float .f64 x):Sem Value)).run C.P w = .ok (.float .f64 z) w
 |[],us,x,z,h,hl,_=>by
  have:us=[]:=List.eq_nil_of_length_eq_zero (by simpa using hl);subst this;simp only[XP,Option.some.injEq] at h;subst h;simp
 |.d (.v (.float .f64 y)) :: r,[],x,z,h,hl,_=>by simp at hl
 |.d (.v (.float .f64 y)) :: r,u :: us,x,z,h,hl,hr=>by
  simp only[XP,Option.bind_eq_some_iff] at h;obtain⟨m,hm,h⟩:=h;have hu:u = .float .f64 y:=by have:=hr 0 _ u rfl rfl;simpa [RepT,Rep] using this
  subst hu;have h1:((if mx then Builtin.max2 else Builtin.min2) (.float .f64 x) (.float .f64 y)).run C.P w = .ok (.float .f64 m) w:=by
   unfold qx at hm;split at hm
   ·cases hm
   ·rename_i ho;cases hm;cases mx<;>simp[Builtin.max2,Builtin.min2,ho]
   ·rename_i ho;cases hm;cases mx<;>simp[Builtin.max2,Builtin.min2,ho]
   ·rename_i ho;cases hm;cases mx<;>simp[Builtin.max2,Builtin.min2,ho]
  simp only[List.foldlM_cons,Sem.run_bind,h1,Result.andThen_ok];exact Kf h (by simpa using hl) (fun i c u hc hu=>hr (i+1) c u (by simpa using hc) (by simpa using hu))
theorem Wo {mx:Bool}{l:List T}{r:T}(h:xx mx l=some r){us:List Value}(hl:us.length=l.length)(hr:∀(i:Nat) (c:T) (u:Value),l[i]?=some c->us[i]?=some u->RepT σ G c u)(ts:Array TypeId)(ty:TypeId) :
  ∃z,((if mx then Builtin.max_ else Builtin.min_) ts ty us.toArray).run C.P w = .ok z w/\RepT σ G r z/\∀k,r.ref=some k->s.h k≠none:=by
 unfold xx at h;split at h
 ·rename_i x l';simp only[Option.map_eq_some_iff] at h;obtain⟨z,hz,rfl⟩:=h;cases us with
  |nil=>simp at hl
  |cons u us=>
   have hu:u = .float .f64 x:=by have:=hr 0 _ u rfl rfl;simpa [RepT,Rep] using this
   subst hu;have:=Kf (C:=C) (w:=w) (σ:=σ) (G:=G) hz (by simpa using hl) (fun i c u hc hu=>hr (i+1) c u (by simpa using hc) (by simpa using hu));refine⟨.float .f64 z,?_,by simp[RepT,Rep],by simp[T.ref]⟩;cases mx<;>simpa [Builtin.max_,Builtin.min_] using this
 ·cases h
theorem QB {t:TypeId}{x r:T}(h:vC C.P t x=some r){u:Value}(hu:RepT σ G x u)(hl:∀k,x.ref=some k->s.h k≠none) :
  ∃z,(Instr.makeInterface t u).run C.P w = .ok z w/\RepT σ G r z/\∀k,r.ref=some k->s.h k≠none:=by
 unfold vC at h;split at h
 ·rename_i e he;split at h
  ·rename_i k;cases h;simp only[RepT] at hu;obtain⟨b,hb,rfl⟩:=hu;exact⟨.iface t (.pointer (some ⟨b,0,none⟩)),by simp[Instr.makeInterface,run_underlying he],⟨b,hb,rfl⟩,fun k' hk=>hl k' (by simpa [T.ref] using hk)⟩
  ·rename_i v;cases h;simp only[RepT,Rep] at hu;subst hu;exact⟨.iface t u,by simp[Instr.makeInterface,run_underlying he],by simp[RepT,Rep],by simp[T.ref]⟩
  ·cases h
 ·rename_i e he;split at h
  ·rename_i v;cases h;simp only[RepT,Rep] at hu;subst hu;exact⟨.iface t u,by simp[Instr.makeInterface,run_underlying he],by simp[RepT,Rep],by simp[T.ref]⟩
  ·cases h
 ·cases h
theorem Qw {x r:T}(h:xH x=some r){u:Value}(hu:RepT σ G x u):x=r/\∃p,u = .pointer (some p):=by
 unfold xH at h;split at h<;>simp only[Option.some.injEq,reduceCtorEq] at h<;>subst h
 ·simp only[RepT] at hu;obtain⟨b,_,rfl⟩:=hu;exact⟨rfl,_,rfl⟩
 ·simp only[RepT,Rep] at hu;obtain⟨b,_,rfl,_⟩:=hu;exact⟨rfl,_,rfl⟩
 ·simp only[RepT,Rep] at hu;subst hu;exact⟨rfl,_,rfl⟩
end
end Go.Enc
end
