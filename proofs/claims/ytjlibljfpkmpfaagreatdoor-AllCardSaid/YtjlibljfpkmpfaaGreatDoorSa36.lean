/-
  Systems of equations are solved: what is computed.
-/
import Derived.Test.YtjlibljfpkmpfaaGreatDoorSa35
set_option maxRecDepth 100000
set_option linter.unusedSimpArgs false
set_option linter.unusedVariables false
namespace Go.Enc
open Go.Proofs Go.Enc.Fl Go.RowKit
def ivC (f:Nat->Nat×Nat):Nat->List D
 |0=>[]
 |m+1=>ivC f m++[flD (f m).1,flD (f m).2]
theorem yY (f:Nat->Nat×Nat):∀m,ivT f m=(ivC f m).map .d
 |0=>rfl
 |m+1=>by simp only[ivT,ivC,List.map_append,yY f m];rfl
theorem zfh (f:Nat->Nat×Nat)(m:Nat):(ivC f m).length=m*2:=by
 have:=jv f m;rw[yY,List.length_map] at this;exact this
theorem zcl (f:Nat->Nat×Nat):∀ {m j:Nat},j<m->((ivC f m).drop (j*2)).take 2=[flD (f j).1,flD (f j).2]:=fun {m j} h=>by
 have:=ko f h;rw[yY,<-List.map_drop,<-List.map_take] at this;have e:List.map T.d [flD (f j).1,flD (f j).2]=[.d (flD (f j).1),.d (flD (f j).2)]:=rfl;rw[<-e] at this;have inj:∀ {x y:List D},x.map T.d=y.map T.d->x=y:=fun {x y} h=>by
  have:=congrArg asDs h;rw[jX,jX] at this;exact Option.some.inj this
 exact inj this
theorem QF (f:Nat->Nat×Nat)(m:Nat):asDs (ivT f m)=some (ivC f m):=by rw[yY,jX]
theorem xY (f:Nat->Nat×Nat)(k:Nat):∀m,(ivT f m).map (wU k)=ivT f m
 |0=>rfl
 |m+1=>by simp only[ivT,List.map_append,xY f k m];rfl
theorem YI {κ:Nat->Nat}{k n:Nat}(h:∀i,i<n->κ i≠k):(gsT κ n).map (wU k)=gsT κ n:=by
 refine(List.map_congr_left fun c hc=>?_).trans (List.map_id' _);obtain⟨i,hi,rfl⟩:=Jh hc;simp only[wU,if_neg (h i hi)]
theorem zdL (κ:Nat->Nat)(n:Nat):gsT κ (n+1)=gsT κ n++[.gs (κ n)]:=by
 simp[gsT,List.range_succ]
def w9 (a:Nat->Nat->Nat×Nat)(ln:Nat->Nat)(m:Nat):D:=.sl 1 ((List.range m).map fun i=>.sl 2 (ivC (a i) (ln i)))
section
variable (M V S:Nat×Nat->Nat×Nat->AnsQ)
def je (A:Nat->Nat->Nat×Nat)(n:Nat):Nat->Option (Nat->Nat->Nat×Nat)
 |0=>some A
 |k+1=>match je A n k with
  |none=>none
  |some B=>if (pvS B n k (n-k)).2<0 then none else
   match (rowS M V S (swp B k (pvS B n k (n-k)).2.toNat) n k (n-1-k)).2 with
   |some _=>none
   |none=>some (rowS M V S (swp B k (pvS B n k (n-k)).2.toNat) n k (n-1-k)).1
def bkT (B:Nat->Nat->Nat×Nat)(out:Nat->Nat×Nat)(n i:Nat)(e:Option (ByteArray×D)):Nat->(Nat×Nat)×Option (ByteArray×D)
 |0=>(B i n,e)
 |m+1=>((S (bkT B out n i e m).1 (M (B i (i+1+m)) (out (i+1+m))).1).1,ors (ors (bkT B out n i e m).2 (M (B i (i+1+m)) (out (i+1+m))).2) (S (bkT B out n i e m).1 (M (B i (i+1+m)) (out (i+1+m))).1).2)
def bkS (B:Nat->Nat->Nat×Nat)(n:Nat):Nat->(Nat->Nat×Nat)×Option (ByteArray×D)
 |0=>(fun _=>(0,0),none)
 |m+1=>(upd (bkS B n m).1 (n-1-m) (V (bkT M S B (bkS B n m).1 n (n-1-m) (bkS B n m).2 m).1 (B (n-1-m) (n-1-m))).1,
   ors (bkT M S B (bkS B n m).1 n (n-1-m) (bkS B n m).2 m).2 (V (bkT M S B (bkS B n m).1 n (n-1-m) (bkS B n m).2 m).1 (B (n-1-m) (n-1-m))).2)
def solS (A:Nat->Nat->Nat×Nat)(n:Nat):Option (Nat->Nat×Nat):=match je M V S A n n with
 |none=>none
 |some B=>match (bkS M V S B n n).2 with
  |some _=>none
  |none=>some (bkS M V S B n n).1
end
def augB (a:Nat->Nat->Nat×Nat)(b:Nat->Nat×Nat)(n:Nat):Nat->Nat->Nat×Nat:=fun i j=>if j=n then b i else a i j
theorem zfg (a:Nat->Nat->Nat×Nat)(b:Nat->Nat×Nat)(n i:Nat):ivT (augB a b n i) (n+1)=ivT (a i) n++[.d (flD (b i).1),.d (flD (b i).2)]:=by
 simp only[ivT];rw[JM (g:=a i) (fun j hj=>by unfold augB;rw[if_neg (by omega)])];unfold augB;rw[if_pos rfl]
def fairs (f:Nat->Nat×Nat):Nat->Bool
 |0=>true
 |m+1=>fairs f m&&vL (f m)
def kS (A:Nat->Nat->Nat×Nat)(m:Nat):Nat->Bool
 |0=>true
 |i+1=>kS A m i&&fairs (A i) m
section
variable {E:Nat->Option Value} {M V S:Nat×Nat->Nat×Nat->AnsQ} (O:Ops3 E M V S)
include O
theorem xg {A:Nat->Nat->Nat×Nat}{n:Nat}(hA:∀i j,i<n->j<=n->Gd (A i j)):∀k,k<=n->∀B,je M V S A n k=some B->∀i j,i<n->j<=n->Gd (B i j)
 |0,_,B,h=>by simp only[je,Option.some.injEq] at h;subst h;exact hA
 |k+1,hk,B,h=>by
  simp only[je] at h;split at h
  ·cases h
  ·rename_i B0 h0;have g0:=xg hA k (by omega) B0 h0;split at h
   ·cases h
   ·rename_i hneg;have gs:∀i j,i<n->j<=n->Gd (swp B0 k (pvS B0 n k (n-k)).2.toNat i j):=fun i j hi hj=>by
     have hat:=JF B0 n k (n-k);unfold swp;split
     ·exact g0 k j (by omega) hj
     ·split
      ·rcases hat with h|⟨a,h1,h2,h3⟩
       ·omega
       ·rw[h3,Int.toNat_natCast];exact g0 a j (by omega) hj
      ·exact g0 i j hi hj
    split at h
    ·cases h
    ·cases h;exact Kx O gs (by omega) _ (Nat.le_refl _)
theorem zA {B:Nat->Nat->Nat×Nat}{out:Nat->Nat×Nat}{n i:Nat}{e:Option (ByteArray×D)}(hB:∀i j,i<n->j<=n->Gd (B i j))(ho:∀j,Gd (out j))(hi:i<n):∀m,i+m<n->Gd (bkT M S B out n i e m).1
 |0,_=>hB i n hi (Nat.le_refl _)
 |m+1,hm=>O.gs (zA hB ho hi m (by omega)) (O.gm (hB _ _ hi (by omega)) (ho _))
theorem JW {B:Nat->Nat->Nat×Nat}{n:Nat}(hB:∀i j,i<n->j<=n->Gd (B i j)):∀m,m<=n->∀j,Gd ((bkS M V S B n m).1 j)
 |0,_,j=>zo
 |m+1,hm,j=>by
  have ih:=JW hB m (by omega);simp only[bkS,upd];split
  ·exact O.gv (zA O hB ih (by omega) m (by omega)) (hB _ _ (by omega) (by omega))
  ·exact ih j
end
abbrev kap (i:Nat):Nat:=1000+i
def HS (A:Nat->Nat->Nat×Nat)(w i:Nat)(e:D):Nat->Option Obj:=fun k=>
 if k=35 then some ⟨none,[.gs 75,.hid e]⟩ else if k=75 then some (zL kap i) else if 1000<=k/\k<1000+i then some (rowO (A (k-1000)) w) else none
theorem zjN (A:Nat->Nat->Nat×Nat)(n:Nat)(e:D):Sys (HS A (n+1) n e) 35 75 kap n A e:=by
 refine⟨rfl,rfl,fun i hi=>?_,fun i j _ _ h=>by unfold kap at h;omega⟩;unfold HS kap;rw[if_neg (by omega),if_neg (by omega),if_pos (by omega),show 1000+i-1000=i by omega]
theorem Jw (A:Nat->Nat->Nat×Nat)(w i:Nat)(e:D):∀k o,HS A w i e k=some o->∀c∈o.cells,∀k',c.ref=some k'->HS A w i e k'≠none:=by
 intro k o ho c hc k' hk';unfold HS at ho;split at ho
 ·cases ho;simp only[List.mem_cons,List.not_mem_nil,or_false] at hc;rcases hc with rfl|rfl
  ·simp only[T.ref,Option.some.injEq] at hk';subst hk';simp[HS]
  ·simp[T.ref] at hk'
 ·split at ho
  ·cases ho;obtain⟨x,hx,rfl⟩:=Jh hc;simp only[T.ref,Option.some.injEq] at hk';subst hk';unfold HS kap;rw[if_neg (by omega),if_neg (by omega),if_pos (by omega)];simp
  ·split at ho
   ·cases ho;rw[ve hc] at hk';cases hk'
   ·cases ho
@[go_sem] theorem zmU (s:St)(k k' i:Nat):(s.ren k k').t i=renT k k' (s.t i):=(rfl)
theorem zkd (s:St)(k k' j:Nat):(s.ren k k').h j=if j=k' then (s.h k).map (Obj.ren k k') else if j=k then none else (s.h j).map (Obj.ren k k'):=(rfl)
theorem V4 (f:Nat->Nat×Nat)(k k':Nat):∀m,(ivT f m).map (renT k k')=ivT f m
 |0=>rfl
 |m+1=>by simp only[ivT,List.map_append,V4 f k k' m];rfl
theorem zfs {κ:Nat->Nat}{k k' n:Nat}(h:∀i,i<n->κ i≠k):(gsT κ n).map (renT k k')=gsT κ n:=by
 refine(List.map_congr_left fun c hc=>?_).trans (List.map_id' _);obtain⟨i,hi,rfl⟩:=Jh hc;simp only[renT,if_neg (h i hi)]
theorem zga {A:Nat->Nat->Nat×Nat}{w i k k':Nat}{e:D}{o:Obj}(h1:k≠75)(h2:k<1000)(h:HS A w i e k'=some o):({ vec:=o.vec,cells:=o.cells.map (wU k) }:Obj)=o:=by
 unfold HS at h;split at h
 ·cases h;simp only[List.map_cons,List.map_nil,wU,if_neg h1.symm]
 ·split at h
  ·cases h;rw[YI (fun j hj=>by unfold kap;omega)]
  ·split at h
   ·cases h;rw[xY]
   ·cases h
def HI (A:Nat->Nat->Nat×Nat)(w i:Nat)(e:D):Nat->Option Obj:=upd (HS A w i e) 55 (some (rowO (A i) w))
def HJ (A:Nat->Nat->Nat×Nat)(w i:Nat)(e:D):Nat->Option Obj:=upd (HI A w i e) 75 (some ⟨some (154,1,true),gsT kap i++[.gs 55]⟩)
theorem KM (A:Nat->Nat->Nat×Nat)(w i:Nat)(e:D):∀k o,HI A w i e k=some o->∀c∈o.cells,∀k',c.ref=some k'->HI A w i e k'≠none:=zX (Jw A w i e) (fun c hc=>ve hc)
theorem zgb (A:Nat->Nat->Nat×Nat)(w i:Nat)(e:D):∀k o,HJ A w i e k=some o->∀c∈o.cells,∀k',c.ref=some k'->HJ A w i e k'≠none:=by
 have hl:∀j,HI A w i e j≠none->HJ A w i e j≠none:=fun j hj=>by
  unfold HJ;simp only[upd];split
  ·simp
  ·exact hj
 intro k o ho c hc k' hk';by_cases h:k=75
 ·subst h;unfold HJ at ho;rw[wq] at ho;cases ho;refine hl k' ?_;rcases List.mem_append.1 hc with hc|hc
  ·exact KM A w i e 75 (zL kap i) (by unfold HI;rw[wD _ _ (by omega)];rfl) c hc k' hk'
  ·simp only[List.mem_cons,List.not_mem_nil,or_false] at hc;subst hc;simp only[T.ref,Option.some.injEq] at hk';subst hk';unfold HI;rw[wq];simp
 ·unfold HJ at ho;rw[wD _ _ h] at ho;exact hl k' (KM A w i e k o ho c hc k' hk')
noncomputable def solR (M V S:Nat×Nat->Nat×Nat->AnsQ)(q:Nat->Addr)(a:Nat->Nat->Nat×Nat)(ln:Nat->Nat)(m:Nat)(b:Nat->Nat×Nat)(n:Nat):Res:=
 if n<1\/4<n\/m≠n\/¬(∀i,i<m->ln i=n) then .data (.tup [.v (.slice none 0 0),eD q 7])
 else if kS (augB a b n) (n+1) n=false then .data (.tup [.v (.slice none 0 0),eD q 2])
 else match solS M V S (augB a b n) n with
  |none=>.data (.tup [.v (.slice none 0 0),eD q 8])
  |some out=>.ownP 59 2 false (ivC out n) (.v .nilIface)
theorem zbs (n:Nat):List.replicate (n*2) (T.d (.v (.float .f64 0)))=ivT (fun _=>(0,0)) n:=by
 induction n with
 |zero=>rfl
 |succ n ih=>
  rw[Nat.succ_mul,List.replicate_succ',List.replicate_succ',ih,List.append_assoc];rfl
theorem ke (n:Nat):n*2/2=n:=by omega
@[go_sem] theorem zjj (E:Nat->Option Value)(σ0:Mem)(w0:World)(base nt kb:Nat)(df:List Deferred)(G0:Gh)(s:St)(d:Nat)(n:Int)(K:St->Prop):QC ⟨Tryz.prog,E,σ0,w0,base,nt,kb,df,G0⟩ s d 154 (.d (.v (.int .i64 n))) (.d (.v (.int .i64 n))) K =
  (0<=n/\n.toNat*16<=281474976710656/\n.toNat<=maxLen/\s.h (kb+d)=none/\K (s.row kb d ⟨some (59,2,false),ivT (fun _=>(0,0)) n.toNat⟩)):=by
 have h:slT Tryz.prog 154=some (59,2,16,[.float .f64 0,.float .f64 0]):=by kernel_rfl
 simp only[QC,h,true_and];have:Vj (Value.float .f64 0) [Value.float .f64 0,Value.float .f64 0]=true:=by decide
 simp only[this,true_and,zbs]
noncomputable def HB (H:Nat->Option Obj)(κ:Nat->Nat)(n:Nat)(B:Nat->Nat->Nat×Nat)(e:D)(out:Nat->Nat×Nat):Nat->Option Obj:=upd (HM H 35 75 κ n B e) 102 (some ⟨some (59,2,false),ivT out n⟩)
noncomputable def HC (H:Nat->Option Obj)(κ:Nat->Nat)(n:Nat)(B:Nat->Nat->Nat×Nat)(e:D)(out:Nat->Nat×Nat)(v:Nat×Nat):Nat->Option Obj:=upd (HB H κ n B e out) 17 (some ⟨none,[.d (flD v.1),.d (flD v.2)]⟩)
section
variable {H:Nat->Option Obj} {κ:Nat->Nat} {n:Nat} {A B:Nat->Nat->Nat×Nat} {e e' e0:D} {out:Nat->Nat×Nat} {v:Nat×Nat}
theorem Xh:HB H κ n B e out 35=some ⟨none,[.gs 75,.hid e]⟩:=by unfold HB;rw[wD _ _ (by omega),HM_s]
theorem zhW (Y:Sys H 35 75 κ n A e0):HB H κ n B e out 75=some (zL κ n):=by unfold HB;rw[wD _ _ (by omega)];exact(ZB Y).r
theorem J3:HB H κ n B e out 102=some ⟨some (59,2,false),ivT out n⟩:=by unfold HB;rw[wq]
theorem zeL (Y:Sys H 35 75 κ n A e0){i:Nat}(hi:i<n)(h:κ i≠102):HB H κ n B e out (κ i)=some (rowO (B i) (n+1)):=by unfold HB;rw[wD _ _ h,zG Y hi]
theorem RL (Y:Sys H 35 75 κ n A e0){k:Nat}(h1:k≠102)(h:H k=none):HB H κ n B e out k=none:=by
 unfold HB;rw[wD _ _ h1];exact Decidable.byContradiction fun q=>(zH Y).1 q h
theorem RM (Y:Sys H 35 75 κ n A e0)(hd:∀k o,H k=some o->∀c∈o.cells,∀k',c.ref=some k'->H k'≠none):∀k o,HB H κ n B e out k=some o->∀c∈o.cells,∀k',c.ref=some k'->HB H κ n B e out k'≠none:=zX (vn Y hd) (fun c hc=>ve hc)
theorem RK (Y:Sys H 35 75 κ n A e0)(hd:∀k o,H k=some o->∀c∈o.cells,∀k',c.ref=some k'->H k'≠none):∀k o,HC H κ n B e out v k=some o->∀c∈o.cells,∀k',c.ref=some k'->HC H κ n B e out v k'≠none:=zX (RM Y hd) (by simp[T.ref])
theorem zgc {out':Nat->Nat×Nat}{k:Nat}(h1:k≠102)(h2:k≠35):HB H κ n B e out k=HB H κ n B e' out' k:=by
 unfold HB;rw[wD _ _ h1,wD _ _ h1];unfold HM;rw[if_neg h2,if_neg h2]
theorem He:HC H κ n B e out v 17=some ⟨none,[.d (flD v.1),.d (flD v.2)]⟩:=by unfold HC;rw[wq]
theorem zR {k:Nat}(h:k≠17):HC H κ n B e out v k=HB H κ n B e out k:=by unfold HC;rw[wD _ _ h]
end
structure SoI (M V S:Nat×Nat->Nat×Nat->AnsQ)(A:Nat->Nat->Nat×Nat)(n:Nat) where
 k:Nat
 κ:Nat->Nat
 H:Nat->Option Obj
 B:Nat->Nat->Nat×Nat
 hk:k<=n
 he:je M V S A n k=some B
 hs:Sys H 35 75 κ n B (errQ none)
 hd:∀k o,H k=some o->∀c∈o.cells,∀k',c.ref=some k'->H k'≠none
 hl:∀k',H k'≠none->k'=35\/k'=75\/1000<=k'
theorem zgZ {A:Nat->Nat->Nat×Nat}{w i k':Nat}{e:D}(h:HS A w i e k'≠none):k'=35\/k'=75\/1000<=k':=by
 unfold HS at h;split at h
 ·omega
 ·split at h
  ·omega
  ·split at h
   ·omega
   ·exact absurd rfl h
theorem QY {M V S:Nat×Nat->Nat×Nat->AnsQ}{A:Nat->Nat->Nat×Nat}{n k:Nat}(h:je M V S A n k=none):∀j,je M V S A n (k+j)=none
 |0=>h
 |j+1=>by
  show je M V S A n (k+j+1)=none
  simp only[je,QY h j]
theorem Xx {M V S:Nat×Nat->Nat×Nat->AnsQ}{A:Nat->Nat->Nat×Nat}{n k:Nat}(hk:k<=n)(h:je M V S A n k=none):solS M V S A n=none:=by
 have:=QY h (n-k);rw[show k+(n-k)=n by omega] at this;unfold solS;rw[this]
theorem UH {H:Nat->Option Obj}{ks kR n k:Nat}{κ:Nat->Nat}{A:Nat->Nat->Nat×Nat}{e:D}(S:Sys H ks kR κ n A e){x:Nat}(hk:k<n)(hx:x<n):Sys (pvH H kR κ n k (x:Int)) ks kR (swp κ k x) n (swp A k x) e:=by
 unfold pvH;rw[if_neg (by omega),Int.toNat_natCast];exact S.swap hk hx
theorem zby {H:Nat->Option Obj}{ks kR n k:Nat}{κ:Nat->Nat}{A:Nat->Nat->Nat×Nat}{e:D}(S:Sys H ks kR κ n A e){x:Nat}(hk:k<n)(hx:x<n)(hd:∀k o,H k=some o->∀c∈o.cells,∀k',c.ref=some k'->H k'≠none) :
  ∀j o,pvH H kR κ n k (x:Int) j=some o->∀c∈o.cells,∀k',c.ref=some k'->pvH H kR κ n k (x:Int) k'≠none:=by
 have Z:=UH S hk hx;have hl:∀j,H j≠none->pvH H kR κ n k (x:Int) j≠none:=fun j hj=>by
  unfold pvH;rw[if_neg (by omega)];simp only[upd];split
  ·simp
  ·exact hj
 intro j o ho c hc k' hk';by_cases h:j=kR
 ·subst h;rw[Z.r] at ho;cases ho;obtain⟨i,hi,rfl⟩:=Jh hc;simp only[T.ref,Option.some.injEq] at hk';subst hk';rw[Z.row i hi];simp
 ·unfold pvH at ho;rw[if_neg (by omega),wD _ _ h] at ho;exact hl k' (hd j o ho c hc k' hk')
theorem zbx {H:Nat->Option Obj}{kR n k:Nat}{κ:Nat->Nat}{x:Int}{j:Nat}(hR:H kR≠none)(h:pvH H kR κ n k x j≠none):H j≠none:=by
 unfold pvH at h;split at h
 ·exact h
 ·simp only[upd] at h;split at h
  ·rename_i e;rw[e];exact hR
  ·exact h
theorem zcH {E:Nat->Option Value}{H:Nat->Option Obj}{ks kR n k:Nat}{κ:Nat->Nat}{A:Nat->Nat->Nat×Nat}{e:D}(S:Sys H ks kR κ n A e)(hn4:n<=4)(hk:k<n)(hG:∀i j,i<n->j<=n->Gd (A i j))(hDp:∀k o,H k=some o->∀c∈o.cells,∀k',c.ref=some k'->H k'≠none){C:Ctx}(hP:C.P=Tryz.prog)(hE:C.E=E){s:St}(hs:s.h=H){dst:Option Nat} :
  xq C 135 [.ptr ks 0,.d (intD k)] dst s ((⟨s.t,pvH H kR κ n k (pvS A n k (n-k)).2⟩:St).put dst (.d (bD (decide (0<=(pvS A n k (n-k)).2))))):=by
 obtain⟨t,h⟩:=s;simp only at hs;subst hs;exact zfI S hn4 hk hG hDp hP hE
theorem zdo {E:Nat->Option Value}{M V S:Nat×Nat->Nat×Nat->AnsQ}{H:Nat->Option Obj}{ks kR n k:Nat}{κ:Nat->Nat}{A:Nat->Nat->Nat×Nat}(O:Ops3 E M V S)(Y:Sys H ks kR κ n A (errQ none))(hn4:n<=4)(hk:k<n)(hG:∀i j,i<n->j<=n->Gd (A i j))(hDp:∀k o,H k=some o->∀c∈o.cells,∀k',c.ref=some k'->H k'≠none){C:Ctx}(hP:C.P=Tryz.prog)(hE:C.E=E){s:St}(hs:s.h=H){dst:Option Nat} :
  xq C 136 [.ptr ks 0,.d (intD k)] dst s ((⟨s.t,clH M V S H ks kR κ n A k⟩:St).put dst (.d (.tup []))):=by
 obtain⟨t,h⟩:=s;simp only at hs;subst hs;exact zgL O Y hn4 hk hG hDp hP hE
theorem Hk {B:Nat->Nat->Nat×Nat}{n k x:Nat}(h:∀i j,i<n->j<=n->Gd (B i j))(hk:k<n)(hx:x<n):∀i j,i<n->j<=n->Gd (swp B k x i j):=fun i j hi hj=>by
 unfold swp;split
 ·exact h k j hk hj
 ·split
  ·exact h x j hx hj
  ·exact h i j hi hj
section
variable {E:Nat->Option Value} {q:Nat->Addr} {M V S:Nat×Nat->Nat×Nat->AnsQ} {a:Nat->Nat->Nat×Nat} {ln:Nat->Nat} {m n:Nat} {b:Nat->Nat×Nat}
def soS (a:Nat->Nat->Nat×Nat)(ln:Nat->Nat)(m:Nat)(b:Nat->Nat×Nat)(n i:Nat):St:=
 St.fn [(0,.d (w9 a ln m)),(1,.d (.sl 2 (ivC b n))),(6,.d (intD n)),(7,.ptr 35 0),(8,.d (bD (kS (augB a b n) (n+1) i))),(36,.d (w9 a ln m)),(37,.d (intD m)),(38,.d (intD i))] (HS (augB a b n) (n+1) i (errQ none))
theorem zcn (hq:Sent E q)(O:Ops3 E M V S)(hsz:m<=1000000)(hga:∀i j,i<m->j<ln i->Gd (a i j))(hgb:∀i,i<n->Gd (b i)) :
  DQz E 107 [w9 a ln m,.sl 2 (ivC b n)] (solR M V S q a ln m b n):=by
 refine dcA Tryz.func107 Tryz.ntmps107 (rs:=[.tmp 4,.tmp 5]) fun _ _ _ _ _=>?_
 have e7:E 7=some (errV (q 7)):=hq.var 7 (by decide);have e2:E 2=some (errV (q 2)):=hq.var 2 (by decide);have e8:E 8=some (errV (q 8)):=hq.var 8 (by decide);have hl:∀f:Nat->D,((List.range m).map f).length=m:=fun f=>by simp
 have d2:=ke;have cl:=zfh;by_cases h1:n<1\/4<n\/m≠n
 ·have hr:solR M V S q a ln m b n = .data (.tup [.v (.slice none 0 0),eD q 7]):=by
   unfold solR;rw[if_pos (by rcases h1 with h|h|h<;>simp[h])]
  rw[hr];have fin:n<1\/(¬n<1/\4<n)\/(¬n<1/\¬4<n/\m≠n):=by omega
  rcases fin with h|⟨h,h'⟩|⟨h,h',h''⟩
  ·have eA:=tB (tD (show(n:Int)<1 by omega));simp -implicitDefEqProofs only[go_sem,w9,hl,cl,d2,Nat.div_one,eA];refine drw ?_;simp -implicitDefEqProofs only[go_sem,e7,errV];refine wc ?_;simp -implicitDefEqProofs only[go_sem,errV]
  ·have eA:=tV (fD (show ¬(n:Int)<1 by omega));have eB:=tB (tD (show(n:Int)>4 by omega));simp -implicitDefEqProofs only[go_sem,w9,hl,cl,d2,Nat.div_one,eA,eB];refine drw ?_;simp -implicitDefEqProofs only[go_sem,e7,errV];refine wc ?_;simp -implicitDefEqProofs only[go_sem,errV]
  ·have eA:=tV (fD (show ¬(n:Int)<1 by omega));have eB:=tV (fD (show ¬(n:Int)>4 by omega));have eC:=tB (show((m:Int) != (n:Int))=true from bne_iff_ne.2 (by omega));simp -implicitDefEqProofs only[go_sem,w9,hl,cl,d2,Nat.div_one,eA,eB,eC];refine drw ?_;simp -implicitDefEqProofs only[go_sem,e7,errV];refine wc ?_;simp -implicitDefEqProofs only[go_sem,errV]
 have hn1:1<=n:=by omega
 have hn4:n<=4:=by omega
 obtain rfl:m=n:=by omega
 have eA:=tV (fD (show ¬(m:Int)<1 by omega));have eB:=tV (fD (show ¬(m:Int)>4 by omega));have eC:=tV (show((m:Int) != (m:Int))=false by simp);simp -implicitDefEqProofs only[go_sem,w9,hl,cl,d2,Nat.div_one,eA,eB,eC];rw[wu];have hmx:∀x,x<=1000000->x<=maxLen:=fun x hx=>by simp only[maxLen];omega
 have m1:m*16<=140737488355328:=by omega
 have m2:m<=maxLen:=hmx m hsz;have m3:(m+1)*16<=140737488355328:=by omega
 have m4:m+1<=maxLen:=hmx _ (by omega);have m5:(m*2+2)/2=m+1:=by omega
 have z1:∀x:Nat,(0:Int)<=(x:Int):=fun x=>by omega
 have il:=jv;have mt:∀(f:Nat->Nat×Nat) (k:Nat),(ivC f k).map T.d=ivT f k:=fun f k=>(yY f k).symm
 have ik:=xY;obtain⟨A,hA⟩:∃A,augB a b m=A:=⟨_,rfl⟩;have soS_eq:∀i,soS a ln m b m i=St.fn [(0,.d (w9 a ln m)),(1,.d (.sl 2 (ivC b m))),(6,.d (intD m)),(7,.ptr 35 0),(8,.d (bD (kS A (m+1) i))),(36,.d (w9 a ln m)),(37,.d (intD m)),(38,.d (intD i))] (HS A (m+1) i (errQ none)):=fun i=>by rw[<-hA];rfl
 refine zt (α:={i:Nat // i<=m/\∀j,j<i->ln j=m}) (fun i=>soS a ln m b m i.1) (fun i=>m-i.1) ⟨0,by omega,fun j hj=>by omega⟩ ?_ (fun i=>kM (by kernel_rfl) ?_)
 ·show Leads _ _ (soS a ln m b m 0)
  rw[soS_eq];have hd1:∀k o,(fun k=>if k=35 then some (⟨none,[.d (.v (.slice none 0 0)),.d (.v .nilIface)]⟩:Obj) else none) k=some o->∀c∈o.cells,∀k',c.ref=some k'->(fun k=>if k=35 then some (⟨none,[.d (.v (.slice none 0 0)),.d (.v .nilIface)]⟩:Obj) else none) k'≠none:=fun k o ho c hc k' hk'=>by
   simp only at ho;split at ho
   ·cases ho;simp only[List.mem_cons,List.not_mem_nil,or_false] at hc;rcases hc with rfl|rfl<;>simp[T.ref] at hk'
   ·cases ho
  refine Leads.trans (s':=St.fn [(0,.d (w9 a ln m)),(1,.d (.sl 2 (ivC b m))),(6,.d (intD m)),(7,.ptr 35 0),(8,.d (bD true)),(36,.d (w9 a ln m)),(37,.d (intD m)),(38,.d (intD 0))] (fun k=>if k=35 then some ⟨none,[.d (.v (.slice none 0 0)),.d (.v .nilIface)]⟩ else none)) (jb (j4 ?_ ?_ ?_ hd1)) ?_
  ·simp -implicitDefEqProofs only[go_sem,w9]
  ·intro k' o ho;by_cases hk:k'=35
   ·subst hk;simp -implicitDefEqProofs only[go_sem] at ho ⊢;exact ho
   ·simp only[hk,if_false] at ho;cases ho
  ·intro p hp k' hk';simp only[List.mem_cons,List.not_mem_nil,or_false] at hp;rcases hp with rfl|rfl|rfl|rfl|rfl|rfl|rfl|rfl<;>simp only[T.ref,Option.some.injEq,reduceCtorEq,w9] at hk'
   subst hk';simp
  refine(Xl (k:=35) (i:=0) (k2:=75) (cells:=[.d (.v (.slice none 0 0)),.d (.v .nilIface)]) rfl rfl rfl 154 1).trans ((QE (k:=35) (r:=.gs 75) (e:=.v .nilIface) rfl).trans (jb (j4 ?_ ?_ ?_ (Jw A (m+1) 0 _))))
  ·simp -implicitDefEqProofs only[go_sem,St.new,w9,kS]
  ·intro k' o ho;unfold HS at ho;by_cases hk:k'=35
   ·subst hk;simp only[if_true,Option.some.injEq] at ho;subst ho;simp -implicitDefEqProofs only[go_sem];rfl
   ·by_cases hk2:k'=75
    ·subst hk2;rw[if_neg (by omega),if_pos rfl] at ho;cases ho;simp -implicitDefEqProofs only[go_sem,St.new,upd];rfl
    ·rw[if_neg hk,if_neg hk2,if_neg (by omega)] at ho;cases ho
  ·intro p hp k' hk';simp only[List.mem_cons,List.not_mem_nil,or_false] at hp;rcases hp with rfl|rfl|rfl|rfl|rfl|rfl|rfl|rfl<;>simp only[T.ref,Option.some.injEq,reduceCtorEq,w9] at hk'
   subst hk';simp[HS]
 obtain⟨i,hi,hln⟩:=i;simp only;rw[soS_eq];by_cases hB:i<m
 ·have eD1:decide ((i:Int)<(m:Int))=true:=tD (by omega);have gi:((List.range m).map fun i=>D.sl 2 (ivC (a i) (ln i)))[i]?=some (.sl 2 (ivC (a i) (ln i))):=by
   simp[List.getElem?_map,List.getElem?_range,hB]
  by_cases hli:ln i=m
  ·have eL:=tV (show((m:Int) != (m:Int))=false by simp);have hki:1000+i≠55:=by omega
   have h35:HS A (m+1) i (errQ none) 35=some ⟨none,[.gs 75,.hid (errQ none)]⟩:=rfl;have h75:HS A (m+1) i (errQ none) 75=some (zL kap i):=rfl;have hfr:∀x,x≠35->x≠75->x<1000->HS A (m+1) i (errQ none) x=none:=fun x h1 h2 h3=>by
    unfold HS;rw[if_neg h1,if_neg h2,if_neg (by omega)]
   have h49:=hfr 49 (by omega) (by omega) (by omega);have h54:=hfr 54 (by omega) (by omega) (by omega);have h55:=hfr 55 (by omega) (by omega) (by omega);have bi:i*2<m*2:=by omega
   have bi2:i*2+2<=m*2:=by omega
   have tb:=zcl b hB;have ag:=(zfg a b m i).symm;rw[hA] at ag;have hsk:SzOk Tryz.prog:=⟨by kernel_rfl,by kernel_rfl⟩;simp -implicitDefEqProofs only[go_sem,w9,eD1,hl,Nat.mul_one,hB,gi,hli,cl,d2,eL,z1];refine drw ?_;simp -implicitDefEqProofs only[go_sem,hl,hB,cl,d2,z1,hli,m1,m2,m3,m4,m5,mt,il,h49,h54,h55,bi,bi2,tb,hsk,ag,ik,Nat.mul_div_cancel];rw[wu];have gA:∀j,j<m+1->Gd (A i j):=fun j hj=>by
    rw[<-hA];unfold augB;split
    ·exact hgb i hB
    ·exact hga i j hB (by omega)
   refine wm (α:={j:Nat // j<=m+1}) (fun j=>St.fn [(0,.d (w9 a ln m)),(1,.d (.sl 2 (ivC b m))),(6,.d (intD m)),(7,.ptr 35 0),(8,.d (bD (kS A (m+1) i&&fairs (A i) j.1))),(11,.gs 55),(36,.d (w9 a ln m)),(37,.d (intD m)),(38,.d (intD i)),(56,.gs 55),(57,.d (intD ((m+1:Nat):Int))),(58,.d (intD j.1))] (HI A (m+1) i (errQ none))) (fun j=>m+1-j.1) ⟨0,by omega⟩ (j4 ?_ ?_ ?_ (KM A (m+1) i _)) (by kernel_rfl) (fun j=>?_)
   ·simp -implicitDefEqProofs only[go_sem,w9,fairs,Bool.and_true,m5,ag,ik,il,d2]
   ·intro k' o ho;unfold HI at ho;by_cases hk:k'=55
    ·subst hk;rw[wq] at ho;simp -implicitDefEqProofs only[go_sem,ag,ik];exact ho
    ·rw[wD _ _ hk] at ho;have k54:(k'=54)=False:=by simp;rintro rfl;rw[h54] at ho;cases ho
     have k49:(k'=49)=False:=by simp;rintro rfl;rw[h49] at ho;cases ho
     have hkk:(k'=55)=False:=by simp[hk]
     have hkill:=zga (k:=49) (by omega) (by omega) ho;simp -implicitDefEqProofs only[go_sem,hkk,k54,k49,ho,hkill]
   ·intro p hp k' hk';simp only[List.mem_cons,List.not_mem_nil,or_false] at hp;rcases hp with rfl|rfl|rfl|rfl|rfl|rfl|rfl|rfl|rfl|rfl|rfl|rfl<;>simp only[T.ref,Option.some.injEq,reduceCtorEq,w9] at hk'
    ·subst hk';simp[HI,upd,HS]
    ·subst hk';simp[HI,upd]
    ·subst hk';simp[HI,upd]
   obtain⟨j,hj⟩:=j;simp only;have i35:HI A (m+1) i (errQ none) 35=some ⟨none,[.gs 75,.hid (errQ none)]⟩:=rfl;have i75:HI A (m+1) i (errQ none) 75=some (zL kap i):=rfl;have i55:HI A (m+1) i (errQ none) 55=some (rowO (A i) (m+1)):=rfl;have i13:HI A (m+1) i (errQ none) 13=none:=by unfold HI;rw[wD _ _ (by omega)];exact hfr 13 (by omega) (by omega) (by omega)
   have i74:HI A (m+1) i (errQ none) 74=none:=by unfold HI;rw[wD _ _ (by omega)];exact hfr 74 (by omega) (by omega) (by omega)
   by_cases hC:j<m+1
   ·have eE:decide ((j:Int)<((m+1:Nat):Int))=true:=tD (by omega);have j1:j*2<(m+1)*2:=by omega
    have j2:j*2+2<=(m+1)*2:=by omega
    have tj:=ko (A i) hC;have w1:=wL (c:=j) (by omega);obtain⟨j',hj'⟩:∃j':{j:Nat // j<=m+1},j'.1=j+1:=⟨⟨j+1,by omega⟩,rfl⟩;have fin:∀ {s:St},s.t 0 = .d (w9 a ln m)->s.t 1 = .d (.sl 2 (ivC b m))->s.t 6 = .d (intD m)->s.t 7 = .ptr 35 0->s.t 8 = .d (bD (kS A (m+1) i&&fairs (A i) (j+1)))->s.t 11 = .gs 55->s.t 36 = .d (w9 a ln m)->s.t 37 = .d (intD m)->s.t 38 = .d (intD i)->s.t 56 = .gs 55->s.t 57 = .d (intD ((m+1:Nat):Int))->s.t 58 = .d (intD ((j+1:Nat):Int)) ->
      (∀k' o,HI A (m+1) i (errQ none) k'=some o->s.h k'=some o) ->
      ∃x:{j:Nat // j<=m+1},Weak s (St.fn [(0,.d (w9 a ln m)),(1,.d (.sl 2 (ivC b m))),(6,.d (intD m)),(7,.ptr 35 0),(8,.d (bD (kS A (m+1) i&&fairs (A i) x.1))),(11,.gs 55),(36,.d (w9 a ln m)),(37,.d (intD m)),(38,.d (intD i)),(56,.gs 55),(57,.d (intD ((m+1:Nat):Int))),(58,.d (intD x.1))] (HI A (m+1) i (errQ none)))/\m+1-x.1<m+1-j:=fun t0 t1 t6 t7 t8 t11 t36 t37 t38 t56 t57 t58 th=>by
     refine⟨j',j4 ?_ th ?_ (KM A (m+1) i _),by omega⟩
     ·simp only[zQ,hj',t0,t1,t6,t7,t8,t11,t36,t37,t38,t56,t57,t58,Jv,and_self]
     ·intro p hp k' hk';simp only[List.mem_cons,List.not_mem_nil,or_false] at hp;rcases hp with rfl|rfl|rfl|rfl|rfl|rfl|rfl|rfl|rfl|rfl|rfl|rfl<;>simp only[T.ref,Option.some.injEq,reduceCtorEq,w9] at hk'
      ·subst hk';simp[HI,upd,HS]
      ·subst hk';simp[HI,upd]
      ·subst hk';simp[HI,upd]
    have hh:∀k' o,HI A (m+1) i (errQ none) k'=some o->(k'=13)=False:=fun k' o ho=>by
     simp;rintro rfl;rw[i13] at ho;cases ho
    obtain⟨g,hg⟩:∃g,(kS A (m+1) i&&fairs (A i) j)=g:=⟨_,rfl⟩;rw[hg];have hg2:(kS A (m+1) i&&fairs (A i) (j+1))=(g&&vL (A i j)):=by
     simp only[fairs];rw[<-hg,Bool.and_assoc]
    rw[hg2] at fin;cases g
    ·simp -implicitDefEqProofs only[go_sem,w9,eE,i55,il,j1,j2,tj,i13,w1,z1];exact fin (by simp -implicitDefEqProofs only[go_sem,w9]) (by simp -implicitDefEqProofs only[go_sem]) (by simp -implicitDefEqProofs only[go_sem]) (by simp -implicitDefEqProofs only[go_sem]) (by simp -implicitDefEqProofs only[go_sem]) (by simp -implicitDefEqProofs only[go_sem]) (by simp -implicitDefEqProofs only[go_sem,w9]) (by simp -implicitDefEqProofs only[go_sem]) (by simp -implicitDefEqProofs only[go_sem]) (by simp -implicitDefEqProofs only[go_sem]) (by simp -implicitDefEqProofs only[go_sem]) (by simp -implicitDefEqProofs only[go_sem]) (fun k' o ho=>by simp -implicitDefEqProofs only[go_sem,ho,hh k' o ho])
    ·simp -implicitDefEqProofs only[go_sem,w9,eE,i55,il,j1,j2,tj,i13,w1,z1];refine cI (zio _ (gA j hC)) ?_;simp -implicitDefEqProofs only[go_sem,w1];exact fin (by simp -implicitDefEqProofs only[go_sem,w9]) (by simp -implicitDefEqProofs only[go_sem]) (by simp -implicitDefEqProofs only[go_sem]) (by simp -implicitDefEqProofs only[go_sem]) (by simp -implicitDefEqProofs only[go_sem]) (by simp -implicitDefEqProofs only[go_sem]) (by simp -implicitDefEqProofs only[go_sem,w9]) (by simp -implicitDefEqProofs only[go_sem]) (by simp -implicitDefEqProofs only[go_sem]) (by simp -implicitDefEqProofs only[go_sem]) (by simp -implicitDefEqProofs only[go_sem]) (by simp -implicitDefEqProofs only[go_sem]) (fun k' o ho=>by simp -implicitDefEqProofs only[go_sem,ho,hh k' o ho])
   ·have eE:decide ((j:Int)<((m+1:Nat):Int))=false:=fD (by omega);have hjn:j=m+1:=by omega
    subst hjn;have gl:=zm kap i;have m6:(i+1)*24<=140737488355328:=by omega
    have m7:i+1<=maxLen:=hmx _ (by omega);have gk:(gsT kap i++[T.gs 55]).map (wU 75)=gsT kap i++[.gs 55]:=by
     rw[List.map_append,YI (fun x hx=>by unfold kap;omega)];rfl
    have w1:=wL (c:=i) (by omega);simp -implicitDefEqProofs only[go_sem,w9,eE,i35,i75,i55,i74,gl,gk,m6,m7,Nat.div_one,w1];refine⟨⟨i+1,by omega,fun x hx=>by
     rcases Nat.lt_or_ge x i with h|h
     ·exact hln x h
     ·have:x=i:=by omega
      rw[this];exact hli⟩,?_,by simp only;omega⟩
    show Leads _ _ (soS a ln m b m (i+1))
    rw[soS_eq];refine Leads.trans (s':=St.fn [(0,.d (w9 a ln m)),(1,.d (.sl 2 (ivC b m))),(6,.d (intD m)),(7,.ptr 35 0),(8,.d (bD (kS A (m+1) (i+1)))),(36,.d (w9 a ln m)),(37,.d (intD m)),(38,.d (intD ((i+1:Nat):Int)))] (HJ A (m+1) i (errQ none))) (jb (j4 ?_ ?_ ?_ (zgb A (m+1) i _))) ?_
    ·simp -implicitDefEqProofs only[go_sem,w9,kS]
    ·intro k' o ho;unfold HJ at ho;by_cases q1:k'=75
     ·subst q1;rw[wq] at ho;simp -implicitDefEqProofs only[go_sem,gk];exact ho
     ·rw[wD _ _ q1] at ho;have q1':(k'=75)=False:=by simp[q1]
      have q2:(k'=74)=False:=by simp;rintro rfl;rw[i74] at ho;cases ho
      by_cases q3:k'=35
      ·subst q3;rw[i35] at ho;simp -implicitDefEqProofs only[go_sem];exact ho
      ·have q3':(k'=35)=False:=by simp[q3]
       by_cases q4:k'=55
       ·subst q4;rw[i55] at ho;simp -implicitDefEqProofs only[go_sem,i55,ik];exact ho
       ·unfold HI at ho;rw[wD _ _ q4] at ho;have ho2:HI A (m+1) i (errQ none) k'=some o:=by unfold HI;rw[wD _ _ q4];exact ho
        have hkill:({ vec:=o.vec,cells:=o.cells.map (wU 75) }:Obj)=o:=by
         unfold HS at ho;rw[if_neg q3,if_neg q1] at ho;split at ho
         ·cases ho;rw[xY]
         ·cases ho
        simp -implicitDefEqProofs only[go_sem,q1',q2,q3',ho2,hkill]
    ·intro p hp k' hk';simp only[List.mem_cons,List.not_mem_nil,or_false] at hp;rcases hp with rfl|rfl|rfl|rfl|rfl|rfl|rfl|rfl<;>simp only[T.ref,Option.some.injEq,reduceCtorEq,w9] at hk'
     subst hk';simp[HJ,HI,upd,HS]
    have hf2:HJ A (m+1) i (errQ none) (1000+i)=none:=by
     unfold HJ HI;rw[wD _ _ (by omega),wD _ _ (by omega)];unfold HS;rw[if_neg (by omega),if_neg (by omega),if_neg (by omega)]
    refine(zaP 55 (1000+i) hf2).trans (jb (j4 ?_ ?_ ?_ (Jw A (m+1) (i+1) _)))
    ·simp -implicitDefEqProofs only[go_sem,w9,renT]
    ·intro k' o ho;rw[zkd];simp only[fn_h];unfold HS at ho;by_cases q1:k'=35
     ·subst q1;rw[if_pos rfl] at ho;cases ho;rw[if_neg (by omega),if_neg (by omega)];rfl
     ·rw[if_neg q1] at ho;by_cases q2:k'=75
      ·subst q2;rw[if_pos rfl] at ho;cases ho;rw[if_neg (by omega),if_neg (by omega)];simp only[HJ,wq,Option.map_some,Obj.ren,List.map_append,List.map_cons,List.map_nil,renT,if_true];rw[zfs (fun x hx=>by unfold kap;omega)];simp only[zL];rw[zdL]
      ·rw[if_neg q2] at ho;split at ho
       ·rename_i hr;cases ho;by_cases q3:k'=1000+i
        ·subst q3;rw[if_pos rfl];simp only[HJ,wD _ _ (show(55:Nat)≠75 by omega),HI,wq,Option.map_some,Obj.ren,V4];rw[show 1000+i-1000=i by omega]
        ·rw[if_neg q3,if_neg (by omega)];unfold HJ HI;rw[wD _ _ q2,wD _ _ (show k'≠55 by omega)];unfold HS;rw[if_neg q1,if_neg q2,if_pos (by omega)];simp only[Option.map_some,Obj.ren,V4]
       ·cases ho
    ·intro p hp k' hk';simp only[List.mem_cons,List.not_mem_nil,or_false] at hp;rcases hp with rfl|rfl|rfl|rfl|rfl|rfl|rfl|rfl<;>simp only[T.ref,Option.some.injEq,reduceCtorEq,w9] at hk'
     subst hk';simp[HS]
  ·have hr:solR M V S q a ln m b m = .data (.tup [.v (.slice none 0 0),eD q 7]):=by
    unfold solR;rw[if_pos (by right;right;right;intro h;exact hli (h i hB))]
   rw[hr];have eL:=tB (show((ln i:Int) != (m:Int))=true from bne_iff_ne.2 (by omega));simp -implicitDefEqProofs only[go_sem,w9,eD1,hl,Nat.mul_one,hB,gi,cl,d2,eL,z1];refine drw ?_;simp -implicitDefEqProofs only[go_sem,e7,errV];refine wc ?_;simp -implicitDefEqProofs only[go_sem,errV]
 ·have eD1:decide ((i:Int)<(m:Int))=false:=fD (by omega);have hin:i=m:=by omega
  subst hin;have hall:∀j,j<i->ln j=i:=hln;cases hf:kS A (i+1) i
  ·have hr:solR M V S q a ln i b i = .data (.tup [.v (.slice none 0 0),eD q 2]):=by
    unfold solR;rw[if_neg (by
     rintro(h|h|h|h)
     ·omega
     ·omega
     ·exact h rfl
     ·exact h hall),hA,if_pos hf]
   rw[hr];simp -implicitDefEqProofs only[go_sem,eD1,hf];refine drw ?_;simp -implicitDefEqProofs only[go_sem,e2,errV];refine wc ?_;simp -implicitDefEqProofs only[go_sem,errV]
  ·have hr:solR M V S q a ln i b i=(match solS M V S A i with
     |none=>.data (.tup [.v (.slice none 0 0),eD q 8])
     |some out=>.ownP 59 2 false (ivC out i) (.v .nilIface)):=by
    unfold solR;rw[if_neg (by
     rintro(h|h|h|h)
     ·omega
     ·omega
     ·exact h rfl
     ·exact h hall),hA,if_neg (by rw[hf];simp)]
   rw[hr];simp -implicitDefEqProofs only[go_sem,eD1,hf];obtain⟨L,hL⟩:∃L:List (Nat×T),L=[(6,.d (intD i)),(7,.ptr 35 0),(82,.d (intD i))]:=⟨_,rfl⟩;have hgA:∀x y,x<i->y<=i->Gd (A x y):=fun x y hx hy=>by
    rw[<-hA];unfold augB;split
    ·exact hgb x hx
    ·exact hga x y hx (by rw[hall x hx];omega)
   have fo:∀ {H:Nat->Option Obj} {s:St} (k:Nat),s.t 6 = .d (intD i)->s.t 7 = .ptr 35 0->s.t 82 = .d (intD i)->s.t 83 = .d (intD k)->H 35≠none->(∀k o,H k=some o->∀c∈o.cells,∀k',c.ref=some k'->H k'≠none)->(∀k' o,H k'=some o->s.h k'=some o) ->
     Weak s (St.fn [(6,.d (intD i)),(7,.ptr 35 0),(82,.d (intD i)),(83,.d (intD k))] H):=fun k t6 t7 t82 t83 h35 hdp hh=>by
    refine j4 ?_ hh ?_ hdp
    ·simp only[zQ,t6,t7,t82,t83,Jv,and_self]
    ·intro p hp k' hk';simp only[List.mem_cons,List.not_mem_nil,or_false] at hp;rcases hp with rfl|rfl|rfl|rfl<;>simp only[T.ref,Option.some.injEq,reduceCtorEq] at hk'
     subst hk';exact h35
   refine wm (α:=SoI M V S A i) (fun x=>St.fn [(6,.d (intD i)),(7,.ptr 35 0),(82,.d (intD i)),(83,.d (intD x.k))] x.H) (fun x=>i-x.k) ⟨0,kap,HS A (i+1) i (errQ none),A,by omega,rfl,zjN A i _,Jw A _ _ _,fun k' h=>zgZ h⟩ (fo 0 ?_ ?_ ?_ ?_ ?_ (Jw A _ _ _) ?_) (by kernel_rfl) (fun x=>?_)
   ·simp -implicitDefEqProofs only[go_sem]
   ·simp -implicitDefEqProofs only[go_sem]
   ·simp -implicitDefEqProofs only[go_sem]
   ·simp -implicitDefEqProofs only[go_sem]
   ·simp[HS]
   ·intro k' o ho;simp -implicitDefEqProofs only[go_sem];exact ho
   obtain⟨k,κ,H,B,hk,he,hs,hd,hlv⟩:=x;simp only;have gB:=xg O hgA k hk B he;by_cases hki:k<i
   ·have eE:decide ((k:Int)<(i:Int))=true:=tD (by omega);have w1:=wL (c:=k) (by omega);have hat:=JF B i k (i-k);simp -implicitDefEqProofs only[go_sem,eE];refine CallP.intro (zcH hs hn4 hki gB hd rfl rfl rfl) ?_;rcases hat with h|⟨x,hx1,hx2,hx3⟩
    ·have hes:je M V S A i (k+1)=none:=by
      simp only[je,he,h];rfl
     have hso:=Xx (by omega) hes;rw[hso];have e7':decide ((0:Int)<=-1)=false:=by decide
     simp -implicitDefEqProofs only[go_sem,h,e7'];refine drw ?_;simp -implicitDefEqProofs only[go_sem,e8,errV];refine wc ?_;simp -implicitDefEqProofs only[go_sem,errV]
    ·have e7':decide ((0:Int)<=(x:Int))=true:=tD (by omega);have hxi:x<i:=by omega
     have Z:=UH hs hki hxi;have Zd:=zby hs hki hxi hd;have gS:=Hk gB hki hxi;simp -implicitDefEqProofs only[go_sem,hx3,e7'];refine CallP.intro (zdo O Z hn4 hki gS Zd rfl rfl rfl) ?_;have Y:=ZB (B:=(rowS M V S (swp B k x) i k (i-1-k)).1) (e:=errQ (rowS M V S (swp B k x) i k (i-1-k)).2) Z;have Yd:=vn (B:=(rowS M V S (swp B k x) i k (i-1-k)).1) (e:=errQ (rowS M V S (swp B k x) i k (i-1-k)).2) Z Zd;have Y35:=Y.s;have hcl:clH M V S (pvH H 75 κ i k (x:Int)) 35 75 (swp κ k x) i (swp B k x) k=HM (pvH H 75 κ i k (x:Int)) 35 75 (swp κ k x) i (rowS M V S (swp B k x) i k (i-1-k)).1 (errQ (rowS M V S (swp B k x) i k (i-1-k)).2):=rfl;have hlive:∀k',HM (pvH H 75 κ i k (x:Int)) 35 75 (swp κ k x) i (rowS M V S (swp B k x) i k (i-1-k)).1 (errQ (rowS M V S (swp B k x) i k (i-1-k)).2) k'≠none->k'=35\/k'=75\/1000<=k':=fun k' h=>hlv k' (zbx (by rw[hs.r];simp) ((zH Z).1 h))
     obtain⟨N,hN⟩:∃N,HM (pvH H 75 κ i k (x:Int)) 35 75 (swp κ k x) i (rowS M V S (swp B k x) i k (i-1-k)).1 (errQ (rowS M V S (swp B k x) i k (i-1-k)).2)=N:=⟨_,rfl⟩;rw[hN] at hcl Y Yd Y35 hlive;rw[hcl];have hel:je M V S A i (k+1)=match (rowS M V S (swp B k x) i k (i-1-k)).2 with
       |some _=>none
       |none=>some (rowS M V S (swp B k x) i k (i-1-k)).1:=by
      simp only[je,he,hx3,Int.toNat_natCast];rw[if_neg (by omega)]
     cases hR:(rowS M V S (swp B k x) i k (i-1-k)).2 with
     |some p=>
      rw[hR] at hel Y35;have hso:=Xx (by omega) hel;rw[hso];have hn:(errQ (some p))=opE p.1 p.2:=rfl;simp -implicitDefEqProofs only[go_sem,Y35,hn];refine drw ?_;simp -implicitDefEqProofs only[go_sem,e8,errV];refine wc ?_;simp -implicitDefEqProofs only[go_sem,errV]
     |none=>
      rw[hR] at hel Y35 Y;have hn:(errQ (none:Option (ByteArray×D))) = .v .nilIface:=rfl;simp -implicitDefEqProofs only[go_sem,Y35,hn,w1];refine⟨⟨k+1,swp κ k x,_,_,by omega,hel,Y,Yd,hlive⟩,fo (k+1) ?_ ?_ ?_ ?_ ?_ Yd ?_,by simp only;omega⟩
      ·simp -implicitDefEqProofs only[go_sem]
      ·simp -implicitDefEqProofs only[go_sem]
      ·simp -implicitDefEqProofs only[go_sem]
      ·simp -implicitDefEqProofs only[go_sem]
      ·show N 35≠none
       rw[Y35];simp
      ·intro k' o ho;simp -implicitDefEqProofs only[go_sem];exact ho
   ·have eE:decide ((k:Int)<(i:Int))=false:=fD (by omega);obtain rfl:k=i:=by omega
    simp -implicitDefEqProofs only[go_sem,eE];have hlz:∀x,x<1000->x≠35->x≠75->H x=none:=fun x h1 h2 h3=>Decidable.byContradiction fun h=>by have:=hlv x h;omega
    have hκ:∀x,x<k->1000<=κ x:=fun x hx=>by
     have h1:=hlv (κ x) (by rw[hs.row x hx];simp);have h2:=hs.ne2 hx;have h3:=hs.ne3 hx;omega
    have kz:∀x d,x<k->d<1000->(κ x=d)=False:=fun x d hx hd=>by have:=hκ x hx;simp;omega
    have kz':∀x d,x<k->d<1000->(d=κ x)=False:=fun x d hx hd=>by have:=hκ x hx;simp;omega
    have h102:=hlz 102 (by omega) (by omega) (by omega);have h17:=hlz 17 (by omega) (by omega) (by omega);have mk1:k*16<=281474976710656:=by omega
    have wn:IntKind.i64.wrap ((k:Int)-1)=(k:Int)-1:=w64 (by omega);simp -implicitDefEqProofs only[go_sem,h102,mk1,m2,z1,Int.toNat_natCast,wn];rw[wu];obtain⟨bk,hbk⟩:∃bk,bkS M V S B k=bk:=⟨_,rfl⟩;have gbk:∀m,m<=k->∀j,Gd ((bk m).1 j):=by rw[<-hbk];exact JW O gB
    have bk0:bk 0=(fun _=>(0,0),none):=by rw[<-hbk];rfl
    have hsol:solS M V S A k=match (bk k).2 with
      |some _=>none
      |none=>some (bk k).1:=by
     unfold solS;rw[he];simp only;rw[hbk]
    rw[hsol];have fo2:∀ {s:St} (m:Nat),s.t 6 = .d (intD k)->s.t 7 = .ptr 35 0->s.t 15 = .gs 102->s.t 16 = .d (intD ((k:Int)-1-m))->(∀k' o,HB H κ k B (errQ (bk m).2) (bk m).1 k'=some o->s.h k'=some o) ->
      Weak s (St.fn [(6,.d (intD k)),(7,.ptr 35 0),(15,.gs 102),(16,.d (intD ((k:Int)-1-m)))] (HB H κ k B (errQ (bk m).2) (bk m).1)):=fun m t6 t7 t15 t16 hh=>by
     refine j4 ?_ hh ?_ (RM hs hd)
     ·simp only[zQ,t6,t7,t15,t16,Jv,and_self]
     ·intro p hp k' hk';simp only[List.mem_cons,List.not_mem_nil,or_false] at hp;rcases hp with rfl|rfl|rfl|rfl<;>simp only[T.ref,Option.some.injEq,reduceCtorEq] at hk'
      ·subst hk';rw[Xh];simp
      ·subst hk';rw[J3];simp
    refine wm (α:={m:Nat // m<=k}) (fun m=>St.fn [(6,.d (intD k)),(7,.ptr 35 0),(15,.gs 102),(16,.d (intD ((k:Int)-1-m.1)))] (HB H κ k B (errQ (bk m.1).2) (bk m.1).1)) (fun m=>k-m.1) ⟨0,by omega⟩ (fo2 0 ?_ ?_ ?_ ?_ ?_) (by kernel_rfl) (fun m=>?_)
    ·simp -implicitDefEqProofs only[go_sem]
    ·simp -implicitDefEqProofs only[go_sem]
    ·simp -implicitDefEqProofs only[go_sem]
    ·simp -implicitDefEqProofs only[go_sem,wn];rw[show(k:Int)-1-0=(k:Int)-1 by omega]
    ·intro k' o ho;rw[bk0] at ho;unfold HB at ho;by_cases q1:k'=102
     ·subst q1;rw[wq] at ho;simp -implicitDefEqProofs only[go_sem];exact ho
     ·rw[wD _ _ q1] at ho;have q1':(k'=102)=False:=by simp[q1]
      simp -implicitDefEqProofs only[go_sem,q1'];rw[<-ho];have:=congrFun (RI hs) k';exact this.symm
    obtain⟨m,hm⟩:=m;simp only;obtain⟨out,ho⟩:∃out,(bk m).1=out:=⟨_,rfl⟩;obtain⟨eo,heo⟩:∃eo,(bk m).2=eo:=⟨_,rfl⟩;have gout:=gbk m hm;rw[ho] at gout;rw[ho,heo];have c35:=Xh (H:=H) (κ:=κ) (n:=k) (B:=B) (e:=errQ eo) (out:=out);have c75:=zhW (B:=B) (e:=errQ eo) (out:=out) hs;have c102:=J3 (H:=H) (κ:=κ) (n:=k) (B:=B) (e:=errQ eo) (out:=out);have c17:HB H κ k B (errQ eo) out 17=none:=RL hs (by omega) h17;have gl:=zm κ k;by_cases hmk:m<k
    ·obtain⟨r,hr0⟩:∃r,k-1-m=r:=⟨_,rfl⟩;have hrk:r<k:=by omega
     have hri:(k:Int)-1-m=(r:Int):=by omega
     rw[hri];have eG:decide ((r:Int)>=0)=true:=tD (by omega);have crow:=zeL (B:=B) (e:=errQ eo) (out:=out) hs hrk (by have:=hκ r hrk;omega);have ggr:=vg κ hrk;have rl:(ivT (B r) (k+1)).length=(k+1)*2:=jv _ _;have q1:k*2<(k+1)*2:=by omega
     have q2:k*2+2<=(k+1)*2:=by omega
     have tk:=ko (B r) (show k<k+1 by omega);have w1:=wL (c:=r) (by omega);simp -implicitDefEqProofs only[go_sem,eG,c35,c75,gl,hrk,ggr,crow,rl,q1,q2,tk,c17,w1,z1,Nat.mul_one];rw[wu];obtain⟨W,hW⟩:∃W,bkT M S B out k r eo=W:=⟨_,rfl⟩;have T0:W 0=(B r k,eo):=by rw[<-hW];rfl
     have gT:∀j,r+j<k->Gd (W j).1:=by rw[<-hW];exact fun j hj=>zA O gB gout hrk j hj
     refine wm (α:={j:Nat // j<=m}) (fun j=>St.fn [(6,.d (intD k)),(7,.ptr 35 0),(15,.gs 102),(16,.d (intD r)),(17,.ptr 17 0),(18,.d (intD ((r+1+j.1:Nat):Int)))] (HC H κ k B (errQ (W j.1).2) out (W j.1).1)) (fun j=>m-j.1) ⟨0,by omega⟩ (j4 ?_ ?_ ?_ (RK hs hd)) (by kernel_rfl) (fun j=>?_)
     ·simp -implicitDefEqProofs only[go_sem,w1]
     ·intro k' o ho;rw[T0] at ho;by_cases q1:k'=17
      ·subst q1;rw[He] at ho;simp -implicitDefEqProofs only[go_sem];exact ho
      ·rw[zR q1] at ho;have q1':(k'=17)=False:=by simp[q1]
       simp -implicitDefEqProofs only[go_sem,q1'];exact ho
     ·intro p hp k' hk';simp only[List.mem_cons,List.not_mem_nil,or_false] at hp;rcases hp with rfl|rfl|rfl|rfl|rfl|rfl<;>simp only[T.ref,Option.some.injEq,reduceCtorEq] at hk'
      ·subst hk';rw[zR (by omega),Xh];simp
      ·subst hk';rw[zR (by omega),J3];simp
      ·subst hk';rw[He];simp
     obtain⟨j,hj⟩:=j;simp only;have gTj:=gT j (by omega);obtain⟨v,hv⟩:∃v,(W j).1=v:=⟨_,rfl⟩;obtain⟨ej,hej⟩:∃ej,(W j).2=ej:=⟨_,rfl⟩;rw[hv] at gTj;rw[hv,hej];obtain⟨HX,hHX⟩:∃HX,HC H κ k B (errQ ej) out v=HX:=⟨_,rfl⟩;have a35:HX 35=some ⟨none,[.gs 75,.hid (errQ ej)]⟩:=by rw[<-hHX,zR (by omega),Xh]
     have a75:HX 75=some (zL κ k):=by rw[<-hHX,zR (by omega),zhW hs]
     have a102:HX 102=some ⟨some (59,2,false),ivT out k⟩:=by rw[<-hHX,zR (by omega),J3]
     have a17:HX 17=some ⟨none,[.d (flD v.1),.d (flD v.2)]⟩:=by rw[<-hHX,He]
     have arow:HX (κ r)=some (rowO (B r) (k+1)):=by
      have:=hκ r hrk;rw[<-hHX,zR (by omega),zeL hs hrk (by omega)]
     have z1':=kz r 35 hrk (by omega);have z2':=kz r 102 hrk (by omega);have z3':=kz r 17 hrk (by omega);have z4':=kz' r 35 hrk (by omega);have z5':=kz' r 102 hrk (by omega);have z6':=kz' r 17 hrk (by omega);have ol:(ivT out k).length=k*2:=jv _ _;have hDo:=zhA E;rw[hHX];by_cases hjm:j<m
     ·obtain⟨x,hx⟩:∃x,r+1+j=x:=⟨_,rfl⟩;rw[hx];have hxk:x<k:=by omega
      have eH:decide ((x:Int)<(k:Int))=true:=tD (by omega);have q3:x*2<(k+1)*2:=by omega
      have q4:x*2+2<=(k+1)*2:=by omega
      have q5:x*2<k*2:=by omega
      have q6:x*2+2<=k*2:=by omega
      have t1:=ko (B r) (show x<k+1 by omega);have t2:=ko out hxk;simp -implicitDefEqProofs only[go_sem,eH];refine drw ?_;simp -implicitDefEqProofs only[go_sem,a35,a75,a102,a17,arow,gl,ggr,hrk,rl,ol,q3,q4,q5,q6,t1,t2,z1,Nat.mul_one];refine cI (O.m _ _ (gB r x hrk (by omega)) (gout x)).1 ?_;obtain⟨mm,hmm⟩:∃mm,M (B r x) (out x)=mm:=⟨_,rfl⟩;have gm:Gd mm.1:=by rw[<-hmm];exact O.gm (gB r x hrk (by omega)) (gout x)
      rw[hmm];simp -implicitDefEqProofs only[go_sem,a35,hDo,qk,vN];refine cI (O.s _ _ gTj gm).1 ?_;obtain⟨ss,hss⟩:∃ss,S v mm.1=ss:=⟨_,rfl⟩;rw[hss];obtain⟨e2',he2⟩:∃e2,ors (ors ej mm.2) ss.2=e2:=⟨_,rfl⟩;have hW1:W (j+1)=(ss.1,e2'):=by
       rw[<-hW];simp only[bkT];rw[hW,hv,hej,hx,hmm,hss,he2]
      have hx1:=wL (c:=x) (by omega);obtain⟨j',hj'⟩:∃j':{j:Nat // j<=m},j'.1=j+1:=⟨⟨j+1,by omega⟩,rfl⟩;simp -implicitDefEqProofs only[go_sem,a35,a17,hDo,qk,vN,he2,hx1];refine⟨j',j4 ?_ ?_ ?_ (RK hs hd),by omega⟩
      ·have:r+1+j'.1=x+1:=by omega
       simp -implicitDefEqProofs only[go_sem,this]
      ·intro k' o ho;rw[hj',hW1] at ho;by_cases p1:k'=17
       ·subst p1;rw[He] at ho;simp -implicitDefEqProofs only[go_sem];exact ho
       ·have p1':(k'=17)=False:=by simp[p1]
        rw[zR p1] at ho;by_cases p2:k'=35
        ·subst p2;rw[Xh] at ho;simp -implicitDefEqProofs only[go_sem,he2];exact ho
        ·have p2':(k'=35)=False:=by simp[p2]
         have:HX k'=some o:=by
          rw[<-hHX,zR p1,<-ho];unfold HB;by_cases p3:k'=102
          ·rw[p3,wq,wq]
          ·rw[wD _ _ p3,wD _ _ p3];unfold HM;rw[if_neg p2,if_neg p2]
         simp -implicitDefEqProofs only[go_sem,p1',p2',this]
      ·intro p hp k' hk';simp only[List.mem_cons,List.not_mem_nil,or_false] at hp;rcases hp with rfl|rfl|rfl|rfl|rfl|rfl<;>simp only[T.ref,Option.some.injEq,reduceCtorEq] at hk'
       ·subst hk';rw[zR (by omega),Xh];simp
       ·subst hk';rw[zR (by omega),J3];simp
       ·subst hk';rw[He];simp
     ·have hjm:j=m:=by omega
      subst hjm;have hxk:r+1+j=k:=by omega
      rw[hxk];have eH:decide ((k:Int)<(k:Int))=false:=fD (by omega);have q3:r*2<(k+1)*2:=by omega
      have q4:r*2+2<=(k+1)*2:=by omega
      have q5:r*2<k*2:=by omega
      have q6:r*2+2<=k*2:=by omega
      have t1:=ko (B r) (show r<k+1 by omega);simp -implicitDefEqProofs only[go_sem,eH];refine drw ?_;simp -implicitDefEqProofs only[go_sem,a35,a75,a102,a17,arow,gl,ggr,hrk,rl,ol,q3,q4,q5,q6,t1,z1,Nat.mul_one];have grr:=gB r r hrk (by omega);refine cI (O.v _ _ gTj grr).1 ?_;obtain⟨ss,hss⟩:∃ss,V v (B r r)=ss:=⟨_,rfl⟩;rw[hss];obtain⟨e2',he2⟩:∃e2,ors ej ss.2=e2:=⟨_,rfl⟩;have hst:=Je out ss.1 k r hrk;have hbk1:bk (j+1)=(upd out r ss.1,e2'):=by
       rw[<-hbk];simp only[bkS];rw[hbk,ho,heo,hr0,hW,hv,hej,hss,he2]
      have wr:IntKind.i64.wrap ((r:Int)-1)=(r:Int)-1:=w64 (by omega);obtain⟨j',hj'⟩:∃j':{m:Nat // m<=k},j'.1=j+1:=⟨⟨j+1,by omega⟩,rfl⟩;simp -implicitDefEqProofs only[go_sem,a35,a75,a102,a17,arow,hDo,qk,vN,he2,ol,q5,q6,hst,wr,z1];refine⟨j',fo2 j'.1 ?_ ?_ ?_ ?_ ?_,by omega⟩
      ·simp -implicitDefEqProofs only[go_sem]
      ·simp -implicitDefEqProofs only[go_sem]
      ·simp -implicitDefEqProofs only[go_sem]
      ·simp -implicitDefEqProofs only[go_sem,wr];rw[show(k:Int)-1-(j'.1:Int)=(r:Int)-1 by omega]
      ·intro k' o ho;rw[hj',hbk1] at ho;by_cases p1:k'=102
       ·subst p1;rw[J3] at ho;simp -implicitDefEqProofs only[go_sem,hst];exact ho
       ·have p1':(k'=102)=False:=by simp[p1]
        by_cases p2:k'=35
        ·subst p2;rw[Xh] at ho;simp -implicitDefEqProofs only[go_sem,he2];exact ho
        ·have p2':(k'=35)=False:=by simp[p2]
         have:HX k'=some o:=by
          by_cases p3:k'=17
          ·subst p3;rw[RL hs (by omega) h17] at ho;cases ho
          rw[<-hHX,zR p3,<-ho];exact zgc p1 p2
         simp -implicitDefEqProofs only[go_sem,p1',p2',this]
    ·have hmk:m=k:=by omega
     subst hmk;obtain⟨HX,hHX⟩:∃HX,HB H κ m B (errQ eo) out=HX:=⟨_,rfl⟩;rw[hHX] at c35 c102 ⊢;have eG:decide ((m:Int)-1-m>=0)=false:=fD (by omega);cases eo with
     |some p=>
      rw[heo];have hn:(errQ (some p))=opE p.1 p.2:=rfl;simp -implicitDefEqProofs only[go_sem,eG,c35,hn];refine drw ?_;simp -implicitDefEqProofs only[go_sem,e8,errV];refine wc ?_;simp -implicitDefEqProofs only[go_sem,errV]
     |none=>
      rw[heo,ho];have hn:(errQ (none:Option (ByteArray×D))) = .v .nilIface:=rfl;have hmt:=mt out m;simp -implicitDefEqProofs only[go_sem,eG,c35,hn];exact⟨102,rfl,by simp -implicitDefEqProofs only[go_sem,hmt];exact c102⟩
end
end Go.Enc
