/-
  Rounds of a range over a function: what is shown of regions goes in a round's frame, too; code is cut; a call of yield. The middle of an interval of plain floats; the pieces of an interval. The pieces of an interval, told to a loop's body. The function that Roots hands back, ranged over. Rounds of a range over a function: the slots that a stretch does not write; the loop's record beside what stands. A range over the function that Roots hands back: the caller's side, once for both loops. plain.Roots' two loops over what Roots hands back. A call that is lent a row of the caller's own: the caller may write to it again.
-/
import Derived.Test.YtjlibljfpkmpfaaGreatDoorSv08
import Derived.RangeFuncLeaves
import Derived.RangeFuncRecord
import Derived.RangeFuncSeq
import Derived.OrdersIn
import Derived.TacticsIn
import Derived.Test.YtjlibljfpkmpfaaGreatDoorSv21
section
namespace Go.Enc
open Go.RowKit
/-- The wide fence; a round's. -/
def Wd (ro : Option Nat) : Fence := { Fence.wide with round := ro }
section
variable {ro : Option Nat} {n : Nat} {P : Program}
end
section
variable {C : Ctx} {σ : Mem} {G : Gh} {s : St} {a : Act} {w : World} {ro : Option Nat} {n : Nat} {ops : Array Oper}
/-- Code is cut behind some of its statements. -/
def cutC : Nat → Code → Code × Code
  | k + 1, .seq x y => (.seq x (cutC k y).1, (cutC k y).2)
  | _, c => (.skip, c)
theorem dcode_cut {Qx : Exit → St → Prop} {Q : Exit → Act → World → Prop} : ∀ (k : Nat) (c : Code) {s : St} {a : Act} {w : World} {σ : Mem} {G : Gh}, fitsC C.n c = true → Stands C σ G s a w → dcode C (cutC k c).1 Qx s →
    (∀ s' σ' G' a' w', Qx .normal s' → Stands C σ' G' s' a' w' → (cutC k c).2.wp C.P Q a' w') →
    (∀ e s' σ' G' a' w', e ≠ .normal → (∀ x, e ≠ .panic x) → e ≠ .outgrown → Qx e s' → Stands C σ' G' s' a' w' → Q e a' w') → c.wp C.P Q a w
  | 0, c, s, a, w, σ, G, _, S, h, h1, _ => by
    have e1 : cutC 0 c = (.skip, c) := by cases c <;> rfl
    rw [e1] at h h1
    exact h1 s σ G a w h S
  | k + 1, c, s, a, w, σ, G, hf, S, h, h1, h2 => by
    by_cases hc : ∃ x y, c = .seq x y
    · obtain ⟨x, y, rfl⟩ := hc
      simp only [fitsC, Bool.and_eq_true] at hf
      have hx : dcode C x (Thn (dcode C (cutC k y).1 Qx) Qx) s := h
      refine wp_seq (wp_mono (dcode_sound (C := C) x hf.1 hx σ G a w S) fun e a' w' h' => ?_)
      cases e with
      | normal =>
        obtain ⟨σ', G', s', h3, S'⟩ := h'
        exact dcode_cut k y hf.2 S' h3 h1 h2
      | ret => obtain ⟨σ', G', s', h3, S'⟩ := h'; exact h2 .ret s' σ' G' a' w' (by simp) (by simp) (by simp) h3 S'
      | exit id => obtain ⟨σ', G', s', h3, S'⟩ := h'; exact h2 (.exit id) s' σ' G' a' w' (by simp) (by simp) (by simp) h3 S'
      | goto id => obtain ⟨σ', G', s', h3, S'⟩ := h'; exact h2 (.goto id) s' σ' G' a' w' (by simp) (by simp) (by simp) h3 S'
      | panic x => exact h'.elim
      | outgrown => exact h'.elim
    · have e1 : cutC (k + 1) c = (.skip, c) := by
        cases c <;> first | rfl | exact absurd ⟨_, _, rfl⟩ hc
      rw [e1] at h h1
      exact h1 s σ G a w h S
theorem dc_cut {Qx : Exit → St → Prop} {Q : Exit → Act → World → Prop} (k : Nat) (c : Code) (hf : fitsC C.n c = true) (S : Stands C σ G s a w) (h : DC C (cutC k c).1 Qx s)
    (h1 : ∀ s' σ' G' a' w', Qx .normal s' → Stands C σ' G' s' a' w' → (cutC k c).2.wp C.P Q a' w')
    (h2 : ∀ e s' σ' G' a' w', e ≠ .normal → (∀ x, e ≠ .panic x) → e ≠ .outgrown → Qx e s' → Stands C σ' G' s' a' w' → Q e a' w') : c.wp C.P Q a w := dcode_cut k c hf S h.ok h1 h2
/-- From a new world on: what is known is data; the local blocks are let go. -/
def St.only (s : St) : St := { t := fun i => match s.t i with | .d x => .d x | _ => .d .any, h := fun _ => none }
/-- What a call of yield must do. -/
def YieldW (P : Program) (l : Nat) (args : Array Value) (W : World) (R : Ending → World → Prop) : Prop := YieldAt Fence.wide 0 P l args W R
theorem stands_init {P : Program} {E : Nat → Option Value} {σ : Mem} {w : World} {us : List Value} {args : List D} {nt n : Nat} (hF : Fits E σ w) (hargs : RepL σ args us) (hn : nt = n) (ha : args.length ≤ n) :
    Stands { P := P, E := E, σ0 := σ, w0 := w, base := w.heap.size, n := n, kb := 0, df := [] } σ (fun _ => (none, undef)) (St.init args) { tmps := us.toArray ++ Array.replicate (nt - us.toArray.size) undef, defers := [] } w := by
  have hul := hargs.length
  refine { bas := Nat.le_refl _, glob := hF.glob, tab := hF.tab, le := Mem.le_refl _, old := fun _ _ _ => rfl, inv := hF.inv, hard := hF.hard, gp := fun g t x h => ⟨(hF.gp g t x h).lt, hF.gp g t x h⟩, bel := Below.refl _ _, oth := KeepsOthers.refl _, dfr := rfl, siz := by simp [hn]; omega, slot := fun i => ?_, live := fun i k hk => ?_, obj := fun k o ho => by simp [St.init] at ho, deep := fun k o ho => by simp [St.init] at ho, sep := fun k k' o o' b ho => by simp [St.init] at ho, own := fun k o b ho => by simp [St.init] at ho, keep := fun k h => absurd h (Nat.not_lt_zero k), fin := ⟨0, fun _ _ => rfl⟩ }
  · simp only [St.init]
    cases hi : args[i]? with
    | none => simp [RepT, Rep]
    | some x =>
      obtain ⟨u, h1, h2⟩ := hargs.get i x hi
      have hlt : i < us.length := by
        rcases Nat.lt_or_ge i us.length with h | h
        · exact h
        · rw [List.getElem?_eq_none h] at h1; cases h1
      simp only [RepT]
      rw [Array.getD_eq_getD_getElem?, Array.getElem?_append_left (by simpa using hlt)]
      simpa [h1] using h2
  · simp only [St.init] at hk
    split at hk <;> simp [T.ref] at hk
end
end Go.Enc
end
section
set_option linter.unusedSimpArgs false
set_option maxRecDepth 100000
namespace Go.Enc
open Go.Proofs Go.Enc.Dg Go.Enc.Nu Go.Enc.Fl Ieee
/-- The float 2. -/
abbrev twoB : Nat := 4611686018427387904
/-- The middle; may an interval be halved? -/
def midB (X : Nat × Nat) : Nat := (double.add ((double.div X.1 twoB).getD 0) ((double.div X.2 twoB).getD 0)).getD 0
structure MidO (X : Nat × Nat) (a b : Nat) : Prop where
  e1 : double.div X.1 twoB = some a
  e2 : double.div X.2 twoB = some b
  e3 : double.add a b = some (midB X)
  lt : midB X < 2 ^ 64
  fin : Fl.Fin (midB X)
  is : IsR ((v (idx X.1) + v (idx X.2)) / 2) (idx (midB X))
end Go.Enc
end
section
set_option linter.unusedSimpArgs false
set_option maxRecDepth 100000
namespace Go.Enc
open Go.Proofs Go.Enc.Dg Go.Enc.Nu Go.Enc.Fl Go.RowKit
/-- What a loop over the pieces keeps: R between two rounds, Rx where a round has said 'no more'. -/
structure YR (P : Program) (E : Nat → Option Value) (l : Nat) (R Rx : List (Nat × Nat) → Mem → World → Prop) : Prop where
  fits : ∀ {pre σ w}, R pre σ w → Fits E σ w
  after : ∀ {pre σ w σ' w'}, R pre σ w → σ.le σ' → (∀ b o, b < w.heap.size → σ' b o = σ b o) → (∀ b o v, σ' b o = some v → w'.cell? ⟨b, o, none⟩ = some v) → (∀ b o v, w.heap.size ≤ b → σ' b o = some v → Soft w' b) → Below w.heap.size w w' → R pre σ' w'
  afterx : ∀ {pre σ w σ' w'}, Rx pre σ w → σ.le σ' → (∀ b o, b < w.heap.size → σ' b o = σ b o) → (∀ b o v, σ' b o = some v → w'.cell? ⟨b, o, none⟩ = some v) → (∀ b o v, w.heap.size ≤ b → σ' b o = some v → Soft w' b) → Below w.heap.size w w' → Rx pre σ' w'
  fitsx : ∀ {pre σ w}, Rx pre σ w → Fits E σ w
  round : ∀ {pre X σ w}, R pre σ w → pre.length < 256 → YieldW P l #[.agg #[.float .f64 X.1, .float .f64 X.2]] w fun e w' => ∃ σ', σ.le σ' ∧ ((e = .returned (.bool true) ∧ R (pre ++ [X]) σ' w') ∨ (e = .returned (.bool false) ∧ Rx (pre ++ [X]) σ' w'))
/-- Behind a stretch of a callee's own. -/
theorem hard_of {C : Ctx} {σ : Mem} {G : Gh} {s : St} {a : Act} {w : World} (S : Stands C σ G s a w) (F : Fits C.E C.σ0 C.w0) (b o : Nat) (v : Value) (hb : C.w0.heap.size ≤ b) (h : σ b o = some v) : Soft w b := by
  refine S.hard b o v h ?_
  cases he : C.E b with
  | none => rfl
  | some u =>
    have := lt_of_cell' (F.inv _ _ _ (F.glob b u he))
    omega
theorem YR.stands {P : Program} {C : Ctx} {l : Nat} {R Rx : List (Nat × Nat) → Mem → World → Prop} (hY : YR P C.E l R Rx) {pre : List (Nat × Nat)} (hR : R pre C.σ0 C.w0) (hb : C.base = C.w0.heap.size) {σ : Mem} {G : Gh} {s : St} {a : Act} {w : World} (S : Stands C σ G s a w) : R pre σ w :=
  hY.after hR S.le (fun b o h => S.old b o (by rw [hb]; exact h)) S.inv (fun b o v h1 h2 => hard_of S (hY.fits hR) b o v h1 h2) (by rw [← hb]; exact S.bel)
def QW (S : St) : Exit → St → Prop
  | .normal, s => Weak s S
  | _, _ => False
section
variable {E : Nat → Option Value} {l : Nat} {R Rx : List (Nat × Nat) → Mem → World → Prop} {lp : List Nat} {dr : Nat × Nat → Bool}
theorem qw_no {S : St} {e : Exit} {s : St} (h : e ≠ .normal) (hq : QW S e s) : False := by
  cases e <;> first | exact h rfl | exact hq
theorem qw_exits {S : St} {C : Ctx} {Q : Exit → Act → World → Prop} : ∀ e s' σ' G' a' w', e ≠ .normal → (∀ x, e ≠ .panic x) → e ≠ .outgrown → QW S e s' → Stands C σ' G' s' a' w' → Q e a' w' := fun e s' _ _ _ _ h _ _ hq _ => (qw_no h hq).elim
end
end Go.Enc
end
section
set_option linter.unusedSimpArgs false
set_option maxRecDepth 100000
namespace Go.Enc
open Go.Proofs Go.Enc.Dg Go.Enc.Nu Go.Enc.Fl Go.RowKit
section
variable {E : Nat → Option Value} {l : Nat} {R Rx : List (Nat × Nat) → Mem → World → Prop} {lp : List Nat} {dr : Nat × Nat → Bool}
end
end Go.Enc
end
section
set_option linter.unusedSimpArgs false
set_option maxRecDepth 100000
namespace Go.Enc
open Go.RowKit
/-- The slots that are not named are as they were. -/
def Kept (ds : List Nat) (a a' : Act) : Prop := ∀ i, i ∉ ds → a'.tmps.getD i undef = a.tmps.getD i undef
theorem Kept.refl (ds : List Nat) (a : Act) : Kept ds a a := fun _ _ => rfl
theorem Kept.trans {ds es : List Nat} {a b c : Act} (h : Kept ds a b) (k : Kept es b c) : Kept (ds ++ es) a c := fun i hi => by
  rw [List.mem_append, not_or] at hi
  rw [k i hi.2, h i hi.1]
theorem Kept.more {ds es : List Nat} {a b : Act} (h : Kept ds a b) (k : ∀ i ∈ ds, i ∈ es) : Kept es a b := fun i hi => h i fun h' => hi (k i h')
theorem Kept.put (a : Act) (d : Option Nat) (v : Value) : Kept d.toList a (a.put d v) := fun i hi => by
  cases d with
  | none => rfl
  | some d =>
    simp only [Option.toList_some, List.mem_singleton] at hi
    simp only [Act.put, Array.getD_eq_getD_getElem?]
    rw [Array.getElem?_setIfInBounds_ne (by omega)]
section
variable {F : Fence} {n : Nat} {P : Program}
end
section
variable {C : Ctx} {σ : Mem} {G : Gh} {s : St} {a : Act} {w : World} {ro : Option Nat} {n : Nat} {ops : Array Oper}
/-- From here on. -/
theorem Stands.now (S : Stands C σ G s a w) : Stands { C with σ0 := σ, w0 := w } σ G s a w :=
  { S with
    bas := S.size
    glob := fun g u h => S.le _ _ _ (S.glob g u h)
    tab := fun u h => Rep.mono S.le _ _ (S.tab u h)
    le := Mem.le_refl _
    old := fun _ _ _ => rfl
    gp := fun g t x h => ⟨(S.gp g t x h).1, (S.gp g t x h).2.of_eq (S.bel.block _ (S.gp g t x h).1)⟩
    bel := Below.refl _ _
    oth := KeepsOthers.refl _ }
theorem cell_putObj {w : World} {l : Nat} {o : Go.Obj} (hl : w.heap[l]? = some o) (ho : o.isCells = false) {b i : Nat} {u : Value} (h : w.cell? ⟨b, i, none⟩ = some u) : b ≠ l := fun e => by
  subst e
  unfold World.cell? at h
  rw [hl] at h
  cases o <;> simp_all [Obj.isCells]
theorem obj_cells {k base b : Nat} {ob : Obj} (h : ObjIs σ G w base k ob) (hb : (G k).1 = some b) {o : Go.Obj} (ho : w.heap[b]? = some o) : o.isCells = true := by
  unfold ObjIs at h
  split at h
  · obtain ⟨x, us, ty, h1, h2, h3, _⟩ := h
    rw [h1] at hb; cases hb
    rw [h3] at ho; cases ho
    rfl
  · obtain ⟨n, us, h1, h2, h3, h4⟩ := h
    exact ownsRow_cells h1 b o (by rw [← h3]; exact hb) ho
/-- A block that holds no cells is turned. -/
theorem Stands.putObj (S : Stands C σ G s a w) {l : Nat} {o o' : Go.Obj} (hl : w.heap[l]? = some o) (ho : o.isCells = false) : Stands { C with σ0 := σ, w0 := w.putObj l o' } σ G s a (w.putObj l o') := by
  have S := S.now
  have hg : w.grownBy (w.putObj l o') (some l) := grownBy_putObj' w l o'
  have hlt : l < w.heap.size := (Array.getElem?_eq_some_iff.1 hl).1
  have hblk : ∀ {b : Nat}, b < w.heap.size → b ≠ l → (w.putObj l o').heap[b]? = w.heap[b]? := fun h1 h2 => hg.block _ h1 (fun e => h2 (by simpa using e))
  have hcl : ∀ {b : Nat} {cs : Array Value} {ty : TypeId} {f : Nat × Nat}, w.heap[b]? = some (.cells cs ty f) → b ≠ l := fun h e => by
    subst e; rw [hl] at h; cases h; cases ho
  exact { S with
    bas := Nat.le_trans S.size hg.size
    inv := fun b i u h => (World.cell?_of_block (hblk (lt_of_cell' (S.inv b i u h)) (cell_putObj hl ho (S.inv b i u h)))).trans (S.inv b i u h)
    hard := fun b i u h he => (S.hard b i u h he).of_eq (hblk (lt_of_cell' (S.inv b i u h)) (cell_putObj hl ho (S.inv b i u h)))
    gp := fun g t x h => by
      obtain ⟨h1, cs, ty, h2⟩ := S.gp g t x h
      exact ⟨h1, cs, ty, (hblk (Array.getElem?_eq_some_iff.1 h2).1 (hcl h2)).trans h2⟩
    bel := Below.refl _ _
    oth := KeepsOthers.refl _
    obj := fun k ob h => by
      refine (S.obj k ob h).grown hg (fun x e e' => ?_)
      simp only [Option.some.injEq] at e
      subst e
      have := obj_cells (S.obj k ob h) e' hl
      rw [ho] at this
      cases this }
/-- The slots that are told stand in another frame's temporaries, too. -/
theorem Stands.act (S : Stands C σ G s a w) {b : Act} {df : List Deferred} (hs : ∀ i, s.t i ≠ .d .any → b.tmps.getD i undef = a.tmps.getD i undef) (hz : b.tmps.size = C.n) (hd : b.defers = df) : Stands { C with df := df } σ G s b w :=
  { S with
    dfr := hd
    siz := hz
    slot := fun i => by
      by_cases h : s.t i = .d .any
      · rw [h]; simp [RepT, Rep]
      · rw [hs i h]; exact S.slot i }
/-- A cell of a local variable that holds the nil slice: a row of one's own, empty yet. -/
theorem Stands.nilCell (S : Stands C σ G s a w) {k i k2 : Nat} {cells : List T} (ho : s.h k = some ⟨none, cells⟩) (hi : cells[i]? = some (.d (.v (.slice none 0 0)))) (hk : s.h k2 = none) (e : TypeId) (size : Nat) (hkb : C.kb ≤ k2 := by exact Nat.zero_le _) :
    ∃ G', Stands C σ G' ((s.new k2 ⟨some (e, size, true), []⟩).setH k ⟨none, cells.set i (.gs k2)⟩) a w := by
  have hrow : w.grownBy w none := ⟨rfl, rfl, rfl, Nat.le_refl _, fun _ _ _ => rfl⟩
  have S1 := S.fresh (g := (none, .slice none 0 0)) (o := ⟨some (e, size, true), []⟩) hkb hk hrow (by simp) (by simp) (by
    simp only [ObjIs, upd_same]
    exact ⟨0, [], World.ownsRow_nil w C.base e size, rfl, rfl, fun _ _ => trivial⟩) (by simp) (by simp)
  have hne : k ≠ k2 := fun e => by subst e; rw [hk] at ho; cases ho
  have ho1 : (s.new k2 ⟨some (e, size, true), []⟩).h k = some ⟨none, cells⟩ := by simp only [St.new]; rw [upd_ne _ _ hne]; exact ho
  have hfin : ∃ N, ∀ j, N ≤ j → ((s.new k2 ⟨some (e, size, true), []⟩).setH k ⟨none, cells.set i (.gs k2)⟩).h j = none := by
    obtain ⟨N, hN⟩ := S1.fin
    exact ⟨N, fun j hj => by
      simp only [St.setH]
      rw [upd_ne _ _ (fun e => by have := hN j hj; rw [e, ho1] at this; cases this)]
      exact hN j hj⟩
  refine ⟨_, { S1 with fin := hfin, live := fun j k' hj => ?_, obj := fun j o h => ?_, deep := fun j o h c hc k' hk' => ?_, sep := fun j j' o o' b h1 h2 => ?_, own := fun j o b h => ?_ }⟩
  · simp only [St.setH]
    have := S1.live j k' hj
    by_cases hk' : k' = k
    · subst hk'; rw [upd_same]; simp
    · rw [upd_ne _ _ hk']; exact this
  · simp only [St.setH] at h
    by_cases hj : j = k
    · subst hj
      rw [upd_same] at h
      cases h
      have H := S1.obj j _ ho1
      simp only [ObjIs] at H ⊢
      obtain ⟨b, us, ty, h1, h2, h3, h4, h5⟩ := H
      refine ⟨b, us, ty, h1, h2, h3, ?_, h5⟩
      obtain ⟨u, u1, u2, u3⟩ := h4.get i _ hi
      simp only [RepT, Rep] at u3
      have hu : us.toList.set i u = us.toList := by
        refine List.ext_getElem? fun j => ?_
        rw [List.getElem?_set]
        split
        · rename_i e; subst e
          split
          · exact u1.symm
          · rename_i h; rw [List.getElem?_eq_none (by omega)]
        · rfl
      rw [← hu]
      refine h4.set i _ u u2 ?_
      simp only [RepT, upd_same]
      exact u3
    · rw [upd_ne _ _ hj] at h
      exact S1.obj j o h
  · simp only [St.setH] at h ⊢
    have key : ∀ {k'}, (s.new k2 ⟨some (e, size, true), []⟩).h k' ≠ none → upd (s.new k2 ⟨some (e, size, true), []⟩).h k (some ⟨none, cells.set i (.gs k2)⟩) k' ≠ none := fun {k'} h => by
      by_cases hk' : k' = k
      · subst hk'; rw [upd_same]; simp
      · rw [upd_ne _ _ hk']; exact h
    by_cases hj : j = k
    · subst hj
      rw [upd_same] at h
      cases h
      rcases List.mem_or_eq_of_mem_set hc with hc | hc
      · exact key (S1.deep j _ ho1 c hc k' hk')
      · subst hc
        simp only [T.ref, Option.some.injEq] at hk'
        subst hk'
        exact key (by simp [St.new, upd_same])
    · rw [upd_ne _ _ hj] at h
      exact key (S1.deep j o h c hc k' hk')
  · have conv : ∀ {j o}, ((s.new k2 ⟨some (e, size, true), []⟩).setH k ⟨none, cells.set i (.gs k2)⟩).h j = some o → ∃ o1, (s.new k2 ⟨some (e, size, true), []⟩).h j = some o1 := fun {j o} h => by
      simp only [St.setH] at h
      by_cases hj : j = k
      · subst hj; exact ⟨_, ho1⟩
      · rw [upd_ne _ _ hj] at h; exact ⟨_, h⟩
    obtain ⟨o1, h1⟩ := conv h1
    obtain ⟨o2, h2⟩ := conv h2
    exact S1.sep j j' o1 o2 b h1 h2
  · simp only [St.setH] at h
    by_cases hj : j = k
    · subst hj; exact S1.own j _ b ho1
    · rw [upd_ne _ _ hj] at h; exact S1.own j o b h
end
end Go.Enc
end
section
set_option linter.unusedSimpArgs false
set_option maxRecDepth 100000
namespace Go.Enc
open Go.Proofs Go.Enc.Dg Go.Enc.Nu Go.Enc.Fl Go.RowKit
def At (C : Ctx) (σ : Mem) (w : World) : Ctx := { C with σ0 := σ, w0 := w, df := [] }
/-- The loop's own code: its assignment and its body, walked. -/
structure LoopOk (C : Ctx) (p : Tmp) (assign body : Code) (id : Nat) (st : List (Nat × Nat) → St) (stA : List (Nat × Nat) → Nat × Nat → St) (go sp : List (Nat × Nat) → Prop) (Da Db : List Nat) : Prop where
  asg : ∀ {l pre X σ G a w}, Stands (At C σ w) σ G ((st pre).put (some p) (.d (ivD X))) a w → assign.wpIn (Wd (some l)) 0 C.P (fun e a' w' => e = .normal ∧ ∃ σ' G', Stands (At C σ w) σ' G' (stA pre X) a' w' ∧ Kept Da a a') a w
  bod : ∀ {l pre X σ G a w}, pre.length < 256 → go pre → Stands (At C σ w) σ G (stA pre X) a w → body.wpIn (Wd (some l)) 0 C.P (fun e a' w' => ((e = .normal ∧ go (pre ++ [X])) ∨ (e = .exit id ∧ sp (pre ++ [X]))) ∧ ∃ σ' G', Stands (At C σ w) σ' G' (st (pre ++ [X])) a' w' ∧ Kept Db a a') a w
  slots : ∀ pre i, i = p ∨ i ∈ Da ∨ i ∈ Db → (st pre).t i = .d .any
  hp : p < C.n
/-- What a loop keeps between two rounds. -/
def RR (C : Ctx) (wE : World) (σE : Mem) (st : List (Nat × Nat) → St) (go : List (Nat × Nat) → Prop) (l : Nat) (Ds : List Nat) (rec : Loop) (T0 : Array Value) : List (Nat × Nat) → Mem → World → Prop := fun pre σ w =>
  go pre ∧ (∀ g u, C.E g = some u → σ g 0 = some u) ∧ (∀ u, C.E tabG = some u → Rep σ tabD u) ∧ ∃ σ1 G, σ.le σ1 ∧ σE.le σ1 ∧ (∀ b o, b < C.base → σ1 b o = σE b o) ∧ Stands (At C σ1 w) σ1 G (st pre) ⟨T0, []⟩ w ∧ w.heap[l]? = some (.loop rec) ∧
    (∀ D ∈ Ds, w.heap[D]? = some (.deferred (some []))) ∧ Below C.base wE w
section
variable {C : Ctx} {wE : World} {σE : Mem} {st : List (Nat × Nat) → St} {go : List (Nat × Nat) → Prop} {l : Nat} {Ds : List Nat} {rec : Loop} {T0 : Array Value} {pre : List (Nat × Nat)} {σ σ' : Mem} {w w' : World}
theorem RR.fits (h : RR C wE σE st go l Ds rec T0 pre σ w) : Fits C.E σ w := by
  obtain ⟨_, h1, h2, σ1, G, h3, _, _, S, _⟩ := h
  exact ⟨fun b o u h => S.inv b o u (h3 _ _ _ h), h1, h2, fun b o u h he => S.hard b o u (h3 _ _ _ h) he, fun g t x h => (S.gp g t x h).2⟩
theorem RR.after (h : RR C wE σE st go l Ds rec T0 pre σ w) (hle : σ.le σ') (hold : ∀ b o, b < w.heap.size → σ' b o = σ b o) (hinv : ∀ b o v, σ' b o = some v → w'.cell? ⟨b, o, none⟩ = some v)
    (hhard : ∀ b o v, w.heap.size ≤ b → σ' b o = some v → Soft w' b) (hbel : Below w.heap.size w w') : RR C wE σE st go l Ds rec T0 pre σ' w' := by
  obtain ⟨hg, h1, h2, σ1, G, h3, h4, h5, S, h6, h7, h8⟩ := h
  refine ⟨hg, fun g u h => hle _ _ _ (h1 g u h), fun u h => Rep.mono hle _ _ (h2 u h), fun b o => if b < w.heap.size then σ1 b o else σ' b o, G, ?_, ?_, ?_, ?_, ?_, ?_, ?_⟩
  · intro b o u h
    show (if b < w.heap.size then σ1 b o else σ' b o) = some u
    split
    · rename_i hb
      exact h3 _ _ _ (by rw [← hold b o hb]; exact h)
    · exact h
  · intro b o u h
    show (if b < w.heap.size then σ1 b o else σ' b o) = some u
    rw [if_pos (lt_of_cell' (S.inv b o u (h4 _ _ _ h)))]
    exact h4 _ _ _ h
  · intro b o hb
    show (if b < w.heap.size then σ1 b o else σ' b o) = _
    rw [if_pos (Nat.lt_of_lt_of_le hb S.size)]
    exact h5 b o hb
  · have S1 := S.after (σ' := fun b o => if b < w.heap.size then σ1 b o else σ' b o) (w' := w') (fun b o u h => by
        show (if b < w.heap.size then σ1 b o else σ' b o) = some u
        rw [if_pos (lt_of_cell' (S.inv b o u h))]; exact h) (fun b o hb => by
        show (if b < w.heap.size then σ1 b o else σ' b o) = _
        rw [if_pos hb]) (fun b o v h => by
        have h : (if b < w.heap.size then σ1 b o else σ' b o) = some v := h
        split at h
        · rename_i hb
          exact (hbel.cell (p := ⟨b, o, none⟩) hb).trans (S.inv b o v h)
        · exact hinv b o v h) (fun b o v hb h => by
        have h : (if b < w.heap.size then σ1 b o else σ' b o) = some v := h
        rw [if_neg (by omega)] at h
        exact hhard b o v hb h) hbel
    exact S1.now
  · exact (hbel.block _ (Array.getElem?_eq_some_iff.1 h6).1).trans h6
  · exact fun D hD => (hbel.block _ (Array.getElem?_eq_some_iff.1 (h7 D hD)).1).trans (h7 D hD)
  · exact h8.trans (hbel.mono S.size)
theorem below_putObj {n : Nat} {w : World} {l : Nat} {o' : Go.Obj} (h : n ≤ l) (hs : n ≤ w.heap.size) : Below n w (w.putObj l o') :=
  (Below.refl n w).grown (grownBy_putObj' w l o') hs (fun k e => by cases e; exact h)
abbrev ivV (X : Nat × Nat) : Value := .agg #[.float .f64 X.1, .float .f64 X.2]
theorem rep_ivV (σ : Mem) (X : Nat × Nat) : Rep σ (ivD X) (ivV X) := by
  simp only [Rep]
  refine ⟨_, rfl, ?_⟩
  simp only [RepU]
  exact ⟨_, _, rfl, rfl, by simp [Rep], _, _, rfl, rfl, by simp [Rep], rfl⟩
theorem RR.round {p : Tmp} {assign body : Code} {id : Nat} {stA : List (Nat × Nat) → Nat × Nat → St} {sp : List (Nat × Nat) → Prop} {Da Db : List Nat} (hL : LoopOk C p assign body id st stA go sp Da Db) (hT : T0.size = C.n) (hlb : C.base ≤ l) {fn D0 : Nat} {X : Nat × Nat}
    (h : RR C wE σE st go l Ds { state := .ready, pending := none, fn := fn, tmps := T0, params := #[p], assign := assign, body := body, defers := D0 } T0 pre σ w) (hlen : pre.length < 256) :
    YieldW C.P l #[ivV X] w fun e w' => ∃ σ', σ.le σ' ∧ ((e = .returned (.bool true) ∧ RR C wE σE st go l Ds { state := .ready, pending := none, fn := fn, tmps := T0, params := #[p], assign := assign, body := body, defers := D0 } T0 (pre ++ [X]) σ' w') ∨
      (e = .returned (.bool false) ∧ RR C wE σE st sp l Ds { state := .done, pending := some (.exit id), fn := fn, tmps := T0, params := #[p], assign := assign, body := body, defers := D0 } T0 (pre ++ [X]) σ' w')) := by
  obtain ⟨hg, h1, h2, σ1, G, h3, h4, h5, S, h6, h7, h8⟩ := h
  refine ⟨fn, _, assign, body, run_yield h6 rfl, roundIn_of_wpIn trivial ?_⟩
  have S1 := S.put (x := .d (ivD X)) (u := ivV X) (dst := some p) (rep_ivV _ _) (by simp [T.ref]) (fun d e => by cases e; exact hL.hp)
  have hact0 : ({ tmps := Array.foldl (fun tmps (x : Tmp × Value) => match x with | (t, a) => tmps.setIfInBounds t a) T0 (#[p].zip #[ivV X]), defers := [] } : Act) = (⟨T0, []⟩ : Act).put (some p) (ivV X) := by
    simp [Act.put, Array.zip_eq_zipWith]
  show Code.wpIn _ _ _ _ _ ({ tmps := Array.foldl (fun tmps (x : Tmp × Value) => match x with | (t, a) => tmps.setIfInBounds t a) T0 (#[p].zip #[ivV X]), defers := [] } : Act) w
  rw [hact0]
  refine wpIn_mono (hL.asg (l := l) S1) ?_
  rintro e a1 w1 ⟨rfl, σ2, G2, S2, hs1⟩
  have l1 := S2.oth.same l _ h6 rfl
  refine ⟨_, run_beginRound l1 rfl, ?_⟩
  have S3 := S2.putObj (o' := .loop { state := .busy, pending := none, fn := fn, tmps := T0, params := #[p], assign := assign, body := body, defers := D0 }) l1 rfl
  refine wpIn_mono (hL.bod (l := l) hlen hg S3) ?_
  rintro e a3 w3 ⟨hcase, σ4, G4, S4, hs2⟩
  have hlt1 : l < w1.heap.size := (Array.getElem?_eq_some_iff.1 l1).1
  have l2 : (w1.putObj l (.loop { state := .busy, pending := none, fn := fn, tmps := T0, params := #[p], assign := assign, body := body, defers := D0 })).heap[l]? = some (.loop { state := .busy, pending := none, fn := fn, tmps := T0, params := #[p], assign := assign, body := body, defers := D0 }) := World.putObj_heap_same hlt1
  have l3 := S4.oth.same l _ l2 rfl
  have hD3 : ∀ D ∈ Ds, D ≠ l ∧ w3.heap[D]? = some (.deferred (some [])) := fun D hD => by
    have e1 := S2.oth.same D _ (h7 D hD) rfl
    have hne : D ≠ l := fun e => by subst e; rw [l1] at e1; cases e1
    exact ⟨hne, S4.oth.same D _ ((World.putObj_heap_other hne).trans e1) rfl⟩
  have hact : ∀ (o' : Go.Obj), Stands (At C σ4 (w3.putObj l o')) σ4 G4 (st (pre ++ [X])) ⟨T0, []⟩ (w3.putObj l o') := fun o' => by
    refine (S4.putObj (o' := o') l3 rfl).act (b := ⟨T0, []⟩) (fun i hi => ?_) hT rfl
    have hn : ¬ (i = p ∨ i ∈ Da ∨ i ∈ Db) := fun hh => hi (hL.slots _ _ hh)
    simp only [not_or] at hn
    rw [hs2 i hn.2.2, hs1 i hn.2.1]
    have := Kept.put (⟨T0, []⟩ : Act) (some p) (ivV X) i (by simp; exact hn.1)
    exact this.symm
  have hbel : ∀ (o' : Go.Obj), Below C.base wE (w3.putObj l o') := fun o' => by
    have b1 := h8.trans S2.bel
    have b2 := b1.trans (below_putObj (o' := .loop { state := .busy, pending := none, fn := fn, tmps := T0, params := #[p], assign := assign, body := body, defers := D0 }) hlb S2.size)
    exact (b2.trans S4.bel).trans (below_putObj hlb S4.size)
  have hold : ∀ b o, b < C.base → σ4 b o = σE b o := fun b o hb => by
    exact ((S4.old b o hb).trans (S2.old b o hb)).trans (h5 b o hb)
  have hle : ∀ {τ : Mem}, τ.le σ1 → τ.le σ4 := fun h => Mem.le_trans (Mem.le_trans h S2.le) S4.le
  rcases hcase with ⟨rfl, hgo⟩ | ⟨rfl, hsp⟩
  · refine ⟨_, _, run_endRound none l3, σ, Mem.le_refl _, .inl ⟨rfl, hgo, h1, h2, σ4, G4, hle h3, hle h4, hold, hact _, ?_, fun D hD => ?_, hbel _⟩⟩
    · exact World.putObj_heap_same (Array.getElem?_eq_some_iff.1 l3).1
    · exact (World.putObj_heap_other (hD3 D hD).1).trans (hD3 D hD).2
  · refine ⟨_, _, run_endRound (some (.exit id)) l3, σ, Mem.le_refl _, .inr ⟨rfl, hsp, h1, h2, σ4, G4, hle h3, hle h4, hold, hact _, ?_, fun D hD => ?_, hbel _⟩⟩
    · exact World.putObj_heap_same (Array.getElem?_eq_some_iff.1 l3).1
    · exact (World.putObj_heap_other (hD3 D hD).1).trans (hD3 D hD).2
end
end Go.Enc
end
section
set_option linter.unusedSimpArgs false
set_option maxRecDepth 100000
namespace Go.Enc
open Go.Proofs Go.Enc.Dg Go.Enc.Nu Go.Enc.Fl Go.RowKit
def boxT (L : List (Nat × Nat)) : List T := L.flatMap fun X => [.d (.v (.int .u64 X.1)), .d (.v (.int .u64 X.2))]
def boxC (L : List (Nat × Nat)) : List D := L.flatMap fun X => [.v (.int .u64 X.1), .v (.int .u64 X.2)]
theorem boxT_C (L : List (Nat × Nat)) : boxT L = (boxC L).map T.d := by
  unfold boxT boxC
  induction L with
  | nil => rfl
  | cons X L ih => simp only [List.flatMap_cons, List.map_append, ← ih]; rfl
theorem asDs_boxT (L : List (Nat × Nat)) : asDs (boxT L) = some (boxC L) := by rw [boxT_C, asDs_map]
theorem boxT_len (L : List (Nat × Nat)) : (boxT L).length = 2 * L.length := by
  unfold boxT
  induction L with
  | nil => rfl
  | cons X L ih => simp only [List.flatMap_cons, List.length_append, ih, List.length_cons, List.length_nil]; omega
theorem boxT_kill (k : Nat) (L : List (Nat × Nat)) : (boxT L).map (killT k) = boxT L := by
  unfold boxT
  induction L with
  | nil => rfl
  | cons X L ih => simp only [List.flatMap_cons, List.map_append, ih]; rfl
theorem boxT_snoc (L : List (Nat × Nat)) (X : Nat × Nat) : boxT L ++ [.d (.v (.int .u64 X.1)), .d (.v (.int .u64 X.2))] = boxT (L ++ [X]) := by
  unfold boxT
  simp
theorem boxkill_snoc (k : Nat) (L : List (Nat × Nat)) (X : Nat × Nat) : List.map (killT k) (boxT L ++ [.d (.v (.int .u64 X.1)), .d (.v (.int .u64 X.2))]) = boxT (L ++ [X]) := by
  rw [boxT_snoc, boxT_kill]
theorem boxT_refs (L : List (Nat × Nat)) (ks : List Nat) : (boxT L).all (refIn ks) = true := by
  rw [boxT_C]
  simp [refIn, T.ref]
section
variable {C : Ctx} {σ : Mem} {G : Gh} {s : St} {a : Act} {w : World} {ro : Option Nat} {n : Nat} {ops : Array Oper} {Q : Exit → Act → World → Prop} {c : Code}
end
section
variable {lp : List Nat} {X0 : Nat × Nat} {d : Nat} {stop nn : Int}
abbrev rowB (L : List (Nat × Nat)) : Obj := ⟨some (32, 2, true), boxT L⟩
end
end Go.Enc
end
section
set_option linter.unusedSimpArgs false
set_option maxRecDepth 100000
namespace Go.Enc
open Go.RowKit
theorem Stands.fits {C : Ctx} {σ : Mem} {G : Gh} {s : St} {a : Act} {w : World} (S : Stands C σ G s a w) : Fits C.E σ w :=
  ⟨S.inv, fun g u hg => S.le _ _ _ (S.glob g u hg), fun u hu => Rep.mono S.le _ _ (S.tab u hu), S.hard, fun g t x hg => (S.gp g t x hg).2.of_eq (S.bel.block _ (S.gp g t x hg).1)⟩
section
variable {C : Ctx} {s : St} {σ : Mem} {G : Gh} {a : Act} {w : World}
end
/-- A contract out of the body. -/
theorem dcall_w {P : Program} {E : Nat → Option Value} {f : FuncId} {fn : Func} {c : Code} {args : List D} {r : Res} (hf : P.funcs[f]? = some fn) (hb : fn.body = some c) (hname : (fn.name == "runtime.NumGoroutine") = false)
    {n : Nat} (hn : fn.ntmps = n) (ha : args.length ≤ n) {rs : List ResultVar} (hrs : fn.results.toList = rs)
    (h : ∀ C : Ctx, C.P = P → C.E = E → C.n = n → C.kb = 0 → DWp C c (Post C rs r) (St.init args)) : DCall P E f args r := by
  subst hrs
  intro σ w us hF hargs o a next Q hnext
  have hcall : (callFunc f us.toArray).run P w = .ok (.enter f us.toArray) w := by
    have hne : ¬ (fn.name = "runtime.NumGoroutine") := by simpa using hname
    simp [callFunc, hf, hne, hb]
  rw [hcall, Oper.upon_enter]
  have S0 := stands_init (P := P) (nt := fn.ntmps) (n := n) hF hargs hn ha
  obtain ⟨C, hC⟩ : ∃ C : Ctx, C = { P := P, E := E, σ0 := σ, w0 := w, base := w.heap.size, n := n, kb := 0, df := [] } := ⟨_, rfl⟩
  rw [← hC] at S0
  have c1 : C.P = P := by rw [hC]
  have c2 : C.E = E := by rw [hC]
  have c3 : C.n = n := by rw [hC]
  have c4 : C.kb = 0 := by rw [hC]
  refine calls_of_wp hf hb ?_
  have hw := h C c1 c2 c3 c4 _ _ _ _ S0
  rw [c1] at hw
  refine wp_mono hw fun e a2 w2 h' => ?_
  have fin : (∃ σ' G' s', Fin C fn.results.toList s' r ∧ Stands C σ' G' s' a2 w2) → a2.defers = [] ∧ ∃ v, (results fn a2.tmps).run C.P w2 = .ok v w2 ∧ next (a.put o.dst v) w2 := fun ⟨σ', G', s', h1, S'⟩ => by
    obtain ⟨u, h2, h3⟩ := Fin.sound S' rfl h1 (by rw [hC]) (by rw [hC]; exact hF.inv) (fun b u hE => by rw [hC]; exact lt_of_cell' (hF.inv _ _ _ (hF.glob b u (by rw [← c2]; exact hE))))
    have h4 := S'.dfr
    rw [hC] at h4 h3
    exact ⟨h4, u, by rw [hC] at h2 ⊢; exact h2, hnext u w2 h3⟩
  cases e with
  | normal => rw [← c1]; exact fin h'
  | ret => rw [← c1]; exact fin h'
  | exit id => obtain ⟨_, _, _, h1, _⟩ := h'; exact h1.elim
  | goto l => obtain ⟨_, _, _, h1, _⟩ := h'; exact h1.elim
  | panic ch => exact h'.elim
  | outgrown => exact h'.elim
theorem dwp_cut {C : Ctx} {c : Code} {s S1 : St} {Q : Exit → St → Prop} (k : Nat) (hf : fitsC C.n c = true) (h1 : DC C (cutC k c).1 (QW S1) s) (h2 : DWp C (cutC k c).2 Q S1) : DWp C c Q s :=
  fun σ G a w S => dc_cut k c hf S h1 (fun _ σ' G' a' w' hw S' => h2 σ' G' a' w' (S'.weak hw)) qw_exits
theorem dwp_of {C : Ctx} {c : Code} {s : St} {Q : Exit → St → Prop} (hf : fitsC C.n c = true) (h : DC C c Q s) : DWp C c Q s := dcode_sound c hf h.ok
end Go.Enc
end
