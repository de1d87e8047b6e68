/-
  Stores into local blocks; new variables; literals of slices and structs.
-/
import Derived.Test.YtjlibljfpkmpfaaDoorMem
namespace Go.Enc
open Go.RowKit

def St.setH (s : St) (k : Nat) (o : Obj) : St := { s with h := upd s.h k (some o) }
def oneD : D → Bool
  | .v x => x.oneCell'
  | .sl _ _ | .ip _ _ | .pd _ _ => true
  | _ => false
def cellsT : T → Option (List T)
  | .d (.agg ds) => some (ds.map .d)
  | .d x => if oneD x then some [.d x] else none
  | c => some [c]
def setCells : List T → Nat → List T → List T
  | cells, _, [] => cells
  | cells, off, c :: cs => setCells (cells.set off c) (off + 1) cs
theorem setCells_length : ∀ (cs cells : List T) (off : Nat), (setCells cells off cs).length = cells.length
  | [], _, _ => rfl
  | _ :: cs, cells, off => by simp [setCells, setCells_length cs]

section
variable {C : Ctx} {σ : Mem} {G : Gh} {s : St} {a : Act} {w : World}

theorem Stands.handle (S : Stands C σ G s a w) {k : Nat} (h : s.h k ≠ none) : (G k).2.oneCell' = true := by
  cases ho : s.h k with
  | none => exact absurd ho h
  | some o =>
    have H := S.obj k o ho
    unfold ObjIs at H
    split at H
    · obtain ⟨_, _, _, _, _, _, _, h5⟩ := H; exact h5
    · obtain ⟨n, us, h1, _⟩ := H
      rcases h1.2 with ⟨e, _⟩ | ⟨g, cap, cur, e, _⟩ <;> rw [e] <;> rfl

theorem oneD_val {x : D} (h : oneD x = true) {u : Value} (hu : Rep σ x u) : u.oneCell' = true := by
  cases x <;> simp only [oneD, Bool.false_eq_true] at h <;> simp only [Rep] at hu
  · subst hu; exact h
  · rcases hu with ⟨rfl, _⟩ | ⟨_, _, _, _, rfl, _⟩ | ⟨_, _, rfl, _⟩ <;> rfl
  · obtain ⟨_, _, rfl, _⟩ := hu; rfl
  · obtain ⟨_, _, rfl, _⟩ := hu; rfl

theorem cells_one {u : Value} (h : u.oneCell' = true) : u.cells = #[u] := by
  cases u <;> first | rfl | (simp [Value.oneCell'] at h)

theorem cellsT_sound (S : Stands C σ G s a w) {c : T} {cs : List T} (h : cellsT c = some cs) {u : Value} (hu : RepT σ G c u) (hl : ∀ k, c.ref = some k → s.h k ≠ none) :
    RepTU σ G cs u.cells.toList ∧ ∀ c' ∈ cs, ∀ k, c'.ref = some k → s.h k ≠ none := by
  unfold cellsT at h
  split at h
  · cases h
    simp only [RepT, Rep] at hu
    obtain ⟨us, rfl, hr⟩ := hu
    refine ⟨by simpa [Value.cells] using RepU.asT hr, fun c' hc' k hk => ?_⟩
    simp only [List.mem_map] at hc'
    obtain ⟨d, _, rfl⟩ := hc'
    simp [T.ref] at hk
  · rename_i x _
    split at h
    · rename_i ho
      cases h
      have h1 := oneD_val ho hu
      rw [cells_one h1]
      exact ⟨⟨u, [], rfl, h1, hu, rfl⟩, fun c' hc' k hk => by simp at hc'; subst hc'; simp [T.ref] at hk⟩
    · cases h
  · cases h
    have h1 : u.oneCell' = true := by
      cases c with
      | d x => rename_i h2; exact absurd rfl (h2 x)
      | ptr k o => simp only [RepT] at hu; obtain ⟨_, _, rfl⟩ := hu; rfl
      | gs k => simp only [RepT] at hu; rw [hu]; exact S.handle (hl k rfl)
      | ipr t k => simp only [RepT] at hu; obtain ⟨_, _, rfl⟩ := hu; rfl
    rw [cells_one h1]
    exact ⟨⟨u, [], rfl, h1, hu, rfl⟩, fun c' hc' k hk => by simp at hc'; subst hc'; exact hl k hk⟩

theorem take_set {α : Type} (l : List α) (n i : Nat) (x : α) : (l.set i x).take n = (l.take n).set i x := by
  apply List.ext_getElem?
  intro j
  simp only [List.getElem?_take, List.getElem?_set, List.length_take]
  by_cases h1 : j < n <;> by_cases h2 : i = j <;> simp [h1, h2]
  all_goals (try (subst h2))
  all_goals (try omega)
  all_goals (split <;> split <;> first | rfl | omega)

/-- One cell of a local block is written. -/
theorem Stands.setCell (S : Stands C σ G s a w) {k : Nat} {o : Obj} (ho : s.h k = some o) {b off : Nat} (hb : (G k).1 = some b) (hoff : off < o.cells.length)
    {c : T} {u : Value} (h1 : u.oneCell' = true) (hr : RepT σ G c u) (hl : ∀ j, c.ref = some j → s.h j ≠ none) (m : Mode) :
    (store ⟨b, off, none⟩ u m).run C.P w = .ok () (w.setCell ⟨b, off, none⟩ u) ∧
      Stands C σ G (s.setH k { o with cells := o.cells.set off c }) a (w.setCell ⟨b, off, none⟩ u) := by
  obtain ⟨hbase, cur, ty, us, hrow, hcells, sp, hcur⟩ := S.row ho hb
  have hlen := hcells.length
  have hcurlen : off < cur.size := by
    have : cur.toList.length = us.length + sp.length := by rw [hcur]; simp
    simp only [Array.length_toList] at this
    omega
  have hcell : w.cell? ⟨b, off, none⟩ = some cur[off] := by rw [cell_of_row w b off cur ty (0, 0) hrow, Array.getElem?_eq_getElem hcurlen]
  have hfz := frozen_of_row w b off cur ty hrow
  refine ⟨by rw [run_store C.P w _ _ _ h1, hcell]; simp [hfz], ?_⟩
  have hother : ∀ x, x ≠ b → (w.setCell ⟨b, off, none⟩ u).heap[x]? = w.heap[x]? := fun x hx => heap_setCell_other w _ x u hx
  have hsame := heap_setCell_same w b off cur ty u hrow
  have hg : w.grownBy (w.setCell ⟨b, off, none⟩ u) (some b) := ⟨rfl, rfl, rfl, by simp, fun x _ hx => hother x (fun e => hx (by rw [e]))⟩
  have hσ := S.own k o b ho hb
  have hh : ∀ j o', (s.setH k { o with cells := o.cells.set off c }).h j = some o' → (j = k ∧ o' = { o with cells := o.cells.set off c }) ∨ (j ≠ k ∧ s.h j = some o') := by
    intro j o' h
    simp only [St.setH, upd] at h
    split at h
    · rename_i e; exact .inl ⟨e, by simpa using h.symm⟩
    · rename_i e; exact .inr ⟨e, h⟩
  have hlive : ∀ j, s.h j ≠ none → (s.setH k { o with cells := o.cells.set off c }).h j ≠ none := fun j hj => by
    simp only [St.setH, upd]
    split
    · simp
    · exact hj
  refine { S with
    inv := fun b' i v h => hg.cell (S.inv b' i v h) (fun e => by simp only [Option.some.injEq] at e; rw [e, hσ i] at h; cases h)
    hard := fun b' i v h he => (S.hard b' i v h he).of_eq (hother b' (fun e => by rw [e, hσ i] at h; cases h))
    bel := S.bel.grown hg S.size (fun x e => by cases e; exact hbase)
    live := fun i j hj => hlive j (S.live i j hj)
    obj := fun j o' h => ?_
    deep := fun j o' h c' hc' j' hj' => ?_
    sep := fun j j' o1 o2 x x1 x2 y1 y2 => ?_
    own := fun j o' x h hx => ?_ }
  · rcases hh j o' h with ⟨rfl, rfl⟩ | ⟨hj, h⟩
    · have H := S.obj j o ho
      unfold ObjIs at H ⊢
      simp only
      split at H
      · obtain ⟨b', us', ty', g1, g2, g3, g4, g5⟩ := H
        rw [g1] at hb; cases hb
        rw [hrow] at g3; cases g3
        refine ⟨b, _, ty, g1, g2, hsame, ?_, g5⟩
        rw [Array.toList_setIfInBounds]
        exact g4.set off c u h1 hr
      · rename_i e size nn hv
        obtain ⟨n, us', g1, g2, g3, g4⟩ := H
        refine ⟨n, us'.set off u, ⟨by simpa using g1.1, ?_⟩, g2.set off c u h1 hr, g3, fun hn he => g4 hn (List.eq_nil_of_length_eq_zero (by have := congrArg List.length he; simpa using this))⟩
        rcases g1.2 with ⟨hnil, hz⟩ | ⟨g, cap, cur', hval, hg1, hg2, hg3, hg4, hg5, hg6⟩
        · exact .inl ⟨hnil, hz⟩
        · right
          rw [g3, hval] at hb
          simp only [Value.ownBlock, Option.some.injEq] at hb
          subst hb
          rw [hrow] at hg2; cases hg2
          refine ⟨g, cap, _, hval, hg1, hsame, hg3, hg4, by simpa using hg5, ?_⟩
          rw [Array.toList_setIfInBounds, take_set, hg6]
    · exact (S.obj j o' h).grown hg (fun x e => by cases e; exact fun e2 => hj (S.sep j k o' o b h ho e2 hb))
  · rcases hh j o' h with ⟨rfl, rfl⟩ | ⟨hj, h⟩
    · rcases List.mem_or_eq_of_mem_set hc' with hm | rfl
      · exact hlive j' (S.deep j o ho c' hm j' hj')
      · exact hlive j' (hl j' hj')
    · exact hlive j' (S.deep j o' h c' hc' j' hj')
  · have f1 : ∃ o1', s.h j = some o1' := by rcases hh j o1 x1 with ⟨rfl, _⟩ | ⟨_, h⟩; exact ⟨o, ho⟩; exact ⟨o1, h⟩
    have f2 : ∃ o2', s.h j' = some o2' := by rcases hh j' o2 x2 with ⟨rfl, _⟩ | ⟨_, h⟩; exact ⟨o, ho⟩; exact ⟨o2, h⟩
    obtain ⟨o1', f1⟩ := f1
    obtain ⟨o2', f2⟩ := f2
    exact S.sep j j' o1' o2' x f1 f2 y1 y2
  · have f1 : ∃ o1', s.h j = some o1' := by rcases hh j o' h with ⟨rfl, _⟩ | ⟨_, h⟩; exact ⟨o, ho⟩; exact ⟨o', h⟩
    obtain ⟨o1', f1⟩ := f1
    exact S.own j o1' x f1 hx

theorem setH_same (s : St) (k : Nat) (o : Obj) (h : s.h k = some o) : s.setH k o = s := by
  cases s
  simp only [St.setH]
  congr 1
  funext i
  simp only [upd]
  split
  · rename_i e; rw [e]; exact h.symm
  · rfl
theorem setH_setH (s : St) (k : Nat) (o o' : Obj) : (s.setH k o).setH k o' = s.setH k o' := by
  simp only [St.setH]
  congr 1
  funext i
  simp only [upd]
  split <;> rfl

theorem Stands.storeCells : ∀ {cs : List T} {us : List Value} {s : St} {w : World} {k : Nat} {o : Obj} {b off : Nat} (i : Nat), Stands C σ G s a w → s.h k = some o → (G k).1 = some b → off + i + cs.length ≤ o.cells.length →
    RepTU σ G cs us → (∀ c ∈ cs, ∀ j, c.ref = some j → s.h j ≠ none) →
    ∃ w', (storeCells ⟨b, off, none⟩ us i).run C.P w = .ok () w' ∧ Stands C σ G (s.setH k { o with cells := setCells o.cells (off + i) cs }) a w'
  | [], us, s, w, k, o, b, off, i, S, ho, hb, _, hr, _ => by
    simp only [RepTU] at hr; subst hr
    refine ⟨w, by simp [Go.storeCells], ?_⟩
    simp only [setCells]
    rw [setH_same s k _ ho]; exact S
  | c :: cs, _, s, w, k, o, b, off, i, S, ho, hb, hle, ⟨u, r, rfl, h0, h2, h3⟩, hl => by
    simp only [List.length_cons] at hle
    obtain ⟨e1, S1⟩ := S.setCell (off := off + i) ho hb (by omega) h0 h2 (hl c (by simp)) .plain
    have ho1 : (s.setH k { o with cells := o.cells.set (off + i) c }).h k = some { o with cells := o.cells.set (off + i) c } := by simp [St.setH, upd]
    obtain ⟨w', e2, S2⟩ := Stands.storeCells (cs := cs) (us := r) (off := off) (i + 1) S1 ho1 hb (by simp; omega) h3 (fun c' hc' j hj => by
      have := hl c' (by simp [hc']) j hj
      simp only [St.setH, upd]; split <;> simp_all)
    refine ⟨w', ?_, ?_⟩
    · simp only [Go.storeCells, Sem.run_bind, addr_add, e1, Result.andThen_ok]
      exact e2
    · rw [setH_setH] at S2
      simp only [setCells]
      exact S2

theorem Stands.storeAt (S : Stands C σ G s a w) {t : TypeId} {k off : Nat} {o : Obj} {c : T} {cs : List T} (ho : s.h k = some o) (hc : cellsT c = some cs) (hsz : szT C.P t = some cs.length) (hle : off + cs.length ≤ o.cells.length)
    {p u : Value} (hp : RepT σ G (.ptr k off) p) (hu : RepT σ G c u) (hl : ∀ j, c.ref = some j → s.h j ≠ none) :
    ∃ w', (Instr.storeAt t p u).run C.P w = .ok () w' ∧ Stands C σ G (s.setH k { o with cells := setCells o.cells off cs }) a w' := by
  simp only [RepT] at hp
  obtain ⟨b, hb, rfl⟩ := hp
  obtain ⟨h1, h2⟩ := cellsT_sound S hc hu hl
  obtain ⟨w', e, S'⟩ := S.storeCells (off := off) 0 ho hb (by omega) h1 h2
  refine ⟨w', ?_, S'⟩
  have hn : u.cells.size = cs.length := by rw [← Array.length_toList]; exact h1.length
  simp [Instr.storeAt, Instr.sureAddr, storeVar, run_szT hsz, hn, e]
end
end Go.Enc
