/-
  New blocks, stores, growing slices.
-/
import Derived.Test.YtjlibljfpkmpfaaDoorOps4
namespace Go.Enc
open Go.RowKit

def killT (k : Nat) (c : T) : T :=
  match c with
  | .d x => .d x
  | .ptr j o => if j = k then .d .any else .ptr j o
  | .gs j => if j = k then .d .any else .gs j
  | .ipr t j => if j = k then .d .any else .ipr t j
def Obj.kill (k : Nat) (o : Obj) : Obj := { o with cells := o.cells.map (killT k) }
def St.kill (s : St) (k : Nat) : St := { t := fun i => killT k (s.t i), h := fun i => if i = k then none else (s.h i).map (Obj.kill k) }
def St.new (s : St) (k : Nat) (o : Obj) : St := { s with h := upd s.h k (some o) }

section
variable {C : Ctx} {σ : Mem} {G : Gh} {s : St} {a : Act} {w : World}

theorem killT_ref {k j : Nat} {c : T} (h : (killT k c).ref = some j) : c.ref = some j ∧ j ≠ k := by
  cases c <;> simp only [killT] at h <;> (try (simp [T.ref] at h; done)) <;> (split at h <;> simp [T.ref] at h <;> subst h <;> simp_all [T.ref])
theorem RepT.kill {k : Nat} {c : T} {u : Value} (h : RepT σ G c u) : RepT σ G (killT k c) u := by
  cases c <;> simp only [killT] <;> (try exact h) <;> split <;> first | (simp [RepT, Rep]; done) | exact h
theorem RepTU.kill {k : Nat} : ∀ {cs : List T} {us : List Value}, RepTU σ G cs us → RepTU σ G (cs.map (killT k)) us
  | [], _, h => h
  | _ :: _, _, ⟨u, r, h1, h0, h2, h3⟩ => ⟨u, r, h1, h0, h2.kill, RepTU.kill h3⟩

theorem ObjIs.kill {k j b : Nat} {o : Obj} (h : ObjIs σ G w b j o) : ObjIs σ G w b j (o.kill k) := by
  unfold ObjIs at h ⊢
  simp only [Obj.kill]
  split at h
  · obtain ⟨b, us, ty, h1, h2, h3, h4, h5⟩ := h
    exact ⟨b, us, ty, h1, h2, h3, h4.kill, h5⟩
  · obtain ⟨n, us, h1, h2, h3, h4⟩ := h
    exact ⟨n, us, h1, h2.kill, h3, fun hn he => h4 hn (by simpa using he)⟩

theorem Stands.kill (S : Stands C σ G s a w) (k : Nat) : Stands C σ G (s.kill k) a w := by
  have hh : ∀ j o, (s.kill k).h j = some o → j ≠ k ∧ ∃ o', s.h j = some o' ∧ o = o'.kill k := by
    intro j o h
    simp only [St.kill] at h
    split at h
    · cases h
    · rename_i hne
      simp only [Option.map_eq_some_iff] at h
      obtain ⟨o', h1, h2⟩ := h
      exact ⟨hne, o', h1, h2.symm⟩
  have hlive : ∀ j, s.h j ≠ none → j ≠ k → (s.kill k).h j ≠ none := by
    intro j h1 h2
    simp only [St.kill, h2, if_false]
    cases h : s.h j with
    | none => exact absurd h h1
    | some o => simp
  refine { S with slot := fun i => (S.slot i).kill, live := fun i j hj => ?_, obj := fun j o h => ?_, deep := fun j o h c hc j' hj' => ?_, sep := fun j j' o o' b h h' => ?_, own := fun j o b h => ?_ }
  · obtain ⟨h1, h2⟩ := killT_ref hj
    exact hlive j (S.live i j h1) h2
  · obtain ⟨_, o', h1, rfl⟩ := hh j o h
    exact (S.obj j o' h1).kill
  · obtain ⟨_, o', h1, rfl⟩ := hh j o h
    simp only [Obj.kill, List.mem_map] at hc
    obtain ⟨c', hc', rfl⟩ := hc
    obtain ⟨h3, h4⟩ := killT_ref hj'
    exact hlive j' (S.deep j o' h1 c' hc' j' h3) h4
  · obtain ⟨_, o1, h1, rfl⟩ := hh j o h
    obtain ⟨_, o2, h2, rfl⟩ := hh j' o' h'
    exact S.sep j j' o1 o2 b h1 h2
  · obtain ⟨_, o1, h1, rfl⟩ := hh j o h
    exact S.own j o1 b h1

/-- A local block stays as it is where only another block is written. -/
theorem ObjIs.grown {k b : Nat} {o : Obj} {w' : World} {row : Option Nat} (h : ObjIs σ G w b k o) (hg : w.grownBy w' row) (hr : ∀ x, row = some x → (G k).1 ≠ some x) : ObjIs σ G w' b k o := by
  unfold ObjIs at h ⊢
  split at h
  · obtain ⟨x, us, ty, h1, h2, h3, h4, h5⟩ := h
    refine ⟨x, us, ty, h1, h2, ?_, h4, h5⟩
    rw [hg.block x (Array.getElem?_eq_some_iff.1 h3).1 (fun e => hr x e.symm h1)]
    exact h3
  · obtain ⟨n, us, h1, h2, h3, h4⟩ := h
    refine ⟨n, us, h1.kept hg ?_, h2, h3, h4⟩
    cases hb : (G k).2.ownBlock with
    | none => exact .inl rfl
    | some x =>
      refine .inr fun e => ?_
      exact hr x e.symm (by rw [h3, hb])

theorem ObjIs.regh {k b : Nat} {o : Obj} {G' : Gh} (h : ObjIs σ G w b k o) (hk : G' k = G k) (hd : ∀ c ∈ o.cells, ∀ j, c.ref = some j → G' j = G j) : ObjIs σ G' w b k o := by
  unfold ObjIs at h ⊢
  split at h
  · obtain ⟨x, us, ty, h1, h2, h3, h4, h5⟩ := h
    exact ⟨x, us, ty, by rw [hk]; exact h1, h2, h3, h4.regh hd, by rw [hk]; exact h5⟩
  · obtain ⟨n, us, h1, h2, h3, h4⟩ := h
    exact ⟨n, us, by rw [hk]; exact h1, h2.regh hd, by rw [hk]; exact h3, by rw [hk]; exact h4⟩

theorem ObjIs.block {k b : Nat} {o : Obj} (h : ObjIs σ G w b k o) {x : Nat} (hx : (G k).1 = some x) : b ≤ x ∧ x < w.heap.size := by
  unfold ObjIs at h
  split at h
  · obtain ⟨y, us, ty, h1, h2, h3, h4, _⟩ := h
    rw [h1] at hx; cases hx
    exact ⟨h2, (Array.getElem?_eq_some_iff.1 h3).1⟩
  · obtain ⟨n, us, h1, h2, h3, h4⟩ := h
    rw [h3] at hx
    exact h1.lt x hx

/-- A new local block; one block of the call's own (row), which nobody speaks of any more, may have been written. -/
theorem Stands.fresh (S : Stands C σ G s a w) {k : Nat} (hk : s.h k = none) {o : Obj} {g : Option Nat × Value} {w' : World} {row : Option Nat}
    (hg : w.grownBy w' row) (hrow : ∀ b, row = some b → C.base ≤ b ∧ (∀ i, σ b i = none) ∧ ∀ k' o', s.h k' = some o' → (G k').1 ≠ some b)
    (hnew : ObjIs σ (upd G k g) w' C.base k o) (hdeep : ∀ c ∈ o.cells, ∀ k', c.ref = some k' → s.h k' ≠ none)
    (hblk : ∀ b, g.1 = some b → w.heap.size ≤ b ∨ row = some b) : Stands C σ (upd G k g) (s.new k o) a w' := by
  have hne : ∀ j, s.h j ≠ none → j ≠ k := fun j hj e => hj (e ▸ hk)
  have hG : ∀ j, s.h j ≠ none → upd G k g j = G j := fun j hj => upd_ne G g (hne j hj)
  have hh : ∀ j o', (s.new k o).h j = some o' → (j = k ∧ o' = o) ∨ (j ≠ k ∧ s.h j = some o') := by
    intro j o' h
    simp only [St.new, upd] at h
    split at h
    · rename_i e; exact .inl ⟨e, by simpa using h.symm⟩
    · rename_i e; exact .inr ⟨e, h⟩
  have hlive : ∀ j, s.h j ≠ none → (s.new k o).h j ≠ none := fun j hj => by
    simp only [St.new]; rw [upd_ne _ _ (hne j hj)]; exact hj
  have hcell : ∀ b i u, σ b i = some u → w'.cell? ⟨b, i, none⟩ = some u := fun b i u h =>
    hg.cell (S.inv b i u h) (fun e => by have := (hrow b e.symm).2.1 i; rw [h] at this; cases this)
  have hbel : Below C.base C.w0 w' := S.bel.grown hg S.size (fun b e => (hrow b e).1)
  have hblkσ : ∀ b, g.1 = some b → ∀ i, σ b i = none := fun b hb i => by
    rcases hblk b hb with h | h
    · cases hs : σ b i with
      | none => rfl
      | some u =>
        have := block_lt_of_cell (S.inv b i u hs)
        simp only at this
        omega
    · exact (hrow b h).2.1 i
  have hsep : ∀ j o' b, s.h j = some o' → (G j).1 = some b → g.1 ≠ some b := fun j o' b h h1 h2 => by
    rcases hblk b h2 with h3 | h3
    · have := ((S.obj j o' h).block h1).2; omega
    · exact (hrow b h3).2.2 j o' h h1
  refine { S with inv := hcell, hard := fun b i u h he => (S.hard b i u h he).of_eq (hg.block b (lt_of_cell' (S.inv b i u h)) (fun e => by have := (hrow b e.symm).2.1 i; rw [h] at this; cases this)), bel := hbel, slot := fun i => (S.slot i).regh fun j hj => hG j (S.live i j hj), live := fun i j hj => hlive j (S.live i j hj), obj := fun j o' h => ?_, deep := fun j o' h c hc j' hj' => ?_, sep := fun j j' o1 o2 b h1 h2 g1 g2 => ?_, own := fun j o' b h hb => ?_ }
  · rcases hh j o' h with ⟨rfl, rfl⟩ | ⟨hj, h⟩
    · exact hnew
    · exact ((S.obj j o' h).grown hg (fun x e => (hrow x e).2.2 j o' h)).regh (upd_ne G g hj) (fun c hc j' hj' => hG j' (S.deep j o' h c hc j' hj'))
  · rcases hh j o' h with ⟨rfl, rfl⟩ | ⟨hj, h⟩
    · exact hlive j' (hdeep c hc j' hj')
    · exact hlive j' (S.deep j o' h c hc j' hj')
  · rcases hh j o1 h1 with ⟨e1, _⟩ | ⟨hj, k1⟩ <;> rcases hh j' o2 h2 with ⟨e2, _⟩ | ⟨hj', k2⟩
    · rw [e1, e2]
    · rw [e1, upd_same] at g1; rw [upd_ne _ _ hj'] at g2
      exact absurd g1 (hsep j' o2 b k2 g2)
    · rw [e2, upd_same] at g2; rw [upd_ne _ _ hj] at g1
      exact absurd g2 (hsep j o1 b k1 g1)
    · rw [upd_ne _ _ hj] at g1; rw [upd_ne _ _ hj'] at g2
      exact S.sep j j' o1 o2 b k1 k2 g1 g2
  · rcases hh j o' h with ⟨rfl, rfl⟩ | ⟨hj, h⟩
    · rw [upd_same] at hb; exact hblkσ b hb
    · rw [upd_ne _ _ hj] at hb; exact S.own j o' b h hb
end
end Go.Enc
