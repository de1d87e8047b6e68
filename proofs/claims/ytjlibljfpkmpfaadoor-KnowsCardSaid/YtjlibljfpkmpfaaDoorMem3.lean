/-
  New variables, literals of slices and structs, make.
-/
import Derived.Test.YtjlibljfpkmpfaaDoorMem2
namespace Go.Enc
open Go.RowKit

def zeroT (P : Program) (t : TypeId) : Option (List T) :=
  match P.info? t with
  | some i => match i.zero with
    | some z => if z.cells.toList.all Value.oneCell' && z.cells.size == i.size then some (z.cells.toList.map fun u => .d (.v u)) else none
    | none => none
  | none => none

def setVals : List Value → Nat → List Value → List Value
  | cells, _, [] => cells
  | cells, off, c :: cs => setVals (cells.set off c) (off + 1) cs

def fillT (place : Nat → Option (Nat × Nat)) : List T → List (Nat × T) → Option (List T)
  | cells, [] => some cells
  | cells, (i, c) :: rest => match place i, cellsT c with
    | some (off, size), some cs => if cs.length = size ∧ off + cs.length ≤ cells.length then fillT place (setCells cells off cs) rest else none
    | _, _ => none

/-- The places of a struct's fields, of an array's elements. -/
def placesT (P : Program) (t : TypeId) : Option (List (Nat × Nat)) :=
  match P.underlying t with
  | some (.struct fs) => fs.toList.mapM fun f => (szT P f.type).map fun n => (f.offset, n)
  | some (.array n e) => match szT P e with
    | some k => some ((List.range n).map fun i => (i * k, k))
    | none => none
  | _ => none

def buildT (P : Program) (t : TypeId) (parts : List (Nat × T)) : Option T :=
  match zeroT P t, placesT P t with
  | some z, some pl => match fillT (pl[·]?) z parts with
    | some cells => (asDs cells).map fun ds => .d (.agg ds)
    | none => none
  | _, _ => none

section
variable {C : Ctx} {σ : Mem} {G : Gh} {s : St} {a : Act} {w : World}

theorem zeroT_spec {P : Program} {t : TypeId} {cs : List T} (h : zeroT P t = some cs) :
    ∃ z, (zeroValue t).run P w = .ok z w ∧ RepTU σ G cs z.cells.toList ∧ szT P t = some cs.length ∧ (∀ c ∈ cs, c.ref = none) ∧ (∃ i, P.info? t = some i ∧ i.zero = some z) := by
  unfold zeroT at h
  split at h
  · rename_i i hi
    split at h
    · rename_i z hz
      split at h
      · rename_i hc
        cases h
        simp only [Bool.and_eq_true, beq_iff_eq] at hc
        refine ⟨z, by simp [zeroValue, typeInfo, hi, hz], ?_, by simp [szT, hi, hc.2], ?_, i, hi, hz⟩
        · have h1 := hc.1
          generalize z.cells.toList = l at h1
          induction l with
          | nil => simp [RepTU]
          | cons u l ih =>
            simp only [List.all_cons, Bool.and_eq_true] at h1
            simp only [List.map_cons, RepTU]
            exact ⟨u, l, rfl, h1.1, by simp [RepT, Rep], ih h1.2⟩
        · intro c hc'
          simp only [List.mem_map] at hc'
          obtain ⟨u, _, rfl⟩ := hc'
          rfl
      · cases h
    · cases h
  · cases h

/-- A variable is laid. -/
theorem Stands.newBox (S : Stands C σ G s a w) {k : Nat} (hk : s.h k = none) {cs : List T} {us : Array Value} (hr : RepTU σ G cs us.toList) (hl : ∀ c ∈ cs, ∀ j, c.ref = some j → s.h j ≠ none) (t : TypeId) :
    Stands C σ (upd G k (some w.heap.size, .pointer (some ⟨w.heap.size, 0, none⟩))) (s.new k ⟨none, cs⟩) a (w.alloc (.cells us t)) := by
  have hne : ∀ j, s.h j ≠ none → j ≠ k := fun j hj e => hj (e ▸ hk)
  refine S.fresh hk (row := none) (World.grownBy_alloc w _ none) (by simp) ?_ hl (fun b hb => ?_)
  · simp only [ObjIs]
    refine ⟨w.heap.size, us, t, by simp [upd_same], S.size, heap_alloc_new w _, ?_, by simp [upd_same, Value.oneCell']⟩
    exact hr.regh fun c hc j hj => upd_ne G _ (hne j (hl c hc j hj))
  · simp only [Option.some.injEq] at hb; exact .inl (by omega)

theorem setVals_rep : ∀ {cs cells : List T} {us vs : List Value} {off : Nat}, RepTU σ G cells vs → RepTU σ G cs us → RepTU σ G (setCells cells off cs) (setVals vs off us)
  | [], _, us, _, _, h, h' => by simp only [RepTU] at h'; subst h'; exact h
  | c :: cs, cells, _, vs, off, h, ⟨u, r, h1, h0, h2, h3⟩ => by
    subst h1
    show RepTU σ G (setCells (cells.set off c) (off + 1) cs) (setVals (vs.set off u) (off + 1) r)
    exact setVals_rep (h.set off c u h0 h2) h3

theorem setCells_live {p : T → Prop} : ∀ {cs cells : List T} {off : Nat}, (∀ c ∈ cells, p c) → (∀ c ∈ cs, p c) → ∀ c ∈ setCells cells off cs, p c
  | [], _, _, h, _ => h
  | c0 :: cs, cells, off, h, h' => by
    simp only [setCells]
    refine setCells_live (fun c hc => ?_) (fun c hc => h' c (by simp [hc]))
    rcases List.mem_or_eq_of_mem_set hc with h1 | rfl
    · exact h c h1
    · exact h' c (by simp)

theorem fill_mono {p q : Nat → Option (Nat × Nat)} (h : ∀ i x, p i = some x → q i = some x) : ∀ {vs : List (Nat × Value)} {arr r : Array Value}, Instr.fill p arr vs = some r → Instr.fill q arr vs = some r
  | [], _, _, e => e
  | (i, v) :: vs, arr, r, e => by
    simp only [Instr.fill] at e ⊢
    cases hp : p i with
    | none => simp [hp] at e
    | some x =>
      obtain ⟨off, size⟩ := x
      simp only [hp, h i _ hp] at e ⊢
      split at e
      · cases e
      · rename_i hc
        rw [if_neg hc]
        exact fill_mono h e

theorem fill_fold (arr : Array Value) (off : Nat) (vs : Array Value) :
    (vs.zipIdx.foldl (fun cs (c, j) => cs.setIfInBounds (off + j) c) arr).toList = setVals arr.toList off vs.toList := by
  rw [← Array.foldl_toList, Array.toList_zipIdx]
  generalize vs.toList = l
  have : ∀ (l : List Value) (n : Nat) (arr : Array Value), (List.foldl (fun cs (x : Value × Nat) => cs.setIfInBounds (off + x.2) x.1) arr (l.zipIdx n)).toList = setVals arr.toList (off + n) l := by
    intro l
    induction l with
    | nil => intro n arr; rfl
    | cons u l ih =>
      intro n arr
      simp only [List.zipIdx_cons, List.foldl_cons, setVals]
      rw [ih (n + 1)]
      simp [Nat.add_assoc]
  exact this l 0 arr

/-- Parts and their values. -/
def RepP (σ : Mem) (G : Gh) : List (Nat × T) → List (Nat × Value) → Prop
  | [], vs => vs = []
  | (i, c) :: r, vs => ∃ u q, vs = (i, u) :: q ∧ RepT σ G c u ∧ RepP σ G r q

theorem fillT_sound (S : Stands C σ G s a w) {place : Nat → Option (Nat × Nat)} : ∀ {parts : List (Nat × T)} {cells r : List T} {vs : List (Nat × Value)} {arr : Array Value}, fillT place cells parts = some r → RepTU σ G cells arr.toList →
    (∀ c ∈ cells, ∀ j, c.ref = some j → s.h j ≠ none) → RepP σ G parts vs → (∀ p ∈ parts, ∀ j, p.2.ref = some j → s.h j ≠ none) →
    ∃ arr', Instr.fill place arr vs = some arr' ∧ RepTU σ G r arr'.toList ∧ r.length = cells.length ∧ ∀ c ∈ r, ∀ j, c.ref = some j → s.h j ≠ none
  | [], cells, r, vs, arr, h, hr, hl, hp, _ => by
    simp only [fillT, Option.some.injEq] at h; subst h
    simp only [RepP] at hp; subst hp
    exact ⟨arr, by simp [Instr.fill], hr, rfl, hl⟩
  | (i, c) :: rest, cells, r, vs, arr, h, hr, hl, ⟨u, q, e, h1, h2⟩, hpl => by
    subst e
    simp only [fillT] at h
    split at h
    · rename_i off size cs hplace hcs
      split at h
      · rename_i hc
        obtain ⟨hlen, hle⟩ := hc
        obtain ⟨g1, g2⟩ := cellsT_sound S hcs h1 (hpl (i, c) (by simp))
        have hu : u.cells.size = cs.length := by rw [← Array.length_toList]; exact g1.length
        have harr : arr.size = cells.length := by rw [← Array.length_toList]; exact hr.length
        have hr' := setVals_rep (off := off) hr g1
        rw [← fill_fold] at hr'
        have hl' : ∀ c' ∈ setCells cells off cs, ∀ j, c'.ref = some j → s.h j ≠ none := setCells_live (p := fun c' => ∀ j, c'.ref = some j → s.h j ≠ none) hl g2
        obtain ⟨arr', e1, e2, e3, e4⟩ := fillT_sound S h hr' hl' h2 (fun p hp => hpl p (by simp [hp]))
        refine ⟨arr', ?_, e2, by rw [e3, setCells_length], e4⟩
        simp only [Instr.fill, hplace]
        rw [if_neg (by simp [hu, hlen, harr]; omega)]
        exact e1
      · cases h
    · cases h

theorem buildT_sound (S : Stands C σ G s a w) {t : TypeId} {parts : List (Nat × T)} {r : T} (h : buildT C.P t parts = some r) {vs : List (Nat × Value)} (hp : RepP σ G parts vs) (hpl : ∀ p ∈ parts, ∀ j, p.2.ref = some j → s.h j ≠ none) :
    ∃ z, (Instr.build t vs.toArray).run C.P w = .ok z w ∧ RepT σ G r z ∧ ∀ k, r.ref = some k → s.h k ≠ none := by
  unfold buildT at h
  split at h
  · rename_i z pl hz hpl'
    split at h
    · rename_i cells hcells
      simp only [Option.map_eq_some_iff] at h
      obtain ⟨ds, hds, rfl⟩ := h
      obtain ⟨zv, z1, z2, z3, z4, _⟩ := zeroT_spec (σ := σ) (G := G) (w := w) hz
      obtain ⟨arr, f1, f2, f3, f4⟩ := fillT_sound S hcells z2 (fun c hc j hj => by rw [z4 c hc] at hj; cases hj) hp hpl
      refine ⟨.agg arr, ?_, by simp only [RepT, Rep]; exact ⟨arr, rfl, f2.data hds⟩, by simp [T.ref]⟩
      unfold placesT at hpl'
      split at hpl'
      · rename_i fs hfs
        have hmap : (fs.mapM (m := Sem) fun f => do pure (f.offset, ← sizeOf f.type)).run C.P w = .ok pl.toArray w := by
          rw [Array.mapM_eq_mapM_toList]
          simp only [Sem.run_map]
          have : ∀ (l : List Field) (pl : List (Nat × Nat)), (l.mapM fun f => (szT C.P f.type).map fun n => (f.offset, n)) = some pl → (l.mapM (m := Sem) fun f => do pure (f.offset, ← sizeOf f.type)).run C.P w = .ok pl w := by
            intro l
            induction l with
            | nil => intro pl h; simp at h; subst h; simp
            | cons f l ih =>
              intro pl h
              simp only [List.mapM_cons, Option.bind_eq_bind, Option.bind_eq_some_iff, Option.map_eq_some_iff, Option.pure_def, Option.some.injEq] at h
              obtain ⟨x, ⟨n, hn, rfl⟩, q, hq, rfl⟩ := h
              simp only [List.mapM_cons, Sem.run_bind, run_szT hn, Result.andThen_ok, Sem.run_pure, ih q hq]
          rw [this _ _ hpl']
          rfl
        simp only [Instr.build, Sem.run_bind, z1, Result.andThen_ok, run_underlying hfs, hmap]
        simp only [List.getElem?_toArray, f1, Sem.run_pure]
      · rename_i n e he
        split at hpl'
        · rename_i k hk
          cases hpl'
          have f1' : Instr.fill (fun i => some (i * k, k)) zv.cells vs = some arr := fill_mono (fun i x hx => by
            rw [List.getElem?_map] at hx
            simp only [Option.map_eq_some_iff] at hx
            obtain ⟨y, hy, rfl⟩ := hx
            rw [List.getElem?_range (by
              rcases Nat.lt_or_ge i n with h | h
              · exact h
              · rw [List.getElem?_eq_none (by simpa using h)] at hy; cases hy)] at hy
            cases hy; rfl) f1
          simp only [Instr.build, Sem.run_bind, z1, Result.andThen_ok, run_underlying he, run_szT hk]
          simp only [f1', Sem.run_pure]
        · cases hpl'
      · cases hpl'
    · cases h
  · cases h
end
end Go.Enc
