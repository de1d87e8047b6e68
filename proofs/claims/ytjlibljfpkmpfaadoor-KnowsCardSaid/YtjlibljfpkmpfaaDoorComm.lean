/-
  A row that stays from now on; before a call the rows that it is handed are made so.
-/
import Derived.Test.YtjlibljfpkmpfaaDoorStep2
namespace Go.Enc
open Go.RowKit

section
variable {C : Ctx} {σ : Mem} {G : Gh} {s : St} {a : Act} {w : World} {Q : Exit → St → Prop}
/-- How a reference to a row that stays from now on reads. -/
def commT (k : Nat) (o : Obj) (ds : List D) : T → T
  | .gs j => if j = k then (match o.vec with | some (_, size, _) => .d (.sl size ds) | none => .d .any) else .gs j
  | .ptr j off => if j = k then .d (.pd ds off) else .ptr j off
  | .ipr t j => if j = k then (match o.vec with | none => .d (.ip t ds) | _ => .d .any) else .ipr t j
  | .d x => .d x
def Obj.comm (k : Nat) (o : Obj) (ds : List D) (p : Obj) : Obj := { p with cells := p.cells.map (commT k o ds) }
def St.comm (s : St) (k : Nat) (o : Obj) (ds : List D) : St := { t := fun i => commT k o ds (s.t i), h := fun i => if i = k then none else (s.h i).map (Obj.comm k o ds) }

theorem commT_ref {k j : Nat} {o : Obj} {ds : List D} {c : T} (h : (commT k o ds c).ref = some j) : c.ref = some j ∧ j ≠ k := by
  cases c <;> simp only [commT] at h <;> (try (simp [T.ref] at h; done)) <;> split at h <;> (try (split at h)) <;> simp [T.ref] at h <;> subst h <;> simp_all [T.ref]

theorem RepTU.mapT {f : T → T} (hf : ∀ c u, RepT σ G c u → RepT σ G (f c) u) : ∀ {cs : List T} {us : List Value}, RepTU σ G cs us → RepTU σ G (cs.map f) us
  | [], _, h => h
  | _ :: _, _, ⟨u, r, h1, h0, h2, h3⟩ => ⟨u, r, h1, h0, hf _ _ h2, RepTU.mapT hf h3⟩

theorem ObjIs.mapT {f : T → T} (hf : ∀ c u, RepT σ G c u → RepT σ G (f c) u) {k b : Nat} {o : Obj} (h : ObjIs σ G w b k o) : ObjIs σ G w b k { o with cells := o.cells.map f } := by
  unfold ObjIs at h ⊢
  simp only
  split at h
  · obtain ⟨x, us, ty, h1, h2, h3, h4, h5⟩ := h
    exact ⟨x, us, ty, h1, h2, h3, h4.mapT hf, h5⟩
  · obtain ⟨n, us, h1, h2, h3, h4⟩ := h
    exact ⟨n, us, h1, h2.mapT hf, h3, fun hn he => h4 hn (by simpa using he)⟩

theorem Stands.comm (S : Stands C σ G s a w) {k : Nat} {o : Obj} (ho : s.h k = some o) {ds : List D} (hds : asDs o.cells = some ds) : ∃ σ', Stands C σ' G (s.comm k o ds) a w := by
  have hO := S.obj k o ho
  -- what is known from now on
  let σ' : Mem := fun b i => if (G k).1 = some b then (if i < o.cells.length then (w.cell? ⟨b, i, none⟩) else none) else σ b i
  have hle : σ.le σ' := fun b i u h => by
    simp only [σ']
    split
    · rename_i e; have := S.own k o b ho e i; rw [h] at this; cases this
    · exact h
  have hcells : ∀ b, (G k).1 = some b → RepC σ' ds b 0 := fun b hb => by
    obtain ⟨_, cur, ty, us, h1, h2, sp, h3⟩ := S.row ho hb
    have h4 := (h2.mono hle).data hds
    refine RepC.of_values h4 fun i u hi => ?_
    have hlt : i < us.length := by
      rcases Nat.lt_or_ge i us.length with h | h
      · exact h
      · rw [List.getElem?_eq_none h] at hi; cases hi
    simp only [σ', hb, if_true, Nat.zero_add]
    rw [if_pos (by rw [← h2.length]; exact hlt), cell_of_row w b i cur ty (0, 0) h1, ← Array.getElem?_toList, h3, List.getElem?_append_left hlt]
    exact hi
  have hf : ∀ c u, RepT σ' G c u → RepT σ' G (commT k o ds c) u := fun c u h => by
    cases c with
    | d x => exact h
    | ptr j off =>
      simp only [commT]
      split
      · rename_i e; subst e
        simp only [RepT] at h
        obtain ⟨b, hb, rfl⟩ := h
        simp only [RepT, Rep]
        exact ⟨b, 0, by simp, hcells b hb⟩
      · exact h
    | gs j =>
      simp only [commT]
      split
      · rename_i e; subst e
        simp only [RepT] at h
        subst h
        unfold ObjIs at hO
        split at hO
        · rename_i hv; simp only [hv, RepT, Rep]
        · rename_i e size nn hv
          simp only [hv, RepT, Rep]
          obtain ⟨n, us, g1, g2, g3, g4⟩ := hO
          have hl : ds.length = n * size := by
            have := (g2.data hds).length
            rw [← this, g1.1]
          rcases g1.2 with ⟨hnil, hz⟩ | ⟨g, cap, cur, hval, _, _, hnc, hcm, _⟩
          · exact .inl ⟨hnil, List.eq_nil_of_length_eq_zero (by rw [hl, hz]; simp)⟩
          · exact .inr (.inl ⟨g, 0, n, cap, hval, hl, hnc, hcm, hcells g (by rw [g3, hval]; rfl)⟩)
      · exact h
    | ipr t j =>
      simp only [commT]
      split
      · rename_i e; subst e
        simp only [RepT] at h
        obtain ⟨b, hb, rfl⟩ := h
        split
        · simp only [RepT, Rep]; exact ⟨b, 0, rfl, hcells b hb⟩
        · simp [RepT, Rep]
      · exact h
  have hh : ∀ j p, (s.comm k o ds).h j = some p → j ≠ k ∧ ∃ p', s.h j = some p' ∧ p = Obj.comm k o ds p' := by
    intro j p h
    simp only [St.comm] at h
    split at h
    · cases h
    · rename_i hne
      simp only [Option.map_eq_some_iff] at h
      obtain ⟨p', h1, h2⟩ := h
      exact ⟨hne, p', h1, h2.symm⟩
  have hlive : ∀ j, s.h j ≠ none → j ≠ k → (s.comm k o ds).h j ≠ none := by
    intro j h1 h2
    simp only [St.comm, h2, if_false]
    cases h : s.h j with
    | none => exact absurd h h1
    | some o => simp
  have hm : ∀ j p, ObjIs σ G w C.base j p → ObjIs σ' G w C.base j p := fun j p h => by
    unfold ObjIs at h ⊢
    split at h
    · obtain ⟨x, us, ty, h1, h2, h3, h4, h5⟩ := h; exact ⟨x, us, ty, h1, h2, h3, h4.mono hle, h5⟩
    · obtain ⟨n, us, h1, h2, h3, h4⟩ := h; exact ⟨n, us, h1, h2.mono hle, h3, h4⟩
  refine ⟨σ', { S with
    le := Mem.le_trans S.le hle
    old := fun b i hb => ?_
    inv := fun b i u h => ?_
    hard := fun b i u h he => ?_
    slot := fun i => hf _ _ ((S.slot i).mono hle)
    live := fun i j hj => ?_
    obj := fun j p h => ?_
    deep := fun j p h c hc j' hj' => ?_
    sep := fun j j' p p' b h h' => ?_
    own := fun j p b h hb i => ?_ }⟩
  · simp only [σ']
    rw [if_neg (fun e => by have := (hO.block e).1; omega)]
    exact S.old b i hb
  · simp only [σ'] at h
    split at h
    · split at h
      · exact h
      · cases h
    · exact S.inv b i u h
  · simp only [σ'] at h
    split at h
    · rename_i e
      obtain ⟨_, cur, ty, us, h1, h2, sp, h3⟩ := S.row ho e
      exact ⟨cur, ty, _, h1⟩
    · exact S.hard b i u h he
  · obtain ⟨h1, h2⟩ := commT_ref hj
    exact hlive j (S.live i j h1) h2
  · obtain ⟨_, p', h1, rfl⟩ := hh j p h
    exact (hm j p' (S.obj j p' h1)).mapT hf
  · obtain ⟨_, p', h1, rfl⟩ := hh j p h
    simp only [Obj.comm, List.mem_map] at hc
    obtain ⟨c', hc', rfl⟩ := hc
    obtain ⟨h3, h4⟩ := commT_ref hj'
    exact hlive j' (S.deep j p' h1 c' hc' j' h3) h4
  · obtain ⟨_, o1, h1, rfl⟩ := hh j p h
    obtain ⟨_, o2, h2, rfl⟩ := hh j' p' h'
    exact S.sep j j' o1 o2 b h1 h2
  · obtain ⟨hne, o1, h1, rfl⟩ := hh j p h
    simp only [σ']
    rw [if_neg (fun e => hne (S.sep j k o1 o b h1 ho hb e))]
    exact S.own j o1 b h1 hb i

@[simp] theorem asDs_map : ∀ cells : List D, asDs (cells.map T.d) = some cells
  | [] => rfl
  | c :: cs => by simp [asDs, asDs_map cs]
end

/-- A row of one's own that is handed on stays as it is from now on. -/
def commA (s : St) (k : Nat) (o : Obj) (ds : Option (List D)) (K : St → Prop) : Prop := match ds with
  | some ds => K (s.comm k o ds)
  | none => K s
def commG (s : St) (k : Nat) (ob : Option Obj) (K : St → Prop) : Prop := match ob with
  | some o => commA s k o (asDs o.cells) K
  | none => K s
def commOne (s : St) (x : T) (K : St → Prop) : Prop := match x with
  | .gs k => commG s k (s.h k) K
  | .d _ => K s
  | .ptr _ _ => K s
  | .ipr _ k => commG s k (s.h k) K
theorem commG_sound {C : Ctx} {σ : Mem} {G : Gh} {s : St} {a : Act} {w : World} (S : Stands C σ G s a w) {k : Nat} {K : St → Prop} (h : commG s k (s.h k) K) : ∃ σ' s', Stands C σ' G s' a w ∧ K s' := by
  simp only [commG] at h
  cases hk : s.h k with
  | none => rw [hk] at h; exact ⟨σ, s, S, h⟩
  | some o =>
    rw [hk] at h
    simp only [commA] at h
    cases hd : asDs o.cells with
    | none => rw [hd] at h; exact ⟨σ, s, S, h⟩
    | some ds =>
      rw [hd] at h
      obtain ⟨σ', S'⟩ := S.comm hk hd
      exact ⟨σ', _, S', h⟩
def commL (s : St) : List Operand → (St → Prop) → Prop
  | [], K => K s
  | x :: r, K => commOne s (s.ev x) fun s' => commL s' r K
theorem commOne_sound {C : Ctx} {σ : Mem} {G : Gh} {s : St} {a : Act} {w : World} (S : Stands C σ G s a w) {x : T} {K : St → Prop} (h : commOne s x K) : ∃ σ' s', Stands C σ' G s' a w ∧ K s' := by
  cases x with
  | gs k => exact commG_sound S h
  | d _ => exact ⟨σ, s, S, h⟩
  | ptr _ _ => exact ⟨σ, s, S, h⟩
  | ipr _ _ => exact commG_sound S h
theorem commL_sound {C : Ctx} {G : Gh} {a : Act} {w : World} : ∀ (l : List Operand) {σ : Mem} {s : St} {K : St → Prop}, Stands C σ G s a w → commL s l K → ∃ σ' s', Stands C σ' G s' a w ∧ K s'
  | [], σ, s, _, S, h => ⟨σ, s, S, h⟩
  | _ :: r, _, _, _, S, h => by
    simp only [commL] at h
    obtain ⟨σ1, s1, S1, h1⟩ := commOne_sound S h
    exact commL_sound r S1 h1
/-- What a slot was moved from. -/
def lookA : List (Nat × Operand) → Operand → Operand
  | [], x => x
  | (d, y) :: r, .tmp t => if t = d then y else lookA r (.tmp t)
  | _ :: _, x => x
def tmpsA (env : List (Nat × Operand)) : List Operand → List Operand
  | [] => []
  | .tmp t :: r => lookA env (.tmp t) :: tmpsA env r
  | _ :: r => tmpsA env r
/-- What a region's calls are handed. -/
def callArgs (env : List (Nat × Operand)) : List Oper → List Operand
  | [] => []
  | ⟨d, op, _, _, _, _⟩ :: r => match op with
    | .move x => match d with
      | some d => callArgs ((d, x) :: env) r
      | none => callArgs env r
    | .call { callee := .value (.func g), args, .. } => if isP g then callArgs env r else tmpsA env args.toList ++ callArgs env r
    | .call { callee := .value _, args, .. } => tmpsA env args.toList ++ callArgs env r
    | _ => callArgs env r
end Go.Enc
