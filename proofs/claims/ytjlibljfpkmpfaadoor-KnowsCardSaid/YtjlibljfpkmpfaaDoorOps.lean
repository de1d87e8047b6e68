/-
  What the operations that only read yield, as data; that the machine yields just that.
-/
import Derived.Test.YtjlibljfpkmpfaaDoorState
namespace Go.Enc
open Go.RowKit

def szT (P : Program) (t : TypeId) : Option Nat := (P.info? t).map (·.size)
def agT (P : Program) (t : TypeId) : Option Bool := (P.underlying t).map fun | .struct _ => true | .array _ _ => true | _ => false
def fldT (P : Program) (t : TypeId) (f : Nat) : Option Nat :=
  match P.underlying t with
  | some (.struct fs) => match fs[f]? with
    | some fl => match szT P fl.type with
      | some (_ + 1) => some fl.offset
      | _ => none
    | none => none
  | _ => none
def elT (P : Program) (t : TypeId) : Option Nat :=
  match P.underlying t with
  | some (.slice e) => match szT P e with
    | some (n + 1) => some (n + 1)
    | _ => none
  | _ => none
def arT (P : Program) (t : TypeId) : Option Nat :=
  match P.underlying t with
  | some (.array n e) => match szT P e, agT P e with
    | some 1, some false => some n
    | _, _ => none
  | _ => none

section
variable {P : Program} {w : World}
theorem run_szT {t : TypeId} {n : Nat} (h : szT P t = some n) : (sizeOf t).run P w = .ok n w := by
  simp only [szT, Option.map_eq_some_iff] at h
  obtain ⟨i, h1, rfl⟩ := h
  simp [sizeOf, typeInfo, h1]
theorem run_agT {t : TypeId} {b : Bool} (h : agT P t = some b) : (isAgg t).run P w = .ok b w := by
  simp only [agT, Option.map_eq_some_iff] at h
  obtain ⟨i, h1, rfl⟩ := h
  cases i <;> simp [isAgg, run_underlying h1]
end

/-- What a load of a type yields at an address. -/
def loadT (P : Program) (E : Nat → Option Value) (h : Nat → Option Obj) (t : TypeId) : T → Option T
  | .ptr k off => match h k with
    | none => none
    | some o => match agT P t with
      | some false => o.cells[off]?
      | some true => match szT P t with
        | some n => if off + n ≤ o.cells.length then (asDs ((o.cells.drop off).take n)).map fun ds => .d (.agg ds) else none
        | none => none
      | none => none
  | .d (.pd cells off) => match agT P t with
      | some false => cells[off]?.map .d
      | some true => match szT P t with
        | some n => if off + n ≤ cells.length then some (.d (.agg ((cells.drop off).take n))) else none
        | none => none
      | none => none
  | .d (.v (.pointer (some ⟨g, 0, none⟩))) => match agT P t with
      | some false => (E g).map fun u => .d (.v u)
      | _ => none
  | _ => none

section
variable {C : Ctx} {σ : Mem} {G : Gh} {s : St} {a : Act} {w : World}

/-- The block behind a key that is pointed to. -/
theorem Stands.row (S : Stands C σ G s a w) {k : Nat} {o : Obj} (ho : s.h k = some o) {b : Nat} (hb : (G k).1 = some b) :
    C.base ≤ b ∧ ∃ cur ty us, w.heap[b]? = some (.cells cur ty (0, 0)) ∧ RepTU σ G o.cells us ∧ ∃ sp, cur.toList = us ++ sp := by
  have H := S.obj k o ho
  unfold ObjIs at H
  split at H
  · obtain ⟨b', us, ty, h1, h2, h3, h4, _⟩ := H
    rw [h1] at hb; cases hb
    exact ⟨h2, us, ty, us.toList, h3, h4, [], by simp⟩
  · rename_i e size nn _
    obtain ⟨n, us, h1, h2, h3, _⟩ := H
    rw [h3] at hb
    obtain ⟨hx, hor⟩ := h1
    rcases hor with ⟨hn, _⟩ | ⟨g, cap, cur, hv, hg, hh, hnc, hcm, hcs, htk⟩
    · rw [hn] at hb; simp [Value.ownBlock] at hb
    · rw [hv] at hb
      simp only [Value.ownBlock, Option.some.injEq] at hb
      subst hb
      refine ⟨hg, cur, _, us, hh, h2, cur.toList.drop (n * size), ?_⟩
      rw [← htk, List.take_append_drop]

theorem Stands.cellPtr (S : Stands C σ G s a w) {k : Nat} {o : Obj} (ho : s.h k = some o) {b : Nat} (hb : (G k).1 = some b) {i : Nat} {c : T} (hc : o.cells[i]? = some c) :
    ∃ u, w.cell? ⟨b, i, none⟩ = some u ∧ u.oneCell' = true ∧ RepT σ G c u := by
  obtain ⟨_, cur, ty, us, h1, h2, sp, h3⟩ := S.row ho hb
  obtain ⟨u, h4, h5, h6⟩ := h2.get i c hc
  refine ⟨u, ?_, h5, h6⟩
  rw [cell_of_row w b i cur ty (0, 0) h1, ← Array.getElem?_toList, h3, List.getElem?_append_left (by
    rcases Nat.lt_or_ge i us.length with h | h
    · exact h
    · simp [List.getElem?_eq_none h] at h4)]
  exact h4

theorem addr_add (b o i : Nat) : (⟨b, o, none⟩ : Addr).add i = ⟨b, o + i, none⟩ := by
  unfold Addr.add; split <;> simp_all

theorem run_load_one {P : Program} {w : World} {t : TypeId} {b o : Nat} {u : Value} (ht : agT P t = some false) (hc : w.cell? ⟨b, o, none⟩ = some u) :
    (Instr.loadAt t (.pointer (some ⟨b, o, none⟩))).run P w = .ok u w := by
  simp [Instr.loadAt, Instr.sureAddr, loadVar, run_agT ht, hc]
theorem run_load_many {P : Program} {w : World} {t : TypeId} {b o : Nat} {us : List Value} (ht : agT P t = some true) (hn : szT P t = some us.length)
    (hc : ∀ i u, us[i]? = some u → w.cell? ⟨b, o + i, none⟩ = some u) :
    (Instr.loadAt t (.pointer (some ⟨b, o, none⟩))).run P w = .ok (.agg us.toArray) w := by
  have := run_loadCells_list (P := P) w ⟨b, o, none⟩ us (fun j v hj => by rw [addr_add]; exact hc j v hj)
  simp [Instr.loadAt, Instr.sureAddr, loadVar, run_agT ht, run_szT hn, this]

theorem loadT_sound (S : Stands C σ G s a w) {t : TypeId} {x r : T} (h : loadT C.P C.E s.h t x = some r) {u : Value} (hu : RepT σ G x u) :
    ∃ v, (Instr.loadAt t u).run C.P w = .ok v w ∧ RepT σ G r v ∧ ∀ k, r.ref = some k → s.h k ≠ none := by
  unfold loadT at h
  split at h
  · rename_i k off
    obtain ⟨b, hb, rfl⟩ := hu
    split at h
    · cases h
    · rename_i o ho
      split at h
      · rename_i ht
        obtain ⟨v, h1, h2, h3⟩ := S.cellPtr ho hb h
        exact ⟨v, run_load_one ht h1, h3, S.deep k o ho r (List.mem_of_getElem? h)⟩
      · rename_i ht
        split at h
        · rename_i n hn
          split at h
          · rename_i hle
            simp only [Option.map_eq_some_iff] at h
            obtain ⟨ds, hds, rfl⟩ := h
            obtain ⟨_, cur, ty, us, h1, h2, sp, h3⟩ := S.row ho hb
            have hl := h2.length
            have h4 := ((h2.drop off).take n).data hds
            have h5 : ((us.drop off).take n).length = n := by simp [hl]; omega
            refine ⟨_, run_load_many (us := (us.drop off).take n) ht (by rw [h5]; exact hn) (fun i u hi => ?_), ?_, ?_⟩
            · rw [cell_of_row w b (off + i) cur ty (0, 0) h1, ← Array.getElem?_toList, h3]
              rw [List.getElem?_take] at hi
              split at hi
              · rw [List.getElem?_drop] at hi
                rw [List.getElem?_append_left (by
                  rcases Nat.lt_or_ge (off + i) us.length with h | h
                  · exact h
                  · simp [List.getElem?_eq_none h] at hi)]
                exact hi
              · cases hi
            · simp only [RepT, Rep]; exact ⟨_, rfl, by simpa using h4⟩
            · simp [T.ref]
          · cases h
        · cases h
      · cases h
  · rename_i cells off
    simp only [RepT, Rep] at hu
    obtain ⟨b, o, rfl, hc⟩ := hu
    split at h
    · rename_i ht
      simp only [Option.map_eq_some_iff] at h
      obtain ⟨d, hd, rfl⟩ := h
      obtain ⟨v, h1, h2, h3⟩ := hc.get off d hd
      exact ⟨v, run_load_one ht (S.inv _ _ _ h1), h3, by simp [T.ref]⟩
    · rename_i ht
      split at h
      · rename_i n hn
        split at h
        · rename_i hle
          cases h
          obtain ⟨us, h1, h2⟩ := ((hc.drop off).take n).values
          have hl := h1.length
          have hlen : us.length = n := by rw [hl]; simp; omega
          refine ⟨_, run_load_many (us := us) ht (by rw [hlen]; exact hn) (fun i u hi => S.inv _ _ _ (h2 i u hi)), ?_, ?_⟩
          · simp only [RepT, Rep]; exact ⟨_, rfl, by simpa using h1⟩
          · simp [T.ref]
        · cases h
      · cases h
    · cases h
  · rename_i g
    simp only [RepT, Rep] at hu
    subst hu
    split at h
    · rename_i ht
      simp only [Option.map_eq_some_iff] at h
      obtain ⟨v, hv, rfl⟩ := h
      exact ⟨v, run_load_one ht (S.inv _ _ _ (S.le _ _ _ (S.glob _ _ hv))), by simp [RepT, Rep], by simp [T.ref]⟩
    · cases h
  · cases h
end
end Go.Enc
