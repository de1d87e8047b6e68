/-
  make, literals of slices.
-/
import Derived.Test.YtjlibljfpkmpfaaDoorMem4
import Derived.Laws.MakeOwn
namespace Go.Enc
open Go.RowKit

def allEq (z : Value) : List Value → Bool := fun l => l.all fun u => match u, z with
  | .int k a, .int k' b => k == k' && a == b
  | .float k a, .float k' b => k == k' && a == b
  | _, _ => false
theorem allEq_spec {z : Value} {l : List Value} (h : allEq z l = true) : ∀ u ∈ l, u = z := by
  intro u hu
  have := List.all_eq_true.1 h u hu
  split at this <;> simp_all

section
variable {C : Ctx} {σ : Mem} {G : Gh} {s : St} {a : Act} {w : World}

theorem RepTU_of_all {c : T} : ∀ {n : Nat} {us : List Value}, us.length = n → (∀ u ∈ us, u.oneCell' = true ∧ RepT σ G c u) → RepTU σ G (List.replicate n c) us
  | 0, us, h, _ => by have : us = [] := List.eq_nil_of_length_eq_zero h; subst this; simp [RepTU]
  | n + 1, [], h, _ => by simp at h
  | n + 1, u :: us, h, hu => by
    rw [List.replicate_succ]
    exact ⟨u, us, rfl, (hu u (by simp)).1, (hu u (by simp)).2, RepTU_of_all (by simpa using h) (fun v hv => hu v (by simp [hv]))⟩

theorem zeros_mem {zs : Array Value} (h0 : 0 < zs.size) {n : Nat} : ∀ u ∈ ((Array.range n).map (fun i => zs[i % zs.size]!)).toList, u ∈ zs.toList := by
  intro u hu
  simp only [Array.toList_map, List.mem_map] at hu
  obtain ⟨i, _, rfl⟩ := hu
  have : i % zs.size < zs.size := Nat.mod_lt _ h0
  rw [getElem!_pos zs (i % zs.size) this]
  exact Array.getElem_mem_toList this

/-- make([]T, n). -/
theorem Stands.make (S : Stands C σ G s a w) {t : TypeId} {e : TypeId} {size bytes : Nat} {zs : List Value} {z : Value} (ht : slT C.P t = some (e, size, bytes, zs)) (hz : allEq z zs = true)
    {n : Nat} (hn : n * bytes ≤ 281474976710656) (hm : n ≤ maxLen) {k : Nat} (hk : s.h k = none) :
    ∃ v w', (Instr.makeSlice t (.int .i64 n) (.int .i64 n)).run C.P w = .ok v w' ∧
      Stands C σ (upd G k (v.ownBlock, v)) (s.new k ⟨some (e, size, false), List.replicate (n * size) (.d (.v z))⟩) a w' := by
  obtain ⟨i, zv, t1, t2, t3, t4, t5, t6, t7, t8, t9⟩ := slT_spec ht
  have hfz : 0 < zv.cells.size := by rw [t7]; exact t8
  have hr := run_make (P := C.P) w t e i zv t1 t2 t3 .i64 .i64 n n (by omega) (Int.le_refl _) (by
    rw [t5]
    have h : ((n * bytes : Nat) : Int) ≤ 281474976710656 := by omega
    rw [Int.natCast_mul, Int.mul_comm] at h
    exact h) (by simp only [maxLen] at hm; omega)
  simp only [Int.toNat_natCast, t4, madeCells] at hr
  refine ⟨_, _, hr, ?_⟩
  refine S.fresh hk (row := none) (World.grownBy_alloc w _ none) (by simp) ?_ (fun c hc j hj => by rw [List.eq_of_mem_replicate hc] at hj; simp [T.ref] at hj) (fun b hb => .inl (by simp only [Value.ownBlock, Option.some.injEq] at hb; omega))
  simp only [ObjIs, upd_same]
  have hlen : ((Array.range (n * size)).map (zv.cells[· % zv.cells.size]!)).toList.length = n * size := by simp
  refine ⟨n, ((Array.range (n * size)).map (zv.cells[· % zv.cells.size]!)).toList, ⟨hlen, .inr ⟨w.heap.size, n, _, rfl, S.size, heap_alloc_new w _, Nat.le_refl _, hm, by simp, ?_⟩⟩, RepTU_of_all hlen ?_, trivial, by simp⟩
  · rw [List.take_of_length_le (by simp)]
  · intro u hu
    have h1 := zeros_mem hfz u hu
    rw [t6] at h1
    exact ⟨t9 u h1, by simp only [RepT, Rep]; exact allEq_spec hz u h1⟩

/-- A literal of a slice. -/
theorem Stands.lit (S : Stands C σ G s a w) {t : TypeId} {e : TypeId} {size bytes : Nat} {zs : List Value} (ht : slT C.P t = some (e, size, bytes, zs))
    {len : Nat} (hpos : 0 < len) (hlen : len * size ≤ 16777216) {parts : List (Nat × T)} {vs : List (Nat × Value)} (hp : RepP σ G parts vs) (hpl : ∀ p ∈ parts, ∀ j, p.2.ref = some j → s.h j ≠ none)
    {cells : List T} (hf : fillT (fun i => some (i * size, size)) (List.replicate (len * size) (.d .any)) parts = some cells) {k : Nat} (hk : s.h k = none) :
    ∃ v w', (Instr.buildSlice t len vs.toArray).run C.P w = .ok v w' ∧
      Stands C σ (upd G k (v.ownBlock, v)) (s.new k ⟨some (e, size, false), cells⟩) a w' := by
  obtain ⟨i, zv, t1, t2, t3, t4, t5, t6, t7, t8, t9⟩ := slT_spec ht
  have hfz : 0 < zv.cells.size := by rw [t7]; exact t8
  have hmany : ¬ (16777216 < len * size) := by omega
  have init : ∀ (arr : Array Value), arr = (Array.range (len * size)).map (zv.cells[· % zv.cells.size]!) → RepTU σ G (List.replicate (len * size) (.d .any)) arr.toList := fun arr e => by
    subst e
    exact RepTU_of_all (by simp) (fun u hu => ⟨t9 u (by rw [← t6]; exact zeros_mem hfz u hu), by simp [RepT, Rep]⟩)
  obtain ⟨arr, f1, f2, f3, f4⟩ := fillT_sound S hf (init _ rfl) (fun c hc j hj => by rw [List.eq_of_mem_replicate hc] at hj; simp [T.ref] at hj) hp hpl
  have hal : arr.size = len * size := by
    have := f2.length
    rw [f3] at this
    simpa using this
  refine ⟨.slice (some ⟨w.heap.size, 0, none⟩) len len, w.alloc (.cells arr e), ?_, ?_⟩
  · have hz0 : ¬ (len * size = 0) := fun h => by rcases Nat.mul_eq_zero.1 h with h | h <;> omega
    have hsz := run_szT (w := w) (show szT C.P e = some size by simp [szT, t2, t4])
    have hzv : (zeroValue e).run C.P w = .ok zv w := by simp [zeroValue, typeInfo, t2, t3]
    simp only [Instr.buildSlice, Sem.run_bind, run_underlying t1, Result.andThen_ok, hsz]
    rw [if_neg (by simpa using hmany)]
    simp only [hz0, if_false, Sem.run_bind, Sem.run_pure, Result.andThen_ok, hzv, f1]
    simp [newRow]
  · refine S.fresh hk (row := none) (World.grownBy_alloc w _ none) (by simp) ?_ f4 (fun b hb => .inl (by simp only [Value.ownBlock, Option.some.injEq] at hb; omega))
    simp only [ObjIs, upd_same]
    refine ⟨len, arr.toList, ⟨by simpa using hal, .inr ⟨w.heap.size, len, arr, rfl, S.size, heap_alloc_new w _, Nat.le_refl _, ?_, hal, ?_⟩⟩, f2.regh (upd_upd_live hk f4), trivial, by simp⟩
    · have : len ≤ len * size := Nat.le_mul_of_pos_right _ t8
      simp only [maxLen]; omega
    · rw [List.take_of_length_le (by simp [hal])]
end
end Go.Enc
