/-
  make, literals of slices, append.
-/
import Derived.Test.YtjlibljfpkmpfaaDoorMem3
namespace Go.Enc
open Go.RowKit

/-- Of a slice's type: its element's type, cells and bytes an element, the zero element's cells. -/
def slT (P : Program) (t : TypeId) : Option (TypeId × Nat × Nat × List Value) :=
  match P.underlying t with
  | some (.slice e) => match P.info? e with
    | some i => match i.zero with
      | some z => if z.cells.toList.all Value.oneCell' && z.cells.size == i.size && i.size != 0 then some (e, i.size, i.bytes, z.cells.toList) else none
      | none => none
    | none => none
  | _ => none

section
variable {C : Ctx} {σ : Mem} {G : Gh} {s : St} {a : Act} {w : World}

theorem slT_spec {P : Program} {t e : TypeId} {size bytes : Nat} {zs : List Value} (h : slT P t = some (e, size, bytes, zs)) :
    ∃ i z, P.underlying t = some (.slice e) ∧ P.info? e = some i ∧ i.zero = some z ∧ i.size = size ∧ i.bytes = bytes ∧ z.cells.toList = zs ∧ z.cells.size = size ∧ 0 < size ∧ ∀ u ∈ zs, u.oneCell' = true := by
  unfold slT at h
  split at h
  · rename_i e' he
    split at h
    · rename_i i hi
      split at h
      · rename_i z hz
        split at h
        · rename_i hc
          simp only [Option.some.injEq, Prod.mk.injEq] at h
          obtain ⟨rfl, rfl, rfl, rfl⟩ := h
          simp only [Bool.and_eq_true, beq_iff_eq, bne_iff_ne] at hc
          exact ⟨i, z, he, hi, hz, rfl, rfl, rfl, hc.1.2, by omega, fun u hu => (List.all_eq_true.1 hc.1.1) u hu⟩
        · cases h
      · cases h
    · cases h
  · cases h

/-- append, and where the new row lies. -/
theorem run_append_blk {P : Program} (base : Nat) (t ty e : TypeId) (i : TypeInfo) (z : Value) (size bytes : Nat) (ht : P.underlying t = some (.slice e)) (hi : P.info? e = some i) (hz : i.zero = some z)
    (hsize : i.size = size) (hby : i.bytes = bytes) (hzs : z.cells.size = size)
    (v : Value) (n : Nat) (xs : List Value) (hown : w.ownsRow base e size v n xs)
    (a : Addr) (m c : Nat) (news : List Value) (hl : news.length = m * size) (hnews : ∀ j u, news[j]? = some u → w.cell? (a.add j) = some u) (h1 : ∀ u ∈ news, u.oneCell' = true)
    (h63 : n + m ≤ maxLen) (hbytes : (n + m) * bytes ≤ 140737488355328) (hbase : base ≤ w.heap.size) :
    ∃ v' w', (Builtin.append_ #[t, t] ty #[v, .slice (some a) m c]).run P w = .ok v' w' ∧ w'.ownsRow base e size v' (n + m) (xs ++ news) ∧ w.grownBy w' v.ownBlock ∧
      (v' = .slice none 0 0 ↔ v = .slice none 0 0 ∧ m = 0) ∧ ∀ b, v'.ownBlock = some b → w.heap.size ≤ b ∨ v.ownBlock = some b := by
  subst hsize
  subst hby
  have hsmall : n + m ≤ 9223372036854775807 := by simp only [maxLen] at h63; omega
  have hlen : (xs ++ news).length = (n + m) * i.size := by rw [List.length_append, hown.1, hl, Nat.add_mul]
  have grown : ∀ (old : Nat), old < n + m → ∀ (row : Option Nat),
      (w.drew.alloc (.cells (xs.toArray ++ news.toArray ++ Builtin.zeroCells z.cells (grownCap w (n + m) old e - (n + m))) e)).ownsRow base e i.size
        (.slice (some ⟨w.heap.size, 0, none⟩) (n + m) (grownCap w (n + m) old e)) (n + m) (xs ++ news) ∧
      w.grownBy (w.drew.alloc (.cells (xs.toArray ++ news.toArray ++ Builtin.zeroCells z.cells (grownCap w (n + m) old e - (n + m))) e)) row := by
    intro old ho row
    have hge := grownCap_ge w (n + m) old e
    have hcm : grownCap w (n + m) old e ≤ maxLen := grownCap_le_maxLen w (n + m) old e h63
    refine ⟨⟨hlen, .inr ⟨w.heap.size, _, _, rfl, hbase, heap_alloc_new w.drew _, hge, hcm, ?_, ?_⟩⟩, ⟨rfl, rfl, rfl, by simp, fun k hk _ => Below.heap_alloc w.drew _ k hk⟩⟩
    · simp only [Array.size_append, List.size_toArray, size_zeroCells, hzs, hown.1, hl, ← Nat.add_mul]
      congr 1
      omega
    · simp only [Array.toList_append, List.append_assoc]
      rw [← List.append_assoc, ← hlen]
      exact List.take_left
  rcases hown.2 with ⟨rfl, rfl⟩ | ⟨g, cap, cur, rfl, hbg, hg, hnc, hcm, hcs, htake⟩
  · have hx : xs = [] := List.eq_nil_of_length_eq_zero (by simpa using hown.1)
    subst hx
    by_cases hm : m = 0
    · subst hm
      have hn : news = [] := List.eq_nil_of_length_eq_zero (by simpa using hl)
      subst hn
      refine ⟨.slice none 0 0, w, ?_, World.ownsRow_nil w base e i.size, ⟨rfl, rfl, rfl, Nat.le_refl _, fun _ _ _ => rfl⟩, by simp, by simp [Value.ownBlock]⟩
      simp [Builtin.append_, run_underlying ht, sizeOf, typeInfo, hi, Builtin.lenOf, Builtin.firstCells, loadCells, loadCellsFrom]
    · have hr := run_append_nil (P := P) w t ty e i z ht hi hz a m c news hl hnews (by omega) (by omega) (by have hb := hbytes; simp only [Nat.zero_add] at hb; omega)
      have hgr := grown 0 (by omega) (Value.ownBlock (.slice none 0 0))
      simp only [Nat.zero_add, List.nil_append, Array.empty_append] at hgr ⊢
      exact ⟨_, _, hr, hgr.1, hgr.2, by simp [hm], fun b hb => .inl (by simp only [Value.ownBlock, Option.some.injEq] at hb; omega)⟩
  · by_cases hroom : n + m ≤ cap
    · have hfit : n * i.size + news.length ≤ cur.size := by rw [hl, hcs, ← Nat.add_mul]; exact Nat.mul_le_mul_right _ hroom
      have hr := run_append_room (P := P) w t ty e i ht hi g n cap cur hg a m c news hl hnews h1 hroom hfit
      refine ⟨_, _, hr, ⟨hlen, .inr ⟨g, cap, _, rfl, hbg, setRow_heap w g cur _ e _ hg, hroom, hcm, ?_, ?_⟩⟩, ⟨rfl, rfl, rfl, by simp, fun k _ hk => setRow_other w g k _ (fun e => hk (by simp [Value.ownBlock, e]))⟩, by simp, fun b hb => .inr hb⟩
      · simp only [List.size_toArray, List.length_append, List.length_take, List.length_drop, Array.length_toList]
        omega
      · rw [htake, ← hlen]
        exact List.take_left
    · have holds : ∀ j u, xs[j]? = some u → w.cell? ((⟨g, 0, none⟩ : Addr).add j) = some u := hown.cells (g := g) rfl
      have hr := run_append_grow (P := P) w t ty e i z ht hi hz ⟨g, 0, none⟩ n cap xs hown.1 holds a m c news hl hnews (by omega) (by omega) (growslice_fits (by omega) hbytes)
      have hgr := grown cap (by omega) (Value.ownBlock (.slice (some ⟨g, 0, none⟩) n cap))
      exact ⟨_, _, hr, hgr.1, hgr.2, by simp, fun b hb => .inl (by simp only [Value.ownBlock, Option.some.injEq] at hb; omega)⟩

theorem run_append_none {P : Program} (base : Nat) (t ty e : TypeId) (i : TypeInfo) (size : Nat) (ht : P.underlying t = some (.slice e)) (hi : P.info? e = some i)
    (v : Value) (n : Nat) (xs : List Value) (hown : w.ownsRow base e size v n xs) : (Builtin.append_ #[t, t] ty #[v, .slice none 0 0]).run P w = .ok v w := by
  rcases hown.2 with ⟨rfl, rfl⟩ | ⟨g, cap, cur, rfl, hbg, hg, hnc, hcm, hcs, htake⟩
  · simp [Builtin.append_, run_underlying ht, sizeOf, typeInfo, hi, Builtin.lenOf, Builtin.firstCells]
  · simp [Builtin.append_, run_underlying ht, sizeOf, typeInfo, hi, Builtin.lenOf, Builtin.firstCells, hnc, Go.storeCells]

/-- What a slice's elements are, cell by cell, where it is the source of an append. -/
def srcT (h : Nat → Option Obj) (size : Nat) : T → Option (List T)
  | .d (.sl esz cells) => if esz = size then some (cells.map .d) else none
  | .d (.v (.slice none 0 0)) => some []
  | .gs k => match h k with
    | some ⟨some (_, esz, _), cells⟩ => if esz = size then some cells else none
    | _ => none
  | _ => none

theorem srcT_sound (S : Stands C σ G s a w) {size : Nat} {y : T} {cs : List T} (h : srcT s.h size y = some cs) {u : Value} (hu : RepT σ G y u) :
    ((u = .slice none 0 0 ∧ cs = []) ∨ ∃ p m c us, u = .slice (some p) m c ∧ us.length = m * size ∧ (∀ j v, us[j]? = some v → w.cell? (p.add j) = some v) ∧ RepTU σ G cs us) ∧ ∀ c ∈ cs, ∀ k, c.ref = some k → s.h k ≠ none := by
  unfold srcT at h
  split at h
  · rename_i esz cells
    split at h
    · rename_i he; subst he; cases h
      refine ⟨?_, fun c hc k hk => by simp only [List.mem_map] at hc; obtain ⟨d, _, rfl⟩ := hc; simp [T.ref] at hk⟩
      simp only [RepT, Rep] at hu
      rcases hu with ⟨rfl, rfl⟩ | ⟨b, o, len, cap, rfl, hlen, _, _, hcells⟩ | ⟨q, cap, rfl, rfl, _⟩
      · exact .inl ⟨rfl, rfl⟩
      · obtain ⟨us, h1, h2⟩ := hcells.values
        exact .inr ⟨_, len, cap, us, rfl, by rw [h1.length, hlen], fun j v hj => by rw [addr_add]; exact S.inv _ _ _ (h2 j v hj), RepU.asT h1⟩
      · exact .inr ⟨q, 0, cap, [], rfl, by simp, fun j v hj => by simp at hj, rfl⟩
    · cases h
  · cases h
    simp only [RepT, Rep] at hu
    exact ⟨.inl ⟨hu, rfl⟩, by simp⟩
  · rename_i k
    split at h
    · rename_i e esz nn cells ho
      split at h
      · rename_i he; subst he; cases h
        refine ⟨?_, S.deep k _ ho⟩
        have H := S.obj k _ ho
        simp only [ObjIs] at H
        obtain ⟨n, us, g1, g2, g3, g4⟩ := H
        simp only [RepT] at hu
        rcases g1.2 with ⟨hnil, hz⟩ | ⟨g, cap, cur, hval, _⟩
        · refine .inl ⟨by rw [hu, hnil], ?_⟩
          have := g2.length
          rw [g1.1, hz] at this
          exact List.eq_nil_of_length_eq_zero (by simpa using this.symm)
        · refine .inr ⟨⟨g, 0, none⟩, n, cap, us, by rw [hu, hval], g1.1, g1.cells (by rw [hval]; rfl), g2⟩
      · cases h
    · cases h
  · cases h

theorem killT_list_live {k : Nat} {cs : List T} (h : ∀ c ∈ cs, ∀ j, c.ref = some j → s.h j ≠ none) : ∀ c ∈ cs.map (killT k), ∀ j, c.ref = some j → (s.kill k).h j ≠ none := by
  intro c hc j hj
  simp only [List.mem_map] at hc
  obtain ⟨c', hc', rfl⟩ := hc
  obtain ⟨h1, h2⟩ := killT_ref hj
  have h3 := h c' hc' j h1
  simp only [St.kill, h2, if_false]
  cases h4 : s.h j with
  | none => exact absurd h4 h3
  | some o => simp

theorem upd_upd_live {G' : Gh} {k : Nat} {g : Option Nat × Value} {cs : List T} (hk : s.h k = none) (h : ∀ c ∈ cs, ∀ j, c.ref = some j → s.h j ≠ none) : ∀ c ∈ cs, ∀ j, c.ref = some j → upd G' k g j = G' j :=
  fun c hc j hj => upd_ne G' g (fun e => h c hc j hj (e ▸ hk))

/-- append onto a row of the call's own. -/
theorem Stands.appendGs (S : Stands C σ G s a w) {t ty : TypeId} {e : TypeId} {size bytes : Nat} {zs : List Value} (ht : slT C.P t = some (e, size, bytes, zs))
    {k : Nat} {nn : Bool} {cells : List T} (ho : s.h k = some ⟨some (e, size, nn), cells⟩) {y : T} {cs : List T} (hy : srcT s.h size y = some cs) {v u : Value} (hv : RepT σ G (.gs k) v) (hu : RepT σ G y u)
    (hfit : (cells.length + cs.length) / size * bytes ≤ 140737488355328) (hmax : (cells.length + cs.length) / size ≤ maxLen) {k2 : Nat} (hk2 : (s.kill k).h k2 = none) :
    ∃ v' w', (Builtin.append_ #[t, t] ty #[v, u]).run C.P w = .ok v' w' ∧
      Stands C σ (upd G k2 (v'.ownBlock, v')) ((s.kill k).new k2 ⟨some (e, size, nn), (cells ++ cs).map (killT k)⟩) a w' := by
  obtain ⟨i, z, t1, t2, t3, t4, t5, t6, t7, t8, t9⟩ := slT_spec ht
  have H := S.obj k _ ho
  simp only [ObjIs] at H
  obtain ⟨n, us, g1, g2, g3, g4⟩ := H
  simp only [RepT] at hv
  subst hv
  obtain ⟨hsrc, hsl⟩ := srcT_sound S hy hu
  have hcl : us.length = cells.length := g2.length
  have hlivek : ∀ c ∈ (cells ++ cs).map (killT k), ∀ j, c.ref = some j → (s.kill k).h j ≠ none := killT_list_live fun c hc => by
    rcases List.mem_append.1 hc with h | h
    · exact S.deep k _ ho c h
    · exact hsl c h
  have hrow : ∀ b, (G k).2.ownBlock = some b → C.base ≤ b ∧ (∀ i, σ b i = none) ∧ ∀ k' o', (s.kill k).h k' = some o' → (G k').1 ≠ some b := fun b hb => by
    refine ⟨(g1.lt b hb).1, S.own k _ b ho (by rw [g3]; exact hb), fun k' o' h' e' => ?_⟩
    simp only [St.kill] at h'
    split at h'
    · cases h'
    · rename_i hne
      simp only [Option.map_eq_some_iff] at h'
      obtain ⟨o'', h'', _⟩ := h'
      exact hne (S.sep k' k o'' _ b h'' ho e' (by rw [g3]; exact hb))
  rcases hsrc with ⟨rfl, rfl⟩ | ⟨p, m, c, us', rfl, hlen, hcell, hrep⟩
  · refine ⟨(G k).2, w, run_append_none (P := C.P) C.base t ty e i size t1 t2 _ n us g1, ?_⟩
    have hG : w.grownBy w (G k).2.ownBlock := ⟨rfl, rfl, rfl, Nat.le_refl _, fun _ _ _ => rfl⟩
    refine (S.kill k).fresh hk2 hG hrow ?_ hlivek (fun b hb => .inr hb)
    simp only [ObjIs, upd_same, List.append_nil]
    simp only [List.append_nil] at hlivek
    refine ⟨n, us, g1, g2.kill.regh (upd_upd_live hk2 hlivek), trivial, fun h1 h2 => g4 h1 (by simpa using h2)⟩
  · have hn : (cells.length + cs.length) / size = n + m := by
      rw [← hcl, g1.1, ← hrep.length, hlen, ← Nat.add_mul, Nat.mul_div_cancel _ t8]
    obtain ⟨v', w', r1, r2, r3, r4, r5⟩ := run_append_blk (P := C.P) (w := w) C.base t ty e i z size bytes t1 t2 t3 t4 t5 t7 _ n us g1 p m c us' hlen hcell hrep.one (by rw [← hn]; exact hmax) (by rw [← hn]; exact hfit) S.size
    refine ⟨v', w', r1, ?_⟩
    refine (S.kill k).fresh hk2 r3 hrow ?_ hlivek r5
    simp only [ObjIs, upd_same]
    refine ⟨n + m, us ++ us', r2, (g2.append hrep).kill.regh (upd_upd_live hk2 hlivek), trivial, fun h1 h2 => ?_⟩
    simp only [List.map_eq_nil_iff, List.append_eq_nil_iff] at h2
    refine r4.2 ⟨g4 h1 h2.1, ?_⟩
    have hz := hrep.length
    rw [hlen, h2.2] at hz
    have : m = 0 ∨ size = 0 := Nat.mul_eq_zero.1 (by simpa using hz)
    omega

/-- append onto the nil slice. -/
theorem Stands.appendNil (S : Stands C σ G s a w) {t ty : TypeId} {e : TypeId} {size bytes : Nat} {zs : List Value} (ht : slT C.P t = some (e, size, bytes, zs))
    {y : T} {cs : List T} (hy : srcT s.h size y = some cs) {u : Value} (hu : RepT σ G y u)
    (hfit : cs.length / size * bytes ≤ 140737488355328) (hmax : cs.length / size ≤ maxLen) {k2 : Nat} (hk2 : s.h k2 = none) :
    ∃ v' w', (Builtin.append_ #[t, t] ty #[.slice none 0 0, u]).run C.P w = .ok v' w' ∧
      Stands C σ (upd G k2 (v'.ownBlock, v')) (s.new k2 ⟨some (e, size, true), cs⟩) a w' := by
  obtain ⟨i, z, t1, t2, t3, t4, t5, t6, t7, t8, t9⟩ := slT_spec ht
  obtain ⟨hsrc, hsl⟩ := srcT_sound S hy hu
  have g1 := World.ownsRow_nil w C.base e size
  rcases hsrc with ⟨rfl, rfl⟩ | ⟨p, m, c, us', rfl, hlen, hcell, hrep⟩
  · refine ⟨.slice none 0 0, w, run_append_none (P := C.P) C.base t ty e i size t1 t2 _ 0 [] g1, ?_⟩
    have hG : w.grownBy w (Option.none) := ⟨rfl, rfl, rfl, Nat.le_refl _, fun _ _ _ => rfl⟩
    refine S.fresh hk2 hG (by simp) ?_ hsl (fun b hb => by simp [Value.ownBlock] at hb)
    simp only [ObjIs, upd_same]
    exact ⟨0, [], g1, rfl, trivial, fun _ _ => trivial⟩
  · have hn : cs.length / size = m := by rw [← hrep.length, hlen, Nat.mul_div_cancel _ t8]
    obtain ⟨v', w', r1, r2, r3, r4, r5⟩ := run_append_blk (P := C.P) (w := w) C.base t ty e i z size bytes t1 t2 t3 t4 t5 t7 _ 0 [] g1 p m c us' hlen hcell hrep.one (by rw [Nat.zero_add, ← hn]; exact hmax) (by rw [Nat.zero_add, ← hn]; exact hfit) S.size
    refine ⟨v', w', r1, ?_⟩
    refine S.fresh hk2 r3 (by simp [Value.ownBlock]) ?_ hsl (fun b hb => by simpa [Value.ownBlock] using r5 b hb)
    simp only [ObjIs, upd_same]
    simp only [Nat.zero_add, List.nil_append] at r2
    refine ⟨m, us', r2, hrep.regh (upd_upd_live hk2 hsl), trivial, fun h1 h2 => r4.2 ⟨rfl, ?_⟩⟩
    have hz := hrep.length
    rw [hlen, h2] at hz
    have : m = 0 ∨ size = 0 := Nat.mul_eq_zero.1 (by simpa using hz)
    omega
end
end Go.Enc
