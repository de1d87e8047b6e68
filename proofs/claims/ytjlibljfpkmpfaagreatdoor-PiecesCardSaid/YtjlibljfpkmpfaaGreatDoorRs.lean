/-
  How long a script's lists of floats are: the form's reach bounds each.
-/
import Derived.Test.YtjlibljfpkmpfaaGreatDoorScr
import Derived.HandedShaped
set_option linter.unusedSimpArgs false
set_option maxRecDepth 100000
namespace Go.Enc
open Go.Proofs Go.RowKit Go.ChangeShapes Go.Deep

section
variable {H : Type} {enc : TypeId × Value → H} {P : Program} {w : World} {held : Bool} {sp : Nat → Bool}
/-- A slice that is handed reads as a list; its elements' data are told. -/
theorem read_slice_d {α : Type} (f : α → List D) (ok : α → DataW H → Prop) {t e : TypeId} (n : Nat) (hn : 0 < n) (hlen : ∀ x, (f x).length = n) (ht : P.underlying t = some (.slice e)) (hc : P.cellsOf e = n)
    (hel : ∀ (fuel : Nat) (cs : List Value) x, DataW.trod enc P w 0 sp held fuel e cs = some x → ∃ y : α, ok y x.1 ∧ RepU (fun b o => w.cell? ⟨b, o, none⟩) (f y) cs)
    {fuel : Nat} {cs : List Value} {x : DataW H × List MemPlace} (h : DataW.trod enc P w 0 sp held fuel t cs = some x) :
    ∃ (v : Value) (l : List α), cs = [v] ∧ v.oneCell' = true ∧ Rep (fun b o => w.cell? ⟨b, o, none⟩) (.sl n (l.flatMap f)) v ∧ l.length ≤ maxLen ∧
      ((l = [] ∧ x.1 = .nil) ∨ ∃ es s, x.1 = .slice es s ∧ es.length = l.length ∧ ∀ (i : Nat) y, l[i]? = some y → ∃ d, es[i]? = some d ∧ ok y d) := by
  rcases open_slice ht h with ⟨hcs, hx⟩ | ⟨a, len, cap, m, k, D', Pl, hcs, hb, hle, hcm, hm, hx, hi⟩
  · exact ⟨_, [], hcs, rfl, by simp [Rep], by simp, .inl ⟨rfl, by rw [hx]⟩⟩
  · have hlm : len ≤ m := by rw [hm]; split <;> omega
    by_cases h0 : len = 0
    · subst h0
      refine ⟨_, [], hcs, rfl, by simp only [Rep]; exact .inr (.inr ⟨a, cap, rfl, by simp, hcm⟩), by simp, .inr ⟨_, _, by rw [hx], by simp, fun i y hy => by simp at hy⟩⟩
    have hspot : a.spot = none := by
      obtain ⟨cs', h1, _⟩ := hi 0 (by omega)
      rw [hc] at h1
      obtain ⟨_, _, h3⟩ := World.cells?_some h1
      have := h3 0 (by omega)
      simp only [Nat.zero_mul, Addr.add, if_true] at this
      cases hs : a.spot with
      | none => rfl
      | some q =>
        exfalso
        have hcl : cs'.length = n := (World.cells?_some h1).2.1
        have : ∃ z, w.cell? a = some z := by
          cases hz : cs'[0]? with
          | none => rw [List.getElem?_eq_none_iff] at hz; omega
          | some z => exact ⟨z, by rw [this, hz]⟩
        obtain ⟨z, hz⟩ := this
        simp only [World.cell?] at hz
        split at hz
        · rw [hs] at hz; simp at hz
        · cases hz
    obtain ⟨bl, off, spt⟩ := a
    simp only at hspot
    subst hspot
    obtain ⟨l, hl, hR⟩ := choose_list (R := fun i (y : α) => ok y (D' i) ∧ RepC (fun b o => w.cell? ⟨b, o, none⟩) (f y) bl (off + i * n)) len fun i hil => by
      obtain ⟨cs', h1, h2⟩ := hi i (by omega)
      obtain ⟨y, hy, hr⟩ := hel _ _ _ h2
      refine ⟨y, hy, RepC.of_values hr fun j u hj => ?_⟩
      rw [hc] at h1
      obtain ⟨_, h4, h3⟩ := World.cells?_some h1
      have hjn : j < n := by
        rcases Nat.lt_or_ge j n with h | h
        · exact h
        · rw [List.getElem?_eq_none (by omega)] at hj; cases hj
      have := h3 j hjn
      rw [hj] at this
      rw [← this]
      congr 1
      by_cases hz : i * n = 0
      · by_cases hj0 : j = 0
        · simp [Addr.add, hz, hj0]
        · simp [Addr.add, hz, hj0]
      · by_cases hj0 : j = 0
        · simp [Addr.add, hz, hj0]
        · simp [Addr.add, hz, hj0]
    refine ⟨_, l, hcs, rfl, ?_, by omega, .inr ⟨_, _, by rw [hx], by simp [hl], fun i y hy => ?_⟩⟩
    · simp only [Rep]
      refine .inr (.inl ⟨bl, off, len, cap, rfl, ?_, hle, hcm, repC_rows f n hlen l _ _ fun i y hy => (hR i y hy).2⟩)
      rw [← hl]
      clear hR hl
      induction l with
      | nil => simp
      | cons y l ih => simp only [List.flatMap_cons, List.length_append, hlen, ih, List.length_cons, Nat.add_mul]; omega
    · have hil : i < len := by
        rw [← hl]
        rcases Nat.lt_or_ge i l.length with h | h
        · exact h
        · rw [List.getElem?_eq_none h] at hy; cases hy
      exact ⟨D' i, by simp [hil], (hR i y hy).1⟩
/-- A weight of a part is a weight of the whole. -/
theorem weightsEach_mem : ∀ {ts : List TypeId} {ds : List (DataW H)} {i : Nat} {t : TypeId} {d : DataW H} {n : Nat}, ts[i]? = some t → ds[i]? = some d → n ∈ d.weights P t → n ∈ DataW.weightsEach P ts ds
  | [], _, _, _, _, _, h, _, _ => by simp at h
  | _ :: _, [], _, _, _, _, _, h, _ => by simp at h
  | t' :: ts, d' :: ds, 0, t, d, n, h1, h2, h3 => by
    simp only [List.getElem?_cons_zero, Option.some.injEq] at h1 h2
    subst h1 h2
    unfold DataW.weightsEach
    exact List.mem_append_left _ h3
  | t' :: ts, d' :: ds, i + 1, t, d, n, h1, h2, h3 => by
    simp only [List.getElem?_cons_succ] at h1 h2
    unfold DataW.weightsEach
    exact List.mem_append_right _ (weightsEach_mem h1 h2 h3)
theorem weightsAll_mem {e : TypeId} : ∀ {ds : List (DataW H)} {i : Nat} {d : DataW H} {n : Nat}, ds[i]? = some d → n ∈ d.weights P e → n ∈ DataW.weightsAll P e ds
  | [], _, _, _, h, _ => by simp at h
  | d' :: ds, 0, d, n, h2, h3 => by
    simp only [List.getElem?_cons_zero, Option.some.injEq] at h2
    subst h2
    unfold DataW.weightsAll
    exact List.mem_append_left _ h3
  | d' :: ds, i + 1, d, n, h2, h3 => by
    simp only [List.getElem?_cons_succ] at h2
    unfold DataW.weightsAll
    exact List.mem_append_right _ (weightsAll_mem h2 h3)
end
section
variable {H : Type} {enc : TypeId × Value → H} {w : World} {held : Bool} {sp : Nat → Bool}
theorem bytes25 : Tryz.prog.bytesOf 25 = 8 := by kernel_rfl
/-- The data of a step tell how long its list is. -/
def LenTold (o : OpD) (d : DataW H) : Prop := o.p.length = 0 ∨ ∃ n ∈ d.weights Tryz.prog 30, o.p.length * 8 ≤ n
theorem read_op_d {fuel : Nat} {cs : List Value} {x : DataW H × List MemPlace} (h : DataW.trod enc Tryz.prog w 0 sp held fuel 30 cs = some x) :
    ∃ o : OpD, (o.Wf ∧ LenTold o x.1) ∧ RepU (fun b o => w.cell? ⟨b, o, none⟩) o.cells cs := by
  obtain ⟨xs, n, _, hx, hl, hlen, hf⟩ := DataW.trod_struct Tryz.underlying30 h
  rw [cells30] at hl
  obtain ⟨c0, c1, c2, c3, c4, c5, c6, c7, c8, rfl⟩ := list9 hl
  have get : ∀ i, i < 7 → ∃ y, xs[i]? = some y := fun i hi => ⟨xs[i]'(by rw [hlen]; exact hi), by simp [hlen, hi]⟩
  obtain ⟨y0, g0⟩ := get 0 (by decide)
  obtain ⟨y1, g1⟩ := get 1 (by decide)
  obtain ⟨y2, g2⟩ := get 2 (by decide)
  obtain ⟨y3, g3⟩ := get 3 (by decide)
  obtain ⟨y4, g4⟩ := get 4 (by decide)
  obtain ⟨y5, g5⟩ := get 5 (by decide)
  obtain ⟨y6, g6⟩ := get 6 (by decide)
  have f0 := (hf 0 _ rfl).trans g0
  have f1 := (hf 1 _ rfl).trans g1
  have f2 := (hf 2 _ rfl).trans g2
  have f3 := (hf 3 _ rfl).trans g3
  have f4 := (hf 4 _ rfl).trans g4
  have f5 := (hf 5 _ rfl).trans g5
  have f6 := (hf 6 _ rfl).trans g6
  simp only [List.getElem_toArray, List.getElem_cons_zero, List.getElem_cons_succ] at f0 f1 f2 f3 f4 f5 f6
  rw [cells3] at f0 f1 f2
  rw [cells9] at f3
  rw [cells27] at f4 f5
  rw [cells28] at f6
  obtain ⟨k, hk, e0⟩ := read_i64 Tryz.underlying3 f0
  obtain ⟨a, ha, e1⟩ := read_i64 Tryz.underlying3 f1
  obtain ⟨b, hb, e2⟩ := read_i64 Tryz.underlying3 f2
  obtain ⟨s, e3, _, hs⟩ := DataW.trod_string Tryz.underlying9 f3
  obtain ⟨xl, xh, hxl, hxh, e4⟩ := read_box f4
  obtain ⟨yl, yh, hyl, hyh, e5⟩ := read_box f5
  obtain ⟨v, p, e6, ho, hr, hpl, hd⟩ := read_slice_d (fun n => [uD n]) (fun n _ => U64 n) 1 (by decide) (fun _ => rfl) Tryz.underlying28 cells25 (fun fuel cs x h => by
    obtain ⟨n, hn, rfl⟩ := read_u64 Tryz.underlying25 h
    refine ⟨n, hn, ?_⟩
    simp only [RepU]
    exact ⟨_, _, rfl, rfl, by simp only [uD, Rep], rfl⟩) f6
  have hp : ∀ n ∈ p, U64 n := fun n hn => by
    obtain ⟨i, hi⟩ := List.getElem?_of_mem hn
    rcases hd with ⟨h0, _⟩ | ⟨es, s', _, _, h2⟩
    · rw [h0] at hi; simp at hi
    · obtain ⟨_, _, h3⟩ := h2 i n hi
      exact h3
  rw [flat_map1] at hr
  simp at e0 e1 e2 e3 e4 e5 e6
  obtain ⟨e4, e4'⟩ := e4
  obtain ⟨e5, e5'⟩ := e5
  refine ⟨⟨k, a, b, s, xl, xh, yl, yh, p⟩, ⟨⟨hk, ha, hb, hs, hxl, hxh, hyl, hyh, hp, hpl⟩, ?_⟩, ?_⟩
  · rcases hd with ⟨h0, _⟩ | ⟨es, s', h1, h2, _⟩
    · left; rw [h0]; rfl
    · right
      refine ⟨(es.length + s'.length) * 8, ?_, ?_⟩
      · rw [hx]
        have hw : (es.length + s'.length) * 8 ∈ y6.1.weights Tryz.prog 28 := by
          rw [h1]
          unfold DataW.weights
          rw [Tryz.underlying28]
          show _ ∈ (es.length + s'.length) * Tryz.prog.bytesOf 25 :: _
          rw [bytes25]
          exact List.mem_cons_self
        show _ ∈ (DataW.agg (xs.map (·.1))).weights Tryz.prog 30
        unfold DataW.weights
        rw [Tryz.underlying30]
        exact weightsEach_mem (i := 6) rfl (by rw [List.getElem?_map, g6]; rfl) hw
      · show p.length * 8 ≤ _
        rw [← h2]
        exact Nat.mul_le_mul_right _ (Nat.le_add_right _ _)
  · rw [e0, e1, e2, e3, e4, e4', e5, e5', e6]
    simp only [OpD.cells, RepU]
    refine ⟨_, _, rfl, rfl, by simp only [iD, Rep], _, _, rfl, rfl, by simp only [iD, Rep], _, _, rfl, rfl, by simp only [iD, Rep], _, _, rfl, rfl, by simp only [Rep], _, _, rfl, rfl, by simp only [uD, Rep], _, _, rfl, rfl, by simp only [uD, Rep], _, _, rfl, rfl, by simp only [uD, Rep],
      _, _, rfl, rfl, by simp only [uD, Rep], _, _, rfl, ho, hr, rfl⟩
theorem read_script_d {v : Value} {d : DataW H} {ps : List MemPlace} (hv : ∃ a l c, v = .slice a l c) (h : DataW.Trod enc Tryz.prog w 0 sp held 22 v d ps) (hw : ∀ n ∈ d.weights Tryz.prog 22, n ≤ reachBytes) :
    ∃ ops : List OpD, (∀ o ∈ ops, o.Wf ∧ o.p.length * 8 ≤ reachBytes) ∧ ops.length ≤ maxLen ∧ Rep (fun b o => w.cell? ⟨b, o, none⟩) (.sl 9 (ops.flatMap OpD.cells)) v := by
  obtain ⟨fuel, h⟩ := h
  obtain ⟨u, l, e, ho, hr, hl, hd⟩ := read_slice_d OpD.cells (fun o d => o.Wf ∧ LenTold o d) 9 (by decide) (fun _ => rfl) Tryz.underlying22 cells30 (fun fuel cs x h => read_op_d h) h
  refine ⟨l, fun o hm => ?_, hl, ?_⟩
  · obtain ⟨i, hi⟩ := List.getElem?_of_mem hm
    rcases hd with ⟨h0, _⟩ | ⟨es, s', h1, h2, h3⟩
    · rw [h0] at hi; simp at hi
    · obtain ⟨d', h4, h5, h6⟩ := h3 i o hi
      refine ⟨h5, ?_⟩
      rcases h6 with h6 | ⟨n, h6, h7⟩
      · rw [h6]; exact Nat.zero_le _
      · refine Nat.le_trans h7 (hw n ?_)
        simp only at h1
        rw [h1]
        unfold DataW.weights
        rw [Tryz.underlying22]
        exact List.mem_cons_of_mem _ (List.mem_append_left _ (weightsAll_mem h4 h6))
  · obtain ⟨x, y, z, rfl⟩ := hv
    have hv : Value.slice x y z = u := by simpa [Value.cells] using e
    rw [hv]
    exact hr
end
end Go.Enc
