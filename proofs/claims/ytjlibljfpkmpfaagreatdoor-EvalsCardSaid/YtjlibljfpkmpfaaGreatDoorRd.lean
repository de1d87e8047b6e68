/-
  A law's script as it is handed reads as a list of steps.
-/
import Derived.Test.YtjlibljfpkmpfaaGreatDoorScr
set_option linter.unusedSimpArgs false
namespace Go.Enc
open Go.Proofs Go.RowKit Go.ChangeShapes Go.Deep

theorem list9 {α : Type} {l : List α} (h : l.length = 9) : ∃ c0 c1 c2 c3 c4 c5 c6 c7 c8, l = [c0, c1, c2, c3, c4, c5, c6, c7, c8] := by
  match l, h with
  | [c0, c1, c2, c3, c4, c5, c6, c7, c8], _ => exact ⟨c0, c1, c2, c3, c4, c5, c6, c7, c8, rfl⟩
theorem list2 {α : Type} {l : List α} (h : l.length = 2) : ∃ c0 c1, l = [c0, c1] := by
  match l, h with
  | [c0, c1], _ => exact ⟨c0, c1, rfl⟩
theorem flat_map1 (l : List Nat) : (l.flatMap fun n => [uD n]) = l.map uD := by
  induction l with
  | nil => rfl
  | cons x l ih => simp [List.flatMap_cons, ih]

section
variable {H : Type} {enc : TypeId × Value → H} {w : World} {held : Bool} {sp : Nat → Bool}
theorem cells3 : Tryz.prog.cellsOf 3 = 1 := by kernel_rfl
theorem cells9 : Tryz.prog.cellsOf 9 = 1 := by kernel_rfl
theorem cells25 : Tryz.prog.cellsOf 25 = 1 := by kernel_rfl
theorem cells27 : Tryz.prog.cellsOf 27 = 2 := by kernel_rfl
theorem cells28 : Tryz.prog.cellsOf 28 = 1 := by kernel_rfl
theorem cells30 : Tryz.prog.cellsOf 30 = 9 := by kernel_rfl
theorem read_box {fuel : Nat} {cs : List Value} {x : DataW H × List MemPlace} (h : DataW.trod enc Tryz.prog w 0 sp held fuel 27 cs = some x) : ∃ a b : Nat, U64 a ∧ U64 b ∧ cs = [.int .u64 a, .int .u64 b] := by
  obtain ⟨xs, n, _, _, hl, hlen, hf⟩ := DataW.trod_struct Tryz.underlying27 h
  rw [cells27] at hl
  obtain ⟨c0, c1, rfl⟩ := list2 hl
  obtain ⟨y0, y1, rfl⟩ := list2 hlen
  have f0 := hf 0 _ rfl
  have f1 := hf 1 _ rfl
  simp only [List.getElem_toArray, List.getElem_cons_zero, List.getElem_cons_succ] at f0 f1
  rw [cells25] at f0 f1
  obtain ⟨a, ha, e0⟩ := read_u64 Tryz.underlying25 f0
  obtain ⟨b, hb, e1⟩ := read_u64 Tryz.underlying25 f1
  simp at e0 e1
  exact ⟨a, b, ha, hb, by rw [e0, e1]⟩
theorem read_op {fuel : Nat} {cs : List Value} {x : DataW H × List MemPlace} (h : DataW.trod enc Tryz.prog w 0 sp held fuel 30 cs = some x) :
    ∃ o : OpD, o.Wf ∧ RepU (fun b o => w.cell? ⟨b, o, none⟩) o.cells cs := by
  obtain ⟨xs, n, _, _, hl, hlen, hf⟩ := DataW.trod_struct Tryz.underlying30 h
  rw [cells30] at hl
  obtain ⟨c0, c1, c2, c3, c4, c5, c6, c7, c8, rfl⟩ := list9 hl
  have get : ∀ i, i < 7 → ∃ y, xs[i]? = some y := fun i hi => ⟨xs[i]'(by rw [hlen]; exact hi), by simp [hlen, hi]⟩
  obtain ⟨y0, g0⟩ := get 0 (by decide)
  obtain ⟨y1, g1⟩ := get 1 (by decide)
  obtain ⟨y2, g2⟩ := get 2 (by decide)
  obtain ⟨y3, g3⟩ := get 3 (by decide)
  obtain ⟨y4, g4⟩ := get 4 (by decide)
  obtain ⟨y5, g5⟩ := get 5 (by decide)
  obtain ⟨y6, g6⟩ := get 6 (by decide)
  have f0 := (hf 0 _ rfl).trans g0
  have f1 := (hf 1 _ rfl).trans g1
  have f2 := (hf 2 _ rfl).trans g2
  have f3 := (hf 3 _ rfl).trans g3
  have f4 := (hf 4 _ rfl).trans g4
  have f5 := (hf 5 _ rfl).trans g5
  have f6 := (hf 6 _ rfl).trans g6
  simp only [List.getElem_toArray, List.getElem_cons_zero, List.getElem_cons_succ] at f0 f1 f2 f3 f4 f5 f6
  rw [cells3] at f0 f1 f2
  rw [cells9] at f3
  rw [cells27] at f4 f5
  rw [cells28] at f6
  obtain ⟨k, hk, e0⟩ := read_i64 Tryz.underlying3 f0
  obtain ⟨a, ha, e1⟩ := read_i64 Tryz.underlying3 f1
  obtain ⟨b, hb, e2⟩ := read_i64 Tryz.underlying3 f2
  obtain ⟨s, e3, _, hs⟩ := DataW.trod_string Tryz.underlying9 f3
  obtain ⟨xl, xh, hxl, hxh, e4⟩ := read_box f4
  obtain ⟨yl, yh, hyl, hyh, e5⟩ := read_box f5
  obtain ⟨v, p, e6, ho, hr, hp, hpl⟩ := read_slice (fun n => [uD n]) U64 1 (by decide) (fun _ => rfl) Tryz.underlying28 cells25 (fun fuel cs x h => by
    obtain ⟨n, hn, rfl⟩ := read_u64 Tryz.underlying25 h
    refine ⟨n, hn, ?_⟩
    simp only [RepU]
    exact ⟨_, _, rfl, rfl, by simp only [uD, Rep], rfl⟩) f6
  rw [flat_map1] at hr
  simp at e0 e1 e2 e3 e4 e5 e6
  obtain ⟨e4, e4'⟩ := e4
  obtain ⟨e5, e5'⟩ := e5
  refine ⟨⟨k, a, b, s, xl, xh, yl, yh, p⟩, ⟨hk, ha, hb, hs, hxl, hxh, hyl, hyh, hp, hpl⟩, ?_⟩
  rw [e0, e1, e2, e3, e4, e4', e5, e5', e6]
  simp only [OpD.cells, RepU]
  refine ⟨_, _, rfl, rfl, by simp only [iD, Rep], _, _, rfl, rfl, by simp only [iD, Rep], _, _, rfl, rfl, by simp only [iD, Rep], _, _, rfl, rfl, by simp only [Rep], _, _, rfl, rfl, by simp only [uD, Rep], _, _, rfl, rfl, by simp only [uD, Rep], _, _, rfl, rfl, by simp only [uD, Rep],
    _, _, rfl, rfl, by simp only [uD, Rep], _, _, rfl, ho, hr, rfl⟩
theorem read_script {v : Value} {d : DataW H} {ps : List MemPlace} (hv : ∃ a l c, v = .slice a l c) (h : DataW.Trod enc Tryz.prog w 0 sp held 22 v d ps) :
    ∃ ops : List OpD, (∀ o ∈ ops, o.Wf) ∧ ops.length ≤ maxLen ∧ Rep (fun b o => w.cell? ⟨b, o, none⟩) (.sl 9 (ops.flatMap OpD.cells)) v := by
  obtain ⟨fuel, h⟩ := h
  obtain ⟨u, l, e, ho, hr, hp, hl⟩ := read_slice OpD.cells OpD.Wf 9 (by decide) (fun _ => rfl) Tryz.underlying22 cells30 (fun fuel cs x h => read_op h) h
  refine ⟨l, hp, hl, ?_⟩
  obtain ⟨x, y, z, rfl⟩ := hv
  have hv : Value.slice x y z = u := by simpa [Value.cells] using e
  rw [hv]
  exact hr
end
end Go.Enc
