/-
  A script as data: what is handed to a law reads as a list of steps. A law's script as it is handed reads as a list of steps. A script's rows.
  plain.Make answers as the document's; boxes side by side; one step of the law; the walk through a script.
  The walk through a script: each step of the kinds asked answers true.
  How long a script's lists of floats are: the form's reach bounds each.
-/
import Derived.Test.YtjlibljfpkmpfaaGreatDoorSv18
import Derived.Test.YtjlibljfpkmpfaaGreatDoorSv07
import Derived.Deep.Slices
import Derived.ChangeArms
import Derived.Test.YtjlibljfpkmpfaaGreatDoorSv17
import Derived.HandedShaped
section
section
set_option linter.unusedSimpArgs false
namespace Go.Enc
open Go.Proofs Go.RowKit Go.ChangeShapes Go.Deep
structure OpD where
  kind : Int
  a : Int
  b : Int
  s : ByteArray
  xl : Nat
  xh : Nat
  yl : Nat
  yh : Nat
  p : List Nat
def iD (n : Int) : D := .v (.int .i64 n)
def uD (n : Nat) : D := .v (.int .u64 n)
/-- A step's cells. -/
def OpD.cells (o : OpD) : List D := [iD o.kind, iD o.a, iD o.b, .v (.string o.s), uD o.xl, uD o.xh, uD o.yl, uD o.yh, .sl 1 (o.p.map uD)]
def I64 (n : Int) : Prop := -9223372036854775808 ≤ n ∧ n ≤ 9223372036854775807
def U64 (n : Nat) : Prop := n < 18446744073709551616
structure OpD.Wf (o : OpD) : Prop where
  kind : I64 o.kind
  a : I64 o.a
  b : I64 o.b
  s : o.s.size ≤ maxLen
  xl : U64 o.xl
  xh : U64 o.xh
  yl : U64 o.yl
  yh : U64 o.yh
  p : ∀ n ∈ o.p, U64 n
  len : o.p.length ≤ maxLen
section
variable {H : Type} {enc : TypeId × Value → H} {P : Program} {w : World} {held : Bool} {sp : Nat → Bool}
theorem repC_app {σ : Mem} : ∀ {ds es : List D} {b o : Nat}, RepC σ ds b o → RepC σ es b (o + ds.length) → RepC σ (ds ++ es) b o
  | [], _, _, _, _, k => by simpa using k
  | d :: ds, es, b, o, h, k => by
    simp only [RepC, List.cons_append] at h ⊢
    exact ⟨h.1, repC_app h.2 (by rwa [show o + 1 + ds.length = o + (d :: ds).length by simp; omega])⟩
/-- Rows of cells one behind the other. -/
theorem repC_rows {σ : Mem} {α : Type} (f : α → List D) (n : Nat) (hn : ∀ x, (f x).length = n) : ∀ (l : List α) (b o : Nat), (∀ (i : Nat) x, l[i]? = some x → RepC σ (f x) b (o + i * n)) → RepC σ (l.flatMap f) b o
  | [], _, _, _ => by simp [RepC]
  | x :: l, b, o, h => by
    simp only [List.flatMap_cons]
    refine repC_app (by simpa using h 0 x rfl) (repC_rows f n hn l b _ fun i y hy => ?_)
    have := h (i + 1) y (by simpa using hy)
    rwa [hn, show o + n + i * n = o + (i + 1) * n by rw [Nat.add_mul]; omega]
theorem choose_list {α : Type} {R : Nat → α → Prop} : ∀ (n : Nat), (∀ i, i < n → ∃ x, R i x) → ∃ l : List α, l.length = n ∧ ∀ (i : Nat) x, l[i]? = some x → R i x
  | 0, _ => ⟨[], rfl, by simp⟩
  | n + 1, h => by
    obtain ⟨l, h1, h2⟩ := choose_list n fun i hi => h i (by omega)
    obtain ⟨x, hx⟩ := h n (by omega)
    refine ⟨l ++ [x], by simp [h1], fun i y hy => ?_⟩
    rcases Nat.lt_trichotomy i n with hi | hi | hi
    · exact h2 i y (by rwa [List.getElem?_append_left (by omega)] at hy)
    · subst hi
      rw [List.getElem?_append_right (by omega), h1] at hy
      simp at hy; subst hy; exact hx
    · rw [List.getElem?_eq_none (by simp; omega)] at hy; cases hy
theorem read_u64 {t : TypeId} (ht : P.underlying t = some (.int .u64)) {fuel : Nat} {cs : List Value} {x : DataW H × List MemPlace} (h : DataW.trod enc P w 0 sp held fuel t cs = some x) : ∃ n : Nat, U64 n ∧ cs = [.int .u64 n] := by
  obtain ⟨n, h1, _, h2⟩ := DataW.trod_int ht h
  simp only [Lit.wf, Bool.and_eq_true, decide_eq_true_eq] at h2
  have h3 : (0 : Int) ≤ n := h2.1
  have h4 : n ≤ 18446744073709551615 := h2.2
  refine ⟨n.toNat, by unfold U64; omega, ?_⟩
  rw [h1, Int.toNat_of_nonneg h3]
theorem read_i64 {t : TypeId} (ht : P.underlying t = some (.int .i64)) {fuel : Nat} {cs : List Value} {x : DataW H × List MemPlace} (h : DataW.trod enc P w 0 sp held fuel t cs = some x) : ∃ n : Int, I64 n ∧ cs = [.int .i64 n] := by
  obtain ⟨n, h1, _, h2⟩ := DataW.trod_int ht h
  refine ⟨n, ?_, h1⟩
  simp only [Lit.wf, Bool.and_eq_true, decide_eq_true_eq] at h2
  exact ⟨h2.1, h2.2⟩
end
end Go.Enc
end
section
set_option linter.unusedSimpArgs false
namespace Go.Enc
open Go.Proofs Go.RowKit Go.ChangeShapes Go.Deep
theorem list9 {α : Type} {l : List α} (h : l.length = 9) : ∃ c0 c1 c2 c3 c4 c5 c6 c7 c8, l = [c0, c1, c2, c3, c4, c5, c6, c7, c8] := by
  match l, h with
  | [c0, c1, c2, c3, c4, c5, c6, c7, c8], _ => exact ⟨c0, c1, c2, c3, c4, c5, c6, c7, c8, rfl⟩
theorem list2 {α : Type} {l : List α} (h : l.length = 2) : ∃ c0 c1, l = [c0, c1] := by
  match l, h with
  | [c0, c1], _ => exact ⟨c0, c1, rfl⟩
theorem flat_map1 (l : List Nat) : (l.flatMap fun n => [uD n]) = l.map uD := by
  induction l with
  | nil => rfl
  | cons x l ih => simp [List.flatMap_cons, ih]
section
variable {H : Type} {enc : TypeId × Value → H} {w : World} {held : Bool} {sp : Nat → Bool}
theorem cells3 : Tryz.prog.cellsOf 3 = 1 := by kernel_rfl
theorem cells9 : Tryz.prog.cellsOf 9 = 1 := by kernel_rfl
theorem cells25 : Tryz.prog.cellsOf 25 = 1 := by kernel_rfl
theorem cells27 : Tryz.prog.cellsOf 27 = 2 := by kernel_rfl
theorem cells28 : Tryz.prog.cellsOf 28 = 1 := by kernel_rfl
theorem cells30 : Tryz.prog.cellsOf 30 = 9 := by kernel_rfl
theorem read_box {fuel : Nat} {cs : List Value} {x : DataW H × List MemPlace} (h : DataW.trod enc Tryz.prog w 0 sp held fuel 27 cs = some x) : ∃ a b : Nat, U64 a ∧ U64 b ∧ cs = [.int .u64 a, .int .u64 b] := by
  obtain ⟨xs, n, _, _, hl, hlen, hf⟩ := DataW.trod_struct Tryz.underlying27 h
  rw [cells27] at hl
  obtain ⟨c0, c1, rfl⟩ := list2 hl
  obtain ⟨y0, y1, rfl⟩ := list2 hlen
  have f0 := hf 0 _ rfl
  have f1 := hf 1 _ rfl
  simp only [List.getElem_toArray, List.getElem_cons_zero, List.getElem_cons_succ] at f0 f1
  rw [cells25] at f0 f1
  obtain ⟨a, ha, e0⟩ := read_u64 Tryz.underlying25 f0
  obtain ⟨b, hb, e1⟩ := read_u64 Tryz.underlying25 f1
  simp at e0 e1
  exact ⟨a, b, ha, hb, by rw [e0, e1]⟩
end
end Go.Enc
end
section
set_option linter.unusedSimpArgs false
namespace Go.Enc
open Go.Proofs
abbrev opD (o : OpD) : D := .agg o.cells
theorem OpD.len (o : OpD) : o.cells.length = 9 := rfl
theorem flat_len (ops : List OpD) : (ops.flatMap OpD.cells).length = ops.length * 9 := by
  induction ops with
  | nil => rfl
  | cons o ops ih => simp only [List.flatMap_cons, List.length_append, ih, OpD.len, List.length_cons, Nat.add_mul]; omega
theorem flat_at : ∀ {ops : List OpD} {i : Nat} {o : OpD}, ops[i]? = some o → ((ops.flatMap OpD.cells).drop (i * 9)).take 9 = o.cells
  | [], i, o, h => by simp at h
  | a :: ops, 0, o, h => by
    simp only [List.getElem?_cons_zero, Option.some.injEq] at h
    subst h
    rw [Nat.zero_mul, List.drop_zero, List.flatMap_cons, List.take_append_of_le_length (by simp [OpD.len])]
    exact List.take_of_length_le (by simp [OpD.len])
  | a :: ops, i + 1, o, h => by
    simp only [List.getElem?_cons_succ] at h
    rw [List.flatMap_cons, Nat.add_mul, Nat.one_mul, Nat.add_comm, ← List.drop_drop, List.drop_left' (OpD.len a)]
    exact flat_at h
/-- A script's datum. -/
abbrev scD (ops : List OpD) : D := .sl 9 (ops.flatMap OpD.cells)
theorem div9 (n : Nat) : n * 9 / 9 = n := Nat.mul_div_cancel _ (by decide)
end Go.Enc
end
end
section
set_option linter.unusedSimpArgs false
namespace Go.Enc
open Go.Proofs Go.Enc.Fl Go.Enc.Dg Go.Enc.Nu
set_option maxRecDepth 100000 in
theorem lbox_c (E : Nat → Option Value) (x : Nat × Nat) : DCall Tryz.prog E 14 [boxD x] (.data (boxD x)) := by
  refine dcall_of Tryz.func14 rfl (by kernel_rfl) Tryz.ntmps14 (by kernel_rfl) (by simp) (rs := [.cell 2 32]) rfl ?_
  rintro ⟨P, E, σ0, w0, base, n, kb, df, G0⟩ rfl rfl rfl rfl
  simp -implicitDefEqProofs only [go_sem]
set_option maxRecDepth 100000 in
theorem same_c (E : Nat → Option Value) (x : Nat × Nat) : DCall Tryz.prog E 16 [boxD x, boxD x] (.data (bD true)) := by
  refine dcall_of Tryz.func16 rfl (by kernel_rfl) Tryz.ntmps16 (by kernel_rfl) (by simp) (rs := [.tmp 4]) rfl ?_
  rintro ⟨P, E, σ0, w0, base, n, kb, df, G0⟩ rfl rfl rfl rfl
  have e1 := tB (beqT (show (x.1 : Int) = x.1 from rfl))
  have e2 := tB (beqT (show (x.2 : Int) = x.2 from rfl))
  simp -implicitDefEqProofs only [go_sem, beq_self_eq_true, finK]
end Go.Enc
end
section
set_option linter.unusedSimpArgs false
namespace Go.Enc
open Go.Proofs Go.Enc.Fl Go.Enc.Dg Go.Enc.Nu
set_option maxRecDepth 100000 in
theorem upto_c {E : Nat → Option Value} {ops : List OpD} (hl : ops.length ≤ maxLen) {lo hi : Int} (hp : ∀ o ∈ ops, lo ≤ o.kind → o.kind ≤ hi → DCall Tryz.prog E 12 [opD o] (.data (bD true))) :
    DCall Tryz.prog E 11 [scD ops, intD lo, intD hi] (.data (intD (-1))) := by
  refine dcall_of Tryz.func11 rfl (by kernel_rfl) Tryz.ntmps11 (by kernel_rfl) (by simp) (rs := [.tmp 6]) rfl ?_
  rintro ⟨P, E, σ0, w0, base, n, kb, df, G0⟩ rfl rfl rfl rfl
  have hmax : maxLen = 9223372036854775807 := by decide
  simp -implicitDefEqProofs only [go_sem]
  rw [stop_eq]
  refine dwp_loop (α := {i : Nat // i ≤ ops.length}) (fun i => St.of [(0, .d (scD ops)), (1, .d (intD lo)), (2, .d (intD hi)), (7, .d (intD i.1))] []) (fun i => ops.length - i.1)
    ⟨0, Nat.zero_le _⟩ (weak_of ?_ ?_ rfl) (by kernel_rfl) (fun i => ?_)
  · simp -implicitDefEqProofs only [go_sem]
  · simp -implicitDefEqProofs only [go_sem]
  · obtain ⟨i, hi0⟩ := i
    by_cases hA : i < ops.length
    · obtain ⟨o, ho⟩ : ∃ o, ops[i]? = some o := ⟨ops[i], by simp [hA]⟩
      have hm := List.mem_of_getElem? ho
      have eA : decide ((i : Int) < (ops.length : Int)) = true := tD (by omega)
      by_cases hB : i < 1152921504606846976
      · have eB : decide ((i : Int) < 1152921504606846976) = true := tD (by omega)
        have w1 : IntKind.i64.wrap ((i : Int) + 1) = ((i + 1 : Nat) : Int) := addN1 (by omega)
        have hin : i * 9 < ops.length * 9 := by omega
        have hin2 : i * 9 + 9 ≤ ops.length * 9 := by omega
        have fin : ∃ x' : {i : Nat // i ≤ ops.length}, x'.1 = i + 1 := ⟨⟨i + 1, hA⟩, rfl⟩
        by_cases hk1 : lo ≤ o.kind
        · have eC : decide (o.kind ≥ lo) = true := tD hk1
          by_cases hk2 : o.kind ≤ hi
          · have eD : decide (o.kind ≤ hi) = true := tD hk2
            have hpl := hp o hm hk1 hk2
            simp -implicitDefEqProofs only [go_sem, eA, eB, flat_len, div9, hin, hin2, flat_at ho, OpD.cells, iD, uD, eC, eD]
            refine Call.intro hpl ?_
            simp -implicitDefEqProofs only [go_sem, w1]
            obtain ⟨x', hx'⟩ := fin
            refine ⟨x', weak_of ?_ ?_ rfl, by simp only [hx']; omega⟩
            · simp -implicitDefEqProofs only [go_sem, hx']
            · simp -implicitDefEqProofs only [go_sem]
          · have eD : decide (o.kind ≤ hi) = false := fD hk2
            simp -implicitDefEqProofs only [go_sem, eA, eB, flat_len, div9, hin, hin2, flat_at ho, OpD.cells, iD, uD, eC, eD, w1]
            obtain ⟨x', hx'⟩ := fin
            refine ⟨x', weak_of ?_ ?_ rfl, by simp only [hx']; omega⟩
            · simp -implicitDefEqProofs only [go_sem, hx']
            · simp -implicitDefEqProofs only [go_sem]
        · have eC : decide (o.kind ≥ lo) = false := fD hk1
          simp -implicitDefEqProofs only [go_sem, eA, eB, flat_len, div9, hin, hin2, flat_at ho, OpD.cells, iD, uD, eC, w1]
          obtain ⟨x', hx'⟩ := fin
          refine ⟨x', weak_of ?_ ?_ rfl, by simp only [hx']; omega⟩
          · simp -implicitDefEqProofs only [go_sem, hx']
          · simp -implicitDefEqProofs only [go_sem]
      · have eB : decide ((i : Int) < 1152921504606846976) = false := fD (by omega)
        simp -implicitDefEqProofs only [go_sem, eA, eB, flat_len, div9, finK]
    · have eA : decide ((i : Int) < (ops.length : Int)) = false := fD (by omega)
      simp -implicitDefEqProofs only [go_sem, eA, flat_len, div9, finK]
end Go.Enc
end
section
set_option linter.unusedSimpArgs false
set_option maxRecDepth 100000
namespace Go.Enc
open Go.Proofs Go.RowKit Go.ChangeShapes Go.Deep
section
variable {H : Type} {enc : TypeId × Value → H} {P : Program} {w : World} {held : Bool} {sp : Nat → Bool}
/-- A slice that is handed reads as a list; its elements' data are told. -/
theorem read_slice_d {α : Type} (f : α → List D) (ok : α → DataW H → Prop) {t e : TypeId} (n : Nat) (hn : 0 < n) (hlen : ∀ x, (f x).length = n) (ht : P.underlying t = some (.slice e)) (hc : P.cellsOf e = n)
    (hel : ∀ (fuel : Nat) (cs : List Value) x, DataW.trod enc P w 0 sp held fuel e cs = some x → ∃ y : α, ok y x.1 ∧ RepU (fun b o => w.cell? ⟨b, o, none⟩) (f y) cs)
    {fuel : Nat} {cs : List Value} {x : DataW H × List MemPlace} (h : DataW.trod enc P w 0 sp held fuel t cs = some x) :
    ∃ (v : Value) (l : List α), cs = [v] ∧ v.oneCell' = true ∧ Rep (fun b o => w.cell? ⟨b, o, none⟩) (.sl n (l.flatMap f)) v ∧ l.length ≤ maxLen ∧
      ((l = [] ∧ x.1 = .nil) ∨ ∃ es s, x.1 = .slice es s ∧ es.length = l.length ∧ ∀ (i : Nat) y, l[i]? = some y → ∃ d, es[i]? = some d ∧ ok y d) := by
  rcases open_slice ht h with ⟨hcs, hx⟩ | ⟨a, len, cap, m, k, D', Pl, hcs, hb, hle, hcm, hm, hx, hi⟩
  · exact ⟨_, [], hcs, rfl, by simp [Rep], by simp, .inl ⟨rfl, by rw [hx]⟩⟩
  · have hlm : len ≤ m := by rw [hm]; split <;> omega
    by_cases h0 : len = 0
    · subst h0
      refine ⟨_, [], hcs, rfl, by simp only [Rep]; exact .inr (.inr ⟨a, cap, rfl, by simp, hcm⟩), by simp, .inr ⟨_, _, by rw [hx], by simp, fun i y hy => by simp at hy⟩⟩
    have hspot : a.spot = none := by
      obtain ⟨cs', h1, _⟩ := hi 0 (by omega)
      rw [hc] at h1
      obtain ⟨_, _, h3⟩ := World.cells?_some h1
      have := h3 0 (by omega)
      simp only [Nat.zero_mul, Addr.add, if_true] at this
      cases hs : a.spot with
      | none => rfl
      | some q =>
        exfalso
        have hcl : cs'.length = n := (World.cells?_some h1).2.1
        have : ∃ z, w.cell? a = some z := by
          cases hz : cs'[0]? with
          | none => rw [List.getElem?_eq_none_iff] at hz; omega
          | some z => exact ⟨z, by rw [this, hz]⟩
        obtain ⟨z, hz⟩ := this
        simp only [World.cell?] at hz
        split at hz
        · rw [hs] at hz; simp at hz
        · cases hz
    obtain ⟨bl, off, spt⟩ := a
    simp only at hspot
    subst hspot
    obtain ⟨l, hl, hR⟩ := choose_list (R := fun i (y : α) => ok y (D' i) ∧ RepC (fun b o => w.cell? ⟨b, o, none⟩) (f y) bl (off + i * n)) len fun i hil => by
      obtain ⟨cs', h1, h2⟩ := hi i (by omega)
      obtain ⟨y, hy, hr⟩ := hel _ _ _ h2
      refine ⟨y, hy, RepC.of_values hr fun j u hj => ?_⟩
      rw [hc] at h1
      obtain ⟨_, h4, h3⟩ := World.cells?_some h1
      have hjn : j < n := by
        rcases Nat.lt_or_ge j n with h | h
        · exact h
        · rw [List.getElem?_eq_none (by omega)] at hj; cases hj
      have := h3 j hjn
      rw [hj] at this
      rw [← this]
      congr 1
      by_cases hz : i * n = 0
      · by_cases hj0 : j = 0
        · simp [Addr.add, hz, hj0]
        · simp [Addr.add, hz, hj0]
      · by_cases hj0 : j = 0
        · simp [Addr.add, hz, hj0]
        · simp [Addr.add, hz, hj0]
    refine ⟨_, l, hcs, rfl, ?_, by omega, .inr ⟨_, _, by rw [hx], by simp [hl], fun i y hy => ?_⟩⟩
    · simp only [Rep]
      refine .inr (.inl ⟨bl, off, len, cap, rfl, ?_, hle, hcm, repC_rows f n hlen l _ _ fun i y hy => (hR i y hy).2⟩)
      rw [← hl]
      clear hR hl
      induction l with
      | nil => simp
      | cons y l ih => simp only [List.flatMap_cons, List.length_append, hlen, ih, List.length_cons, Nat.add_mul]; omega
    · have hil : i < len := by
        rw [← hl]
        rcases Nat.lt_or_ge i l.length with h | h
        · exact h
        · rw [List.getElem?_eq_none h] at hy; cases hy
      exact ⟨D' i, by simp [hil], (hR i y hy).1⟩
/-- A weight of a part is a weight of the whole. -/
theorem weightsEach_mem : ∀ {ts : List TypeId} {ds : List (DataW H)} {i : Nat} {t : TypeId} {d : DataW H} {n : Nat}, ts[i]? = some t → ds[i]? = some d → n ∈ d.weights P t → n ∈ DataW.weightsEach P ts ds
  | [], _, _, _, _, _, h, _, _ => by simp at h
  | _ :: _, [], _, _, _, _, _, h, _ => by simp at h
  | t' :: ts, d' :: ds, 0, t, d, n, h1, h2, h3 => by
    simp only [List.getElem?_cons_zero, Option.some.injEq] at h1 h2
    subst h1 h2
    unfold DataW.weightsEach
    exact List.mem_append_left _ h3
  | t' :: ts, d' :: ds, i + 1, t, d, n, h1, h2, h3 => by
    simp only [List.getElem?_cons_succ] at h1 h2
    unfold DataW.weightsEach
    exact List.mem_append_right _ (weightsEach_mem h1 h2 h3)
theorem weightsAll_mem {e : TypeId} : ∀ {ds : List (DataW H)} {i : Nat} {d : DataW H} {n : Nat}, ds[i]? = some d → n ∈ d.weights P e → n ∈ DataW.weightsAll P e ds
  | [], _, _, _, h, _ => by simp at h
  | d' :: ds, 0, d, n, h2, h3 => by
    simp only [List.getElem?_cons_zero, Option.some.injEq] at h2
    subst h2
    unfold DataW.weightsAll
    exact List.mem_append_left _ h3
  | d' :: ds, i + 1, d, n, h2, h3 => by
    simp only [List.getElem?_cons_succ] at h2
    unfold DataW.weightsAll
    exact List.mem_append_right _ (weightsAll_mem h2 h3)
end
section
variable {H : Type} {enc : TypeId × Value → H} {w : World} {held : Bool} {sp : Nat → Bool}
theorem bytes25 : Tryz.prog.bytesOf 25 = 8 := by kernel_rfl
/-- The data of a step tell how long its list is. -/
def LenTold (o : OpD) (d : DataW H) : Prop := o.p.length = 0 ∨ ∃ n ∈ d.weights Tryz.prog 30, o.p.length * 8 ≤ n
theorem read_op_d {fuel : Nat} {cs : List Value} {x : DataW H × List MemPlace} (h : DataW.trod enc Tryz.prog w 0 sp held fuel 30 cs = some x) :
    ∃ o : OpD, (o.Wf ∧ LenTold o x.1) ∧ RepU (fun b o => w.cell? ⟨b, o, none⟩) o.cells cs := by
  obtain ⟨xs, n, _, hx, hl, hlen, hf⟩ := DataW.trod_struct Tryz.underlying30 h
  rw [cells30] at hl
  obtain ⟨c0, c1, c2, c3, c4, c5, c6, c7, c8, rfl⟩ := list9 hl
  have get : ∀ i, i < 7 → ∃ y, xs[i]? = some y := fun i hi => ⟨xs[i]'(by rw [hlen]; exact hi), by simp [hlen, hi]⟩
  obtain ⟨y0, g0⟩ := get 0 (by decide)
  obtain ⟨y1, g1⟩ := get 1 (by decide)
  obtain ⟨y2, g2⟩ := get 2 (by decide)
  obtain ⟨y3, g3⟩ := get 3 (by decide)
  obtain ⟨y4, g4⟩ := get 4 (by decide)
  obtain ⟨y5, g5⟩ := get 5 (by decide)
  obtain ⟨y6, g6⟩ := get 6 (by decide)
  have f0 := (hf 0 _ rfl).trans g0
  have f1 := (hf 1 _ rfl).trans g1
  have f2 := (hf 2 _ rfl).trans g2
  have f3 := (hf 3 _ rfl).trans g3
  have f4 := (hf 4 _ rfl).trans g4
  have f5 := (hf 5 _ rfl).trans g5
  have f6 := (hf 6 _ rfl).trans g6
  simp only [List.getElem_toArray, List.getElem_cons_zero, List.getElem_cons_succ] at f0 f1 f2 f3 f4 f5 f6
  rw [cells3] at f0 f1 f2
  rw [cells9] at f3
  rw [cells27] at f4 f5
  rw [cells28] at f6
  obtain ⟨k, hk, e0⟩ := read_i64 Tryz.underlying3 f0
  obtain ⟨a, ha, e1⟩ := read_i64 Tryz.underlying3 f1
  obtain ⟨b, hb, e2⟩ := read_i64 Tryz.underlying3 f2
  obtain ⟨s, e3, _, hs⟩ := DataW.trod_string Tryz.underlying9 f3
  obtain ⟨xl, xh, hxl, hxh, e4⟩ := read_box f4
  obtain ⟨yl, yh, hyl, hyh, e5⟩ := read_box f5
  obtain ⟨v, p, e6, ho, hr, hpl, hd⟩ := read_slice_d (fun n => [uD n]) (fun n _ => U64 n) 1 (by decide) (fun _ => rfl) Tryz.underlying28 cells25 (fun fuel cs x h => by
    obtain ⟨n, hn, rfl⟩ := read_u64 Tryz.underlying25 h
    refine ⟨n, hn, ?_⟩
    simp only [RepU]
    exact ⟨_, _, rfl, rfl, by simp only [uD, Rep], rfl⟩) f6
  have hp : ∀ n ∈ p, U64 n := fun n hn => by
    obtain ⟨i, hi⟩ := List.getElem?_of_mem hn
    rcases hd with ⟨h0, _⟩ | ⟨es, s', _, _, h2⟩
    · rw [h0] at hi; simp at hi
    · obtain ⟨_, _, h3⟩ := h2 i n hi
      exact h3
  rw [flat_map1] at hr
  simp at e0 e1 e2 e3 e4 e5 e6
  obtain ⟨e4, e4'⟩ := e4
  obtain ⟨e5, e5'⟩ := e5
  refine ⟨⟨k, a, b, s, xl, xh, yl, yh, p⟩, ⟨⟨hk, ha, hb, hs, hxl, hxh, hyl, hyh, hp, hpl⟩, ?_⟩, ?_⟩
  · rcases hd with ⟨h0, _⟩ | ⟨es, s', h1, h2, _⟩
    · left; rw [h0]; rfl
    · right
      refine ⟨(es.length + s'.length) * 8, ?_, ?_⟩
      · rw [hx]
        have hw : (es.length + s'.length) * 8 ∈ y6.1.weights Tryz.prog 28 := by
          rw [h1]
          unfold DataW.weights
          rw [Tryz.underlying28]
          show _ ∈ (es.length + s'.length) * Tryz.prog.bytesOf 25 :: _
          rw [bytes25]
          exact List.mem_cons_self
        show _ ∈ (DataW.agg (xs.map (·.1))).weights Tryz.prog 30
        unfold DataW.weights
        rw [Tryz.underlying30]
        exact weightsEach_mem (i := 6) rfl (by rw [List.getElem?_map, g6]; rfl) hw
      · show p.length * 8 ≤ _
        rw [← h2]
        exact Nat.mul_le_mul_right _ (Nat.le_add_right _ _)
  · rw [e0, e1, e2, e3, e4, e4', e5, e5', e6]
    simp only [OpD.cells, RepU]
    refine ⟨_, _, rfl, rfl, by simp only [iD, Rep], _, _, rfl, rfl, by simp only [iD, Rep], _, _, rfl, rfl, by simp only [iD, Rep], _, _, rfl, rfl, by simp only [Rep], _, _, rfl, rfl, by simp only [uD, Rep], _, _, rfl, rfl, by simp only [uD, Rep], _, _, rfl, rfl, by simp only [uD, Rep],
      _, _, rfl, rfl, by simp only [uD, Rep], _, _, rfl, ho, hr, rfl⟩
theorem read_script_d {v : Value} {d : DataW H} {ps : List MemPlace} (hv : ∃ a l c, v = .slice a l c) (h : DataW.Trod enc Tryz.prog w 0 sp held 22 v d ps) (hw : ∀ n ∈ d.weights Tryz.prog 22, n ≤ reachBytes) :
    ∃ ops : List OpD, (∀ o ∈ ops, o.Wf ∧ o.p.length * 8 ≤ reachBytes) ∧ ops.length ≤ maxLen ∧ Rep (fun b o => w.cell? ⟨b, o, none⟩) (.sl 9 (ops.flatMap OpD.cells)) v := by
  obtain ⟨fuel, h⟩ := h
  obtain ⟨u, l, e, ho, hr, hl, hd⟩ := read_slice_d OpD.cells (fun o d => o.Wf ∧ LenTold o d) 9 (by decide) (fun _ => rfl) Tryz.underlying22 cells30 (fun fuel cs x h => read_op_d h) h
  refine ⟨l, fun o hm => ?_, hl, ?_⟩
  · obtain ⟨i, hi⟩ := List.getElem?_of_mem hm
    rcases hd with ⟨h0, _⟩ | ⟨es, s', h1, h2, h3⟩
    · rw [h0] at hi; simp at hi
    · obtain ⟨d', h4, h5, h6⟩ := h3 i o hi
      refine ⟨h5, ?_⟩
      rcases h6 with h6 | ⟨n, h6, h7⟩
      · rw [h6]; exact Nat.zero_le _
      · refine Nat.le_trans h7 (hw n ?_)
        simp only at h1
        rw [h1]
        unfold DataW.weights
        rw [Tryz.underlying22]
        exact List.mem_cons_of_mem _ (List.mem_append_left _ (weightsAll_mem h4 h6))
  · obtain ⟨x, y, z, rfl⟩ := hv
    have hv : Value.slice x y z = u := by simpa [Value.cells] using e
    rw [hv]
    exact hr
end
end Go.Enc
end
