/-
  A script as data: what is handed to a law reads as a list of steps.
-/
import Derived.Test.YtjlibljfpkmpfaaGreatDoorLaid
import Derived.Test.YtjlibljfpkmpfaaGreatDoorSim
import Derived.Deep.Slices
import Derived.ChangeArms
set_option linter.unusedSimpArgs false
namespace Go.Enc
open Go.Proofs Go.RowKit Go.ChangeShapes Go.Deep

structure OpD where
  kind : Int
  a : Int
  b : Int
  s : ByteArray
  xl : Nat
  xh : Nat
  yl : Nat
  yh : Nat
  p : List Nat
def iD (n : Int) : D := .v (.int .i64 n)
def uD (n : Nat) : D := .v (.int .u64 n)
/-- A step's cells. -/
def OpD.cells (o : OpD) : List D := [iD o.kind, iD o.a, iD o.b, .v (.string o.s), uD o.xl, uD o.xh, uD o.yl, uD o.yh, .sl 1 (o.p.map uD)]
def I64 (n : Int) : Prop := -9223372036854775808 ≤ n ∧ n ≤ 9223372036854775807
def U64 (n : Nat) : Prop := n < 18446744073709551616
structure OpD.Wf (o : OpD) : Prop where
  kind : I64 o.kind
  a : I64 o.a
  b : I64 o.b
  s : o.s.size ≤ maxLen
  xl : U64 o.xl
  xh : U64 o.xh
  yl : U64 o.yl
  yh : U64 o.yh
  p : ∀ n ∈ o.p, U64 n
  len : o.p.length ≤ maxLen

section
variable {H : Type} {enc : TypeId × Value → H} {P : Program} {w : World} {held : Bool} {sp : Nat → Bool}
theorem repC_app {σ : Mem} : ∀ {ds es : List D} {b o : Nat}, RepC σ ds b o → RepC σ es b (o + ds.length) → RepC σ (ds ++ es) b o
  | [], _, _, _, _, k => by simpa using k
  | d :: ds, es, b, o, h, k => by
    simp only [RepC, List.cons_append] at h ⊢
    exact ⟨h.1, repC_app h.2 (by rwa [show o + 1 + ds.length = o + (d :: ds).length by simp; omega])⟩
/-- Rows of cells one behind the other. -/
theorem repC_rows {σ : Mem} {α : Type} (f : α → List D) (n : Nat) (hn : ∀ x, (f x).length = n) : ∀ (l : List α) (b o : Nat), (∀ (i : Nat) x, l[i]? = some x → RepC σ (f x) b (o + i * n)) → RepC σ (l.flatMap f) b o
  | [], _, _, _ => by simp [RepC]
  | x :: l, b, o, h => by
    simp only [List.flatMap_cons]
    refine repC_app (by simpa using h 0 x rfl) (repC_rows f n hn l b _ fun i y hy => ?_)
    have := h (i + 1) y (by simpa using hy)
    rwa [hn, show o + n + i * n = o + (i + 1) * n by rw [Nat.add_mul]; omega]
theorem choose_list {α : Type} {R : Nat → α → Prop} : ∀ (n : Nat), (∀ i, i < n → ∃ x, R i x) → ∃ l : List α, l.length = n ∧ ∀ (i : Nat) x, l[i]? = some x → R i x
  | 0, _ => ⟨[], rfl, by simp⟩
  | n + 1, h => by
    obtain ⟨l, h1, h2⟩ := choose_list n fun i hi => h i (by omega)
    obtain ⟨x, hx⟩ := h n (by omega)
    refine ⟨l ++ [x], by simp [h1], fun i y hy => ?_⟩
    rcases Nat.lt_trichotomy i n with hi | hi | hi
    · exact h2 i y (by rwa [List.getElem?_append_left (by omega)] at hy)
    · subst hi
      rw [List.getElem?_append_right (by omega), h1] at hy
      simp at hy; subst hy; exact hx
    · rw [List.getElem?_eq_none (by simp; omega)] at hy; cases hy
/-- A slice that is handed reads as a list. -/
theorem read_slice {α : Type} (f : α → List D) (ok : α → Prop) {t e : TypeId} (n : Nat) (hn : 0 < n) (hlen : ∀ x, (f x).length = n) (ht : P.underlying t = some (.slice e)) (hc : P.cellsOf e = n)
    (hel : ∀ (fuel : Nat) (cs : List Value) x, DataW.trod enc P w 0 sp held fuel e cs = some x → ∃ y : α, ok y ∧ RepU (fun b o => w.cell? ⟨b, o, none⟩) (f y) cs)
    {fuel : Nat} {cs : List Value} {x : DataW H × List MemPlace} (h : DataW.trod enc P w 0 sp held fuel t cs = some x) :
    ∃ (v : Value) (l : List α), cs = [v] ∧ v.oneCell' = true ∧ Rep (fun b o => w.cell? ⟨b, o, none⟩) (.sl n (l.flatMap f)) v ∧ (∀ y ∈ l, ok y) ∧ l.length ≤ maxLen := by
  rcases open_slice ht h with ⟨hcs, _⟩ | ⟨a, len, cap, m, k, D', Pl, hcs, hb, hle, hcm, hm, _, hi⟩
  · exact ⟨_, [], hcs, rfl, by simp [Rep], by simp, by simp⟩
  · have hlm : len ≤ m := by rw [hm]; split <;> omega
    by_cases h0 : len = 0
    · subst h0
      exact ⟨_, [], hcs, rfl, by simp only [Rep]; exact .inr (.inr ⟨a, cap, rfl, by simp, hcm⟩), by simp, by simp⟩
    have hspot : a.spot = none := by
      obtain ⟨cs', h1, _⟩ := hi 0 (by omega)
      rw [hc] at h1
      obtain ⟨_, _, h3⟩ := World.cells?_some h1
      have := h3 0 (by omega)
      simp only [Nat.zero_mul, Addr.add, if_true] at this
      cases hs : a.spot with
      | none => rfl
      | some q =>
        exfalso
        have hcl : cs'.length = n := (World.cells?_some h1).2.1
        have : ∃ z, w.cell? a = some z := by
          cases hz : cs'[0]? with
          | none => rw [List.getElem?_eq_none_iff] at hz; omega
          | some z => exact ⟨z, by rw [this, hz]⟩
        obtain ⟨z, hz⟩ := this
        simp only [World.cell?] at hz
        split at hz
        · rw [hs] at hz; simp at hz
        · cases hz
    obtain ⟨bl, off, spt⟩ := a
    simp only at hspot
    subst hspot
    obtain ⟨l, hl, hR⟩ := choose_list (R := fun i (y : α) => ok y ∧ RepC (fun b o => w.cell? ⟨b, o, none⟩) (f y) bl (off + i * n)) len fun i hil => by
      obtain ⟨cs', h1, h2⟩ := hi i (by omega)
      obtain ⟨y, hy, hr⟩ := hel _ _ _ h2
      refine ⟨y, hy, RepC.of_values hr fun j u hj => ?_⟩
      rw [hc] at h1
      obtain ⟨_, h4, h3⟩ := World.cells?_some h1
      have hjn : j < n := by
        rcases Nat.lt_or_ge j n with h | h
        · exact h
        · rw [List.getElem?_eq_none (by omega)] at hj; cases hj
      have := h3 j hjn
      rw [hj] at this
      rw [← this]
      congr 1
      by_cases hz : i * n = 0
      · by_cases hj0 : j = 0
        · simp [Addr.add, hz, hj0]
        · simp [Addr.add, hz, hj0]
      · by_cases hj0 : j = 0
        · simp [Addr.add, hz, hj0]
        · simp [Addr.add, hz, hj0]
    refine ⟨_, l, hcs, rfl, ?_, fun y hy => ?_, by omega⟩
    · simp only [Rep]
      refine .inr (.inl ⟨bl, off, len, cap, rfl, ?_, hle, hcm, repC_rows f n hlen l _ _ fun i y hy => (hR i y hy).2⟩)
      rw [← hl]
      clear hR hl
      induction l with
      | nil => simp
      | cons y l ih => simp only [List.flatMap_cons, List.length_append, hlen, ih, List.length_cons, Nat.add_mul]; omega
    · obtain ⟨i, hi'⟩ := List.getElem?_of_mem hy
      exact (hR i y hi').1
theorem read_u64 {t : TypeId} (ht : P.underlying t = some (.int .u64)) {fuel : Nat} {cs : List Value} {x : DataW H × List MemPlace} (h : DataW.trod enc P w 0 sp held fuel t cs = some x) : ∃ n : Nat, U64 n ∧ cs = [.int .u64 n] := by
  obtain ⟨n, h1, _, h2⟩ := DataW.trod_int ht h
  simp only [Lit.wf, Bool.and_eq_true, decide_eq_true_eq] at h2
  have h3 : (0 : Int) ≤ n := h2.1
  have h4 : n ≤ 18446744073709551615 := h2.2
  refine ⟨n.toNat, by unfold U64; omega, ?_⟩
  rw [h1, Int.toNat_of_nonneg h3]
theorem read_i64 {t : TypeId} (ht : P.underlying t = some (.int .i64)) {fuel : Nat} {cs : List Value} {x : DataW H × List MemPlace} (h : DataW.trod enc P w 0 sp held fuel t cs = some x) : ∃ n : Int, I64 n ∧ cs = [.int .i64 n] := by
  obtain ⟨n, h1, _, h2⟩ := DataW.trod_int ht h
  refine ⟨n, ?_, h1⟩
  simp only [Lit.wf, Bool.and_eq_true, decide_eq_true_eq] at h2
  exact ⟨h2.1, h2.2⟩
end
end Go.Enc
