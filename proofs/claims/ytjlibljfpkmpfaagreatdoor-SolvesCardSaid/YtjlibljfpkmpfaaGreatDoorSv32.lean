/-
  The document's exact numbers: determinants; how great they are. No program.
  Natural numbers by their digits: divided by a power of two.
  Natural numbers by their digits: how many bits.
  A number packed as a float's bits, and rounded in a direction: what is computed.
  The document's quotients and roots, worked out to more digits than a float has: they lie in the classes of the true ones.
  The document's intervals around numbers; products, marks.
  What a slot or a cell is read as may be told in another way: where every value that reads as the one reads as the other.
-/
import Derived.Test.YtjlibljfpkmpfaaGreatDoorSv31
import Derived.Test.YtjlibljfpkmpfaaGreatDoorSv16
import Derived.Test.YtjlibljfpkmpfaaGreatDoorSv14
import Derived.Test.YtjlibljfpkmpfaaGreatDoorSv15
import Derived.Test.YtjlibljfpkmpfaaGreatDoorSv21
import Derived.Test.YtjlibljfpkmpfaaGreatDoorSv22
section
set_option linter.unusedSimpArgs false
namespace Go.Enc
open Go.Enc.Nu Go.Enc.Fl
/-- Of so many digits, of an exponent from -L to L. -/
structure Nr (a : Nm) (k L : Nat) : Prop where
  n : a.n < 2 ^ k
  lo : -(L : Int) ≤ a.e
  hi : a.e ≤ L
theorem Nr.mono {a : Nm} {k L k' L' : Nat} (h : Nr a k L) (hk : k ≤ k') (hL : L ≤ L') : Nr a k' L' :=
  ⟨Nat.lt_of_lt_of_le h.n (Nat.pow_le_pow_right (by decide) hk), by have := h.lo; omega, by have := h.hi; omega⟩
theorem Nr.ok {a : Nm} {k L : Nat} (h : Nr a k L) (hL : L ≤ 1000000) : NOk a k := ⟨h.n, by have := h.lo; omega, by have := h.hi; omega⟩
theorem Nr.neg {a : Nm} {k L : Nat} (h : Nr a k L) : Nr (nneg a) k L := ⟨h.n, h.lo, h.hi⟩
theorem nr_zero (k L : Nat) : Nr nzero k L := ⟨Nat.pow_pos (by decide), by show -(L : Int) ≤ 0; omega, by show (0 : Int) ≤ L; omega⟩
theorem Nr.at {a : Nm} {k L : Nat} (h : Nr a k L) {e : Int} (he : -(L : Int) ≤ e) : at_ a e < 2 ^ (k + 2 * L) := by
  unfold at_
  have h1 := h.hi
  have h2 : a.n * 2 ^ (a.e - e).toNat < 2 ^ k * 2 ^ (a.e - e).toNat := Nat.mul_lt_mul_of_pos_right h.n (Nat.pow_pos (by decide))
  rw [← Nat.pow_add] at h2
  exact Nat.lt_of_lt_of_le h2 (Nat.pow_le_pow_right (by decide) (by omega))
theorem Nr.sum {a b : Nm} {k L : Nat} (ha : Nr a k L) (hb : Nr b k L) : Nr (nsum a b) (k + (2 * L + 1)) L := by
  have l1 := ha.lo
  have l2 := hb.lo
  have l3 := ha.hi
  have l4 := hb.hi
  have e : -(L : Int) ≤ lev a b ∧ lev a b ≤ L := by unfold lev; omega
  have h1 := ha.at e.1
  have h2 := hb.at e.1
  have p : (2 : Nat) ^ (k + (2 * L + 1)) = 2 ^ (k + 2 * L) + 2 ^ (k + 2 * L) := by rw [show k + (2 * L + 1) = k + 2 * L + 1 by omega, Nat.pow_succ]; omega
  unfold nsum
  simp only
  split
  · exact ⟨by show _ + _ < _; omega, e.1, e.2⟩
  · split
    · exact nr_zero _ _
    · split
      · exact ⟨by show _ - _ < _; omega, e.1, e.2⟩
      · exact ⟨by show _ - _ < _; omega, e.1, e.2⟩
theorem Nr.prod {a b : Nm} {k L k' L' : Nat} (ha : Nr a k L) (hb : Nr b k' L') : Nr (nprod a b) (k + k') (L + L') := by
  have l1 := ha.lo
  have l2 := hb.lo
  have l3 := ha.hi
  have l4 := hb.hi
  refine ⟨?_, by show _ ≤ a.e + b.e; omega, by show a.e + b.e ≤ _; omega⟩
  show a.n * b.n < _
  rw [Nat.pow_add]
  exact Nat.mul_lt_mul'' ha.n hb.n
/-- Sums, from nothing on. -/
def smN (f : Nat → Nm) : Nat → Nm
  | 0 => nzero
  | m + 1 => nsum (smN f m) (f m)
theorem val_smN (f : Nat → Nm) : ∀ m, val (smN f m) = smR (fun j => val (f j)) m
  | 0 => by simp only [smN, smR]; exact val_zero rfl
  | m + 1 => by simp only [smN, smR]; rw [val_nsum, val_smN f m]
theorem Nr.sm {f : Nat → Nm} {k L : Nat} : ∀ {m : Nat}, (∀ j, j < m → Nr (f j) k L) → Nr (smN f m) (k + m * (2 * L + 1)) L
  | 0, _ => nr_zero _ _
  | m + 1, h => by
    have h1 := Nr.sm (f := f) (m := m) (fun j hj => h j (by omega))
    have h2 := (h m (by omega)).mono (k' := k + m * (2 * L + 1)) (Nat.le_add_right _ _) (Nat.le_refl L)
    have := h1.sum h2
    rw [show k + (m + 1) * (2 * L + 1) = k + m * (2 * L + 1) + (2 * L + 1) by rw [Nat.add_mul, Nat.one_mul]; omega]
    exact this
/-- Without the first row and a column. -/
def mnrN (m : Nat → Nat → Nm) (j : Nat) : Nat → Nat → Nm := fun i k => m (i + 1) (if k < j then k else k + 1)
def detT (x d : Nm) (j : Nat) : Nm := if j % 2 = 1 then nneg (nprod x d) else nprod x d
def detN : Nat → (Nat → Nat → Nm) → Nm
  | 0, _ => ⟨false, 1, 0⟩
  | n + 1, m => smN (fun j => detT (m 0 j) (detN n (mnrN m j)) j) (n + 1)
theorem val_det : ∀ (n : Nat) (m : Nat → Nat → Nm), val (detN n m) = detR n (fun i j => val (m i j))
  | 0, _ => by
    show val ⟨false, 1, 0⟩ = (1 : Rat)
    unfold val
    decide +kernel
  | n + 1, m => by
    simp only [detN, detR]
    rw [val_smN]
    refine smR_congr fun j _ => ?_
    have ih := val_det n (mnrN m j)
    have e : (fun i k => val (mnrN m j i k)) = mnr (fun i j => val (m i j)) j := rfl
    unfold detT
    split
    · rw [val_nneg, val_nprod, ih, e]
    · rw [val_nprod, ih, e]
theorem Nr.detT {x d : Nm} {k L k' L' j : Nat} (hx : Nr x k L) (hd : Nr d k' L') : Nr (detT x d j) (k + k') (L + L') := by
  unfold Go.Enc.detT
  split
  · exact (hx.prod hd).neg
  · exact hx.prod hd
/-- How many digits a determinant has at most. -/
def dK : Nat → Nat
  | 0 => 1
  | n + 1 => 220 + dK n + (n + 1) * (2 * ((n + 1) * 100) + 1)
theorem Nr.det : ∀ {n : Nat} {m : Nat → Nat → Nm}, (∀ i j, i < n → j < n → Nr (m i j) 220 100) → Nr (detN n m) (dK n) (n * 100)
  | 0, _, _ => ⟨by show 1 < 2 ^ 1; decide, by show (-((0 * 100 : Nat) : Int)) ≤ 0; omega, by show (0 : Int) ≤ ((0 * 100 : Nat) : Int); omega⟩
  | n + 1, m, h => by
    simp only [detN, dK]
    refine Nr.sm (L := (n + 1) * 100) fun j hj => ?_
    have hd := Nr.det (n := n) (m := mnrN m j) fun i k hi hk => by
      unfold mnrN
      exact h _ _ (by omega) (by split <;> omega)
    have := (h 0 j (by omega) hj).detT hd (j := j)
    rw [show 100 + n * 100 = (n + 1) * 100 by omega] at this
    exact this
theorem dK_le {n : Nat} (h : n ≤ 4) : dK n ≤ 10000 := by
  rcases (show n = 0 ∨ n = 1 ∨ n = 2 ∨ n = 3 ∨ n = 4 by omega) with rfl | rfl | rfl | rfl | rfl <;> decide
end Go.Enc
end
section
set_option linter.unusedSimpArgs false
namespace Go.Enc
open Go.Proofs Go.Enc.Dg Go.Enc.Nu
/-- What the second walk of down makes. -/
structure DInv (l : List Nat) (m p V u : Nat) (c : List Nat) (x : Nat) : Prop where
  dig : Dig c
  len : c.length = u
  val : vl c * p + V = vl ((l.drop m).take u) + B ^ u * (x % p)
end Go.Enc
end
section
set_option linter.unusedSimpArgs false
namespace Go.Enc
open Go.Proofs Go.Enc.Dg Go.Enc.Nu
end Go.Enc
end
section
set_option linter.unusedSimpArgs false
set_option maxRecDepth 100000
namespace Go.Enc
open Go.Proofs Go.Enc.Dg Go.Enc.Nu
/-- The facts of a great number. -/
structure Big (n k q r : Nat) : Prop where
  sz : nbits n = k + 53
  lo : 4503599627370496 ≤ q
  hi : q < 9007199254740992
  q : n / 2 ^ k = q
  r : n % 2 ^ k = r
end Go.Enc
end
section
namespace Go.Enc.Nu
open Go.Enc.Fl
/-- Two numbers on the same side of each float. -/
structure Sd (X Y : Rat) : Prop where
  le : ∀ i : Int, v i ≤ X ↔ v i ≤ Y
  ge : ∀ i : Int, X ≤ v i ↔ Y ≤ v i
theorem Sd.refl (X : Rat) : Sd X X := ⟨fun _ => Iff.rfl, fun _ => Iff.rfl⟩
theorem Sd.neg {X Y : Rat} (h : Sd X Y) : Sd (-X) (-Y) := by
  refine ⟨fun i => ?_, fun i => ?_⟩
  · have := h.ge (-i)
    rw [v_neg] at this
    constructor <;> intro g
    · have := this.1 (by grind); grind
    · have := this.2 (by grind); grind
  · have := h.le (-i)
    rw [v_neg] at this
    constructor <;> intro g
    · have := this.1 (by grind); grind
    · have := this.2 (by grind); grind
theorem Sd.lt {X Y : Rat} (h : Sd X Y) (i : Int) : X < v i ↔ Y < v i := by
  have := h.le i
  rw [← Rat.not_le, ← Rat.not_le, this]
theorem Sd.gt {X Y : Rat} (h : Sd X Y) (i : Int) : v i < X ↔ v i < Y := by
  have := h.ge i
  rw [← Rat.not_le, ← Rat.not_le, this]
/-- A number with a mark behind it. -/
def nmark (neg : Bool) (q : Nat) (e : Int) (whole : Bool) : Nm := ⟨neg && decide (0 < 2 * q + (!whole).toNat), 2 * q + (!whole).toNat, e - 1⟩
def mag (a : Nm) : Rat := (a.n : Rat) * 2 ^ a.e
/-- A whole root. -/
def isq (n : Nat) : Nat := Ieee.Datum.rootFrom n (n.log2 / 2 + 1) 0
theorem isq_spec (n : Nat) : isq n * isq n ≤ n ∧ n < (isq n + 1) * (isq n + 1) := isqrt_spec n
def rootk (e : Int) : Nat := if (e - 130) % 2 = 0 then 130 else 131
def nroot (a : Nm) : Nm := nmark false (isq (a.n * 2 ^ rootk a.e)) ((a.e - (rootk a.e : Int)) / 2) (decide (isq (a.n * 2 ^ rootk a.e) * isq (a.n * 2 ^ rootk a.e) = a.n * 2 ^ rootk a.e))
end Go.Enc.Nu
end
section
set_option linter.unusedSimpArgs false
set_option maxRecDepth 100000
namespace Go.Enc
open Go.Proofs Go.Enc.Dg Go.Enc.Nu
theorem product_c (E : Nat → Option Value) {a b : Nm} {k : Nat} (ha : NOk a k) (hb : NOk b k) (hk : k ≤ 10000000) : DCall Tryz.prog E 53 [nmD a, nmD b] (.data (nmD (nprod a b))) := by
  refine dcall_of Tryz.func53 rfl (by kernel_rfl) Tryz.ntmps53 (by kernel_rfl) (by simp) (rs := [.cell 4 70]) rfl ?_
  rintro ⟨P, E, σ0, w0, base, n, kb, df, G0⟩ rfl rfl rfl rfl
  obtain ⟨na, n, e⟩ := a
  obtain ⟨nb, m, f⟩ := b
  obtain ⟨h1, h2, h3⟩ := ha
  obtain ⟨g1, g2, g3⟩ := hb
  simp only at h1 h2 h3 g1 g2 g3
  have w : IntKind.i64.wrap (e + f) = e + f := w64 (by omega)
  simp -implicitDefEqProofs only [go_sem]
  refine Call.intro (times_c _ (h1.sm (by omega)) (g1.sm (by omega))) ?_
  have l0 := lenpos (n * m)
  have eff : (false == false) = true := by decide
  have eft : (false == true) = false := by decide
  have etf : (true == false) = false := by decide
  have ett : (true == true) = true := by decide
  cases na <;> cases nb
  · have hp : nprod ⟨false, n, e⟩ ⟨false, m, f⟩ = ⟨false, n * m, e + f⟩ := rfl
    rw [hp]
    simp -implicitDefEqProofs only [go_sem, w, l0, eff]
  · have hp : nprod ⟨false, n, e⟩ ⟨true, m, f⟩ = ⟨decide (0 < n * m), n * m, e + f⟩ := rfl
    rw [hp]
    simp -implicitDefEqProofs only [go_sem, w, l0, eft]
  · have hp : nprod ⟨true, n, e⟩ ⟨false, m, f⟩ = ⟨decide (0 < n * m), n * m, e + f⟩ := rfl
    rw [hp]
    simp -implicitDefEqProofs only [go_sem, w, l0, etf]
  · have hp : nprod ⟨true, n, e⟩ ⟨true, m, f⟩ = ⟨false, n * m, e + f⟩ := rfl
    rw [hp]
    simp -implicitDefEqProofs only [go_sem, w, l0, ett]
/-- An interval's datum: its cells lie flat. -/
abbrev nvD (a b : Nm) : D := .agg [bD a.neg, natD a.n, intD a.e, bD b.neg, natD b.n, intD b.e]
attribute [go_sem] nvD
end Go.Enc
end
section
set_option linter.unusedSimpArgs false
namespace Go.Enc
open Go.RowKit
section
variable {C : Ctx} {σ : Mem} {G : Gh} {s : St} {a : Act} {w : World} {Q : Exit → St → Prop}
theorem set_self' {α : Type} {l : List α} {j : Nat} {u : α} (h : l[j]? = some u) : l.set j u = l := by
  apply List.ext_getElem?
  intro i
  rw [List.getElem?_set]
  by_cases e : j = i
  · subst e
    have hl : j < l.length := by
      rcases Nat.lt_or_ge j l.length with g | g
      · exact g
      · rw [List.getElem?_eq_none g] at h; cases h
    rw [if_pos rfl, if_pos hl, h]
  · rw [if_neg e]
theorem Stands.cell_as (S : Stands C σ G s a w) {k : Nat} {o : Obj} {j : Nat} {x y : D} (h : s.h k = some o) (hx : o.cells[j]? = some (.d x)) (hr : ∀ σ u, Rep σ x u → Rep σ y u) : Stands C σ G { t := s.t, h := upd s.h k (some ⟨o.vec, o.cells.set j (.d y)⟩) } a w := by
  have liv : ∀ k', s.h k' ≠ none → upd s.h k (some ⟨o.vec, o.cells.set j (.d y)⟩) k' ≠ none := fun k' hk => by
    simp only [upd]
    split
    · simp
    · exact hk
  have some' : ∀ {k' o'}, upd s.h k (some ⟨o.vec, o.cells.set j (.d y)⟩) k' = some o' → ∃ o'', s.h k' = some o'' := fun {k' o'} hk => by
    simp only [upd] at hk
    split at hk
    · rename_i e; subst e; exact ⟨o, h⟩
    · exact ⟨o', hk⟩
  have cel : ∀ us : List Value, RepTU σ G o.cells us → RepTU σ G (o.cells.set j (.d y)) us := fun us hu => by
    obtain ⟨u, h1, h2, h3⟩ := hu.get j _ hx
    have := hu.set j (.d y) u h2 (hr _ _ h3)
    rw [set_self' h1] at this
    exact this
  exact { S with
    live := fun i k' hk => liv k' (S.live i k' hk)
    obj := fun k' o' hk => by
      simp only [upd] at hk
      split at hk
      · rename_i e
        subst e
        cases hk
        have := S.obj k' o h
        unfold ObjIs at this ⊢
        cases hv : o.vec with
        | none =>
          rw [hv] at this
          obtain ⟨b, us, ty, h1, h2, h3, h4, h5⟩ := this
          exact ⟨b, us, ty, h1, h2, h3, cel _ h4, h5⟩
        | some p =>
          obtain ⟨e, size, nn⟩ := p
          rw [hv] at this
          obtain ⟨n, us, h1, h2, h3, h4⟩ := this
          refine ⟨n, us, h1, cel _ h2, h3, fun hn hc => h4 hn ?_⟩
          have hc' : o.cells.set j (.d y) = [] := hc
          have hl : (o.cells.set j (.d y)).length = 0 := by rw [hc']; rfl
          rw [List.length_set] at hl
          exact List.eq_nil_of_length_eq_zero hl
      · exact S.obj k' o' hk
    deep := fun k' o' hk c hc k'' hr' => by
      simp only [upd] at hk
      split at hk
      · rename_i e
        subst e
        cases hk
        rcases List.mem_or_eq_of_mem_set hc with hc | rfl
        · exact liv _ (S.deep k' o h c hc k'' hr')
        · simp [T.ref] at hr'
      · exact liv _ (S.deep k' o' hk c hc k'' hr')
    sep := fun k1 k2 o1 o2 b h1 h2 => by
      obtain ⟨o1', e1⟩ := some' h1
      obtain ⟨o2', e2⟩ := some' h2
      exact S.sep k1 k2 o1' o2' b e1 e2
    own := fun k' o' b h1 => by
      obtain ⟨o1', e1⟩ := some' h1
      exact S.own k' o1' b e1
    fin := by
      obtain ⟨N, hN⟩ := S.fin
      refine ⟨max N (k + 1), fun k' hk => ?_⟩
      simp only [upd]
      rw [if_neg (by omega)]
      exact hN k' (by omega) }
theorem dwp_cell {c : Code} (k j : Nat) {o : Obj} {x : D} (y : D) (h : s.h k = some o) (hx : o.cells[j]? = some (.d x)) (hr : ∀ σ u, Rep σ x u → Rep σ y u) (hd : DWp C c Q { t := s.t, h := upd s.h k (some ⟨o.vec, o.cells.set j (.d y)⟩) }) : DWp C c Q s :=
  fun σ G a w S => hd σ G a w (S.cell_as h hx hr)
theorem rep_nil (n : Nat) : ∀ (σ : Mem) (u : Value), Rep σ (.v (.slice none 0 0)) u → Rep σ (.sl n []) u := fun σ u h => by
  simp only [Rep] at h ⊢
  exact .inl ⟨h, trivial⟩
end
end Go.Enc
end
