/-
  A system of rows that are written, as blocks; the row that is surely the greatest is laid at its place.
-/
import Derived.Test.YtjlibljfpkmpfaaGreatDoorSv25
set_option linter.unusedSimpArgs false
set_option maxRecDepth 100000
namespace Go.Enc
open Go.Proofs Go.Enc.Fl Go.RowKit
/-- A row of intervals, cell by cell. -/
def ivT (f : Nat → Nat × Nat) : Nat → List T
  | 0 => []
  | m + 1 => ivT f m ++ [.d (flD (f m).1), .d (flD (f m).2)]
theorem ivT_len (f : Nat → Nat × Nat) : ∀ m, (ivT f m).length = m * 2
  | 0 => rfl
  | m + 1 => by simp only [ivT, List.length_append, ivT_len f m, List.length_cons, List.length_nil]; omega
theorem ivT_get (f : Nat → Nat × Nat) : ∀ m j, j < m → (ivT f m)[j * 2]? = some (.d (flD (f j).1)) ∧ (ivT f m)[j * 2 + 1]? = some (.d (flD (f j).2))
  | m + 1, j, h => by
    simp only [ivT]
    rcases Nat.lt_or_ge j m with h1 | h1
    · rw [List.getElem?_append_left (by rw [ivT_len]; omega), List.getElem?_append_left (by rw [ivT_len]; omega)]
      exact ivT_get f m j h1
    · have e : j = m := by omega
      subst e
      rw [List.getElem?_append_right (by rw [ivT_len]; omega), List.getElem?_append_right (by rw [ivT_len]; omega), ivT_len]
      simp
theorem take_two {α : Type} {l : List α} {i : Nat} {x y : α} (h1 : l[i]? = some x) (h2 : l[i + 1]? = some y) : (l.drop i).take 2 = [x, y] := by
  have hl : i + 1 < l.length := by
    rcases Nat.lt_or_ge (i + 1) l.length with h | h
    · exact h
    · rw [List.getElem?_eq_none h] at h2; cases h2
  rw [List.drop_eq_getElem_cons (by omega), List.drop_eq_getElem_cons hl]
  rw [List.getElem?_eq_getElem (by omega)] at h1
  rw [List.getElem?_eq_getElem hl] at h2
  cases h1; cases h2
  rfl
theorem ivT_take (f : Nat → Nat × Nat) {m j : Nat} (h : j < m) : ((ivT f m).drop (j * 2)).take 2 = [.d (flD (f j).1), .d (flD (f j).2)] := take_two (ivT_get f m j h).1 (ivT_get f m j h).2
theorem ivT_congr {f g : Nat → Nat × Nat} : ∀ {m : Nat}, (∀ j, j < m → f j = g j) → ivT f m = ivT g m
  | 0, _ => rfl
  | m + 1, h => by simp only [ivT]; rw [ivT_congr (fun j hj => h j (by omega)), h m (by omega)]
theorem ivT_set (f : Nat → Nat × Nat) (x : Nat × Nat) : ∀ m j, j < m → ((ivT f m).set (j * 2) (.d (flD x.1))).set (j * 2 + 1) (.d (flD x.2)) = ivT (upd f j x) m
  | m + 1, j, h => by
    simp only [ivT]
    rcases Nat.lt_or_ge j m with h1 | h1
    · rw [List.set_append_left _ _ (by rw [ivT_len]; omega), List.set_append_left _ _ (by rw [List.length_set, ivT_len]; omega), ivT_set f x m j h1, upd_ne f x (show m ≠ j by omega)]
    · have e : j = m := by omega
      subst e
      rw [List.set_append_right _ _ (by rw [ivT_len]; omega), List.set_append_right _ _ (by rw [ivT_len]; omega), ivT_len, upd_same]
      have e1 : j * 2 - j * 2 = 0 := by omega
      have e2 : j * 2 + 1 - j * 2 = 1 := by omega
      rw [e1, e2, ivT_congr (g := upd f j x) (fun i hi => (upd_ne f x (show i ≠ j by omega)).symm)]
      rfl
theorem ivT_ref {f : Nat → Nat × Nat} : ∀ {m : Nat} {c : T}, c ∈ ivT f m → c.ref = none
  | m + 1, c, h => by
    simp only [ivT, List.mem_append, List.mem_cons, List.not_mem_nil, or_false] at h
    rcases h with h | rfl | rfl
    · exact ivT_ref h
    · rfl
    · rfl
/-- Rows, by their keys. -/
def gsT (κ : Nat → Nat) (n : Nat) : List T := (List.range n).map fun i => .gs (κ i)
theorem gsT_len (κ : Nat → Nat) (n : Nat) : (gsT κ n).length = n := by simp [gsT]
theorem gsT_get (κ : Nat → Nat) {n i : Nat} (h : i < n) : (gsT κ n)[i]? = some (.gs (κ i)) := by
  simp [gsT, List.getElem?_map, List.getElem?_range, h]
theorem gsT_mem {κ : Nat → Nat} {n : Nat} {c : T} (h : c ∈ gsT κ n) : ∃ i, i < n ∧ c = .gs (κ i) := by
  simp only [gsT, List.mem_map, List.mem_range] at h
  obtain ⟨i, hi, rfl⟩ := h
  exact ⟨i, hi, rfl⟩
/-- Two places exchanged. -/
def swp {α : Type} (f : Nat → α) (i j : Nat) : Nat → α := fun x => if x = j then f i else if x = i then f j else f x
theorem gsT_set (κ : Nat → Nat) {n i j : Nat} (hi : i < n) (hj : j < n) : ((gsT κ n).set i (.gs (κ j))).set j (.gs (κ i)) = gsT (swp κ i j) n := by
  apply List.ext_getElem?
  intro x
  rcases Nat.lt_or_ge x n with h | h
  · rw [gsT_get _ h, List.getElem?_set, List.getElem?_set]
    simp only [List.length_set, gsT_len, swp]
    by_cases h1 : x = j
    · subst h1; simp [hj]
    · rw [if_neg (fun e => h1 e.symm), if_neg h1]
      by_cases h2 : x = i
      · subst h2; simp [hi]
      · rw [if_neg (fun e => h2 e.symm), if_neg h2]; exact gsT_get κ h
  · rw [List.getElem?_eq_none (by rw [List.length_set, List.length_set, gsT_len]; exact h), List.getElem?_eq_none (by rw [gsT_len]; exact h)]
abbrev rowO (f : Nat → Nat × Nat) (m : Nat) : Obj := ⟨some (59, 2, true), ivT f m⟩
abbrev rowsO (κ : Nat → Nat) (n : Nat) : Obj := ⟨some (154, 1, true), gsT κ n⟩
/-- The blocks of a system of n rows. -/
structure Sys (H : Nat → Option Obj) (ks kR : Nat) (κ : Nat → Nat) (n : Nat) (A : Nat → Nat → Nat × Nat) (e : D) : Prop where
  s : H ks = some ⟨none, [.gs kR, .hid e]⟩
  r : H kR = some (rowsO κ n)
  row : ∀ i, i < n → H (κ i) = some (rowO (A i) (n + 1))
  inj : ∀ i j, i < n → j < n → κ i = κ j → i = j
section
variable {H : Nat → Option Obj} {ks kR n : Nat} {κ : Nat → Nat} {A : Nat → Nat → Nat × Nat} {e : D}
theorem Sys.ne1 (S : Sys H ks kR κ n A e) : ks ≠ kR := fun h => by have := S.s; rw [h, S.r] at this; cases this
theorem Sys.ne2 (S : Sys H ks kR κ n A e) {i : Nat} (hi : i < n) : ks ≠ κ i := fun h => by have := S.s; rw [h, S.row i hi] at this; cases this
theorem Sys.ne3 (S : Sys H ks kR κ n A e) {i : Nat} (hi : i < n) : kR ≠ κ i := fun h => by have := S.r; rw [h, S.row i hi] at this; cases this
/-- The rows in another order. -/
theorem Sys.swap (S : Sys H ks kR κ n A e) {i j : Nat} (hi : i < n) (hj : j < n) : Sys (upd H kR (some (rowsO (swp κ i j) n))) ks kR (swp κ i j) n (swp A i j) e := by
  have hl : ∀ x, x < n → ∃ y, y < n ∧ swp κ i j x = κ y ∧ swp A i j x = A y ∧ y = (if x = j then i else if x = i then j else x) := fun x hx => by
    unfold swp
    by_cases h1 : x = j
    · exact ⟨i, hi, by simp [h1], by simp [h1], by simp [h1]⟩
    · by_cases h2 : x = i
      · exact ⟨j, hj, by simp only [if_neg h1, if_pos h2], by simp only [if_neg h1, if_pos h2], by simp only [if_neg h1, if_pos h2]⟩
      · exact ⟨x, hx, by simp only [if_neg h1, if_neg h2], by simp only [if_neg h1, if_neg h2], by simp only [if_neg h1, if_neg h2]⟩
  refine ⟨by rw [upd_ne _ _ S.ne1]; exact S.s, upd_same _ _ _, fun x hx => ?_, fun x y hx hy h => ?_⟩
  · obtain ⟨y, hy, e1, e2, _⟩ := hl x hx
    rw [e1, e2, upd_ne _ _ (S.ne3 hy).symm]
    exact S.row y hy
  · obtain ⟨x', hx', e1, _, g1⟩ := hl x hx
    obtain ⟨y', hy', e2, _, g2⟩ := hl y hy
    rw [e1, e2] at h
    have := S.inj x' y' hx' hy' h
    rw [g1, g2] at this
    split at this <;> split at this <;> (try split at this) <;> (try split at this) <;> omega
/-- One interval written. -/
theorem Sys.write (S : Sys H ks kR κ n A e) {i : Nat} (hi : i < n) (f : Nat → Nat × Nat) : Sys (upd H (κ i) (some (rowO f (n + 1)))) ks kR κ n (upd A i f) e := by
  refine ⟨by rw [upd_ne _ _ (S.ne2 hi)]; exact S.s, by rw [upd_ne _ _ (S.ne3 hi)]; exact S.r, fun x hx => ?_, S.inj⟩
  by_cases h : x = i
  · subst h; rw [upd_same, upd_same]
  · rw [upd_ne A f h, upd_ne _ _ (fun q => h (S.inj x i hx hi q))]
    exact S.row x hx
theorem Sys.err (S : Sys H ks kR κ n A e) (e' : D) : Sys (upd H ks (some ⟨none, [.gs kR, .hid e']⟩)) ks kR κ n A e' :=
  ⟨upd_same _ _ _, by rw [upd_ne _ _ S.ne1.symm]; exact S.r, fun x hx => by rw [upd_ne _ _ (S.ne2 hx).symm]; exact S.row x hx, S.inj⟩
end
/-- The greatest amount of an end, of the first ones. -/
def mostF (f : Nat → Nat × Nat) (k : Nat) : Nat → Nat
  | 0 => 0
  | m + 1 => (pickF true ((pickF true (mostF f k m) (fneg (f (k + m)).1)).getD 0) (f (k + m)).2).getD 0
theorem mostF_spec {f : Nat → Nat × Nat} {k m : Nat} (h : ∀ j, j < m → Gd (f (k + j))) : ∀ j, j ≤ m → Fl.Fin (mostF f k j) ∧ mostF f k j < 18446744073709551616
  | 0, _ => ⟨show Fl.Fin 0 by decide, by simp [mostF]⟩
  | j + 1, hj => by
    have g := h j (by omega)
    have o1 := okB_ng (gd_ok1 g)
    have o2 := gd_ok2 g
    have ih := mostF_spec h j (by omega)
    obtain ⟨z, e1, h1, _⟩ := pickF_spec true ih.1.num o1.fin.num
    have nz : Fl.Fin z ∧ z < 18446744073709551616 := by
      rcases h1 with h1 | h1 <;> rw [h1]
      · exact ih
      · exact ⟨o1.fin, o1.1⟩
    obtain ⟨y, e2, h2, _⟩ := pickF_spec true nz.1.num o2.fin.num
    simp only [mostF, e1, Option.getD_some, e2]
    rcases h2 with h2 | h2 <;> rw [h2]
    · exact nz
    · exact ⟨o2.fin, o2.1⟩
theorem mostF_step {f : Nat → Nat × Nat} {k m : Nat} (h : ∀ j, j < m → Gd (f (k + j))) {j : Nat} (hj : j < m) :
    ∃ z, pickF true (mostF f k j) (fneg (f (k + j)).1) = some z ∧ pickF true z (f (k + j)).2 = some (mostF f k (j + 1)) ∧ idx (mostF f k (j + 1)) = max (max (idx (mostF f k j)) (-idx (f (k + j)).1)) (idx (f (k + j)).2) := by
  have g := h j hj
  have n1 : Num (fneg (f (k + j)).1) := (okB_ng (gd_ok1 g)).fin.num
  have n2 := (gd_ok2 g).fin.num
  have ih := (mostF_spec h j (by omega)).1.num
  obtain ⟨z, e1, h1, i1⟩ := pickF_spec true ih n1
  have nz : Num z := by
    rcases h1 with h1 | h1 <;> rw [h1]
    · exact ih
    · exact n1
  obtain ⟨y, e2, h2, i2⟩ := pickF_spec true nz n2
  simp only [if_true] at i1 i2
  have ey : mostF f k (j + 1) = y := by simp only [mostF, e1, Option.getD_some, e2]
  refine ⟨z, e1, by rw [ey]; exact e2, ?_⟩
  rw [ey, i2, i1, (fneg_spec (gd_ok1 g).1).1]
theorem mostF_ge {f : Nat → Nat × Nat} {k m : Nat} (h : ∀ j, j < m → Gd (f (k + j))) : ∀ j, j ≤ m → 0 ≤ idx (mostF f k j) ∧ ∀ i, i < j → -idx (f (k + i)).1 ≤ idx (mostF f k j) ∧ idx (f (k + i)).2 ≤ idx (mostF f k j)
  | 0, _ => ⟨by show 0 ≤ idx 0; decide, fun i hi => by omega⟩
  | j + 1, hj => by
    obtain ⟨_, _, _, e⟩ := mostF_step h (j := j) (by omega)
    obtain ⟨h1, h2⟩ := mostF_ge h j (by omega)
    refine ⟨by omega, fun i hi => ?_⟩
    rcases Nat.lt_or_ge i j with g | g
    · have := h2 i g; omega
    · have e2 : i = j := by omega
      subst e2; omega
theorem leastB_spec {a : Nat × Nat} (g : Gd a) : Fl.Fin (leastB a) ∧ (has0 a = true → leastB a = 0) ∧ (has0 a = false → idx (leastB a) = min (a.1 % 2 ^ 63 : Nat) (a.2 % 2 ^ 63 : Nat)) := by
  have f1 := (gd_ok1 g).fin
  have f2 := (gd_ok2 g).fin
  have n1 := num_abs.2 f1.num
  have n2 := num_abs.2 f2.num
  obtain ⟨z, e, h, hi⟩ := pickF_spec false n1 n2
  unfold leastB
  rw [e, Option.getD_some]
  refine ⟨?_, fun h => by rw [if_pos h], fun h => ?_⟩
  · split
    · show Fl.Fin 0; decide
    · rcases h with h | h <;> rw [h]
      · unfold Fl.Fin at *; rw [Nat.mod_mod]; exact f1
      · unfold Fl.Fin at *; rw [Nat.mod_mod]; exact f2
  · rw [if_neg (by simp [h]), hi, idx_abs, idx_abs]
    simp only [Bool.false_eq_true, if_false]
    omega
/-- How surely a row is the greatest; none: no number. -/
def valO (A : Nat → Nat → Nat × Nat) (n k i : Nat) : Option Nat := FloatKind.f64.format.div (leastB (A i k)) (mostF (A i) k (n - k))
/-- Is that value above? -/
def abv (v : Option Nat) (b : Nat) : Bool := match v with
  | some v => FloatKind.f64.format.order v b == some Ordering.gt
  | none => false
/-- The best of the first rows: its value, its number. -/
def pvS (A : Nat → Nat → Nat × Nat) (n k : Nat) : Nat → Nat × Int
  | 0 => (0, -1)
  | m + 1 => if abv (valO A n k (k + m)) (pvS A n k m).1 = true then ((valO A n k (k + m)).getD 0, ((k + m : Nat) : Int)) else pvS A n k m
theorem pvS_at (A : Nat → Nat → Nat × Nat) (n k : Nat) : ∀ m, (pvS A n k m).2 = -1 ∨ ∃ i, k ≤ i ∧ i < k + m ∧ (pvS A n k m).2 = (i : Int)
  | 0 => .inl rfl
  | m + 1 => by
    simp only [pvS]
    split
    · exact .inr ⟨k + m, by omega, by omega, rfl⟩
    · rcases pvS_at A n k m with h | ⟨i, h1, h2, h3⟩
      · exact .inl h
      · exact .inr ⟨i, h1, by omega, h3⟩
/-- No number is not above. -/
theorem nan_order {r b : Nat} (h : ¬ (r % 9223372036854775808 ≤ 9218868437227405312)) : (FloatKind.f64.format.order r b == some Ordering.gt) = false := by
  have hr : Ieee.double.read r = Ieee.double.read r := rfl
  obtain ⟨t, ht⟩ := read_nan (b := r) (by unfold inf; omega)
  have : Ieee.double.order r b = none := by
    unfold Ieee.Format.order
    rw [ht]
    cases Ieee.double.read b <;> rfl
  show (Ieee.double.order r b == some Ordering.gt) = false
  rw [this]; rfl
end Go.Enc
