/-
  Make: the program's by its contract; it answers as the document's.
-/
import Derived.Test.YtjlibljfpkmpfaaGreatDoorSv12
import Derived.Test.YtjlibljfpkmpfaaGreatDoorSv16
set_option linter.unusedSimpArgs false
namespace Go.Enc
open Go.Proofs Go.Enc.Fl Go.Enc.Dg Go.Enc.Nu
theorem posB_lt {b : Nat} (h : b < 18446744073709551616) : posB b < 18446744073709551616 := by unfold posB; split <;> omega
theorem posB_pos (b : Nat) : posB (posB b) = posB b := by
  unfold posB
  split
  · simp
  · rfl
theorem plainB_eq {b : Nat} (h : b < 18446744073709551616) : (nplain b).2 = plainB b := by
  unfold nplain plainB
  simp only
  have e : b % 2 ^ 63 = b / 4503599627370496 % 2048 * 4503599627370496 + b % 4503599627370496 := by omega
  have h1 : b / 4503599627370496 % 2048 < 2048 := Nat.mod_lt _ (by decide)
  have h2 : b % 4503599627370496 < 4503599627370496 := Nat.mod_lt _ (by decide)
  generalize b % 2 ^ 63 = r at *
  generalize b / 4503599627370496 % 2048 = x at *
  generalize b % 4503599627370496 = f at *
  split
  · symm; apply decide_eq_true; omega
  · split
    · symm; apply decide_eq_false; omega
    · symm; apply decide_eq_true; omega
theorem nplain_val {b : Nat} (h : b < 18446744073709551616) (hp : plainB b = true) : val (nplain b).1 = v (idx b) := by
  have hp' := plainB_eq h
  rw [hp] at hp'
  by_cases hz : (nplain b).1 = nzero
  · have h0 : b % 2 ^ 63 = 0 := by
      unfold nplain at hz hp'
      simp only at hz hp'
      have e : b % 2 ^ 63 = b / 4503599627370496 % 2048 * 4503599627370496 + b % 4503599627370496 := by omega
      generalize b % 2 ^ 63 = r at *
      generalize b / 4503599627370496 % 2048 = x at *
      generalize b % 4503599627370496 = f at *
      split at hz
      · omega
      · rename_i h1
        rw [if_neg h1] at hp'
        split at hz
        · rename_i h2; rw [if_pos h2] at hp'; cases hp'
        · exact absurd (congrArg Nm.n hz) (by show f + 4503599627370496 ≠ 0; omega)
    rw [hz, val_zero (a := nzero) rfl, (idx_zero (b := b)).2 h0, v_zero]
  · obtain ⟨p1, p2, p3, p4, p5⟩ := nplain_ok hz
    have e : b % 2 ^ 63 = (b / 4503599627370496 % 2048 - 1) * 2 ^ 52 + (b % 4503599627370496 + 4503599627370496) := by omega
    have hs : (decide (b / 9223372036854775808 = 1)) = decide (b / 2 ^ 63 % 2 = 1) := by congr 1; rw [eq_iff_iff]; omega
    rw [p2]
    have h2 : b % 4503599627370496 < 4503599627370496 := Nat.mod_lt _ (by decide)
    generalize b / 4503599627370496 % 2048 = x at *
    generalize b % 4503599627370496 = f at *
    have hv : v ((b % 2 ^ 63 : Nat) : Int) = ((f + 4503599627370496 : Nat) : Rat) * 2 ^ ((x : Int) - 1075) := by
      rw [e, v_nat, V_of _ _ (by omega) (.inr (by omega))]
      unfold u
      rw [mul_zpow]
      congr 2
      omega
    unfold val idx
    simp only [hs]
    by_cases hn : b / 2 ^ 63 % 2 = 1
    · rw [if_pos hn, v_neg, hv]
      simp only [decide_eq_true hn, if_true]
      grind
    · rw [if_neg hn, hv]
      simp only [decide_eq_false hn, Bool.false_eq_true, if_false]
theorem less_idx {a b : Nat} (ha : a < 18446744073709551616) (hb : b < 18446744073709551616) (pa : plainB a = true) (pb : plainB b = true) : nless (nplain a).1 (nplain b).1 = decide (idx a < idx b) := by
  rw [nless_iff, nplain_val ha pa, nplain_val hb pb]
  congr 1
  rw [eq_iff_iff, v_lt_iff]
theorem plainB_num {b : Nat} (h : plainB b = true) : Fl.Fin b := by
  have := of_decide_eq_true h
  unfold Fl.Fin inf
  omega
set_option maxRecDepth 100000 in
theorem add0 : Ieee.double.add 0 0 = some 0 ∧ Ieee.double.add 9223372036854775808 0 = some 0 := by decide +kernel
theorem add_pos {b : Nat} (h : b < 18446744073709551616) (hp : plainB b = true) : FloatKind.f64.format.add b 0 = some (posB b) := by
  show Ieee.double.add b 0 = some (posB b)
  by_cases h0 : b % 2 ^ 63 = 0
  · have : b = 0 ∨ b = 9223372036854775808 := by omega
    rcases this with rfl | rfl
    · exact add0.1
    · exact add0.2
  · have hf := plainB_num hp
    obtain ⟨r, hr, hN⟩ := add_spec hf (show Fl.Fin 0 by decide)
    rw [hr]
    have hpos : posB b = b := by unfold posB; rw [if_neg (by omega)]
    rw [hpos]
    congr 1
    obtain ⟨⟨i, hi, hc⟩, hlt, _⟩ := hN
    have e0 : v (idx b) + v (idx 0) = v (idx b) := by
      rw [show idx 0 = 0 by decide, v_zero]; grind
    rw [e0] at hi
    have hi' := hi.exact
    have hff := idx_fin.1 hf
    rw [hi', clamp_in (by omega) (by omega)] at hc
    unfold idx at hc
    split at hc <;> split at hc <;> omega
theorem makeB_cases {lo hi : Nat} (h1 : lo < 18446744073709551616) (h2 : hi < 18446744073709551616) :
    ((plainB lo = false ∨ plainB hi = false) → makeB lo hi = ((0, 0), 1)) ∧ (¬ (plainB lo = false ∨ plainB hi = false) → (idx hi < idx lo → makeB lo hi = ((0, 0), 2)) ∧ (¬ idx hi < idx lo → makeB lo hi = ((posB lo, posB hi), 0))) := by
  have e1 := plainB_eq h1
  have e2 := plainB_eq h2
  unfold makeB makeK
  rw [e1, e2]
  refine ⟨fun h => if_pos h, fun h => ?_⟩
  rw [if_neg h]
  have e3 := less_idx h2 h1 (by cases hx : plainB hi; exact absurd (.inr hx) h; rfl) (by cases hx : plainB lo; exact absurd (.inl hx) h; rfl)
  rw [e3]
  exact ⟨fun h => if_pos (decide_eq_true h), fun h => if_neg (by simp [h])⟩
/-- The nine errors. -/
abbrev eD (q : Nat → Addr) (i : Nat) : D := .v (errV (q i))
/-- An interval's datum. -/
abbrev ivD (x : Nat × Nat) : D := .agg [flD x.1, flD x.2]
attribute [go_sem] ivD flD u64D
def makeP (q : Nat → Addr) (lo hi : Nat) : D :=
  if plainB lo = false ∨ plainB hi = false then .tup [ivD (0, 0), eD q 0] else if idx hi < idx lo then .tup [ivD (0, 0), eD q 1] else .tup [ivD (posB lo, posB hi), .v .nilIface]
set_option maxRecDepth 100000 in
theorem imake_c {E : Nat → Option Value} {q : Nat → Addr} (hq : Sent E q) {lo hi : Nat} (h1 : lo < 18446744073709551616) (h2 : hi < 18446744073709551616) : DCall Tryz.prog E 30 [flD lo, flD hi] (.data (makeP q lo hi)) := by
  unfold makeP
  refine dcall_of Tryz.func30 rfl (by kernel_rfl) Tryz.ntmps30 (by kernel_rfl) (by simp) (rs := [.cell 4 59, .tmp 5]) rfl ?_
  rintro ⟨P, E, σ0, w0, base, n, kb, df, G0⟩ rfl rfl rfl rfl
  have p1 := plain_c E h1
  have p2 := plain_c E h2
  have e0 : E 0 = some (errV (q 0)) := hq.var 0 (by decide)
  have e1 : E 1 = some (errV (q 1)) := hq.var 1 (by decide)
  simp -implicitDefEqProofs only [go_sem]
  refine Call.intro p1 ?_
  cases hx : plainB lo
  · simp -implicitDefEqProofs only [go_sem, boolD]
    refine drawn_intro (by kernel_rfl) (by kernel_rfl) (by kernel_rfl) ?_
    simp -implicitDefEqProofs only [go_sem, e0, errV, true_or]
    refine fin_many ?_
    simp -implicitDefEqProofs only [go_sem, errV]
  · simp -implicitDefEqProofs only [go_sem, boolD]
    refine Call.intro p2 ?_
    cases hy : plainB hi
    · simp -implicitDefEqProofs only [go_sem, boolD]
      refine drawn_intro (by kernel_rfl) (by kernel_rfl) (by kernel_rfl) ?_
      simp -implicitDefEqProofs only [go_sem, e0, errV, or_true]
      refine fin_many ?_
      simp -implicitDefEqProofs only [go_sem, errV]
    · have hg : (FloatKind.f64.format.order lo hi == some Ordering.gt) = decide (idx hi < idx lo) := ord_gt (plainB_num hx).num (plainB_num hy).num
      have a1 := add_pos h1 hx
      have a2 := add_pos h2 hy
      simp -implicitDefEqProofs only [go_sem, boolD, hg, or_self, if_false]
      refine cond_intro (fun h => ?_) (fun h => ?_)
      · have h' := of_decide_eq_true h
        simp -implicitDefEqProofs only [go_sem]
        refine drawn_intro (by kernel_rfl) (by kernel_rfl) (by kernel_rfl) ?_
        simp -implicitDefEqProofs only [go_sem, e1, errV]
        rw [if_pos h']
        refine fin_many ?_
        simp -implicitDefEqProofs only [go_sem, errV]
      · have h' := of_decide_eq_false h
        simp -implicitDefEqProofs only [go_sem, a1, a2]
        rw [if_neg h']
        refine fin_many ?_
        simp -implicitDefEqProofs only [go_sem]
set_option maxRecDepth 100000 in
theorem lo_c (E : Nat → Option Value) (x : Nat × Nat) : DCall Tryz.prog E 82 [ivD x] (.data (flD x.1)) := by
  refine dcall_of Tryz.func82 rfl (by kernel_rfl) Tryz.ntmps82 (by kernel_rfl) (by simp) (rs := [.tmp 2]) rfl ?_
  rintro ⟨P, E, σ0, w0, base, n, kb, df, G0⟩ rfl rfl rfl rfl
  simp -implicitDefEqProofs only [go_sem, finK]
set_option maxRecDepth 100000 in
theorem hi_c (E : Nat → Option Value) (x : Nat × Nat) : DCall Tryz.prog E 83 [ivD x] (.data (flD x.2)) := by
  refine dcall_of Tryz.func83 rfl (by kernel_rfl) Tryz.ntmps83 (by kernel_rfl) (by simp) (rs := [.tmp 2]) rfl ?_
  rintro ⟨P, E, σ0, w0, base, n, kb, df, G0⟩ rfl rfl rfl rfl
  simp -implicitDefEqProofs only [go_sem, finK]
set_option maxRecDepth 100000 in
theorem pbox_c (E : Nat → Option Value) (x : Nat × Nat) : DCall Tryz.prog E 33 [ivD x] (.data (boxD x)) := by
  refine dcall_of Tryz.func33 rfl (by kernel_rfl) Tryz.ntmps33 (by kernel_rfl) (by simp) (rs := [.cell 2 32]) rfl ?_
  rintro ⟨P, E, σ0, w0, base, n, kb, df, G0⟩ rfl rfl rfl rfl
  simp -implicitDefEqProofs only [go_sem]
  refine drawn_intro (by kernel_rfl) (by kernel_rfl) (by kernel_rfl) ?_
  simp -implicitDefEqProofs only [go_sem]
  refine Call.intro (lo_c _ x) ?_
  simp -implicitDefEqProofs only [go_sem]
  refine Call.intro (bits_c _ x.1) ?_
  simp -implicitDefEqProofs only [go_sem]
  refine Call.intro (hi_c _ x) ?_
  simp -implicitDefEqProofs only [go_sem]
  refine Call.intro (bits_c _ x.2) ?_
  simp -implicitDefEqProofs only [go_sem]
end Go.Enc
