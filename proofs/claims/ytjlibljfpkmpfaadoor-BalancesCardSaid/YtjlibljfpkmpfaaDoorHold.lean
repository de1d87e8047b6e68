/-
  Whole numbers as exact numbers; does a box hold one?
-/
import Derived.Test.YtjlibljfpkmpfaaDoorMk
set_option linter.unusedSimpArgs false
namespace Go.Enc
open Go.Proofs Go.Enc.Dg Go.Enc.Nu Go.Enc.Fl

def nwhole (n : Int) : Nm := ⟨decide (n < 0), n.natAbs, 0⟩
theorem val_whole (n : Int) : val (nwhole n) = (n : Rat) := by
  unfold val nwhole
  simp only [Rat.zpow_zero, Rat.mul_one]
  by_cases h : n < 0
  · rw [if_pos (by simpa using h)]
    have : ((n.natAbs : Nat) : Int) = -n := by omega
    have h2 : (((n.natAbs : Nat) : Int) : Rat) = ((-n : Int) : Rat) := by rw [this]
    rw [Rat.intCast_natCast] at h2
    rw [h2, Rat.intCast_neg]; grind
  · rw [if_neg (by simpa using h)]
    have : ((n.natAbs : Nat) : Int) = n := by omega
    have h2 : (((n.natAbs : Nat) : Int) : Rat) = ((n : Int) : Rat) := by rw [this]
    rwa [Rat.intCast_natCast] at h2
theorem nwhole_ok {n : Int} (h : -2305843009213693952 ≤ n ∧ n ≤ 2305843009213693952) : NOk (nwhole n) 62 := by
  refine ⟨?_, show (-1000000 : Int) ≤ 0 by decide, show (0 : Int) ≤ 1000000 by decide⟩
  unfold Bd
  show n.natAbs < 2 ^ 62
  omega
set_option maxRecDepth 100000 in
theorem rwhole_c (E : Nat → Option Value) {n : Int} (h : -2305843009213693952 ≤ n ∧ n ≤ 2305843009213693952) : DCall Tryd.prog E 58 [intD n] (.data (nmD (nwhole n))) := by
  refine dcall_of Tryd.func58 rfl (by kernel_rfl) Tryd.ntmps58 (by kernel_rfl) (by simp) (rs := [.cell 2 112]) rfl ?_
  rintro ⟨P, E, σ0, w0, base, n, kb, df, G0⟩ rfl rfl rfl rfl
  by_cases h0 : 0 ≤ n
  · have e0 : decide (n ≥ 0) = true := tD h0
    have e1 : n = ((n.natAbs : Nat) : Int) := by omega
    have e2 : decide (n < 0) = false := fD (by omega)
    simp -implicitDefEqProofs only [go_sem, e0, nwhole, e2]
    refine Call.intro (r := .data (natD n.natAbs)) ?_ ?_
    · have := nat_c E n.natAbs (by omega)
      rwa [← e1] at this
    · simp -implicitDefEqProofs only [go_sem]
  · have e0 : decide (n ≥ 0) = false := fD h0
    have e2 : decide (n < 0) = true := tD (by omega)
    have w1 : IntKind.i64.wrap (n + 1) = n + 1 := w64 (by omega)
    have w2 : IntKind.i64.wrap (0 - (n + 1)) = ((n.natAbs - 1 : Nat) : Int) := by rw [w64 (by omega)]; omega
    simp -implicitDefEqProofs only [go_sem, e0, w1, w2, nwhole, e2]
    refine Call.intro (nat_c E (n.natAbs - 1) (by omega)) ?_
    simp -implicitDefEqProofs only [go_sem]
    refine Call.intro (nat_c E 1 (by omega)) ?_
    simp -implicitDefEqProofs only [go_sem]
    refine Call.intro (plus_c E (Bd.sm (k := 62) (by unfold Bd; omega) (by omega)) (Bd.sm (k := 62) (by unfold Bd; omega) (by omega))) ?_
    have e3 : n.natAbs - 1 + 1 = n.natAbs := by omega
    simp -implicitDefEqProofs only [go_sem, e3, e2]
/-- An interval's datum by its ends' numbers. -/
abbrev nvD (a b : Nm) : D := .agg [bD a.neg, natD a.n, intD a.e, bD b.neg, natD b.n, intD b.e]
attribute [go_sem] nvD
set_option maxRecDepth 100000 in
theorem made_k (E : Nat → Option Value) {x r : Nat × Nat} {n : Int} {a b : Nm} {p1 p2 : Bool} (hm : DCall Tryd.prog E 56 [boxD x] (.data (.tup [boxD r, intD n]))) (ha : DCall Tryd.prog E 77 [.v (.int .u64 r.1)] (.data (.tup [nmD a, bD p1])))
    (hb : DCall Tryd.prog E 77 [.v (.int .u64 r.2)] (.data (.tup [nmD b, bD p2]))) : DCall Tryd.prog E 57 [boxD x] (.data (nvD a b)) := by
  refine dcall_of Tryd.func57 rfl (by kernel_rfl) Tryd.ntmps57 (by kernel_rfl) (by simp) (rs := [.cell 2 114]) rfl ?_
  rintro ⟨P, E, σ0, w0, base, n, kb, df, G0⟩ rfl rfl rfl rfl
  simp -implicitDefEqProofs only [go_sem]
  refine Call.intro hm ?_
  simp -implicitDefEqProofs only [go_sem]
  refine Call.intro ha ?_
  simp -implicitDefEqProofs only [go_sem]
  refine Call.intro hb ?_
  simp -implicitDefEqProofs only [go_sem]
set_option maxRecDepth 100000 in
theorem holds_k (E : Nat → Option Value) {x : Nat × Nat} {n : Int} {a b c : Nm} {u v : Bool} (hm : DCall Tryd.prog E 56 [boxD x] (.data (.tup [boxD x, intD 0]))) (hd : DCall Tryd.prog E 57 [boxD x] (.data (nvD a b)))
    (hw : DCall Tryd.prog E 58 [intD n] (.data (nmD c))) (h1 : DCall Tryd.prog E 59 [nmD c, nmD a] (.data (bD u))) (h2 : DCall Tryd.prog E 59 [nmD b, nmD c] (.data (bD v))) :
    DCall Tryd.prog E 26 [boxD x, intD n] (.data (bD (!u && !v))) := by
  refine dcall_of Tryd.func26 rfl (by kernel_rfl) Tryd.ntmps26 (by kernel_rfl) (by simp) (rs := [.tmp 4]) rfl ?_
  rintro ⟨P, E, σ0, w0, base, n, kb, df, G0⟩ rfl rfl rfl rfl
  have e0 : ((0 : Int) != 0) = false := by decide
  obtain ⟨x1, x2⟩ := x
  have e1 : (((x1 : Int) == (x1 : Int)) : Bool) = true := beqT rfl
  have e2 : (((x2 : Int) == (x2 : Int)) : Bool) = true := beqT rfl
  simp -implicitDefEqProofs only [go_sem]
  refine Call.intro hm ?_
  simp -implicitDefEqProofs only [go_sem, e0, beq_self_eq_true, Bool.and_self, Bool.and_true, Bool.true_and]
  refine Call.intro hd ?_
  simp -implicitDefEqProofs only [go_sem]
  refine Call.intro hw ?_
  simp -implicitDefEqProofs only [go_sem]
  refine Call.intro h1 ?_
  simp -implicitDefEqProofs only [go_sem]
  refine Call.intro h2 ?_
  cases u
  · simp -implicitDefEqProofs only [go_sem, finK, Bool.true_and]
  · simp -implicitDefEqProofs only [go_sem, finK, Bool.false_and]
set_option maxRecDepth 100000 in
/-- DOES A BOX HOLD A NUMBER: a box of plain floats in their order, no nought with a sign. -/
theorem holds_c (E : Nat → Option Value) {lo hi : Nat} {n : Int} (h1 : lo < 18446744073709551616) (h2 : hi < 18446744073709551616) (p1 : plainB lo = true) (p2 : plainB hi = true) (e1 : posB lo = lo) (e2 : posB hi = hi) (hle : idx lo ≤ idx hi)
    (hn : -2305843009213693952 ≤ n ∧ n ≤ 2305843009213693952) (hv1 : v (idx lo) ≤ (n : Rat)) (hv2 : (n : Rat) ≤ v (idx hi)) : DCall Tryd.prog E 26 [boxD (lo, hi), intD n] (.data (bD true)) := by
  have hm := make_c E h1 h2
  have hM : makeB lo hi = ((lo, hi), 0) := by
    have := ((makeB_cases h1 h2).2 (by rw [p1, p2]; simp)).2 (by omega)
    rw [this, e1, e2]
  rw [hM] at hm
  have q1 := plainr_c E h1
  have q2 := plainr_c E h2
  have hd := made_k E hm q1 q2
  have hw := rwhole_c E hn
  have k1 := (nplain_nok lo).mono (j := 62) (by omega)
  have k2 := (nplain_nok hi).mono (j := 62) (by omega)
  have l1 := less_c E (nwhole_ok hn) k1 (by omega)
  have l2 := less_c E k2 (nwhole_ok hn) (by omega)
  have f1 : nless (nwhole n) (nplain lo).1 = false := by
    rw [nless_iff, val_whole, nplain_val h1 p1]; exact decide_eq_false (by grind)
  have f2 : nless (nplain hi).1 (nwhole n) = false := by
    rw [nless_iff, val_whole, nplain_val h2 p2]; exact decide_eq_false (by grind)
  rw [f1] at l1
  rw [f2] at l2
  exact holds_k E hm hd hw l1 l2
end Go.Enc
