/-
  Exact of an int64 by its contract; boxes as intervals.
-/
import Derived.Test.YtjlibljfpkmpfaaGreatDoorCor
import Derived.Test.YtjlibljfpkmpfaaGreatDoorFi
set_option linter.unusedSimpArgs false
namespace Go.Enc
open Go.Proofs Go.Enc.Fl

set_option maxRecDepth 100000 in
/-- FromInt, by the side on which the number lies. -/
theorem fromInt_k (E : Nat → Option Value) {n m w : Int} {x y : Nat} (hx : FloatKind.f64.nearest n = x) (hf : Fl.Fin x) (h63 : idx x ≠ 4890909195324358656) (hm : floatToIntVal .f64 x .i64 = some m)
    (h1 : m < n → DCall Tryz.prog E 121 [flD x, flD 4607182418800017408, intD w] (.data (flD y))) (h2 : n < m → DCall Tryz.prog E 121 [flD x, flD 13830554455654793216, intD w] (.data (flD y))) (h3 : m = n → x = y) :
    DCall Tryz.prog E 103 [.v (.int .i64 n), intD w] (.data (flD y)) := by
  refine dcall_of Tryz.func103 rfl (by kernel_rfl) Tryz.ntmps103 (by kernel_rfl) (by simp) (rs := [.tmp 4]) rfl ?_
  rintro ⟨P, E, σ0, w0, base, n, kb⟩ rfl rfl rfl rfl
  have e1 : (FloatKind.f64.format.order x 4890909195324358656 == some Ordering.eq) = false := by
    rw [ord_eq hf.num (show Num 4890909195324358656 by decide)]
    exact decide_eq_false (by rw [show idx 4890909195324358656 = 4890909195324358656 by decide]; exact h63)
  rcases Int.lt_trichotomy m n with g | g | g
  · have e2 : decide (m < n) = true := tD g
    simp -implicitDefEqProofs only [go_sem, Int.reduceEq, ↓reduceIte, Nat.reduceEqDiff, Nat.reduceAdd, Nat.reduceMul, Nat.reduceSub, Nat.reduceDiv, Nat.reduceLeDiff, Nat.reduceLT, Nat.reduceBEq, Nat.reduceBNe, reduceCtorEq, Int.reduceLE, Int.reduceLT, Int.reduceToNat, decide_true, decide_false, hx, e1, hm, e2]
    refine Call.intro (h1 g) ?_
    simp -implicitDefEqProofs only [go_sem, Int.reduceEq, ↓reduceIte, Nat.reduceEqDiff, Nat.reduceAdd, Nat.reduceMul, Nat.reduceSub, Nat.reduceDiv, Nat.reduceLeDiff, Nat.reduceLT, Nat.reduceBEq, Nat.reduceBNe, reduceCtorEq, Int.reduceLE, Int.reduceLT, Int.reduceToNat, decide_true, decide_false, finK]
  · have e2 : decide (m < n) = false := fD (by omega)
    have e3 : decide (m > n) = false := fD (by omega)
    simp -implicitDefEqProofs only [go_sem, Int.reduceEq, ↓reduceIte, Nat.reduceEqDiff, Nat.reduceAdd, Nat.reduceMul, Nat.reduceSub, Nat.reduceDiv, Nat.reduceLeDiff, Nat.reduceLT, Nat.reduceBEq, Nat.reduceBNe, reduceCtorEq, Int.reduceLE, Int.reduceLT, Int.reduceToNat, decide_true, decide_false, hx, e1, hm, e2, e3, finK]
    rw [h3 g]
  · have e2 : decide (m < n) = false := fD (by omega)
    have e3 : decide (m > n) = true := tD g
    simp -implicitDefEqProofs only [go_sem, Int.reduceEq, ↓reduceIte, Nat.reduceEqDiff, Nat.reduceAdd, Nat.reduceMul, Nat.reduceSub, Nat.reduceDiv, Nat.reduceLeDiff, Nat.reduceLT, Nat.reduceBEq, Nat.reduceBNe, reduceCtorEq, Int.reduceLE, Int.reduceLT, Int.reduceToNat, decide_true, decide_false, hx, e1, hm, e2, e3]
    refine Call.intro (h2 g) ?_
    simp -implicitDefEqProofs only [go_sem, Int.reduceEq, ↓reduceIte, Nat.reduceEqDiff, Nat.reduceAdd, Nat.reduceMul, Nat.reduceSub, Nat.reduceDiv, Nat.reduceLeDiff, Nat.reduceLT, Nat.reduceBEq, Nat.reduceBNe, reduceCtorEq, Int.reduceLE, Int.reduceLT, Int.reduceToNat, decide_true, decide_false, finK]
set_option maxRecDepth 100000 in
/-- .. of a number that is rounded to 2^63. -/
theorem fromInt_63 (E : Nat → Option Value) {n w : Int} {y : Nat} (hx : FloatKind.f64.nearest n = 4890909195324358656)
    (h1 : DCall Tryz.prog E 121 [flD 4890909195324358656, flD 13830554455654793216, intD w] (.data (flD y))) :
    DCall Tryz.prog E 103 [.v (.int .i64 n), intD w] (.data (flD y)) := by
  refine dcall_of Tryz.func103 rfl (by kernel_rfl) Tryz.ntmps103 (by kernel_rfl) (by simp) (rs := [.tmp 4]) rfl ?_
  rintro ⟨P, E, σ0, w0, base, n, kb⟩ rfl rfl rfl rfl
  have e1 : (FloatKind.f64.format.order 4890909195324358656 4890909195324358656 == some Ordering.eq) = true := by
    rw [ord_eq (show Num 4890909195324358656 by decide) (show Num 4890909195324358656 by decide)]; exact decide_eq_true rfl
  have e2 := tV e1
  simp -implicitDefEqProofs only [go_sem, Int.reduceEq, ↓reduceIte, Nat.reduceEqDiff, Nat.reduceAdd, Nat.reduceMul, Nat.reduceSub, Nat.reduceDiv, Nat.reduceLeDiff, Nat.reduceLT, Nat.reduceBEq, Nat.reduceBNe, reduceCtorEq, Int.reduceLE, Int.reduceLT, Int.reduceToNat, decide_true, decide_false, hx, e2]
  refine Call.intro h1 ?_
  simp -implicitDefEqProofs only [go_sem, Int.reduceEq, ↓reduceIte, Nat.reduceEqDiff, Nat.reduceAdd, Nat.reduceMul, Nat.reduceSub, Nat.reduceDiv, Nat.reduceLeDiff, Nat.reduceLT, Nat.reduceBEq, Nat.reduceBNe, reduceCtorEq, Int.reduceLE, Int.reduceLT, Int.reduceToNat, decide_true, decide_false, finK]
set_option maxRecDepth 100000 in
theorem fromInt_c (E : Nat → Option Value) {n : Int} (h : -9223372036854775808 ≤ n ∧ n ≤ 9223372036854775807) :
    ∃ lo hi, DCall Tryz.prog E 103 [.v (.int .i64 n), intD (-1)] (.data (flD lo)) ∧ DCall Tryz.prog E 103 [.v (.int .i64 n), intD 1] (.data (flD hi)) ∧ lo < 2 ^ 64 ∧ hi < 2 ^ 64 ∧ Dn (n : Rat) (idx lo) ∧ Up (n : Rat) (idx hi) := by
  obtain ⟨x, hx, hf, hl, hR, hb1, hb2⟩ := nearest_int (n := n) ⟨by omega, by omega⟩
  obtain ⟨m, hm⟩ := int_near hR
  have e63 : (2 : Rat) ^ (63 : Int) = ((9223372036854775808 : Int) : Rat) := by
    have := zpow2_nat 63
    rw [show ((63 : Nat) : Int) = 63 from rfl] at this
    rw [this]; rfl
  rw [hm, e63, ← Rat.intCast_neg] at hb1
  rw [hm, e63] at hb2
  have m1 := Rat.intCast_le_intCast.1 hb1
  have m2 := Rat.intCast_le_intCast.1 hb2
  have v63 : v 4890909195324358656 = ((9223372036854775808 : Int) : Rat) := by
    rw [show (4890909195324358656 : Int) = pw 1086 by unfold pw; rfl, v_pw 1086 (by omega), show ((1086 : Nat) : Int) - 1023 = 63 by decide, e63]
  have i2 : Num 13830554455654793216 ∧ idx 13830554455654793216 = -4607182418800017408 := by decide
  by_cases h63 : idx x = 4890909195324358656
  · have hx63 : x = 4890909195324358656 := by
      have := (bits_pos hl (by omega)).2.1
      omega
    subst hx63
    have hlt : (n : Rat) < v (idx 4890909195324358656) := by rw [h63, v63]; exact Rat.intCast_lt_intCast.2 (by omega)
    have d := side_dn (rest := 13830554455654793216) hl hf hR (by rw [i2.2]; constructor <;> intro q <;> grind)
    have u := side_up (rest := 13830554455654793216) hl hf hR (by rw [i2.2]; constructor <;> intro q <;> grind)
    exact ⟨_, _, fromInt_63 E hx (sideD_c E hl hf i2.1), fromInt_63 E hx (sideU_c E hl hf i2.1), d.2, u.2, d.1, u.1⟩
  have hm63 : m ≠ 9223372036854775808 := fun e => h63 (v_inj (by rw [hm, e, v63]))
  have hback := back_int hf hm ⟨by omega, by omega⟩
  have i1 : Num 4607182418800017408 ∧ idx 4607182418800017408 = 4607182418800017408 := by decide
  rcases Int.lt_trichotomy m n with g | g | g
  · have hlt : v (idx x) < (n : Rat) := by rw [hm]; exact Rat.intCast_lt_intCast.2 g
    have d := side_dn (rest := 4607182418800017408) hl hf hR (by rw [i1.2]; constructor <;> intro q <;> grind)
    have u := side_up (rest := 4607182418800017408) hl hf hR (by rw [i1.2]; constructor <;> intro q <;> grind)
    exact ⟨_, _, fromInt_k E hx hf h63 hback (fun _ => sideD_c E hl hf i1.1) (fun q => by omega) (fun q => by omega), fromInt_k E hx hf h63 hback (fun _ => sideU_c E hl hf i1.1) (fun q => by omega) (fun q => by omega), d.2, u.2, d.1, u.1⟩
  · have heq : v (idx x) = (n : Rat) := by rw [hm, g]
    have v1 := v_lt (i := idx x) (j := idx x + 1) (by omega)
    have v2 := v_lt (i := idx x - 1) (j := idx x) (by omega)
    exact ⟨x, x, fromInt_k E hx hf h63 hback (fun q => by omega) (fun q => by omega) (fun _ => rfl), fromInt_k E hx hf h63 hback (fun q => by omega) (fun q => by omega) (fun _ => rfl), hl, hl, ⟨by grind, by grind⟩, ⟨by grind, by grind⟩⟩
  · have hlt : (n : Rat) < v (idx x) := by rw [hm]; exact Rat.intCast_lt_intCast.2 g
    have d := side_dn (rest := 13830554455654793216) hl hf hR (by rw [i2.2]; constructor <;> intro q <;> grind)
    have u := side_up (rest := 13830554455654793216) hl hf hR (by rw [i2.2]; constructor <;> intro q <;> grind)
    exact ⟨_, _, fromInt_k E hx hf h63 hback (fun q => by omega) (fun _ => sideD_c E hl hf i2.1) (fun q => by omega), fromInt_k E hx hf h63 hback (fun q => by omega) (fun _ => sideU_c E hl hf i2.1) (fun q => by omega), d.2, u.2, d.1, u.1⟩
set_option maxRecDepth 100000 in
theorem exact64_c (E : Nat → Option Value) {n : Int} {lo hi : Nat} (h1 : DCall Tryz.prog E 103 [.v (.int .i64 n), intD (-1)] (.data (flD lo))) (h2 : DCall Tryz.prog E 103 [.v (.int .i64 n), intD 1] (.data (flD hi))) :
    DCall Tryz.prog E 60 [.v (.int .i64 n)] (.data (.tup [ivD (lo, hi), .v .nilIface])) := by
  refine dcall_of Tryz.func60 rfl (by kernel_rfl) Tryz.ntmps60 (by kernel_rfl) (by simp) (rs := [.cell 2 59, .tmp 3]) rfl ?_
  rintro ⟨P, E, σ0, w0, base, n, kb⟩ rfl rfl rfl rfl
  have e0 : floatToIntVal .f64 4602678819172646912 .i64 = some 0 := by decide +kernel
  have e1 : ((0 : Int) != 0) = false := by decide
  simp -implicitDefEqProofs only [go_sem, Int.reduceEq, ↓reduceIte, Nat.reduceEqDiff, Nat.reduceAdd, Nat.reduceMul, Nat.reduceSub, Nat.reduceDiv, Nat.reduceLeDiff, Nat.reduceLT, Nat.reduceBEq, Nat.reduceBNe, reduceCtorEq, Int.reduceLE, Int.reduceLT, Int.reduceToNat, decide_true, decide_false, e0, e1]
  refine Call.intro h1 ?_
  simp -implicitDefEqProofs only [go_sem, Int.reduceEq, ↓reduceIte, Nat.reduceEqDiff, Nat.reduceAdd, Nat.reduceMul, Nat.reduceSub, Nat.reduceDiv, Nat.reduceLeDiff, Nat.reduceLT, Nat.reduceBEq, Nat.reduceBNe, reduceCtorEq, Int.reduceLE, Int.reduceLT, Int.reduceToNat, decide_true, decide_false]
  refine Call.intro h2 ?_
  simp -implicitDefEqProofs only [go_sem, Int.reduceEq, ↓reduceIte, Nat.reduceEqDiff, Nat.reduceAdd, Nat.reduceMul, Nat.reduceSub, Nat.reduceDiv, Nat.reduceLeDiff, Nat.reduceLT, Nat.reduceBEq, Nat.reduceBNe, reduceCtorEq, Int.reduceLE, Int.reduceLT, Int.reduceToNat, decide_true, decide_false]
  refine fin_many ?_
  simp -implicitDefEqProofs only [go_sem, Int.reduceEq, ↓reduceIte, Nat.reduceEqDiff, Nat.reduceAdd, Nat.reduceMul, Nat.reduceSub, Nat.reduceDiv, Nat.reduceLeDiff, Nat.reduceLT, Nat.reduceBEq, Nat.reduceBNe, reduceCtorEq, Int.reduceLE, Int.reduceLT, Int.reduceToNat, decide_true, decide_false]
end Go.Enc
