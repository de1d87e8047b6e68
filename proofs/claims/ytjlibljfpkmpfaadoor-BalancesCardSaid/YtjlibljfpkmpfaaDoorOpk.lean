/-
  Exact of an int64 by its contract; boxes as intervals.
  The operations by their methods, and as package plain asks them.
-/
import Derived.Test.YtjlibljfpkmpfaaDoorCor
import Derived.Test.YtjlibljfpkmpfaaDoorFi
section
set_option linter.unusedSimpArgs false
namespace Go.Enc
open Go.Proofs Go.Enc.Fl

set_option maxRecDepth 100000 in
/-- FromInt, by the side on which the number lies. -/
theorem fromInt_k (E : Nat → Option Value) {n m w : Int} {x y : Nat} (hx : FloatKind.f64.nearest n = x) (hf : Fl.Fin x) (h63 : idx x ≠ 4890909195324358656) (hm : floatToIntVal .f64 x .i64 = some m)
    (h1 : m < n → DCall Tryd.prog E 84 [flD x, flD 4607182418800017408, intD w] (.data (flD y))) (h2 : n < m → DCall Tryd.prog E 84 [flD x, flD 13830554455654793216, intD w] (.data (flD y))) (h3 : m = n → x = y) :
    DCall Tryd.prog E 73 [.v (.int .i64 n), intD w] (.data (flD y)) := by
  refine dcall_of Tryd.func73 rfl (by kernel_rfl) Tryd.ntmps73 (by kernel_rfl) (by simp) (rs := [.tmp 4]) rfl ?_
  rintro ⟨P, E, σ0, w0, base, n, kb, df, G0⟩ rfl rfl rfl rfl
  have e1 : (FloatKind.f64.format.order x 4890909195324358656 == some Ordering.eq) = false := by
    rw [ord_eq hf.num (show Num 4890909195324358656 by decide)]
    exact decide_eq_false (by rw [show idx 4890909195324358656 = 4890909195324358656 by decide]; exact h63)
  rcases Int.lt_trichotomy m n with g | g | g
  · have e2 : decide (m < n) = true := tD g
    simp -implicitDefEqProofs only [go_sem, hx, e1, hm, e2]
    refine Call.intro (h1 g) ?_
    simp -implicitDefEqProofs only [go_sem, finK]
  · have e2 : decide (m < n) = false := fD (by omega)
    have e3 : decide (m > n) = false := fD (by omega)
    simp -implicitDefEqProofs only [go_sem, hx, e1, hm, e2, e3, finK]
    rw [h3 g]
  · have e2 : decide (m < n) = false := fD (by omega)
    have e3 : decide (m > n) = true := tD g
    simp -implicitDefEqProofs only [go_sem, hx, e1, hm, e2, e3]
    refine Call.intro (h2 g) ?_
    simp -implicitDefEqProofs only [go_sem, finK]
set_option maxRecDepth 100000 in
/-- .. of a number that is rounded to 2^63. -/
theorem fromInt_63 (E : Nat → Option Value) {n w : Int} {y : Nat} (hx : FloatKind.f64.nearest n = 4890909195324358656)
    (h1 : DCall Tryd.prog E 84 [flD 4890909195324358656, flD 13830554455654793216, intD w] (.data (flD y))) :
    DCall Tryd.prog E 73 [.v (.int .i64 n), intD w] (.data (flD y)) := by
  refine dcall_of Tryd.func73 rfl (by kernel_rfl) Tryd.ntmps73 (by kernel_rfl) (by simp) (rs := [.tmp 4]) rfl ?_
  rintro ⟨P, E, σ0, w0, base, n, kb, df, G0⟩ rfl rfl rfl rfl
  have e1 : (FloatKind.f64.format.order 4890909195324358656 4890909195324358656 == some Ordering.eq) = true := by
    rw [ord_eq (show Num 4890909195324358656 by decide) (show Num 4890909195324358656 by decide)]; exact decide_eq_true rfl
  have e2 := tV e1
  simp -implicitDefEqProofs only [go_sem, hx, e2]
  refine Call.intro h1 ?_
  simp -implicitDefEqProofs only [go_sem, finK]
set_option maxRecDepth 100000 in
theorem fromInt_c (E : Nat → Option Value) {n : Int} (h : -9223372036854775808 ≤ n ∧ n ≤ 9223372036854775807) :
    ∃ lo hi, DCall Tryd.prog E 73 [.v (.int .i64 n), intD (-1)] (.data (flD lo)) ∧ DCall Tryd.prog E 73 [.v (.int .i64 n), intD 1] (.data (flD hi)) ∧ lo < 2 ^ 64 ∧ hi < 2 ^ 64 ∧ Dn (n : Rat) (idx lo) ∧ Up (n : Rat) (idx hi) := by
  obtain ⟨x, hx, hf, hl, hR, hb1, hb2⟩ := nearest_int (n := n) ⟨by omega, by omega⟩
  obtain ⟨m, hm⟩ := int_near hR
  have e63 : (2 : Rat) ^ (63 : Int) = ((9223372036854775808 : Int) : Rat) := by
    have := zpow2_nat 63
    rw [show ((63 : Nat) : Int) = 63 from rfl] at this
    rw [this]; rfl
  rw [hm, e63, ← Rat.intCast_neg] at hb1
  rw [hm, e63] at hb2
  have m1 := Rat.intCast_le_intCast.1 hb1
  have m2 := Rat.intCast_le_intCast.1 hb2
  have v63 : v 4890909195324358656 = ((9223372036854775808 : Int) : Rat) := by
    rw [show (4890909195324358656 : Int) = pw 1086 by unfold pw; rfl, v_pw 1086 (by omega), show ((1086 : Nat) : Int) - 1023 = 63 by decide, e63]
  have i2 : Num 13830554455654793216 ∧ idx 13830554455654793216 = -4607182418800017408 := by decide
  by_cases h63 : idx x = 4890909195324358656
  · have hx63 : x = 4890909195324358656 := by
      have := (bits_pos hl (by omega)).2.1
      omega
    subst hx63
    have hlt : (n : Rat) < v (idx 4890909195324358656) := by rw [h63, v63]; exact Rat.intCast_lt_intCast.2 (by omega)
    have d := side_dn (rest := 13830554455654793216) hl hf hR (by rw [i2.2]; constructor <;> intro q <;> grind)
    have u := side_up (rest := 13830554455654793216) hl hf hR (by rw [i2.2]; constructor <;> intro q <;> grind)
    exact ⟨_, _, fromInt_63 E hx (sideD_c E hl hf i2.1), fromInt_63 E hx (sideU_c E hl hf i2.1), d.2, u.2, d.1, u.1⟩
  have hm63 : m ≠ 9223372036854775808 := fun e => h63 (v_inj (by rw [hm, e, v63]))
  have hback := back_int hf hm ⟨by omega, by omega⟩
  have i1 : Num 4607182418800017408 ∧ idx 4607182418800017408 = 4607182418800017408 := by decide
  rcases Int.lt_trichotomy m n with g | g | g
  · have hlt : v (idx x) < (n : Rat) := by rw [hm]; exact Rat.intCast_lt_intCast.2 g
    have d := side_dn (rest := 4607182418800017408) hl hf hR (by rw [i1.2]; constructor <;> intro q <;> grind)
    have u := side_up (rest := 4607182418800017408) hl hf hR (by rw [i1.2]; constructor <;> intro q <;> grind)
    exact ⟨_, _, fromInt_k E hx hf h63 hback (fun _ => sideD_c E hl hf i1.1) (fun q => by omega) (fun q => by omega), fromInt_k E hx hf h63 hback (fun _ => sideU_c E hl hf i1.1) (fun q => by omega) (fun q => by omega), d.2, u.2, d.1, u.1⟩
  · have heq : v (idx x) = (n : Rat) := by rw [hm, g]
    have v1 := v_lt (i := idx x) (j := idx x + 1) (by omega)
    have v2 := v_lt (i := idx x - 1) (j := idx x) (by omega)
    exact ⟨x, x, fromInt_k E hx hf h63 hback (fun q => by omega) (fun q => by omega) (fun _ => rfl), fromInt_k E hx hf h63 hback (fun q => by omega) (fun q => by omega) (fun _ => rfl), hl, hl, ⟨by grind, by grind⟩, ⟨by grind, by grind⟩⟩
  · have hlt : (n : Rat) < v (idx x) := by rw [hm]; exact Rat.intCast_lt_intCast.2 g
    have d := side_dn (rest := 13830554455654793216) hl hf hR (by rw [i2.2]; constructor <;> intro q <;> grind)
    have u := side_up (rest := 13830554455654793216) hl hf hR (by rw [i2.2]; constructor <;> intro q <;> grind)
    exact ⟨_, _, fromInt_k E hx hf h63 hback (fun q => by omega) (fun _ => sideD_c E hl hf i2.1) (fun q => by omega), fromInt_k E hx hf h63 hback (fun q => by omega) (fun _ => sideU_c E hl hf i2.1) (fun q => by omega), d.2, u.2, d.1, u.1⟩
set_option maxRecDepth 100000 in
theorem exact64_c (E : Nat → Option Value) {n : Int} {lo hi : Nat} (h1 : DCall Tryd.prog E 73 [.v (.int .i64 n), intD (-1)] (.data (flD lo))) (h2 : DCall Tryd.prog E 73 [.v (.int .i64 n), intD 1] (.data (flD hi))) :
    DCall Tryd.prog E 44 [.v (.int .i64 n)] (.data (.tup [ivD (lo, hi), .v .nilIface])) := by
  refine dcall_of Tryd.func44 rfl (by kernel_rfl) Tryd.ntmps44 (by kernel_rfl) (by simp) (rs := [.cell 2 67, .tmp 3]) rfl ?_
  rintro ⟨P, E, σ0, w0, base, n, kb, df, G0⟩ rfl rfl rfl rfl
  have e0 : floatToIntVal .f64 4602678819172646912 .i64 = some 0 := by decide +kernel
  have e1 : ((0 : Int) != 0) = false := by decide
  simp -implicitDefEqProofs only [go_sem, e0, e1]
  refine Call.intro h1 ?_
  simp -implicitDefEqProofs only [go_sem]
  refine Call.intro h2 ?_
  simp -implicitDefEqProofs only [go_sem]
  refine fin_many ?_
  simp -implicitDefEqProofs only [go_sem]
end Go.Enc
end

section
set_option linter.unusedSimpArgs false
namespace Go.Enc
open Go.Proofs Go.Enc.Fl

abbrev plusS : ByteArray := ⟨#[43]⟩
abbrev minusS : ByteArray := ⟨#[45]⟩
abbrev timesS : ByteArray := ⟨#[42]⟩
abbrev overS : ByteArray := ⟨#[47]⟩
set_option maxRecDepth 100000 in
theorem iadd_k (E : Nat → Option Value) {a b r : Nat × Nat} {l h : Nat} {e : D} (h1 : DCall Tryd.prog E 61 [flD a.1, flD b.1, intD (-1)] (.data (flD l))) (h2 : DCall Tryd.prog E 61 [flD a.2, flD b.2, intD 1] (.data (flD h)))
    (h3 : DCall Tryd.prog E 60 [strD plusS, flD l, flD h] (.data (.tup [ivD r, e]))) : DCall Tryd.prog E 30 [ivD a, ivD b] (.data (.tup [ivD r, e])) := by
  refine dcall_of Tryd.func30 rfl (by kernel_rfl) Tryd.ntmps30 (by kernel_rfl) (by simp) (rs := [.cell 4 67, .tmp 5]) rfl ?_
  rintro ⟨P, E, σ0, w0, base, n, kb, df, G0⟩ rfl rfl rfl rfl
  simp -implicitDefEqProofs only [go_sem]
  refine drawn_intro (by kernel_rfl) (by kernel_rfl) (by kernel_rfl) ?_
  simp -implicitDefEqProofs only [go_sem]
  refine Call.intro h1 ?_
  simp -implicitDefEqProofs only [go_sem]
  refine Call.intro h2 ?_
  simp -implicitDefEqProofs only [go_sem]
  refine Call.intro h3 ?_
  simp -implicitDefEqProofs only [go_sem]
  refine fin_many ?_
  simp -implicitDefEqProofs only [go_sem]
set_option maxRecDepth 100000 in
theorem isub_k (E : Nat → Option Value) {a b r : Nat × Nat} {l h : Nat} {e : D} (h1 : DCall Tryd.prog E 61 [flD a.1, flD (fneg b.2), intD (-1)] (.data (flD l))) (h2 : DCall Tryd.prog E 61 [flD a.2, flD (fneg b.1), intD 1] (.data (flD h)))
    (h3 : DCall Tryd.prog E 60 [strD minusS, flD l, flD h] (.data (.tup [ivD r, e]))) : DCall Tryd.prog E 31 [ivD a, ivD b] (.data (.tup [ivD r, e])) := by
  refine dcall_of Tryd.func31 rfl (by kernel_rfl) Tryd.ntmps31 (by kernel_rfl) (by simp) (rs := [.cell 4 67, .tmp 5]) rfl ?_
  rintro ⟨P, E, σ0, w0, base, n, kb, df, G0⟩ rfl rfl rfl rfl
  simp -implicitDefEqProofs only [go_sem]
  refine drawn_intro (by kernel_rfl) (by kernel_rfl) (by kernel_rfl) ?_
  simp -implicitDefEqProofs only [go_sem, negFloat_eq]
  refine Call.intro h1 ?_
  simp -implicitDefEqProofs only [go_sem, negFloat_eq]
  refine Call.intro h2 ?_
  simp -implicitDefEqProofs only [go_sem]
  refine Call.intro h3 ?_
  simp -implicitDefEqProofs only [go_sem]
  refine fin_many ?_
  simp -implicitDefEqProofs only [go_sem]
set_option maxRecDepth 100000 in
theorem imul_k (E : Nat → Option Value) {a b r : Nat × Nat} {e : D} (h3 : DCall Tryd.prog E 62 [strD timesS, ivD a, ivD b, .v (.func (.func 63) #[] #[])] (.data (.tup [ivD r, e]))) : DCall Tryd.prog E 32 [ivD a, ivD b] (.data (.tup [ivD r, e])) := by
  refine dcall_of Tryd.func32 rfl (by kernel_rfl) Tryd.ntmps32 (by kernel_rfl) (by simp) (rs := [.cell 4 67, .tmp 5]) rfl ?_
  rintro ⟨P, E, σ0, w0, base, n, kb, df, G0⟩ rfl rfl rfl rfl
  simp -implicitDefEqProofs only [go_sem]
  refine Call.intro h3 ?_
  simp -implicitDefEqProofs only [go_sem]
  refine fin_many ?_
  simp -implicitDefEqProofs only [go_sem]
set_option maxRecDepth 100000 in
theorem iholds_c (E : Nat → Option Value) {b : Nat × Nat} {x : Nat} (h1 : Num b.1) (h2 : Num b.2) (hx : Num x) : DCall Tryd.prog E 64 [ivD b, flD x] (.data (bD (decide (idx b.1 ≤ idx x) && decide (idx x ≤ idx b.2)))) := by
  refine dcall_of Tryd.func64 rfl (by kernel_rfl) Tryd.ntmps64 (by kernel_rfl) (by simp) (rs := [.tmp 4]) rfl ?_
  rintro ⟨P, E, σ0, w0, base, n, kb, df, G0⟩ rfl rfl rfl rfl
  have e1 := tV (ord_le h1 hx)
  have e2 := tV (ord_le hx h2)
  cases hA : decide (idx b.1 ≤ idx x)
  · rw [hA] at e1
    simp -implicitDefEqProofs only [go_sem, e1, finK, Bool.false_and]
  · rw [hA] at e1
    simp -implicitDefEqProofs only [go_sem, e1, e2, finK, Bool.true_and]
set_option maxRecDepth 100000 in
theorem idiv_k (E : Nat → Option Value) {a b r : Nat × Nat} {e : D} (h1 : DCall Tryd.prog E 64 [ivD b, flD 0] (.data (bD false))) (h3 : DCall Tryd.prog E 62 [strD overS, ivD a, ivD b, .v (.func (.func 65) #[] #[])] (.data (.tup [ivD r, e]))) :
    DCall Tryd.prog E 33 [ivD a, ivD b] (.data (.tup [ivD r, e])) := by
  refine dcall_of Tryd.func33 rfl (by kernel_rfl) Tryd.ntmps33 (by kernel_rfl) (by simp) (rs := [.cell 4 67, .tmp 5]) rfl ?_
  rintro ⟨P, E, σ0, w0, base, n, kb, df, G0⟩ rfl rfl rfl rfl
  simp -implicitDefEqProofs only [go_sem]
  refine Call.intro h1 ?_
  simp -implicitDefEqProofs only [go_sem]
  refine Call.intro h3 ?_
  simp -implicitDefEqProofs only [go_sem]
  refine fin_many ?_
  simp -implicitDefEqProofs only [go_sem]
set_option maxRecDepth 100000 in
theorem idiv_z {E : Nat → Option Value} {q : Nat → Addr} (hq : Sent E q) {a b : Nat × Nat} (h1 : DCall Tryd.prog E 64 [ivD b, flD 0] (.data (bD true))) :
    DCall Tryd.prog E 33 [ivD a, ivD b] (.data (.tup [ivD (0, 0), opE overS (eD q 3)])) := by
  refine dcall_of Tryd.func33 rfl (by kernel_rfl) Tryd.ntmps33 (by kernel_rfl) (by simp) (rs := [.cell 4 67, .tmp 5]) rfl ?_
  rintro ⟨P, E, σ0, w0, base, n, kb, df, G0⟩ rfl rfl rfl rfl
  have e3 : E 3 = some (errV (q 3)) := hq.var 3 (by decide)
  simp -implicitDefEqProofs only [go_sem]
  refine Call.intro h1 ?_
  simp -implicitDefEqProofs only [go_sem]
  refine drawn_intro (by kernel_rfl) (by kernel_rfl) (by kernel_rfl) ?_
  simp -implicitDefEqProofs only [go_sem, e3, errV]
  refine fin_many ?_
  simp -implicitDefEqProofs only [go_sem, errV]
set_option maxRecDepth 100000 in
theorem pmade_k (E : Nat → Option Value) {x r : Nat × Nat} {e : D} (hm : DCall Tryd.prog E 52 [flD x.1, flD x.2] (.data (.tup [ivD r, e]))) : DCall Tryd.prog E 24 [boxD x] (.data (ivD r)) := by
  refine dcall_of Tryd.func24 rfl (by kernel_rfl) Tryd.ntmps24 (by kernel_rfl) (by simp) (rs := [.cell 2 67]) rfl ?_
  rintro ⟨P, E, σ0, w0, base, n, kb, df, G0⟩ rfl rfl rfl rfl
  simp -implicitDefEqProofs only [go_sem]
  refine drawn_intro (by kernel_rfl) (by kernel_rfl) (by kernel_rfl) ?_
  simp -implicitDefEqProofs only [go_sem]
  refine Call.intro (float_c _ x.1) ?_
  simp -implicitDefEqProofs only [go_sem]
  refine Call.intro (float_c _ x.2) ?_
  simp -implicitDefEqProofs only [go_sem]
  refine Call.intro hm ?_
  simp -implicitDefEqProofs only [go_sem]
set_option maxRecDepth 100000 in
theorem pop3_k (E : Nat → Option Value) {x y a b r : Nat × Nat} {e : D} {n : Int} {s : ByteArray} (h1 : DCall Tryd.prog E 24 [boxD x] (.data (ivD a))) (h2 : DCall Tryd.prog E 24 [boxD y] (.data (ivD b)))
    (h3 : DCall Tryd.prog E 30 [ivD a, ivD b] (.data (.tup [ivD r, e]))) (h4 : DCall Tryd.prog E 11 [e] (.data (.tup [intD n, strD s]))) :
    DCall Tryd.prog E 16 [intD 3, boxD x, boxD y] (.data (.tup [boxD r, intD n, strD s])) := by
  refine dcall_of Tryd.func16 rfl (by kernel_rfl) Tryd.ntmps16 (by kernel_rfl) (by simp) (rs := [.cell 6 40, .tmp 7, .tmp 8]) rfl ?_
  rintro ⟨P, E, σ0, w0, base, n, kb, df, G0⟩ rfl rfl rfl rfl
  simp -implicitDefEqProofs only [go_sem]
  refine drawn_intro (by kernel_rfl) (by kernel_rfl) (by kernel_rfl) ?_
  simp -implicitDefEqProofs only [go_sem]
  refine Call.intro h1 ?_
  simp -implicitDefEqProofs only [go_sem]
  refine Call.intro h2 ?_
  simp -implicitDefEqProofs only [go_sem, Int.reduceBEq]
  refine Call.intro h3 ?_
  simp -implicitDefEqProofs only [go_sem]
  refine Call.intro h4 ?_
  simp -implicitDefEqProofs only [go_sem]
  refine Call.intro (pbox_c _ r) ?_
  simp -implicitDefEqProofs only [go_sem]
  refine fin_many ?_
  simp -implicitDefEqProofs only [go_sem]
set_option maxRecDepth 100000 in
theorem pop4_k (E : Nat → Option Value) {x y a b r : Nat × Nat} {e : D} {n : Int} {s : ByteArray} (h1 : DCall Tryd.prog E 24 [boxD x] (.data (ivD a))) (h2 : DCall Tryd.prog E 24 [boxD y] (.data (ivD b)))
    (h3 : DCall Tryd.prog E 31 [ivD a, ivD b] (.data (.tup [ivD r, e]))) (h4 : DCall Tryd.prog E 11 [e] (.data (.tup [intD n, strD s]))) :
    DCall Tryd.prog E 16 [intD 4, boxD x, boxD y] (.data (.tup [boxD r, intD n, strD s])) := by
  refine dcall_of Tryd.func16 rfl (by kernel_rfl) Tryd.ntmps16 (by kernel_rfl) (by simp) (rs := [.cell 6 40, .tmp 7, .tmp 8]) rfl ?_
  rintro ⟨P, E, σ0, w0, base, n, kb, df, G0⟩ rfl rfl rfl rfl
  simp -implicitDefEqProofs only [go_sem]
  refine drawn_intro (by kernel_rfl) (by kernel_rfl) (by kernel_rfl) ?_
  simp -implicitDefEqProofs only [go_sem]
  refine Call.intro h1 ?_
  simp -implicitDefEqProofs only [go_sem]
  refine Call.intro h2 ?_
  simp -implicitDefEqProofs only [go_sem, Int.reduceBEq]
  refine Call.intro h3 ?_
  simp -implicitDefEqProofs only [go_sem]
  refine Call.intro h4 ?_
  simp -implicitDefEqProofs only [go_sem]
  refine Call.intro (pbox_c _ r) ?_
  simp -implicitDefEqProofs only [go_sem]
  refine fin_many ?_
  simp -implicitDefEqProofs only [go_sem]
set_option maxRecDepth 100000 in
theorem pop5_k (E : Nat → Option Value) {x y a b r : Nat × Nat} {e : D} {n : Int} {s : ByteArray} (h1 : DCall Tryd.prog E 24 [boxD x] (.data (ivD a))) (h2 : DCall Tryd.prog E 24 [boxD y] (.data (ivD b)))
    (h3 : DCall Tryd.prog E 32 [ivD a, ivD b] (.data (.tup [ivD r, e]))) (h4 : DCall Tryd.prog E 11 [e] (.data (.tup [intD n, strD s]))) :
    DCall Tryd.prog E 16 [intD 5, boxD x, boxD y] (.data (.tup [boxD r, intD n, strD s])) := by
  refine dcall_of Tryd.func16 rfl (by kernel_rfl) Tryd.ntmps16 (by kernel_rfl) (by simp) (rs := [.cell 6 40, .tmp 7, .tmp 8]) rfl ?_
  rintro ⟨P, E, σ0, w0, base, n, kb, df, G0⟩ rfl rfl rfl rfl
  simp -implicitDefEqProofs only [go_sem]
  refine drawn_intro (by kernel_rfl) (by kernel_rfl) (by kernel_rfl) ?_
  simp -implicitDefEqProofs only [go_sem]
  refine Call.intro h1 ?_
  simp -implicitDefEqProofs only [go_sem]
  refine Call.intro h2 ?_
  simp -implicitDefEqProofs only [go_sem, Int.reduceBEq]
  refine Call.intro h3 ?_
  simp -implicitDefEqProofs only [go_sem]
  refine Call.intro h4 ?_
  simp -implicitDefEqProofs only [go_sem]
  refine Call.intro (pbox_c _ r) ?_
  simp -implicitDefEqProofs only [go_sem]
  refine fin_many ?_
  simp -implicitDefEqProofs only [go_sem]
set_option maxRecDepth 100000 in
theorem pop6_k (E : Nat → Option Value) {x y a b r : Nat × Nat} {e : D} {n : Int} {s : ByteArray} (h1 : DCall Tryd.prog E 24 [boxD x] (.data (ivD a))) (h2 : DCall Tryd.prog E 24 [boxD y] (.data (ivD b)))
    (h3 : DCall Tryd.prog E 33 [ivD a, ivD b] (.data (.tup [ivD r, e]))) (h4 : DCall Tryd.prog E 11 [e] (.data (.tup [intD n, strD s]))) :
    DCall Tryd.prog E 16 [intD 6, boxD x, boxD y] (.data (.tup [boxD r, intD n, strD s])) := by
  refine dcall_of Tryd.func16 rfl (by kernel_rfl) Tryd.ntmps16 (by kernel_rfl) (by simp) (rs := [.cell 6 40, .tmp 7, .tmp 8]) rfl ?_
  rintro ⟨P, E, σ0, w0, base, n, kb, df, G0⟩ rfl rfl rfl rfl
  simp -implicitDefEqProofs only [go_sem]
  refine drawn_intro (by kernel_rfl) (by kernel_rfl) (by kernel_rfl) ?_
  simp -implicitDefEqProofs only [go_sem]
  refine Call.intro h1 ?_
  simp -implicitDefEqProofs only [go_sem]
  refine Call.intro h2 ?_
  simp -implicitDefEqProofs only [go_sem, Int.reduceBEq]
  refine Call.intro h3 ?_
  simp -implicitDefEqProofs only [go_sem]
  refine Call.intro h4 ?_
  simp -implicitDefEqProofs only [go_sem]
  refine Call.intro (pbox_c _ r) ?_
  simp -implicitDefEqProofs only [go_sem]
  refine fin_many ?_
  simp -implicitDefEqProofs only [go_sem]
set_option maxRecDepth 100000 in
theorem pexact2_k (E : Nat → Option Value) {x : Int} {r : Nat × Nat} {n : Int} {s : ByteArray} {e : D} (h1 : DCall Tryd.prog E 44 [.v (.int .i64 x)] (.data (.tup [ivD r, e]))) (h2 : DCall Tryd.prog E 11 [e] (.data (.tup [intD n, strD s]))) :
    DCall Tryd.prog E 21 [intD 2, .v (.int .i64 x)] (.data (.tup [boxD r, intD n])) := by
  refine dcall_of Tryd.func21 rfl (by kernel_rfl) Tryd.ntmps21 (by kernel_rfl) (by simp) (rs := [.cell 4 40, .tmp 5]) rfl ?_
  rintro ⟨P, E, σ0, w0, base, n, kb, df, G0⟩ rfl rfl rfl rfl
  simp -implicitDefEqProofs only [go_sem, Int.reduceBEq]
  refine Call.intro h1 ?_
  simp -implicitDefEqProofs only [go_sem]
  refine Call.intro h2 ?_
  simp -implicitDefEqProofs only [go_sem]
  refine Call.intro (pbox_c _ r) ?_
  simp -implicitDefEqProofs only [go_sem]
  refine fin_many ?_
  simp -implicitDefEqProofs only [go_sem]
end Go.Enc
end
