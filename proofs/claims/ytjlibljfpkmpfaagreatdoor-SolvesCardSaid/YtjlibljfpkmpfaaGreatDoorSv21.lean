/-
  Whole numbers as floats, and back.
  Exact of an int64 by its contract; boxes as intervals. The operations by their methods, and as package plain asks them.
  The corners of products and of quotients, and where they are rounded to. Sums, differences, products, quotients of intervals: plain where they are not too great; they hold.
  A polynomial's numbers as data; may they be one's?
  A number of the document rounded in a direction: it lies in the class of the answer.
-/
import Derived.Test.YtjlibljfpkmpfaaGreatDoorSv11
import Derived.Laws.FloatArith
import Derived.Test.YtjlibljfpkmpfaaGreatDoorSv20
import Derived.Test.YtjlibljfpkmpfaaGreatDoorSv19
import Derived.Test.YtjlibljfpkmpfaaGreatDoorSv15
section
namespace Go.Enc.Fl
open Ieee
end Go.Enc.Fl
end
section
section
set_option linter.unusedSimpArgs false
namespace Go.Enc
open Go.Proofs Go.Enc.Fl
end Go.Enc
end
section
set_option linter.unusedSimpArgs false
namespace Go.Enc
open Go.Proofs Go.Enc.Fl
abbrev minusS : ByteArray := ⟨#[45]⟩
abbrev timesS : ByteArray := ⟨#[42]⟩
abbrev overS : ByteArray := ⟨#[47]⟩
set_option maxRecDepth 100000 in
theorem isub_k (E : Nat → Option Value) {a b r : Nat × Nat} {l h : Nat} {e : D} (h1 : DCall Tryz.prog E 86 [flD a.1, flD (fneg b.2), intD (-1)] (.data (flD l))) (h2 : DCall Tryz.prog E 86 [flD a.2, flD (fneg b.1), intD 1] (.data (flD h)))
    (h3 : DCall Tryz.prog E 85 [strD minusS, flD l, flD h] (.data (.tup [ivD r, e]))) : DCall Tryz.prog E 42 [ivD a, ivD b] (.data (.tup [ivD r, e])) := by
  refine dcall_of Tryz.func42 rfl (by kernel_rfl) Tryz.ntmps42 (by kernel_rfl) (by simp) (rs := [.cell 4 59, .tmp 5]) rfl ?_
  rintro ⟨P, E, σ0, w0, base, n, kb, df, G0⟩ rfl rfl rfl rfl
  simp -implicitDefEqProofs only [go_sem]
  refine drawn_intro (by kernel_rfl) (by kernel_rfl) (by kernel_rfl) ?_
  simp -implicitDefEqProofs only [go_sem, negFloat_eq]
  refine Call.intro h1 ?_
  simp -implicitDefEqProofs only [go_sem, negFloat_eq]
  refine Call.intro h2 ?_
  simp -implicitDefEqProofs only [go_sem]
  refine Call.intro h3 ?_
  simp -implicitDefEqProofs only [go_sem]
  refine fin_many ?_
  simp -implicitDefEqProofs only [go_sem]
set_option maxRecDepth 100000 in
theorem imul_k (E : Nat → Option Value) {a b r : Nat × Nat} {e : D} (h3 : DCall Tryz.prog E 87 [strD timesS, ivD a, ivD b, .v (.func (.func 88) #[] #[])] (.data (.tup [ivD r, e]))) : DCall Tryz.prog E 43 [ivD a, ivD b] (.data (.tup [ivD r, e])) := by
  refine dcall_of Tryz.func43 rfl (by kernel_rfl) Tryz.ntmps43 (by kernel_rfl) (by simp) (rs := [.cell 4 59, .tmp 5]) rfl ?_
  rintro ⟨P, E, σ0, w0, base, n, kb, df, G0⟩ rfl rfl rfl rfl
  simp -implicitDefEqProofs only [go_sem]
  refine Call.intro h3 ?_
  simp -implicitDefEqProofs only [go_sem]
  refine fin_many ?_
  simp -implicitDefEqProofs only [go_sem]
set_option maxRecDepth 100000 in
theorem iholds_c (E : Nat → Option Value) {b : Nat × Nat} {x : Nat} (h1 : Num b.1) (h2 : Num b.2) (hx : Num x) : DCall Tryz.prog E 89 [ivD b, flD x] (.data (bD (decide (idx b.1 ≤ idx x) && decide (idx x ≤ idx b.2)))) := by
  refine dcall_of Tryz.func89 rfl (by kernel_rfl) Tryz.ntmps89 (by kernel_rfl) (by simp) (rs := [.tmp 4]) rfl ?_
  rintro ⟨P, E, σ0, w0, base, n, kb, df, G0⟩ rfl rfl rfl rfl
  have e1 := tV (ord_le h1 hx)
  have e2 := tV (ord_le hx h2)
  cases hA : decide (idx b.1 ≤ idx x)
  · rw [hA] at e1
    simp -implicitDefEqProofs only [go_sem, e1, finK, Bool.false_and]
  · rw [hA] at e1
    simp -implicitDefEqProofs only [go_sem, e1, e2, finK, Bool.true_and]
set_option maxRecDepth 100000 in
theorem idiv_k (E : Nat → Option Value) {a b r : Nat × Nat} {e : D} (h1 : DCall Tryz.prog E 89 [ivD b, flD 0] (.data (bD false))) (h3 : DCall Tryz.prog E 87 [strD overS, ivD a, ivD b, .v (.func (.func 90) #[] #[])] (.data (.tup [ivD r, e]))) :
    DCall Tryz.prog E 44 [ivD a, ivD b] (.data (.tup [ivD r, e])) := by
  refine dcall_of Tryz.func44 rfl (by kernel_rfl) Tryz.ntmps44 (by kernel_rfl) (by simp) (rs := [.cell 4 59, .tmp 5]) rfl ?_
  rintro ⟨P, E, σ0, w0, base, n, kb, df, G0⟩ rfl rfl rfl rfl
  simp -implicitDefEqProofs only [go_sem]
  refine Call.intro h1 ?_
  simp -implicitDefEqProofs only [go_sem]
  refine Call.intro h3 ?_
  simp -implicitDefEqProofs only [go_sem]
  refine fin_many ?_
  simp -implicitDefEqProofs only [go_sem]
set_option maxRecDepth 100000 in
theorem idiv_z {E : Nat → Option Value} {q : Nat → Addr} (hq : Sent E q) {a b : Nat × Nat} (h1 : DCall Tryz.prog E 89 [ivD b, flD 0] (.data (bD true))) :
    DCall Tryz.prog E 44 [ivD a, ivD b] (.data (.tup [ivD (0, 0), opE overS (eD q 3)])) := by
  refine dcall_of Tryz.func44 rfl (by kernel_rfl) Tryz.ntmps44 (by kernel_rfl) (by simp) (rs := [.cell 4 59, .tmp 5]) rfl ?_
  rintro ⟨P, E, σ0, w0, base, n, kb, df, G0⟩ rfl rfl rfl rfl
  have e3 : E 3 = some (errV (q 3)) := hq.var 3 (by decide)
  simp -implicitDefEqProofs only [go_sem]
  refine Call.intro h1 ?_
  simp -implicitDefEqProofs only [go_sem]
  refine drawn_intro (by kernel_rfl) (by kernel_rfl) (by kernel_rfl) ?_
  simp -implicitDefEqProofs only [go_sem, e3, errV]
  refine fin_many ?_
  simp -implicitDefEqProofs only [go_sem, errV]
set_option maxRecDepth 100000 in
theorem pmade_k (E : Nat → Option Value) {x r : Nat × Nat} {e : D} (hm : DCall Tryz.prog E 30 [flD x.1, flD x.2] (.data (.tup [ivD r, e]))) : DCall Tryz.prog E 37 [boxD x] (.data (ivD r)) := by
  refine dcall_of Tryz.func37 rfl (by kernel_rfl) Tryz.ntmps37 (by kernel_rfl) (by simp) (rs := [.cell 2 59]) rfl ?_
  rintro ⟨P, E, σ0, w0, base, n, kb, df, G0⟩ rfl rfl rfl rfl
  simp -implicitDefEqProofs only [go_sem]
  refine drawn_intro (by kernel_rfl) (by kernel_rfl) (by kernel_rfl) ?_
  simp -implicitDefEqProofs only [go_sem]
  refine Call.intro (float_c _ x.1) ?_
  simp -implicitDefEqProofs only [go_sem]
  refine Call.intro (float_c _ x.2) ?_
  simp -implicitDefEqProofs only [go_sem]
  refine Call.intro hm ?_
  simp -implicitDefEqProofs only [go_sem]
end Go.Enc
end
end
section
section
set_option linter.unusedSimpArgs false
namespace Go.Enc
open Go.Proofs Go.Enc.Fl
theorem num_of_idx {b : Nat} (h : -(inf : Int) ≤ idx b ∧ idx b ≤ inf) : Num b := by
  unfold Num
  rw [idx_sgn] at h
  split at h <;> omega
theorem side_num {p r : Nat} (w : Int) (hl : p < 2 ^ 64) (hf : Fl.Fin p) : Num (side p r w) := by
  have hi := idx_fin.1 hf
  unfold side
  split
  · have := (nextDn_idx hl hf).1
    exact num_of_idx (by omega)
  · split
    · have := (nextUp_idx hl hf).1
      exact num_of_idx (by omega)
    · exact hf.num
theorem p901_val : p901 = 549439154539200512 := by unfold p901 pw; omega
theorem small_iff {p : Nat} (hn : Num p) : (FloatKind.f64.format.order (p % 2 ^ 63) 549439154539200512 == some Ordering.lt) = decide (-p901 < idx p ∧ idx p < p901) := by
  rw [ord_lt (num_abs.2 hn) (show Num 549439154539200512 by decide), idx_abs, show idx 549439154539200512 = 549439154539200512 by decide, p901_val]
  congr 1
  rw [eq_iff_iff]
  have := idx_sgn p
  split at this <;> omega
theorem one_iff {p : Nat} (hn : Num p) : (FloatKind.f64.format.order (p % 2 ^ 63) 4607182418800017408 == some Ordering.gt) = decide ((4607182418800017408 : Int) < (p % 2 ^ 63 : Nat)) := by
  rw [ord_gt (num_abs.2 hn) (show Num 4607182418800017408 by decide), idx_abs, show idx 4607182418800017408 = 4607182418800017408 by decide]
theorem nan_not : ¬ Num 9221120237041090561 := by decide
theorem lt0_iff {a : Nat} (ha : Num a) : (FloatKind.f64.format.order a 0 == some Ordering.lt) = decide (idx a < 0) := by
  have := ord_lt ha num0.1
  rwa [num0.2] at this
theorem eq0_iff {a : Nat} (ha : Num a) : (FloatKind.f64.format.order a 0 == some Ordering.eq) = decide (idx a = 0) := by
  have := ord_eq ha num0.1
  rwa [num0.2] at this
theorem ne0_iff {a : Nat} (ha : Num a) : (FloatKind.f64.format.order a 0 != some Ordering.eq) = !decide (idx a = 0) := by
  have := ord_ne ha num0.1
  rwa [num0.2] at this
/-- What tiny answers is what stands in the place. -/
theorem tiny_eq {p : Nat} {z : Prop} {n1 n2 : Bool} (hn : Num p) (ho : Odd p z) : (if decide ((4607182418800017408 : Int) < (p % 2 ^ 63 : Nat)) = true then p else if (n1 != n2) = true then 9223372036854775809 else 1) = tinyB p (n1 != n2) := by
  unfold tinyB
  by_cases h : p % 2 ^ 63 = inf
  · rw [if_pos h, if_pos (decide_eq_true (by rw [h]; unfold inf; omega))]
  · rw [if_neg h]
    have : ¬ ((4607182418800017408 : Int) < (p % 2 ^ 63 : Nat)) := by
      unfold Odd at ho
      rw [p901_val] at ho
      have := idx_sgn p
      rcases ho with ho | ho | ho
      · split at this <;> omega
      · exact absurd ho h
      · split at this <;> omega
    rw [if_neg (by simpa using this)]
set_option maxRecDepth 100000 in
theorem mul_cor (E : Nat → Option Value) {a b : Nat} (ha : OkB a) (hb : OkB b) : ∃ l h, Corner E 88 timesS a b l h ∧ DnK (v (idx a) * v (idx b)) (K (idx l)) ∧ UpK (v (idx a) * v (idx b)) (K (idx h)) := by
  obtain ⟨p, ep, hl, hn, c1, c2⟩ := mul_corner ha hb
  have na := ha.fin.num
  have nb := hb.fin.num
  have g1 := small_iff hn
  have g2 := ne0_iff hn
  have g4 := eq0_iff hn
  have g5 := ne0_iff na
  have g6 := ne0_iff nb
  have ep' : FloatKind.f64.format.mul a b = some p := ep
  have ho : oddM (decide (-p901 < idx p ∧ idx p < p901)) (!decide (idx p = 0)) (decide (p % 2 ^ 63 = inf)) (decide (idx p = 0)) (!decide (idx a = 0)) (!decide (idx b = 0)) = true ↔ Odd p (idx a = 0 ∨ idx b = 0) := by
    simp only [oddM, Odd, Bool.or_eq_true, Bool.and_eq_true, Bool.not_eq_true', decide_eq_true_eq, decide_eq_false_iff_not]
    omega
  by_cases h : Odd p (idx a = 0 ∨ idx b = 0)
  · obtain ⟨d1, d2, d3, d4⟩ := c2 h
    have ho' := ho.2 h
    refine ⟨_, _, ⟨⟨_, _, xmul_odd E (-1) ep' hl hn g1 g2 rfl g4 g5 g6 ho', xmul_odd E 1 ep' hl hn g1 g2 rfl g4 g5 g6 ho', .inr ⟨nan_not, ?_, rfl⟩⟩, d4, d4, d3, d3⟩, d1, d2⟩
    have ht := tiny_k E (s := timesS) (dv := false) (by kernel_rfl) ep' (p := p) (by simpa using ep') hl (one_iff hn) (lt0_iff na) (lt0_iff nb)
    rwa [tiny_eq hn h] at ht
  · obtain ⟨fp, r, er, nr, d1, d2, d3, d4⟩ := c1 h
    have ho' := Bool.eq_false_iff.2 (fun k => h (ho.1 k))
    exact ⟨_, _, ⟨⟨_, _, xmul_ok E (-1) ep' hl hn g1 g2 rfl g4 g5 g6 ho' er (sideD_c E hl fp nr), xmul_ok E 1 ep' hl hn g1 g2 rfl g4 g5 g6 ho' er (sideU_c E hl fp nr), .inl ⟨side_num _ hl fp, rfl, rfl⟩⟩, side_num _ hl fp, side_num _ hl fp, d3, d4⟩, d1, d2⟩
set_option maxRecDepth 100000 in
theorem div_cor (E : Nat → Option Value) {a b : Nat} (ha : OkB a) (hb : OkB b) (hb0 : idx b ≠ 0) : ∃ l h, Corner E 90 overS a b l h ∧ DnK (v (idx a) / v (idx b)) (K (idx l)) ∧ UpK (v (idx a) / v (idx b)) (K (idx h)) := by
  obtain ⟨p, ep, hl, hn, c1, c2⟩ := div_corner ha hb hb0
  obtain ⟨m, em, _⟩ := mul_corner ha hb
  have na := ha.fin.num
  have nb := hb.fin.num
  have g1 := small_iff hn
  have g2 := ne0_iff hn
  have g4 := eq0_iff hn
  have g5 := ne0_iff na
  have gb := lt0_iff nb
  have ep' : FloatKind.f64.format.div a b = some p := ep
  have em' : FloatKind.f64.format.mul a b = some m := em
  have ho : oddV (decide (-p901 < idx p ∧ idx p < p901)) (!decide (idx p = 0)) (decide (p % 2 ^ 63 = inf)) (decide (idx p = 0)) (!decide (idx a = 0)) = true ↔ Odd p (idx a = 0) := by
    simp only [oddV, Odd, Bool.or_eq_true, Bool.and_eq_true, Bool.not_eq_true', decide_eq_true_eq, decide_eq_false_iff_not]
    omega
  by_cases h : Odd p (idx a = 0)
  · obtain ⟨d1, d2, d3, d4⟩ := c2 h
    have ho' := ho.2 h
    refine ⟨_, _, ⟨⟨_, _, xdiv_odd E (-1) ep' hl hn g1 g2 rfl g4 g5 ho', xdiv_odd E 1 ep' hl hn g1 g2 rfl g4 g5 ho', .inr ⟨nan_not, ?_, rfl⟩⟩, d4, d4, d3, d3⟩, d1, d2⟩
    have ht := tiny_k E (s := overS) (dv := true) (by kernel_rfl) em' (p := p) (by simpa using ep') hl (one_iff hn) (lt0_iff na) (lt0_iff nb)
    rwa [tiny_eq hn h] at ht
  · obtain ⟨fp, r, er, rl, nr, d1, d2, d3, d4⟩ := c1 h
    have ho' := Bool.eq_false_iff.2 (fun k => h (ho.1 k))
    have nr' : Num (if idx b < 0 then fneg r else r) := by
      split
      · unfold Num; rw [(fneg_spec rl).2.1]; exact nr
      · exact nr
    have hsD := sideD_c E hl fp nr'
    have hsU := sideU_c E hl fp nr'
    have e : (if decide (idx b < 0) = true then fneg r else r) = (if idx b < 0 then fneg r else r) := by simp
    exact ⟨_, _, ⟨⟨_, _, xdiv_ok E (-1) ep' hl hn g1 g2 rfl g4 g5 ho' er gb (by rw [e]; exact hsD), xdiv_ok E 1 ep' hl hn g1 g2 rfl g4 g5 ho' er gb (by rw [e]; exact hsU), .inl ⟨side_num _ hl fp, rfl, rfl⟩⟩, side_num _ hl fp, side_num _ hl fp, d3, d4⟩, d1, d2⟩
end Go.Enc
end
section
set_option linter.unusedSimpArgs false
set_option maxRecDepth 100000
namespace Go.Enc
open Go.Proofs Go.Enc.Fl
/-- An interval of plain ends in their order, no nought with a sign. -/
structure Gd (x : Nat × Nat) : Prop where
  l1 : x.1 < 18446744073709551616
  l2 : x.2 < 18446744073709551616
  p1 : plainB x.1 = true
  p2 : plainB x.2 = true
  le : idx x.1 ≤ idx x.2
  q1 : posB x.1 = x.1
  q2 : posB x.2 = x.2
theorem ok_plain {b : Nat} (h : ok (idx b)) : plainB b = true := by
  unfold plainB
  apply decide_eq_true
  have := idx_sgn b
  unfold ok p0 p1 at h
  split at this <;> omega
theorem plain_ok {b : Nat} (h : plainB b = true) (hl : b < 18446744073709551616) : OkB b := by
  refine ⟨hl, ?_⟩
  have h := of_decide_eq_true h
  have := idx_sgn b
  unfold ok p0 p1
  split at this <;> omega
theorem posB_idx (b : Nat) : idx (posB b) = idx b := by
  unfold posB
  split
  · rename_i h; subst h; decide
  · rfl
theorem posB_plain {b : Nat} (h : plainB b = true) : plainB (posB b) = true := by
  unfold posB
  split
  · decide
  · exact h
/-- A class is plain where the number is of a plain amount. -/
def Mid (X : Rat) : Prop := X = 0 ∨ (v p0 ≤ X ∧ X < v (p1 + 1)) ∨ (v (-p1) ≤ X ∧ X < v (-p0 + 1))
theorem Mid.dn {X : Rat} {k : Int} (hx : Mid X) (h : DnK X k) : ok k := by
  obtain ⟨b1, b2, b3, b4⟩ := vs
  have c := p0_lt
  unfold DnK at h
  unfold Mid at hx
  unfold ok
  rcases h with ⟨h1, h2⟩ | ⟨h1, h2, h3⟩ | ⟨h1, h2, h3⟩ | ⟨h1, h2⟩ | ⟨h1, h2, h3⟩ | ⟨h1, h2, h3⟩ | ⟨h1, h2⟩
  · exact .inl h2
  · exfalso; grind
  · have := h3.ge h1; have := h3.lt h2; omega
  · exfalso; grind
  · exfalso; grind
  · have := h3.ge h1; have := h3.lt h2; omega
  · exfalso; grind
theorem Mid.neg {X : Rat} (h : v (-p1) < X ∧ X < v p1 ∧ (X = 0 ∨ v p0 ≤ X ∨ X ≤ v (-p0))) : Mid X ∧ Mid (-X) := by
  have c := p0_lt
  have m1 := v_lt (i := p1) (j := p1 + 1) (by omega)
  have m2 := v_lt (i := -p0) (j := -p0 + 1) (by omega)
  have n1 := v_neg p1
  have n2 := v_neg p0
  have z1 := v_lt (i := 0) (j := p0) (by omega)
  rw [v_zero] at z1
  unfold Mid
  constructor
  · grind
  · grind
/-- A SUM of what is plain. -/
theorem add_c (E : Nat → Option Value) {a b : Nat} (ha : OkB a) (hb : OkB b) : ∃ l h, DCall Tryz.prog E 86 [flD a, flD b, intD (-1)] (.data (flD l)) ∧ DCall Tryz.prog E 86 [flD a, flD b, intD 1] (.data (flD h)) ∧
    l < 2 ^ 64 ∧ h < 2 ^ 64 ∧ Dn (v (idx a) + v (idx b)) (idx l) ∧ Up (v (idx a) + v (idx b)) (idx h) := by
  obtain ⟨s, t, c, d, f, r, es, et, ec, ed, ef, er, sl, sf, rn, ⟨d1, d2⟩, u1, u2⟩ := add_round ha hb
  exact ⟨_, _, xadd_c E es et ec ed ef er (sideD_c E sl sf rn), xadd_c E es et ec ed ef er (sideU_c E sl sf rn), d2, u2, d1, u1⟩
theorem mins {a b c d x : Int} (h : x = a ∨ x = b ∨ x = c ∨ x = d) : min (min (min a b) c) d ≤ x := by omega
theorem maxs {a b c d x : Int} (h : x = a ∨ x = b ∨ x = c ∨ x = d) : x ≤ max (max (max a b) c) d := by omega
end Go.Enc
end
end
section
set_option linter.unusedSimpArgs false
set_option maxRecDepth 100000
namespace Go.Enc
open Go.Proofs Go.Enc.Dg Go.Enc.Nu Go.Enc.Fl
abbrev usD (l : List Nat) : D := .sl 1 (l.map uD)
theorem div1 (n : Nat) : n / 1 = n := Nat.div_one n
end Go.Enc
end
section
namespace Go.Enc.Nu
open Go.Enc.Fl
structure Tz (Y : Rat) (m : Nat) (e : Int) : Prop where
  lo : 4503599627370496 ≤ m
  hi : m < 9007199254740992
  le : (m : Rat) * 2 ^ e ≤ Y
  lt : Y < ((m + 1 : Nat) : Rat) * 2 ^ e
structure Aw (Y : Rat) (m : Nat) (e : Int) : Prop where
  lo : 4503599627370496 ≤ m
  hi : m < 9007199254740992
  le : Y ≤ (m : Rat) * 2 ^ e
  lt : 4503599627370496 < m → ((m - 1 : Nat) : Rat) * 2 ^ e < Y
  lt2 : m = 4503599627370496 → ((9007199254740991 : Nat) : Rat) * 2 ^ (e - 1) < Y
/-- The parts of a great number. -/
structure Part (n k q P r : Nat) (e : Int) : Prop where
  lo : 4503599627370496 ≤ q
  hi : q < 9007199254740992
  sum : q * P + r = n
  rest : r < P
  at_ : ∀ m : Nat, (m : Rat) * 2 ^ (e + (k : Int)) = ((m * P : Nat) : Rat) * 2 ^ e
theorem DnK.pos {Y : Rat} {k : Int} (hY : 0 < Y) (h : DnK Y k) (hk : ok k) : 0 < k := by
  have := (h.val hk).2
  have h2 : v (0 : Int) < v (k + 1) := by rw [v_zero]; grind
  have h3 := v_lt_iff.1 h2
  rcases h with ⟨h1, _⟩ | ⟨_, _, h1⟩ | ⟨h1, _, h2⟩ | ⟨h1, h2⟩ | ⟨_, h1, _⟩ | ⟨_, h1, _⟩ | ⟨h1, _⟩
  · exact absurd h1 (by grind)
  · omega
  · have := h2.ge h1; have := p0_lt; omega
  · have := p0_lt; omega
  · exact absurd h1 (by grind)
  · have := vs; exact absurd h1 (by grind)
  · have := vs; exact absurd h1 (by grind)
theorem UpK.pos {Y : Rat} {k : Int} (hY : 0 < Y) (h : UpK Y k) (hk : ok k) : 0 < k := by
  have := (h.val hk).2
  have h2 : v (0 : Int) < v k := by rw [v_zero]; grind
  exact v_lt_iff.1 h2
end Go.Enc.Nu
end
