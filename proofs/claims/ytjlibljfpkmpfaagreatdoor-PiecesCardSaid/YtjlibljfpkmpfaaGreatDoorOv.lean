/-
  The document's long division and whole root, by their digits.
-/
import Derived.Test.YtjlibljfpkmpfaaGreatDoorSize
import Derived.Test.YtjlibljfpkmpfaaGreatDoorDown
import Derived.Test.YtjlibljfpkmpfaaGreatDoorOl
set_option linter.unusedSimpArgs false
set_option maxRecDepth 100000
namespace Go.Enc
open Go.Proofs Go.Enc.Dg Go.Enc.Nu

theorem bits_bd {n k : Nat} (h : Bd n k) : nbits n ≤ k := by
  rcases Nat.eq_zero_or_pos n with h0 | h0
  · subst h0; exact Nat.zero_le _
  · obtain ⟨a, b, c⟩ := bits_spec (Nat.pos_iff_ne_zero.1 h0)
    rcases Nat.lt_or_ge k (nbits n) with g | g
    · have := Nat.pow_le_pow_right (show 0 < 2 by decide) (show k ≤ nbits n - 1 by omega)
      unfold Bd at h; omega
    · exact g
theorem bits_up (n : Nat) : n < 2 ^ nbits n := by
  rcases Nat.eq_zero_or_pos n with h0 | h0
  · subst h0; decide
  · exact (bits_spec (Nat.pos_iff_ne_zero.1 h0)).2.1
theorem and1_i {x : Nat} (h : x < 9223372036854775808) : IntKind.i64.wrap (((BitVec.ofInt 64 (x : Int) &&& BitVec.ofInt 64 1).toNat : Nat) : Int) = ((x % 2 : Nat) : Int) := by
  have e : (BitVec.ofInt 64 (x : Int) &&& BitVec.ofInt 64 1).toNat = x % 2 := by
    have h1 : (BitVec.ofInt 64 1).toNat = 2 ^ 1 - 1 := by decide
    rw [BitVec.toNat_and, ofInt64 (by omega), h1, Nat.and_two_pow_sub_one_eq_mod]
  rw [e]; exact w64 (by omega)
theorem and1_p {x : Nat} (h : x < 9223372036854775808) : pint .and .i64 (x : Int) 1 = some (.int .i64 ((x % 2 : Nat) : Int)) := congrArg (fun z => some (Value.int .i64 z)) (and1_i h)
/-- A bit of a number, by its digits. -/
theorem dig_bit {la : List Nat} {a j x : Nat} (hd : Dig la) (hv : vl la = a) (hx : la[j / 24]? = some x) : x / 2 ^ (j % 24) % 2 = a / 2 ^ j % 2 := by
  have hj : j = 24 * (j / 24) + j % 24 := (Nat.div_add_mod j 24).symm
  have hm : j % 24 < 24 := Nat.mod_lt _ (by decide)
  generalize j / 24 = m at *
  generalize j % 24 = s at *
  subst hj
  rw [Nat.pow_add, ← B_pow, ← Nat.div_div_eq_div_mul, ← hv, ← drop_vl hd]
  have h0 : (la.drop m)[0]? = some x := by rw [List.getElem?_drop]; simpa using hx
  generalize la.drop m = l at h0
  cases l with
  | nil => simp at h0
  | cons d l =>
    simp only [List.getElem?_cons_zero, Option.some.injEq] at h0
    subst h0
    show d / 2 ^ s % 2 = (d + B * vl l) / 2 ^ s % 2
    have hB : B = 2 ^ s * (2 * 2 ^ (23 - s)) := by rw [← Nat.pow_succ', ← Nat.pow_add, show s + (23 - s + 1) = 24 by omega]
    rw [hB, Nat.mul_assoc, Nat.add_mul_div_left _ _ (Nat.two_pow_pos s), Nat.mul_assoc, Nat.add_mul_mod_self_left]
theorem divstep {A b t : Nat} (hb : 0 < b) (ht : t < 2) :
    (b ≤ 2 * (A % b) + t → (2 * A + t) / b = 2 * (A / b) + 1 ∧ (2 * A + t) % b = 2 * (A % b) + t - b) ∧ (¬ b ≤ 2 * (A % b) + t → (2 * A + t) / b = 2 * (A / b) ∧ (2 * A + t) % b = 2 * (A % b) + t) := by
  have h1 := Nat.div_add_mod A b
  have h2 := Nat.mod_lt A hb
  generalize A / b = q at *
  generalize A % b = r at *
  constructor
  · intro h
    refine (Nat.div_mod_unique hb).2 ⟨?_, by omega⟩
    have e := Nat.mul_left_comm b 2 q
    rw [Nat.mul_add, Nat.mul_one]; omega
  · intro h
    refine (Nat.div_mod_unique hb).2 ⟨?_, by omega⟩
    have e := Nat.mul_left_comm b 2 q
    omega
theorem half_step (a j : Nat) : a / 2 ^ j = 2 * (a / 2 ^ (j + 1)) + a / 2 ^ j % 2 := by
  rw [Nat.pow_succ, ← Nat.div_div_eq_div_mul]
  try omega
theorem geZ (n : Nat) : decide (((n : Nat) : Int) ≥ 0) = true := tD (by omega)

theorem over_c (E : Nat → Option Value) {a b n : Nat} (ha : Bd a n) (hb : Bd b n) (hn : n ≤ 10000000) (hb0 : b ≠ 0) : DCall Tryz.prog E 133 [natD a, natD b] (.data (.tup [natD (a / b), bD (decide (a % b = 0))])) := by
  refine dcall_of Tryz.func133 rfl (by kernel_rfl) Tryz.ntmps133 (by kernel_rfl) (by simp) (rs := [.tmp 4, .tmp 5]) rfl ?_
  rintro ⟨P, E, σ0, w0, base, n, kb, df⟩ rfl rfl rfl rfl
  obtain ⟨la, hla⟩ : ∃ la, dg a = la := ⟨_, rfl⟩
  have hda := dig_dg a
  have hva := vl_dg a
  have sa := size_c E (ha.sm (by omega))
  have hlt := bits_up a
  have hbn := bits_bd ha
  have hbp : 0 < b := Nat.pos_of_ne_zero hb0
  have hlen : a < B ^ la.length := by have := dg_lt a; rwa [hla] at this
  rw [hla] at hda hva
  have hnat : natD a = digD la := by rw [← hla]
  rw [hnat] at sa
  obtain ⟨s, hs⟩ : ∃ s, nbits a = s := ⟨_, rfl⟩
  have hsz : a ≠ 0 → 2 ^ (s - 1) ≤ a ∧ 1 ≤ s := fun h => by have := bits_spec h; rw [hs] at this; exact ⟨this.1, this.2.2⟩
  rw [hs] at sa hlt hbn
  have w0 : IntKind.i64.wrap ((s : Int) - 1) = (s : Int) - 1 := w64 (by omega)
  have z0 : a / 2 ^ s = 0 := Nat.div_eq_of_lt hlt
  have i0 : natD (a / 2 ^ s / b) = .sl 1 [] ∧ natD (a / 2 ^ s % b) = .sl 1 [] := by
    rw [z0, Nat.zero_div, Nat.zero_mod, natD, dg_zero]; exact ⟨rfl, rfl⟩
  simp -implicitDefEqProofs only [go_sem, hla]
  refine Call.intro sa ?_
  simp -implicitDefEqProofs only [go_sem, w0]
  rw [stop_eq]
  refine dwp_loop (α := {i : Nat // i ≤ s}) (fun i => St.of [(0, .d (digD la)), (1, .d (natD b)), (6, .d (natD (a / 2 ^ i.1 / b))), (7, .d (natD (a / 2 ^ i.1 % b))), (8, .d (intD ((i.1 : Int) - 1)))] []) (fun i => i.1)
    ⟨s, Nat.le_refl _⟩ (weak_of ?_ ?_ rfl) (by kernel_rfl) (fun i => ?_)
  · simp -implicitDefEqProofs only [go_sem, i0.1, i0.2]
  · simp -implicitDefEqProofs only [go_sem]
  · obtain ⟨i, hi⟩ := i
    by_cases h0 : i = 0
    · have e1 : decide ((i : Int) - 1 ≥ 0) = false := fD (by omega)
      have q0 : a / 2 ^ i = a := by rw [h0, Nat.pow_zero, Nat.div_one]
      simp -implicitDefEqProofs only [go_sem, e1, q0, len0]
      refine fin_many ?_
      simp -implicitDefEqProofs only [go_sem, q0, len0]
    · obtain ⟨j, rfl⟩ : ∃ j, i = j + 1 := ⟨i - 1, by omega⟩
      have ej : (((j + 1 : Nat) : Int) - 1) = (j : Int) := by omega
      have a0 : a ≠ 0 := fun e => by
        have := bits_zero
        rw [e, this] at hs; omega
      have hjl : j / 24 < la.length := by
        obtain ⟨h1, h2⟩ := hsz a0
        rw [B_pow] at hlen
        rcases Nat.lt_or_ge (j / 24) la.length with g | g
        · exact g
        · have := Nat.pow_le_pow_right (show 0 < 2 by decide) (show 24 * la.length ≤ s - 1 by omega)
          omega
      obtain ⟨x, hx⟩ := get_of_lt hjl
      have hx2 : x < 16777216 := hda.get hx
      have hm24 : j % 24 < 24 := Nat.mod_lt _ (by decide)
      have hdiv := div24 (n := j) (by omega)
      have hmod := mod24 (n := j)
      have hsh := shrS (x := x) hm24
      have hxd : x / 2 ^ (j % 24) < 9223372036854775808 := Nat.lt_of_le_of_lt (Nat.div_le_self _ _) (by omega)
      have hand := and1_p hxd
      simp -implicitDefEqProofs only [go_sem, Option.some.injEq, Value.int.injEq, true_and] at hand
      have hbit := dig_bit hda hva hx
      rw [hbit] at hand
      obtain ⟨t, ht⟩ : ∃ t, a / 2 ^ j % 2 = t := ⟨_, rfl⟩
      have hst := half_step a j
      rw [ht] at hand hst
      have ht2 : t < 2 := by omega
      obtain ⟨A, hA⟩ : ∃ A, a / 2 ^ (j + 1) = A := ⟨_, rfl⟩
      rw [hA] at hst
      obtain ⟨d1, d2⟩ := divstep (A := A) hbp ht2
      have hrb : A % b < b := Nat.mod_lt _ hbp
      have hqA : A / b ≤ a := Nat.le_trans (Nat.div_le_self _ _) (by rw [← hA]; exact Nat.div_le_self _ _)
      have bq : Bd (A / b) n := ha.le hqA
      have br : Bd (A % b) n := hb.le (Nat.le_of_lt hrb)
      have bt : Bd t n := by
        rcases Nat.eq_zero_or_pos n with g | g
        · subst g; unfold Bd at ha; omega
        · unfold Bd
          have := Nat.pow_le_pow_right (show 0 < 2 by decide) g
          omega
      have u2 : ∀ z : Nat, z * 2 ^ 1 = 2 * z := fun z => by omega
      have e1 : decide ((j : Int) ≥ 0) = true := geZ j
      have w1 : IntKind.i64.wrap ((j : Int) - 1) = (j : Int) - 1 := w64 (by omega)
      have br2 : Bd (2 * (A % b)) (n + 1) := by have := br.up (j := 1); rwa [u2] at this
      have bq2 : Bd (2 * (A / b)) (n + 1) := by have := bq.up (j := 1); rwa [u2] at this
      have br3 : Bd (2 * (A % b) + t) (n + 2) := br2.add (bt.mono (by omega))
      obtain ⟨c1, c2, c3⟩ := cmpI_spec (2 * (A % b) + t) b
      simp -implicitDefEqProofs only [go_sem, ej, hA, e1, hdiv, hmod, hjl, dD_get hx, dD, hsh, hand]
      refine Call.intro (up_c _ (k := 1) br (by omega) (by omega)) ?_
      rw [u2]
      simp -implicitDefEqProofs only [go_sem, ej, hA]
      refine Call.intro (nat_c _ t (Nat.lt_trans ht2 (by decide))) ?_
      simp -implicitDefEqProofs only [go_sem, ej, hA]
      refine Call.intro (plus_c _ (br2.sm (by omega)) (bt.sm (by omega))) ?_
      simp -implicitDefEqProofs only [go_sem, ej, hA]
      refine Call.intro (up_c _ (k := 1) bq (by omega) (by omega)) ?_
      rw [u2]
      simp -implicitDefEqProofs only [go_sem, ej, hA]
      refine Call.intro (cmp_c _ (br3.sm (by omega)) (hb.sm (by omega))) ?_
      obtain ⟨x', hx'⟩ : ∃ x' : {i : Nat // i ≤ s}, x'.1 = j := ⟨⟨j, by omega⟩, rfl⟩
      by_cases hge : b ≤ 2 * (A % b) + t
      · have e2 : decide (cmpI (2 * (A % b) + t) b ≥ 0) = true := tD (by omega)
        obtain ⟨f1, f2⟩ := d1 hge
        simp -implicitDefEqProofs only [go_sem, ej, hA, e2]
        refine Call.intro (minus_c _ (br3.sm (by omega)) hge) ?_
        simp -implicitDefEqProofs only [go_sem, ej, hA]
        refine Call.intro (nat_c _ 1 (by decide)) ?_
        simp -implicitDefEqProofs only [go_sem, ej, hA]
        refine Call.intro (plus_c _ (bq2.sm (by omega)) (Bd.sm (n := 1) (k := 1) (by unfold Bd; decide) (by omega))) ?_
        simp -implicitDefEqProofs only [go_sem, ej, hA, w1]
        refine ⟨x', weak_of ?_ ?_ rfl, by simp only [hx']; omega⟩
        · simp -implicitDefEqProofs only [go_sem, ej, hA, hx', hst, f1, f2, w1]
        · simp -implicitDefEqProofs only [go_sem]
      · have e2 : decide (cmpI (2 * (A % b) + t) b ≥ 0) = false := fD (by omega)
        obtain ⟨f1, f2⟩ := d2 hge
        simp -implicitDefEqProofs only [go_sem, ej, hA, e2, w1]
        refine ⟨x', weak_of ?_ ?_ rfl, by simp only [hx']; omega⟩
        · simp -implicitDefEqProofs only [go_sem, ej, hA, hx', hst, f1, f2, w1]
        · simp -implicitDefEqProofs only [go_sem]

/-- A step of the whole root. -/
theorem rootstep {a x j : Nat} (h1 : x * x ≤ a) (h2 : a < (x + 2 ^ (j + 1)) * (x + 2 ^ (j + 1))) :
    ((x + 2 ^ j) * (x + 2 ^ j) ≤ a → a < (x + 2 ^ j + 2 ^ j) * (x + 2 ^ j + 2 ^ j)) := by
  intro _
  rw [Nat.add_assoc, show 2 ^ j + 2 ^ j = 2 ^ (j + 1) by rw [Nat.pow_succ]; omega]; exact h2
theorem sq_ge (x : Nat) : x ≤ x * x := by
  rcases Nat.eq_zero_or_pos x with h | h
  · omega
  · exact Nat.le_mul_of_pos_left x h
structure RInv (a k x : Nat) : Prop where
  lo : x * x ≤ a
  hi : a < (x + 2 ^ k) * (x + 2 ^ k)
theorem root_c (E : Nat → Option Value) {a n : Nat} (ha : Bd a n) (hn : n ≤ 4000000) : DCall Tryz.prog E 101 [natD a] (.data (.tup [natD (isq a), bD (decide (isq a * isq a = a))])) := by
  refine dcall_of Tryz.func101 rfl (by kernel_rfl) Tryz.ntmps101 (by kernel_rfl) (by simp) (rs := [.tmp 2, .tmp 3]) rfl ?_
  rintro ⟨P, E, σ0, w0, base, n, kb, df⟩ rfl rfl rfl rfl
  have sa := size_c E (ha.sm (by omega))
  have hlt := bits_up a
  have hbn := bits_bd ha
  obtain ⟨s, hs⟩ : ∃ s, nbits a = s := ⟨_, rfl⟩
  rw [hs] at sa hlt hbn
  obtain ⟨i0, hi0⟩ : ∃ i0, (s + 1) / 2 = i0 := ⟨_, rfl⟩
  have w0 : IntKind.i64.wrap ((s : Int) + 1) = ((s + 1 : Nat) : Int) := addN1 (by omega)
  have w1 : IntKind.i64.wrap (((s + 1 : Nat) : Int).tdiv 2) = (i0 : Int) := by rw [div2 (by omega), hi0]
  have hst : RInv a (i0 + 1) 0 := by
    refine ⟨by omega, ?_⟩
    rw [Nat.zero_add, ← Nat.pow_add]
    exact Nat.lt_of_lt_of_le hlt (Nat.pow_le_pow_right (by decide) (by omega))
  have n0 : natD 0 = .sl 1 [] := by rw [natD, dg_zero]; rfl
  simp -implicitDefEqProofs only [go_sem]
  refine Call.intro sa ?_
  simp -implicitDefEqProofs only [go_sem, w0, w1]
  rw [stop_eq]
  refine dwp_loop (α := {p : Nat × Nat // p.1 ≤ i0 + 1 ∧ RInv a p.1 p.2}) (fun p => St.of [(0, .d (natD a)), (4, .d (natD p.1.2)), (5, .d (intD ((p.1.1 : Int) - 1)))] []) (fun p => p.1.1)
    ⟨(i0 + 1, 0), Nat.le_refl _, hst⟩ (weak_of ?_ ?_ rfl) (by kernel_rfl) (fun p => ?_)
  · have e : (((i0 + 1 : Nat) : Int) - 1) = (i0 : Int) := by omega
    simp -implicitDefEqProofs only [go_sem, n0, e]
  · simp -implicitDefEqProofs only [go_sem]
  · obtain ⟨⟨i, x⟩, hi, R⟩ := p
    simp only at hi R
    have bx : Bd x n := ha.le (Nat.le_trans (sq_ge x) R.lo)
    by_cases h0 : i = 0
    · have e1 : decide ((i : Int) - 1 ≥ 0) = false := fD (by omega)
      have hx : x = isq a := isq_uniq R.lo (by have := R.hi; rwa [h0, Nat.pow_zero] at this)
      have hc := cmpI_spec (x * x) a
      have e2 : ((cmpI (x * x) a == 0) : Bool) = decide (x * x = a) := by rw [Bool.eq_iff_iff, beq_iff_eq, decide_eq_true_eq]; exact hc.2.1
      simp -implicitDefEqProofs only [go_sem, e1]
      refine Call.intro (times_c _ (bx.sm (by omega)) (bx.sm (by omega))) ?_
      simp -implicitDefEqProofs only [go_sem]
      refine Call.intro (cmp_c _ ((bx.mul bx).sm (by omega)) (ha.sm (by omega))) ?_
      simp -implicitDefEqProofs only [go_sem, e2]
      refine fin_many ?_
      simp -implicitDefEqProofs only [go_sem, e2, hx]
    · obtain ⟨j, rfl⟩ : ∃ j, i = j + 1 := ⟨i - 1, by omega⟩
      have ej : (((j + 1 : Nat) : Int) - 1) = (j : Int) := by omega
      have e1 : decide ((j : Int) ≥ 0) = true := geZ j
      have w2 : IntKind.i64.wrap ((j : Int) - 1) = (j : Int) - 1 := w64 (by omega)
      have o1 : 1 * 2 ^ j = 2 ^ j := Nat.one_mul _
      have b1 : Bd 1 1 := by unfold Bd; decide
      have bj : Bd (2 ^ j) (n + 3) := by unfold Bd; exact Nat.pow_lt_pow_right (by decide) (by omega)
      have by' : Bd (x + 2 ^ j) (n + 4) := (bx.mono (by omega)).add bj
      simp -implicitDefEqProofs only [go_sem, ej, e1]
      refine Call.intro (nat_c _ 1 (by decide)) ?_
      simp -implicitDefEqProofs only [go_sem, ej]
      refine Call.intro (up_c _ (k := j) b1 (by omega) (by omega)) ?_
      rw [o1]
      simp -implicitDefEqProofs only [go_sem, ej]
      refine Call.intro (plus_c _ (bx.sm (by omega)) (bj.sm (by omega))) ?_
      simp -implicitDefEqProofs only [go_sem, ej]
      obtain ⟨y, hy⟩ : ∃ y, x + 2 ^ j = y := ⟨_, rfl⟩
      have hstep := rootstep R.lo R.hi
      have hR := R.lo
      rw [hy] at by' hstep ⊢
      refine Call.intro (times_c _ (by'.sm (by omega)) (by'.sm (by omega))) ?_
      simp -implicitDefEqProofs only [go_sem, ej]
      refine Call.intro (cmp_c _ ((by'.mul by').sm (by omega)) (ha.sm (by omega))) ?_
      obtain ⟨c1, c2, c3⟩ := cmpI_spec (y * y) a
      by_cases hle : y * y ≤ a
      · have e2 : decide (cmpI (y * y) a ≤ 0) = true := tD (by omega)
        obtain ⟨x', hx'⟩ : ∃ x' : {p : Nat × Nat // p.1 ≤ i0 + 1 ∧ RInv a p.1 p.2}, x'.1 = (j, y) := ⟨⟨(j, y), by simp only; omega, ⟨hle, hstep hle⟩⟩, rfl⟩
        simp -implicitDefEqProofs only [go_sem, ej, e2, w2]
        refine ⟨x', weak_of ?_ ?_ rfl, by simp only [hx']; omega⟩
        · simp -implicitDefEqProofs only [go_sem, ej, hx', w2]
        · simp -implicitDefEqProofs only [go_sem]
      · have e2 : decide (cmpI (y * y) a ≤ 0) = false := fD (by omega)
        obtain ⟨x', hx'⟩ : ∃ x' : {p : Nat × Nat // p.1 ≤ i0 + 1 ∧ RInv a p.1 p.2}, x'.1 = (j, x) := ⟨⟨(j, x), by simp only; omega, ⟨hR, by simp only; rw [hy]; omega⟩⟩, rfl⟩
        simp -implicitDefEqProofs only [go_sem, ej, e2, w2]
        refine ⟨x', weak_of ?_ ?_ rfl, by simp only [hx']; omega⟩
        · simp -implicitDefEqProofs only [go_sem, ej, hx', w2]
        · simp -implicitDefEqProofs only [go_sem]
end Go.Enc
