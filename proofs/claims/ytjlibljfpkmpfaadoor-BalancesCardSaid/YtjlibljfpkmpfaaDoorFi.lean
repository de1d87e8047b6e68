/-
  Whole numbers as floats, and back.
-/
import Derived.Test.YtjlibljfpkmpfaaDoorFlt
import Derived.Laws.FloatArith
namespace Go.Enc.Fl
open Ieee

theorem cut_zero (s : Bool) (n d : Nat) : Toward.cut .zero s n d = n / 2 ^ min d (n.log2 + 2) := by
  unfold Toward.cut
  simp [Nat.shiftLeft_eq]
theorem toInt_exact {s : Bool} {m : Nat} {i : Int} {N : Nat} (h : (m : Rat) * 2 ^ i = (N : Rat)) : (Datum.number s m i).toInt .zero = some (if s then -(N : Int) else N) := by
  have key : Toward.cut .zero s (m <<< i.toNat) (-i).toNat = N := by
    rw [cut_zero, Nat.shiftLeft_eq]
    rcases Decidable.em (0 ≤ i) with hi | hi
    · have e1 : (-i).toNat = 0 := by omega
      rw [e1, Nat.zero_min, Nat.pow_zero, Nat.div_one]
      have e2 := mul_zpow m i.toNat 0
      rw [Rat.zpow_zero, Rat.mul_one, show (0 : Int) + ((i.toNat : Nat) : Int) = i by omega, h] at e2
      exact_mod_cast e2
    · have e1 : i.toNat = 0 := by omega
      rw [e1, Nat.pow_zero, Nat.mul_one]
      obtain ⟨d, hd⟩ : ∃ d : Nat, (-i).toNat = d := ⟨_, rfl⟩
      rw [hd]
      have e2 : m = N * 2 ^ d := by
        have h2 := mul_zpow N d 0
        rw [Rat.zpow_zero, Rat.mul_one, ← h, Rat.mul_assoc, ← zpow2_add, show i + ((0 : Int) + (d : Int)) = 0 by omega, Rat.zpow_zero, Rat.mul_one] at h2
        exact_mod_cast h2.symm
      rcases Nat.eq_zero_or_pos N with h0 | h0
      · rw [e2, h0, Nat.zero_mul, Nat.zero_div]
      · have hm : m ≠ 0 := by rw [e2]; exact Nat.pos_iff_ne_zero.1 (Nat.mul_pos h0 (Nat.pow_pos (by decide)))
        have hl : d ≤ m.log2 := (Nat.le_log2 hm).2 (by rw [e2]; exact Nat.le_mul_of_pos_left _ h0)
        rw [Nat.min_eq_left (by omega)]
        exact Nat.div_eq_of_eq_mul_left (Nat.pow_pos (by decide)) e2
  unfold Datum.toInt Datum.integral
  simp only [key, signed, Nat.shiftLeft_zero]
/-- A float whose number is whole. -/
theorem toInt_of {b : Nat} (h : Fin b) {z : Int} (hz : v (idx b) = (z : Rat)) : (double.read b).toInt .zero = some z := by
  obtain ⟨m, e, h1, h2, _⟩ := read_val h
  rw [h1]
  rw [hz] at h2
  unfold dv at h2
  cases hs : sgn b
  · rw [hs] at h2
    simp only [Bool.false_eq_true, if_false] at h2
    have hnn : 0 ≤ z := by
      have : (0 : Rat) ≤ (z : Rat) := by rw [← h2]; exact Rat.mul_nonneg (by exact_mod_cast Nat.zero_le _) (Rat.le_of_lt (zpow2_pos e))
      exact_mod_cast this
    obtain ⟨N, rfl⟩ := Int.eq_ofNat_of_zero_le hnn
    exact toInt_exact (by rw [h2, Rat.intCast_natCast])
  · rw [hs] at h2
    simp only [if_true] at h2
    have h3 : (m : Rat) * 2 ^ e = ((-z : Int) : Rat) := by rw [Rat.intCast_neg, ← h2]; grind
    have hnn : 0 ≤ -z := by
      have : (0 : Rat) ≤ ((-z : Int) : Rat) := by rw [← h3]; exact Rat.mul_nonneg (by exact_mod_cast Nat.zero_le _) (Rat.le_of_lt (zpow2_pos e))
      exact_mod_cast this
    obtain ⟨N, hN⟩ := Int.eq_ofNat_of_zero_le hnn
    rw [hN, Rat.intCast_natCast] at h3
    rw [toInt_exact h3]
    simp only [if_true]
    congr 1; omega
/-- A whole number that is a float's. -/
theorem v_of_int {z : Int} (h : z.natAbs ≤ 2 ^ 53) : ∃ i, v i = (z : Rat) := by
  obtain ⟨q, hq⟩ : ∃ q : Nat, (q : Int) = 1074 := ⟨1074, rfl⟩
  obtain ⟨i, hi⟩ := F_of z q h
  refine ⟨i, ?_⟩
  unfold v
  rw [← hi]
  unfold u
  have : (((2 ^ q : Nat) : Int) : Rat) * 2 ^ (-1074 : Int) = 1 := by
    rw [Rat.intCast_natCast, ← zpow2_nat, ← zpow2_add, show (q : Int) + -1074 = 0 by omega, Rat.zpow_zero]
  rw [Rat.intCast_mul, Rat.mul_assoc, this, Rat.mul_one]
/-- A float of a great amount is a whole number. -/
theorem v_big {i : Int} (h : (2 : Rat) ^ (53 : Int) ≤ v i) : ∃ z : Int, v i = (z : Rat) := by
  have hi : 0 ≤ i := by
    rcases Int.lt_or_le i 0 with h1 | h1
    · have := v_lt (i := i) (j := 0) h1
      rw [v_zero] at this
      have := zpow2_pos 53
      grind
    · exact h1
  obtain ⟨r, rfl⟩ := Int.eq_ofNat_of_zero_le hi
  obtain ⟨q, k, h1, h2, h3, h4, h5⟩ := V_parts r
  have hv : v (r : Int) = (k : Rat) * 2 ^ ((q : Int) - 1074) := by
    rw [v_nat, h4]; unfold u
    rw [mul_zpow]; congr 2 <;> omega
  rcases Decidable.em (0 ≤ (q : Int) - 1074) with g | g
  · refine ⟨((k * 2 ^ (q - 1074) : Nat) : Int), ?_⟩
    rw [hv, Rat.intCast_natCast]
    have := mul_zpow k (q - 1074) 0
    rw [Rat.zpow_zero, Rat.mul_one] at this
    rw [this]; congr 2; omega
  · exfalso
    have h6 := zpow_le (a := (q : Int) - 1074) (b := 0) (by omega)
    rw [Rat.zpow_zero] at h6
    have h7 : (k : Rat) < ((2 ^ 53 : Nat) : Rat) := by exact_mod_cast h2
    rw [← zpow2_nat] at h7
    have h8 : (k : Rat) * 2 ^ ((q : Int) - 1074) ≤ (k : Rat) * 1 := Rat.mul_le_mul_of_nonneg_left h6 (by exact_mod_cast Nat.zero_le _)
    rw [hv, ] at h
    have e53 : ((53 : Nat) : Int) = 53 := rfl
    rw [e53] at h7
    grind
/-- A whole number as a float: a whole number again. -/
theorem int_near {n : Int} {i : Int} (h : IsR (n : Rat) i) : ∃ z : Int, v i = (z : Rat) := by
  have hpos : ∀ {n : Int} {i : Int}, 0 ≤ n → IsR (n : Rat) i → ∃ z : Int, v i = (z : Rat) := fun {n i} hn h => by
    rcases Decidable.em (n.natAbs ≤ 2 ^ 53) with h1 | h1
    · obtain ⟨j, hj⟩ := v_of_int h1
      rw [← hj] at h
      rw [h.exact]
      exact ⟨n, hj⟩
    · obtain ⟨j, hj⟩ := v_of_int (z := 9007199254740992) (by decide)
      have h2 : v j ≤ (n : Rat) := by rw [hj]; exact Rat.intCast_le_intCast.2 (by omega)
      have h3 := v_le (h.ge h2)
      rw [hj] at h3
      refine v_big (Rat.le_trans ?_ h3)
      have : (2 : Rat) ^ (53 : Int) = ((9007199254740992 : Int) : Rat) := by
        have := zpow2_nat 53
        rw [show ((53 : Nat) : Int) = 53 from rfl] at this
        rw [this]; rfl
      rw [this]; exact Rat.le_refl
  rcases Int.le_total 0 n with hn | hn
  · exact hpos hn h
  · obtain ⟨z, hz⟩ := hpos (n := -n) (i := -i) (by omega) (by rw [Rat.intCast_neg]; exact h.neg)
    refine ⟨-z, ?_⟩
    rw [v_neg] at hz
    rw [Rat.intCast_neg, ← hz]; grind
/-- An int as a float. -/
theorem nearest_int {n : Int} (h : -9223372036854775808 ≤ n ∧ n ≤ 9223372036854775808) : ∃ x, Go.FloatKind.f64.nearest n = x ∧ Fin x ∧ x < 2 ^ 64 ∧ IsR (n : Rat) (idx x) ∧ -(2 : Rat) ^ (63 : Int) ≤ v (idx x) ∧ v (idx x) ≤ 2 ^ (63 : Int) := by
  refine ⟨_, rfl, ?_⟩
  have hN : Near (n : Rat) (double.write (.number (decide (n < 0)) n.natAbs 0)) := near_write (by
    unfold dv
    rw [Rat.zpow_zero, Rat.mul_one]
    rcases Decidable.em (n < 0) with g | g
    · rw [decide_eq_true g]
      have h1 : ((n.natAbs : Nat) : Int) = -n := by omega
      have h2 : (((n.natAbs : Nat) : Int) : Rat) = ((-n : Int) : Rat) := by rw [h1]
      rw [Rat.intCast_natCast] at h2
      simp only [if_true]
      rw [h2, Rat.intCast_neg]; grind
    · rw [decide_eq_false g]
      have h1 : ((n.natAbs : Nat) : Int) = n := by omega
      have h2 : (((n.natAbs : Nat) : Int) : Rat) = ((n : Int) : Rat) := by rw [h1]
      rwa [Rat.intCast_natCast] at h2)
  have e63 : (2 : Rat) ^ (63 : Int) = ((9223372036854775808 : Int) : Rat) := by
    have := zpow2_nat 63
    rw [show ((63 : Nat) : Int) = 63 from rfl] at this
    rw [this]; rfl
  have b1 : -(2 : Rat) ^ (((1086 : Nat) : Int) - 1023) ≤ (n : Rat) := by
    rw [show ((1086 : Nat) : Int) - 1023 = 63 by decide, e63, ← Rat.intCast_neg]
    exact Rat.intCast_le_intCast.2 h.1
  have b2 : (n : Rat) ≤ 2 ^ (((1086 : Nat) : Int) - 1023) := by
    rw [show ((1086 : Nat) : Int) - 1023 = 63 by decide, e63]
    exact Rat.intCast_le_intCast.2 h.2
  obtain ⟨f1, f2, f3, f4, f5⟩ := hN.fin (n := 1086) (by decide) (by decide) b1 b2
  rw [show ((1086 : Nat) : Int) - 1023 = 63 by decide] at f3 f4
  exact ⟨f1, f5, f2, f3, f4⟩
theorem back_int {x : Nat} {z : Int} (h : Fin x) (hz : v (idx x) = (z : Rat)) (hb : -9223372036854775808 ≤ z ∧ z ≤ 9223372036854775807) : Go.floatToIntVal .f64 x .i64 = some z := by
  unfold Go.floatToIntVal
  have : (Go.FloatKind.f64.decode x).toInt .zero = some z := toInt_of h hz
  rw [this]
  exact if_pos hb
/-- A whole number, rounded: it is plain. -/
theorem v_one_pw : v (pw 1023) = 1 := by rw [v_pw 1023 (by omega)]; rfl
theorem dn_ok {n : Int} {i : Int} (h : -9223372036854775808 ≤ n ∧ n ≤ 9223372036854775808) (hd : Dn (n : Rat) i) : ok i := by
  have hp := p0_lt
  have e63 : v (pw 1086) = ((9223372036854775808 : Int) : Rat) := by
    rw [v_pw 1086 (by omega), show ((1086 : Nat) : Int) - 1023 = 63 by decide]
    have := zpow2_nat 63
    rw [show ((63 : Nat) : Int) = 63 from rfl] at this
    rw [this]; rfl
  have m1 := pw_mono (show 123 ≤ 1023 by omega)
  have m2 := pw_mono (show 1086 ≤ 1923 by omega)
  rw [← p0_pw] at m1
  rw [← p1_pw] at m2
  have up : i ≤ pw 1086 := by
    have : v i ≤ v (pw 1086) := by rw [e63]; exact Rat.le_trans hd.1 (Rat.intCast_le_intCast.2 h.2)
    exact v_le_iff.1 this
  have lo : -pw 1086 ≤ i := hd.ge (by rw [v_neg, e63, ← Rat.intCast_neg]; exact Rat.intCast_le_intCast.2 h.1)
  rcases Int.lt_trichotomy n 0 with g | g | g
  · have : v i ≤ v (-pw 1023) := by
      rw [v_neg, v_one_pw]
      refine Rat.le_trans hd.1 ?_
      have : ((n : Int) : Rat) ≤ ((-1 : Int) : Rat) := Rat.intCast_le_intCast.2 (by omega)
      exact this
    have := v_le_iff.1 this
    unfold ok; omega
  · subst g
    have h0 : ((0 : Int) : Rat) = v 0 := by rw [v_zero]; rfl
    rw [h0] at hd
    have h1 := hd.ge (j := 0) Rat.le_refl
    have h2 := v_le_iff.1 hd.1
    unfold ok; omega
  · have := hd.ge (j := pw 1023) (by
      rw [v_one_pw]
      have : ((1 : Int) : Rat) ≤ ((n : Int) : Rat) := Rat.intCast_le_intCast.2 (by omega)
      exact this)
    unfold ok; omega
theorem up_ok {n : Int} {i : Int} (h : -9223372036854775808 ≤ n ∧ n ≤ 9223372036854775808) (hd : Up (n : Rat) i) : ok i := by
  have := dn_ok (n := -n) (i := -i) (by omega) (by rw [Rat.intCast_neg]; exact hd.neg)
  have := ok_neg this
  rwa [Int.neg_neg] at this
end Go.Enc.Fl
