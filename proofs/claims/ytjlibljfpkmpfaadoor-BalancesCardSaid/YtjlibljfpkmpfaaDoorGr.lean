/-
  How much a directed rounding loses; which multiples floats are; how small a difference of floats can be.
-/
import Derived.Test.YtjlibljfpkmpfaaDoorFlt
namespace Go.Enc.Fl
open Ieee

/-- A float's last digit, beside its number. -/
abbrev eps : Rat := 1 / 4503599627370496
theorem V_gap {r : Nat} (h : 2 ^ 52 ≤ r) : V r ≤ V (r + 1) ∧ 2 ^ 52 * (V (r + 1) - V r) ≤ V r := by
  obtain ⟨q, k, h1, h2, h3, h4, h5⟩ := V_parts r
  have hk : 2 ^ 52 ≤ k := by
    rcases h3 with h3 | h3
    · subst h3; omega
    · exact h3
  rw [h4, h5]
  have e : (k + 1) * 2 ^ q = k * 2 ^ q + 2 ^ q := by rw [Nat.add_mul, Nat.one_mul]
  rw [e]
  refine ⟨Nat.le_add_right _ _, ?_⟩
  rw [Nat.add_sub_cancel_left]
  exact Nat.mul_le_mul_right _ hk
theorem v_gap {r : Nat} (h : 2 ^ 52 ≤ r) : v ((r : Int) + 1) - v r ≤ eps * v r := by
  obtain ⟨h1, h2⟩ := V_gap h
  have e : ((r : Int) + 1) = ((r + 1 : Nat) : Int) := by omega
  rw [e, v_nat, v_nat]
  have hu := u_pos
  have h3 : ((2 ^ 52 * (V (r + 1) - V r) : Nat) : Rat) ≤ (V r : Rat) := by exact_mod_cast h2
  have h4 : ((2 ^ 52 * (V (r + 1) - V r) : Nat) : Rat) = 4503599627370496 * ((V (r + 1) : Rat) - V r) := by
    obtain ⟨g, hg⟩ := Nat.exists_eq_add_of_le h1
    rw [hg, Nat.add_sub_cancel_left, Rat.natCast_mul, Rat.natCast_add]
    have : ((2 ^ 52 : Nat) : Rat) = 4503599627370496 := rfl
    rw [this]
    grind
  rw [h4] at h3
  have h5 := Rat.mul_le_mul_of_nonneg_right h3 (Rat.le_of_lt hu)
  unfold eps
  grind
/-- What rounding down loses. -/
theorem Dn.err {x : Rat} {i : Int} (h : Dn x i) (hx : x = 0 ∨ v p0 ≤ x ∨ x ≤ v (-p0)) : x - v i ≤ eps * x ∨ x - v i ≤ eps * -x := by
  have hp := p0_lt
  have hp52 : (2 : Int) ^ 52 + 1 < p0 := by unfold p0; omega
  rcases hx with rfl | hx | hx
  · have h1 := h.ge (j := 0) (by rw [v_zero]; exact Rat.le_refl)
    have h2 := v_le h1
    rw [v_zero] at h2
    left
    grind
  · have h1 := h.ge hx
    obtain ⟨r, rfl⟩ := Int.eq_ofNat_of_zero_le (show 0 ≤ i by omega)
    have h2 := v_gap (r := r) (by omega)
    have h3 := h.1
    have h4 := h.2
    left
    have : (0 : Rat) < eps := by unfold eps; decide +kernel
    have h5 := Rat.mul_le_mul_of_nonneg_left h3 (Rat.le_of_lt this)
    grind
  · have h1 : i ≤ -p0 := v_le_iff.1 (Rat.le_trans h.1 hx)
    obtain ⟨r, hr⟩ := Int.eq_ofNat_of_zero_le (show 0 ≤ -i - 1 by omega)
    have h2 := v_gap (r := r) (by omega)
    have h3 := h.1
    have h4 := h.2
    have e1 : i = -((r : Int) + 1) := by omega
    have e2 : i + 1 = -(r : Int) := by omega
    rw [e2, v_neg] at h4
    rw [e1, v_neg] at h3
    rw [e1, v_neg]
    right
    have : (0 : Rat) < eps := by unfold eps; decide +kernel
    have h5 : eps * v r ≤ eps * -x := Rat.mul_le_mul_of_nonneg_left (by grind) (Rat.le_of_lt this)
    grind
/-- Far enough from 0 and from beyond. -/
def Pl (x : Rat) : Prop := x = 0 ∨ (v p0 ≤ x ∧ x ≤ v p1) ∨ (v (-p1) ≤ x ∧ x ≤ v (-p0))
theorem Pl.low {x : Rat} (h : Pl x) : x = 0 ∨ v p0 ≤ x ∨ x ≤ v (-p0) := by
  rcases h with h | h | h
  · exact .inl h
  · exact .inr (.inl h.1)
  · exact .inr (.inr h.2)
theorem Pl.neg {x : Rat} (h : Pl x) : Pl (-x) := by
  unfold Pl at *
  rw [v_neg, v_neg] at *
  grind
theorem pl_ok {i : Int} (h : ok i) : Pl (v i) := by
  rcases h with rfl | ⟨h1, h2⟩ | ⟨h1, h2⟩
  · exact .inl v_zero
  · exact .inr (.inl ⟨v_le h1, v_le h2⟩)
  · exact .inr (.inr ⟨v_le h1, v_le h2⟩)
/-- Rounded down, it is plain. -/
theorem DnK.okOf {x : Rat} {k : Int} (h : DnK x k) (hp : Pl x) : ok k := by
  have hq := p0_lt
  rcases hp with rfl | ⟨h1, h2⟩ | ⟨h1, h2⟩
  · have h3 := h.mono (dnk_self (k := 0) (.inl rfl)) (by rw [v_zero]; exact Rat.le_refl)
    have h4 := (dnk_self (k := 0) (.inl rfl)).mono h (by rw [v_zero]; exact Rat.le_refl)
    exact .inl (by omega)
  · have h3 := h.mono (dnk_self (k := p1) (.inr (.inl ⟨by omega, by omega⟩))) h2
    have h4 := (dnk_self (k := p0) (.inr (.inl ⟨by omega, by omega⟩))).mono h h1
    exact .inr (.inl ⟨by omega, by omega⟩)
  · have h3 := h.mono (dnk_self (k := -p0) (.inr (.inr ⟨by omega, by omega⟩))) h2
    have h4 := (dnk_self (k := -p1) (.inr (.inr ⟨by omega, by omega⟩))).mono h h1
    exact .inr (.inr ⟨by omega, by omega⟩)
theorem UpK.okOf {x : Rat} {k : Int} (h : UpK x k) (hp : Pl x) : ok k := by
  have := ok_neg (DnK.okOf h hp.neg)
  rwa [Int.neg_neg] at this
theorem v_pow {z : Int} (h1 : -900 ≤ z) (h2 : z ≤ 900) : ∃ i, v i = (2 : Rat) ^ z ∧ 0 < i := by
  refine ⟨pw (z + 1023).toNat, ?_, ?_⟩
  · rw [v_pw _ (by omega)]
    congr 1
    omega
  · unfold pw; omega
/-- A power of two bounds what is rounded. -/
theorem Dn.pow_le {x : Rat} {i : Int} (h : Dn x i) {z : Int} (h1 : -900 ≤ z) (h2 : z ≤ 900) (hx : (2 : Rat) ^ z ≤ x) : (2 : Rat) ^ z ≤ v i := by
  obtain ⟨j, hj, _⟩ := v_pow h1 h2
  rw [← hj] at hx ⊢
  exact v_le (h.ge hx)
theorem Up.le_pow {x : Rat} {i : Int} (h : Up x i) {z : Int} (h1 : -900 ≤ z) (h2 : z ≤ 900) (hx : x ≤ (2 : Rat) ^ z) : v i ≤ (2 : Rat) ^ z := by
  have := h.neg
  obtain ⟨j, hj, _⟩ := v_pow h1 h2
  rw [← hj] at hx ⊢
  have h3 := this.ge (j := -j) (by rw [v_neg]; grind)
  exact v_le (by omega)
/-- A float of some amount is a multiple of a small power. -/
theorem gran {i z : Int} (h : (2 : Rat) ^ z ≤ v i ∨ v i ≤ -(2 : Rat) ^ z) : ∃ k : Int, v i = (k : Rat) * 2 ^ (z - 53) := by
  have pos : ∀ {i : Int}, (2 : Rat) ^ z ≤ v i → ∃ k : Int, v i = (k : Rat) * 2 ^ (z - 53) := fun {i} h => by
    have hi : 0 ≤ i := by
      rcases Int.lt_or_le i 0 with h1 | h1
      · have h2 := v_lt (i := i) (j := 0) h1
        rw [v_zero] at h2
        have := zpow2_pos z
        grind
      · exact h1
    obtain ⟨r, rfl⟩ := Int.eq_ofNat_of_zero_le hi
    rcases grid_v r (z - 53) with g | g
    · have e : ((2 ^ 53 : Nat) : Rat) * (2 : Rat) ^ (z - 53) = 2 ^ z := by
        rw [← zpow2_nat, ← zpow2_add]
        congr 1
        omega
      rw [e] at g
      refine ⟨((2 ^ 53 : Nat) : Int), ?_⟩
      rw [Rat.intCast_natCast, e]
      exact Rat.le_antisymm g h
    · exact g
  rcases h with h | h
  · exact pos h
  · obtain ⟨k, hk⟩ := pos (i := -i) (by rw [v_neg]; grind)
    rw [v_neg] at hk
    exact ⟨-k, by rw [Rat.intCast_neg]; grind⟩
/-- A difference of two multiples is 0 or not small. -/
theorem mult_low {a b : Int} {c : Rat} (hc : 0 < c) : (a : Rat) * c - (b : Rat) * c = 0 ∨ c ≤ (a : Rat) * c - (b : Rat) * c ∨ (a : Rat) * c - (b : Rat) * c ≤ -c := by
  rcases Int.lt_trichotomy a b with h | h | h
  · have h1 : (a : Rat) + 1 ≤ (b : Rat) := by exact_mod_cast h
    have := Rat.mul_le_mul_of_nonneg_right h1 (Rat.le_of_lt hc)
    grind
  · subst h; left; grind
  · have h1 : (b : Rat) + 1 ≤ (a : Rat) := by exact_mod_cast h
    have := Rat.mul_le_mul_of_nonneg_right h1 (Rat.le_of_lt hc)
    grind
/-- 0, or of some amount. -/
def Lw (L : Int) (x : Rat) : Prop := x = 0 ∨ (2 : Rat) ^ (-L) ≤ x ∨ x ≤ -(2 : Rat) ^ (-L)
theorem Lw.mono {a b : Int} (h : a ≤ b) {x : Rat} (k : Lw a x) : Lw b x := by
  have := zpow_le (a := -b) (b := -a) (by omega)
  unfold Lw at *
  grind
theorem Lw.neg {a : Int} {x : Rat} (k : Lw a x) : Lw a (-x) := by unfold Lw at *; grind
theorem Lw.mul {a b : Int} {x y : Rat} (h : Lw a x) (k : Lw b y) : Lw (a + b) (x * y) := by
  have pos : ∀ {x y : Rat}, (2 : Rat) ^ (-a) ≤ x → (2 : Rat) ^ (-b) ≤ y → (2 : Rat) ^ (-(a + b)) ≤ x * y := fun {x y} h k => by
    have e : (2 : Rat) ^ (-(a + b)) = 2 ^ (-a) * 2 ^ (-b) := by rw [← zpow2_add]; congr 1; omega
    rw [e]
    have h0 := zpow2_pos (-a)
    have h1 := zpow2_pos (-b)
    have h2 := Rat.mul_le_mul_of_nonneg_right h (Rat.le_of_lt h1)
    have h3 := Rat.mul_le_mul_of_nonneg_left k (c := x) (by grind)
    grind
  rcases h with rfl | h | h
  · exact .inl (by grind)
  · rcases k with rfl | k | k
    · exact .inl (by grind)
    · exact .inr (.inl (pos h k))
    · have := pos h (y := -y) (by grind)
      exact .inr (.inr (by grind))
  · rcases k with rfl | k | k
    · exact .inl (by grind)
    · have := pos (x := -x) (by grind) k
      exact .inr (.inr (by grind))
    · have := pos (x := -x) (y := -y) (by grind) (by grind)
      exact .inr (.inl (by grind))
theorem Lw.sub {a b : Int} {i j : Int} (h : Lw a (v i)) (k : Lw b (v j)) {c : Int} (hb : b ≤ c) (ha : a + 54 ≤ c) : Lw c (v i - v j) := by
  have hac : a ≤ c := by omega
  rcases h with h | h
  · rw [h]
    have := (Lw.mono hb k).neg
    unfold Lw at *
    grind
  rcases k with k | k
  · rw [k]
    have := Lw.mono hac (.inr h)
    unfold Lw at *
    grind
  have hz := zpow2_pos (-a)
  have e1 : (2 : Rat) ^ (-a) = 2 ^ (-a - 1) * 2 := by
    rw [show (-a : Int) = (-a - 1) + 1 by omega, zpow2_add]
    congr 1
    rw [show (-a - 1 + 1 - 1 : Int) = -a - 1 by omega]
  by_cases hs : (2 : Rat) ^ (-a - 1) ≤ v j ∨ v j ≤ -(2 : Rat) ^ (-a - 1)
  · obtain ⟨x, hx⟩ := gran (z := -a - 1) (i := i) (by grind)
    obtain ⟨y, hy⟩ := gran (z := -a - 1) hs
    rw [hx, hy]
    have := mult_low (a := x) (b := y) (zpow2_pos (-a - 1 - 53))
    have h3 := zpow_le (a := -c) (b := -a - 1 - 53) (by omega)
    unfold Lw
    grind
  · have h3 := zpow_le (a := -c) (b := -a - 1) (by omega)
    unfold Lw
    grind
end Go.Enc.Fl
