/-
  What is fair, by its number.
-/
import Derived.Test.YtjlibljfpkmpfaaDoorHh
import Derived.Test.YtjlibljfpkmpfaaDoorSo
set_option linter.unusedSimpArgs false
namespace Go.Enc
open Go.Proofs Go.Enc.Fl

theorem am_neg (x : Rat) : am (-x) = am x := by unfold am; split <;> split <;> grind
theorem am_of_nonneg {x : Rat} (h : 0 ≤ x) : am x = x := by unfold am; rw [if_pos h]
theorem am_idx (b : Nat) : am (v (idx b)) = v ((b % 2 ^ 63 : Nat) : Int) := by
  have h0 : 0 ≤ v ((b % 2 ^ 63 : Nat) : Int) := by
    have := v_le (i := 0) (j := ((b % 2 ^ 63 : Nat) : Int)) (by omega)
    rw [v_zero] at this
    exact this
  unfold idx
  split
  · rw [v_neg, am_neg, am_of_nonneg h0]
  · exact am_of_nonneg h0
theorem fairO_v (b : Nat) : fairO b = true ↔ v (idx b) = 0 ∨ ((2 : Rat) ^ (-30 : Int) ≤ am (v (idx b)) ∧ am (v (idx b)) ≤ 2 ^ (30 : Int)) := by
  have e1 : v (pw 993) = 2 ^ (-30 : Int) := v_pw 993 (by omega)
  have e2 : v (pw 1053) = 2 ^ (30 : Int) := v_pw 1053 (by omega)
  have p1 : pw 993 = 4472074429978902528 := by decide
  have p2 : pw 1053 = 4742290407621132288 := by decide
  have z : v (idx b) = 0 ↔ b % 2 ^ 63 = 0 := by
    rw [← idx_zero]
    exact ⟨fun h => v_inj (by rw [h, v_zero]), fun h => by rw [h, v_zero]⟩
  rw [am_idx, ← e1, ← e2, v_le_iff, v_le_iff, z, p1, p2]
  unfold fairO
  simp only [Bool.or_eq_true, Bool.and_eq_true, decide_eq_true_eq]
  omega
theorem fairO_lw {b : Nat} (h : fairO b = true) : Lw 30 (v (idx b)) ∧ am (v (idx b)) ≤ 1073741824 := by
  have e30 : (2 : Rat) ^ (30 : Int) = 1073741824 := by decide +kernel
  rcases (fairO_v b).1 h with h | ⟨h1, h2⟩
  · rw [h]
    exact ⟨.inl rfl, by decide +kernel⟩
  · rw [e30] at h2
    exact ⟨Lw.of_am h1, h2⟩
theorem fairs_iff {f : Nat → Nat × Nat} : ∀ {m : Nat}, fairs f m = true ↔ ∀ j, j < m → fairB (f j) = true
  | 0 => by simp [fairs]
  | m + 1 => by
    simp only [fairs, Bool.and_eq_true, fairs_iff (m := m)]
    exact ⟨fun h j hj => by
      rcases Nat.lt_or_ge j m with g | g
      · exact h.1 j g
      · rw [show j = m by omega]; exact h.2, fun h => ⟨fun j hj => h j (by omega), h m (by omega)⟩⟩
theorem fairR_iff {A : Nat → Nat → Nat × Nat} {m : Nat} : ∀ {i : Nat}, fairR A m i = true ↔ ∀ r j, r < i → j < m → fairB (A r j) = true
  | 0 => by simp [fairR]
  | i + 1 => by
    simp only [fairR, Bool.and_eq_true, fairR_iff (i := i), fairs_iff]
    exact ⟨fun h r j hr hj => by
      rcases Nat.lt_or_ge r i with g | g
      · exact h.1 r j g hj
      · rw [show r = i by omega]; exact h.2 j hj, fun h => ⟨fun r j hr hj => h r j (by omega) hj, fun j hj => h i j (by omega) hj⟩⟩
theorem fairB_v (x : Nat × Nat) : fairB x = true ↔ fairO x.1 = true ∧ fairO x.2 = true := by unfold fairB; rw [Bool.and_eq_true]
/-- Single fair numbers. -/
theorem pts_of {A : Nat → Nat → Nat × Nat} {a : Nat → Nat → Rat} {n : Nat} (hG : ∀ i j, i < n → j ≤ n → Gd (A i j)) (hf : fairR A (n + 1) n = true) (he : ∀ i j, i < n → j ≤ n → iL (A i j) = a i j ∧ iH (A i j) = a i j) : Pts A a n := by
  have h := fairR_iff.1 hf
  refine ⟨hG, he, fun i j hi hj => ?_, fun i j hi hj => ?_⟩
  · have := fairO_lw ((fairB_v _).1 (h i j hi (by omega))).1
    have e := (he i j hi hj).1
    unfold iL at e
    rw [e] at this
    exact this.1
  · have := fairO_lw ((fairB_v _).1 (h i j hi (by omega))).1
    have e := (he i j hi hj).1
    unfold iL at e
    rw [e] at this
    exact this.2
end Go.Enc
