/-
  A step of the law Solves answers true: the plain law, and its joining.
-/
import Derived.Test.YtjlibljfpkmpfaaGreatDoorSv47
import Derived.Test.YtjlibljfpkmpfaaGreatDoorSv31
set_option linter.unusedSimpArgs false
set_option maxRecDepth 100000
namespace Go.Enc
open Go.Proofs Go.Enc.Dg Go.Enc.Nu Go.Enc.Fl Go.RowKit
theorem detR_congr : ∀ {n : Nat} {a b : Nat → Nat → Rat}, (∀ i j, i < n → j < n → a i j = b i j) → detR n a = detR n b
  | 0, _, _, _ => rfl
  | n + 1, a, b, h => by
    simp only [detR]
    refine smR_congr fun j hj => ?_
    rw [h 0 j (by omega) hj, detR_congr (n := n) (a := mnr a j) (b := mnr b j) (fun i k hi hk => by
      unfold mnr
      exact h _ _ (by omega) (by split <;> omega))]
/-- Cramer's numbers solve the system. -/
theorem cram_sat {n : Nat} (h4 : n ≤ 4) {a : Nat → Nat → Rat} (hd : detR n a ≠ 0) : ∀ i, i < n → SatR a (fun j => detR n (repC a (fun i => a i n) j) / detR n a) n i := fun i hi => by
  have c := cramR h4 a (fun i => a i n) hi
  unfold SatR
  have e : smR (fun j => a i j * (detR n (repC a (fun i => a i n) j) / detR n a)) n = (detR n a)⁻¹ * smR (fun j => a i j * detR n (repC a (fun i => a i n) j)) n := by
    have : ∀ (f : Nat → Rat) (c : Rat) m, smR (fun j => c * f j) m = c * smR f m := fun f c m => by
      induction m with
      | zero => simp only [smR]; grind
      | succ m ih => simp only [smR]; rw [ih]; grind
    rw [← this]
    exact smR_congr fun j _ => by rw [Rat.div_def]; grind
  rw [e, c]
  have := Rat.mul_inv_cancel _ hd
  grind
/-- A fair number is of few digits. -/
theorem fair_nr {b : Nat} (hf : fairN (nplain b).1 = true) : Nr (nplain b).1 53 82 := by
  by_cases h : (nplain b).1 = nzero
  · rw [h]; exact nr_zero _ _
  · obtain ⟨_, e, h1, h2, _⟩ := nplain_ok h
    have hv := (fairN_v _).1 hf
    rw [← val_nam] at hv
    obtain ⟨f, hfe⟩ : ∃ f, b % 4503599627370496 + 4503599627370496 = f := ⟨_, rfl⟩
    obtain ⟨x, hx⟩ : ∃ x : Int, ((b / 4503599627370496 % 2048 : Nat) : Int) - 1075 = x := ⟨_, rfl⟩
    rw [hfe, hx] at e
    have f1 : 4503599627370496 ≤ f := by omega
    have f2 : f < 9007199254740992 := by have := Nat.mod_lt b (show 0 < 4503599627370496 by decide); omega
    have va : val (nam (nplain b).1) = (f : Rat) * 2 ^ x := by rw [e]; rfl
    have hp := zpow2_pos x
    have r1 : (4503599627370496 : Rat) ≤ (f : Rat) := by exact_mod_cast f1
    have r2 : (f : Rat) < 9007199254740992 := by exact_mod_cast f2
    have e52 : (2 : Rat) ^ (52 : Int) = 4503599627370496 := by decide +kernel
    have e53 : (2 : Rat) ^ (53 : Int) = 9007199254740992 := by decide +kernel
    have m1 := Rat.mul_le_mul_of_nonneg_right r1 (Rat.le_of_lt hp)
    have m2 : (f : Rat) * 2 ^ x < 9007199254740992 * 2 ^ x := Rat.mul_lt_mul_of_pos_right r2 hp
    have hpos : (0 : Rat) < (f : Rat) * 2 ^ x := Rat.mul_pos (by grind) hp
    have hne : val (nplain b).1 ≠ 0 := fun h0 => by
      have := val_nam (nplain b).1
      rw [h0, va] at this
      have e0 : am 0 = 0 := by unfold am; rw [if_pos Rat.le_refl]
      rw [e0] at this
      grind
    rw [va] at hv
    rcases hv with h0 | ⟨g1, g2⟩
    · exact absurd h0 hne
    rw [← e52, ← zpow2_add] at m1
    rw [← e53, ← zpow2_add] at m2
    have lo : -82 ≤ x := by
      refine Decidable.byContradiction fun hc => ?_
      have := zpow_le (a := 53 + x) (b := -30) (by omega)
      grind
    have hi : x ≤ 82 := by
      refine Decidable.byContradiction fun hc => ?_
      have := zpow_le (a := 30 + 1) (b := 52 + x) (by omega)
      have e31 : (2 : Rat) ^ (30 + 1 : Int) = 2 * 2 ^ (30 : Int) := by decide +kernel
      have e30 : (0 : Rat) < 2 ^ (30 : Int) := zpow2_pos 30
      grind
    rw [e]
    exact ⟨by show f < 2 ^ 53; omega, by show -((82 : Nat) : Int) ≤ x; omega, by show x ≤ ((82 : Nat) : Int); omega⟩
theorem fair_same {b : Nat} (hb : b < 18446744073709551616) (hp : plainB b = true) : fairO b = fairN (nplain b).1 := by
  rw [Bool.eq_iff_iff, fairO_v, fairN_v, nplain_val hb hp]
/-- The shape that the program asks for. -/
theorem shape_iff {L : List (Nat × Nat)} {w : Int} {n : Nat} : (¬ (n < 1 ∨ 4 < n ∨ psM L w ≠ n ∨ ¬ (∀ i, i < psM L w → psN L w.toNat i = n))) ↔ shapB L.length w n = true := by
  unfold shapB
  rw [decide_eq_true_eq]
  obtain ⟨a, ha⟩ : ∃ a, L.length = a := ⟨_, rfl⟩
  unfold psM psN
  rw [ha]
  by_cases hw : w ≤ 0
  · rw [if_pos hw]
    exact ⟨fun h => by omega, fun h => by omega⟩
  obtain ⟨W, rfl⟩ : ∃ W : Nat, w = (W : Int) := ⟨w.toNat, by omega⟩
  have hW : 1 ≤ W := by omega
  rw [if_neg hw, Int.toNat_natCast]
  by_cases h0 : a = 0
  · subst h0
    rw [if_pos rfl]
    exact ⟨fun h => by omega, fun h => by
      obtain ⟨h1, h2, h3, h4⟩ := h
      rcases h4 with h4 | h4
      · omega
      · have : 1 * 1 ≤ n * n := Nat.mul_le_mul h1 h1
        omega⟩
  rw [if_neg h0]
  have dm := Nat.div_add_mod (a - 1) W
  have ml := Nat.mod_lt (a - 1) (show 0 < W by omega)
  generalize hq : (a - 1) / W = q at *
  generalize (a - 1) % W = r at *
  constructor
  · intro h
    have h1 : 1 ≤ n := by omega
    have h2 : n ≤ 4 := by omega
    have h3 : q + 1 = n := by omega
    have h4 : ∀ i, i < n → min W (a - i * W) = n := fun i hi => Decidable.byContradiction fun hc => h (.inr (.inr (.inr fun g => hc (g i (by omega)))))
    refine ⟨h1, h2, by omega, ?_⟩
    rcases (show n = 1 ∨ n = 2 ∨ n = 3 ∨ n = 4 by omega) with rfl | rfl | rfl | rfl
    · have g0 := h4 0 (by omega)
      obtain rfl : q = 0 := by omega
      left; omega
    · have g0 := h4 0 (by omega)
      have g1 := h4 1 (by omega)
      obtain rfl : q = 1 := by omega
      right; omega
    · have g0 := h4 0 (by omega)
      have g1 := h4 2 (by omega)
      obtain rfl : q = 2 := by omega
      right; omega
    · have g0 := h4 0 (by omega)
      have g1 := h4 3 (by omega)
      obtain rfl : q = 3 := by omega
      right; omega
  · rintro ⟨h1, h2, h3, h4⟩ h
    rcases h4 with ⟨rfl, rfl⟩ | ⟨hn1, hw1, rfl⟩
    · have hq0 : q = 0 := by rw [← hq]; simp
      rcases h with h | h | h | h
      · omega
      · omega
      · omega
      · refine h fun i hi => ?_
        obtain rfl : i = 0 := by omega
        omega
    · obtain rfl : W = n := by omega
      rcases (show W = 2 ∨ W = 3 ∨ W = 4 by omega) with rfl | rfl | rfl
      · obtain rfl : q = 1 := by omega
        rcases h with h | h | h | h
        · omega
        · omega
        · omega
        · refine h fun i hi => ?_
          rcases (show i = 0 ∨ i = 1 by omega) with rfl | rfl <;> omega
      · obtain rfl : q = 2 := by omega
        rcases h with h | h | h | h
        · omega
        · omega
        · omega
        · refine h fun i hi => ?_
          rcases (show i = 0 ∨ i = 1 ∨ i = 2 by omega) with rfl | rfl | rfl <;> omega
      · obtain rfl : q = 3 := by omega
        rcases h with h | h | h | h
        · omega
        · omega
        · omega
        · refine h fun i hi => ?_
          rcases (show i = 0 ∨ i = 1 ∨ i = 2 ∨ i = 3 by omega) with rfl | rfl | rfl | rfl <;> omega
end Go.Enc
