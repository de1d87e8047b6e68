/-
  The document's exact numbers as plain functions: sums, products, order; rounding.
-/
import Derived.Test.YtjlibljfpkmpfaaGreatDoorSv11
namespace Go.Enc.Nu
open Go.Enc.Fl
/-- A number: n times 2^e, below 0 if neg. -/
structure Nm where
  neg : Bool
  n : Nat
  e : Int
/-- How many bits. -/
def nbits (n : Nat) : Nat := if n = 0 then 0 else n.log2 + 1
def nzero : Nm := ⟨false, 0, 0⟩
def nneg (a : Nm) : Nm := ⟨!a.neg && decide (0 < a.n), a.n, a.e⟩
def lev (a b : Nm) : Int := min a.e b.e
def at_ (a : Nm) (e : Int) : Nat := a.n * 2 ^ (a.e - e).toNat
def nsum (a b : Nm) : Nm :=
  let e := lev a b
  let x := at_ a e
  let y := at_ b e
  if a.neg = b.neg then ⟨a.neg, x + y, e⟩ else if x = y then nzero else if y < x then ⟨a.neg, x - y, e⟩ else ⟨b.neg, y - x, e⟩
def nprod (a b : Nm) : Nm := ⟨(a.neg != b.neg) && decide (0 < a.n * b.n), a.n * b.n, a.e + b.e⟩
def nsign (a : Nm) : Int := if a.n = 0 then 0 else if a.neg then -1 else 1
def nless (a b : Nm) : Bool := decide (nsign (nsum a (nneg b)) < 0)
/-- The number. -/
def val (a : Nm) : Rat := (if a.neg then -((a.n : Nat) : Rat) else ((a.n : Nat) : Rat)) * 2 ^ a.e
theorem val_zero {a : Nm} (h : a.n = 0) : val a = 0 := by unfold val; rw [h]; split <;> (simp <;> grind)
theorem val_nneg (a : Nm) : val (nneg a) = -val a := by
  by_cases h : a.n = 0
  · rw [val_zero h, val_zero (a := nneg a) h]; grind
  · unfold val nneg
    have : decide (0 < a.n) = true := by simp; omega
    rw [this]
    cases a.neg <;> simp <;> grind
theorem val_sign (a : Nm) : (nsign a < 0 ↔ val a < 0) ∧ (nsign a = 0 ↔ val a = 0) ∧ (0 < nsign a ↔ 0 < val a) := by
  unfold nsign
  by_cases h : a.n = 0
  · rw [val_zero h]; simp [h]
  · have hn : (0 : Rat) < (a.n : Nat) := by exact_mod_cast Nat.pos_of_ne_zero h
    have hp := zpow2_pos a.e
    have hm := Rat.mul_pos hn hp
    unfold val
    cases a.neg <;> simp [h] <;> grind
theorem val_at {a : Nm} {e : Int} (h : e ≤ a.e) : val a = (if a.neg then -((at_ a e : Nat) : Rat) else ((at_ a e : Nat) : Rat)) * 2 ^ e := by
  have := mul_zpow a.n (a.e - e).toNat e
  rw [show e + (((a.e - e).toNat : Nat) : Int) = a.e by omega] at this
  have h2 : ((at_ a e : Nat) : Rat) * 2 ^ e = (a.n : Nat) * 2 ^ a.e := by unfold at_; rw [this]
  unfold val
  cases a.neg <;> simp <;> grind
theorem val_nsum (a b : Nm) : val (nsum a b) = val a + val b := by
  have ha := val_at (a := a) (e := lev a b) (by unfold lev; omega)
  have hb := val_at (a := b) (e := lev a b) (by unfold lev; omega)
  rw [ha, hb]
  unfold nsum
  simp only
  generalize at_ a (lev a b) = x
  generalize at_ b (lev a b) = y
  generalize lev a b = e
  by_cases h : a.neg = b.neg
  · rw [if_pos h, ← h]
    unfold val
    have : ((x + y : Nat) : Rat) = (x : Rat) + y := by exact_mod_cast rfl
    simp only [this]
    cases a.neg <;> simp <;> grind
  · rw [if_neg h]
    by_cases h2 : x = y
    · rw [if_pos h2, h2]
      rw [val_zero (a := nzero) rfl]
      cases ha : a.neg <;> cases hb : b.neg <;> simp_all <;> grind
    · rw [if_neg h2]
      by_cases h3 : y < x
      · rw [if_pos h3]
        have : ((x - y : Nat) : Rat) = (x : Rat) - y := by
          have : ((x - y : Nat) : Rat) + y = x := by exact_mod_cast (by omega : x - y + y = x)
          grind
        unfold val
        simp only [this]
        cases ha : a.neg <;> cases hb : b.neg <;> simp_all <;> grind
      · rw [if_neg h3]
        have : ((y - x : Nat) : Rat) = (y : Rat) - x := by
          have : ((y - x : Nat) : Rat) + x = y := by exact_mod_cast (by omega : y - x + x = y)
          grind
        unfold val
        simp only [this]
        cases ha : a.neg <;> cases hb : b.neg <;> simp_all <;> grind
theorem nless_iff (a b : Nm) : nless a b = decide (val a < val b) := by
  unfold nless
  have := (val_sign (nsum a (nneg b))).1
  rw [val_nsum, val_nneg] at this
  congr 1
  rw [eq_iff_iff, this]
  grind
theorem val_nprod (a b : Nm) : val (nprod a b) = val a * val b := by
  have h2 : (2 : Rat) ^ (a.e + b.e) = 2 ^ a.e * 2 ^ b.e := zpow2_add _ _
  have h3 : ((a.n * b.n : Nat) : Rat) = (a.n : Rat) * b.n := by exact_mod_cast rfl
  by_cases h : a.n * b.n = 0
  · rw [val_zero (a := nprod a b) h]
    rcases Nat.mul_eq_zero.1 h with h | h
    · rw [val_zero h]; grind
    · rw [val_zero h]; grind
  · unfold val nprod
    have : decide (0 < a.n * b.n) = true := by simp; exact Nat.pos_of_ne_zero h
    rw [this]
    simp only [h2, h3]
    cases a.neg <;> cases b.neg <;> simp <;> grind
end Go.Enc.Nu
