/-
  Natural numbers by their digits: how many bits; times a power of two.
-/
import Derived.Test.YtjlibljfpkmpfaaDoorNat3
set_option linter.unusedSimpArgs false
namespace Go.Enc
open Go.Proofs Go.Enc.Dg

theorem B_pow (n : Nat) : B ^ n = 2 ^ (24 * n) := by rw [Nat.pow_mul]
theorem div2 {n : Nat} (h : n < 9223372036854775808) : IntKind.i64.wrap ((n : Int).tdiv 2) = ((n / 2 : Nat) : Int) := by
  rw [Int.tdiv_eq_ediv_of_nonneg (by omega), w64 (by omega)]; omega
theorem div24 {n : Nat} (h : n < 9223372036854775808) : IntKind.i64.wrap ((n : Int).tdiv 24) = ((n / 24 : Nat) : Int) := by
  rw [Int.tdiv_eq_ediv_of_nonneg (by omega), w64 (by omega)]; omega
theorem mod24 {n : Nat} : (n : Int).tmod 24 = ((n % 24 : Nat) : Int) := by rw [Int.tmod_eq_emod_of_nonneg (by omega)]; omega
theorem mul24 {n : Nat} (h : n < 1099511627776) : IntKind.i64.wrap (24 * (n : Int)) = ((24 * n : Nat) : Int) := by rw [w64 (by omega)]; omega

theorem vl_nil : vl [] = 0 := rfl
end Go.Enc
