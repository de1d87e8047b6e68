/-
  Natural numbers by their digits: times a power of two.
-/
import Derived.Test.YtjlibljfpkmpfaaDoorNat4
set_option linter.unusedSimpArgs false
namespace Go.Enc
open Go.Proofs Go.Enc.Dg

theorem nlt0 (n : Nat) : ((n : Int) < 0) = False := by simp
theorem shl24 {r : Nat} (h : r < 24) : IntKind.i64.wrap (1 * 2 ^ (min r 64)) = ((2 ^ r : Nat) : Int) := by
  rw [Nat.min_eq_left (by omega), Int.one_mul]
  have h1 : (2 : Nat) ^ r ≤ 2 ^ 23 := Nat.pow_le_pow_right (by decide) (by omega)
  have e : ((2 : Int) ^ r) = ((2 ^ r : Nat) : Int) := by rw [Int.natCast_pow]; rfl
  rw [e]
  generalize (2 : Nat) ^ r = q at *
  exact w64 (by omega)
theorem digT_app (l m : List Nat) : digT l ++ digT m = digT (l ++ m) := by simp [digT]
attribute [go_sem] nlt0
theorem up_digs {a k : Nat} (h : a ≠ 0) : dg (a * 2 ^ k) = List.replicate (k / 24) 0 ++ dg (a * 2 ^ (k % 24)) := by
  have h0 : a * 2 ^ (k % 24) ≠ 0 := Nat.mul_ne_zero h (Nat.pos_iff_ne_zero.1 (Nat.pow_pos (by decide)))
  have e : vl (List.replicate (k / 24) 0 ++ dg (a * 2 ^ (k % 24))) = a * 2 ^ k := by
    rw [vl_app, vl_zeros, vl_dg, List.length_replicate, B_pow, Nat.zero_add, Nat.mul_left_comm, ← Nat.pow_add, Nat.div_add_mod]
  rw [← e]
  refine dg_of ((dig_zeros _).app (dig_dg _)) (.inr ?_)
  rw [vl_app, vl_zeros, vl_dg, List.length_append, List.length_replicate, Nat.zero_add]
  have hp : 0 < (dg (a * 2 ^ (k % 24))).length := Nat.pos_of_ne_zero fun e => h0 (dg_len0.1 e)
  rw [show k / 24 + (dg (a * 2 ^ (k % 24))).length - 1 = k / 24 + ((dg (a * 2 ^ (k % 24))).length - 1) by omega, Nat.pow_add]
  exact Nat.mul_le_mul_left _ (dg_ge h0)
theorem sm_of {n k : Nat} (h : n < 2 ^ k) (hk : k ≤ 24000000) : Sm (dg n) := by
  refine Nat.le_trans (dg_len_le (i := k / 24 + 1) (Nat.lt_of_lt_of_le h ?_)) (by omega)
  rw [B_pow]
  exact Nat.pow_le_pow_right (by decide) (by omega)

/-- At most so many bits. -/
def Bd (n k : Nat) : Prop := n < 2 ^ k
theorem Bd.sm {n k : Nat} (h : Bd n k) (hk : k ≤ 24000000) : Sm (dg n) := sm_of h hk
theorem Bd.up {n k j : Nat} (h : Bd n k) : Bd (n * 2 ^ j) (k + j) := by
  unfold Bd at *
  rw [Nat.pow_add]
  exact Nat.mul_lt_mul_of_pos_right h (Nat.pow_pos (by decide))
theorem Bd.mono {n k j : Nat} (h : Bd n k) (hj : k ≤ j) : Bd n j := Nat.lt_of_lt_of_le h (Nat.pow_le_pow_right (by decide) hj)
theorem Bd.mul {n m k j : Nat} (h : Bd n k) (g : Bd m j) : Bd (n * m) (k + j) := by
  unfold Bd at *
  rw [Nat.pow_add]
  rcases Nat.eq_zero_or_pos m with rfl | hm
  · exact Nat.mul_pos (Nat.pow_pos (by decide)) (Nat.pow_pos (by decide))
  · exact Nat.lt_of_lt_of_le (Nat.mul_lt_mul_of_pos_right h hm) (Nat.mul_le_mul_left _ (Nat.le_of_lt g))
theorem Bd.add {n m k : Nat} (h : Bd n k) (g : Bd m k) : Bd (n + m) (k + 1) := by
  unfold Bd at *
  rw [Nat.pow_succ]; omega
theorem Bd.le {n m k : Nat} (h : Bd n k) (g : m ≤ n) : Bd m k := Nat.lt_of_le_of_lt g h

set_option maxRecDepth 100000 in
theorem up_nil (E : Nat → Option Value) {k : Nat} : DCall Tryd.prog E 99 [natD 0, intD k] (.data (.v (.slice none 0 0))) := by
  refine dcall_of Tryd.func99 rfl (by kernel_rfl) Tryd.ntmps99 (by kernel_rfl) (by simp) (rs := [.tmp 4]) rfl ?_
  rintro ⟨P, E, σ0, w0, base, n, kb⟩ rfl rfl rfl rfl
  simp -implicitDefEqProofs only [go_sem, Int.reduceEq, ↓reduceIte, Nat.reduceEqDiff, Nat.reduceAdd, Nat.reduceMul, Nat.reduceSub, Nat.reduceDiv, Nat.reduceLeDiff, Nat.reduceLT, Nat.reduceBEq, Nat.reduceBNe, reduceCtorEq, Int.reduceLE, Int.reduceLT, Int.reduceToNat, decide_true, decide_false, dg_zero, beq_self_eq_true, finK]
set_option maxRecDepth 100000 in
theorem up_c (E : Nat → Option Value) {a k n : Nat} (ha : Bd a n) (hn : n ≤ 12000000) (hk : k ≤ 12000000) : DCall Tryd.prog E 99 [natD a, intD k] (.data (natD (a * 2 ^ k))) := by
  by_cases h0 : a = 0
  · subst h0
    refine (up_nil E).weak fun σ u h => ?_
    rw [Nat.zero_mul, natD, dg_zero]
    simp only [Rep] at h
    simp only [digD, List.map_nil, Rep]
    exact .inl ⟨h, trivial⟩
  refine dcall_of Tryd.func99 rfl (by kernel_rfl) Tryd.ntmps99 (by kernel_rfl) (by simp) (rs := [.tmp 4]) rfl ?_
  rintro ⟨P, E, σ0, w0, base, n, kb⟩ rfl rfl rfl rfl
  have hmax : maxLen = 9223372036854775807 := by decide
  have e0 : (((dg a).length : Int) == 0) = false := by
    rw [beq_eq_false_iff_ne]
    have : (dg a).length ≠ 0 := fun e => h0 (dg_len0.1 e)
    omega
  have hr : k % 24 < 24 := Nat.mod_lt _ (by decide)
  have w1 : IntKind.i64.wrap ((k : Int).tdiv 24) = ((k / 24 : Nat) : Int) := div24 (by omega)
  have w2 : (k : Int).tmod 24 = ((k % 24 : Nat) : Int) := mod24
  have w3 := shl24 hr
  simp -implicitDefEqProofs only [go_sem, Int.reduceEq, ↓reduceIte, Nat.reduceEqDiff, Nat.reduceAdd, Nat.reduceMul, Nat.reduceSub, Nat.reduceDiv, Nat.reduceLeDiff, Nat.reduceLT, Nat.reduceBEq, Nat.reduceBNe, reduceCtorEq, Int.reduceLE, Int.reduceLT, Int.reduceToNat, decide_true, decide_false, e0, w1, w2, w3]
  refine ⟨by omega, by omega, ?_⟩
  have h2 : (2 : Nat) ^ (k % 24) ≤ 2 ^ 23 := Nat.pow_le_pow_right (by decide) (by omega)
  refine Call.intro (nat_c _ (2 ^ (k % 24)) (Nat.lt_of_le_of_lt h2 (by decide))) ?_
  simp -implicitDefEqProofs only [go_sem, Int.reduceEq, ↓reduceIte, Nat.reduceEqDiff, Nat.reduceAdd, Nat.reduceMul, Nat.reduceSub, Nat.reduceDiv, Nat.reduceLeDiff, Nat.reduceLT, Nat.reduceBEq, Nat.reduceBNe, reduceCtorEq, Int.reduceLE, Int.reduceLT, Int.reduceToNat, decide_true, decide_false]
  refine Call.intro (times_c _ (ha.sm (by omega)) (Bd.sm (k := 24) (Nat.lt_of_le_of_lt h2 (by decide)) (by omega))) ?_
  have hl := (Bd.up (j := k % 24) ha).sm (by omega)
  unfold Sm at hl
  simp -implicitDefEqProofs only [go_sem, Int.reduceEq, ↓reduceIte, Nat.reduceEqDiff, Nat.reduceAdd, Nat.reduceMul, Nat.reduceSub, Nat.reduceDiv, Nat.reduceLeDiff, Nat.reduceLT, Nat.reduceBEq, Nat.reduceBNe, reduceCtorEq, Int.reduceLE, Int.reduceLT, Int.reduceToNat, decide_true, decide_false, digT_zeros, digT_map, digT_app, digT_kill]
  refine ⟨?_, ?_, ?_⟩
  · simp only [List.length_append, List.length_replicate]; omega
  · simp only [List.length_append, List.length_replicate]; omega
  · simp -implicitDefEqProofs only [go_sem, Int.reduceEq, ↓reduceIte, Nat.reduceEqDiff, Nat.reduceAdd, Nat.reduceMul, Nat.reduceSub, Nat.reduceDiv, Nat.reduceLeDiff, Nat.reduceLT, Nat.reduceBEq, Nat.reduceBNe, reduceCtorEq, Int.reduceLE, Int.reduceLT, Int.reduceToNat, decide_true, decide_false, finK, up_digs (k := k) h0]
end Go.Enc
