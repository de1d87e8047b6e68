/-
  Package exact by its contracts: Plain, side, Add.
-/
import Derived.Test.YtjlibljfpkmpfaaDoorFlx
set_option linter.unusedSimpArgs false
namespace Go.Enc
open Go.Proofs Go.Enc.Fl

/-- exact.Plain, on bits. -/
def plainB (b : Nat) : Bool := decide (b % 2 ^ 63 = 0 ∨ (123 * 2 ^ 52 ≤ b % 2 ^ 63 ∧ b % 2 ^ 63 ≤ 1923 * 2 ^ 52))
theorem order_nan {b c : Nat} (h : ¬ Num b) : FloatKind.f64.format.order b c = none := by
  obtain ⟨t, ht⟩ := read_nan (b := b) (by unfold Num at h; omega)
  show Ieee.double.order b c = _
  unfold Ieee.Format.order
  rw [ht]; rfl
theorem num_abs {b : Nat} : Num (b % 2 ^ 63) ↔ Num b := by unfold Num; rw [Nat.mod_mod]
theorem idx_abs (b : Nat) : idx (b % 2 ^ 63) = (b % 2 ^ 63 : Nat) := idx_of_lt (Nat.mod_lt _ (by omega))
theorem idx_zero {b : Nat} : idx b = 0 ↔ b % 2 ^ 63 = 0 := by rw [idx_sgn]; split <;> omega
theorem orB (b : Bool) : (b || true) = true := by cases b <;> rfl

set_option maxRecDepth 100000 in
theorem plain_c (E : Nat → Option Value) {b : Nat} (hl : b < 2 ^ 64) : DCall Tryd.prog E 75 [flD b] (.data (boolD (plainB b))) := by
  refine dcall_of Tryd.func75 rfl (by kernel_rfl) Tryd.ntmps75 (by kernel_rfl) (by simp) (rs := [.tmp 2]) rfl ?_
  rintro ⟨P, E, σ0, w0, base, n, kb⟩ rfl rfl rfl rfl
  simp only [go_sem, Int.reduceEq, ↓reduceIte, Nat.reduceEqDiff, Nat.reduceAdd, Nat.reduceMul, Nat.reduceSub, Nat.reduceDiv, Nat.reduceLeDiff, Nat.reduceLT, Nat.reduceBEq, Nat.reduceBNe, reduceCtorEq, Int.reduceLE, Int.reduceLT, Int.reduceToNat, decide_true, decide_false, flD, boolD]
  refine Call.intro (abs_c _ hl) ?_
  have n2 : Num 553942754166571008 ∧ idx 553942754166571008 = 553942754166571008 := by decide
  have n3 : Num 8660422083433463808 ∧ idx 8660422083433463808 = 8660422083433463808 := by decide
  by_cases hN : Num b
  · have hA := num_abs.2 hN
    have e1 := ord_eq hN num0.1
    have e2 := ord_ge hA n2.1
    have e3 := ord_le hA n3.1
    rw [num0.2] at e1
    rw [n2.2, idx_abs] at e2
    rw [n3.2, idx_abs] at e3
    have hz := @idx_zero b
    by_cases h0 : b % 2 ^ 63 = 0
    · have e1' := e1.trans (decide_eq_true (hz.2 h0))
      simp only [go_sem, Int.reduceEq, ↓reduceIte, Nat.reduceEqDiff, Nat.reduceAdd, Nat.reduceMul, Nat.reduceSub, Nat.reduceDiv, Nat.reduceLeDiff, Nat.reduceLT, Nat.reduceBEq, Nat.reduceBNe, reduceCtorEq, Int.reduceLE, Int.reduceLT, Int.reduceToNat, decide_true, decide_false, flD, e1']
      have : plainB b = true := decide_eq_true (.inl h0)
      rw [this]
    · have e1' := e1.trans (decide_eq_false (fun e => h0 (hz.1 e)))
      by_cases h1 : 123 * 2 ^ 52 ≤ b % 2 ^ 63
      · have e2' := e2.trans (decide_eq_true (by omega))
        simp only [go_sem, Int.reduceEq, ↓reduceIte, Nat.reduceEqDiff, Nat.reduceAdd, Nat.reduceMul, Nat.reduceSub, Nat.reduceDiv, Nat.reduceLeDiff, Nat.reduceLT, Nat.reduceBEq, Nat.reduceBNe, reduceCtorEq, Int.reduceLE, Int.reduceLT, Int.reduceToNat, decide_true, decide_false, flD, e1', e2']
        rw [e3]
        have : plainB b = decide (((b % 2 ^ 63 : Nat) : Int) ≤ 8660422083433463808) := by unfold plainB; congr 1; simp only [eq_iff_iff]; omega
        rw [this]
      · have e2' := e2.trans (decide_eq_false (by omega))
        simp only [go_sem, Int.reduceEq, ↓reduceIte, Nat.reduceEqDiff, Nat.reduceAdd, Nat.reduceMul, Nat.reduceSub, Nat.reduceDiv, Nat.reduceLeDiff, Nat.reduceLT, Nat.reduceBEq, Nat.reduceBNe, reduceCtorEq, Int.reduceLE, Int.reduceLT, Int.reduceToNat, decide_true, decide_false, flD, e1', e2']
        have : plainB b = false := decide_eq_false (by omega)
        rw [this]
  · have hA : ¬ Num (b % 2 ^ 63) := fun h => hN (num_abs.1 h)
    have e1 : (FloatKind.f64.format.order b 0 == some Ordering.eq) = false := by rw [order_nan hN]; rfl
    have e2 : (FloatKind.f64.format.order (b % 2 ^ 63) 553942754166571008 == some Ordering.gt || FloatKind.f64.format.order (b % 2 ^ 63) 553942754166571008 == some Ordering.eq) = false := by rw [order_nan hA]; rfl
    simp only [go_sem, Int.reduceEq, ↓reduceIte, Nat.reduceEqDiff, Nat.reduceAdd, Nat.reduceMul, Nat.reduceSub, Nat.reduceDiv, Nat.reduceLeDiff, Nat.reduceLT, Nat.reduceBEq, Nat.reduceBNe, reduceCtorEq, Int.reduceLE, Int.reduceLT, Int.reduceToNat, decide_true, decide_false, flD, e1, e2]
    have : plainB b = false := decide_eq_false (by unfold Num inf at hN; omega)
    rw [this]

/-! ### The next float -/
theorem wrapU_add {b : Nat} (h : b + 1 < 2 ^ 64) : (IntKind.u64.wrap ((b : Int) + 1)).toNat = b + 1 := by rw [wrapU (by omega) (by omega)]; omega
theorem wrapU_sub {b : Nat} (h : b < 2 ^ 64) (h1 : 1 ≤ b) : (IntKind.u64.wrap ((b : Int) - 1)).toNat = b - 1 := by rw [wrapU (by omega) (by omega)]; omega
set_option maxRecDepth 100000 in
theorem copysignU_c (E : Nat → Option Value) : DCall Tryd.prog E 101 [flD 1, flD 9218868437227405312] (.data (flD (1))) := by
  refine dcall_of Tryd.func101 rfl (by kernel_rfl) Tryd.ntmps101 (by kernel_rfl) (by simp) (rs := [.tmp 4]) rfl ?_
  rintro ⟨P, E, σ0, w0, base, n, kb⟩ rfl rfl rfl rfl
  simp only [go_sem, Int.reduceEq, ↓reduceIte, Nat.reduceEqDiff, Nat.reduceAdd, Nat.reduceMul, Nat.reduceSub, Nat.reduceDiv, Nat.reduceLeDiff, Nat.reduceLT, Nat.reduceBEq, Nat.reduceBNe, reduceCtorEq, Int.reduceLE, Int.reduceLT, Int.reduceToNat, decide_true, decide_false, flD]
  refine Call.intro (bits_c _ _) ?_
  simp only [go_sem, Int.reduceEq, ↓reduceIte, Nat.reduceEqDiff, Nat.reduceAdd, Nat.reduceMul, Nat.reduceSub, Nat.reduceDiv, Nat.reduceLeDiff, Nat.reduceLT, Nat.reduceBEq, Nat.reduceBNe, reduceCtorEq, Int.reduceLE, Int.reduceLT, Int.reduceToNat, decide_true, decide_false, flD, u64D]
  refine Call.intro (bits_c _ _) ?_
  simp only [go_sem, Int.reduceEq, ↓reduceIte, Nat.reduceEqDiff, Nat.reduceAdd, Nat.reduceMul, Nat.reduceSub, Nat.reduceDiv, Nat.reduceLeDiff, Nat.reduceLT, Nat.reduceBEq, Nat.reduceBNe, reduceCtorEq, Int.reduceLE, Int.reduceLT, Int.reduceToNat, decide_true, decide_false, flD, u64D]
  refine Call.intro (frombits_c _ _) ?_
  simp only [go_sem, Int.reduceEq, ↓reduceIte, Nat.reduceEqDiff, Nat.reduceAdd, Nat.reduceMul, Nat.reduceSub, Nat.reduceDiv, Nat.reduceLeDiff, Nat.reduceLT, Nat.reduceBEq, Nat.reduceBNe, reduceCtorEq, Int.reduceLE, Int.reduceLT, Int.reduceToNat, decide_true, decide_false, flD]
  exact congrArg (fun z => T.d (D.v (Value.float FloatKind.f64 z))) (by decide)
set_option maxRecDepth 100000 in
theorem nextU_c (E : Nat → Option Value) {b : Nat} (hl : b < 2 ^ 64) (hf : Fl.Fin b) :
    DCall Tryd.prog E 97 [flD b, flD 9218868437227405312] (.data (flD (nextUp b))) := by
  refine dcall_of Tryd.func97 rfl (by kernel_rfl) Tryd.ntmps97 (by kernel_rfl) (by simp) (rs := [.tmp 4]) rfl ?_
  rintro ⟨P, E, σ0, w0, base, n, kb⟩ rfl rfl rfl rfl
  have hN := hf.num
  have hi := idx_fin.1 hf
  have hI : Num 9218868437227405312 ∧ idx 9218868437227405312 = (inf : Int) := by decide
  simp only [go_sem, Int.reduceEq, ↓reduceIte, Nat.reduceEqDiff, Nat.reduceAdd, Nat.reduceMul, Nat.reduceSub, Nat.reduceDiv, Nat.reduceLeDiff, Nat.reduceLT, Nat.reduceBEq, Nat.reduceBNe, reduceCtorEq, Int.reduceLE, Int.reduceLT, Int.reduceToNat, decide_true, decide_false, flD]
  refine Call.intro (isNaN_c _ _) ?_
  have a1 : decide (¬ Num b) = false := decide_eq_false (fun h => h hN)
  have a2 : decide (¬ Num 9218868437227405312) = false := decide_eq_false (fun h => h hI.1)
  simp only [go_sem, Int.reduceEq, ↓reduceIte, Nat.reduceEqDiff, Nat.reduceAdd, Nat.reduceMul, Nat.reduceSub, Nat.reduceDiv, Nat.reduceLeDiff, Nat.reduceLT, Nat.reduceBEq, Nat.reduceBNe, reduceCtorEq, Int.reduceLE, Int.reduceLT, Int.reduceToNat, decide_true, decide_false, flD, boolD, a1]
  refine Call.intro (isNaN_c _ _) ?_
  have e1 := ord_eq hN hI.1
  have e1' := e1.trans (decide_eq_false (by rw [hI.2]; omega))
  have e2 := ord_eq hN num0.1
  rw [num0.2] at e2
  have e3 := ord_gt hI.1 hN
  have e4 := ord_gt hN num0.1
  rw [num0.2] at e4
  have hinf := inf_lt
  have e3' := e3.trans (decide_eq_true (by rw [hI.2]; omega))
  rcases Int.lt_trichotomy (idx b) 0 with h | h | h
  · have e2' := e2.trans (decide_eq_false (by omega))
    have e4' := e4.trans (decide_eq_false (by omega))
    obtain ⟨r, g1, g2, g3, g4, _⟩ := bits_neg hl h
    have be : ((true : Bool) == false) = false := rfl
    simp only [go_sem, Int.reduceEq, ↓reduceIte, Nat.reduceEqDiff, Nat.reduceAdd, Nat.reduceMul, Nat.reduceSub, Nat.reduceDiv, Nat.reduceLeDiff, Nat.reduceLT, Nat.reduceBEq, Nat.reduceBNe, reduceCtorEq, Int.reduceLE, Int.reduceLT, Int.reduceToNat, decide_true, decide_false, flD, boolD, a2, e1', e2', e3', e4', be]
    refine Call.intro (bits_c _ _) ?_
    simp only [go_sem, Int.reduceEq, ↓reduceIte, Nat.reduceEqDiff, Nat.reduceAdd, Nat.reduceMul, Nat.reduceSub, Nat.reduceDiv, Nat.reduceLeDiff, Nat.reduceLT, Nat.reduceBEq, Nat.reduceBNe, reduceCtorEq, Int.reduceLE, Int.reduceLT, Int.reduceToNat, decide_true, decide_false, flD, u64D]
    refine Call.intro (frombits_c _ _) ?_
    simp only [go_sem, Int.reduceEq, ↓reduceIte, Nat.reduceEqDiff, Nat.reduceAdd, Nat.reduceMul, Nat.reduceSub, Nat.reduceDiv, Nat.reduceLeDiff, Nat.reduceLT, Nat.reduceBEq, Nat.reduceBNe, reduceCtorEq, Int.reduceLE, Int.reduceLT, Int.reduceToNat, decide_true, decide_false, flD]
    refine congrArg (fun z => T.d (D.v (Value.float FloatKind.f64 z))) ?_
    rw [wrapU_sub hl (by omega)]
    unfold nextUp
    rw [if_neg (by omega), if_neg (by omega)]
  · have e2' := e2.trans (decide_eq_true h)
    simp only [go_sem, Int.reduceEq, ↓reduceIte, Nat.reduceEqDiff, Nat.reduceAdd, Nat.reduceMul, Nat.reduceSub, Nat.reduceDiv, Nat.reduceLeDiff, Nat.reduceLT, Nat.reduceBEq, Nat.reduceBNe, reduceCtorEq, Int.reduceLE, Int.reduceLT, Int.reduceToNat, decide_true, decide_false, flD, boolD, a2, e1', e2']
    refine Call.intro (frombits_c _ _) ?_
    simp only [go_sem, Int.reduceEq, ↓reduceIte, Nat.reduceEqDiff, Nat.reduceAdd, Nat.reduceMul, Nat.reduceSub, Nat.reduceDiv, Nat.reduceLeDiff, Nat.reduceLT, Nat.reduceBEq, Nat.reduceBNe, reduceCtorEq, Int.reduceLE, Int.reduceLT, Int.reduceToNat, decide_true, decide_false, flD]
    refine Call.intro (copysignU_c _) ?_
    simp only [go_sem, Int.reduceEq, ↓reduceIte, Nat.reduceEqDiff, Nat.reduceAdd, Nat.reduceMul, Nat.reduceSub, Nat.reduceDiv, Nat.reduceLeDiff, Nat.reduceLT, Nat.reduceBEq, Nat.reduceBNe, reduceCtorEq, Int.reduceLE, Int.reduceLT, Int.reduceToNat, decide_true, decide_false, flD]
    unfold nextUp
    rw [if_pos h]
  · have e2' := e2.trans (decide_eq_false (by omega))
    have e4' := e4.trans (decide_eq_true (by omega))
    obtain ⟨g1, g2, g3⟩ := bits_pos hl h
    have be : ((true : Bool) == true) = true := rfl
    simp only [go_sem, Int.reduceEq, ↓reduceIte, Nat.reduceEqDiff, Nat.reduceAdd, Nat.reduceMul, Nat.reduceSub, Nat.reduceDiv, Nat.reduceLeDiff, Nat.reduceLT, Nat.reduceBEq, Nat.reduceBNe, reduceCtorEq, Int.reduceLE, Int.reduceLT, Int.reduceToNat, decide_true, decide_false, flD, boolD, a2, e1', e2', e3', e4', be]
    refine Call.intro (bits_c _ _) ?_
    simp only [go_sem, Int.reduceEq, ↓reduceIte, Nat.reduceEqDiff, Nat.reduceAdd, Nat.reduceMul, Nat.reduceSub, Nat.reduceDiv, Nat.reduceLeDiff, Nat.reduceLT, Nat.reduceBEq, Nat.reduceBNe, reduceCtorEq, Int.reduceLE, Int.reduceLT, Int.reduceToNat, decide_true, decide_false, flD, u64D]
    refine Call.intro (frombits_c _ _) ?_
    simp only [go_sem, Int.reduceEq, ↓reduceIte, Nat.reduceEqDiff, Nat.reduceAdd, Nat.reduceMul, Nat.reduceSub, Nat.reduceDiv, Nat.reduceLeDiff, Nat.reduceLT, Nat.reduceBEq, Nat.reduceBNe, reduceCtorEq, Int.reduceLE, Int.reduceLT, Int.reduceToNat, decide_true, decide_false, flD]
    refine congrArg (fun z => T.d (D.v (Value.float FloatKind.f64 z))) ?_
    rw [wrapU_add (by omega)]
    unfold nextUp
    rw [if_neg (by omega), if_pos (by omega)]

set_option maxRecDepth 100000 in
theorem copysignD_c (E : Nat → Option Value) : DCall Tryd.prog E 101 [flD 1, flD 18442240474082181120] (.data (flD (2 ^ 63 + 1))) := by
  refine dcall_of Tryd.func101 rfl (by kernel_rfl) Tryd.ntmps101 (by kernel_rfl) (by simp) (rs := [.tmp 4]) rfl ?_
  rintro ⟨P, E, σ0, w0, base, n, kb⟩ rfl rfl rfl rfl
  simp only [go_sem, Int.reduceEq, ↓reduceIte, Nat.reduceEqDiff, Nat.reduceAdd, Nat.reduceMul, Nat.reduceSub, Nat.reduceDiv, Nat.reduceLeDiff, Nat.reduceLT, Nat.reduceBEq, Nat.reduceBNe, reduceCtorEq, Int.reduceLE, Int.reduceLT, Int.reduceToNat, decide_true, decide_false, flD]
  refine Call.intro (bits_c _ _) ?_
  simp only [go_sem, Int.reduceEq, ↓reduceIte, Nat.reduceEqDiff, Nat.reduceAdd, Nat.reduceMul, Nat.reduceSub, Nat.reduceDiv, Nat.reduceLeDiff, Nat.reduceLT, Nat.reduceBEq, Nat.reduceBNe, reduceCtorEq, Int.reduceLE, Int.reduceLT, Int.reduceToNat, decide_true, decide_false, flD, u64D]
  refine Call.intro (bits_c _ _) ?_
  simp only [go_sem, Int.reduceEq, ↓reduceIte, Nat.reduceEqDiff, Nat.reduceAdd, Nat.reduceMul, Nat.reduceSub, Nat.reduceDiv, Nat.reduceLeDiff, Nat.reduceLT, Nat.reduceBEq, Nat.reduceBNe, reduceCtorEq, Int.reduceLE, Int.reduceLT, Int.reduceToNat, decide_true, decide_false, flD, u64D]
  refine Call.intro (frombits_c _ _) ?_
  simp only [go_sem, Int.reduceEq, ↓reduceIte, Nat.reduceEqDiff, Nat.reduceAdd, Nat.reduceMul, Nat.reduceSub, Nat.reduceDiv, Nat.reduceLeDiff, Nat.reduceLT, Nat.reduceBEq, Nat.reduceBNe, reduceCtorEq, Int.reduceLE, Int.reduceLT, Int.reduceToNat, decide_true, decide_false, flD]
  exact congrArg (fun z => T.d (D.v (Value.float FloatKind.f64 z))) (by decide)
set_option maxRecDepth 100000 in
theorem nextD_c (E : Nat → Option Value) {b : Nat} (hl : b < 2 ^ 64) (hf : Fl.Fin b) :
    DCall Tryd.prog E 97 [flD b, flD 18442240474082181120] (.data (flD (nextDn b))) := by
  refine dcall_of Tryd.func97 rfl (by kernel_rfl) Tryd.ntmps97 (by kernel_rfl) (by simp) (rs := [.tmp 4]) rfl ?_
  rintro ⟨P, E, σ0, w0, base, n, kb⟩ rfl rfl rfl rfl
  have hN := hf.num
  have hi := idx_fin.1 hf
  have hI : Num 18442240474082181120 ∧ idx 18442240474082181120 = -(inf : Int) := by decide
  simp only [go_sem, Int.reduceEq, ↓reduceIte, Nat.reduceEqDiff, Nat.reduceAdd, Nat.reduceMul, Nat.reduceSub, Nat.reduceDiv, Nat.reduceLeDiff, Nat.reduceLT, Nat.reduceBEq, Nat.reduceBNe, reduceCtorEq, Int.reduceLE, Int.reduceLT, Int.reduceToNat, decide_true, decide_false, flD]
  refine Call.intro (isNaN_c _ _) ?_
  have a1 : decide (¬ Num b) = false := decide_eq_false (fun h => h hN)
  have a2 : decide (¬ Num 18442240474082181120) = false := decide_eq_false (fun h => h hI.1)
  simp only [go_sem, Int.reduceEq, ↓reduceIte, Nat.reduceEqDiff, Nat.reduceAdd, Nat.reduceMul, Nat.reduceSub, Nat.reduceDiv, Nat.reduceLeDiff, Nat.reduceLT, Nat.reduceBEq, Nat.reduceBNe, reduceCtorEq, Int.reduceLE, Int.reduceLT, Int.reduceToNat, decide_true, decide_false, flD, boolD, a1]
  refine Call.intro (isNaN_c _ _) ?_
  have e1 := ord_eq hN hI.1
  have e1' := e1.trans (decide_eq_false (by rw [hI.2]; omega))
  have e2 := ord_eq hN num0.1
  rw [num0.2] at e2
  have e3 := ord_gt hI.1 hN
  have e4 := ord_gt hN num0.1
  rw [num0.2] at e4
  have hinf := inf_lt
  have e3' := e3.trans (decide_eq_false (by rw [hI.2]; omega))
  rcases Int.lt_trichotomy (idx b) 0 with h | h | h
  · have e2' := e2.trans (decide_eq_false (by omega))
    have e4' := e4.trans (decide_eq_false (by omega))
    obtain ⟨r, g1, g2, g3, g4, _⟩ := bits_neg hl h
    have be : ((false : Bool) == false) = true := rfl
    simp only [go_sem, Int.reduceEq, ↓reduceIte, Nat.reduceEqDiff, Nat.reduceAdd, Nat.reduceMul, Nat.reduceSub, Nat.reduceDiv, Nat.reduceLeDiff, Nat.reduceLT, Nat.reduceBEq, Nat.reduceBNe, reduceCtorEq, Int.reduceLE, Int.reduceLT, Int.reduceToNat, decide_true, decide_false, flD, boolD, a2, e1', e2', e3', e4', be]
    refine Call.intro (bits_c _ _) ?_
    simp only [go_sem, Int.reduceEq, ↓reduceIte, Nat.reduceEqDiff, Nat.reduceAdd, Nat.reduceMul, Nat.reduceSub, Nat.reduceDiv, Nat.reduceLeDiff, Nat.reduceLT, Nat.reduceBEq, Nat.reduceBNe, reduceCtorEq, Int.reduceLE, Int.reduceLT, Int.reduceToNat, decide_true, decide_false, flD, u64D]
    refine Call.intro (frombits_c _ _) ?_
    simp only [go_sem, Int.reduceEq, ↓reduceIte, Nat.reduceEqDiff, Nat.reduceAdd, Nat.reduceMul, Nat.reduceSub, Nat.reduceDiv, Nat.reduceLeDiff, Nat.reduceLT, Nat.reduceBEq, Nat.reduceBNe, reduceCtorEq, Int.reduceLE, Int.reduceLT, Int.reduceToNat, decide_true, decide_false, flD]
    refine congrArg (fun z => T.d (D.v (Value.float FloatKind.f64 z))) ?_
    rw [wrapU_add (by omega)]
    unfold nextDn
    rw [if_neg (by omega), if_neg (by omega)]
  · have e2' := e2.trans (decide_eq_true h)
    simp only [go_sem, Int.reduceEq, ↓reduceIte, Nat.reduceEqDiff, Nat.reduceAdd, Nat.reduceMul, Nat.reduceSub, Nat.reduceDiv, Nat.reduceLeDiff, Nat.reduceLT, Nat.reduceBEq, Nat.reduceBNe, reduceCtorEq, Int.reduceLE, Int.reduceLT, Int.reduceToNat, decide_true, decide_false, flD, boolD, a2, e1', e2']
    refine Call.intro (frombits_c _ _) ?_
    simp only [go_sem, Int.reduceEq, ↓reduceIte, Nat.reduceEqDiff, Nat.reduceAdd, Nat.reduceMul, Nat.reduceSub, Nat.reduceDiv, Nat.reduceLeDiff, Nat.reduceLT, Nat.reduceBEq, Nat.reduceBNe, reduceCtorEq, Int.reduceLE, Int.reduceLT, Int.reduceToNat, decide_true, decide_false, flD]
    refine Call.intro (copysignD_c _) ?_
    simp only [go_sem, Int.reduceEq, ↓reduceIte, Nat.reduceEqDiff, Nat.reduceAdd, Nat.reduceMul, Nat.reduceSub, Nat.reduceDiv, Nat.reduceLeDiff, Nat.reduceLT, Nat.reduceBEq, Nat.reduceBNe, reduceCtorEq, Int.reduceLE, Int.reduceLT, Int.reduceToNat, decide_true, decide_false, flD]
    unfold nextDn
    rw [if_pos h]
  · have e2' := e2.trans (decide_eq_false (by omega))
    have e4' := e4.trans (decide_eq_true (by omega))
    obtain ⟨g1, g2, g3⟩ := bits_pos hl h
    have be : ((false : Bool) == true) = false := rfl
    simp only [go_sem, Int.reduceEq, ↓reduceIte, Nat.reduceEqDiff, Nat.reduceAdd, Nat.reduceMul, Nat.reduceSub, Nat.reduceDiv, Nat.reduceLeDiff, Nat.reduceLT, Nat.reduceBEq, Nat.reduceBNe, reduceCtorEq, Int.reduceLE, Int.reduceLT, Int.reduceToNat, decide_true, decide_false, flD, boolD, a2, e1', e2', e3', e4', be]
    refine Call.intro (bits_c _ _) ?_
    simp only [go_sem, Int.reduceEq, ↓reduceIte, Nat.reduceEqDiff, Nat.reduceAdd, Nat.reduceMul, Nat.reduceSub, Nat.reduceDiv, Nat.reduceLeDiff, Nat.reduceLT, Nat.reduceBEq, Nat.reduceBNe, reduceCtorEq, Int.reduceLE, Int.reduceLT, Int.reduceToNat, decide_true, decide_false, flD, u64D]
    refine Call.intro (frombits_c _ _) ?_
    simp only [go_sem, Int.reduceEq, ↓reduceIte, Nat.reduceEqDiff, Nat.reduceAdd, Nat.reduceMul, Nat.reduceSub, Nat.reduceDiv, Nat.reduceLeDiff, Nat.reduceLT, Nat.reduceBEq, Nat.reduceBNe, reduceCtorEq, Int.reduceLE, Int.reduceLT, Int.reduceToNat, decide_true, decide_false, flD]
    refine congrArg (fun z => T.d (D.v (Value.float FloatKind.f64 z))) ?_
    rw [wrapU_sub hl (by omega)]
    unfold nextDn
    rw [if_neg (by omega), if_pos (by omega)]

set_option maxRecDepth 100000 in
theorem sideU_c (E : Nat → Option Value) {x r : Nat} (hl : x < 2 ^ 64) (hf : Fl.Fin x) (hr : Num r) : DCall Tryd.prog E 84 [flD x, flD r, intD (1)] (.data (flD (side x r (1)))) := by
  refine dcall_of Tryd.func84 rfl (by kernel_rfl) Tryd.ntmps84 (by kernel_rfl) (by simp) (rs := [.tmp 6]) rfl ?_
  rintro ⟨P, E, σ0, w0, base, n, kb⟩ rfl rfl rfl rfl
  have e1 := ord_gt hr num0.1
  rw [num0.2] at e1
  have g1 : decide ((1 : Int) > 0) = true := rfl
  have g2 : decide ((-1 : Int) > 0) = false := rfl
  by_cases h : 0 < idx r
  · have e1' := e1.trans (decide_eq_true h)
    simp only [go_sem, Int.reduceEq, ↓reduceIte, Nat.reduceEqDiff, Nat.reduceAdd, Nat.reduceMul, Nat.reduceSub, Nat.reduceDiv, Nat.reduceLeDiff, Nat.reduceLT, Nat.reduceBEq, Nat.reduceBNe, reduceCtorEq, Int.reduceLE, Int.reduceLT, Int.reduceToNat, decide_true, decide_false, flD, intD, e1', g1, g2]
    refine Call.intro (inf_c _ _) ?_
    simp only [go_sem, Int.reduceEq, ↓reduceIte, Nat.reduceEqDiff, Nat.reduceAdd, Nat.reduceMul, Nat.reduceSub, Nat.reduceDiv, Nat.reduceLeDiff, Nat.reduceLT, Nat.reduceBEq, Nat.reduceBNe, reduceCtorEq, Int.reduceLE, Int.reduceLT, Int.reduceToNat, decide_true, decide_false, flD]
    refine Call.intro (nextU_c _ hl hf) ?_
    simp only [go_sem, Int.reduceEq, ↓reduceIte, Nat.reduceEqDiff, Nat.reduceAdd, Nat.reduceMul, Nat.reduceSub, Nat.reduceDiv, Nat.reduceLeDiff, Nat.reduceLT, Nat.reduceBEq, Nat.reduceBNe, reduceCtorEq, Int.reduceLE, Int.reduceLT, Int.reduceToNat, decide_true, decide_false, flD]
    unfold side
    rw [if_neg (by omega), if_pos ⟨by omega, h⟩]
  · have e1' := e1.trans (decide_eq_false h)
    simp only [go_sem, Int.reduceEq, ↓reduceIte, Nat.reduceEqDiff, Nat.reduceAdd, Nat.reduceMul, Nat.reduceSub, Nat.reduceDiv, Nat.reduceLeDiff, Nat.reduceLT, Nat.reduceBEq, Nat.reduceBNe, reduceCtorEq, Int.reduceLE, Int.reduceLT, Int.reduceToNat, decide_true, decide_false, flD, intD, e1', g1, g2]
    unfold side
    rw [if_neg (by omega), if_neg (by omega)]
set_option maxRecDepth 100000 in
theorem sideD_c (E : Nat → Option Value) {x r : Nat} (hl : x < 2 ^ 64) (hf : Fl.Fin x) (hr : Num r) : DCall Tryd.prog E 84 [flD x, flD r, intD (-1)] (.data (flD (side x r (-1)))) := by
  refine dcall_of Tryd.func84 rfl (by kernel_rfl) Tryd.ntmps84 (by kernel_rfl) (by simp) (rs := [.tmp 6]) rfl ?_
  rintro ⟨P, E, σ0, w0, base, n, kb⟩ rfl rfl rfl rfl
  have e1 := ord_lt hr num0.1
  rw [num0.2] at e1
  have g1 : decide ((1 : Int) > 0) = true := rfl
  have g2 : decide ((-1 : Int) > 0) = false := rfl
  by_cases h : idx r < 0
  · have e1' := e1.trans (decide_eq_true h)
    simp only [go_sem, Int.reduceEq, ↓reduceIte, Nat.reduceEqDiff, Nat.reduceAdd, Nat.reduceMul, Nat.reduceSub, Nat.reduceDiv, Nat.reduceLeDiff, Nat.reduceLT, Nat.reduceBEq, Nat.reduceBNe, reduceCtorEq, Int.reduceLE, Int.reduceLT, Int.reduceToNat, decide_true, decide_false, flD, intD, e1', g1, g2]
    refine Call.intro (inf_c _ _) ?_
    simp only [go_sem, Int.reduceEq, ↓reduceIte, Nat.reduceEqDiff, Nat.reduceAdd, Nat.reduceMul, Nat.reduceSub, Nat.reduceDiv, Nat.reduceLeDiff, Nat.reduceLT, Nat.reduceBEq, Nat.reduceBNe, reduceCtorEq, Int.reduceLE, Int.reduceLT, Int.reduceToNat, decide_true, decide_false, flD]
    refine Call.intro (nextD_c _ hl hf) ?_
    simp only [go_sem, Int.reduceEq, ↓reduceIte, Nat.reduceEqDiff, Nat.reduceAdd, Nat.reduceMul, Nat.reduceSub, Nat.reduceDiv, Nat.reduceLeDiff, Nat.reduceLT, Nat.reduceBEq, Nat.reduceBNe, reduceCtorEq, Int.reduceLE, Int.reduceLT, Int.reduceToNat, decide_true, decide_false, flD]
    unfold side
    rw [if_pos ⟨by omega, h⟩]
  · have e1' := e1.trans (decide_eq_false h)
    simp only [go_sem, Int.reduceEq, ↓reduceIte, Nat.reduceEqDiff, Nat.reduceAdd, Nat.reduceMul, Nat.reduceSub, Nat.reduceDiv, Nat.reduceLeDiff, Nat.reduceLT, Nat.reduceBEq, Nat.reduceBNe, reduceCtorEq, Int.reduceLE, Int.reduceLT, Int.reduceToNat, decide_true, decide_false, flD, intD, e1', g1, g2]
    unfold side
    rw [if_neg (by omega), if_neg (by omega)]
end Go.Enc
