/-
  plain.Different and the law Names by their contracts.
-/
import Derived.Test.YtjlibljfpkmpfaaDoorCodeF
set_option linter.unusedSimpArgs false
namespace Go.Enc
open Go.Proofs

theorem sent_other {C : Ctx} {q : Nat → Addr} (hq : Sent C.E q) {i j : Nat} (hi : i < 9) (hj : j < 9) (h : i ≠ j) :
    SameErr C (.d (.v (.iface 165 (.pointer (some (q i)))))) (.d (.v (.iface 165 (.pointer (some (q j)))))) false :=
  ⟨_, _, rfl, rfl, .inr ⟨fun e => h (hq.inj i j hi hj (by simpa using e)), rfl, ⟨i, hq.var i hi⟩, ⟨j, hq.var j hj⟩⟩⟩

set_option maxRecDepth 100000 in
theorem different_c {E : Nat → Option Value} {q : Nat → Addr} (hq : Sent E q) : DCall Tryd.prog E 7 [] (.data (boolD true)) := by
  refine dcall_of Tryd.func7 rfl (by kernel_rfl) Tryd.ntmps7 (by kernel_rfl) (by simp) (rs := [.tmp 0]) rfl ?_
  rintro ⟨P, E, σ0, w0, base, n, kb⟩ rfl rfl rfl rfl
  have e0 : E 0 = some (errV (q 0)) := hq.var 0 (by decide)
  have e1 : E 1 = some (errV (q 1)) := hq.var 1 (by decide)
  have e2 : E 2 = some (errV (q 2)) := hq.var 2 (by decide)
  have e3 : E 3 = some (errV (q 3)) := hq.var 3 (by decide)
  have e4 : E 4 = some (errV (q 4)) := hq.var 4 (by decide)
  have e5 : E 5 = some (errV (q 5)) := hq.var 5 (by decide)
  have e6 : E 6 = some (errV (q 6)) := hq.var 6 (by decide)
  have e7 : E 7 = some (errV (q 7)) := hq.var 7 (by decide)
  have e8 : E 8 = some (errV (q 8)) := hq.var 8 (by decide)
  simp only [go_sem, ↓reduceIte, Nat.reduceEqDiff, Nat.reduceAdd, Nat.reduceMul, Nat.reduceSub, Nat.reduceDiv, Nat.reduceLeDiff, Nat.reduceLT, Nat.reduceBEq, Nat.reduceBNe, reduceCtorEq, Int.reduceLE, Int.reduceLT, Int.reduceToNat, e0, e1, e2, e3, e4, e5, e6, e7, e8, errV, boolD]
  rw [stop_eq]
  refine dwp_loop (α := {r : Nat // r ≤ 9}) (fun r => St.of [(1, .gs 16), (17, .gs 16), (18, .d (intD 9)), (19, .d (intD r.1))]
    [(16, ⟨some (33, 1, false), sentsT q⟩)]) (fun r => 9 - r.1) ⟨0, Nat.zero_le _⟩ (weak_of ?_ ?_ rfl) (by kernel_rfl) (fun r => ?_)
  · simp only [go_sem, ↓reduceIte, Nat.reduceEqDiff, Nat.reduceAdd, Nat.reduceMul, Nat.reduceSub, Nat.reduceDiv, Nat.reduceLeDiff, Nat.reduceLT, Nat.reduceBEq, Nat.reduceBNe, reduceCtorEq, Int.reduceLE, Int.reduceLT, Int.reduceToNat, errV, intD]
    exact ⟨.inl rfl, .inl rfl⟩
  · simp only [go_sem, ↓reduceIte, Nat.reduceEqDiff, Nat.reduceAdd, Nat.reduceMul, Nat.reduceSub, Nat.reduceDiv, Nat.reduceLeDiff, Nat.reduceLT, Nat.reduceBEq, Nat.reduceBNe, reduceCtorEq, Int.reduceLE, Int.reduceLT, Int.reduceToNat, errV, intD]
    rfl
  · obtain ⟨r, hr⟩ := r
    simp only [go_sem, ↓reduceIte, Nat.reduceEqDiff, Nat.reduceAdd, Nat.reduceMul, Nat.reduceSub, Nat.reduceDiv, Nat.reduceLeDiff, Nat.reduceLT, Nat.reduceBEq, Nat.reduceBNe, reduceCtorEq, Int.reduceLE, Int.reduceLT, Int.reduceToNat, errV, intD]
    refine cond_intro (fun h => ?_) (fun h => ?_)
    · have hr9 : r < 9 := by have := of_decide_eq_true h; omega
      simp only [go_sem, ↓reduceIte, Nat.reduceEqDiff, Nat.reduceAdd, Nat.reduceMul, Nat.reduceSub, Nat.reduceDiv, Nat.reduceLeDiff, Nat.reduceLT, Nat.reduceBEq, Nat.reduceBNe, reduceCtorEq, Int.reduceLE, Int.reduceLT, Int.reduceToNat, sentsT_length, sentsT_get hr9, hr9, Int.natCast_nonneg, Int.toNat_natCast, Nat.mul_one, and_self]
      rw [stop_eq]
      refine dwp_loop (α := {j : Nat // j ≤ r}) (fun j => St.of [(1, .gs 16), (17, .gs 16), (18, .d (intD 9)), (19, .d (intD r)), (2, .d (intD r)), (3, .d (.v (errV (q r)))), (4, .d (intD j.1))]
        [(16, ⟨some (33, 1, false), sentsT q⟩)]) (fun j => r - j.1) ⟨0, Nat.zero_le _⟩ (weak_of ?_ ?_ rfl) (by kernel_rfl) (fun j => ?_)
      · simp only [go_sem, ↓reduceIte, Nat.reduceEqDiff, Nat.reduceAdd, Nat.reduceMul, Nat.reduceSub, Nat.reduceDiv, Nat.reduceLeDiff, Nat.reduceLT, Nat.reduceBEq, Nat.reduceBNe, reduceCtorEq, Int.reduceLE, Int.reduceLT, Int.reduceToNat, errV, intD]
        exact .inl rfl
      · simp only [go_sem, ↓reduceIte, Nat.reduceEqDiff, Nat.reduceAdd, Nat.reduceMul, Nat.reduceSub, Nat.reduceDiv, Nat.reduceLeDiff, Nat.reduceLT, Nat.reduceBEq, Nat.reduceBNe, reduceCtorEq, Int.reduceLE, Int.reduceLT, Int.reduceToNat, errV, intD]
      · obtain ⟨j, hj⟩ := j
        simp only [go_sem, ↓reduceIte, Nat.reduceEqDiff, Nat.reduceAdd, Nat.reduceMul, Nat.reduceSub, Nat.reduceDiv, Nat.reduceLeDiff, Nat.reduceLT, Nat.reduceBEq, Nat.reduceBNe, reduceCtorEq, Int.reduceLE, Int.reduceLT, Int.reduceToNat, errV, intD]
        refine cond_intro (fun h => ?_) (fun h => ?_)
        · have hjr : j < r := by have := of_decide_eq_true h; omega
          have hj9 : j < 9 := by omega
          simp only [go_sem, ↓reduceIte, Nat.reduceEqDiff, Nat.reduceAdd, Nat.reduceMul, Nat.reduceSub, Nat.reduceDiv, Nat.reduceLeDiff, Nat.reduceLT, Nat.reduceBEq, Nat.reduceBNe, reduceCtorEq, Int.reduceLE, Int.reduceLT, Int.reduceToNat, sentsT_length, sentsT_get hj9, hj9, Int.natCast_nonneg, Int.toNat_natCast, Nat.mul_one, and_self]
          refine ErrCmp.intro errFacts_prog false (sent_other hq hj9 hr9 (by omega)) ?_
          simp only [go_sem, ↓reduceIte, Nat.reduceEqDiff, Nat.reduceAdd, Nat.reduceMul, Nat.reduceSub, Nat.reduceDiv, Nat.reduceLeDiff, Nat.reduceLT, Nat.reduceBEq, Nat.reduceBNe, reduceCtorEq, Int.reduceLE, Int.reduceLT, Int.reduceToNat]
          refine ⟨⟨j + 1, by omega⟩, weak_of ?_ ?_ rfl, by simp only; omega⟩
          · simp (disch := omega) only [go_sem, ↓reduceIte, Nat.reduceEqDiff, Nat.reduceAdd, Nat.reduceMul, Nat.reduceSub, Nat.reduceDiv, Nat.reduceLeDiff, Nat.reduceLT, Nat.reduceBEq, Nat.reduceBNe, reduceCtorEq, Int.reduceLE, Int.reduceLT, Int.reduceToNat, w64, intD, errV]
            exact .inl rfl
          · simp only [go_sem, ↓reduceIte, Nat.reduceEqDiff, Nat.reduceAdd, Nat.reduceMul, Nat.reduceSub, Nat.reduceDiv, Nat.reduceLeDiff, Nat.reduceLT, Nat.reduceBEq, Nat.reduceBNe, reduceCtorEq, Int.reduceLE, Int.reduceLT, Int.reduceToNat]
        · simp only [go_sem, ↓reduceIte, Nat.reduceEqDiff, Nat.reduceAdd, Nat.reduceMul, Nat.reduceSub, Nat.reduceDiv, Nat.reduceLeDiff, Nat.reduceLT, Nat.reduceBEq, Nat.reduceBNe, reduceCtorEq, Int.reduceLE, Int.reduceLT, Int.reduceToNat]
          refine Call.intro (code_sent hq hr9) ?_
          have ew : IntKind.i64.wrap ((r : Int) + 1) = (r : Int) + 1 := w64 (by omega)
          simp only [go_sem, ↓reduceIte, Nat.reduceEqDiff, Nat.reduceAdd, Nat.reduceMul, Nat.reduceSub, Nat.reduceDiv, Nat.reduceLeDiff, Nat.reduceLT, Nat.reduceBEq, Nat.reduceBNe, reduceCtorEq, Int.reduceLE, Int.reduceLT, Int.reduceToNat, intD, ew]
          refine cond_intro (fun h => ?_) (fun h => ?_)
          · simp at h
          simp only [go_sem, ↓reduceIte, Nat.reduceEqDiff, Nat.reduceAdd, Nat.reduceMul, Nat.reduceSub, Nat.reduceDiv, Nat.reduceLeDiff, Nat.reduceLT, Nat.reduceBEq, Nat.reduceBNe, reduceCtorEq, Int.reduceLE, Int.reduceLT, Int.reduceToNat, ew]
          refine ⟨⟨r + 1, by omega⟩, weak_of ?_ ?_ rfl, by simp only; omega⟩
          · simp (disch := omega) only [go_sem, ↓reduceIte, Nat.reduceEqDiff, Nat.reduceAdd, Nat.reduceMul, Nat.reduceSub, Nat.reduceDiv, Nat.reduceLeDiff, Nat.reduceLT, Nat.reduceBEq, Nat.reduceBNe, reduceCtorEq, Int.reduceLE, Int.reduceLT, Int.reduceToNat, w64, intD, errV]
            exact .inl rfl
          · simp only [go_sem, ↓reduceIte, Nat.reduceEqDiff, Nat.reduceAdd, Nat.reduceMul, Nat.reduceSub, Nat.reduceDiv, Nat.reduceLeDiff, Nat.reduceLT, Nat.reduceBEq, Nat.reduceBNe, reduceCtorEq, Int.reduceLE, Int.reduceLT, Int.reduceToNat]
    · simp only [go_sem, ↓reduceIte, Nat.reduceEqDiff, Nat.reduceAdd, Nat.reduceMul, Nat.reduceSub, Nat.reduceDiv, Nat.reduceLeDiff, Nat.reduceLT, Nat.reduceBEq, Nat.reduceBNe, reduceCtorEq, Int.reduceLE, Int.reduceLT, Int.reduceToNat]

set_option maxRecDepth 100000 in
theorem names_c {E : Nat → Option Value} {q : Nat → Addr} (hq : Sent E q) : DCall Tryd.prog E 3 [] (.data (boolD true)) := by
  refine dcall_of Tryd.func3 rfl (by kernel_rfl) Tryd.ntmps3 (by kernel_rfl) (by simp) (rs := [.tmp 0]) rfl ?_
  rintro ⟨P, E, σ0, w0, base, n, kb⟩ rfl rfl rfl rfl
  simp only [go_sem, ↓reduceIte, Nat.reduceEqDiff, Nat.reduceAdd, Nat.reduceMul, Nat.reduceSub, Nat.reduceDiv, Nat.reduceLeDiff, Nat.reduceLT, Nat.reduceBEq, Nat.reduceBNe, reduceCtorEq, Int.reduceLE, Int.reduceLT, Int.reduceToNat]
  refine Call.intro (different_c hq) ?_
  simp only [go_sem, ↓reduceIte, Nat.reduceEqDiff, Nat.reduceAdd, Nat.reduceMul, Nat.reduceSub, Nat.reduceDiv, Nat.reduceLeDiff, Nat.reduceLT, Nat.reduceBEq, Nat.reduceBNe, reduceCtorEq, Int.reduceLE, Int.reduceLT, Int.reduceToNat]
end Go.Enc
