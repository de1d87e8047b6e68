/-
  plain.code by its contract.
-/
import Derived.Test.YtjlibljfpkmpfaaGreatDoorFacts
import Derived.Test.YtjlibljfpkmpfaaGreatDoorErrD
set_option linter.unusedSimpArgs false
namespace Go.Enc
open Go.Proofs

/-- The nine sentinels in a row. -/
def sentsT (q : Nat → Addr) : List T := (List.range 9).map fun g => .d (.v (errV (q g)))
theorem sentsT_length (q : Nat → Addr) : (sentsT q).length = 9 := by simp [sentsT]
theorem sentsT_get {q : Nat → Addr} {r : Nat} (h : r < 9) : (sentsT q)[r]? = some (.d (.v (.iface 213 (.pointer (some (q r)))))) := by simp [sentsT, h, errV]

set_option maxRecDepth 100000 in
theorem errFacts_prog : errFacts Tryz.prog := ⟨⟨_, Tryz.underlying61⟩, Tryz.underlying213, by kernel_rfl, by kernel_rfl⟩

set_option maxRecDepth 100000 in
theorem unwrap_c (E : Nat → Option Value) (nm e : D) : DCall Tryz.prog E 79 [.pd [nm, e] 0] (.data e) := by
  refine dcall_of Tryz.func79 rfl (by kernel_rfl) Tryz.ntmps79 (by kernel_rfl) (by simp) (rs := [.tmp 2]) rfl ?_
  rintro ⟨P, E, σ0, w0, base, n, kb⟩ rfl rfl rfl rfl
  simp -implicitDefEqProofs only [go_sem, Int.reduceEq, ↓reduceIte, Nat.reduceEqDiff, Nat.reduceAdd, Nat.reduceMul, Nat.reduceSub, Nat.reduceDiv, Nat.reduceLeDiff, Nat.reduceLT, Nat.reduceBEq, Nat.reduceBNe, reduceCtorEq, Int.reduceLE, Int.reduceLT, Int.reduceToNat, decide_true, decide_false]

set_option maxRecDepth 100000 in
theorem code_nil (E : Nat → Option Value) : DCall Tryz.prog E 32 [.v .nilIface] (.data (.tup [intD 0, .v (.string ⟨#[]⟩)])) := by
  refine dcall_of Tryz.func32 rfl (by kernel_rfl) Tryz.ntmps32 (by kernel_rfl) (by simp) (rs := [.tmp 2, .tmp 3]) rfl ?_
  rintro ⟨P, E, σ0, w0, base, n, kb⟩ rfl rfl rfl rfl
  simp -implicitDefEqProofs only [go_sem, Int.reduceEq, ↓reduceIte, Nat.reduceEqDiff, Nat.reduceAdd, Nat.reduceMul, Nat.reduceSub, Nat.reduceDiv, Nat.reduceLeDiff, Nat.reduceLT, Nat.reduceBEq, Nat.reduceBNe, reduceCtorEq, Int.reduceLE, Int.reduceLT, Int.reduceToNat, decide_true, decide_false, intD]
  refine fin_many ?_
  simp -implicitDefEqProofs only [go_sem, Int.reduceEq, ↓reduceIte, Nat.reduceEqDiff, Nat.reduceAdd, Nat.reduceMul, Nat.reduceSub, Nat.reduceDiv, Nat.reduceLeDiff, Nat.reduceLT, Nat.reduceBEq, Nat.reduceBNe, reduceCtorEq, Int.reduceLE, Int.reduceLT, Int.reduceToNat, decide_true, decide_false]

set_option maxRecDepth 100000 in
theorem code_sent {E : Nat → Option Value} {q : Nat → Addr} (hq : Sent E q) {i : Nat} (hi : i < 9) : DCall Tryz.prog E 32 [.v (errV (q i))] (.data (.tup [intD (i + 1), .v (.string ⟨#[]⟩)])) := by
  refine dcall_of Tryz.func32 rfl (by kernel_rfl) Tryz.ntmps32 (by kernel_rfl) (by simp) (rs := [.tmp 2, .tmp 3]) rfl ?_
  rintro ⟨P, E, σ0, w0, base, n, kb⟩ rfl rfl rfl rfl
  have e0 : E 0 = some (errV (q 0)) := hq.var 0 (by decide)
  have e1 : E 1 = some (errV (q 1)) := hq.var 1 (by decide)
  have e2 : E 2 = some (errV (q 2)) := hq.var 2 (by decide)
  have e3 : E 3 = some (errV (q 3)) := hq.var 3 (by decide)
  have e4 : E 4 = some (errV (q 4)) := hq.var 4 (by decide)
  have e5 : E 5 = some (errV (q 5)) := hq.var 5 (by decide)
  have e6 : E 6 = some (errV (q 6)) := hq.var 6 (by decide)
  have e7 : E 7 = some (errV (q 7)) := hq.var 7 (by decide)
  have e8 : E 8 = some (errV (q 8)) := hq.var 8 (by decide)
  simp -implicitDefEqProofs only [go_sem, Int.reduceEq, ↓reduceIte, Nat.reduceEqDiff, Nat.reduceAdd, Nat.reduceMul, Nat.reduceSub, Nat.reduceDiv, Nat.reduceLeDiff, Nat.reduceLT, Nat.reduceBEq, Nat.reduceBNe, reduceCtorEq, Int.reduceLE, Int.reduceLT, Int.reduceToNat, decide_true, decide_false, intD, errV]
  refine CallP.intro (as_sent (c0 := .d (.v (.pointer none))) rfl hq (by simp -implicitDefEqProofs only [go_sem, Int.reduceEq, ↓reduceIte, Nat.reduceEqDiff, Nat.reduceAdd, Nat.reduceMul, Nat.reduceSub, Nat.reduceDiv, Nat.reduceLeDiff, Nat.reduceLT, Nat.reduceBEq, Nat.reduceBNe, reduceCtorEq, Int.reduceLE, Int.reduceLT, Int.reduceToNat, decide_true, decide_false])) ?_
  simp -implicitDefEqProofs only [go_sem, Int.reduceEq, ↓reduceIte, Nat.reduceEqDiff, Nat.reduceAdd, Nat.reduceMul, Nat.reduceSub, Nat.reduceDiv, Nat.reduceLeDiff, Nat.reduceLT, Nat.reduceBEq, Nat.reduceBNe, reduceCtorEq, Int.reduceLE, Int.reduceLT, Int.reduceToNat, decide_true, decide_false, e0, e1, e2, e3, e4, e5, e6, e7, e8, errV, boolD]
  rw [stop_eq]
  refine dwp_loop (α := {r : Nat // r ≤ i}) (fun r => St.of [(0, .d (.v (errV (q i)))), (4, .d (.v (.string ⟨#[]⟩))), (36, .gs 35), (37, .d (intD 9)), (38, .d (intD r.1))]
    [(35, ⟨some (61, 1, false), sentsT q⟩)]) (fun r => 9 - r.1) ⟨0, Nat.zero_le _⟩ (weak_of ?_ ?_ rfl) (by kernel_rfl) (fun r => ?_)
  · simp -implicitDefEqProofs only [go_sem, Int.reduceEq, ↓reduceIte, Nat.reduceEqDiff, Nat.reduceAdd, Nat.reduceMul, Nat.reduceSub, Nat.reduceDiv, Nat.reduceLeDiff, Nat.reduceLT, Nat.reduceBEq, Nat.reduceBNe, reduceCtorEq, Int.reduceLE, Int.reduceLT, Int.reduceToNat, decide_true, decide_false, errV, intD]
    exact ⟨.inl rfl, .inl rfl⟩
  · simp -implicitDefEqProofs only [go_sem, Int.reduceEq, ↓reduceIte, Nat.reduceEqDiff, Nat.reduceAdd, Nat.reduceMul, Nat.reduceSub, Nat.reduceDiv, Nat.reduceLeDiff, Nat.reduceLT, Nat.reduceBEq, Nat.reduceBNe, reduceCtorEq, Int.reduceLE, Int.reduceLT, Int.reduceToNat, decide_true, decide_false, errV, intD]
    rfl
  · obtain ⟨r, hr⟩ := r
    have hr9 : r < 9 := by omega
    simp -implicitDefEqProofs only [go_sem, Int.reduceEq, ↓reduceIte, Nat.reduceEqDiff, Nat.reduceAdd, Nat.reduceMul, Nat.reduceSub, Nat.reduceDiv, Nat.reduceLeDiff, Nat.reduceLT, Nat.reduceBEq, Nat.reduceBNe, reduceCtorEq, Int.reduceLE, Int.reduceLT, Int.reduceToNat, decide_true, decide_false, errV, intD]
    refine cond_intro (fun h => ?_) (fun h => ?_)
    · simp -implicitDefEqProofs only [go_sem, Int.reduceEq, ↓reduceIte, Nat.reduceEqDiff, Nat.reduceAdd, Nat.reduceMul, Nat.reduceSub, Nat.reduceDiv, Nat.reduceLeDiff, Nat.reduceLT, Nat.reduceBEq, Nat.reduceBNe, reduceCtorEq, Int.reduceLE, Int.reduceLT, Int.reduceToNat, decide_true, decide_false, sentsT_length, sentsT_get hr9, hr9, Int.natCast_nonneg, Int.toNat_natCast, Nat.mul_one, and_self]
      refine Call.intro (is_sent hq hi hr9) ?_
      simp -implicitDefEqProofs only [go_sem, Int.reduceEq, ↓reduceIte, Nat.reduceEqDiff, Nat.reduceAdd, Nat.reduceMul, Nat.reduceSub, Nat.reduceDiv, Nat.reduceLeDiff, Nat.reduceLT, Nat.reduceBEq, Nat.reduceBNe, reduceCtorEq, Int.reduceLE, Int.reduceLT, Int.reduceToNat, decide_true, decide_false, boolD]
      refine cond_intro (fun h2 => ?_) (fun h2 => ?_)
      · simp -implicitDefEqProofs only [go_sem, Int.reduceEq, ↓reduceIte, Nat.reduceEqDiff, Nat.reduceAdd, Nat.reduceMul, Nat.reduceSub, Nat.reduceDiv, Nat.reduceLeDiff, Nat.reduceLT, Nat.reduceBEq, Nat.reduceBNe, reduceCtorEq, Int.reduceLE, Int.reduceLT, Int.reduceToNat, decide_true, decide_false]
        refine fin_many ?_
        simp only [beq_iff_eq] at h2
        subst h2
        simp  -implicitDefEqProofs (disch := first | omega | decide) only [go_sem, Int.reduceEq, ↓reduceIte, Nat.reduceEqDiff, Nat.reduceAdd, Nat.reduceMul, Nat.reduceSub, Nat.reduceDiv, Nat.reduceLeDiff, Nat.reduceLT, Nat.reduceBEq, Nat.reduceBNe, reduceCtorEq, Int.reduceLE, Int.reduceLT, Int.reduceToNat, decide_true, decide_false, w64]
      · simp -implicitDefEqProofs only [go_sem, Int.reduceEq, ↓reduceIte, Nat.reduceEqDiff, Nat.reduceAdd, Nat.reduceMul, Nat.reduceSub, Nat.reduceDiv, Nat.reduceLeDiff, Nat.reduceLT, Nat.reduceBEq, Nat.reduceBNe, reduceCtorEq, Int.reduceLE, Int.reduceLT, Int.reduceToNat, decide_true, decide_false]
        simp only [beq_eq_false_iff_ne] at h2
        refine ⟨⟨r + 1, by omega⟩, weak_of ?_ ?_ rfl, by simp only; omega⟩
        · simp  -implicitDefEqProofs (disch := first | omega | decide) only [go_sem, Int.reduceEq, ↓reduceIte, Nat.reduceEqDiff, Nat.reduceAdd, Nat.reduceMul, Nat.reduceSub, Nat.reduceDiv, Nat.reduceLeDiff, Nat.reduceLT, Nat.reduceBEq, Nat.reduceBNe, reduceCtorEq, Int.reduceLE, Int.reduceLT, Int.reduceToNat, decide_true, decide_false, w64]
          exact .inl rfl
        · simp -implicitDefEqProofs only [go_sem, Int.reduceEq, ↓reduceIte, Nat.reduceEqDiff, Nat.reduceAdd, Nat.reduceMul, Nat.reduceSub, Nat.reduceDiv, Nat.reduceLeDiff, Nat.reduceLT, Nat.reduceBEq, Nat.reduceBNe, reduceCtorEq, Int.reduceLE, Int.reduceLT, Int.reduceToNat, decide_true, decide_false]
    · simp at h; omega

set_option maxRecDepth 100000 in
theorem code_op {E : Nat → Option Value} {q : Nat → Addr} (hq : Sent E q) {i : Nat} (hi : i < 9) (nm : ByteArray) : DCall Tryz.prog E 32 [.ip 119 [.v (.string nm), .v (errV (q i))]] (.data (.tup [intD (i + 1), .v (.string nm)])) := by
  refine dcall_of Tryz.func32 rfl (by kernel_rfl) Tryz.ntmps32 (by kernel_rfl) (by simp) (rs := [.tmp 2, .tmp 3]) rfl ?_
  rintro ⟨P, E, σ0, w0, base, n, kb⟩ rfl rfl rfl rfl
  have e0 : E 0 = some (errV (q 0)) := hq.var 0 (by decide)
  have e1 : E 1 = some (errV (q 1)) := hq.var 1 (by decide)
  have e2 : E 2 = some (errV (q 2)) := hq.var 2 (by decide)
  have e3 : E 3 = some (errV (q 3)) := hq.var 3 (by decide)
  have e4 : E 4 = some (errV (q 4)) := hq.var 4 (by decide)
  have e5 : E 5 = some (errV (q 5)) := hq.var 5 (by decide)
  have e6 : E 6 = some (errV (q 6)) := hq.var 6 (by decide)
  have e7 : E 7 = some (errV (q 7)) := hq.var 7 (by decide)
  have e8 : E 8 = some (errV (q 8)) := hq.var 8 (by decide)
  simp -implicitDefEqProofs only [go_sem, Int.reduceEq, ↓reduceIte, Nat.reduceEqDiff, Nat.reduceAdd, Nat.reduceMul, Nat.reduceSub, Nat.reduceDiv, Nat.reduceLeDiff, Nat.reduceLT, Nat.reduceBEq, Nat.reduceBNe, reduceCtorEq, Int.reduceLE, Int.reduceLT, Int.reduceToNat, decide_true, decide_false, intD, errV]
  refine CallP.intro (as_op (c0 := .d (.v (.pointer none))) rfl hq (by simp -implicitDefEqProofs only [go_sem, Int.reduceEq, ↓reduceIte, Nat.reduceEqDiff, Nat.reduceAdd, Nat.reduceMul, Nat.reduceSub, Nat.reduceDiv, Nat.reduceLeDiff, Nat.reduceLT, Nat.reduceBEq, Nat.reduceBNe, reduceCtorEq, Int.reduceLE, Int.reduceLT, Int.reduceToNat, decide_true, decide_false])) ?_
  simp -implicitDefEqProofs only [go_sem, Int.reduceEq, ↓reduceIte, Nat.reduceEqDiff, Nat.reduceAdd, Nat.reduceMul, Nat.reduceSub, Nat.reduceDiv, Nat.reduceLeDiff, Nat.reduceLT, Nat.reduceBEq, Nat.reduceBNe, reduceCtorEq, Int.reduceLE, Int.reduceLT, Int.reduceToNat, decide_true, decide_false, boolD]
  refine drawn_intro (by kernel_rfl) (by kernel_rfl) (by kernel_rfl) ?_
  simp -implicitDefEqProofs only [go_sem, Int.reduceEq, ↓reduceIte, Nat.reduceEqDiff, Nat.reduceAdd, Nat.reduceMul, Nat.reduceSub, Nat.reduceDiv, Nat.reduceLeDiff, Nat.reduceLT, Nat.reduceBEq, Nat.reduceBNe, reduceCtorEq, Int.reduceLE, Int.reduceLT, Int.reduceToNat, decide_true, decide_false]
  refine Call.intro (unwrap_c _ _ _) ?_
  simp -implicitDefEqProofs only [go_sem, Int.reduceEq, ↓reduceIte, Nat.reduceEqDiff, Nat.reduceAdd, Nat.reduceMul, Nat.reduceSub, Nat.reduceDiv, Nat.reduceLeDiff, Nat.reduceLT, Nat.reduceBEq, Nat.reduceBNe, reduceCtorEq, Int.reduceLE, Int.reduceLT, Int.reduceToNat, decide_true, decide_false]
  refine ErrCmp.intro errFacts_prog true ⟨_, _, rfl, rfl, .inl ⟨rfl, rfl⟩⟩ ?_
  simp -implicitDefEqProofs only [go_sem, Int.reduceEq, ↓reduceIte, Nat.reduceEqDiff, Nat.reduceAdd, Nat.reduceMul, Nat.reduceSub, Nat.reduceDiv, Nat.reduceLeDiff, Nat.reduceLT, Nat.reduceBEq, Nat.reduceBNe, reduceCtorEq, Int.reduceLE, Int.reduceLT, Int.reduceToNat, decide_true, decide_false, Bool.not_true, e0, e1, e2, e3, e4, e5, e6, e7, e8, errV]
  rw [stop_eq]
  refine dwp_loop (α := {r : Nat // r ≤ i}) (fun r => St.of [(0, .d (.ip 119 [.v (.string nm), .v (errV (q i))])), (4, .d (.v (.string nm))), (36, .gs 35), (37, .d (intD 9)), (38, .d (intD r.1))]
    [(35, ⟨some (61, 1, false), sentsT q⟩)]) (fun r => 9 - r.1) ⟨0, Nat.zero_le _⟩ (weak_of ?_ ?_ rfl) (by kernel_rfl) (fun r => ?_)
  · simp -implicitDefEqProofs only [go_sem, Int.reduceEq, ↓reduceIte, Nat.reduceEqDiff, Nat.reduceAdd, Nat.reduceMul, Nat.reduceSub, Nat.reduceDiv, Nat.reduceLeDiff, Nat.reduceLT, Nat.reduceBEq, Nat.reduceBNe, reduceCtorEq, Int.reduceLE, Int.reduceLT, Int.reduceToNat, decide_true, decide_false, errV, intD]
    exact ⟨.inl rfl, .inl rfl⟩
  · simp -implicitDefEqProofs only [go_sem, Int.reduceEq, ↓reduceIte, Nat.reduceEqDiff, Nat.reduceAdd, Nat.reduceMul, Nat.reduceSub, Nat.reduceDiv, Nat.reduceLeDiff, Nat.reduceLT, Nat.reduceBEq, Nat.reduceBNe, reduceCtorEq, Int.reduceLE, Int.reduceLT, Int.reduceToNat, decide_true, decide_false, errV, intD]
    rfl
  · obtain ⟨r, hr⟩ := r
    have hr9 : r < 9 := by omega
    simp -implicitDefEqProofs only [go_sem, Int.reduceEq, ↓reduceIte, Nat.reduceEqDiff, Nat.reduceAdd, Nat.reduceMul, Nat.reduceSub, Nat.reduceDiv, Nat.reduceLeDiff, Nat.reduceLT, Nat.reduceBEq, Nat.reduceBNe, reduceCtorEq, Int.reduceLE, Int.reduceLT, Int.reduceToNat, decide_true, decide_false, errV, intD]
    refine cond_intro (fun h => ?_) (fun h => ?_)
    · simp -implicitDefEqProofs only [go_sem, Int.reduceEq, ↓reduceIte, Nat.reduceEqDiff, Nat.reduceAdd, Nat.reduceMul, Nat.reduceSub, Nat.reduceDiv, Nat.reduceLeDiff, Nat.reduceLT, Nat.reduceBEq, Nat.reduceBNe, reduceCtorEq, Int.reduceLE, Int.reduceLT, Int.reduceToNat, decide_true, decide_false, sentsT_length, sentsT_get hr9, hr9, Int.natCast_nonneg, Int.toNat_natCast, Nat.mul_one, and_self]
      refine Call.intro (is_op hq hi hr9 (.v (.string nm))) ?_
      simp -implicitDefEqProofs only [go_sem, Int.reduceEq, ↓reduceIte, Nat.reduceEqDiff, Nat.reduceAdd, Nat.reduceMul, Nat.reduceSub, Nat.reduceDiv, Nat.reduceLeDiff, Nat.reduceLT, Nat.reduceBEq, Nat.reduceBNe, reduceCtorEq, Int.reduceLE, Int.reduceLT, Int.reduceToNat, decide_true, decide_false, boolD]
      refine cond_intro (fun h2 => ?_) (fun h2 => ?_)
      · simp -implicitDefEqProofs only [go_sem, Int.reduceEq, ↓reduceIte, Nat.reduceEqDiff, Nat.reduceAdd, Nat.reduceMul, Nat.reduceSub, Nat.reduceDiv, Nat.reduceLeDiff, Nat.reduceLT, Nat.reduceBEq, Nat.reduceBNe, reduceCtorEq, Int.reduceLE, Int.reduceLT, Int.reduceToNat, decide_true, decide_false]
        refine fin_many ?_
        simp only [beq_iff_eq] at h2
        subst h2
        simp  -implicitDefEqProofs (disch := first | omega | decide) only [go_sem, Int.reduceEq, ↓reduceIte, Nat.reduceEqDiff, Nat.reduceAdd, Nat.reduceMul, Nat.reduceSub, Nat.reduceDiv, Nat.reduceLeDiff, Nat.reduceLT, Nat.reduceBEq, Nat.reduceBNe, reduceCtorEq, Int.reduceLE, Int.reduceLT, Int.reduceToNat, decide_true, decide_false, w64]
      · simp -implicitDefEqProofs only [go_sem, Int.reduceEq, ↓reduceIte, Nat.reduceEqDiff, Nat.reduceAdd, Nat.reduceMul, Nat.reduceSub, Nat.reduceDiv, Nat.reduceLeDiff, Nat.reduceLT, Nat.reduceBEq, Nat.reduceBNe, reduceCtorEq, Int.reduceLE, Int.reduceLT, Int.reduceToNat, decide_true, decide_false]
        simp only [beq_eq_false_iff_ne] at h2
        refine ⟨⟨r + 1, by omega⟩, weak_of ?_ ?_ rfl, by simp only; omega⟩
        · simp  -implicitDefEqProofs (disch := first | omega | decide) only [go_sem, Int.reduceEq, ↓reduceIte, Nat.reduceEqDiff, Nat.reduceAdd, Nat.reduceMul, Nat.reduceSub, Nat.reduceDiv, Nat.reduceLeDiff, Nat.reduceLT, Nat.reduceBEq, Nat.reduceBNe, reduceCtorEq, Int.reduceLE, Int.reduceLT, Int.reduceToNat, decide_true, decide_false, w64]
          exact .inl rfl
        · simp -implicitDefEqProofs only [go_sem, Int.reduceEq, ↓reduceIte, Nat.reduceEqDiff, Nat.reduceAdd, Nat.reduceMul, Nat.reduceSub, Nat.reduceDiv, Nat.reduceLeDiff, Nat.reduceLT, Nat.reduceBEq, Nat.reduceBNe, reduceCtorEq, Int.reduceLE, Int.reduceLT, Int.reduceToNat, decide_true, decide_false]
    · simp at h; omega
end Go.Enc
