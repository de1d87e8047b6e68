/-
  The document's exact numbers by their contracts: sign, level, sum, order; a float's number; Make.
-/
import Derived.Test.YtjlibljfpkmpfaaDoorNat5
import Derived.Test.YtjlibljfpkmpfaaDoorNum
set_option linter.unusedSimpArgs false
namespace Go.Enc
open Go.Proofs Go.Enc.Dg Go.Enc.Nu

abbrev bD (b : Bool) : D := .v (.bool b)
/-- An exact number's datum. -/
abbrev nmD (a : Nm) : D := .agg [bD a.neg, natD a.n, intD a.e]
attribute [go_sem] bD nmD
theorem lenpos (n : Nat) : decide (((dg n).length : Int) > 0) = decide (0 < n) := by
  have := @dg_len0 n
  congr 1
  rw [eq_iff_iff]; omega
theorem len0 (n : Nat) : (((dg n).length : Int) == 0) = decide (n = 0) := by
  have := @dg_len0 n
  rw [Bool.eq_iff_iff, beq_iff_eq, decide_eq_true_eq]; omega

set_option maxRecDepth 100000 in
theorem negated_c (E : Nat → Option Value) (a : Nm) : DCall Tryd.prog E 81 [nmD a] (.data (nmD (nneg a))) := by
  refine dcall_of Tryd.func81 rfl (by kernel_rfl) Tryd.ntmps81 (by kernel_rfl) (by simp) (rs := [.cell 2 112]) rfl ?_
  rintro ⟨P, E, σ0, w0, base, n, kb⟩ rfl rfl rfl rfl
  obtain ⟨neg, n, e⟩ := a
  cases neg
  · simp -implicitDefEqProofs only [go_sem, Int.reduceEq, ↓reduceIte, Nat.reduceEqDiff, Nat.reduceAdd, Nat.reduceMul, Nat.reduceSub, Nat.reduceDiv, Nat.reduceLeDiff, Nat.reduceLT, Nat.reduceBEq, Nat.reduceBNe, reduceCtorEq, Int.reduceLE, Int.reduceLT, Int.reduceToNat, decide_true, decide_false, nneg, lenpos, Bool.true_and]
  · simp -implicitDefEqProofs only [go_sem, Int.reduceEq, ↓reduceIte, Nat.reduceEqDiff, Nat.reduceAdd, Nat.reduceMul, Nat.reduceSub, Nat.reduceDiv, Nat.reduceLeDiff, Nat.reduceLT, Nat.reduceBEq, Nat.reduceBNe, reduceCtorEq, Int.reduceLE, Int.reduceLT, Int.reduceToNat, decide_true, decide_false, nneg, lenpos, Bool.false_and]
set_option maxRecDepth 100000 in
theorem sign_c (E : Nat → Option Value) (a : Nm) : DCall Tryd.prog E 83 [nmD a] (.data (intD (nsign a))) := by
  refine dcall_of Tryd.func83 rfl (by kernel_rfl) Tryd.ntmps83 (by kernel_rfl) (by simp) (rs := [.tmp 2]) rfl ?_
  rintro ⟨P, E, σ0, w0, base, n, kb⟩ rfl rfl rfl rfl
  obtain ⟨neg, n, e⟩ := a
  simp -implicitDefEqProofs only [go_sem, Int.reduceEq, ↓reduceIte, Nat.reduceEqDiff, Nat.reduceAdd, Nat.reduceMul, Nat.reduceSub, Nat.reduceDiv, Nat.reduceLeDiff, Nat.reduceLT, Nat.reduceBEq, Nat.reduceBNe, reduceCtorEq, Int.reduceLE, Int.reduceLT, Int.reduceToNat, decide_true, decide_false, len0]
  refine cond_intro (fun h => ?_) (fun h => ?_)
  · have h0 : n = 0 := of_decide_eq_true h
    simp -implicitDefEqProofs only [go_sem, Int.reduceEq, ↓reduceIte, Nat.reduceEqDiff, Nat.reduceAdd, Nat.reduceMul, Nat.reduceSub, Nat.reduceDiv, Nat.reduceLeDiff, Nat.reduceLT, Nat.reduceBEq, Nat.reduceBNe, reduceCtorEq, Int.reduceLE, Int.reduceLT, Int.reduceToNat, decide_true, decide_false, finK]
    unfold nsign; rw [if_pos h0]
  · have h0 : n ≠ 0 := of_decide_eq_false h
    simp -implicitDefEqProofs only [go_sem, Int.reduceEq, ↓reduceIte, Nat.reduceEqDiff, Nat.reduceAdd, Nat.reduceMul, Nat.reduceSub, Nat.reduceDiv, Nat.reduceLeDiff, Nat.reduceLT, Nat.reduceBEq, Nat.reduceBNe, reduceCtorEq, Int.reduceLE, Int.reduceLT, Int.reduceToNat, decide_true, decide_false]
    refine cond_intro (fun h => ?_) (fun h => ?_)
    · simp -implicitDefEqProofs only [go_sem, Int.reduceEq, ↓reduceIte, Nat.reduceEqDiff, Nat.reduceAdd, Nat.reduceMul, Nat.reduceSub, Nat.reduceDiv, Nat.reduceLeDiff, Nat.reduceLT, Nat.reduceBEq, Nat.reduceBNe, reduceCtorEq, Int.reduceLE, Int.reduceLT, Int.reduceToNat, decide_true, decide_false, finK]
      unfold nsign; rw [if_neg h0, if_pos h]
    · simp -implicitDefEqProofs only [go_sem, Int.reduceEq, ↓reduceIte, Nat.reduceEqDiff, Nat.reduceAdd, Nat.reduceMul, Nat.reduceSub, Nat.reduceDiv, Nat.reduceLeDiff, Nat.reduceLT, Nat.reduceBEq, Nat.reduceBNe, reduceCtorEq, Int.reduceLE, Int.reduceLT, Int.reduceToNat, decide_true, decide_false, finK]
      unfold nsign; rw [if_neg h0, if_neg (by simp [h])]
/-- Small enough. -/
structure NOk (a : Nm) (k : Nat) : Prop where
  n : Bd a.n k
  lo : -1000000 ≤ a.e
  hi : a.e ≤ 1000000
set_option maxRecDepth 100000 in
theorem level_c (E : Nat → Option Value) {a b : Nm} {k : Nat} (ha : NOk a k) (hb : NOk b k) (hk : k ≤ 1000000) : DCall Tryd.prog E 94 [nmD a, nmD b] (.data (.tup [nmD ⟨a.neg, at_ a (lev a b), lev a b⟩, nmD ⟨b.neg, at_ b (lev a b), lev a b⟩])) := by
  refine dcall_of Tryd.func94 rfl (by kernel_rfl) Tryd.ntmps94 (by kernel_rfl) (by simp) (rs := [.cell 4 112, .cell 5 112]) rfl ?_
  rintro ⟨P, E, σ0, w0, base, n, kb⟩ rfl rfl rfl rfl
  obtain ⟨na, n, e⟩ := a
  obtain ⟨nb, m, f⟩ := b
  obtain ⟨h1, h2, h3⟩ := ha
  obtain ⟨g1, g2, g3⟩ := hb
  simp only at h1 h2 h3 g1 g2 g3
  simp -implicitDefEqProofs only [go_sem, Int.reduceEq, ↓reduceIte, Nat.reduceEqDiff, Nat.reduceAdd, Nat.reduceMul, Nat.reduceSub, Nat.reduceDiv, Nat.reduceLeDiff, Nat.reduceLT, Nat.reduceBEq, Nat.reduceBNe, reduceCtorEq, Int.reduceLE, Int.reduceLT, Int.reduceToNat, decide_true, decide_false]
  refine cond_intro (fun h => ?_) (fun h => ?_)
  · have h0 := of_decide_eq_true h
    have w : IntKind.i64.wrap (e - f) = ((e - f).toNat : Nat) := by rw [w64 (by omega)]; omega
    have e1 : lev ⟨na, n, e⟩ ⟨nb, m, f⟩ = f := by unfold lev; simp only; omega
    have e2 : at_ ⟨na, n, e⟩ f = n * 2 ^ (e - f).toNat := rfl
    have e3 : at_ ⟨nb, m, f⟩ f = m := by unfold at_; simp
    simp -implicitDefEqProofs only [go_sem, Int.reduceEq, ↓reduceIte, Nat.reduceEqDiff, Nat.reduceAdd, Nat.reduceMul, Nat.reduceSub, Nat.reduceDiv, Nat.reduceLeDiff, Nat.reduceLT, Nat.reduceBEq, Nat.reduceBNe, reduceCtorEq, Int.reduceLE, Int.reduceLT, Int.reduceToNat, decide_true, decide_false, w]
    refine Call.intro (up_c _ h1 (by omega) (by omega)) ?_
    simp -implicitDefEqProofs only [go_sem, Int.reduceEq, ↓reduceIte, Nat.reduceEqDiff, Nat.reduceAdd, Nat.reduceMul, Nat.reduceSub, Nat.reduceDiv, Nat.reduceLeDiff, Nat.reduceLT, Nat.reduceBEq, Nat.reduceBNe, reduceCtorEq, Int.reduceLE, Int.reduceLT, Int.reduceToNat, decide_true, decide_false]
    refine drawn_introD [(3, 4)] (by kernel_rfl) (by kernel_rfl) (by kernel_rfl) (by kernel_rfl) (fun pq hp => ?_) ?_
    · simp only [List.mem_singleton] at hp
      subst hp
      refine ⟨3, 4, ?_, ?_, by decide⟩
      · simp -implicitDefEqProofs only [go_sem, Int.reduceEq, ↓reduceIte, Nat.reduceEqDiff, Nat.reduceAdd, Nat.reduceMul, Nat.reduceSub, Nat.reduceDiv, Nat.reduceLeDiff, Nat.reduceLT, Nat.reduceBEq, Nat.reduceBNe, reduceCtorEq, Int.reduceLE, Int.reduceLT, Int.reduceToNat, decide_true, decide_false, T.ref]
      · simp -implicitDefEqProofs only [go_sem, Int.reduceEq, ↓reduceIte, Nat.reduceEqDiff, Nat.reduceAdd, Nat.reduceMul, Nat.reduceSub, Nat.reduceDiv, Nat.reduceLeDiff, Nat.reduceLT, Nat.reduceBEq, Nat.reduceBNe, reduceCtorEq, Int.reduceLE, Int.reduceLT, Int.reduceToNat, decide_true, decide_false, T.ref]
    simp -implicitDefEqProofs only [go_sem, Int.reduceEq, ↓reduceIte, Nat.reduceEqDiff, Nat.reduceAdd, Nat.reduceMul, Nat.reduceSub, Nat.reduceDiv, Nat.reduceLeDiff, Nat.reduceLT, Nat.reduceBEq, Nat.reduceBNe, reduceCtorEq, Int.reduceLE, Int.reduceLT, Int.reduceToNat, decide_true, decide_false]
    refine fin_many ?_
    simp -implicitDefEqProofs only [go_sem, Int.reduceEq, ↓reduceIte, Nat.reduceEqDiff, Nat.reduceAdd, Nat.reduceMul, Nat.reduceSub, Nat.reduceDiv, Nat.reduceLeDiff, Nat.reduceLT, Nat.reduceBEq, Nat.reduceBNe, reduceCtorEq, Int.reduceLE, Int.reduceLT, Int.reduceToNat, decide_true, decide_false, e1, e2, e3]
  · have h0 := of_decide_eq_false h
    have w : IntKind.i64.wrap (f - e) = ((f - e).toNat : Nat) := by rw [w64 (by omega)]; omega
    have e1 : lev ⟨na, n, e⟩ ⟨nb, m, f⟩ = e := by unfold lev; simp only; omega
    have e2 : at_ ⟨nb, m, f⟩ e = m * 2 ^ (f - e).toNat := rfl
    have e3 : at_ ⟨na, n, e⟩ e = n := by unfold at_; simp
    simp -implicitDefEqProofs only [go_sem, Int.reduceEq, ↓reduceIte, Nat.reduceEqDiff, Nat.reduceAdd, Nat.reduceMul, Nat.reduceSub, Nat.reduceDiv, Nat.reduceLeDiff, Nat.reduceLT, Nat.reduceBEq, Nat.reduceBNe, reduceCtorEq, Int.reduceLE, Int.reduceLT, Int.reduceToNat, decide_true, decide_false, w]
    refine Call.intro (up_c _ g1 (by omega) (by omega)) ?_
    simp -implicitDefEqProofs only [go_sem, Int.reduceEq, ↓reduceIte, Nat.reduceEqDiff, Nat.reduceAdd, Nat.reduceMul, Nat.reduceSub, Nat.reduceDiv, Nat.reduceLeDiff, Nat.reduceLT, Nat.reduceBEq, Nat.reduceBNe, reduceCtorEq, Int.reduceLE, Int.reduceLT, Int.reduceToNat, decide_true, decide_false]
    refine drawn_introD [(3, 4)] (by kernel_rfl) (by kernel_rfl) (by kernel_rfl) (by kernel_rfl) (fun pq hp => ?_) ?_
    · simp only [List.mem_singleton] at hp
      subst hp
      refine ⟨3, 4, ?_, ?_, by decide⟩
      · simp -implicitDefEqProofs only [go_sem, Int.reduceEq, ↓reduceIte, Nat.reduceEqDiff, Nat.reduceAdd, Nat.reduceMul, Nat.reduceSub, Nat.reduceDiv, Nat.reduceLeDiff, Nat.reduceLT, Nat.reduceBEq, Nat.reduceBNe, reduceCtorEq, Int.reduceLE, Int.reduceLT, Int.reduceToNat, decide_true, decide_false, T.ref]
      · simp -implicitDefEqProofs only [go_sem, Int.reduceEq, ↓reduceIte, Nat.reduceEqDiff, Nat.reduceAdd, Nat.reduceMul, Nat.reduceSub, Nat.reduceDiv, Nat.reduceLeDiff, Nat.reduceLT, Nat.reduceBEq, Nat.reduceBNe, reduceCtorEq, Int.reduceLE, Int.reduceLT, Int.reduceToNat, decide_true, decide_false, T.ref]
    simp -implicitDefEqProofs only [go_sem, Int.reduceEq, ↓reduceIte, Nat.reduceEqDiff, Nat.reduceAdd, Nat.reduceMul, Nat.reduceSub, Nat.reduceDiv, Nat.reduceLeDiff, Nat.reduceLT, Nat.reduceBEq, Nat.reduceBNe, reduceCtorEq, Int.reduceLE, Int.reduceLT, Int.reduceToNat, decide_true, decide_false]
    refine fin_many ?_
    simp -implicitDefEqProofs only [go_sem, Int.reduceEq, ↓reduceIte, Nat.reduceEqDiff, Nat.reduceAdd, Nat.reduceMul, Nat.reduceSub, Nat.reduceDiv, Nat.reduceLeDiff, Nat.reduceLT, Nat.reduceBEq, Nat.reduceBNe, reduceCtorEq, Int.reduceLE, Int.reduceLT, Int.reduceToNat, decide_true, decide_false, e1, e2, e3]

theorem NOk.mono {a : Nm} {k j : Nat} (h : NOk a k) (hj : k ≤ j) : NOk a j := ⟨h.n.mono hj, h.lo, h.hi⟩
theorem NOk.at {a b : Nm} {k : Nat} (ha : NOk a k) (hb : NOk b k) : Bd (at_ a (lev a b)) (k + 2000000) ∧ Bd (at_ b (lev a b)) (k + 2000000) := by
  have h1 := ha.lo; have h2 := ha.hi; have h3 := hb.lo; have h4 := hb.hi
  have e : lev a b ≤ a.e ∧ lev a b ≤ b.e ∧ -1000000 ≤ lev a b := by unfold lev; omega
  exact ⟨(ha.n.up).mono (by omega), (hb.n.up).mono (by omega)⟩
theorem NOk.neg {a : Nm} {k : Nat} (h : NOk a k) : NOk (nneg a) k := ⟨h.n, h.lo, h.hi⟩
theorem NOk.sum {a b : Nm} {k : Nat} (ha : NOk a k) (hb : NOk b k) : NOk (nsum a b) (k + 2000001) := by
  obtain ⟨h1, h2⟩ := ha.at hb
  have g1 := ha.lo; have g2 := ha.hi; have g3 := hb.lo; have g4 := hb.hi
  have e : -1000000 ≤ lev a b ∧ lev a b ≤ 1000000 := by unfold lev; omega
  unfold nsum
  simp only
  split
  · exact ⟨h1.add h2, e.1, e.2⟩
  · split
    · exact ⟨Nat.pow_pos (by decide), by decide, by decide⟩
    · split
      · exact ⟨(h1.mono (by omega)).le (Nat.sub_le _ _), e.1, e.2⟩
      · exact ⟨(h2.mono (by omega)).le (Nat.sub_le _ _), e.1, e.2⟩
/-- A number's zero value. -/
abbrev zD : D := .agg [bD false, .v (.slice none 0 0), intD 0]
theorem zD_weak {σ : Mem} {u : Value} (h : Rep σ zD u) : Rep σ (nmD nzero) u := by
  simp only [Rep, RepU] at h ⊢
  obtain ⟨us, rfl, u1, r1, e1, o1, rfl, u2, r2, e2, o2, rfl, u3, r3, e3, o3, rfl, rfl⟩ := h
  refine ⟨us, rfl, _, _, e1, o1, rfl, _, _, e2, o2, .inl ⟨rfl, ?_⟩, _, _, e3, o3, rfl, rfl⟩
  rw [show (nzero).n = 0 from rfl, dg_zero]; rfl
set_option maxRecDepth 100000 in
theorem sum_z (E : Nat → Option Value) {a b : Nm} {k : Nat} (ha : NOk a k) (hb : NOk b k) (hk : k ≤ 1000000) (h0 : a.neg ≠ b.neg) (h3 : at_ a (lev a b) = at_ b (lev a b)) : DCall Tryd.prog E 82 [nmD a, nmD b] (.data zD) := by
  refine dcall_of Tryd.func82 rfl (by kernel_rfl) Tryd.ntmps82 (by kernel_rfl) (by simp) (rs := [.cell 4 112]) rfl ?_
  rintro ⟨P, E, σ0, w0, base, n, kb⟩ rfl rfl rfl rfl
  have hl := level_c E ha hb hk
  obtain ⟨h1, h2⟩ := ha.at hb
  generalize at_ a (lev a b) = x at *
  generalize at_ b (lev a b) = y at *
  generalize lev a b = e at *
  obtain ⟨na, n, ea⟩ := a
  obtain ⟨nb, m, eb⟩ := b
  simp -implicitDefEqProofs only [go_sem, Int.reduceEq, ↓reduceIte, Nat.reduceEqDiff, Nat.reduceAdd, Nat.reduceMul, Nat.reduceSub, Nat.reduceDiv, Nat.reduceLeDiff, Nat.reduceLT, Nat.reduceBEq, Nat.reduceBNe, reduceCtorEq, Int.reduceLE, Int.reduceLT, Int.reduceToNat, decide_true, decide_false]
  refine Call.intro hl ?_
  simp -implicitDefEqProofs only [go_sem, Int.reduceEq, ↓reduceIte, Nat.reduceEqDiff, Nat.reduceAdd, Nat.reduceMul, Nat.reduceSub, Nat.reduceDiv, Nat.reduceLeDiff, Nat.reduceLT, Nat.reduceBEq, Nat.reduceBNe, reduceCtorEq, Int.reduceLE, Int.reduceLT, Int.reduceToNat, decide_true, decide_false]
  refine cond_intro (fun h => ?_) (fun h => ?_)
  · exact absurd (by simpa using h) h0
  · simp -implicitDefEqProofs only [go_sem, Int.reduceEq, ↓reduceIte, Nat.reduceEqDiff, Nat.reduceAdd, Nat.reduceMul, Nat.reduceSub, Nat.reduceDiv, Nat.reduceLeDiff, Nat.reduceLT, Nat.reduceBEq, Nat.reduceBNe, reduceCtorEq, Int.reduceLE, Int.reduceLT, Int.reduceToNat, decide_true, decide_false]
    refine Call.intro (cmp_c _ (h1.sm (by omega)) (h2.sm (by omega))) ?_
    have hc : cmpI x y = 0 := (cmpI_spec x y).2.1.2 h3
    simp -implicitDefEqProofs only [go_sem, Int.reduceEq, ↓reduceIte, Nat.reduceEqDiff, Nat.reduceAdd, Nat.reduceMul, Nat.reduceSub, Nat.reduceDiv, Nat.reduceLeDiff, Nat.reduceLT, Nat.reduceBEq, Nat.reduceBNe, reduceCtorEq, Int.reduceLE, Int.reduceLT, Int.reduceToNat, decide_true, decide_false, hc]
    refine cond_intro (fun h => ?_) (fun h => ?_)
    · simp -implicitDefEqProofs only [go_sem, Int.reduceEq, ↓reduceIte, Nat.reduceEqDiff, Nat.reduceAdd, Nat.reduceMul, Nat.reduceSub, Nat.reduceDiv, Nat.reduceLeDiff, Nat.reduceLT, Nat.reduceBEq, Nat.reduceBNe, reduceCtorEq, Int.reduceLE, Int.reduceLT, Int.reduceToNat, decide_true, decide_false]
    · simp at h
set_option maxRecDepth 100000 in
theorem sum_c (E : Nat → Option Value) {a b : Nm} {k : Nat} (ha : NOk a k) (hb : NOk b k) (hk : k ≤ 1000000) : DCall Tryd.prog E 82 [nmD a, nmD b] (.data (nmD (nsum a b))) := by
  by_cases hz : a.neg ≠ b.neg ∧ at_ a (lev a b) = at_ b (lev a b)
  · have e : nsum a b = nzero := by unfold nsum; simp only; rw [if_neg hz.1, if_pos hz.2]
    rw [e]
    exact (sum_z E ha hb hk hz.1 hz.2).weak fun σ u h => zD_weak h
  refine dcall_of Tryd.func82 rfl (by kernel_rfl) Tryd.ntmps82 (by kernel_rfl) (by simp) (rs := [.cell 4 112]) rfl ?_
  rintro ⟨P, E, σ0, w0, base, n, kb⟩ rfl rfl rfl rfl
  have hl := level_c E ha hb hk
  obtain ⟨h1, h2⟩ := ha.at hb
  have hS : nsum a b = if a.neg = b.neg then ⟨a.neg, at_ a (lev a b) + at_ b (lev a b), lev a b⟩ else if at_ a (lev a b) = at_ b (lev a b) then nzero else if at_ b (lev a b) < at_ a (lev a b) then ⟨a.neg, at_ a (lev a b) - at_ b (lev a b), lev a b⟩ else ⟨b.neg, at_ b (lev a b) - at_ a (lev a b), lev a b⟩ := rfl
  rw [hS]
  generalize at_ a (lev a b) = x at *
  generalize at_ b (lev a b) = y at *
  generalize lev a b = e at *
  obtain ⟨na, n, ea⟩ := a
  obtain ⟨nb, m, eb⟩ := b
  simp -implicitDefEqProofs only [go_sem, Int.reduceEq, ↓reduceIte, Nat.reduceEqDiff, Nat.reduceAdd, Nat.reduceMul, Nat.reduceSub, Nat.reduceDiv, Nat.reduceLeDiff, Nat.reduceLT, Nat.reduceBEq, Nat.reduceBNe, reduceCtorEq, Int.reduceLE, Int.reduceLT, Int.reduceToNat, decide_true, decide_false]
  refine Call.intro hl ?_
  simp -implicitDefEqProofs only [go_sem, Int.reduceEq, ↓reduceIte, Nat.reduceEqDiff, Nat.reduceAdd, Nat.reduceMul, Nat.reduceSub, Nat.reduceDiv, Nat.reduceLeDiff, Nat.reduceLT, Nat.reduceBEq, Nat.reduceBNe, reduceCtorEq, Int.reduceLE, Int.reduceLT, Int.reduceToNat, decide_true, decide_false]
  refine cond_intro (fun h => ?_) (fun h => ?_)
  · have h0 : na = nb := by simpa using h
    simp -implicitDefEqProofs only [go_sem, Int.reduceEq, ↓reduceIte, Nat.reduceEqDiff, Nat.reduceAdd, Nat.reduceMul, Nat.reduceSub, Nat.reduceDiv, Nat.reduceLeDiff, Nat.reduceLT, Nat.reduceBEq, Nat.reduceBNe, reduceCtorEq, Int.reduceLE, Int.reduceLT, Int.reduceToNat, decide_true, decide_false]
    refine drawn_intro (by kernel_rfl) (by kernel_rfl) (by kernel_rfl) ?_
    simp -implicitDefEqProofs only [go_sem, Int.reduceEq, ↓reduceIte, Nat.reduceEqDiff, Nat.reduceAdd, Nat.reduceMul, Nat.reduceSub, Nat.reduceDiv, Nat.reduceLeDiff, Nat.reduceLT, Nat.reduceBEq, Nat.reduceBNe, reduceCtorEq, Int.reduceLE, Int.reduceLT, Int.reduceToNat, decide_true, decide_false]
    refine Call.intro (plus_c _ (h1.sm (by omega)) (h2.sm (by omega))) ?_
    simp -implicitDefEqProofs only [go_sem, Int.reduceEq, ↓reduceIte, Nat.reduceEqDiff, Nat.reduceAdd, Nat.reduceMul, Nat.reduceSub, Nat.reduceDiv, Nat.reduceLeDiff, Nat.reduceLT, Nat.reduceBEq, Nat.reduceBNe, reduceCtorEq, Int.reduceLE, Int.reduceLT, Int.reduceToNat, decide_true, decide_false]
    rw [if_pos h0]
  · have h0 : na ≠ nb := by simpa using h
    simp -implicitDefEqProofs only [go_sem, Int.reduceEq, ↓reduceIte, Nat.reduceEqDiff, Nat.reduceAdd, Nat.reduceMul, Nat.reduceSub, Nat.reduceDiv, Nat.reduceLeDiff, Nat.reduceLT, Nat.reduceBEq, Nat.reduceBNe, reduceCtorEq, Int.reduceLE, Int.reduceLT, Int.reduceToNat, decide_true, decide_false]
    refine Call.intro (cmp_c _ (h1.sm (by omega)) (h2.sm (by omega))) ?_
    simp -implicitDefEqProofs only [go_sem, Int.reduceEq, ↓reduceIte, Nat.reduceEqDiff, Nat.reduceAdd, Nat.reduceMul, Nat.reduceSub, Nat.reduceDiv, Nat.reduceLeDiff, Nat.reduceLT, Nat.reduceBEq, Nat.reduceBNe, reduceCtorEq, Int.reduceLE, Int.reduceLT, Int.reduceToNat, decide_true, decide_false]
    rw [if_neg h0]
    obtain ⟨c1, c2, c3⟩ := cmpI_spec x y
    refine cond_intro (fun h => ?_) (fun h => ?_)
    · have h3 : x = y := c2.1 (by simpa using h)
      exact absurd ⟨h0, h3⟩ hz
    · have h3 : x ≠ y := fun q => by have := c2.2 q; simp [this] at h
      simp -implicitDefEqProofs only [go_sem, Int.reduceEq, ↓reduceIte, Nat.reduceEqDiff, Nat.reduceAdd, Nat.reduceMul, Nat.reduceSub, Nat.reduceDiv, Nat.reduceLeDiff, Nat.reduceLT, Nat.reduceBEq, Nat.reduceBNe, reduceCtorEq, Int.reduceLE, Int.reduceLT, Int.reduceToNat, decide_true, decide_false]
      rw [if_neg h3]
      refine cond_intro (fun h => ?_) (fun h => ?_)
      · have h4 : y < x := c3.1 (of_decide_eq_true h)
        simp -implicitDefEqProofs only [go_sem, Int.reduceEq, ↓reduceIte, Nat.reduceEqDiff, Nat.reduceAdd, Nat.reduceMul, Nat.reduceSub, Nat.reduceDiv, Nat.reduceLeDiff, Nat.reduceLT, Nat.reduceBEq, Nat.reduceBNe, reduceCtorEq, Int.reduceLE, Int.reduceLT, Int.reduceToNat, decide_true, decide_false]
        refine drawn_intro (by kernel_rfl) (by kernel_rfl) (by kernel_rfl) ?_
        simp -implicitDefEqProofs only [go_sem, Int.reduceEq, ↓reduceIte, Nat.reduceEqDiff, Nat.reduceAdd, Nat.reduceMul, Nat.reduceSub, Nat.reduceDiv, Nat.reduceLeDiff, Nat.reduceLT, Nat.reduceBEq, Nat.reduceBNe, reduceCtorEq, Int.reduceLE, Int.reduceLT, Int.reduceToNat, decide_true, decide_false]
        refine Call.intro (minus_c _ (h1.sm (by omega)) (Nat.le_of_lt h4)) ?_
        simp -implicitDefEqProofs only [go_sem, Int.reduceEq, ↓reduceIte, Nat.reduceEqDiff, Nat.reduceAdd, Nat.reduceMul, Nat.reduceSub, Nat.reduceDiv, Nat.reduceLeDiff, Nat.reduceLT, Nat.reduceBEq, Nat.reduceBNe, reduceCtorEq, Int.reduceLE, Int.reduceLT, Int.reduceToNat, decide_true, decide_false]
        rw [if_pos h4]
      · have h4 : ¬ y < x := fun q => of_decide_eq_false h (c3.2 q)
        simp -implicitDefEqProofs only [go_sem, Int.reduceEq, ↓reduceIte, Nat.reduceEqDiff, Nat.reduceAdd, Nat.reduceMul, Nat.reduceSub, Nat.reduceDiv, Nat.reduceLeDiff, Nat.reduceLT, Nat.reduceBEq, Nat.reduceBNe, reduceCtorEq, Int.reduceLE, Int.reduceLT, Int.reduceToNat, decide_true, decide_false]
        refine drawn_intro (by kernel_rfl) (by kernel_rfl) (by kernel_rfl) ?_
        simp -implicitDefEqProofs only [go_sem, Int.reduceEq, ↓reduceIte, Nat.reduceEqDiff, Nat.reduceAdd, Nat.reduceMul, Nat.reduceSub, Nat.reduceDiv, Nat.reduceLeDiff, Nat.reduceLT, Nat.reduceBEq, Nat.reduceBNe, reduceCtorEq, Int.reduceLE, Int.reduceLT, Int.reduceToNat, decide_true, decide_false]
        refine Call.intro (minus_c _ (h2.sm (by omega)) (by omega)) ?_
        simp -implicitDefEqProofs only [go_sem, Int.reduceEq, ↓reduceIte, Nat.reduceEqDiff, Nat.reduceAdd, Nat.reduceMul, Nat.reduceSub, Nat.reduceDiv, Nat.reduceLeDiff, Nat.reduceLT, Nat.reduceBEq, Nat.reduceBNe, reduceCtorEq, Int.reduceLE, Int.reduceLT, Int.reduceToNat, decide_true, decide_false]
        rw [if_neg h4]
set_option maxRecDepth 100000 in
theorem less_c (E : Nat → Option Value) {a b : Nm} {k : Nat} (ha : NOk a k) (hb : NOk b k) (hk : k ≤ 1000000) : DCall Tryd.prog E 59 [nmD a, nmD b] (.data (bD (nless a b))) := by
  refine dcall_of Tryd.func59 rfl (by kernel_rfl) Tryd.ntmps59 (by kernel_rfl) (by simp) (rs := [.tmp 4]) rfl ?_
  rintro ⟨P, E, σ0, w0, base, n, kb⟩ rfl rfl rfl rfl
  have hn := negated_c E b
  have hs := sum_c E ha hb.neg hk
  have hg := sign_c E (nsum a (nneg b))
  have hL : nless a b = decide (nsign (nsum a (nneg b)) < 0) := rfl
  rw [hL]
  generalize nsum a (nneg b) = d at *
  generalize nneg b = c at *
  simp -implicitDefEqProofs only [go_sem, Int.reduceEq, ↓reduceIte, Nat.reduceEqDiff, Nat.reduceAdd, Nat.reduceMul, Nat.reduceSub, Nat.reduceDiv, Nat.reduceLeDiff, Nat.reduceLT, Nat.reduceBEq, Nat.reduceBNe, reduceCtorEq, Int.reduceLE, Int.reduceLT, Int.reduceToNat, decide_true, decide_false]
  refine Call.intro hn ?_
  simp -implicitDefEqProofs only [go_sem, Int.reduceEq, ↓reduceIte, Nat.reduceEqDiff, Nat.reduceAdd, Nat.reduceMul, Nat.reduceSub, Nat.reduceDiv, Nat.reduceLeDiff, Nat.reduceLT, Nat.reduceBEq, Nat.reduceBNe, reduceCtorEq, Int.reduceLE, Int.reduceLT, Int.reduceToNat, decide_true, decide_false]
  refine Call.intro hs ?_
  simp -implicitDefEqProofs only [go_sem, Int.reduceEq, ↓reduceIte, Nat.reduceEqDiff, Nat.reduceAdd, Nat.reduceMul, Nat.reduceSub, Nat.reduceDiv, Nat.reduceLeDiff, Nat.reduceLT, Nat.reduceBEq, Nat.reduceBNe, reduceCtorEq, Int.reduceLE, Int.reduceLT, Int.reduceToNat, decide_true, decide_false]
  refine Call.intro hg ?_
  simp -implicitDefEqProofs only [go_sem, Int.reduceEq, ↓reduceIte, Nat.reduceEqDiff, Nat.reduceAdd, Nat.reduceMul, Nat.reduceSub, Nat.reduceDiv, Nat.reduceLeDiff, Nat.reduceLT, Nat.reduceBEq, Nat.reduceBNe, reduceCtorEq, Int.reduceLE, Int.reduceLT, Int.reduceToNat, decide_true, decide_false, finK]
theorem u64eq (n m : Nat) : (((n : Int) == (m : Int)) : Bool) = decide (n = m) := by
  rw [Bool.eq_iff_iff, beq_iff_eq, decide_eq_true_eq]; omega
def posB (b : Nat) : Nat := if b = 9223372036854775808 then 0 else b
set_option maxRecDepth 100000 in
theorem positive_c (E : Nat → Option Value) (b : Nat) : DCall Tryd.prog E 78 [.v (.int .u64 b)] (.data (.v (.int .u64 (posB b)))) := by
  refine dcall_of Tryd.func78 rfl (by kernel_rfl) Tryd.ntmps78 (by kernel_rfl) (by simp) (rs := [.tmp 2]) rfl ?_
  rintro ⟨P, E, σ0, w0, base, n, kb⟩ rfl rfl rfl rfl
  simp -implicitDefEqProofs only [go_sem, Int.reduceEq, ↓reduceIte, Nat.reduceEqDiff, Nat.reduceAdd, Nat.reduceMul, Nat.reduceSub, Nat.reduceDiv, Nat.reduceLeDiff, Nat.reduceLT, Nat.reduceBEq, Nat.reduceBNe, reduceCtorEq, Int.reduceLE, Int.reduceLT, Int.reduceToNat, decide_true, decide_false]
  refine cond_intro (fun h => ?_) (fun h => ?_)
  · have : b = 9223372036854775808 := by have := beq_iff_eq.1 h; omega
    simp -implicitDefEqProofs only [go_sem, Int.reduceEq, ↓reduceIte, Nat.reduceEqDiff, Nat.reduceAdd, Nat.reduceMul, Nat.reduceSub, Nat.reduceDiv, Nat.reduceLeDiff, Nat.reduceLT, Nat.reduceBEq, Nat.reduceBNe, reduceCtorEq, Int.reduceLE, Int.reduceLT, Int.reduceToNat, decide_true, decide_false, finK]
    unfold posB; rw [if_pos this]; rfl
  · have : b ≠ 9223372036854775808 := by have := beq_eq_false_iff_ne.1 h; omega
    simp -implicitDefEqProofs only [go_sem, Int.reduceEq, ↓reduceIte, Nat.reduceEqDiff, Nat.reduceAdd, Nat.reduceMul, Nat.reduceSub, Nat.reduceDiv, Nat.reduceLeDiff, Nat.reduceLT, Nat.reduceBEq, Nat.reduceBNe, reduceCtorEq, Int.reduceLE, Int.reduceLT, Int.reduceToNat, decide_true, decide_false, finK]
    unfold posB; rw [if_neg this]
end Go.Enc
