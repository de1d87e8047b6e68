/-
  Natural numbers by their digits: products.
-/
import Derived.Test.YtjlibljfpkmpfaaDoorNat2
set_option linter.unusedSimpArgs false
namespace Go.Enc
open Go.Proofs Go.Enc.Dg

theorem digT_zeros (n : Nat) : List.replicate n (T.d (D.v (Value.int IntKind.i64 0))) = digT (List.replicate n 0) := by
  simp [digT, dD]
theorem digT_set' (l : List Nat) (k x : Nat) : (digT l).set k (T.d (D.v (Value.int IntKind.i64 (x : Int)))) = digT (l.set k x) := digT_set l k x
theorem times_step {l : List Nat} {k z c m n : Nat} {V W : Nat} (hl : Dig l) (hz : l[k]? = some z) (hv : vl l + c * B ^ k = V) (hn : n = z + c + m) (hW : V + B ^ k * m = W) :
    Dig (l.set k (n % 16777216)) ∧ vl (l.set k (n % 16777216)) + (n / 16777216) * B ^ (k + 1) = W := by
  refine ⟨hl.set (Nat.mod_lt _ (by decide)), ?_⟩
  have h1 := vl_set l k z (n % 16777216) hz
  have h2 : n % 16777216 + B * (n / 16777216) = n := Nat.mod_add_div _ _
  have h3 := congrArg (fun q => B ^ k * q) h2
  simp only [Nat.mul_add] at h3
  rw [Nat.pow_succ, show n / 16777216 * (B ^ k * B) = B ^ k * (B * (n / 16777216)) by rw [Nat.mul_comm, Nat.mul_assoc]]
  rw [Nat.mul_comm c] at hv
  have h4 : B ^ k * n = B ^ k * z + B ^ k * c + B ^ k * m := by rw [hn, Nat.mul_add, Nat.mul_add]
  omega
theorem mulN {x y : Nat} (hx : x < 16777216) (hy : y < 16777216) : IntKind.i64.wrap ((x : Int) * (y : Int)) = ((x * y : Nat) : Int) ∧ x * y ≤ 281474943156225 := by
  have h : x * y ≤ 16777215 * 16777215 := Nat.mul_le_mul (by omega) (by omega)
  have e : ((x : Int) * (y : Int)) = ((x * y : Nat) : Int) := by rw [Int.natCast_mul]
  rw [e]
  exact ⟨w64 (by omega), by omega⟩

set_option maxRecDepth 100000 in
@[go_sem] theorem makeT_ints (E : Nat → Option Value) (σ0 : Mem) (w0 : World) (base nt kb : Nat) (s : St) (d : Nat) (n : Int) (K : St → Prop) : makeT ⟨Tryd.prog, E, σ0, w0, base, nt, kb⟩ s d 39 (.d (.v (.int .i64 n))) (.d (.v (.int .i64 n))) K =
    (0 ≤ n ∧ n.toNat * 8 ≤ 281474976710656 ∧ n.toNat ≤ maxLen ∧ s.h (kb + d) = none ∧ K (s.row kb d ⟨some (3, 1, false), List.replicate n.toNat (.d (.v (.int .i64 0)))⟩)) := by
  have h : slT Tryd.prog 39 = some (3, 1, 8, [.int .i64 0]) := by kernel_rfl
  simp only [makeT, h, Nat.mul_one, true_and]
  have : allEq (Value.int .i64 0) [Value.int .i64 0] = true := by decide
  simp only [this, true_and]
set_option maxRecDepth 100000 in
theorem times_c (E : Nat → Option Value) {a b : Nat} (ha : Sm (dg a)) (hb : Sm (dg b)) : DCall Tryd.prog E 102 [natD a, natD b] (.data (natD (a * b))) := by
  refine dcall_of Tryd.func102 rfl (by kernel_rfl) Tryd.ntmps102 (by kernel_rfl) (by simp) (rs := [.tmp 4]) rfl ?_
  rintro ⟨P, E, σ0, w0, base, n, kb⟩ rfl rfl rfl rfl
  obtain ⟨la, hla⟩ : ∃ la, dg a = la := ⟨_, rfl⟩
  obtain ⟨lb, hlb⟩ : ∃ lb, dg b = lb := ⟨_, rfl⟩
  have hda := dig_dg a
  have hdb := dig_dg b
  have hva := vl_dg a
  have hvb := vl_dg b
  have hltb := dg_lt b
  unfold Sm at ha hb
  rw [hla] at ha hda hva
  rw [hlb] at hb hdb hvb hltb
  have hmax : maxLen = 9223372036854775807 := by decide
  simp  -implicitDefEqProofs (disch := first | omega | decide) only [go_sem, Int.reduceEq, ↓reduceIte, Nat.reduceEqDiff, Nat.reduceAdd, Nat.reduceMul, Nat.reduceSub, Nat.reduceDiv, Nat.reduceLeDiff, Nat.reduceLT, Nat.reduceBEq, Nat.reduceBNe, reduceCtorEq, Int.reduceLE, Int.reduceLT, Int.reduceToNat, decide_true, decide_false, hla, hlb, addN, digT_zeros]
  refine ⟨by omega, by omega, ?_⟩
  rw [stop_eq]
  refine dwp_loop (α := {p : Nat × List Nat // Dig p.2 ∧ p.2.length = la.length + lb.length ∧ vl p.2 = vl (la.take p.1) * b ∧ p.1 ≤ la.length})
    (fun p => St.of [(0, .d (digD la)), (1, .d (digD lb)), (5, .gs 15), (6, .d (intD p.1.1))] [(15, ⟨some (3, 1, false), digT p.1.2⟩)]) (fun p => la.length - p.1.1)
    ⟨(0, List.replicate (la.length + lb.length) 0), dig_zeros _, by simp, by simp [vl_zeros, vl], by simp⟩ (weak_of ?_ ?_ (by simp [refsOk, digT_refs, refIn, T.ref])) (by kernel_rfl) (fun p => ?_)
  · simp -implicitDefEqProofs only [go_sem, Int.reduceEq, ↓reduceIte, Nat.reduceEqDiff, Nat.reduceAdd, Nat.reduceMul, Nat.reduceSub, Nat.reduceDiv, Nat.reduceLeDiff, Nat.reduceLT, Nat.reduceBEq, Nat.reduceBNe, reduceCtorEq, Int.reduceLE, Int.reduceLT, Int.reduceToNat, decide_true, decide_false, hla, hlb]
  · simp -implicitDefEqProofs only [go_sem, Int.reduceEq, ↓reduceIte, Nat.reduceEqDiff, Nat.reduceAdd, Nat.reduceMul, Nat.reduceSub, Nat.reduceDiv, Nat.reduceLeDiff, Nat.reduceLT, Nat.reduceBEq, Nat.reduceBNe, reduceCtorEq, Int.reduceLE, Int.reduceLT, Int.reduceToNat, decide_true, decide_false, digT_zeros]
  · obtain ⟨⟨i, l⟩, hl, hlen, hv, hm⟩ := p
    simp only at hl hlen hv hm
    by_cases hA : i < la.length
    · obtain ⟨x, hx⟩ := get_of_lt hA
      have hx2 : x < 16777216 := hda.get hx
      have eA : decide ((i : Int) < (la.length : Int)) = true := tD (by omega)
      simp -implicitDefEqProofs only [go_sem, Int.reduceEq, ↓reduceIte, Nat.reduceEqDiff, Nat.reduceAdd, Nat.reduceMul, Nat.reduceSub, Nat.reduceDiv, Nat.reduceLeDiff, Nat.reduceLT, Nat.reduceBEq, Nat.reduceBNe, reduceCtorEq, Int.reduceLE, Int.reduceLT, Int.reduceToNat, decide_true, decide_false, eA]
      rw [stop_eq]
      refine dwp_loop (α := {p : Nat × Nat × List Nat // Dig p.2.2 ∧ p.2.2.length = la.length + lb.length ∧ p.2.1 < 16777216 ∧ vl p.2.2 + p.2.1 * B ^ (i + p.1) = vl (la.take i) * b + B ^ i * x * vl (lb.take p.1) ∧ p.1 ≤ lb.length + 1})
        (fun p => St.of [(0, .d (digD la)), (1, .d (digD lb)), (5, .gs 15), (6, .d (intD i)), (7, .d (intD p.1.2.1)), (8, .d (intD p.1.1))] [(15, ⟨some (3, 1, false), digT p.1.2.2⟩)]) (fun p => lb.length + 1 - p.1.1)
        ⟨(0, 0, l), hl, hlen, by simp, by simp [vl]; omega, by simp⟩ (weak_of ?_ ?_ (by simp [refsOk, digT_refs, refIn, T.ref])) (by kernel_rfl) (fun p => ?_)
      · simp -implicitDefEqProofs only [go_sem, Int.reduceEq, ↓reduceIte, Nat.reduceEqDiff, Nat.reduceAdd, Nat.reduceMul, Nat.reduceSub, Nat.reduceDiv, Nat.reduceLeDiff, Nat.reduceLT, Nat.reduceBEq, Nat.reduceBNe, reduceCtorEq, Int.reduceLE, Int.reduceLT, Int.reduceToNat, decide_true, decide_false]
      · simp -implicitDefEqProofs only [go_sem, Int.reduceEq, ↓reduceIte, Nat.reduceEqDiff, Nat.reduceAdd, Nat.reduceMul, Nat.reduceSub, Nat.reduceDiv, Nat.reduceLeDiff, Nat.reduceLT, Nat.reduceBEq, Nat.reduceBNe, reduceCtorEq, Int.reduceLE, Int.reduceLT, Int.reduceToNat, decide_true, decide_false]
      · obtain ⟨⟨j, c, l⟩, hl, hlen, hc, hv, hj⟩ := p
        simp only at hl hlen hc hv hj
        by_cases hB : j < lb.length
        · obtain ⟨y, hy⟩ := get_of_lt hB
          have hy2 : y < 16777216 := hdb.get hy
          have eB : decide ((j : Int) < (lb.length : Int)) = true := tD (by omega)
          obtain ⟨z, hz⟩ := get_of_lt (l := l) (i := i + j) (by omega)
          have hz2 : z < 16777216 := hl.get hz
          have hzl : i + j < l.length := lt_of_get hz
          obtain ⟨m1, m2⟩ := mulN hx2 hy2
          simp  -implicitDefEqProofs (disch := first | omega | decide) only [go_sem, Int.reduceEq, ↓reduceIte, Nat.reduceEqDiff, Nat.reduceAdd, Nat.reduceMul, Nat.reduceSub, Nat.reduceDiv, Nat.reduceLeDiff, Nat.reduceLT, Nat.reduceBEq, Nat.reduceBNe, reduceCtorEq, Int.reduceLE, Int.reduceLT, Int.reduceToNat, decide_true, decide_false, eB, addN, hzl, digT_get hz, dD]
          refine drawn_intro (by kernel_rfl) (by kernel_rfl) (by kernel_rfl) ?_
          simp  -implicitDefEqProofs (disch := first | omega | decide) only [go_sem, Int.reduceEq, ↓reduceIte, Nat.reduceEqDiff, Nat.reduceAdd, Nat.reduceMul, Nat.reduceSub, Nat.reduceDiv, Nat.reduceLeDiff, Nat.reduceLT, Nat.reduceBEq, Nat.reduceBNe, reduceCtorEq, Int.reduceLE, Int.reduceLT, Int.reduceToNat, decide_true, decide_false, hA, hB, dD_get hx, dD_get hy, dD, m1, addN, addN1, modB, divB, hzl]
          refine ⟨by omega, ?_⟩
          obtain ⟨g1, g2⟩ := times_step (m := x * y) hl hz hv rfl (W := vl (la.take i) * b + B ^ i * x * vl (lb.take (j + 1))) (by
            rw [vl_take hy, Nat.mul_add, Nat.pow_add, Nat.add_assoc]
            congr 2
            rw [Nat.mul_assoc, Nat.mul_assoc]
            congr 1
            rw [← Nat.mul_assoc, ← Nat.mul_assoc, Nat.mul_comm x])
          refine ⟨⟨(j + 1, (z + c + x * y) / 16777216, l.set (i + j) ((z + c + x * y) % 16777216)), g1, by simp [hlen], ?_, g2, by simp only; omega⟩, weak_of ?_ ?_ (by simp [refsOk, digT_refs, refIn, T.ref]), by simp only; omega⟩
          · simp only; omega
          · simp -implicitDefEqProofs only [go_sem, Int.reduceEq, ↓reduceIte, Nat.reduceEqDiff, Nat.reduceAdd, Nat.reduceMul, Nat.reduceSub, Nat.reduceDiv, Nat.reduceLeDiff, Nat.reduceLT, Nat.reduceBEq, Nat.reduceBNe, reduceCtorEq, Int.reduceLE, Int.reduceLT, Int.reduceToNat, decide_true, decide_false]
          · simp -implicitDefEqProofs only [go_sem, Int.reduceEq, ↓reduceIte, Nat.reduceEqDiff, Nat.reduceAdd, Nat.reduceMul, Nat.reduceSub, Nat.reduceDiv, Nat.reduceLeDiff, Nat.reduceLT, Nat.reduceBEq, Nat.reduceBNe, reduceCtorEq, Int.reduceLE, Int.reduceLT, Int.reduceToNat, decide_true, decide_false, digT_set']
        · have eB : decide ((j : Int) < (lb.length : Int)) = false := fD (by omega)
          by_cases hC : c = 0
          · have eC : decide ((c : Int) > 0) = false := fD (by omega)
            simp  -implicitDefEqProofs (disch := first | omega | decide) only [go_sem, Int.reduceEq, ↓reduceIte, Nat.reduceEqDiff, Nat.reduceAdd, Nat.reduceMul, Nat.reduceSub, Nat.reduceDiv, Nat.reduceLeDiff, Nat.reduceLT, Nat.reduceBEq, Nat.reduceBNe, reduceCtorEq, Int.reduceLE, Int.reduceLT, Int.reduceToNat, decide_true, decide_false, eB, eC, addN1]
            refine ⟨⟨(i + 1, l), hl, hlen, ?_, by simp only; omega⟩, weak_of ?_ ?_ (by simp [refsOk, digT_refs, refIn, T.ref]), by simp only; omega⟩
            · simp only
              rw [vl_take_ge (l := lb) (by omega), hvb, hC] at hv
              rw [vl_take hx, Nat.add_mul, ← hv]; omega
            · simp -implicitDefEqProofs only [go_sem, Int.reduceEq, ↓reduceIte, Nat.reduceEqDiff, Nat.reduceAdd, Nat.reduceMul, Nat.reduceSub, Nat.reduceDiv, Nat.reduceLeDiff, Nat.reduceLT, Nat.reduceBEq, Nat.reduceBNe, reduceCtorEq, Int.reduceLE, Int.reduceLT, Int.reduceToNat, decide_true, decide_false]
            · simp -implicitDefEqProofs only [go_sem, Int.reduceEq, ↓reduceIte, Nat.reduceEqDiff, Nat.reduceAdd, Nat.reduceMul, Nat.reduceSub, Nat.reduceDiv, Nat.reduceLeDiff, Nat.reduceLT, Nat.reduceBEq, Nat.reduceBNe, reduceCtorEq, Int.reduceLE, Int.reduceLT, Int.reduceToNat, decide_true, decide_false]
          · have eC : decide ((c : Int) > 0) = true := tD (by omega)
            have hjl : j = lb.length := by
              rcases Nat.eq_or_lt_of_le (show lb.length ≤ j by omega) with h | h
              · omega
              · exfalso
                have hj1 : j = lb.length + 1 := by omega
                have h1 : vl (la.take (i + 1)) < B ^ (i + 1) := by
                  have := vl_lt (hda.take (i := i + 1))
                  rwa [List.length_take, Nat.min_eq_left (by omega)] at this
                rw [vl_take_ge (l := lb) (by omega), hvb] at hv
                have h2 : vl l + c * B ^ (i + j) = vl (la.take (i + 1)) * b := by rw [hv, vl_take hx, Nat.add_mul]
                have h3 : vl (la.take (i + 1)) * b ≤ vl (la.take (i + 1)) * B ^ lb.length := Nat.mul_le_mul_left _ (Nat.le_of_lt hltb)
                have h4 : vl (la.take (i + 1)) * B ^ lb.length < B ^ (i + 1) * B ^ lb.length := Nat.mul_lt_mul_of_pos_right h1 (Nat.pow_pos (by decide))
                rw [← Nat.pow_add] at h4
                have h5 : B ^ (i + j) ≤ c * B ^ (i + j) := Nat.le_mul_of_pos_left _ (by omega)
                rw [show i + 1 + lb.length = i + j by omega] at h4
                omega
            obtain ⟨z, hz⟩ := get_of_lt (l := l) (i := i + j) (by omega)
            have hz2 : z < 16777216 := hl.get hz
            have hzl : i + j < l.length := lt_of_get hz
            simp  -implicitDefEqProofs (disch := first | omega | decide) only [go_sem, Int.reduceEq, ↓reduceIte, Nat.reduceEqDiff, Nat.reduceAdd, Nat.reduceMul, Nat.reduceSub, Nat.reduceDiv, Nat.reduceLeDiff, Nat.reduceLT, Nat.reduceBEq, Nat.reduceBNe, reduceCtorEq, Int.reduceLE, Int.reduceLT, Int.reduceToNat, decide_true, decide_false, eB, eC, addN, addN1, hzl, digT_get hz, dD, modB, divB]
            refine ⟨by omega, ?_⟩
            obtain ⟨g1, g2⟩ := times_step (m := 0) (n := z + c) hl hz hv rfl (W := vl (la.take i) * b + B ^ i * x * vl (lb.take (j + 1))) (by
              rw [vl_take_ge (l := lb) (i := j) (by omega), vl_take_ge (l := lb) (i := j + 1) (by omega)]; omega)
            refine ⟨⟨(j + 1, (z + c) / 16777216, l.set (i + j) ((z + c) % 16777216)), g1, by simp [hlen], ?_, g2, by simp only; omega⟩, weak_of ?_ ?_ (by simp [refsOk, digT_refs, refIn, T.ref]), by simp only; omega⟩
            · simp only; omega
            · simp -implicitDefEqProofs only [go_sem, Int.reduceEq, ↓reduceIte, Nat.reduceEqDiff, Nat.reduceAdd, Nat.reduceMul, Nat.reduceSub, Nat.reduceDiv, Nat.reduceLeDiff, Nat.reduceLT, Nat.reduceBEq, Nat.reduceBNe, reduceCtorEq, Int.reduceLE, Int.reduceLT, Int.reduceToNat, decide_true, decide_false]
            · simp -implicitDefEqProofs only [go_sem, Int.reduceEq, ↓reduceIte, Nat.reduceEqDiff, Nat.reduceAdd, Nat.reduceMul, Nat.reduceSub, Nat.reduceDiv, Nat.reduceLeDiff, Nat.reduceLT, Nat.reduceBEq, Nat.reduceBNe, reduceCtorEq, Int.reduceLE, Int.reduceLT, Int.reduceToNat, decide_true, decide_false, digT_set']
    · have eA : decide ((i : Int) < (la.length : Int)) = false := fD (by omega)
      simp -implicitDefEqProofs only [go_sem, Int.reduceEq, ↓reduceIte, Nat.reduceEqDiff, Nat.reduceAdd, Nat.reduceMul, Nat.reduceSub, Nat.reduceDiv, Nat.reduceLeDiff, Nat.reduceLT, Nat.reduceBEq, Nat.reduceBNe, reduceCtorEq, Int.reduceLE, Int.reduceLT, Int.reduceToNat, decide_true, decide_false, eA]
      refine Call.intro (trim_c _ l hl (by omega)) ?_
      rw [vl_take_ge (by omega), hva] at hv
      simp -implicitDefEqProofs only [go_sem, Int.reduceEq, ↓reduceIte, Nat.reduceEqDiff, Nat.reduceAdd, Nat.reduceMul, Nat.reduceSub, Nat.reduceDiv, Nat.reduceLeDiff, Nat.reduceLT, Nat.reduceBEq, Nat.reduceBNe, reduceCtorEq, Int.reduceLE, Int.reduceLT, Int.reduceToNat, decide_true, decide_false, finK, hv]
end Go.Enc
