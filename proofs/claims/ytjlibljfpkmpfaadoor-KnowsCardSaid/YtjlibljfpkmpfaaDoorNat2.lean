/-
  Natural numbers by their digits: order, differences, products.
-/
import Derived.Test.YtjlibljfpkmpfaaDoorNat
set_option linter.unusedSimpArgs false
namespace Go.Enc
open Go.Proofs Go.Enc.Dg

def cmpI (a b : Nat) : Int := if a < b then -1 else if a = b then 0 else 1
theorem cmpI_spec (a b : Nat) : (cmpI a b < 0 ↔ a < b) ∧ (cmpI a b = 0 ↔ a = b) ∧ (0 < cmpI a b ↔ b < a) := by
  unfold cmpI; split
  · omega
  · split <;> omega
theorem len_lt {a b : Nat} (h : (dg a).length < (dg b).length) : a < b := by
  rcases Nat.lt_or_ge a b with h1 | h1
  · exact h1
  · have := dg_len_mono h1; omega
/-- Digits that are alike from a place on; there they part. -/
theorem dig_part {la lb : List Nat} {k x y : Nat} (ha : Dig la) (hb : Dig lb) (hx : la[k]? = some x) (hy : lb[k]? = some y) (he : la.drop (k + 1) = lb.drop (k + 1)) (h : x < y) : vl la < vl lb := by
  have e1 := vl_split hx
  have e2 := vl_split hy
  rw [e1, e2, he]
  have h1 := vl_lt (ha.take (i := k))
  rw [List.length_take, Nat.min_eq_left (by have := lt_of_get hx; omega)] at h1
  have h2 := Nat.mul_le_mul_left (B ^ k) (show x + 1 ≤ y from h)
  rw [Nat.mul_add, Nat.mul_one] at h2
  omega
theorem drop_cons {l : List Nat} {k x : Nat} (hx : l[k]? = some x) : l.drop k = x :: l.drop (k + 1) := by
  have := lt_of_get hx
  rw [List.drop_eq_getElem_cons this]
  rw [List.getElem?_eq_getElem this] at hx
  cases hx; rfl

set_option maxRecDepth 100000 in
theorem cmp_c (E : Nat → Option Value) {a b : Nat} (ha : Sm (dg a)) (hb : Sm (dg b)) : DCall Tryd.prog E 95 [natD a, natD b] (.data (intD (cmpI a b))) := by
  refine dcall_of Tryd.func95 rfl (by kernel_rfl) Tryd.ntmps95 (by kernel_rfl) (by simp) (rs := [.tmp 4]) rfl ?_
  rintro ⟨P, E, σ0, w0, base, n, kb⟩ rfl rfl rfl rfl
  obtain ⟨la, hla⟩ : ∃ la, dg a = la := ⟨_, rfl⟩
  obtain ⟨lb, hlb⟩ : ∃ lb, dg b = lb := ⟨_, rfl⟩
  have hda := dig_dg a
  have hdb := dig_dg b
  have hva := vl_dg a
  have hvb := vl_dg b
  have hlt : (dg a).length < (dg b).length → a < b := len_lt
  have hgt : (dg b).length < (dg a).length → b < a := len_lt
  unfold Sm at ha hb
  rw [hla] at ha hda hva hlt hgt
  rw [hlb] at hb hdb hvb hlt hgt
  simp -implicitDefEqProofs only [go_sem, Int.reduceEq, ↓reduceIte, Nat.reduceEqDiff, Nat.reduceAdd, Nat.reduceMul, Nat.reduceSub, Nat.reduceDiv, Nat.reduceLeDiff, Nat.reduceLT, Nat.reduceBEq, Nat.reduceBNe, reduceCtorEq, Int.reduceLE, Int.reduceLT, Int.reduceToNat, decide_true, decide_false, hla, hlb]
  refine cond_intro (fun h => ?_) (fun h => ?_)
  · simp -implicitDefEqProofs only [go_sem, Int.reduceEq, ↓reduceIte, Nat.reduceEqDiff, Nat.reduceAdd, Nat.reduceMul, Nat.reduceSub, Nat.reduceDiv, Nat.reduceLeDiff, Nat.reduceLT, Nat.reduceBEq, Nat.reduceBNe, reduceCtorEq, Int.reduceLE, Int.reduceLT, Int.reduceToNat, decide_true, decide_false, hla, hlb]
    refine cond_intro (fun h2 => ?_) (fun h2 => ?_)
    · simp -implicitDefEqProofs only [go_sem, Int.reduceEq, ↓reduceIte, Nat.reduceEqDiff, Nat.reduceAdd, Nat.reduceMul, Nat.reduceSub, Nat.reduceDiv, Nat.reduceLeDiff, Nat.reduceLT, Nat.reduceBEq, Nat.reduceBNe, reduceCtorEq, Int.reduceLE, Int.reduceLT, Int.reduceToNat, decide_true, decide_false, finK]
      have := hlt (by have := of_decide_eq_true h2; omega)
      unfold cmpI; rw [if_pos this]
    · simp -implicitDefEqProofs only [go_sem, Int.reduceEq, ↓reduceIte, Nat.reduceEqDiff, Nat.reduceAdd, Nat.reduceMul, Nat.reduceSub, Nat.reduceDiv, Nat.reduceLeDiff, Nat.reduceLT, Nat.reduceBEq, Nat.reduceBNe, reduceCtorEq, Int.reduceLE, Int.reduceLT, Int.reduceToNat, decide_true, decide_false, finK]
      have h3 := of_decide_eq_false h2
      have := hgt (by simp at h; omega)
      unfold cmpI; rw [if_neg (by omega), if_neg (by omega)]
  · have hlen : la.length = lb.length := by simp at h; omega
    simp -implicitDefEqProofs only [go_sem, Int.reduceEq, ↓reduceIte, Nat.reduceEqDiff, Nat.reduceAdd, Nat.reduceMul, Nat.reduceSub, Nat.reduceDiv, Nat.reduceLeDiff, Nat.reduceLT, Nat.reduceBEq, Nat.reduceBNe, reduceCtorEq, Int.reduceLE, Int.reduceLT, Int.reduceToNat, decide_true, decide_false, hla, hlb]
    rw [stop_eq]
    refine dwp_loop (α := {k : Nat // k ≤ la.length ∧ la.drop k = lb.drop k}) (fun k => St.of [(0, .d (digD la)), (1, .d (digD lb)), (5, .d (intD ((k.1 : Int) - 1)))] []) (fun k => k.1)
      ⟨la.length, Nat.le_refl _, by rw [List.drop_length, hlen, List.drop_length]⟩ (weak_of ?_ ?_ rfl) (by kernel_rfl) (fun k => ?_)
    · have e : IntKind.i64.wrap ((la.length : Int) - 1) = (la.length : Int) - 1 := w64 (by omega)
      simp -implicitDefEqProofs only [go_sem, Int.reduceEq, ↓reduceIte, Nat.reduceEqDiff, Nat.reduceAdd, Nat.reduceMul, Nat.reduceSub, Nat.reduceDiv, Nat.reduceLeDiff, Nat.reduceLT, Nat.reduceBEq, Nat.reduceBNe, reduceCtorEq, Int.reduceLE, Int.reduceLT, Int.reduceToNat, decide_true, decide_false, hla, hlb, e]
    · simp -implicitDefEqProofs only [go_sem, Int.reduceEq, ↓reduceIte, Nat.reduceEqDiff, Nat.reduceAdd, Nat.reduceMul, Nat.reduceSub, Nat.reduceDiv, Nat.reduceLeDiff, Nat.reduceLT, Nat.reduceBEq, Nat.reduceBNe, reduceCtorEq, Int.reduceLE, Int.reduceLT, Int.reduceToNat, decide_true, decide_false]
    · obtain ⟨k, hk, he⟩ := k
      by_cases h0 : k = 0
      · have e0 : decide ((k : Int) - 1 ≥ 0) = false := fD (by omega)
        have e00 : decide (0 ≤ (k : Int) - 1) = false := fD (by omega)
        simp -implicitDefEqProofs only [go_sem, Int.reduceEq, ↓reduceIte, Nat.reduceEqDiff, Nat.reduceAdd, Nat.reduceMul, Nat.reduceSub, Nat.reduceDiv, Nat.reduceLeDiff, Nat.reduceLT, Nat.reduceBEq, Nat.reduceBNe, reduceCtorEq, Int.reduceLE, Int.reduceLT, Int.reduceToNat, decide_true, decide_false, e0, e00, finK]
        have : a = b := by rw [h0, List.drop_zero, List.drop_zero] at he; rw [← hva, ← hvb, he]
        unfold cmpI; rw [if_neg (by omega), if_pos this]
      · obtain ⟨m, rfl⟩ : ∃ m, k = m + 1 := ⟨k - 1, by omega⟩
        obtain ⟨x, hx⟩ := get_of_lt (l := la) (i := m) (by omega)
        obtain ⟨y, hy⟩ := get_of_lt (l := lb) (i := m) (by omega)
        have hxl := lt_of_get hx
        have hyl := lt_of_get hy
        have ek : ((m + 1 : Nat) : Int) - 1 = (m : Int) := by omega
        have e0 : decide ((m : Int) ≥ 0) = true := tD (by omega)
        simp -implicitDefEqProofs only [go_sem, Int.reduceEq, ↓reduceIte, Nat.reduceEqDiff, Nat.reduceAdd, Nat.reduceMul, Nat.reduceSub, Nat.reduceDiv, Nat.reduceLeDiff, Nat.reduceLT, Nat.reduceBEq, Nat.reduceBNe, reduceCtorEq, Int.reduceLE, Int.reduceLT, Int.reduceToNat, decide_true, decide_false, ek, e0]
        refine drawn_intro (by kernel_rfl) (by kernel_rfl) (by kernel_rfl) ?_
        simp -implicitDefEqProofs only [go_sem, Int.reduceEq, ↓reduceIte, Nat.reduceEqDiff, Nat.reduceAdd, Nat.reduceMul, Nat.reduceSub, Nat.reduceDiv, Nat.reduceLeDiff, Nat.reduceLT, Nat.reduceBEq, Nat.reduceBNe, reduceCtorEq, Int.reduceLE, Int.reduceLT, Int.reduceToNat, decide_true, decide_false, ek, hxl, hyl, dD_get hx, dD_get hy, dD]
        refine cond_intro (fun h => ?_) (fun h => ?_)
        · have hne : x ≠ y := by simp at h; omega
          simp -implicitDefEqProofs only [go_sem, Int.reduceEq, ↓reduceIte, Nat.reduceEqDiff, Nat.reduceAdd, Nat.reduceMul, Nat.reduceSub, Nat.reduceDiv, Nat.reduceLeDiff, Nat.reduceLT, Nat.reduceBEq, Nat.reduceBNe, reduceCtorEq, Int.reduceLE, Int.reduceLT, Int.reduceToNat, decide_true, decide_false]
          refine drawn_intro (by kernel_rfl) (by kernel_rfl) (by kernel_rfl) ?_
          simp -implicitDefEqProofs only [go_sem, Int.reduceEq, ↓reduceIte, Nat.reduceEqDiff, Nat.reduceAdd, Nat.reduceMul, Nat.reduceSub, Nat.reduceDiv, Nat.reduceLeDiff, Nat.reduceLT, Nat.reduceBEq, Nat.reduceBNe, reduceCtorEq, Int.reduceLE, Int.reduceLT, Int.reduceToNat, decide_true, decide_false, ek, hxl, hyl, dD_get hx, dD_get hy, dD]
          refine cond_intro (fun h => ?_) (fun h => ?_)
          · have := dig_part hda hdb hx hy he (by have := of_decide_eq_true h; omega)
            rw [hva, hvb] at this
            simp -implicitDefEqProofs only [go_sem, Int.reduceEq, ↓reduceIte, Nat.reduceEqDiff, Nat.reduceAdd, Nat.reduceMul, Nat.reduceSub, Nat.reduceDiv, Nat.reduceLeDiff, Nat.reduceLT, Nat.reduceBEq, Nat.reduceBNe, reduceCtorEq, Int.reduceLE, Int.reduceLT, Int.reduceToNat, decide_true, decide_false, finK]
            unfold cmpI; rw [if_pos this]
          · have := dig_part hdb hda hy hx he.symm (by have := of_decide_eq_false h; omega)
            rw [hva, hvb] at this
            simp -implicitDefEqProofs only [go_sem, Int.reduceEq, ↓reduceIte, Nat.reduceEqDiff, Nat.reduceAdd, Nat.reduceMul, Nat.reduceSub, Nat.reduceDiv, Nat.reduceLeDiff, Nat.reduceLT, Nat.reduceBEq, Nat.reduceBNe, reduceCtorEq, Int.reduceLE, Int.reduceLT, Int.reduceToNat, decide_true, decide_false, finK]
            unfold cmpI; rw [if_neg (by omega), if_neg (by omega)]
        · have heq : x = y := by simp at h; omega
          have e1 : IntKind.i64.wrap ((m : Int) - 1) = (m : Int) - 1 := w64 (by omega)
          simp -implicitDefEqProofs only [go_sem, Int.reduceEq, ↓reduceIte, Nat.reduceEqDiff, Nat.reduceAdd, Nat.reduceMul, Nat.reduceSub, Nat.reduceDiv, Nat.reduceLeDiff, Nat.reduceLT, Nat.reduceBEq, Nat.reduceBNe, reduceCtorEq, Int.reduceLE, Int.reduceLT, Int.reduceToNat, decide_true, decide_false, ek, e1]
          refine ⟨⟨m, by omega, by rw [drop_cons hx, drop_cons hy, he, heq]⟩, weak_of ?_ ?_ rfl, by simp only; omega⟩
          · simp -implicitDefEqProofs only [go_sem, Int.reduceEq, ↓reduceIte, Nat.reduceEqDiff, Nat.reduceAdd, Nat.reduceMul, Nat.reduceSub, Nat.reduceDiv, Nat.reduceLeDiff, Nat.reduceLT, Nat.reduceBEq, Nat.reduceBNe, reduceCtorEq, Int.reduceLE, Int.reduceLT, Int.reduceToNat, decide_true, decide_false]
          · simp -implicitDefEqProofs only [go_sem, Int.reduceEq, ↓reduceIte, Nat.reduceEqDiff, Nat.reduceAdd, Nat.reduceMul, Nat.reduceSub, Nat.reduceDiv, Nat.reduceLeDiff, Nat.reduceLT, Nat.reduceBEq, Nat.reduceBNe, reduceCtorEq, Int.reduceLE, Int.reduceLT, Int.reduceToNat, decide_true, decide_false]

theorem minus_step {la lb l : List Nat} {i c x y : Nat} (hl : Dig l) (hi : l.length = i) (hv : vl l + vl (lb.take i) = vl (la.take i) + B ^ i * c) (hx : vl (la.take (i + 1)) = vl (la.take i) + B ^ i * x) (hy : vl (lb.take (i + 1)) = vl (lb.take i) + B ^ i * y) {d c' : Nat} (hd : d < B) (he : d + c + y = x + B * c') :
    Dig (l ++ [d]) ∧ vl (l ++ [d]) + vl (lb.take (i + 1)) = vl (la.take (i + 1)) + B ^ (i + 1) * c' := by
  refine ⟨hl.snoc hd, ?_⟩
  rw [vl_snoc, hi, hx, hy, Nat.pow_succ, Nat.mul_assoc]
  have := congrArg (fun z => B ^ i * z) he
  simp only [Nat.mul_add] at this
  omega
set_option maxRecDepth 100000 in
theorem minus_c (E : Nat → Option Value) {a b : Nat} (ha : Sm (dg a)) (hab : b ≤ a) : DCall Tryd.prog E 96 [natD a, natD b] (.data (natD (a - b))) := by
  refine dcall_of Tryd.func96 rfl (by kernel_rfl) Tryd.ntmps96 (by kernel_rfl) (by simp) (rs := [.tmp 4]) rfl ?_
  rintro ⟨P, E, σ0, w0, base, n, kb⟩ rfl rfl rfl rfl
  have hb : Sm (dg b) := Nat.le_trans (dg_len_mono hab) ha
  have hlen : (dg b).length ≤ (dg a).length := dg_len_mono hab
  obtain ⟨la, hla⟩ : ∃ la, dg a = la := ⟨_, rfl⟩
  obtain ⟨lb, hlb⟩ : ∃ lb, dg b = lb := ⟨_, rfl⟩
  have hda := dig_dg a
  have hdb := dig_dg b
  have hva := vl_dg a
  have hvb := vl_dg b
  unfold Sm at ha hb
  rw [hla] at ha hda hva hlen
  rw [hlb] at hb hdb hvb hlen
  simp -implicitDefEqProofs only [go_sem, Int.reduceEq, ↓reduceIte, Nat.reduceEqDiff, Nat.reduceAdd, Nat.reduceMul, Nat.reduceSub, Nat.reduceDiv, Nat.reduceLeDiff, Nat.reduceLT, Nat.reduceBEq, Nat.reduceBNe, reduceCtorEq, Int.reduceLE, Int.reduceLT, Int.reduceToNat, decide_true, decide_false, hla, hlb]
  rw [stop_eq]
  refine dwp_nil 5 38 3 1 rfl rfl ?_
  refine dwp_loop (α := {p : Nat × Nat × List Nat // Dig p.2.2 ∧ p.2.2.length = p.1 ∧ p.2.1 ≤ 1 ∧ vl p.2.2 + vl (lb.take p.1) = vl (la.take p.1) + B ^ p.1 * p.2.1 ∧ p.1 ≤ la.length})
    (fun p => St.of [(0, .d (digD la)), (1, .d (digD lb)), (5, .gs 38), (6, .d (intD p.1.2.1)), (7, .d (intD p.1.1))] [(38, ⟨some (3, 1, true), digT p.1.2.2⟩)]) (fun p => la.length - p.1.1)
    ⟨(0, 0, []), by intro d hd; simp at hd, rfl, by simp, by simp [vl], by simp⟩ (weak_of ?_ ?_ rfl) (by kernel_rfl) (fun p => ?_)
  · simp -implicitDefEqProofs only [go_sem, Int.reduceEq, ↓reduceIte, Nat.reduceEqDiff, Nat.reduceAdd, Nat.reduceMul, Nat.reduceSub, Nat.reduceDiv, Nat.reduceLeDiff, Nat.reduceLT, Nat.reduceBEq, Nat.reduceBNe, reduceCtorEq, Int.reduceLE, Int.reduceLT, Int.reduceToNat, decide_true, decide_false, upd, hla, hlb]
  · simp -implicitDefEqProofs only [go_sem, Int.reduceEq, ↓reduceIte, Nat.reduceEqDiff, Nat.reduceAdd, Nat.reduceMul, Nat.reduceSub, Nat.reduceDiv, Nat.reduceLeDiff, Nat.reduceLT, Nat.reduceBEq, Nat.reduceBNe, reduceCtorEq, Int.reduceLE, Int.reduceLT, Int.reduceToNat, decide_true, decide_false, upd, digT]
  · obtain ⟨⟨i, c, l⟩, hl, hi, hc, hv, hm⟩ := p
    simp only at hl hi hc hv hm
    have hmax : maxLen = 9223372036854775807 := by decide
    by_cases hA : i < la.length
    · obtain ⟨x, hx⟩ := get_of_lt hA
      have hx2 : x < 16777216 := hda.get hx
      have eA : decide ((i : Int) < (la.length : Int)) = true := tD (by omega)
      have main : ∀ y, y < 16777216 → vl (lb.take (i + 1)) = vl (lb.take i) + B ^ i * y → ∀ d c', d < 16777216 → c' ≤ 1 → d + c + y = x + 16777216 * c' →
        ∃ p' : {p : Nat × Nat × List Nat // Dig p.2.2 ∧ p.2.2.length = p.1 ∧ p.2.1 ≤ 1 ∧ vl p.2.2 + vl (lb.take p.1) = vl (la.take p.1) + B ^ p.1 * p.2.1 ∧ p.1 ≤ la.length}, p'.1 = (i + 1, c', l ++ [d]) := fun y hy hy2 d c' hd hc' he => by
          obtain ⟨g1, g2⟩ := minus_step hl hi hv (vl_take hx) hy2 hd he
          exact ⟨⟨(i + 1, c', l ++ [d]), g1, by simp [hi], hc', g2, hA⟩, rfl⟩
      by_cases hB : i < lb.length
      · obtain ⟨y, hy⟩ := get_of_lt hB
        have hy2 : y < 16777216 := hdb.get hy
        have eB : decide ((i : Int) < (lb.length : Int)) = true := tD (by omega)
        have w1 : IntKind.i64.wrap ((x : Int) - (c : Int)) = (x : Int) - c := w64 (by omega)
        have w2 : IntKind.i64.wrap ((x : Int) - (c : Int) - (y : Int)) = (x : Int) - c - y := w64 (by omega)
        simp -implicitDefEqProofs only [go_sem, Int.reduceEq, ↓reduceIte, Nat.reduceEqDiff, Nat.reduceAdd, Nat.reduceMul, Nat.reduceSub, Nat.reduceDiv, Nat.reduceLeDiff, Nat.reduceLT, Nat.reduceBEq, Nat.reduceBNe, reduceCtorEq, Int.reduceLE, Int.reduceLT, Int.reduceToNat, decide_true, decide_false, eA, hA, dD_get hx, dD, w1, eB, hB, dD_get hy, w2]
        refine cond_intro (fun h => ?_) (fun h => ?_)
        · have hn := of_decide_eq_true h
          have w3 : IntKind.i64.wrap ((x : Int) - (c : Int) - (y : Int) + 16777216) = ((x + 16777216 - c - y : Nat) : Int) := by rw [w64 (by omega)]; omega
          simp  -implicitDefEqProofs (disch := first | omega | decide) only [go_sem, Int.reduceEq, ↓reduceIte, Nat.reduceEqDiff, Nat.reduceAdd, Nat.reduceMul, Nat.reduceSub, Nat.reduceDiv, Nat.reduceLeDiff, Nat.reduceLT, Nat.reduceBEq, Nat.reduceBNe, reduceCtorEq, Int.reduceLE, Int.reduceLT, Int.reduceToNat, decide_true, decide_false, w3, addN1]
          refine ⟨by omega, by omega, ?_⟩
          obtain ⟨p', hp'⟩ := main y hy2 (vl_take hy) (x + 16777216 - c - y) 1 (by omega) (by omega) (by omega)
          refine ⟨p', weak_of ?_ ?_ (by simp [refsOk, digT_refs, refIn, T.ref]), by rw [hp']; omega⟩
          · simp -implicitDefEqProofs only [go_sem, Int.reduceEq, ↓reduceIte, Nat.reduceEqDiff, Nat.reduceAdd, Nat.reduceMul, Nat.reduceSub, Nat.reduceDiv, Nat.reduceLeDiff, Nat.reduceLT, Nat.reduceBEq, Nat.reduceBNe, reduceCtorEq, Int.reduceLE, Int.reduceLT, Int.reduceToNat, decide_true, decide_false, hp']
            exact .inl rfl
          · simp -implicitDefEqProofs only [go_sem, Int.reduceEq, ↓reduceIte, Nat.reduceEqDiff, Nat.reduceAdd, Nat.reduceMul, Nat.reduceSub, Nat.reduceDiv, Nat.reduceLeDiff, Nat.reduceLT, Nat.reduceBEq, Nat.reduceBNe, reduceCtorEq, Int.reduceLE, Int.reduceLT, Int.reduceToNat, decide_true, decide_false, hp']
        · have hn := of_decide_eq_false h
          have w3 : (x : Int) - (c : Int) - (y : Int) = ((x - c - y : Nat) : Int) := by omega
          simp  -implicitDefEqProofs (disch := first | omega | decide) only [go_sem, Int.reduceEq, ↓reduceIte, Nat.reduceEqDiff, Nat.reduceAdd, Nat.reduceMul, Nat.reduceSub, Nat.reduceDiv, Nat.reduceLeDiff, Nat.reduceLT, Nat.reduceBEq, Nat.reduceBNe, reduceCtorEq, Int.reduceLE, Int.reduceLT, Int.reduceToNat, decide_true, decide_false, w3, addN1]
          refine ⟨by omega, by omega, ?_⟩
          obtain ⟨p', hp'⟩ := main y hy2 (vl_take hy) (x - c - y) 0 (by omega) (by omega) (by omega)
          refine ⟨p', weak_of ?_ ?_ (by simp [refsOk, digT_refs, refIn, T.ref]), by rw [hp']; omega⟩
          · simp -implicitDefEqProofs only [go_sem, Int.reduceEq, ↓reduceIte, Nat.reduceEqDiff, Nat.reduceAdd, Nat.reduceMul, Nat.reduceSub, Nat.reduceDiv, Nat.reduceLeDiff, Nat.reduceLT, Nat.reduceBEq, Nat.reduceBNe, reduceCtorEq, Int.reduceLE, Int.reduceLT, Int.reduceToNat, decide_true, decide_false, hp']
          · simp -implicitDefEqProofs only [go_sem, Int.reduceEq, ↓reduceIte, Nat.reduceEqDiff, Nat.reduceAdd, Nat.reduceMul, Nat.reduceSub, Nat.reduceDiv, Nat.reduceLeDiff, Nat.reduceLT, Nat.reduceBEq, Nat.reduceBNe, reduceCtorEq, Int.reduceLE, Int.reduceLT, Int.reduceToNat, decide_true, decide_false, hp']
      · have eB : decide ((i : Int) < (lb.length : Int)) = false := fD (by omega)
        have w1 : IntKind.i64.wrap ((x : Int) - (c : Int)) = (x : Int) - c := w64 (by omega)
        simp -implicitDefEqProofs only [go_sem, Int.reduceEq, ↓reduceIte, Nat.reduceEqDiff, Nat.reduceAdd, Nat.reduceMul, Nat.reduceSub, Nat.reduceDiv, Nat.reduceLeDiff, Nat.reduceLT, Nat.reduceBEq, Nat.reduceBNe, reduceCtorEq, Int.reduceLE, Int.reduceLT, Int.reduceToNat, decide_true, decide_false, eA, hA, dD_get hx, dD, w1, eB]
        refine cond_intro (fun h => ?_) (fun h => ?_)
        · have hn := of_decide_eq_true h
          have w3 : IntKind.i64.wrap ((x : Int) - (c : Int) + 16777216) = ((x + 16777216 - c : Nat) : Int) := by rw [w64 (by omega)]; omega
          simp  -implicitDefEqProofs (disch := first | omega | decide) only [go_sem, Int.reduceEq, ↓reduceIte, Nat.reduceEqDiff, Nat.reduceAdd, Nat.reduceMul, Nat.reduceSub, Nat.reduceDiv, Nat.reduceLeDiff, Nat.reduceLT, Nat.reduceBEq, Nat.reduceBNe, reduceCtorEq, Int.reduceLE, Int.reduceLT, Int.reduceToNat, decide_true, decide_false, w3, addN1]
          refine ⟨by omega, by omega, ?_⟩
          obtain ⟨p', hp'⟩ := main 0 (by omega) (take_ge (by omega)) (x + 16777216 - c) 1 (by omega) (by omega) (by omega)
          refine ⟨p', weak_of ?_ ?_ (by simp [refsOk, digT_refs, refIn, T.ref]), by rw [hp']; omega⟩
          · simp -implicitDefEqProofs only [go_sem, Int.reduceEq, ↓reduceIte, Nat.reduceEqDiff, Nat.reduceAdd, Nat.reduceMul, Nat.reduceSub, Nat.reduceDiv, Nat.reduceLeDiff, Nat.reduceLT, Nat.reduceBEq, Nat.reduceBNe, reduceCtorEq, Int.reduceLE, Int.reduceLT, Int.reduceToNat, decide_true, decide_false, hp']
            exact .inl rfl
          · simp -implicitDefEqProofs only [go_sem, Int.reduceEq, ↓reduceIte, Nat.reduceEqDiff, Nat.reduceAdd, Nat.reduceMul, Nat.reduceSub, Nat.reduceDiv, Nat.reduceLeDiff, Nat.reduceLT, Nat.reduceBEq, Nat.reduceBNe, reduceCtorEq, Int.reduceLE, Int.reduceLT, Int.reduceToNat, decide_true, decide_false, hp']
        · have hn := of_decide_eq_false h
          have w3 : (x : Int) - (c : Int) = ((x - c : Nat) : Int) := by omega
          simp  -implicitDefEqProofs (disch := first | omega | decide) only [go_sem, Int.reduceEq, ↓reduceIte, Nat.reduceEqDiff, Nat.reduceAdd, Nat.reduceMul, Nat.reduceSub, Nat.reduceDiv, Nat.reduceLeDiff, Nat.reduceLT, Nat.reduceBEq, Nat.reduceBNe, reduceCtorEq, Int.reduceLE, Int.reduceLT, Int.reduceToNat, decide_true, decide_false, w3, addN1]
          refine ⟨by omega, by omega, ?_⟩
          obtain ⟨p', hp'⟩ := main 0 (by omega) (take_ge (by omega)) (x - c) 0 (by omega) (by omega) (by omega)
          refine ⟨p', weak_of ?_ ?_ (by simp [refsOk, digT_refs, refIn, T.ref]), by rw [hp']; omega⟩
          · simp -implicitDefEqProofs only [go_sem, Int.reduceEq, ↓reduceIte, Nat.reduceEqDiff, Nat.reduceAdd, Nat.reduceMul, Nat.reduceSub, Nat.reduceDiv, Nat.reduceLeDiff, Nat.reduceLT, Nat.reduceBEq, Nat.reduceBNe, reduceCtorEq, Int.reduceLE, Int.reduceLT, Int.reduceToNat, decide_true, decide_false, hp']
          · simp -implicitDefEqProofs only [go_sem, Int.reduceEq, ↓reduceIte, Nat.reduceEqDiff, Nat.reduceAdd, Nat.reduceMul, Nat.reduceSub, Nat.reduceDiv, Nat.reduceLeDiff, Nat.reduceLT, Nat.reduceBEq, Nat.reduceBNe, reduceCtorEq, Int.reduceLE, Int.reduceLT, Int.reduceToNat, decide_true, decide_false, hp']
    · have eA : decide ((i : Int) < (la.length : Int)) = false := fD (by omega)
      simp -implicitDefEqProofs only [go_sem, Int.reduceEq, ↓reduceIte, Nat.reduceEqDiff, Nat.reduceAdd, Nat.reduceMul, Nat.reduceSub, Nat.reduceDiv, Nat.reduceLeDiff, Nat.reduceLT, Nat.reduceBEq, Nat.reduceBNe, reduceCtorEq, Int.reduceLE, Int.reduceLT, Int.reduceToNat, decide_true, decide_false, eA]
      have hll : vl l < B ^ i := by rw [← hi]; exact vl_lt hl
      rw [vl_take_ge (by omega), vl_take_ge (by omega), hva, hvb] at hv
      have hc0 : c = 0 := by
        rcases Nat.eq_zero_or_pos c with h | h
        · exact h
        · have : c = 1 := by omega
          rw [this] at hv; omega
      have hvl : vl l = a - b := by rw [hc0] at hv; omega
      refine Call.intro (trim_c _ l hl (by omega)) ?_
      simp -implicitDefEqProofs only [go_sem, Int.reduceEq, ↓reduceIte, Nat.reduceEqDiff, Nat.reduceAdd, Nat.reduceMul, Nat.reduceSub, Nat.reduceDiv, Nat.reduceLeDiff, Nat.reduceLT, Nat.reduceBEq, Nat.reduceBNe, reduceCtorEq, Int.reduceLE, Int.reduceLT, Int.reduceToNat, decide_true, decide_false, finK, hvl]
end Go.Enc
