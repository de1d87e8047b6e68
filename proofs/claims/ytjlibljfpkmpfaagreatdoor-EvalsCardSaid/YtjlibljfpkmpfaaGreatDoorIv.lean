/-
  Package enclose by its contracts: tiny, ends, corners.
-/
import Derived.Test.YtjlibljfpkmpfaaGreatDoorXa
set_option linter.unusedSimpArgs false
namespace Go.Enc
open Go.Proofs Go.Enc.Fl

abbrev strD (s : ByteArray) : D := .v (.string s)
/-- An operation's error. -/
abbrev opE (nm : ByteArray) (e : D) : D := .ip 119 [strD nm, e]
attribute [go_sem] strD opE
theorem btt : (true == true) = true := by decide
theorem btf : (true == false) = false := by decide
theorem bft : (false == true) = false := by decide
theorem bff : (false == false) = true := by decide
set_option maxRecDepth 100000 in
theorem tiny_k (E : Nat → Option Value) {s : ByteArray} {a b m p : Nat} {dv g n1 n2 : Bool} (hs : (s.toList == (⟨#[47]⟩ : ByteArray).toList) = dv) (em : FloatKind.f64.format.mul a b = some m) (ep : (if dv then FloatKind.f64.format.div a b else FloatKind.f64.format.mul a b) = some p) (hl : p < 2 ^ 64)
    (hg : (FloatKind.f64.format.order (p % 2 ^ 63) 4607182418800017408 == some Ordering.gt) = g) (h1 : (FloatKind.f64.format.order a 0 == some Ordering.lt) = n1) (h2 : (FloatKind.f64.format.order b 0 == some Ordering.lt) = n2) :
    DCall Tryz.prog E 124 [strD s, flD a, flD b] (.data (flD (if g then p else if n1 != n2 then 9223372036854775809 else 1))) := by
  refine dcall_of Tryz.func124 rfl (by kernel_rfl) Tryz.ntmps124 (by kernel_rfl) (by simp) (rs := [.tmp 6]) rfl ?_
  rintro ⟨P, E, σ0, w0, base, n, kb⟩ rfl rfl rfl rfl
  have e1 := tV hs
  have e2 := tV hg
  have e3 := tV h1
  have e4 := tV h2
  clear hs hg h1 h2
  have hn : Op.negFloat .f64 1 = 9223372036854775809 := by decide
  cases dv
  · simp only [Bool.false_eq_true, if_false] at ep
    have : m = p := by rw [em] at ep; exact Option.some.inj ep
    subst this
    simp -implicitDefEqProofs only [go_sem, Int.reduceEq, ↓reduceIte, Nat.reduceEqDiff, Nat.reduceAdd, Nat.reduceMul, Nat.reduceSub, Nat.reduceDiv, Nat.reduceLeDiff, Nat.reduceLT, Nat.reduceBEq, Nat.reduceBNe, reduceCtorEq, Int.reduceLE, Int.reduceLT, Int.reduceToNat, decide_true, decide_false, em, e1]
    refine Call.intro (abs_c _ hl) ?_
    cases g
    · cases n1 <;> cases n2 <;> simp -implicitDefEqProofs only [go_sem, Int.reduceEq, ↓reduceIte, Nat.reduceEqDiff, Nat.reduceAdd, Nat.reduceMul, Nat.reduceSub, Nat.reduceDiv, Nat.reduceLeDiff, Nat.reduceLT, Nat.reduceBEq, Nat.reduceBNe, reduceCtorEq, Int.reduceLE, Int.reduceLT, Int.reduceToNat, decide_true, decide_false, e2, e3, e4, hn, finK, btt, btf, bft, bff] <;> rfl
    · simp -implicitDefEqProofs only [go_sem, Int.reduceEq, ↓reduceIte, Nat.reduceEqDiff, Nat.reduceAdd, Nat.reduceMul, Nat.reduceSub, Nat.reduceDiv, Nat.reduceLeDiff, Nat.reduceLT, Nat.reduceBEq, Nat.reduceBNe, reduceCtorEq, Int.reduceLE, Int.reduceLT, Int.reduceToNat, decide_true, decide_false, e2, finK]
  · simp only [if_true] at ep
    simp -implicitDefEqProofs only [go_sem, Int.reduceEq, ↓reduceIte, Nat.reduceEqDiff, Nat.reduceAdd, Nat.reduceMul, Nat.reduceSub, Nat.reduceDiv, Nat.reduceLeDiff, Nat.reduceLT, Nat.reduceBEq, Nat.reduceBNe, reduceCtorEq, Int.reduceLE, Int.reduceLT, Int.reduceToNat, decide_true, decide_false, em, e1, ep]
    refine Call.intro (abs_c _ hl) ?_
    cases g
    · cases n1 <;> cases n2 <;> simp -implicitDefEqProofs only [go_sem, Int.reduceEq, ↓reduceIte, Nat.reduceEqDiff, Nat.reduceAdd, Nat.reduceMul, Nat.reduceSub, Nat.reduceDiv, Nat.reduceLeDiff, Nat.reduceLT, Nat.reduceBEq, Nat.reduceBNe, reduceCtorEq, Int.reduceLE, Int.reduceLT, Int.reduceToNat, decide_true, decide_false, e2, e3, e4, hn, finK, btt, btf, bft, bff] <;> rfl
    · simp -implicitDefEqProofs only [go_sem, Int.reduceEq, ↓reduceIte, Nat.reduceEqDiff, Nat.reduceAdd, Nat.reduceMul, Nat.reduceSub, Nat.reduceDiv, Nat.reduceLeDiff, Nat.reduceLT, Nat.reduceBEq, Nat.reduceBNe, reduceCtorEq, Int.reduceLE, Int.reduceLT, Int.reduceToNat, decide_true, decide_false, e2, finK]
def endsP (q : Nat → Addr) (nm : ByteArray) (lo hi : Nat) : D :=
  if plainB lo = false ∨ plainB hi = false then .tup [ivD (0, 0), opE nm (eD q 2)] else .tup [ivD (posB lo, posB hi), .v .nilIface]
set_option maxRecDepth 100000 in
theorem ends_c {E : Nat → Option Value} {q : Nat → Addr} (hq : Sent E q) (nm : ByteArray) {lo hi : Nat} (h1 : lo < 18446744073709551616) (h2 : hi < 18446744073709551616) : DCall Tryz.prog E 85 [strD nm, flD lo, flD hi] (.data (endsP q nm lo hi)) := by
  unfold endsP
  refine dcall_of Tryz.func85 rfl (by kernel_rfl) Tryz.ntmps85 (by kernel_rfl) (by simp) (rs := [.cell 6 59, .tmp 7]) rfl ?_
  rintro ⟨P, E, σ0, w0, base, n, kb⟩ rfl rfl rfl rfl
  have p1 := plain_c E h1
  have p2 := plain_c E h2
  have e2 : E 2 = some (errV (q 2)) := hq.var 2 (by decide)
  simp -implicitDefEqProofs only [go_sem, Int.reduceEq, ↓reduceIte, Nat.reduceEqDiff, Nat.reduceAdd, Nat.reduceMul, Nat.reduceSub, Nat.reduceDiv, Nat.reduceLeDiff, Nat.reduceLT, Nat.reduceBEq, Nat.reduceBNe, reduceCtorEq, Int.reduceLE, Int.reduceLT, Int.reduceToNat, decide_true, decide_false]
  refine Call.intro p1 ?_
  cases hx : plainB lo
  · simp -implicitDefEqProofs only [go_sem, Int.reduceEq, ↓reduceIte, Nat.reduceEqDiff, Nat.reduceAdd, Nat.reduceMul, Nat.reduceSub, Nat.reduceDiv, Nat.reduceLeDiff, Nat.reduceLT, Nat.reduceBEq, Nat.reduceBNe, reduceCtorEq, Int.reduceLE, Int.reduceLT, Int.reduceToNat, decide_true, decide_false, boolD]
    refine drawn_intro (by kernel_rfl) (by kernel_rfl) (by kernel_rfl) ?_
    simp -implicitDefEqProofs only [go_sem, Int.reduceEq, ↓reduceIte, Nat.reduceEqDiff, Nat.reduceAdd, Nat.reduceMul, Nat.reduceSub, Nat.reduceDiv, Nat.reduceLeDiff, Nat.reduceLT, Nat.reduceBEq, Nat.reduceBNe, reduceCtorEq, Int.reduceLE, Int.reduceLT, Int.reduceToNat, decide_true, decide_false, e2, errV, true_or]
    refine fin_many ?_
    simp -implicitDefEqProofs only [go_sem, Int.reduceEq, ↓reduceIte, Nat.reduceEqDiff, Nat.reduceAdd, Nat.reduceMul, Nat.reduceSub, Nat.reduceDiv, Nat.reduceLeDiff, Nat.reduceLT, Nat.reduceBEq, Nat.reduceBNe, reduceCtorEq, Int.reduceLE, Int.reduceLT, Int.reduceToNat, decide_true, decide_false, errV]
  · simp -implicitDefEqProofs only [go_sem, Int.reduceEq, ↓reduceIte, Nat.reduceEqDiff, Nat.reduceAdd, Nat.reduceMul, Nat.reduceSub, Nat.reduceDiv, Nat.reduceLeDiff, Nat.reduceLT, Nat.reduceBEq, Nat.reduceBNe, reduceCtorEq, Int.reduceLE, Int.reduceLT, Int.reduceToNat, decide_true, decide_false, boolD]
    refine Call.intro p2 ?_
    cases hy : plainB hi
    · simp -implicitDefEqProofs only [go_sem, Int.reduceEq, ↓reduceIte, Nat.reduceEqDiff, Nat.reduceAdd, Nat.reduceMul, Nat.reduceSub, Nat.reduceDiv, Nat.reduceLeDiff, Nat.reduceLT, Nat.reduceBEq, Nat.reduceBNe, reduceCtorEq, Int.reduceLE, Int.reduceLT, Int.reduceToNat, decide_true, decide_false, boolD]
      refine drawn_intro (by kernel_rfl) (by kernel_rfl) (by kernel_rfl) ?_
      simp -implicitDefEqProofs only [go_sem, Int.reduceEq, ↓reduceIte, Nat.reduceEqDiff, Nat.reduceAdd, Nat.reduceMul, Nat.reduceSub, Nat.reduceDiv, Nat.reduceLeDiff, Nat.reduceLT, Nat.reduceBEq, Nat.reduceBNe, reduceCtorEq, Int.reduceLE, Int.reduceLT, Int.reduceToNat, decide_true, decide_false, e2, errV, or_true]
      refine fin_many ?_
      simp -implicitDefEqProofs only [go_sem, Int.reduceEq, ↓reduceIte, Nat.reduceEqDiff, Nat.reduceAdd, Nat.reduceMul, Nat.reduceSub, Nat.reduceDiv, Nat.reduceLeDiff, Nat.reduceLT, Nat.reduceBEq, Nat.reduceBNe, reduceCtorEq, Int.reduceLE, Int.reduceLT, Int.reduceToNat, decide_true, decide_false, errV]
    · have a1 := add_pos h1 hx
      have a2 := add_pos h2 hy
      simp -implicitDefEqProofs only [go_sem, Int.reduceEq, ↓reduceIte, Nat.reduceEqDiff, Nat.reduceAdd, Nat.reduceMul, Nat.reduceSub, Nat.reduceDiv, Nat.reduceLeDiff, Nat.reduceLT, Nat.reduceBEq, Nat.reduceBNe, reduceCtorEq, Int.reduceLE, Int.reduceLT, Int.reduceToNat, decide_true, decide_false, boolD, or_self, if_false, a1, a2]
      refine fin_many ?_
      simp -implicitDefEqProofs only [go_sem, Int.reduceEq, ↓reduceIte, Nat.reduceEqDiff, Nat.reduceAdd, Nat.reduceMul, Nat.reduceSub, Nat.reduceDiv, Nat.reduceLeDiff, Nat.reduceLT, Nat.reduceBEq, Nat.reduceBNe, reduceCtorEq, Int.reduceLE, Int.reduceLT, Int.reduceToNat, decide_true, decide_false]
theorem pickF_spec (mx : Bool) {x y : Nat} (hx : Num x) (hy : Num y) : ∃ z, pickF mx x y = some z ∧ (z = x ∨ z = y) ∧ idx z = if mx then max (idx x) (idx y) else min (idx x) (idx y) := by
  have ho : FloatKind.f64.format.order x y = some (if idx x < idx y then .lt else if idx x = idx y then .eq else .gt) := order_num hx hy
  unfold pickF
  rw [ho]
  by_cases h1 : idx x < idx y
  · rw [if_pos h1]
    cases mx
    · exact ⟨x, rfl, .inl rfl, by simp only [Bool.false_eq_true, if_false]; omega⟩
    · exact ⟨y, rfl, .inr rfl, by simp only [if_true]; omega⟩
  · rw [if_neg h1]
    by_cases h2 : idx x = idx y
    · rw [if_pos h2]
      cases hn : (FloatKind.f64.decode x).neg <;> cases mx
      · exact ⟨y, by simp [hn], .inr rfl, by simp only [Bool.false_eq_true, if_false]; omega⟩
      · exact ⟨x, by simp [hn], .inl rfl, by simp only [if_true]; omega⟩
      · exact ⟨x, by simp [hn], .inl rfl, by simp only [Bool.false_eq_true, if_false]; omega⟩
      · exact ⟨y, by simp [hn], .inr rfl, by simp only [if_true]; omega⟩
    · rw [if_neg h2]
      cases mx
      · exact ⟨y, rfl, .inr rfl, by simp only [Bool.false_eq_true, if_false]; omega⟩
      · exact ⟨x, rfl, .inl rfl, by simp only [if_true]; omega⟩
end Go.Enc
