/-
  The program's operations on intervals: Neg, Hull, Meet, Sqrt; package plain's Op by its kinds.
-/
import Derived.Test.YtjlibljfpkmpfaaGreatDoorCn
set_option linter.unusedSimpArgs false
set_option maxRecDepth 100000
namespace Go.Enc
open Go.Proofs Go.Enc.Fl

abbrev rootS : ByteArray := ⟨#[115, 113, 114, 116]⟩
theorem xsqrt_c (E : Nat → Option Value) {a s r y : Nat} {w : Int} (es : Ieee.double.sqrt a = some s) (er : Ieee.double.fma (fneg s) s a = some r) (hs : DCall Tryz.prog E 121 [flD s, flD r, intD w] (.data (flD y))) :
    DCall Tryz.prog E 91 [flD a, intD w] (.data (flD y)) := by
  refine dcall_of Tryz.func91 rfl (by kernel_rfl) Tryz.ntmps91 (by kernel_rfl) (by simp) (rs := [.tmp 4]) rfl ?_
  rintro ⟨P, E, σ0, w0, base, n, kb, df⟩ rfl rfl rfl rfl
  simp -implicitDefEqProofs only [go_sem]
  refine Call.intro (fsqrt_c _ es) ?_
  simp -implicitDefEqProofs only [go_sem, negFloat_eq]
  refine Call.intro (fma_c _ er) ?_
  simp -implicitDefEqProofs only [go_sem]
  refine Call.intro hs ?_
  simp -implicitDefEqProofs only [go_sem, finK]
theorem ineg_k (E : Nat → Option Value) {a r : Nat × Nat} (h1 : FloatKind.f64.format.sub 0 a.2 = some r.1) (h2 : FloatKind.f64.format.sub 0 a.1 = some r.2) : DCall Tryz.prog E 38 [ivD a] (.data (ivD r)) := by
  refine dcall_of Tryz.func38 rfl (by kernel_rfl) Tryz.ntmps38 (by kernel_rfl) (by simp) (rs := [.cell 2 59]) rfl ?_
  rintro ⟨P, E, σ0, w0, base, n, kb, df⟩ rfl rfl rfl rfl
  simp -implicitDefEqProofs only [go_sem, h1, h2]
theorem ihull_k (E : Nat → Option Value) {a b r : Nat × Nat} (h1 : pickF false a.1 b.1 = some r.1) (h2 : pickF true a.2 b.2 = some r.2) : DCall Tryz.prog E 39 [ivD a, ivD b] (.data (ivD r)) := by
  refine dcall_of Tryz.func39 rfl (by kernel_rfl) Tryz.ntmps39 (by kernel_rfl) (by simp) (rs := [.cell 4 59]) rfl ?_
  rintro ⟨P, E, σ0, w0, base, n, kb, df⟩ rfl rfl rfl rfl
  simp -implicitDefEqProofs only [go_sem, h1, h2]
theorem imeet_k {E : Nat → Option Value} {q : Nat → Addr} (hq : Sent E q) {a b r : Nat × Nat} (h1 : pickF true a.1 b.1 = some r.1) (h2 : pickF false a.2 b.2 = some r.2) (n1 : Num r.1) (n2 : Num r.2) :
    DCall Tryz.prog E 40 [ivD a, ivD b] (.data (if idx r.2 < idx r.1 then .tup [ivD (0, 0), eD q 5] else .tup [ivD r, .v .nilIface])) := by
  refine dcall_of Tryz.func40 rfl (by kernel_rfl) Tryz.ntmps40 (by kernel_rfl) (by simp) (rs := [.cell 4 59, .tmp 5]) rfl ?_
  rintro ⟨P, E, σ0, w0, base, n, kb, df⟩ rfl rfl rfl rfl
  have g := ord_gt n1 n2
  have e5 : E 5 = some (errV (q 5)) := hq.var 5 (by decide)
  by_cases h : idx r.2 < idx r.1
  · have g1 : (FloatKind.f64.format.order r.1 r.2 == some Ordering.gt) = true := g.trans (decide_eq_true h)
    have g2 := tV g1
    rw [if_pos h]
    simp -implicitDefEqProofs only [go_sem, h1, h2, g2]
    refine drawn_intro (by kernel_rfl) (by kernel_rfl) (by kernel_rfl) ?_
    simp -implicitDefEqProofs only [go_sem, e5, errV]
    refine fin_many ?_
    simp -implicitDefEqProofs only [go_sem, errV]
  · have g1 : (FloatKind.f64.format.order r.1 r.2 == some Ordering.gt) = false := g.trans (decide_eq_false h)
    rw [if_neg h]
    simp -implicitDefEqProofs only [go_sem, h1, h2, g1]
    refine fin_many ?_
    simp -implicitDefEqProofs only [go_sem]
theorem isqrt_k (E : Nat → Option Value) {a r : Nat × Nat} {l h : Nat} {e : D} (n1 : Num a.1) (hn : ¬ idx a.1 < 0) (h1 : DCall Tryz.prog E 91 [flD a.1, intD (-1)] (.data (flD l))) (h2 : DCall Tryz.prog E 91 [flD a.2, intD 1] (.data (flD h)))
    (h3 : DCall Tryz.prog E 85 [strD rootS, flD l, flD h] (.data (.tup [ivD r, e]))) : DCall Tryz.prog E 45 [ivD a] (.data (.tup [ivD r, e])) := by
  refine dcall_of Tryz.func45 rfl (by kernel_rfl) Tryz.ntmps45 (by kernel_rfl) (by simp) (rs := [.cell 2 59, .tmp 3]) rfl ?_
  rintro ⟨P, E, σ0, w0, base, n, kb, df⟩ rfl rfl rfl rfl
  have g1 : (FloatKind.f64.format.order a.1 0 == some Ordering.lt) = false := (lt0_iff n1).trans (decide_eq_false hn)
  simp -implicitDefEqProofs only [go_sem, g1]
  refine drawn_intro (by kernel_rfl) (by kernel_rfl) (by kernel_rfl) ?_
  simp -implicitDefEqProofs only [go_sem]
  refine Call.intro h1 ?_
  simp -implicitDefEqProofs only [go_sem]
  refine Call.intro h2 ?_
  simp -implicitDefEqProofs only [go_sem]
  refine Call.intro h3 ?_
  simp -implicitDefEqProofs only [go_sem]
  refine fin_many ?_
  simp -implicitDefEqProofs only [go_sem]
theorem isqrt_n {E : Nat → Option Value} {q : Nat → Addr} (hq : Sent E q) {a : Nat × Nat} (n1 : Num a.1) (hn : idx a.1 < 0) : DCall Tryz.prog E 45 [ivD a] (.data (.tup [ivD (0, 0), opE rootS (eD q 4)])) := by
  refine dcall_of Tryz.func45 rfl (by kernel_rfl) Tryz.ntmps45 (by kernel_rfl) (by simp) (rs := [.cell 2 59, .tmp 3]) rfl ?_
  rintro ⟨P, E, σ0, w0, base, n, kb, df⟩ rfl rfl rfl rfl
  have e4 : E 4 = some (errV (q 4)) := hq.var 4 (by decide)
  have g1 : (FloatKind.f64.format.order a.1 0 == some Ordering.lt) = true := (lt0_iff n1).trans (decide_eq_true hn)
  have g2 := tV g1
  simp -implicitDefEqProofs only [go_sem, g2]
  refine drawn_intro (by kernel_rfl) (by kernel_rfl) (by kernel_rfl) ?_
  simp -implicitDefEqProofs only [go_sem, e4, errV]
  refine fin_many ?_
  simp -implicitDefEqProofs only [go_sem, errV]

theorem pop0_k (E : Nat → Option Value) {x y a b r : Nat × Nat} {e : D} {n : Int} {s : ByteArray} (h1 : DCall Tryz.prog E 37 [boxD x] (.data (ivD a))) (h2 : DCall Tryz.prog E 37 [boxD y] (.data (ivD b))) (h3 : DCall Tryz.prog E 38 [ivD a] (.data (ivD r))) :
    DCall Tryz.prog E 17 [intD 0, boxD x, boxD y] (.data (.tup [boxD r, intD 0, strD ⟨#[]⟩])) := by
  refine dcall_of Tryz.func17 rfl (by kernel_rfl) Tryz.ntmps17 (by kernel_rfl) (by simp) (rs := [.cell 6 32, .tmp 7, .tmp 8]) rfl ?_
  rintro ⟨P, E, σ0, w0, base, n, kb, df⟩ rfl rfl rfl rfl
  simp -implicitDefEqProofs only [go_sem]
  refine drawn_intro (by kernel_rfl) (by kernel_rfl) (by kernel_rfl) ?_
  simp -implicitDefEqProofs only [go_sem]
  refine Call.intro h1 ?_
  simp -implicitDefEqProofs only [go_sem]
  refine Call.intro h2 ?_
  simp -implicitDefEqProofs only [go_sem, Int.reduceBEq]
  refine Call.intro h3 ?_
  simp -implicitDefEqProofs only [go_sem]
  refine Call.intro (code_nil E) ?_
  simp -implicitDefEqProofs only [go_sem]
  refine Call.intro (pbox_c _ r) ?_
  simp -implicitDefEqProofs only [go_sem]
  refine fin_many ?_
  simp -implicitDefEqProofs only [go_sem]
theorem pop1_k (E : Nat → Option Value) {x y a b r : Nat × Nat} {e : D} {n : Int} {s : ByteArray} (h1 : DCall Tryz.prog E 37 [boxD x] (.data (ivD a))) (h2 : DCall Tryz.prog E 37 [boxD y] (.data (ivD b))) (h3 : DCall Tryz.prog E 39 [ivD a, ivD b] (.data (ivD r))) :
    DCall Tryz.prog E 17 [intD 1, boxD x, boxD y] (.data (.tup [boxD r, intD 0, strD ⟨#[]⟩])) := by
  refine dcall_of Tryz.func17 rfl (by kernel_rfl) Tryz.ntmps17 (by kernel_rfl) (by simp) (rs := [.cell 6 32, .tmp 7, .tmp 8]) rfl ?_
  rintro ⟨P, E, σ0, w0, base, n, kb, df⟩ rfl rfl rfl rfl
  simp -implicitDefEqProofs only [go_sem]
  refine drawn_intro (by kernel_rfl) (by kernel_rfl) (by kernel_rfl) ?_
  simp -implicitDefEqProofs only [go_sem]
  refine Call.intro h1 ?_
  simp -implicitDefEqProofs only [go_sem]
  refine Call.intro h2 ?_
  simp -implicitDefEqProofs only [go_sem, Int.reduceBEq]
  refine Call.intro h3 ?_
  simp -implicitDefEqProofs only [go_sem]
  refine Call.intro (code_nil E) ?_
  simp -implicitDefEqProofs only [go_sem]
  refine Call.intro (pbox_c _ r) ?_
  simp -implicitDefEqProofs only [go_sem]
  refine fin_many ?_
  simp -implicitDefEqProofs only [go_sem]
theorem pop2_k (E : Nat → Option Value) {x y a b r : Nat × Nat} {e : D} {n : Int} {s : ByteArray} (h1 : DCall Tryz.prog E 37 [boxD x] (.data (ivD a))) (h2 : DCall Tryz.prog E 37 [boxD y] (.data (ivD b))) (h3 : DCall Tryz.prog E 40 [ivD a, ivD b] (.data (.tup [ivD r, e]))) (h4 : DCall Tryz.prog E 32 [e] (.data (.tup [intD n, strD s]))) :
    DCall Tryz.prog E 17 [intD 2, boxD x, boxD y] (.data (.tup [boxD r, intD n, strD s])) := by
  refine dcall_of Tryz.func17 rfl (by kernel_rfl) Tryz.ntmps17 (by kernel_rfl) (by simp) (rs := [.cell 6 32, .tmp 7, .tmp 8]) rfl ?_
  rintro ⟨P, E, σ0, w0, base, n, kb, df⟩ rfl rfl rfl rfl
  simp -implicitDefEqProofs only [go_sem]
  refine drawn_intro (by kernel_rfl) (by kernel_rfl) (by kernel_rfl) ?_
  simp -implicitDefEqProofs only [go_sem]
  refine Call.intro h1 ?_
  simp -implicitDefEqProofs only [go_sem]
  refine Call.intro h2 ?_
  simp -implicitDefEqProofs only [go_sem, Int.reduceBEq]
  refine Call.intro h3 ?_
  simp -implicitDefEqProofs only [go_sem]
  refine Call.intro h4 ?_
  simp -implicitDefEqProofs only [go_sem]
  refine Call.intro (pbox_c _ r) ?_
  simp -implicitDefEqProofs only [go_sem]
  refine fin_many ?_
  simp -implicitDefEqProofs only [go_sem]
theorem pop7_k (E : Nat → Option Value) {x y a b r : Nat × Nat} {e : D} {n : Int} {s : ByteArray} (h1 : DCall Tryz.prog E 37 [boxD x] (.data (ivD a))) (h2 : DCall Tryz.prog E 37 [boxD y] (.data (ivD b))) (h3 : DCall Tryz.prog E 45 [ivD a] (.data (.tup [ivD r, e]))) (h4 : DCall Tryz.prog E 32 [e] (.data (.tup [intD n, strD s]))) :
    DCall Tryz.prog E 17 [intD 7, boxD x, boxD y] (.data (.tup [boxD r, intD n, strD s])) := by
  refine dcall_of Tryz.func17 rfl (by kernel_rfl) Tryz.ntmps17 (by kernel_rfl) (by simp) (rs := [.cell 6 32, .tmp 7, .tmp 8]) rfl ?_
  rintro ⟨P, E, σ0, w0, base, n, kb, df⟩ rfl rfl rfl rfl
  simp -implicitDefEqProofs only [go_sem]
  refine drawn_intro (by kernel_rfl) (by kernel_rfl) (by kernel_rfl) ?_
  simp -implicitDefEqProofs only [go_sem]
  refine Call.intro h1 ?_
  simp -implicitDefEqProofs only [go_sem]
  refine Call.intro h2 ?_
  simp -implicitDefEqProofs only [go_sem, Int.reduceBEq]
  refine Call.intro h3 ?_
  simp -implicitDefEqProofs only [go_sem]
  refine Call.intro h4 ?_
  simp -implicitDefEqProofs only [go_sem]
  refine Call.intro (pbox_c _ r) ?_
  simp -implicitDefEqProofs only [go_sem]
  refine fin_many ?_
  simp -implicitDefEqProofs only [go_sem]
theorem pop8_k (E : Nat → Option Value) {x y a b r : Nat × Nat} {e : D} {n : Int} {s : ByteArray} (h1 : DCall Tryz.prog E 37 [boxD x] (.data (ivD a))) (h2 : DCall Tryz.prog E 37 [boxD y] (.data (ivD b))) {k : Int} (hk : k < 0 ∨ 7 < k) :
    DCall Tryz.prog E 17 [intD k, boxD x, boxD y] (.data (.tup [boxD a, intD 0, strD ⟨#[]⟩])) := by
  have e0 : (k == 0) = false := beqF (by omega)
  have e1 : (k == 1) = false := beqF (by omega)
  have e2 : (k == 2) = false := beqF (by omega)
  have e3 : (k == 3) = false := beqF (by omega)
  have e4 : (k == 4) = false := beqF (by omega)
  have e5 : (k == 5) = false := beqF (by omega)
  have e6 : (k == 6) = false := beqF (by omega)
  have e7 : (k == 7) = false := beqF (by omega)
  refine dcall_of Tryz.func17 rfl (by kernel_rfl) Tryz.ntmps17 (by kernel_rfl) (by simp) (rs := [.cell 6 32, .tmp 7, .tmp 8]) rfl ?_
  rintro ⟨P, E, σ0, w0, base, n, kb, df⟩ rfl rfl rfl rfl
  simp -implicitDefEqProofs only [go_sem]
  refine drawn_intro (by kernel_rfl) (by kernel_rfl) (by kernel_rfl) ?_
  simp -implicitDefEqProofs only [go_sem]
  refine Call.intro h1 ?_
  simp -implicitDefEqProofs only [go_sem]
  refine Call.intro h2 ?_
  simp -implicitDefEqProofs only [go_sem, Int.reduceBEq, e0, e1, e2, e3, e4, e5, e6, e7]
  refine Call.intro (code_nil E) ?_
  simp -implicitDefEqProofs only [go_sem]
  refine Call.intro (pbox_c _ a) ?_
  simp -implicitDefEqProofs only [go_sem]
  refine fin_many ?_
  simp -implicitDefEqProofs only [go_sem]
end Go.Enc
