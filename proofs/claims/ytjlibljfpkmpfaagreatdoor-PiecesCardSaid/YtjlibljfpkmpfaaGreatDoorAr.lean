/-
  The document's intervals around numbers; products, marks.
-/
import Derived.Test.YtjlibljfpkmpfaaGreatDoorRnd
import Derived.Test.YtjlibljfpkmpfaaGreatDoorOl
set_option linter.unusedSimpArgs false
set_option maxRecDepth 100000
namespace Go.Enc
open Go.Proofs Go.Enc.Dg Go.Enc.Nu

abbrev tD_ (s : ByteArray) : D := .v (.string s)
abbrev noS : ByteArray := ⟨#[]⟩
/-- What around answers. -/
def aroundB (lo hi : Nm) : (Nat × Nat) × Int := if (roundB false lo).2 = true ∧ (roundB true hi).2 = true then (((roundB false lo).1, (roundB true hi).1), 0) else ((0, 0), 3)
theorem around_c (E : Nat → Option Value) {lo hi : Nm} {k : Nat} (h1 : NOk lo k) (h2 : NOk hi k) (hk : k ≤ 10000000) : DCall Tryz.prog E 48 [nmD lo, nmD hi] (.data (.tup [boxD (aroundB lo hi).1, intD (aroundB lo hi).2])) := by
  refine dcall_of Tryz.func48 rfl (by kernel_rfl) Tryz.ntmps48 (by kernel_rfl) (by simp) (rs := [.cell 4 27, .tmp 5]) rfl ?_
  rintro ⟨P, E, σ0, w0, base, n, kb, df⟩ rfl rfl rfl rfl
  have r1 := round_c E (up := false) (w := -1) rfl h1 hk
  have r2 := round_c E (up := true) (w := 1) rfl h2 hk
  have hA : aroundB lo hi = if (roundB false lo).2 = true ∧ (roundB true hi).2 = true then (((roundB false lo).1, (roundB true hi).1), 0) else ((0, 0), 3) := rfl
  obtain ⟨⟨x, bx⟩, hx⟩ : ∃ p, roundB false lo = p := ⟨_, rfl⟩
  obtain ⟨⟨y, by'⟩, hy⟩ : ∃ p, roundB true hi = p := ⟨_, rfl⟩
  rw [hx] at r1 hA
  rw [hy] at r2 hA
  simp -implicitDefEqProofs only [go_sem]
  refine Call.intro r1 ?_
  simp -implicitDefEqProofs only [go_sem]
  refine Call.intro r2 ?_
  cases bx
  · have hA : aroundB lo hi = ((0, 0), 3) := by rw [hA, if_neg (by simp)]
    rw [hA]
    simp -implicitDefEqProofs only [go_sem]
    refine fin_many ?_
    simp -implicitDefEqProofs only [go_sem]
  · cases by'
    · have hA : aroundB lo hi = ((0, 0), 3) := by rw [hA, if_neg (by simp)]
      rw [hA]
      simp -implicitDefEqProofs only [go_sem]
      refine fin_many ?_
      simp -implicitDefEqProofs only [go_sem]
    · have hA : aroundB lo hi = ((x, y), 0) := by rw [hA, if_pos ⟨rfl, rfl⟩]
      rw [hA]
      simp -implicitDefEqProofs only [go_sem]
      refine fin_many ?_
      simp -implicitDefEqProofs only [go_sem]
theorem product_c (E : Nat → Option Value) {a b : Nm} {k : Nat} (ha : NOk a k) (hb : NOk b k) (hk : k ≤ 10000000) : DCall Tryz.prog E 53 [nmD a, nmD b] (.data (nmD (nprod a b))) := by
  refine dcall_of Tryz.func53 rfl (by kernel_rfl) Tryz.ntmps53 (by kernel_rfl) (by simp) (rs := [.cell 4 70]) rfl ?_
  rintro ⟨P, E, σ0, w0, base, n, kb, df⟩ rfl rfl rfl rfl
  obtain ⟨na, n, e⟩ := a
  obtain ⟨nb, m, f⟩ := b
  obtain ⟨h1, h2, h3⟩ := ha
  obtain ⟨g1, g2, g3⟩ := hb
  simp only at h1 h2 h3 g1 g2 g3
  have w : IntKind.i64.wrap (e + f) = e + f := w64 (by omega)
  simp -implicitDefEqProofs only [go_sem]
  refine Call.intro (times_c _ (h1.sm (by omega)) (g1.sm (by omega))) ?_
  have l0 := lenpos (n * m)
  have eff : (false == false) = true := by decide
  have eft : (false == true) = false := by decide
  have etf : (true == false) = false := by decide
  have ett : (true == true) = true := by decide
  cases na <;> cases nb
  · have hp : nprod ⟨false, n, e⟩ ⟨false, m, f⟩ = ⟨false, n * m, e + f⟩ := rfl
    rw [hp]
    simp -implicitDefEqProofs only [go_sem, w, l0, eff]
  · have hp : nprod ⟨false, n, e⟩ ⟨true, m, f⟩ = ⟨decide (0 < n * m), n * m, e + f⟩ := rfl
    rw [hp]
    simp -implicitDefEqProofs only [go_sem, w, l0, eft]
  · have hp : nprod ⟨true, n, e⟩ ⟨false, m, f⟩ = ⟨decide (0 < n * m), n * m, e + f⟩ := rfl
    rw [hp]
    simp -implicitDefEqProofs only [go_sem, w, l0, etf]
  · have hp : nprod ⟨true, n, e⟩ ⟨true, m, f⟩ = ⟨false, n * m, e + f⟩ := rfl
    rw [hp]
    simp -implicitDefEqProofs only [go_sem, w, l0, ett]
/-- An interval's datum: its cells lie flat. -/
abbrev nvD (a b : Nm) : D := .agg [bD a.neg, natD a.n, intD a.e, bD b.neg, natD b.n, intD b.e]
attribute [go_sem] nvD
def holds0B (a b : Nm) : Bool := decide (nsign a ≤ 0) && decide (nsign b ≥ 0)
theorem holds0_c (E : Nat → Option Value) (a b : Nm) : DCall Tryz.prog E 98 [nvD a b] (.data (bD (holds0B a b))) := by
  refine dcall_of Tryz.func98 rfl (by kernel_rfl) Tryz.ntmps98 (by kernel_rfl) (by simp) (rs := [.tmp 2]) rfl ?_
  rintro ⟨P, E, σ0, w0, base, n, kb, df⟩ rfl rfl rfl rfl
  have s1 := sign_c E a
  have s2 := sign_c E b
  unfold holds0B
  generalize nsign a = i at *
  generalize nsign b = j at *
  simp -implicitDefEqProofs only [go_sem]
  refine Call.intro s1 ?_
  rcases Decidable.em (i ≤ 0) with h | h
  · have h1 : decide (i ≤ 0) = true := tD h
    simp -implicitDefEqProofs only [go_sem, h1]
    refine Call.intro s2 ?_
    simp -implicitDefEqProofs only [go_sem, finK]
    rw [h1, Bool.true_and]
  · have h1 : decide (i ≤ 0) = false := fD h
    simp -implicitDefEqProofs only [go_sem, h1, finK, Bool.false_and]
def namedB (c : Nat × Nat) (e : Int) (s : ByteArray) : (Nat × Nat) × Int × ByteArray := if e = 0 then (c, e, noS) else ((0, 0), e, s)
theorem named_c (E : Nat → Option Value) (c : Nat × Nat) (e : Int) (s : ByteArray) : DCall Tryz.prog E 52 [boxD c, intD e, tD_ s] (.data (.tup [boxD (namedB c e s).1, intD (namedB c e s).2.1, tD_ (namedB c e s).2.2])) := by
  refine dcall_of Tryz.func52 rfl (by kernel_rfl) Tryz.ntmps52 (by kernel_rfl) (by simp) (rs := [.cell 6 27, .tmp 7, .tmp 8]) rfl ?_
  rintro ⟨P, E, σ0, w0, base, n, kb, df⟩ rfl rfl rfl rfl
  by_cases h : e = 0
  · have hN : namedB c e s = (c, e, noS) := if_pos h
    have e0 := tB (beqT h)
    rw [hN]
    simp -implicitDefEqProofs only [go_sem, e0]
    refine fin_many ?_
    simp -implicitDefEqProofs only [go_sem]
  · have hN : namedB c e s = ((0, 0), e, s) := if_neg h
    have e0 : (e == 0) = false := beqF h
    rw [hN]
    simp -implicitDefEqProofs only [go_sem, e0]
    refine fin_many ?_
    simp -implicitDefEqProofs only [go_sem]
theorem marked_c (E : Nat → Option Value) (neg : Bool) {q n : Nat} {e : Int} (whole : Bool) (hq : Bd q n) (hn : n ≤ 10000000) (he : -100000000 ≤ e ∧ e ≤ 100000000) : DCall Tryz.prog E 102 [bD neg, natD q, intD e, bD whole] (.data (nmD (nmark neg q e whole))) := by
  refine dcall_of Tryz.func102 rfl (by kernel_rfl) Tryz.ntmps102 (by kernel_rfl) (by simp) (rs := [.cell 8 70]) rfl ?_
  rintro ⟨P, E, σ0, w0, base, n, kb, df⟩ rfl rfl rfl rfl
  have w : IntKind.i64.wrap (e - 1) = e - 1 := w64 (by omega)
  have h2 : q * 2 ^ 1 = 2 * q := by omega
  have b2 : Bd (2 * q) (n + 1) := by unfold Bd at *; rw [Nat.pow_succ]; omega
  simp -implicitDefEqProofs only [go_sem]
  refine Call.intro (up_c _ (k := 1) hq (by omega) (by omega)) ?_
  rw [h2]
  cases whole
  · have hm : nmark neg q e false = ⟨neg && decide (0 < 2 * q + 1), 2 * q + 1, e - 1⟩ := rfl
    rw [hm]
    simp -implicitDefEqProofs only [go_sem]
    refine Call.intro (nat_c _ 1 (by decide)) ?_
    simp -implicitDefEqProofs only [go_sem]
    refine Call.intro (plus_c _ (b2.sm (by omega)) (Bd.sm (n := 1) (k := 1) (by unfold Bd; decide) (by omega))) ?_
    cases neg
    · simp -implicitDefEqProofs only [go_sem, w, lenpos, Bool.false_and]
    · simp -implicitDefEqProofs only [go_sem, w, lenpos, Bool.true_and]
  · have hm : nmark neg q e true = ⟨neg && decide (0 < 2 * q), 2 * q, e - 1⟩ := rfl
    rw [hm]
    cases neg
    · simp -implicitDefEqProofs only [go_sem, w, lenpos, Bool.false_and]
    · simp -implicitDefEqProofs only [go_sem, w, lenpos, Bool.true_and]
end Go.Enc
