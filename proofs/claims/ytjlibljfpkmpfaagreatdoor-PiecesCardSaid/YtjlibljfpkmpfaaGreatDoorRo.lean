/-
  The document's operations on intervals, by contract.
-/
import Derived.Test.YtjlibljfpkmpfaaGreatDoorSp
import Derived.Test.YtjlibljfpkmpfaaGreatDoorOpk
set_option linter.unusedSimpArgs false
set_option maxRecDepth 100000
namespace Go.Enc
open Go.Proofs Go.Enc.Dg Go.Enc.Nu

abbrev sqrtS : ByteArray := ⟨#[115, 113, 114, 116]⟩
/-- A plain float's number is small. -/
structure Nt (a : Nm) : Prop where
  n : Bd a.n 53
  lo : -1000 ≤ a.e
  hi : a.e ≤ 1000
theorem nplain_nt (b : Nat) : Nt (nplain b).1 := by
  by_cases hz : (nplain b).1 = nzero
  · rw [hz]; exact ⟨Nat.pow_pos (by decide), by decide, by decide⟩
  · obtain ⟨p1, p2, p3, p4, p5⟩ := nplain_ok hz
    rw [p2]
    have hf : b % 4503599627370496 < 4503599627370496 := Nat.mod_lt _ (by decide)
    refine ⟨?_, by simp only; omega, by simp only; omega⟩
    unfold Bd
    simp only
    omega
theorem Nt.ok {a : Nm} (h : Nt a) : NOk a 53 := by
  obtain ⟨h1, h2, h3⟩ := h
  exact ⟨h1, by omega, by omega⟩
theorem Nt.prod {a b : Nm} (h : Nt a) (g : Nt b) : NOk (nprod a b) 106 := by
  obtain ⟨h1, h2, h3⟩ := h
  obtain ⟨g1, g2, g3⟩ := g
  exact ⟨h1.mul g1, by show -1000000 ≤ a.e + b.e; omega, by show a.e + b.e ≤ 1000000; omega⟩
theorem bd_mark {q n : Nat} (w : Bool) (h : Bd q n) : Bd (2 * q + w.toNat) (n + 1) := by
  unfold Bd at *
  rw [Nat.pow_succ]
  cases w <;> simp only [Bool.toNat_true, Bool.toNat_false] <;> omega
theorem Nt.quot {a b : Nm} (h : Nt a) (g : Nt b) : NOk (nquot a b) 200 := by
  obtain ⟨h1, h2, h3⟩ := h
  obtain ⟨g1, g2, g3⟩ := g
  have hb := bits_bd g1
  refine ⟨?_, ?_, ?_⟩
  · have h4 : Bd (a.n * 2 ^ (60 + nbits b.n) / b.n) (53 + (60 + nbits b.n)) := Bd.le h1.up (Nat.div_le_self _ _)
    exact (bd_mark (!decide (a.n * 2 ^ (60 + nbits b.n) % b.n = 0)) h4).mono (by omega)
  · show -1000000 ≤ a.e - ((60 + nbits b.n : Nat) : Int) - b.e - 1; omega
  · show a.e - ((60 + nbits b.n : Nat) : Int) - b.e - 1 ≤ 1000000; omega
theorem Nt.root {a : Nm} (h : Nt a) : NOk (nroot a) 200 := by
  obtain ⟨h1, h2, h3⟩ := h
  have hk : rootk a.e ≤ 131 := by unfold rootk; split <;> omega
  refine ⟨?_, ?_, ?_⟩
  · have h4 : Bd (isq (a.n * 2 ^ rootk a.e)) (53 + rootk a.e) := Bd.le h1.up (Nat.le_trans (sq_ge _) (isq_spec _).1)
    exact (bd_mark (!decide (isq (a.n * 2 ^ rootk a.e) * isq (a.n * 2 ^ rootk a.e) = a.n * 2 ^ rootk a.e)) h4).mono (by omega)
  · show -1000000 ≤ (a.e - (rootk a.e : Int)) / 2 - 1; omega
  · show (a.e - (rootk a.e : Int)) / 2 - 1 ≤ 1000000; omega

/-- What an operation answers. -/
abbrev Ans := (Nat × Nat) × Int × ByteArray
abbrev ansD (r : Ans) : D := .tup [boxD r.1, intD r.2.1, tD_ r.2.2]
def ovrB (a1 a2 b1 b2 : Nm) : Ans := if holds0B b1 b2 = true then ((0, 0), 4, overS) else namedB (spanB (nquot a1 b1) (nquot a1 b2) (nquot a2 b1) (nquot a2 b2)).1 (spanB (nquot a1 b1) (nquot a1 b2) (nquot a2 b1) (nquot a2 b2)).2 overS
theorem divided_c (E : Nat → Option Value) {a1 a2 b1 b2 : Nm} (ha1 : Nt a1) (ha2 : Nt a2) (hb1 : Nt b1) (hb2 : Nt b2) (hz : holds0B b1 b2 = false → b1.n ≠ 0 ∧ b2.n ≠ 0) :
    DCall Tryz.prog E 54 [nvD a1 a2, nvD b1 b2] (.data (ansD (ovrB a1 a2 b1 b2))) := by
  refine dcall_of Tryz.func54 rfl (by kernel_rfl) Tryz.ntmps54 (by kernel_rfl) (by simp) (rs := [.cell 4 27, .tmp 5, .tmp 6]) rfl ?_
  rintro ⟨P, E, σ0, w0, base, n, kb, df⟩ rfl rfl rfl rfl
  have h0 := holds0_c E b1 b2
  obtain ⟨R, hR⟩ : ∃ R, ovrB a1 a2 b1 b2 = R := ⟨_, rfl⟩
  have hD : R = if holds0B b1 b2 = true then ((0, 0), 4, overS) else namedB (spanB (nquot a1 b1) (nquot a1 b2) (nquot a2 b1) (nquot a2 b2)).1 (spanB (nquot a1 b1) (nquot a1 b2) (nquot a2 b1) (nquot a2 b2)).2 overS := hR.symm
  rw [hR]
  cases hc : holds0B b1 b2
  · obtain ⟨z1, z2⟩ := hz hc
    rw [hc, if_neg (by decide)] at hD
    have q1 := quotient_c E ha1.ok hb1.ok (by omega) z1
    have q2 := quotient_c E ha1.ok hb2.ok (by omega) z2
    have q3 := quotient_c E ha2.ok hb1.ok (by omega) z1
    have q4 := quotient_c E ha2.ok hb2.ok (by omega) z2
    have hs := span4_c E (ha1.quot hb1) (ha1.quot hb2) (ha2.quot hb1) (ha2.quot hb2) (by omega)
    generalize nquot a1 b1 = u1 at *
    generalize nquot a1 b2 = u2 at *
    generalize nquot a2 b1 = u3 at *
    generalize nquot a2 b2 = u4 at *
    generalize spanB u1 u2 u3 u4 = S at *
    have hn := named_c E S.1 S.2 overS
    rw [← hD] at hn
    rw [hc] at h0
    simp -implicitDefEqProofs only [go_sem]
    refine Call.intro h0 ?_
    simp -implicitDefEqProofs only [go_sem]
    refine drawn_intro (by kernel_rfl) (by kernel_rfl) (by kernel_rfl) ?_
    simp -implicitDefEqProofs only [go_sem]
    refine Call.intro q1 ?_
    simp -implicitDefEqProofs only [go_sem]
    refine Call.intro q2 ?_
    simp -implicitDefEqProofs only [go_sem]
    refine Call.intro q3 ?_
    simp -implicitDefEqProofs only [go_sem]
    refine Call.intro q4 ?_
    simp -implicitDefEqProofs only [go_sem]
    refine Call.intro hs ?_
    simp -implicitDefEqProofs only [go_sem]
    refine Call.intro hn ?_
    simp -implicitDefEqProofs only [go_sem]
    refine fin_many ?_
    simp -implicitDefEqProofs only [go_sem]
  · rw [hc, if_pos rfl] at hD
    rw [hc] at h0
    rw [hD]
    simp -implicitDefEqProofs only [go_sem]
    refine Call.intro h0 ?_
    simp -implicitDefEqProofs only [go_sem]
    refine fin_many ?_
    simp -implicitDefEqProofs only [go_sem]
end Go.Enc
