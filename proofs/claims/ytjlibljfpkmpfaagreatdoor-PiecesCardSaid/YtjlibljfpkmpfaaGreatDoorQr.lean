/-
  The document's quotients and roots of numbers, and the least interval around some numbers, by contract.
-/
import Derived.Test.YtjlibljfpkmpfaaGreatDoorAr
import Derived.Test.YtjlibljfpkmpfaaGreatDoorOv
set_option linter.unusedSimpArgs false
set_option maxRecDepth 100000
namespace Go.Enc
open Go.Proofs Go.Enc.Dg Go.Enc.Nu

theorem quotient_c (E : Nat → Option Value) {a b : Nm} {k : Nat} (ha : NOk a k) (hb : NOk b k) (hk : k ≤ 1000000) (hb0 : b.n ≠ 0) : DCall Tryz.prog E 99 [nmD a, nmD b] (.data (nmD (nquot a b))) := by
  refine dcall_of Tryz.func99 rfl (by kernel_rfl) Tryz.ntmps99 (by kernel_rfl) (by simp) (rs := [.cell 4 70]) rfl ?_
  rintro ⟨P, E, σ0, w0, base, n, kb, df⟩ rfl rfl rfl rfl
  obtain ⟨na, n, e⟩ := a
  obtain ⟨nb, m, f⟩ := b
  obtain ⟨h1, h2, h3⟩ := ha
  obtain ⟨g1, g2, g3⟩ := hb
  simp only at h1 h2 h3 g1 g2 g3 hb0
  have hbl := bits_bd g1
  obtain ⟨K, hK⟩ : ∃ K, 60 + nbits m = K := ⟨_, rfl⟩
  have hq : nquot ⟨na, n, e⟩ ⟨nb, m, f⟩ = nmark (na != nb) (n * 2 ^ K / m) (e - K - f) (decide (n * 2 ^ K % m = 0)) := by unfold nquot; simp only; rw [hK]
  rw [hq]
  have w1 : IntKind.i64.wrap (60 + ((nbits m : Nat) : Int)) = (K : Int) := (w64 (by omega)).trans (by omega)
  have w2 : IntKind.i64.wrap (e - (K : Int)) = e - (K : Int) := w64 (by omega)
  have w3 : IntKind.i64.wrap (e - (K : Int) - f) = e - (K : Int) - f := w64 (by omega)
  have bK : Bd (n * 2 ^ K) (k + K) := h1.up
  have bq : Bd (n * 2 ^ K / m) (k + K) := bK.le (Nat.div_le_self _ _)
  have eff : (false == false) = true := by decide
  have eft : (false == true) = false := by decide
  have etf : (true == false) = false := by decide
  have ett : (true == true) = true := by decide
  simp -implicitDefEqProofs only [go_sem]
  refine Call.intro (size_c _ (g1.sm (by omega))) ?_
  simp -implicitDefEqProofs only [go_sem, w1]
  refine Call.intro (up_c _ h1 (by omega) (by omega)) ?_
  simp -implicitDefEqProofs only [go_sem, w1]
  refine Call.intro (over_c _ bK (g1.mono (by omega)) (by omega) hb0) ?_
  generalize n * 2 ^ K / m = q at *
  generalize decide (n * 2 ^ K % m = 0) = whole at *
  cases na <;> cases nb
  · simp -implicitDefEqProofs only [go_sem, w1, w2, w3, eff]
    refine Call.intro (marked_c _ false whole bq (by omega) (e := e - (K : Int) - f) ⟨by omega, by omega⟩) ?_
    simp -implicitDefEqProofs only [go_sem]
    rfl
  · simp -implicitDefEqProofs only [go_sem, w1, w2, w3, eft]
    refine Call.intro (marked_c _ true whole bq (by omega) (e := e - (K : Int) - f) ⟨by omega, by omega⟩) ?_
    simp -implicitDefEqProofs only [go_sem]
    rfl
  · simp -implicitDefEqProofs only [go_sem, w1, w2, w3, etf]
    refine Call.intro (marked_c _ true whole bq (by omega) (e := e - (K : Int) - f) ⟨by omega, by omega⟩) ?_
    simp -implicitDefEqProofs only [go_sem]
    rfl
  · simp -implicitDefEqProofs only [go_sem, w1, w2, w3, ett]
    refine Call.intro (marked_c _ false whole bq (by omega) (e := e - (K : Int) - f) ⟨by omega, by omega⟩) ?_
    simp -implicitDefEqProofs only [go_sem]
    rfl
theorem bneF {x y : Int} (h : x = y) : (x != y) = false := by rw [h]; exact bne_self_eq_false y
theorem bneT {x y : Int} (h : x ≠ y) : (x != y) = true := bne_iff_ne.2 h
theorem tm2 {z : Int} : z.tmod 2 = 0 ↔ z % 2 = 0 := by
  constructor
  · intro h
    have := Int.dvd_of_tmod_eq_zero h
    omega
  · intro h
    exact Int.tmod_eq_zero_of_dvd (by omega)
theorem td2 {z : Int} (h : z % 2 = 0) (hb : -100000000 ≤ z ∧ z ≤ 100000000) : IntKind.i64.wrap (z.tdiv 2) = z / 2 := by
  obtain ⟨t, rfl⟩ : ∃ t, z = 2 * t := ⟨z / 2, by omega⟩
  rw [Int.mul_tdiv_cancel_left t (by decide), w64 (by omega)]; omega
theorem rooted_c (E : Nat → Option Value) {a : Nm} {k : Nat} (ha : NOk a k) (hk : k ≤ 1000000) : DCall Tryz.prog E 56 [nmD a] (.data (nmD (nroot a))) := by
  refine dcall_of Tryz.func56 rfl (by kernel_rfl) Tryz.ntmps56 (by kernel_rfl) (by simp) (rs := [.cell 2 70]) rfl ?_
  rintro ⟨P, E, σ0, w0, base, n, kb, df⟩ rfl rfl rfl rfl
  obtain ⟨na, n, e⟩ := a
  obtain ⟨h1, h2, h3⟩ := ha
  simp only at h1 h2 h3
  have w0 : IntKind.i64.wrap (e - 130) = e - 130 := w64 (by omega)
  have b1 : ∀ j, Bd (n * 2 ^ j) (k + j) := fun j => h1.up
  by_cases hev : (e - 130) % 2 = 0
  · have hK : rootk e = 130 := by unfold rootk; rw [if_pos hev]
    have hq : nroot ⟨na, n, e⟩ = nmark false (isq (n * 2 ^ 130)) ((e - 130) / 2) (decide (isq (n * 2 ^ 130) * isq (n * 2 ^ 130) = n * 2 ^ 130)) := by unfold nroot; simp only [hK]; rfl
    rw [hq]
    have e1 : ((e - 130).tmod 2 != 0) = false := bneF (tm2.2 hev)
    have w1 := td2 hev ⟨by omega, by omega⟩
    have bq := (b1 130).le (Nat.le_trans (sq_ge _) (isq_spec (n * 2 ^ 130)).1)
    obtain ⟨N, hN⟩ : ∃ N, n * 2 ^ 130 = N := ⟨_, rfl⟩
    have hu := up_c E (k := 130) h1 (by omega) (by omega)
    have bN := b1 130
    rw [hN] at hu bq bN ⊢
    have hr := root_c E bN (by omega)
    have hm := marked_c E false (decide (isq N * isq N = N)) bq (by omega) (e := (e - 130) / 2) ⟨by omega, by omega⟩
    simp -implicitDefEqProofs only [go_sem, w0, e1]
    refine Call.intro hu ?_
    simp -implicitDefEqProofs only [go_sem]
    refine Call.intro hr ?_
    simp -implicitDefEqProofs only [go_sem, w0, w1]
    refine Call.intro hm ?_
    simp -implicitDefEqProofs only [go_sem]
  · have hK : rootk e = 131 := by unfold rootk; rw [if_neg hev]
    have hq : nroot ⟨na, n, e⟩ = nmark false (isq (n * 2 ^ 131)) ((e - 131) / 2) (decide (isq (n * 2 ^ 131) * isq (n * 2 ^ 131) = n * 2 ^ 131)) := by unfold nroot; simp only [hK]; rfl
    rw [hq]
    have e1 : ((e - 130).tmod 2 != 0) = true := bneT (fun h => hev (tm2.1 h))
    have e2 := tB e1
    have w1 := td2 (z := e - 131) (by omega) ⟨by omega, by omega⟩
    have w2 : IntKind.i64.wrap (e - 131) = e - 131 := w64 (by omega)
    have w3 : IntKind.i64.wrap (130 + 1) = 131 := by decide
    have bq := (b1 131).le (Nat.le_trans (sq_ge _) (isq_spec (n * 2 ^ 131)).1)
    obtain ⟨N, hN⟩ : ∃ N, n * 2 ^ 131 = N := ⟨_, rfl⟩
    have hu := up_c E (k := 131) h1 (by omega) (by omega)
    have bN := b1 131
    rw [hN] at hu bq bN ⊢
    have hr := root_c E bN (by omega)
    have hm := marked_c E false (decide (isq N * isq N = N)) bq (by omega) (e := (e - 131) / 2) ⟨by omega, by omega⟩
    simp -implicitDefEqProofs only [go_sem, w0, e2, w3]
    refine Call.intro hu ?_
    simp -implicitDefEqProofs only [go_sem]
    refine Call.intro hr ?_
    simp -implicitDefEqProofs only [go_sem, w3, w2, w1]
    refine Call.intro hm ?_
    simp -implicitDefEqProofs only [go_sem]
end Go.Enc
