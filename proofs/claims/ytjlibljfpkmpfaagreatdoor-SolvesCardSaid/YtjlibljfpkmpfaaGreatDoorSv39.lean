/-
  What is fair, by its number.
  The document's operations on intervals, by contract.
  The document's operations on boxes, each by contract.
  The program's operations on intervals: Neg, Hull, Meet, Sqrt; package plain's Op by its kinds.
  Exact, of six types: the program's by contract, the document's by contract; they answer alike.
  Exact answers as the document says: a step of kind 4 answers true.
  Every operation answers as the document says: a step of kind 2 answers true.
  The small functions of the judge.
-/
import Derived.Test.YtjlibljfpkmpfaaGreatDoorSv38
import Derived.Test.YtjlibljfpkmpfaaGreatDoorSv29
import Derived.Test.YtjlibljfpkmpfaaGreatDoorSv33
import Derived.Test.YtjlibljfpkmpfaaGreatDoorSv21
import Derived.Test.YtjlibljfpkmpfaaGreatDoorSv19
import Derived.Test.YtjlibljfpkmpfaaGreatDoorSv34
section
set_option linter.unusedSimpArgs false
namespace Go.Enc
open Go.Proofs Go.Enc.Fl
theorem am_neg (x : Rat) : am (-x) = am x := by unfold am; split <;> split <;> grind
theorem am_of_nonneg {x : Rat} (h : 0 ≤ x) : am x = x := by unfold am; rw [if_pos h]
theorem am_idx (b : Nat) : am (v (idx b)) = v ((b % 2 ^ 63 : Nat) : Int) := by
  have h0 : 0 ≤ v ((b % 2 ^ 63 : Nat) : Int) := by
    have := v_le (i := 0) (j := ((b % 2 ^ 63 : Nat) : Int)) (by omega)
    rw [v_zero] at this
    exact this
  unfold idx
  split
  · rw [v_neg, am_neg, am_of_nonneg h0]
  · exact am_of_nonneg h0
theorem fairO_v (b : Nat) : fairO b = true ↔ v (idx b) = 0 ∨ ((2 : Rat) ^ (-30 : Int) ≤ am (v (idx b)) ∧ am (v (idx b)) ≤ 2 ^ (30 : Int)) := by
  have e1 : v (pw 993) = 2 ^ (-30 : Int) := v_pw 993 (by omega)
  have e2 : v (pw 1053) = 2 ^ (30 : Int) := v_pw 1053 (by omega)
  have p1 : pw 993 = 4472074429978902528 := by decide
  have p2 : pw 1053 = 4742290407621132288 := by decide
  have z : v (idx b) = 0 ↔ b % 2 ^ 63 = 0 := by
    rw [← idx_zero]
    exact ⟨fun h => v_inj (by rw [h, v_zero]), fun h => by rw [h, v_zero]⟩
  rw [am_idx, ← e1, ← e2, v_le_iff, v_le_iff, z, p1, p2]
  unfold fairO
  simp only [Bool.or_eq_true, Bool.and_eq_true, decide_eq_true_eq]
  omega
theorem fairO_lw {b : Nat} (h : fairO b = true) : Lw 30 (v (idx b)) ∧ am (v (idx b)) ≤ 1073741824 := by
  have e30 : (2 : Rat) ^ (30 : Int) = 1073741824 := by decide +kernel
  rcases (fairO_v b).1 h with h | ⟨h1, h2⟩
  · rw [h]
    exact ⟨.inl rfl, by decide +kernel⟩
  · rw [e30] at h2
    exact ⟨Lw.of_am h1, h2⟩
theorem fairs_iff {f : Nat → Nat × Nat} : ∀ {m : Nat}, fairs f m = true ↔ ∀ j, j < m → fairB (f j) = true
  | 0 => by simp [fairs]
  | m + 1 => by
    simp only [fairs, Bool.and_eq_true, fairs_iff (m := m)]
    exact ⟨fun h j hj => by
      rcases Nat.lt_or_ge j m with g | g
      · exact h.1 j g
      · rw [show j = m by omega]; exact h.2, fun h => ⟨fun j hj => h j (by omega), h m (by omega)⟩⟩
theorem fairR_iff {A : Nat → Nat → Nat × Nat} {m : Nat} : ∀ {i : Nat}, fairR A m i = true ↔ ∀ r j, r < i → j < m → fairB (A r j) = true
  | 0 => by simp [fairR]
  | i + 1 => by
    simp only [fairR, Bool.and_eq_true, fairR_iff (i := i), fairs_iff]
    exact ⟨fun h r j hr hj => by
      rcases Nat.lt_or_ge r i with g | g
      · exact h.1 r j g hj
      · rw [show r = i by omega]; exact h.2 j hj, fun h => ⟨fun r j hr hj => h r j (by omega) hj, fun j hj => h i j (by omega) hj⟩⟩
theorem fairB_v (x : Nat × Nat) : fairB x = true ↔ fairO x.1 = true ∧ fairO x.2 = true := by unfold fairB; rw [Bool.and_eq_true]
/-- Single fair numbers. -/
theorem pts_of {A : Nat → Nat → Nat × Nat} {a : Nat → Nat → Rat} {n : Nat} (hG : ∀ i j, i < n → j ≤ n → Gd (A i j)) (hf : fairR A (n + 1) n = true) (he : ∀ i j, i < n → j ≤ n → iL (A i j) = a i j ∧ iH (A i j) = a i j) : Pts A a n := by
  have h := fairR_iff.1 hf
  refine ⟨hG, he, fun i j hi hj => ?_, fun i j hi hj => ?_⟩
  · have := fairO_lw ((fairB_v _).1 (h i j hi (by omega))).1
    have e := (he i j hi hj).1
    unfold iL at e
    rw [e] at this
    exact this.1
  · have := fairO_lw ((fairB_v _).1 (h i j hi (by omega))).1
    have e := (he i j hi hj).1
    unfold iL at e
    rw [e] at this
    exact this.2
end Go.Enc
end
section
set_option linter.unusedSimpArgs false
set_option maxRecDepth 100000
namespace Go.Enc
open Go.Proofs Go.Enc.Dg Go.Enc.Nu
/-- A plain float's number is small. -/
structure Nt (a : Nm) : Prop where
  n : Bd a.n 53
  lo : -1000 ≤ a.e
  hi : a.e ≤ 1000
theorem Nt.ok {a : Nm} (h : Nt a) : NOk a 53 := by
  obtain ⟨h1, h2, h3⟩ := h
  exact ⟨h1, by omega, by omega⟩
theorem Nt.prod {a b : Nm} (h : Nt a) (g : Nt b) : NOk (nprod a b) 106 := by
  obtain ⟨h1, h2, h3⟩ := h
  obtain ⟨g1, g2, g3⟩ := g
  exact ⟨h1.mul g1, by show -1000000 ≤ a.e + b.e; omega, by show a.e + b.e ≤ 1000000; omega⟩
theorem bd_mark {q n : Nat} (w : Bool) (h : Bd q n) : Bd (2 * q + w.toNat) (n + 1) := by
  unfold Bd at *
  rw [Nat.pow_succ]
  cases w <;> simp only [Bool.toNat_true, Bool.toNat_false] <;> omega
theorem Nt.root {a : Nm} (h : Nt a) : NOk (nroot a) 200 := by
  obtain ⟨h1, h2, h3⟩ := h
  have hk : rootk a.e ≤ 131 := by unfold rootk; split <;> omega
  refine ⟨?_, ?_, ?_⟩
  · have h4 : Bd (isq (a.n * 2 ^ rootk a.e)) (53 + rootk a.e) := Bd.le h1.up (Nat.le_trans (sq_ge _) (isq_spec _).1)
    exact (bd_mark (!decide (isq (a.n * 2 ^ rootk a.e) * isq (a.n * 2 ^ rootk a.e) = a.n * 2 ^ rootk a.e)) h4).mono (by omega)
  · show -1000000 ≤ (a.e - (rootk a.e : Int)) / 2 - 1; omega
  · show (a.e - (rootk a.e : Int)) / 2 - 1 ≤ 1000000; omega
end Go.Enc
end
section
set_option linter.unusedSimpArgs false
set_option maxRecDepth 100000
namespace Go.Enc
open Go.Proofs Go.Enc.Dg Go.Enc.Nu
section
variable (E : Nat → Option Value) {x y : Nat × Nat} {a1 a2 b1 b2 : Nm}
end
end Go.Enc
end
section
set_option linter.unusedSimpArgs false
set_option maxRecDepth 100000
namespace Go.Enc
open Go.Proofs Go.Enc.Fl
end Go.Enc
end
section
set_option linter.unusedSimpArgs false
set_option maxRecDepth 100000
namespace Go.Enc
open Go.Proofs Go.Enc.Dg Go.Enc.Nu Go.Enc.Fl
end Go.Enc
end
section
set_option linter.unusedSimpArgs false
set_option maxRecDepth 100000
namespace Go.Enc
open Go.Proofs Go.Enc.Dg Go.Enc.Nu Go.Enc.Fl
end Go.Enc
end
section
set_option linter.unusedSimpArgs false
set_option maxRecDepth 100000
namespace Go.Enc
open Go.Proofs Go.Enc.Dg Go.Enc.Nu Go.Enc.Fl
theorem mk2_gd {x : Nat × Nat} (h1 : x.1 < 18446744073709551616) (h2 : x.2 < 18446744073709551616) : Gd (mk2 x) := by
  obtain ⟨c1, c2⟩ := makeB_cases h1 h2
  have z : Gd (0, 0) := ⟨by decide, by decide, by decide, by decide, by decide, rfl, rfl⟩
  unfold mk2
  by_cases h : plainB x.1 = false ∨ plainB x.2 = false
  · rw [c1 h]; exact z
  · by_cases h' : idx x.2 < idx x.1
    · rw [(c2 h).1 h']; exact z
    · rw [(c2 h).2 h']
      have p1 : plainB x.1 = true := by cases hx : plainB x.1; exact absurd (.inl hx) h; rfl
      have p2 : plainB x.2 = true := by cases hx : plainB x.2; exact absurd (.inr hx) h; rfl
      exact ⟨posB_lt h1, posB_lt h2, posB_plain p1, posB_plain p2, by simp only [posB_idx]; omega, posB_pos _, posB_pos _⟩
theorem pmade_c {E : Nat → Option Value} {q : Nat → Addr} (hq : Sent E q) {x : Nat × Nat} (h1 : x.1 < 18446744073709551616) (h2 : x.2 < 18446744073709551616) : DCall Tryz.prog E 37 [boxD x] (.data (ivD (mk2 x))) := by
  have hm := imake_c hq h1 h2
  obtain ⟨c1, c2⟩ := makeB_cases h1 h2
  unfold makeP at hm
  unfold mk2
  by_cases h : plainB x.1 = false ∨ plainB x.2 = false
  · rw [if_pos h] at hm
    rw [c1 h]; exact pmade_k E hm
  · rw [if_neg h] at hm
    by_cases h' : idx x.2 < idx x.1
    · rw [if_pos h'] at hm
      rw [(c2 h).1 h']; exact pmade_k E hm
    · rw [if_neg h'] at hm
      rw [(c2 h).2 h']; exact pmade_k E hm
end Go.Enc
end
section
set_option linter.unusedSimpArgs false
set_option maxRecDepth 100000
namespace Go.Enc
open Go.Proofs Go.Enc.Dg Go.Enc.Nu Go.Enc.Fl Go.RowKit
/-- A number's amount. -/
def nam (a : Nm) : Nm := ⟨false, a.n, a.e⟩
theorem val_nam (a : Nm) : val (nam a) = am (val a) := by
  have h0 : (0 : Rat) ≤ ((a.n : Nat) : Rat) * 2 ^ a.e := Rat.mul_nonneg (by exact_mod_cast Nat.zero_le _) (Rat.le_of_lt (zpow2_pos _))
  have e1 : val (nam a) = ((a.n : Nat) : Rat) * 2 ^ a.e := rfl
  rw [e1]
  unfold val
  split
  · rw [Rat.neg_mul, am_neg, am_of_nonneg h0]
  · rw [am_of_nonneg h0]
theorem amount_c (E : Nat → Option Value) (a : Nm) : DCall Tryz.prog E 139 [nmD a] (.data (nmD (nam a))) := by
  refine dcall_of Tryz.func139 rfl (by kernel_rfl) Tryz.ntmps139 (by kernel_rfl) (by simp) (rs := [.cell 2 70]) rfl ?_
  rintro ⟨P, E, σ0, w0, base, n, kb, df, G0⟩ rfl rfl rfl rfl
  obtain ⟨neg, n, e⟩ := a
  simp -implicitDefEqProofs only [go_sem, nam]
/-- One number of an interval. -/
def chN (a b : Nm) (p : Int) : Nm := if p % 4 = 0 then a else if p % 4 = 1 then b else ⟨(nsum a b).neg, (nsum a b).n, (nsum a b).e - 1⟩
theorem andz3 (n : Int) : pint .and .i64 n 3 = some (.int .i64 (n % 4)) := by
  have e : (BitVec.ofInt 64 3).toNat = 2 ^ 2 - 1 := by decide
  have : ((BitVec.ofInt 64 n &&& BitVec.ofInt 64 3).toNat : Int) = n % 4 := by
    rw [BitVec.toNat_and, e, Nat.and_two_pow_sub_one_eq_mod, BitVec.toNat_ofInt]
    omega
  show some (Value.int .i64 (IntKind.i64.wrap ((BitVec.ofInt 64 n &&& BitVec.ofInt 64 3).toNat : Int))) = _
  rw [this, w64 (by omega)]
theorem chosen_c (E : Nat → Option Value) {x : Nat × Nat} {a b : Nm} (hm : DCall Tryz.prog E 46 [boxD x] (.data (nvD a b))) (ha : Nr a 60 100) (hb : Nr b 60 100) (p : Int) : DCall Tryz.prog E 140 [boxD x, intD p] (.data (nmD (chN a b p))) := by
  refine dcall_of Tryz.func140 rfl (by kernel_rfl) Tryz.ntmps140 (by kernel_rfl) (by simp) (rs := [.cell 4 70]) rfl ?_
  rintro ⟨P, E, σ0, w0, base, n, kb, df, G0⟩ rfl rfl rfl rfl
  have q1 := andz3 p
  simp -implicitDefEqProofs only [go_sem, Option.some.injEq, Value.int.injEq, true_and] at q1
  have s := (ha.sum hb)
  have s1 := s.lo
  have s2 := s.hi
  have w1 : IntKind.i64.wrap ((nsum a b).e - 1) = (nsum a b).e - 1 := w64 (by omega)
  simp -implicitDefEqProofs only [go_sem]
  refine Call.intro hm ?_
  by_cases h0 : p % 4 = 0
  · have e0 := tB (show ((p % 4) == 0) = true by rw [h0]; rfl)
    have hc : chN a b p = a := by unfold chN; rw [if_pos h0]
    rw [hc]
    simp -implicitDefEqProofs only [go_sem, q1, e0]
  · have e0 := tV (show ((p % 4) == 0) = false by simp [h0])
    by_cases h1 : p % 4 = 1
    · have e1 := tB (show ((p % 4) == 1) = true by rw [h1]; rfl)
      have hc : chN a b p = b := by unfold chN; rw [if_neg h0, if_pos h1]
      rw [hc]
      simp -implicitDefEqProofs only [go_sem, q1, e0, e1]
    · have e1 := tV (show ((p % 4) == 1) = false by simp [h1])
      have hc : chN a b p = ⟨(nsum a b).neg, (nsum a b).n, (nsum a b).e - 1⟩ := by unfold chN; rw [if_neg h0, if_neg h1]
      rw [hc]
      simp -implicitDefEqProofs only [go_sem, q1, e0, e1]
      refine Call.intro (sum_c _ ((ha.ok (by omega)).mono (j := 60) (by omega)) ((hb.ok (by omega)).mono (by omega)) (by omega)) ?_
      simp -implicitDefEqProofs only [go_sem, w1]
/-- The document's shape. -/
def shapB (a : Nat) (w : Int) (n : Nat) : Bool := decide (1 ≤ n ∧ n ≤ 4 ∧ 1 ≤ w ∧ ((n = 1 ∧ a = 1) ∨ (n ≠ 1 ∧ w = n ∧ a = n * n)))
theorem shaped_c (E : Nat → Option Value) {L L' : List (Nat × Nat)} (hL : L.length ≤ 1000000) (hL' : L'.length * 16 ≤ 140737488355328) (w : Int) : DCall Tryz.prog E 108 [.sl 2 (boxC L), intD w, .sl 2 (boxC L')] (.data (bD (shapB L.length w L'.length))) := by
  refine dcall_of Tryz.func108 rfl (by kernel_rfl) Tryz.ntmps108 (by kernel_rfl) (by simp) (rs := [.tmp 6]) rfl ?_
  rintro ⟨P, E, σ0, w0, base, n, kb, df, G0⟩ rfl rfl rfl rfl
  have cl := boxC_lq
  have d2 := div_two
  obtain ⟨n, hn⟩ : ∃ n, L'.length = n := ⟨_, rfl⟩
  obtain ⟨a, ha⟩ : ∃ a, L.length = a := ⟨_, rfl⟩
  rw [hn] at hL'
  rw [ha] at hL
  rw [hn, ha]
  by_cases h1 : n < 1
  · have e1 := tB (tD (show (n : Int) < 1 by omega))
    have hs : shapB a w n = false := by unfold shapB; exact decide_eq_false (by omega)
    rw [hs]
    simp -implicitDefEqProofs only [go_sem, cl, d2, hn, ha, e1, finK]
  have e1 := tV (fD (show ¬ (n : Int) < 1 by omega))
  by_cases h2 : n > 4
  · have e2 := tB (tD (show (n : Int) > 4 by omega))
    have hs : shapB a w n = false := by unfold shapB; exact decide_eq_false (by omega)
    rw [hs]
    simp -implicitDefEqProofs only [go_sem, cl, d2, hn, ha, e1, e2, finK]
  have e2 := tV (fD (show ¬ (n : Int) > 4 by omega))
  by_cases h3 : w < 1
  · have e3 := tB (tD h3)
    have hs : shapB a w n = false := by unfold shapB; exact decide_eq_false (by omega)
    rw [hs]
    simp -implicitDefEqProofs only [go_sem, cl, d2, hn, ha, e1, e2, e3, finK]
  have e3 := tV (fD h3)
  by_cases h4 : n = 1
  · have e4 := tB (show ((n : Int) == 1) = true by rw [h4]; rfl)
    have hs : shapB a w n = ((a : Int) == 1) := by
      unfold shapB
      rw [Bool.eq_iff_iff, decide_eq_true_eq, beq_iff_eq]
      omega
    rw [hs]
    simp -implicitDefEqProofs only [go_sem, cl, d2, hn, ha, e1, e2, e3, e4, finK]
  have e4 := tV (show ((n : Int) == 1) = false by simp; omega)
  by_cases h5 : w = n
  · have e5 := tB (show (w == (n : Int)) = true by simp [h5])
    have w1 : IntKind.i64.wrap ((n : Int) * n) = ((n * n : Nat) : Int) := by
      have : n * n ≤ 4 * 4 := Nat.mul_le_mul (by omega) (by omega)
      rw [Int.natCast_mul, w64]
      have e : ((n * n : Nat) : Int) = (n : Int) * n := Int.natCast_mul n n
      omega
    have hs : shapB a w n = ((a : Int) == ((n * n : Nat) : Int)) := by
      unfold shapB
      rw [Bool.eq_iff_iff, decide_eq_true_eq, beq_iff_eq]
      omega
    rw [hs]
    simp -implicitDefEqProofs only [go_sem, cl, d2, hn, ha, e1, e2, e3, e4, e5, w1, finK]
  · have e5 := tV (show (w == (n : Int)) = false by simp [h5])
    have hs : shapB a w n = false := by unfold shapB; exact decide_eq_false (by omega)
    rw [hs]
    simp -implicitDefEqProofs only [go_sem, cl, d2, hn, ha, e1, e2, e3, e4, e5, finK]
end Go.Enc
end
