/-
  Exact, of six types: the program's by contract, the document's by contract; they answer alike.
-/
import Derived.Test.YtjlibljfpkmpfaaGreatDoorRo
import Derived.Test.YtjlibljfpkmpfaaGreatDoorCn
import Derived.Test.YtjlibljfpkmpfaaGreatDoorMk2
set_option linter.unusedSimpArgs false
set_option maxRecDepth 100000
namespace Go.Enc
open Go.Proofs Go.Enc.Dg Go.Enc.Nu Go.Enc.Fl

def nwhole (n : Int) : Nm := ⟨decide (n < 0), n.natAbs, 0⟩
theorem val_whole (n : Int) : val (nwhole n) = (n : Rat) := by
  unfold val nwhole
  simp only [Rat.zpow_zero, Rat.mul_one]
  by_cases h : n < 0
  · rw [if_pos (by simpa using h)]
    have : ((n.natAbs : Nat) : Int) = -n := by omega
    have h2 : (((n.natAbs : Nat) : Int) : Rat) = ((-n : Int) : Rat) := by rw [this]
    rw [Rat.intCast_natCast] at h2
    rw [h2, Rat.intCast_neg]; grind
  · rw [if_neg (by simpa using h)]
    have : ((n.natAbs : Nat) : Int) = n := by omega
    have h2 : (((n.natAbs : Nat) : Int) : Rat) = ((n : Int) : Rat) := by rw [this]
    rwa [Rat.intCast_natCast] at h2
theorem nwhole_ok {n : Int} (h : -9223372036854775808 ≤ n ∧ n ≤ 9223372036854775807) : NOk (nwhole n) 64 := by
  refine ⟨?_, show (-1000000 : Int) ≤ 0 by decide, show (0 : Int) ≤ 1000000 by decide⟩
  unfold Bd
  show n.natAbs < 2 ^ 64
  omega
theorem rwhole_c (E : Nat → Option Value) {n : Int} (h : -9223372036854775808 ≤ n ∧ n ≤ 9223372036854775807) : DCall Tryz.prog E 64 [intD n] (.data (nmD (nwhole n))) := by
  refine dcall_of Tryz.func64 rfl (by kernel_rfl) Tryz.ntmps64 (by kernel_rfl) (by simp) (rs := [.cell 2 70]) rfl ?_
  rintro ⟨P, E, σ0, w0, base, n, kb, df⟩ rfl rfl rfl rfl
  by_cases h0 : 0 ≤ n
  · have e0 : decide (n ≥ 0) = true := tD h0
    have e1 : n = ((n.natAbs : Nat) : Int) := by omega
    have e2 : decide (n < 0) = false := fD (by omega)
    simp -implicitDefEqProofs only [go_sem, e0, nwhole, e2]
    refine Call.intro (r := .data (natD n.natAbs)) ?_ ?_
    · have := nat_c E n.natAbs (by omega)
      rwa [← e1] at this
    · simp -implicitDefEqProofs only [go_sem]
  · have e0 : decide (n ≥ 0) = false := fD h0
    have e2 : decide (n < 0) = true := tD (by omega)
    have w1 : IntKind.i64.wrap (n + 1) = n + 1 := w64 (by omega)
    have w2 : IntKind.i64.wrap (0 - (n + 1)) = ((n.natAbs - 1 : Nat) : Int) := by rw [w64 (by omega)]; omega
    simp -implicitDefEqProofs only [go_sem, e0, w1, w2, nwhole, e2]
    refine Call.intro (nat_c E (n.natAbs - 1) (by omega)) ?_
    simp -implicitDefEqProofs only [go_sem]
    refine Call.intro (nat_c E 1 (by omega)) ?_
    simp -implicitDefEqProofs only [go_sem]
    refine Call.intro (plus_c E (Bd.sm (k := 64) (by unfold Bd; omega) (by omega)) (Bd.sm (k := 64) (by unfold Bd; omega) (by omega))) ?_
    have e3 : n.natAbs - 1 + 1 = n.natAbs := by omega
    simp -implicitDefEqProofs only [go_sem, e3, e2]

theorem i32_range (x : Int) : -2147483648 ≤ IntKind.i32.wrap x ∧ IntKind.i32.wrap x ≤ 2147483647 := by rw [IntKind.wrap_i32]; omega
/-! The document's Exact. -/
def exactW (n : Int) : (Nat × Nat) × Int := aroundB (nwhole n) (nwhole n)
theorem rexact_w (E : Nat → Option Value) {k x : Int} (hk : k = 0 ∨ k = 2) (h : -9223372036854775808 ≤ x ∧ x ≤ 9223372036854775807) : DCall Tryz.prog E 22 [intD k, .v (.int .i64 x)] (.data (.tup [boxD (exactW x).1, intD (exactW x).2])) := by
  refine dcall_of Tryz.func22 rfl (by kernel_rfl) Tryz.ntmps22 (by kernel_rfl) (by simp) (rs := [.cell 4 27, .tmp 5]) rfl ?_
  rintro ⟨P, E, σ0, w0, base, n, kb, df⟩ rfl rfl rfl rfl
  have a := around_c E (nwhole_ok h) (nwhole_ok h) (by omega)
  unfold exactW
  generalize aroundB (nwhole x) (nwhole x) = R at *
  have w := rwhole_c E h
  rcases hk with rfl | rfl
  · simp -implicitDefEqProofs only [go_sem, Int.reduceBEq]
    refine Call.intro w ?_
    simp -implicitDefEqProofs only [go_sem]
    refine Call.intro a ?_
    simp -implicitDefEqProofs only [go_sem]
    refine fin_many ?_
    simp -implicitDefEqProofs only [go_sem]
  · simp -implicitDefEqProofs only [go_sem, Int.reduceBEq]
    refine Call.intro w ?_
    simp -implicitDefEqProofs only [go_sem]
    refine Call.intro a ?_
    simp -implicitDefEqProofs only [go_sem]
    refine fin_many ?_
    simp -implicitDefEqProofs only [go_sem]
theorem rexact_s (E : Nat → Option Value) {k x : Int} (hk : k = 1 ∨ k = 4) : DCall Tryz.prog E 22 [intD k, .v (.int .i64 x)] (.data (.tup [boxD (exactW (IntKind.i32.wrap x)).1, intD (exactW (IntKind.i32.wrap x)).2])) := by
  refine dcall_of Tryz.func22 rfl (by kernel_rfl) Tryz.ntmps22 (by kernel_rfl) (by simp) (rs := [.cell 4 27, .tmp 5]) rfl ?_
  rintro ⟨P, E, σ0, w0, base, n, kb, df⟩ rfl rfl rfl rfl
  have hr := i32_range x
  obtain ⟨y, hy⟩ : ∃ y, IntKind.i32.wrap x = y := ⟨_, rfl⟩
  rw [hy] at hr ⊢
  have h : -9223372036854775808 ≤ y ∧ y ≤ 9223372036854775807 := by omega
  have a := around_c E (nwhole_ok h) (nwhole_ok h) (by omega)
  have wy : IntKind.i64.wrap y = y := w64 h
  unfold exactW
  generalize aroundB (nwhole y) (nwhole y) = R at *
  have w := rwhole_c E h
  rcases hk with rfl | rfl
  · simp -implicitDefEqProofs only [go_sem, Int.reduceBEq, hy, wy]
    refine Call.intro w ?_
    simp -implicitDefEqProofs only [go_sem]
    refine Call.intro a ?_
    simp -implicitDefEqProofs only [go_sem]
    refine fin_many ?_
    simp -implicitDefEqProofs only [go_sem]
  · simp -implicitDefEqProofs only [go_sem, Int.reduceBEq, hy, wy]
    refine Call.intro w ?_
    simp -implicitDefEqProofs only [go_sem]
    refine Call.intro a ?_
    simp -implicitDefEqProofs only [go_sem]
    refine fin_many ?_
    simp -implicitDefEqProofs only [go_sem]
def exactF (b : Nat) : (Nat × Nat) × Int := if (nplain b).2 = true then aroundB (nplain b).1 (nplain b).1 else ((0, 0), 1)
theorem rexact_f (E : Nat → Option Value) {k x : Int} {b : Nat} (hk : k = 3 ∨ k = 5) (hx : IntKind.u64.wrap x = (b : Int)) (hb : b < 18446744073709551616) : DCall Tryz.prog E 22 [intD k, .v (.int .i64 x)] (.data (.tup [boxD (exactF b).1, intD (exactF b).2])) := by
  refine dcall_of Tryz.func22 rfl (by kernel_rfl) Tryz.ntmps22 (by kernel_rfl) (by simp) (rs := [.cell 4 27, .tmp 5]) rfl ?_
  rintro ⟨P, E, σ0, w0, base, n, kb, df⟩ rfl rfl rfl rfl
  have a := around_c E (nplain_nok b) (nplain_nok b) (by omega)
  have p := plainr_c E hb
  obtain ⟨R, hR⟩ : ∃ R, exactF b = R := ⟨_, rfl⟩
  rw [hR]
  unfold exactF at hR
  generalize aroundB (nplain b).1 (nplain b).1 = A at *
  generalize (nplain b).1 = m at *
  generalize (nplain b).2 = o at *
  cases o
  · rw [if_neg (by decide)] at hR
    subst hR
    rcases hk with rfl | rfl
    · simp -implicitDefEqProofs only [go_sem, Int.reduceBEq, hx]
      refine Call.intro p ?_
      simp -implicitDefEqProofs only [go_sem]
      refine fin_many ?_
      simp -implicitDefEqProofs only [go_sem]
    · simp -implicitDefEqProofs only [go_sem, Int.reduceBEq, hx]
      refine Call.intro p ?_
      simp -implicitDefEqProofs only [go_sem]
      refine fin_many ?_
      simp -implicitDefEqProofs only [go_sem]
  · rw [if_pos rfl] at hR
    subst hR
    rcases hk with rfl | rfl
    · simp -implicitDefEqProofs only [go_sem, Int.reduceBEq, hx]
      refine Call.intro p ?_
      simp -implicitDefEqProofs only [go_sem]
      refine Call.intro a ?_
      simp -implicitDefEqProofs only [go_sem]
      refine fin_many ?_
      simp -implicitDefEqProofs only [go_sem]
    · simp -implicitDefEqProofs only [go_sem, Int.reduceBEq, hx]
      refine Call.intro p ?_
      simp -implicitDefEqProofs only [go_sem]
      refine Call.intro a ?_
      simp -implicitDefEqProofs only [go_sem]
      refine fin_many ?_
      simp -implicitDefEqProofs only [go_sem]
theorem rexact_o (E : Nat → Option Value) {k x : Int} (hk : k < 0 ∨ 5 < k) : DCall Tryz.prog E 22 [intD k, .v (.int .i64 x)] (.data (.tup [boxD (0, 0), intD 0])) := by
  refine dcall_of Tryz.func22 rfl (by kernel_rfl) Tryz.ntmps22 (by kernel_rfl) (by simp) (rs := [.cell 4 27, .tmp 5]) rfl ?_
  rintro ⟨P, E, σ0, w0, base, n, kb, df⟩ rfl rfl rfl rfl
  have e0 : (k == 0) = false := beqF (by omega)
  have e1 : (k == 1) = false := beqF (by omega)
  have e2 : (k == 2) = false := beqF (by omega)
  have e3 : (k == 3) = false := beqF (by omega)
  have e4 : (k == 4) = false := beqF (by omega)
  have e5 : (k == 5) = false := beqF (by omega)
  simp -implicitDefEqProofs only [go_sem, e0, e1, e2, e3, e4, e5]
  refine fin_many ?_
  simp -implicitDefEqProofs only [go_sem]

/-! The program's Exact. -/
theorem exactI_c (E : Nat → Option Value) {n : Int} {lo hi : Nat} (hn : -9223372036854775808 ≤ n ∧ n ≤ 9223372036854775807) (h1 : DCall Tryz.prog E 103 [.v (.int .i64 n), intD (-1)] (.data (flD lo))) (h2 : DCall Tryz.prog E 103 [.v (.int .i64 n), intD 1] (.data (flD hi))) :
    DCall Tryz.prog E 58 [.v (.int .i64 n)] (.data (.tup [ivD (lo, hi), .v .nilIface])) := by
  refine dcall_of Tryz.func58 rfl (by kernel_rfl) Tryz.ntmps58 (by kernel_rfl) (by simp) (rs := [.cell 2 59, .tmp 3]) rfl ?_
  rintro ⟨P, E, σ0, w0, base, n, kb, df⟩ rfl rfl rfl rfl
  have e0 : floatToIntVal .f64 4602678819172646912 .i64 = some 0 := by decide +kernel
  have e1 : ((0 : Int) != 0) = false := by decide
  have w : IntKind.i64.wrap n = n := w64 hn
  simp -implicitDefEqProofs only [go_sem, e0, e1, w]
  refine Call.intro h1 ?_
  simp -implicitDefEqProofs only [go_sem, w]
  refine Call.intro h2 ?_
  simp -implicitDefEqProofs only [go_sem]
  refine fin_many ?_
  simp -implicitDefEqProofs only [go_sem]
theorem exact32_c (E : Nat → Option Value) {n : Int} {lo hi : Nat} (hn : -9223372036854775808 ≤ n ∧ n ≤ 9223372036854775807) (h1 : DCall Tryz.prog E 103 [.v (.int .i64 n), intD (-1)] (.data (flD lo))) (h2 : DCall Tryz.prog E 103 [.v (.int .i64 n), intD 1] (.data (flD hi))) :
    DCall Tryz.prog E 59 [.v (.int .i32 n)] (.data (.tup [ivD (lo, hi), .v .nilIface])) := by
  refine dcall_of Tryz.func59 rfl (by kernel_rfl) Tryz.ntmps59 (by kernel_rfl) (by simp) (rs := [.cell 2 59, .tmp 3]) rfl ?_
  rintro ⟨P, E, σ0, w0, base, n, kb, df⟩ rfl rfl rfl rfl
  have e0 : floatToIntVal .f64 4602678819172646912 .i32 = some 0 := by decide +kernel
  have e1 : ((0 : Int) != 0) = false := by decide
  have w : IntKind.i64.wrap n = n := w64 hn
  simp -implicitDefEqProofs only [go_sem, e0, e1, w]
  refine Call.intro h1 ?_
  simp -implicitDefEqProofs only [go_sem, w]
  refine Call.intro h2 ?_
  simp -implicitDefEqProofs only [go_sem]
  refine fin_many ?_
  simp -implicitDefEqProofs only [go_sem]
theorem exactS_c (E : Nat → Option Value) {n : Int} {lo hi : Nat} (hn : -9223372036854775808 ≤ n ∧ n ≤ 9223372036854775807) (h1 : DCall Tryz.prog E 103 [.v (.int .i64 n), intD (-1)] (.data (flD lo))) (h2 : DCall Tryz.prog E 103 [.v (.int .i64 n), intD 1] (.data (flD hi))) :
    DCall Tryz.prog E 62 [.v (.int .i32 n)] (.data (.tup [ivD (lo, hi), .v .nilIface])) := by
  refine dcall_of Tryz.func62 rfl (by kernel_rfl) Tryz.ntmps62 (by kernel_rfl) (by simp) (rs := [.cell 2 59, .tmp 3]) rfl ?_
  rintro ⟨P, E, σ0, w0, base, n, kb, df⟩ rfl rfl rfl rfl
  have e0 : floatToIntVal .f64 4602678819172646912 .i32 = some 0 := by decide +kernel
  have e1 : ((0 : Int) != 0) = false := by decide
  have w : IntKind.i64.wrap n = n := w64 hn
  simp -implicitDefEqProofs only [go_sem, e0, e1, w]
  refine Call.intro h1 ?_
  simp -implicitDefEqProofs only [go_sem, w]
  refine Call.intro h2 ?_
  simp -implicitDefEqProofs only [go_sem]
  refine fin_many ?_
  simp -implicitDefEqProofs only [go_sem]
theorem exactF_c (E : Nat → Option Value) {b : Nat} {r : Nat × Nat} {e : D} (hm : DCall Tryz.prog E 30 [flD b, flD b] (.data (.tup [ivD r, e]))) :
    DCall Tryz.prog E 61 [flD b] (.data (.tup [ivD r, e])) := by
  refine dcall_of Tryz.func61 rfl (by kernel_rfl) Tryz.ntmps61 (by kernel_rfl) (by simp) (rs := [.cell 2 59, .tmp 3]) rfl ?_
  rintro ⟨P, E, σ0, w0, base, n, kb, df⟩ rfl rfl rfl rfl
  have e1 : (FloatKind.f64.format.order 4602678819172646912 0 != some Ordering.eq) = true := by
    rw [ord_ne (show Num 4602678819172646912 by decide) (show Num 0 by decide)]; decide
  have e2 := tV e1
  simp -implicitDefEqProofs only [go_sem, e2]
  refine Call.intro hm ?_
  simp -implicitDefEqProofs only [go_sem]
  refine fin_many ?_
  simp -implicitDefEqProofs only [go_sem]
theorem exactR_c (E : Nat → Option Value) {b : Nat} {r : Nat × Nat} {e : D} (hm : DCall Tryz.prog E 30 [flD b, flD b] (.data (.tup [ivD r, e]))) :
    DCall Tryz.prog E 63 [flD b] (.data (.tup [ivD r, e])) := by
  refine dcall_of Tryz.func63 rfl (by kernel_rfl) Tryz.ntmps63 (by kernel_rfl) (by simp) (rs := [.cell 2 59, .tmp 3]) rfl ?_
  rintro ⟨P, E, σ0, w0, base, n, kb, df⟩ rfl rfl rfl rfl
  have e1 : (FloatKind.f64.format.order 4602678819172646912 0 != some Ordering.eq) = true := by
    rw [ord_ne (show Num 4602678819172646912 by decide) (show Num 0 by decide)]; decide
  have e2 := tV e1
  simp -implicitDefEqProofs only [go_sem, e2]
  refine Call.intro hm ?_
  simp -implicitDefEqProofs only [go_sem]
  refine fin_many ?_
  simp -implicitDefEqProofs only [go_sem]
theorem pexact0_k (E : Nat → Option Value) {x : Int} {r : Nat × Nat} {n : Int} {s : ByteArray} {e : D} (wx : IntKind.i64.wrap x = x) (h1 : DCall Tryz.prog E 58 [.v (.int .i64 x)] (.data (.tup [ivD r, e]))) (h2 : DCall Tryz.prog E 32 [e] (.data (.tup [intD n, strD s]))) :
    DCall Tryz.prog E 21 [intD 0, .v (.int .i64 x)] (.data (.tup [boxD r, intD n])) := by
  refine dcall_of Tryz.func21 rfl (by kernel_rfl) Tryz.ntmps21 (by kernel_rfl) (by simp) (rs := [.cell 4 32, .tmp 5]) rfl ?_
  rintro ⟨P, E, σ0, w0, base, n, kb, df⟩ rfl rfl rfl rfl
  simp -implicitDefEqProofs only [go_sem, Int.reduceBEq]
  refine Call.intro h1 ?_
  simp -implicitDefEqProofs only [go_sem]
  refine Call.intro h2 ?_
  simp -implicitDefEqProofs only [go_sem]
  refine Call.intro (pbox_c _ r) ?_
  simp -implicitDefEqProofs only [go_sem]
  refine fin_many ?_
  simp -implicitDefEqProofs only [go_sem]
theorem pexact1_k (E : Nat → Option Value) {x : Int} {r : Nat × Nat} {n : Int} {s : ByteArray} {e : D} (h1 : DCall Tryz.prog E 59 [.v (.int .i32 (IntKind.i32.wrap x))] (.data (.tup [ivD r, e]))) (h2 : DCall Tryz.prog E 32 [e] (.data (.tup [intD n, strD s]))) :
    DCall Tryz.prog E 21 [intD 1, .v (.int .i64 x)] (.data (.tup [boxD r, intD n])) := by
  refine dcall_of Tryz.func21 rfl (by kernel_rfl) Tryz.ntmps21 (by kernel_rfl) (by simp) (rs := [.cell 4 32, .tmp 5]) rfl ?_
  rintro ⟨P, E, σ0, w0, base, n, kb, df⟩ rfl rfl rfl rfl
  simp -implicitDefEqProofs only [go_sem, Int.reduceBEq]
  refine Call.intro h1 ?_
  simp -implicitDefEqProofs only [go_sem]
  refine Call.intro h2 ?_
  simp -implicitDefEqProofs only [go_sem]
  refine Call.intro (pbox_c _ r) ?_
  simp -implicitDefEqProofs only [go_sem]
  refine fin_many ?_
  simp -implicitDefEqProofs only [go_sem]
theorem pexact3_k (E : Nat → Option Value) {x : Int} {b : Nat} {r : Nat × Nat} {n : Int} {s : ByteArray} {e : D} (hx : IntKind.u64.wrap x = (b : Int)) (h1 : DCall Tryz.prog E 61 [flD b] (.data (.tup [ivD r, e]))) (h2 : DCall Tryz.prog E 32 [e] (.data (.tup [intD n, strD s]))) :
    DCall Tryz.prog E 21 [intD 3, .v (.int .i64 x)] (.data (.tup [boxD r, intD n])) := by
  refine dcall_of Tryz.func21 rfl (by kernel_rfl) Tryz.ntmps21 (by kernel_rfl) (by simp) (rs := [.cell 4 32, .tmp 5]) rfl ?_
  rintro ⟨P, E, σ0, w0, base, n, kb, df⟩ rfl rfl rfl rfl
  simp -implicitDefEqProofs only [go_sem, Int.reduceBEq, hx, Int.toNat_natCast]
  refine Call.intro (float_c _ b) ?_
  simp -implicitDefEqProofs only [go_sem, Int.reduceBEq, hx, Int.toNat_natCast]
  refine Call.intro h1 ?_
  simp -implicitDefEqProofs only [go_sem]
  refine Call.intro h2 ?_
  simp -implicitDefEqProofs only [go_sem]
  refine Call.intro (pbox_c _ r) ?_
  simp -implicitDefEqProofs only [go_sem]
  refine fin_many ?_
  simp -implicitDefEqProofs only [go_sem]
theorem pexact4_k (E : Nat → Option Value) {x : Int} {r : Nat × Nat} {n : Int} {s : ByteArray} {e : D} (h1 : DCall Tryz.prog E 62 [.v (.int .i32 (IntKind.i32.wrap x))] (.data (.tup [ivD r, e]))) (h2 : DCall Tryz.prog E 32 [e] (.data (.tup [intD n, strD s]))) :
    DCall Tryz.prog E 21 [intD 4, .v (.int .i64 x)] (.data (.tup [boxD r, intD n])) := by
  refine dcall_of Tryz.func21 rfl (by kernel_rfl) Tryz.ntmps21 (by kernel_rfl) (by simp) (rs := [.cell 4 32, .tmp 5]) rfl ?_
  rintro ⟨P, E, σ0, w0, base, n, kb, df⟩ rfl rfl rfl rfl
  simp -implicitDefEqProofs only [go_sem, Int.reduceBEq]
  refine Call.intro h1 ?_
  simp -implicitDefEqProofs only [go_sem]
  refine Call.intro h2 ?_
  simp -implicitDefEqProofs only [go_sem]
  refine Call.intro (pbox_c _ r) ?_
  simp -implicitDefEqProofs only [go_sem]
  refine fin_many ?_
  simp -implicitDefEqProofs only [go_sem]
theorem pexact5_k (E : Nat → Option Value) {x : Int} {b : Nat} {r : Nat × Nat} {n : Int} {s : ByteArray} {e : D} (hx : IntKind.u64.wrap x = (b : Int)) (h1 : DCall Tryz.prog E 63 [flD b] (.data (.tup [ivD r, e]))) (h2 : DCall Tryz.prog E 32 [e] (.data (.tup [intD n, strD s]))) :
    DCall Tryz.prog E 21 [intD 5, .v (.int .i64 x)] (.data (.tup [boxD r, intD n])) := by
  refine dcall_of Tryz.func21 rfl (by kernel_rfl) Tryz.ntmps21 (by kernel_rfl) (by simp) (rs := [.cell 4 32, .tmp 5]) rfl ?_
  rintro ⟨P, E, σ0, w0, base, n, kb, df⟩ rfl rfl rfl rfl
  simp -implicitDefEqProofs only [go_sem, Int.reduceBEq, hx, Int.toNat_natCast]
  refine Call.intro (float_c _ b) ?_
  simp -implicitDefEqProofs only [go_sem, Int.reduceBEq, hx, Int.toNat_natCast]
  refine Call.intro h1 ?_
  simp -implicitDefEqProofs only [go_sem]
  refine Call.intro h2 ?_
  simp -implicitDefEqProofs only [go_sem]
  refine Call.intro (pbox_c _ r) ?_
  simp -implicitDefEqProofs only [go_sem]
  refine fin_many ?_
  simp -implicitDefEqProofs only [go_sem]
theorem pexactO_k (E : Nat → Option Value) {k x : Int} (hk : k < 0 ∨ 5 < k) : DCall Tryz.prog E 21 [intD k, .v (.int .i64 x)] (.data (.tup [boxD (0, 0), intD 0])) := by
  refine dcall_of Tryz.func21 rfl (by kernel_rfl) Tryz.ntmps21 (by kernel_rfl) (by simp) (rs := [.cell 4 32, .tmp 5]) rfl ?_
  rintro ⟨P, E, σ0, w0, base, n, kb, df⟩ rfl rfl rfl rfl
  have e0 : (k == 0) = false := beqF (by omega)
  have e1 : (k == 1) = false := beqF (by omega)
  have e2 : (k == 2) = false := beqF (by omega)
  have e3 : (k == 3) = false := beqF (by omega)
  have e4 : (k == 4) = false := beqF (by omega)
  have e5 : (k == 5) = false := beqF (by omega)
  simp -implicitDefEqProofs only [go_sem, e0, e1, e2, e3, e4, e5]
  refine Call.intro (code_nil E) ?_
  simp -implicitDefEqProofs only [go_sem]
  refine Call.intro (pbox_c _ (0, 0)) ?_
  simp -implicitDefEqProofs only [go_sem]
  refine fin_many ?_
  simp -implicitDefEqProofs only [go_sem]
end Go.Enc
