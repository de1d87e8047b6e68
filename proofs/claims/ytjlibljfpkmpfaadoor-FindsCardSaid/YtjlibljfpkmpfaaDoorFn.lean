/-
  One step of the law Finds.
-/
import Derived.Test.YtjlibljfpkmpfaaDoorEy
import Derived.Test.YtjlibljfpkmpfaaDoorKn
set_option linter.unusedSimpArgs false
set_option maxRecDepth 100000
namespace Go.Enc
open Go.Proofs Go.Enc.Dg Go.Enc.Nu Go.Enc.Fl Go.RowKit

theorem ofInt_mask {n m : Int} {k : Nat} (hm : (BitVec.ofInt 64 m).toNat = 2 ^ k - 1) (hk : k ≤ 32) : ((BitVec.ofInt 64 n &&& BitVec.ofInt 64 m).toNat : Int) = n % 2 ^ k := by
  rw [BitVec.toNat_and, hm, Nat.and_two_pow_sub_one_eq_mod, BitVec.toNat_ofInt]
  have h1 : (2 : Int) ^ k ∣ 2 ^ 64 := ⟨2 ^ (64 - k), by rw [← Int.pow_add]; congr 1; omega⟩
  rw [Int.natCast_emod, Int.natCast_pow, Int.toNat_of_nonneg (Int.emod_nonneg _ (by decide))]
  exact Int.emod_emod_of_dvd n h1
theorem and_mask {n m : Int} {k : Nat} (hm : (BitVec.ofInt 64 m).toNat = 2 ^ k - 1) (hk : k ≤ 32) : pint .and .i64 n m = some (.int .i64 (n % 2 ^ k)) := by
  show some (Value.int .i64 (IntKind.i64.wrap ((BitVec.ofInt 64 n &&& BitVec.ofInt 64 m).toNat : Int))) = _
  rw [ofInt_mask hm hk]
  have h1 : (0 : Int) < 2 ^ k := Int.pow_pos (by decide)
  have h2 := Int.emod_nonneg n (Int.ne_of_gt h1)
  have h3 := Int.emod_lt_of_pos n h1
  have h4 : (2 : Int) ^ k ≤ 2 ^ 32 := by
    have : 2 ^ k ≤ 2 ^ 32 := Nat.pow_le_pow_right (by decide) hk
    exact_mod_cast this
  rw [w64 ⟨by omega, by have : (2 : Int) ^ 32 = 4294967296 := rfl; omega⟩]
/-- A number of so many bits. -/
def sm4 (n : Int) : Int := n % 16 - 8
def sm5 (n : Int) : Int := n % 32 - 16
theorem small4_c (E : Nat → Option Value) (n : Int) : DCall Tryd.prog E 12 [intD n, intD 4] (.data (intD (sm4 n))) := by
  refine dcall_of Tryd.func12 rfl (by kernel_rfl) Tryd.ntmps12 (by kernel_rfl) (by simp) (rs := [.tmp 4]) rfl ?_
  rintro ⟨P, E, σ0, w0, base, n, kb, df⟩ rfl rfl rfl rfl
  have q1 : pint .and .i64 n 15 = some (.int .i64 (n % 16)) := and_mask (k := 4) (by decide) (by decide)
  have w1 : IntKind.i64.wrap (1 * 2 ^ min 4 64) = 16 := by decide
  have w2 : IntKind.i64.wrap (16 - 1) = 15 := by decide
  have w3 : IntKind.i64.wrap (4 - 1) = 3 := by decide
  have w4 : IntKind.i64.wrap (1 * 2 ^ min 3 64) = 8 := by decide
  have w5 : IntKind.i64.wrap (n % 16 - 8) = sm4 n := by rw [w64 (by omega)]; rfl
  simp -implicitDefEqProofs only [go_sem, Option.some.injEq, Value.int.injEq, true_and] at q1
  simp -implicitDefEqProofs only [go_sem]
  refine drawn_intro (by kernel_rfl) (by kernel_rfl) (by kernel_rfl) ?_
  simp -implicitDefEqProofs only [go_sem, w1, w2, w3, w4, q1, w5, finK]
theorem small5_c (E : Nat → Option Value) (n : Int) : DCall Tryd.prog E 12 [intD n, intD 5] (.data (intD (sm5 n))) := by
  refine dcall_of Tryd.func12 rfl (by kernel_rfl) Tryd.ntmps12 (by kernel_rfl) (by simp) (rs := [.tmp 4]) rfl ?_
  rintro ⟨P, E, σ0, w0, base, n, kb, df⟩ rfl rfl rfl rfl
  have q1 : pint .and .i64 n 31 = some (.int .i64 (n % 32)) := and_mask (k := 5) (by decide) (by decide)
  have w1 : IntKind.i64.wrap (1 * 2 ^ min 5 64) = 32 := by decide
  have w2 : IntKind.i64.wrap (32 - 1) = 31 := by decide
  have w3 : IntKind.i64.wrap (5 - 1) = 4 := by decide
  have w4 : IntKind.i64.wrap (1 * 2 ^ min 4 64) = 16 := by decide
  have w5 : IntKind.i64.wrap (n % 32 - 16) = sm5 n := by rw [w64 (by omega)]; rfl
  simp -implicitDefEqProofs only [go_sem, Option.some.injEq, Value.int.injEq, true_and] at q1
  simp -implicitDefEqProofs only [go_sem]
  refine drawn_intro (by kernel_rfl) (by kernel_rfl) (by kernel_rfl) ?_
  simp -implicitDefEqProofs only [go_sem, w1, w2, w3, w4, q1, w5, finK]
/-- Does a box hold a whole number? -/
def hB (Y : Nat × Nat) (n : Int) : Bool := !nless (nwhole n) (nplain Y.1).1 && !nless (nplain Y.2).1 (nwhole n)
theorem hB_in {Y : Nat × Nat} (g : Gd Y) {n : Int} (h : In Y (n : Rat)) : hB Y n = true := by
  unfold hB
  have f1 : nless (nwhole n) (nplain Y.1).1 = false := by
    rw [nless_iff, val_whole, nplain_val g.l1 g.p1]; exact decide_eq_false (by have := h.1; grind)
  have f2 : nless (nplain Y.2).1 (nwhole n) = false := by
    rw [nless_iff, val_whole, nplain_val g.l2 g.p2]; exact decide_eq_false (by have := h.2; grind)
  rw [f1, f2]; rfl
theorem lholds_b (E : Nat → Option Value) {x : Nat × Nat} (g : Gd x) {n : Int} (hn : -2305843009213693952 ≤ n ∧ n ≤ 2305843009213693952) : DCall Tryd.prog E 15 [boxD x, intD n] (.data (bD (hB x n))) := by
  obtain ⟨lo, hi⟩ := x
  have hm := make_c E g.l1 g.l2
  have hM : makeB lo hi = ((lo, hi), 0) := by
    have := ((makeB_cases g.l1 g.l2).2 (by rw [g.p1, g.p2]; simp)).2 (by have := g.le; omega)
    rw [this, g.q1, g.q2]
  rw [hM] at hm
  have hd := made_k E hm (plainr_c E g.l1) (plainr_c E g.l2)
  have k1 := (nplain_nok lo).mono (j := 62) (by omega)
  have k2 := (nplain_nok hi).mono (j := 62) (by omega)
  exact lholds_k E (holds_k E hm hd (rwhole_c E hn) (less_c E (nwhole_ok hn) k1 (by omega)) (less_c E k2 (nwhole_ok hn) (by omega)))
section
variable {E : Nat → Option Value} {q : Nat → Addr}
def fiA (o : OpD) : Int := sm4 o.a
def fiB (o : OpD) : Int := sm4 (o.a.fdiv (2 ^ min 4 64))
def fiC (o : OpD) : Int := sm4 (o.a.fdiv (2 ^ min 8 64))
/-- The polynomial's numbers. -/
def csL (a b c : Int) : List Int := [-a * b * c, a * b + a * c + b * c, -a - b - c, 1]
abbrev isD (l : List Int) : D := .sl 1 (l.map fun n => .v (.int .i64 n))
abbrev cellsO (o : OpD) : List T := o.cells.map T.d
abbrev fS1 (o : OpD) (a b c : Int) : St := St.of [(1, .ptr 1 0), (2, .d (bD false)), (3, .d (intD a)), (4, .d (intD b)), (5, .d (intD c)), (6, .gs 57)] [(1, ⟨none, cellsO o⟩), (57, ⟨some (3, 1, false), (csL a b c).map fun n => .d (intD n)⟩)]
theorem mul_abs {x y : Int} {m n : Nat} (hx : x.natAbs ≤ m) (hy : y.natAbs ≤ n) : (x * y).natAbs ≤ m * n := by
  rw [Int.natAbs_mul]; exact Nat.mul_le_mul hx hy
theorem wab {n : Int} {m : Nat} (h : n.natAbs ≤ m) (hm : m ≤ 1152921504606846976) : IntKind.i64.wrap n = n := w64 (by omega)
set_option maxHeartbeats 4000000 in
theorem finds_1 (o : OpD) {C : Ctx} (hP : C.P = Tryd.prog) (hE : C.E = E) (hn : C.n = 174) (hk : C.kb = 0) {c : Code} (hcode : Tryd.f8.body = some c) :
    DC C (cutC 5 c).1 (QW (fS1 o (fiA o) (fiB o) (fiC o))) (St.init [opD o]) := by
  have s1 := small4_c E o.a
  have s2 := small4_c E (o.a.fdiv (2 ^ min 4 64))
  have s3 := small4_c E (o.a.fdiv (2 ^ min 8 64))
  obtain ⟨a, ha⟩ : ∃ a, a = fiA o := ⟨_, rfl⟩
  obtain ⟨b, hb⟩ : ∃ b, b = fiB o := ⟨_, rfl⟩
  obtain ⟨c', hc⟩ : ∃ c, c = fiC o := ⟨_, rfl⟩
  have e1 : sm4 o.a = a := ha.symm
  have e2 : sm4 (o.a.fdiv (2 ^ min 4 64)) = b := hb.symm
  have e3 : sm4 (o.a.fdiv (2 ^ min 8 64)) = c' := hc.symm
  have ra : a.natAbs ≤ 8 := by rw [← e1]; unfold sm4; omega
  have rb : b.natAbs ≤ 8 := by rw [← e2]; unfold sm4; omega
  have rc : c'.natAbs ≤ 8 := by rw [← e3]; unfold sm4; omega
  have r1 := mul_abs ra rb
  have r2 := mul_abs ra rc
  have r3 := mul_abs rb rc
  have r4 := mul_abs (x := -a) (m := 8) (by omega) rb
  have r5 := mul_abs r4 rc
  have w1 : IntKind.i64.wrap (0 - a) = -a := by rw [Int.zero_sub]; exact wab (m := 8) (by omega) (by omega)
  have w2 : IntKind.i64.wrap (-a * b) = -a * b := wab r4 (by omega)
  have w3 : IntKind.i64.wrap (-a * b * c') = -a * b * c' := wab r5 (by omega)
  have w4 : IntKind.i64.wrap (a * b) = a * b := wab r1 (by omega)
  have w5 : IntKind.i64.wrap (a * c') = a * c' := wab r2 (by omega)
  have w6 : IntKind.i64.wrap (b * c') = b * c' := wab r3 (by omega)
  have w7 : IntKind.i64.wrap (a * b + a * c') = a * b + a * c' := wab (m := 128) (by omega) (by omega)
  have w8 : IntKind.i64.wrap (a * b + a * c' + b * c') = a * b + a * c' + b * c' := wab (m := 192) (by omega) (by omega)
  have w9 : IntKind.i64.wrap (-a - b) = -a - b := wab (m := 16) (by omega) (by omega)
  have w10 : IntKind.i64.wrap (-a - b - c') = -a - b - c' := wab (m := 24) (by omega) (by omega)
  rw [e1] at s1
  rw [e2] at s2
  rw [e3] at s3
  rw [← ha, ← hb, ← hc]
  obtain ⟨P, E', σ0, w0, base, n, kb, df⟩ := C
  simp only at hP hE hn hk
  subst hP hE hn hk
  simp only [Tryd.f8, Option.some.injEq] at hcode
  subst hcode
  simp only [cutC]
  simp -implicitDefEqProofs only [go_sem, OpD.cells, iD, uD]
  refine Call.intro s1 ?_
  simp -implicitDefEqProofs only [go_sem]
  refine Call.intro s2 ?_
  simp -implicitDefEqProofs only [go_sem]
  refine Call.intro s3 ?_
  simp -implicitDefEqProofs only [go_sem, w1, w2, w3, w4, w5, w6, w7, w8, w9, w10, QW, fS1]
  refine weak_of ?_ ?_ (by simp [refsOk, refIn, T.ref, OpD.cells, csL])
  · simp -implicitDefEqProofs only [go_sem]
  · simp -implicitDefEqProofs only [go_sem, cellsO, OpD.cells, iD, uD, csL]
end
end Go.Enc
