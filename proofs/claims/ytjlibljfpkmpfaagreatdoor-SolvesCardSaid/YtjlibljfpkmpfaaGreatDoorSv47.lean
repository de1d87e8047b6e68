/-
  A step of the law Solves, walked.
-/
import Derived.Test.YtjlibljfpkmpfaaGreatDoorSv46
set_option linter.unusedSimpArgs false
set_option maxRecDepth 100000
namespace Go.Enc
open Go.Proofs Go.Enc.Dg Go.Enc.Nu Go.Enc.Fl Go.RowKit
theorem ofInt_maskz {n m : Int} {k : Nat} (hm : (BitVec.ofInt 64 m).toNat = 2 ^ k - 1) (hk : k ≤ 32) : ((BitVec.ofInt 64 n &&& BitVec.ofInt 64 m).toNat : Int) = n % 2 ^ k := by
  rw [BitVec.toNat_and, hm, Nat.and_two_pow_sub_one_eq_mod, BitVec.toNat_ofInt]
  have h1 : (2 : Int) ^ k ∣ 2 ^ 64 := ⟨2 ^ (64 - k), by rw [← Int.pow_add]; congr 1; omega⟩
  rw [Int.natCast_emod, Int.natCast_pow, Int.toNat_of_nonneg (Int.emod_nonneg _ (by decide))]
  exact Int.emod_emod_of_dvd n h1
theorem and_maskz {n m : Int} {k : Nat} (hm : (BitVec.ofInt 64 m).toNat = 2 ^ k - 1) (hk : k ≤ 32) : pint .and .i64 n m = some (.int .i64 (n % 2 ^ k)) := by
  show some (Value.int .i64 (IntKind.i64.wrap ((BitVec.ofInt 64 n &&& BitVec.ofInt 64 m).toNat : Int))) = _
  rw [ofInt_maskz hm hk]
  have h1 : (0 : Int) < 2 ^ k := Int.pow_pos (by decide)
  have h2 := Int.emod_nonneg n (Int.ne_of_gt h1)
  have h3 := Int.emod_lt_of_pos n h1
  have h4 : (2 : Int) ^ k ≤ 2 ^ 32 := by
    have : 2 ^ k ≤ 2 ^ 32 := Nat.pow_le_pow_right (by decide) hk
    exact_mod_cast this
  rw [w64 ⟨by omega, by have : (2 : Int) ^ 32 = 4294967296 := rfl; omega⟩]
/-- The system that a step speaks of: its size, width; how many boxes its square has. -/
def soN (o : OpD) : Nat := if o.a < 0 ∨ 5 < o.a then 2 else o.a.toNat
def soW (o : OpD) : Int := if o.b % 8 = 7 then 1 + o.b.fdiv (2 ^ min 3 64) % 4 else soN o
def soJ (o : OpD) : Nat := if o.b % 8 = 7 then ((1 + o.b.fdiv (2 ^ min 3 64) % 4) * (1 + o.b.fdiv (2 ^ min 5 64) % 4) - o.b.fdiv (2 ^ min 7 64) % 2).toNat else soN o * soN o
def soK (o : OpD) : Nat := min (soJ o) (o.p.length / 2)
abbrev soA (o : OpD) : List (Nat × Nat) := (boxL o.p).take (soK o)
abbrev soB (o : OpD) : List (Nat × Nat) := (boxL o.p).drop (soK o)
abbrev soP (o : OpD) : Int := o.b.fdiv (2 ^ min 3 64)
theorem soN_le (o : OpD) : soN o ≤ 5 := by unfold soN; split <;> omega
theorem mul_small {x y : Int} (hx : 1 ≤ x ∧ x ≤ 4) (hy : 1 ≤ y ∧ y ≤ 4) : 1 ≤ x * y ∧ x * y ≤ 16 := by
  obtain ⟨m, rfl⟩ : ∃ m : Nat, x = m := ⟨x.toNat, by omega⟩
  obtain ⟨k, rfl⟩ : ∃ k : Nat, y = k := ⟨y.toNat, by omega⟩
  have h1 : m * k ≤ 4 * 4 := Nat.mul_le_mul (by omega) (by omega)
  have h2 : 1 * 1 ≤ m * k := Nat.mul_le_mul (by omega) (by omega)
  have e : ((m * k : Nat) : Int) = (m : Int) * k := Int.natCast_mul m k
  omega
theorem soJ_le (o : OpD) : soJ o ≤ 25 := by
  unfold soJ
  have h5 : soN o * soN o ≤ 5 * 5 := Nat.mul_le_mul (soN_le o) (soN_le o)
  split
  · have := mul_small (x := 1 + o.b.fdiv (2 ^ min 3 64) % 4) (y := 1 + o.b.fdiv (2 ^ min 5 64) % 4) (by omega) (by omega)
    omega
  · exact h5
theorem soK_le (o : OpD) : soK o ≤ 25 := by
  have := soJ_le o
  unfold soK
  omega
section
variable {E : Nat → Option Value} {q : Nat → Addr}
abbrev cellsP (o : OpD) : List T := o.cells.map T.d
abbrev sS1 (o : OpD) : St := St.of [(1, .ptr 1 0), (3, .d (.sl 2 (boxC (boxL o.p)))), (4, .d (intD (soN o)))] [(1, ⟨none, cellsP o⟩)]
abbrev sS2 (o : OpD) : St := St.of [(1, .ptr 1 0), (3, .d (.sl 2 (boxC (boxL o.p)))), (4, .d (intD (soN o))), (5, .d (intD (min (soN o * soN o) (o.p.length / 2) : Nat)))] [(1, ⟨none, cellsP o⟩)]
abbrev sS3 (o : OpD) : St := St.of [(1, .ptr 1 0), (3, .d (.sl 2 (boxC (boxL o.p)))), (5, .d (intD (soK o))), (6, .d (intD (soW o)))] [(1, ⟨none, cellsP o⟩)]
theorem solv_1 (o : OpD) (hp : o.p.length * 8 ≤ 140737488355328) {C : Ctx} (hP : C.P = Tryz.prog) (hE : C.E = E) (hn : C.n = 111) (hk : C.kb = 0) {c : Code} (hcode : Tryz.f29.body = some c) :
    DC C (cutC 4 c).1 (QW (sS1 o)) (St.init [opD o]) := by
  have hb := boxed_c E hp
  obtain ⟨P, E', σ0, w0, base, n, kb, df, G0⟩ := C
  simp only at hP hE hn hk
  subst hP hE hn hk
  simp only [Tryz.f29, Option.some.injEq] at hcode
  subst hcode
  simp only [cutC]
  simp -implicitDefEqProofs only [go_sem, OpD.cells, iD, uD]
  refine Call.intro hb ?_
  have fin1 : (if o.a < 0 ∨ 5 < o.a then 2 else o.a.toNat) = soN o := rfl
  by_cases h1 : o.a < 0
  · have e1 := tB (tD h1)
    have sn : soN o = 2 := by unfold soN; rw [if_pos (.inl h1)]
    simp -implicitDefEqProofs only [go_sem, e1, QW, sS1]
    refine weak_of ?_ ?_ (by simp [refsOk, refIn, T.ref, OpD.cells])
    · have c2 : ((2 : Nat) : Int) = 2 := rfl
      simp -implicitDefEqProofs only [go_sem, sn, c2]
    · simp -implicitDefEqProofs only [go_sem, cellsP, OpD.cells, iD, uD]
  · have e1 := tV (fD h1)
    by_cases h2 : o.a > 5
    · have e2 := tB (tD h2)
      have sn : soN o = 2 := by unfold soN; rw [if_pos (.inr h2)]
      simp -implicitDefEqProofs only [go_sem, e1, e2, QW, sS1]
      refine weak_of ?_ ?_ (by simp [refsOk, refIn, T.ref, OpD.cells])
      · have c2 : ((2 : Nat) : Int) = 2 := rfl
        simp -implicitDefEqProofs only [go_sem, sn, c2]
      · simp -implicitDefEqProofs only [go_sem, cellsP, OpD.cells, iD, uD]
    · have e2 := tV (fD h2)
      have sn : ((soN o : Nat) : Int) = o.a := by unfold soN; rw [if_neg (by omega)]; omega
      simp -implicitDefEqProofs only [go_sem, e1, e2, QW, sS1]
      refine weak_of ?_ ?_ (by simp [refsOk, refIn, T.ref, OpD.cells])
      · simp -implicitDefEqProofs only [go_sem, sn]
      · simp -implicitDefEqProofs only [go_sem, cellsP, OpD.cells, iD, uD]
theorem solv_2 (o : OpD) {C : Ctx} (hP : C.P = Tryz.prog) (hE : C.E = E) (hn : C.n = 111) (hk : C.kb = 0) {c : Code} (hcode : Tryz.f29.body = some c) :
    DC C (cutC 2 (cutC 4 c).2).1 (QW (sS2 o)) (sS1 o) := by
  have hl := boxC_lq (boxL o.p)
  rw [boxL_len] at hl
  have d2 := div_two
  have h5 : soN o * soN o ≤ 5 * 5 := Nat.mul_le_mul (soN_le o) (soN_le o)
  have w1 : IntKind.i64.wrap ((soN o : Int) * (soN o : Int)) = ((soN o * soN o : Nat) : Int) := by rw [← Int.natCast_mul, w64 (by omega)]
  obtain ⟨P, E', σ0, w0, base, n, kb, df, G0⟩ := C
  simp only at hP hE hn hk
  subst hP hE hn hk
  simp only [Tryz.f29, Option.some.injEq] at hcode
  subst hcode
  simp only [cutC]
  simp only [sS1]
  by_cases h : soN o * soN o > o.p.length / 2
  · have e1 := tB (tD (show ((soN o * soN o : Nat) : Int) > ((o.p.length / 2 : Nat) : Int) by omega))
    have em : min (soN o * soN o) (o.p.length / 2) = o.p.length / 2 := by omega
    simp -implicitDefEqProofs only [go_sem, w1, hl, d2, e1, QW, sS2]
    refine weak_of ?_ ?_ (by simp [refsOk, refIn, T.ref, OpD.cells])
    · simp -implicitDefEqProofs only [go_sem, em]
    · simp -implicitDefEqProofs only [go_sem]
  · have e1 := tV (fD (show ¬ ((soN o * soN o : Nat) : Int) > ((o.p.length / 2 : Nat) : Int) by omega))
    have em : min (soN o * soN o) (o.p.length / 2) = soN o * soN o := by omega
    simp -implicitDefEqProofs only [go_sem, w1, hl, d2, e1, QW, sS2]
    refine weak_of ?_ ?_ (by simp [refsOk, refIn, T.ref, OpD.cells])
    · simp -implicitDefEqProofs only [go_sem, em]
    · simp -implicitDefEqProofs only [go_sem]
theorem solv_3 (o : OpD) {C : Ctx} (hP : C.P = Tryz.prog) (hE : C.E = E) (hn : C.n = 111) (hk : C.kb = 0) {c : Code} (hcode : Tryz.f29.body = some c) :
    DC C (cutC 2 (cutC 2 (cutC 4 c).2).2).1 (QW (sS3 o)) (sS2 o) := by
  have hl := boxC_lq (boxL o.p)
  rw [boxL_len] at hl
  have d2 := div_two
  have q7 : pint .and .i64 o.b 7 = some (.int .i64 (o.b % 2 ^ 3)) := and_maskz (k := 3) (by decide) (by decide)
  have q3 : pint .and .i64 (o.b.fdiv (2 ^ min 3 64)) 3 = some (.int .i64 (o.b.fdiv (2 ^ min 3 64) % 2 ^ 2)) := and_maskz (k := 2) (by decide) (by decide)
  have q5 : pint .and .i64 (o.b.fdiv (2 ^ min 5 64)) 3 = some (.int .i64 (o.b.fdiv (2 ^ min 5 64) % 2 ^ 2)) := and_maskz (k := 2) (by decide) (by decide)
  have q1 : pint .and .i64 (o.b.fdiv (2 ^ min 7 64)) 1 = some (.int .i64 (o.b.fdiv (2 ^ min 7 64) % 2 ^ 1)) := and_maskz (k := 1) (by decide) (by decide)
  have p3 : (2 : Int) ^ 3 = 8 := rfl
  have p2 : (2 : Int) ^ 2 = 4 := rfl
  have p1 : (2 : Int) ^ 1 = 2 := rfl
  rw [p3] at q7
  rw [p2] at q3 q5
  rw [p1] at q1
  simp -implicitDefEqProofs only [go_sem, Option.some.injEq, Value.int.injEq, true_and] at q7 q3 q5 q1
  obtain ⟨b3, hb3⟩ : ∃ b3, o.b.fdiv (2 ^ min 3 64) = b3 := ⟨_, rfl⟩
  obtain ⟨b5, hb5⟩ : ∃ b5, o.b.fdiv (2 ^ min 5 64) = b5 := ⟨_, rfl⟩
  obtain ⟨b7, hb7⟩ : ∃ b7, o.b.fdiv (2 ^ min 7 64) = b7 := ⟨_, rfl⟩
  have hW : soW o = if o.b % 8 = 7 then 1 + b3 % 4 else soN o := by unfold soW; rw [hb3]
  have hJ : soJ o = if o.b % 8 = 7 then ((1 + b3 % 4) * (1 + b5 % 4) - b7 % 2).toNat else soN o * soN o := by unfold soJ; rw [hb3, hb5, hb7]
  obtain ⟨P, E', σ0, w0, base, n, kb, df, G0⟩ := C
  simp only at hP hE hn hk
  subst hP hE hn hk
  simp only [Tryz.f29, Option.some.injEq] at hcode
  subst hcode
  simp only [cutC]
  simp only [sS2]
  by_cases h : o.b % 8 = 7
  · have e7 := tB (show (o.b % 8 == 7) = true by simp [h])
    rw [if_pos h] at hW hJ
    have ms := mul_small (x := 1 + b3 % 4) (y := 1 + b5 % 4) (by omega) (by omega)
    have w1 : IntKind.i64.wrap (1 + b3 % 4) = 1 + b3 % 4 := w64 (by omega)
    have w2 : IntKind.i64.wrap (1 + b5 % 4) = 1 + b5 % 4 := w64 (by omega)
    have w3 : IntKind.i64.wrap ((1 + b3 % 4) * (1 + b5 % 4)) = (1 + b3 % 4) * (1 + b5 % 4) := w64 (by omega)
    have w4 : IntKind.i64.wrap ((1 + b3 % 4) * (1 + b5 % 4) - b7 % 2) = ((soJ o : Nat) : Int) := by rw [w64 (by omega), hJ]; omega
    rw [hb3] at q3
    rw [hb5] at q5
    rw [hb7] at q1
    by_cases hc : soJ o > o.p.length / 2
    · have e1 := tB (tD (show ((soJ o : Nat) : Int) > ((o.p.length / 2 : Nat) : Int) by omega))
      have em : soK o = o.p.length / 2 := by unfold soK; omega
      simp -implicitDefEqProofs only [go_sem, cellsP, OpD.cells, iD, uD, q7, e7, hb3, hb5, hb7, q3, q5, q1, w1, w2, w3, w4, hl, d2, e1, QW, sS3]
      refine weak_of ?_ ?_ (by simp [refsOk, refIn, T.ref, OpD.cells])
      · simp -implicitDefEqProofs only [go_sem, em, hW]
      · simp -implicitDefEqProofs only [go_sem, cellsP, OpD.cells, iD, uD]
    · have e1 := tV (fD (show ¬ ((soJ o : Nat) : Int) > ((o.p.length / 2 : Nat) : Int) by omega))
      have em : soK o = soJ o := by unfold soK; omega
      simp -implicitDefEqProofs only [go_sem, cellsP, OpD.cells, iD, uD, q7, e7, hb3, hb5, hb7, q3, q5, q1, w1, w2, w3, w4, hl, d2, e1, QW, sS3]
      refine weak_of ?_ ?_ (by simp [refsOk, refIn, T.ref, OpD.cells])
      · simp -implicitDefEqProofs only [go_sem, em, hW]
      · simp -implicitDefEqProofs only [go_sem, cellsP, OpD.cells, iD, uD]
  · have e7 := tV (show (o.b % 8 == 7) = false by simp [h])
    rw [if_neg h] at hW hJ
    have em : soK o = min (soN o * soN o) (o.p.length / 2) := by unfold soK; rw [hJ]
    simp -implicitDefEqProofs only [go_sem, cellsP, OpD.cells, iD, uD, q7, e7, QW, sS3]
    refine weak_of ?_ ?_ (by simp [refsOk, refIn, T.ref, OpD.cells])
    · simp -implicitDefEqProofs only [go_sem, em, hW]
    · simp -implicitDefEqProofs only [go_sem, cellsP, OpD.cells, iD, uD]
theorem listed_nil (E : Nat → Option Value) : DCall Tryz.prog E 28 [.v (.slice none 0 0), .v (.slice none 0 0), intD 0] (.data (bD true)) := by
  have e1 := tV (fD (show ¬ (0 : Int) > 0 by omega))
  have e2 := tV (show ((0 : Int) != 0) = false from rfl)
  have eA : decide ((0 : Int) < 0) = false := by decide
  refine dcall_of Tryz.func28 rfl (by kernel_rfl) Tryz.ntmps28 (by kernel_rfl) (by simp) (rs := [.tmp 6]) rfl ?_
  rintro ⟨P, E, σ0, w0, base, n, kb, df, G0⟩ rfl rfl rfl rfl
  simp -implicitDefEqProofs only [go_sem, e1, e2]
  rw [stop_eq]
  refine dwp_loop (α := Unit) (fun _ => St.of [(0, .d (.v (.slice none 0 0))), (7, .d (intD 0))] []) (fun _ => 0) () (weak_of ?_ ?_ rfl) (by kernel_rfl) (fun _ => ?_)
  · simp -implicitDefEqProofs only [go_sem]
  · simp -implicitDefEqProofs only [go_sem]
  simp -implicitDefEqProofs only [go_sem, eA, finK]
theorem listed_0 (E : Nat → Option Value) {L : List (Nat × Nat)} (hL : L.length ≤ 1000000) : DCall Tryz.prog E 28 [.sl 2 (boxC L), .sl 2 (boxC L), intD 0] (.data (bD true)) := by
  have cl := boxC_lq L
  have d2 := div_two
  have e1 := tV (fD (show ¬ (0 : Int) > 0 by omega))
  have e2 := tV (show ((L.length : Int) != (L.length : Int)) = false by simp)
  refine dcall_of Tryz.func28 rfl (by kernel_rfl) Tryz.ntmps28 (by kernel_rfl) (by simp) (rs := [.tmp 6]) rfl ?_
  rintro ⟨P, E, σ0, w0, base, n, kb, df, G0⟩ rfl rfl rfl rfl
  simp -implicitDefEqProofs only [go_sem, e1, e2, cl, d2]
  rw [stop_eq]
  refine dwp_loop (α := {i : Nat // i ≤ L.length}) (fun i => St.of [(0, .d (.sl 2 (boxC L))), (1, .d (.sl 2 (boxC L))), (7, .d (intD (i.1 : Nat)))] []) (fun i => L.length - i.1) ⟨0, Nat.zero_le _⟩ (weak_of ?_ ?_ rfl) (by kernel_rfl) (fun i => ?_)
  · have c0 : ((0 : Nat) : Int) = 0 := rfl
    simp -implicitDefEqProofs only [go_sem, c0]
  · simp -implicitDefEqProofs only [go_sem]
  obtain ⟨i, hi⟩ := i
  by_cases hA : i < L.length
  · obtain ⟨X, hX⟩ : ∃ X, L[i]? = some X := ⟨_, List.getElem?_eq_getElem hA⟩
    have hx := boxC_tq hX
    have eA : decide ((i : Int) < (L.length : Int)) = true := tD (by omega)
    have w1 : IntKind.i64.wrap ((i : Int) + 1) = ((i + 1 : Nat) : Int) := addN1 (by omega)
    have y1 : i * 2 < L.length * 2 := by omega
    have y2 : i * 2 + 2 ≤ L.length * 2 := by omega
    obtain ⟨i', hi'⟩ : ∃ i' : {i : Nat // i ≤ L.length}, i'.1 = i + 1 := ⟨⟨i + 1, hA⟩, rfl⟩
    simp -implicitDefEqProofs only [go_sem, cl, d2, eA]
    refine drawn_intro (by kernel_rfl) (by kernel_rfl) (by kernel_rfl) ?_
    simp -implicitDefEqProofs only [go_sem, cl, d2, y1, y2, hx]
    refine Call.intro (same_c _ X) ?_
    simp -implicitDefEqProofs only [go_sem, w1]
    refine ⟨i', weak_of ?_ ?_ rfl, by simp only [hi']; omega⟩
    · simp -implicitDefEqProofs only [go_sem, hi']
    · simp -implicitDefEqProofs only [go_sem, hi']
  · have eA : decide ((i : Int) < (L.length : Int)) = false := fD (by omega)
    simp -implicitDefEqProofs only [go_sem, cl, d2, eA, finK]
theorem boxC_takes : ∀ (L : List (Nat × Nat)) (n : Nat), (boxC L).take (n * 2) = boxC (L.take n)
  | [], n => by simp [boxC]
  | X :: L, 0 => by simp [boxC]
  | X :: L, n + 1 => by
    have h := boxC_takes L n
    have e : ∀ M, boxC (X :: M) = .v (.int .u64 X.1) :: .v (.int .u64 X.2) :: boxC M := fun _ => rfl
    rw [Nat.add_mul, Nat.one_mul, List.take_succ_cons, e, e, ← h]
    rfl
theorem boxC_drops : ∀ (L : List (Nat × Nat)) (n : Nat), (boxC L).drop (n * 2) = boxC (L.drop n)
  | [], n => by simp [boxC]
  | X :: L, 0 => by simp
  | X :: L, n + 1 => by
    have h := boxC_drops L n
    have e : boxC (X :: L) = .v (.int .u64 X.1) :: .v (.int .u64 X.2) :: boxC L := rfl
    rw [Nat.add_mul, Nat.one_mul, e, List.drop_succ_cons, List.drop_succ_cons, h]
    rfl
theorem solv_4 (o : OpD) (hp : o.p.length * 8 ≤ 140737488355328) {y1 y2 : D} {e : Int} (hs : DCall Tryz.prog E 72 [.sl 2 (boxC (soA o)), intD (soW o), .sl 2 (boxC (soB o))] (.data (.tup [y1, intD e])))
    (ht : DCall Tryz.prog E 74 [y1] (.data y1)) (hli : DCall Tryz.prog E 28 [y1, y1, intD 0] (.data (bD true)))
    (hj : DCall Tryz.prog E 75 [.sl 2 (boxC (soA o)), intD (soW o), .sl 2 (boxC (soB o)), y1, intD e, intD (soP o)] (.data (bD true))) {C : Ctx} (hP : C.P = Tryz.prog) (hE : C.E = E) (hn : C.n = 111) (hk : C.kb = 0) {c : Code} (hcode : Tryz.f29.body = some c) :
    DC C (cutC 2 (cutC 2 (cutC 4 c).2).2).2 (Post C [.tmp 2] (.data (bD true))) (sS3 o) := by
  have hl := boxC_lq (boxL o.p)
  rw [boxL_len] at hl
  have d2 := div_two
  have k25 := soK_le o
  have kle : soK o ≤ o.p.length / 2 := by unfold soK; omega
  have la : (soA o).length = soK o := by rw [List.length_take, boxL_len]; omega
  have lb : (soB o).length = o.p.length / 2 - soK o := by rw [List.length_drop, boxL_len]
  have g1 := given_c E (L := soA o) (by omega)
  have g2 := given_c E (L := soB o) (by omega)
  obtain ⟨P, E', σ0, w0, base, n, kb, df, G0⟩ := C
  simp only at hP hE hn hk
  subst hP hE hn hk
  simp only [Tryz.f29, Option.some.injEq] at hcode
  subst hcode
  simp only [cutC]
  simp only [sS3]
  have q1 : soK o * 2 ≤ o.p.length / 2 * 2 := by omega
  have z0 : (0 : Int) ≤ 0 := by decide
  have z1 : (0 : Int) ≤ (soK o : Int) := by omega
  have z2 : (soK o - 0) * 2 = soK o * 2 := by omega
  have z3 : (soK o : Int) ≤ ((o.p.length / 2 : Nat) : Int) := by omega
  have z4 : o.p.length / 2 * 2 ≤ o.p.length / 2 * 2 := Nat.le_refl _
  have z5 : List.take (o.p.length / 2 - soK o) (soB o) = soB o := List.take_of_length_le (by omega)
  have q3 : (0 : Int) ≤ ((o.p.length / 2 : Nat) : Int) := by omega
  simp -implicitDefEqProofs only [go_sem, hl, d2, q1, z0, z1, z2, z3, z4, z5, Nat.zero_mul, boxC_takes, boxC_drops, Int.toNat_natCast]
  refine Call.intro g1 ?_
  simp -implicitDefEqProofs only [go_sem]
  refine Call.intro g2 ?_
  simp -implicitDefEqProofs only [go_sem]
  refine Call.intro hs ?_
  simp -implicitDefEqProofs only [go_sem]
  refine Call.intro g1 ?_
  simp -implicitDefEqProofs only [go_sem]
  refine Call.intro g2 ?_
  simp -implicitDefEqProofs only [go_sem]
  refine Call.intro hs ?_
  simp -implicitDefEqProofs only [go_sem]
  refine Call.intro ht ?_
  simp -implicitDefEqProofs only [go_sem]
  refine Call.intro hli ?_
  simp -implicitDefEqProofs only [go_sem, cellsP, OpD.cells, iD, uD]
  refine Call.intro hj ?_
  simp -implicitDefEqProofs only [go_sem, beq_self_eq_true, finK]
end
end Go.Enc
