/-
  Balances: the numbers of a system, of a few bits each.
-/
import Derived.Test.YtjlibljfpkmpfaaDoorKn
import Derived.Test.YtjlibljfpkmpfaaDoorHh
import Derived.Test.YtjlibljfpkmpfaaDoorPs
import Derived.Test.YtjlibljfpkmpfaaDoorFa
set_option linter.unusedSimpArgs false
set_option maxRecDepth 100000
namespace Go.Enc
open Go.Proofs Go.Enc.Fl Go.RowKit

theorem ofInt_and9 {n : Int} : ((BitVec.ofInt 64 n &&& BitVec.ofInt 64 511).toNat : Int) = n % 512 := by
  have e : (BitVec.ofInt 64 511).toNat = 2 ^ 9 - 1 := by decide
  rw [BitVec.toNat_and, e, Nat.and_two_pow_sub_one_eq_mod, BitVec.toNat_ofInt]
  omega
theorem ofInt_and4 {n : Int} : ((BitVec.ofInt 64 n &&& BitVec.ofInt 64 15).toNat : Int) = n % 16 := by
  have e : (BitVec.ofInt 64 15).toNat = 2 ^ 4 - 1 := by decide
  rw [BitVec.toNat_and, e, Nat.and_two_pow_sub_one_eq_mod, BitVec.toNat_ofInt]
  omega
/-- A number of 9 bits. -/
def sm9 (n : Int) : Int := n % 512 - 256
theorem sm9_range (n : Int) : -256 ≤ sm9 n ∧ sm9 n < 256 := by unfold sm9; omega
theorem and9 (n : Int) : pint .and .i64 n 511 = some (.int .i64 (n % 512)) := by
  show some (Value.int .i64 (IntKind.i64.wrap ((BitVec.ofInt 64 n &&& BitVec.ofInt 64 511).toNat : Int))) = _
  rw [ofInt_and9, w64 (by omega)]
theorem small9_c (E : Nat → Option Value) (n : Int) : DCall Tryd.prog E 12 [intD n, intD 9] (.data (intD (sm9 n))) := by
  refine dcall_of Tryd.func12 rfl (by kernel_rfl) Tryd.ntmps12 (by kernel_rfl) (by simp) (rs := [.tmp 4]) rfl ?_
  rintro ⟨P, E, σ0, w0, base, n, kb, df, G0⟩ rfl rfl rfl rfl
  have q1 := and9 n
  have w1 : IntKind.i64.wrap (1 * 2 ^ min 9 64) = 512 := by decide
  have w2 : IntKind.i64.wrap (512 - 1) = 511 := by decide
  have w3 : IntKind.i64.wrap (9 - 1) = 8 := by decide
  have w4 : IntKind.i64.wrap (1 * 2 ^ min 8 64) = 256 := by decide
  have w5 : IntKind.i64.wrap (n % 512 - 256) = sm9 n := by rw [w64 (by omega)]; rfl
  simp -implicitDefEqProofs only [go_sem, Option.some.injEq, Value.int.injEq, true_and] at q1
  simp -implicitDefEqProofs only [go_sem]
  refine drawn_intro (by kernel_rfl) (by kernel_rfl) (by kernel_rfl) ?_
  simp -implicitDefEqProofs only [go_sem, w1, w2, w3, w4, q1, w5, finK]
/-- A number of 4 bits. -/
def sm4 (n : Int) : Int := n % 16 - 8
theorem sm4_range (n : Int) : -8 ≤ sm4 n ∧ sm4 n < 8 := by unfold sm4; omega
theorem and4 (n : Int) : pint .and .i64 n 15 = some (.int .i64 (n % 16)) := by
  show some (Value.int .i64 (IntKind.i64.wrap ((BitVec.ofInt 64 n &&& BitVec.ofInt 64 15).toNat : Int))) = _
  rw [ofInt_and4, w64 (by omega)]
theorem small4_c (E : Nat → Option Value) (n : Int) : DCall Tryd.prog E 12 [intD n, intD 4] (.data (intD (sm4 n))) := by
  refine dcall_of Tryd.func12 rfl (by kernel_rfl) Tryd.ntmps12 (by kernel_rfl) (by simp) (rs := [.tmp 4]) rfl ?_
  rintro ⟨P, E, σ0, w0, base, n, kb, df, G0⟩ rfl rfl rfl rfl
  have q1 := and4 n
  have w1 : IntKind.i64.wrap (1 * 2 ^ min 4 64) = 16 := by decide
  have w2 : IntKind.i64.wrap (16 - 1) = 15 := by decide
  have w3 : IntKind.i64.wrap (4 - 1) = 3 := by decide
  have w4 : IntKind.i64.wrap (1 * 2 ^ min 3 64) = 8 := by decide
  have w5 : IntKind.i64.wrap (n % 16 - 8) = sm4 n := by rw [w64 (by omega)]; rfl
  simp -implicitDefEqProofs only [go_sem, Option.some.injEq, Value.int.injEq, true_and] at q1
  simp -implicitDefEqProofs only [go_sem]
  refine drawn_intro (by kernel_rfl) (by kernel_rfl) (by kernel_rfl) ?_
  simp -implicitDefEqProofs only [go_sem, w1, w2, w3, w4, q1, w5, finK]

/-- The first row of a system that is made: how many; its answer; its numbers; its right sides. -/
def bN (o : OpD) : Nat := 1 + (o.a % 4).toNat
def bX (o : OpD) (i : Nat) : Int := sm9 (o.b.fdiv (2 ^ min (9 * i) 64))
def bK (o : OpD) (i j : Nat) : Int := if i = j then (if o.a.fdiv (2 ^ min i 64) % 8 ≥ 4 then -(100 + (i : Int)) else 100 + i) else sm4 (o.a.fdiv (2 ^ min (3 * (i + j)) 64))
def bT (o : OpD) (i : Nat) : Nat → Int
  | 0 => 0
  | m + 1 => bT o i m + bK o i m * bX o m
theorem bN_le (o : OpD) : 1 ≤ bN o ∧ bN o ≤ 4 := by unfold bN; omega
theorem bX_le (o : OpD) (i : Nat) : -256 ≤ bX o i ∧ bX o i ≤ 256 := by have := sm9_range (o.b.fdiv (2 ^ min (9 * i) 64)); unfold bX; omega
theorem bK_le (o : OpD) {i : Nat} (hi : i < 4) (j : Nat) : -103 ≤ bK o i j ∧ bK o i j ≤ 103 := by
  unfold bK
  have := sm4_range (o.a.fdiv (2 ^ min (3 * (i + j)) 64))
  split
  · split <;> omega
  · omega
theorem bKX_le (o : OpD) {i : Nat} (hi : i < 4) (j m : Nat) : -26368 ≤ bK o i j * bX o m ∧ bK o i j * bX o m ≤ 26368 := by
  have h1 := bK_le o hi j
  have h2 := bX_le o m
  have : (bK o i j * bX o m).natAbs ≤ 103 * 256 := by
    rw [Int.natAbs_mul]
    exact Nat.mul_le_mul (by omega) (by omega)
  omega
theorem bT_le (o : OpD) {i : Nat} (hi : i < 4) : ∀ m : Nat, -(26368 * (m : Int)) ≤ bT o i m ∧ bT o i m ≤ 26368 * (m : Int)
  | 0 => by simp [bT]
  | m + 1 => by
    have h1 := bT_le o hi m
    have h2 := bKX_le o hi m m
    simp only [bT]
    omega
abbrev cellsO (o : OpD) : List T := o.cells.map T.d
def iT (l : List Int) : List T := l.map fun n => .d (intD n)
theorem iT_len (l : List Int) : (iT l).length = l.length := by simp [iT]
theorem iT_kill (k : Nat) (l : List Int) : (iT l).map (killT k) = iT l := by simp [iT, killT]
theorem iT_refs (l : List Int) (ks : List Nat) : (iT l).all (refIn ks) = true := by simp [iT, refIn, T.ref]
theorem iT_get {l : List Int} {i : Nat} {n : Int} (h : l[i]? = some n) : (iT l)[i]? = some (.d (intD n)) := by unfold iT; rw [List.getElem?_map, h]; rfl
theorem iT_snoc (l : List Int) (n : Int) : iT l ++ [T.d (intD n)] = iT (l ++ [n]) := by simp [iT]
theorem ikill_snoc (k : Nat) (l : List Int) (x : Int) : List.map (killT k) (iT l ++ [T.d (intD x)]) = iT (l ++ [x]) := by rw [iT_snoc, iT_kill]
theorem asDs_iT (l : List Int) : asDs (iT l) = some (l.map intD) := by
  have : iT l = (l.map intD).map T.d := by simp [iT]
  rw [this, asDs_map]
theorem dkill (k : Nat) (x : List D) : List.map (killT k) (List.map T.d x) = List.map T.d x := by rw [List.map_map]; rfl
/-- The answer's numbers, so many. -/
def xsL (o : OpD) (m : Nat) : List Int := (List.range m).map (bX o)
theorem xsL_len (o : OpD) (m : Nat) : (xsL o m).length = m := by simp [xsL]
theorem xsL_succ (o : OpD) (m : Nat) : xsL o m ++ [bX o m] = xsL o (m + 1) := by simp [xsL, List.range_succ]
theorem xsL_get (o : OpD) {m i : Nat} (h : i < m) : (xsL o m)[i]? = some (bX o i) := by simp [xsL, h]
section
variable {E : Nat → Option Value} {q : Nat → Addr}
abbrev bS1 (o : OpD) : St := St.of [(1, .ptr 1 0), (3, .d (intD (bN o))), (4, .gs 39)] [(1, ⟨none, cellsO o⟩), (39, ⟨some (3, 1, true), iT (xsL o (bN o))⟩)]
theorem shl64 {k : Nat} (h : k < 18446744073709551616) : IntKind.u64.wrap (k : Int) = (k : Int) := IntWalk.u64_in (k : Int) ⟨by omega, by omega⟩
theorem and3 (n : Int) : pint .and .i64 n 3 = some (.int .i64 (n % 4)) := by
  have e : (BitVec.ofInt 64 3).toNat = 2 ^ 2 - 1 := by decide
  have : ((BitVec.ofInt 64 n &&& BitVec.ofInt 64 3).toNat : Int) = n % 4 := by
    rw [BitVec.toNat_and, e, Nat.and_two_pow_sub_one_eq_mod, BitVec.toNat_ofInt]
    omega
  show some (Value.int .i64 (IntKind.i64.wrap ((BitVec.ofInt 64 n &&& BitVec.ofInt 64 3).toNat : Int))) = _
  rw [this, w64 (by omega)]
set_option maxHeartbeats 4000000 in
theorem bal_1 (o : OpD) {C : Ctx} (hP : C.P = Tryd.prog) (hE : C.E = E) (hn : C.n = 132) (hk : C.kb = 0) {c : Code} (hcode : Tryd.f10.body = some c) :
    DC C (cutC 4 c).1 (QW (bS1 o)) (St.init [opD o]) := by
  have q1 := and3 o.a
  simp -implicitDefEqProofs only [go_sem, Option.some.injEq, Value.int.injEq, true_and] at q1
  have w1 : IntKind.i64.wrap (1 + o.a % 4) = ((bN o : Nat) : Int) := by rw [w64 (by omega)]; unfold bN; omega
  have hb := bN_le o
  obtain ⟨P, E', σ0, w0, base, n, kb, df, G0⟩ := C
  simp only at hP hE hn hk
  subst hP hE hn hk
  simp only [Tryd.f10, Option.some.injEq] at hcode
  subst hcode
  simp only [cutC]
  simp -implicitDefEqProofs only [go_sem, OpD.cells, iD, uD, q1, w1]
  rw [stop_eq]
  refine dwp_nil 4 39 3 1 rfl rfl ?_
  refine dwp_loop (α := {i : Nat // i ≤ bN o}) (fun i => St.of [(1, .ptr 1 0), (2, .d (bD false)), (3, .d (intD (bN o))), (4, .gs 39), (5, .d (intD i.1))] [(1, ⟨none, cellsO o⟩), (39, ⟨some (3, 1, true), iT (xsL o i.1)⟩)]) (fun i => bN o - i.1)
    ⟨0, Nat.zero_le _⟩ (weak_of ?_ ?_ (by simp [refsOk, iT_refs, refIn, T.ref, OpD.cells])) (by kernel_rfl) (fun i => ?_)
  · have c0 : ((0 : Nat) : Int) = 0 := rfl
    simp -implicitDefEqProofs only [go_sem, upd, c0]
  · simp -implicitDefEqProofs only [go_sem, upd, xsL, iT, List.range_zero, cellsO, OpD.cells, iD, uD]
  obtain ⟨i, hi⟩ := i
  have hlen : (iT (xsL o i)).length = i := by rw [iT_len, xsL_len]
  by_cases hA : i < bN o
  · have eA : decide ((i : Int) < (bN o : Int)) = true := tD (by omega)
    have w2 : IntKind.i64.wrap (9 * (i : Int)) = ((9 * i : Nat) : Int) := by rw [w64 (by omega)]; omega
    have w3 : IntKind.i64.wrap ((i : Int) + 1) = ((i + 1 : Nat) : Int) := addN1 (by omega)
    have hmax : maxLen = 9223372036854775807 := by decide
    obtain ⟨i', hi'⟩ : ∃ i' : {i : Nat // i ≤ bN o}, i'.1 = i + 1 := ⟨⟨i + 1, hA⟩, rfl⟩
    have hb : sm9 (o.b.fdiv (2 ^ min (9 * i) 64)) = bX o i := rfl
    have hsx := xsL_succ o i
    simp -implicitDefEqProofs only [go_sem, cellsO, OpD.cells, iD, uD, eA, w2]
    refine Call.intro (small9_c _ _) ?_
    rw [hb]
    simp -implicitDefEqProofs only [go_sem, hlen, w3, ikill_snoc, hsx, iT_kill, dkill, div1]
    refine ⟨by omega, by omega, i', weak_of ?_ ?_ (by simp [refsOk, iT_refs, refIn, T.ref]), by simp only [hi']; omega⟩
    · simp -implicitDefEqProofs only [go_sem, hi']
    · simp -implicitDefEqProofs only [go_sem, hi', ikill_snoc, hsx, iT_kill, dkill]
  · have eA : decide ((i : Int) < (bN o : Int)) = false := fD (by omega)
    obtain rfl : i = bN o := by omega
    simp -implicitDefEqProofs only [go_sem, eA, QW, bS1]
    refine weak_of ?_ ?_ (by simp [refsOk, iT_refs, refIn, T.ref, OpD.cells])
    · simp -implicitDefEqProofs only [go_sem]
    · simp -implicitDefEqProofs only [go_sem]
/-- The boxes of whole numbers. -/
structure WBox (E : Nat → Option Value) (W : Int → Nat × Nat) : Prop where
  w : ∀ n, -536870912 ≤ n → n ≤ 536870912 → Wb (W n) n ∧ DCall Tryd.prog E 13 [intD n] (.data (.tup [boxD (W n), bD true]))
theorem wbox_fun (E : Nat → Option Value) : ∃ W, WBox E W := by
  have h : ∀ n : Int, ∃ x : Nat × Nat, -536870912 ≤ n → n ≤ 536870912 → Wb x n ∧ DCall Tryd.prog E 13 [intD n] (.data (.tup [boxD x, bD true])) := fun n => by
    by_cases hn : -536870912 ≤ n ∧ n ≤ 536870912
    · obtain ⟨x, h1, h2⟩ := made_wb (E := E) hn
      exact ⟨x, fun _ _ => ⟨h1, h2⟩⟩
    · exact ⟨(0, 0), fun a b => absurd ⟨a, b⟩ hn⟩
  obtain ⟨W, hW⟩ := Classical.axiomOfChoice h
  exact ⟨W, ⟨hW⟩⟩
/-- The boxes of the rows, one behind the other; of the right sides. -/
def aL (o : OpD) (W : Int → Nat × Nat) (m : Nat) : List (Nat × Nat) := (List.range m).map fun r => W (bK o (r / bN o) (r % bN o))
def rL (o : OpD) (W : Int → Nat × Nat) (m : Nat) : List (Nat × Nat) := (List.range m).map fun i => W (bT o i (bN o))
theorem aL_len (o : OpD) (W : Int → Nat × Nat) (m : Nat) : (aL o W m).length = m := by simp [aL]
theorem rL_len (o : OpD) (W : Int → Nat × Nat) (m : Nat) : (rL o W m).length = m := by simp [rL]
theorem aL_succ (o : OpD) (W : Int → Nat × Nat) {i j : Nat} (h : j < bN o) : aL o W (i * bN o + j) ++ [W (bK o i j)] = aL o W (i * bN o + (j + 1)) := by
  have e1 : (i * bN o + j) / bN o = i := by
    rw [Nat.mul_comm, Nat.mul_add_div (by omega), Nat.div_eq_of_lt h, Nat.add_zero]
  have e2 : (i * bN o + j) % bN o = j := by
    rw [Nat.add_comm, Nat.add_mul_mod_self_right, Nat.mod_eq_of_lt h]
  show aL o W (i * bN o + j) ++ [W (bK o i j)] = aL o W (i * bN o + j + 1)
  simp [aL, List.range_succ, e1, e2]
theorem rL_succ (o : OpD) (W : Int → Nat × Nat) (i : Nat) : rL o W i ++ [W (bT o i (bN o))] = rL o W (i + 1) := by simp [rL, List.range_succ]
abbrev bS2 (o : OpD) (W : Int → Nat × Nat) : St := St.of [(1, .ptr 1 0), (3, .d (intD (bN o))), (4, .gs 39), (7, .gs 89), (8, .gs 100)]
  [(1, ⟨none, cellsO o⟩), (39, ⟨some (3, 1, true), iT (xsL o (bN o))⟩), (89, rowB (aL o W (bN o * bN o))), (100, rowB (rL o W (bN o)))]
theorem and4b (n : Int) : pint .and .i64 n 4 = some (.int .i64 (if n % 8 ≥ 4 then 4 else 0)) := by
  have e : ((BitVec.ofInt 64 n &&& BitVec.ofInt 64 4).toNat : Int) = if n % 8 ≥ 4 then 4 else 0 := by
    have h4 : BitVec.ofInt 64 4 = BitVec.twoPow 64 2 := by decide
    have h2 : (BitVec.ofInt 64 n).getLsbD 2 = decide (n % 8 ≥ 4) := by
      rw [BitVec.getLsbD, BitVec.toNat_ofInt]
      have : (n % ((2 ^ 64 : Nat) : Int)).toNat.testBit 2 = decide ((n % ((2 ^ 64 : Nat) : Int)).toNat / 4 % 2 = 1) := by
        rw [Nat.testBit_eq_decide_div_mod_eq]
      rw [this]
      congr 1
      rw [eq_iff_iff]
      omega
    rw [h4, BitVec.and_twoPow, h2]
    by_cases h : n % 8 ≥ 4
    · rw [if_pos (by simpa using h), if_pos h]; decide
    · rw [if_neg (by simpa using h), if_neg h]; decide
  show some (Value.int .i64 (IntKind.i64.wrap ((BitVec.ofInt 64 n &&& BitVec.ofInt 64 4).toNat : Int))) = _
  rw [e, w64 (by split <;> omega)]
set_option maxHeartbeats 4000000 in
theorem bal_2 (o : OpD) {W : Int → Nat × Nat} (hW : WBox E W) {C : Ctx} (hP : C.P = Tryd.prog) (hE : C.E = E) (hn : C.n = 132) (hk : C.kb = 0) {c : Code} (hcode : Tryd.f10.body = some c) :
    DC C (cutC 2 (cutC 4 c).2).1 (QW (bS2 o W)) (bS1 o) := by
  have hb := bN_le o
  have hxl : (iT (xsL o (bN o))).length = bN o := by rw [iT_len, xsL_len]
  obtain ⟨P, E', σ0, w0, base, n, kb, df, G0⟩ := C
  simp only at hP hE hn hk
  subst hP hE hn hk
  simp only [Tryd.f10, Option.some.injEq] at hcode
  subst hcode
  simp only [cutC]
  simp only [bS1]
  simp -implicitDefEqProofs only [go_sem]
  rw [stop_eq]
  refine dwp_nil 7 89 40 2 rfl rfl ?_
  refine dwp_nil 8 100 40 2 rfl rfl ?_
  have hmax : maxLen = 9223372036854775807 := by decide
  refine dwp_loop (α := {i : Nat // i ≤ bN o}) (fun i => St.of [(1, .ptr 1 0), (3, .d (intD (bN o))), (4, .gs 39), (7, .gs 89), (8, .gs 100), (9, .d (intD i.1))] [(1, ⟨none, cellsO o⟩), (39, ⟨some (3, 1, true), iT (xsL o (bN o))⟩), (89, rowB (aL o W (i.1 * bN o))), (100, rowB (rL o W i.1))]) (fun i => bN o - i.1)
    ⟨0, Nat.zero_le _⟩ (weak_of ?_ ?_ (by simp [refsOk, iT_refs, boxT_refs, refIn, T.ref, OpD.cells])) (by kernel_rfl) (fun i => ?_)
  · have c0 : ((0 : Nat) : Int) = 0 := rfl
    simp -implicitDefEqProofs only [go_sem, upd, c0]
  · have z1 : aL o W (0 * bN o) = [] := by rw [Nat.zero_mul]; rfl
    have z2 : rL o W 0 = [] := rfl
    have z3 : boxT [] = [] := rfl
    simp -implicitDefEqProofs only [go_sem, upd, z1, z2, z3, cellsO, OpD.cells, iD, uD]
    rfl
  obtain ⟨i, hi⟩ := i
  by_cases hA : i < bN o
  · have eA : decide ((i : Int) < (bN o : Int)) = true := tD (by omega)
    have w3 : IntKind.i64.wrap ((i : Int) + 1) = ((i + 1 : Nat) : Int) := addN1 (by omega)
    obtain ⟨i', hi'⟩ : ∃ i' : {i : Nat // i ≤ bN o}, i'.1 = i + 1 := ⟨⟨i + 1, hA⟩, rfl⟩
    simp -implicitDefEqProofs only [go_sem, eA]
    rw [stop_eq]
    refine dwp_loop (α := {j : Nat // j ≤ bN o}) (fun j => St.of [(1, .ptr 1 0), (3, .d (intD (bN o))), (4, .gs 39), (7, .gs 89), (8, .gs 100), (9, .d (intD i)), (10, .d (intD (bT o i j.1))), (11, .d (intD j.1))] [(1, ⟨none, cellsO o⟩), (39, ⟨some (3, 1, true), iT (xsL o (bN o))⟩), (89, rowB (aL o W (i * bN o + j.1))), (100, rowB (rL o W i))]) (fun j => bN o - j.1)
      ⟨0, Nat.zero_le _⟩ (weak_of ?_ ?_ (by simp [refsOk, iT_refs, boxT_refs, refIn, T.ref, OpD.cells])) (by kernel_rfl) (fun j => ?_)
    · have c0 : ((0 : Nat) : Int) = 0 := rfl
      simp -implicitDefEqProofs only [go_sem, bT, c0]
    · simp -implicitDefEqProofs only [go_sem, cellsO, OpD.cells, iD, uD]
    obtain ⟨j, hj⟩ := j
    have al : ∀ m, (boxT (aL o W m)).length = m * 2 := fun m => by rw [boxT_len, aL_len]; omega
    have rl : ∀ m, (boxT (rL o W m)).length = m * 2 := fun m => by rw [boxT_len, rL_len]; omega
    by_cases hB : j < bN o
    · have eB : decide ((j : Int) < (bN o : Int)) = true := tD (by omega)
      have w4 : IntKind.i64.wrap ((i : Int) + (j : Int)) = ((i + j : Nat) : Int) := by rw [w64 (by omega)]; omega
      have w5 : IntKind.i64.wrap (3 * ((i + j : Nat) : Int)) = ((3 * (i + j) : Nat) : Int) := by rw [w64 (by omega)]; omega
      have w6 : IntKind.i64.wrap ((j : Int) + 1) = ((j + 1 : Nat) : Int) := addN1 (by omega)
      obtain ⟨j', hj'⟩ : ∃ j' : {j : Nat // j ≤ bN o}, j'.1 = j + 1 := ⟨⟨j + 1, hB⟩, rfl⟩
      have kl := bK_le o (i := i) (by omega) j
      have tl := bT_le o (i := i) (by omega) j
      have xl := bKX_le o (i := i) (by omega) j j
      have w7 : IntKind.i64.wrap (bK o i j * bX o j) = bK o i j * bX o j := w64 (by omega)
      have w8 : IntKind.i64.wrap (bT o i j + bK o i j * bX o j) = bT o i (j + 1) := by rw [w64 (by omega)]; rfl
      have hg := iT_get (xsL_get o hB)
      obtain ⟨_, hw⟩ := hW.w (bK o i j) (by omega) (by omega)
      simp -implicitDefEqProofs only [go_sem, eB, cellsO, OpD.cells, iD, uD, w4, w5]
      refine Call.intro (small4_c _ _) ?_
      have a1 : ((i * bN o + j) * 2 + 2) / 2 = i * bN o + j + 1 := by omega
      have asl := aL_succ o W (i := i) hB
      have hij9 : i * bN o ≤ 16 := Nat.le_trans (Nat.mul_le_mul (show i ≤ 4 by omega) hb.2) (by decide)
      by_cases hij : i = j
      · have eq := tB (show ((i : Int) == (j : Int)) = true by simp [hij])
        have w9 : IntKind.i64.wrap (100 + (i : Int)) = 100 + i := w64 (by omega)
        have w10 : IntKind.i64.wrap (0 - (100 + (i : Int))) = -(100 + i) := by rw [w64 (by omega)]; omega
        have q4 := and4b (o.a.fdiv (2 ^ min i 64))
        by_cases hbit : o.a.fdiv (2 ^ min i 64) % 8 ≥ 4
        · rw [if_pos hbit] at q4
          have ek : -(100 + (i : Int)) = bK o i j := by unfold bK; rw [if_pos hij, if_pos hbit]
          simp -implicitDefEqProofs only [go_sem, Option.some.injEq, Value.int.injEq, true_and] at q4
          simp -implicitDefEqProofs only [go_sem, eq, q4, w9, w10, ek, hxl, hB, hg, w7, w8, beq_self_eq_true]
          refine Call.intro hw ?_
          simp -implicitDefEqProofs only [go_sem, al, a1, Bool.not_true, w6, boxkill_snoc, boxT_kill, iT_kill, dkill, asl]
          refine ⟨by omega, by omega, j', weak_of ?_ ?_ (by simp [refsOk, iT_refs, boxT_refs, refIn, T.ref]), by simp only [hj']; omega⟩
          · simp -implicitDefEqProofs only [go_sem, hj', w8]
          · simp -implicitDefEqProofs only [go_sem, hj', boxkill_snoc, boxT_kill, iT_kill, dkill, asl]
        · rw [if_neg hbit] at q4
          have ek : 100 + (i : Int) = bK o i j := by unfold bK; rw [if_pos hij, if_neg hbit]
          have e04 : ((0 : Int) == 4) = false := rfl
          have w11 : IntKind.i64.wrap (bK o i j) = bK o i j := w64 (by omega)
          simp -implicitDefEqProofs only [go_sem, Option.some.injEq, Value.int.injEq, true_and] at q4
          simp -implicitDefEqProofs only [go_sem, eq, q4, w11, e04, ek, hxl, hB, hg, w7, w8]
          refine Call.intro hw ?_
          simp -implicitDefEqProofs only [go_sem, al, a1, Bool.not_true, w6, boxkill_snoc, boxT_kill, iT_kill, dkill, asl]
          refine ⟨by omega, by omega, j', weak_of ?_ ?_ (by simp [refsOk, iT_refs, boxT_refs, refIn, T.ref]), by simp only [hj']; omega⟩
          · simp -implicitDefEqProofs only [go_sem, hj', w8]
          · simp -implicitDefEqProofs only [go_sem, hj', boxkill_snoc, boxT_kill, iT_kill, dkill, asl]
      · have eq := tV (show ((i : Int) == (j : Int)) = false by simp; omega)
        have ek : sm4 (o.a.fdiv (2 ^ min (3 * (i + j)) 64)) = bK o i j := by unfold bK; rw [if_neg hij]
        rw [ek]
        simp -implicitDefEqProofs only [go_sem, eq, hxl, hB, hg, w7, w8]
        refine Call.intro hw ?_
        simp -implicitDefEqProofs only [go_sem, al, a1, Bool.not_true, w6, boxkill_snoc, boxT_kill, iT_kill, dkill, asl]
        refine ⟨by omega, by omega, j', weak_of ?_ ?_ (by simp [refsOk, iT_refs, boxT_refs, refIn, T.ref]), by simp only [hj']; omega⟩
        · simp -implicitDefEqProofs only [go_sem, hj', w8]
        · simp -implicitDefEqProofs only [go_sem, hj', boxkill_snoc, boxT_kill, iT_kill, dkill, asl]
    · have eB : decide ((j : Int) < (bN o : Int)) = false := fD (by omega)
      obtain rfl : j = bN o := by omega
      have tl := bT_le o (i := i) (by omega) (bN o)
      obtain ⟨_, hw⟩ := hW.w (bT o i (bN o)) (by omega) (by omega)
      have rs := rL_succ o W i
      have a1 : (i * 2 + 2) / 2 = i + 1 := by omega
      have asl : i * bN o + bN o = (i + 1) * bN o := by rw [Nat.add_mul, Nat.one_mul]
      simp -implicitDefEqProofs only [go_sem, eB]
      refine Call.intro hw ?_
      simp -implicitDefEqProofs only [go_sem, rl, a1, Bool.not_true, w3, boxkill_snoc, boxT_kill, iT_kill, dkill, rs]
      refine ⟨by omega, by omega, i', weak_of ?_ ?_ (by simp [refsOk, iT_refs, boxT_refs, refIn, T.ref]), by simp only [hi']; omega⟩
      · simp -implicitDefEqProofs only [go_sem, hi']
      · simp -implicitDefEqProofs only [go_sem, hi', boxkill_snoc, boxT_kill, iT_kill, dkill, rs, asl]
  · have eA : decide ((i : Int) < (bN o : Int)) = false := fD (by omega)
    obtain rfl : i = bN o := by omega
    simp -implicitDefEqProofs only [go_sem, eA, QW, bS2]
    refine weak_of ?_ ?_ (by simp [refsOk, iT_refs, boxT_refs, refIn, T.ref])
    · simp -implicitDefEqProofs only [go_sem]
    · simp -implicitDefEqProofs only [go_sem]
set_option maxHeartbeats 4000000 in
theorem bal_3 (o : OpD) {W : Int → Nat × Nat} {L : List (Nat × Nat)} (hL : L.length = bN o) (hs : DCall Tryd.prog E 17 [.sl 2 (boxC (aL o W (bN o * bN o))), intD (bN o), .sl 2 (boxC (rL o W (bN o)))] (.data (.tup [.sl 2 (boxC L), intD 0])))
    (hh : ∀ (i : Nat) (Y : Nat × Nat), L[i]? = some Y → DCall Tryd.prog E 15 [boxD Y, intD (bX o i)] (.data (bD true))) {C : Ctx} (hP : C.P = Tryd.prog) (hE : C.E = E) (hn : C.n = 132) (hk : C.kb = 0) {c : Code} (hcode : Tryd.f10.body = some c) :
    DC C (cutC 2 (cutC 4 c).2).2 (Post C [.tmp 2] (.data (bD true))) (bS2 o W) := by
  have hb := bN_le o
  have hxl : (iT (xsL o (bN o))).length = bN o := by rw [iT_len, xsL_len]
  have cl := boxC_len L
  rw [hL] at cl
  have ab := asDs_boxT
  obtain ⟨P, E', σ0, w0, base, n, kb, df, G0⟩ := C
  simp only at hP hE hn hk
  subst hP hE hn hk
  simp only [Tryd.f10, Option.some.injEq] at hcode
  subst hcode
  simp only [cutC]
  simp only [bS2]
  have n00 : ((0 : Int) != 0) = false := by decide
  have nnn : ((bN o : Int) != (bN o : Int)) = false := by simp
  have d2 : bN o * 2 / 2 = bN o := by omega
  have bc : ∀ (k : Nat) (o : Obj) (ds : List D) (L : List (Nat × Nat)), List.map (commT k o ds) (boxT L) = boxT L := fun k o ds L => by
    rw [boxT_C, List.map_map]
    rfl
  have ic : ∀ (k : Nat) (o : Obj) (ds : List D) (l : List Int), List.map (commT k o ds) (iT l) = iT l := fun k o ds l => by
    unfold iT
    rw [List.map_map]
    rfl
  simp -implicitDefEqProofs only [go_sem, ab, bc, ic]
  refine Call.intro hs ?_
  simp -implicitDefEqProofs only [go_sem, n00, cl, d2, nnn]
  rw [stop_eq]
  refine dwp_loop (α := {i : Nat // i ≤ bN o}) (fun i => St.of [(3, .d (intD (bN o))), (4, .gs 39), (17, .d (.sl 2 (boxC L))), (19, .d (intD i.1))] [(39, ⟨some (3, 1, true), iT (xsL o (bN o))⟩)]) (fun i => bN o - i.1)
    ⟨0, Nat.zero_le _⟩ (weak_of ?_ ?_ (by simp [refsOk, iT_refs, boxT_refs, refIn, T.ref])) (by kernel_rfl) (fun i => ?_)
  · have c0 : ((0 : Nat) : Int) = 0 := rfl
    simp -implicitDefEqProofs only [go_sem, c0]
  · simp -implicitDefEqProofs only [go_sem, ic]
  obtain ⟨i, hi⟩ := i
  by_cases hA : i < bN o
  · have eA : decide ((i : Int) < (bN o : Int)) = true := tD (by omega)
    have w3 : IntKind.i64.wrap ((i : Int) + 1) = ((i + 1 : Nat) : Int) := addN1 (by omega)
    obtain ⟨i', hi'⟩ : ∃ i' : {i : Nat // i ≤ bN o}, i'.1 = i + 1 := ⟨⟨i + 1, hA⟩, rfl⟩
    obtain ⟨Y, hY⟩ : ∃ Y, L[i]? = some Y := ⟨_, List.getElem?_eq_getElem (by omega)⟩
    have tk := boxC_take hY
    have q1 : i * 2 < bN o * 2 := by omega
    have q2 : i * 2 + 2 ≤ bN o * 2 := by omega
    have hg := iT_get (xsL_get o hA)
    simp -implicitDefEqProofs only [go_sem, eA]
    refine drawn_intro (by kernel_rfl) (by kernel_rfl) (by kernel_rfl) ?_
    simp -implicitDefEqProofs only [go_sem, cl, d2, q1, q2, tk, hxl, hA, hg]
    refine Call.intro (hh i Y hY) ?_
    simp -implicitDefEqProofs only [go_sem, Bool.not_true, w3]
    refine ⟨i', weak_of ?_ ?_ (by simp [refsOk, iT_refs, refIn, T.ref]), by simp only [hi']; omega⟩
    · simp -implicitDefEqProofs only [go_sem, hi']
    · simp -implicitDefEqProofs only [go_sem]
  · have eA : decide ((i : Int) < (bN o : Int)) = false := fD (by omega)
    simp -implicitDefEqProofs only [go_sem, eA, finK]
end
end Go.Enc
