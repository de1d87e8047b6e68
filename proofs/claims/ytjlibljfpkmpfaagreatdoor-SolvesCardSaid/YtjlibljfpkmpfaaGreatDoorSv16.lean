/-
  The document's exact numbers by their contracts: sign, level, sum, order; a float's number; Make. A float's number by its bits; Make.
-/
import Derived.Test.YtjlibljfpkmpfaaGreatDoorSv14
import Derived.Test.YtjlibljfpkmpfaaGreatDoorSv15
section
set_option linter.unusedSimpArgs false
namespace Go.Enc
open Go.Proofs Go.Enc.Dg Go.Enc.Nu
abbrev bD (b : Bool) : D := .v (.bool b)
/-- An exact number's datum. -/
abbrev nmD (a : Nm) : D := .agg [bD a.neg, natD a.n, intD a.e]
attribute [go_sem] bD nmD
theorem lenpos (n : Nat) : decide (((dg n).length : Int) > 0) = decide (0 < n) := by
  have := @dg_len0 n
  congr 1
  rw [eq_iff_iff]; omega
theorem len0 (n : Nat) : (((dg n).length : Int) == 0) = decide (n = 0) := by
  have := @dg_len0 n
  rw [Bool.eq_iff_iff, beq_iff_eq, decide_eq_true_eq]; omega
set_option maxRecDepth 100000 in
theorem negated_c (E : Nat → Option Value) (a : Nm) : DCall Tryz.prog E 47 [nmD a] (.data (nmD (nneg a))) := by
  refine dcall_of Tryz.func47 rfl (by kernel_rfl) Tryz.ntmps47 (by kernel_rfl) (by simp) (rs := [.cell 2 70]) rfl ?_
  rintro ⟨P, E, σ0, w0, base, n, kb, df, G0⟩ rfl rfl rfl rfl
  obtain ⟨neg, n, e⟩ := a
  cases neg
  · simp -implicitDefEqProofs only [go_sem, nneg, lenpos, Bool.true_and]
  · simp -implicitDefEqProofs only [go_sem, nneg, lenpos, Bool.false_and]
set_option maxRecDepth 100000 in
theorem sign_c (E : Nat → Option Value) (a : Nm) : DCall Tryz.prog E 55 [nmD a] (.data (intD (nsign a))) := by
  refine dcall_of Tryz.func55 rfl (by kernel_rfl) Tryz.ntmps55 (by kernel_rfl) (by simp) (rs := [.tmp 2]) rfl ?_
  rintro ⟨P, E, σ0, w0, base, n, kb, df, G0⟩ rfl rfl rfl rfl
  obtain ⟨neg, n, e⟩ := a
  simp -implicitDefEqProofs only [go_sem, len0]
  refine cond_intro (fun h => ?_) (fun h => ?_)
  · have h0 : n = 0 := of_decide_eq_true h
    simp -implicitDefEqProofs only [go_sem, finK]
    unfold nsign; rw [if_pos h0]
  · have h0 : n ≠ 0 := of_decide_eq_false h
    simp -implicitDefEqProofs only [go_sem]
    refine cond_intro (fun h => ?_) (fun h => ?_)
    · simp -implicitDefEqProofs only [go_sem, finK]
      unfold nsign; rw [if_neg h0, if_pos h]
    · simp -implicitDefEqProofs only [go_sem, finK]
      unfold nsign; rw [if_neg h0, if_neg (by simp [h])]
/-- Small enough. -/
structure NOk (a : Nm) (k : Nat) : Prop where
  n : Bd a.n k
  lo : -1000000 ≤ a.e
  hi : a.e ≤ 1000000
set_option maxRecDepth 100000 in
theorem level_c (E : Nat → Option Value) {a b : Nm} {k : Nat} (ha : NOk a k) (hb : NOk b k) (hk : k ≤ 1000000) : DCall Tryz.prog E 93 [nmD a, nmD b] (.data (.tup [nmD ⟨a.neg, at_ a (lev a b), lev a b⟩, nmD ⟨b.neg, at_ b (lev a b), lev a b⟩])) := by
  refine dcall_of Tryz.func93 rfl (by kernel_rfl) Tryz.ntmps93 (by kernel_rfl) (by simp) (rs := [.cell 4 70, .cell 5 70]) rfl ?_
  rintro ⟨P, E, σ0, w0, base, n, kb, df, G0⟩ rfl rfl rfl rfl
  obtain ⟨na, n, e⟩ := a
  obtain ⟨nb, m, f⟩ := b
  obtain ⟨h1, h2, h3⟩ := ha
  obtain ⟨g1, g2, g3⟩ := hb
  simp only at h1 h2 h3 g1 g2 g3
  simp -implicitDefEqProofs only [go_sem]
  refine cond_intro (fun h => ?_) (fun h => ?_)
  · have h0 := of_decide_eq_true h
    have w : IntKind.i64.wrap (e - f) = ((e - f).toNat : Nat) := by rw [w64 (by omega)]; omega
    have e1 : lev ⟨na, n, e⟩ ⟨nb, m, f⟩ = f := by unfold lev; simp only; omega
    have e2 : at_ ⟨na, n, e⟩ f = n * 2 ^ (e - f).toNat := rfl
    have e3 : at_ ⟨nb, m, f⟩ f = m := by unfold at_; simp
    simp -implicitDefEqProofs only [go_sem, w]
    refine Call.intro (up_c _ h1 (by omega) (by omega)) ?_
    simp -implicitDefEqProofs only [go_sem]
    refine drawn_introD [(3, 4)] (by kernel_rfl) (by kernel_rfl) (by kernel_rfl) (by kernel_rfl) (fun pq hp => ?_) ?_
    · simp only [List.mem_singleton] at hp
      subst hp
      refine ⟨3, 4, ?_, ?_, by decide⟩
      · simp -implicitDefEqProofs only [go_sem, T.ref]
      · simp -implicitDefEqProofs only [go_sem, T.ref]
    simp -implicitDefEqProofs only [go_sem]
    refine fin_many ?_
    simp -implicitDefEqProofs only [go_sem, e1, e2, e3]
  · have h0 := of_decide_eq_false h
    have w : IntKind.i64.wrap (f - e) = ((f - e).toNat : Nat) := by rw [w64 (by omega)]; omega
    have e1 : lev ⟨na, n, e⟩ ⟨nb, m, f⟩ = e := by unfold lev; simp only; omega
    have e2 : at_ ⟨nb, m, f⟩ e = m * 2 ^ (f - e).toNat := rfl
    have e3 : at_ ⟨na, n, e⟩ e = n := by unfold at_; simp
    simp -implicitDefEqProofs only [go_sem, w]
    refine Call.intro (up_c _ g1 (by omega) (by omega)) ?_
    simp -implicitDefEqProofs only [go_sem]
    refine drawn_introD [(3, 4)] (by kernel_rfl) (by kernel_rfl) (by kernel_rfl) (by kernel_rfl) (fun pq hp => ?_) ?_
    · simp only [List.mem_singleton] at hp
      subst hp
      refine ⟨3, 4, ?_, ?_, by decide⟩
      · simp -implicitDefEqProofs only [go_sem, T.ref]
      · simp -implicitDefEqProofs only [go_sem, T.ref]
    simp -implicitDefEqProofs only [go_sem]
    refine fin_many ?_
    simp -implicitDefEqProofs only [go_sem, e1, e2, e3]
theorem NOk.mono {a : Nm} {k j : Nat} (h : NOk a k) (hj : k ≤ j) : NOk a j := ⟨h.n.mono hj, h.lo, h.hi⟩
theorem NOk.at {a b : Nm} {k : Nat} (ha : NOk a k) (hb : NOk b k) : Bd (at_ a (lev a b)) (k + 2000000) ∧ Bd (at_ b (lev a b)) (k + 2000000) := by
  have h1 := ha.lo; have h2 := ha.hi; have h3 := hb.lo; have h4 := hb.hi
  have e : lev a b ≤ a.e ∧ lev a b ≤ b.e ∧ -1000000 ≤ lev a b := by unfold lev; omega
  exact ⟨(ha.n.up).mono (by omega), (hb.n.up).mono (by omega)⟩
theorem NOk.neg {a : Nm} {k : Nat} (h : NOk a k) : NOk (nneg a) k := ⟨h.n, h.lo, h.hi⟩
theorem NOk.sum {a b : Nm} {k : Nat} (ha : NOk a k) (hb : NOk b k) : NOk (nsum a b) (k + 2000001) := by
  obtain ⟨h1, h2⟩ := ha.at hb
  have g1 := ha.lo; have g2 := ha.hi; have g3 := hb.lo; have g4 := hb.hi
  have e : -1000000 ≤ lev a b ∧ lev a b ≤ 1000000 := by unfold lev; omega
  unfold nsum
  simp only
  split
  · exact ⟨h1.add h2, e.1, e.2⟩
  · split
    · exact ⟨Nat.pow_pos (by decide), by decide, by decide⟩
    · split
      · exact ⟨(h1.mono (by omega)).le (Nat.sub_le _ _), e.1, e.2⟩
      · exact ⟨(h2.mono (by omega)).le (Nat.sub_le _ _), e.1, e.2⟩
/-- A number's zero value. -/
abbrev zD : D := .agg [bD false, .v (.slice none 0 0), intD 0]
theorem zD_weak {σ : Mem} {u : Value} (h : Rep σ zD u) : Rep σ (nmD nzero) u := by
  simp only [Rep, RepU] at h ⊢
  obtain ⟨us, rfl, u1, r1, e1, o1, rfl, u2, r2, e2, o2, rfl, u3, r3, e3, o3, rfl, rfl⟩ := h
  refine ⟨us, rfl, _, _, e1, o1, rfl, _, _, e2, o2, .inl ⟨rfl, ?_⟩, _, _, e3, o3, rfl, rfl⟩
  rw [show (nzero).n = 0 from rfl, dg_zero]; rfl
set_option maxRecDepth 100000 in
theorem sum_z (E : Nat → Option Value) {a b : Nm} {k : Nat} (ha : NOk a k) (hb : NOk b k) (hk : k ≤ 1000000) (h0 : a.neg ≠ b.neg) (h3 : at_ a (lev a b) = at_ b (lev a b)) : DCall Tryz.prog E 51 [nmD a, nmD b] (.data zD) := by
  refine dcall_of Tryz.func51 rfl (by kernel_rfl) Tryz.ntmps51 (by kernel_rfl) (by simp) (rs := [.cell 4 70]) rfl ?_
  rintro ⟨P, E, σ0, w0, base, n, kb, df, G0⟩ rfl rfl rfl rfl
  have hl := level_c E ha hb hk
  obtain ⟨h1, h2⟩ := ha.at hb
  generalize at_ a (lev a b) = x at *
  generalize at_ b (lev a b) = y at *
  generalize lev a b = e at *
  obtain ⟨na, n, ea⟩ := a
  obtain ⟨nb, m, eb⟩ := b
  simp -implicitDefEqProofs only [go_sem]
  refine Call.intro hl ?_
  simp -implicitDefEqProofs only [go_sem]
  refine cond_intro (fun h => ?_) (fun h => ?_)
  · exact absurd (by simpa using h) h0
  · simp -implicitDefEqProofs only [go_sem]
    refine Call.intro (cmp_c _ (h1.sm (by omega)) (h2.sm (by omega))) ?_
    have hc : cmpI x y = 0 := (cmpI_spec x y).2.1.2 h3
    simp -implicitDefEqProofs only [go_sem, hc]
    refine cond_intro (fun h => ?_) (fun h => ?_)
    · simp -implicitDefEqProofs only [go_sem]
    · simp at h
set_option maxRecDepth 100000 in
theorem sum_c (E : Nat → Option Value) {a b : Nm} {k : Nat} (ha : NOk a k) (hb : NOk b k) (hk : k ≤ 1000000) : DCall Tryz.prog E 51 [nmD a, nmD b] (.data (nmD (nsum a b))) := by
  by_cases hz : a.neg ≠ b.neg ∧ at_ a (lev a b) = at_ b (lev a b)
  · have e : nsum a b = nzero := by unfold nsum; simp only; rw [if_neg hz.1, if_pos hz.2]
    rw [e]
    exact (sum_z E ha hb hk hz.1 hz.2).weak fun σ u h => zD_weak h
  refine dcall_of Tryz.func51 rfl (by kernel_rfl) Tryz.ntmps51 (by kernel_rfl) (by simp) (rs := [.cell 4 70]) rfl ?_
  rintro ⟨P, E, σ0, w0, base, n, kb, df, G0⟩ rfl rfl rfl rfl
  have hl := level_c E ha hb hk
  obtain ⟨h1, h2⟩ := ha.at hb
  have hS : nsum a b = if a.neg = b.neg then ⟨a.neg, at_ a (lev a b) + at_ b (lev a b), lev a b⟩ else if at_ a (lev a b) = at_ b (lev a b) then nzero else if at_ b (lev a b) < at_ a (lev a b) then ⟨a.neg, at_ a (lev a b) - at_ b (lev a b), lev a b⟩ else ⟨b.neg, at_ b (lev a b) - at_ a (lev a b), lev a b⟩ := rfl
  rw [hS]
  generalize at_ a (lev a b) = x at *
  generalize at_ b (lev a b) = y at *
  generalize lev a b = e at *
  obtain ⟨na, n, ea⟩ := a
  obtain ⟨nb, m, eb⟩ := b
  simp -implicitDefEqProofs only [go_sem]
  refine Call.intro hl ?_
  simp -implicitDefEqProofs only [go_sem]
  refine cond_intro (fun h => ?_) (fun h => ?_)
  · have h0 : na = nb := by simpa using h
    simp -implicitDefEqProofs only [go_sem]
    refine drawn_intro (by kernel_rfl) (by kernel_rfl) (by kernel_rfl) ?_
    simp -implicitDefEqProofs only [go_sem]
    refine Call.intro (plus_c _ (h1.sm (by omega)) (h2.sm (by omega))) ?_
    simp -implicitDefEqProofs only [go_sem]
    rw [if_pos h0]
  · have h0 : na ≠ nb := by simpa using h
    simp -implicitDefEqProofs only [go_sem]
    refine Call.intro (cmp_c _ (h1.sm (by omega)) (h2.sm (by omega))) ?_
    simp -implicitDefEqProofs only [go_sem]
    rw [if_neg h0]
    obtain ⟨c1, c2, c3⟩ := cmpI_spec x y
    refine cond_intro (fun h => ?_) (fun h => ?_)
    · have h3 : x = y := c2.1 (by simpa using h)
      exact absurd ⟨h0, h3⟩ hz
    · have h3 : x ≠ y := fun q => by have := c2.2 q; simp [this] at h
      simp -implicitDefEqProofs only [go_sem]
      rw [if_neg h3]
      refine cond_intro (fun h => ?_) (fun h => ?_)
      · have h4 : y < x := c3.1 (of_decide_eq_true h)
        simp -implicitDefEqProofs only [go_sem]
        refine drawn_intro (by kernel_rfl) (by kernel_rfl) (by kernel_rfl) ?_
        simp -implicitDefEqProofs only [go_sem]
        refine Call.intro (minus_c _ (h1.sm (by omega)) (Nat.le_of_lt h4)) ?_
        simp -implicitDefEqProofs only [go_sem]
        rw [if_pos h4]
      · have h4 : ¬ y < x := fun q => of_decide_eq_false h (c3.2 q)
        simp -implicitDefEqProofs only [go_sem]
        refine drawn_intro (by kernel_rfl) (by kernel_rfl) (by kernel_rfl) ?_
        simp -implicitDefEqProofs only [go_sem]
        refine Call.intro (minus_c _ (h2.sm (by omega)) (by omega)) ?_
        simp -implicitDefEqProofs only [go_sem]
        rw [if_neg h4]
set_option maxRecDepth 100000 in
theorem less_c (E : Nat → Option Value) {a b : Nm} {k : Nat} (ha : NOk a k) (hb : NOk b k) (hk : k ≤ 1000000) : DCall Tryz.prog E 35 [nmD a, nmD b] (.data (bD (nless a b))) := by
  refine dcall_of Tryz.func35 rfl (by kernel_rfl) Tryz.ntmps35 (by kernel_rfl) (by simp) (rs := [.tmp 4]) rfl ?_
  rintro ⟨P, E, σ0, w0, base, n, kb, df, G0⟩ rfl rfl rfl rfl
  have hn := negated_c E b
  have hs := sum_c E ha hb.neg hk
  have hg := sign_c E (nsum a (nneg b))
  have hL : nless a b = decide (nsign (nsum a (nneg b)) < 0) := rfl
  rw [hL]
  generalize nsum a (nneg b) = d at *
  generalize nneg b = c at *
  simp -implicitDefEqProofs only [go_sem]
  refine Call.intro hn ?_
  simp -implicitDefEqProofs only [go_sem]
  refine Call.intro hs ?_
  simp -implicitDefEqProofs only [go_sem]
  refine Call.intro hg ?_
  simp -implicitDefEqProofs only [go_sem, finK]
def posB (b : Nat) : Nat := if b = 9223372036854775808 then 0 else b
set_option maxRecDepth 100000 in
theorem positive_c (E : Nat → Option Value) (b : Nat) : DCall Tryz.prog E 36 [.v (.int .u64 b)] (.data (.v (.int .u64 (posB b)))) := by
  refine dcall_of Tryz.func36 rfl (by kernel_rfl) Tryz.ntmps36 (by kernel_rfl) (by simp) (rs := [.tmp 2]) rfl ?_
  rintro ⟨P, E, σ0, w0, base, n, kb, df, G0⟩ rfl rfl rfl rfl
  simp -implicitDefEqProofs only [go_sem]
  refine cond_intro (fun h => ?_) (fun h => ?_)
  · have : b = 9223372036854775808 := by have := beq_iff_eq.1 h; omega
    simp -implicitDefEqProofs only [go_sem, finK]
    unfold posB; rw [if_pos this]; rfl
  · have : b ≠ 9223372036854775808 := by have := beq_eq_false_iff_ne.1 h; omega
    simp -implicitDefEqProofs only [go_sem, finK]
    unfold posB; rw [if_neg this]
end Go.Enc
end
section
set_option linter.unusedSimpArgs false
namespace Go.Enc
open Go.Proofs Go.Enc.Dg Go.Enc.Nu
def nplain (b : Nat) : Nm × Bool :=
  let e := b / 4503599627370496 % 2048
  let f := b % 4503599627370496
  if e = 0 ∧ f = 0 then (nzero, true) else if e < 123 ∨ 1923 < e ∨ (e = 1923 ∧ 0 < f) then (nzero, false) else (⟨decide (b / 9223372036854775808 = 1), f + 4503599627370496, (e : Int) - 1075⟩, true)
theorem ofInt64 {b : Nat} (h : b < 18446744073709551616) : (BitVec.ofInt 64 (b : Int)).toNat = b := by
  simp [BitVec.ofInt, Int.toNat_emod]; omega
theorem wrapU64 {n : Nat} (h : n < 18446744073709551616) : IntKind.u64.wrap (n : Int) = n := IntWalk.u64_in n ⟨by omega, by omega⟩
theorem shr52 {b : Nat} : (b : Int).fdiv (2 ^ min 52 64) = ((b / 4503599627370496 : Nat) : Int) := by
  rw [show (2 : Int) ^ min 52 64 = 4503599627370496 by decide, Int.fdiv_eq_ediv_of_nonneg _ (by decide)]; omega
theorem shr63 {b : Nat} : (b : Int).fdiv (2 ^ min 63 64) = ((b / 9223372036854775808 : Nat) : Int) := by
  rw [show (2 : Int) ^ min 63 64 = 9223372036854775808 by decide, Int.fdiv_eq_ediv_of_nonneg _ (by decide)]; omega
theorem andM {x m k : Nat} (h : x < 18446744073709551616) (hm : (BitVec.ofInt 64 (m : Int)).toNat = 2 ^ k - 1) : pint .and .u64 (x : Int) (m : Int) = some (.int .u64 ((x % 2 ^ k : Nat) : Int)) := by
  have e : (BitVec.ofInt 64 (x : Int) &&& BitVec.ofInt 64 (m : Int)).toNat = x % 2 ^ k := by
    rw [BitVec.toNat_and, ofInt64 h, hm, Nat.and_two_pow_sub_one_eq_mod]
  have h2 : x % 2 ^ k ≤ x := Nat.mod_le _ _
  show some (Value.int .u64 (IntKind.u64.wrap ((BitVec.ofInt 64 (x : Int) &&& BitVec.ofInt 64 (m : Int)).toNat : Int))) = _
  rw [e, wrapU64 (Nat.lt_of_le_of_lt h2 h)]
theorem and2047 {x : Nat} (h : x < 18446744073709551616) : pint .and .u64 (x : Int) 2047 = some (.int .u64 ((x % 2048 : Nat) : Int)) := andM (m := 2047) (k := 11) h (by decide)
theorem and52 {x : Nat} (h : x < 18446744073709551616) : pint .and .u64 (x : Int) 4503599627370495 = some (.int .u64 ((x % 4503599627370496 : Nat) : Int)) := andM (m := 4503599627370495) (k := 52) h (by decide)
theorem tB {b : Bool} (h : b = true) : T.d (D.v (Value.bool b)) = T.d (D.v (Value.bool true)) := by rw [h]
theorem beqT {x y : Int} (h : x = y) : (x == y) = true := beq_iff_eq.2 h
theorem beqF {x y : Int} (h : x ≠ y) : (x == y) = false := beq_eq_false_iff_ne.2 h
theorem tup_weak {σ : Mem} {u : Value} {ds : List D} (h : Rep σ (.tup (zD :: ds)) u) : Rep σ (.tup (nmD nzero :: ds)) u := by
  simp only [Rep, RepL] at h ⊢
  obtain ⟨us, rfl, u1, r1, e1, h1, h2⟩ := h
  refine ⟨us, rfl, u1, r1, e1, ?_, h2⟩
  have := zD_weak (σ := σ) (u := u1) (by simp only [Rep]; exact h1)
  simpa only [Rep] using this
set_option maxRecDepth 100000 in
theorem plainr_z (E : Nat → Option Value) {b : Nat} (hb : b < 18446744073709551616) (h : (nplain b).1 = nzero) : DCall Tryz.prog E 34 [.v (.int .u64 b)] (.data (.tup [zD, bD (nplain b).2])) := by
  refine dcall_of Tryz.func34 rfl (by kernel_rfl) Tryz.ntmps34 (by kernel_rfl) (by simp) (rs := [.cell 2 70, .tmp 3]) rfl ?_
  rintro ⟨P, E, σ0, w0, base, n, kb, df, G0⟩ rfl rfl rfl rfl
  have q1 := and2047 (x := b / 4503599627370496) (by omega)
  have q2 := and52 hb
  simp -implicitDefEqProofs only [go_sem, Option.some.injEq, Value.int.injEq, true_and] at q1 q2
  have he : b / 4503599627370496 % 2048 < 2048 := Nat.mod_lt _ (by decide)
  have hf : b % 4503599627370496 < 4503599627370496 := Nat.mod_lt _ (by decide)
  unfold nplain at h ⊢
  simp only at h ⊢
  generalize b / 4503599627370496 % 2048 = e at *
  generalize b % 4503599627370496 = f at *
  have c1 : IntKind.i64.wrap (e : Int) = e := w64 (by omega)
  have c2 : IntKind.i64.wrap (f : Int) = f := w64 (by omega)
  by_cases h1 : e = 0
  · have e0 := tB (beqT (show (e : Int) = 0 by omega))
    by_cases h2 : f = 0
    · have e1 := tB (beqT (show (f : Int) = 0 by omega))
      rw [if_pos ⟨h1, h2⟩]
      simp -implicitDefEqProofs only [go_sem, shr52, q1, q2, c1, c2, e0, e1]
      refine fin_many ?_
      simp -implicitDefEqProofs only [go_sem]
    · have e1 : ((f : Int) == 0) = false := beqF (by omega)
      rw [if_neg (by omega), if_pos (by omega)]
      have e2 : decide ((e : Int) < 123) = true := tD (by omega)
      simp -implicitDefEqProofs only [go_sem, shr52, q1, q2, c1, c2, e0, e1, e2]
      refine fin_many ?_
      simp -implicitDefEqProofs only [go_sem]
  · have e1 : ((e : Int) == 0) = false := beqF (by omega)
    by_cases h2 : e < 123 ∨ 1923 < e ∨ (e = 1923 ∧ 0 < f)
    · rw [if_neg (by omega), if_pos h2]
      by_cases h3 : e < 123
      · have e2 : decide ((e : Int) < 123) = true := tD (by omega)
        simp -implicitDefEqProofs only [go_sem, shr52, q1, q2, c1, c2, e1, e2]
        refine fin_many ?_
        simp -implicitDefEqProofs only [go_sem]
      · have e2 : decide ((e : Int) < 123) = false := fD (by omega)
        by_cases h4 : 1923 < e
        · have e3 : decide ((e : Int) > 1923) = true := tD (by omega)
          simp -implicitDefEqProofs only [go_sem, shr52, q1, q2, c1, c2, e1, e2, e3]
          refine fin_many ?_
          simp -implicitDefEqProofs only [go_sem]
        · have e3 : decide ((e : Int) > 1923) = false := fD (by omega)
          have e4 : e = 1923 := by omega
          have e6 := tB (beqT (show (e : Int) = 1923 by omega))
          have e5 : decide ((f : Int) > 0) = true := tD (by omega)
          simp -implicitDefEqProofs only [go_sem, shr52, q1, q2, c1, c2, e1, e2, e3, e6, e5]
          refine fin_many ?_
          simp -implicitDefEqProofs only [go_sem]
    · rw [if_neg (by omega), if_neg h2] at h
      exact absurd (congrArg Nm.n h) (by show f + 4503599627370496 ≠ 0; omega)
theorem nplain_ok {b : Nat} (h : (nplain b).1 ≠ nzero) : (nplain b).2 = true ∧ (nplain b).1 = ⟨decide (b / 9223372036854775808 = 1), b % 4503599627370496 + 4503599627370496, ((b / 4503599627370496 % 2048 : Nat) : Int) - 1075⟩ ∧ 123 ≤ b / 4503599627370496 % 2048 ∧ b / 4503599627370496 % 2048 ≤ 1923 ∧ (b / 4503599627370496 % 2048 = 1923 → b % 4503599627370496 = 0) := by
  unfold nplain at h ⊢
  simp only at h ⊢
  split at h
  · exact absurd rfl h
  · rename_i h1
    split at h
    · exact absurd rfl h
    · rename_i h2
      rw [if_neg h1, if_neg h2]
      exact ⟨rfl, rfl, by omega, by omega, by omega⟩
set_option maxRecDepth 100000 in
theorem plainr_c (E : Nat → Option Value) {b : Nat} (hb : b < 18446744073709551616) : DCall Tryz.prog E 34 [.v (.int .u64 b)] (.data (.tup [nmD (nplain b).1, bD (nplain b).2])) := by
  by_cases hz : (nplain b).1 = nzero
  · rw [hz]; exact (plainr_z E hb hz).weak fun σ u h => tup_weak h
  obtain ⟨p1, p2, p3, p4, p5⟩ := nplain_ok hz
  rw [p1, p2]
  refine dcall_of Tryz.func34 rfl (by kernel_rfl) Tryz.ntmps34 (by kernel_rfl) (by simp) (rs := [.cell 2 70, .tmp 3]) rfl ?_
  rintro ⟨P, E, σ0, w0, base, n, kb, df, G0⟩ rfl rfl rfl rfl
  have q1 := and2047 (x := b / 4503599627370496) (by omega)
  have q2 := and52 hb
  simp -implicitDefEqProofs only [go_sem, Option.some.injEq, Value.int.injEq, true_and] at q1 q2
  have he : b / 4503599627370496 % 2048 < 2048 := Nat.mod_lt _ (by decide)
  have hf : b % 4503599627370496 < 4503599627370496 := Nat.mod_lt _ (by decide)
  generalize b / 4503599627370496 % 2048 = e at *
  generalize b % 4503599627370496 = f at *
  have c1 : IntKind.i64.wrap (e : Int) = e := w64 (by omega)
  have c2 : IntKind.i64.wrap (f : Int) = f := w64 (by omega)
  have c3 : IntKind.i64.wrap ((f : Int) + 4503599627370496) = ((f + 4503599627370496 : Nat) : Int) := by rw [w64 (by omega)]; omega
  have c4 : IntKind.i64.wrap ((e : Int) - 1075) = (e : Int) - 1075 := w64 (by omega)
  have e1 : ((e : Int) == 0) = false := beqF (by omega)
  have e2 : decide ((e : Int) < 123) = false := fD (by omega)
  have e3 : decide ((e : Int) > 1923) = false := fD (by omega)
  have sg : (((b / 9223372036854775808 : Nat) : Int) == 1) = decide (b / 9223372036854775808 = 1) := by rw [Bool.eq_iff_iff, beq_iff_eq, decide_eq_true_eq]; omega
  by_cases h4 : e = 1923
  · have e6 := tB (beqT (show (e : Int) = 1923 by omega))
    have e5 : decide ((f : Int) > 0) = false := fD (by have := p5 h4; omega)
    simp -implicitDefEqProofs only [go_sem, shr52, shr63, q1, q2, c1, c2, c3, c4, e1, e2, e3, e6, e5]
    refine Call.intro (nat_c _ (f + 4503599627370496) (Nat.lt_of_le_of_lt (show _ ≤ 9007199254740992 by omega) (by decide))) ?_
    simp -implicitDefEqProofs only [go_sem]
    refine fin_many ?_
    simp -implicitDefEqProofs only [go_sem, sg, c4]
  · have e6 : ((e : Int) == 1923) = false := beqF (by omega)
    simp -implicitDefEqProofs only [go_sem, shr52, shr63, q1, q2, c1, c2, c3, c4, e1, e2, e3, e6]
    refine Call.intro (nat_c _ (f + 4503599627370496) (Nat.lt_of_le_of_lt (show _ ≤ 9007199254740992 by omega) (by decide))) ?_
    simp -implicitDefEqProofs only [go_sem]
    refine fin_many ?_
    simp -implicitDefEqProofs only [go_sem, sg, c4]
/-- Every float's number is small enough. -/
theorem nplain_nok (b : Nat) : NOk (nplain b).1 53 := by
  by_cases hz : (nplain b).1 = nzero
  · rw [hz]; exact ⟨Nat.pow_pos (by decide), by decide, by decide⟩
  · obtain ⟨p1, p2, p3, p4, p5⟩ := nplain_ok hz
    rw [p2]
    have hf : b % 4503599627370496 < 4503599627370496 := Nat.mod_lt _ (by decide)
    refine ⟨?_, by simp only; omega, by simp only; omega⟩
    unfold Bd
    simp only
    omega
/-- A box's datum. -/
abbrev boxD (x : Nat × Nat) : D := .agg [.v (.int .u64 x.1), .v (.int .u64 x.2)]
attribute [go_sem] boxD
def makeK (lo hi : Nat) (bx by' c : Bool) : (Nat × Nat) × Int :=
  if bx = false ∨ by' = false then ((0, 0), 1) else if c = true then ((0, 0), 2) else ((posB lo, posB hi), 0)
def makeB (lo hi : Nat) : (Nat × Nat) × Int := makeK lo hi (nplain lo).2 (nplain hi).2 (nless (nplain hi).1 (nplain lo).1)
set_option maxRecDepth 100000 in
theorem make_k (E : Nat → Option Value) {lo hi : Nat} {x y : Nm} {bx by' c : Bool} (p1 : DCall Tryz.prog E 34 [.v (.int .u64 lo)] (.data (.tup [nmD x, bD bx]))) (p2 : DCall Tryz.prog E 34 [.v (.int .u64 hi)] (.data (.tup [nmD y, bD by'])))
    (hl : DCall Tryz.prog E 35 [nmD y, nmD x] (.data (bD c))) : DCall Tryz.prog E 15 [boxD (lo, hi)] (.data (.tup [boxD (makeK lo hi bx by' c).1, intD (makeK lo hi bx by' c).2])) := by
  refine dcall_of Tryz.func15 rfl (by kernel_rfl) Tryz.ntmps15 (by kernel_rfl) (by simp) (rs := [.cell 2 27, .tmp 3]) rfl ?_
  rintro ⟨P, E, σ0, w0, base, n, kb, df, G0⟩ rfl rfl rfl rfl
  unfold makeK
  simp -implicitDefEqProofs only [go_sem]
  refine Call.intro p1 ?_
  simp -implicitDefEqProofs only [go_sem]
  refine Call.intro p2 ?_
  cases bx
  · simp -implicitDefEqProofs only [go_sem, true_or]
    refine fin_many ?_
    simp -implicitDefEqProofs only [go_sem]
  · cases by'
    · simp -implicitDefEqProofs only [go_sem, or_true]
      refine fin_many ?_
      simp -implicitDefEqProofs only [go_sem]
    · simp -implicitDefEqProofs only [go_sem, or_self, if_false]
      refine Call.intro hl ?_
      cases c
      · simp -implicitDefEqProofs only [go_sem]
        refine drawn_intro (by kernel_rfl) (by kernel_rfl) (by kernel_rfl) ?_
        simp -implicitDefEqProofs only [go_sem]
        refine Call.intro (positive_c _ lo) ?_
        simp -implicitDefEqProofs only [go_sem]
        refine Call.intro (positive_c _ hi) ?_
        simp -implicitDefEqProofs only [go_sem]
        refine fin_many ?_
        simp -implicitDefEqProofs only [go_sem, or_self, if_false]
      · simp -implicitDefEqProofs only [go_sem]
        refine fin_many ?_
        simp -implicitDefEqProofs only [go_sem, or_self, if_false]
set_option maxRecDepth 100000 in
theorem make_c (E : Nat → Option Value) {lo hi : Nat} (h1 : lo < 18446744073709551616) (h2 : hi < 18446744073709551616) : DCall Tryz.prog E 15 [boxD (lo, hi)] (.data (.tup [boxD (makeB lo hi).1, intD (makeB lo hi).2])) := by
  have q1 := plainr_c E h1
  have q2 := plainr_c E h2
  have q3 := less_c E (nplain_nok hi) (nplain_nok lo) (by omega)
  have q := make_k E q1 q2 q3
  unfold makeB
  exact q
end Go.Enc
end
