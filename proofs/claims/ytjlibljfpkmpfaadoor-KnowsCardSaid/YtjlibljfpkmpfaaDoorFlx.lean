/-
  Package math and package exact by their contracts on data.
-/
import Derived.Test.YtjlibljfpkmpfaaDoorCodeF
import Derived.Test.YtjlibljfpkmpfaaDoorFlt
set_option linter.unusedSimpArgs false
namespace Go.Enc
open Go.Proofs Go.Enc.Fl

/-- A contract of a function of the model's own. -/
theorem dcall_extern {P : Program} {E : Nat → Option Value} {f : FuncId} {fn : Func} {args : List D} {d : D} {e : Array Value → Sem Value} (hf : P.funcs[f]? = some fn) (h1 : (fn.name == "runtime.NumGoroutine") = false) (h2 : fn.body.isNone = true) (h3 : (Extern.findNext fn).isNone = true)
    (h4 : Extern.find fn = some e) (h : ∀ (σ : Mem) (w : World) (us : List Value), RepL σ args us → ∃ u, (e us.toArray).run P w = .ok u w ∧ Rep σ d u) : DCall P E f args (.data d) := by
  intro σ w us hF hargs o a next Q hnext
  obtain ⟨u, hu, hr⟩ := h σ w us hargs
  rw [run_callFunc_extern hf h1 h2 (by simpa using h3) h4, hu]
  exact hnext u w (After.same hF hr)

/-- A float by its bits. -/
abbrev flD (b : Nat) : D := .v (.float .f64 b)
abbrev u64D (n : Int) : D := .v (.int .u64 n)

set_option maxRecDepth 100000 in
theorem frombits_c (E : Nat → Option Value) (n : Int) : DCall Tryd.prog E 74 [u64D n] (.data (flD n.toNat)) := by
  refine dcall_extern Tryd.func74 (by kernel_rfl) (by kernel_rfl) (by kernel_rfl) (e := Extern.MathFloatBits.float64frombits) (by kernel_rfl) fun σ w us h => ?_
  simp only [RepL, Rep, u64D] at h
  obtain ⟨_, _, rfl, rfl, rfl⟩ := h
  exact ⟨.float .f64 n.toNat, rfl, by simp [flD, Rep]⟩
set_option maxRecDepth 100000 in
theorem bits_c (E : Nat → Option Value) (n : Nat) : DCall Tryd.prog E 53 [flD n] (.data (u64D n)) := by
  refine dcall_extern Tryd.func53 (by kernel_rfl) (by kernel_rfl) (by kernel_rfl) (e := Extern.MathFloatBits.float64bits) (by kernel_rfl) fun σ w us h => ?_
  simp only [RepL, Rep, flD] at h
  obtain ⟨_, _, rfl, rfl, rfl⟩ := h
  exact ⟨.int .u64 n, rfl, by simp [u64D, Rep]⟩
set_option maxRecDepth 100000 in
theorem fma_c (E : Nat → Option Value) {x y z r : Nat} (hr : Ieee.double.fma x y z = some r) : DCall Tryd.prog E 91 [flD x, flD y, flD z] (.data (flD r)) := by
  refine dcall_extern Tryd.func91 (by kernel_rfl) (by kernel_rfl) (by kernel_rfl) (e := Extern.MathFMA.fma) (by kernel_rfl) fun σ w us h => ?_
  simp only [RepL, Rep, flD] at h
  obtain ⟨_, _, rfl, rfl, _, _, rfl, rfl, _, _, rfl, rfl, rfl⟩ := h
  refine ⟨.float .f64 r, ?_, by simp [flD, Rep]⟩
  have : FloatKind.f64.format.fma x y z = some r := hr
  show Sem.run _ (match FloatKind.f64.format.fma x y z with | some r => (pure (Value.float .f64 r) : Sem Value) | none => _) w = _
  rw [this]; rfl
set_option maxRecDepth 100000 in
theorem sqrt_c (E : Nat → Option Value) {x r : Nat} (hr : Ieee.double.sqrt x = some r) : DCall Tryd.prog E 98 [flD x] (.data (flD r)) := by
  refine dcall_extern Tryd.func98 (by kernel_rfl) (by kernel_rfl) (by kernel_rfl) (e := Extern.MathSqrt.sqrt) (by kernel_rfl) fun σ w us h => ?_
  simp only [RepL, Rep, flD] at h
  obtain ⟨_, _, rfl, rfl, rfl⟩ := h
  refine ⟨.float .f64 r, ?_, by simp [flD, Rep]⟩
  have : FloatKind.f64.format.sqrt x = some r := hr
  show Sem.run _ (match FloatKind.f64.format.sqrt x with | some r => (pure (Value.float .f64 r) : Sem Value) | none => _) w = _
  rw [this]; rfl

set_option maxRecDepth 100000 in
theorem fsqrt_c (E : Nat → Option Value) {x r : Nat} (hr : Ieee.double.sqrt x = some r) : DCall Tryd.prog E 92 [flD x] (.data (flD r)) := by
  refine dcall_of Tryd.func92 rfl (by kernel_rfl) Tryd.ntmps92 (by kernel_rfl) (by simp) (rs := [.tmp 2]) rfl ?_
  rintro ⟨P, E, σ0, w0, base, n, kb⟩ rfl rfl rfl rfl
  simp only [go_sem, Int.reduceEq, ↓reduceIte, Nat.reduceEqDiff, Nat.reduceAdd, Nat.reduceMul, Nat.reduceSub, Nat.reduceDiv, Nat.reduceLeDiff, Nat.reduceLT, Nat.reduceBEq, Nat.reduceBNe, reduceCtorEq, Int.reduceLE, Int.reduceLT, Int.reduceToNat, decide_true, decide_false, flD]
  refine Call.intro (sqrt_c _ hr) ?_
  simp only [go_sem, Int.reduceEq, ↓reduceIte, Nat.reduceEqDiff, Nat.reduceAdd, Nat.reduceMul, Nat.reduceSub, Nat.reduceDiv, Nat.reduceLeDiff, Nat.reduceLT, Nat.reduceBEq, Nat.reduceBNe, reduceCtorEq, Int.reduceLE, Int.reduceLT, Int.reduceToNat, decide_true, decide_false, flD]
set_option maxRecDepth 100000 in
theorem float_c (E : Nat → Option Value) (n : Nat) : DCall Tryd.prog E 46 [u64D n] (.data (flD n)) := by
  refine dcall_of Tryd.func46 rfl (by kernel_rfl) Tryd.ntmps46 (by kernel_rfl) (by simp) (rs := [.tmp 2]) rfl ?_
  rintro ⟨P, E, σ0, w0, base, n, kb⟩ rfl rfl rfl rfl
  simp only [go_sem, Int.reduceEq, ↓reduceIte, Nat.reduceEqDiff, Nat.reduceAdd, Nat.reduceMul, Nat.reduceSub, Nat.reduceDiv, Nat.reduceLeDiff, Nat.reduceLT, Nat.reduceBEq, Nat.reduceBNe, reduceCtorEq, Int.reduceLE, Int.reduceLT, Int.reduceToNat, decide_true, decide_false, u64D, flD]
  refine Call.intro (frombits_c _ n) ?_
  simp only [go_sem, Int.reduceEq, ↓reduceIte, Nat.reduceEqDiff, Nat.reduceAdd, Nat.reduceMul, Nat.reduceSub, Nat.reduceDiv, Nat.reduceLeDiff, Nat.reduceLT, Nat.reduceBEq, Nat.reduceBNe, reduceCtorEq, Int.reduceLE, Int.reduceLT, Int.reduceToNat, decide_true, decide_false, flD, Int.toNat_natCast]

theorem wrapU {n : Int} (h : 0 ≤ n) (h2 : n < 18446744073709551616) : IntKind.u64.wrap n = n := by
  exact IntWalk.u64_in n ⟨h, by omega⟩
theorem ofInt_toNat {b : Nat} (h : b < 2 ^ 64) : (BitVec.ofInt 64 (b : Int)).toNat = b := by
  simp [BitVec.ofInt, Int.toNat_emod]; omega
theorem andNot63 {b : Nat} (h : b < 2 ^ 64) : IntKind.u64.wrap ((BitVec.ofInt 64 (b : Int) &&& ~~~ BitVec.ofInt 64 9223372036854775808).toNat : Int) = ((b % 2 ^ 63 : Nat) : Int) := by
  have e : (~~~ BitVec.ofInt 64 9223372036854775808).toNat = 2 ^ 63 - 1 := by decide
  rw [BitVec.toNat_and, ofInt_toNat h, e, Nat.and_two_pow_sub_one_eq_mod]
  exact wrapU (by omega) (by omega)
set_option maxRecDepth 100000 in
theorem abs_c (E : Nat → Option Value) {b : Nat} (h : b < 2 ^ 64) : DCall Tryd.prog E 88 [flD b] (.data (flD (b % 2 ^ 63))) := by
  refine dcall_of Tryd.func88 rfl (by kernel_rfl) Tryd.ntmps88 (by kernel_rfl) (by simp) (rs := [.tmp 2]) rfl ?_
  rintro ⟨P, E, σ0, w0, base, n, kb⟩ rfl rfl rfl rfl
  simp only [go_sem, Int.reduceEq, ↓reduceIte, Nat.reduceEqDiff, Nat.reduceAdd, Nat.reduceMul, Nat.reduceSub, Nat.reduceDiv, Nat.reduceLeDiff, Nat.reduceLT, Nat.reduceBEq, Nat.reduceBNe, reduceCtorEq, Int.reduceLE, Int.reduceLT, Int.reduceToNat, decide_true, decide_false, flD]
  refine Call.intro (bits_c _ b) ?_
  simp only [go_sem, Int.reduceEq, ↓reduceIte, Nat.reduceEqDiff, Nat.reduceAdd, Nat.reduceMul, Nat.reduceSub, Nat.reduceDiv, Nat.reduceLeDiff, Nat.reduceLT, Nat.reduceBEq, Nat.reduceBNe, reduceCtorEq, Int.reduceLE, Int.reduceLT, Int.reduceToNat, decide_true, decide_false, u64D, andNot63 h]
  refine Call.intro (frombits_c _ _) ?_
  simp only [go_sem, Int.reduceEq, ↓reduceIte, Nat.reduceEqDiff, Nat.reduceAdd, Nat.reduceMul, Nat.reduceSub, Nat.reduceDiv, Nat.reduceLeDiff, Nat.reduceLT, Nat.reduceBEq, Nat.reduceBNe, reduceCtorEq, Int.reduceLE, Int.reduceLT, Int.reduceToNat, decide_true, decide_false, flD]
  have e := congrArg Int.toNat (andNot63 h)
  rw [Int.toNat_natCast] at e
  exact congrArg (fun z => T.d (D.v (Value.float FloatKind.f64 z))) e

set_option maxRecDepth 100000 in
theorem inf_c (E : Nat → Option Value) (n : Int) : DCall Tryd.prog E 85 [intD n] (.data (flD (if 0 ≤ n then 9218868437227405312 else 18442240474082181120))) := by
  refine dcall_of Tryd.func85 rfl (by kernel_rfl) Tryd.ntmps85 (by kernel_rfl) (by simp) (rs := [.tmp 2]) rfl ?_
  rintro ⟨P, E, σ0, w0, base, n, kb⟩ rfl rfl rfl rfl
  simp only [go_sem, Int.reduceEq, ↓reduceIte, Nat.reduceEqDiff, Nat.reduceAdd, Nat.reduceMul, Nat.reduceSub, Nat.reduceDiv, Nat.reduceLeDiff, Nat.reduceLT, Nat.reduceBEq, Nat.reduceBNe, reduceCtorEq, Int.reduceLE, Int.reduceLT, Int.reduceToNat, decide_true, decide_false, intD]
  refine cond_intro (fun h => ?_) (fun h => ?_)
  · simp only [go_sem, Int.reduceEq, ↓reduceIte, Nat.reduceEqDiff, Nat.reduceAdd, Nat.reduceMul, Nat.reduceSub, Nat.reduceDiv, Nat.reduceLeDiff, Nat.reduceLT, Nat.reduceBEq, Nat.reduceBNe, reduceCtorEq, Int.reduceLE, Int.reduceLT, Int.reduceToNat, decide_true, decide_false]
    refine Call.intro (frombits_c _ _) ?_
    simp only [go_sem, Int.reduceEq, ↓reduceIte, Nat.reduceEqDiff, Nat.reduceAdd, Nat.reduceMul, Nat.reduceSub, Nat.reduceDiv, Nat.reduceLeDiff, Nat.reduceLT, Nat.reduceBEq, Nat.reduceBNe, reduceCtorEq, Int.reduceLE, Int.reduceLT, Int.reduceToNat, decide_true, decide_false, flD]
    rw [if_pos (by simpa using h)]
  · simp only [go_sem, Int.reduceEq, ↓reduceIte, Nat.reduceEqDiff, Nat.reduceAdd, Nat.reduceMul, Nat.reduceSub, Nat.reduceDiv, Nat.reduceLeDiff, Nat.reduceLT, Nat.reduceBEq, Nat.reduceBNe, reduceCtorEq, Int.reduceLE, Int.reduceLT, Int.reduceToNat, decide_true, decide_false]
    refine Call.intro (frombits_c _ _) ?_
    simp only [go_sem, Int.reduceEq, ↓reduceIte, Nat.reduceEqDiff, Nat.reduceAdd, Nat.reduceMul, Nat.reduceSub, Nat.reduceDiv, Nat.reduceLeDiff, Nat.reduceLT, Nat.reduceBEq, Nat.reduceBNe, reduceCtorEq, Int.reduceLE, Int.reduceLT, Int.reduceToNat, decide_true, decide_false, flD]
    rw [if_neg (by simpa using h)]
set_option maxRecDepth 100000 in
theorem nan_c (E : Nat → Option Value) : DCall Tryd.prog E 90 [] (.data (flD 9221120237041090561)) := by
  refine dcall_of Tryd.func90 rfl (by kernel_rfl) Tryd.ntmps90 (by kernel_rfl) (by simp) (rs := [.tmp 0]) rfl ?_
  rintro ⟨P, E, σ0, w0, base, n, kb⟩ rfl rfl rfl rfl
  simp only [go_sem, Int.reduceEq, ↓reduceIte, Nat.reduceEqDiff, Nat.reduceAdd, Nat.reduceMul, Nat.reduceSub, Nat.reduceDiv, Nat.reduceLeDiff, Nat.reduceLT, Nat.reduceBEq, Nat.reduceBNe, reduceCtorEq, Int.reduceLE, Int.reduceLT, Int.reduceToNat, decide_true, decide_false]
  refine Call.intro (frombits_c _ _) ?_
  simp only [go_sem, Int.reduceEq, ↓reduceIte, Nat.reduceEqDiff, Nat.reduceAdd, Nat.reduceMul, Nat.reduceSub, Nat.reduceDiv, Nat.reduceLeDiff, Nat.reduceLT, Nat.reduceBEq, Nat.reduceBNe, reduceCtorEq, Int.reduceLE, Int.reduceLT, Int.reduceToNat, decide_true, decide_false, flD]
/-- Is it a NaN? -/
theorem order_self {b : Nat} : (FloatKind.f64.format.order b b != some Ordering.eq) = decide (¬ Num b) := by
  by_cases h : Num b
  · have : FloatKind.f64.format.order b b = some .eq := by
      show Ieee.double.order b b = _
      rw [order_num h h]; simp
    simp [this, h]
  · have : FloatKind.f64.format.order b b = none := by
      obtain ⟨t, ht⟩ := read_nan (b := b) (by unfold Num at h; omega)
      show Ieee.double.order b b = _
      unfold Ieee.Format.order
      rw [ht]; rfl
    simp [this, h]
set_option maxRecDepth 100000 in
theorem isNaN_c (E : Nat → Option Value) (b : Nat) : DCall Tryd.prog E 86 [flD b] (.data (boolD (decide (¬ Num b)))) := by
  refine dcall_of Tryd.func86 rfl (by kernel_rfl) Tryd.ntmps86 (by kernel_rfl) (by simp) (rs := [.tmp 2]) rfl ?_
  rintro ⟨P, E, σ0, w0, base, n, kb⟩ rfl rfl rfl rfl
  simp only [go_sem, Int.reduceEq, ↓reduceIte, Nat.reduceEqDiff, Nat.reduceAdd, Nat.reduceMul, Nat.reduceSub, Nat.reduceDiv, Nat.reduceLeDiff, Nat.reduceLT, Nat.reduceBEq, Nat.reduceBNe, reduceCtorEq, Int.reduceLE, Int.reduceLT, Int.reduceToNat, decide_true, decide_false, flD, boolD]
  rw [← order_self]
/-- The comparisons of floats that are no NaN. -/
theorem ord_lt {x y : Nat} (hx : Num x) (hy : Num y) : (FloatKind.f64.format.order x y == some Ordering.lt) = decide (idx x < idx y) := by
  have : FloatKind.f64.format.order x y = _ := order_num hx hy
  rw [this]
  split
  · rename_i h; simp [h]
  · rename_i h; split <;> simp [h]
theorem ord_gt {x y : Nat} (hx : Num x) (hy : Num y) : (FloatKind.f64.format.order x y == some Ordering.gt) = decide (idx y < idx x) := by
  have : FloatKind.f64.format.order x y = _ := order_num hx hy
  rw [this]
  split
  · rename_i h; simp; omega
  · rename_i h; split
    · rename_i h2; simp; omega
    · rename_i h2; simp; omega
theorem ord_eq {x y : Nat} (hx : Num x) (hy : Num y) : (FloatKind.f64.format.order x y == some Ordering.eq) = decide (idx x = idx y) := by
  have : FloatKind.f64.format.order x y = _ := order_num hx hy
  rw [this]
  split
  · rename_i h; simp; omega
  · rename_i h; split
    · rename_i h2; simp [h2]
    · rename_i h2; simp [h2]
theorem ord_ne {x y : Nat} (hx : Num x) (hy : Num y) : (FloatKind.f64.format.order x y != some Ordering.eq) = !decide (idx x = idx y) := by
  rw [← ord_eq hx hy]; rfl
theorem ord_ge {x y : Nat} (hx : Num x) (hy : Num y) : (FloatKind.f64.format.order x y == some Ordering.gt || FloatKind.f64.format.order x y == some Ordering.eq) = decide (idx y ≤ idx x) := by
  rw [ord_gt hx hy, ord_eq hx hy, Bool.eq_iff_iff]
  simp; omega
theorem ord_le {x y : Nat} (hx : Num x) (hy : Num y) : (FloatKind.f64.format.order x y == some Ordering.lt || FloatKind.f64.format.order x y == some Ordering.eq) = decide (idx x ≤ idx y) := by
  rw [ord_lt hx hy, ord_eq hx hy, Bool.eq_iff_iff]
  simp; omega
theorem num0 : Num 0 ∧ idx 0 = 0 := by decide
set_option maxRecDepth 100000 in
theorem isInf_c (E : Nat → Option Value) {b : Nat} (hl : b < 2 ^ 64) (hb : Num b) : DCall Tryd.prog E 89 [flD b, intD 0] (.data (boolD (decide (b % 2 ^ 63 = inf)))) := by
  refine dcall_of Tryd.func89 rfl (by kernel_rfl) Tryd.ntmps89 (by kernel_rfl) (by simp) (rs := [.tmp 4]) rfl ?_
  rintro ⟨P, E, σ0, w0, base, n, kb⟩ rfl rfl rfl rfl
  simp only [go_sem, Int.reduceEq, ↓reduceIte, Nat.reduceEqDiff, Nat.reduceAdd, Nat.reduceMul, Nat.reduceSub, Nat.reduceDiv, Nat.reduceLeDiff, Nat.reduceLT, Nat.reduceBEq, Nat.reduceBNe, reduceCtorEq, Int.reduceLE, Int.reduceLT, Int.reduceToNat, decide_true, decide_false, flD, boolD, intD]
  refine cond_intro (fun _ => ?_) (fun h => by cases h)
  simp only [go_sem, Int.reduceEq, ↓reduceIte, Nat.reduceEqDiff, Nat.reduceAdd, Nat.reduceMul, Nat.reduceSub, Nat.reduceDiv, Nat.reduceLeDiff, Nat.reduceLT, Nat.reduceBEq, Nat.reduceBNe, reduceCtorEq, Int.reduceLE, Int.reduceLT, Int.reduceToNat, decide_true, decide_false]
  refine Call.intro (abs_c _ hl) ?_
  simp only [go_sem, Int.reduceEq, ↓reduceIte, Nat.reduceEqDiff, Nat.reduceAdd, Nat.reduceMul, Nat.reduceSub, Nat.reduceDiv, Nat.reduceLeDiff, Nat.reduceLT, Nat.reduceBEq, Nat.reduceBNe, reduceCtorEq, Int.reduceLE, Int.reduceLT, Int.reduceToNat, decide_true, decide_false, flD]
  have h1 : b % 2 ^ 63 % 2 ^ 63 = b % 2 ^ 63 := Nat.mod_mod _ _
  have n1 : Num (b % 2 ^ 63) := by unfold Num at *; omega
  have n2 : Num 9218868437227405311 := by decide
  have i1 : idx (b % 2 ^ 63) = (b % 2 ^ 63 : Nat) := idx_of_lt (by omega)
  have i2 : idx 9218868437227405311 = 9218868437227405311 := by decide
  rw [ord_gt n1 n2, i1, i2]
  unfold Num inf at *
  congr 4
  simp only [eq_iff_iff]
  omega
end Go.Enc
