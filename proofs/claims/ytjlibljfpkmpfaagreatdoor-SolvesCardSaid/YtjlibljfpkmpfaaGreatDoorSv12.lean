/-
  Package math and package exact by their contracts on data. Package exact by its contracts: Plain, side, Add.
-/
import Derived.Test.YtjlibljfpkmpfaaGreatDoorSv10
import Derived.Test.YtjlibljfpkmpfaaGreatDoorSv11
section
set_option linter.unusedSimpArgs false
namespace Go.Enc
open Go.Proofs Go.Enc.Fl
/-- A contract of a function of the model's own. -/
theorem dcall_extern {P : Program} {E : Nat → Option Value} {f : FuncId} {fn : Func} {args : List D} {d : D} {e : Array Value → Sem Value} (hf : P.funcs[f]? = some fn) (h1 : (fn.name == "runtime.NumGoroutine") = false) (h2 : fn.body.isNone = true) (h3 : (Extern.findNext fn).isNone = true)
    (h4 : Extern.find fn = some e) (h : ∀ (σ : Mem) (w : World) (us : List Value), RepL σ args us → ∃ u, (e us.toArray).run P w = .ok u w ∧ Rep σ d u) : DCall P E f args (.data d) := by
  intro σ w us hF hargs o a next Q hnext
  obtain ⟨u, hu, hr⟩ := h σ w us hargs
  rw [run_callFunc_extern hf h1 h2 (by simpa using h3) h4, hu]
  exact hnext u w (After.same hF hr)
/-- A float by its bits. -/
abbrev flD (b : Nat) : D := .v (.float .f64 b)
abbrev u64D (n : Int) : D := .v (.int .u64 n)
set_option maxRecDepth 100000 in
theorem frombits_c (E : Nat → Option Value) (n : Int) : DCall Tryz.prog E 77 [u64D n] (.data (flD n.toNat)) := by
  refine dcall_extern Tryz.func77 (by kernel_rfl) (by kernel_rfl) (by kernel_rfl) (e := Extern.MathFloatBits.float64frombits) (by kernel_rfl) fun σ w us h => ?_
  simp only [RepL, Rep, u64D] at h
  obtain ⟨_, _, rfl, rfl, rfl⟩ := h
  exact ⟨.float .f64 n.toNat, rfl, by simp [flD, Rep]⟩
set_option maxRecDepth 100000 in
theorem bits_c (E : Nat → Option Value) (n : Nat) : DCall Tryz.prog E 81 [flD n] (.data (u64D n)) := by
  refine dcall_extern Tryz.func81 (by kernel_rfl) (by kernel_rfl) (by kernel_rfl) (e := Extern.MathFloatBits.float64bits) (by kernel_rfl) fun σ w us h => ?_
  simp only [RepL, Rep, flD] at h
  obtain ⟨_, _, rfl, rfl, rfl⟩ := h
  exact ⟨.int .u64 n, rfl, by simp [u64D, Rep]⟩
set_option maxRecDepth 100000 in
theorem fma_c (E : Nat → Option Value) {x y z r : Nat} (hr : Ieee.double.fma x y z = some r) : DCall Tryz.prog E 127 [flD x, flD y, flD z] (.data (flD r)) := by
  refine dcall_extern Tryz.func127 (by kernel_rfl) (by kernel_rfl) (by kernel_rfl) (e := Extern.MathFMA.fma) (by kernel_rfl) fun σ w us h => ?_
  simp only [RepL, Rep, flD] at h
  obtain ⟨_, _, rfl, rfl, _, _, rfl, rfl, _, _, rfl, rfl, rfl⟩ := h
  refine ⟨.float .f64 r, ?_, by simp [flD, Rep]⟩
  have : FloatKind.f64.format.fma x y z = some r := hr
  show Sem.run _ (match FloatKind.f64.format.fma x y z with | some r => (pure (Value.float .f64 r) : Sem Value) | none => _) w = _
  rw [this]; rfl
set_option maxRecDepth 100000 in
theorem float_c (E : Nat → Option Value) (n : Nat) : DCall Tryz.prog E 31 [u64D n] (.data (flD n)) := by
  refine dcall_of Tryz.func31 rfl (by kernel_rfl) Tryz.ntmps31 (by kernel_rfl) (by simp) (rs := [.tmp 2]) rfl ?_
  rintro ⟨P, E, σ0, w0, base, n, kb, df, G0⟩ rfl rfl rfl rfl
  simp only [go_sem, u64D, flD]
  refine Call.intro (frombits_c _ n) ?_
  simp only [go_sem, flD, Int.toNat_natCast]
theorem wrapU {n : Int} (h : 0 ≤ n) (h2 : n < 18446744073709551616) : IntKind.u64.wrap n = n := by
  exact IntWalk.u64_in n ⟨h, by omega⟩
theorem ofInt_toNat {b : Nat} (h : b < 2 ^ 64) : (BitVec.ofInt 64 (b : Int)).toNat = b := by
  simp [BitVec.ofInt, Int.toNat_emod]; omega
theorem andNot63 {b : Nat} (h : b < 2 ^ 64) : IntKind.u64.wrap ((BitVec.ofInt 64 (b : Int) &&& ~~~ BitVec.ofInt 64 9223372036854775808).toNat : Int) = ((b % 2 ^ 63 : Nat) : Int) := by
  have e : (~~~ BitVec.ofInt 64 9223372036854775808).toNat = 2 ^ 63 - 1 := by decide
  rw [BitVec.toNat_and, ofInt_toNat h, e, Nat.and_two_pow_sub_one_eq_mod]
  exact wrapU (by omega) (by omega)
set_option maxRecDepth 100000 in
theorem abs_c (E : Nat → Option Value) {b : Nat} (h : b < 2 ^ 64) : DCall Tryz.prog E 114 [flD b] (.data (flD (b % 2 ^ 63))) := by
  refine dcall_of Tryz.func114 rfl (by kernel_rfl) Tryz.ntmps114 (by kernel_rfl) (by simp) (rs := [.tmp 2]) rfl ?_
  rintro ⟨P, E, σ0, w0, base, n, kb, df, G0⟩ rfl rfl rfl rfl
  simp only [go_sem, flD]
  refine Call.intro (bits_c _ b) ?_
  simp only [go_sem, u64D, andNot63 h]
  refine Call.intro (frombits_c _ _) ?_
  simp only [go_sem, flD]
  have e := congrArg Int.toNat (andNot63 h)
  rw [Int.toNat_natCast] at e
  exact congrArg (fun z => T.d (D.v (Value.float FloatKind.f64 z))) e
set_option maxRecDepth 100000 in
theorem inf_c (E : Nat → Option Value) (n : Int) : DCall Tryz.prog E 122 [intD n] (.data (flD (if 0 ≤ n then 9218868437227405312 else 18442240474082181120))) := by
  refine dcall_of Tryz.func122 rfl (by kernel_rfl) Tryz.ntmps122 (by kernel_rfl) (by simp) (rs := [.tmp 2]) rfl ?_
  rintro ⟨P, E, σ0, w0, base, n, kb, df, G0⟩ rfl rfl rfl rfl
  simp only [go_sem, intD]
  refine cond_intro (fun h => ?_) (fun h => ?_)
  · simp only [go_sem]
    refine Call.intro (frombits_c _ _) ?_
    simp only [go_sem, flD]
    rw [if_pos (by simpa using h)]
  · simp only [go_sem]
    refine Call.intro (frombits_c _ _) ?_
    simp only [go_sem, flD]
    rw [if_neg (by simpa using h)]
set_option maxRecDepth 100000 in
theorem nan_c (E : Nat → Option Value) : DCall Tryz.prog E 126 [] (.data (flD 9221120237041090561)) := by
  refine dcall_of Tryz.func126 rfl (by kernel_rfl) Tryz.ntmps126 (by kernel_rfl) (by simp) (rs := [.tmp 0]) rfl ?_
  rintro ⟨P, E, σ0, w0, base, n, kb, df, G0⟩ rfl rfl rfl rfl
  simp only [go_sem]
  refine Call.intro (frombits_c _ _) ?_
  simp only [go_sem, flD]
/-- Is it a NaN? -/
theorem order_self {b : Nat} : (FloatKind.f64.format.order b b != some Ordering.eq) = decide (¬ Num b) := by
  by_cases h : Num b
  · have : FloatKind.f64.format.order b b = some .eq := by
      show Ieee.double.order b b = _
      rw [order_num h h]; simp
    simp [this, h]
  · have : FloatKind.f64.format.order b b = none := by
      obtain ⟨t, ht⟩ := read_nan (b := b) (by unfold Num at h; omega)
      show Ieee.double.order b b = _
      unfold Ieee.Format.order
      rw [ht]; rfl
    simp [this, h]
set_option maxRecDepth 100000 in
theorem isNaN_c (E : Nat → Option Value) (b : Nat) : DCall Tryz.prog E 123 [flD b] (.data (boolD (decide (¬ Num b)))) := by
  refine dcall_of Tryz.func123 rfl (by kernel_rfl) Tryz.ntmps123 (by kernel_rfl) (by simp) (rs := [.tmp 2]) rfl ?_
  rintro ⟨P, E, σ0, w0, base, n, kb, df, G0⟩ rfl rfl rfl rfl
  simp only [go_sem, flD, boolD]
  rw [← order_self]
/-- The comparisons of floats that are no NaN. -/
theorem ord_lt {x y : Nat} (hx : Num x) (hy : Num y) : (FloatKind.f64.format.order x y == some Ordering.lt) = decide (idx x < idx y) := by
  have : FloatKind.f64.format.order x y = _ := order_num hx hy
  rw [this]
  split
  · rename_i h; simp [h]
  · rename_i h; split <;> simp [h]
theorem ord_gt {x y : Nat} (hx : Num x) (hy : Num y) : (FloatKind.f64.format.order x y == some Ordering.gt) = decide (idx y < idx x) := by
  have : FloatKind.f64.format.order x y = _ := order_num hx hy
  rw [this]
  split
  · rename_i h; simp; omega
  · rename_i h; split
    · rename_i h2; simp; omega
    · rename_i h2; simp; omega
theorem ord_eq {x y : Nat} (hx : Num x) (hy : Num y) : (FloatKind.f64.format.order x y == some Ordering.eq) = decide (idx x = idx y) := by
  have : FloatKind.f64.format.order x y = _ := order_num hx hy
  rw [this]
  split
  · rename_i h; simp; omega
  · rename_i h; split
    · rename_i h2; simp [h2]
    · rename_i h2; simp [h2]
theorem ord_ne {x y : Nat} (hx : Num x) (hy : Num y) : (FloatKind.f64.format.order x y != some Ordering.eq) = !decide (idx x = idx y) := by
  rw [← ord_eq hx hy]; rfl
theorem ord_ge {x y : Nat} (hx : Num x) (hy : Num y) : (FloatKind.f64.format.order x y == some Ordering.gt || FloatKind.f64.format.order x y == some Ordering.eq) = decide (idx y ≤ idx x) := by
  rw [ord_gt hx hy, ord_eq hx hy, Bool.eq_iff_iff]
  simp; omega
theorem ord_le {x y : Nat} (hx : Num x) (hy : Num y) : (FloatKind.f64.format.order x y == some Ordering.lt || FloatKind.f64.format.order x y == some Ordering.eq) = decide (idx x ≤ idx y) := by
  rw [ord_lt hx hy, ord_eq hx hy, Bool.eq_iff_iff]
  simp; omega
theorem num0 : Num 0 ∧ idx 0 = 0 := by decide
set_option maxRecDepth 100000 in
theorem isInf_c (E : Nat → Option Value) {b : Nat} (hl : b < 2 ^ 64) (hb : Num b) : DCall Tryz.prog E 125 [flD b, intD 0] (.data (boolD (decide (b % 2 ^ 63 = inf)))) := by
  refine dcall_of Tryz.func125 rfl (by kernel_rfl) Tryz.ntmps125 (by kernel_rfl) (by simp) (rs := [.tmp 4]) rfl ?_
  rintro ⟨P, E, σ0, w0, base, n, kb, df, G0⟩ rfl rfl rfl rfl
  simp only [go_sem, flD, boolD, intD]
  refine cond_intro (fun _ => ?_) (fun h => by cases h)
  simp only [go_sem]
  refine Call.intro (abs_c _ hl) ?_
  simp only [go_sem, flD]
  have h1 : b % 2 ^ 63 % 2 ^ 63 = b % 2 ^ 63 := Nat.mod_mod _ _
  have n1 : Num (b % 2 ^ 63) := by unfold Num at *; omega
  have n2 : Num 9218868437227405311 := by decide
  have i1 : idx (b % 2 ^ 63) = (b % 2 ^ 63 : Nat) := idx_of_lt (by omega)
  have i2 : idx 9218868437227405311 = 9218868437227405311 := by decide
  rw [ord_gt n1 n2, i1, i2]
  unfold Num inf at *
  congr 4
  simp only [eq_iff_iff]
  omega
end Go.Enc
end
section
set_option linter.unusedSimpArgs false
namespace Go.Enc
open Go.Proofs Go.Enc.Fl
/-- exact.Plain, on bits. -/
def plainB (b : Nat) : Bool := decide (b % 2 ^ 63 = 0 ∨ (123 * 2 ^ 52 ≤ b % 2 ^ 63 ∧ b % 2 ^ 63 ≤ 1923 * 2 ^ 52))
theorem order_nan {b c : Nat} (h : ¬ Num b) : FloatKind.f64.format.order b c = none := by
  obtain ⟨t, ht⟩ := read_nan (b := b) (by unfold Num at h; omega)
  show Ieee.double.order b c = _
  unfold Ieee.Format.order
  rw [ht]; rfl
theorem num_abs {b : Nat} : Num (b % 2 ^ 63) ↔ Num b := by unfold Num; rw [Nat.mod_mod]
theorem idx_abs (b : Nat) : idx (b % 2 ^ 63) = (b % 2 ^ 63 : Nat) := idx_of_lt (Nat.mod_lt _ (by omega))
theorem idx_zero {b : Nat} : idx b = 0 ↔ b % 2 ^ 63 = 0 := by rw [idx_sgn]; split <;> omega
set_option maxRecDepth 100000 in
theorem plain_c (E : Nat → Option Value) {b : Nat} (hl : b < 2 ^ 64) : DCall Tryz.prog E 76 [flD b] (.data (boolD (plainB b))) := by
  refine dcall_of Tryz.func76 rfl (by kernel_rfl) Tryz.ntmps76 (by kernel_rfl) (by simp) (rs := [.tmp 2]) rfl ?_
  rintro ⟨P, E, σ0, w0, base, n, kb, df, G0⟩ rfl rfl rfl rfl
  simp only [go_sem, flD, boolD]
  refine Call.intro (abs_c _ hl) ?_
  have n2 : Num 553942754166571008 ∧ idx 553942754166571008 = 553942754166571008 := by decide
  have n3 : Num 8660422083433463808 ∧ idx 8660422083433463808 = 8660422083433463808 := by decide
  by_cases hN : Num b
  · have hA := num_abs.2 hN
    have e1 := ord_eq hN num0.1
    have e2 := ord_ge hA n2.1
    have e3 := ord_le hA n3.1
    rw [num0.2] at e1
    rw [n2.2, idx_abs] at e2
    rw [n3.2, idx_abs] at e3
    have hz := @idx_zero b
    by_cases h0 : b % 2 ^ 63 = 0
    · have e1' := e1.trans (decide_eq_true (hz.2 h0))
      simp only [go_sem, flD, e1']
      have : plainB b = true := decide_eq_true (.inl h0)
      rw [this]
    · have e1' := e1.trans (decide_eq_false (fun e => h0 (hz.1 e)))
      by_cases h1 : 123 * 2 ^ 52 ≤ b % 2 ^ 63
      · have e2' := e2.trans (decide_eq_true (by omega))
        simp only [go_sem, flD, e1', e2']
        rw [e3]
        have : plainB b = decide (((b % 2 ^ 63 : Nat) : Int) ≤ 8660422083433463808) := by unfold plainB; congr 1; simp only [eq_iff_iff]; omega
        rw [this]
      · have e2' := e2.trans (decide_eq_false (by omega))
        simp only [go_sem, flD, e1', e2']
        have : plainB b = false := decide_eq_false (by omega)
        rw [this]
  · have hA : ¬ Num (b % 2 ^ 63) := fun h => hN (num_abs.1 h)
    have e1 : (FloatKind.f64.format.order b 0 == some Ordering.eq) = false := by rw [order_nan hN]; rfl
    have e2 : (FloatKind.f64.format.order (b % 2 ^ 63) 553942754166571008 == some Ordering.gt || FloatKind.f64.format.order (b % 2 ^ 63) 553942754166571008 == some Ordering.eq) = false := by rw [order_nan hA]; rfl
    simp only [go_sem, flD, e1, e2]
    have : plainB b = false := decide_eq_false (by unfold Num inf at hN; omega)
    rw [this]
/-! ### The next float -/
theorem wrapU_add {b : Nat} (h : b + 1 < 2 ^ 64) : (IntKind.u64.wrap ((b : Int) + 1)).toNat = b + 1 := by rw [wrapU (by omega) (by omega)]; omega
theorem wrapU_sub {b : Nat} (h : b < 2 ^ 64) (h1 : 1 ≤ b) : (IntKind.u64.wrap ((b : Int) - 1)).toNat = b - 1 := by rw [wrapU (by omega) (by omega)]; omega
set_option maxRecDepth 100000 in
theorem copysignU_c (E : Nat → Option Value) : DCall Tryz.prog E 147 [flD 1, flD 9218868437227405312] (.data (flD (1))) := by
  refine dcall_of Tryz.func147 rfl (by kernel_rfl) Tryz.ntmps147 (by kernel_rfl) (by simp) (rs := [.tmp 4]) rfl ?_
  rintro ⟨P, E, σ0, w0, base, n, kb, df, G0⟩ rfl rfl rfl rfl
  simp only [go_sem, flD]
  refine Call.intro (bits_c _ _) ?_
  simp only [go_sem, flD, u64D]
  refine Call.intro (bits_c _ _) ?_
  simp only [go_sem, flD, u64D]
  refine Call.intro (frombits_c _ _) ?_
  simp only [go_sem, flD]
  exact congrArg (fun z => T.d (D.v (Value.float FloatKind.f64 z))) (by decide)
set_option maxRecDepth 100000 in
theorem nextU_c (E : Nat → Option Value) {b : Nat} (hl : b < 2 ^ 64) (hf : Fl.Fin b) :
    DCall Tryz.prog E 144 [flD b, flD 9218868437227405312] (.data (flD (nextUp b))) := by
  refine dcall_of Tryz.func144 rfl (by kernel_rfl) Tryz.ntmps144 (by kernel_rfl) (by simp) (rs := [.tmp 4]) rfl ?_
  rintro ⟨P, E, σ0, w0, base, n, kb, df, G0⟩ rfl rfl rfl rfl
  have hN := hf.num
  have hi := idx_fin.1 hf
  have hI : Num 9218868437227405312 ∧ idx 9218868437227405312 = (inf : Int) := by decide
  simp only [go_sem, flD]
  refine Call.intro (isNaN_c _ _) ?_
  have a1 : decide (¬ Num b) = false := decide_eq_false (fun h => h hN)
  have a2 : decide (¬ Num 9218868437227405312) = false := decide_eq_false (fun h => h hI.1)
  simp only [go_sem, flD, boolD, a1]
  refine Call.intro (isNaN_c _ _) ?_
  have e1 := ord_eq hN hI.1
  have e1' := e1.trans (decide_eq_false (by rw [hI.2]; omega))
  have e2 := ord_eq hN num0.1
  rw [num0.2] at e2
  have e3 := ord_gt hI.1 hN
  have e4 := ord_gt hN num0.1
  rw [num0.2] at e4
  have hinf := inf_lt
  have e3' := e3.trans (decide_eq_true (by rw [hI.2]; omega))
  rcases Int.lt_trichotomy (idx b) 0 with h | h | h
  · have e2' := e2.trans (decide_eq_false (by omega))
    have e4' := e4.trans (decide_eq_false (by omega))
    obtain ⟨r, g1, g2, g3, g4, _⟩ := bits_neg hl h
    have be : ((true : Bool) == false) = false := rfl
    simp only [go_sem, flD, boolD, a2, e1', e2', e3', e4', be]
    refine Call.intro (bits_c _ _) ?_
    simp only [go_sem, flD, u64D]
    refine Call.intro (frombits_c _ _) ?_
    simp only [go_sem, flD]
    refine congrArg (fun z => T.d (D.v (Value.float FloatKind.f64 z))) ?_
    rw [wrapU_sub hl (by omega)]
    unfold nextUp
    rw [if_neg (by omega), if_neg (by omega)]
  · have e2' := e2.trans (decide_eq_true h)
    simp only [go_sem, flD, boolD, a2, e1', e2']
    refine Call.intro (frombits_c _ _) ?_
    simp only [go_sem, flD]
    refine Call.intro (copysignU_c _) ?_
    simp only [go_sem, flD]
    unfold nextUp
    rw [if_pos h]
  · have e2' := e2.trans (decide_eq_false (by omega))
    have e4' := e4.trans (decide_eq_true (by omega))
    obtain ⟨g1, g2, g3⟩ := bits_pos hl h
    have be : ((true : Bool) == true) = true := rfl
    simp only [go_sem, flD, boolD, a2, e1', e2', e3', e4', be]
    refine Call.intro (bits_c _ _) ?_
    simp only [go_sem, flD, u64D]
    refine Call.intro (frombits_c _ _) ?_
    simp only [go_sem, flD]
    refine congrArg (fun z => T.d (D.v (Value.float FloatKind.f64 z))) ?_
    rw [wrapU_add (by omega)]
    unfold nextUp
    rw [if_neg (by omega), if_pos (by omega)]
set_option maxRecDepth 100000 in
theorem copysignD_c (E : Nat → Option Value) : DCall Tryz.prog E 147 [flD 1, flD 18442240474082181120] (.data (flD (2 ^ 63 + 1))) := by
  refine dcall_of Tryz.func147 rfl (by kernel_rfl) Tryz.ntmps147 (by kernel_rfl) (by simp) (rs := [.tmp 4]) rfl ?_
  rintro ⟨P, E, σ0, w0, base, n, kb, df, G0⟩ rfl rfl rfl rfl
  simp only [go_sem, flD]
  refine Call.intro (bits_c _ _) ?_
  simp only [go_sem, flD, u64D]
  refine Call.intro (bits_c _ _) ?_
  simp only [go_sem, flD, u64D]
  refine Call.intro (frombits_c _ _) ?_
  simp only [go_sem, flD]
  exact congrArg (fun z => T.d (D.v (Value.float FloatKind.f64 z))) (by decide)
set_option maxRecDepth 100000 in
theorem nextD_c (E : Nat → Option Value) {b : Nat} (hl : b < 2 ^ 64) (hf : Fl.Fin b) :
    DCall Tryz.prog E 144 [flD b, flD 18442240474082181120] (.data (flD (nextDn b))) := by
  refine dcall_of Tryz.func144 rfl (by kernel_rfl) Tryz.ntmps144 (by kernel_rfl) (by simp) (rs := [.tmp 4]) rfl ?_
  rintro ⟨P, E, σ0, w0, base, n, kb, df, G0⟩ rfl rfl rfl rfl
  have hN := hf.num
  have hi := idx_fin.1 hf
  have hI : Num 18442240474082181120 ∧ idx 18442240474082181120 = -(inf : Int) := by decide
  simp only [go_sem, flD]
  refine Call.intro (isNaN_c _ _) ?_
  have a1 : decide (¬ Num b) = false := decide_eq_false (fun h => h hN)
  have a2 : decide (¬ Num 18442240474082181120) = false := decide_eq_false (fun h => h hI.1)
  simp only [go_sem, flD, boolD, a1]
  refine Call.intro (isNaN_c _ _) ?_
  have e1 := ord_eq hN hI.1
  have e1' := e1.trans (decide_eq_false (by rw [hI.2]; omega))
  have e2 := ord_eq hN num0.1
  rw [num0.2] at e2
  have e3 := ord_gt hI.1 hN
  have e4 := ord_gt hN num0.1
  rw [num0.2] at e4
  have hinf := inf_lt
  have e3' := e3.trans (decide_eq_false (by rw [hI.2]; omega))
  rcases Int.lt_trichotomy (idx b) 0 with h | h | h
  · have e2' := e2.trans (decide_eq_false (by omega))
    have e4' := e4.trans (decide_eq_false (by omega))
    obtain ⟨r, g1, g2, g3, g4, _⟩ := bits_neg hl h
    have be : ((false : Bool) == false) = true := rfl
    simp only [go_sem, flD, boolD, a2, e1', e2', e3', e4', be]
    refine Call.intro (bits_c _ _) ?_
    simp only [go_sem, flD, u64D]
    refine Call.intro (frombits_c _ _) ?_
    simp only [go_sem, flD]
    refine congrArg (fun z => T.d (D.v (Value.float FloatKind.f64 z))) ?_
    rw [wrapU_add (by omega)]
    unfold nextDn
    rw [if_neg (by omega), if_neg (by omega)]
  · have e2' := e2.trans (decide_eq_true h)
    simp only [go_sem, flD, boolD, a2, e1', e2']
    refine Call.intro (frombits_c _ _) ?_
    simp only [go_sem, flD]
    refine Call.intro (copysignD_c _) ?_
    simp only [go_sem, flD]
    unfold nextDn
    rw [if_pos h]
  · have e2' := e2.trans (decide_eq_false (by omega))
    have e4' := e4.trans (decide_eq_true (by omega))
    obtain ⟨g1, g2, g3⟩ := bits_pos hl h
    have be : ((false : Bool) == true) = false := rfl
    simp only [go_sem, flD, boolD, a2, e1', e2', e3', e4', be]
    refine Call.intro (bits_c _ _) ?_
    simp only [go_sem, flD, u64D]
    refine Call.intro (frombits_c _ _) ?_
    simp only [go_sem, flD]
    refine congrArg (fun z => T.d (D.v (Value.float FloatKind.f64 z))) ?_
    rw [wrapU_sub hl (by omega)]
    unfold nextDn
    rw [if_neg (by omega), if_pos (by omega)]
set_option maxRecDepth 100000 in
theorem sideU_c (E : Nat → Option Value) {x r : Nat} (hl : x < 2 ^ 64) (hf : Fl.Fin x) (hr : Num r) : DCall Tryz.prog E 121 [flD x, flD r, intD (1)] (.data (flD (side x r (1)))) := by
  refine dcall_of Tryz.func121 rfl (by kernel_rfl) Tryz.ntmps121 (by kernel_rfl) (by simp) (rs := [.tmp 6]) rfl ?_
  rintro ⟨P, E, σ0, w0, base, n, kb, df, G0⟩ rfl rfl rfl rfl
  have e1 := ord_gt hr num0.1
  rw [num0.2] at e1
  have g1 : decide ((1 : Int) > 0) = true := rfl
  have g2 : decide ((-1 : Int) > 0) = false := rfl
  by_cases h : 0 < idx r
  · have e1' := e1.trans (decide_eq_true h)
    simp only [go_sem, flD, intD, e1', g1, g2]
    refine Call.intro (inf_c _ _) ?_
    simp only [go_sem, flD]
    refine Call.intro (nextU_c _ hl hf) ?_
    simp only [go_sem, flD]
    unfold side
    rw [if_neg (by omega), if_pos ⟨by omega, h⟩]
  · have e1' := e1.trans (decide_eq_false h)
    simp only [go_sem, flD, intD, e1', g1, g2]
    unfold side
    rw [if_neg (by omega), if_neg (by omega)]
set_option maxRecDepth 100000 in
theorem sideD_c (E : Nat → Option Value) {x r : Nat} (hl : x < 2 ^ 64) (hf : Fl.Fin x) (hr : Num r) : DCall Tryz.prog E 121 [flD x, flD r, intD (-1)] (.data (flD (side x r (-1)))) := by
  refine dcall_of Tryz.func121 rfl (by kernel_rfl) Tryz.ntmps121 (by kernel_rfl) (by simp) (rs := [.tmp 6]) rfl ?_
  rintro ⟨P, E, σ0, w0, base, n, kb, df, G0⟩ rfl rfl rfl rfl
  have e1 := ord_lt hr num0.1
  rw [num0.2] at e1
  have g1 : decide ((1 : Int) > 0) = true := rfl
  have g2 : decide ((-1 : Int) > 0) = false := rfl
  by_cases h : idx r < 0
  · have e1' := e1.trans (decide_eq_true h)
    simp only [go_sem, flD, intD, e1', g1, g2]
    refine Call.intro (inf_c _ _) ?_
    simp only [go_sem, flD]
    refine Call.intro (nextD_c _ hl hf) ?_
    simp only [go_sem, flD]
    unfold side
    rw [if_pos ⟨by omega, h⟩]
  · have e1' := e1.trans (decide_eq_false h)
    simp only [go_sem, flD, intD, e1', g1, g2]
    unfold side
    rw [if_neg (by omega), if_neg (by omega)]
end Go.Enc
end
