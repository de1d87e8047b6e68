/-
  The steps of the law Knows.
  The four operations on boxes of whole numbers.
  The four operations on boxes of whole numbers, as package plain asks them.
  One step of the law Knows: it answers true.
  The law Knows: it answers true for every script.
-/
import Derived.Test.YtjlibljfpkmpfaaDoorCn
import Derived.Test.YtjlibljfpkmpfaaDoorHold
import Derived.Test.YtjlibljfpkmpfaaDoorScr
section
set_option linter.unusedSimpArgs false
set_option maxRecDepth 100000
namespace Go.Enc
open Go.Proofs Go.Enc.Fl

theorem lwhole_k (E : Nat → Option Value) {n : Int} {x : Nat × Nat} (h : DCall Tryd.prog E 21 [intD 2, .v (.int .i64 n)] (.data (.tup [boxD x, intD 0]))) : DCall Tryd.prog E 13 [intD n] (.data (.tup [boxD x, bD true])) := by
  refine dcall_of Tryd.func13 rfl (by kernel_rfl) Tryd.ntmps13 (by kernel_rfl) (by simp) (rs := [.cell 2 40, .tmp 3]) rfl ?_
  rintro ⟨P, E, σ0, w0, base, n, kb, df, G0⟩ rfl rfl rfl rfl
  simp -implicitDefEqProofs only [go_sem]
  refine Call.intro h ?_
  simp -implicitDefEqProofs only [go_sem, beq_self_eq_true]
  refine fin_many ?_
  simp -implicitDefEqProofs only [go_sem]
theorem lholds_k (E : Nat → Option Value) {n : Int} {x : Nat × Nat} {b : Bool} (h : DCall Tryd.prog E 26 [boxD x, intD n] (.data (bD b))) : DCall Tryd.prog E 15 [boxD x, intD n] (.data (bD b)) := by
  refine dcall_of Tryd.func15 rfl (by kernel_rfl) Tryd.ntmps15 (by kernel_rfl) (by simp) (rs := [.tmp 4]) rfl ?_
  rintro ⟨P, E, σ0, w0, base, n, kb, df, G0⟩ rfl rfl rfl rfl
  simp -implicitDefEqProofs only [go_sem]
  refine Call.intro h ?_
  simp -implicitDefEqProofs only [go_sem, finK]
/-- A number of 30 bits. -/
def sm30 (n : Int) : Int := n % 1073741824 - 536870912
theorem ofInt_and {n : Int} : ((BitVec.ofInt 64 n &&& BitVec.ofInt 64 1073741823).toNat : Int) = n % 1073741824 := by
  have e : (BitVec.ofInt 64 1073741823).toNat = 2 ^ 30 - 1 := by decide
  rw [BitVec.toNat_and, e, Nat.and_two_pow_sub_one_eq_mod, BitVec.toNat_ofInt]
  omega
theorem and30 (n : Int) : pint .and .i64 n 1073741823 = some (.int .i64 (n % 1073741824)) := by
  show some (Value.int .i64 (IntKind.i64.wrap ((BitVec.ofInt 64 n &&& BitVec.ofInt 64 1073741823).toNat : Int))) = _
  rw [ofInt_and, w64 (by omega)]
theorem small_c (E : Nat → Option Value) (n : Int) : DCall Tryd.prog E 12 [intD n, intD 30] (.data (intD (sm30 n))) := by
  refine dcall_of Tryd.func12 rfl (by kernel_rfl) Tryd.ntmps12 (by kernel_rfl) (by simp) (rs := [.tmp 4]) rfl ?_
  rintro ⟨P, E, σ0, w0, base, n, kb, df, G0⟩ rfl rfl rfl rfl
  have q1 := and30 n
  have w1 : IntKind.i64.wrap (1 * 2 ^ min 30 64) = 1073741824 := by decide
  have w2 : IntKind.i64.wrap (1073741824 - 1) = 1073741823 := by decide
  have w3 : IntKind.i64.wrap (30 - 1) = 29 := by decide
  have w4 : IntKind.i64.wrap (1 * 2 ^ min 29 64) = 536870912 := by decide
  have w5 : IntKind.i64.wrap (n % 1073741824 - 536870912) = sm30 n := by rw [w64 (by omega)]; rfl
  simp -implicitDefEqProofs only [go_sem, Option.some.injEq, Value.int.injEq, true_and] at q1
  simp -implicitDefEqProofs only [go_sem]
  refine drawn_intro (by kernel_rfl) (by kernel_rfl) (by kernel_rfl) ?_
  simp -implicitDefEqProofs only [go_sem, w1, w2, w3, w4, q1, w5, finK]
theorem sm30_range (n : Int) : -536870912 ≤ sm30 n ∧ sm30 n < 536870912 := by unfold sm30; omega
/-- An interval as it is made again. -/
structure Gw (x : Nat × Nat) : Prop where
  l1 : x.1 < 18446744073709551616
  l2 : x.2 < 18446744073709551616
  p1 : plainB x.1 = true
  p2 : plainB x.2 = true
  le : idx x.1 ≤ idx x.2
theorem made_gw {E : Nat → Option Value} {q : Nat → Addr} (hq : Sent E q) {x : Nat × Nat} (g : Gw x) : DCall Tryd.prog E 24 [boxD x] (.data (ivD (posB x.1, posB x.2))) := by
  have hm := imake_c hq g.l1 g.l2
  have : makeP q x.1 x.2 = .tup [ivD (posB x.1, posB x.2), .v .nilIface] := by
    unfold makeP
    rw [if_neg (by rw [g.p1, g.p2]; simp), if_neg (by have := g.le; omega)]
  rw [this] at hm
  exact pmade_k E hm
/-- THE BOX OF A WHOLE NUMBER. -/
theorem wbox {E : Nat → Option Value} {n : Int} (h : -1152921504606846976 ≤ n ∧ n ≤ 1152921504606846976) : ∃ x : Nat × Nat, Gw x ∧ DCall Tryd.prog E 13 [intD n] (.data (.tup [boxD x, bD true])) ∧ Dn (n : Rat) (idx x.1) ∧ Up (n : Rat) (idx x.2) := by
  obtain ⟨lo, hi, h1, h2, l1, l2, d, u⟩ := fromInt_c E (n := n) ⟨by omega, by omega⟩
  have k1 := dn_ok ⟨by omega, by omega⟩ d
  have k2 := up_ok ⟨by omega, by omega⟩ u
  exact ⟨(lo, hi), ⟨l1, l2, ok_plain k1, ok_plain k2, v_le_iff.1 (Rat.le_trans d.1 u.2)⟩, lwhole_k E (pexact2_k E (exact64_c E h1 h2) (code_nil E)), d, u⟩
/-- .. of a small one: the number itself. -/
theorem wbox_exact {n : Int} {x : Nat × Nat} (hn : n.natAbs ≤ 2 ^ 53) (d : Dn (n : Rat) (idx x.1)) (u : Up (n : Rat) (idx x.2)) : v (idx x.1) = (n : Rat) ∧ v (idx x.2) = (n : Rat) := by
  obtain ⟨i, hi⟩ := v_of_int hn
  rw [← hi] at d u ⊢
  have a1 := d.ge (j := i) Rat.le_refl
  have a2 := v_le_iff.1 d.1
  have a3 := v_le_iff.1 u.2
  have a4 := v_lt_iff.1 u.1
  rw [show idx x.1 = i by omega, show idx x.2 = i by omega]
  exact ⟨rfl, rfl⟩
theorem gw_ok {x : Nat × Nat} (g : Gw x) : OkB (posB x.1) ∧ OkB (posB x.2) := ⟨plain_ok (posB_plain g.p1) (posB_lt g.l1), plain_ok (posB_plain g.p2) (posB_lt g.l2)⟩
/-- A good box that holds a number. -/
theorem lholds_c (E : Nat → Option Value) {x : Nat × Nat} (g : Gd x) {n : Int} (hn : -1152921504606846976 ≤ n ∧ n ≤ 1152921504606846976) (h1 : v (idx x.1) ≤ (n : Rat)) (h2 : (n : Rat) ≤ v (idx x.2)) : DCall Tryd.prog E 15 [boxD x, intD n] (.data (bD true)) :=
  lholds_k E (holds_c E g.l1 g.l2 g.p1 g.p2 g.q1 g.q2 g.le (by omega) h1 h2)
end Go.Enc
end

section
set_option linter.unusedSimpArgs false
set_option maxRecDepth 100000
namespace Go.Enc
open Go.Proofs Go.Enc.Fl

theorem up_le {x : Rat} {k j : Int} (h : Up x k) (hj : x ≤ v j) : k ≤ j := by
  have := v_lt_iff.1 (show v (k - 1) < v j by have := h.1; grind)
  omega
theorem posw {b w : Rat} (h : b * w = 1) (h1 : 1 ≤ b) (h2 : b ≤ 1073741824) : 0 < w ∧ w ≤ 1 ∧ 1 ≤ 1073741824 * w := by
  have hw : 0 < w := by
    refine Rat.not_le.1 fun g => ?_
    have := Rat.mul_le_mul_of_nonneg_left (a := 0) (b := -w) (c := b) (by grind) (by grind)
    grind
  have a1 := Rat.mul_le_mul_of_nonneg_right h1 (Rat.le_of_lt hw)
  have a2 := Rat.mul_le_mul_of_nonneg_right h2 (Rat.le_of_lt hw)
  exact ⟨hw, by grind, by grind⟩
/-- A number of a plain amount. -/
def Amt (X : Rat) : Prop := X = 0 ∨ (1 ≤ 1073741824 * X ∧ X ≤ 1152921504606846976) ∨ (1 ≤ 1073741824 * -X ∧ -X ≤ 1152921504606846976)
theorem v_p0' : 1073741824 * v p0 ≤ 1 := by
  rw [v_p0]
  have h := zpow_le (a := -900) (b := -30) (by omega)
  have e : (2:Rat)^(-30:Int) = 1/1073741824 := by decide +kernel
  rw [e] at h
  grind
theorem v_p1' : 1152921504606846976 < v p1 := by
  have h := zpow_le (a := 61) (b := ((1923 : Nat) : Int) - 1023) (by omega)
  have e : (2:Rat)^(61:Int) = 2305843009213693952 := by decide +kernel
  rw [p1_pw, v_pw 1923 (by omega)]
  rw [e] at h
  grind
theorem Amt.mid {X : Rat} (h : Amt X) : Mid X ∧ Mid (-X) := by
  have a := v_p0'
  have b := v_p1'
  have n1 := v_neg p1
  have n2 := v_neg p0
  obtain ⟨z1, z2, z3, z4⟩ := vs
  refine Mid.neg ?_
  unfold Amt at h
  rw [n1, n2]
  refine ⟨by grind, by grind, ?_⟩
  rcases h with h | h | h
  · exact .inl h
  · exact .inr (.inl (by grind))
  · exact .inr (.inr (by grind))
theorem Amt.ofInt {n : Int} (h : -1152921504606846976 ≤ n ∧ n ≤ 1152921504606846976) : Amt (n : Rat) := by
  have h1 : (n : Rat) ≤ ((1152921504606846976 : Int) : Rat) := Rat.intCast_le_intCast.2 h.2
  have h2 : ((-1152921504606846976 : Int) : Rat) ≤ (n : Rat) := Rat.intCast_le_intCast.2 h.1
  rw [show ((1152921504606846976 : Int) : Rat) = 1152921504606846976 from rfl] at h1
  rw [show ((-1152921504606846976 : Int) : Rat) = -1152921504606846976 from rfl] at h2
  rcases Int.lt_trichotomy n 0 with g | g | g
  · have h3 : (n : Rat) ≤ ((-1 : Int) : Rat) := Rat.intCast_le_intCast.2 (by omega)
    rw [show ((-1 : Int) : Rat) = -1 from rfl] at h3
    exact .inr (.inr (by grind))
  · subst g; exact .inl rfl
  · have h3 : ((1 : Int) : Rat) ≤ (n : Rat) := Rat.intCast_le_intCast.2 (by omega)
    rw [show ((1 : Int) : Rat) = 1 from rfl] at h3
    exact .inr (.inl (by grind))
theorem Amt.div {z w : Rat} (h0 : 0 < w) (h1 : w ≤ 1) (h2 : 1 ≤ 1073741824 * w) (hz : z = 0 ∨ (1 ≤ z ∧ z ≤ 1152921504606846976) ∨ (1 ≤ -z ∧ -z ≤ 1152921504606846976)) : Amt (z * w) := by
  have key : ∀ {z : Rat}, 1 ≤ z → z ≤ 1152921504606846976 → 1 ≤ 1073741824 * (z * w) ∧ z * w ≤ 1152921504606846976 := fun {z} a b => by
    have c1 := Rat.mul_le_mul_of_nonneg_right a (Rat.le_of_lt h0)
    have c2 := Rat.mul_le_mul_of_nonneg_left h1 (show 0 ≤ z by grind)
    exact ⟨by grind, by grind⟩
  rcases hz with hz | hz | hz
  · subst hz; rw [Rat.zero_mul]; exact .inl rfl
  · exact .inr (.inl (key hz.1 hz.2))
  · have := key hz.1 hz.2
    rw [Rat.neg_mul] at this
    exact .inr (.inr this)
theorem Amt.neg {X : Rat} (h : Amt X) : Amt (-X) := by
  unfold Amt at *
  rw [Rat.neg_neg]
  rcases h with h | h | h
  · subst h; exact .inl (by grind)
  · exact .inr (.inr h)
  · exact .inr (.inl h)
/-- The ends of a box of a whole number: nought, or of its sign and of a plain amount. -/
theorem wends {n : Int} (h : -1152921504606846976 ≤ n ∧ n ≤ 1152921504606846976) {i j : Int} (d : Dn (n : Rat) i) (u : Up (n : Rat) j) :
    ∀ k, k = i ∨ k = j → v k = 0 ∨ (1 ≤ v k ∧ v k ≤ 1152921504606846976) ∨ (1 ≤ -v k ∧ -v k ≤ 1152921504606846976) := by
  obtain ⟨z1, e1⟩ := v_of_int (z := 1) (by decide)
  have em : v (-z1) = -1 := by rw [v_neg, e1]; rfl
  have e60 : v (pw 1083) = 1152921504606846976 := by
    rw [v_pw 1083 (by omega), show ((1083 : Nat) : Int) - 1023 = 60 by decide]
    decide +kernel
  have en : v (-(pw 1083)) = -1152921504606846976 := by rw [v_neg, e60]
  have e1' : v z1 = 1 := by rw [e1]; rfl
  have b1 : (n : Rat) ≤ v (pw 1083) := by rw [e60]; exact (Rat.intCast_le_intCast (a := n) (b := 1152921504606846976)).2 h.2
  have b2 : v (-(pw 1083)) ≤ (n : Rat) := by rw [en]; exact (Rat.intCast_le_intCast (a := -1152921504606846976) (b := n)).2 h.1
  have c1 : v j ≤ v (pw 1083) := v_le (up_le u b1)
  have c2 : v (-(pw 1083)) ≤ v i := v_le (d.ge b2)
  have d1 := d.1
  have u2 := u.2
  rcases Int.lt_trichotomy n 0 with g | g | g
  · have h3 : (n : Rat) ≤ v (-z1) := by rw [em]; exact (Rat.intCast_le_intCast (a := n) (b := -1)).2 (by omega)
    have h4 : v j ≤ v (-z1) := v_le (up_le u h3)
    rintro k (rfl | rfl) <;> exact .inr (.inr (by grind))
  · subst g
    have := d.ge (j := 0) (by rw [v_zero]; exact Rat.le_refl)
    have := up_le u (j := 0) (by rw [v_zero]; exact Rat.le_refl)
    have t1 : i ≤ 0 := v_le_iff.1 (by rw [v_zero]; exact d1)
    have t2 : 0 ≤ j := v_le_iff.1 (by rw [v_zero]; exact u2)
    rintro k (rfl | rfl)
    · exact .inl (by rw [show k = 0 by omega, v_zero])
    · exact .inl (by rw [show k = 0 by omega, v_zero])
  · have h3 : v z1 ≤ (n : Rat) := by rw [e1']; exact (Rat.intCast_le_intCast (a := 1) (b := n)).2 (by omega)
    have h4 : v z1 ≤ v i := v_le (d.ge h3)
    rintro k (rfl | rfl) <;> exact .inr (.inl (by grind))
end Go.Enc
end

section
set_option linter.unusedSimpArgs false
set_option maxRecDepth 100000
namespace Go.Enc
open Go.Proofs Go.Enc.Fl

/-- A box of a whole number, its ends that number. -/
structure Wb (x : Nat × Nat) (a : Int) : Prop where
  g : Gw x
  e1 : v (idx x.1) = (a : Rat)
  e2 : v (idx x.2) = (a : Rat)
theorem Wb.two {x : Nat × Nat} {a : Int} (w : Wb x a) : ∀ j, j < 2 → OkB (two (posB x.1) (posB x.2) j) ∧ v (idx (two (posB x.1) (posB x.2) j)) = (a : Rat) := fun j hj => by
  have := gw_ok w.g
  have h1 := w.e1; have h2 := w.e2
  rcases (show j = 0 ∨ j = 1 by omega) with rfl | rfl
  · exact ⟨this.1, by show v (idx (posB x.1)) = _; rw [posB_idx]; exact h1⟩
  · exact ⟨this.2, by show v (idx (posB x.2)) = _; rw [posB_idx]; exact h2⟩
theorem held {E : Nat → Option Value} {r : Nat × Nat} (g : Gd r) {n : Int} (hn : -1152921504606846976 ≤ n ∧ n ≤ 1152921504606846976) {l h : Int} (e1 : idx r.1 = l) (e2 : idx r.2 = h) (d : v l ≤ (n : Rat)) (u : (n : Rat) ≤ v h) : DCall Tryd.prog E 15 [boxD r, intD n] (.data (bD true)) :=
  lholds_c E g hn (by rw [e1]; exact d) (by rw [e2]; exact u)
/-- A sum's ends. -/
theorem sum_k {E : Nat → Option Value} {q : Nat → Addr} (hq : Sent E q) (nm : ByteArray) {n : Int} (hn : -1152921504606846976 ≤ n ∧ n ≤ 1152921504606846976) {l h : Nat} (ll : l < 2 ^ 64) (lh : h < 2 ^ 64) (d : Dn (n : Rat) (idx l)) (u : Up (n : Rat) (idx h)) :
    DCall Tryd.prog E 60 [strD nm, flD l, flD h] (.data (.tup [ivD (posB l, posB h), .v .nilIface])) ∧ DCall Tryd.prog E 15 [boxD (posB l, posB h), intD n] (.data (bD true)) := by
  obtain ⟨h1, h2⟩ := ends_ok hq nm ll lh (dn_ok ⟨by omega, by omega⟩ d) (up_ok ⟨by omega, by omega⟩ u) (v_le_iff.1 (Rat.le_trans d.1 u.2))
  exact ⟨h1, held h2 hn (posB_idx l) (posB_idx h) d.1 u.2⟩
theorem op3_c {E : Nat → Option Value} {q : Nat → Addr} (hq : Sent E q) {x y : Nat × Nat} {a b : Int} (wx : Wb x a) (wy : Wb y b) (hn : -1152921504606846976 ≤ a + b ∧ a + b ≤ 1152921504606846976) :
    ∃ r, DCall Tryd.prog E 16 [intD 3, boxD x, boxD y] (.data (.tup [boxD r, intD 0, strD ⟨#[]⟩])) ∧ DCall Tryd.prog E 15 [boxD r, intD (a + b)] (.data (bD true)) := by
  obtain ⟨x0, x1⟩ := wx.two 0 (by omega); obtain ⟨x2, x3⟩ := wx.two 1 (by omega)
  obtain ⟨y0, y1⟩ := wy.two 0 (by omega); obtain ⟨y2, y3⟩ := wy.two 1 (by omega)
  obtain ⟨l, _, c1, _, l1, _, d, _⟩ := add_c E x0 y0
  obtain ⟨_, h, _, c2, _, l2, _, u⟩ := add_c E x2 y2
  rw [x1, y1, ← Rat.intCast_add] at d
  rw [x3, y3, ← Rat.intCast_add] at u
  obtain ⟨he, hh⟩ := sum_k hq plusS hn l1 l2 d u
  exact ⟨_, pop3_k E (made_gw hq wx.g) (made_gw hq wy.g) (iadd_k E c1 c2 he) (code_nil E), hh⟩
theorem okB_neg {b : Nat} (h : OkB b) : OkB (fneg b) ∧ v (idx (fneg b)) = -v (idx b) := by
  obtain ⟨h1, _, h3, _⟩ := fneg_spec h.1
  refine ⟨⟨h3, ?_⟩, ?_⟩
  · rw [h1]; exact ok_neg h.2
  · rw [h1, v_neg]
theorem op4_c {E : Nat → Option Value} {q : Nat → Addr} (hq : Sent E q) {x y : Nat × Nat} {a b : Int} (wx : Wb x a) (wy : Wb y b) (hn : -1152921504606846976 ≤ a - b ∧ a - b ≤ 1152921504606846976) :
    ∃ r, DCall Tryd.prog E 16 [intD 4, boxD x, boxD y] (.data (.tup [boxD r, intD 0, strD ⟨#[]⟩])) ∧ DCall Tryd.prog E 15 [boxD r, intD (a - b)] (.data (bD true)) := by
  obtain ⟨x0, x1⟩ := wx.two 0 (by omega); obtain ⟨x2, x3⟩ := wx.two 1 (by omega)
  obtain ⟨y0, y1⟩ := wy.two 0 (by omega); obtain ⟨y2, y3⟩ := wy.two 1 (by omega)
  obtain ⟨y4, y5⟩ := okB_neg y0
  obtain ⟨y6, y7⟩ := okB_neg y2
  obtain ⟨l, _, c1, _, l1, _, d, _⟩ := add_c E x0 y6
  obtain ⟨_, h, _, c2, _, l2, _, u⟩ := add_c E x2 y4
  have e : (a : Rat) + -(b : Rat) = ((a - b : Int) : Rat) := by rw [Rat.intCast_sub, Rat.sub_eq_add_neg]
  rw [x1, y7, y3, e] at d
  rw [x3, y5, y1, e] at u
  obtain ⟨he, hh⟩ := sum_k hq minusS hn l1 l2 d u
  exact ⟨_, pop4_k E (made_gw hq wx.g) (made_gw hq wy.g) (isub_k E c1 c2 he) (code_nil E), hh⟩
theorem op5_c {E : Nat → Option Value} {q : Nat → Addr} (hq : Sent E q) {x y : Nat × Nat} {a b : Int} (wx : Wb x a) (wy : Wb y b) (hn : -1152921504606846976 ≤ a * b ∧ a * b ≤ 1152921504606846976) :
    ∃ r, DCall Tryd.prog E 16 [intD 5, boxD x, boxD y] (.data (.tup [boxD r, intD 0, strD ⟨#[]⟩])) ∧ DCall Tryd.prog E 15 [boxD r, intD (a * b)] (.data (bD true)) := by
  have hm := (Amt.ofInt hn).mid
  have ex : ∀ j k, j < 2 → k < 2 → v (idx (two (posB x.1) (posB x.2) j)) * v (idx (two (posB y.1) (posB y.2) k)) = ((a * b : Int) : Rat) := fun j k hj hk => by
    rw [(wx.two j hj).2, (wy.two k hk).2, Rat.intCast_mul]
  obtain ⟨r, hr, g, hall⟩ := corners_ok hq (F := 63) rfl timesS (fun _ _ => ((a * b : Int) : Rat)) (x0 := posB x.1) (x1 := posB x.2) (y0 := posB y.1) (y1 := posB y.2)
    (fun j k hj hk => by
      have h := mul_cor E (wx.two j hj).1 (wy.two k hk).1
      rw [ex j k hj hk] at h
      exact h) (fun _ _ _ _ => hm)
  obtain ⟨h1, h2⟩ := hall 0 0 (by omega) (by omega)
  exact ⟨r, pop5_k E (made_gw hq wx.g) (made_gw hq wy.g) (imul_k E hr) (code_nil E), lholds_c E g hn h1 h2⟩
theorem nle {x y : Rat} (h : -x ≤ -y) : y ≤ x := by grind
/-- A QUOTIENT: of a box about a product. -/
theorem op6_c {E : Nat → Option Value} {q : Nat → Addr} (hq : Sent E q) {z y : Nat × Nat} {a b : Int} (gz : Gw z) (d : Dn ((a * b : Int) : Rat) (idx z.1)) (u : Up ((a * b : Int) : Rat) (idx z.2)) (wy : Wb y b)
    (hn : -1152921504606846976 ≤ a * b ∧ a * b ≤ 1152921504606846976) (ha : -1152921504606846976 ≤ a ∧ a ≤ 1152921504606846976) (hb : -1073741824 ≤ b ∧ b ≤ 1073741824) (h0 : b ≠ 0) :
    ∃ r, DCall Tryd.prog E 16 [intD 6, boxD z, boxD y] (.data (.tup [boxD r, intD 0, strD ⟨#[]⟩])) ∧ DCall Tryd.prog E 15 [boxD r, intD a] (.data (bD true)) := by
  have we := wends hn d u
  have gk := gw_ok gz
  have hb1 : (b : Rat) ≠ 0 := fun h => h0 (by exact_mod_cast h)
  obtain ⟨w, hw⟩ : ∃ w, w = (b : Rat)⁻¹ := ⟨_, rfl⟩
  have hbw : (b : Rat) * w = 1 := by rw [hw]; exact Rat.mul_inv_cancel _ hb1
  -- the sign of b
  have key : ∀ k, k = idx z.1 ∨ k = idx z.2 → Amt (v k * w) := fun k hk => by
    rcases Int.lt_or_lt_of_ne h0 with g | g
    · have h1 : (b : Rat) ≤ -1 := (Rat.intCast_le_intCast (a := b) (b := -1)).2 (by omega)
      have h2 : (-1073741824 : Rat) ≤ b := (Rat.intCast_le_intCast (a := -1073741824) (b := b)).2 (by omega)
      obtain ⟨p1, p2, p3⟩ := posw (b := -(b : Rat)) (w := -w) (by rw [Rat.neg_mul, Rat.mul_neg, Rat.neg_neg]; exact hbw) (by grind) (by grind)
      have := (Amt.div p1 p2 p3 (we k hk)).neg
      rw [Rat.mul_neg, Rat.neg_neg] at this
      exact this
    · have h1 : (1 : Rat) ≤ b := (Rat.intCast_le_intCast (a := 1) (b := b)).2 (by omega)
      have h2 : (b : Rat) ≤ 1073741824 := (Rat.intCast_le_intCast (a := b) (b := 1073741824)).2 (by omega)
      obtain ⟨p1, p2, p3⟩ := posw hbw h1 h2
      exact Amt.div p1 p2 p3 (we k hk)
  have zk : ∀ j, j < 2 → OkB (two (posB z.1) (posB z.2) j) ∧ (idx (two (posB z.1) (posB z.2) j) = idx z.1 ∨ idx (two (posB z.1) (posB z.2) j) = idx z.2) := fun j hj => by
    rcases (show j = 0 ∨ j = 1 by omega) with rfl | rfl
    · exact ⟨gk.1, .inl (posB_idx z.1)⟩
    · exact ⟨gk.2, .inr (posB_idx z.2)⟩
  have yb : ∀ k, k < 2 → idx (two (posB y.1) (posB y.2) k) ≠ 0 := fun k hk h => by
    have := (wy.two k hk).2
    rw [h, v_zero] at this
    exact hb1 this.symm
  have ex : ∀ j k, j < 2 → k < 2 → v (idx (two (posB z.1) (posB z.2) j)) / v (idx (two (posB y.1) (posB y.2) k)) = v (idx (two (posB z.1) (posB z.2) j)) * w := fun j k hj hk => by
    rw [(wy.two k hk).2, Rat.div_def, hw]
  obtain ⟨r, hr, g, hall⟩ := corners_ok hq (F := 65) rfl overS (fun j _ => v (idx (two (posB z.1) (posB z.2) j)) * w) (x0 := posB z.1) (x1 := posB z.2) (y0 := posB y.1) (y1 := posB y.2)
    (fun j k hj hk => by
      have h := div_cor E (zk j hj).1 (wy.two k hk).1 (yb k hk)
      rw [ex j k hj hk] at h
      exact h) (fun j _ hj _ => (key _ (zk j hj).2).mid)
  have g0 := hall 0 0 (by omega) (by omega)
  have g1 := hall 1 0 (by omega) (by omega)
  have t0 : idx (two (posB z.1) (posB z.2) 0) = idx z.1 := posB_idx z.1
  have t1 : idx (two (posB z.1) (posB z.2) 1) = idx z.2 := posB_idx z.2
  simp only [t0, t1] at g0 g1
  have d1 := d.1
  have u1 := u.2
  rw [Rat.intCast_mul] at d1 u1
  have ew : (a : Rat) * b * w = a := by rw [Rat.mul_assoc, hbw, Rat.mul_one]
  have fin : v (idx r.1) ≤ (a : Rat) ∧ (a : Rat) ≤ v (idx r.2) := by
    rcases Int.lt_or_lt_of_ne h0 with g | g
    · have h1 : (b : Rat) ≤ -1 := (Rat.intCast_le_intCast (a := b) (b := -1)).2 (by omega)
      have h2 : (-1073741824 : Rat) ≤ b := (Rat.intCast_le_intCast (a := -1073741824) (b := b)).2 (by omega)
      obtain ⟨p1, p2, p3⟩ := posw (b := -(b : Rat)) (w := -w) (by rw [Rat.neg_mul, Rat.mul_neg, Rat.neg_neg]; exact hbw) (by grind) (by grind)
      have k1 := Rat.mul_le_mul_of_nonneg_right d1 (Rat.le_of_lt p1)
      have k2 := Rat.mul_le_mul_of_nonneg_right u1 (Rat.le_of_lt p1)
      rw [Rat.mul_neg, Rat.mul_neg, ew] at k1 k2
      exact ⟨Rat.le_trans g1.1 (nle k2), Rat.le_trans (nle k1) g0.2⟩
    · have h1 : (1 : Rat) ≤ b := (Rat.intCast_le_intCast (a := 1) (b := b)).2 (by omega)
      have h2 : (b : Rat) ≤ 1073741824 := (Rat.intCast_le_intCast (a := b) (b := 1073741824)).2 (by omega)
      obtain ⟨p1, p2, p3⟩ := posw hbw h1 h2
      have k1 := Rat.mul_le_mul_of_nonneg_right d1 (Rat.le_of_lt p1)
      have k2 := Rat.mul_le_mul_of_nonneg_right u1 (Rat.le_of_lt p1)
      rw [ew] at k1 k2
      exact ⟨Rat.le_trans g0.1 k1, Rat.le_trans k2 g1.2⟩
  have hz : DCall Tryd.prog E 64 [ivD (posB y.1, posB y.2), flD 0] (.data (bD false)) := by
    obtain ⟨y0, y1⟩ := wy.two 0 (by omega); obtain ⟨y2, y3⟩ := wy.two 1 (by omega)
    have h := iholds_c E (b := (posB y.1, posB y.2)) y0.fin.num y2.fin.num num0.1
    have i0 := yb 0 (by omega)
    have i1 := yb 1 (by omega)
    have : idx (two (posB y.1) (posB y.2) 0) = idx (two (posB y.1) (posB y.2) 1) := by
      have a1 := y1.trans y3.symm
      have b1 := v_le_iff.1 (show v (idx (two (posB y.1) (posB y.2) 0)) ≤ v (idx (two (posB y.1) (posB y.2) 1)) by rw [a1]; exact Rat.le_refl)
      have b2 := v_le_iff.1 (show v (idx (two (posB y.1) (posB y.2) 1)) ≤ v (idx (two (posB y.1) (posB y.2) 0)) by rw [a1]; exact Rat.le_refl)
      omega
    have e : (decide (idx (posB y.1) ≤ idx 0) && decide (idx 0 ≤ idx (posB y.2))) = false := by
      rw [num0.2]
      have j0 : idx (posB y.1) ≠ 0 := i0
      have j1 : idx (posB y.1) = idx (posB y.2) := this
      rw [Bool.and_eq_false_iff]
      rcases Int.lt_or_lt_of_ne j0 with h | h
      · exact .inr (decide_eq_false (by omega))
      · exact .inl (decide_eq_false (by omega))
    rw [e] at h
    exact h
  exact ⟨r, pop6_k E (made_gw hq gz) (made_gw hq wy.g) (idiv_k E hz hr) (code_nil E), lholds_c E g ha fin.1 fin.2⟩
/-- BY NOUGHT. -/
theorem op6_z {E : Nat → Option Value} {q : Nat → Addr} (hq : Sent E q) {z y : Nat × Nat} (gz : Gw z) (wy : Wb y 0) :
    DCall Tryd.prog E 16 [intD 6, boxD z, boxD y] (.data (.tup [boxD (0, 0), intD 4, strD overS])) := by
  have hz : DCall Tryd.prog E 64 [ivD (posB y.1, posB y.2), flD 0] (.data (bD true)) := by
    obtain ⟨y0, y1⟩ := wy.two 0 (by omega); obtain ⟨y2, y3⟩ := wy.two 1 (by omega)
    have h := iholds_c E (b := (posB y.1, posB y.2)) y0.fin.num y2.fin.num num0.1
    have z0 : ∀ i, v i = ((0 : Int) : Rat) → i = 0 := fun i hi => by
      have hi' : v i = v 0 := by rw [hi, v_zero]; rfl
      have b1 := v_le_iff.1 (show v i ≤ v 0 by rw [hi']; exact Rat.le_refl)
      have b2 := v_le_iff.1 (show v 0 ≤ v i by rw [hi']; exact Rat.le_refl)
      omega
    have j0 : idx (posB y.1) = 0 := z0 _ y1
    have j1 : idx (posB y.2) = 0 := z0 _ y3
    have e : (decide (idx (posB y.1) ≤ idx 0) && decide (idx 0 ≤ idx (posB y.2))) = true := by
      rw [num0.2, j0, j1]; rfl
    rw [e] at h
    exact h
  exact pop6_k E (made_gw hq gz) (made_gw hq wy.g) (idiv_z hq hz) (code_op hq (i := 3) (by decide) overS)
end Go.Enc
end

section
set_option linter.unusedSimpArgs false
set_option maxRecDepth 100000
namespace Go.Enc
open Go.Proofs Go.Enc.Fl

theorem made_wb {E : Nat → Option Value} {n : Int} (h : -536870912 ≤ n ∧ n ≤ 536870912) : ∃ x : Nat × Nat, Wb x n ∧ DCall Tryd.prog E 13 [intD n] (.data (.tup [boxD x, bD true])) := by
  obtain ⟨x, g, c, d, u⟩ := wbox (E := E) (n := n) (by omega)
  obtain ⟨e1, e2⟩ := wbox_exact (by omega) d u
  exact ⟨x, ⟨g, e1, e2⟩, c⟩
set_option maxHeartbeats 2000000 in
theorem knows_c {E : Nat → Option Value} {q : Nat → Addr} (hq : Sent E q) (o : OpD) : DCall Tryd.prog E 9 [opD o] (.data (bD true)) := by
  obtain ⟨a, ha⟩ : ∃ a, a = sm30 o.a := ⟨_, rfl⟩
  obtain ⟨b, hb⟩ : ∃ b, b = sm30 o.b := ⟨_, rfl⟩
  have ra := sm30_range o.a
  have rb := sm30_range o.b
  have sa := small_c E o.a
  have sb := small_c E o.b
  rw [← ha] at ra sa
  rw [← hb] at rb sb
  have rab : -1152921504606846976 ≤ a * b ∧ a * b ≤ 1152921504606846976 := by
    have h1 : (a * b).natAbs ≤ 536870912 * 536870912 := by
      rw [Int.natAbs_mul]
      exact Nat.mul_le_mul (by omega) (by omega)
    omega
  obtain ⟨x, wx, cx⟩ := made_wb (E := E) (n := a) (by omega)
  obtain ⟨y, wy, cy⟩ := made_wb (E := E) (n := b) (by omega)
  obtain ⟨z, gz, cz, dz, uz⟩ := wbox (E := E) rab
  obtain ⟨r3, c3, k3⟩ := op3_c hq wx wy (by omega)
  obtain ⟨r4, c4, k4⟩ := op4_c hq wx wy (by omega)
  obtain ⟨r5, c5, k5⟩ := op5_c hq wx wy rab
  have n00 : ((0 : Int) != 0) = false := rfl
  have w1 : IntKind.i64.wrap (a + b) = a + b := w64 (by omega)
  have w2 : IntKind.i64.wrap (a - b) = a - b := w64 (by omega)
  have w3 : IntKind.i64.wrap (a * b) = a * b := w64 (by omega)
  refine dcall_of Tryd.func9 rfl (by kernel_rfl) Tryd.ntmps9 (by kernel_rfl) (by simp) (rs := [.tmp 2]) rfl ?_
  rintro ⟨P, E, σ0, w0, base, n, kb, df, G0⟩ rfl rfl rfl rfl
  simp -implicitDefEqProofs only [go_sem, OpD.cells, iD, uD]
  refine Call.intro sa ?_
  simp -implicitDefEqProofs only [go_sem]
  refine Call.intro sb ?_
  simp -implicitDefEqProofs only [go_sem]
  refine Call.intro cx ?_
  simp -implicitDefEqProofs only [go_sem]
  refine Call.intro cy ?_
  simp -implicitDefEqProofs only [go_sem, w3]
  refine Call.intro cz ?_
  simp -implicitDefEqProofs only [go_sem]
  refine Call.intro c3 ?_
  simp -implicitDefEqProofs only [go_sem]
  refine Call.intro c4 ?_
  simp -implicitDefEqProofs only [go_sem]
  refine Call.intro c5 ?_
  simp -implicitDefEqProofs only [go_sem, w1]
  refine Call.intro k3 ?_
  simp -implicitDefEqProofs only [go_sem, w2]
  refine Call.intro k4 ?_
  simp -implicitDefEqProofs only [go_sem, w3]
  refine Call.intro k5 ?_
  by_cases h0 : b = 0
  · subst h0
    have c6 := op6_z (E := E) hq gz wy
    simp -implicitDefEqProofs only [go_sem, n00, Bool.not_true, beq_self_eq_true]
    refine Call.intro c6 ?_
    simp -implicitDefEqProofs only [go_sem, beq_self_eq_true, finK]
  · have e0 : (b == 0) = false := by simpa using h0
    obtain ⟨r6, c6, k6⟩ := op6_c hq gz dz uz wy rab (by omega) (by omega) h0
    simp -implicitDefEqProofs only [go_sem, n00, Bool.not_true, e0]
    refine Call.intro c6 ?_
    simp -implicitDefEqProofs only [go_sem]
    refine Call.intro k6 ?_
    simp -implicitDefEqProofs only [go_sem, beq_self_eq_true, finK]
end Go.Enc
end

section
set_option linter.unusedSimpArgs false
namespace Go.Enc
open Go.Proofs Go.Enc.Fl

set_option maxRecDepth 100000 in
theorem all_knows {E : Nat → Option Value} {ops : List OpD} (hl : ops.length ≤ maxLen) (hp : ∀ o ∈ ops, DCall Tryd.prog E 9 [opD o] (.data (bD true))) :
    DCall Tryd.prog E 5 [scD ops] (.data (bD true)) := by
  refine dcall_of Tryd.func5 rfl (by kernel_rfl) Tryd.ntmps5 (by kernel_rfl) (by simp) (rs := [.tmp 2]) rfl ?_
  rintro ⟨P, E, σ0, w0, base, n, kb, df, G0⟩ rfl rfl rfl rfl
  have hmax : maxLen = 9223372036854775807 := by decide
  simp -implicitDefEqProofs only [go_sem]
  rw [stop_eq]
  refine dwp_loop (α := {i : Nat // i ≤ ops.length}) (fun i => St.of [(0, .d (scD ops)), (2, .d (bD false)), (3, .d (intD i.1))] []) (fun i => ops.length - i.1)
    ⟨0, Nat.zero_le _⟩ (weak_of ?_ ?_ rfl) (by kernel_rfl) (fun i => ?_)
  · simp -implicitDefEqProofs only [go_sem]
  · simp -implicitDefEqProofs only [go_sem]
  · obtain ⟨i, hi0⟩ := i
    by_cases hA : i < ops.length
    · obtain ⟨o, ho⟩ : ∃ o, ops[i]? = some o := ⟨ops[i], by simp [hA]⟩
      have hm := List.mem_of_getElem? ho
      have eA : decide ((i : Int) < (ops.length : Int)) = true := tD (by omega)
      by_cases hB : i < 1152921504606846976
      · have eB : decide ((i : Int) < 1152921504606846976) = true := tD (by omega)
        have w1 : IntKind.i64.wrap ((i : Int) + 1) = ((i + 1 : Nat) : Int) := addN1 (by omega)
        have hin : i * 9 < ops.length * 9 := by omega
        have hin2 : i * 9 + 9 ≤ ops.length * 9 := by omega
        have fin : ∃ x' : {i : Nat // i ≤ ops.length}, x'.1 = i + 1 := ⟨⟨i + 1, hA⟩, rfl⟩
        have hpl := hp o hm
        simp -implicitDefEqProofs only [go_sem, eA, eB, flat_len, div9, hin, hin2, flat_at ho, OpD.cells, iD, uD]
        refine Call.intro hpl ?_
        simp -implicitDefEqProofs only [go_sem, w1, Bool.not_true]
        obtain ⟨x', hx'⟩ := fin
        refine ⟨x', weak_of ?_ ?_ rfl, by simp only [hx']; omega⟩
        · simp -implicitDefEqProofs only [go_sem, hx']
        · simp -implicitDefEqProofs only [go_sem]
      · have eB : decide ((i : Int) < 1152921504606846976) = false := fD (by omega)
        simp -implicitDefEqProofs only [go_sem, eA, eB, flat_len, div9, finK]
    · have eA : decide ((i : Int) < (ops.length : Int)) = false := fD (by omega)
      simp -implicitDefEqProofs only [go_sem, eA, flat_len, div9, finK]
end Go.Enc
end
