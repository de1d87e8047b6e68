/-
  A heavy diagonal: amounts. No program.
-/
import Derived.Test.YtjlibljfpkmpfaaDoorSl
set_option linter.unusedSimpArgs false
namespace Go.Enc
open Go.Enc.Fl

/-- A little more than one. -/
def kap1 : Rat := 1025 / 1024
def kap0 : Rat := 1023 / 1024
/-- Ends that are 0 or of some amount; no amount above. -/
structure Qi (L : Int) (m : Rat) (X : Nat × Nat) : Prop where
  l : Lw L (iL X)
  h : Lw L (iH X)
  lo : -m ≤ iL X
  hi : iH X ≤ m
theorem Qi.mono {L L' : Int} {m m' : Rat} {X : Nat × Nat} (q : Qi L m X) (h : L ≤ L') (h' : m ≤ m') : Qi L' m' X :=
  ⟨q.l.mono h, q.h.mono h, by have := q.lo; grind, by have := q.hi; grind⟩
theorem eps_small : (0 : Rat) < eps ∧ eps < 1 / 1024 := by unfold eps; decide +kernel
theorem pl_of {L : Int} {m x : Rat} (hL : L ≤ 900) (h : Lw L x) (hm : m ≤ (2 : Rat) ^ (900 : Int)) (h1 : -m ≤ x) (h2 : x ≤ m) : Pl x := by
  have e := zpow_le (a := -900) (b := -L) (by omega)
  have e1 := v_p0
  have e2 := v_p1
  unfold Pl
  rw [v_neg, v_neg, e1, e2]
  rcases h with h | h | h
  · exact .inl h
  · right; left; exact ⟨by grind, by grind⟩
  · right; right; exact ⟨by grind, by grind⟩
theorem dn_lo {x m : Rat} {i : Int} (h : Dn x i) (hp : Pl x) (hm : -m ≤ x) (h0 : 0 ≤ m) : -(m * kap1) ≤ v i := by
  have e := eps_small
  unfold kap1
  rcases h.err hp.low with h1 | h1
  · rcases Rat.le_total (a := 0) (b := x) with hx | hx
    · have := Rat.mul_le_mul_of_nonneg_right (Rat.le_of_lt e.2) hx
      grind
    · have := Rat.mul_le_mul_of_nonneg_right (Rat.le_of_lt e.1) (show 0 ≤ -x by grind)
      grind
  · rcases Rat.le_total (a := 0) (b := x) with hx | hx
    · have := Rat.mul_le_mul_of_nonneg_right (Rat.le_of_lt e.1) hx
      grind
    · have := Rat.mul_le_mul_of_nonneg_right (Rat.le_of_lt e.2) (show 0 ≤ -x by grind)
      grind
theorem up_hi {x m : Rat} {i : Int} (h : Up x i) (hp : Pl x) (hm : x ≤ m) (h0 : 0 ≤ m) : v i ≤ m * kap1 := by
  have := dn_lo h.neg hp.neg (m := m) (by grind) h0
  rw [v_neg] at this
  grind
theorem dn_low {x l : Rat} {i : Int} (h : Dn x i) (hp : Pl x) (hl : l ≤ x) (h0 : 0 ≤ l) : l * kap0 ≤ v i := by
  have e := eps_small
  unfold kap0
  have hx : 0 ≤ x := Rat.le_trans h0 hl
  have h2 := Rat.mul_le_mul_of_nonneg_right (Rat.le_of_lt e.2) hx
  have h3 := Rat.mul_le_mul_of_nonneg_right (Rat.le_of_lt e.1) hx
  rcases h.err hp.low with h1 | h1 <;> grind
theorem up_low {x l : Rat} {i : Int} (h : Up x i) (hp : Pl x) (hl : x ≤ -l) (h0 : 0 ≤ l) : v i ≤ -(l * kap0) := by
  have := dn_low h.neg hp.neg (l := l) (by grind) h0
  rw [v_neg] at this
  grind
/-- A result's ends are rounded from corners. -/
theorem opQ {X : Nat → Nat → Rat} {R : AnsQ} (h : Res3 X R) {L : Int} {m : Rat} (hL0 : 0 ≤ L) (hL : L ≤ 900) (hm : m ≤ (2 : Rat) ^ (900 : Int)) (h0 : 0 ≤ m) (hX : ∀ j k, j < 2 → k < 2 → Lw L (X j k) ∧ -m ≤ X j k ∧ X j k ≤ m) :
    R.2 = none ∧ Qi L (m * kap1) R.1 ∧ Gd R.1 ∧ (∀ l, 0 ≤ l → (∀ j k, j < 2 → k < 2 → l ≤ X j k) → l * kap0 ≤ iL R.1) ∧ (∀ l, 0 ≤ l → (∀ j k, j < 2 → k < 2 → X j k ≤ -l) → iH R.1 ≤ -(l * kap0)) := by
  have hp : ∀ j k, j < 2 → k < 2 → Pl (X j k) := fun j k hj hk => by
    obtain ⟨h1, h2, h3⟩ := hX j k hj hk
    exact pl_of hL h1 hm h2 h3
  have e := h.pl hp
  have r := h.good e
  obtain ⟨j, k, hj, hk, hd⟩ := r.dn
  obtain ⟨j', k', hj', hk', hu⟩ := r.up
  have a := hX j k hj hk
  have a' := hX j' k' hj' hk'
  have lw : ∀ {L : Int} {x : Rat} {i : Int}, 0 ≤ L → L ≤ 900 → Dn x i → Lw L x → Lw L (v i) := fun {L x i} hL0 hL hd hl => by
    rcases hl with rfl | hl | hl
    · left
      have h1 := hd.ge (j := 0) (by rw [v_zero]; exact Rat.le_refl)
      have h2 := v_le h1
      rw [v_zero] at h2
      exact Rat.le_antisymm hd.1 h2
    · right; left
      exact hd.pow_le (by omega) (by omega) hl
    · right; right
      exact Rat.le_trans hd.1 hl
  refine ⟨e, ⟨lw hL0 hL hd a.1, ?_, dn_lo hd (hp j k hj hk) a.2.1 h0, up_hi hu (hp j' k' hj' hk') a'.2.2 h0⟩, r.gd, fun l hl hX' => dn_low hd (hp j k hj hk) (hX' j k hj hk) hl, fun l hl hX' => up_low hu (hp j' k' hj' hk') (hX' j' k' hj' hk') hl⟩
  have := (lw hL0 hL hu.neg a'.1.neg).neg
  rw [v_neg, Rat.neg_neg] at this
  exact this
theorem mul_amt {x y a b : Rat} (h1 : -a ≤ x) (h2 : x ≤ a) (k1 : -b ≤ y) (k2 : y ≤ b) : -(a * b) ≤ x * y ∧ x * y ≤ a * b := by
  have hb : 0 ≤ b := by grind
  have ha : 0 ≤ a := by grind
  have p1 := Rat.mul_nonneg (show 0 ≤ a - x by grind) (show 0 ≤ b + y by grind)
  have p2 := Rat.mul_nonneg (show 0 ≤ a + x by grind) (show 0 ≤ b - y by grind)
  have p3 := Rat.mul_nonneg (show 0 ≤ a - x by grind) (show 0 ≤ b - y by grind)
  have p4 := Rat.mul_nonneg (show 0 ≤ a + x by grind) (show 0 ≤ b + y by grind)
  exact ⟨by grind, by grind⟩
theorem Qi.end_ {L : Int} {m : Rat} {X : Nat × Nat} (q : Qi L m X) (g : Gd X) (j : Nat) : Lw L (iE X j) ∧ -m ≤ iE X j ∧ iE X j ≤ m := by
  have := g.iLH
  have h1 := q.lo
  have h2 := q.hi
  unfold iE
  split
  · exact ⟨q.l, by grind, by grind⟩
  · exact ⟨q.h, by grind, by grind⟩
/-- All of one sign, of some amount at least. -/
def LoA (l : Rat) (X : Nat × Nat) : Prop := l ≤ iL X ∨ iH X ≤ -l
theorem LoA.has0 {l : Rat} {X : Nat × Nat} (h : LoA l X) (h0 : 0 < l) : has0 X = false := by
  have z := v_zero
  unfold Go.Enc.has0
  rcases h with h | h
  · have : ¬ idx X.1 ≤ 0 := fun h1 => by
      have := v_le h1
      unfold iL at h
      grind
    simp [this]
  · have : ¬ 0 ≤ idx X.2 := fun h1 => by
      have := v_le h1
      unfold iH at h
      grind
    simp [this]
theorem LoA.end_ {l : Rat} {X : Nat × Nat} (h : LoA l X) (g : Gd X) (j : Nat) : l ≤ iE X j ∨ iE X j ≤ -l := by
  have := g.iLH
  unfold iE
  split <;> rcases h with h | h
  · exact .inl h
  · exact .inr (by grind)
  · exact .inl (by grind)
  · exact .inr h
theorem inv_le {l y : Rat} (h0 : 0 < l) (h : l ≤ y) : 0 < y⁻¹ ∧ y⁻¹ ≤ l⁻¹ := by
  have hy : 0 < y := by grind
  refine ⟨Rat.inv_pos.2 hy, ?_⟩
  exact inv_mono h (Rat.mul_pos h0 hy)
theorem inv_neg' {y : Rat} : (-y)⁻¹ = -y⁻¹ := by
  by_cases h : y = 0
  · subst h; decide +kernel
  · have h1 := Rat.mul_inv_cancel y h
    have h2 := Rat.mul_inv_cancel (-y) (by grind)
    have h3 : -y * (-y)⁻¹ * y⁻¹ = y⁻¹ := by rw [h2, Rat.one_mul]
    have h4 : -y * (-y)⁻¹ * y⁻¹ = -(y * y⁻¹) * (-y)⁻¹ := by grind
    rw [h4, h1] at h3
    grind
theorem inv_amt {l y : Rat} (h0 : 0 < l) (h : l ≤ y ∨ y ≤ -l) : -l⁻¹ ≤ y⁻¹ ∧ y⁻¹ ≤ l⁻¹ := by
  rcases h with h | h
  · have := inv_le h0 h
    have := Rat.inv_pos.2 h0
    exact ⟨by grind, by grind⟩
  · have := inv_le h0 (y := -y) (by grind)
    have h2 := Rat.inv_pos.2 h0
    rw [inv_neg'] at this
    exact ⟨by grind, by grind⟩
theorem pow_inv (u : Int) : ((2 : Rat) ^ u)⁻¹ = 2 ^ (-u) := by
  have h1 := Rat.mul_inv_cancel ((2 : Rat) ^ u) (by have := zpow2_pos u; grind)
  have h2 : (2 : Rat) ^ u * 2 ^ (-u) = 1 := by rw [← zpow2_add, show u + -u = 0 by omega, Rat.zpow_zero]
  have h3 : (2 : Rat) ^ (-u) * (2 ^ u * (2 ^ u)⁻¹) = 2 ^ (-u) := by rw [h1, Rat.mul_one]
  grind
theorem Lw.inv {u : Int} {y : Rat} (hy : y ≠ 0) (h1 : -(2 : Rat) ^ u ≤ y) (h2 : y ≤ 2 ^ u) : Lw u y⁻¹ := by
  have e := pow_inv u
  have hp := zpow2_pos u
  unfold Lw
  rcases Rat.le_total (a := 0) (b := y) with h | h
  · right; left
    have := (inv_le (l := y) (y := 2 ^ u) (by grind) h2).2
    rw [e] at this
    exact this
  · right; right
    have := (inv_le (l := -y) (y := 2 ^ u) (by grind) (by grind)).2
    rw [e, inv_neg'] at this
    grind
section
variable {E : Nat → Option Value} {M V S : Nat × Nat → Nat × Nat → AnsQ} (O : Ops3 E M V S) {a b : Nat × Nat} {La Lb : Int} {ma mb : Rat}
include O
theorem mulQ (g : Gd a) (g' : Gd b) (q : Qi La ma a) (q' : Qi Lb mb b) (h0 : 0 ≤ La + Lb) (hL : La + Lb ≤ 900) (hm : ma * mb ≤ (2 : Rat) ^ (900 : Int)) :
    (M a b).2 = none ∧ Qi (La + Lb) (ma * mb * kap1) (M a b).1 := by
  have am : 0 ≤ ma * mb := Rat.mul_nonneg (by have := q.lo; have := q.hi; have := g.iLH; grind) (by have := q'.lo; have := q'.hi; have := g'.iLH; grind)
  obtain ⟨h1, h2, _⟩ := opQ (O.m a b g g').2 h0 hL hm am (fun j k hj hk => by
    obtain ⟨a1, a2, a3⟩ := q.end_ g j
    obtain ⟨b1, b2, b3⟩ := q'.end_ g' k
    have := mul_amt a2 a3 b2 b3
    exact ⟨a1.mul b1, this.1, this.2⟩)
  exact ⟨h1, h2⟩
theorem divQ (g : Gd a) (g' : Gd b) (q : Qi La ma a) {l : Rat} (hl : 0 < l) (k : LoA l b) {u : Int} (hu1 : -(2 : Rat) ^ u ≤ iL b) (hu2 : iH b ≤ (2 : Rat) ^ u) (h0 : 0 ≤ La + u) (hL : La + u ≤ 900) (hm : ma * l⁻¹ ≤ (2 : Rat) ^ (900 : Int)) :
    (V a b).2 = none ∧ Qi (La + u) (ma * l⁻¹ * kap1) (V a b).1 := by
  have hli := Rat.inv_pos.2 hl
  have am : 0 ≤ ma * l⁻¹ := Rat.mul_nonneg (by have := q.lo; have := q.hi; have := g.iLH; grind) (Rat.le_of_lt hli)
  obtain ⟨h1, h2, _⟩ := opQ ((O.v a b g g').2.2 (k.has0 hl)) h0 hL hm am (fun j i hj hi => by
    obtain ⟨a1, a2, a3⟩ := q.end_ g j
    have b1 := k.end_ g' i
    have b2 := inv_amt hl b1
    have b3 : iE b i ≠ 0 := by rcases b1 with h | h <;> grind
    have b4 : -(2 : Rat) ^ u ≤ iE b i ∧ iE b i ≤ 2 ^ u := by
      have := g'.iLH
      unfold iE
      split <;> exact ⟨by grind, by grind⟩
    have := mul_amt a2 a3 b2.1 b2.2
    unfold divX
    rw [Rat.div_def]
    exact ⟨a1.mul (Lw.inv b3 b4.1 b4.2), this.1, this.2⟩)
  exact ⟨h1, h2⟩
theorem subQ (g : Gd a) (g' : Gd b) (q : Qi La ma a) (q' : Qi Lb mb b) {c : Int} (hc : (Lb ≤ c ∧ La + 54 ≤ c) ∨ (La ≤ c ∧ Lb + 54 ≤ c)) (h0 : 0 ≤ c) (hL : c ≤ 900) (hm : ma + mb ≤ (2 : Rat) ^ (900 : Int)) :
    (S a b).2 = none ∧ Qi c ((ma + mb) * kap1) (S a b).1 ∧ (∀ l, LoA l a → 0 ≤ l - mb → LoA ((l - mb) * kap0) (S a b).1) := by
  have hma : 0 ≤ ma := by have := q.lo; have := q.hi; have := g.iLH; grind
  have hmb : 0 ≤ mb := by have := q'.lo; have := q'.hi; have := g'.iLH; grind
  have lw : ∀ {x y : Int}, Lw La (v x) → Lw Lb (v y) → Lw c (v x - v y) := fun {x y} h k => by
    rcases hc with hc | hc
    · exact Lw.sub h k hc.1 hc.2
    · have := (Lw.sub k h hc.1 hc.2).neg
      rw [show -(v y - v x) = v x - v y by grind] at this
      exact this
  have a1 := q.lo
  have a2 := q.hi
  have b1 := q'.lo
  have b2 := q'.hi
  have ga := g.iLH
  have gb := g'.iLH
  obtain ⟨h1, h2, _, h3, h4⟩ := opQ (O.s a b g g').2 h0 hL hm (by grind) (fun j k hj hk => by
    unfold subX
    split
    · exact ⟨lw q.l q'.h, by grind, by grind⟩
    · exact ⟨lw q.h q'.l, by grind, by grind⟩)
  refine ⟨h1, h2, fun l hl hd => ?_⟩
  rcases hl with hl | hl
  · exact .inl (h3 _ hd fun j k hj hk => by unfold subX; split <;> grind)
  · exact .inr (h4 _ hd fun j k hj hk => by unfold subX; split <;> grind)
end
end Go.Enc
