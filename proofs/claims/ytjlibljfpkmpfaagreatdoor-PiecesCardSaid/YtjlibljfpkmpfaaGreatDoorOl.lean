/-
  The document's quotients and roots, worked out to more digits than a float has: they lie in the classes of the true ones.
-/
import Derived.Test.YtjlibljfpkmpfaaGreatDoorRl
namespace Go.Enc.Nu
open Go.Enc.Fl

/-- Two numbers on the same side of each float. -/
structure Sd (X Y : Rat) : Prop where
  le : ∀ i : Int, v i ≤ X ↔ v i ≤ Y
  ge : ∀ i : Int, X ≤ v i ↔ Y ≤ v i
theorem Sd.refl (X : Rat) : Sd X X := ⟨fun _ => Iff.rfl, fun _ => Iff.rfl⟩
theorem Sd.neg {X Y : Rat} (h : Sd X Y) : Sd (-X) (-Y) := by
  refine ⟨fun i => ?_, fun i => ?_⟩
  · have := h.ge (-i)
    rw [v_neg] at this
    constructor <;> intro g
    · have := this.1 (by grind); grind
    · have := this.2 (by grind); grind
  · have := h.le (-i)
    rw [v_neg] at this
    constructor <;> intro g
    · have := this.1 (by grind); grind
    · have := this.2 (by grind); grind
theorem Sd.lt {X Y : Rat} (h : Sd X Y) (i : Int) : X < v i ↔ Y < v i := by
  have := h.le i
  rw [← Rat.not_le, ← Rat.not_le, this]
theorem Sd.gt {X Y : Rat} (h : Sd X Y) (i : Int) : v i < X ↔ v i < Y := by
  have := h.ge i
  rw [← Rat.not_le, ← Rat.not_le, this]
theorem Sd.dnk {X Y : Rat} (h : Sd X Y) (k : Int) : DnK X k ↔ DnK Y k := by
  have h0 : (0 < X) = (0 < Y) := by have := h.gt 0; rw [v_zero] at this; exact propext this
  have h1 : (X < 0) = (Y < 0) := by have := h.lt 0; rw [v_zero] at this; exact propext this
  have h2 : (X = 0) = (Y = 0) := by
    have a := h.lt 0; have b := h.gt 0
    rw [v_zero] at a b
    apply propext
    constructor <;> intro g
    · have := (not_congr a).1 (by grind); have := (not_congr b).1 (by grind); grind
    · have := (not_congr a).2 (by grind); have := (not_congr b).2 (by grind); grind
  have hl : ∀ i, (X < v i) = (Y < v i) := fun i => propext (h.lt i)
  have hg : ∀ i, (v i ≤ X) = (v i ≤ Y) := fun i => propext (h.le i)
  unfold DnK Dn
  simp only [h0, h1, h2, hl, hg]
theorem Sd.upk {X Y : Rat} (h : Sd X Y) (k : Int) : UpK X k ↔ UpK Y k := h.neg.dnk (-k)

theorem cell_sd {Q : Nat} {e : Int} {x y : Rat} (h : Cell Q e x y) (hx : 0 < x) (hy : 0 < y) : Sd y x := by
  have hneg : ∀ i : Int, i < 0 → v i < 0 := fun i hi => by have := v_lt hi; rwa [v_zero] at this
  refine ⟨fun i => ?_, fun i => ?_⟩
  · rcases Int.lt_or_le i 0 with hi | hi
    · have := hneg i hi
      constructor <;> intro _ <;> grind
    · obtain ⟨r, rfl⟩ := Int.eq_ofNat_of_zero_le hi
      exact (h.cmp (grid_v r e)).1
  · rcases Int.lt_or_le i 0 with hi | hi
    · have := hneg i hi
      constructor <;> intro _ <;> grind
    · obtain ⟨r, rfl⟩ := Int.eq_ofNat_of_zero_le hi
      exact (h.cmp (grid_v r e)).2

/-- A number with a mark behind it. -/
def nmark (neg : Bool) (q : Nat) (e : Int) (whole : Bool) : Nm := ⟨neg && decide (0 < 2 * q + (!whole).toNat), 2 * q + (!whole).toNat, e - 1⟩
def nquot (a b : Nm) : Nm := nmark (a.neg != b.neg) (a.n * 2 ^ (60 + nbits b.n) / b.n) (a.e - ((60 + nbits b.n : Nat) : Int) - b.e) (decide (a.n * 2 ^ (60 + nbits b.n) % b.n = 0))
def mag (a : Nm) : Rat := (a.n : Rat) * 2 ^ a.e
theorem val_mag (a : Nm) : val a = if a.neg then -mag a else mag a := by
  unfold val mag; cases a.neg
  · rfl
  · rw [if_pos rfl, if_pos rfl, Rat.neg_mul]

theorem quot_cell {a b : Nm} (ha : a.n ≠ 0) (hb : b.n ≠ 0) : Sd (mag (nquot a b)) (mag a / mag b) := by
  obtain ⟨s1, s2, s3⟩ := bits_spec hb
  obtain ⟨k, hk⟩ : ∃ k, 60 + nbits b.n = k := ⟨_, rfl⟩
  have hbig : 2 ^ 53 ≤ a.n * 2 ^ k / b.n := by
    refine (Nat.le_div_iff_mul_le (Nat.pos_of_ne_zero hb)).2 ?_
    have h1 : 2 ^ k = 2 ^ 60 * 2 ^ nbits b.n := by rw [← hk, Nat.pow_add]
    have h2 : 2 ^ 53 * b.n ≤ 2 ^ 60 * 2 ^ nbits b.n := Nat.mul_le_mul (by decide) (Nat.le_of_lt s2)
    have h3 : 1 * 2 ^ k ≤ a.n * 2 ^ k := Nat.mul_le_mul_right _ (Nat.pos_of_ne_zero ha)
    omega
  have hc := cell_div (n := b.n) (D := a.n * 2 ^ k) (Nat.pos_of_ne_zero hb) (a.e - (k : Int) - b.e) hbig
  have hA : 0 < mag a := val_pos ha
  have hB : 0 < mag b := val_pos hb
  have e1 : (((a.n * 2 ^ k : Nat) : Rat) / (b.n : Rat)) * 2 ^ (a.e - (k : Int) - b.e) = mag a / mag b := by
    unfold mag
    have p1 := zpow2_pos b.e
    have p2 : (2 : Rat) ^ (a.e - (k : Int) - b.e) * 2 ^ b.e * 2 ^ (k : Int) = 2 ^ a.e := by
      rw [← zpow2_add, ← zpow2_add]; congr 1; omega
    have p3 : ((a.n * 2 ^ k : Nat) : Rat) = (a.n : Rat) * 2 ^ (k : Int) := by rw [Rat.natCast_mul, zpow2_nat]
    have p4 : (b.n : Rat) ≠ 0 := by
      have : (0 : Rat) < (b.n : Rat) := by exact_mod_cast Nat.pos_of_ne_zero hb
      grind
    rw [p3, ← p2]
    have p5 : (2 : Rat) ^ b.e ≠ 0 := by grind
    grind
  have e2 : mag (nquot a b) = (((2 * (a.n * 2 ^ k / b.n) + (a.n * 2 ^ k % b.n != 0).toNat : Nat) : Rat)) * 2 ^ (a.e - (k : Int) - b.e - 1) := by
    unfold nquot nmark mag
    rw [hk]
    have : (!decide (a.n * 2 ^ k % b.n = 0)) = (a.n * 2 ^ k % b.n != 0) := by
      by_cases h : a.n * 2 ^ k % b.n = 0 <;> simp [h]
    rw [this]
  rw [e1, ← e2] at hc
  refine cell_sd hc (by rw [Rat.div_def]; exact Rat.mul_pos hA (Rat.inv_pos.2 hB)) ?_
  rw [e2]
  refine Rat.mul_pos ?_ (zpow2_pos _)
  have : 0 < 2 * (a.n * 2 ^ k / b.n) + (a.n * 2 ^ k % b.n != 0).toNat := by have : 0 < 2 ^ 53 := by decide
                                                                            omega
  exact_mod_cast this
theorem quot_sd (a b : Nm) (hb : b.n ≠ 0) : Sd (val (nquot a b)) (val a / val b) := by
  by_cases ha : a.n = 0
  · have h1 : (nquot a b).n = 0 := by unfold nquot nmark; rw [ha]; simp
    rw [val_zero h1, val_zero ha]
    have : (0 : Rat) / val b = 0 := by rw [Rat.div_def, Rat.zero_mul]
    rw [this]; exact Sd.refl 0
  have h := quot_cell ha hb
  have hB : 0 < mag b := val_pos hb
  have hpos : 0 < 2 * (a.n * 2 ^ (60 + nbits b.n) / b.n) + (!decide (a.n * 2 ^ (60 + nbits b.n) % b.n = 0)).toNat := by
    rcases Nat.eq_zero_or_pos (2 * (a.n * 2 ^ (60 + nbits b.n) / b.n) + (!decide (a.n * 2 ^ (60 + nbits b.n) % b.n = 0)).toNat) with h0 | h0
    · exfalso
      have : mag (nquot a b) = 0 := by
        unfold mag nquot nmark
        simp only [h0]
        have : ((0 : Nat) : Rat) = 0 := rfl
        rw [this, Rat.zero_mul]
      have h2 := h.gt 0
      rw [v_zero, this] at h2
      have hA : 0 < mag a := val_pos ha
      have : 0 < mag a / mag b := by rw [Rat.div_def]; exact Rat.mul_pos hA (Rat.inv_pos.2 hB)
      have := h2.2 this
      grind
    · exact h0
  have hneg : (nquot a b).neg = (a.neg != b.neg) := by
    unfold nquot nmark
    simp only [hpos, decide_true, Bool.and_true]
  rw [val_mag, val_mag a, val_mag b, hneg]
  have hB' : mag b ≠ 0 := by grind
  cases a.neg <;> cases b.neg
  · exact h
  · have : mag a / -mag b = -(mag a / mag b) := by grind
    simp only [Bool.false_bne, if_true, this, Bool.false_eq_true, if_false]; exact h.neg
  · have : -mag a / mag b = -(mag a / mag b) := by grind
    simp only [Bool.true_bne, Bool.not_false, if_true, this, Bool.false_eq_true, if_false]; exact h.neg
  · have : -mag a / -mag b = mag a / mag b := by grind
    simp only [Bool.true_bne, Bool.not_true, if_true, this, Bool.false_eq_true, if_false]; exact h

/-- A whole root. -/
def isq (n : Nat) : Nat := Ieee.Datum.rootFrom n (n.log2 / 2 + 1) 0
theorem isq_spec (n : Nat) : isq n * isq n ≤ n ∧ n < (isq n + 1) * (isq n + 1) := isqrt_spec n
theorem isq_uniq {n x : Nat} (h1 : x * x ≤ n) (h2 : n < (x + 1) * (x + 1)) : x = isq n := by
  obtain ⟨a, b⟩ := isq_spec n
  rcases Nat.lt_trichotomy x (isq n) with h | h | h
  · have := Nat.mul_le_mul (show x + 1 ≤ isq n from h) (show x + 1 ≤ isq n from h); omega
  · exact h
  · have := Nat.mul_le_mul (show isq n + 1 ≤ x from h) (show isq n + 1 ≤ x from h); omega
def rootk (e : Int) : Nat := if (e - 130) % 2 = 0 then 130 else 131
def nroot (a : Nm) : Nm := nmark false (isq (a.n * 2 ^ rootk a.e)) ((a.e - (rootk a.e : Int)) / 2) (decide (isq (a.n * 2 ^ rootk a.e) * isq (a.n * 2 ^ rootk a.e) = a.n * 2 ^ rootk a.e))
theorem rootk_even (e : Int) : (e - (rootk e : Int)) / 2 + (e - (rootk e : Int)) / 2 = e - (rootk e : Int) ∧ 130 ≤ rootk e := by
  unfold rootk; split <;> constructor <;> omega
theorem root_cell {a : Nm} (ha : a.n ≠ 0) : ∃ Q n e, RCell Q n e (mag a) (val (nroot a)) := by
  obtain ⟨h1, h2⟩ := rootk_even a.e
  obtain ⟨k, hk⟩ : ∃ k, rootk a.e = k := ⟨_, rfl⟩
  obtain ⟨E, hE⟩ : ∃ E, (a.e - (k : Int)) / 2 = E := ⟨_, rfl⟩
  obtain ⟨n, hn⟩ : ∃ n, a.n * 2 ^ k = n := ⟨_, rfl⟩
  rw [hk, hE] at h1
  rw [hk] at h2
  obtain ⟨s1, s2⟩ := isq_spec n
  have hw := zpow2_pos E
  have hw2 : (2 : Rat) ^ E = 2 * 2 ^ (E - 1) := by
    have := zpow2_add 1 (E - 1)
    rw [show 1 + (E - 1) = E by omega] at this
    rw [this]; rfl
  have hw3 := zpow2_pos (E - 1)
  have hval : val (nroot a) = ((2 * isq n + (!decide (isq n * isq n = n)).toNat : Nat) : Rat) * 2 ^ (E - 1) := by
    unfold nroot nmark val
    rw [hk, hn, hE]
    simp only [Bool.false_and, Bool.false_eq_true, if_false]
  refine ⟨isq n, n, E, ⟨?_, s1, s2, ?_, ?_⟩⟩
  · have hbig : 2 ^ 130 ≤ n := by
      rw [← hn]
      have p1 : 2 ^ 130 ≤ 2 ^ k := Nat.pow_le_pow_right (by decide) h2
      have p2 : 1 * 2 ^ k ≤ a.n * 2 ^ k := Nat.mul_le_mul_right _ (Nat.pos_of_ne_zero ha)
      omega
    rcases Nat.lt_or_ge (isq n) (2 ^ 53) with g | g
    · have := Nat.mul_le_mul (show isq n + 1 ≤ 2 ^ 53 from g) (show isq n + 1 ≤ 2 ^ 53 from g)
      have e1 : 2 ^ 53 * 2 ^ 53 < 2 ^ 130 := by decide
      omega
    · exact g
  · unfold mag
    rw [← hn, Rat.natCast_mul, ← zpow2_nat, ← zpow2_add, h1, Rat.mul_assoc, ← zpow2_add]
    congr 2; omega
  · rw [hval]
    by_cases g : isq n * isq n = n
    · left
      refine ⟨g, ?_⟩
      rw [decide_eq_true g, hw2]
      simp only [Bool.not_true, Bool.toNat_false, Nat.add_zero, Rat.natCast_mul]
      have : ((2 : Nat) : Rat) = 2 := rfl
      rw [this]; grind
    · right
      refine ⟨g, ?_⟩
      rw [decide_eq_false g, hw2]
      simp only [Bool.not_false, Bool.toNat_true, Rat.natCast_mul, Rat.natCast_add]
      have : ((2 : Nat) : Rat) = 2 := rfl
      have h1 : ((1 : Nat) : Rat) = 1 := rfl
      rw [this, h1]
      constructor <;> grind
/-- A float near a root lies within one rung of the document's root. -/
theorem root_near {a : Nm} {s : Nat} (hn : a.neg = false) (h : NearRt (val a) s) : v (idx s - 1) < val (nroot a) ∧ val (nroot a) < v (idx s + 1) ∧
    (val (nroot a) < v (idx s) ↔ val a < v (idx s) * v (idx s)) ∧ (v (idx s) < val (nroot a) ↔ v (idx s) * v (idx s) < val a) ∧ (val (nroot a) = 0 ∨ 0 < val (nroot a)) := by
  have hm : val a = mag a := by rw [val_mag, hn]; rfl
  by_cases ha : a.n = 0
  · have h0 : val a = 0 := val_zero ha
    have hq : isq 0 = 0 := by have := isq_spec 0; have := Nat.mul_eq_zero.1 (Nat.le_zero.1 this.1); omega
    have h1 : (nroot a).n = 0 := by unfold nroot nmark; rw [ha]; simp [hq]
    have hs := h.zero h0
    rw [val_zero h1, h0, hs, v_zero]
    have p1 := v_lt (i := 0 - 1) (j := 0) (by omega)
    have p2 := v_lt (i := 0) (j := 0 + 1) (by omega)
    rw [v_zero] at p1 p2
    refine ⟨p1, p2, ?_, ?_, .inl rfl⟩ <;> grind
  · have hA : 0 < mag a := val_pos ha
    obtain ⟨Q, n, e, c⟩ := root_cell ha
    have hi := h.pos (by rw [hm]; exact hA)
    have lo := h.lo (by rw [hm]; exact hA)
    have hh := h.hi
    rw [hm] at lo hh ⊢
    obtain ⟨r, hr⟩ := Int.eq_ofNat_of_zero_le (show 0 ≤ idx s - 1 by omega)
    have nn : ∀ i : Int, 0 ≤ i → 0 ≤ v i := fun i hi => by have := v_le hi; rwa [v_zero] at this
    have key : ∀ i : Int, 0 ≤ i → (v i ≤ val (nroot a) ↔ v i * v i ≤ mag a) ∧ (val (nroot a) ≤ v i ↔ mag a ≤ v i * v i) := fun i hi => by
      obtain ⟨r, rfl⟩ := Int.eq_ofNat_of_zero_le hi
      exact c.cmp (grid_v r e) (nn _ hi)
    have k1 := key (idx s - 1) (by omega)
    have k2 := key (idx s) (by omega)
    have k3 := key (idx s + 1) (by omega)
    refine ⟨Rat.not_le.1 (fun g => ?_), Rat.not_le.1 (fun g => ?_), ?_, ?_, .inr ?_⟩
    · have := k1.2.1 g; grind
    · have := k3.1.1 g; grind
    · rw [← Rat.not_le, ← Rat.not_le, k2.1]
    · rw [← Rat.not_le, ← Rat.not_le, k2.2]
    · have := nn (idx s - 1) (by omega)
      have := Rat.not_le.1 (fun g => by have := k1.2.1 g; grind : ¬ val (nroot a) ≤ v (idx s - 1))
      grind
theorem side_dn' {X : Rat} {x rest : Nat} (hl : x < 2 ^ 64) (hf : Fl.Fin x) (h : v (idx x - 1) < X ∧ X < v (idx x + 1)) (hs : idx rest < 0 ↔ X < v (idx x)) : Dn X (idx (side x rest (-1))) ∧ side x rest (-1) < 2 ^ 64 := by
  have := dn_of h
  unfold side
  by_cases hr : idx rest < 0
  · rw [if_pos (hs.1 hr)] at this
    rw [if_pos ⟨by omega, hr⟩, (nextDn_idx hl hf).1]
    exact ⟨this, (nextDn_idx hl hf).2⟩
  · rw [if_neg (fun e => hr (hs.2 e))] at this
    rw [if_neg (by omega), if_neg (by omega)]
    exact ⟨this, hl⟩
theorem side_up' {X : Rat} {x rest : Nat} (hl : x < 2 ^ 64) (hf : Fl.Fin x) (h : v (idx x - 1) < X ∧ X < v (idx x + 1)) (hs : 0 < idx rest ↔ v (idx x) < X) : Up X (idx (side x rest 1)) ∧ side x rest 1 < 2 ^ 64 := by
  have := up_of h
  unfold side
  by_cases hr : 0 < idx rest
  · rw [if_pos (hs.1 hr)] at this
    rw [if_neg (by omega), if_pos ⟨by omega, hr⟩, (nextUp_idx hl hf).1]
    exact ⟨this, (nextUp_idx hl hf).2⟩
  · rw [if_neg (fun e => hr (hs.2 e))] at this
    rw [if_neg (by omega), if_neg (by omega)]
    exact ⟨this, hl⟩
end Go.Enc.Nu
